/- A body (api.Body): its instructions as plain data, and how they lie in memory. -/
import Derived.Test.YtilipeigjkmldaaEach
namespace Go.Proofs.Ytilipeigjkmldaa
open Go.RowKit

structure Pl where
  loc : Int
  path : List Int
structure Opd where
  kind : Int
  pl : Pl
  ty : Int
  n : Int
structure Ins where
  kind : Int
  loc : Int
  dest : Pl
  rkind : Int
  args : List Opd
  rpl : Pl
  mu : Bool
  rname : ByteArray
  rn : Int
  cond : Opd
  tgt : Int
  els : Int
  line : Int
  col : Int
structure Bod where
  name : ByteArray
  params : Int
  locals : Nat
  code : List Ins
structure Acc where
  pl : Pl
  kind : Int

def PlAt (w : World) (B : Nat) (p : Pl) (cs : List Value) : Prop := ∃ v, cs = [.int .i64 p.loc, v] ∧ Row w B v p.path.length (intsV p.path)
def OpAt (w : World) (B : Nat) (o : Opd) (cs : List Value) : Prop := ∃ v, cs = [.int .i64 o.kind, .int .i64 o.pl.loc, v, .int .i64 o.ty, .int .u64 o.n] ∧ Row w B v o.pl.path.length (intsV o.pl.path)
def InAt (w : World) (B : Nat) (x : Ins) (cs : List Value) : Prop := ∃ vd va vp vt vc xa,
  cs = [.int .i64 x.kind, .int .i64 x.loc, .int .i64 x.dest.loc, vd, .int .i64 x.rkind, va, .int .i64 x.rpl.loc, vp, .bool x.mu, .string x.rname, .int .i64 x.rn, vt,
    .int .i64 x.cond.kind, .int .i64 x.cond.pl.loc, vc, .int .i64 x.cond.ty, .int .u64 x.cond.n, .int .i64 x.tgt, .int .i64 x.els, .int .i64 x.line, .int .i64 x.col] ∧
  Row w B vd x.dest.path.length (intsV x.dest.path) ∧ Each (OpAt w B) x.args xa ∧ Row w B va x.args.length xa ∧ Row w B vp x.rpl.path.length (intsV x.rpl.path) ∧ (∃ a n c, vt = .slice a n c) ∧
  Row w B vc x.cond.pl.path.length (intsV x.cond.pl.path)
def AcAt (w : World) (B : Nat) (a : Acc) (cs : List Value) : Prop := ∃ v, cs = [.int .i64 a.pl.loc, v, .int .i64 a.kind] ∧ Row w B v a.pl.path.length (intsV a.pl.path)
/- A body's four cells. -/
def BodAt (w : World) (B : Nat) (b : Bod) (cs : List Value) : Prop := ∃ vl vc xl xs, cs = [.string b.name, .int .i64 b.params, vl, vc] ∧ Row w B vl b.locals xl ∧ Each (InAt w B) b.code xs ∧ Row w B vc b.code.length xs
/- A body that a pointer points to. -/
def BodP (w : World) (B g : Nat) (b : Bod) : Prop := g < B ∧ g < w.heap.size ∧ ∃ cs, BodAt w B b cs ∧ ∀ (i : Nat) x, cs[i]? = some x → w.cell? ⟨g, i, none⟩ = some x

section
variable {w w' : World} {B : Nat} {S : Nat → Prop}
theorem PlAt.step (hs : Step S w w') (hS : ∀ k, k < B → ¬ S k) (p : Pl) (cs : List Value) (h : PlAt w B p cs) : PlAt w' B p cs := by
  obtain ⟨v, h1, h2⟩ := h; exact ⟨v, h1, h2.step hs hS⟩
theorem OpAt.step (hs : Step S w w') (hS : ∀ k, k < B → ¬ S k) (p : Opd) (cs : List Value) (h : OpAt w B p cs) : OpAt w' B p cs := by
  obtain ⟨v, h1, h2⟩ := h; exact ⟨v, h1, h2.step hs hS⟩
theorem AcAt.step (hs : Step S w w') (hS : ∀ k, k < B → ¬ S k) (p : Acc) (cs : List Value) (h : AcAt w B p cs) : AcAt w' B p cs := by
  obtain ⟨v, h1, h2⟩ := h; exact ⟨v, h1, h2.step hs hS⟩
theorem InAt.step (hs : Step S w w') (hS : ∀ k, k < B → ¬ S k) (p : Ins) (cs : List Value) (h : InAt w B p cs) : InAt w' B p cs := by
  obtain ⟨vd, va, vp, vt, vc, xa, h1, h2, h3, h4, h5, h6, h7⟩ := h
  exact ⟨vd, va, vp, vt, vc, xa, h1, h2.step hs hS, Each.mono (OpAt.step hs hS) _ _ h3, h4.step hs hS, h5.step hs hS, h6, h7.step hs hS⟩
theorem BodAt.step (hs : Step S w w') (hS : ∀ k, k < B → ¬ S k) (p : Bod) (cs : List Value) (h : BodAt w B p cs) : BodAt w' B p cs := by
  obtain ⟨vl, vc, xl, xs, h1, h2, h3, h4⟩ := h
  exact ⟨vl, vc, xl, xs, h1, h2.step hs hS, Each.mono (InAt.step hs hS) _ _ h3, h4.step hs hS⟩
theorem BodP.step {g : Nat} {b : Bod} (hs : Step S w w') (hS : ∀ k, k < B → ¬ S k) (h : BodP w B g b) : BodP w' B g b := by
  obtain ⟨h1, h2, cs, h3, h4⟩ := h
  exact ⟨h1, Nat.lt_of_lt_of_le h2 hs.size, cs, BodAt.step hs hS _ _ h3, fun i x hx => hs.cell (h4 i x hx) (hS g h1)⟩
theorem PlAt.mono {B' : Nat} (hb : B ≤ B') (p : Pl) (cs : List Value) (h : PlAt w B p cs) : PlAt w B' p cs := by
  obtain ⟨v, h1, h2⟩ := h; exact ⟨v, h1, h2.mono hb⟩
theorem OpAt.mono {B' : Nat} (hb : B ≤ B') (p : Opd) (cs : List Value) (h : OpAt w B p cs) : OpAt w B' p cs := by
  obtain ⟨v, h1, h2⟩ := h; exact ⟨v, h1, h2.mono hb⟩
theorem AcAt.mono {B' : Nat} (hb : B ≤ B') (p : Acc) (cs : List Value) (h : AcAt w B p cs) : AcAt w B' p cs := by
  obtain ⟨v, h1, h2⟩ := h; exact ⟨v, h1, h2.mono hb⟩
theorem InAt.mono {B' : Nat} (hb : B ≤ B') (p : Ins) (cs : List Value) (h : InAt w B p cs) : InAt w B' p cs := by
  obtain ⟨vd, va, vp, vt, vc, xa, h1, h2, h3, h4, h5, h6, h7⟩ := h
  exact ⟨vd, va, vp, vt, vc, xa, h1, h2.mono hb, Each.mono (OpAt.mono hb) _ _ h3, h4.mono hb, h5.mono hb, h6, h7.mono hb⟩
theorem BodAt.mono {B' : Nat} (hb : B ≤ B') (p : Bod) (cs : List Value) (h : BodAt w B p cs) : BodAt w B' p cs := by
  obtain ⟨vl, vc, xl, xs, h1, h2, h3, h4⟩ := h
  exact ⟨vl, vc, xl, xs, h1, h2.mono hb, Each.mono (InAt.mono hb) _ _ h3, h4.mono hb⟩
theorem OpAt.len (o : Opd) (cs : List Value) (h : OpAt w B o cs) : cs.length = 5 := by obtain ⟨v, rfl, _⟩ := h; rfl
theorem AcAt.len (o : Acc) (cs : List Value) (h : AcAt w B o cs) : cs.length = 3 := by obtain ⟨v, rfl, _⟩ := h; rfl
theorem InAt.len (x : Ins) (cs : List Value) (h : InAt w B x cs) : cs.length = 21 := by obtain ⟨_, _, _, _, _, _, rfl, _⟩ := h; rfl
theorem AcAt.one (o : Acc) (cs : List Value) (h : AcAt w B o cs) : ∀ u ∈ cs, u.oneCell' = true := by
  obtain ⟨v, rfl, h⟩ := h
  have := h.one
  intro u hu
  simp at hu
  rcases hu with rfl | rfl | rfl
  · rfl
  · exact this
  · rfl
theorem InAt.one (x : Ins) (cs : List Value) (h : InAt w B x cs) : ∀ u ∈ cs, u.oneCell' = true := by
  obtain ⟨vd, va, vp, vt, vc, xa, rfl, h1, _, h2, h3, ⟨a, n, c, rfl⟩, h4⟩ := h
  have e1 := h1.one
  have e2 := h2.one
  have e3 := h3.one
  have e4 := h4.one
  intro u hu
  simp at hu
  rcases hu with rfl | rfl | rfl | rfl | rfl | rfl | rfl | rfl | rfl | rfl | rfl | rfl | rfl | rfl | rfl | rfl | rfl | rfl | rfl | rfl | rfl <;> first | rfl | assumption
end

/- What an instruction does to places, in order; where it goes on. -/
def opAcc (o : Opd) : List Acc := if o.kind = 2 then [⟨o.pl, 1⟩] else if o.kind = 3 then [⟨o.pl, 2⟩] else []
def accI (locals : Nat) (x : Ins) : List Acc :=
  if x.kind = 1 then [⟨⟨x.loc, []⟩, 5⟩]
  else if x.kind = 2 then [⟨⟨x.loc, []⟩, 6⟩]
  else if x.kind = 3 then x.args.flatMap opAcc ++ ((if x.rkind = 2 then [⟨x.rpl, if x.mu then 3 else 1⟩] else []) ++ [⟨x.dest, 4⟩])
  else if x.kind = 5 then opAcc x.cond
  else if x.kind = 6 then ⟨⟨0, []⟩, 2⟩ :: (List.range (locals - 1)).map (fun (k : Nat) => ⟨⟨(k : Int) + 1, []⟩, 6⟩)
  else []
def succI (x : Ins) (i : Nat) : List Int :=
  if x.kind = 4 then [x.tgt] else if x.kind = 5 then (if x.tgt = x.els then [x.tgt] else [x.tgt, x.els]) else if x.kind = 6 ∨ x.kind = 7 then [] else [(i : Int) + 1]
def accB (b : Bod) (i : Nat) : List Acc := match b.code[i]? with | some x => accI b.locals x | none => []
def succB (b : Bod) (i : Nat) : List Int := match b.code[i]? with | some x => succI x i | none => []
/- May it be? -/
def plOk (n : Nat) (p : Pl) : Bool := (decide (0 ≤ p.loc) && decide (p.loc < n)) && p.path.all (fun x => decide (-1 ≤ x))
def opOk (n : Nat) (o : Opd) : Bool := if o.kind = 1 then decide (1 ≤ o.ty) && decide (o.ty ≤ 4) else if o.kind = 2 ∨ o.kind = 3 then plOk n o.pl else false
def cntF (k : Int) : Int := if k = 2 ∨ k = 10 then 0 else if k = 1 ∨ k = 4 ∨ k = 5 ∨ k = 6 ∨ k = 11 then 1 else if k = 3 then 2 else if k = 7 ∨ k = 8 ∨ k = 9 then -1 else -2
def rightOk (n : Nat) (x : Ins) : Bool :=
  ((!decide (cntF x.rkind = -2) && (decide (cntF x.rkind < 0) || decide ((x.args.length : Int) = cntF x.rkind))) && ((!decide (x.rkind = 2) || plOk n x.rpl) && (!decide (x.rkind = 9) || (decide (0 < x.args.length) && decide (0 ≤ x.rn))))) && x.args.all (opOk n)
def insOk (n : Nat) (x : Ins) : Bool :=
  if x.kind = 1 ∨ x.kind = 2 then decide (0 ≤ x.loc) && decide (x.loc < n) else if x.kind = 3 then plOk n x.dest && rightOk n x else if x.kind = 5 then opOk n x.cond else decide (1 ≤ x.kind) && decide (x.kind ≤ 7)
def atOk (b : Bod) (i : Nat) : Bool := match b.code[i]? with | some x => insOk b.locals x && (succI x i).all (fun t => decide (0 ≤ t) && decide (t < b.code.length)) | none => true
def headOk (b : Bod) : Bool := decide (0 ≤ b.params) && (decide (b.params < b.locals) && decide (0 < b.code.length))
def bodOk (b : Bod) : Prop := headOk b = true ∧ ∀ i, i < b.code.length → atOk b i = true

end Go.Proofs.Ytilipeigjkmldaa
