/- A body (api.Body): its instructions as plain data, and how they lie in memory. / Rows that are told apart from rows that still grow: a world in which some blocks are veiled; what lies in the veiled world touches none of them. -/
import Derived.Test.YtilipeigjkmldaaCoreA
namespace Go.Proofs.Ytilipeigjkmldaa
open Go.RowKit

structure Pl where
  loc : Int
  path : List Int
structure Opd where
  kind : Int
  pl : Pl
  ty : Int
  n : Int
structure Ins where
  kind : Int
  loc : Int
  dest : Pl
  rkind : Int
  args : List Opd
  rpl : Pl
  mu : Bool
  rname : ByteArray
  rn : Int
  cond : Opd
  tgt : Int
  els : Int
  line : Int
  col : Int
structure Bod where
  name : ByteArray
  params : Int
  locals : Nat
  code : List Ins
structure Acc where
  pl : Pl
  kind : Int

def PlAt (w : World) (B : Nat) (p : Pl) (cs : List Value) : Prop := ∃ v, cs = [.int .i64 p.loc, v] ∧ Row w B v p.path.length (intsV p.path)
def OpAt (w : World) (B : Nat) (o : Opd) (cs : List Value) : Prop := ∃ v, cs = [.int .i64 o.kind, .int .i64 o.pl.loc, v, .int .i64 o.ty, .int .u64 o.n] ∧ Row w B v o.pl.path.length (intsV o.pl.path)
def InAt (w : World) (B : Nat) (x : Ins) (cs : List Value) : Prop := ∃ vd va vp vt vc xa,
  cs = [.int .i64 x.kind, .int .i64 x.loc, .int .i64 x.dest.loc, vd, .int .i64 x.rkind, va, .int .i64 x.rpl.loc, vp, .bool x.mu, .string x.rname, .int .i64 x.rn, vt,
    .int .i64 x.cond.kind, .int .i64 x.cond.pl.loc, vc, .int .i64 x.cond.ty, .int .u64 x.cond.n, .int .i64 x.tgt, .int .i64 x.els, .int .i64 x.line, .int .i64 x.col] ∧
  Row w B vd x.dest.path.length (intsV x.dest.path) ∧ Each (OpAt w B) x.args xa ∧ Row w B va x.args.length xa ∧ Row w B vp x.rpl.path.length (intsV x.rpl.path) ∧ (∃ a n c, vt = .slice a n c) ∧
  Row w B vc x.cond.pl.path.length (intsV x.cond.pl.path)
def AcAt (w : World) (B : Nat) (a : Acc) (cs : List Value) : Prop := ∃ v, cs = [.int .i64 a.pl.loc, v, .int .i64 a.kind] ∧ Row w B v a.pl.path.length (intsV a.pl.path)
/- A body's four cells. -/
def BodAt (w : World) (B : Nat) (b : Bod) (cs : List Value) : Prop := ∃ vl vc xl xs, cs = [.string b.name, .int .i64 b.params, vl, vc] ∧ Row w B vl b.locals xl ∧ Each (InAt w B) b.code xs ∧ Row w B vc b.code.length xs
/- A body that a pointer points to. -/
def BodP (w : World) (B g : Nat) (b : Bod) : Prop := g < B ∧ g < w.heap.size ∧ ∃ cs, BodAt w B b cs ∧ ∀ (i : Nat) x, cs[i]? = some x → w.cell? ⟨g, i, none⟩ = some x

section
variable {w w' : World} {B : Nat} {S : Nat → Prop}
theorem PlAt.step (hs : Step S w w') (hS : ∀ k, k < B → ¬ S k) (p : Pl) (cs : List Value) (h : PlAt w B p cs) : PlAt w' B p cs := by
  obtain ⟨v, h1, h2⟩ := h; exact ⟨v, h1, h2.step hs hS⟩
theorem OpAt.step (hs : Step S w w') (hS : ∀ k, k < B → ¬ S k) (p : Opd) (cs : List Value) (h : OpAt w B p cs) : OpAt w' B p cs := by
  obtain ⟨v, h1, h2⟩ := h; exact ⟨v, h1, h2.step hs hS⟩
theorem AcAt.step (hs : Step S w w') (hS : ∀ k, k < B → ¬ S k) (p : Acc) (cs : List Value) (h : AcAt w B p cs) : AcAt w' B p cs := by
  obtain ⟨v, h1, h2⟩ := h; exact ⟨v, h1, h2.step hs hS⟩
theorem InAt.step (hs : Step S w w') (hS : ∀ k, k < B → ¬ S k) (p : Ins) (cs : List Value) (h : InAt w B p cs) : InAt w' B p cs := by
  obtain ⟨vd, va, vp, vt, vc, xa, h1, h2, h3, h4, h5, h6, h7⟩ := h
  exact ⟨vd, va, vp, vt, vc, xa, h1, h2.step hs hS, Each.mono (OpAt.step hs hS) _ _ h3, h4.step hs hS, h5.step hs hS, h6, h7.step hs hS⟩
theorem BodAt.step (hs : Step S w w') (hS : ∀ k, k < B → ¬ S k) (p : Bod) (cs : List Value) (h : BodAt w B p cs) : BodAt w' B p cs := by
  obtain ⟨vl, vc, xl, xs, h1, h2, h3, h4⟩ := h
  exact ⟨vl, vc, xl, xs, h1, h2.step hs hS, Each.mono (InAt.step hs hS) _ _ h3, h4.step hs hS⟩
theorem BodP.step {g : Nat} {b : Bod} (hs : Step S w w') (hS : ∀ k, k < B → ¬ S k) (h : BodP w B g b) : BodP w' B g b := by
  obtain ⟨h1, h2, cs, h3, h4⟩ := h
  exact ⟨h1, Nat.lt_of_lt_of_le h2 hs.size, cs, BodAt.step hs hS _ _ h3, fun i x hx => hs.cell (h4 i x hx) (hS g h1)⟩
theorem PlAt.mono {B' : Nat} (hb : B ≤ B') (p : Pl) (cs : List Value) (h : PlAt w B p cs) : PlAt w B' p cs := by
  obtain ⟨v, h1, h2⟩ := h; exact ⟨v, h1, h2.mono hb⟩
theorem OpAt.mono {B' : Nat} (hb : B ≤ B') (p : Opd) (cs : List Value) (h : OpAt w B p cs) : OpAt w B' p cs := by
  obtain ⟨v, h1, h2⟩ := h; exact ⟨v, h1, h2.mono hb⟩
theorem AcAt.mono {B' : Nat} (hb : B ≤ B') (p : Acc) (cs : List Value) (h : AcAt w B p cs) : AcAt w B' p cs := by
  obtain ⟨v, h1, h2⟩ := h; exact ⟨v, h1, h2.mono hb⟩
theorem InAt.mono {B' : Nat} (hb : B ≤ B') (p : Ins) (cs : List Value) (h : InAt w B p cs) : InAt w B' p cs := by
  obtain ⟨vd, va, vp, vt, vc, xa, h1, h2, h3, h4, h5, h6, h7⟩ := h
  exact ⟨vd, va, vp, vt, vc, xa, h1, h2.mono hb, Each.mono (OpAt.mono hb) _ _ h3, h4.mono hb, h5.mono hb, h6, h7.mono hb⟩
theorem BodAt.mono {B' : Nat} (hb : B ≤ B') (p : Bod) (cs : List Value) (h : BodAt w B p cs) : BodAt w B' p cs := by
  obtain ⟨vl, vc, xl, xs, h1, h2, h3, h4⟩ := h
  exact ⟨vl, vc, xl, xs, h1, h2.mono hb, Each.mono (InAt.mono hb) _ _ h3, h4.mono hb⟩
theorem OpAt.len (o : Opd) (cs : List Value) (h : OpAt w B o cs) : cs.length = 5 := by obtain ⟨v, rfl, _⟩ := h; rfl
theorem AcAt.len (o : Acc) (cs : List Value) (h : AcAt w B o cs) : cs.length = 3 := by obtain ⟨v, rfl, _⟩ := h; rfl
theorem InAt.len (x : Ins) (cs : List Value) (h : InAt w B x cs) : cs.length = 21 := by obtain ⟨_, _, _, _, _, _, rfl, _⟩ := h; rfl
theorem AcAt.one (o : Acc) (cs : List Value) (h : AcAt w B o cs) : ∀ u ∈ cs, u.oneCell' = true := by
  obtain ⟨v, rfl, h⟩ := h
  have := h.one
  intro u hu
  simp at hu
  rcases hu with rfl | rfl | rfl
  · rfl
  · exact this
  · rfl
theorem InAt.one (x : Ins) (cs : List Value) (h : InAt w B x cs) : ∀ u ∈ cs, u.oneCell' = true := by
  obtain ⟨vd, va, vp, vt, vc, xa, rfl, h1, _, h2, h3, ⟨a, n, c, rfl⟩, h4⟩ := h
  have e1 := h1.one
  have e2 := h2.one
  have e3 := h3.one
  have e4 := h4.one
  intro u hu
  simp at hu
  rcases hu with rfl | rfl | rfl | rfl | rfl | rfl | rfl | rfl | rfl | rfl | rfl | rfl | rfl | rfl | rfl | rfl | rfl | rfl | rfl | rfl | rfl <;> first | rfl | assumption
end

/- What an instruction does to places, in order; where it goes on. -/
def opAcc (o : Opd) : List Acc := if o.kind = 2 then [⟨o.pl, 1⟩] else if o.kind = 3 then [⟨o.pl, 2⟩] else []
def accI (locals : Nat) (x : Ins) : List Acc :=
  if x.kind = 1 then [⟨⟨x.loc, []⟩, 5⟩]
  else if x.kind = 2 then [⟨⟨x.loc, []⟩, 6⟩]
  else if x.kind = 3 then x.args.flatMap opAcc ++ ((if x.rkind = 2 then [⟨x.rpl, if x.mu then 3 else 1⟩] else []) ++ [⟨x.dest, 4⟩])
  else if x.kind = 5 then opAcc x.cond
  else if x.kind = 6 then ⟨⟨0, []⟩, 2⟩ :: (List.range (locals - 1)).map (fun (k : Nat) => ⟨⟨(k : Int) + 1, []⟩, 6⟩)
  else []
def succI (x : Ins) (i : Nat) : List Int :=
  if x.kind = 4 then [x.tgt] else if x.kind = 5 then (if x.tgt = x.els then [x.tgt] else [x.tgt, x.els]) else if x.kind = 6 ∨ x.kind = 7 then [] else [(i : Int) + 1]
def accB (b : Bod) (i : Nat) : List Acc := match b.code[i]? with | some x => accI b.locals x | none => []
def succB (b : Bod) (i : Nat) : List Int := match b.code[i]? with | some x => succI x i | none => []
/- May it be? -/
def plOk (n : Nat) (p : Pl) : Bool := (decide (0 ≤ p.loc) && decide (p.loc < n)) && p.path.all (fun x => decide (-1 ≤ x))
def opOk (n : Nat) (o : Opd) : Bool := if o.kind = 1 then decide (1 ≤ o.ty) && decide (o.ty ≤ 4) else if o.kind = 2 ∨ o.kind = 3 then plOk n o.pl else false
def cntF (k : Int) : Int := if k = 2 ∨ k = 10 then 0 else if k = 1 ∨ k = 4 ∨ k = 5 ∨ k = 6 ∨ k = 11 then 1 else if k = 3 then 2 else if k = 7 ∨ k = 8 ∨ k = 9 then -1 else -2
def rightOk (n : Nat) (x : Ins) : Bool :=
  ((!decide (cntF x.rkind = -2) && (decide (cntF x.rkind < 0) || decide ((x.args.length : Int) = cntF x.rkind))) && ((!decide (x.rkind = 2) || plOk n x.rpl) && (!decide (x.rkind = 9) || (decide (0 < x.args.length) && decide (0 ≤ x.rn))))) && x.args.all (opOk n)
def insOk (n : Nat) (x : Ins) : Bool :=
  if x.kind = 1 ∨ x.kind = 2 then decide (0 ≤ x.loc) && decide (x.loc < n) else if x.kind = 3 then plOk n x.dest && rightOk n x else if x.kind = 5 then opOk n x.cond else decide (1 ≤ x.kind) && decide (x.kind ≤ 7)
def atOk (b : Bod) (i : Nat) : Bool := match b.code[i]? with | some x => insOk b.locals x && (succI x i).all (fun t => decide (0 ≤ t) && decide (t < b.code.length)) | none => true
def headOk (b : Bod) : Bool := decide (0 ≤ b.params) && (decide (b.params < b.locals) && decide (0 < b.code.length))
def bodOk (b : Bod) : Prop := headOk b = true ∧ ∀ i, i < b.code.length → atOk b i = true

end Go.Proofs.Ytilipeigjkmldaa

namespace Go.Proofs.Ytilipeigjkmldaa
open Go.RowKit

def veil (G : Nat → Bool) (w : World) : World := { w with heap := w.heap.mapIdx fun i o => if G i then .cells #[] 0 (0, 0) else o }

section
variable {G G' : Nat → Bool} {w w' : World} {B : Nat}
theorem veil_size : (veil G w).heap.size = w.heap.size := by simp [veil]
theorem veil_out {k : Nat} (h : G k = false) : (veil G w).heap[k]? = w.heap[k]? := by
  simp only [veil, Array.getElem?_mapIdx, h]
  cases w.heap[k]? <;> simp
theorem veil_in {k : Nat} (h : G k = true) (hk : k < w.heap.size) : (veil G w).heap[k]? = some (.cells #[] 0 (0, 0)) := by
  simp only [veil, Array.getElem?_mapIdx, h, Array.getElem?_eq_getElem hk]
  rfl
theorem veil_cell {a : Addr} {v : Value} (h : (veil G w).cell? a = some v) : w.cell? a = some v := by
  by_cases hg : G a.block = true
  · by_cases hk : a.block < w.heap.size
    · simp [World.cell?, veil_in hg hk] at h
    · simp [World.cell?, Array.getElem?_eq_none (show (veil G w).heap.size ≤ a.block by rw [veil_size]; omega)] at h
  · rw [← h]
    exact (World.cell?_of_block (veil_out (by simpa using hg))).symm
theorem cell_veil {a : Addr} {v : Value} (h : w.cell? a = some v) (hg : G a.block = false) : (veil G w).cell? a = some v := by
  rw [← h]; exact World.cell?_of_block (veil_out hg)
/- A step that turns only what is veiled, seen through the veil, turns nothing; what is made meanwhile may be veiled too. -/
theorem veil_step {S : Nat → Prop} (hs : Step S w w') (hS : ∀ k, k < w.heap.size → S k → G k = true) (hG : ∀ k, k < w.heap.size → G' k = G k) : Step (fun _ => False) (veil G w) (veil G' w') := by
  refine ⟨hs.os, hs.tape, hs.output, by rw [veil_size, veil_size]; exact hs.size, fun k hk _ => ?_⟩
  rw [veil_size] at hk
  by_cases hg : G k = true
  · rw [veil_in hg hk, veil_in (by rw [hG k hk]; exact hg) (Nat.lt_of_lt_of_le hk hs.size)]
  · have hg' : G k = false := by simpa using hg
    rw [veil_out hg', veil_out (by rw [hG k hk]; exact hg'), hs.block k hk (fun h => hg (hS k hk h))]
theorem Row.veil {v : Value} {n : Nat} {xs : List Value} (h : Row w B v n xs) (hG : ∀ k, v.ownBlock = some k → G k = false) : Row (veil G w) B v n xs := by
  obtain ⟨a, c, rfl, h1, h2, h3, h4⟩ := h
  refine ⟨a, c, rfl, h1, h2, h3, fun hn => ?_⟩
  obtain ⟨g, o, rfl, h5, h6, h7⟩ := h4 hn
  exact ⟨g, o, rfl, h5, by rw [veil_size]; exact h6, fun i x hx => cell_veil (h7 i x hx) (hG g rfl)⟩
theorem Row.unveil {v : Value} {n : Nat} {xs : List Value} (h : Row (Proofs.Ytilipeigjkmldaa.veil G w) B v n xs) : Row w B v n xs := by
  obtain ⟨a, c, rfl, h1, h2, h3, h4⟩ := h
  refine ⟨a, c, rfl, h1, h2, h3, fun hn => ?_⟩
  obtain ⟨g, o, rfl, h5, h6, h7⟩ := h4 hn
  exact ⟨g, o, rfl, h5, by rw [veil_size] at h6; exact h6, fun i x hx => veil_cell (h7 i x hx)⟩
theorem Row.owns_veil {base : Nat} {e : TypeId} {size : Nat} {v : Value} {n : Nat} {xs : List Value} (h : w.ownsRow base e size v n xs) (hB : w.heap.size ≤ B) (hG : ∀ k, base ≤ k → G k = false) : Row (Proofs.Ytilipeigjkmldaa.veil G w) B v n xs :=
  (Row.of_owns h hB).veil (fun k hk => hG k (owned_row h k hk))
theorem Row.new_veil {b t n : Nat} {cs : List Value} (h : w.heap[b]? = some (.cells cs.toArray t (0, 0))) (hn : n ≤ 9223372036854775807) (hG : G b = false) : Row (Proofs.Ytilipeigjkmldaa.veil G w) (b + 1) (.slice (some ⟨b, 0, none⟩) n n) n cs :=
  (Row.new h hn).veil (fun k hk => by cases hk; exact hG)
theorem PlAt.unveil (p : Pl) (cs : List Value) (h : PlAt (Proofs.Ytilipeigjkmldaa.veil G w) B p cs) : PlAt w B p cs := by
  obtain ⟨v, h1, h2⟩ := h; exact ⟨v, h1, h2.unveil⟩
theorem OpAt.unveil (p : Opd) (cs : List Value) (h : OpAt (Proofs.Ytilipeigjkmldaa.veil G w) B p cs) : OpAt w B p cs := by
  obtain ⟨v, h1, h2⟩ := h; exact ⟨v, h1, h2.unveil⟩
theorem AcAt.unveil (p : Acc) (cs : List Value) (h : AcAt (Proofs.Ytilipeigjkmldaa.veil G w) B p cs) : AcAt w B p cs := by
  obtain ⟨v, h1, h2⟩ := h; exact ⟨v, h1, h2.unveil⟩
theorem InAt.unveil (p : Ins) (cs : List Value) (h : InAt (Proofs.Ytilipeigjkmldaa.veil G w) B p cs) : InAt w B p cs := by
  obtain ⟨vd, va, vp, vt, vc, xa, h1, h2, h3, h4, h5, h6, h7⟩ := h
  exact ⟨vd, va, vp, vt, vc, xa, h1, h2.unveil, Each.mono OpAt.unveil _ _ h3, h4.unveil, h5.unveil, h6, h7.unveil⟩
theorem IntsAt.unveil (l : List Int) (cs : List Value) (h : IntsAt (Proofs.Ytilipeigjkmldaa.veil G w) B l cs) : IntsAt w B l cs := by
  obtain ⟨v, h1, h2⟩ := h; exact ⟨v, h1, h2.unveil⟩
end

/- A row of the call's own that grows; its elements lie in blocks that no growing row has. -/
structure Grows {α : Type} (R : World → Nat → α → List Value → Prop) (ty : TypeId) (size base : Nat) (G : Nat → Bool) (w : World) (l : List α) (v : Value) (xs : List Value) : Prop where
  own : w.ownsRow base ty size v l.length xs
  el : Each (R (veil G w) w.heap.size) l xs
  inG : ∀ q, v.ownBlock = some q → G q = true
def upG (G : Nat → Bool) (w : World) : Prop := ∀ q, w.heap.size ≤ q → G q = false
def addG (G : Nat → Bool) (v : Value) : Nat → Bool := fun q => G q || (v.ownBlock == some q)
/- A relation that stays through steps that turn nothing, and under a greater bound. -/
structure Stays {α : Type} (R : World → Nat → α → List Value → Prop) : Prop where
  step : ∀ (w w' : World) (B : Nat) (t : α) (cs : List Value), Step (fun _ => False) w w' → R w B t cs → R w' B t cs
  mono : ∀ (w : World) (B B' : Nat) (t : α) (cs : List Value), B ≤ B' → R w B t cs → R w B' t cs

section
variable {α : Type} {R : World → Nat → α → List Value → Prop} {ty : TypeId} {size base : Nat} {G G' : Nat → Bool} {w w' : World} {l : List α} {v v' : Value} {xs : List Value}
theorem upG.low : upG (fun q => decide (q < w.heap.size)) w := fun q hq => decide_eq_false (by omega)
theorem upG.mono (h : upG G w) (hs : w.heap.size ≤ w'.heap.size) : upG G w' := fun q hq => h q (by omega)
theorem upG.add (h : upG G w) (hs : w.heap.size ≤ w'.heap.size) {n : Nat} {xs' : List Value} (hown : w'.ownsRow base ty size v' n xs') : upG (addG G v') w' := by
  intro q hq
  have h1 := h q (by omega)
  have h2 : (v'.ownBlock == some q) = false := by
    apply beq_eq_false_iff_ne.2
    intro e
    have := (hown.lt q e).2
    omega
  simp [addG, h1, h2]
theorem Grows.nil (R : World → Nat → α → List Value → Prop) (ty : TypeId) (size base : Nat) (G : Nat → Bool) (w : World) : Grows R ty size base G w [] (.slice none 0 0) [] :=
  ⟨World.ownsRow_nil _ _ _ _, Each.nil, fun _ hq => nomatch hq⟩
theorem Each.stay (hR : Stays R) (h : Each (R (veil G w) w.heap.size) l xs) {S : Nat → Prop} (hs : Step S w w') (hS : ∀ k, k < w.heap.size → S k → G k = true) (hG : ∀ k, k < w.heap.size → G' k = G k) : Each (R (veil G' w') w'.heap.size) l xs :=
  Each.mono (fun _ _ ht => hR.mono _ _ _ _ _ hs.size (hR.step _ _ _ _ _ (veil_step hs hS hG) ht)) _ _ h
theorem Grows.keep (h : Grows R ty size base G w l v xs) (hR : Stays R) {S : Nat → Prop} (hs : Step S w w') (hS : ∀ k, k < w.heap.size → S k → G k = true) (hG : ∀ k, k < w.heap.size → G' k = G k) (hn : ∀ k, v.ownBlock = some k → ¬ S k) : Grows R ty size base G' w' l v xs := by
  refine ⟨?_, Each.stay hR h.el hs hS hG, fun q hq => by rw [hG q (h.own.lt q hq).2]; exact h.inG q hq⟩
  refine ⟨h.own.1, ?_⟩
  rcases h.own.2 with hz | ⟨g, cap, cur, rfl, hb, hgg, rest⟩
  · exact .inl hz
  · exact .inr ⟨g, cap, cur, rfl, hb, hs.keep hgg (hn g rfl), rest⟩
theorem addG_same (h : Grows R ty size base G w l v xs) (hat : v'.ownBlock = v.ownBlock ∨ v'.ownBlock = some w.heap.size) : ∀ k, k < w.heap.size → addG G v' k = G k := by
  intro k hk
  unfold addG
  by_cases e : v'.ownBlock = some k
  · rcases hat with h1 | h1
    · have := h.inG k (by rw [← h1]; exact e)
      simp [this]
    · rw [h1] at e; cases e; omega
  · have : (v'.ownBlock == some k) = false := beq_eq_false_iff_ne.2 e
    simp [this]
theorem Grows.snoc (h : Grows R ty size base G w l v xs) (hR : Stays R) {t : α} {c : List Value} (ht : R (veil G w) w.heap.size t c) (hown : w'.ownsRow base ty size v' (l.length + 1) (xs ++ c)) (hgrow : w.grownBy w' v.ownBlock)
    (hat : v'.ownBlock = v.ownBlock ∨ v'.ownBlock = some w.heap.size) : Grows R ty size base (addG G v') w' (l ++ [t]) v' (xs ++ c) := by
  refine ⟨by simpa using hown, ?_, fun q hq => by simp [addG, hq]⟩
  have hs : Step (fun k => v.ownBlock = some k) w w' := grown_step hgrow
  exact Each.stay hR (h.el.snoc ht) hs (fun k _ e => h.inG k e) (addG_same h hat)
/- Another row that grows meanwhile. -/
theorem Grows.other {β : Type} {R2 : World → Nat → β → List Value → Prop} {ty2 : TypeId} {size2 : Nat} {l2 : List β} {v2 : Value} {xs2 : List Value} (h : Grows R ty size base G w l v xs) (h2 : Grows R2 ty2 size2 base G w l2 v2 xs2) (hR2 : Stays R2)
    (hgrow : w.grownBy w' v.ownBlock) (hat : v'.ownBlock = v.ownBlock ∨ v'.ownBlock = some w.heap.size) (hne : ∀ q, v.ownBlock = some q → v2.ownBlock ≠ some q) : Grows R2 ty2 size2 base (addG G v') w' l2 v2 xs2 :=
  h2.keep hR2 (grown_step hgrow) (fun k _ e => h.inG k e) (addG_same h hat) (fun k hk e => hne k e hk)
end

theorem InAt.stays : Stays InAt := ⟨fun _ _ _ t cs hs h => InAt.step hs (fun _ _ h => h) t cs h, fun _ _ _ t cs hb h => InAt.mono hb t cs h⟩
theorem IntsAt.stays : Stays IntsAt := ⟨fun _ _ _ t cs hs h => IntsAt.step hs (fun _ _ h => h) t cs h, fun _ _ _ t cs hb h => IntsAt.mono hb t cs h⟩
theorem PlAt.stays : Stays PlAt := ⟨fun _ _ _ t cs hs h => PlAt.step hs (fun _ _ h => h) t cs h, fun _ _ _ t cs hb h => PlAt.mono hb t cs h⟩

end Go.Proofs.Ytilipeigjkmldaa
