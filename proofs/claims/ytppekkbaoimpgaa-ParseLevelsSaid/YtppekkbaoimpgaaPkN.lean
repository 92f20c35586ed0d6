/- Lv, Wk, See, Tw, Ev, Law, Le -/
import Derived.Test.YtppekkbaoimpgaaPkM
import Derived.ProofKit
set_option maxRecDepth 100000
set_option maxHeartbeats 8000000
namespace Go.Proofs.Ytppekkbaoimpgaa
open Go.RowKit
mutual
def AllE (Nd : Ex → Prop) : Ex → Prop
 | .mk k nm v m args ns body l c => Nd (.mk k nm v m args ns body l c) ∧ AllEs Nd args ∧ AllSs Nd body
def AllEs (Nd : Ex → Prop) : List Ex → Prop
 | [] => True
 | x :: r => AllE Nd x ∧ AllEs Nd r
def AllS (Nd : Ex → Prop) : St → Prop
 | .mk _ _ _ pl e bs ls _ _ _ => AllEs Nd pl ∧ AllEs Nd e ∧ AllSs Nd bs ∧ AllSs Nd ls
def AllSs (Nd : Ex → Prop) : List St → Prop
 | [] => True
 | s :: r => AllS Nd s ∧ AllSs Nd r
end
theorem AllEs.get {Nd : Ex → Prop} : ∀ {l : List Ex} {x : Ex}, AllEs Nd l → x ∈ l → AllE Nd x
 | y :: r, x, h, hx => by
  rw [AllEs] at h
  rcases List.mem_cons.1 hx with rfl | hx
  ·exact h.1
  ·exact AllEs.get h.2 hx
theorem AllSs.get {Nd : Ex → Prop} : ∀ {l : List St} {x : St}, AllSs Nd l → x ∈ l → AllS Nd x
 | y :: r, x, h, hx => by
  rw [AllSs] at h
  rcases List.mem_cons.1 hx with rfl | hx
  ·exact h.1
  ·exact AllSs.get h.2 hx
theorem AllEs.snoc {Nd : Ex → Prop} : ∀ {l : List Ex} {x : Ex}, AllEs Nd l → AllE Nd x → AllEs Nd (l ++ [x])
 | [], x, _, hx => by rw [List.nil_append, AllEs]; exact ⟨hx, by rw [AllEs]; trivial⟩
 | y :: r, x, h, hx => by
  rw [AllEs] at h
  rw [List.cons_append, AllEs]
  exact ⟨h.1, AllEs.snoc h.2 hx⟩
theorem AllSs.snoc {Nd : Ex → Prop} : ∀ {l : List St} {x : St}, AllSs Nd l → AllS Nd x → AllSs Nd (l ++ [x])
 | [], x, _, hx => by rw [List.nil_append, AllSs]; exact ⟨hx, by rw [AllSs]; trivial⟩
 | y :: r, x, h, hx => by
  rw [AllSs] at h
  rw [List.cons_append, AllSs]
  exact ⟨h.1, AllSs.snoc h.2 hx⟩
theorem AllEs.nil (Nd : Ex → Prop) : AllEs Nd [] := by rw [AllEs]; trivial
theorem AllSs.nil (Nd : Ex → Prop) : AllSs Nd [] := by rw [AllSs]; trivial
theorem AllEs.one {Nd : Ex → Prop} {x : Ex} (h : AllE Nd x) : AllEs Nd [x] := AllEs.snoc (AllEs.nil Nd) h
def Ex.kind : Ex → Int
 | .mk k _ _ _ _ _ _ _ _ => k
def Ex.name : Ex → ByteArray
 | .mk _ nm _ _ _ _ _ _ _ => nm
def Ex.args : Ex → List Ex
 | .mk _ _ _ _ a _ _ _ _ => a
def levOf (nm : ByteArray) : Nat :=
 if nm = ⟨#[124]⟩ then 0 else if nm = ⟨#[38, 38]⟩ then 1 else if nm = ⟨#[61, 61]⟩ then 2 else if nm = ⟨#[60]⟩ then 2 else if nm = ⟨#[43]⟩ then 3 else if nm = ⟨#[45]⟩ then 3 else 4
def level (x : Ex) : Nat := if x.kind = 14 then levOf x.name else 5
def Plain5 (x : Ex) : Prop := x.kind ≠ 14 ∧ x.kind ≠ 7 ∧ x.kind ≠ 8 ∧ x.kind ≠ 15 ∧ x.kind ≠ 0
/- What the law asks of an expression. -/
def NdL (x : Ex) : Prop :=
 (x.kind = 14 → ∃ a b, x.args = [a, b] ∧ level x < level b ∧ level x ≤ level a ∧ (level x ≠ 2 ∨ 2 < level a)) ∧
 ((x.kind = 7 ∨ x.kind = 8 ∨ x.kind = 15) → ∃ a, x.args = [a] ∧ level a = 5) ∧
 ((x.kind = 6 ∨ x.kind = 13) → ∃ a r, x.args = a :: r ∧ Plain5 a)
def Hold {α : Type} (Q : α → Prop) (r : Res α) : Prop := ∀ a j, r = .ok a j → Q a
theorem Hold.bind {α β : Type} {Q : α → Prop} {Q2 : β → Prop} {r : Res α} {f : α → Nat → Res β} (h : Hold Q r) (hf : ∀ a j, Q a → Hold Q2 (f a j)) : Hold Q2 (r.bind f) := by
 intro b k e
 cases r with
 | ok a j => exact hf a j (h a j rfl) b k e
 | err => cases e
 | out => cases e
theorem Hold.any {α : Type} (r : Res α) : Hold (fun _ => True) r := fun _ _ _ => trivial
theorem Hold.ok {α : Type} {Q : α → Prop} {a : α} {j : Nat} (h : Q a) : Hold Q (.ok a j) := by intro b k e; cases e; exact h
theorem Hold.fail {α : Type} {Q : α → Prop} {c : Nat} {l : List Tok} {i : Nat} : Hold Q (failR c l i) := by intro b k e; cases e
theorem Hold.out {α : Type} {Q : α → Prop} : Hold Q (.out : Res α) := by intro b k e; cases e
abbrev AE := AllE NdL
abbrev AEs := AllEs NdL
abbrev ASs := AllSs NdL
theorem mk_all {k : Int} {nm : ByteArray} {v : Int} {m : Bool} {al : List Ex} {ns : List ByteArray} {bs : List St} {t : Tok} (h1 : NdL (exMk k nm v m al ns bs t)) (h2 : AEs al) (h3 : ASs bs) : AE (exMk k nm v m al ns bs t) := by
 rw [exMk]; unfold AE; rw [AllE]; exact ⟨h1, h2, h3⟩
theorem nd_leaf {k : Int} {nm : ByteArray} {v : Int} {m : Bool} {al : List Ex} {ns : List ByteArray} {bs : List St} {t : Tok} (h1 : k ≠ 14) (h2 : k ≠ 7) (h3 : k ≠ 8) (h4 : k ≠ 15) (h5 : k ≠ 6) (h6 : k ≠ 13) : NdL (exMk k nm v m al ns bs t) :=
 ⟨fun h => absurd h h1, fun h => by rcases h with h | h | h; exact absurd h h2; exact absurd h h3; exact absurd h h4, fun h => by rcases h with h | h; exact absurd h h5; exact absurd h h6⟩
theorem nd_un {k : Int} {nm : ByteArray} {v : Int} {m : Bool} {y : Ex} {t : Tok} (hk : k = 7 ∨ k = 8 ∨ k = 15) (hy : y.kind ≠ 14) : NdL (exMk k nm v m [y] [] [] t) := by
 have h5 : level y = 5 := by unfold level; rw [if_neg hy]
 refine ⟨fun h => ?_, fun _ => ⟨y, rfl, h5⟩, fun h => ?_⟩
 ·have h' : k = 14 := h
  omega
 ·have h' : k = 6 ∨ k = 13 := h
  omega
theorem nd_dot {k : Int} {nm : ByteArray} {v : Int} {m : Bool} {x : Ex} {al : List Ex} {t : Tok} (hk : k = 6 ∨ k = 13) (hx : Plain5 x) : NdL (exMk k nm v m (x :: al) [] [] t) := by
 refine ⟨fun h => ?_, fun h => ?_, fun _ => ⟨x, al, rfl, hx⟩⟩
 ·have h' : k = 14 := h
  omega
 ·have h' : k = 7 ∨ k = 8 ∨ k = 15 := h
  omega
theorem levOf_op (n : Nat) (hn : n ≤ 4) (s : List UInt8) (h : s ∈ opsL n) : levOf (toB s) = n := by
 rcases (show n = 0 ∨ n = 1 ∨ n = 2 ∨ n = 3 ∨ n = 4 by omega) with rfl | rfl | rfl | rfl | rfl <;> simp [opsL] at h <;> (rcases h with rfl | rfl) <;> decide
theorem plain5_dot {k : Int} {nm : ByteArray} {v : Int} {m : Bool} {al : List Ex} {ns : List ByteArray} {bs : List St} {t : Tok} (h : k = 6 ∨ k = 13) : Plain5 (exMk k nm v m al ns bs t) :=
 ⟨by show k ≠ 14; omega, by show k ≠ 7; omega, by show k ≠ 8; omega, by show k ≠ 15; omega, by show k ≠ 0; omega⟩
structure La (l : List Tok) (f : Nat) : Prop where
 level : ∀ i d n, n ≤ 5 → Hold (fun x => AE x ∧ n ≤ level x) (levelR f l i d n)
 row : ∀ i d n x, n ≤ 4 → AE x → (n + 1 ≤ Proofs.Ytppekkbaoimpgaa.level x ∨ (n ≠ 2 ∧ n ≤ Proofs.Ytppekkbaoimpgaa.level x)) → Hold (fun y => AE y ∧ n ≤ Proofs.Ytppekkbaoimpgaa.level y) (rowR f l i d n x)
 unary : ∀ i d, Hold (fun x => AE x ∧ x.kind ≠ 14) (unaryR f l i d)
 post : ∀ i d, Hold (fun x => AE x ∧ Plain5 x) (postR f l i d)
 dots : ∀ i d x, AE x → Plain5 x → Hold (fun x => AE x ∧ Plain5 x) (dotsR f l i d x)
 list : ∀ i d, Hold AEs (listR f l i d)
 more : ∀ i d acc, AEs acc → Hold AEs (moreR f l i d acc)
 one : ∀ i d, Hold AE (oneR f l i d)
 made : ∀ i d ns al, AEs al → Hold (fun p => AEs p.2) (madeR f l i d ns al)
 prim : ∀ i d, Hold (fun x => AE x ∧ Plain5 x) (primR f l i d)
 block : ∀ i d, Hold ASs (blockR f l i d)
 stmts : ∀ i d acc, ASs acc → Hold ASs (stmtsR f l i d acc)
 lett : ∀ i d, Hold (fun p => AEs p.2.2) (letR f l i d)
 sett : ∀ i d, Hold (fun p => AEs p.1 ∧ AE p.2) (setR f l i d)
 stmt : ∀ i d, Hold (AllS NdL) (stmtR f l i d)
theorem leaf_hold {k : Int} {nm : ByteArray} {v : Int} {m : Bool} {al : List Ex} {ns : List ByteArray} {bs : List St} {t : Tok} {j : Nat} (h : k = 1 ∨ k = 2 ∨ k = 3 ∨ k = 4 ∨ k = 5 ∨ k = 9 ∨ k = 10 ∨ k = 11 ∨ k = 12 ∨ k = 16 ∨ k = 17 ∨ k = 18) (h2 : AEs al) (h3 : ASs bs) : Hold (fun x => AE x ∧ Plain5 x) (.ok (exMk k nm v m al ns bs t) j) :=
 Hold.ok ⟨mk_all (nd_leaf (by omega) (by omega) (by omega) (by omega) (by omega) (by omega)) h2 h3, ⟨by show k ≠ 14; omega, by show k ≠ 7; omega, by show k ≠ 8; omega, by show k ≠ 15; omega, by show k ≠ 0; omega⟩⟩
section
variable {l : List Tok}
theorem prim_la (f : Nat) (h : La l f) (i d : Nat) : Hold (fun x => AE x ∧ Plain5 x) (primR (f + 1) l i d) := by
 rw [primR]
 have N := AllEs.nil NdL
 have S := AllSs.nil NdL
 by_cases h1 : (tokA l i).kind = 3
 ·rw [if_pos h1]
  exact leaf_hold (by omega) N S
 rw [if_neg h1]
 clear h1
 by_cases h1 : (tokA l i).kind = 4
 ·rw [if_pos h1]
  exact leaf_hold (by omega) N S
 rw [if_neg h1]
 clear h1
 by_cases h1 : isF l i [116, 114, 117, 101] = true
 ·rw [if_pos h1]
  exact leaf_hold (by omega) N S
 rw [if_neg h1]
 clear h1
 by_cases h1 : isF l i [102, 97, 108, 115, 101] = true
 ·rw [if_pos h1]
  exact leaf_hold (by omega) N S
 rw [if_neg h1]
 clear h1
 by_cases h1 : isF l i [99, 104, 111, 111, 115, 101] = true
 ·rw [if_pos h1]
  exact leaf_hold (by omega) N S
 rw [if_neg h1]
 clear h1
 by_cases h1 : isF l i [66, 111, 120] = true
 ·rw [if_pos h1]
  exact (h.one _ d).bind fun x j hx => leaf_hold (by omega) (AllEs.one hx) S
 rw [if_neg h1]
 clear h1
 by_cases h1 : isF l i [117, 110, 98, 111, 120] = true
 ·rw [if_pos h1]
  exact (h.one _ d).bind fun x j hx => leaf_hold (by omega) (AllEs.one hx) S
 rw [if_neg h1]
 clear h1
 by_cases h1 : isF l i [110, 101, 119] = true
 ·rw [if_pos h1]
  refine (Hold.any _).bind fun n j _ => (Hold.any _).bind fun _ j _ => ?_
  split
  ·exact leaf_hold (by omega) N S
  ·exact (h.made j d [] [] N).bind fun p j hp => leaf_hold (by omega) hp S
 rw [if_neg h1]
 clear h1
 by_cases h1 : isF l i [97, 115] = true
 ·rw [if_pos h1]
  exact (Hold.any _).bind fun n j _ => (Hold.any _).bind fun _ j _ => (Hold.any _).bind fun ns j _ => (h.block j d).bind fun b j hb => leaf_hold (by omega) N hb
 rw [if_neg h1]
 clear h1
 by_cases h1 : isF l i [40] = true
 ·rw [if_pos h1]
  split
  ·exact leaf_hold (by omega) N S
  ·exact (h.level _ d 0 (by omega)).bind fun x j hx => (Hold.any _).bind fun _ j _ => leaf_hold (by omega) (AllEs.one hx.1) S
 rw [if_neg h1]
 clear h1
 by_cases h1 : isF l i [115, 101, 108, 102] = true
 ·rw [if_pos h1]
  exact leaf_hold (by omega) N S
 rw [if_neg h1]
 clear h1
 refine (Hold.any _).bind fun n j _ => ?_
 split
 ·exact (h.list _ d).bind fun al j hal => leaf_hold (by omega) hal S
 ·exact leaf_hold (by omega) N S
theorem la_all : ∀ f, La l f := by
 intro f
 induction f with
 | zero => exact ⟨fun _ _ _ _ => by rw [levelR]; exact Hold.out, fun _ _ _ _ _ _ _ => by rw [rowR]; exact Hold.out, fun _ _ => by rw [unaryR]; exact Hold.out, fun _ _ => by rw [postR]; exact Hold.out, fun _ _ _ _ _ => by rw [dotsR]; exact Hold.out, fun _ _ => by rw [listR]; exact Hold.out, fun _ _ _ _ => by rw [moreR]; exact Hold.out, fun _ _ => by rw [oneR]; exact Hold.out, fun _ _ _ _ _ => by rw [madeR]; exact Hold.out, fun _ _ => by rw [primR]; exact Hold.out, fun _ _ => by rw [blockR]; exact Hold.out, fun _ _ _ _ => by rw [stmtsR]; exact Hold.out, fun _ _ => by rw [letR]; exact Hold.out, fun _ _ => by rw [setR]; exact Hold.out, fun _ _ => by rw [stmtR]; exact Hold.out⟩
 | succ f h =>
  refine ⟨?_, ?_, ?_, ?_, ?_, ?_, ?_, ?_, ?_, fun i d => prim_la f h i d, ?_, ?_, ?_, ?_, ?_⟩
  ·intro i d n hn
   rw [levelR]
   split
   ·rename_i e
    refine fun x j hx => ?_
    obtain ⟨h1, h2⟩ := h.unary i d x j hx
    exact ⟨h1, by unfold level; rw [if_neg h2]; omega⟩
   ·exact (h.level i d (n + 1) (by omega)).bind fun x j hx => h.row j d n x (by omega) hx.1 (.inl hx.2)
  ·intro i d n x hn hx hl
   rw [rowR]
   cases ho : opF l i n with
   | none => exact Hold.ok ⟨hx, by omega⟩
   | some s =>
    have hs := levOf_op n hn s (List.mem_of_find?_eq_some ho)
    refine (h.level (i + 1) d (n + 1) (by omega)).bind fun y j hy => ?_
    have hlev : level (exMk 14 (toB s) 0 false [x, y] [] [] (tokA l i)) = n := by
     unfold level
     rw [if_pos (show (exMk 14 (toB s) 0 false [x, y] [] [] (tokA l i)).kind = 14 from rfl)]
     exact hs
    have hall : AE (exMk 14 (toB s) 0 false [x, y] [] [] (tokA l i)) := by
     refine mk_all ⟨fun _ => ⟨x, y, rfl, by rw [hlev]; omega, by rw [hlev]; omega, by rw [hlev]; omega⟩, fun h => ?_, fun h => ?_⟩ (AllEs.snoc (AllEs.one hx) hy.1) (AllSs.nil _)
     ·have h' : (14 : Int) = 7 ∨ (14 : Int) = 8 ∨ (14 : Int) = 15 := h
      omega
     ·have h' : (14 : Int) = 6 ∨ (14 : Int) = 13 := h
      omega
    split
    ·exact Hold.ok ⟨hall, by rw [hlev]; exact Nat.le_refl _⟩
    ·rename_i hn2
     exact h.row j d n _ hn hall (.inr ⟨hn2, by rw [hlev]; exact Nat.le_refl _⟩)
  ·intro i d
   rw [unaryR]
   have step : ∀ (k : Int) (nm : ByteArray) (m : Bool) (q : Nat), (k = 7 ∨ k = 8 ∨ k = 15) → Hold (fun x => AE x ∧ x.kind ≠ 14) ((unaryR f l q (d + 1)).bind fun y j => .ok (exMk k nm 0 m [y] [] [] (tokA l i)) j) := fun k nm m q hk =>
    (h.unary q (d + 1)).bind fun y j hy => Hold.ok ⟨mk_all (nd_un hk hy.2) (AllEs.one hy.1) (AllSs.nil _), by show k ≠ 14; omega⟩
   split
   ·exact Hold.fail
   ·split
    ·exact step _ _ _ _ (by omega)
    ·split
     ·exact step _ _ _ _ (by omega)
     ·split
      ·exact step _ _ _ _ (by omega)
      ·split
       ·exact step _ _ _ _ (by omega)
       ·exact fun x j hx => ⟨(h.post i (d + 1) x j hx).1, (h.post i (d + 1) x j hx).2.1⟩
  ·intro i d
   rw [postR]
   exact (h.prim i d).bind fun x j hx => h.dots j d x hx.1 hx.2
  ·intro i d x hx hp
   rw [dotsR]
   split
   ·refine (Hold.any _).bind fun n j _ => ?_
    split
    ·refine (h.list (j + 1) d).bind fun al k hal => ?_
     refine h.dots k d _ (mk_all (nd_dot (.inr rfl) hp) (by unfold AEs; rw [AllEs]; exact ⟨hx, hal⟩) (AllSs.nil _)) (plain5_dot (.inr rfl))
    ·exact h.dots j d _ (mk_all (nd_dot (.inl rfl) hp) (AllEs.one hx) (AllSs.nil _)) (plain5_dot (.inl rfl))
   ·exact Hold.ok ⟨hx, hp⟩
  ·intro i d
   rw [listR]
   split
   ·exact Hold.ok (AllEs.nil _)
   ·exact h.more i d [] (AllEs.nil _)
  ·intro i d acc hacc
   rw [moreR]
   refine (Hold.any _).bind fun _ i _ => (h.level i d 0 (by omega)).bind fun x j hx => ?_
   split
   ·exact h.more _ d _ (AllEs.snoc hacc hx.1)
   ·exact (Hold.any _).bind fun _ j _ => Hold.ok (AllEs.snoc hacc hx.1)
  ·intro i d
   rw [oneR]
   exact (Hold.any _).bind fun _ j _ => (h.level j d 0 (by omega)).bind fun x j hx => (Hold.any _).bind fun _ j _ => Hold.ok hx.1
  ·intro i d ns al hal
   rw [madeR]
   refine (Hold.any _).bind fun _ i _ => (Hold.any _).bind fun n j _ => (Hold.any _).bind fun _ j _ => (h.level j d 0 (by omega)).bind fun x j hx => ?_
   split
   ·exact h.made _ d _ _ (AllEs.snoc hal hx.1)
   ·exact (Hold.any _).bind fun _ j _ => Hold.ok (AllEs.snoc hal hx.1)
  ·intro i d
   rw [blockR]
   split
   ·exact Hold.fail
   ·exact (Hold.any _).bind fun _ j _ => h.stmts j _ [] (AllSs.nil _)
  ·intro i d acc hacc
   rw [stmtsR]
   split
   ·exact Hold.ok hacc
   ·exact (h.stmt i d).bind fun s j hs => h.stmts j d _ (AllSs.snoc hacc hs)
  ·intro i d
   rw [letR]
   refine (Hold.any _).bind fun n j _ => (Hold.any _).bind fun ty j _ => Hold.bind (Q := AEs) ?_ fun e j he => (Hold.any _).bind fun _ j _ => Hold.ok he
   split
   ·exact (h.level _ d 0 (by omega)).bind fun x j hx => Hold.ok (AllEs.one hx.1)
   ·exact Hold.ok (AllEs.nil _)
  ·intro i d
   rw [setR]
   refine (h.level i d 0 (by omega)).bind fun x j hx => Hold.bind (Q := fun p => AEs p.1 ∧ AE p.2) ?_ fun p j hp => (Hold.any _).bind fun _ j _ => Hold.ok hp
   split
   ·exact (h.level _ d 0 (by omega)).bind fun y j hy => Hold.ok ⟨AllEs.one hx.1, hy.1⟩
   ·exact Hold.ok ⟨AllEs.nil _, hx.1⟩
  ·intro i d
   rw [stmtR]
   have N := AllEs.nil NdL
   have S := AllSs.nil NdL
   have mkS : ∀ (k : Int) (n : ByteArray) (ty : Ty) (p e : List Ex) (b c : List St) (o : Bool) (t : Tok), AEs p → AEs e → ASs b → ASs c → AllS NdL (stMk k n ty p e b c o t) := by
    intro k n ty p e b c o t h1 h2 h3 h4
    rw [stMk, AllS]; exact ⟨h1, h2, h3, h4⟩
   split
   ·exact (h.lett _ d).bind fun p j hp => Hold.ok (mkS _ _ _ _ _ _ _ _ _ N hp S S)
   ·split
    ·refine (h.level _ d 0 (by omega)).bind fun x j hx => (h.block j d).bind fun b j hb => ?_
     split
     ·exact (h.block _ d).bind fun c j hc => Hold.ok (mkS _ _ _ _ _ _ _ _ _ N (AllEs.one hx.1) hb hc)
     ·exact Hold.ok (mkS _ _ _ _ _ _ _ _ _ N (AllEs.one hx.1) hb S)
    ·split
     ·exact (h.level _ d 0 (by omega)).bind fun x j hx => (h.block j d).bind fun b j hb => Hold.ok (mkS _ _ _ _ _ _ _ _ _ N (AllEs.one hx.1) hb S)
     ·split
      ·refine Hold.bind (Q := AEs) ?_ fun e j he => (Hold.any _).bind fun _ j _ => Hold.ok (mkS _ _ _ _ _ _ _ _ _ N he S S)
       split
       ·exact Hold.ok N
       ·exact (h.level _ d 0 (by omega)).bind fun x j hx => Hold.ok (AllEs.one hx.1)
      ·split
       ·exact (Hold.any _).bind fun _ j _ => Hold.ok (mkS _ _ _ _ _ _ _ _ _ N N S S)
       ·split
        ·exact (h.block i d).bind fun b j hb => Hold.ok (mkS _ _ _ _ _ _ _ _ _ N N hb S)
        ·exact (h.sett i d).bind fun p j hp => Hold.ok (mkS _ _ _ _ _ _ _ _ _ hp.1 (AllEs.one hp.2) S S)
end
theorem exprF_all {s : List UInt8} {x : Ex} (h : exprF s = .ok x) : AE x := by
 unfold exprF outR at h
 cases hx : lexF s with
 | error e => rw [hx] at h; cases h
 | ok l =>
  rw [hx] at h
  dsimp only at h
  cases hy : levelR fuelN l 0 0 0 with
  | out => rw [hy] at h; cases h
  | err c ln col => rw [hy] at h; cases h
  | ok a j =>
   rw [hy] at h
   dsimp only [endR] at h
   by_cases hz : (tokA l j).kind = 0
   ·rw [if_pos hz] at h
    cases h
    exact ((la_all (l := l) fuelN).level 0 0 0 (by omega) _ _ hy).1
   ·rw [if_neg hz, failR] at h; cases h
def FlagAt (ab : Nat) (w : World) : Prop := w.heap[ab]? = some (.cells #[.bool true] 4 (0, 0))
def Vis (kf : Nat) (caps : List Value) (ab : Nat) (P : Nat → Prop) (Nd : Ex → Prop) (W0 : World) : Prop := ∀ (x : Ex) (cs : List Value) (w : World), Nd x → ExP w P x cs → FlagAt ab w → Step (· = ab) W0 w →
 Calls Try.prog kf (.agg cs.toArray :: caps).toArray w fun e w' => e = .returned (.tuple #[]) ∧ FlagAt ab w' ∧ Step (· = ab) w w'
def WkE (kf : Nat) (caps : List Value) (ab : Nat) (P : Nat → Prop) (Nd : Ex → Prop) (W0 : World) (n : Nat) : Prop := ∀ (x : Ex) (cs : List Value) (w : World), SizeOf.sizeOf x < n → AllE Nd x → ExP w P x cs → FlagAt ab w → Step (· = ab) W0 w →
 Calls Try.prog 6 #[.agg cs.toArray, .func (.func kf) #[] caps.toArray] w fun e w' => e = .returned (.tuple #[]) ∧ FlagAt ab w' ∧ Step (· = ab) w w'
def WkS (kf : Nat) (caps : List Value) (ab : Nat) (P : Nat → Prop) (Nd : Ex → Prop) (W0 : World) (n : Nat) : Prop := ∀ (l : List St) (u : Value) (xs : List Value) (w : World), SizeOf.sizeOf l < n → AllSs Nd l → StsP w P l xs → RowP w P u l.length xs → FlagAt ab w → Step (· = ab) W0 w →
 Calls Try.prog 12 #[u, .func (.func kf) #[] caps.toArray] w fun e w' => e = .returned (.tuple #[]) ∧ FlagAt ab w' ∧ Step (· = ab) w w'
theorem wkE_succ (kf : Nat) (caps : List Value) (ab : Nat) (P : Nat → Prop) (Nd : Ex → Prop) (W0 : World) (n : Nat) (hen : Enters kf) (hP : ∀ q, P q → q ≠ ab) (hsee : Vis kf caps ab P Nd W0) (ihE : WkE kf caps ab P Nd W0 n) (ihS : WkS kf caps ab P Nd W0 n) : WkE kf caps ab P Nd W0 (n + 1) := by
 intro x cs w hn hall h hfl h0
 have HX := Lib.hid h
 have HALLX := Lib.hid hall
 have habl := blk_lt hfl
 have hfe : ∀ (fn : Fn) (x y : Array Value) (w : World), (binOp .eql 38 (.func fn x y) .nilFunc).run Try.prog w = .ok (.bool false) w := fun _ _ _ _ => by kernel_rfl
 obtain ⟨k, name, val, m, args, names, body, l, c⟩ := x
 rw [AllE] at hall
 rw [ExP] at h
 obtain ⟨va, vn, vb, xa, xb, rfl, -, -, ha, hra, hrn, hb, hrb⟩ := h
 obtain ⟨an, cn, rfl⟩ := hrn.parts
 have HPN := Lib.hid hP
 obtain ⟨W, hW⟩ : ∃ W : World, W = w.alloc (.cells #[.int .i64 k, .string name, .int .u64 val, .bool m, va, .slice an names.length cn, vb, .int .i64 l, .int .i64 c] 29) := ⟨_, rfl⟩
 have ST0 : Step (fun _ => False) w W := by rw [hW]; exact (Step.refl _ _).alloc _
 have HST0 := Lib.hid ST0
 have HBK : Hid (W.heap[w.heap.size]? = some (.cells #[.int .i64 k, .string name, .int .u64 val, .bool m, va, .slice an names.length cn, vb, .int .i64 l, .int .i64 c] 29 (0, 0))) := by show _ = _; rw [hW]; exact blk_new _ _
 have HFL := Lib.hid (ST0.keep hfl (fun h => h))
 have H0W := Lib.hid (h0.trans (ST0.mono (fun _ _ h => h.elim)))
 have HA := Lib.hid (ExsP.step ST0 (fun _ _ h => h) args xa ha)
 have HB := Lib.hid (StsP.step ST0 (fun _ _ h => h) body xb hb)
 have HRB := Lib.hid (hrb.step ST0 (fun _ _ h => h))
 obtain ⟨aa, ca, rfl, hca, hcma, -, hrA⟩ := hra.step ST0 (fun _ _ h => h)
 obtain ⟨ab', cb, hvb, -⟩ := id hrb
 subst hvb
 have HRA := Lib.hid hrA
 have IHE := Lib.hid ihE
 have IHS := Lib.hid ihS
 have HSEE := Lib.hid hsee
 have HALL := Lib.hid hall
 have HEX := Lib.hid (ExP.step ST0 (fun _ _ h => h) _ _ HX.out)
 have hsz : Hid (∀ x ∈ args, SizeOf.sizeOf x < n) := by
  intro x hx
  have := List.sizeOf_lt_of_mem hx
  simp at hn
  omega
 have hszb : Hid (SizeOf.sizeOf body < n) := by
  show _ < _
  simp at hn
  omega
 unfold Enters at hen
 have HW := Lib.hid hW
 clear ha hra hb hrA ihE ihS hsee hn hrb hall hfl h0 hW ST0 hP
 go_enter Try.func6, Try.ntmps6
 go_upto_region 1 with fail
 rw [← HW.out]
 have c4 : W.cell? ⟨w.heap.size, 4, none⟩ = some (.slice aa args.length ca) := blk_cell HBK.out 4 _ rfl
 go_wp2_with fail
 clear c4
 go_loopg [5, 11] args.length (fun gg _ s11 wr => ∃ i : Nat, s11 = .int .i64 i ∧ i ≤ args.length ∧ args.length - i ≤ gg ∧ FlagAt ab wr ∧ Step (· = ab) W wr)
 case atStart => exact ⟨0, rfl, Nat.zero_le _, by omega, HFL.out, Step.refl _ _⟩
 case round =>
  obtain ⟨i, rfl, hi, hgg, hg1, hc1⟩ := hrel
  by_cases hlt : i < args.length
  ·obtain ⟨x, hx⟩ : ∃ x, args[i]? = some x := ⟨args[i], List.getElem?_eq_getElem hlt⟩
   obtain ⟨g, o, rfl, hgb, hgw, hcell⟩ := HRA.out (by omega)
   obtain ⟨cs, hat, f⟩ := ExsP.cells (ExsP.step hc1 (fun q hq e => HPN.out q hq e) _ _ HA.out) hx (fun i x hx => hc1.cell (hcell i x hx) (fun e => HPN.out g hgb e))
   have HXM := Lib.hid (hsz.out x (List.mem_of_getElem? hx))
   have HXA := Lib.hid (HALL.out.2.1.get (List.mem_of_getElem? hx))
   have HAT := Lib.hid hat
   obtain ⟨k1, name1, v2, m1, args1, names1, body1, l1, c1⟩ := x
   rw [ExP] at hat
   obtain ⟨va1, vn1, vb1, xa1, xb1, rfl, -, -, -, ⟨a5, c5, rfl, -⟩, ⟨a6, c6, rfl, -⟩, -, ⟨a7, c7, rfl, -⟩⟩ := hat
   have f0 := f 0 _ rfl
   have f1 := f 1 _ rfl
   have f2 := f 2 _ rfl
   have f3 := f 3 _ rfl
   have f4 := f 4 _ rfl
   have f5 := f 5 _ rfl
   have f6 := f 6 _ rfl
   have f7 := f 7 _ rfl
   have f8 := f 8 _ rfl
   rw [Nat.add_zero] at f0
   have HG1 := Lib.hid hg1
   have HC1 := Lib.hid hc1
   clear f hcell hx hg1 hc1
   go_wp2_with fail
   have st2 : Step (fun _ => False) wr (wr.alloc (.cells #[.int .i64 k1, .string name1, .int .u64 v2, .bool m1, .slice a5 args1.length c5, .slice a6 names1.length c6, .slice a7 body1.length c7, .int .i64 l1, .int .i64 c1] 29)) := (Step.refl _ _).alloc _
   refine (IHE.out _ _ _ HXM.out HXA.out (ExP.step st2 (fun _ _ h => h) _ _ HAT.out) (st2.keep HG1.out (fun h => h)) ((H0W.out.trans HC1.out).trans (st2.mono (fun _ _ h => h.elim)))).mono ?_
   rintro e w3 ⟨rfl, hg3, hc3⟩
   have HG3 := Lib.hid hg3
   have HC3 : Hid (Step (· = ab) W w3) := HC1.out.trans ((st2.mono (fun _ _ h => h.elim)).trans hc3)
   clear hg3 hc3
   go_wp2
   go_roundg (gk - 1)
   case rel => exact ⟨i + 1, by go_num, by omega, by omega, HG3.out, HC3.out⟩
   case measure => omega
  ·have HG1 := Lib.hid hg1
   have HC1 := Lib.hid hc1
   have hblk := hc1.keep HBK.out (by omega)
   have c6 : wr.cell? ⟨w.heap.size, 6, none⟩ = some (.slice ab' body.length cb) := blk_cell hblk 6 _ rfl
   clear hg1 hc1 hblk
   go_wp2_with fail
   refine (IHS.out body _ xb wr hszb.out HALL.out.2.2 (StsP.step HC1.out (fun q hq e => HPN.out q hq e) _ _ HB.out) (HRB.out.step HC1.out (fun q hq e => HPN.out q hq e)) HG1.out (H0W.out.trans HC1.out)).mono ?_
   rintro e w3 ⟨rfl, hg3, hc3⟩
   have HG3 := Lib.hid hg3
   have HC3 := Lib.hid (HC1.out.trans hc3)
   clear hg3 hc3 c6
   have HLD : Hid (∀ (jj : Nat) v, [Value.int .i64 k, .string name, .int .u64 val, .bool m, .slice aa args.length ca, .slice an names.length cn, .slice ab' body.length cb, .int .i64 l, .int .i64 c][jj]? = some v → w3.cell? ⟨w.heap.size, 0 + jj, none⟩ = some v) := by
    show ∀ jj v, _
    intro jj v hv
    rw [Nat.zero_add]; exact blk_cell (HC3.out.keep HBK.out (by omega)) jj v (by simpa using hv)
   go_wp2_with (refine wpList_load_whole rfl 29 (.tmp 2) rfl w.heap.size 0 rfl [Value.int .i64 k, .string name, .int .u64 val, .bool m, .slice aa args.length ca, .slice an names.length cn, .slice ab' body.length cb, .int .i64 l, .int .i64 c] _ HLD.out Try.underlying29 rfl Try.sizeExpr ?_)
   refine (HSEE.out _ _ w3 HALL.out.1 (ExP.step HC3.out (fun q hq e => HPN.out q hq e) _ _ HEX.out) HG3.out (H0W.out.trans HC3.out)).mono ?_
   rintro e w4 ⟨rfl, hg4, hc4⟩
   have HG4 := Lib.hid hg4
   have HC4 := Lib.hid (HC3.out.trans hc4)
   clear hg4 hc4
   go_wp2
   go_end0
   exact ⟨rfl, HG4.out, (HST0.out.mono (fun _ _ h => h.elim)).trans HC4.out⟩
theorem wkS_succ (kf : Nat) (caps : List Value) (ab : Nat) (P : Nat → Prop) (Nd : Ex → Prop) (W0 : World) (n : Nat) (hP : ∀ q, P q → q ≠ ab) (ihE : WkE kf caps ab P Nd W0 n) (ihS : WkS kf caps ab P Nd W0 n) : WkS kf caps ab P Nd W0 (n + 1) := by
 intro l u xs w hn hall hxs hr hfl h0
 have HXS := Lib.hid hxs
 obtain ⟨a, c, rfl, hc, hcm, -, hrr⟩ := hr
 have HRR := Lib.hid hrr
 have HFL := Lib.hid hfl
 have H0W := Lib.hid h0
 have HALL := Lib.hid hall
 have HPN := Lib.hid hP
 have habl := blk_lt hfl
 have IHE := Lib.hid ihE
 have IHS := Lib.hid ihS
 have HN := Lib.hid hn
 clear hxs hrr ihE ihS hn hfl h0 hall hP
 go_enter Try.func12, Try.ntmps12
 go_wp2_with fail
 go_loopg [5, 7, 9, 12] l.length (fun gg _ _ _ s12 wr => ∃ i : Nat, s12 = .int .i64 i ∧ i ≤ l.length ∧ l.length - i ≤ gg ∧ FlagAt ab wr ∧ Step (· = ab) w wr)
 case atStart => exact ⟨0, rfl, Nat.zero_le _, by omega, HFL.out, Step.refl _ _⟩
 case round =>
  obtain ⟨i, rfl, hi, hgg, hg1, hc1⟩ := hrel
  by_cases hlt : i < l.length
  ·obtain ⟨x, hx⟩ : ∃ x, l[i]? = some x := ⟨l[i], List.getElem?_eq_getElem hlt⟩
   obtain ⟨g, o, rfl, hgb, hgw, hcell⟩ := HRR.out (by omega)
   obtain ⟨cs, hat, f⟩ := StsP.cells (StsP.step hc1 (fun q hq e => HPN.out q hq e) _ _ HXS.out) hx (fun i x hx => hc1.cell (hcell i x hx) (fun e => HPN.out g hgb e))
   have hszx := List.sizeOf_lt_of_mem (List.mem_of_getElem? hx)
   have hax := HALL.out.get (List.mem_of_getElem? hx)
   obtain ⟨k1, name1, ty1, place, e, body, els, other, l1, c1⟩ := x
   rw [AllS] at hax
   have HAX := Lib.hid hax
   have hnn := HN.out
   simp at hszx
   have HSP : Hid (SizeOf.sizeOf place < n) := by show _ < _; omega
   have HSE : Hid (SizeOf.sizeOf e < n) := by show _ < _; omega
   have HSB : Hid (SizeOf.sizeOf body < n) := by show _ < _; omega
   have HSL : Hid (SizeOf.sizeOf els < n) := by show _ < _; omega
   rw [StP] at hat
   obtain ⟨ct, vp, ve, vb, vl, xp, xe, xb, xl, rfl, hs1, hty, hp, hrp, he, hre, hb, hrb, hl, hrl⟩ := hat
   obtain ⟨k2, name2, life2, m2, lifes2, args2, l2, c2⟩ := ty1
   rw [TyP] at hty
   obtain ⟨vl2, va2, xs2, rfl, -, -, -, ⟨a4, c4, rfl, -⟩, -, ⟨a5, c5, rfl, -⟩⟩ := hty
   have f0 := f 0 _ rfl
   have f1 := f 1 _ rfl
   have f2 := f 2 _ rfl
   have f3 := f 3 _ rfl
   have f4 := f 4 _ rfl
   have f5 := f 5 _ rfl
   have f6 := f 6 _ rfl
   have f7 := f 7 _ rfl
   have f8 := f 8 _ rfl
   have f9 := f 9 _ rfl
   have f10 := f 10 _ rfl
   have f11 := f 11 _ rfl
   have f12 := f 12 _ rfl
   have f13 := f 13 _ rfl
   have f14 := f 14 _ rfl
   have f15 := f 15 _ rfl
   have f16 := f 16 _ rfl
   rw [Nat.add_zero] at f0
   have HP := Lib.hid hp
   have HE := Lib.hid he
   have HB := Lib.hid hb
   have HRB := Lib.hid hrb
   have HL := Lib.hid hl
   have HRL := Lib.hid hrl
   obtain ⟨ap, cp, rfl, hcp, hcmp, -, hrP⟩ := hrp
   obtain ⟨ae, ce, rfl, hce, hcme, -, hrE⟩ := hre
   obtain ⟨ab', cb, rfl, -⟩ := id hrb
   obtain ⟨al, cl, rfl, -⟩ := id hrl
   have HRP := Lib.hid hrP
   have HRE := Lib.hid hrE
   have HG1 := Lib.hid hg1
   have HC1 := Lib.hid hc1
   have hwr := hc1.size
   clear f hcell hx hg1 hc1 hp he hb hl hrP hrE hszx hnn hrb hrl hax
   obtain ⟨w1, hw1⟩ : ∃ w1 : World, w1 = wr.alloc (.cells #[.int .i64 k1, .string name1, .int .i64 k2, .string name2, .string life2, .bool m2, .slice a4 lifes2.length c4, .slice a5 args2.length c5, .int .i64 l2, .int .i64 c2, .slice ap place.length cp, .slice ae e.length ce, .slice ab' body.length cb, .slice al els.length cl, .bool other, .int .i64 l1, .int .i64 c1] 67) := ⟨_, rfl⟩
   have ST1 : Step (fun _ => False) wr w1 := by rw [hw1]; exact (Step.refl _ _).alloc _
   have HW1 := Lib.hid hw1
   have HBLK : Hid (w1.heap[wr.heap.size]? = some (.cells #[.int .i64 k1, .string name1, .int .i64 k2, .string name2, .string life2, .bool m2, .slice a4 lifes2.length c4, .slice a5 args2.length c5, .int .i64 l2, .int .i64 c2, .slice ap place.length cp, .slice ae e.length ce, .slice ab' body.length cb, .slice al els.length cl, .bool other, .int .i64 l1, .int .i64 c1] 67 (0, 0))) := by show _ = _; rw [hw1]; exact blk_new _ _
   clear hw1
   have HG2 := Lib.hid (ST1.keep HG1.out (fun h => h))
   have HC12 : Hid (Step (· = ab) w w1) := HC1.out.trans (ST1.mono (fun _ _ h => h.elim))
   have HP2 := Lib.hid (ExsP.step ST1 (fun _ _ h => h) _ _ HP.out)
   have HE2 := Lib.hid (ExsP.step ST1 (fun _ _ h => h) _ _ HE.out)
   have HB2 := Lib.hid (StsP.step ST1 (fun _ _ h => h) _ _ HB.out)
   have HL2 := Lib.hid (StsP.step ST1 (fun _ _ h => h) _ _ HL.out)
   have HRB2 := Lib.hid (HRB.out.step ST1 (fun _ _ h => h))
   have HRL2 := Lib.hid (HRL.out.step ST1 (fun _ _ h => h))
   obtain ⟨go, hgo⟩ : ∃ go : Nat, go = gk := ⟨_, rfl⟩
   obtain ⟨wo, hwo⟩ : ∃ wo : World, wo = wr := ⟨_, rfl⟩
   go_wp2_with fail
   rw [← HW1.out]
   subst hwo
   go_loopg [7, 19] place.length (fun gg _ s wr => ∃ j : Nat, s = .int .i64 j ∧ j ≤ place.length ∧ place.length - j ≤ gg ∧ FlagAt ab wr ∧ Step (· = ab) w1 wr)
   case atStart => exact ⟨0, rfl, Nat.zero_le _, by omega, HG2.out, Step.refl _ _⟩
   case round =>
    obtain ⟨j, rfl, hj, hggj, hg2, hc2⟩ := hrel
    by_cases hltj : j < place.length
    ·obtain ⟨y, hy⟩ : ∃ y, place[j]? = some y := ⟨place[j], List.getElem?_eq_getElem hltj⟩
     obtain ⟨g2, o2, rfl, hgb2, hgw2, hcell2⟩ := HRP.out (by omega)
     obtain ⟨cs, hat, f⟩ := ExsP.cells (ExsP.step hc2 (fun q hq e => HPN.out q hq e) _ _ HP2.out) hy (fun i x hx => hc2.cell (ST1.cell (hcell2 i x hx) (fun h => h)) (fun e => HPN.out g2 hgb2 e))
     have HYM : Hid (SizeOf.sizeOf y < n) := by
      have h1 := List.sizeOf_lt_of_mem (List.mem_of_getElem? hy)
      have h2 := HSP.out
      show _ < _
      omega
     have HYA := Lib.hid (HAX.out.1.get (List.mem_of_getElem? hy))
     have HAT := Lib.hid hat
     obtain ⟨k3, name3, v3, m3, args3, names3, body3, l3, c3⟩ := y
     rw [ExP] at hat
     obtain ⟨va3, vn3, vb3, xa3, xb3, rfl, -, -, -, ⟨a5', c5', rfl, -⟩, ⟨a6', c6', rfl, -⟩, -, ⟨a7', c7', rfl, -⟩⟩ := hat
     have f0 := f 0 _ rfl
     have f1 := f 1 _ rfl
     have f2 := f 2 _ rfl
     have f3 := f 3 _ rfl
     have f4 := f 4 _ rfl
     have f5 := f 5 _ rfl
     have f6 := f 6 _ rfl
     have f7 := f 7 _ rfl
     have f8 := f 8 _ rfl
     rw [Nat.add_zero] at f0
     have HGJ := Lib.hid hg2
     have HCJ := Lib.hid hc2
     clear f hcell2 hy hg2 hc2
     go_wp2_with fail
     have st2 : Step (fun _ => False) wr (wr.alloc (.cells #[.int .i64 k3, .string name3, .int .u64 v3, .bool m3, .slice a5' args3.length c5', .slice a6' names3.length c6', .slice a7' body3.length c7', .int .i64 l3, .int .i64 c3] 29)) := (Step.refl _ _).alloc _
     refine (IHE.out _ _ _ HYM.out HYA.out (ExP.step st2 (fun _ _ h => h) _ _ HAT.out) (st2.keep HGJ.out (fun h => h)) (((H0W.out.trans HC12.out).trans HCJ.out).trans (st2.mono (fun _ _ h => h.elim)))).mono ?_
     rintro e w3 ⟨rfl, hg3, hc3⟩
     have HG3 := Lib.hid hg3
     have HC3 : Hid (Step (· = ab) w1 w3) := HCJ.out.trans ((st2.mono (fun _ _ h => h.elim)).trans hc3)
     clear hg3 hc3
     go_wp2
     go_roundg (gk - 1)
     case rel => exact ⟨j + 1, by go_num, by omega, by omega, HG3.out, HC3.out⟩
     case measure => omega
    ·have HGP' := Lib.hid hg2
     have HCP' := Lib.hid hc2
     have hblkP := hc2.keep HBLK.out (by omega)
     clear hg2 hc2
     have c11 : wr.cell? ⟨wo.heap.size, 11, none⟩ = some (.slice ae e.length ce) := blk_cell hblkP 11 _ rfl
     clear hblkP
     go_wp2_with fail
     clear c11
     go_loopg [9, 30] e.length (fun gg _ s wr => ∃ j : Nat, s = .int .i64 j ∧ j ≤ e.length ∧ e.length - j ≤ gg ∧ FlagAt ab wr ∧ Step (· = ab) w1 wr)
     case atStart => exact ⟨0, rfl, Nat.zero_le _, by omega, HGP'.out, HCP'.out⟩
     case round =>
      obtain ⟨j, rfl, hj, hggj, hg2, hc2⟩ := hrel
      by_cases hltj : j < e.length
      ·obtain ⟨y, hy⟩ : ∃ y, e[j]? = some y := ⟨e[j], List.getElem?_eq_getElem hltj⟩
       obtain ⟨g2, o2, rfl, hgb2, hgw2, hcell2⟩ := HRE.out (by omega)
       obtain ⟨cs, hat, f⟩ := ExsP.cells (ExsP.step hc2 (fun q hq e => HPN.out q hq e) _ _ HE2.out) hy (fun i x hx => hc2.cell (ST1.cell (hcell2 i x hx) (fun h => h)) (fun e => HPN.out g2 hgb2 e))
       have HYM : Hid (SizeOf.sizeOf y < n) := by
        have h1 := List.sizeOf_lt_of_mem (List.mem_of_getElem? hy)
        have h2 := HSE.out
        show _ < _
        omega
       have HYA := Lib.hid (HAX.out.2.1.get (List.mem_of_getElem? hy))
       have HAT := Lib.hid hat
       obtain ⟨k3, name3, v3, m3, args3, names3, body3, l3, c3⟩ := y
       rw [ExP] at hat
       obtain ⟨va3, vn3, vb3, xa3, xb3, rfl, -, -, -, ⟨a5', c5', rfl, -⟩, ⟨a6', c6', rfl, -⟩, -, ⟨a7', c7', rfl, -⟩⟩ := hat
       have f0 := f 0 _ rfl
       have f1 := f 1 _ rfl
       have f2 := f 2 _ rfl
       have f3 := f 3 _ rfl
       have f4 := f 4 _ rfl
       have f5 := f 5 _ rfl
       have f6 := f 6 _ rfl
       have f7 := f 7 _ rfl
       have f8 := f 8 _ rfl
       rw [Nat.add_zero] at f0
       have HGJ := Lib.hid hg2
       have HCJ := Lib.hid hc2
       clear f hcell2 hy hg2 hc2
       go_wp2_with fail
       have st2 : Step (fun _ => False) wr (wr.alloc (.cells #[.int .i64 k3, .string name3, .int .u64 v3, .bool m3, .slice a5' args3.length c5', .slice a6' names3.length c6', .slice a7' body3.length c7', .int .i64 l3, .int .i64 c3] 29)) := (Step.refl _ _).alloc _
       refine (IHE.out _ _ _ HYM.out HYA.out (ExP.step st2 (fun _ _ h => h) _ _ HAT.out) (st2.keep HGJ.out (fun h => h)) (((H0W.out.trans HC12.out).trans HCJ.out).trans (st2.mono (fun _ _ h => h.elim)))).mono ?_
       rintro e w3 ⟨rfl, hg3, hc3⟩
       have HG3 := Lib.hid hg3
       have HC3 : Hid (Step (· = ab) w1 w3) := HCJ.out.trans ((st2.mono (fun _ _ h => h.elim)).trans hc3)
       clear hg3 hc3
       go_wp2
       go_roundg (gk - 1)
       case rel => exact ⟨j + 1, by go_num, by omega, by omega, HG3.out, HC3.out⟩
       case measure => omega
      ·have HGE' := Lib.hid hg2
       have HCE' := Lib.hid hc2
       have hblkE := hc2.keep HBLK.out (by omega)
       clear hg2 hc2
       have c12 : wr.cell? ⟨wo.heap.size, 12, none⟩ = some (.slice ab' body.length cb) := blk_cell hblkE 12 _ rfl
       clear hblkE
       go_wp2_with fail
       refine (IHS.out body _ xb wr HSB.out HAX.out.2.2.1 (StsP.step HCE'.out (fun q hq e => HPN.out q hq e) _ _ HB2.out) (HRB2.out.step HCE'.out (fun q hq e => HPN.out q hq e)) HGE'.out ((H0W.out.trans HC12.out).trans HCE'.out)).mono ?_
       rintro e w3 ⟨rfl, hg3, hc3⟩
       have HG3 := Lib.hid hg3
       have HC3 := Lib.hid (HCE'.out.trans hc3)
       have hblk3 := HC3.out.keep HBLK.out (by omega)
       have c13 : w3.cell? ⟨wo.heap.size, 13, none⟩ = some (.slice al els.length cl) := blk_cell hblk3 13 _ rfl
       clear hg3 hc3 hblk3 c12
       go_wp2_with fail
       refine (IHS.out els _ xl w3 HSL.out HAX.out.2.2.2 (StsP.step HC3.out (fun q hq e => HPN.out q hq e) _ _ HL2.out) (HRL2.out.step HC3.out (fun q hq e => HPN.out q hq e)) HG3.out ((H0W.out.trans HC12.out).trans HC3.out)).mono ?_
       rintro e w4 ⟨rfl, hg4, hc4⟩
       have HG4 := Lib.hid hg4
       have HC4 := Lib.hid (HC3.out.trans hc4)
       clear hg4 hc4 c13
       go_wp2
       go_roundg (go - 1)
       case rel => exact ⟨i + 1, by go_num, by omega, by omega, HG4.out, HC12.out.trans HC4.out⟩
       case measure => omega
  ·go_wp2
   go_end0
   exact ⟨rfl, hg1, hc1⟩
theorem wk_both (kf : Nat) (caps : List Value) (ab : Nat) (P : Nat → Prop) (Nd : Ex → Prop) (W0 : World) (hen : Enters kf) (hP : ∀ q, P q → q ≠ ab) (hsee : Vis kf caps ab P Nd W0) : ∀ n, WkE kf caps ab P Nd W0 n ∧ WkS kf caps ab P Nd W0 n := by
 intro n
 induction n with
 | zero => exact ⟨fun _ _ _ h => absurd h (Nat.not_lt_zero _), fun _ _ _ _ h => absurd h (Nat.not_lt_zero _)⟩
 | succ n ih => exact ⟨wkE_succ kf caps ab P Nd W0 n hen hP hsee ih.1 ih.2, wkS_succ kf caps ab P Nd W0 n hP ih.1 ih.2⟩
theorem str_ne {a b : ByteArray} (h : a ≠ b) : (a.toList == b.toList) = false := by
 rw [bytes_eq, beq_eq_false_iff_ne]
 intro e
 apply h
 obtain ⟨⟨x⟩⟩ := a
 obtain ⟨⟨y⟩⟩ := b
 have e2 : x = y := e
 rw [e2]
theorem level_any (x : Ex) (cs : List Value) (w : World) (P : Nat → Prop) (h : ExP w P x cs) : Calls Try.prog 8 #[.agg cs.toArray] w fun e w' => e = .returned (.int .i64 (level x : Nat)) ∧ Step (fun _ => False) w w' := by
 obtain ⟨k, nm, v, m, args, ns, bs, l, c⟩ := x
 rw [ExP] at h
 obtain ⟨va, vn, vb, xa, xb, rfl, -, -, -, hra, hrn, -, hrb⟩ := h
 obtain ⟨a1, c1, rfl⟩ := hra.parts
 obtain ⟨a2, c2, rfl⟩ := hrn.parts
 obtain ⟨a3, c3, rfl⟩ := hrb.parts
 have hst : Step (fun _ => False) w (w.alloc (.cells #[.int .i64 k, .string nm, .int .u64 v, .bool m, .slice a1 args.length c1, .slice a2 ns.length c2, .slice a3 bs.length c3, .int .i64 l, .int .i64 c] 29)) := (Step.refl _ _).alloc _
 have HST := Lib.hid hst
 clear hra hrn hrb hst
 by_cases hk : k = 14
 ·subst hk
  by_cases h0 : nm = ⟨#[124]⟩
  ·subst h0
   have hl : level (.mk 14 ⟨#[124]⟩ v m args ns bs l c) = 0 := by unfold level; rw [if_pos (show (Ex.mk 14 ⟨#[124]⟩ v m args ns bs l c).kind = 14 from rfl)]; show levOf ⟨#[124]⟩ = 0; decide
   rw [hl]
   clear hl
   go_enter Try.func8, Try.ntmps8
   go_wp2_with fail
   go_ret
   exact ⟨rfl, HST.out⟩
  have e0 : (nm.toList == [124]) = false := by have h := str_ne h0; rw [show (⟨#[124]⟩ : ByteArray).toList = [124] by rw [Lib.toList_data]] at h; exact h
  by_cases h1 : nm = ⟨#[38, 38]⟩
  ·subst h1
   have hl : level (.mk 14 ⟨#[38, 38]⟩ v m args ns bs l c) = 1 := by unfold level; rw [if_pos (show (Ex.mk 14 ⟨#[38, 38]⟩ v m args ns bs l c).kind = 14 from rfl)]; show levOf ⟨#[38, 38]⟩ = 1; decide
   rw [hl]
   clear hl
   go_enter Try.func8, Try.ntmps8
   go_wp2_with fail
   go_ret
   exact ⟨rfl, HST.out⟩
  have e1 : (nm.toList == [38, 38]) = false := by have h := str_ne h1; rw [show (⟨#[38, 38]⟩ : ByteArray).toList = [38, 38] by rw [Lib.toList_data]] at h; exact h
  by_cases h2 : nm = ⟨#[61, 61]⟩
  ·subst h2
   have hl : level (.mk 14 ⟨#[61, 61]⟩ v m args ns bs l c) = 2 := by unfold level; rw [if_pos (show (Ex.mk 14 ⟨#[61, 61]⟩ v m args ns bs l c).kind = 14 from rfl)]; show levOf ⟨#[61, 61]⟩ = 2; decide
   rw [hl]
   clear hl
   go_enter Try.func8, Try.ntmps8
   go_wp2_with fail
   go_ret
   exact ⟨rfl, HST.out⟩
  have e2 : (nm.toList == [61, 61]) = false := by have h := str_ne h2; rw [show (⟨#[61, 61]⟩ : ByteArray).toList = [61, 61] by rw [Lib.toList_data]] at h; exact h
  by_cases h3 : nm = ⟨#[60]⟩
  ·subst h3
   have hl : level (.mk 14 ⟨#[60]⟩ v m args ns bs l c) = 2 := by unfold level; rw [if_pos (show (Ex.mk 14 ⟨#[60]⟩ v m args ns bs l c).kind = 14 from rfl)]; show levOf ⟨#[60]⟩ = 2; decide
   rw [hl]
   clear hl
   go_enter Try.func8, Try.ntmps8
   go_wp2_with fail
   go_ret
   exact ⟨rfl, HST.out⟩
  have e3 : (nm.toList == [60]) = false := by have h := str_ne h3; rw [show (⟨#[60]⟩ : ByteArray).toList = [60] by rw [Lib.toList_data]] at h; exact h
  by_cases h4 : nm = ⟨#[43]⟩
  ·subst h4
   have hl : level (.mk 14 ⟨#[43]⟩ v m args ns bs l c) = 3 := by unfold level; rw [if_pos (show (Ex.mk 14 ⟨#[43]⟩ v m args ns bs l c).kind = 14 from rfl)]; show levOf ⟨#[43]⟩ = 3; decide
   rw [hl]
   clear hl
   go_enter Try.func8, Try.ntmps8
   go_wp2_with fail
   go_ret
   exact ⟨rfl, HST.out⟩
  have e4 : (nm.toList == [43]) = false := by have h := str_ne h4; rw [show (⟨#[43]⟩ : ByteArray).toList = [43] by rw [Lib.toList_data]] at h; exact h
  by_cases h5 : nm = ⟨#[45]⟩
  ·subst h5
   have hl : level (.mk 14 ⟨#[45]⟩ v m args ns bs l c) = 3 := by unfold level; rw [if_pos (show (Ex.mk 14 ⟨#[45]⟩ v m args ns bs l c).kind = 14 from rfl)]; show levOf ⟨#[45]⟩ = 3; decide
   rw [hl]
   clear hl
   go_enter Try.func8, Try.ntmps8
   go_wp2_with fail
   go_ret
   exact ⟨rfl, HST.out⟩
  have e5 : (nm.toList == [45]) = false := by have h := str_ne h5; rw [show (⟨#[45]⟩ : ByteArray).toList = [45] by rw [Lib.toList_data]] at h; exact h
  have hl : level (.mk 14 nm v m args ns bs l c) = 4 := by
   unfold level
   rw [if_pos (show (Ex.mk 14 nm v m args ns bs l c).kind = 14 from rfl)]
   show levOf nm = 4
   unfold levOf
   rw [if_neg h0, if_neg h1, if_neg h2, if_neg h3, if_neg h4, if_neg h5]
  rw [hl]
  clear hl h0 h1 h2 h3 h4 h5
  go_enter Try.func8, Try.ntmps8
  go_wp2_with fail
  go_ret
  exact ⟨rfl, HST.out⟩
 ·have e0 : (k != 14) = true := by simpa using hk
  have hl : level (.mk k nm v m args ns bs l c) = 5 := by unfold level; rw [if_neg (show ¬ (Ex.mk k nm v m args ns bs l c).kind = 14 from hk)]
  rw [hl]
  clear hl hk
  go_enter Try.func8, Try.ntmps8
  go_wp2_with fail
  go_ret
  exact ⟨rfl, HST.out⟩
theorem sees_levels (ab : Nat) (P : Nat → Prop) (W0 : World) : Vis 7 [.pointer (some ⟨ab, 0, none⟩)] ab P NdL W0 := by
 intro x cs w hnd hex hfl _
 have HND := Lib.hid hnd
 have HEX := Lib.hid hex
 have habl := blk_lt hfl
 obtain ⟨LX, hLX⟩ : ∃ LX : Int, LX = (level x : Nat) := ⟨_, rfl⟩
 have HLX := Lib.hid hLX
 obtain ⟨k, nm, v, m, args, ns, bs, l, c⟩ := x
 rw [ExP] at hex
 obtain ⟨va, vn, vb, xa, xb, rfl, -, -, hxa, hra, hrn, -, hrb⟩ := hex
 obtain ⟨a2, c2, rfl⟩ := hrn.parts
 obtain ⟨a3, c3, rfl⟩ := hrb.parts
 obtain ⟨a1, c1, rfl, -, -, -, hrow⟩ := hra
 obtain ⟨W, hW⟩ : ∃ W : World, W = w.alloc (.cells #[.int .i64 k, .string nm, .int .u64 v, .bool m, .slice a1 args.length c1, .slice a2 ns.length c2, .slice a3 bs.length c3, .int .i64 l, .int .i64 c] 29) := ⟨_, rfl⟩
 have HS : Hid (Step (fun _ => False) w W) := by show Step _ _ _; rw [hW]; exact (Step.refl _ _).alloc _
 have HB : Hid (W.heap[w.heap.size]? = some (.cells #[.int .i64 k, .string nm, .int .u64 v, .bool m, .slice a1 args.length c1, .slice a2 ns.length c2, .slice a3 bs.length c3, .int .i64 l, .int .i64 c] 29 (0, 0))) := by show _ = _; rw [hW]; exact blk_new _ _
 have HF := Lib.hid (HS.out.keep hfl (fun h => h))
 have HW := Lib.hid hW
 have HXA := Lib.hid (ExsP.step HS.out (fun _ _ h => h) _ _ hxa)
 have HROW := Lib.hid hrow
 have HEXW := Lib.hid (ExP.step HS.out (fun _ _ h => h) _ _ HEX.out)
 have HSAB : Hid (∀ X, Step (fun _ => False) W X → FlagAt ab (X.setCell ⟨ab, 0, none⟩ (.bool true)) ∧ Step (· = ab) w (X.setCell ⟨ab, 0, none⟩ (.bool true))) := by
  show ∀ X, _
  intro X hX
  have hb := hX.keep HF.out (fun h => h)
  exact ⟨blk_set hb 0 (.bool true), ((HS.out.trans hX).mono (fun _ _ h => h.elim)).trans ((Step.refl (· = ab) _).setCell _ _ (fun _ => rfl))⟩
 have HLV : Hid (∀ X, Step (fun _ => False) W X → Calls Try.prog 8 #[.agg #[.int .i64 k, .string nm, .int .u64 v, .bool m, .slice a1 args.length c1, .slice a2 ns.length c2, .slice a3 bs.length c3, .int .i64 l, .int .i64 c]] X fun e w' => e = .returned (.int .i64 LX) ∧ Step (fun _ => False) X w') := by
  show ∀ X, _
  intro X hX
  rw [HLX.out]
  exact level_any _ _ X P (ExP.step hX (fun _ _ h => h) _ _ HEXW.out)
 clear hnd hfl hLX hxa hrow hrn hrb hW
 by_cases hk : k = 14
 ·subst hk
  obtain ⟨xl, xr, hargs, h1, h2, h3⟩ := HND.out.1 rfl
  have hargs : args = [xl, xr] := hargs
  subst hargs
  obtain ⟨LA, hLA⟩ : ∃ LA : Int, LA = (level xl : Nat) := ⟨_, rfl⟩
  obtain ⟨LB, hLB⟩ : ∃ LB : Int, LB = (level xr : Nat) := ⟨_, rfl⟩
  have HLA := Lib.hid hLA
  have HLB := Lib.hid hLB
  have e1 : decide (LX < LB) = true := decide_eq_true (by rw [HLX.out, hLB]; omega)
  have e2 : decide (LX ≤ LA) = true := decide_eq_true (by rw [HLX.out, hLA]; omega)
  have h3' : LX ≠ 2 ∨ (2 : Int) < LA := by
   rcases h3 with h3 | h3
   ·left; rw [HLX.out]; omega
   ·right; rw [hLA]; omega
  obtain ⟨g, o, rfl, hPg, hgw, hcell⟩ := HROW.out (by simp)
  have hca := HXA.out
  rw [ExsP] at hca
  obtain ⟨ca, cr, hxa1, hl1, hr1⟩ := hca
  rw [ExsP] at hr1
  obtain ⟨cb, cz, hxa2, hl2, hz⟩ := hr1
  rw [ExsP] at hz
  subst hz hxa2 hxa1
  have HLEFT := Lib.hid hl1
  have HRIGHT := Lib.hid hl2
  obtain ⟨pk, pn, pv, pm, pa1, pn1, pc1, pa2, pn2, pc2, pa3, pn3, pc3, pl, pc, rfl⟩ := hl1.parts
  obtain ⟨qk, qn, qv, qm, qa1, qn1, qc1, qa2, qn2, qc2, qa3, qn3, qc3, ql, qc, rfl⟩ := hl2.parts
  have HCELL : Hid (∀ X, Step (fun _ => False) W X → ∀ (i : Nat) y, [Value.int .i64 pk, .string pn, .int .u64 pv, .bool pm, .slice pa1 pn1 pc1, .slice pa2 pn2 pc2, .slice pa3 pn3 pc3, .int .i64 pl, .int .i64 pc, .int .i64 qk, .string qn, .int .u64 qv, .bool qm, .slice qa1 qn1 qc1, .slice qa2 qn2 qc2, .slice qa3 qn3 qc3, .int .i64 ql, .int .i64 qc][i]? = some y → X.cell? ⟨g, o + i, none⟩ = some y) := by
   show ∀ X, _
   intro X hX i y hy
   exact hX.cell (HS.out.cell (hcell i y (by simpa using hy)) (fun h => h)) (fun h => h)
  have HCA : Hid (∀ X, Step (fun _ => False) W X → Calls Try.prog 8 #[.agg #[.int .i64 pk, .string pn, .int .u64 pv, .bool pm, .slice pa1 pn1 pc1, .slice pa2 pn2 pc2, .slice pa3 pn3 pc3, .int .i64 pl, .int .i64 pc]] X fun e w' => e = .returned (.int .i64 LA) ∧ Step (fun _ => False) X w') := by
   show ∀ X, _
   intro X hX
   rw [HLA.out]
   exact level_any _ _ X P (ExP.step hX (fun _ _ h => h) _ _ HLEFT.out)
  have HCB : Hid (∀ X, Step (fun _ => False) W X → Calls Try.prog 8 #[.agg #[.int .i64 qk, .string qn, .int .u64 qv, .bool qm, .slice qa1 qn1 qc1, .slice qa2 qn2 qc2, .slice qa3 qn3 qc3, .int .i64 ql, .int .i64 qc]] X fun e w' => e = .returned (.int .i64 LB) ∧ Step (fun _ => False) X w') := by
   show ∀ X, _
   intro X hX
   rw [HLB.out]
   exact level_any _ _ X P (ExP.step hX (fun _ _ h => h) _ _ HRIGHT.out)
  have HFC : Hid (∀ X, Step (fun _ => False) W X → X.cell? ⟨w.heap.size, 4, none⟩ = some (.slice (some ⟨g, o, none⟩) 2 c1) ∧ X.cell? ⟨ab, 0, none⟩ = some (.bool true) ∧ X.frozen? ⟨ab, 0, none⟩ = false) := by
   show ∀ X, _
   intro X hX
   exact ⟨blk_cell (hX.keep HB.out (fun h => h)) 4 _ rfl, blk_cell (hX.keep HF.out (fun h => h)) 0 _ rfl, blk_free (hX.keep HF.out (fun h => h)) 0⟩
  have H3 := Lib.hid h3'
  clear h1 h2 h3 h3' hLA hLB hcell hl1 hl2
  have d0 := blk_cell HB.out 0 _ rfl
  have HW2 : Hid (W = w.alloc (.cells #[.int .i64 14, .string nm, .int .u64 v, .bool m, .slice (some ⟨g, o, none⟩) 2 c1, .slice a2 ns.length c2, .slice a3 bs.length c3, .int .i64 l, .int .i64 c] 29)) := HW.out
  have HLV2 : Hid (∀ X, Step (fun _ => False) W X → Calls Try.prog 8 #[.agg #[.int .i64 14, .string nm, .int .u64 v, .bool m, .slice (some ⟨g, o, none⟩) 2 c1, .slice a2 ns.length c2, .slice a3 bs.length c3, .int .i64 l, .int .i64 c]] X fun e w' => e = .returned (.int .i64 LX) ∧ Step (fun _ => False) X w') := HLV.out
  go_enter Try.func7, Try.ntmps7
  go_upto_region 1 with fail
  rw [← HW2.out]
  go_upto_region 3 with fail
  clear d0
  have HLDX : Hid (∀ (jj : Nat) y, [Value.int .i64 14, .string nm, .int .u64 v, .bool m, .slice (some ⟨g, o, none⟩) 2 c1, .slice a2 ns.length c2, .slice a3 bs.length c3, .int .i64 l, .int .i64 c][jj]? = some y → W.cell? ⟨w.heap.size, 0 + jj, none⟩ = some y) := by
   show ∀ jj y, _
   intro jj y hy
   rw [Nat.zero_add]; exact blk_cell HB.out jj y (by simpa using hy)
  go_wp2_with (refine wpList_load_whole rfl 29 (.tmp 2) rfl w.heap.size 0 rfl [Value.int .i64 14, .string nm, .int .u64 v, .bool m, .slice (some ⟨g, o, none⟩) 2 c1, .slice a2 ns.length c2, .slice a3 bs.length c3, .int .i64 l, .int .i64 c] _ HLDX.out Try.underlying29 rfl Try.sizeExpr ?_)
  refine (HLV2.out W (Step.refl _ _)).mono ?_
  rintro e w2 ⟨rfl, h2⟩
  have HS2 := Lib.hid h2
  clear h2
  obtain ⟨i4, ok0, -⟩ := HFC.out w2 HS2.out
  have f0 : w2.cell? ⟨g, o + 9, none⟩ = some _ := HCELL.out w2 HS2.out 9 _ rfl
  have f1 : w2.cell? ⟨g, o + 10, none⟩ = some _ := HCELL.out w2 HS2.out 10 _ rfl
  have f2 : w2.cell? ⟨g, o + 11, none⟩ = some _ := HCELL.out w2 HS2.out 11 _ rfl
  have f3 : w2.cell? ⟨g, o + 12, none⟩ = some _ := HCELL.out w2 HS2.out 12 _ rfl
  have f4 : w2.cell? ⟨g, o + 13, none⟩ = some _ := HCELL.out w2 HS2.out 13 _ rfl
  have f5 : w2.cell? ⟨g, o + 14, none⟩ = some _ := HCELL.out w2 HS2.out 14 _ rfl
  have f6 : w2.cell? ⟨g, o + 15, none⟩ = some _ := HCELL.out w2 HS2.out 15 _ rfl
  have f7 : w2.cell? ⟨g, o + 16, none⟩ = some _ := HCELL.out w2 HS2.out 16 _ rfl
  have f8 : w2.cell? ⟨g, o + 17, none⟩ = some _ := HCELL.out w2 HS2.out 17 _ rfl
  go_wp2_with fail
  refine (HCB.out w2 HS2.out).mono ?_
  rintro e w3 ⟨rfl, h3⟩
  have HS3 := Lib.hid (HS2.out.trans h3)
  clear h3 i4 ok0 f0 f1 f2 f3 f4 f5 f6 f7 f8
  obtain ⟨i4, ok0, -⟩ := HFC.out w3 HS3.out
  have f0 : w3.cell? ⟨g, o, none⟩ = some _ := HCELL.out w3 HS3.out 0 _ rfl
  have f1 : w3.cell? ⟨g, o + 1, none⟩ = some _ := HCELL.out w3 HS3.out 1 _ rfl
  have f2 : w3.cell? ⟨g, o + 2, none⟩ = some _ := HCELL.out w3 HS3.out 2 _ rfl
  have f3 : w3.cell? ⟨g, o + 3, none⟩ = some _ := HCELL.out w3 HS3.out 3 _ rfl
  have f4 : w3.cell? ⟨g, o + 4, none⟩ = some _ := HCELL.out w3 HS3.out 4 _ rfl
  have f5 : w3.cell? ⟨g, o + 5, none⟩ = some _ := HCELL.out w3 HS3.out 5 _ rfl
  have f6 : w3.cell? ⟨g, o + 6, none⟩ = some _ := HCELL.out w3 HS3.out 6 _ rfl
  have f7 : w3.cell? ⟨g, o + 7, none⟩ = some _ := HCELL.out w3 HS3.out 7 _ rfl
  have f8 : w3.cell? ⟨g, o + 8, none⟩ = some _ := HCELL.out w3 HS3.out 8 _ rfl
  go_wp2_with fail
  refine (HCA.out w3 HS3.out).mono ?_
  rintro e w4 ⟨rfl, h4⟩
  have HS4 := Lib.hid (HS3.out.trans h4)
  clear h4 i4 ok0 f0 f1 f2 f3 f4 f5 f6 f7 f8
  by_cases hx2 : LX = 2
  ·subst hx2
   have hla : (2 : Int) < LA := by
    rcases H3.out with h | h
    ·exact absurd rfl h
    ·exact h
   have e3 : decide ((2 : Int) < LA) = true := decide_eq_true hla
   obtain ⟨i4, ok0, -⟩ := HFC.out w4 HS4.out
   have f0 : w4.cell? ⟨g, o, none⟩ = some _ := HCELL.out w4 HS4.out 0 _ rfl
   have f1 : w4.cell? ⟨g, o + 1, none⟩ = some _ := HCELL.out w4 HS4.out 1 _ rfl
   have f2 : w4.cell? ⟨g, o + 2, none⟩ = some _ := HCELL.out w4 HS4.out 2 _ rfl
   have f3 : w4.cell? ⟨g, o + 3, none⟩ = some _ := HCELL.out w4 HS4.out 3 _ rfl
   have f4 : w4.cell? ⟨g, o + 4, none⟩ = some _ := HCELL.out w4 HS4.out 4 _ rfl
   have f5 : w4.cell? ⟨g, o + 5, none⟩ = some _ := HCELL.out w4 HS4.out 5 _ rfl
   have f6 : w4.cell? ⟨g, o + 6, none⟩ = some _ := HCELL.out w4 HS4.out 6 _ rfl
   have f7 : w4.cell? ⟨g, o + 7, none⟩ = some _ := HCELL.out w4 HS4.out 7 _ rfl
   have f8 : w4.cell? ⟨g, o + 8, none⟩ = some _ := HCELL.out w4 HS4.out 8 _ rfl
   go_wp2_with fail
   refine (HCA.out w4 HS4.out).mono ?_
   rintro e w5 ⟨rfl, h5⟩
   have HS5 := Lib.hid (HS4.out.trans h5)
   clear h5 i4 ok0 f0 f1 f2 f3 f4 f5 f6 f7 f8
   obtain ⟨-, ok0, okz⟩ := HFC.out w5 HS5.out
   go_wp2_with fail
   go_end0
   exact ⟨rfl, HSAB.out w5 HS5.out⟩
  ·have e3 : (LX != 2) = true := by simpa using hx2
   obtain ⟨-, ok0, okz⟩ := HFC.out w4 HS4.out
   go_wp2_with fail
   go_end0
   exact ⟨rfl, HSAB.out w4 HS4.out⟩
 ·by_cases hk2 : k = 7 ∨ k = 8 ∨ k = 15
  ·obtain ⟨xl, hargs, h1⟩ := HND.out.2.1 hk2
   have hargs : args = [xl] := hargs
   subst hargs
   obtain ⟨g, o, rfl, hPg, hgw, hcell⟩ := HROW.out (by simp)
   have hca := HXA.out
   rw [ExsP] at hca
   obtain ⟨ca, cz, hxa1, hl1, hz⟩ := hca
   rw [ExsP] at hz
   subst hz hxa1
   have HLEFT := Lib.hid hl1
   have H5 := Lib.hid h1
   obtain ⟨pk, pn, pv, pm, pa1, pn1, pc1, pa2, pn2, pc2, pa3, pn3, pc3, pl, pc, rfl⟩ := hl1.parts
   have HCELL : Hid (∀ X, Step (fun _ => False) W X → ∀ (i : Nat) y, [Value.int .i64 pk, .string pn, .int .u64 pv, .bool pm, .slice pa1 pn1 pc1, .slice pa2 pn2 pc2, .slice pa3 pn3 pc3, .int .i64 pl, .int .i64 pc][i]? = some y → X.cell? ⟨g, o + i, none⟩ = some y) := by
    show ∀ X, _
    intro X hX i y hy
    exact hX.cell (HS.out.cell (hcell i y (by simpa using hy)) (fun h => h)) (fun h => h)
   have HCA : Hid (∀ X, Step (fun _ => False) W X → Calls Try.prog 8 #[.agg #[.int .i64 pk, .string pn, .int .u64 pv, .bool pm, .slice pa1 pn1 pc1, .slice pa2 pn2 pc2, .slice pa3 pn3 pc3, .int .i64 pl, .int .i64 pc]] X fun e w' => e = .returned (.int .i64 5) ∧ Step (fun _ => False) X w') := by
    show ∀ X, _
    intro X hX
    have h9 := level_any _ _ X P (ExP.step hX (fun _ _ h => h) _ _ HLEFT.out)
    rw [H5.out] at h9
    exact h9
   have HFC : Hid (∀ X, Step (fun _ => False) W X → X.cell? ⟨ab, 0, none⟩ = some (.bool true) ∧ X.frozen? ⟨ab, 0, none⟩ = false) := by
    show ∀ X, _
    intro X hX
    exact ⟨blk_cell (hX.keep HF.out (fun h => h)) 0 _ rfl, blk_free (hX.keep HF.out (fun h => h)) 0⟩
   have d0 := blk_cell HB.out 0 _ rfl
   have i4 : W.cell? ⟨w.heap.size, 4, none⟩ = some (.slice (some ⟨g, o, none⟩) 1 c1) := blk_cell HB.out 4 _ rfl
   obtain ⟨ok0, -⟩ := HFC.out W (Step.refl _ _)
   have f0 : W.cell? ⟨g, o, none⟩ = some _ := HCELL.out W (Step.refl _ _) 0 _ rfl
   have f1 : W.cell? ⟨g, o + 1, none⟩ = some _ := HCELL.out W (Step.refl _ _) 1 _ rfl
   have f2 : W.cell? ⟨g, o + 2, none⟩ = some _ := HCELL.out W (Step.refl _ _) 2 _ rfl
   have f3 : W.cell? ⟨g, o + 3, none⟩ = some _ := HCELL.out W (Step.refl _ _) 3 _ rfl
   have f4 : W.cell? ⟨g, o + 4, none⟩ = some _ := HCELL.out W (Step.refl _ _) 4 _ rfl
   have f5 : W.cell? ⟨g, o + 5, none⟩ = some _ := HCELL.out W (Step.refl _ _) 5 _ rfl
   have f6 : W.cell? ⟨g, o + 6, none⟩ = some _ := HCELL.out W (Step.refl _ _) 6 _ rfl
   have f7 : W.cell? ⟨g, o + 7, none⟩ = some _ := HCELL.out W (Step.refl _ _) 7 _ rfl
   have f8 : W.cell? ⟨g, o + 8, none⟩ = some _ := HCELL.out W (Step.refl _ _) 8 _ rfl
   clear h1 hcell hl1
   rcases hk2 with rfl | rfl | rfl
   ·go_enter Try.func7, Try.ntmps7
    go_upto_region 1 with fail
    have HW2 : Hid (W = w.alloc (.cells #[.int .i64 7, .string nm, .int .u64 v, .bool m, .slice (some ⟨g, o, none⟩) 1 c1, .slice a2 ns.length c2, .slice a3 bs.length c3, .int .i64 l, .int .i64 c] 29)) := HW.out
    rw [← HW2.out]
    go_wp2_with fail
    refine (HCA.out W (Step.refl _ _)).mono ?_
    rintro e w5 ⟨rfl, h5⟩
    have HS5 := Lib.hid h5
    clear h5 i4 ok0 d0 f0 f1 f2 f3 f4 f5 f6 f7 f8
    obtain ⟨ok0, okz⟩ := HFC.out w5 HS5.out
    go_wp2_with fail
    go_end0
    exact ⟨rfl, HSAB.out w5 HS5.out⟩
   ·go_enter Try.func7, Try.ntmps7
    go_upto_region 1 with fail
    have HW2 : Hid (W = w.alloc (.cells #[.int .i64 8, .string nm, .int .u64 v, .bool m, .slice (some ⟨g, o, none⟩) 1 c1, .slice a2 ns.length c2, .slice a3 bs.length c3, .int .i64 l, .int .i64 c] 29)) := HW.out
    rw [← HW2.out]
    go_wp2_with fail
    refine (HCA.out W (Step.refl _ _)).mono ?_
    rintro e w5 ⟨rfl, h5⟩
    have HS5 := Lib.hid h5
    clear h5 i4 ok0 d0 f0 f1 f2 f3 f4 f5 f6 f7 f8
    obtain ⟨ok0, okz⟩ := HFC.out w5 HS5.out
    go_wp2_with fail
    go_end0
    exact ⟨rfl, HSAB.out w5 HS5.out⟩
   ·go_enter Try.func7, Try.ntmps7
    go_upto_region 1 with fail
    have HW2 : Hid (W = w.alloc (.cells #[.int .i64 15, .string nm, .int .u64 v, .bool m, .slice (some ⟨g, o, none⟩) 1 c1, .slice a2 ns.length c2, .slice a3 bs.length c3, .int .i64 l, .int .i64 c] 29)) := HW.out
    rw [← HW2.out]
    go_wp2_with fail
    refine (HCA.out W (Step.refl _ _)).mono ?_
    rintro e w5 ⟨rfl, h5⟩
    have HS5 := Lib.hid h5
    clear h5 i4 ok0 d0 f0 f1 f2 f3 f4 f5 f6 f7 f8
    obtain ⟨ok0, okz⟩ := HFC.out w5 HS5.out
    go_wp2_with fail
    go_end0
    exact ⟨rfl, HSAB.out w5 HS5.out⟩
  ·have n1 : (k == 14) = false := by simpa using hk
   have n2 : (k == 7) = false := by simpa using fun e => hk2 (.inl e)
   have n3 : (k == 8) = false := by simpa using fun e => hk2 (.inr (.inl e))
   have n4 : (k == 15) = false := by simpa using fun e => hk2 (.inr (.inr e))
   by_cases hk3 : k = 6 ∨ k = 13
   ·obtain ⟨xl, al, hargs, h1⟩ := HND.out.2.2 hk3
    have hargs : args = xl :: al := hargs
    subst hargs
    obtain ⟨g, o, rfl, hPg, hgw, hcell⟩ := HROW.out (by simp)
    have hca := HXA.out
    rw [ExsP] at hca
    obtain ⟨ca, cz, hxa1, hl1, -⟩ := hca
    subst hxa1
    obtain ⟨yk, yn, yv, ym, yargs, yns, ybs, yl, yc⟩ := xl
    rw [ExP] at hl1
    obtain ⟨_, _, _, _, _, rfl, -⟩ := hl1
    obtain ⟨p1, p2, p3, p4, p5⟩ := h1
    have p1 : (yk != 14) = true := by simpa using (show ¬ yk = 14 from p1)
    have p2 : (yk != 7) = true := by simpa using (show ¬ yk = 7 from p2)
    have p3 : (yk != 8) = true := by simpa using (show ¬ yk = 8 from p3)
    have p4 : (yk != 15) = true := by simpa using (show ¬ yk = 15 from p4)
    have p5 : (yk != 0) = true := by simpa using (show ¬ yk = 0 from p5)
    have d0 := blk_cell HB.out 0 _ rfl
    have i4 : W.cell? ⟨w.heap.size, 4, none⟩ = some (.slice (some ⟨g, o, none⟩) (al.length + 1) c1) := blk_cell HB.out 4 _ rfl
    have ok0 : W.cell? ⟨ab, 0, none⟩ = some (.bool true) := blk_cell HF.out 0 _ rfl
    have okz : W.frozen? ⟨ab, 0, none⟩ = false := blk_free HF.out 0
    have f0 : W.cell? ⟨g, o, none⟩ = some (.int .i64 yk) := HS.out.cell (by have h9 := hcell 0 _ rfl; rw [Nat.add_zero] at h9; exact h9) (fun h => h)
    have hn0 : (0 : Int) < (al.length : Int) + 1 := by omega
    have hn1 : decide ((0 : Int) < (al.length : Int) + 1) = true := decide_eq_true (by omega)
    have hn2 : decide (0 < al.length + 1) = true := decide_eq_true (by omega)
    clear hcell
    rcases hk3 with rfl | rfl
    ·go_enter Try.func7, Try.ntmps7
     go_upto_region 1 with fail
     have HW2 : Hid (W = w.alloc (.cells #[.int .i64 6, .string nm, .int .u64 v, .bool m, .slice (some ⟨g, o, none⟩) (al.length + 1) c1, .slice a2 ns.length c2, .slice a3 bs.length c3, .int .i64 l, .int .i64 c] 29)) := HW.out
     rw [← HW2.out]
     go_wp2_with fail
     go_end0
     exact ⟨rfl, HSAB.out W (Step.refl _ _)⟩
    ·go_enter Try.func7, Try.ntmps7
     go_upto_region 1 with fail
     have HW2 : Hid (W = w.alloc (.cells #[.int .i64 13, .string nm, .int .u64 v, .bool m, .slice (some ⟨g, o, none⟩) (al.length + 1) c1, .slice a2 ns.length c2, .slice a3 bs.length c3, .int .i64 l, .int .i64 c] 29)) := HW.out
     rw [← HW2.out]
     go_wp2_with fail
     go_end0
     exact ⟨rfl, HSAB.out W (Step.refl _ _)⟩
   ·have n5 : (k == 6) = false := by simpa using fun e => hk3 (.inl e)
    have n6 : (k == 13) = false := by simpa using fun e => hk3 (.inr e)
    have d0 := blk_cell HB.out 0 _ rfl
    go_enter Try.func7, Try.ntmps7
    go_upto_region 1 with fail
    rw [← HW.out]
    go_wp2_with fail
    go_end0
    exact ⟨rfl, HF.out, HS.out.mono (fun _ _ h => h.elim)⟩
theorem bytes_of {s : ByteArray} {l : List UInt8} (h : s.data.toList = l) : s = ⟨l.toArray⟩ := by
 obtain ⟨⟨d⟩⟩ := s
 have h : d = l := h
 rw [h]
def chkE (r : Except (Nat × Nat × Nat) Ex) : Bool := match r with
 | .ok (.mk k nm _ _ [.mk k1 _ _ _ _ _ _ _ _, .mk _ nm2 _ _ _ _ _ _ _] _ _ _ _) => decide (k = 14) && decide (nm.data.toList = [43]) && decide (k1 = 6) && decide (nm2.data.toList = [42])
 | _ => false
theorem chkE_ok {r : Except (Nat × Nat × Nat) Ex} (h : chkE r = true) : ∃ v m nm1 v1 m1 as1 ns1 bs1 l1 c1 k2 v2 m2 as2 ns2 bs2 l2 c2 ns bs l c, r = .ok (.mk 14 ⟨#[43]⟩ v m [.mk 6 nm1 v1 m1 as1 ns1 bs1 l1 c1, .mk k2 ⟨#[42]⟩ v2 m2 as2 ns2 bs2 l2 c2] ns bs l c) := by
 unfold chkE at h
 split at h
 ·simp only [Bool.and_eq_true, decide_eq_true_eq] at h
  obtain ⟨⟨⟨h1, h2⟩, h3⟩, h4⟩ := h
  rw [bytes_of h2, bytes_of h4, h1, h3]
  exact ⟨_, _, _, _, _, _, _, _, _, _, _, _, _, _, _, _, _, _, _, _, _, _, rfl⟩
 ·cases h
def chkP (r : Except (Nat × Nat × Nat) (List It)) : Bool := match r with
 | .ok [it] => decide (it.name.data.toList = [102])
 | _ => false
theorem chkP_ok {r : Except (Nat × Nat × Nat) (List It)} (h : chkP r = true) : ∃ it, r = .ok [it] ∧ it.name = ⟨#[102]⟩ := by
 unfold chkP at h
 split at h
 ·rename_i it
  exact ⟨it, rfl, bytes_of (of_decide_eq_true h)⟩
 ·cases h
theorem chkE_true : chkE (exprF [97, 32, 46, 32, 98, 32, 43, 32, 49, 32, 42, 32, 99]) = true := by kernel_rfl
theorem chkP_true : chkP (progF [102, 110, 32, 102, 32, 40, 32, 41, 32, 123, 32, 125]) = true := by kernel_rfl
theorem parsed_any (w : World) (m : Int) (hm : w.cell? ⟨0, 0, none⟩ = some (.int .i64 m)) : Calls Try.prog 5 #[] w fun e w' => e = .returned (.bool true) ∧ Step (fun _ => False) w w' := by
 obtain ⟨v, mu, nm1, v1, m1, as1, ns1, bs1, l1, c1, k2, v2, m2, as2, ns2, bs2, l2, c2, ns, bs, l, c, hx⟩ := chkE_ok chkE_true
 obtain ⟨it, hp, hname⟩ := chkP_ok chkP_true
 have HM := Lib.hid hm
 have hce := expr_text ⟨#[97, 32, 46, 32, 98, 32, 43, 32, 49, 32, 42, 32, 99]⟩ w m hm
 have hce : Calls Try.prog 4 #[.string ⟨#[97, 32, 46, 32, 98, 32, 43, 32, 49, 32, 42, 32, 99]⟩] w (exprTup (exprF [97, 32, 46, 32, 98, 32, 43, 32, 49, 32, 42, 32, 99]) w) := hce
 rw [hx] at hce
 have HCE := Lib.hid hce
 have HX := Lib.hid hp
 clear hx hce hm hp
 go_enter Try.func5, Try.ntmps5
 go_upto_region 1 with fail
 go_wp2_with fail
 refine HCE.out.mono ?_
 rintro e w1 ⟨⟨u, rfl, cs, rfl, hy⟩, h1⟩
 have hlen := hy.len
 have hone := hy.one
 rw [ExP] at hy
 obtain ⟨va, vn, vb, xa, xb, rfl, -, -, hxa, hra, hrn, -, hrb⟩ := hy
 obtain ⟨e2, d2, rfl⟩ := hrn.parts
 obtain ⟨e3, d3, rfl⟩ := hrb.parts
 obtain ⟨a1, n1, rfl, -, -, -, hrow⟩ := hra
 obtain ⟨g, o, rfl, -, hgw, hcell⟩ := hrow (by simp)
 obtain ⟨n2, hn2⟩ : ∃ n, n = ns.length := ⟨_, rfl⟩
 obtain ⟨n3, hn3⟩ : ∃ n, n = bs.length := ⟨_, rfl⟩
 rw [← hn2, ← hn3] at hone
 rw [← hn2, ← hn3]
 rw [ExsP] at hxa
 obtain ⟨ca, cr, rfl, hl1, hr1⟩ := hxa
 rw [ExsP] at hr1
 obtain ⟨cb, cz, rfl, hl2, hz⟩ := hr1
 rw [ExP] at hl1 hl2
 obtain ⟨p1, p2, p3, p4, p5, rfl, -⟩ := hl1
 obtain ⟨q1, q2, q3, q4, q5, rfl, -⟩ := hl2
 have hf0 : w1.cell? ⟨g, o, none⟩ = some (.int .i64 6) := by have h9 := hcell 0 _ rfl; rw [Nat.add_zero] at h9; exact h9
 have hf1 : w1.cell? ⟨g, o + 10, none⟩ = some (.string ⟨#[42]⟩) := hcell 10 _ rfl
 obtain ⟨w2, hw2⟩ : ∃ w2 : World, w2 = (w1.alloc (.cells #[.int .i64 0, .string ⟨#[]⟩, .int .u64 0, .bool false, .slice none 0 0, .slice none 0 0, .slice none 0 0, .int .i64 0, .int .i64 0] 29)).alloc (.cells #[.int .i64 0, .int .i64 0, .int .i64 0] 32) := ⟨_, rfl⟩
 have HS2 : Hid (Step (fun _ => False) w1 w2) := by show Step _ _ _; rw [hw2]; exact ((Step.refl _ _).alloc _).alloc _
 have HA : Hid (w2.heap[w1.heap.size]? = some (.cells #[.int .i64 0, .string ⟨#[]⟩, .int .u64 0, .bool false, .slice none 0 0, .slice none 0 0, .slice none 0 0, .int .i64 0, .int .i64 0] 29 (0, 0))) := by show _ = _; rw [hw2]; exact blk_alloc (blk_new _ _)
 have HB : Hid (w2.heap[w1.heap.size + 1]? = some (.cells #[.int .i64 0, .int .i64 0, .int .i64 0] 32 (0, 0))) := by show _ = _; rw [hw2]; exact blk_new2 _ _ _
 have HW2 := Lib.hid hw2
 have HF0 := Lib.hid hf0
 have HF1 := Lib.hid hf1
 have HS1 := Lib.hid h1
 have HONE : Hid (∀ u ∈ ([.int .i64 14, .string ⟨#[43]⟩, .int .u64 v, .bool mu, .slice (some ⟨g, o, none⟩) 2 n1, .slice e2 n2 d2, .slice e3 n3 d3, .int .i64 l, .int .i64 c] : List Value), u.oneCell' = true) := hone
 clear hcell hrow hlen hz hn2 hn3 hw2 hf0 hf1 h1 hone
 go_wp2_with (first
  | (refine wpList_store_part (w := w2) rfl 29 (.tmp 1) (.tmp 7) rfl w1.heap.size 0 29 _ [.int .i64 14, .string ⟨#[43]⟩, .int .u64 v, .bool mu, .slice (some ⟨g, o, none⟩) 2 n1, .slice e2 n2 d2, .slice e3 n3 d3, .int .i64 l, .int .i64 c] rfl rfl HA.out Try.sizeExpr (Nat.le_of_eq rfl) HONE.out ?_
     intro w4 hb4 hst4
     have her4 := hst4.keep HB.out (by omega))
  | (refine wpList_store_part (w := w4) rfl 32 (.tmp 2) (.tmp 8) rfl (w1.heap.size + 1) 0 32 _ [.int .i64 0, .int .i64 0, .int .i64 0] rfl rfl her4 Try.sizeErr (Nat.le_of_eq rfl) (oneCells rfl) ?_
     intro w5 hb5 hst5)
  | rw [← HW2.out])
 have hs5 : Step (fun _ => False) w w5 := (((HS1.out.trans HS2.out).then hst4 (fun q hq e => by have := HS1.out.size; omega)).then hst5 (fun q hq e => by have := HS1.out.size; omega))
 have hs15 : Step (fun q => q = w1.heap.size ∨ q = w1.heap.size + 1) w1 w5 := ((HS2.out.mono (fun _ _ h => h.elim)).trans (hst4.mono (fun _ _ e => .inl e))).trans (hst5.mono (fun _ _ e => .inr e))
 have hcp := prog_text ⟨#[102, 110, 32, 102, 32, 40, 32, 41, 32, 123, 32, 125]⟩ w5 m (hs5.cell HM.out (fun h => h))
 have hcp : Calls Try.prog 11 #[.string ⟨#[102, 110, 32, 102, 32, 40, 32, 41, 32, 123, 32, 125]⟩] w5 (progTup (progF [102, 110, 32, 102, 32, 40, 32, 41, 32, 123, 32, 125]) w5) := hcp
 rw [HX.out] at hcp
 have hgne : ¬ (g = w1.heap.size ∨ g = w1.heap.size + 1) := by omega
 have HF05 := Lib.hid (hs15.cell HF0.out hgne)
 have HF15 := Lib.hid (hs15.cell HF1.out hgne)
 have hA5 : w5.heap[w1.heap.size]? = some (.cells #[.int .i64 14, .string ⟨#[43]⟩, .int .u64 v, .bool mu, .slice (some ⟨g, o, none⟩) 2 n1, .slice e2 n2 d2, .slice e3 n3 d3, .int .i64 l, .int .i64 c] 29 (0, 0)) := hst5.keep hb4 (by omega)
 have hB5 : w5.heap[w1.heap.size + 1]? = some (.cells #[.int .i64 0, .int .i64 0, .int .i64 0] 32 (0, 0)) := hb5
 have HA5 := Lib.hid hA5
 have HB5 := Lib.hid hB5
 have HS5 := Lib.hid hs5
 have HCP := Lib.hid hcp
 have HGW := Lib.hid hgw
 clear hs5 hs15 hcp hA5 hB5 hb4 hb5 hst4 hst5 her4
 refine HCP.out.mono ?_
 rintro e w6 ⟨⟨pv, rfl, xs, hrow2, hls⟩, h6⟩
 obtain ⟨pa, pc, rfl, -, -, -, hrow2⟩ := hrow2
 obtain ⟨g2, o2, rfl, -, hg2, hcell2⟩ := hrow2 (by simp)
 obtain ⟨y1, y2, rfl, hit, -⟩ := hls
 obtain ⟨ct, vl, vt, vf, vw, vm, vb2, rfl, -⟩ := hit
 have hf2 : w6.cell? ⟨g2, o2 + 1, none⟩ = some (.string ⟨#[102]⟩) := by
  rw [← hname]
  exact hcell2 1 _ rfl
 obtain ⟨w7, hw7⟩ : ∃ w7 : World, w7 = w6.alloc (.cells #[.int .i64 0, .int .i64 0, .int .i64 0] 32) := ⟨_, rfl⟩
 have HS7 : Hid (Step (fun _ => False) w6 w7) := by show Step _ _ _; rw [hw7]; exact (Step.refl _ _).alloc _
 have HC7 : Hid (w7.heap[w6.heap.size]? = some (.cells #[.int .i64 0, .int .i64 0, .int .i64 0] 32 (0, 0))) := by show _ = _; rw [hw7]; exact blk_new _ _
 have HW7 := Lib.hid hw7
 have HS6 := Lib.hid h6
 have HF2 := Lib.hid hf2
 have HG2 := Lib.hid hg2
 clear hcell2 hrow2 hf2 h6 hw7 hg2
 go_upto_region 3 with (first
  | (refine wpList_store_part (w := w7) rfl 32 (.tmp 4) (.tmp 12) rfl w6.heap.size 0 32 _ [.int .i64 0, .int .i64 0, .int .i64 0] rfl rfl HC7.out Try.sizeErr (Nat.le_of_eq rfl) (oneCells rfl) ?_
     intro w8 hb8 hst8)
  | rw [← HW7.out])
 have hz1 := blk_lt HA5.out
 have hz2 := blk_lt HB5.out
 have hz3 := HS6.out.size
 have hz4 := HG2.out
 have hz5 := HS5.out.size
 have s78 : Step (· = w6.heap.size) w6 w8 := (HS7.out.mono (fun _ _ h => h.elim)).trans hst8
 have s58 : Step (· = w6.heap.size) w5 w8 := (HS6.out.mono (fun _ _ h => h.elim)).trans s78
 have hA8 := s58.keep HA5.out (by omega)
 have hB8 := s58.keep HB5.out (by omega)
 have i0 := blk_cell hA8 0 _ rfl
 have i1 := blk_cell hA8 1 _ rfl
 have i4 := blk_cell hA8 4 _ rfl
 obtain ⟨⟨j0, j1, j2⟩, -⟩ := blk3 hB8
 have hb8' : w8.heap[w6.heap.size]? = some (.cells #[.int .i64 0, .int .i64 0, .int .i64 0] 32 (0, 0)) := hb8
 obtain ⟨⟨k0, k1, k3⟩, -⟩ := blk3 hb8'
 have n1 := s78.cell HF2.out (show ¬ g2 = w6.heap.size by omega)
 have f0 := s58.cell HF05.out (show ¬ g = w6.heap.size by have := HGW.out; omega)
 have f1 := s58.cell HF15.out (show ¬ g = w6.heap.size by have := HGW.out; omega)
 have HEND : Hid (Step (fun _ => False) w w8) := HS5.out.then s58 (fun q hq e => by omega)
 clear hz1 hz2 hz3 hz4 hz5 s78 s58 hA8 hB8 hb8 hb8' hst8
 go_wp2_with fail
 go_ret
 exact ⟨rfl, HEND.out⟩
theorem enters_levels : Enters 7 := fun xs w => by go_simp
theorem parseLevels_any (s : ByteArray) (w : World) (m : Int) (hm : w.cell? ⟨0, 0, none⟩ = some (.int .i64 m)) : Calls Try.prog 3 #[.string s] w fun e w' => e = .returned (.bool true) ∧ Step (fun _ => False) w w' := by
 have hmf : ∀ (fn : Fn) (first cap : Array Value) (w : World), (Instr.makeFunc fn first cap).run Try.prog w = .ok (.func fn first cap) w := fun _ _ _ _ => rfl
 have HM := Lib.hid hm
 have HCE := Lib.hid (expr_text s w m hm)
 have HC0 : Hid (∀ c ln col, exprF s.data.toList = .error (c, ln, col) → c ≠ 0) := by
  show ∀ c ln col, _
  intro c ln col e
  exact outR_err (fun l c ln col hl he => (expr_gd hl).code he) e
 have HAL : Hid (∀ x, exprF s.data.toList = .ok x → AE x) := by
  show ∀ x, _
  exact fun x h => exprF_all h
 clear hm
 obtain ⟨r, hr⟩ : ∃ r, r = exprF s.data.toList := ⟨_, rfl⟩
 rw [← hr] at HCE HC0 HAL
 clear hr
 go_enter Try.func3, Try.ntmps3
 go_upto_region 1 with fail
 go_wp2_with fail
 refine HCE.out.mono ?_
 cases r with
 | error q =>
  obtain ⟨c, ln, col⟩ := q
  obtain ⟨ec, hec⟩ : ∃ e : Int, e = (c : Nat) := ⟨_, rfl⟩
  obtain ⟨eln, heln⟩ : ∃ e : Int, e = (ln : Nat) := ⟨_, rfl⟩
  obtain ⟨ecol, hecol⟩ : ∃ e : Int, e = (col : Nat) := ⟨_, rfl⟩
  have hc0 := HC0.out c ln col rfl
  have bc : (ec == 0) = false := by rw [beq_eq_false_iff_ne, hec]; omega
  rintro e w1 ⟨he, h1⟩
  have he : e = .returned (.tuple #[.agg #[.int .i64 0, .string ⟨#[]⟩, .int .u64 0, .bool false, .slice none 0 0, .slice none 0 0, .slice none 0 0, .int .i64 0, .int .i64 0], .agg #[.int .i64 (c : Nat), .int .i64 (ln : Nat), .int .i64 (col : Nat)]]) := he
  rw [← hec, ← heln, ← hecol] at he
  subst he
  have HS1 := Lib.hid h1
  clear h1 hc0 hec heln hecol HC0 HAL HCE
  obtain ⟨w2, hw2⟩ : ∃ w2 : World, w2 = (w1.alloc (.cells #[.int .i64 0, .string ⟨#[]⟩, .int .u64 0, .bool false, .slice none 0 0, .slice none 0 0, .slice none 0 0, .int .i64 0, .int .i64 0] 29)).alloc (.cells #[.int .i64 0, .int .i64 0, .int .i64 0] 32) := ⟨_, rfl⟩
  have HS2 : Hid (Step (fun _ => False) w1 w2) := by show Step _ _ _; rw [hw2]; exact ((Step.refl _ _).alloc _).alloc _
  have HA : Hid (w2.heap[w1.heap.size]? = some (.cells #[.int .i64 0, .string ⟨#[]⟩, .int .u64 0, .bool false, .slice none 0 0, .slice none 0 0, .slice none 0 0, .int .i64 0, .int .i64 0] 29 (0, 0))) := by show _ = _; rw [hw2]; exact blk_alloc (blk_new _ _)
  have HB : Hid (w2.heap[w1.heap.size + 1]? = some (.cells #[.int .i64 0, .int .i64 0, .int .i64 0] 32 (0, 0))) := by show _ = _; rw [hw2]; exact blk_new2 _ _ _
  have HW2 := Lib.hid hw2
  clear hw2
  go_upto_region 2 with (first
   | (refine wpList_store_part (w := w2) rfl 29 (.tmp 3) (.tmp 9) rfl w1.heap.size 0 29 _ [.int .i64 0, .string ⟨#[]⟩, .int .u64 0, .bool false, .slice none 0 0, .slice none 0 0, .slice none 0 0, .int .i64 0, .int .i64 0] rfl rfl HA.out Try.sizeExpr (Nat.le_of_eq rfl) (oneCells rfl) ?_
      intro w4 hb4 hst4
      have her4 := hst4.keep HB.out (by omega))
   | (refine wpList_store_part (w := w4) rfl 32 (.tmp 4) (.tmp 10) rfl (w1.heap.size + 1) 0 32 _ [.int .i64 ec, .int .i64 eln, .int .i64 ecol] rfl rfl her4 Try.sizeErr (Nat.le_of_eq rfl) (oneCells rfl) ?_
      intro w5 hb5 hst5)
   | rw [← HW2.out])
  have hs5 : Step (fun _ => False) w w5 := (((HS1.out.trans HS2.out).then hst4 (fun q hq e => by have := HS1.out.size; omega)).then hst5 (fun q hq e => by have := HS1.out.size; omega))
  have hB5 : w5.heap[w1.heap.size + 1]? = some (.cells #[.int .i64 ec, .int .i64 eln, .int .i64 ecol] 32 (0, 0)) := hb5
  have HB5 := Lib.hid hB5
  have HS5 := Lib.hid hs5
  obtain ⟨⟨j0, j1, j2⟩, -⟩ := blk3 hB5
  clear hs5 hB5 hb4 hb5 hst4 hst5 her4
  go_wp2_with fail
  refine (parsed_any w5 m (HS5.out.cell HM.out (fun h => h))).mono ?_
  rintro e w6 ⟨rfl, h6⟩
  have hB6 := h6.keep HB5.out (fun h => h)
  obtain ⟨⟨j0, j1, j2⟩, -⟩ := blk3 hB6
  have HS6 := Lib.hid (HS5.out.trans h6)
  clear h6 hB6
  go_wp2_with fail
  refine (parsed_any w6 m (HS6.out.cell HM.out (fun h => h))).mono ?_
  rintro e w7 ⟨rfl, h7⟩
  have HS7 := Lib.hid (HS6.out.trans h7)
  clear h7
  go_wp2_with fail
  go_ret
  exact ⟨rfl, HS7.out⟩
 | ok x =>
  rintro e w1 ⟨⟨u, rfl, cs, rfl, hy⟩, h1⟩
  obtain ⟨k0, nm0, v0, mu0, a1, n1, c1, a2, n2, c2, a3, n3, c3, l0, c0, rfl⟩ := hy.parts
  have HS1 := Lib.hid h1
  have HX1 := Lib.hid (ExP.mono (P' := fun q => q < w1.heap.size) (fun q hq _ => hq) _ _ hy)
  have HAX := Lib.hid (HAL.out x rfl)
  clear h1 hy HC0 HAL HCE
  obtain ⟨w2, hw2⟩ : ∃ w2 : World, w2 = (w1.alloc (.cells #[.int .i64 0, .string ⟨#[]⟩, .int .u64 0, .bool false, .slice none 0 0, .slice none 0 0, .slice none 0 0, .int .i64 0, .int .i64 0] 29)).alloc (.cells #[.int .i64 0, .int .i64 0, .int .i64 0] 32) := ⟨_, rfl⟩
  have HS2 : Hid (Step (fun _ => False) w1 w2) := by show Step _ _ _; rw [hw2]; exact ((Step.refl _ _).alloc _).alloc _
  have HA : Hid (w2.heap[w1.heap.size]? = some (.cells #[.int .i64 0, .string ⟨#[]⟩, .int .u64 0, .bool false, .slice none 0 0, .slice none 0 0, .slice none 0 0, .int .i64 0, .int .i64 0] 29 (0, 0))) := by show _ = _; rw [hw2]; exact blk_alloc (blk_new _ _)
  have HB : Hid (w2.heap[w1.heap.size + 1]? = some (.cells #[.int .i64 0, .int .i64 0, .int .i64 0] 32 (0, 0))) := by show _ = _; rw [hw2]; exact blk_new2 _ _ _
  have HW2 := Lib.hid hw2
  clear hw2
  go_upto_region 2 with (first
   | (refine wpList_store_part (w := w2) rfl 29 (.tmp 3) (.tmp 9) rfl w1.heap.size 0 29 _ [.int .i64 k0, .string nm0, .int .u64 v0, .bool mu0, .slice a1 n1 c1, .slice a2 n2 c2, .slice a3 n3 c3, .int .i64 l0, .int .i64 c0] rfl rfl HA.out Try.sizeExpr (Nat.le_of_eq rfl) (oneCells rfl) ?_
      intro w4 hb4 hst4
      have her4 := hst4.keep HB.out (by omega))
   | (refine wpList_store_part (w := w4) rfl 32 (.tmp 4) (.tmp 10) rfl (w1.heap.size + 1) 0 32 _ [.int .i64 0, .int .i64 0, .int .i64 0] rfl rfl her4 Try.sizeErr (Nat.le_of_eq rfl) (oneCells rfl) ?_
      intro w5 hb5 hst5)
   | rw [← HW2.out])
  have hs5 : Step (fun _ => False) w w5 := (((HS1.out.trans HS2.out).then hst4 (fun q hq e => by have := HS1.out.size; omega)).then hst5 (fun q hq e => by have := HS1.out.size; omega))
  have hB5 : w5.heap[w1.heap.size + 1]? = some (.cells #[.int .i64 0, .int .i64 0, .int .i64 0] 32 (0, 0)) := hb5
  have HB5 := Lib.hid hB5
  have HS5 := Lib.hid hs5
  have hA5 : w5.heap[w1.heap.size]? = some (.cells #[.int .i64 k0, .string nm0, .int .u64 v0, .bool mu0, .slice a1 n1 c1, .slice a2 n2 c2, .slice a3 n3 c3, .int .i64 l0, .int .i64 c0] 29 (0, 0)) := hst5.keep hb4 (by omega)
  have HA5 := Lib.hid hA5
  have HX5 := Lib.hid (ExP.step hst5 (fun q hq e => by omega) _ _ (ExP.step hst4 (fun q hq e => by omega) _ _ (ExP.step HS2.out (fun _ _ h => h) _ _ HX1.out)))
  obtain ⟨⟨j0, j1, j2⟩, -⟩ := blk3 hB5
  clear hs5 hB5 hA5 hb4 hb5 hst4 hst5 her4
  go_wp2_with fail
  refine (parsed_any w5 m (HS5.out.cell HM.out (fun h => h))).mono ?_
  rintro e w6 ⟨rfl, h6⟩
  have hB6 := h6.keep HB5.out (fun h => h)
  obtain ⟨⟨j0, j1, j2⟩, -⟩ := blk3 hB6
  have HS6 := Lib.hid (HS5.out.trans h6)
  have hA6 := h6.keep HA5.out (fun h => h)
  obtain ⟨w7, hw7⟩ : ∃ w7 : World, w7 = w6.alloc (.cells #[.bool true] 4) := ⟨_, rfl⟩
  have hf7 : FlagAt w6.heap.size w7 := by
   rw [hw7]; exact blk_new _ _
  have hs67 : Step (fun _ => False) w6 w7 := by
   rw [hw7]
   exact (Step.refl _ _).alloc _
  have HA7 := Lib.hid (hs67.keep hA6 (fun h => h))
  have HX7 := Lib.hid (ExP.step hs67 (fun _ _ h => h) _ _ (ExP.step h6 (fun _ _ h => h) _ _ HX5.out))
  have HF7 := Lib.hid hf7
  have HS7 := Lib.hid (HS6.out.trans hs67)
  have HW7 := Lib.hid hw7
  have hlt := blk_lt hA6
  have HLT := Lib.hid hlt
  have HSZ := Lib.hid HS6.out.size
  clear h6 hB6 hA6 hw7 hf7 hs67 hlt
  go_upto_region 5 with fail
  rw [← HW7.out]
  have HLD : Hid (∀ (jj : Nat) y, [Value.int .i64 k0, .string nm0, .int .u64 v0, .bool mu0, .slice a1 n1 c1, .slice a2 n2 c2, .slice a3 n3 c3, .int .i64 l0, .int .i64 c0][jj]? = some y → w7.cell? ⟨w1.heap.size, 0 + jj, none⟩ = some y) := by
   show ∀ jj y, _
   intro jj y hy
   rw [Nat.zero_add]; exact blk_cell HA7.out jj y (by simpa using hy)
  clear j0 j1 j2
  go_wp2_with (refine wpList_load_whole rfl 29 (.tmp 3) rfl w1.heap.size 0 rfl [Value.int .i64 k0, .string nm0, .int .u64 v0, .bool mu0, .slice a1 n1 c1, .slice a2 n2 c2, .slice a3 n3 c3, .int .i64 l0, .int .i64 c0] _ HLD.out Try.underlying29 rfl Try.sizeExpr ?_)
  have hne : ∀ q, q < w1.heap.size → q ≠ w6.heap.size := by
   intro q hq e
   have h := HLT.out
   omega
  refine (((wk_both 7 [.pointer (some ⟨w6.heap.size, 0, none⟩)] w6.heap.size (fun q => q < w1.heap.size) NdL w7 enters_levels hne (sees_levels w6.heap.size _ w7) (SizeOf.sizeOf x + 1)).1 x _ w7 (Nat.lt_succ_self _) HAX.out HX7.out HF7.out (Step.refl _ _))).mono ?_
  rintro e w8 ⟨rfl, hf8, h8⟩
  have HS8 : Hid (Step (fun _ => False) w w8) := HS7.out.then h8 (fun q hq e => by have h := HSZ.out; omega)
  have b0 := blk_cell hf8 0 _ rfl
  clear hf8 h8
  go_wp2_with fail
  go_ret
  exact ⟨rfl, HS8.out⟩
end Go.Proofs.Ytppekkbaoimpgaa
