/- What may be missing, plainly: sets of places as truth values over the facts. -/
import Derived.Test.YtilipeigjkmldaaFinE
namespace Go.Proofs.Ytilipeigjkmldaa
open Go.RowKit

/- What an access does to what is missing. -/
def doB (a : Acc) (s : Pl → Bool) (q : Pl) : Bool :=
  if a.kind = 2 then (if dirF a.pl then s q || sameF a.pl q else s q)
  else if a.kind = 4 ∨ a.kind = 5 ∨ a.kind = 6 then
    (if dirF a.pl then (s q && !begF a.pl q) || (!decide (a.kind = 4) && sameF a.pl q) else s q)
  else s q
/- May an access not be, where one place is missing? -/
def badOne (a : Acc) (q : Pl) : Bool :=
  if a.kind = 5 ∨ a.kind = 6 then false
  else if a.kind = 4 ∧ dirF a.pl = true then begF q (ownF a.pl) && decide (q.path.length < (ownF a.pl).path.length)
  else meetF q (ownF a.pl)
def badF (a : Acc) (l : List Pl) (s : Pl → Bool) : Bool := l.any fun q => s q && badOne a q

theorem doB_or (a : Acc) (s t : Pl → Bool) (q : Pl) : doB a (fun q => s q || t q) q = (doB a s q || doB a t q) := by
  unfold doB
  dsimp only
  repeat' split
  all_goals (cases s q <;> cases t q <;> cases sameF a.pl q <;> cases begF a.pl q <;> simp)
theorem doB_mono (a : Acc) {s t : Pl → Bool} (h : ∀ q, s q = true → t q = true) (q : Pl) (hs : doB a s q = true) : doB a t q = true := by
  have e : t = fun q => s q || t q := by
    funext q
    cases hs : s q with
    | false => rfl
    | true => rw [h q hs]; rfl
  rw [e, doB_or, hs]; rfl

/- The number of a place among facts that are apart. -/
theorem idx_same {l : List Pl} {p : Pl} {i : Nat} (hn : l.Nodup) (h : l[i]? = some p) : idxI (sameF p) l = i := by
  refine idxI_some h (sameF_iff.2 rfl) (fun j hj y hy => ?_)
  cases e : sameF p y with
  | false => rfl
  | true =>
    have := sameF_iff.1 e
    subst this
    have h2 := (List.getElem?_eq_some_iff.1 hy).1
    exact absurd ((List.getElem?_inj h2 hn).1 (hy.trans h.symm)) (by omega)
theorem set_same {l : List Pl} {p : Pl} {i : Nat} (s : Pl → Bool) (hn : l.Nodup) (h : l[i]? = some p) : (l.map s).set i true = l.map (fun q => s q || sameF p q) := by
  refine List.ext_getElem? (fun j => ?_)
  rw [List.getElem?_set, List.getElem?_map, List.getElem?_map]
  by_cases e : i = j
  · subst e
    rw [if_pos rfl, h]
    have h1 := (List.getElem?_eq_some_iff.1 h).1
    rw [if_pos (by simpa using h1)]
    simp [sameF_iff.2]
  · rw [if_neg e]
    cases hq : l[j]? with
    | none => rfl
    | some q =>
      have : sameF p q = false := by
        cases es : sameF p q with
        | false => rfl
        | true =>
          have := sameF_iff.1 es
          subst this
          exact absurd ((List.getElem?_inj (List.getElem?_eq_some_iff.1 h).1 hn).1 (h.trans hq.symm)) e
      simp [this]
end Go.Proofs.Ytilipeigjkmldaa
