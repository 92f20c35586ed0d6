/- Contracts: the printer of types, as far as one type needs it. -/
import Derived.Test.YtfjkkfdpeckccaaTreeE
import Derived.Deep.RegionHeld3
namespace Go.Proofs.Ytfjkkfdpeckccaa
open Go.RowKit

/- A printer: the texts put down so far. -/
structure Prt (w : World) (base pb : Nat) (v : Value) (l : List ByteArray) : Prop where
  cell : w.heap[pb]? = some (.cells #[v] 94 (0, 0))
  own : w.ownsRow base 9 1 v l.length (l.map .string)
  le : base ≤ w.heap.size
theorem Prt.step {w w' : World} {base pb : Nat} {v : Value} {l : List ByteArray} (h : Prt w base pb v l) (hs : Step (fun _ => False) w w') : Prt w' base pb v l :=
  ⟨hs.keep h.cell (fun h => h), hs.owns h.own (fun _ _ h => h), Nat.le_trans h.le hs.size⟩
theorem Prt.old {pb base B : Nat} {v : Value} {w : World} {l : List ByteArray} (hg : Prt w base pb v l) (hB : B ≤ pb) (hab : pb < base) : ∀ k, k < B → ¬ Turns pb v k := by
  intro k hk ht
  rcases ht with rfl | ht
  · omega
  · have := (hg.own.lt k ht).1; omega
theorem Prt.new {pb base : Nat} {v : Value} {w : World} {l : List ByteArray} (hg : Prt w base pb v l) : ∀ k, w.heap.size ≤ k → ¬ Turns pb v k := by
  rintro k hk (h | h)
  · have := blk_lt hg.cell; omega
  · have := (hg.own.lt _ h).2; omega

def PutPost (base pb : Nat) (v : Value) (w : World) (l : List ByteArray) (e : Ending) (w' : World) : Prop :=
  e = .returned (.tuple #[]) ∧ ∃ v', Prt w' base pb v' l ∧ Carry pb v w v' w'

theorem strV_one (l : List ByteArray) : ∀ u ∈ l.map Value.string, u.oneCell' = true := by
  intro u hu
  obtain ⟨x, _, rfl⟩ := List.mem_map.1 hu
  rfl
theorem Try.infoStr' : (Try.prog.info? 9).map (fun i => (i.zero, i.size, i.bytes)) = some (some (.string ⟨#[]⟩), 1, 16) := by kernel_rfl

set_option maxRecDepth 100000 in
set_option maxHeartbeats 400000 in
theorem put_val (base pb : Nat) (v : Value) (w : World) (l news : List ByteArray) (vs : Value) (B : Nat) (hg : Prt w base pb v l) (hab : pb < base) (hl : l.length + news.length ≤ 1000000) (hr : Row w B vs news.length (news.map .string)) :
    Calls Try.prog 66 #[.pointer (some ⟨pb, 0, none⟩), vs] w (PutPost base pb v w (l ++ news)) := by
  obtain ⟨i0, hi0, hz00, hz10, hz20⟩ := info_parts Try.infoStr'
  have hI := Lib.hid hi0
  have hz0 := Lib.hid hz00
  have hz1 := Lib.hid hz10
  have hz2 := Lib.hid hz20
  clear hi0 hz00 hz10 hz20
  have HG := Lib.hid hg
  have HR := Lib.hid hr
  have hlt : pb < w.heap.size := blk_lt hg.cell
  have c0 : w.cell? ⟨pb, 0, none⟩ = some v := blk_cell hg.cell 0 _ rfl
  obtain ⟨oa, oc, rfl⟩ := owns_slice hg.own
  clear hg hr
  go_enter Try.func66, Try.ntmps66
  go_wp2_with (at_builtin; refine wpList_append_row _ rfl B _ _ 24 rfl base 9 i0 (.string ⟨#[]⟩) 1 16 Try.underlying24 hI.out hz0.out hz1.out hz2.out rfl (by decide) _ _ _ rfl HG.out.own _ _ _ rfl HR.out (by simp) (strV_one _) (by unfold maxLen; omega) (by omega) HG.out.le ?_)
  intro v' w' hown hgrow hat
  obtain ⟨oa', oc', rfl⟩ := owns_slice hown
  have hcell' : w'.heap[pb]? = some (.cells #[.slice oa l.length oc] 94 (0, 0)) := by
    rw [hgrow.block pb (blk_lt HG.out.cell) (fun e => by have := (HG.out.own.lt pb e.symm).1; omega)]
    exact HG.out.cell
  have d0 : w'.cell? ⟨pb, 0, none⟩ = some (.slice oa l.length oc) := blk_cell hcell' 0 _ rfl
  have d1 : w'.frozen? ⟨pb, 0, none⟩ = false := blk_free hcell' 0
  have hlt' : pb < w'.heap.size := blk_lt hcell'
  have ST1 : Step (Turns pb (.slice oa l.length oc)) w w' := (Step.refl _ _).grown hgrow (fun k hk hl => .inr hk)
  have HAT := Lib.hid hat
  have HOWN := Lib.hid hown
  have HC := Lib.hid hcell'
  clear hat hown hgrow hcell' c0
  go_wp2
  go_end0
  refine ⟨rfl, .slice oa' (l.length + news.length) oc', ⟨?_, ?_, ?_⟩, ?_, ?_⟩
  · exact blk_set HC.out 0 _
  · have := ownsRow_setCell_below HOWN.out (a := ⟨pb, 0, none⟩) hab (.slice oa' (l.length + news.length) oc')
    rw [List.map_append, List.length_append]
    exact this
  · exact Nat.le_trans HG.out.le (Nat.le_trans ST1.size (by simp [World.setCell]))
  · exact ST1.setCell _ _ (fun _ => .inl rfl)
  · intro k hk
    rcases HAT.out with h | h
    · exact .inl (by rw [← h]; exact hk)
    · rw [h] at hk
      right
      have : w.heap.size = k := by simpa using hk
      omega

/- The cells of a list of texts that was just laid. -/
theorem row_new {w : World} {b t : Nat} (l : List ByteArray) (n : Nat) (hn : n = l.length) (hl : l.length ≤ 1000000) (h : w.heap[b]? = some (.cells (l.map Value.string).toArray t (0, 0))) : Row w (b + 1) (.slice (some ⟨b, 0, none⟩) n n) l.length (l.map .string) := by
  subst hn
  refine ⟨_, l.length, rfl, Nat.le_refl _, by omega, (fun h => by cases h), fun _ => ⟨b, 0, rfl, by omega, blk_lt h, fun i x hx => ?_⟩⟩
  have := news_cells h i x hx
  rwa [add_is] at this

/- What it is for a type to be put down rightly. -/
def TypOK (M B base pb : Nat) (t : Ty) (toks : List ByteArray) : Prop := ∀ (cs : List Value) (w : World) (v : Value) (l : List ByteArray), TyAt w B t cs → Prt w base pb v l → l.length ≤ M →
  Calls Try.prog 49 #[.pointer (some ⟨pb, 0, none⟩), .agg cs.toArray] w (PutPost base pb v w (l ++ toks))

set_option maxRecDepth 100000 in
set_option maxHeartbeats 400000 in
theorem typ_int (M B base pb : Nat) (hM : M ≤ 1000) (hab : pb < base) (n life : ByteArray) (m : Bool) (lifes : List ByteArray) (args : List Ty) (ln c : Int) : TypOK M B base pb (.mk 1 n life m lifes args ln c) [⟨#[105, 110, 116]⟩] := by
  intro cs w v l h hg hl
  rw [TyAt] at h
  obtain ⟨vl, va, xs, rfl, -⟩ := h
  have HG := Lib.hid hg
  clear hg
  go_enter Try.func49, Try.ntmps49
  go_wp2_with fail
  have hst : Step (fun _ => False) w ((w.alloc (.cells #[.int .i64 1, .string n, .string life, .bool m, vl, va, .int .i64 ln, .int .i64 c] 71)).alloc (.cells #[.string ⟨#[105, 110, 116]⟩] 9)) := ((Step.refl _ _).alloc _).alloc _
  refine (put_val base pb v _ l [⟨#[105, 110, 116]⟩] _ _ (HG.out.step hst) hab (by simp; omega) (row_new [⟨#[105, 110, 116]⟩] 1 rfl (by decide) (blk_new2 _ _ _))).mono ?_
  rintro e w3 ⟨rfl, v3, hg3, hc3⟩
  have HG3 := Lib.hid hg3
  have HC3 := Lib.hid hc3
  clear hg3 hc3
  go_wp2
  go_end0
  exact ⟨rfl, v3, HG3.out, Carry.pre (hst.mono (fun _ _ h => h.elim)) HC3.out⟩

end Go.Proofs.Ytfjkkfdpeckccaa
