/- Contract: printed. -/
import Derived.Test.YtfjkkfdpeckccaaTreeM
namespace Go.Proofs.Ytfjkkfdpeckccaa
open Go.RowKit

theorem row_nil (w : World) (B : Nat) : Row w B (.slice none 0 0) 0 [] := ⟨none, 0, rfl, Nat.le_refl _, by omega, fun _ => ⟨rfl, rfl⟩, fun h => absurd h (Nat.lt_irrefl _)⟩

def tyI : Ty := .mk 1 ⟨#[]⟩ ⟨#[]⟩ false [] [] 0 0
def tyB : Ty := .mk 6 ⟨#[]⟩ ⟨#[]⟩ false [] [tyI] 0 0
def tyR : Ty := .mk 7 ⟨#[]⟩ ⟨#[39, 97]⟩ true [] [tyB] 0 0
def toksR : List ByteArray := [⟨#[38]⟩, ⟨#[39, 97]⟩, ⟨#[109, 117, 116]⟩] ++ ([⟨#[66, 111, 120]⟩, ⟨#[60]⟩] ++ [⟨#[105, 110, 116]⟩] ++ [⟨#[62]⟩])
theorem toksR_put : putB toksR = ⟨#[38, 32, 39, 97, 32, 109, 117, 116, 32, 66, 111, 120, 32, 60, 32, 105, 110, 116, 32, 62]⟩ := by rfl
theorem toksR_ok (B base pb : Nat) (hB : B ≤ pb) (hab : pb < base) : TypOK 0 B base pb tyR toksR :=
  typ_ref 0 B base pb (by omega) hB hab _ _ _ _ _ _ (typ_box 3 B base pb (by omega) hB hab _ _ _ _ _ _ _ _ (typ_int 5 B base pb (by omega) hab _ _ _ _ _ _ _) (by decide))

set_option maxRecDepth 100000 in
set_option maxHeartbeats 400000 in
theorem printed_any (w : World) : Calls Try.prog 9 #[] w fun e w' => e = .returned (.bool true) ∧ Step (fun _ => False) w w' := by
  obtain ⟨W, hW⟩ : ∃ W : World, W = ((w.alloc (.cells #[.int .i64 1, .string ⟨#[]⟩, .string ⟨#[]⟩, .bool false, .slice none 0 0, .slice none 0 0, .int .i64 0, .int .i64 0] 71)).alloc (.cells #[.int .i64 6, .string ⟨#[]⟩, .string ⟨#[]⟩, .bool false, .slice none 0 0, .slice (some ⟨w.heap.size, 0, none⟩) 1 1, .int .i64 0, .int .i64 0] 71)).alloc (.cells #[.int .i64 7, .string ⟨#[]⟩, .string ⟨#[39, 97]⟩, .bool true, .slice none 0 0, .slice (some ⟨w.heap.size + 1, 0, none⟩) 1 1, .int .i64 0, .int .i64 0] 71) := ⟨_, rfl⟩
  have ST0 : Step (fun _ => False) w W := by rw [hW]; exact (((Step.refl _ _).alloc _).alloc _).alloc _
  have hb0 : W.heap[w.heap.size]? = some (.cells #[.int .i64 1, .string ⟨#[]⟩, .string ⟨#[]⟩, .bool false, .slice none 0 0, .slice none 0 0, .int .i64 0, .int .i64 0] 71 (0, 0)) := by rw [hW]; exact blk_alloc (blk_alloc (blk_new _ _))
  have hb1 : W.heap[w.heap.size + 1]? = some (.cells #[.int .i64 6, .string ⟨#[]⟩, .string ⟨#[]⟩, .bool false, .slice none 0 0, .slice (some ⟨w.heap.size, 0, none⟩) 1 1, .int .i64 0, .int .i64 0] 71 (0, 0)) := by rw [hW]; exact blk_alloc (blk_new2 _ _ _)
  have hsz : W.heap.size = w.heap.size + 3 := by rw [hW]; simp
  have row8 : ∀ (b : Nat) (c0 c1 c2 c3 c4 c5 c6 c7 : Value), W.heap[b]? = some (.cells #[c0, c1, c2, c3, c4, c5, c6, c7] 71 (0, 0)) → b < w.heap.size + 2 → Row W (w.heap.size + 2) (.slice (some ⟨b, 0, none⟩) 1 1) 1 [c0, c1, c2, c3, c4, c5, c6, c7] := by
    intro b c0 c1 c2 c3 c4 c5 c6 c7 hb hlt
    refine ⟨_, 1, rfl, Nat.le_refl _, by omega, (fun h => by cases h), fun _ => ⟨b, 0, rfl, hlt, blk_lt hb, fun i x hx => ?_⟩⟩
    have := news_cells (cs := [c0, c1, c2, c3, c4, c5, c6, c7]) hb i x hx
    rwa [add_is] at this
  have hI : TyAt W (w.heap.size + 2) tyI [.int .i64 1, .string ⟨#[]⟩, .string ⟨#[]⟩, .bool false, .slice none 0 0, .slice none 0 0, .int .i64 0, .int .i64 0] := by
    unfold tyI
    rw [TyAt]
    exact ⟨_, _, [], rfl, by decide, by decide, by simp, row_nil _ _, by rw [TysAt], row_nil _ _⟩
  have hBx : TyAt W (w.heap.size + 2) tyB [.int .i64 6, .string ⟨#[]⟩, .string ⟨#[]⟩, .bool false, .slice none 0 0, .slice (some ⟨w.heap.size, 0, none⟩) 1 1, .int .i64 0, .int .i64 0] := by
    unfold tyB
    rw [TyAt]
    refine ⟨_, _, _, rfl, by decide, by decide, by simp, row_nil _ _, ?_, row8 _ _ _ _ _ _ _ _ _ hb0 (by omega)⟩
    rw [TysAt]
    exact ⟨_, [], (List.append_nil _).symm, hI, by rw [TysAt]⟩
  have hR : TyAt W (w.heap.size + 2) tyR [.int .i64 7, .string ⟨#[]⟩, .string ⟨#[39, 97]⟩, .bool true, .slice none 0 0, .slice (some ⟨w.heap.size + 1, 0, none⟩) 1 1, .int .i64 0, .int .i64 0] := by
    unfold tyR
    rw [TyAt]
    refine ⟨_, _, _, rfl, by decide, by decide, by simp, row_nil _ _, ?_, row8 _ _ _ _ _ _ _ _ _ hb1 (by omega)⟩
    rw [TysAt]
    exact ⟨_, [], (List.append_nil _).symm, hBx, by rw [TysAt]⟩
  have HP := Lib.hid (printType_any (w.heap.size + 2) tyR toksR _ W hR (by omega) (fun base pb h1 h2 => toksR_ok _ base pb h1 h2) (by decide) (by decide) (by rw [toksR_put]; decide))
  have HW := Lib.hid hW
  clear hW hb0 hb1 hsz row8 hI hBx hR
  go_enter Try.func9, Try.ntmps9
  go_wp2_with fail
  rw [← HW.out]
  refine HP.out.mono ?_
  rintro e w1 ⟨rfl, h1⟩
  rw [toksR_put]
  go_wp2
  go_ret
  exact ⟨rfl, ST0.trans h1⟩

end Go.Proofs.Ytfjkkfdpeckccaa
