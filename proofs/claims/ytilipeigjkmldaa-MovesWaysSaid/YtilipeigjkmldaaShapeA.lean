/- A shape (chattellaw19.Shape): plain; the contracts of its small functions. -/
import Derived.Test.YtilipeigjkmldaaBodA
namespace Go.Proofs.Ytilipeigjkmldaa
open Go.RowKit

structure Cd where
  kind : Int
  a : Int
  b : Int
  tgt : Int
  els : Int
  p : List Int
  q : List Int
structure Shp where
  params : Int
  code : List Cd
def CdAt (w : World) (B : Nat) (c : Cd) (cs : List Value) : Prop := ∃ vp vq, cs = [.int .i64 c.kind, .int .i64 c.a, .int .i64 c.b, .int .i64 c.tgt, .int .i64 c.els, vp, vq] ∧ Row w B vp c.p.length (intsV c.p) ∧ Row w B vq c.q.length (intsV c.q)
theorem CdAt.len {w : World} {B : Nat} (c : Cd) (cs : List Value) (h : CdAt w B c cs) : cs.length = 7 := by obtain ⟨_, _, rfl, _⟩ := h; rfl
theorem CdAt.step {w w' : World} {B : Nat} {S : Nat → Prop} (hs : Step S w w') (hS : ∀ k, k < B → ¬ S k) (c : Cd) (cs : List Value) (h : CdAt w B c cs) : CdAt w' B c cs := by
  obtain ⟨vp, vq, h1, h2, h3⟩ := h
  exact ⟨vp, vq, h1, h2.step hs hS, h3.step hs hS⟩

/- What numbers make. -/
def locF (n : Int) : Int := n % 18446744073709551616 % 4
def stepF (v : Int) : Int := if 1 < v % 18446744073709551616 % 5 - 1 then v % 18446744073709551616 % 5 - 3 else v % 18446744073709551616 % 5 - 1
def pathF (l : List Int) : List Int := (l.take 3).map stepF
theorem locF_range (n : Int) : 0 ≤ locF n ∧ locF n < 4 := by unfold locF; omega
theorem stepF_range (n : Int) : -1 ≤ stepF n ∧ stepF n ≤ 1 := by unfold stepF; split <;> omega
theorem pathF_len (l : List Int) : (pathF l).length ≤ 3 := by simp [pathF]; omega

theorem wrap_u64' (n : Int) : IntKind.u64.wrap n = n % 18446744073709551616 := by simp [IntKind.wrap, IntKind.bits, IntKind.signed]

set_option maxHeartbeats 400000 in
theorem shLocal_any (n : Int) (w : World) : Calls Try.prog 30 #[.int .i64 n] w fun e w' => e = .returned (.int .i64 (locF n)) ∧ w = w' := by
  have hr := locF_range n
  obtain ⟨u, hu⟩ : ∃ u : Int, u = IntKind.u64.wrap n := ⟨_, rfl⟩
  have R1 : IntKind.u64.wrap n = u := hu.symm
  obtain ⟨r, hr'⟩ : ∃ r, r = locF n := ⟨_, rfl⟩
  have hu2 : u = n % 18446744073709551616 := by rw [hu, wrap_u64']
  have R2 : u.tmod 4 = r := by rw [hr', Int.tmod_eq_emod_of_nonneg (by omega), hu2]; rfl
  have R3 : u % 4 = r := by rw [hr', hu2]; rfl
  have R4 : IntKind.i64.wrap r = r := IntWalk.i64_in _ (by rw [hr']; omega)
  rw [← hr']
  clear hu hr hr' hu2
  go_enter Try.func30, Try.ntmps30
  go_wp2
  go_ret
  exact ⟨rfl, rfl⟩

/- An instruction's number. -/
def atF (n : Nat) (x : Int) : Int := x % 18446744073709551616 % (n : Int)
theorem atF_range (n : Nat) (x : Int) (hn : 0 < n) : 0 ≤ atF n x ∧ atF n x < n := ⟨Int.emod_nonneg _ (by omega), Int.emod_lt_of_pos _ (by omega)⟩

set_option maxHeartbeats 400000 in
theorem shAt_any (n : Nat) (x : Int) (b : Nat) (w : World) (hn : 0 < n) (hn2 : n ≤ 1000000) (hb : w.cell? ⟨b, 0, none⟩ = some (.int .i64 n)) : Calls Try.prog 29 #[.int .i64 x, .pointer (some ⟨b, 0, none⟩)] w fun e w' => e = .returned (.int .i64 (atF n x)) ∧ w = w' := by
  have hr := atF_range n x hn
  obtain ⟨u, hu⟩ : ∃ u : Int, u = IntKind.u64.wrap x := ⟨_, rfl⟩
  have R1 : IntKind.u64.wrap x = u := hu.symm
  have R5 : IntKind.u64.wrap (n : Int) = (n : Int) := by rw [wrap_u64']; omega
  obtain ⟨r, hr'⟩ : ∃ r, r = atF n x := ⟨_, rfl⟩
  have hu2 : u = x % 18446744073709551616 := by rw [hu, wrap_u64']
  have R2 : u.tmod n = r := by rw [hr', Int.tmod_eq_emod_of_nonneg (by omega), hu2]; rfl
  have R3 : u % n = r := by rw [hr', hu2]; rfl
  have R4 : IntKind.i64.wrap r = r := IntWalk.i64_in _ (by rw [hr']; omega)
  have R6 : ((n : Int) = 0) = False := by simp; omega
  rw [← hr']
  clear hu hr hr' hu2
  go_enter Try.func29, Try.ntmps29
  go_wp2
  go_ret
  exact ⟨rfl, rfl⟩

def partF (l : List Int) (k : Nat) : List Int := (l.take k).map stepF
theorem Try.infoInt2 : (Try.prog.info? 3).map (fun i => (i.zero, i.size, i.bytes)) = some (some (.int .i64 0), 1, 8) := by kernel_rfl

set_option maxRecDepth 100000 in
set_option maxHeartbeats 1000000 in
theorem shPath_any (B : Nat) (l : List Int) (v : Value) (w : World) (h : Row w B v l.length (intsV l)) :
    Calls Try.prog 31 #[v] w fun e w' => (∃ u, e = .returned u ∧ w'.ownsRow w.heap.size 3 1 u (pathF l).length (intsV (pathF l))) ∧ Step (fun _ => False) w w' := by
  obtain ⟨a, c, rfl, hc1, hc2, -, hrr⟩ := h
  have HR := Lib.hid hrr
  obtain ⟨i0, hi0, hz0, hz1, hz2⟩ := info_parts Try.infoInt2
  have HI := Lib.hid hi0
  have HZ0 := Lib.hid hz0
  have HZ1 := Lib.hid hz1
  have HZ2 := Lib.hid hz2
  clear hrr hi0 hz0 hz1 hz2
  go_enter Try.func31, Try.ntmps31
  go_wp2_with fail
  go_loopg [3, 4, 5] l.length (fun gg s3 s4 _ wr => ∃ k : Nat, s4 = .int .i64 k ∧ k ≤ l.length ∧ k ≤ 3 ∧ l.length - k ≤ gg ∧ wr.ownsRow w.heap.size 3 1 s3 k (intsV (partF l k)) ∧ Step (fun _ => False) w wr)
  case atStart => exact ⟨0, rfl, Nat.zero_le _, by omega, by omega, World.ownsRow_nil _ _ _ _, Step.refl _ _⟩
  case round =>
    obtain ⟨k, rfl, hk, hk3, hgg, hown, hst⟩ := hrel
    obtain ⟨ao, co, rfl⟩ := owns_slice hown
    have HOW := Lib.hid hown
    clear hown
    by_cases hlt : k < l.length ∧ k < 3
    · obtain ⟨h1, h2⟩ := hlt
      obtain ⟨x, hx⟩ : ∃ x, l[k]? = some x := ⟨l[k], List.getElem?_eq_getElem h1⟩
      obtain ⟨g, o, rfl, -, -, hcell⟩ := HR.out (by omega)
      have f0 := hst.cell (hcell k _ (intsV_get l k x hx)) (fun h => h)
      have HT : Hid (partF l (k + 1) = partF l k ++ [stepF x]) := by
        show _ = _
        unfold partF
        obtain ⟨hk', rfl⟩ := List.getElem?_eq_some_iff.1 hx
        rw [List.take_succ_eq_append_getElem hk', List.map_append]; rfl
      obtain ⟨u, hu⟩ : ∃ u : Int, u = IntKind.u64.wrap x := ⟨_, rfl⟩
      have R1 : IntKind.u64.wrap x = u := hu.symm
      have hu2 : u = x % 18446744073709551616 := by rw [hu, wrap_u64']
      obtain ⟨r, hr'⟩ : ∃ r, r = u % 5 := ⟨_, rfl⟩
      have hr0 : 0 ≤ r := by omega
      have hr5 : r < 5 := by omega
      have R2 : u.tmod 5 = r := by rw [hr', Int.tmod_eq_emod_of_nonneg (by omega)]
      have R3 : u % 5 = r := hr'.symm
      have R4 : IntKind.i64.wrap r = r := IntWalk.i64_in _ (by omega)
      have HSF : Hid (stepF x = if 1 < r - 1 then r - 3 else r - 1) := by show _ = _; unfold stepF; rw [hr', hu2]
      have HROW : Hid (∀ z : Int, Row (wr.alloc (.cells #[.int .i64 z] 3)) (wr.heap.size + 1) (.slice (some ⟨wr.heap.size, 0, none⟩) 1 1) 1 (intsV [z])) := fun z => Row.new (cs := [.int .i64 z]) (blk_new _ _) (by decide)
      have STA : ∀ z : Int, Step (fun _ => False) w (wr.alloc (.cells #[.int .i64 z] 3)) := fun z => hst.alloc _
      have HSTA := Lib.hid STA
      clear hcell hx hu hu2 hr' STA
      by_cases hbig : 1 < r - 1
      · have HSV : Hid (stepF x = r - 1 - 2) := by show _ = _; rw [HSF.out, if_pos hbig]; omega
        have R5 : IntKind.i64.wrap (r - 1) = r - 1 := IntWalk.i64_in _ (by omega)
        as_aux_lemma =>
          go_wp2_with (at_builtin; refine wpList_append_row _ rfl (wr.heap.size + 1) _ _ 38 rfl w.heap.size 3 i0 (.int .i64 0) 1 8 Try.underlying38 HI.out HZ0.out HZ1.out HZ2.out rfl (by decide) _ _ _ rfl (HOW.out.alloc _) _ 1 _ rfl (HROW.out _) rfl (intsV_one _) (by unfold maxLen; omega) (by omega) (HSTA.out _).size ?_)
          intro v4 w4 hown4 hgrow4 _
          have ST4 : Step (fun _ => False) w w4 := (HSTA.out _).grown hgrow4 (fun q hq hlt => by have := owned_row HOW.out q hq; omega)
          rw [← intsV_append, ← HSV.out, ← HT.out] at hown4
          go_wp2
          go_roundg (gk - 1)
          case rel => exact ⟨k + 1, by go_num, by omega, by omega, by omega, hown4, ST4⟩
          case measure => omega
      · have HSV : Hid (stepF x = r - 1) := by show _ = _; rw [HSF.out, if_neg hbig]
        have R5 : IntKind.i64.wrap (r - 1) = r - 1 := IntWalk.i64_in _ (by omega)
        as_aux_lemma =>
          go_wp2_with (at_builtin; refine wpList_append_row _ rfl (wr.heap.size + 1) _ _ 38 rfl w.heap.size 3 i0 (.int .i64 0) 1 8 Try.underlying38 HI.out HZ0.out HZ1.out HZ2.out rfl (by decide) _ _ _ rfl (HOW.out.alloc _) _ 1 _ rfl (HROW.out _) rfl (intsV_one _) (by unfold maxLen; omega) (by omega) (HSTA.out _).size ?_)
          intro v4 w4 hown4 hgrow4 _
          have ST4 : Step (fun _ => False) w w4 := (HSTA.out _).grown hgrow4 (fun q hq hlt => by have := owned_row HOW.out q hq; omega)
          rw [← intsV_append, ← HSV.out, ← HT.out] at hown4
          go_wp2
          go_roundg (gk - 1)
          case rel => exact ⟨k + 1, by go_num, by omega, by omega, by omega, hown4, ST4⟩
          case measure => omega
    · have HP : Hid (pathF l = partF l k) := by
        show _ = _
        unfold pathF partF
        congr 1
        by_cases h : k = 3
        · rw [h]
        · rw [List.take_of_length_le (by omega), List.take_of_length_le (by omega)]
      have HLN : Hid ((pathF l).length = k) := by show _ = _; rw [HP.out]; unfold partF; rw [List.length_map, List.length_take]; omega
      by_cases h1 : k < l.length
      · have e3 : decide ((k : Int) < 3) = false := decide_eq_false (by omega)
        as_aux_lemma =>
          go_wp2
          go_ret
          exact ⟨⟨_, rfl, by rw [HLN.out, HP.out]; exact HOW.out⟩, hst⟩
      · as_aux_lemma =>
          go_wp2
          go_ret
          exact ⟨⟨_, rfl, by rw [HLN.out, HP.out]; exact HOW.out⟩, hst⟩

end Go.Proofs.Ytilipeigjkmldaa
