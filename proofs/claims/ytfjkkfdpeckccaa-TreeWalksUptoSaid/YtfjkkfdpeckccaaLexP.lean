/- Contracts of the reference of layer 1: one token: numbers, marks; all of it. -/
import Derived.Test.YtfjkkfdpeckccaaLexO
namespace Go.Proofs.Ytfjkkfdpeckccaa
open Go.RowKit

theorem refNum_ok (t : ByteArray) (w : World) (k n v : Nat) (hsz : t.size ≤ 100000) (h : numF t.data.toList = .ok (k, n, v)) :
    Calls Try.prog 60 #[.string t] w fun e w' => e = .returned (.tuple #[.int .u64 v, .int .i64 k, .int .i64 0]) ∧ w = w' := by
  have := refNum_any t w hsz
  rw [h] at this
  exact this
theorem refNum_err (t : ByteArray) (w : World) (c : Nat) (hsz : t.size ≤ 100000) (h : numF t.data.toList = .error c) :
    Calls Try.prog 60 #[.string t] w fun e w' => e = .returned (.tuple #[.int .u64 0, .int .i64 0, .int .i64 c]) ∧ w = w' := by
  have := refNum_any t w hsz
  rw [h] at this
  exact this

set_option maxRecDepth 100000 in
set_option maxHeartbeats 400000 in
theorem one_number (s : ByteArray) (p : Nat) (w : World) (hp : p < s.size) (hs : s.size ≤ 100000) (N k v : Nat) (hN : runF (s.data.toList.drop p) = N) (hL : isLetter (s[p].toNat : Int) = false) (hc : s[p] ≠ 39) (hD : isDigit (s[p].toNat : Int) = true)
    (hnum : numF ((s.data.toList.drop p).take N) = .ok (k, N, v)) :
    Calls Try.prog 44 #[.string s, .int .i64 p] w (OnePost s p w (.ok (k, N, v))) := by
  have hb255 : ((s[p].toNat : Int)) ≤ 255 := by have := s[p].toNat_lt; omega
  have hq := refLetter_any (s[p].toNat : Int)
  have hq2 := refDigit_any (s[p].toNat : Int)
  rw [hL] at hq
  rw [hD] at hq2
  have HQ := Lib.hid hq
  have HQ2 := Lib.hid hq2
  have hb39 : ((s[p].toNat : Int) == 39) = false := by rw [beq_eq_false_iff_ne]; exact fun e => hc (byte_is 39 e)
  have hrl : p + N ≤ s.size := by have := runF_le (s.data.toList.drop p); simp at this; omega
  have HN := Lib.hid hN
  rw [← extract_list] at hnum
  have HU := Lib.hid hnum
  have hse : Hid ((s.extract p (p + N)).size ≤ 100000) := show _ ≤ _ by rw [extract_size s p N hrl]; omega
  clear hN hq hq2 hL hD hc hnum
  go_enter Try.func44, Try.ntmps44
  go_wp2_with (first | (go_at_call 57; refine (HQ.out _ (by omega) hb255).mono ?_; rintro e w' ⟨rfl, rfl⟩) | (go_at_call 59; refine (HQ2.out _ (by omega) hb255).mono ?_; rintro e w' ⟨rfl, rfl⟩) | (go_at_call 58; refine (end_any s p _ (by omega) hs).mono ?_; rintro e w' ⟨rfl, rfl⟩; rw [HN.out]) | (go_at_call 60; refine (refNum_ok _ _ k N v hse.out HU.out).mono ?_; rintro e w' ⟨rfl, rfl⟩))
  refine bodyPost_ret (v := .tuple #[.agg #[.int .i64 k, .string (s.extract p (p + N)), .int .i64 0, .int .i64 0, .int .u64 v], .int .i64 ((p + N : Nat) : Int), .int .i64 0]) (by simp [results, Try.results44, go_sem]) rfl ⟨rfl, ?_⟩
  exact (Step.refl _ w).alloc _

set_option maxRecDepth 100000 in
set_option maxHeartbeats 400000 in
theorem one_numberBad (s : ByteArray) (p : Nat) (w : World) (hp : p < s.size) (hs : s.size ≤ 100000) (N c : Nat) (hN : runF (s.data.toList.drop p) = N) (hL : isLetter (s[p].toNat : Int) = false) (hc : s[p] ≠ 39) (hD : isDigit (s[p].toNat : Int) = true)
    (hnum : numF ((s.data.toList.drop p).take N) = .error c) (hc0 : c ≠ 0) :
    Calls Try.prog 44 #[.string s, .int .i64 p] w (OnePost s p w (.error c)) := by
  have hb255 : ((s[p].toNat : Int)) ≤ 255 := by have := s[p].toNat_lt; omega
  have hq := refLetter_any (s[p].toNat : Int)
  have hq2 := refDigit_any (s[p].toNat : Int)
  rw [hL] at hq
  rw [hD] at hq2
  have HQ := Lib.hid hq
  have HQ2 := Lib.hid hq2
  have hb39 : ((s[p].toNat : Int) == 39) = false := by rw [beq_eq_false_iff_ne]; exact fun e => hc (byte_is 39 e)
  have hrl : p + N ≤ s.size := by have := runF_le (s.data.toList.drop p); simp at this; omega
  have hbc : ((c : Int) != 0) = true := by rw [bne_iff_ne]; omega
  have HN := Lib.hid hN
  rw [← extract_list] at hnum
  have HU := Lib.hid hnum
  have hse : Hid ((s.extract p (p + N)).size ≤ 100000) := show _ ≤ _ by rw [extract_size s p N hrl]; omega
  clear hN hq hq2 hL hD hc hnum hc0
  go_enter Try.func44, Try.ntmps44
  go_wp2_with (first | (go_at_call 57; refine (HQ.out _ (by omega) hb255).mono ?_; rintro e w' ⟨rfl, rfl⟩) | (go_at_call 59; refine (HQ2.out _ (by omega) hb255).mono ?_; rintro e w' ⟨rfl, rfl⟩) | (go_at_call 58; refine (end_any s p _ (by omega) hs).mono ?_; rintro e w' ⟨rfl, rfl⟩; rw [HN.out]) | (go_at_call 60; refine (refNum_err _ _ c hse.out HU.out).mono ?_; rintro e w' ⟨rfl, rfl⟩))
  refine bodyPost_ret (v := .tuple #[.agg #[.int .i64 0, .string ⟨#[]⟩, .int .i64 0, .int .i64 0, .int .u64 0], .int .i64 0, .int .i64 c]) (by simp [results, Try.results44, go_sem]) rfl ⟨rfl, ?_⟩
  exact (Step.refl _ w).alloc _

/- The marks, the longer ones first; as they lie in memory. -/
def marksL : List (List UInt8) := [[45, 62], [61, 61], [38, 38], [40], [41], [123], [125], [60], [62], [44], [59], [58], [61], [38], [124], [43], [45], [42], [47], [33], [46]]
def marksBlk : Array Value := (marksL.map fun m => Value.string ⟨m.toArray⟩).toArray
theorem marksBlk_get (i : Nat) (h : i < 21) : marksBlk[i]? = some (.string ⟨(marksL.getD i []).toArray⟩) := by
  have : i < marksL.length := h
  simp [marksBlk, List.getElem?_map, List.getD_eq_getElem?_getD, List.getElem?_eq_getElem this]

set_option maxHeartbeats 400000 in
theorem marks_any (w : World) :
    Calls Try.prog 61 #[] w fun e w' => e = .returned (.slice (some ⟨w.heap.size, 0, none⟩) 21 21) ∧ w' = w.alloc (.cells marksBlk 9) := by
  go_enter Try.func61, Try.ntmps61
  go_wp2
  go_ret
  exact ⟨rfl, rfl⟩

/- Which mark a text begins with. -/
theorem ones_find (c : UInt8) (r : List UInt8) (l : List UInt8) : (l.map fun x => [x]).find? (fun m => m.isPrefixOf (c :: r)) = if l.contains c then some [c] else none := by
  induction l with
  | nil => rfl
  | cons x l ih =>
    rw [List.map_cons, List.find?_cons, ih, List.contains_cons]
    by_cases h : x = c
    · subst h; simp [List.isPrefixOf]
    · have h1 : (x == c) = false := by rw [beq_eq_false_iff_ne]; exact h
      have h2 : (c == x) = false := by rw [beq_eq_false_iff_ne]; exact fun e => h e.symm
      simp [List.isPrefixOf, h1, h2]
theorem markF_find (c : UInt8) (r : List UInt8) : markF (c :: r) = match marksL.find? (fun m => m.isPrefixOf (c :: r)) with
    | some m => .ok (5, m.length, 0)
    | none => .error 1 := by
  have hm : marksL = [[45, 62], [61, 61], [38, 38]] ++ ([40, 41, 123, 125, 60, 62, 44, 59, 58, 61, 38, 124, 43, 45, 42, 47, 33, 46] : List UInt8).map fun x => [x] := rfl
  rw [hm, List.find?_append, ones_find]
  have ho : ([40, 41, 123, 125, 60, 62, 44, 59, 58, 61, 38, 124, 43, 45, 42, 47, 33, 46] : List UInt8).contains c = isOne c := rfl
  rw [ho]
  cases r with
  | nil =>
    have : List.find? (fun m => m.isPrefixOf [c]) [[45, 62], [61, 61], [38, 38]] = none := by
      simp [List.isPrefixOf]
    rw [this, markF]
    cases isOne c <;> rfl
  | cons d r =>
    rw [markF]
    cases h2 : isTwo c d
    · have : List.find? (fun m => m.isPrefixOf (c :: d :: r)) [[45, 62], [61, 61], [38, 38]] = none := by
        unfold isTwo at h2
        simp only [Bool.or_eq_false_iff] at h2
        obtain ⟨⟨h2a, h2b⟩, h2c⟩ := h2
        have e : ∀ x y : UInt8, (c == x && d == y) = false → List.isPrefixOf [x, y] (c :: d :: r) = false := by
          intro x y h
          show ((x == c) && ((y == d) && true)) = false
          rw [Bool.and_true, BEq.comm (a := x), BEq.comm (a := y)]; exact h
        simp [e _ _ h2a, e _ _ h2b, e _ _ h2c]
      rw [this]
      cases isOne c <;> rfl
    · unfold isTwo at h2
      simp only [Bool.or_eq_true, Bool.and_eq_true, beq_iff_eq] at h2
      rcases h2 with (⟨rfl, rfl⟩ | ⟨rfl, rfl⟩) | ⟨rfl, rfl⟩ <;> simp [List.isPrefixOf]

def markR : Option (List UInt8) → Except Nat (Nat × Nat × Nat)
  | some m => .ok (5, m.length, 0)
  | none => .error 1
theorem marks_len : ∀ i, i < 21 → 1 ≤ (marksL.getD i []).length ∧ (marksL.getD i []).length ≤ 2 := by decide

theorem prefix_cut (s m : ByteArray) (p : Nat) (_hp : p ≤ s.size) :
    m.data.toList.isPrefixOf (s.data.toList.drop p) = (decide (p + m.size ≤ s.size) && ((s.extract p (p + m.size)).toList == m.toList)) := by
  rw [Lib.toList_data, Lib.toList_data, extract_list, Bool.eq_iff_iff, List.isPrefixOf_iff_prefix, Bool.and_eq_true, decide_eq_true_eq, beq_iff_eq, Lib.size_eq m, Lib.size_eq s]
  constructor
  · intro h
    have hl := h.length_le
    rw [List.length_drop] at hl
    exact ⟨by have := Lib.size_eq s; omega, (List.prefix_iff_eq_take.1 h).symm⟩
  · rintro ⟨_, h⟩
    rw [← h]; exact List.take_prefix _ _

set_option maxRecDepth 100000 in
set_option maxHeartbeats 1000000 in
theorem one_mark (s : ByteArray) (p : Nat) (w : World) (hp : p < s.size) (hs : s.size ≤ 100000) (hL : isLetter (s[p].toNat : Int) = false) (hc : s[p] ≠ 39) (hD : isDigit (s[p].toNat : Int) = false)
    (r : Option (List UInt8)) (hr : marksL.find? (fun m => m.isPrefixOf (s.data.toList.drop p)) = r) :
    Calls Try.prog 44 #[.string s, .int .i64 p] w (OnePost s p w (markR r)) := by
  have hb255 : ((s[p].toNat : Int)) ≤ 255 := by have := s[p].toNat_lt; omega
  have hq := refLetter_any (s[p].toNat : Int)
  have hq2 := refDigit_any (s[p].toNat : Int)
  rw [hL] at hq
  rw [hD] at hq2
  have HQ := Lib.hid hq
  have HQ2 := Lib.hid hq2
  have hb39 : ((s[p].toNat : Int) == 39) = false := by rw [beq_eq_false_iff_ne]; exact fun e => hc (byte_is 39 e)
  have HR := Lib.hid hr
  clear hq hq2 hL hD hc hr
  go_enter Try.func44, Try.ntmps44
  go_wp2_with (first | (go_at_call 57; refine (HQ.out _ (by omega) hb255).mono ?_; rintro e w' ⟨rfl, rfl⟩) | (go_at_call 59; refine (HQ2.out _ (by omega) hb255).mono ?_; rintro e w' ⟨rfl, rfl⟩) | (go_at_call 61; refine (marks_any _).mono ?_; rintro e w' ⟨rfl, rfl⟩))
  go_loopg [15] 21 (fun g s15 wr => ∃ i n : Nat, i ≤ 21 ∧ 21 - i ≤ g ∧ s15 = .int .i64 i ∧ (marksL.drop i).find? (fun m => m.isPrefixOf (s.data.toList.drop p)) = r ∧
    wr = ((w.alloc (.cells #[.int .i64 0, .string ⟨#[]⟩, .int .i64 0, .int .i64 0, .int .u64 0] 82)).alloc (.cells marksBlk 9)).drewN n)
  case atStart => exact ⟨0, 0, by omega, by omega, rfl, HR.out, rfl⟩
  case round =>
    obtain ⟨i, n, hi, hg, rfl, heq, rfl⟩ := hrel
    have HE := Lib.hid heq
    clear heq
    by_cases hlti : i < 21
    · obtain ⟨m, hm⟩ : ∃ m : ByteArray, m = ⟨(marksL.getD i []).toArray⟩ := ⟨_, rfl⟩
      have hcell := blk_cell (blk_new2 w (.cells #[.int .i64 0, .string ⟨#[]⟩, .int .i64 0, .int .i64 0, .int .u64 0] 82) (.cells marksBlk 9)) i _ (marksBlk_get i hlti)
      rw [← hm] at hcell
      have hml := marks_len i hlti
      have hms : m.size = (marksL.getD i []).length := by rw [Lib.size_eq, hm]
      rw [← hms] at hml
      obtain ⟨hm1, hm2⟩ := hml
      have hd : Hid (marksL.drop i = m.data.toList :: marksL.drop (i + 1)) := by
        show _ = _
        rw [List.drop_eq_getElem_cons (show i < marksL.length from hlti), hm, List.getD_eq_getElem?_getD, List.getElem?_eq_getElem (show i < marksL.length from hlti)]; rfl
      have HPC := Lib.hid (prefix_cut s m p (Nat.le_of_lt hp))
      have HMS := Lib.hid hms
      have HM := Lib.hid hm
      clear hms hm
      by_cases hfit : p + m.size ≤ s.size
      · have hf1 : decide ((p : Int) + m.size ≤ s.size) = true := by rw [decide_eq_true_eq]; omega
        cases hcmp : ((s.extract p (p + m.size)).toList == m.toList)
        · have hr0 : Hid ((marksL.drop (i + 1)).find? (fun m => m.isPrefixOf (s.data.toList.drop p)) = r) := by
            show _ = _
            rw [← HE.out, hd.out, List.find?_cons, HPC.out, hcmp, Bool.and_false]
          go_wp2
          go_quiet (fail)
          go_wp2
          go_roundg (gk - 1)
          case rel => exact ⟨i + 1, _, by omega, by omega, by go_num, hr0.out, rfl⟩
          case measure => omega
        · have hr0 : Hid (r = some m.data.toList) := by
            show _ = _
            rw [← HE.out, hd.out, List.find?_cons, HPC.out, hcmp, decide_eq_true hfit]; rfl
          have hmv : Hid (m = s.extract p (p + m.size)) := by
            show _ = _
            have := beq_iff_eq.1 hcmp
            rw [Lib.toList_data, Lib.toList_data] at this
            exact (str_ext this).symm
          go_wp2
          go_quiet (fail)
          go_wp2
          rw [hr0.out]
          have hlen : m.data.toList.length = m.size := (Lib.size_eq m).symm
          refine bodyPost_ret (v := .tuple #[.agg #[.int .i64 5, .string m, .int .i64 0, .int .i64 0, .int .u64 0], .int .i64 ((p : Int) + m.size), .int .i64 0]) (by simp [results, Try.results44, go_sem]) rfl ⟨?_, ?_⟩
          · show _ = Ending.returned (.tuple #[.agg #[.int .i64 5, .string (s.extract p (p + m.data.toList.length)), .int .i64 0, .int .i64 0, .int .u64 0], .int .i64 ((p + m.data.toList.length : Nat) : Int), .int .i64 0])
            rw [hlen, ← hmv.out]; rfl
          · exact ((((Step.refl _ w).alloc _).alloc _).drewN _).five (Nat.le_refl _)
      · have hf1 : decide ((p : Int) + m.size ≤ s.size) = false := by rw [decide_eq_false_iff_not]; omega
        have hr0 : Hid ((marksL.drop (i + 1)).find? (fun m => m.isPrefixOf (s.data.toList.drop p)) = r) := by
          show _ = _
          rw [← HE.out, hd.out, List.find?_cons, HPC.out, decide_eq_false hfit, Bool.false_and]
        go_wp2
        go_quiet (fail)
        go_wp2
        go_roundg (gk - 1)
        case rel => exact ⟨i + 1, _, by omega, by omega, by go_num, hr0.out, rfl⟩
        case measure => omega
    · have hr0 : Hid (r = none) := by
        show _ = _
        rw [← HE.out, show marksL.drop i = [] from List.drop_of_length_le (by show 21 ≤ i; omega)]; rfl
      go_wp2
      rw [hr0.out]
      refine bodyPost_ret (v := .tuple #[.agg #[.int .i64 0, .string ⟨#[]⟩, .int .i64 0, .int .i64 0, .int .u64 0], .int .i64 0, .int .i64 1]) (by simp [results, Try.results44, go_sem]) rfl ⟨rfl, ?_⟩
      exact ((((Step.refl _ w).alloc _).alloc _).drewN _).five (Nat.le_refl _)

theorem small_not {c : UInt8} (h : isSmall (c.toNat : Int) = false) : c.toNat < 97 ∨ 122 < c.toNat := by
  unfold isSmall at h
  by_cases h1 : c.toNat < 97
  · exact .inl h1
  · right
    have h2 : decide ((97 : Int) ≤ c.toNat) = true := by rw [decide_eq_true_eq]; omega
    rw [h2, Bool.true_and, decide_eq_false_iff_not] at h
    omega
theorem small_yes {c : UInt8} (h : isSmall (c.toNat : Int) = true) : 97 ≤ c.toNat ∧ c.toNat ≤ 122 := by
  unfold isSmall at h
  simp at h
  omega

theorem refOne_any (s : ByteArray) (p : Nat) (w : World) (hp : p < s.size) (hs : s.size ≤ 100000) :
    Calls Try.prog 44 #[.string s, .int .i64 p] w (OnePost s p w (nextF (s.data.toList.drop p))) := by
  have hd := drop_cons s p hp
  rw [hd, nextF, ← hd]
  cases hL : isLetter (s[p].toNat : Int)
  · rw [if_neg (by simp)]
    by_cases hc : s[p] = 39
    · rw [if_pos hc, hd, lifeF]
      by_cases hN0 : runF (s.data.toList.drop (p + 1)) = 0
      · rw [if_pos (.inl hN0)]
        exact one_lifeNone s p w hp hs _ rfl hL hc hN0
      · have hlt1 : p + 1 < s.size := by
          have := runF_le (s.data.toList.drop (p + 1)); simp at this; omega
        have hd1 := drop_cons s (p + 1) hlt1
        have hh : (s.data.toList.drop (p + 1)).headD 0 = s[p + 1] := by rw [hd1]; rfl
        cases hsm : isSmall (((s.data.toList.drop (p + 1)).headD 0).toNat : Int)
        · rw [if_pos (.inr rfl)]
          rw [hh] at hsm
          rcases small_not hsm with h | h
          · exact one_lifeLow s p w hp hs _ rfl hL hc (by omega) hlt1 h
          · exact one_lifeHigh s p w hp hs _ rfl hL hc (by omega) hlt1 h
        · rw [if_neg (fun e => e.elim hN0 (by simp))]
          rw [hh] at hsm
          obtain ⟨h97, h122⟩ := small_yes hsm
          by_cases hlong : 24 < runF (s.data.toList.drop (p + 1))
          · rw [if_pos hlong]
            exact one_lifeLong s p w hp hs _ rfl hL hc (by omega) hlt1 h97 h122 hlong
          · rw [if_neg hlong]
            exact one_life s p w hp hs _ rfl hL hc (by omega) hlt1 h97 h122 (by omega)
    · rw [if_neg hc]
      cases hD : isDigit (s[p].toNat : Int)
      · rw [if_neg (by simp)]
        have := one_mark s p w hp hs hL hc hD _ rfl
        rw [hd, markF_find, ← hd]
        exact this
      · rw [if_pos rfl]
        unfold numberF
        cases hn : numF ((s.data.toList.drop p).take (runF (s.data.toList.drop p))) with
        | error c =>
          refine one_numberBad s p w hp hs _ c rfl hL hc hD hn ?_
          have : nextF (s.data.toList.drop p) = .error c := by rw [hd, nextF, ← hd, hL, if_neg (by simp), if_neg hc, hD, if_pos rfl, numberF, hn]
          exact nextF_err this
        | ok x =>
          obtain ⟨k, n, v⟩ := x
          have hl : n = runF (s.data.toList.drop p) := by
            have hle := runF_le (s.data.toList.drop p)
            have : ((s.data.toList.drop p).take (runF (s.data.toList.drop p))).length = runF (s.data.toList.drop p) := by rw [List.length_take]; omega
            unfold numF at hn
            rw [this] at hn
            split at hn <;> split at hn <;> simp at hn <;> omega
          subst hl
          exact one_number s p w hp hs _ k v rfl hL hc hD hn
  · rw [if_pos rfl]
    unfold nameF
    by_cases hn : 24 < runF (s.data.toList.drop p)
    · rw [if_pos hn]
      exact one_nameLong s p w hp hs _ rfl hL hn
    · rw [if_neg hn]
      exact one_name s p w hp hs _ rfl hL (by omega)

end Go.Proofs.Ytfjkkfdpeckccaa
