/- Contracts of the reference of layer 1: all tokens of a text. -/
import Derived.Test.YtfjkkfdpeckccaaLexP
namespace Go.Proofs.Ytfjkkfdpeckccaa
open Go.RowKit

/- What is done with a text from a place on at which blanks and remarks have been passed over. -/
def allA (s : List UInt8) (k : Nat) (q : Nat × Nat × Nat) (acc : List Tok) : Except (Nat × Nat × Nat) (List Tok) :=
  if s.drop q.1 = [] then .ok (acc ++ [⟨0, [], q.2.1, q.1 - q.2.2 + 1, 0⟩])
  else if acc.length = 8000 then .error (2, q.2.1, q.1 - q.2.2 + 1)
  else match nextF (s.drop q.1) with
    | .error c => .error (c, q.2.1, q.1 - q.2.2 + 1)
    | .ok (kind, n, val) => allF k ((s.drop q.1).drop n) (q.1 + n) q.2.1 q.2.2 (acc ++ [⟨kind, (s.drop q.1).take n, q.2.1, q.1 - q.2.2 + 1, val⟩])
theorem allF_allA (s : List UInt8) (k p l f : Nat) (acc : List Tok) (hf : f ≤ p) : allF (k + 1) (s.drop p) p l f acc = allA s k (blankF false (s.drop p) p l f) acc := by
  have hi := blankF_inv (s.drop p) false p l f _ _ _ rfl hf
  rw [allF, allA]
  simp only [List.drop_drop]
  rw [show p + ((blankF false (s.drop p) p l f).1 - p) = (blankF false (s.drop p) p l f).1 by omega]
  rfl

def RefAllPost (B : Nat) (w : World) (r : Except (Nat × Nat × Nat) (List Tok)) (e : Ending) (w' : World) : Prop :=
  (match r with
    | .ok l => ∃ v, e = .returned (.tuple #[v, .agg #[.int .i64 0, .int .i64 0, .int .i64 0]]) ∧ w'.ownsRow B 82 5 v l.length (toksV l)
    | .error (c, ln, col) => e = .returned (.tuple #[.slice none 0 0, .agg #[.int .i64 c, .int .i64 ln, .int .i64 col]])) ∧ Step (fun _ => False) w w'

theorem Try.infoRTok : (Try.prog.info? 82).map (fun i => (i.zero, i.size, i.bytes)) = some (some (.agg #[.int .i64 0, .string ⟨#[]⟩, .int .i64 0, .int .i64 0, .int .u64 0]), 5, 48) := by kernel_rfl

theorem refOne_ok (s : ByteArray) (p : Nat) (w : World) (k n v : Nat) (hp : p < s.size) (hs : s.size ≤ 100000) (h : nextF (s.data.toList.drop p) = .ok (k, n, v)) :
    Calls Try.prog 44 #[.string s, .int .i64 p] w fun e w' =>
      e = .returned (.tuple #[.agg #[.int .i64 k, .string (s.extract p (p + n)), .int .i64 0, .int .i64 0, .int .u64 v], .int .i64 ((p + n : Nat) : Int), .int .i64 0]) ∧ Step (fun _ => False) w w' := by
  have := refOne_any s p w hp hs
  rw [h] at this
  exact this
theorem refOne_bad (s : ByteArray) (p : Nat) (w : World) (c : Nat) (hp : p < s.size) (hs : s.size ≤ 100000) (h : nextF (s.data.toList.drop p) = .error c) :
    Calls Try.prog 44 #[.string s, .int .i64 p] w fun e w' =>
      e = .returned (.tuple #[.agg #[.int .i64 0, .string ⟨#[]⟩, .int .i64 0, .int .i64 0, .int .u64 0], .int .i64 0, .int .i64 c]) ∧ Step (fun _ => False) w w' := by
  have := refOne_any s p w hp hs
  rw [h] at this
  exact this

set_option maxRecDepth 100000 in
set_option maxHeartbeats 400000 in
theorem refAll_long (s : ByteArray) (w : World) (hs : 20000 < s.size) :
    Calls Try.prog 21 #[.string s] w (RefAllPost w.heap.size w (lexF s.data.toList)) := by
  have HR : Hid (lexF s.data.toList = .error (2, 0, 0)) := by
    show _ = _
    rw [lexF, if_pos (by rw [← Lib.size_eq]; omega)]
  generalize lexF s.data.toList = Res at *
  go_enter Try.func21, Try.ntmps21
  go_wp2
  refine bodyPost_ret (v := .tuple #[.slice none 0 0, .agg #[.int .i64 2, .int .i64 0, .int .i64 0]]) (by simp [results, Try.results21, go_sem]) rfl ?_
  rw [HR.out]
  refine ⟨rfl, ?_⟩
  exact (Step.refl _ w).alloc _

set_option maxRecDepth 100000 in
set_option maxHeartbeats 1000000 in
theorem refAll_any (s : ByteArray) (w : World) (hs : s.size ≤ 20000) :
    Calls Try.prog 21 #[.string s] w (RefAllPost w.heap.size w (lexF s.data.toList)) := by
  have HR : Hid (allA s.data.toList s.data.toList.length (blankF false s.data.toList 0 1 0) [] = lexF s.data.toList) := by
    show _ = _
    rw [lexF, if_neg (by rw [← Lib.size_eq]; omega)]
    exact (allF_allA s.data.toList s.data.toList.length 0 1 0 [] (Nat.le_refl _)).symm
  generalize hRes : lexF s.data.toList = Res at *
  clear hRes
  obtain ⟨i0, hi0, hz00, hz10, hz20⟩ := info_parts Try.infoRTok
  have hi := Lib.hid hi0
  have hz0 := Lib.hid hz00
  have hz1 := Lib.hid hz10
  have hz2 := Lib.hid hz20
  clear hi0 hz00 hz10 hz20
  have hsl : Hid (s.data.toList.length = s.size) := (Lib.size_eq s).symm
  rw [hsl.out] at HR
  go_enter Try.func21, Try.ntmps21
  go_wp2_with fail
  go_loopg [4, 5, 6, 7] (s.size + 1) (fun g s4 s5 s6 s7 wr => ∃ (p l f k : Nat) (toks : List Tok), s5 = .int .i64 l ∧ s6 = .int .i64 f ∧ s7 = .int .i64 p ∧ f ≤ p ∧ p ≤ s.size ∧ l ≤ p + 1 ∧ toks.length ≤ 8000 ∧ s.size - p ≤ k ∧ s.size - p ≤ g ∧
    allA s.data.toList k (blankF false (s.data.toList.drop p) p l f) toks = Res ∧
    wr.heap[w.heap.size]? = some (.cells #[.int .i64 0, .int .i64 0, .int .i64 0] 49 (0, 0)) ∧ wr.ownsRow (w.heap.size + 1) 82 5 s4 toks.length (toksV toks) ∧
    Step (fun _ => False) w wr ∧ w.heap.size + 1 ≤ wr.heap.size)
  case atStart =>
    exact ⟨0, 1, 0, s.size, [], rfl, rfl, rfl, Nat.le_refl _, Nat.zero_le _, by omega, by simp, by omega, by omega, HR.out, blk_new w _, World.ownsRow_nil _ _ _ _, (Step.refl _ w).alloc _, by simp⟩
  case round =>
    obtain ⟨p, l, f, k, toks, rfl, rfl, rfl, hf, hp, hl, htk, hk, hg, heq, hE, hown, hst, hsz⟩ := hrel
    obtain ⟨oa, oc, rfl⟩ := owns_slice hown
    have HE := Lib.hid heq
    have HOW := Lib.hid hown
    have hEE : Hid (wr.heap[w.heap.size]? = _) := hE
    obtain ⟨⟨g0, g1, g2⟩, k0, k1, k2⟩ := blk3 hE
    clear heq hown hE
    have HC : Hid ((p : Int) - f + 1 = ((p - f + 1 : Nat) : Int)) := show _ = _ by omega
    by_cases hend : p < s.size
    · have hdr := Lib.hid (drop_cons s p hend)
      have hb255 : ((s[p].toNat : Int)) ≤ 255 := by have := s[p].toNat_lt; omega
      by_cases h10 : s[p] = 10
      · have hr0 : Hid (allA s.data.toList k (blankF false (s.data.toList.drop (p + 1)) (p + 1) (l + 1) (p + 1)) toks = Res) := by
          show _ = _
          rw [← HE.out, hdr.out, blankF, if_pos h10]
        have b10 : ((s[p].toNat : Int) == 10) = true := by rw [h10]; rfl
        clear h10
        go_wp2
        go_roundg (gk - 1)
        case rel => exact ⟨p + 1, l + 1, p + 1, k, toks, by go_num, by go_num, by go_num, by omega, by omega, by omega, htk, by omega, by omega, hr0.out, hEE.out, HOW.out, hst, hsz⟩
        case measure => omega
      · have b10 : ((s[p].toNat : Int) == 10) = false := by rw [beq_eq_false_iff_ne]; exact fun e => h10 (byte_is 10 e)
        by_cases hsp : s[p] = 32 ∨ s[p] = 9 ∨ s[p] = 13
        · have hr0 : Hid (allA s.data.toList k (blankF false (s.data.toList.drop (p + 1)) (p + 1) l f) toks = Res) := by
            show _ = _
            rw [← HE.out, hdr.out, blankF_skip hsp]
          have hcase : ((s[p].toNat : Int) == 32) = true ∨ (((s[p].toNat : Int) == 32) = false ∧ ((s[p].toNat : Int) == 9) = true) ∨ (((s[p].toNat : Int) == 32) = false ∧ ((s[p].toNat : Int) == 9) = false ∧ ((s[p].toNat : Int) == 13) = true) := by
            rcases hsp with h | h | h <;> rw [h] <;> decide
          clear h10 hsp
          rcases hcase with b1 | ⟨b1, b2⟩ | ⟨b1, b2, b3⟩
          all_goals
            go_wp2
            go_roundg (gk - 1)
            case rel => exact ⟨p + 1, l, f, k, toks, by go_num, by go_num, by go_num, by omega, by omega, by omega, htk, by omega, by omega, hr0.out, hEE.out, HOW.out, hst, hsz⟩
            case measure => omega
        · have b32 : ((s[p].toNat : Int) == 32) = false := by rw [beq_eq_false_iff_ne]; exact fun e => hsp (.inl (byte_is 32 e))
          have b9 : ((s[p].toNat : Int) == 9) = false := by rw [beq_eq_false_iff_ne]; exact fun e => hsp (.inr (.inl (byte_is 9 e)))
          have b13 : ((s[p].toNat : Int) == 13) = false := by rw [beq_eq_false_iff_ne]; exact fun e => hsp (.inr (.inr (byte_is 13 e)))
          have H10 := Lib.hid h10
          have HSP := Lib.hid hsp
          clear h10 hsp
          by_cases hrem : s[p] = 47 ∧ (s.data.toList.drop (p + 1)).head? = some 47
          · have hp1 : p + 1 < s.size := by
              rcases Nat.lt_or_ge (p + 1) s.size with h | h
              · exact h
              · rw [List.drop_of_length_le (by rw [hsl.out]; exact h)] at hrem; simp at hrem
            have h47 : s[p + 1] = 47 := by
              have := hrem.2
              rw [drop_cons s (p + 1) hp1] at this
              simpa using this
            have b47 : ((s[p].toNat : Int) == 47) = true := by rw [hrem.1]; rfl
            have c47 : ((s[p + 1].toNat : Int) == 47) = true := by rw [h47]; rfl
            have HI : Hid (allA s.data.toList k (blankF true (s.data.toList.drop p) p l f) toks = Res) := by
              show _ = _
              rw [← HE.out, hdr.out, blankF_into hrem]
            have hn10 := H10.out
            clear hrem h47 HE H10
            obtain ⟨wo, rfl⟩ : ∃ wo : World, wo = wr := ⟨_, rfl⟩
            obtain ⟨gg, rfl⟩ : ∃ g : Nat, g = gk := ⟨_, rfl⟩
            have HN10 := Lib.hid hn10
            clear hn10
            go_wp2_with fail
            go_loopg [7] s.size (fun g v wi => ∃ p2 : Nat, v = .int .i64 p2 ∧ p ≤ p2 ∧ p2 ≤ s.size ∧ s.size - p2 ≤ g ∧ allA s.data.toList k (blankF true (s.data.toList.drop p2) p2 l f) toks = Res ∧ wi = wo)
            case atStart => exact ⟨p, rfl, Nat.le_refl _, hp, by omega, HI.out, rfl⟩
            case round =>
              obtain ⟨p2, rfl, hpp, hp2, hg2, heq2, rfl⟩ := hrel
              have HE2 := Lib.hid heq2
              clear heq2
              by_cases hlt2 : p2 < s.size
              · have hdr2 := Lib.hid (drop_cons s p2 hlt2)
                by_cases h10 : s[p2] = 10
                · have hb10 : ((s[p2].toNat : Int) != 10) = false := by rw [h10]; rfl
                  have hpp2 : p < p2 := by
                    rcases Nat.lt_or_ge p p2 with h | h
                    · exact h
                    · have : p = p2 := by omega
                      subst this
                      exact absurd h10 HN10.out
                  have hr0 : Hid (allA s.data.toList k (blankF false (s.data.toList.drop p2) p2 l f) toks = Res) := by
                    show _ = _
                    rw [← HE2.out, hdr2.out, blankF_out h10]
                  clear h10
                  go_wp2
                  go_roundg (gg - 1)
                  case rel => exact ⟨p2, l, f, k, toks, by go_num, by go_num, by go_num, by omega, by omega, by omega, htk, by omega, by omega, hr0.out, hEE.out, HOW.out, hst, hsz⟩
                  case measure => omega
                · have hb10 : ((s[p2].toNat : Int) != 10) = true := by rw [bne_iff_ne]; exact fun e => h10 (byte_is 10 e)
                  have hr0 : Hid (allA s.data.toList k (blankF true (s.data.toList.drop (p2 + 1)) (p2 + 1) l f) toks = Res) := by
                    show _ = _
                    rw [← HE2.out, hdr2.out, blankF, if_neg h10]
                  clear h10
                  go_wp2
                  go_roundg (gk - 1)
                  case rel => exact ⟨p2 + 1, by go_num, by omega, by omega, by omega, hr0.out, rfl⟩
                  case measure => omega
              · have hr0 : Hid (allA s.data.toList k (blankF false (s.data.toList.drop p2) p2 l f) toks = Res) := by
                  show _ = _
                  rw [← HE2.out, List.drop_of_length_le (by rw [hsl.out]; omega)]; rfl
                go_wp2
                go_roundg (gg - 1)
                case rel => exact ⟨p2, l, f, k, toks, by go_num, by go_num, by go_num, by omega, by omega, by omega, htk, by omega, by omega, hr0.out, hEE.out, HOW.out, hst, hsz⟩
                case measure => omega
          · have hstop : Hid (allA s.data.toList k (p, l, f) toks = Res) := by
              show _ = _
              rw [← HE.out, hdr.out, blankF_stop H10.out HSP.out hrem]
            have hcase : ((s[p].toNat : Int) == 47) = false ∨ (((s[p].toNat : Int) == 47) = true ∧ decide ((p : Int) + 1 < s.size) = false) ∨ (∃ h : p + 1 < s.size, ((s[p].toNat : Int) == 47) = true ∧ decide ((p : Int) + 1 < s.size) = true ∧ ((s[p + 1].toNat : Int) == 47) = false) := by
              by_cases h47 : s[p] = 47
              · right
                have e47 : ((s[p].toNat : Int) == 47) = true := by rw [h47]; rfl
                by_cases hp1 : p + 1 < s.size
                · right
                  refine ⟨hp1, e47, by rw [decide_eq_true_eq]; omega, ?_⟩
                  rw [beq_eq_false_iff_ne]
                  intro e
                  refine hrem ⟨h47, ?_⟩
                  rw [drop_cons s (p + 1) hp1, byte_is 47 e]; rfl
                · exact .inl ⟨e47, by rw [decide_eq_false_iff_not]; omega⟩
              · exact .inl (by rw [beq_eq_false_iff_ne]; exact fun e => h47 (byte_is 47 e))
            have hne : Hid (s.data.toList.drop p ≠ []) := fun e => by rw [hdr.out] at e; simp at e
            clear hrem HE H10 HSP
            by_cases h8 : toks.length = 8000
            · have hr0 : Hid (Res = .error (2, l, p - f + 1)) := by
                show _ = _
                rw [← hstop.out, allA, if_neg hne.out, if_pos h8]
              have hb2 : ((toks.length : Int) == 8000) = true := by rw [h8]; rfl
              clear h8
              rcases hcase with b1 | ⟨b1, b2⟩ | ⟨hp1, b1, b2, b3⟩
              all_goals
                go_wp2
                refine bodyPost_ret (v := .tuple #[.slice none 0 0, .agg #[.int .i64 2, .int .i64 l, .int .i64 ((p : Int) - f + 1)]]) (by simp [results, Try.results21, go_sem, g0, g1, g2]) rfl ?_
                rw [hr0.out]
                exact ⟨by rw [HC.out]; rfl, hst.three (Nat.le_refl _)⟩
            · have hb2 : ((toks.length : Int) == 8000) = false := by rw [beq_eq_false_iff_ne]; omega
              cases hn : nextF (s.data.toList.drop p) with
              | error c =>
                have hr0 : Hid (Res = .error (c, l, p - f + 1)) := by
                  show _ = _
                  rw [← hstop.out, allA, if_neg hne.out, if_neg h8, hn]
                have hc0 : ((c : Int) != 0) = true := by rw [bne_iff_ne]; have := nextF_err hn; omega
                have HN := Lib.hid hn
                clear hn h8
                rcases hcase with b1 | ⟨b1, b2⟩ | ⟨hp1, b1, b2, b3⟩
                all_goals
                  go_wp2_with fail
                  refine (refOne_bad s p _ c hend (by omega) HN.out).mono ?_
                  rintro e w3 ⟨rfl, hst3⟩
                  obtain ⟨⟨g0', g1', g2'⟩, k0', k1', k2'⟩ := blk3 (hst3.keep hEE.out (fun h => h))
                  have hz3 := hst3.size
                  have hltE3 : w.heap.size < w3.heap.size := by omega
                  go_wp2
                  refine bodyPost_ret (v := .tuple #[.slice none 0 0, .agg #[.int .i64 c, .int .i64 l, .int .i64 ((p : Int) - f + 1)]]) (by simp [results, Try.results21, go_sem, g0', g1', g2', hltE3]) rfl ?_
                  rw [hr0.out]
                  exact ⟨by rw [HC.out], (((hst.trans hst3).three (Nat.le_refl _)).alloc _)⟩
              | ok x =>
                obtain ⟨kind, n, val⟩ := x
                obtain ⟨hn1, hn2, _⟩ := nextF_pos hn
                rw [List.length_drop, hsl.out] at hn2
                obtain ⟨k', rfl⟩ : ∃ k', k = k' + 1 := ⟨k - 1, by omega⟩
                have hr0 : Hid (allA s.data.toList k' (blankF false (s.data.toList.drop (p + n)) (p + n) l f) (toks ++ [⟨kind, (s.data.toList.drop p).take n, l, p - f + 1, val⟩]) = Res) := by
                  show _ = _
                  have e := hstop.out
                  rw [allA, if_neg hne.out, if_neg h8, hn] at e
                  rw [← allF_allA _ _ _ _ _ _ (by omega), ← List.drop_drop]
                  exact e
                have HN := Lib.hid hn
                clear hn
                rcases hcase with b1 | ⟨b1, b2⟩ | ⟨hp1, b1, b2, b3⟩
                all_goals
                  go_wp2_with fail
                  refine (refOne_ok s p _ kind n val hend (by omega) HN.out).mono ?_
                  rintro e w3 ⟨rfl, hst3⟩
                  have HE3 : Hid (w3.heap[w.heap.size]? = some (.cells #[.int .i64 0, .int .i64 0, .int .i64 0] 49 (0, 0))) := hst3.keep hEE.out (fun h => h)
                  have hz3 := hst3.size
                  have hltE3 : w.heap.size < w3.heap.size := by omega
                  have HOW3 : Hid (w3.ownsRow (w.heap.size + 1) 82 5 (.slice oa toks.length oc) toks.length (toksV toks)) := hst3.owns HOW.out (fun k hk h => h)
                  have hw3 := hst.trans hst3
                  go_wp2_with (at_builtin; refine wpList_append_own _ rfl _ _ 47 rfl (w.heap.size + 1) 82 i0 (.agg #[.int .i64 0, .string ⟨#[]⟩, .int .i64 0, .int .i64 0, .int .u64 0]) 5 48 Try.underlying47 hi.out hz0.out hz1.out hz2.out rfl (by decide) _ _ _ rfl ((HOW3.out.alloc _).alloc _) ⟨w3.heap.size + 1, 0, none⟩ 1 1 [.int .i64 kind, .string (s.extract p (p + n)), .int .i64 l, .int .i64 ((p : Int) - f + 1), .int .u64 val] rfl rfl ?_ ?_ ?_ ?_ ?_ ?_)
                  · exact news_cells (cs := [_, _, _, _, _]) (blk_new2 _ _ _)
                  · intro u hu; simp at hu; rcases hu with rfl | rfl | rfl | rfl | rfl <;> rfl
                  · unfold maxLen; omega
                  · omega
                  · simp; omega
                  intro v' w4 hown4 hgrow _
                  have hrow := owned_row HOW3.out
                  have H4 := Lib.hid hown4
                  have HG := Lib.hid hgrow
                  have HRW := Lib.hid hrow
                  clear hown4 hgrow hrow
                  go_wp2
                  go_roundg (gk - 1)
                  case rel =>
                    refine ⟨p + n, l, f, k', toks ++ [⟨kind, (s.data.toList.drop p).take n, l, p - f + 1, val⟩], by go_num, by go_num, by go_num, by omega, by omega, by omega, by simp; omega, by omega, by omega, hr0.out, grown_keep HG.out (blk_alloc (blk_alloc HE3.out)) (fun k hk => by have := HRW.out k hk; omega), ?_, ?_, ?_⟩
                    · have := H4.out
                      rw [toksV_snoc, List.length_append]
                      rw [HC.out, cut_bytes] at this
                      exact this
                    · exact ((hw3.alloc _).alloc _).grown HG.out (fun k hk hlt => by have := HRW.out k hk; omega)
                    · have := HG.out.size
                      simp at this; omega
                  case measure => omega
    · have hr0 : Hid (Res = .ok (toks ++ [⟨0, [], l, p - f + 1, 0⟩])) := by
        show _ = _
        have hnil : s.data.toList.drop p = [] := List.drop_of_length_le (by rw [hsl.out]; omega)
        rw [← HE.out, hnil, blankF, allA, if_pos (by exact hnil)]
      go_wp2_with (at_builtin; refine wpList_append_own _ rfl _ _ 47 rfl (w.heap.size + 1) 82 i0 (.agg #[.int .i64 0, .string ⟨#[]⟩, .int .i64 0, .int .i64 0, .int .u64 0]) 5 48 Try.underlying47 hi.out hz0.out hz1.out hz2.out rfl (by decide) _ _ _ rfl (HOW.out.alloc _) ⟨wr.heap.size, 0, none⟩ 1 1 [.int .i64 0, .string ⟨#[]⟩, .int .i64 l, .int .i64 ((p : Int) - f + 1), .int .u64 0] rfl rfl ?c1 ?c2 ?c3 ?c4 ?c5 ?_)
      case c1 => exact news_cells (cs := [_, _, _, _, _]) (blk_new _ _)
      case c2 => intro u hu; simp at hu; rcases hu with rfl | rfl | rfl | rfl | rfl <;> rfl
      case c3 => unfold maxLen; omega
      case c4 => omega
      case c5 => simp; omega
      intro v' w3 hown3 hgrow _
      have hrow := owned_row HOW.out
      obtain ⟨⟨g0', g1', g2'⟩, k0', k1', k2'⟩ := blk3 (grown_keep hgrow (blk_alloc hEE.out) (fun k hk => by have := hrow k hk; omega))
      have hst3 : Step (fun _ => False) w w3 := (hst.alloc _).grown hgrow (fun k hk hlt => by have := hrow k hk; omega)
      have H3 := Lib.hid hown3
      clear hown3 hgrow hrow
      go_wp2
      refine bodyPost_ret (v := .tuple #[v', .agg #[.int .i64 0, .int .i64 0, .int .i64 0]]) (by simp [results, Try.results21, go_sem, g0', g1', g2']) rfl ?_
      rw [hr0.out]
      refine ⟨⟨v', rfl, ?_⟩, ?_⟩
      · have := owns_three (r := w.heap.size) (v0 := .int .i64 0) (v1 := .int .i64 0) (v2 := .int .i64 0) H3.out (by omega)
        rw [toksV_snoc, List.length_append]
        rw [HC.out] at this
        exact owns_base this (by omega)
      · exact hst3.three (Nat.le_refl _)

end Go.Proofs.Ytfjkkfdpeckccaa
