/- Words: the plain law (a text stands between two blanks in the line of all words just if it is one of them), and the contracts of lex.Word, chattelref01.In and chattelref01.Words. -/
import Derived.Test.YtfjkkfdpeckccaaLexS
namespace Go.Proofs.Ytfjkkfdpeckccaa
open Go.RowKit

def wordsL : List (List UInt8) := [[115, 116, 114, 117, 99, 116], [116, 114, 97, 105, 116], [105, 109, 112, 108], [102, 111, 114], [102, 110], [119, 104, 101, 114, 101], [108, 101, 116], [105, 102], [101, 108, 115, 101], [119, 104, 105, 108, 101], [114, 101, 116, 117, 114, 110], [97, 98, 111, 114, 116], [116, 114, 117, 101], [102, 97, 108, 115, 101], [109, 117, 116], [100, 121, 110], [105, 110, 116], [98, 111, 111, 108], [102, 54, 52], [115, 101, 108, 102], [66, 111, 120], [117, 110, 98, 111, 120], [99, 104, 111, 111, 115, 101], [110, 101, 119], [97, 115]]
def wordF (s : List UInt8) : Bool := wordsL.contains s
def lineOf : List (List UInt8) → List UInt8
  | [] => [32]
  | w :: ws => 32 :: (w ++ lineOf ws)

theorem contains_one (l : List UInt8) (a : UInt8) : Lib.contains l [a] = l.contains a := by
  induction l with
  | nil => rfl
  | cons b l ih =>
    rw [contains_cons, ih, List.contains_cons]
    show ((a == b && true) || _) = _
    rw [Bool.and_true]
theorem contains_past (w l s : List UInt8) (h : 32 ∉ w) : Lib.contains (w ++ l) (32 :: s) = Lib.contains l (32 :: s) := by
  induction w with
  | nil => rfl
  | cons b w ih =>
    have hb : ((32 : UInt8) == b) = false := by rw [beq_eq_false_iff_ne]; exact fun e => h (e ▸ List.mem_cons_self)
    rw [List.cons_append, contains_cons, ih (fun e => h (List.mem_cons_of_mem _ e))]
    show (((32 : UInt8) == b && _) || _) = _
    rw [hb]; rfl
theorem lineOf_head (ws : List (List UInt8)) : ∃ t, lineOf ws = 32 :: t := by
  cases ws with
  | nil => exact ⟨_, rfl⟩
  | cons w ws => exact ⟨_, rfl⟩
theorem prefix_blank : ∀ (s w t : List UInt8), 32 ∉ s → 32 ∉ w → (s ++ [32]).isPrefixOf (w ++ 32 :: t) = (s == w) := by
  intro s
  induction s with
  | nil =>
    intro w t _ hw
    cases w with
    | nil => simp [List.isPrefixOf]
    | cons b w =>
      have hb : ((32 : UInt8) == b) = false := by rw [beq_eq_false_iff_ne]; exact fun e => hw (e ▸ List.mem_cons_self)
      show ((32 : UInt8) == b && _) = false
      rw [hb]; rfl
  | cons a s ih =>
    intro w t hs hw
    cases w with
    | nil =>
      have ha : (a == (32 : UInt8)) = false := by rw [beq_eq_false_iff_ne]; exact fun e => hs (e ▸ List.mem_cons_self)
      show (a == (32 : UInt8) && _) = false
      rw [ha]; rfl
    | cons b w =>
      show (a == b && (s ++ [32]).isPrefixOf (w ++ 32 :: t)) = (a == b && s == w)
      rw [ih w t (fun e => hs (List.mem_cons_of_mem _ e)) (fun e => hw (List.mem_cons_of_mem _ e))]
theorem contains_line (s : List UInt8) (hs : s ≠ []) (h32 : 32 ∉ s) : ∀ ws : List (List UInt8), (∀ w ∈ ws, 32 ∉ w) → Lib.contains (lineOf ws) (32 :: (s ++ [32])) = ws.contains s := by
  intro ws
  induction ws with
  | nil =>
    intro _
    cases s with
    | nil => exact absurd rfl hs
    | cons a s => rw [lineOf, contains_cons, contains_nil]; rfl
  | cons w ws ih =>
    intro hw
    obtain ⟨t, ht⟩ := lineOf_head ws
    have hw1 := hw w List.mem_cons_self
    rw [lineOf, contains_cons, contains_past w _ _ hw1, ih (fun x hx => hw x (List.mem_cons_of_mem _ hx)), List.contains_cons]
    show ((32 : UInt8) == 32 && (s ++ [32]).isPrefixOf (w ++ lineOf ws) || _) = _
    rw [ht, prefix_blank s w t h32 hw1]; rfl

def wordsC : List UInt8 := [32, 115, 116, 114, 117, 99, 116, 32, 116, 114, 97, 105, 116, 32, 105, 109, 112, 108, 32, 102, 111, 114, 32, 102, 110, 32, 119, 104, 101, 114, 101, 32, 108, 101, 116, 32, 105, 102, 32, 101, 108, 115, 101, 32, 119, 104, 105, 108, 101, 32, 114, 101, 116, 117, 114, 110, 32, 97, 98, 111, 114, 116, 32, 116, 114, 117, 101, 32, 102, 97, 108, 115, 101, 32, 109, 117, 116, 32, 100, 121, 110, 32, 105, 110, 116, 32, 98, 111, 111, 108, 32, 102, 54, 52, 32, 115, 101, 108, 102, 32, 66, 111, 120, 32, 117, 110, 98, 111, 120, 32, 99, 104, 111, 111, 115, 101, 32, 110, 101, 119, 32, 97, 115, 32]
theorem wordsC_line : wordsC = lineOf wordsL := by decide
theorem words_plain (s : List UInt8) (hs : s ≠ []) (h32 : 32 ∉ s) : Lib.contains wordsC (32 :: (s ++ [32])) = wordF s := by
  rw [wordsC_line]; exact contains_line s hs h32 wordsL (by decide)
theorem wordF_blank (s : List UInt8) (h : 32 ∈ s) : wordF s = false := by
  cases e : wordF s
  · rfl
  · have hm : s ∈ wordsL := List.contains_iff_mem.1 e
    have : ∀ w ∈ wordsL, 32 ∉ w := by decide
    exact absurd h (this s hm)

/- Texts that lie one behind the other. -/
def Strs (w : World) (v : Value) (l : List ByteArray) : Prop := ∃ g o c, v = .slice (some ⟨g, o, none⟩) l.length c ∧ g < w.heap.size ∧ l.length ≤ c ∧ ∀ (i : Nat) x, l[i]? = some x → w.cell? ⟨g, o + i, none⟩ = some (.string x)

/- Is a text among these? -/
def inB (l : List ByteArray) (s : ByteArray) : Bool := (l.map (·.data.toList)).contains s.data.toList

theorem inB_cons (x : ByteArray) (l : List ByteArray) (s : ByteArray) : inB (x :: l) s = (s.data.toList == x.data.toList || inB l s) := by
  unfold inB; rw [List.map_cons, List.contains_cons]

def toB (l : List UInt8) : ByteArray := ⟨l.toArray⟩
theorem toB_list (l : List UInt8) : (toB l).data.toList = l := rfl

set_option maxRecDepth 100000 in
set_option maxHeartbeats 400000 in
theorem in_any (l : List ByteArray) (v : Value) (s : ByteArray) (w : World) (hl : l.length ≤ 100000) (h : Strs w v l) :
    Calls Try.prog 25 #[v, .string s] w fun e w' => e = .returned (.bool (inB l s)) ∧ w = w' := by
  obtain ⟨g, o, c, rfl, hg, hc, hcell⟩ := h
  have HC := Lib.hid hcell
  clear hcell
  go_enter Try.func25, Try.ntmps25
  go_wp2_with fail
  go_loopg [5] l.length (fun g s5 wr => ∃ i : Nat, s5 = .int .i64 i ∧ i ≤ l.length ∧ l.length - i ≤ g ∧ inB (l.drop i) s = inB l s ∧ wr = w)
  case atStart => exact ⟨0, rfl, Nat.zero_le _, by omega, rfl, rfl⟩
  case round =>
    obtain ⟨i, rfl, hi, hgg, heq, rfl⟩ := hrel
    have HE := Lib.hid heq
    clear heq
    by_cases hlt : i < l.length
    · obtain ⟨x, hx⟩ : ∃ x, l[i]? = some x := ⟨l[i], List.getElem?_eq_getElem hlt⟩
      have hcell := HC.out i x hx
      have hd : Hid (l.drop i = x :: l.drop (i + 1)) := by
        show _ = _
        rw [List.drop_eq_getElem_cons hlt]
        rw [List.getElem?_eq_getElem hlt] at hx
        simp at hx; rw [hx]
      clear hx
      cases hcmp : (x.toList == s.toList)
      · have hr0 : Hid (inB (l.drop (i + 1)) s = inB l s) := by
          show _ = _
          rw [← HE.out, hd.out, inB_cons]
          rw [Lib.toList_data, Lib.toList_data] at hcmp
          have : (s.data.toList == x.data.toList) = false := by rw [BEq.comm]; exact hcmp
          rw [this]; rfl
        go_wp2
        go_roundg (gk - 1)
        case rel => exact ⟨i + 1, by go_num, by omega, by omega, hr0.out, rfl⟩
        case measure => omega
      · have hr0 : Hid (inB l s = true) := by
          show _ = _
          rw [← HE.out, hd.out, inB_cons]
          rw [Lib.toList_data, Lib.toList_data] at hcmp
          have : (s.data.toList == x.data.toList) = true := by rw [BEq.comm]; exact hcmp
          rw [this]; rfl
        go_wp2
        go_ret
        exact ⟨ret_bool hr0.out.symm, rfl⟩
    · have hr0 : Hid (inB l s = false) := by
        show _ = _
        rw [← HE.out, List.drop_of_length_le (by omega)]; rfl
      go_wp2
      go_ret
      exact ⟨ret_bool hr0.out.symm, rfl⟩

set_option maxRecDepth 100000 in
set_option maxHeartbeats 400000 in
theorem refWords_any (w : World) :
    Calls Try.prog 26 #[] w fun e w' => ∃ v, e = .returned v ∧ Strs w' v (wordsL.map toB) ∧ Step (fun _ => False) w w' := by
  go_enter Try.func26, Try.ntmps26
  go_wp2
  go_ret
  refine ⟨_, rfl, ⟨w.heap.size, 0, 25, rfl, by simp, by decide, ?_⟩, (Step.refl _ w).alloc _⟩
  intro i x hx
  refine blk_cell (blk_new w _) (0 + i) _ ?_
  rw [Nat.zero_add]
  have : (#[] : Array Value) = #[] := rfl
  show ((wordsL.map fun m => Value.string ⟨m.toArray⟩).toArray)[i]? = some (.string x)
  rw [List.getElem?_map] at hx
  simp only [List.getElem?_toArray, List.getElem?_map]
  cases hw : wordsL[i]? with
  | none => rw [hw] at hx; simp at hx
  | some y => rw [hw] at hx; simp at hx; subst hx; rfl

theorem inB_words (s : ByteArray) : inB (wordsL.map toB) s = wordF s.data.toList := by
  unfold inB wordF
  rw [List.map_map]
  congr 1

theorem hasBlank_any (s : ByteArray) (v : Bool) (m : Int) (w : World) (hs : s.size ≤ 100000) (h : Lib.contains s.data.toList [32] = v) (hm : w.cell? ⟨0, 0, none⟩ = some (.int .i64 m)) :
    Calls Try.prog 45 #[.string s, .string ⟨#[32]⟩] w fun e w' => e = .returned (.bool v) ∧ w = w' :=
  (Try.strings_Contains _ _ m _ (by omega) hm).mono fun _ _ hq => ⟨by rw [hq.1]; exact ret_bool h, hq.2.symm⟩

set_option maxRecDepth 100000 in
set_option maxHeartbeats 400000 in
theorem word_any (s : ByteArray) (w : World) (m : Int) (hs : s.size ≤ 100000) (hm : w.cell? ⟨0, 0, none⟩ = some (.int .i64 m)) :
    Calls Try.prog 24 #[.string s] w fun e w' => e = .returned (.bool (wordF s.data.toList)) ∧ w = w' := by
  by_cases h0 : s.data.toList = []
  · have hf : Hid (wordF s.data.toList = false) := by show _ = _; rw [h0]; decide
    have he : s.toList = [] := by rw [Lib.toList_data]; exact h0
    have he' : s.toList.isEmpty = true := by rw [he]; rfl
    clear h0
    go_enter Try.func24, Try.ntmps24
    go_wp2
    go_ret
    exact ⟨ret_bool hf.out.symm, rfl⟩
  · have hpos : 0 < s.size := by
      rw [Lib.size_eq]; exact List.length_pos_iff.2 h0
    have he := toList_ne s hpos
    have he' := isEmpty_no s hpos
    cases hb : Lib.contains s.data.toList [32]
    · have h32 : 32 ∉ s.data.toList := by
        rw [contains_one] at hb
        intro e
        rw [List.contains_iff_mem.2 e] at hb; simp at hb
      have hp := words_plain _ h0 h32
      have HP := Lib.hid hp
      have HB := Lib.hid hb
      clear hb h32 hp h0
      go_enter Try.func24, Try.ntmps24
      go_wp2_with fail
      refine (hasBlank_any s _ m _ hs HB.out hm).mono ?_
      rintro e w' ⟨rfl, rfl⟩
      go_wp2_with fail
      refine (Try.strings_Contains _ _ m _ (by decide) hm).mono ?_
      rintro e w' ⟨rfl, rfl⟩
      go_wp2
      go_ret
      refine ⟨ret_bool ?_, rfl⟩
      rw [← HP.out]
      rfl
    · have hf : Hid (wordF s.data.toList = false) := by
        show _ = _
        rw [contains_one] at hb
        exact wordF_blank _ (List.contains_iff_mem.1 hb)
      have HB := Lib.hid hb
      clear hb h0
      go_enter Try.func24, Try.ntmps24
      go_wp2_with fail
      refine (hasBlank_any s _ m _ hs HB.out hm).mono ?_
      rintro e w' ⟨rfl, rfl⟩
      go_wp2
      go_ret
      exact ⟨ret_bool hf.out.symm, rfl⟩

theorem word_val (s : ByteArray) (v : Bool) (w : World) (m : Int) (hs : s.size ≤ 100000) (hv : wordF s.data.toList = v) (hm : w.cell? ⟨0, 0, none⟩ = some (.int .i64 m)) :
    Calls Try.prog 24 #[.string s] w fun e w' => e = .returned (.bool v) ∧ w = w' := by
  rw [← hv]; exact word_any s w m hs hm

set_option maxRecDepth 100000 in
set_option maxHeartbeats 400000 in
theorem lexWords_any (s : ByteArray) (w : World) (m : Int) (hm : w.cell? ⟨0, 0, none⟩ = some (.int .i64 m)) (hs : s.size ≤ 9223372036854775807) :
    Calls Try.prog 5 #[.string s] w fun e w' => e = .returned (.bool true) ∧ Step (fun _ => False) w w' := by
  by_cases hbig : 100 < s.size
  · have hd : decide ((100 : Int) < s.size) = true := by rw [decide_eq_true_eq]; omega
    clear hbig
    go_enter Try.func5, Try.ntmps5
    go_wp2_with fail
    refine (cut_any w m hm).mono ?_
    rintro e w1 ⟨rfl, h1⟩
    go_wp2_with fail
    refine (cut_any w1 m (h1.cell hm (fun h => h))).mono ?_
    rintro e w2 ⟨rfl, h2⟩
    go_wp2
    go_ret
    exact ⟨rfl, h1.trans h2⟩
  · have hd : decide ((100 : Int) < s.size) = false := by rw [decide_eq_false_iff_not]; omega
    have hs1 : s.size ≤ 100000 := by omega
    clear hbig
    cases hv : wordF s.data.toList
    all_goals
      have HV := Lib.hid hv
      clear hv
      go_enter Try.func5, Try.ntmps5
      go_wp2_with fail
      refine (cut_any w m hm).mono ?_
      rintro e w1 ⟨rfl, h1⟩
      have hm1 := h1.cell hm (fun h => h)
      go_wp2_with fail
      refine (word_val s _ w1 m hs1 HV.out hm1).mono ?_
      rintro e w' ⟨rfl, rfl⟩
      go_wp2_with fail
      refine (refWords_any w1).mono ?_
      rintro e w2 ⟨v2, rfl, hstr, h2⟩
      have hm2 := h2.cell hm1 (fun h => h)
      go_wp2_with fail
      refine (in_any (wordsL.map toB) v2 s w2 (by decide) hstr).mono ?_
      rintro e w' ⟨rfl, rfl⟩
      rw [inB_words, HV.out]
      clear hstr
      go_wp2_with fail
      refine (word_val _ true w2 m (by decide) (by decide) hm2).mono ?_
      rintro e w' ⟨rfl, rfl⟩
      go_wp2_with fail
      refine (word_val _ false w2 m (by decide) (by decide) hm2).mono ?_
      rintro e w' ⟨rfl, rfl⟩
      go_wp2
      go_ret
      exact ⟨rfl, h1.trans h2⟩

end Go.Proofs.Ytfjkkfdpeckccaa
