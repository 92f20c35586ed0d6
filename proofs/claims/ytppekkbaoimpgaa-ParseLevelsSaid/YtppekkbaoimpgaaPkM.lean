/- Its, Pl, Rea, Rp, Who, PlI, Whi, Top -/
import Derived.Test.YtppekkbaoimpgaaPkL
set_option maxRecDepth 100000
set_option maxHeartbeats 8000000
namespace Go.Proofs.Ytppekkbaoimpgaa
open Go.RowKit
theorem Try.infoItem : (Try.prog.info? 58).map (fun i => (i.zero, i.size, i.bytes)) = some (some (.agg #[.int .i64 0, .string ⟨#[]⟩, .string ⟨#[]⟩, .slice none 0 0, .slice none 0 0, .slice none 0 0, .int .i64 0, .string ⟨#[]⟩, .string ⟨#[]⟩, .bool false, .slice none 0 0, .slice none 0 0, .int .i64 0, .int .i64 0, .slice none 0 0, .slice none 0 0, .slice none 0 0, .int .i64 0, .int .i64 0]), 19, 312) := by kernel_rfl
def ItsV (n0 : Nat) (w' : World) (a : List It) (v : Value) : Prop := LsQ ItP w' (fun k => n0 ≤ k) a v
theorem items_any (f : Nat) (ihB : ∀ f', f' ≤ f → BlockOk f') (ihT : ∀ f', f' ≤ f → TypOk f') (R : Rdr) (w : World) (i d : Nat) (hl : LOk R.l) (h : RdAt R w i d) (hd : d ≤ 40) (hno : itemsR f R.l i d [] ≠ .out) :
  Calls Try.prog 17 #[.agg #[.pointer (some ⟨R.rb, 0, none⟩)]] w (PPost R d (ItsV w.heap.size) (itemsR f R.l i d []) w) := by
 have HL := Lib.hid hl
 have IHB := Lib.hid ihB
 have IHT := Lib.hid ihT
 obtain ⟨r, hr⟩ : ∃ r, r = itemsR f R.l i d [] := ⟨_, rfl⟩
 have HRE := Lib.hid hr
 rw [← hr] at hno ⊢
 have HNO := Lib.hid hno
 obtain ⟨i0, hi0, hz0, hz1, hz2⟩ := info_parts Try.infoItem
 have HI := Lib.hid hi0
 have HZ0 := Lib.hid hz0
 have HZ1 := Lib.hid hz1
 have HZ2 := Lib.hid hz2
 have hfd0 : ∀ (a0 a1 a2 a3 a4 : Value) (w : World), (Instr.field 73 (.agg #[a0, a1, a2, a3, a4]) 0).run Try.prog w = .ok a0 w := fun _ _ _ _ _ _ => by kernel_rfl
 obtain ⟨w1, hw1⟩ : ∃ w1 : World, w1 = w.alloc (.cells #[.pointer (some ⟨R.rb, 0, none⟩)] 45) := ⟨_, rfl⟩
 have HS1 : Hid (Step (fun _ => False) w w1) := by show Step _ _ _; rw [hw1]; exact (Step.refl _ _).alloc _
 have HP1 : Hid (w1.heap[w.heap.size]? = some (.cells #[.pointer (some ⟨R.rb, 0, none⟩)] 45 (0, 0))) := by show _ = _; rw [hw1]; exact blk_new _ _
 have HW1 := Lib.hid hw1
 have H1 := Lib.hid (h.quiet HS1.out)
 have hn1 := blk_lt HP1.out
 have hrlt := blk_lt h.blk
 have hwz : R.rb < w1.heap.size := by omega
 have HKP : Hid (∀ X : World, Step (· = R.rb) w1 X → X.cell? ⟨w.heap.size, 0, none⟩ = some (.pointer (some ⟨R.rb, 0, none⟩))) := by
  show ∀ X, _
  intro X hX
  exact blk_cell (hX.keep HP1.out (by omega)) 0 _ rfl
 have HBK : Hid (∀ X : World, Step (· = R.rb) w1 X → Step (· = R.rb) w X) := by
  show ∀ X, _
  intro X hX
  exact (HS1.out.mono (fun _ _ h => h.elim)).trans hX
 clear hw1
 have p0 := HKP.out w1 (Step.refl _ _)
 clear ihB ihT hl h hno hr hi0 hz0 hz1 hz2 p0
 go_enter Try.func17, Try.ntmps17
 go_upto_block 0 with fail
 rw [← HW1.out]
 go_wp2_with fail
 go_loopg [3] f (fun gg s3 wr => gg ≤ f ∧ ∃ (i' : Nat) (acc : List It) (xs : List Value), r = itemsR gg R.l i' d acc ∧ LqSt ItP 58 19 R w1 d wr i' acc s3 xs)
 case atStart => exact ⟨Nat.le_refl _, i, [], [], HRE.out, H1.out, World.ownsRow_nil _ _ _ _, rfl, Step.refl _ _⟩
 case round =>
  obtain ⟨hgf, i', acc, xs, hrq, hst⟩ := hrel
  obtain ⟨gn, rfl⟩ : ∃ gn, gk = gn + 1 := by
   cases gk with
   | zero => exact absurd hrq (by rw [itemsR]; exact HNO.out)
   | succ gn => exact ⟨gn, rfl⟩
  obtain ⟨tk, htk⟩ : ∃ tk, tk = tokA R.l i' := ⟨_, rfl⟩
  have HEQ : Hid (r = if tk.kind = 0 then .ok acc i' else (roomR acc.length 60 R.l i').bind fun _ i => (itemR gn R.l i d).bind fun x j => itemsR gn R.l j d (acc ++ [x])) := by show _ = _; rw [hrq, itemsR, htk]
  have HT := Lib.hid (show R.l[i']? = some tk by rw [htk]; exact hst.rd.tok)
  obtain ⟨oa, oc, rfl⟩ := owns_slice hst.ow
  have HST := Lib.hid hst
  have p0 := HKP.out wr hst.st
  clear hrq hst htk
  go_wp2_with fail
  refine (peek_at R _ i' d tk HST.out.rd HT.out).mono ?_
  rintro e wq ⟨rfl, hq⟩
  have HSTQ := Lib.hid (HST.out.quiet itP_ok hq)
  clear hq p0
  by_cases hk : tk.kind = 0
  ·have e1 : ((tk.kind : Int) != 0) = false := by rw [bne, kindN tk.kind 0 0 rfl, hk]; rfl
   have HR6 : Hid (r = .ok acc i') := by show _ = _; rw [HEQ.out, if_pos hk]
   clear hk
   go_wp2_with fail
   go_ret
   have hsz := HS1.out.size
   exact PPost.of_ok HR6.out rfl ⟨_, RowP.of_owns HSTQ.out.ow (fun q hq => by have := (HSTQ.out.ow.lt q hq).1; omega), LsP.mono itP_ok (fun q _ hq => by have := hq.1; omega) _ _ HSTQ.out.el⟩ HSTQ.out.rd (HBK.out _ HSTQ.out.st)
  ·have e1 : ((tk.kind : Int) != 0) = true := by rw [bne, kindN tk.kind 0 0 rfl, beq_eq_false_iff_ne.2 hk]; rfl
   have HEQ2 : Hid (r = (roomR acc.length 60 R.l i').bind fun _ i => (itemR gn R.l i d).bind fun x j => itemsR gn R.l j d (acc ++ [x])) := by show _ = _; rw [HEQ.out, if_neg hk]
   clear hk
   have p0 := HKP.out wq HSTQ.out.st
   go_wp2_with fail
   refine (room_any R wq acc.length 60 i' d HSTQ.out.rd).mono ?_
   rintro e w3 hp
   cases hn : roomR acc.length 60 R.l i' with
   | out => exact (roomR_out hn).elim
   | err c ln col =>
    rw [hn] at hp
    obtain ⟨rfl, s3⟩ := hp
    exact ⟨rfl, PPost.of_err (c := c) (ln := ln) (col := col) (by rw [HEQ2.out, hn]; rfl) rfl (HBK.out _ (HSTQ.out.st.trans s3))⟩
   | ok u j3 =>
    have hji : j3 = i' ∧ acc.length < 60 := by
     unfold roomR at hn
     split at hn
     ·cases hn
     ·cases hn; exact ⟨rfl, by omega⟩
    obtain ⟨hj3, hlt⟩ := hji
    have HN3 := Lib.hid hn
    rw [hn] at hp
    obtain ⟨⟨v, rfl, rfl⟩, hr3, s3⟩ := hp
    have HST3 := Lib.hid (HSTQ.out.read itP_ok hwz hr3 s3)
    have HE3 : Hid (r = (itemR gn R.l j3 d).bind fun x j => itemsR gn R.l j d (acc ++ [x])) := by show _ = _; rw [HEQ2.out, HN3.out]; rfl
    clear hn hr3 s3 p0 hj3
    have p0 := HKP.out w3 HST3.out.st
    go_wp2_with fail
    refine (item_any gn (fun f' hf => IHB.out f' (by omega)) (fun f' hf => IHT.out f' (by omega)) R w3 j3 d HL.out HST3.out.rd hd (fun e => HNO.out (by rw [HE3.out, e]; rfl))).mono ?_
    rintro e wx hp
    have hp2 : PPost R d (ItV w3.heap.size) (itemR gn R.l j3 d) _ e wx := hp
    cases hx : itemR gn R.l j3 d with
    | out => exact absurd (by rw [HE3.out, hx]; rfl) HNO.out
    | err c ln col =>
     rw [hx] at hp2
     obtain ⟨rfl, sq⟩ := hp2
     exact ⟨rfl, PPost.of_err (c := c) (ln := ln) (col := col) (by rw [HE3.out, hx]; rfl) rfl (HBK.out _ (HST3.out.st.trans sq))⟩
    | ok x jx =>
     have HX := Lib.hid hx
     rw [hx] at hp2
     obtain ⟨⟨v, rfl, cs, rfl, hy⟩, hrx, hsx⟩ := hp2
     have HCL := Lib.hid (itP_ok.len _ _ hy)
     have HONE := Lib.hid (itP_ok.one _ _ hy)
     have HE5 : Hid (r = itemsR gn R.l jx d (acc ++ [x])) := by show _ = _; rw [HE3.out, HX.out]; rfl
     obtain ⟨w4, hw4⟩ : ∃ w4 : World, w4 = wx.alloc (.cells cs.toArray 58) := ⟨_, rfl⟩
     have HS4 : Hid (Step (fun _ => False) wx w4) := by show Step _ _ _; rw [hw4]; exact (Step.refl _ _).alloc _
     have HST4 := Lib.hid ((HST3.out.read itP_ok hwz hrx hsx).quiet itP_ok HS4.out)
     have HY4 : Hid (ItP w4 (fun q => w3.heap.size ≤ q) x cs) := itP_ok.step _ _ HS4.out (fun _ _ h => h) hy
     have HOW4 : Hid ((wx.alloc (.cells cs.toArray 58)).ownsRow w1.heap.size 58 19 (.slice oa acc.length oc) acc.length xs) := by show World.ownsRow _ _ _ _ _ _ _; rw [← hw4]; exact HST4.out.ow
     have HROW4 : Hid (Row (wx.alloc (.cells cs.toArray 58)) (wx.heap.size + 1) (.slice (some ⟨wx.heap.size, 0, none⟩) 1 1) 1 cs) := Row.new (blk_new _ _) (by decide)
     have HLE4 : Hid (w1.heap.size ≤ (wx.alloc (.cells cs.toArray 58)).heap.size) := by show _ ≤ _; rw [← hw4]; exact HST4.out.st.size
     have HW4 := Lib.hid hw4
     have HLT := Lib.hid hlt
     have hC1 : i0.size = cs.length := by rw [HCL.out]; exact HZ1.out
     have hC2 : (Value.agg #[.int .i64 0, .string ⟨#[]⟩, .string ⟨#[]⟩, .slice none 0 0, .slice none 0 0, .slice none 0 0, .int .i64 0, .string ⟨#[]⟩, .string ⟨#[]⟩, .bool false, .slice none 0 0, .slice none 0 0, .int .i64 0, .int .i64 0, .slice none 0 0, .slice none 0 0, .slice none 0 0, .int .i64 0, .int .i64 0]).cells.size = cs.length := by rw [HCL.out]; rfl
     have hC3 : 0 < cs.length := by rw [HCL.out]; decide
     have hC4 : cs.length ≤ 16777216 := by rw [HCL.out]; decide
     have hC5 : cs.length = 1 * 19 := by rw [HCL.out]
     have HC := Lib.hid (And.intro hC1 (And.intro hC2 (And.intro hC3 (And.intro hC4 hC5))))
     clear hx hp hy hrx hsx p0 hw4 hlt hC1 hC2 hC3 hC4 hC5
     go_wp2_with (first
      | (refine wpList_slice_one rfl 46 (.tmp 15) rfl 58 i0 (.agg #[.int .i64 0, .string ⟨#[]⟩, .string ⟨#[]⟩, .slice none 0 0, .slice none 0 0, .slice none 0 0, .int .i64 0, .string ⟨#[]⟩, .string ⟨#[]⟩, .bool false, .slice none 0 0, .slice none 0 0, .int .i64 0, .int .i64 0, .slice none 0 0, .slice none 0 0, .slice none 0 0, .int .i64 0, .int .i64 0]) cs rfl Try.underlying46 HI.out HZ0.out HC.out.1 HC.out.2.1 HC.out.2.2.1 HC.out.2.2.2.1 ?_)
      | (refine wpList_append_row _ rfl (wx.heap.size + 1) (.tmp 13) (.tmp 16) 46 rfl w1.heap.size 58 i0 (.agg #[.int .i64 0, .string ⟨#[]⟩, .string ⟨#[]⟩, .slice none 0 0, .slice none 0 0, .slice none 0 0, .int .i64 0, .string ⟨#[]⟩, .string ⟨#[]⟩, .bool false, .slice none 0 0, .slice none 0 0, .int .i64 0, .int .i64 0, .slice none 0 0, .slice none 0 0, .slice none 0 0, .int .i64 0, .int .i64 0]) 19 312 Try.underlying46 HI.out HZ0.out HZ1.out HZ2.out rfl (by decide) _ _ _ (by rfl) HOW4.out _ 1 _ (by rfl) HROW4.out HC.out.2.2.2.2 HONE.out (by have := HLT.out; unfold maxLen; omega) (by have := HLT.out; omega) HLE4.out ?_
         intro v9 w9 hown9 hgrow9 hat9))
     rw [← HW4.out] at hgrow9 hat9
     have HST9 := Lib.hid (HST3.out.push itP_ok HST4.out HY4.out hown9 hgrow9 hat9 hwz)
     clear hown9 hgrow9 hat9
     have p0 := HKP.out w9 HST9.out.st
     go_roundg gn
     case rel => exact ⟨by omega, jx, acc ++ [x], _, HE5.out, HST9.out⟩
     case measure => omega
def Good (t : Tok) : Prop := ∃ r, nextF r = .ok (t.kind, t.text.length, t.val) ∧ t.text = r.take t.text.length
def sumLen (l : List Tok) : Nat := (l.map (·.text.length)).sum
theorem sumLen_snoc (l : List Tok) (t : Tok) : sumLen (l ++ [t]) = sumLen l + t.text.length := by simp [sumLen]
theorem allF_good : ∀ (k : Nat) (r : List UInt8) (p l f : Nat) (acc res : List Tok), allF k r p l f acc = .ok res → f ≤ p → (∀ t ∈ acc, Good t) → sumLen acc ≤ p → acc.length ≤ 8000 →
  ∃ body e, res = body ++ [e] ∧ (∀ t ∈ body, Good t) ∧ sumLen body ≤ p + r.length ∧ body.length ≤ 8000 ∧ e.kind = 0 ∧ e.text = [] ∧ e.val = 0 := by
 intro k
 induction k with
 | zero => intro r p l f acc res h; simp [allF] at h
 | succ k ih =>
  intro r p l f acc res h hf hg hs hl
  have hi := blankF_inv r false p l f _ _ _ rfl hf
  rw [allF] at h
  generalize blankF false r p l f = q at *
  obtain ⟨q1, q2, q3⟩ := q
  dsimp only at hi h
  split at h
  ·simp at h
   exact ⟨acc, _, h.symm, hg, by omega, hl, rfl, rfl, rfl⟩
  ·split at h
   ·simp at h
   ·split at h
    ·simp at h
    ·rename_i kind n val hn
     obtain ⟨hn1, hn2, _⟩ := nextF_pos hn
     rw [List.length_drop] at hn2
     have hlen : ((r.drop (q1 - p)).take n).length = n := by rw [List.length_take, List.length_drop]; omega
     have := ih _ _ _ _ _ _ h (by omega) (by
      intro t ht
      rcases List.mem_append.1 ht with h1 | h1
      ·exact hg t h1
      ·simp at h1; subst h1
       exact ⟨r.drop (q1 - p), by rw [hlen]; exact hn, by simp [hlen]⟩) (by rw [sumLen_snoc, hlen]; omega) (by simp; omega)
     obtain ⟨body, e, h1, h2, h3, h4⟩ := this
     refine ⟨body, e, h1, h2, ?_, h4⟩
     simp only [List.length_drop] at h3
     omega
theorem allF_err : ∀ (k : Nat) (r : List UInt8) (p l f : Nat) (acc : List Tok) (c ln col : Nat), r.length < k → allF k r p l f acc = .error (c, ln, col) → c ≠ 0 := by
 intro k
 induction k with
 | zero => intro r p l f acc c ln col h; omega
 | succ k ih =>
  intro r p l f acc c ln col hk h
  rw [allF] at h
  generalize blankF false r p l f = q at *
  obtain ⟨q1, q2, q3⟩ := q
  dsimp only at h
  split at h
  ·simp at h
  ·split at h
   ·simp at h; omega
   ·split at h
    ·rename_i e he
     simp at h
     have := nextF_err he
     omega
    ·rename_i kind n val hn
     obtain ⟨hn1, hn2, _⟩ := nextF_pos hn
     refine ih _ _ _ _ _ _ _ _ ?_ h
     simp only [List.length_drop] at hn2 ⊢
     omega
theorem lexF_err {s : List UInt8} {c ln col : Nat} (h : lexF s = .error (c, ln, col)) : c ≠ 0 := by
 unfold lexF at h
 split at h
 ·simp at h; omega
 ·exact allF_err _ _ _ _ _ _ _ _ _ (by omega) h
theorem sumLen_le {l : List Tok} {t : Tok} (h : t ∈ l) : t.text.length ≤ sumLen l := by
 induction l with
 | nil => cases h
 | cons a l ih =>
  simp only [sumLen, List.map_cons, List.sum_cons] at ih ⊢
  rcases List.mem_cons.1 h with rfl | h
  ·omega
  ·have := ih h; omega
theorem lexF_parts {s : List UInt8} {l : List Tok} (h : lexF s = .ok l) : ∃ body e, l = body ++ [e] ∧ (∀ t ∈ body, Good t) ∧ sumLen body ≤ s.length ∧ s.length ≤ 20000 ∧ body.length ≤ 8000 ∧ e.kind = 0 ∧ e.text = [] ∧ e.val = 0 := by
 unfold lexF at h
 split at h
 ·simp at h
 ·rename_i hs
  obtain ⟨body, e, h1, h2, h3, h4, h5⟩ := allF_good _ _ _ _ _ _ _ h (Nat.le_refl _) (by simp) (by simp [sumLen]) (by simp)
  exact ⟨body, e, h1, h2, by omega, by omega, h4, h5⟩
theorem lexF_LOk {s : List UInt8} {l : List Tok} (h : lexF s = .ok l) : LOk l ∧ 0 < l.length := by
 obtain ⟨body, e, rfl, hg, hs, hz, hb, he, ht, -⟩ := lexF_parts h
 refine ⟨⟨?_, by simp; omega, ?_⟩, by simp⟩
 ·intro i t hi hk
  have hlt := (List.getElem?_eq_some_iff.1 hi).1
  simp at hlt ⊢
  rcases Nat.lt_or_ge i body.length with h1 | h1
  ·omega
  ·have : i = body.length := by omega
   subst this
   rw [List.getElem?_append_right (Nat.le_refl _), Nat.sub_self] at hi
   simp at hi
   subst hi
   exact absurd he hk
 ·intro t ht2
  rcases List.mem_append.1 ht2 with h1 | h1
  ·have := sumLen_le h1; omega
  ·rw [List.mem_singleton.1 h1, ht]; decide
/- Well: it comes to an end, further on than i (or not behind it), within the tokens. -/
def Gd {α : Type} (N i : Nat) (r : Res α) : Prop := match r with
 | .ok _ j => i < j ∧ j < N
 | .err c _ _ => c ≠ 0
 | .out => False
def GdW {α : Type} (N i : Nat) (r : Res α) : Prop := match r with
 | .ok _ j => i ≤ j ∧ j < N
 | .err c _ _ => c ≠ 0
 | .out => False
theorem Gd.weak {α : Type} {N i : Nat} {r : Res α} (h : Gd N i r) : GdW N i r := by
 cases r with
 | ok a j => exact ⟨Nat.le_of_lt h.1, h.2⟩
 | err => exact h
 | out => exact h
theorem Gd.ne {α : Type} {N i : Nat} {r : Res α} (h : Gd N i r) : r ≠ .out := by rintro rfl; exact h
theorem GdW.ne {α : Type} {N i : Nat} {r : Res α} (h : GdW N i r) : r ≠ .out := by rintro rfl; exact h
theorem Gd.bind {α β : Type} {N i : Nat} {r : Res α} {f : α → Nat → Res β} (h : Gd N i r) (hf : ∀ a j, i < j → j < N → GdW N j (f a j)) : Gd N i (r.bind f) := by
 cases r with
 | ok a j =>
  have := hf a j h.1 h.2
  show Gd N i (f a j)
  cases hx : f a j with
  | ok b k => rw [hx] at this; exact ⟨Nat.lt_of_lt_of_le h.1 this.1, this.2⟩
  | err => rw [hx] at this; exact this
  | out => rw [hx] at this; exact this
 | err => exact h
 | out => exact h
theorem GdW.bind {α β : Type} {N i : Nat} {r : Res α} {f : α → Nat → Res β} (h : GdW N i r) (hf : ∀ a j, i ≤ j → j < N → GdW N j (f a j)) : GdW N i (r.bind f) := by
 cases r with
 | ok a j =>
  have := hf a j h.1 h.2
  show GdW N i (f a j)
  cases hx : f a j with
  | ok b k => rw [hx] at this; exact ⟨Nat.le_trans h.1 this.1, this.2⟩
  | err => rw [hx] at this; exact this
  | out => rw [hx] at this; exact this
 | err => exact h
 | out => exact h
theorem GdW.bindS {α β : Type} {N i : Nat} {r : Res α} {f : α → Nat → Res β} (h : GdW N i r) (hf : ∀ a j, i ≤ j → j < N → Gd N j (f a j)) : Gd N i (r.bind f) := by
 cases r with
 | ok a j =>
  have := hf a j h.1 h.2
  show Gd N i (f a j)
  cases hx : f a j with
  | ok b k => rw [hx] at this; exact ⟨Nat.lt_of_le_of_lt h.1 this.1, this.2⟩
  | err => rw [hx] at this; exact this
  | out => rw [hx] at this; exact this
 | err => exact h
 | out => exact h
theorem GdW.from {α : Type} {N i j : Nat} {r : Res α} (h : GdW N j r) (hij : i ≤ j) : GdW N i r := by
 cases r with
 | ok a k => exact ⟨Nat.le_trans hij h.1, h.2⟩
 | err => exact h
 | out => exact h
theorem GdW.strict {α : Type} {N i j : Nat} {r : Res α} (h : GdW N j r) (hij : i < j) : Gd N i r := by
 cases r with
 | ok a k => exact ⟨Nat.lt_of_lt_of_le hij h.1, h.2⟩
 | err => exact h
 | out => exact h
theorem GdW.ok {α : Type} {N i : Nat} (a : α) (h : i < N) : GdW N i (.ok a i) := ⟨Nat.le_refl _, h⟩
section
variable {l : List Tok} (hl : LOk l)
include hl
theorem kind_lt {i : Nat} (hi : i < l.length) (h : (tokA l i).kind ≠ 0) : i + 1 < l.length := hl.next i _ (tokA_get hi) h
theorem isF_lt {i : Nat} {s : List UInt8} (hi : i < l.length) (h : isF l i s = true) : i + 1 < l.length := kind_lt hl hi (seesF_kind h)
theorem needR_gd {i : Nat} {s : List UInt8} (hi : i < l.length) : Gd l.length i (needR l i s) := by
 unfold needR
 split
 ·rename_i h; exact ⟨Nat.lt_succ_self i, isF_lt hl hi h⟩
 ·exact Nat.succ_ne_zero _
theorem nameR_gd {i : Nat} (hi : i < l.length) : Gd l.length i (nameR l i) := by
 unfold nameR
 split
 ·rename_i h
  refine ⟨Nat.lt_succ_self i, kind_lt hl hi ?_⟩
  intro e
  simp [nameOk, e] at h
 ·exact Nat.succ_ne_zero _
theorem lifeR_gd {i : Nat} (hi : i < l.length) : Gd l.length i (lifeR l i) := by
 unfold lifeR
 split
 ·rename_i h; exact ⟨Nat.lt_succ_self i, kind_lt hl hi (by omega)⟩
 ·exact Nat.succ_ne_zero _
omit hl in
theorem roomR_gd {n m i : Nat} (hi : i < l.length) : GdW l.length i (roomR n m l i) := by
 unfold roomR
 split
 ·exact Nat.succ_ne_zero _
 ·exact GdW.ok _ hi
theorem takeI_gd {i : Nat} {s : List UInt8} (hi : i < l.length) : i ≤ takeI l i s ∧ takeI l i s < l.length := by
 unfold takeI
 split
 ·rename_i h; exact ⟨by omega, isF_lt hl hi h⟩
 ·exact ⟨Nat.le_refl _, hi⟩
theorem optI_gd {i : Nat} (hi : i < l.length) : i ≤ optI l i ∧ optI l i < l.length := by
 unfold optI
 split
 ·rename_i h; exact ⟨by omega, kind_lt hl hi (by omega)⟩
 ·exact ⟨Nat.le_refl _, hi⟩
structure Fu (l : List Tok) (f : Nat) : Prop where
 typ : ∀ i d, i < l.length → 16 * (l.length - i) + 1 ≤ f → Gd l.length i (typR f l i d)
 args : ∀ i d ls ts, i < l.length → 16 * (l.length - i) + 2 ≤ f → Gd l.length i (argsR f l i d ls ts)
 bars : ∀ i ns, i < l.length → 16 * (l.length - i) + 1 ≤ f → Gd l.length i (barsR f l i ns)
 level : ∀ i d n, i < l.length → n ≤ 5 → 16 * (l.length - i) + (9 - n) ≤ f → Gd l.length i (levelR f l i d n)
 row : ∀ i d n x, i < l.length → n ≤ 4 → 16 * (l.length - i) + 1 ≤ f → GdW l.length i (rowR f l i d n x)
 unary : ∀ i d, i < l.length → 16 * (l.length - i) + 3 ≤ f → Gd l.length i (unaryR f l i d)
 post : ∀ i d, i < l.length → 16 * (l.length - i) + 2 ≤ f → Gd l.length i (postR f l i d)
 dots : ∀ i d x, i < l.length → 16 * (l.length - i) + 1 ≤ f → GdW l.length i (dotsR f l i d x)
 list : ∀ i d, i < l.length → 16 * (l.length - i) + 11 ≤ f → Gd l.length i (listR f l i d)
 more : ∀ i d acc, i < l.length → 16 * (l.length - i) + 10 ≤ f → Gd l.length i (moreR f l i d acc)
 one : ∀ i d, i < l.length → 16 * (l.length - i) + 1 ≤ f → Gd l.length i (oneR f l i d)
 made : ∀ i d ns al, i < l.length → 16 * (l.length - i) + 1 ≤ f → Gd l.length i (madeR f l i d ns al)
 prim : ∀ i d, i < l.length → 16 * (l.length - i) + 1 ≤ f → Gd l.length i (primR f l i d)
 block : ∀ i d, i < l.length → 16 * (l.length - i) + 1 ≤ f → Gd l.length i (blockR f l i d)
 stmts : ∀ i d acc, i < l.length → 16 * (l.length - i) + 12 ≤ f → Gd l.length i (stmtsR f l i d acc)
 lett : ∀ i d, i < l.length → 16 * (l.length - i) + 1 ≤ f → Gd l.length i (letR f l i d)
 sett : ∀ i d, i < l.length → 16 * (l.length - i) + 10 ≤ f → Gd l.length i (setR f l i d)
 stmt : ∀ i d, i < l.length → 16 * (l.length - i) + 11 ≤ f → Gd l.length i (stmtR f l i d)
theorem typ_fu (f : Nat) (h : Fu l f) (i d : Nat) (hi : i < l.length) (hf : 16 * (l.length - i) + 1 ≤ f + 1) : Gd l.length i (typR (f + 1) l i d) := by
 rw [typR]
 have one : ∀ (b : Bool) (s : List UInt8) (a : Ty), isF l i s = b → b = true → Gd l.length i (.ok a (i + 1)) := fun b s a e hb => ⟨Nat.lt_succ_self i, isF_lt hl hi (by rw [e]; exact hb)⟩
 split
 ·exact Nat.succ_ne_zero _
 ·split
  ·rename_i h1; exact one _ _ _ rfl h1
  ·split
   ·rename_i h1; exact one _ _ _ rfl h1
   ·split
    ·rename_i h1; exact one _ _ _ rfl h1
    ·split
     ·rename_i h1
      have h2 := isF_lt hl hi h1
      exact GdW.strict ((needR_gd hl h2).bind fun _ j _ hj => GdW.ok _ hj).weak (Nat.lt_succ_self i)
     ·split
      ·rename_i h1
       have h2 := isF_lt hl hi h1
       exact GdW.strict ((needR_gd hl h2).bind fun _ j h3 hj => ((h.typ j _ hj (by omega)).bind fun a k h4 hk => ((needR_gd hl hk).bind fun _ m _ hm => GdW.ok _ hm).weak).weak).weak (Nat.lt_succ_self i)
      ·split
       ·rename_i h1
        have h2 := isF_lt hl hi h1
        have h3 := optI_gd hl h2
        have h4 := takeI_gd hl (s := [109, 117, 116]) h3.2
        exact GdW.strict ((h.typ _ _ h4.2 (by omega)).bind fun a k _ hk => GdW.ok _ hk).weak (by omega)
       ·split
        ·rename_i h1
         have h2 := isF_lt hl hi h1
         refine GdW.strict ((nameR_gd hl h2).bind fun n j h3 hj => ?_).weak (Nat.lt_succ_self i)
         split
         ·rename_i h4
          exact (((lifeR_gd hl (isF_lt hl hj h4)).bind fun x k _ hk => GdW.ok _ hk).weak).from (by omega)
         ·exact GdW.ok _ hj
        ·refine (nameR_gd hl hi).bind fun n j h3 hj => ?_
         split
         ·rename_i h4
          have h5 := isF_lt hl hj h4
          exact ((h.args (j + 1) _ _ _ h5 (by omega)).bind fun p k _ hk => GdW.ok _ hk).weak.from (by omega)
         ·exact GdW.ok _ hj
theorem args_fu (f : Nat) (h : Fu l f) (i d : Nat) (ls : List ByteArray) (ts : List Ty) (hi : i < l.length) (hf : 16 * (l.length - i) + 2 ≤ f + 1) : Gd l.length i (argsR (f + 1) l i d ls ts) := by
 rw [argsR]
 refine (roomR_gd hi).bindS fun _ i2 h0 hi2 => ?_
 refine Gd.bind ?_ fun p j h1 hj => ?_
 ·split
  ·exact (lifeR_gd hl hi2).bind fun x j _ hj => GdW.ok _ hj
  ·exact (h.typ i2 d hi2 (by omega)).bind fun x j _ hj => GdW.ok _ hj
 ·split
  ·rename_i h2
   exact ((h.args (j + 1) d _ _ (isF_lt hl hj h2) (by omega)).weak).from (by omega)
  ·exact ((needR_gd hl hj).bind fun _ k _ hk => GdW.ok _ hk).weak
theorem bars_fu (f : Nat) (h : Fu l f) (i : Nat) (ns : List ByteArray) (hi : i < l.length) (hf : 16 * (l.length - i) + 1 ≤ f + 1) : Gd l.length i (barsR (f + 1) l i ns) := by
 rw [barsR]
 refine (roomR_gd hi).bindS fun _ i2 h0 hi2 => ?_
 refine (nameR_gd hl hi2).bind fun n j h1 hj => ?_
 split
 ·rename_i h2
  exact ((h.bars (j + 1) _ (isF_lt hl hj h2) (by omega)).weak).from (by omega)
 ·exact ((needR_gd hl hj).bind fun _ k _ hk => GdW.ok _ hk).weak
omit hl in
theorem level_fu (f : Nat) (h : Fu l f) (i d n : Nat) (hi : i < l.length) (hn : n ≤ 5) (hf : 16 * (l.length - i) + (9 - n) ≤ f + 1) : Gd l.length i (levelR (f + 1) l i d n) := by
 rw [levelR]
 split
 ·exact h.unary i d hi (by omega)
 ·exact (h.level i d (n + 1) hi (by omega) (by omega)).bind fun x j h1 hj => h.row j d n x hj (by omega) (by omega)
theorem row_fu (f : Nat) (h : Fu l f) (i d n : Nat) (x : Ex) (hi : i < l.length) (hn : n ≤ 4) (hf : 16 * (l.length - i) + 1 ≤ f + 1) : GdW l.length i (rowR (f + 1) l i d n x) := by
 rw [rowR]
 cases ho : opF l i n with
 | none => exact GdW.ok _ hi
 | some s =>
  have h1 : isF l i s = true := by simpa using List.find?_some ho
  have h2 := isF_lt hl hi h1
  refine (((h.level (i + 1) d (n + 1) h2 (by omega) (by omega)).bind fun y j h3 hj => ?_).weak).from (by omega)
  split
  ·exact GdW.ok _ hj
  ·exact h.row j d n _ hj hn (by omega)
theorem unary_fu (f : Nat) (h : Fu l f) (i d : Nat) (hi : i < l.length) (hf : 16 * (l.length - i) + 3 ≤ f + 1) : Gd l.length i (unaryR (f + 1) l i d) := by
 rw [unaryR]
 have step : ∀ (s : List UInt8) (k : Nat) (g : Ex → Ex), isF l i s = true → i + 1 ≤ k → k < l.length → Gd l.length i ((unaryR f l k (d + 1)).bind fun y j => .ok (g y) j) := fun s k g h1 h2 h3 =>
  GdW.strict ((h.unary k (d + 1) h3 (by omega)).bind fun y j _ hj => GdW.ok _ hj).weak (by omega)
 split
 ·exact Nat.succ_ne_zero _
 ·split
  ·rename_i h1; exact step _ _ _ h1 (Nat.le_refl _) (isF_lt hl hi h1)
  ·split
   ·rename_i h1; exact step _ _ _ h1 (Nat.le_refl _) (isF_lt hl hi h1)
   ·split
    ·rename_i h1; exact step _ _ _ h1 (Nat.le_refl _) (isF_lt hl hi h1)
    ·split
     ·rename_i h1
      have h2 := takeI_gd hl (s := [109, 117, 116]) (isF_lt hl hi h1)
      exact step _ _ _ h1 h2.1 h2.2
     ·exact h.post i (d + 1) hi (by omega)
omit hl in
theorem post_fu (f : Nat) (h : Fu l f) (i d : Nat) (hi : i < l.length) (hf : 16 * (l.length - i) + 2 ≤ f + 1) : Gd l.length i (postR (f + 1) l i d) := by
 rw [postR]
 exact (h.prim i d hi (by omega)).bind fun x j h1 hj => h.dots j d x hj (by omega)
theorem dots_fu (f : Nat) (h : Fu l f) (i d : Nat) (x : Ex) (hi : i < l.length) (hf : 16 * (l.length - i) + 1 ≤ f + 1) : GdW l.length i (dotsR (f + 1) l i d x) := by
 rw [dotsR]
 split
 ·rename_i h1
  have h2 := isF_lt hl hi h1
  refine (((nameR_gd hl h2).bind fun n j h3 hj => ?_).weak).from (by omega)
  split
  ·rename_i h4
   have h5 := isF_lt hl hj h4
   exact (((h.list (j + 1) d h5 (by omega)).bind fun al k h6 hk => h.dots k d _ hk (by omega)).weak).from (by omega)
  ·exact h.dots j d _ hj (by omega)
 ·exact GdW.ok _ hi
theorem list_fu (f : Nat) (h : Fu l f) (i d : Nat) (hi : i < l.length) (hf : 16 * (l.length - i) + 11 ≤ f + 1) : Gd l.length i (listR (f + 1) l i d) := by
 rw [listR]
 split
 ·rename_i h1; exact ⟨Nat.lt_succ_self i, isF_lt hl hi h1⟩
 ·exact h.more i d [] hi (by omega)
theorem more_fu (f : Nat) (h : Fu l f) (i d : Nat) (acc : List Ex) (hi : i < l.length) (hf : 16 * (l.length - i) + 10 ≤ f + 1) : Gd l.length i (moreR (f + 1) l i d acc) := by
 rw [moreR]
 refine (roomR_gd hi).bindS fun _ i2 h0 hi2 => ?_
 refine (h.level i2 d 0 hi2 (by omega) (by omega)).bind fun x j h1 hj => ?_
 split
 ·rename_i h2
  exact ((h.more (j + 1) d _ (isF_lt hl hj h2) (by omega)).weak).from (by omega)
 ·exact ((needR_gd hl hj).bind fun _ k _ hk => GdW.ok _ hk).weak
theorem one_fu (f : Nat) (h : Fu l f) (i d : Nat) (hi : i < l.length) (hf : 16 * (l.length - i) + 1 ≤ f + 1) : Gd l.length i (oneR (f + 1) l i d) := by
 rw [oneR]
 exact (needR_gd hl hi).bind fun _ j h1 hj => ((h.level j d 0 hj (by omega) (by omega)).bind fun x k h2 hk => ((needR_gd hl hk).bind fun _ m _ hm => GdW.ok _ hm).weak).weak
theorem made_fu (f : Nat) (h : Fu l f) (i d : Nat) (ns : List ByteArray) (al : List Ex) (hi : i < l.length) (hf : 16 * (l.length - i) + 1 ≤ f + 1) : Gd l.length i (madeR (f + 1) l i d ns al) := by
 rw [madeR]
 refine (roomR_gd hi).bindS fun _ i2 h0 hi2 => ?_
 refine (nameR_gd hl hi2).bind fun n j h1 hj => ?_
 refine ((needR_gd hl hj).bind fun _ j2 h2 hj2 => ?_).weak
 refine ((h.level j2 d 0 hj2 (by omega) (by omega)).bind fun x k h3 hk => ?_).weak
 split
 ·rename_i h4
  exact ((h.made (k + 1) d _ _ (isF_lt hl hk h4) (by omega)).weak).from (by omega)
 ·exact ((needR_gd hl hk).bind fun _ m _ hm => GdW.ok _ hm).weak
theorem block_fu (f : Nat) (h : Fu l f) (i d : Nat) (hi : i < l.length) (hf : 16 * (l.length - i) + 1 ≤ f + 1) : Gd l.length i (blockR (f + 1) l i d) := by
 rw [blockR]
 split
 ·exact Nat.succ_ne_zero _
 ·exact (needR_gd hl hi).bind fun _ j h1 hj => (h.stmts j _ [] hj (by omega)).weak
theorem stmts_fu (f : Nat) (h : Fu l f) (i d : Nat) (acc : List St) (hi : i < l.length) (hf : 16 * (l.length - i) + 12 ≤ f + 1) : Gd l.length i (stmtsR (f + 1) l i d acc) := by
 rw [stmtsR]
 split
 ·rename_i h1; exact ⟨Nat.lt_succ_self i, isF_lt hl hi h1⟩
 ·exact (h.stmt i d hi (by omega)).bind fun s j h1 hj => (h.stmts j d _ hj (by omega)).weak
theorem let_fu (f : Nat) (h : Fu l f) (i d : Nat) (hi : i < l.length) (hf : 16 * (l.length - i) + 1 ≤ f + 1) : Gd l.length i (letR (f + 1) l i d) := by
 rw [letR]
 refine (nameR_gd hl hi).bind fun n j h1 hj => ?_
 refine GdW.bind ?_ fun ty k h2 hk => ?_
 ·split
  ·rename_i h3; exact ((h.typ (j + 1) d (isF_lt hl hj h3) (by omega)).weak).from (by omega)
  ·exact GdW.ok _ hj
 ·refine GdW.bind ?_ fun e m h4 hm => ((needR_gd hl hm).bind fun _ p _ hp => GdW.ok _ hp).weak
  split
  ·rename_i h3; exact (((h.level (k + 1) d 0 (isF_lt hl hk h3) (by omega) (by omega)).bind fun x q _ hq => GdW.ok _ hq).weak).from (by omega)
  ·exact GdW.ok _ hk
theorem set_fu (f : Nat) (h : Fu l f) (i d : Nat) (hi : i < l.length) (hf : 16 * (l.length - i) + 10 ≤ f + 1) : Gd l.length i (setR (f + 1) l i d) := by
 rw [setR]
 refine (h.level i d 0 hi (by omega) (by omega)).bind fun x j h1 hj => ?_
 refine GdW.bind ?_ fun p m h4 hm => ((needR_gd hl hm).bind fun _ p _ hp => GdW.ok _ hp).weak
 split
 ·rename_i h3; exact (((h.level (j + 1) d 0 (isF_lt hl hj h3) (by omega) (by omega)).bind fun x q _ hq => GdW.ok _ hq).weak).from (by omega)
 ·exact GdW.ok _ hj
theorem stmt_fu (f : Nat) (h : Fu l f) (i d : Nat) (hi : i < l.length) (hf : 16 * (l.length - i) + 11 ≤ f + 1) : Gd l.length i (stmtR (f + 1) l i d) := by
 rw [stmtR]
 split
 ·rename_i h1
  exact GdW.strict ((h.lett (i + 1) d (isF_lt hl hi h1) (by omega)).bind fun p j _ hj => GdW.ok _ hj).weak (Nat.lt_succ_self i)
 ·split
  ·rename_i h1
   refine GdW.strict ((h.level (i + 1) d 0 (isF_lt hl hi h1) (by omega) (by omega)).bind fun x j h2 hj => ?_).weak (Nat.lt_succ_self i)
   refine ((h.block j d hj (by omega)).bind fun b k h3 hk => ?_).weak
   split
   ·rename_i h4
    exact (((h.block (k + 1) d (isF_lt hl hk h4) (by omega)).bind fun c m _ hm => GdW.ok _ hm).weak).from (by omega)
   ·exact GdW.ok _ hk
  ·split
   ·rename_i h1
    exact GdW.strict ((h.level (i + 1) d 0 (isF_lt hl hi h1) (by omega) (by omega)).bind fun x j h2 hj => ((h.block j d hj (by omega)).bind fun b k h3 hk => GdW.ok _ hk).weak).weak (Nat.lt_succ_self i)
   ·split
    ·rename_i h1
     have h2 := isF_lt hl hi h1
     refine GdW.strict (GdW.bind (i := i + 1) ?_ fun e m h4 hm => ((needR_gd hl hm).bind fun _ p _ hp => GdW.ok _ hp).weak) (Nat.lt_succ_self i)
     split
     ·exact GdW.ok _ h2
     ·exact ((h.level (i + 1) d 0 h2 (by omega) (by omega)).bind fun x q _ hq => GdW.ok _ hq).weak
    ·split
     ·rename_i h1
      exact GdW.strict ((needR_gd hl (isF_lt hl hi h1)).bind fun _ j _ hj => GdW.ok _ hj).weak (Nat.lt_succ_self i)
     ·split
      ·exact (h.block i d hi (by omega)).bind fun b j _ hj => GdW.ok _ hj
      ·exact (h.sett i d hi (by omega)).bind fun p j _ hj => GdW.ok _ hj
theorem prim_fu (f : Nat) (h : Fu l f) (i d : Nat) (hi : i < l.length) (hf : 16 * (l.length - i) + 1 ≤ f + 1) : Gd l.length i (primR (f + 1) l i d) := by
 rw [primR]
 have ok1 : ∀ (x : Ex), (tokA l i).kind ≠ 0 → Gd l.length i (.ok x (i + 1)) := fun x hk => ⟨Nat.lt_succ_self i, kind_lt hl hi hk⟩
 have okF : ∀ (s : List UInt8) (x : Ex), isF l i s = true → Gd l.length i (.ok x (i + 1)) := fun s x hk => ⟨Nat.lt_succ_self i, isF_lt hl hi hk⟩
 by_cases h1 : (tokA l i).kind = 3
 ·rw [if_pos h1]
  exact ok1 _ (by omega)
 rw [if_neg h1]
 clear h1
 by_cases h1 : (tokA l i).kind = 4
 ·rw [if_pos h1]
  exact ok1 _ (by omega)
 rw [if_neg h1]
 clear h1
 by_cases h1 : isF l i [116, 114, 117, 101] = true
 ·rw [if_pos h1]
  exact okF _ _ h1
 rw [if_neg h1]
 clear h1
 by_cases h1 : isF l i [102, 97, 108, 115, 101] = true
 ·rw [if_pos h1]
  exact okF _ _ h1
 rw [if_neg h1]
 clear h1
 by_cases h1 : isF l i [99, 104, 111, 111, 115, 101] = true
 ·rw [if_pos h1]
  exact okF _ _ h1
 rw [if_neg h1]
 clear h1
 by_cases h1 : isF l i [66, 111, 120] = true
 ·rw [if_pos h1]
  exact GdW.strict ((h.one (i + 1) d (isF_lt hl hi h1) (by have := isF_lt hl hi h1; omega)).bind fun x j _ hj => GdW.ok _ hj).weak (Nat.lt_succ_self i)
 rw [if_neg h1]
 clear h1
 by_cases h1 : isF l i [117, 110, 98, 111, 120] = true
 ·rw [if_pos h1]
  exact GdW.strict ((h.one (i + 1) d (isF_lt hl hi h1) (by have := isF_lt hl hi h1; omega)).bind fun x j _ hj => GdW.ok _ hj).weak (Nat.lt_succ_self i)
 rw [if_neg h1]
 clear h1
 by_cases h1 : isF l i [110, 101, 119] = true
 ·rw [if_pos h1]
  have h2 := isF_lt hl hi h1
  refine GdW.strict ((nameR_gd hl h2).bind fun n j h3 hj => ?_).weak (Nat.lt_succ_self i)
  refine ((needR_gd hl hj).bind fun _ k h4 hk => ?_).weak
  split
  ·rename_i h5; exact ⟨by omega, isF_lt hl hk h5⟩
  ·exact ((h.made k d _ _ hk (by omega)).bind fun p m _ hm => GdW.ok _ hm).weak
 rw [if_neg h1]
 clear h1
 by_cases h1 : isF l i [97, 115] = true
 ·rw [if_pos h1]
  have h2 := isF_lt hl hi h1
  refine GdW.strict ((nameR_gd hl h2).bind fun n j h3 hj => ?_).weak (Nat.lt_succ_self i)
  refine ((needR_gd hl hj).bind fun _ k h4 hk => ?_).weak
  refine GdW.bind ?_ fun ns m h5 hm => ((h.block m d hm (by omega)).bind fun b p _ hp => GdW.ok _ hp).weak
  split
  ·rename_i h6; exact ⟨by omega, isF_lt hl hk h6⟩
  ·exact (h.bars k _ hk (by omega)).weak
 rw [if_neg h1]
 clear h1
 by_cases h1 : isF l i [40] = true
 ·rw [if_pos h1]
  have h2 := isF_lt hl hi h1
  split
  ·rename_i h3; exact ⟨by omega, isF_lt hl h2 h3⟩
  ·exact GdW.strict ((h.level (i + 1) d 0 h2 (by omega) (by omega)).bind fun x j h3 hj => ((needR_gd hl hj).bind fun _ k _ hk => GdW.ok _ hk).weak).weak (Nat.lt_succ_self i)
 rw [if_neg h1]
 clear h1
 by_cases h1 : isF l i [115, 101, 108, 102] = true
 ·rw [if_pos h1]
  exact okF _ _ h1
 rw [if_neg h1]
 clear h1
 refine (nameR_gd hl hi).bind fun n j h3 hj => ?_
 split
 ·rename_i h4
  exact (((h.list (j + 1) d (isF_lt hl hj h4) (by have := isF_lt hl hj h4; omega)).bind fun al k _ hk => GdW.ok _ hk).weak).from (by omega)
 ·exact GdW.ok _ hj
theorem fu_all : ∀ f, Fu l f := by
 intro f
 induction f with
 | zero => constructor <;> intros <;> omega
 | succ f ih =>
  exact ⟨fun i d => typ_fu hl f ih i d, fun i d ls ts => args_fu hl f ih i d ls ts, fun i ns => bars_fu hl f ih i ns, fun i d n => level_fu f ih i d n, fun i d n x => row_fu hl f ih i d n x, fun i d => unary_fu hl f ih i d, fun i d => post_fu f ih i d, fun i d x => dots_fu hl f ih i d x,
   fun i d => list_fu hl f ih i d, fun i d acc => more_fu hl f ih i d acc, fun i d => one_fu hl f ih i d, fun i d ns al => made_fu hl f ih i d ns al, fun i d => prim_fu hl f ih i d, fun i d => block_fu hl f ih i d, fun i d acc => stmts_fu hl f ih i d acc, fun i d => let_fu hl f ih i d, fun i d => set_fu hl f ih i d, fun i d => stmt_fu hl f ih i d⟩
end
theorem catch_panicking (b : Nat) (c ln col : Int) (v0 v1 v2 : Value) (older : List PanicEntry) (w : World) (hc : w.heap[b]? = some (.cells #[v0, v1, v2] 32 (0, 0))) :
  CallsD Try.prog 33 #[.pointer (some ⟨b, 0, none⟩)] (.panicking ({ v := .iface 89 (.agg #[.int .i64 c, .int .i64 ln, .int .i64 col]), recovered := false } :: older)) w fun e u' w' =>
   e = .returned (.tuple #[]) ∧ u' = .panicking ({ v := .iface 89 (.agg #[.int .i64 c, .int .i64 ln, .int .i64 col]), recovered := true } :: older) ∧ w'.heap[b]? = some (.cells #[.int .i64 c, .int .i64 ln, .int .i64 col] 32 (0, 0)) ∧ Step (· = b) w w' := by
 refine callsD_of_wpS Try.func33 rfl fun c₀ cs hu => ?_
 obtain ⟨⟨g0, g1, g2⟩, k0, k1, k2⟩ := blk3 hc
 have hlt : b < w.heap.size := blk_lt hc
 apply wpS_seq
 apply wpS_region
 have hta : ∀ (x : Value) (w : World), (Instr.typeAssert (.iface 89 x) 20 89 true).run Try.prog w = .ok (.tuple #[x, .bool true]) w := fun _ _ => by kernel_rfl
 simp [wpOpsS, go_sem, recoverD, hu, Try.ntmps33, Exit.thenS]
 refine wpS_of_wp ?_
 simp only [Array.replicate_succ, Array.replicate_zero, List.push_toArray, List.append_toArray, List.nil_append, List.cons_append, List.setIfInBounds_toArray, List.set_cons_zero, List.set_cons_succ]
 go_wp2
 refine ⟨rfl, _, rfl, .tuple #[], by simp [results, Try.results33, go_sem], rfl, rfl, ?_, ?_⟩
 ·have := blk_set (blk_set (blk_set hc 0 (.int .i64 c)) 1 (.int .i64 ln)) 2 (.int .i64 col)
  exact blk_alloc this
 ·exact ((((Step.refl (· = b) w).setCell ⟨b, 0, none⟩ _ (fun _ => rfl)).setCell ⟨b, 1, none⟩ _ (fun _ => rfl)).setCell ⟨b, 2, none⟩ _ (fun _ => rfl)).alloc _
theorem catch_idle (b : Nat) (w : World) :
  CallsD Try.prog 33 #[.pointer (some ⟨b, 0, none⟩)] .returning w fun e u' w' => e = .returned (.tuple #[]) ∧ u' = .returning ∧ w' = w := by
 refine callsD_of_wpS Try.func33 rfl fun c₀ cs hu => ?_
 apply wpS_seq
 apply wpS_region
 simp [wpOpsS, go_sem, recoverD, hu, Try.ntmps33, Exit.thenS]
 refine wpS_of_wp ?_
 simp only [Array.replicate_succ, Array.replicate_zero, List.push_toArray, List.append_toArray, List.nil_append, List.cons_append, List.setIfInBounds_toArray, List.set_cons_zero, List.set_cons_succ]
 go_wp2
 cases c₀
 simp_all [bodyPostS, results, Try.results33, go_sem]
/- The world in which a reader begins. -/
def readW (w : World) (lv : Value) : World := (w.alloc (.cells #[.int .i64 0, .int .i64 0, .int .i64 0] 32)).alloc (.cells #[lv, .int .i64 0, .int .i64 0] 91)
theorem read_fail (a : Option Addr) (n cap k : Nat) (caps : List Value) (w : World) (c ln col : Nat) (Q : World → Prop) (hk : Enters k)
  (hby : Calls Try.prog k (.pointer (some ⟨w.heap.size + 1, 0, none⟩) :: caps).toArray (readW w (.slice a n cap)) fun e w' =>
   e = .panicked [{ v := .iface 89 (.agg #[.int .i64 c, .int .i64 ln, .int .i64 col]), recovered := false }] ∧ (w'.heap[w.heap.size]? = some (.cells #[.int .i64 0, .int .i64 0, .int .i64 0] 32 (0, 0))) ∧ Q w') :
  Calls Try.prog 19 #[.slice a n cap, .func (.func k) #[] caps.toArray] w fun e w' =>
   e = .returned (.agg #[.int .i64 c, .int .i64 ln, .int .i64 col]) ∧ ∃ w1, Q w1 ∧ Step (· = w.heap.size) w1 w' := by
 have hmf : ∀ (fn : Fn) (first cap : Array Value) (w : World), (Instr.makeFunc fn first cap).run Try.prog w = .ok (.func fn first cap) w := fun _ _ _ _ => rfl
 have hfe : ∀ (fn : Fn) (x y : Array Value) (w : World), (binOp .eql 76 (.func fn x y) .nilFunc).run Try.prog w = .ok (.bool false) w := fun _ _ _ _ => by kernel_rfl
 have hen : Enters k := hk
 unfold Enters at hen
 have HB := Lib.hid hby
 clear hby hk
 go_enter_defers Try.func19, Try.ntmps19
 go_wp2_with fail
 refine HB.out.mono ?_
 rintro e w1 ⟨rfl, hE, hQ⟩
 refine leaves_cons (f := 33) (args := #[.pointer (some ⟨w.heap.size, 0, none⟩)]) (by simp) (by simp [go_sem]) ?_
 refine (catch_panicking w.heap.size c ln col _ _ _ [] w1 hE).mono ?_
 rintro e u' w2 ⟨rfl, rfl, hE2, hst⟩
 obtain ⟨⟨g0, g1, g2⟩, _⟩ := blk3 hE2
 simp [Leaves, settle, results, Try.results19, go_sem, g0, g1, g2]
 exact ⟨w1, hQ, hst⟩
theorem read_ok (a : Option Addr) (n cap k : Nat) (caps : List Value) (w : World) (Q : World → Prop) (hk : Enters k)
  (hby : Calls Try.prog k (.pointer (some ⟨w.heap.size + 1, 0, none⟩) :: caps).toArray (readW w (.slice a n cap)) fun e w' =>
   e = .returned (.tuple #[]) ∧ (w'.heap[w.heap.size]? = some (.cells #[.int .i64 0, .int .i64 0, .int .i64 0] 32 (0, 0))) ∧ Q w') :
  Calls Try.prog 19 #[.slice a n cap, .func (.func k) #[] caps.toArray] w fun e w' =>
   e = .returned (.agg #[.int .i64 0, .int .i64 0, .int .i64 0]) ∧ ∃ w1, Q w1 ∧ Step (· = w.heap.size) w1 w' := by
 have hmf : ∀ (fn : Fn) (first cap : Array Value) (w : World), (Instr.makeFunc fn first cap).run Try.prog w = .ok (.func fn first cap) w := fun _ _ _ _ => rfl
 have hfe : ∀ (fn : Fn) (x y : Array Value) (w : World), (binOp .eql 76 (.func fn x y) .nilFunc).run Try.prog w = .ok (.bool false) w := fun _ _ _ _ => by kernel_rfl
 have hen : Enters k := hk
 unfold Enters at hen
 have HB := Lib.hid hby
 clear hby hk
 go_enter_defers Try.func19, Try.ntmps19
 go_wp2_with fail
 refine HB.out.mono ?_
 rintro e w1 ⟨rfl, hE, hQ⟩
 have q0 := blk_cell hE 0 _ rfl
 have q1 := blk_cell hE 1 _ rfl
 have q2 := blk_cell hE 2 _ rfl
 have z0 := blk_free hE 0
 have z1 := blk_free hE 1
 have z2 := blk_free hE 2
 have HQ := Lib.hid hQ
 have hb2 := blk_set (blk_set (blk_set hE 0 (.int .i64 0)) 1 (.int .i64 0)) 2 (.int .i64 0)
 have hs2 : Step (· = w.heap.size) w1 (((w1.setCell ⟨w.heap.size, 0, none⟩ (.int .i64 0)).setCell ⟨w.heap.size, 1, none⟩ (.int .i64 0)).setCell ⟨w.heap.size, 2, none⟩ (.int .i64 0)) := (((Step.refl (· = w.heap.size) _).setCell _ _ (fun _ => rfl)).setCell _ _ (fun _ => rfl)).setCell _ _ (fun _ => rfl)
 have HB2 := Lib.hid hb2
 have HS2 := Lib.hid hs2
 clear hQ hb2 hs2
 go_wp2_with fail
 refine leaves_cons (f := 33) (args := #[.pointer (some ⟨w.heap.size, 0, none⟩)]) (by simp) (by simp [go_sem]) ?_
 refine (catch_idle w.heap.size _).mono ?_
 rintro e u' w2 ⟨rfl, rfl, rfl⟩
 obtain ⟨⟨g0, g1, g2⟩, _⟩ := blk3 HB2.out
 simp [Leaves, settle, results, Try.results19, go_sem, g0, g1, g2]
 exact ⟨w1, HQ.out, HS2.out⟩
def endR {α : Type} (r : Res α) (l : List Tok) : Res α := match r with
 | .ok a j => if (tokA l j).kind = 0 then .ok a j else failR 1 l j
 | .err c ln col => .err c ln col
 | .out => .out
def outR {α : Type} (s : List UInt8) (p : List Tok → Res α) : Except (Nat × Nat × Nat) α := match lexF s with
 | .error e => .error e
 | .ok l => match endR (p l) l with
  | .ok a _ => .ok a
  | .err c ln col => .error (c, ln, col)
  | .out => .error (1, 0, 0)
theorem RdAt.apart {R : Rdr} {w w' : World} {i d bo : Nat} (h : RdAt R w i d) (hs : Step (· = bo) w w') (h0 : 0 < bo) (h1 : bo ≠ R.rb) (h2 : ∀ g o p, R.a = some ⟨g, o, p⟩ → g ≠ bo) : RdAt R w' i d := by
 refine ⟨hs.keep h.blk (fun e => h1 e.symm), ?_, hs.cell h.glob (fun e => by have e2 : 0 = bo := e; omega), h.pos, h.lt⟩
 obtain ⟨a, c, hv, hc, hm, hz, hr⟩ := h.row
 refine ⟨a, c, hv, hc, hm, hz, fun hn => ?_⟩
 obtain ⟨g, o, ha, hg, hgw, hcell⟩ := hr hn
 have hra : R.a = some ⟨g, o, none⟩ := by rw [← ha]; cases hv; rfl
 exact ⟨g, o, ha, hg, Nat.lt_of_lt_of_le hgw hs.size, fun i x hx => hs.cell (hcell i x hx) (h2 g o none hra)⟩
theorem outR_err {α : Type} {s : List UInt8} {p : List Tok → Res α} (hc : ∀ l c ln col, lexF s = .ok l → p l = .err c ln col → c ≠ 0) {c ln col : Nat} (h : outR s p = .error (c, ln, col)) : c ≠ 0 := by
 unfold outR at h
 cases hx : lexF s with
 | error e =>
  rw [hx] at h
  obtain ⟨c', ln', col'⟩ := e
  cases h
  exact lexF_err hx
 | ok l =>
  rw [hx] at h
  dsimp only at h
  cases hy : p l with
  | out => rw [hy] at h; cases h; decide
  | err c' ln' col' => rw [hy] at h; cases h; exact hc l _ _ _ hx hy
  | ok a j =>
   rw [hy] at h
   dsimp only [endR] at h
   by_cases hz : (tokA l j).kind = 0
   ·rw [if_pos hz] at h; cases h
   ·rw [if_neg hz, failR] at h; cases h; decide
theorem lex_all (s : ByteArray) (w : World) (m : Int) (hm : w.cell? ⟨0, 0, none⟩ = some (.int .i64 m)) : Calls Try.prog 18 #[.string s] w (AllPost w.heap.size w (lexF s.data.toList)) := by
 rcases Nat.lt_or_ge 20000 s.size with h | h
 ·exact all_long s w h
 ·exact all_any s w m hm h
theorem read1_any {α : Type} (R : Rdr) (k : Nat) (caps : List Value) (bc bo : Nat) (Left : World → α → Prop) (r : Res α) (w : World) (hk : Enters k) (hbc : w.cell? ⟨bc, 0, none⟩ = some (.func (.func k) #[] caps.toArray)) (hno : r ≠ .out)
  (hby : Calls Try.prog k (.agg #[.pointer (some ⟨R.rb, 0, none⟩)] :: caps).toArray w (CloPost R 0 bo Left r w)) (hst : ∀ X Y a, Step (fun _ => False) X Y → Left X a → Left Y a) :
  Calls Try.prog 20 #[.pointer (some ⟨R.rb, 0, none⟩), .pointer (some ⟨bc, 0, none⟩)] w (CloPost R 0 bo Left (endR r R.l) w) := by
 have hen : Enters k := hk
 unfold Enters at hen
 have HB := Lib.hid hby
 have HST := Lib.hid hst
 have HNO := Lib.hid hno
 have hfd0 : ∀ (a0 a1 a2 a3 a4 : Value) (w : World), (Instr.field 73 (.agg #[a0, a1, a2, a3, a4]) 0).run Try.prog w = .ok a0 w := fun _ _ _ _ _ _ => by kernel_rfl
 clear hby hk hst hno
 go_enter Try.func20, Try.ntmps20
 go_wp2_with fail
 refine HB.out.mono ?_
 rintro e w1 hp
 cases r with
 | out => exact absurd rfl HNO.out
 | err c ln col =>
  obtain ⟨rfl, hs⟩ := hp
  exact ⟨rfl, rfl, hs⟩
 | ok a j =>
  obtain ⟨rfl, hleft, hr, hs⟩ := hp
  obtain ⟨tk, htk⟩ : ∃ tk, tk = tokA R.l j := ⟨_, rfl⟩
  have HT := Lib.hid (show R.l[j]? = some tk by rw [htk]; exact hr.tok)
  have HTE := Lib.hid htk
  have HR := Lib.hid hr
  have HLF := Lib.hid hleft
  have HS := Lib.hid hs
  clear htk hr hleft hs hbc
  go_wp2_with fail
  refine (peek_at R _ j 0 tk HR.out HT.out).mono ?_
  rintro e w2 ⟨rfl, h2⟩
  have HR2 := Lib.hid (HR.out.quiet h2)
  have HS2 := Lib.hid h2
  clear h2
  by_cases hz : tk.kind = 0
  ·have e1 : ((tk.kind : Int) != 0) = false := by rw [bne, kindN tk.kind 0 0 rfl, hz]; rfl
   have HE : Hid (endR (.ok a j) R.l = .ok a j) := by show (if (tokA R.l j).kind = 0 then Res.ok a j else failR 1 R.l j) = _; rw [← HTE.out, if_pos hz]
   clear hz
   go_wp2_with fail
   refine bodyPost_end (results_none rfl _ _ _) rfl ?_
   exact CloPost.of_ok HE.out rfl (HST.out _ _ _ HS2.out HLF.out) HR2.out (HS.out.trans (HS2.out.mono (fun _ _ h => h.elim)))
  ·have e1 : ((tk.kind : Int) != 0) = true := by rw [bne, kindN tk.kind 0 0 rfl, beq_eq_false_iff_ne.2 hz]; rfl
   have HE : Hid (endR (.ok a j) R.l = .err 1 tk.line tk.col) := by show (if (tokA R.l j).kind = 0 then Res.ok a j else failR 1 R.l j) = _; rw [← HTE.out, if_neg hz, failR, ← HTE.out]
   clear hz
   go_wp2_with fail
   refine (fail_at R 1 _ j 0 tk HR2.out HT.out).mono ?_
   rintro e w3 ⟨rfl, h3⟩
   exact ⟨rfl, CloPost.of_err HE.out rfl (HS.out.trans ((HS2.out.trans h3).mono (fun _ _ h => h.elim)))⟩
theorem enters_read1 : Enters 20 := fun xs w => by go_simp
/- What is answered of a text: it, or what is wrong. -/
def OutPost {α : Type} (bo : Nat) (Left : World → World → α → Prop) (r : Except (Nat × Nat × Nat) α) (w : World) (e : Ending) (w' : World) : Prop :=
 match r with
 | .ok a => e = .returned (.agg #[.int .i64 0, .int .i64 0, .int .i64 0]) ∧ (∃ X, w.heap.size ≤ X.heap.size ∧ Left X w' a) ∧ Step (· = bo) w w'
 | .error (c, ln, col) => e = .returned (.agg #[.int .i64 c, .int .i64 ln, .int .i64 col]) ∧ Step (· = bo) w w'
theorem pread_any {α : Type} (s : ByteArray) (k : Nat) (caps : List Value) (bo : Nat) (p : List Tok → Res α) (Left : World → World → α → Prop) (w : World) (m : Int) (hm : w.cell? ⟨0, 0, none⟩ = some (.int .i64 m)) (hbw : bo < w.heap.size) (hk : Enters k)
  (hp : ∀ l, lexF s.data.toList = .ok l → p l ≠ .out)
  (hst : ∀ X Y Z a, w.heap.size ≤ X.heap.size → Step (fun q => w.heap.size ≤ q ∧ q < X.heap.size) Y Z → Left X Y a → Left X Z a)
  (hby : ∀ (R : Rdr) (X : World), lexF s.data.toList = .ok R.l → LOk R.l → RdAt R X 0 0 → w.heap.size < R.rb → (∀ g o p, R.a = some ⟨g, o, p⟩ → w.heap.size ≤ g) → Step (fun _ => False) w X → Calls Try.prog k (.agg #[.pointer (some ⟨R.rb, 0, none⟩)] :: caps).toArray X (CloPost R 0 bo (Left X) (p R.l) X)) :
  Calls Try.prog 13 #[.string s, .func (.func k) #[] caps.toArray] w (OutPost bo Left (outR s.data.toList p) w) := by
 have hmf : ∀ (fn : Fn) (first cap : Array Value) (w : World), (Instr.makeFunc fn first cap).run Try.prog w = .ok (.func fn first cap) w := fun _ _ _ _ => rfl
 obtain ⟨w1, hw1⟩ : ∃ w1 : World, w1 = (w.alloc (.cells #[.func (.func k) #[] caps.toArray] 61)).alloc (.cells #[.int .i64 0, .int .i64 0, .int .i64 0] 32) := ⟨_, rfl⟩
 have HS1 : Hid (Step (fun _ => False) w w1) := by show Step _ _ _; rw [hw1]; exact ((Step.refl _ _).alloc _).alloc _
 have HP1 : Hid (w1.heap[w.heap.size]? = some (.cells #[.func (.func k) #[] caps.toArray] 61 (0, 0))) := by show _ = _; rw [hw1]; exact blk_alloc (blk_new _ _)
 have HN1 : Hid (w1.heap[w.heap.size + 1]? = some (.cells #[.int .i64 0, .int .i64 0, .int .i64 0] 32 (0, 0))) := by show _ = _; rw [hw1]; exact blk_new2 _ _ _
 have HW1 := Lib.hid hw1
 have HM1 := Lib.hid (HS1.out.cell hm (fun h => h))
 have HLX := Lib.hid (lex_all s w1 m HM1.out)
 have HB := Lib.hid hby
 have HP := Lib.hid hp
 have HST := Lib.hid hst
 have hn1 := blk_lt HN1.out
 have hsz1 := HS1.out.size
 have HK := Lib.hid hk
 obtain ⟨rl, hrl⟩ : ∃ rl, rl = lexF s.data.toList := ⟨_, rfl⟩
 have HRL := Lib.hid hrl
 rw [← hrl] at HLX
 clear hm hk hp hst hby hw1 hrl
 go_enter Try.func13, Try.ntmps13
 go_upto_region 1 with fail
 rw [← HW1.out]
 go_wp2_with fail
 refine HLX.out.mono ?_
 rintro e w2 ⟨hp, h2⟩
 cases rl with
 | error q =>
  obtain ⟨c, ln, col⟩ := q
  have hp2 : e = .returned (.tuple #[.slice none 0 0, .agg #[.int .i64 c, .int .i64 ln, .int .i64 col]]) := hp
  subst hp2
  have hc0 : c ≠ 0 := lexF_err HRL.out.symm
  have bc : ((c : Int) == 0) = false := by rw [beq_eq_false_iff_ne]; omega
  have HS2 := Lib.hid h2
  have HNX := Lib.hid (h2.keep HN1.out (fun h => h))
  have hz2 := h2.size
  obtain ⟨⟨d0, d1, d2⟩, z0, z1, z2⟩ := blk3 (blk_alloc (o' := .cells #[.int .i64 c, .int .i64 ln, .int .i64 col] 32) HNX.out)
  clear hp h2 hc0
  go_wp2_with fail
  refine bodyPost_ret (v := .agg #[.int .i64 c, .int .i64 ln, .int .i64 col]) (by simp [results, Try.results13, go_sem, d0, d1, d2]) rfl ?_
  unfold OutPost outR
  rw [← HRL.out]
  refine ⟨rfl, ?_⟩
  have hs3 : Step (· = w.heap.size + 1) w2 ((((w2.alloc (.cells #[.int .i64 c, .int .i64 ln, .int .i64 col] 32)).setCell ⟨w.heap.size + 1, 0, none⟩ (.int .i64 c)).setCell ⟨w.heap.size + 1, 1, none⟩ (.int .i64 ln)).setCell ⟨w.heap.size + 1, 2, none⟩ (.int .i64 col)) := ((((Step.refl (· = w.heap.size + 1) _).alloc _).setCell _ _ (fun _ => rfl)).setCell _ _ (fun _ => rfl)).setCell _ _ (fun _ => rfl)
  exact ((HS1.out.trans HS2.out).mono (fun _ _ h => h.elim)).then hs3 (fun q hq e => by omega)
 | ok l =>
  obtain ⟨v, rfl, hown⟩ : ∃ v, e = .returned (.tuple #[v, .agg #[.int .i64 0, .int .i64 0, .int .i64 0]]) ∧ w2.ownsRow w1.heap.size 73 5 v l.length (toksV l) := hp
  obtain ⟨a, c, rfl⟩ := owns_slice hown
  obtain ⟨hlk, hl0⟩ := lexF_LOk HRL.out.symm
  have hpn := HP.out l HRL.out.symm
  obtain ⟨w3, hw3⟩ : ∃ w3 : World, w3 = w2.alloc (.cells #[.int .i64 0, .int .i64 0, .int .i64 0] 32) := ⟨_, rfl⟩
  have HS3 : Hid (Step (fun _ => False) w w3) := by show Step _ _ _; rw [hw3]; exact (HS1.out.trans h2).alloc _
  have HS13 : Hid (Step (fun _ => False) w1 w3) := by show Step _ _ _; rw [hw3]; exact h2.alloc _
  have HE3 : Hid (w3.heap[w2.heap.size]? = some (.cells #[.int .i64 0, .int .i64 0, .int .i64 0] 32 (0, 0))) := by show _ = _; rw [hw3]; exact blk_new _ _
  have HOW := Lib.hid ((show Step (fun _ => False) w2 w3 by rw [hw3]; exact (Step.refl _ _).alloc _).owns hown (fun _ _ h => h))
  have HM3 := Lib.hid (HS13.out.cell HM1.out (fun h => h))
  have HP3 := Lib.hid (HS13.out.keep HP1.out (fun h => h))
  have HN3 := Lib.hid (HS13.out.keep HN1.out (fun h => h))
  have HW3 := Lib.hid hw3
  have hz13 := HS13.out.size
  clear hown h2 hw3
  obtain ⟨R, hR⟩ : ∃ R : Rdr, R = ⟨w3.heap.size + 1, a, c, l, m⟩ := ⟨_, rfl⟩
  have hrb : R.rb = w3.heap.size + 1 := by rw [hR]
  have hRl : R.l = l := by rw [hR]
  have hRD : RdAt R (readW w3 (.slice a l.length c)) 0 0 := by
   rw [hR]
   have h3 : Step (fun _ => False) w3 (readW w3 (.slice a l.length c)) := ((Step.refl _ _).alloc _).alloc _
   exact ⟨blk_new2 _ _ _, (Row.of_owns HOW.out (Nat.le_refl _)).step h3 (fun _ _ h => h) |>.mono (Nat.le_succ _), h3.cell HM3.out (fun h => h), Nat.succ_pos _, hl0⟩
  have hRA : ∀ g o p, R.a = some ⟨g, o, p⟩ → w.heap.size ≤ g := by
   intro g o p e
   rw [hR] at e
   have e2 : a = some ⟨g, o, p⟩ := e
   have := (HOW.out.lt g (by rw [e2]; rfl)).1
   omega
  have hS3R : Step (fun _ => False) w (readW w3 (.slice a l.length c)) := (HS3.out.alloc _).alloc _
  have hcall := read1_any R k caps w.heap.size bo (Left (readW w3 (.slice a l.length c))) (p R.l) (readW w3 (.slice a l.length c)) HK.out (cell_alloc (cell_alloc (blk_cell HP3.out 0 _ rfl))) (by rw [hRl]; exact hpn)
   (HB.out R _ (by rw [hRl]; exact HRL.out.symm) (by rw [hRl]; exact hlk) hRD (by omega) hRA hS3R) (fun X Y a hs hl => HST.out _ X Y a hS3R.size (hs.mono (fun _ _ h => h.elim)) hl)
  rw [hRl, hrb] at hcall
  have herr : (readW w3 (.slice a l.length c)).heap[w3.heap.size]? = some (.cells #[.int .i64 0, .int .i64 0, .int .i64 0] 32 (0, 0)) := blk_alloc (blk_new _ _)
  have hzr : (readW w3 (.slice a l.length c)).heap.size = w3.heap.size + 2 := by simp [readW]
  have HOUT : Hid (outR s.data.toList p = match endR (p l) l with | .ok a _ => .ok a | .err c ln col => .error (c, ln, col) | .out => .error (1, 0, 0)) := by show _ = _; unfold outR; rw [← HRL.out]
  obtain ⟨r, hr⟩ : ∃ r, r = endR (p l) l := ⟨_, rfl⟩
  rw [← hr] at hcall HOUT
  have HCALL := Lib.hid hcall
  have hrn : r ≠ .out := by
   rw [hr]
   unfold endR
   cases hx : p l with
   | out => exact absurd hx hpn
   | err => intro e; cases e
   | ok a j => dsimp only; split <;> (intro e; cases e)
  obtain ⟨⟨g0, g1, g2⟩, -⟩ := blk3 HE3.out
  have hlt3 : w.heap.size + 1 < w3.heap.size := by omega
  clear hcall hRD hRA hR hr hlk hl0 hpn
  cases r with
  | out => exact absurd rfl hrn
  | err ce ln col =>
   have HRF := Lib.hid (read_fail a l.length c 20 [.pointer (some ⟨w.heap.size, 0, none⟩)] w3 ce ln col (fun X => Step (fun q => q = w3.heap.size + 1 ∨ q = bo) (readW w3 (.slice a l.length c)) X) enters_read1 (HCALL.out.mono fun e X hp => ⟨hp.1, hp.2.keep herr (by omega), (by have h9 := hp.2; rw [hrb] at h9; exact h9)⟩))
   go_upto_region 2 with fail
   rw [← HW3.out]
   go_wp2_with fail
   refine HRF.out.mono ?_
   rintro e w5 ⟨rfl, w4, h4, h5⟩
   have hs35 : Step (· = bo) w3 w5 := ((((Step.refl (fun _ => False) _).alloc _).alloc _).mono (fun _ _ h => h.elim) |>.then h4 (fun q hq e => by omega)).then h5 (fun q hq e => by omega)
   have HS35 := Lib.hid hs35
   obtain ⟨⟨d0, d1, d2⟩, z0, z1, z2⟩ := blk3 (hs35.keep HN3.out (by omega))
   clear h4 h5 hs35 g0 g1 g2
   go_wp2_with fail
   refine bodyPost_ret (v := .agg #[.int .i64 ce, .int .i64 ln, .int .i64 col]) (by simp [results, Try.results13, go_sem, d0, d1, d2]) rfl ?_
   rw [HOUT.out]
   refine ⟨rfl, ?_⟩
   have hs3 : Step (· = w.heap.size + 1) w5 (((w5.setCell ⟨w.heap.size + 1, 0, none⟩ (.int .i64 ce)).setCell ⟨w.heap.size + 1, 1, none⟩ (.int .i64 ln)).setCell ⟨w.heap.size + 1, 2, none⟩ (.int .i64 col)) := (((Step.refl (· = w.heap.size + 1) _).setCell _ _ (fun _ => rfl)).setCell _ _ (fun _ => rfl)).setCell _ _ (fun _ => rfl)
   exact ((HS3.out.mono (fun _ _ h => h.elim)).trans HS35.out).then hs3 (fun q hq e => by omega)
  | ok x j =>
   have HRO := Lib.hid (read_ok a l.length c 20 [.pointer (some ⟨w.heap.size, 0, none⟩)] w3 (fun X => Left (readW w3 (.slice a l.length c)) X x ∧ Step (fun q => q = w3.heap.size + 1 ∨ q = bo) (readW w3 (.slice a l.length c)) X) enters_read1 (HCALL.out.mono fun e X hp => ⟨hp.1, hp.2.2.2.keep herr (by omega), hp.2.1, (by have h9 := hp.2.2.2; rw [hrb] at h9; exact h9)⟩))
   go_upto_region 2 with fail
   rw [← HW3.out]
   go_wp2_with fail
   refine HRO.out.mono ?_
   rintro e w5 ⟨rfl, w4, ⟨hleft, h4⟩, h5⟩
   have hs35 : Step (· = bo) w3 w5 := ((((Step.refl (fun _ => False) _).alloc _).alloc _).mono (fun _ _ h => h.elim) |>.then h4 (fun q hq e => by omega)).then h5 (fun q hq e => by omega)
   have HS35 := Lib.hid hs35
   have HLF := Lib.hid hleft
   have HS5 := Lib.hid h5
   obtain ⟨⟨d0, d1, d2⟩, z0, z1, z2⟩ := blk3 (hs35.keep HN3.out (by omega))
   clear h4 h5 hs35 g0 g1 g2 hleft
   go_wp2_with fail
   refine bodyPost_ret (v := .agg #[.int .i64 0, .int .i64 0, .int .i64 0]) (by simp [results, Try.results13, go_sem, d0, d1, d2]) rfl ?_
   rw [HOUT.out]
   have hs3 : Step (· = w.heap.size + 1) w5 (((w5.setCell ⟨w.heap.size + 1, 0, none⟩ (.int .i64 0)).setCell ⟨w.heap.size + 1, 1, none⟩ (.int .i64 0)).setCell ⟨w.heap.size + 1, 2, none⟩ (.int .i64 0)) := (((Step.refl (· = w.heap.size + 1) _).setCell _ _ (fun _ => rfl)).setCell _ _ (fun _ => rfl)).setCell _ _ (fun _ => rfl)
   refine ⟨rfl, ⟨_, hS3R.size, HST.out _ w4 _ x hS3R.size ?_ HLF.out⟩, ((HS3.out.mono (fun _ _ h => h.elim)).trans HS35.out).then hs3 (fun q hq e => by omega)⟩
   refine (HS5.out.mono (fun q _ e => ⟨by omega, by omega⟩)).trans (hs3.mono (fun q _ e => ⟨by omega, by omega⟩))
section
variable {P : Program} {w : World}
theorem results_two {fn : Func} {x y t t2 : Nat} (h : fn.results = #[.cell x t, .cell y t2]) (tmps : Array Value) (b b2 tt tt2 : Nat) (cs ds : List Value) (d d2 : TypeDesc) (hx : tmps.getD x undef = .pointer (some ⟨b, 0, none⟩)) (hy : tmps.getD y undef = .pointer (some ⟨b2, 0, none⟩))
  (hb : w.heap[b]? = some (.cells cs.toArray tt (0, 0))) (hu : P.underlying t = some d) (hd : d.isRow = true) (hi : (P.info? t).map (·.size) = some cs.length)
  (hb2 : w.heap[b2]? = some (.cells ds.toArray tt2 (0, 0))) (hu2 : P.underlying t2 = some d2) (hd2 : d2.isRow = true) (hi2 : (P.info? t2).map (·.size) = some ds.length) :
  (results fn tmps).run P w = .ok (.tuple #[.agg cs.toArray, .agg ds.toArray]) w := by
 have hl := run_loadVar_mid (P := P) w b 0 t cs d (fun j v hv => by rw [Nat.zero_add]; exact blk_cell hb j v (by simpa using hv)) hu hd hi
 have hl2 := run_loadVar_mid (P := P) w b2 0 t2 ds d2 (fun j v hv => by rw [Nat.zero_add]; exact blk_cell hb2 j v (by simpa using hv)) hu2 hd2 hi2
 rw [Array.getD_eq_getD_getElem?] at hx hy
 simp [results, h, hx, hy, asAddr, hl, hl2]
theorem results_slot {fn : Func} {x y t2 : Nat} (h : fn.results = #[.tmp x, .cell y t2]) (tmps : Array Value) (b2 tt2 : Nat) (v : Value) (ds : List Value) (d2 : TypeDesc) (hx : tmps.getD x undef = v) (hy : tmps.getD y undef = .pointer (some ⟨b2, 0, none⟩))
  (hb2 : w.heap[b2]? = some (.cells ds.toArray tt2 (0, 0))) (hu2 : P.underlying t2 = some d2) (hd2 : d2.isRow = true) (hi2 : (P.info? t2).map (·.size) = some ds.length) :
  (results fn tmps).run P w = .ok (.tuple #[v, .agg ds.toArray]) w := by
 have hl2 := run_loadVar_mid (P := P) w b2 0 t2 ds d2 (fun j v hv => by rw [Nat.zero_add]; exact blk_cell hb2 j v (by simpa using hv)) hu2 hd2 hi2
 rw [Array.getD_eq_getD_getElem?] at hx hy
 simp [results, h, hx, hy, asAddr, hl2]
end
theorem Try.sizeErr : (Try.prog.info? 32).map (·.size) = some 3 := by kernel_rfl
def fuelN : Nat := 200000
theorem Gd.code {α : Type} {N i : Nat} {r : Res α} (h : Gd N i r) {c ln col : Nat} (e : r = .err c ln col) : c ≠ 0 := by subst e; exact h
def exprF (s : List UInt8) : Except (Nat × Nat × Nat) Ex := outR s fun l => levelR fuelN l 0 0 0
theorem expr_gd {s : List UInt8} {l : List Tok} (h : lexF s = .ok l) : Gd l.length 0 (levelR fuelN l 0 0 0) := by
 obtain ⟨hl, h0⟩ := lexF_LOk h
 exact (fu_all hl fuelN).level 0 0 0 h0 (by omega) (by have := hl.len; unfold fuelN; omega)
def exprAt (X w' : World) (a : Ex) (cs : List Value) : Prop := ExP w' (fun q => X.heap.size ≤ q) a cs
theorem exprAt_step {X Y Z : World} {a : Ex} {cs : List Value} {S : Nat → Prop} (hs : Step S Y Z) (hS : ∀ q, X.heap.size ≤ q → ¬ S q) (h : exprAt X Y a cs) : exprAt X Z a cs := ExP.step hs hS a cs h
theorem enters_whole_expr : Enters 14 := fun xs w => by go_simp
theorem enters_expr : Enters 10 := fun xs w => by go_simp
def exprOut (bo : Nat) (X w' : World) (a : Ex) : Prop := ∃ cs : List Value, w'.heap[bo]? = some (.cells cs.toArray 29 (0, 0)) ∧ exprAt X w' a cs
theorem whole1_expr (R : Rdr) (bb bo : Nat) (r : Res (Ex)) (w : World) (h : RdAt R w 0 0) (hbb : w.cell? ⟨bb, 0, none⟩ = some (.func (.func 10) #[] #[])) (hbo : w.heap[bo]? = some (.cells #[.int .i64 0, .string ⟨#[]⟩, .int .u64 0, .bool false, .slice none 0 0, .slice none 0 0, .slice none 0 0, .int .i64 0, .int .i64 0] 29 (0, 0))) (h0 : 0 < bo) (hne : bo ≠ R.rb) (hra : ∀ g o p, R.a = some ⟨g, o, p⟩ → g ≠ bo) (hno : r ≠ .out)
  (hc : ∀ X : World, RdAt R X 0 0 → Calls Try.prog 10 #[.agg #[.pointer (some ⟨R.rb, 0, none⟩)]] X (PPost R 0 (ExV X.heap.size) r X)) :
  Calls Try.prog 14 #[.agg #[.pointer (some ⟨R.rb, 0, none⟩)], .pointer (some ⟨bb, 0, none⟩), .pointer (some ⟨bo, 0, none⟩)] w (CloPost R 0 bo (exprOut bo w) r w) := by
 have hen := enters_expr
 unfold Enters at hen
 obtain ⟨w1, hw1⟩ : ∃ w1 : World, w1 = w.alloc (.cells #[.pointer (some ⟨R.rb, 0, none⟩)] 45) := ⟨_, rfl⟩
 have HS1 : Hid (Step (fun _ => False) w w1) := by show Step _ _ _; rw [hw1]; exact (Step.refl _ _).alloc _
 have HP1 : Hid (w1.heap[w.heap.size]? = some (.cells #[.pointer (some ⟨R.rb, 0, none⟩)] 45 (0, 0))) := by show _ = _; rw [hw1]; exact blk_new _ _
 have HW1 := Lib.hid hw1
 have H1 := Lib.hid (h.quiet HS1.out)
 have p0 := blk_cell HP1.out 0 _ rfl
 have b0 := HS1.out.cell hbb (fun h => h)
 have HBO := Lib.hid (HS1.out.keep hbo (fun h => h))
 have hbl := blk_lt hbo
 have HC := Lib.hid (hc w1 H1.out)
 have HNO := Lib.hid hno
 clear h hno hw1 hbb hbo hc
 go_enter Try.func14, Try.ntmps14
 go_upto_region 1 with fail
 rw [← HW1.out]
 go_wp2_with fail
 refine HC.out.mono ?_
 rintro e wx hp
 cases r with
 | out => exact absurd rfl HNO.out
 | err c ln col =>
  obtain ⟨rfl, sq⟩ := hp
  exact ⟨rfl, rfl, ((HS1.out.mono (fun _ _ h => h.elim)).trans sq).mono (fun _ _ e => .inl e)⟩
 | ok y jx =>
  obtain ⟨⟨v, rfl, cs, rfl, hy⟩, hrx, hsx⟩ := hp
  have HY := Lib.hid hy
  have HONE := Lib.hid hy.one
  obtain ⟨k0, nm0, v0, mu0, a1, n1, c1, a2, n2, c2, a3, n3, c3, l0, c0, rfl⟩ := hy.parts
  have HRX := Lib.hid hrx
  have HSX := Lib.hid hsx
  have HBX := Lib.hid (hsx.keep HBO.out hne)
  clear hy hrx hsx p0 b0
  go_wp2_with (refine wpList_store_part (w := wx) rfl 29 (.tmp 2) (.tmp 6) rfl bo 0 29 _ [.int .i64 k0, .string nm0, .int .u64 v0, .bool mu0, .slice a1 n1 c1, .slice a2 n2 c2, .slice a3 n3 c3, .int .i64 l0, .int .i64 c0] rfl rfl HBX.out Try.sizeExpr (Nat.le_of_eq rfl) HONE.out ?_
               intro w6 hb6 hst6)
  have hb6' : w6.heap[bo]? = some (.cells [Value.int .i64 k0, .string nm0, .int .u64 v0, .bool mu0, .slice a1 n1 c1, .slice a2 n2 c2, .slice a3 n3 c3, .int .i64 l0, .int .i64 c0].toArray 29 (0, 0)) := hb6
  refine bodyPost_end (results_none rfl _ _ _) rfl ?_
  have hz1 := HS1.out.size
  refine CloPost.of_ok rfl rfl ⟨_, hb6', ExP.mono (fun q _ hq => by omega) _ _ (ExP.step hst6 (fun q hq e => by omega) _ _ HY.out)⟩ (HRX.out.apart hst6 h0 hne hra) ?_
  exact (((HS1.out.mono (fun _ _ h => h.elim)).trans HSX.out).mono (fun _ _ e => .inl e)).trans (hst6.mono (fun _ _ e => .inr e))
def exprTup (r : Except (Nat × Nat × Nat) (Ex)) (w : World) (e : Ending) (w' : World) : Prop :=
 (match r with
  | .ok a => ∃ v, e = .returned (.tuple #[v, .agg #[.int .i64 0, .int .i64 0, .int .i64 0]]) ∧ ExQ w' (fun q => w.heap.size ≤ q) a v
  | .error (c, ln, col) => e = .returned (.tuple #[.agg #[.int .i64 0, .string ⟨#[]⟩, .int .u64 0, .bool false, .slice none 0 0, .slice none 0 0, .slice none 0 0, .int .i64 0, .int .i64 0], .agg #[.int .i64 c, .int .i64 ln, .int .i64 col]])) ∧ Step (fun _ => False) w w'
theorem whole_expr (s : ByteArray) (w : World) (m : Int) (hm : w.cell? ⟨0, 0, none⟩ = some (.int .i64 m)) :
  Calls Try.prog 9 #[.string s, .func (.func 10) #[] #[]] w (exprTup (exprF s.data.toList) w) := by
 have hmf : ∀ (fn : Fn) (first cap : Array Value) (w : World), (Instr.makeFunc fn first cap).run Try.prog w = .ok (.func fn first cap) w := fun _ _ _ _ => rfl
 obtain ⟨w1, hw1⟩ : ∃ w1 : World, w1 = (((((w.alloc (.cells #[.func (.func 10) #[] #[]] 41)).alloc (.cells #[.int .i64 0, .string ⟨#[]⟩, .int .u64 0, .bool false, .slice none 0 0, .slice none 0 0, .slice none 0 0, .int .i64 0, .int .i64 0] 29)).alloc (.cells #[.int .i64 0, .int .i64 0, .int .i64 0] 32)).alloc (.cells #[.int .i64 0, .string ⟨#[]⟩, .int .u64 0, .bool false, .slice none 0 0, .slice none 0 0, .slice none 0 0, .int .i64 0, .int .i64 0] 29)).alloc (.cells #[.int .i64 0, .string ⟨#[]⟩, .int .u64 0, .bool false, .slice none 0 0, .slice none 0 0, .slice none 0 0, .int .i64 0, .int .i64 0] 29)) := ⟨_, rfl⟩
 have HS1 : Hid (Step (fun _ => False) w w1) := by show Step _ _ _; rw [hw1]; exact ((((((Step.refl _ _).alloc _).alloc _).alloc _).alloc _).alloc _)
 have hpos : 0 < w.heap.size := by
  rcases Nat.eq_zero_or_pos w.heap.size with h | h
  ·exact absurd hm (by simp [World.cell?, Array.getElem?_eq_none (show w.heap.size ≤ 0 by omega)])
  ·exact h
 have HA0 : Hid (w1.heap[w.heap.size]? = some (.cells #[.func (.func 10) #[] #[]] 41 (0, 0))) := by show _ = _; rw [hw1]; exact blk_alloc (blk_alloc (blk_alloc (blk_alloc ((show (w.alloc (.cells #[.func (.func 10) #[] #[]] 41)).heap[w.heap.size]? = some (.cells #[.func (.func 10) #[] #[]] 41 (0, 0)) by have h := blk_new w (.cells #[.func (.func 10) #[] #[]] 41); simpa using h)))))
 have HA1 : Hid (w1.heap[w.heap.size + 1]? = some (.cells #[.int .i64 0, .string ⟨#[]⟩, .int .u64 0, .bool false, .slice none 0 0, .slice none 0 0, .slice none 0 0, .int .i64 0, .int .i64 0] 29 (0, 0))) := by show _ = _; rw [hw1]; exact blk_alloc (blk_alloc (blk_alloc ((show ((w.alloc (.cells #[.func (.func 10) #[] #[]] 41)).alloc (.cells #[.int .i64 0, .string ⟨#[]⟩, .int .u64 0, .bool false, .slice none 0 0, .slice none 0 0, .slice none 0 0, .int .i64 0, .int .i64 0] 29)).heap[w.heap.size + 1]? = some (.cells #[.int .i64 0, .string ⟨#[]⟩, .int .u64 0, .bool false, .slice none 0 0, .slice none 0 0, .slice none 0 0, .int .i64 0, .int .i64 0] 29 (0, 0)) by have h := blk_new (w.alloc (.cells #[.func (.func 10) #[] #[]] 41)) (.cells #[.int .i64 0, .string ⟨#[]⟩, .int .u64 0, .bool false, .slice none 0 0, .slice none 0 0, .slice none 0 0, .int .i64 0, .int .i64 0] 29); simpa using h))))
 have HA2 : Hid (w1.heap[w.heap.size + 1 + 1]? = some (.cells #[.int .i64 0, .int .i64 0, .int .i64 0] 32 (0, 0))) := by show _ = _; rw [hw1]; exact blk_alloc (blk_alloc ((show (((w.alloc (.cells #[.func (.func 10) #[] #[]] 41)).alloc (.cells #[.int .i64 0, .string ⟨#[]⟩, .int .u64 0, .bool false, .slice none 0 0, .slice none 0 0, .slice none 0 0, .int .i64 0, .int .i64 0] 29)).alloc (.cells #[.int .i64 0, .int .i64 0, .int .i64 0] 32)).heap[w.heap.size + 1 + 1]? = some (.cells #[.int .i64 0, .int .i64 0, .int .i64 0] 32 (0, 0)) by have h := blk_new ((w.alloc (.cells #[.func (.func 10) #[] #[]] 41)).alloc (.cells #[.int .i64 0, .string ⟨#[]⟩, .int .u64 0, .bool false, .slice none 0 0, .slice none 0 0, .slice none 0 0, .int .i64 0, .int .i64 0] 29)) (.cells #[.int .i64 0, .int .i64 0, .int .i64 0] 32); simpa using h)))
 have HA3 : Hid (w1.heap[w.heap.size + 1 + 1 + 1]? = some (.cells #[.int .i64 0, .string ⟨#[]⟩, .int .u64 0, .bool false, .slice none 0 0, .slice none 0 0, .slice none 0 0, .int .i64 0, .int .i64 0] 29 (0, 0))) := by show _ = _; rw [hw1]; exact blk_alloc ((show ((((w.alloc (.cells #[.func (.func 10) #[] #[]] 41)).alloc (.cells #[.int .i64 0, .string ⟨#[]⟩, .int .u64 0, .bool false, .slice none 0 0, .slice none 0 0, .slice none 0 0, .int .i64 0, .int .i64 0] 29)).alloc (.cells #[.int .i64 0, .int .i64 0, .int .i64 0] 32)).alloc (.cells #[.int .i64 0, .string ⟨#[]⟩, .int .u64 0, .bool false, .slice none 0 0, .slice none 0 0, .slice none 0 0, .int .i64 0, .int .i64 0] 29)).heap[w.heap.size + 1 + 1 + 1]? = some (.cells #[.int .i64 0, .string ⟨#[]⟩, .int .u64 0, .bool false, .slice none 0 0, .slice none 0 0, .slice none 0 0, .int .i64 0, .int .i64 0] 29 (0, 0)) by have h := blk_new (((w.alloc (.cells #[.func (.func 10) #[] #[]] 41)).alloc (.cells #[.int .i64 0, .string ⟨#[]⟩, .int .u64 0, .bool false, .slice none 0 0, .slice none 0 0, .slice none 0 0, .int .i64 0, .int .i64 0] 29)).alloc (.cells #[.int .i64 0, .int .i64 0, .int .i64 0] 32)) (.cells #[.int .i64 0, .string ⟨#[]⟩, .int .u64 0, .bool false, .slice none 0 0, .slice none 0 0, .slice none 0 0, .int .i64 0, .int .i64 0] 29); simpa using h))
 have HA4 : Hid (w1.heap[w.heap.size + 1 + 1 + 1 + 1]? = some (.cells #[.int .i64 0, .string ⟨#[]⟩, .int .u64 0, .bool false, .slice none 0 0, .slice none 0 0, .slice none 0 0, .int .i64 0, .int .i64 0] 29 (0, 0))) := by show _ = _; rw [hw1]; exact (show (((((w.alloc (.cells #[.func (.func 10) #[] #[]] 41)).alloc (.cells #[.int .i64 0, .string ⟨#[]⟩, .int .u64 0, .bool false, .slice none 0 0, .slice none 0 0, .slice none 0 0, .int .i64 0, .int .i64 0] 29)).alloc (.cells #[.int .i64 0, .int .i64 0, .int .i64 0] 32)).alloc (.cells #[.int .i64 0, .string ⟨#[]⟩, .int .u64 0, .bool false, .slice none 0 0, .slice none 0 0, .slice none 0 0, .int .i64 0, .int .i64 0] 29)).alloc (.cells #[.int .i64 0, .string ⟨#[]⟩, .int .u64 0, .bool false, .slice none 0 0, .slice none 0 0, .slice none 0 0, .int .i64 0, .int .i64 0] 29)).heap[w.heap.size + 1 + 1 + 1 + 1]? = some (.cells #[.int .i64 0, .string ⟨#[]⟩, .int .u64 0, .bool false, .slice none 0 0, .slice none 0 0, .slice none 0 0, .int .i64 0, .int .i64 0] 29 (0, 0)) by have h := blk_new ((((w.alloc (.cells #[.func (.func 10) #[] #[]] 41)).alloc (.cells #[.int .i64 0, .string ⟨#[]⟩, .int .u64 0, .bool false, .slice none 0 0, .slice none 0 0, .slice none 0 0, .int .i64 0, .int .i64 0] 29)).alloc (.cells #[.int .i64 0, .int .i64 0, .int .i64 0] 32)).alloc (.cells #[.int .i64 0, .string ⟨#[]⟩, .int .u64 0, .bool false, .slice none 0 0, .slice none 0 0, .slice none 0 0, .int .i64 0, .int .i64 0] 29)) (.cells #[.int .i64 0, .string ⟨#[]⟩, .int .u64 0, .bool false, .slice none 0 0, .slice none 0 0, .slice none 0 0, .int .i64 0, .int .i64 0] 29); simpa using h)
 have HW1 := Lib.hid hw1
 have HM1 := Lib.hid (HS1.out.cell hm (fun h => h))
 have hn1 := blk_lt HA4.out
 have hsz := HS1.out.size
 have HRD := Lib.hid (pread_any s 14 [.pointer (some ⟨w.heap.size, 0, none⟩), .pointer (some ⟨w.heap.size + 1 + 1 + 1, 0, none⟩)] (w.heap.size + 1 + 1 + 1) (fun l => levelR fuelN l 0 0 0) (exprOut (w.heap.size + 1 + 1 + 1)) w1 m HM1.out (blk_lt HA3.out) enters_whole_expr (fun l hl => (expr_gd hl).ne)
  (fun X Y Z a h1 h2 h3 => by
   obtain ⟨cs, c1, c2⟩ := h3
   exact ⟨cs, h2.keep c1 (fun e => by have := blk_lt HA3.out; omega), exprAt_step h2 (fun q hq e => by omega) c2⟩)
  (fun R X hlx hl h hrb hra hs => whole1_expr R _ _ _ X h (blk_cell (hs.keep HA0.out (fun h => h)) 0 _ rfl) (hs.keep HA3.out (fun h => h)) (by omega) (by have := blk_lt HA3.out; omega) (fun g o p e e2 => by have := hra g o p e; have := blk_lt HA3.out; omega) ((expr_gd hlx).ne) (fun X hX => expr_any fuelN (exOk_all fuelN (by decide)).level R X 0 0 hl hX (by decide) ((expr_gd hlx).ne))))
 obtain ⟨r, hr⟩ : ∃ r, r = exprF s.data.toList := ⟨_, rfl⟩
 have hrd : r = outR s.data.toList (fun l => levelR fuelN l 0 0 0) := hr
 have HC0 : Hid (∀ c ln col, r = .error (c, ln, col) → c ≠ 0) := by
  show ∀ c ln col, _
  intro c ln col e
  rw [hr] at e
  exact outR_err (fun l c ln col hl he => (expr_gd hl).code he) e
 rw [← hrd] at HRD
 rw [← hr]
 clear hm hw1 hr hrd
 go_enter Try.func9, Try.ntmps9
 go_upto_region 2 with fail
 rw [← HW1.out]
 go_wp2_with fail
 refine HRD.out.mono ?_
 rintro e w2 hp
 cases r with
 | error q =>
  obtain ⟨c, ln, col⟩ := q
  obtain ⟨rfl, h2⟩ : e = .returned (.agg #[.int .i64 c, .int .i64 ln, .int .i64 col]) ∧ Step (· = w.heap.size + 1 + 1 + 1) w1 w2 := hp
  have hc0 := HC0.out c ln col rfl
  have bc : ((c : Int) == 0) = false := by rw [beq_eq_false_iff_ne]; omega
  obtain ⟨w3, hw3⟩ : ∃ w3 : World, w3 = w2.alloc (.cells #[.int .i64 c, .int .i64 ln, .int .i64 col] 32) := ⟨_, rfl⟩
  have HS3 : Hid (Step (· = w.heap.size + 1 + 1 + 1) w1 w3) := by show Step _ _ _; rw [hw3]; exact h2.alloc _
  have HE3 : Hid (w3.heap[w2.heap.size]? = some (.cells #[.int .i64 c, .int .i64 ln, .int .i64 col] 32 (0, 0))) := by show _ = _; rw [hw3]; exact blk_new _ _
  have HW3 := Lib.hid hw3
  have HER := Lib.hid (HS3.out.keep HA2.out (by omega))
  obtain ⟨be, hbe⟩ : ∃ be, be = w2.heap.size := ⟨_, rfl⟩
  have hbe1 : w1.heap.size ≤ be := by rw [hbe]; exact h2.size
  rw [← hbe] at HE3
  obtain ⟨⟨g0, g1, g2⟩, -⟩ := blk3 HE3.out
  have HS03 : Hid (Step (fun _ => False) w w3) := HS1.out.then HS3.out (fun q hq e => by omega)
  clear hc0 h2 hw3
  have HRS := Lib.hid (HS3.out.keep HA1.out (by omega))
  have HNN := Lib.hid (HS3.out.keep HA4.out (by omega))
  go_upto_region 3 with fail
  rw [← HW3.out, ← hbe]
  clear hbe
  go_upto_region 4 with fail
  clear g0 g1 g2
  obtain ⟨Jx, hJx⟩ : ∃ Jx : (Nat → Bool) → (Nat → Value) → World → Prop, Jx = fun L V X => (L 0 = true → V 0 = .agg #[.int .i64 0, .string ⟨#[]⟩, .int .u64 0, .bool false, .slice none 0 0, .slice none 0 0, .slice none 0 0, .int .i64 0, .int .i64 0]) ∧ (L 1 = true → V 1 = .agg #[.int .i64 c, .int .i64 ln, .int .i64 col]) ∧ X.heap[w.heap.size + 1]? = some (.cells #[.int .i64 0, .string ⟨#[]⟩, .int .u64 0, .bool false, .slice none 0 0, .slice none 0 0, .slice none 0 0, .int .i64 0, .int .i64 0] 29 (0, 0)) ∧ X.heap[w.heap.size + 1 + 1 + 1 + 1]? = some (.cells #[.int .i64 0, .string ⟨#[]⟩, .int .u64 0, .bool false, .slice none 0 0, .slice none 0 0, .slice none 0 0, .int .i64 0, .int .i64 0] 29 (0, 0)) ∧ X.heap[be]? = some (.cells #[.int .i64 c, .int .i64 ln, .int .i64 col] 32 (0, 0)) ∧ X.heap[w.heap.size + 1 + 1]? = some (.cells (cond (L 3) #[.int .i64 c, .int .i64 ln, .int .i64 col] #[.int .i64 0, .int .i64 0, .int .i64 0]) 32 (0, 0)) ∧ Step (fun _ => False) w X := ⟨_, rfl⟩
  have HJX := Lib.hid hJx
  clear hJx
  refine wp_region_relyD (by kernel_rfl) Jx 4 rfl (by kernel_rfl) (by kernel_rfl) (by kernel_rfl) (by kernel_rfl) ?h0 ?hs ?hdone
  case h0 =>
   rw [HJX.out]
   exact ⟨(fun h => nomatch h), (fun h => nomatch h), blk_drew HRS.out, blk_drew HNN.out, blk_drew HE3.out, blk_drew HER.out, HS03.out.drew⟩
  case hs =>
   refine ⟨?_, ?_, ?_, ?_, trivial⟩
   ·intro L V X a ev evo hdf hL hdep hJ
    rw [HJX.out] at hJ
    obtain ⟨j0, j1, j2, j3, j4, j5, j6⟩ := hJ
    have o7 := evo 7 rfl
    change a.tmps[7]?.getD undef = .pointer (some ⟨w.heap.size + 1 + 1 + 1 + 1, 0, none⟩) at o7
    refine wp_load_mid 29 (.tmp 7) rfl (w.heap.size + 1 + 1 + 1 + 1) 0 (by rw [evalTmp]; exact o7) [Value.int .i64 0, .string ⟨#[]⟩, .int .u64 0, .bool false, .slice none 0 0, .slice none 0 0, .slice none 0 0, .int .i64 0, .int .i64 0] _ (fun jj v hv => by rw [Nat.zero_add]; exact blk_cell j3 jj v (by simpa using hv)) Try.underlying29 rfl Try.sizeExpr ?_
    exact ⟨_, rfl, by rw [HJX.out]; exact ⟨fun _ => rfl, j1, j2, j3, j4, j5, j6⟩⟩
   ·intro L V X a ev evo hdf hL hdep hJ
    rw [HJX.out] at hJ
    obtain ⟨j0, j1, j2, j3, j4, j5, j6⟩ := hJ
    have o8 := evo 8 rfl
    change a.tmps[8]?.getD undef = .pointer (some ⟨be, 0, none⟩) at o8
    refine wp_load_mid 32 (.tmp 8) rfl be 0 (by rw [evalTmp]; exact o8) [Value.int .i64 c, .int .i64 ln, .int .i64 col] _ (fun jj v hv => by rw [Nat.zero_add]; exact blk_cell j4 jj v (by simpa using hv)) Try.underlying32 rfl Try.sizeErr ?_
    exact ⟨_, rfl, by rw [HJX.out]; exact ⟨j0, fun _ => rfl, j2, j3, j4, j5, j6⟩⟩
   ·intro L V X a ev evo hdf hL hdep hJ
    rw [HJX.out] at hJ
    obtain ⟨j0, j1, j2, j3, j4, j5, j6⟩ := hJ
    have o4 := evo 4 rfl
    change a.tmps[4]?.getD undef = .pointer (some ⟨w.heap.size + 1, 0, none⟩) at o4
    have e15 := (ev 0 15 rfl (hdep 0 rfl)).trans (j0 (hdep 0 rfl))
    refine wp_store_part 29 (.tmp 4) (.tmp 15) rfl (w.heap.size + 1) 0 29 _ [.int .i64 0, .string ⟨#[]⟩, .int .u64 0, .bool false, .slice none 0 0, .slice none 0 0, .slice none 0 0, .int .i64 0, .int .i64 0] (by rw [evalTmp]; exact o4) (by rw [evalTmp]; exact e15) j2 Try.sizeExpr (Nat.le_of_eq rfl) (oneCells rfl) ?_
    intro w9 hb9 hs9
    exact ⟨undef, rfl, by rw [HJX.out]; exact ⟨j0, j1, hb9, hs9.keep j3 (by omega), hs9.keep j4 (by omega), hs9.keep j5 (by omega), j6.then hs9 (fun q hq e => by omega)⟩⟩
   ·intro L V X a ev evo hdf hL hdep hJ
    rw [HJX.out] at hJ
    obtain ⟨j0, j1, j2, j3, j4, j5, j6⟩ := hJ
    rw [hL] at j5
    have o5 := evo 5 rfl
    change a.tmps[5]?.getD undef = .pointer (some ⟨w.heap.size + 1 + 1, 0, none⟩) at o5
    have e16 := (ev 1 16 rfl (hdep 1 rfl)).trans (j1 (hdep 1 rfl))
    refine wp_store_part 32 (.tmp 5) (.tmp 16) rfl (w.heap.size + 1 + 1) 0 32 _ [.int .i64 c, .int .i64 ln, .int .i64 col] (by rw [evalTmp]; exact o5) (by rw [evalTmp]; exact e16) j5 Try.sizeErr (Nat.le_of_eq rfl) (oneCells rfl) ?_
    intro w9 hb9 hs9
    exact ⟨undef, rfl, by rw [HJX.out]; exact ⟨j0, j1, hs9.keep j2 (by omega), hs9.keep j3 (by omega), hs9.keep j4 (by omega), hb9, j6.then hs9 (fun q hq e => by omega)⟩⟩
  case hdone =>
   intro L V X hall hJ
   rw [HJX.out] at hJ
   obtain ⟨j0, j1, j2, j3, j4, j5, j6⟩ := hJ
   rw [hall 3 (by decide)] at j5
   have HD2 := Lib.hid j2
   have HD5 : Hid (X.heap[w.heap.size + 1 + 1]? = some (.cells [Value.int .i64 c, .int .i64 ln, .int .i64 col].toArray 32 (0, 0))) := j5
   have HD6 := Lib.hid j6
   clear hall j0 j1 j2 j3 j4 j5 j6
   rw [show List.range 4 = [0, 1, 2, 3] from rfl]
   simp only [putF, dstO, List.getElem?_toArray, List.getElem?_cons_zero, List.getElem?_cons_succ, Option.bind_some, Act.put, List.setIfInBounds_toArray, List.set_cons_zero, List.set_cons_succ]
   go_wp2_with fail
   refine bodyPost_ret (results_two rfl _ (w.heap.size + 1) (w.heap.size + 1 + 1) 29 32 [Value.int .i64 0, .string ⟨#[]⟩, .int .u64 0, .bool false, .slice none 0 0, .slice none 0 0, .slice none 0 0, .int .i64 0, .int .i64 0] [Value.int .i64 c, .int .i64 ln, .int .i64 col] _ _ rfl rfl HD2.out Try.underlying29 rfl Try.sizeExpr HD5.out Try.underlying32 rfl Try.sizeErr) rfl ?_
   exact ⟨rfl, HD6.out⟩
 | ok y =>
  obtain ⟨rfl, ⟨X0, hX0, hleft⟩, h2⟩ : e = .returned (.agg #[.int .i64 0, .int .i64 0, .int .i64 0]) ∧ (∃ X : World, w1.heap.size ≤ X.heap.size ∧ exprOut (w.heap.size + 1 + 1 + 1) X w2 y) ∧ Step (· = w.heap.size + 1 + 1 + 1) w1 w2 := hp
  obtain ⟨w3, hw3⟩ : ∃ w3 : World, w3 = w2.alloc (.cells #[.int .i64 0, .int .i64 0, .int .i64 0] 32) := ⟨_, rfl⟩
  have HS23 : Hid (Step (fun _ => False) w2 w3) := by show Step _ _ _; rw [hw3]; exact (Step.refl _ _).alloc _
  have HS3 : Hid (Step (· = w.heap.size + 1 + 1 + 1) w1 w3) := by show Step _ _ _; rw [hw3]; exact h2.alloc _
  have HE3 : Hid (w3.heap[w2.heap.size]? = some (.cells #[.int .i64 0, .int .i64 0, .int .i64 0] 32 (0, 0))) := by show _ = _; rw [hw3]; exact blk_new _ _
  have HW3 := Lib.hid hw3
  have HER := Lib.hid (HS3.out.keep HA2.out (by omega))
  obtain ⟨be, hbe⟩ : ∃ be, be = w2.heap.size := ⟨_, rfl⟩
  rw [← hbe] at HE3
  obtain ⟨⟨g0, g1, g2⟩, -⟩ := blk3 HE3.out
  have HS03 : Hid (Step (fun _ => False) w w3) := HS1.out.then HS3.out (fun q hq e => by omega)
  clear h2 hw3
  obtain ⟨cs, hcb, hat⟩ := hleft
  obtain ⟨k0, nm0, v0, mu0, a1, n1, c1, a2, n2, c2, a3, n3, c3, l0, c0, rfl⟩ := ExP.parts hat
  have HAT := Lib.hid (exprAt_step HS23.out (fun _ _ h => h) hat)
  have HCB := Lib.hid (HS23.out.keep hcb (fun h => h))
  have HRS := Lib.hid (HS3.out.keep HA1.out (by omega))
  have HLD : Hid (∀ (jj : Nat) v, [Value.int .i64 k0, .string nm0, .int .u64 v0, .bool mu0, .slice a1 n1 c1, .slice a2 n2 c2, .slice a3 n3 c3, .int .i64 l0, .int .i64 c0][jj]? = some v → w3.cell? ⟨w.heap.size + 1 + 1 + 1, 0 + jj, none⟩ = some v) := by
   show ∀ jj v, _
   intro jj v hv
   rw [Nat.zero_add]; exact blk_cell HCB.out jj v (by simpa using hv)
  have HONE : Hid (∀ u ∈ [Value.int .i64 k0, .string nm0, .int .u64 v0, .bool mu0, .slice a1 n1 c1, .slice a2 n2 c2, .slice a3 n3 c3, .int .i64 l0, .int .i64 c0], u.oneCell' = true) := oneCells rfl
  clear hat hcb
  go_upto_region 3 with fail
  rw [← HW3.out, ← hbe]
  clear hbe
  go_upto_region 5 with fail
  clear g0 g1 g2
  have er0 := HER.out
  go_wp2_with (first
   | (refine wpList_load_whole rfl 29 (.tmp 6) rfl (w.heap.size + 1 + 1 + 1) 0 rfl [Value.int .i64 k0, .string nm0, .int .u64 v0, .bool mu0, .slice a1 n1 c1, .slice a2 n2 c2, .slice a3 n3 c3, .int .i64 l0, .int .i64 c0] _ HLD.out Try.underlying29 rfl Try.sizeExpr ?_)
   | (refine wpList_store_part (w := w3) rfl 29 (.tmp 4) (.tmp 17) rfl (w.heap.size + 1) 0 29 _ [Value.int .i64 k0, .string nm0, .int .u64 v0, .bool mu0, .slice a1 n1 c1, .slice a2 n2 c2, .slice a3 n3 c3, .int .i64 l0, .int .i64 c0] rfl rfl HRS.out Try.sizeExpr (Nat.le_of_eq rfl) HONE.out ?_
      intro w4 hb4 hst4
      have her4 := hst4.keep HER.out (by omega)
      clear er0)
   | (refine wpList_store_part (w := w4) rfl 32 (.tmp 5) (.tmp 18) rfl (w.heap.size + 1 + 1) 0 32 _ [Value.int .i64 0, .int .i64 0, .int .i64 0] rfl rfl her4 Try.sizeErr (Nat.le_of_eq rfl) (oneCells rfl) ?_
      intro w5 hb5 hst5))
  have hb4' : w5.heap[w.heap.size + 1]? = some (.cells [Value.int .i64 k0, .string nm0, .int .u64 v0, .bool mu0, .slice a1 n1 c1, .slice a2 n2 c2, .slice a3 n3 c3, .int .i64 l0, .int .i64 c0].toArray 29 (0, 0)) := hst5.keep hb4 (by omega)
  have hb5' : w5.heap[w.heap.size + 1 + 1]? = some (.cells [Value.int .i64 0, .int .i64 0, .int .i64 0].toArray 32 (0, 0)) := hb5
  refine bodyPost_ret (results_two rfl _ (w.heap.size + 1) (w.heap.size + 1 + 1) 29 32 [Value.int .i64 k0, .string nm0, .int .u64 v0, .bool mu0, .slice a1 n1 c1, .slice a2 n2 c2, .slice a3 n3 c3, .int .i64 l0, .int .i64 c0] [Value.int .i64 0, .int .i64 0, .int .i64 0] _ _ rfl rfl hb4' Try.underlying29 rfl Try.sizeExpr hb5' Try.underlying32 rfl Try.sizeErr) rfl ?_
  exact ⟨⟨_, rfl, _, rfl, ExP.mono (fun q _ hq => by omega) _ _ (ExP.step hst5 (fun q hq e => by omega) _ _ (ExP.step hst4 (fun q hq e => by omega) _ _ HAT.out))⟩, (HS03.out.then hst4 (fun q hq e => by omega)).then hst5 (fun q hq e => by omega)⟩
theorem GdW.code {α : Type} {N i : Nat} {r : Res α} (h : GdW N i r) {c ln col : Nat} (e : r = .err c ln col) : c ≠ 0 := by subst e; exact h
section
variable {l : List Tok} (hl : LOk l)
include hl
theorem gens_fu : ∀ (f i : Nat) (ls ts : List ByteArray), i < l.length → 16 * (l.length - i) + 1 ≤ f → Gd l.length i (gensR f l i ls ts) := by
 intro f
 induction f with
 | zero => intro i ls ts hi hf; omega
 | succ f ih =>
  intro i ls ts hi hf
  rw [gensR]
  refine (roomR_gd hi).bindS fun _ i2 h0 hi2 => ?_
  refine Gd.bind ?_ fun p j h1 hj => ?_
  ·split
   ·exact (lifeR_gd hl hi2).bind fun x j _ hj => GdW.ok _ hj
   ·exact (nameR_gd hl hi2).bind fun x j _ hj => GdW.ok _ hj
  ·split
   ·rename_i h2
    exact ((ih (j + 1) _ _ (isF_lt hl hj h2) (by omega)).weak).from (by omega)
   ·exact ((needR_gd hl hj).bind fun _ k _ hk => GdW.ok _ hk).weak
theorem gen_fu (f i : Nat) (hi : i < l.length) (hf : 16 * (l.length - i) + 1 ≤ f) : GdW l.length i (genR f l i) := by
 unfold genR
 split
 ·rename_i h; exact ((gens_fu hl f (i + 1) _ _ (isF_lt hl hi h) (by omega)).weak).from (by omega)
 ·exact GdW.ok _ hi
theorem pars_fu : ∀ (f i d : Nat) (e : List UInt8) (m : Nat) (acc : List Pm), i < l.length → 16 * (l.length - i) + 1 ≤ f → Gd l.length i (parsR f l i d e m acc) := by
 intro f
 induction f with
 | zero => intro i d e m acc hi hf; omega
 | succ f ih =>
  intro i d e m acc hi hf
  rw [parsR]
  refine (roomR_gd hi).bindS fun _ i2 h0 hi2 => ?_
  refine (nameR_gd hl hi2).bind fun n j h1 hj => ?_
  refine ((needR_gd hl hj).bind fun _ j2 h2 hj2 => ?_).weak
  refine (((fu_all hl f).typ j2 d hj2 (by omega)).bind fun ty k h3 hk => ?_).weak
  split
  ·rename_i h4
   exact ((ih (k + 1) d e m _ (isF_lt hl hk h4) (by omega)).weak).from (by omega)
  ·exact ((needR_gd hl hk).bind fun _ q _ hq => GdW.ok _ hq).weak
theorem params_fu (f i d : Nat) (e : List UInt8) (m : Nat) (hi : i < l.length) (hf : 16 * (l.length - i) + 1 ≤ f) : Gd l.length i (paramsR f l i d e m) := by
 unfold paramsR
 split
 ·rename_i h; exact ⟨Nat.lt_succ_self i, isF_lt hl hi h⟩
 ·exact pars_fu hl f i d e m [] hi hf
theorem ret_fu (f i d : Nat) (hi : i < l.length) (hf : 16 * (l.length - i) + 1 ≤ f) : GdW l.length i (retR f l i d) := by
 unfold retR
 split
 ·rename_i h; exact (((fu_all hl f).typ (i + 1) d (isF_lt hl hi h) (by omega)).weak).from (by omega)
 ·exact GdW.ok _ hi
theorem traits_fu : ∀ (f i : Nat) (p : Bool) (ts ls : List ByteArray), i < l.length → 16 * (l.length - i) + 1 ≤ f → Gd l.length i (traitsR f l i p ts ls) := by
 intro f
 induction f with
 | zero => intro i p ts ls hi hf; omega
 | succ f ih =>
  intro i p ts ls hi hf
  rw [traitsR]
  refine (roomR_gd hi).bindS fun _ i2 h0 hi2 => ?_
  refine Gd.bind ?_ fun q j h1 hj => ?_
  ·split
   ·exact (nameR_gd hl hi2).bind fun x j _ hj => GdW.ok _ hj
   ·exact (lifeR_gd hl hi2).bind fun x j _ hj => GdW.ok _ hj
  ·split
   ·rename_i h2
    exact ((ih (j + 1) p _ _ (isF_lt hl hj h2) (by omega)).weak).from (by omega)
   ·exact GdW.ok _ hj
theorem bound_fu (f i : Nat) (hi : i < l.length) (hf : 16 * (l.length - i) + 1 ≤ f) : Gd l.length i (boundR f l i) := by
 unfold boundR
 have ho := optI_gd hl hi
 refine GdW.bindS ?_ fun p j h1 hj => (needR_gd hl hj).bind fun _ k h2 hk => ((traits_fu hl f k p.2 [] [] hk (by omega)).bind fun q m _ hm => GdW.ok _ hm).weak
 split
 ·exact (((nameR_gd hl ho.2).bind fun n j _ hj => GdW.ok _ hj).weak).from ho.1
 ·exact ⟨ho.1, ho.2⟩
theorem wheres_fu : ∀ (f i : Nat) (acc : List Bd), i < l.length → 16 * (l.length - i) + 2 ≤ f → Gd l.length i (wheresR f l i acc) := by
 intro f
 induction f with
 | zero => intro i acc hi hf; omega
 | succ f ih =>
  intro i acc hi hf
  rw [wheresR]
  refine (roomR_gd hi).bindS fun _ i2 h0 hi2 => ?_
  refine (bound_fu hl f i2 hi2 (by omega)).bind fun b j h1 hj => ?_
  split
  ·rename_i h2
   exact ((ih (j + 1) _ (isF_lt hl hj h2) (by omega)).weak).from (by omega)
  ·exact GdW.ok _ hj
theorem where_fu (f i : Nat) (hi : i < l.length) (hf : 16 * (l.length - i) + 1 ≤ f) : GdW l.length i (whereR f l i) := by
 unfold whereR
 split
 ·rename_i h; exact ((wheres_fu hl f (i + 1) [] (isF_lt hl hi h) (by omega)).weak).from (by omega)
 ·exact GdW.ok _ hi
theorem recv_gd (i : Nat) (hi : i < l.length) : i ≤ (recvR l i).2 ∧ (recvR l i).2 < l.length := by
 unfold recvR
 split
 ·rename_i h
  have h1 := isF_lt hl hi h
  have h2 := optI_gd hl h1
  have h3 := takeI_gd hl (s := [109, 117, 116]) h2.2
  exact ⟨by show i ≤ takeI l _ _; omega, h3.2⟩
 ·exact ⟨Nat.le_refl _, hi⟩
theorem method_fu (f i d : Nat) (body : Bool) (hi : i < l.length) (hf : 16 * (l.length - i) + 1 ≤ f) : Gd l.length i (methodR f l i d body) := by
 unfold methodR
 refine (needR_gd hl hi).bind fun _ j h1 hj => ?_
 refine ((nameR_gd hl hj).bind fun n j2 h2 hj2 => ?_).weak
 refine (gen_fu hl f j2 hj2 (by omega)).bind fun g j3 h3 hj3 => ?_
 refine GdW.bind ?_ fun _ j4 h4 hj4 => ?_
 ·split
  ·exact Nat.succ_ne_zero _
  ·exact GdW.ok _ hj3
 refine ((needR_gd hl hj4).bind fun _ j5 h5 hj5 => ?_).weak
 have hr := recv_gd hl j5 hj5
 refine (((needR_gd hl hr.2).bind fun _ k h6 hk => ?_).weak).from hr.1
 refine GdW.bind ?_ fun ps k2 h7 hk2 => ?_
 ·split
  ·rename_i h8
   have h9 := isF_lt hl hk h8
   split
   ·exact Nat.succ_ne_zero _
   ·exact ((params_fu hl f (k + 1) d [41] 8 h9 (by omega)).weak).from (by omega)
  ·exact ((needR_gd hl hk).bind fun _ q _ hq => GdW.ok _ hq).weak
 refine (ret_fu hl f k2 d hk2 (by omega)).bind fun t k3 h8 hk3 => ?_
 refine (where_fu hl f k3 hk3 (by omega)).bind fun wh k4 h9 hk4 => ?_
 refine GdW.bind ?_ fun b k5 _ hk5 => GdW.ok _ hk5
 split
 ·exact ((fu_all hl f).block k4 d hk4 (by omega)).weak
 ·exact ((needR_gd hl hk4).bind fun _ q _ hq => GdW.ok _ hq).weak
theorem meths_fu : ∀ (f i d : Nat) (body : Bool) (acc : List Mt), i < l.length → 16 * (l.length - i) + 2 ≤ f → Gd l.length i (methsR f l i d body acc) := by
 intro f
 induction f with
 | zero => intro i d body acc hi hf; omega
 | succ f ih =>
  intro i d body acc hi hf
  rw [methsR]
  split
  ·rename_i h; exact ⟨Nat.lt_succ_self i, isF_lt hl hi h⟩
  ·refine (roomR_gd hi).bindS fun _ i2 h0 hi2 => ?_
   exact (method_fu hl f i2 d body hi2 (by omega)).bind fun m j h1 hj => (ih j d body _ hj (by omega)).weak
theorem methods_fu (f i d : Nat) (body : Bool) (hi : i < l.length) (hf : 16 * (l.length - i) + 1 ≤ f) : Gd l.length i (methodsR f l i d body) := by
 unfold methodsR
 exact (needR_gd hl hi).bind fun _ j h1 hj => (meths_fu hl f j d body [] hj (by omega)).weak
theorem head_fu (i : Nat) (hi : i < l.length) : Gd l.length i (headR l i) := by
 unfold headR
 split
 ·rename_i h; exact ⟨Nat.lt_succ_self i, isF_lt hl hi h⟩
 ·split
  ·rename_i h; exact ⟨Nat.lt_succ_self i, isF_lt hl hi h⟩
  ·split
   ·rename_i h; exact ⟨Nat.lt_succ_self i, isF_lt hl hi h⟩
   ·exact nameR_gd hl hi
theorem item_fu (f i d : Nat) (hi : i < l.length) (hf : 16 * (l.length - i) + 1 ≤ f) : Gd l.length i (itemR f l i d) := by
 unfold itemR
 by_cases h1 : isF l i [115, 116, 114, 117, 99, 116] = true
 ·rw [if_pos h1]
  have h2 := isF_lt hl hi h1
  refine GdW.strict ((nameR_gd hl h2).bind fun n j h3 hj => ?_).weak (Nat.lt_succ_self i)
  refine (gen_fu hl f j hj (by omega)).bind fun g j2 h4 hj2 => ?_
  refine ((needR_gd hl hj2).bind fun _ j3 h5 hj3 => ?_).weak
  exact ((params_fu hl f j3 d [125] 12 hj3 (by omega)).bind fun fs j _ hj => GdW.ok _ hj).weak
 rw [if_neg h1]
 by_cases h1 : isF l i [116, 114, 97, 105, 116] = true
 ·rw [if_pos h1]
  have h2 := isF_lt hl hi h1
  refine GdW.strict ((nameR_gd hl h2).bind fun n j h3 hj => ?_).weak (Nat.lt_succ_self i)
  exact ((methods_fu hl f j d false hj (by omega)).bind fun fs j _ hj => GdW.ok _ hj).weak
 rw [if_neg h1]
 by_cases h1 : isF l i [105, 109, 112, 108] = true
 ·rw [if_pos h1]
  have h2 := isF_lt hl hi h1
  refine GdW.strict ((nameR_gd hl h2).bind fun n j h3 hj => ?_).weak (Nat.lt_succ_self i)
  refine ((needR_gd hl hj).bind fun _ j2 h4 hj2 => ?_).weak
  refine ((head_fu hl j2 hj2).bind fun hd j3 h5 hj3 => ?_).weak
  refine (where_fu hl f j3 hj3 (by omega)).bind fun wh j4 h6 hj4 => ?_
  exact ((methods_fu hl f j4 d true hj4 (by omega)).bind fun fs j _ hj => GdW.ok _ hj).weak
 rw [if_neg h1]
 by_cases h1 : isF l i [102, 110] = true
 ·rw [if_pos h1]
  have h2 := isF_lt hl hi h1
  refine GdW.strict ((nameR_gd hl h2).bind fun n j h3 hj => ?_).weak (Nat.lt_succ_self i)
  refine (gen_fu hl f j hj (by omega)).bind fun g j2 h4 hj2 => ?_
  refine ((needR_gd hl hj2).bind fun _ j3 h5 hj3 => ?_).weak
  refine ((params_fu hl f j3 d [41] 8 hj3 (by omega)).bind fun fs j4 h6 hj4 => ?_).weak
  refine (ret_fu hl f j4 d hj4 (by omega)).bind fun t j5 h7 hj5 => ?_
  refine (where_fu hl f j5 hj5 (by omega)).bind fun wh j6 h8 hj6 => ?_
  exact (((fu_all hl f).block j6 d hj6 (by omega)).bind fun b j _ hj => GdW.ok _ hj).weak
 rw [if_neg h1]
 exact Nat.succ_ne_zero _
theorem items_fu : ∀ (f i d : Nat) (acc : List It), i < l.length → 16 * (l.length - i) + 2 ≤ f → GdW l.length i (itemsR f l i d acc) := by
 intro f
 induction f with
 | zero => intro i d acc hi hf; omega
 | succ f ih =>
  intro i d acc hi hf
  rw [itemsR]
  split
  ·exact GdW.ok _ hi
  ·refine (roomR_gd hi).bind fun _ i2 h0 hi2 => ?_
   exact ((item_fu hl f i2 d hi2 (by omega)).bind fun x j h1 hj => ih j d _ hj (by omega)).weak
end
def progF (s : List UInt8) : Except (Nat × Nat × Nat) (List It) := outR s fun l => itemsR fuelN l 0 0 []
theorem prog_gd {s : List UInt8} {l : List Tok} (h : lexF s = .ok l) : GdW l.length 0 (itemsR fuelN l 0 0 []) := by
 obtain ⟨hl, h0⟩ := lexF_LOk h
 exact items_fu hl fuelN 0 0 [] h0 (by have := hl.len; unfold fuelN; omega)
def progAt (X w' : World) (a : List It) (cs : List Value) : Prop := ∃ v, cs = [v] ∧ LsQ ItP w' (fun q => X.heap.size ≤ q) a v
theorem progAt_step {X Y Z : World} {a : List It} {cs : List Value} {S : Nat → Prop} (hs : Step S Y Z) (hS : ∀ q, X.heap.size ≤ q → ¬ S q) (h : progAt X Y a cs) : progAt X Z a cs := by
 obtain ⟨v, h1, h2⟩ := h
 exact ⟨v, h1, (lsQ_ok itP_ok).step _ _ hs hS h2⟩
theorem enters_whole_prog : Enters 27 := fun xs w => by go_simp
theorem enters_prog : Enters 17 := fun xs w => by go_simp
def progOut (bo : Nat) (X w' : World) (a : List It) : Prop := ∃ cs : List Value, w'.heap[bo]? = some (.cells cs.toArray 46 (0, 0)) ∧ progAt X w' a cs
theorem whole1_prog (R : Rdr) (bb bo : Nat) (r : Res (List It)) (w : World) (h : RdAt R w 0 0) (hbb : w.cell? ⟨bb, 0, none⟩ = some (.func (.func 17) #[] #[])) (hbo : w.heap[bo]? = some (.cells #[.slice none 0 0] 46 (0, 0))) (h0 : 0 < bo) (hne : bo ≠ R.rb) (hra : ∀ g o p, R.a = some ⟨g, o, p⟩ → g ≠ bo) (hno : r ≠ .out)
  (hc : ∀ X : World, RdAt R X 0 0 → Calls Try.prog 17 #[.agg #[.pointer (some ⟨R.rb, 0, none⟩)]] X (PPost R 0 (ItsV X.heap.size) r X)) :
  Calls Try.prog 27 #[.agg #[.pointer (some ⟨R.rb, 0, none⟩)], .pointer (some ⟨bb, 0, none⟩), .pointer (some ⟨bo, 0, none⟩)] w (CloPost R 0 bo (progOut bo w) r w) := by
 have hen := enters_prog
 unfold Enters at hen
 obtain ⟨w1, hw1⟩ : ∃ w1 : World, w1 = w.alloc (.cells #[.pointer (some ⟨R.rb, 0, none⟩)] 45) := ⟨_, rfl⟩
 have HS1 : Hid (Step (fun _ => False) w w1) := by show Step _ _ _; rw [hw1]; exact (Step.refl _ _).alloc _
 have HP1 : Hid (w1.heap[w.heap.size]? = some (.cells #[.pointer (some ⟨R.rb, 0, none⟩)] 45 (0, 0))) := by show _ = _; rw [hw1]; exact blk_new _ _
 have HW1 := Lib.hid hw1
 have H1 := Lib.hid (h.quiet HS1.out)
 have p0 := blk_cell HP1.out 0 _ rfl
 have b0 := HS1.out.cell hbb (fun h => h)
 have HBO := Lib.hid (HS1.out.keep hbo (fun h => h))
 have hbl := blk_lt hbo
 have HC := Lib.hid (hc w1 H1.out)
 have HNO := Lib.hid hno
 clear h hno hw1 hbb hbo hc
 go_enter Try.func27, Try.ntmps27
 go_upto_region 1 with fail
 rw [← HW1.out]
 go_wp2_with fail
 refine HC.out.mono ?_
 rintro e wx hp
 cases r with
 | out => exact absurd rfl HNO.out
 | err c ln col =>
  obtain ⟨rfl, sq⟩ := hp
  exact ⟨rfl, rfl, ((HS1.out.mono (fun _ _ h => h.elim)).trans sq).mono (fun _ _ e => .inl e)⟩
 | ok y jx =>
  obtain ⟨⟨v, rfl, hy⟩, hrx, hsx⟩ := hp
  obtain ⟨va, vc, rfl⟩ := LsQ.parts hy
  have HY := Lib.hid hy
  have HRX := Lib.hid hrx
  have HSX := Lib.hid hsx
  have HBX := Lib.hid (hsx.keep HBO.out hne)
  clear hy hrx hsx p0 b0
  have bt0 := blk_cell HBX.out 0 _ rfl
  have bz0 := blk_free HBX.out 0
  have HST6 : Hid (Step (· = bo) wx (wx.setCell ⟨bo, 0, none⟩ (.slice va y.length vc))) := (Step.refl (· = bo) _).setCell _ _ (fun _ => rfl)
  have HB6 : Hid ((wx.setCell ⟨bo, 0, none⟩ (.slice va y.length vc)).heap[bo]? = some (.cells #[.slice va y.length vc] 46 (0, 0))) := blk_set HBX.out 0 _
  go_wp2_with fail
  refine bodyPost_end (results_none rfl _ _ _) rfl ?_
  have hz1 := HS1.out.size
  refine CloPost.of_ok rfl rfl ⟨[_], HB6.out, _, rfl, (lsQ_ok itP_ok).mono _ _ (fun q _ hq => by omega) ((lsQ_ok itP_ok).step _ _ HST6.out (fun q hq e => by omega) HY.out)⟩ (HRX.out.apart HST6.out h0 hne hra) ?_
  exact (((HS1.out.mono (fun _ _ h => h.elim)).trans HSX.out).mono (fun _ _ e => .inl e)).trans (HST6.out.mono (fun _ _ e => .inr e))
def progTup (r : Except (Nat × Nat × Nat) (List It)) (w : World) (e : Ending) (w' : World) : Prop :=
 (match r with
  | .ok a => ∃ v, e = .returned (.tuple #[v, .agg #[.int .i64 0, .int .i64 0, .int .i64 0]]) ∧ LsQ ItP w' (fun q => w.heap.size ≤ q) a v
  | .error (c, ln, col) => e = .returned (.tuple #[.slice none 0 0, .agg #[.int .i64 c, .int .i64 ln, .int .i64 col]])) ∧ Step (fun _ => False) w w'
theorem whole_prog (s : ByteArray) (w : World) (m : Int) (hm : w.cell? ⟨0, 0, none⟩ = some (.int .i64 m)) :
  Calls Try.prog 16 #[.string s, .func (.func 17) #[] #[]] w (progTup (progF s.data.toList) w) := by
 have hmf : ∀ (fn : Fn) (first cap : Array Value) (w : World), (Instr.makeFunc fn first cap).run Try.prog w = .ok (.func fn first cap) w := fun _ _ _ _ => rfl
 obtain ⟨w1, hw1⟩ : ∃ w1 : World, w1 = (((w.alloc (.cells #[.func (.func 17) #[] #[]] 64)).alloc (.cells #[.int .i64 0, .int .i64 0, .int .i64 0] 32)).alloc (.cells #[.slice none 0 0] 46)) := ⟨_, rfl⟩
 have HS1 : Hid (Step (fun _ => False) w w1) := by show Step _ _ _; rw [hw1]; exact ((((Step.refl _ _).alloc _).alloc _).alloc _)
 have hpos : 0 < w.heap.size := by
  rcases Nat.eq_zero_or_pos w.heap.size with h | h
  ·exact absurd hm (by simp [World.cell?, Array.getElem?_eq_none (show w.heap.size ≤ 0 by omega)])
  ·exact h
 have HA0 : Hid (w1.heap[w.heap.size]? = some (.cells #[.func (.func 17) #[] #[]] 64 (0, 0))) := by show _ = _; rw [hw1]; exact blk_alloc (blk_alloc ((show (w.alloc (.cells #[.func (.func 17) #[] #[]] 64)).heap[w.heap.size]? = some (.cells #[.func (.func 17) #[] #[]] 64 (0, 0)) by have h := blk_new w (.cells #[.func (.func 17) #[] #[]] 64); simpa using h)))
 have HA1 : Hid (w1.heap[w.heap.size + 1]? = some (.cells #[.int .i64 0, .int .i64 0, .int .i64 0] 32 (0, 0))) := by show _ = _; rw [hw1]; exact blk_alloc ((show ((w.alloc (.cells #[.func (.func 17) #[] #[]] 64)).alloc (.cells #[.int .i64 0, .int .i64 0, .int .i64 0] 32)).heap[w.heap.size + 1]? = some (.cells #[.int .i64 0, .int .i64 0, .int .i64 0] 32 (0, 0)) by have h := blk_new (w.alloc (.cells #[.func (.func 17) #[] #[]] 64)) (.cells #[.int .i64 0, .int .i64 0, .int .i64 0] 32); simpa using h))
 have HA2 : Hid (w1.heap[w.heap.size + 1 + 1]? = some (.cells #[.slice none 0 0] 46 (0, 0))) := by show _ = _; rw [hw1]; exact (show (((w.alloc (.cells #[.func (.func 17) #[] #[]] 64)).alloc (.cells #[.int .i64 0, .int .i64 0, .int .i64 0] 32)).alloc (.cells #[.slice none 0 0] 46)).heap[w.heap.size + 1 + 1]? = some (.cells #[.slice none 0 0] 46 (0, 0)) by have h := blk_new ((w.alloc (.cells #[.func (.func 17) #[] #[]] 64)).alloc (.cells #[.int .i64 0, .int .i64 0, .int .i64 0] 32)) (.cells #[.slice none 0 0] 46); simpa using h)
 have HW1 := Lib.hid hw1
 have HM1 := Lib.hid (HS1.out.cell hm (fun h => h))
 have hn1 := blk_lt HA2.out
 have hsz := HS1.out.size
 have HRD := Lib.hid (pread_any s 27 [.pointer (some ⟨w.heap.size, 0, none⟩), .pointer (some ⟨w.heap.size + 1 + 1, 0, none⟩)] (w.heap.size + 1 + 1) (fun l => itemsR fuelN l 0 0 []) (progOut (w.heap.size + 1 + 1)) w1 m HM1.out (blk_lt HA2.out) enters_whole_prog (fun l hl => (prog_gd hl).ne)
  (fun X Y Z a h1 h2 h3 => by
   obtain ⟨cs, c1, c2⟩ := h3
   exact ⟨cs, h2.keep c1 (fun e => by have := blk_lt HA2.out; omega), progAt_step h2 (fun q hq e => by omega) c2⟩)
  (fun R X hlx hl h hrb hra hs => whole1_prog R _ _ _ X h (blk_cell (hs.keep HA0.out (fun h => h)) 0 _ rfl) (hs.keep HA2.out (fun h => h)) (by omega) (by have := blk_lt HA2.out; omega) (fun g o p e e2 => by have := hra g o p e; have := blk_lt HA2.out; omega) ((prog_gd hlx).ne) (fun X hX => items_any fuelN (fun f' hf => (exOk_all f' (Nat.le_trans hf (by decide))).block) (fun f' _ => (typ_all f').1) R X 0 0 hl hX (by decide) ((prog_gd hlx).ne))))
 obtain ⟨r, hr⟩ : ∃ r, r = progF s.data.toList := ⟨_, rfl⟩
 have hrd : r = outR s.data.toList (fun l => itemsR fuelN l 0 0 []) := hr
 have HC0 : Hid (∀ c ln col, r = .error (c, ln, col) → c ≠ 0) := by
  show ∀ c ln col, _
  intro c ln col e
  rw [hr] at e
  exact outR_err (fun l c ln col hl he => (prog_gd hl).code he) e
 rw [← hrd] at HRD
 rw [← hr]
 clear hm hw1 hr hrd
 go_enter Try.func16, Try.ntmps16
 go_upto_region 2 with fail
 rw [← HW1.out]
 go_wp2_with fail
 refine HRD.out.mono ?_
 rintro e w2 hp
 cases r with
 | error q =>
  obtain ⟨c, ln, col⟩ := q
  obtain ⟨rfl, h2⟩ : e = .returned (.agg #[.int .i64 c, .int .i64 ln, .int .i64 col]) ∧ Step (· = w.heap.size + 1 + 1) w1 w2 := hp
  have hc0 := HC0.out c ln col rfl
  have bc : ((c : Int) == 0) = false := by rw [beq_eq_false_iff_ne]; omega
  obtain ⟨w3, hw3⟩ : ∃ w3 : World, w3 = w2.alloc (.cells #[.int .i64 c, .int .i64 ln, .int .i64 col] 32) := ⟨_, rfl⟩
  have HS3 : Hid (Step (· = w.heap.size + 1 + 1) w1 w3) := by show Step _ _ _; rw [hw3]; exact h2.alloc _
  have HE3 : Hid (w3.heap[w2.heap.size]? = some (.cells #[.int .i64 c, .int .i64 ln, .int .i64 col] 32 (0, 0))) := by show _ = _; rw [hw3]; exact blk_new _ _
  have HW3 := Lib.hid hw3
  have HER := Lib.hid (HS3.out.keep HA1.out (by omega))
  obtain ⟨be, hbe⟩ : ∃ be, be = w2.heap.size := ⟨_, rfl⟩
  have hbe1 : w1.heap.size ≤ be := by rw [hbe]; exact h2.size
  rw [← hbe] at HE3
  obtain ⟨⟨g0, g1, g2⟩, -⟩ := blk3 HE3.out
  have HS03 : Hid (Step (fun _ => False) w w3) := HS1.out.then HS3.out (fun q hq e => by omega)
  clear hc0 h2 hw3
  go_upto_region 3 with fail
  rw [← HW3.out, ← hbe]
  clear hbe
  go_upto_region 4 with fail
  clear g0 g1 g2
  obtain ⟨Jx, hJx⟩ : ∃ Jx : (Nat → Bool) → (Nat → Value) → World → Prop, Jx = fun L V X => (L 0 = true → V 0 = .slice none 0 0) ∧ (L 1 = true → V 1 = .agg #[.int .i64 c, .int .i64 ln, .int .i64 col]) ∧ (L 2 = true → V 2 = .slice none 0 0) ∧ X.heap[be]? = some (.cells #[.int .i64 c, .int .i64 ln, .int .i64 col] 32 (0, 0)) ∧ X.heap[w.heap.size + 1]? = some (.cells (cond (L 3) #[.int .i64 c, .int .i64 ln, .int .i64 col] #[.int .i64 0, .int .i64 0, .int .i64 0]) 32 (0, 0)) ∧ Step (fun _ => False) w X := ⟨_, rfl⟩
  have HJX := Lib.hid hJx
  clear hJx
  refine wp_region_relyD (by kernel_rfl) Jx 4 rfl (by kernel_rfl) (by kernel_rfl) (by kernel_rfl) (by kernel_rfl) ?h0 ?hs ?hdone
  case h0 =>
   rw [HJX.out]
   exact ⟨(fun h => nomatch h), (fun h => nomatch h), (fun h => nomatch h), blk_drew HE3.out, blk_drew HER.out, HS03.out.drew⟩
  case hs =>
   refine ⟨?_, ?_, ?_, ?_, trivial⟩
   ·intro L V X a ev evo hdf hL hdep hJ
    rw [HJX.out] at hJ
    obtain ⟨j0, j1, j2, j4, j5, j6⟩ := hJ
    have o7 := evo 7 rfl
    change a.tmps[7]?.getD undef = .slice none 0 0 at o7
    go_simp
    exact ⟨_, rfl, by rw [HJX.out]; exact ⟨fun _ => rfl, j1, j2, j4, j5, j6⟩⟩
   ·intro L V X a ev evo hdf hL hdep hJ
    rw [HJX.out] at hJ
    obtain ⟨j0, j1, j2, j4, j5, j6⟩ := hJ
    have o8 := evo 8 rfl
    change a.tmps[8]?.getD undef = .pointer (some ⟨be, 0, none⟩) at o8
    refine wp_load_mid 32 (.tmp 8) rfl be 0 (by rw [evalTmp]; exact o8) [Value.int .i64 c, .int .i64 ln, .int .i64 col] _ (fun jj v hv => by rw [Nat.zero_add]; exact blk_cell j4 jj v (by simpa using hv)) Try.underlying32 rfl Try.sizeErr ?_
    exact ⟨_, rfl, by rw [HJX.out]; exact ⟨j0, fun _ => rfl, j2, j4, j5, j6⟩⟩
   ·intro L V X a ev evo hdf hL hdep hJ
    rw [HJX.out] at hJ
    obtain ⟨j0, j1, j2, j4, j5, j6⟩ := hJ
    have e15 := (ev 0 15 rfl (hdep 0 rfl)).trans (j0 (hdep 0 rfl))
    go_simp
    exact ⟨_, rfl, by rw [HJX.out]; exact ⟨j0, j1, fun _ => rfl, j4, j5, j6⟩⟩
   ·intro L V X a ev evo hdf hL hdep hJ
    rw [HJX.out] at hJ
    obtain ⟨j0, j1, j2, j4, j5, j6⟩ := hJ
    rw [hL] at j5
    have o5 := evo 5 rfl
    change a.tmps[5]?.getD undef = .pointer (some ⟨w.heap.size + 1, 0, none⟩) at o5
    have e16 := (ev 1 16 rfl (hdep 1 rfl)).trans (j1 (hdep 1 rfl))
    refine wp_store_part 32 (.tmp 5) (.tmp 16) rfl (w.heap.size + 1) 0 32 _ [.int .i64 c, .int .i64 ln, .int .i64 col] (by rw [evalTmp]; exact o5) (by rw [evalTmp]; exact e16) j5 Try.sizeErr (Nat.le_of_eq rfl) (oneCells rfl) ?_
    intro w9 hb9 hs9
    exact ⟨undef, rfl, by rw [HJX.out]; exact ⟨j0, j1, j2, hs9.keep j4 (by omega), hb9, j6.then hs9 (fun q hq e => by omega)⟩⟩
  case hdone =>
   intro L V X hall hJ
   rw [HJX.out] at hJ
   obtain ⟨j0, j1, j2, j4, j5, j6⟩ := hJ
   rw [hall 3 (by decide)] at j5
   have h2v := j2 (hall 2 (by decide))
   have HD5 : Hid (X.heap[w.heap.size + 1]? = some (.cells [Value.int .i64 c, .int .i64 ln, .int .i64 col].toArray 32 (0, 0))) := j5
   have HD6 := Lib.hid j6
   rw [show List.range 4 = [0, 1, 2, 3] from rfl]
   simp only [putF, dstO, List.getElem?_toArray, List.getElem?_cons_zero, List.getElem?_cons_succ, Option.bind_some, Act.put, List.setIfInBounds_toArray, List.set_cons_zero, List.set_cons_succ, h2v]
   clear hall j0 j1 j2 j4 j5 j6 h2v
   go_wp2_with fail
   refine bodyPost_ret (results_slot rfl _ (w.heap.size + 1) 32 (.slice none 0 0) [Value.int .i64 c, .int .i64 ln, .int .i64 col] _ rfl rfl HD5.out Try.underlying32 rfl Try.sizeErr) rfl ?_
   exact ⟨rfl, HD6.out⟩
 | ok y =>
  obtain ⟨rfl, ⟨X0, hX0, hleft⟩, h2⟩ : e = .returned (.agg #[.int .i64 0, .int .i64 0, .int .i64 0]) ∧ (∃ X : World, w1.heap.size ≤ X.heap.size ∧ progOut (w.heap.size + 1 + 1) X w2 y) ∧ Step (· = w.heap.size + 1 + 1) w1 w2 := hp
  obtain ⟨w3, hw3⟩ : ∃ w3 : World, w3 = w2.alloc (.cells #[.int .i64 0, .int .i64 0, .int .i64 0] 32) := ⟨_, rfl⟩
  have HS23 : Hid (Step (fun _ => False) w2 w3) := by show Step _ _ _; rw [hw3]; exact (Step.refl _ _).alloc _
  have HS3 : Hid (Step (· = w.heap.size + 1 + 1) w1 w3) := by show Step _ _ _; rw [hw3]; exact h2.alloc _
  have HE3 : Hid (w3.heap[w2.heap.size]? = some (.cells #[.int .i64 0, .int .i64 0, .int .i64 0] 32 (0, 0))) := by show _ = _; rw [hw3]; exact blk_new _ _
  have HW3 := Lib.hid hw3
  have HER := Lib.hid (HS3.out.keep HA1.out (by omega))
  obtain ⟨be, hbe⟩ : ∃ be, be = w2.heap.size := ⟨_, rfl⟩
  rw [← hbe] at HE3
  obtain ⟨⟨g0, g1, g2⟩, -⟩ := blk3 HE3.out
  have HS03 : Hid (Step (fun _ => False) w w3) := HS1.out.then HS3.out (fun q hq e => by omega)
  clear h2 hw3
  obtain ⟨cs, hcb, v, rfl, hat⟩ := hleft
  obtain ⟨va, vc, rfl⟩ := LsQ.parts hat
  have HAT := Lib.hid ((lsQ_ok itP_ok).step _ _ HS23.out (fun _ _ h => h) hat)
  have HCB := Lib.hid (HS23.out.keep hcb (fun h => h))
  clear hat hcb
  go_upto_region 3 with fail
  rw [← HW3.out, ← hbe]
  clear hbe
  go_upto_region 5 with fail
  clear g0 g1 g2
  have q0 := blk_cell HCB.out 0 _ rfl
  go_wp2_with (refine wpList_store_part (w := w3) rfl 32 (.tmp 5) (.tmp 18) rfl (w.heap.size + 1) 0 32 _ [Value.int .i64 0, .int .i64 0, .int .i64 0] rfl rfl HER.out Try.sizeErr (Nat.le_of_eq rfl) (oneCells rfl) ?_
               intro w5 hb5 hst5)
  have hb5' : w5.heap[w.heap.size + 1]? = some (.cells [Value.int .i64 0, .int .i64 0, .int .i64 0].toArray 32 (0, 0)) := hb5
  refine bodyPost_ret (results_slot rfl _ (w.heap.size + 1) 32 (.slice va y.length vc) [Value.int .i64 0, .int .i64 0, .int .i64 0] _ rfl rfl hb5' Try.underlying32 rfl Try.sizeErr) rfl ?_
  exact ⟨⟨_, rfl, (lsQ_ok itP_ok).mono _ _ (fun q _ hq => by omega) ((lsQ_ok itP_ok).step _ _ hst5 (fun q hq e => by omega) HAT.out)⟩, HS03.out.then hst5 (fun q hq e => by omega)⟩
theorem expr_text (s : ByteArray) (w : World) (m : Int) (hm : w.cell? ⟨0, 0, none⟩ = some (.int .i64 m)) : Calls Try.prog 4 #[.string s] w (exprTup (exprF s.data.toList) w) := by
 obtain ⟨w1, hw1⟩ : ∃ w1 : World, w1 = (w.alloc (.cells #[.int .i64 0, .string ⟨#[]⟩, .int .u64 0, .bool false, .slice none 0 0, .slice none 0 0, .slice none 0 0, .int .i64 0, .int .i64 0] 29)).alloc (.cells #[.int .i64 0, .int .i64 0, .int .i64 0] 32) := ⟨_, rfl⟩
 have HS1 : Hid (Step (fun _ => False) w w1) := by show Step _ _ _; rw [hw1]; exact ((Step.refl _ _).alloc _).alloc _
 have HP1 : Hid (w1.heap[w.heap.size]? = some (.cells #[.int .i64 0, .string ⟨#[]⟩, .int .u64 0, .bool false, .slice none 0 0, .slice none 0 0, .slice none 0 0, .int .i64 0, .int .i64 0] 29 (0, 0))) := by show _ = _; rw [hw1]; exact blk_alloc (blk_new _ _)
 have HN1 : Hid (w1.heap[w.heap.size + 1]? = some (.cells #[.int .i64 0, .int .i64 0, .int .i64 0] 32 (0, 0))) := by show _ = _; rw [hw1]; exact blk_new2 _ _ _
 have HW1 := Lib.hid hw1
 have HRD := Lib.hid (whole_expr s w1 m (HS1.out.cell hm (fun h => h)))
 have hn1 := blk_lt HN1.out
 have hsz := HS1.out.size
 obtain ⟨r, hr⟩ : ∃ r, r = exprF s.data.toList := ⟨_, rfl⟩
 rw [← hr] at HRD ⊢
 clear hm hw1 hr
 go_enter Try.func4, Try.ntmps4
 go_upto_region 1 with fail
 rw [← HW1.out]
 go_wp2_with fail
 refine HRD.out.mono ?_
 rintro e w2 ⟨hp, h2⟩
 have HS2 := Lib.hid h2
 have HRS := Lib.hid (h2.keep HP1.out (fun h => h))
 have HER := Lib.hid (h2.keep HN1.out (fun h => h))
 have hz2 := h2.size
 cases r with
 | error q =>
  obtain ⟨c, ln, col⟩ := q
  have hp2 : e = .returned (.tuple #[.agg #[.int .i64 0, .string ⟨#[]⟩, .int .u64 0, .bool false, .slice none 0 0, .slice none 0 0, .slice none 0 0, .int .i64 0, .int .i64 0], .agg #[.int .i64 c, .int .i64 ln, .int .i64 col]]) := hp
  subst hp2
  clear hp h2
  go_wp2_with (first
   | (refine wpList_store_part (w := w2) rfl 29 (.tmp 2) (.tmp 6) rfl (w.heap.size) 0 29 _ [.int .i64 0, .string ⟨#[]⟩, .int .u64 0, .bool false, .slice none 0 0, .slice none 0 0, .slice none 0 0, .int .i64 0, .int .i64 0] rfl rfl HRS.out Try.sizeExpr (Nat.le_of_eq rfl) (oneCells rfl) ?_
      intro w4 hb4 hst4
      have her4 := hst4.keep HER.out (by omega))
   | (refine wpList_store_part (w := w4) rfl 32 (.tmp 3) (.tmp 7) rfl (w.heap.size + 1) 0 32 _ [.int .i64 c, .int .i64 ln, .int .i64 col] rfl rfl her4 Try.sizeErr (Nat.le_of_eq rfl) (oneCells rfl) ?_
      intro w5 hb5 hst5))
  have hb4' : w5.heap[w.heap.size]? = some (.cells [Value.int .i64 0, .string ⟨#[]⟩, .int .u64 0, .bool false, .slice none 0 0, .slice none 0 0, .slice none 0 0, .int .i64 0, .int .i64 0].toArray 29 (0, 0)) := hst5.keep hb4 (by omega)
  have hb5' : w5.heap[w.heap.size + 1]? = some (.cells [Value.int .i64 c, .int .i64 ln, .int .i64 col].toArray 32 (0, 0)) := hb5
  refine bodyPost_ret (results_two rfl _ (w.heap.size) (w.heap.size + 1) 29 32 [Value.int .i64 0, .string ⟨#[]⟩, .int .u64 0, .bool false, .slice none 0 0, .slice none 0 0, .slice none 0 0, .int .i64 0, .int .i64 0] [Value.int .i64 c, .int .i64 ln, .int .i64 col] _ _ rfl rfl hb4' Try.underlying29 rfl Try.sizeExpr hb5' Try.underlying32 rfl Try.sizeErr) rfl ?_
  exact ⟨rfl, ((HS1.out.trans HS2.out).then hst4 (fun q hq e => by omega)).then hst5 (fun q hq e => by omega)⟩
 | ok x =>
  obtain ⟨v, rfl, cs, rfl, hy⟩ : ∃ v, e = .returned (.tuple #[v, .agg #[.int .i64 0, .int .i64 0, .int .i64 0]]) ∧ ExQ w2 (fun q => w1.heap.size ≤ q) x v := hp
  obtain ⟨k0, nm0, v0, mu0, a1, n1, c1, a2, n2, c2, a3, n3, c3, l0, c0, rfl⟩ := hy.parts
  have HY := Lib.hid hy
  clear hy h2
  go_wp2_with (first
   | (refine wpList_store_part (w := w2) rfl 29 (.tmp 2) (.tmp 6) rfl (w.heap.size) 0 29 _ [.int .i64 k0, .string nm0, .int .u64 v0, .bool mu0, .slice a1 n1 c1, .slice a2 n2 c2, .slice a3 n3 c3, .int .i64 l0, .int .i64 c0] rfl rfl HRS.out Try.sizeExpr (Nat.le_of_eq rfl) (oneCells rfl) ?_
      intro w4 hb4 hst4
      have her4 := hst4.keep HER.out (by omega))
   | (refine wpList_store_part (w := w4) rfl 32 (.tmp 3) (.tmp 7) rfl (w.heap.size + 1) 0 32 _ [.int .i64 0, .int .i64 0, .int .i64 0] rfl rfl her4 Try.sizeErr (Nat.le_of_eq rfl) (oneCells rfl) ?_
      intro w5 hb5 hst5))
  have hb4' : w5.heap[w.heap.size]? = some (.cells [Value.int .i64 k0, .string nm0, .int .u64 v0, .bool mu0, .slice a1 n1 c1, .slice a2 n2 c2, .slice a3 n3 c3, .int .i64 l0, .int .i64 c0].toArray 29 (0, 0)) := hst5.keep hb4 (by omega)
  have hb5' : w5.heap[w.heap.size + 1]? = some (.cells [Value.int .i64 0, .int .i64 0, .int .i64 0].toArray 32 (0, 0)) := hb5
  refine bodyPost_ret (results_two rfl _ (w.heap.size) (w.heap.size + 1) 29 32 [Value.int .i64 k0, .string nm0, .int .u64 v0, .bool mu0, .slice a1 n1 c1, .slice a2 n2 c2, .slice a3 n3 c3, .int .i64 l0, .int .i64 c0] [Value.int .i64 0, .int .i64 0, .int .i64 0] _ _ rfl rfl hb4' Try.underlying29 rfl Try.sizeExpr hb5' Try.underlying32 rfl Try.sizeErr) rfl ?_
  exact ⟨⟨_, rfl, _, rfl, ExP.mono (fun q _ hq => by omega) _ _ (ExP.step hst5 (fun q hq e => by omega) _ _ (ExP.step hst4 (fun q hq e => by omega) _ _ HY.out))⟩, ((HS1.out.trans HS2.out).then hst4 (fun q hq e => by omega)).then hst5 (fun q hq e => by omega)⟩
theorem prog_text (s : ByteArray) (w : World) (m : Int) (hm : w.cell? ⟨0, 0, none⟩ = some (.int .i64 m)) : Calls Try.prog 11 #[.string s] w (progTup (progF s.data.toList) w) := by
 obtain ⟨w1, hw1⟩ : ∃ w1 : World, w1 = w.alloc (.cells #[.int .i64 0, .int .i64 0, .int .i64 0] 32) := ⟨_, rfl⟩
 have HS1 : Hid (Step (fun _ => False) w w1) := by show Step _ _ _; rw [hw1]; exact (Step.refl _ _).alloc _
 have HN1 : Hid (w1.heap[w.heap.size]? = some (.cells #[.int .i64 0, .int .i64 0, .int .i64 0] 32 (0, 0))) := by show _ = _; rw [hw1]; exact blk_new _ _
 have HW1 := Lib.hid hw1
 have HRD := Lib.hid (whole_prog s w1 m (HS1.out.cell hm (fun h => h)))
 have hn1 := blk_lt HN1.out
 have hsz := HS1.out.size
 obtain ⟨r, hr⟩ : ∃ r, r = progF s.data.toList := ⟨_, rfl⟩
 rw [← hr] at HRD ⊢
 clear hm hw1 hr
 go_enter Try.func11, Try.ntmps11
 go_upto_region 1 with fail
 rw [← HW1.out]
 go_wp2_with fail
 refine HRD.out.mono ?_
 rintro e w2 ⟨hp, h2⟩
 have HS2 := Lib.hid h2
 have HER := Lib.hid (h2.keep HN1.out (fun h => h))
 have hz2 := h2.size
 cases r with
 | error q =>
  obtain ⟨c, ln, col⟩ := q
  have hp2 : e = .returned (.tuple #[.slice none 0 0, .agg #[.int .i64 c, .int .i64 ln, .int .i64 col]]) := hp
  subst hp2
  clear hp h2
  go_wp2_with (refine wpList_store_part (w := w2) rfl 32 (.tmp 3) (.tmp 7) rfl (w.heap.size) 0 32 _ [.int .i64 c, .int .i64 ln, .int .i64 col] rfl rfl HER.out Try.sizeErr (Nat.le_of_eq rfl) (oneCells rfl) ?_
               intro w5 hb5 hst5)
  have hb5' : w5.heap[w.heap.size]? = some (.cells [Value.int .i64 c, .int .i64 ln, .int .i64 col].toArray 32 (0, 0)) := hb5
  refine bodyPost_ret (results_slot rfl _ (w.heap.size) 32 (.slice none 0 0) [Value.int .i64 c, .int .i64 ln, .int .i64 col] _ rfl rfl hb5' Try.underlying32 rfl Try.sizeErr) rfl ?_
  exact ⟨rfl, (HS1.out.trans HS2.out).then hst5 (fun q hq e => by omega)⟩
 | ok x =>
  obtain ⟨v, rfl, hy⟩ : ∃ v, e = .returned (.tuple #[v, .agg #[.int .i64 0, .int .i64 0, .int .i64 0]]) ∧ LsQ ItP w2 (fun q => w1.heap.size ≤ q) x v := hp
  obtain ⟨va, vc, rfl⟩ := LsQ.parts hy
  have HY := Lib.hid hy
  clear hy h2
  go_wp2_with (refine wpList_store_part (w := w2) rfl 32 (.tmp 3) (.tmp 7) rfl (w.heap.size) 0 32 _ [.int .i64 0, .int .i64 0, .int .i64 0] rfl rfl HER.out Try.sizeErr (Nat.le_of_eq rfl) (oneCells rfl) ?_
               intro w5 hb5 hst5)
  have hb5' : w5.heap[w.heap.size]? = some (.cells [Value.int .i64 0, .int .i64 0, .int .i64 0].toArray 32 (0, 0)) := hb5
  refine bodyPost_ret (results_slot rfl _ (w.heap.size) 32 (.slice va x.length vc) [Value.int .i64 0, .int .i64 0, .int .i64 0] _ rfl rfl hb5' Try.underlying32 rfl Try.sizeErr) rfl ?_
  exact ⟨⟨_, rfl, (lsQ_ok itP_ok).mono _ _ (fun q _ hq => by omega) ((lsQ_ok itP_ok).step _ _ hst5 (fun q hq e => by omega) HY.out)⟩, (HS1.out.trans HS2.out).then hst5 (fun q hq e => by omega)⟩
end Go.Proofs.Ytppekkbaoimpgaa
