/- Contracts of package live: Used, Lost. -/
import Derived.Test.YtilipeigjkmldaaLiveA
namespace Go.Proofs.Ytilipeigjkmldaa
open Go.RowKit

set_option maxRecDepth 100000 in
set_option maxHeartbeats 1000000 in
theorem used_any (B g : Nat) (b : Bod) (i : Nat) (n : Int) (w : World) (h : BodP w B g b) (hi : i < b.code.length) (hs : BodSmall b) (hB : B ≤ w.heap.size) :
    Calls Try.prog 18 #[.pointer (some ⟨g, 0, none⟩), .int .i64 i, .int .i64 n] w (IsBool ((accB b i).any (fun a => a.pl.loc == n && usesA a)) w) := by
  have HACC := Lib.hid (acc_any B g b i w h hi hs hB)
  clear h hi hs
  go_enter Try.func18, Try.ntmps18
  go_wp2_with fail
  refine HACC.out.mono ?_
  rintro e w1 ⟨⟨v, xs, rfl, hxs, hr⟩, h1⟩
  have HXS := Lib.hid hxs
  obtain ⟨ar, cr, rfl, hcl, hcm, -, hrr⟩ := hr
  have HRR := Lib.hid hrr
  clear hxs hrr
  obtain ⟨l, hl⟩ : ∃ l, l = accB b i := ⟨_, rfl⟩
  have HL := Lib.hid hl
  rw [← hl] at HXS HRR
  rw [← hl] at hcl
  rw [← hl]
  clear hl
  go_wp2_with fail
  go_loopg [8, 13] l.length (fun gg _ s13 wr => ∃ k : Nat, s13 = .int .i64 k ∧ k ≤ l.length ∧ l.length - k ≤ gg ∧ ((l.take k).any (fun a => a.pl.loc == n && usesA a)) = false ∧ Step (fun _ => False) w1 wr)
  case atStart => exact ⟨0, rfl, Nat.zero_le _, by omega, rfl, Step.refl _ _⟩
  case round =>
    obtain ⟨k, rfl, hk, hgg, hno, hst⟩ := hrel
    have HNO := Lib.hid hno
    clear hno
    by_cases hlt : k < l.length
    · obtain ⟨a, ha⟩ : ∃ a, l[k]? = some a := ⟨l[k], List.getElem?_eq_getElem hlt⟩
      obtain ⟨g2, o2, rfl, -, -, hcell⟩ := HRR.out (by omega)
      obtain ⟨cs, hat, f⟩ := Each.cells 3 AcAt.len (Each.mono (AcAt.step hst (fun _ _ h => h)) _ _ HXS.out) ha (fun i x hx => hst.cell (hcell i x hx) (fun h => h))
      have HAT := Lib.hid hat
      have HTK : Hid (l.take (k + 1) = l.take k ++ [a]) := by
        show _ = _
        obtain ⟨hk', rfl⟩ := List.getElem?_eq_some_iff.1 ha
        rw [List.take_succ_eq_append_getElem hk']
      have HMEM := Lib.hid (List.mem_of_getElem? ha)
      obtain ⟨va, rfl, ⟨ax, cx, rfl, -⟩⟩ := hat
      have f0 := f 0 _ rfl
      have f1 := f 1 _ rfl
      have f2 := f 2 _ rfl
      rw [Nat.add_zero] at f0
      have STA : Step (fun _ => False) wr (wr.alloc (.cells #[.int .i64 a.pl.loc, .slice ax a.pl.path.length cx, .int .i64 a.kind] 90)) := (Step.refl _ _).alloc _
      have HNX : Hid ((a.pl.loc == n && usesA a) = false → ((l.take (k + 1)).any (fun a => a.pl.loc == n && usesA a)) = false) := fun hp => by rw [HTK.out, List.any_append, HNO.out, List.any_cons, hp]; rfl
      have HYES : Hid ((a.pl.loc == n && usesA a) = true → (l.any (fun a => a.pl.loc == n && usesA a)) = true) := fun hp => List.any_eq_true.2 ⟨a, HMEM.out, hp⟩
      clear f hcell ha
      by_cases hn : a.pl.loc = n
      · have en : (a.pl.loc == n) = true := by simpa using hn
        have EN := Lib.hid en
        clear hn
        go_wp2_with fail
        refine (uses_any B a _ _ (AcAt.step STA (fun _ _ h => h) _ _ HAT.out)).mono ?_
        rintro e w2 ⟨rfl, h2⟩
        have ST2 := hst.trans (STA.trans h2)
        cases hu : usesA a with
        | true =>
          have HV := Lib.hid (HYES.out (by rw [EN.out, hu]; rfl))
          clear hu f0 f1 f2
          go_wp2
          go_ret
          exact ⟨ret_bool (by rw [← HL.out]; exact HV.out.symm), h1.trans ST2⟩
        | false =>
          have HV := Lib.hid (HNX.out (by rw [hu]; simp))
          clear hu f0 f1 f2
          go_wp2
          go_roundg (gk - 1)
          case rel => exact ⟨k + 1, by go_num, by omega, by omega, HV.out, ST2⟩
          case measure => omega
      · have en : (a.pl.loc == n) = false := by simpa using hn
        have HV := Lib.hid (HNX.out (by rw [en]; rfl))
        have ST2 := hst.trans STA
        clear hn
        go_wp2
        go_roundg (gk - 1)
        case rel => exact ⟨k + 1, by go_num, by omega, by omega, HV.out, ST2⟩
        case measure => omega
    · have HV : Hid ((l.any (fun a => a.pl.loc == n && usesA a)) = false) := by have := HNO.out; rw [List.take_of_length_le (by omega)] at this; exact this
      go_wp2
      go_ret
      exact ⟨ret_bool (by rw [← HL.out]; exact HV.out.symm), h1.trans hst⟩

set_option maxRecDepth 100000 in
set_option maxHeartbeats 1000000 in
theorem lost_any (B g : Nat) (b : Bod) (i : Nat) (n : Int) (w : World) (h : BodP w B g b) (hi : i < b.code.length) (hs : BodSmall b) (hB : B ≤ w.heap.size) :
    Calls Try.prog 19 #[.pointer (some ⟨g, 0, none⟩), .int .i64 i, .int .i64 n] w (IsBool ((accB b i).any (fun a => a.pl.loc == n && !usesA a)) w) := by
  have HACC := Lib.hid (acc_any B g b i w h hi hs hB)
  clear h hi hs
  go_enter Try.func19, Try.ntmps19
  go_wp2_with fail
  refine HACC.out.mono ?_
  rintro e w1 ⟨⟨v, xs, rfl, hxs, hr⟩, h1⟩
  have HXS := Lib.hid hxs
  obtain ⟨ar, cr, rfl, hcl, hcm, -, hrr⟩ := hr
  have HRR := Lib.hid hrr
  clear hxs hrr
  obtain ⟨l, hl⟩ : ∃ l, l = accB b i := ⟨_, rfl⟩
  have HL := Lib.hid hl
  rw [← hl] at HXS HRR
  rw [← hl] at hcl
  rw [← hl]
  clear hl
  go_wp2_with fail
  go_loopg [8, 13] l.length (fun gg _ s13 wr => ∃ k : Nat, s13 = .int .i64 k ∧ k ≤ l.length ∧ l.length - k ≤ gg ∧ ((l.take k).any (fun a => a.pl.loc == n && !usesA a)) = false ∧ Step (fun _ => False) w1 wr)
  case atStart => exact ⟨0, rfl, Nat.zero_le _, by omega, rfl, Step.refl _ _⟩
  case round =>
    obtain ⟨k, rfl, hk, hgg, hno, hst⟩ := hrel
    have HNO := Lib.hid hno
    clear hno
    by_cases hlt : k < l.length
    · obtain ⟨a, ha⟩ : ∃ a, l[k]? = some a := ⟨l[k], List.getElem?_eq_getElem hlt⟩
      obtain ⟨g2, o2, rfl, -, -, hcell⟩ := HRR.out (by omega)
      obtain ⟨cs, hat, f⟩ := Each.cells 3 AcAt.len (Each.mono (AcAt.step hst (fun _ _ h => h)) _ _ HXS.out) ha (fun i x hx => hst.cell (hcell i x hx) (fun h => h))
      have HAT := Lib.hid hat
      have HTK : Hid (l.take (k + 1) = l.take k ++ [a]) := by
        show _ = _
        obtain ⟨hk', rfl⟩ := List.getElem?_eq_some_iff.1 ha
        rw [List.take_succ_eq_append_getElem hk']
      have HMEM := Lib.hid (List.mem_of_getElem? ha)
      obtain ⟨va, rfl, ⟨ax, cx, rfl, -⟩⟩ := hat
      have f0 := f 0 _ rfl
      have f1 := f 1 _ rfl
      have f2 := f 2 _ rfl
      rw [Nat.add_zero] at f0
      have STA : Step (fun _ => False) wr (wr.alloc (.cells #[.int .i64 a.pl.loc, .slice ax a.pl.path.length cx, .int .i64 a.kind] 90)) := (Step.refl _ _).alloc _
      have HNX : Hid ((a.pl.loc == n && !usesA a) = false → ((l.take (k + 1)).any (fun a => a.pl.loc == n && !usesA a)) = false) := fun hp => by rw [HTK.out, List.any_append, HNO.out, List.any_cons, hp]; rfl
      have HYES : Hid ((a.pl.loc == n && !usesA a) = true → (l.any (fun a => a.pl.loc == n && !usesA a)) = true) := fun hp => List.any_eq_true.2 ⟨a, HMEM.out, hp⟩
      clear f hcell ha
      by_cases hn : a.pl.loc = n
      · have en : (a.pl.loc == n) = true := by simpa using hn
        have EN := Lib.hid en
        clear hn
        go_wp2_with fail
        refine (uses_any B a _ _ (AcAt.step STA (fun _ _ h => h) _ _ HAT.out)).mono ?_
        rintro e w2 ⟨rfl, h2⟩
        have ST2 := hst.trans (STA.trans h2)
        cases hu : usesA a with
        | false =>
          have HV := Lib.hid (HYES.out (by rw [EN.out, hu]; rfl))
          clear hu f0 f1 f2
          go_wp2
          go_ret
          exact ⟨ret_bool (by rw [← HL.out]; exact HV.out.symm), h1.trans ST2⟩
        | true =>
          have HV := Lib.hid (HNX.out (by rw [hu]; simp))
          clear hu f0 f1 f2
          go_wp2
          go_roundg (gk - 1)
          case rel => exact ⟨k + 1, by go_num, by omega, by omega, HV.out, ST2⟩
          case measure => omega
      · have en : (a.pl.loc == n) = false := by simpa using hn
        have HV := Lib.hid (HNX.out (by rw [en]; rfl))
        have ST2 := hst.trans STA
        clear hn
        go_wp2
        go_roundg (gk - 1)
        case rel => exact ⟨k + 1, by go_num, by omega, by omega, HV.out, ST2⟩
        case measure => omega
    · have HV : Hid ((l.any (fun a => a.pl.loc == n && !usesA a)) = false) := by have := HNO.out; rw [List.take_of_length_le (by omega)] at this; exact this
      go_wp2
      go_ret
      exact ⟨ret_bool (by rw [← HL.out]; exact HV.out.symm), h1.trans hst⟩

end Go.Proofs.Ytilipeigjkmldaa
