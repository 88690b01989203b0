/-
  LockFull: the walk of the law.
-/
import Derived.Test.YtjanjjkgnilhoaaDoorLkAlive
namespace Go.Proofs.YtjanjjkgnilhoaaDoor
open Go.RowKit Go.Maps

/-- The first n places, each a lock of its own. -/
def fl (n : Nat) : List LV := (List.range n).map fun i => ⟨4, ⟨#[]⟩, i, i⟩
theorem fl_len (n : Nat) : (fl n).length = n := by simp [fl]
theorem fl_succ (n : Nat) : fl (n + 1) = fl n ++ [⟨4, ⟨#[]⟩, n, n⟩] := by simp [fl, List.range_succ]
theorem fl_mem {n : Nat} {y : LV} (h : y ∈ fl n) : ∃ i, i < n ∧ y = ⟨4, ⟨#[]⟩, i, i⟩ := by
  unfold fl at h
  obtain ⟨i, hi, rfl⟩ := List.mem_map.1 h
  exact ⟨i, List.mem_range.1 hi, rfl⟩
theorem fl_ok (n : Nat) (hn : n ≤ 5000) : ∀ y ∈ fl n, okL y := fun y hy => by
  obtain ⟨i, hi, rfl⟩ := fl_mem hy
  exact ⟨(show 4 < 256 by decide), (show i < 18446744073709551616 by omega), (show i < 18446744073709551616 by omega)⟩
theorem fl_may (n : Nat) : ∀ y ∈ fl n, Lk.may y.l = true := fun y hy => by
  obtain ⟨i, _, rfl⟩ := fl_mem hy
  simp [Lk.may, LV.l]
theorem fl_add : ∀ n, Lh.add [] (fl n) = fl n
  | 0 => rfl
  | n + 1 => by
    rw [fl_succ, Lh.add_snoc, fl_add n]
    rw [if_neg]
    intro h
    obtain ⟨i, hi, e⟩ := fl_mem h
    simp at e
    omega
theorem fl_put (t : Tb.Tx) (n : Nat) : Lh.put [] t (fl n) = (fl n).map fun y => (t, y) := by
  unfold Lh.put Lh.news
  rw [Lh.row_nil, fl_add]; simp
theorem fl_take (t : Tb.Tx) (n : Nat) : Lh.take [] t (fl n) = if 4096 < n then (0, 4, []) else (0, 0, (fl n).map fun y => (t, y)) := by
  rw [take_none (fun k hk => fl_may n _ (List.getElem_mem _)) (fun k hk => rfl), fl_put]
  simp [fl_len]

theorem take_nil (W : World) : Calls Tryd.prog 16 #[.pointer none, .agg #[.int .u64 1, .int .u64 1], .slice none 0 0] W fun e w' => e = .returned (.tuple #[.int .i64 0, .int .i64 1]) ∧ Below W.heap.size W w' := by
  have HN := Lib.hid (fun wz => none_nil wz)
  go_enter Tryd.func16, Tryd.ntmps16
  go_wp2_with fail
  refine (HN.out _).mono ?_
  rintro e w1 ⟨rfl, rfl⟩
  go_wp2_with fail
  refine bodyPost_ret (v := .tuple #[.int .i64 0, .int .i64 1]) (by simp [results, Tryd.results16, go_sem]) rfl ⟨rfl, (Below.refl _ W).alloc (Nat.le_refl _) _⟩
theorem drop_nil (W : World) : Calls Tryd.prog 15 #[.pointer none, .agg #[.int .u64 1, .int .u64 1]] W fun e w' => e = .returned (.int .i64 0) ∧ Below W.heap.size W w' := by
  have HN := Lib.hid (fun wz => none_nil wz)
  go_enter Tryd.func15, Tryd.ntmps15
  go_wp2_with fail
  refine (HN.out _).mono ?_
  rintro e w1 ⟨rfl, rfl⟩
  go_wp2_with fail
  refine bodyPost_ret (v := .int .i64 0) (by simp [results, Tryd.results15, go_sem]) rfl ⟨rfl, (Below.refl _ W).alloc (Nat.le_refl _) _⟩
theorem held_nil (W : World) : Calls Tryd.prog 22 #[.pointer none, .agg #[.int .u64 1, .int .u64 1]] W fun e w' => e = .returned (.slice none 0 0) ∧ Below W.heap.size W w' := by
  have HN := Lib.hid (fun wz => none_nil wz)
  go_enter Tryd.func22, Tryd.ntmps22
  go_wp2_with fail
  refine (HN.out _).mono ?_
  rintro e w1 ⟨rfl, rfl⟩
  go_wp2_with fail
  go_ret
  exact ⟨rfl, (Below.refl _ W).alloc (Nat.le_refl _) _⟩
theorem all_nil (W : World) : Calls Tryd.prog 14 #[.pointer none] W fun e w' => e = .returned (.slice none 0 0) ∧ w' = W := by
  have HN := Lib.hid (fun wz => none_nil wz)
  go_enter Tryd.func14, Tryd.ntmps14
  go_wp2_with fail
  refine (HN.out _).mono ?_
  rintro e w1 ⟨rfl, rfl⟩
  go_wp2_with fail
  go_ret
  exact ⟨rfl, rfl⟩
theorem who_nil (W : World) : Calls Tryd.prog 23 #[.pointer none, .agg #[.int .u8 0, .string ⟨#[]⟩, .int .u64 0, .int .u64 0]] W fun e w' => e = .returned (.slice none 0 0) ∧ Below W.heap.size W w' := by
  have HN := Lib.hid (fun wz => none_nil wz)
  go_enter Tryd.func23, Tryd.ntmps23
  go_wp2_with fail
  refine (HN.out _).mono ?_
  rintro e w1 ⟨rfl, rfl⟩
  go_wp2_with fail
  go_ret
  exact ⟨rfl, (Below.refl _ W).alloc (Nat.le_refl _) _⟩

attribute [local go_sem ↓ high] appSem_eq
set_option maxRecDepth 20000 in
set_option maxHeartbeats 8000000 in
theorem full_any (o : Int) (w : World) (hl : Lay w) (ho : -128 ≤ o ∧ o ≤ 127) : Calls Tryd.prog 6 #[.int .i8 o] w fun e w' => e = .returned (.bool true) ∧ Below w.heap.size w w' := by
  have HLY := Lib.hid hl
  have HNEW := Lib.hid (new_any w)
  have HT1 : Hid (∀ wz, Calls Tryd.prog 21 #[.int .u64 1] wz fun e w' => e = .returned (.agg #[.int .u64 1, .int .u64 1]) ∧ Own wz.heap.size wz w') := Lib.hid (tx_any 1)
  obtain ⟨ho1, ho2⟩ := ho
  obtain ⟨m, hm⟩ : ∃ m : Nat, 4096 + o = m := ⟨(4096 + o).toNat, by omega⟩
  have hmI : (0 : Int) ≤ m ∧ (m : Int) ≤ 4223 := by omega
  clear hl
  go_enter Tryd.func6, Tryd.ntmps6
  go_wp2_with fail
  refine HNEW.out.mono ?_
  rintro e w1 ⟨⟨rfl, hlk⟩, hO⟩
  have HO := Lib.hid hO
  have HLK := Lib.hid hlk
  clear hO hlk HNEW
  go_wp2_with fail
  go_loopw [6, 5] (fun vi vx wr => ∃ (i : Nat) (s : Option Addr) (cap : Nat), i ≤ m ∧ vi = .int .i64 i ∧ vx = .slice s i cap ∧ OL w1 wr 24 4 s cap ((fl i).map LV.cells) ∧ Own w1.heap.size w1 wr) (fun vi _ _ => m - (intOf vi).toNat)
  case atStart => exact ⟨0, none, 0, Nat.zero_le _, rfl, rfl, OL.nil _ _ _ _, Own.refl _⟩
  case round =>
    obtain ⟨i, s, cap, hi, rfl, rfl, hOL, hO⟩ := hrel
    have HOL := Lib.hid hOL
    have HO2 := Lib.hid hO
    clear hOL hO
    by_cases hlt : i < m
    · have hiI : (0 : Int) ≤ i ∧ (i : Int) < 4096 + o := by omega
      obtain ⟨s', cap2, W2, hrun0, hOL2, hOw2, _⟩ := lk_push HO2.out HOL.out ⟨4, ⟨#[]⟩, i, i⟩ (by rw [fl_len]; omega)
      rw [fl_len] at hrun0
      have hrun : (appSem #[34, 34] 34 #[.slice s i cap, .slice (some ⟨wr.heap.size, 0, none⟩) 1 1]).run Tryd.prog (wr.alloc (.cells #[.int .u8 4, .string ⟨#[]⟩, .int .u64 i, .int .u64 i] 24 (0, 0))) = .ok (.slice s' (i + 1) cap2) W2 := hrun0
      have HOL2 := Lib.hid hOL2
      have HOW2 := Lib.hid hOw2
      clear hOL2 hOw2 hrun0
      go_wp2_with fail
      go_roundw
      case rel => exact ⟨i + 1, s', cap2, by omega, by go_num, rfl, by rw [fl_succ]; exact HOL2.out, HOW2.out⟩
      case measure => simp [intOf]; omega
    · obtain rfl : i = m := by omega
      have hiI : ¬ (i : Int) < 4096 + o := by omega
      have hlkr := HLK.out.keep HO2.out.below
      have HTK : Hid (∀ wz, Own w1.heap.size w1 wz → RowIs wz 4 s ((fl i).map LV.cells) → Calls Tryd.prog 16 #[.pointer (some ⟨w.heap.size + 1, 0, none⟩), .agg #[.int .u64 1, .int .u64 1], .slice s i cap] wz fun x w' => x = .returned (.tuple #[.int .i64 0, .int .i64 (if 4096 < i then 4 else 0 : Nat)]) ∧ LkAt w' (w.heap.size + 1) w.heap.size (if 4096 < i then [] else (fl i).map fun y => (Al.t 1, y)) 1 ∧ Own w.heap.size w w') := Lib.hid (fun wz hz hr => by
        have h := take_any (HLK.out.keep hz.below) (HLY.out.keep (HO.out.trans hz.below).below) (by decide) (Al.t 1) (al_in 1 (by decide)) s cap (fl i) hr (fl_ok i (by omega)) (by rw [fl_len]; omega)
        rw [fl_take, fl_len] at h
        refine h.mono ?_
        rintro x w' ⟨rfl, h1, h2⟩
        refine ⟨by split <;> rfl, by split at h1 <;> rename_i hh <;> simp only [hh, if_true, if_false] <;> exact h1, (HO.out.trans hz.below).upd h2 (by simp)⟩)
      have HHD : Hid (∀ wz, LkAt wz (w.heap.size + 1) w.heap.size (if 4096 < i then [] else (fl i).map fun y => (Al.t 1, y)) 1 → Calls Tryd.prog 22 #[.pointer (some ⟨w.heap.size + 1, 0, none⟩), .agg #[.int .u64 1, .int .u64 1]] wz fun x w' => (∃ s cap, x = .returned (.slice s (if 4096 < i then 0 else i) cap)) ∧ Below wz.heap.size wz w') := Lib.hid (fun wz hz => by
        have h := held_any hz (Al.t 1) (al_in 1 (by decide))
        refine h.mono ?_
        rintro x w' ⟨⟨s, cap, rfl, _⟩, hb⟩
        refine ⟨⟨s, cap, ?_⟩, hb⟩
        split
        · rfl
        · rw [Lh.row_own, fl_len])
      have HTN := Lib.hid (fun wz => take_nil wz)
      have HDN := Lib.hid (fun wz => drop_nil wz)
      have HHN := Lib.hid (fun wz => held_nil wz)
      have HAN := Lib.hid (fun wz => all_nil wz)
      have HWN := Lib.hid (fun wz => who_nil wz)
      have HAL := Lib.hid (fun wz (hz : Own w.heap.size w wz) => alive_any wz (HLY.out.keep hz.below))
      have HRW := Lib.hid (OL.row HOL.out)
      clear hlkr hlt hi HOL
      by_cases hov : 4096 < i
      · have hoI : ¬ o ≤ 0 := by omega
        have hoJ : (0 : Int) < o := by omega
        have hiJ : (4096 : Int) < i := by omega
        have hz : ((0 : Int) == (i : Int)) = false := by rw [beq_eq_false_iff_ne]; omega
        have hd : decide (o ≤ 0) = false := decide_eq_false (by omega)
        simp only [hov, if_true] at HTK HHD
        clear hov
        go_wp2_with fail
        refine (HT1.out _).mono ?_
        rintro e w2 ⟨rfl, hO3⟩
        have HO3 := Lib.hid (HO2.out.trans hO3.below)
        have HR3 := Lib.hid (HRW.out.keep hO3.below)
        clear hO3
        go_wp2_with fail
        refine (HTK.out _ HO3.out HR3.out).mono ?_
        rintro e w3 ⟨rfl, hl3, hO4⟩
        have HL4 := Lib.hid hl3
        have HO4 := Lib.hid hO4
        clear hl3 hO4 HTK HRW HR3
        go_wp2_with fail
        refine (HT1.out _).mono ?_
        rintro e w4 ⟨rfl, hO5⟩
        replace HL4 := Lib.hid (HL4.out.keep hO5.below)
        replace HO4 := Lib.hid (HO4.out.trans hO5.below)
        clear hO5
        go_wp2_with fail
        refine (HTN.out _).mono ?_
        rintro e w5 ⟨rfl, hb⟩
        replace HL4 := Lib.hid (HL4.out.keep hb)
        replace HO4 := Lib.hid (HO4.out.trans hb)
        clear hb
        go_wp2_with fail
        refine (HT1.out _).mono ?_
        rintro e w6 ⟨rfl, hO5⟩
        replace HL4 := Lib.hid (HL4.out.keep hO5.below)
        replace HO4 := Lib.hid (HO4.out.trans hO5.below)
        clear hO5
        go_wp2_with fail
        refine (HHD.out _ HL4.out).mono ?_
        rintro e w7 ⟨⟨s7, c7, rfl⟩, hb⟩
        replace HO4 := Lib.hid (HO4.out.trans hb)
        clear hb HHD HTN HL4
        go_wp2_with fail
        refine (HT1.out _).mono ?_
        rintro e w8 ⟨rfl, hO5⟩
        replace HO4 := Lib.hid (HO4.out.trans hO5.below)
        clear hO5
        go_wp2_with fail
        refine (HDN.out _).mono ?_
        rintro e w9 ⟨rfl, hb⟩
        replace HO4 := Lib.hid (HO4.out.trans hb)
        clear hb
        go_wp2_with fail
        refine (HT1.out _).mono ?_
        rintro e w10 ⟨rfl, hO5⟩
        replace HO4 := Lib.hid (HO4.out.trans hO5.below)
        clear hO5
        go_wp2_with fail
        refine (HHN.out _).mono ?_
        rintro e w11 ⟨rfl, hb⟩
        replace HO4 := Lib.hid (HO4.out.trans hb)
        clear hb
        go_wp2_with fail
        refine (HAN.out _).mono ?_
        rintro e w12 ⟨rfl, hw⟩
        subst w12
        go_wp2_with fail
        refine (HWN.out _).mono ?_
        rintro e w13 ⟨rfl, hb⟩
        replace HO4 := Lib.hid (HO4.out.trans hb)
        clear hb
        go_wp2_with fail
        refine (HAL.out _ HO4.out).mono ?_
        rintro e w14 ⟨rfl, hb⟩
        replace HO4 := Lib.hid (HO4.out.trans hb)
        clear hb
        go_wp2_with fail
        go_ret
        exact ⟨by first | rfl | (show Ending.returned (.bool (!decide (o ≤ 0))) = _; rw [decide_eq_false (by omega)]; rfl), HO4.out.below⟩
      · have hoI : o ≤ 0 := by omega
        simp only [hov, if_false] at HTK HHD
        clear hov
        go_wp2_with fail
        refine (HT1.out _).mono ?_
        rintro e w2 ⟨rfl, hO3⟩
        have HO3 := Lib.hid (HO2.out.trans hO3.below)
        have HR3 := Lib.hid (HRW.out.keep hO3.below)
        clear hO3
        go_wp2_with fail
        refine (HTK.out _ HO3.out HR3.out).mono ?_
        rintro e w3 ⟨rfl, hl3, hO4⟩
        have HL4 := Lib.hid hl3
        have HO4 := Lib.hid hO4
        clear hl3 hO4 HTK HRW HR3
        go_wp2_with fail
        refine (HT1.out _).mono ?_
        rintro e w4 ⟨rfl, hO5⟩
        replace HL4 := Lib.hid (HL4.out.keep hO5.below)
        replace HO4 := Lib.hid (HO4.out.trans hO5.below)
        clear hO5
        go_wp2_with fail
        refine (HTN.out _).mono ?_
        rintro e w5 ⟨rfl, hb⟩
        replace HL4 := Lib.hid (HL4.out.keep hb)
        replace HO4 := Lib.hid (HO4.out.trans hb)
        clear hb
        go_wp2_with fail
        refine (HT1.out _).mono ?_
        rintro e w6 ⟨rfl, hO5⟩
        replace HL4 := Lib.hid (HL4.out.keep hO5.below)
        replace HO4 := Lib.hid (HO4.out.trans hO5.below)
        clear hO5
        go_wp2_with fail
        refine (HHD.out _ HL4.out).mono ?_
        rintro e w7 ⟨⟨s7, c7, rfl⟩, hb⟩
        replace HO4 := Lib.hid (HO4.out.trans hb)
        clear hb HHD HTN HL4
        go_wp2_with fail
        refine (HT1.out _).mono ?_
        rintro e w8 ⟨rfl, hO5⟩
        replace HO4 := Lib.hid (HO4.out.trans hO5.below)
        clear hO5
        go_wp2_with fail
        refine (HDN.out _).mono ?_
        rintro e w9 ⟨rfl, hb⟩
        replace HO4 := Lib.hid (HO4.out.trans hb)
        clear hb
        go_wp2_with fail
        refine (HT1.out _).mono ?_
        rintro e w10 ⟨rfl, hO5⟩
        replace HO4 := Lib.hid (HO4.out.trans hO5.below)
        clear hO5
        go_wp2_with fail
        refine (HHN.out _).mono ?_
        rintro e w11 ⟨rfl, hb⟩
        replace HO4 := Lib.hid (HO4.out.trans hb)
        clear hb
        go_wp2_with fail
        refine (HAN.out _).mono ?_
        rintro e w12 ⟨rfl, hw⟩
        subst w12
        go_wp2_with fail
        refine (HWN.out _).mono ?_
        rintro e w13 ⟨rfl, hb⟩
        replace HO4 := Lib.hid (HO4.out.trans hb)
        clear hb
        go_wp2_with fail
        refine (HAL.out _ HO4.out).mono ?_
        rintro e w14 ⟨rfl, hb⟩
        replace HO4 := Lib.hid (HO4.out.trans hb)
        clear hb
        go_wp2_with fail
        go_ret
        exact ⟨by show Ending.returned (.bool (!decide (0 < o))) = _; rw [decide_eq_false (by omega)]; rfl, HO4.out.below⟩

end Go.Proofs.YtjanjjkgnilhoaaDoor
