/-
  THE WALK of the statement WireSame.
-/
import Derived.Test.YtdceefbhkonndaaWireSameM
import Derived.Deep.DeepCutAuto
namespace Go.Proofs.Ytdceefbhkonndaa
open Go.RowKit
attribute [local go_sem ↓ high] appSem_eq

set_option maxRecDepth 20000 in
set_option maxHeartbeats 4000000 in
theorem wireSame_any (w : World) (s : ByteArray) (x y : Nat) (l m : List ByteArray) (a3 a4 : Option Addr) (c3 c4 : Nat) (hl : RowIs w 1 a3 (l.map tcell)) (hm : RowIs w 1 a4 (m.map tcell)) (n3 : a3 = none → c3 = 0) (n4 : a4 = none → c4 = 0)
    (hs : s.size ≤ 140737488351232) (hx : x < 18446744073709551616) (hy : y < 18446744073709551616) (hll : l.length ≤ 140737488351232) (hml : m.length ≤ 140737488351232) (hz : ∀ t ∈ l, t.size ≤ 140737488351232) (hz' : ∀ t ∈ m, t.size ≤ 140737488351232) :
    Calls Try.prog 4 #[.string s, .int .u64 x, .int .u64 y, .slice a3 l.length c3, .slice a4 m.length c4] w fun e w' => e = .returned (.bool true) ∧ Below w.heap.size w w' := by
  have HRL := Lib.hid hl
  have HRM := Lib.hid hm
  have HN3 := Lib.hid n3
  have HN4 := Lib.hid n4
  have hsI : (0 : Int) ≤ s.size ∧ (s.size : Int) ≤ 140737488351232 := by omega
  have hlI : (0 : Int) ≤ l.length ∧ (l.length : Int) ≤ 140737488351232 := by omega
  have hmI : (0 : Int) ≤ m.length ∧ (m.length : Int) ≤ 140737488351232 := by omega
  have HXY := Lib.hid (show x < 18446744073709551616 ∧ y < 18446744073709551616 from ⟨hx, hy⟩)
  have HT1 := Lib.hid (fun w h => total_any w a3 c3 l h (by omega) hz)
  have HT2 := Lib.hid (fun w h => total_any w a4 c4 m h (by omega) hz')
  clear hl hm n3 n4 hs hx hy hll hml hz hz'
  by_cases hb1 : 4096 < s.size
  · have hbI : (4096 : Int) < s.size := by omega
    clear hb1
    go_enter Try.func4, Try.ntmps4
    go_wp2_with fail
    refine (alive08 _).mono ?_
    rintro e w' ⟨rfl, hb⟩
    go_wp2_with fail
    go_ret
    exact ⟨rfl, hb⟩
  have hb1I : ¬ (4096 : Int) < s.size := by omega
  by_cases hb2 : 100 < l.length + m.length
  · have hbI : (100 : Int) < (l.length : Int) + m.length := by omega
    clear hb1 hb2
    go_enter Try.func4, Try.ntmps4
    go_wp2_with fail
    refine (alive08 _).mono ?_
    rintro e w' ⟨rfl, hb⟩
    go_wp2_with fail
    go_ret
    exact ⟨rfl, hb⟩
  have hb2I : ¬ (100 : Int) < (l.length : Int) + m.length := by omega
  have HS : Hid (s.size ≤ 4096 ∧ l.length ≤ 100 ∧ m.length ≤ 100) := Lib.hid (by omega)
  clear hb1 hb2
  go_enter Try.func4, Try.ntmps4
  go_wp2_with fail
  refine (HT1.out _ HRL.out).mono ?_
  rintro e wt ⟨⟨N1, rfl, hN1, hN2, _⟩, hw⟩
  subst wt
  have hN1I : (0 : Int) ≤ N1 ∧ (N1 : Int) ≤ 140737488367616 := by omega
  have HN1 := Lib.hid hN2
  clear hN1 hN2
  go_wp2_with fail
  refine (HT2.out _ HRM.out).mono ?_
  rintro e wt ⟨⟨N2, rfl, hN1, hN2, _⟩, hw⟩
  subst wt
  have hN2I : (0 : Int) ≤ N2 ∧ (N2 : Int) ≤ 140737488367616 := by omega
  have HN2 := Lib.hid hN2
  clear hN1 hN2
  by_cases hbig : (4096 : Int) < (N1 : Int) + N2
  · go_wp2_with fail
    refine (alive08 _).mono ?_
    rintro e w' ⟨rfl, hb⟩
    go_wp2_with fail
    go_ret
    exact ⟨rfl, hb⟩
  have HZ : Hid (sizes l ≤ 4096 ∧ sizes m ≤ 4096) := Lib.hid (by have := HN1.out (by omega); have := HN2.out (by omega); omega)
  have HS30 : Hid (s.size ≤ 1073741824) := Lib.hid (by have := HS.out; omega)
  clear HN1 HN2 HT1 HT2
  go_wp2_with fail
  refine (new_any _ _).mono ?_
  rintro e w1 ⟨rfl, hr, hb, hlt⟩
  have HO := Lib.hid ((Own.refl w).trans hb)
  have HR1 := Lib.hid hr
  have HB1 := Lib.hid hlt
  clear hr hb hlt
  go_wp2_with fail
  refine (new_any _ _).mono ?_
  rintro e w2 ⟨rfl, hr, hb, hlt⟩
  replace HR1 := Lib.hid (HR1.out.keep (hb.block _ (blk_lt HR1.out)))
  replace HO := Lib.hid (HO.out.trans hb)
  have HR2 := Lib.hid hr
  have HB2 := Lib.hid hlt
  clear hr hb hlt
  go_wp2_with fail
  refine (new_any _ _).mono ?_
  rintro e w3 ⟨rfl, hr, hb, hlt⟩
  replace HR1 := Lib.hid (HR1.out.keep (hb.block _ (blk_lt HR1.out)))
  replace HR2 := Lib.hid (HR2.out.keep (hb.block _ (blk_lt HR2.out)))
  replace HO := Lib.hid (HO.out.trans hb)
  have HR3 := Lib.hid hr
  clear hr hb hlt
  obtain ⟨v1, s1, e1, hu1, hle1, hv1, hf1⟩ := uFacts s
  obtain ⟨v2, s2, e2, hu2, hle2, hv2, hf2⟩ := iFacts s
  obtain ⟨v3, s3, e3, hu3, hle3, hv3, hf3⟩ := tFacts s
  have HC1 := Lib.hid (fun w b h => uint_read w b s 18446744073709551615 HS30.out h)
  have HC2 := Lib.hid (fun w b h => int_read w b s (-9223372036854775808) 9223372036854775807 HS30.out h)
  have HC3 := Lib.hid (fun w b h => text_read w b s 4096 HS30.out (by decide) (by decide) h)
  rw [hu1] at HC1
  rw [hu2] at HC2
  rw [hu3] at HC3
  have HF1 := Lib.hid hf1
  have HF2 := Lib.hid hf2
  have HF3 := Lib.hid hf3
  have HLE := Lib.hid (show s1.size ≤ s.size ∧ s2.size ≤ s.size ∧ s3.size ≤ s.size from ⟨hle1, hle2, hle3⟩)
  have HV := Lib.hid (show v1 < 18446744073709551616 ∧ (-9223372036854775808 ≤ v2 ∧ v2 ≤ 9223372036854775807) ∧ v3.size ≤ s.size from ⟨hv1, hv2, hv3⟩)
  clear hu1 hu2 hu3 hf1 hf2 hf3 hle1 hle2 hle3 hv1 hv2 hv3
  go_wp2_with fail
  refine (HC1.out _ _ HR1.out).mono ?_
  rintro e w4 ⟨rfl, hr, hu⟩
  replace HR2 := Lib.hid (HR2.out.keep (hu.keep _ (blk_lt HR2.out) (by simp; have := HB1.out; omega)))
  replace HR3 := Lib.hid (HR3.out.keep (hu.keep _ (blk_lt HR3.out) (by simp; have := HB1.out; have := HB2.out; omega)))
  replace HO := Lib.hid (HO.out.upd1 hu (Nat.le_refl _))
  replace HR1 := Lib.hid hr
  clear hr hu
  go_wp2_with fail
  refine (HC2.out _ _ HR2.out).mono ?_
  rintro e w5 ⟨rfl, hr, hu⟩
  replace HR1 := Lib.hid (HR1.out.keep (hu.keep _ (blk_lt HR1.out) (by simp; have := HB1.out; omega)))
  replace HR3 := Lib.hid (HR3.out.keep (hu.keep _ (blk_lt HR3.out) (by simp; have := HB2.out; omega)))
  replace HO := Lib.hid (HO.out.upd1 hu (by have := HB1.out; omega))
  replace HR2 := Lib.hid hr
  clear hr hu
  go_wp2_with fail
  refine (HC3.out _ _ HR3.out).mono ?_
  rintro e w6 ⟨rfl, hr, hu⟩
  replace HR1 := Lib.hid (HR1.out.keep (hu.keep _ (blk_lt HR1.out) (by simp; have := HB1.out; have := HB2.out; omega)))
  replace HR2 := Lib.hid (HR2.out.keep (hu.keep _ (blk_lt HR2.out) (by simp; have := HB2.out; omega)))
  replace HO := Lib.hid (HO.out.upd1 hu (by have := HB1.out; have := HB2.out; omega))
  replace HR3 := Lib.hid hr
  clear hr hu HC1 HC2 HC3
  go_upto_region 11 with (fail)
  go_cut [109] (fun v wx => v = .bool false ∧ Own w.heap.size w wx)
  case first =>
    rcases HF1.out with ⟨he, hx1⟩ | hne1
    · subst he
      go_wp2_with fail
      refine (err_any _ _ _ _ HR1.out).mono ?_
      rintro e wz ⟨rfl, hw⟩
      subst wz
      go_wp2_with fail
      refine (uints_one _ v1 v1 rfl HV.out.1).mono ?_
      rintro e wz ⟨rfl, hb⟩
      replace HR1 := Lib.hid (HR1.out.keep (hb.block _ (blk_lt HR1.out)))
      replace HR2 := Lib.hid (HR2.out.keep (hb.block _ (blk_lt HR2.out)))
      replace HR3 := Lib.hid (HR3.out.keep (hb.block _ (blk_lt HR3.out)))
      replace HO := Lib.hid (HO.out.trans hb)
      clear hb
      go_wp2_with fail
      refine (left_any _ _ _ _ HR1.out).mono ?_
      rintro e wy ⟨rfl, hw⟩
      subst wy
      go_wp2_with fail
      refine (rest_any _ s s1.size HS30.out HLE.out.1).mono ?_
      rintro e wy ⟨rfl, hw⟩
      subst wy
      have hcat1 : ¬ 9223372036854775807 < (S (Wr.uv v1)).size + (s.extract (s.size - s1.size) s.size).size := by
        have h2 : (Wr.uv v1).length ≤ 10 := Wr.uvF_length 10 _
        have := HS.out; have := HV.out
        rw [S_size, ByteArray.size_extract]; omega
      rcases HF2.out with ⟨he, hx2⟩ | hne2
      · subst he
        go_wp2_with fail
        refine (err_any _ _ _ _ HR2.out).mono ?_
        rintro e wz ⟨rfl, hw⟩
        subst wz
        go_wp2_with fail
        refine (ints_one _ v2 HV.out.2.1).mono ?_
        rintro e wz ⟨rfl, hb⟩
        replace HR1 := Lib.hid (HR1.out.keep (hb.block _ (blk_lt HR1.out)))
        replace HR2 := Lib.hid (HR2.out.keep (hb.block _ (blk_lt HR2.out)))
        replace HR3 := Lib.hid (HR3.out.keep (hb.block _ (blk_lt HR3.out)))
        replace HO := Lib.hid (HO.out.trans hb)
        clear hb
        go_wp2_with fail
        refine (left_any _ _ _ _ HR2.out).mono ?_
        rintro e wy ⟨rfl, hw⟩
        subst wy
        go_wp2_with fail
        refine (rest_any _ s s2.size HS30.out HLE.out.2.1).mono ?_
        rintro e wy ⟨rfl, hw⟩
        subst wy
        have hcat2 : ¬ 9223372036854775807 < (S (Wr.uv (Wr.zig v2))).size + (s.extract (s.size - s2.size) s.size).size := by
          have h2 : (Wr.uv (Wr.zig v2)).length ≤ 10 := Wr.uvF_length 10 _
          have := HS.out; have := HV.out
          rw [S_size, ByteArray.size_extract]; omega
        rcases HF3.out with ⟨he, hx3⟩ | hne3
        · subst he
          go_wp2_with fail
          refine (err_any _ _ _ _ HR3.out).mono ?_
          rintro e wz ⟨rfl, hw⟩
          subst wz
          go_wp2_with fail
          refine (texts_one _ v3 (by have := HV.out.2.2; have := HS.out; omega)).mono ?_
          rintro e wz ⟨rfl, hb⟩
          replace HR1 := Lib.hid (HR1.out.keep (hb.block _ (blk_lt HR1.out)))
          replace HR2 := Lib.hid (HR2.out.keep (hb.block _ (blk_lt HR2.out)))
          replace HR3 := Lib.hid (HR3.out.keep (hb.block _ (blk_lt HR3.out)))
          replace HO := Lib.hid (HO.out.trans hb)
          clear hb
          go_wp2_with fail
          refine (left_any _ _ _ _ HR3.out).mono ?_
          rintro e wy ⟨rfl, hw⟩
          subst wy
          go_wp2_with fail
          refine (rest_any _ s s3.size HS30.out HLE.out.2.2).mono ?_
          rintro e wy ⟨rfl, hw⟩
          subst wy
          have hcat3 : ¬ 9223372036854775807 < (S (Wr.txt (L v3))).size + (s.extract (s.size - s3.size) s.size).size := by
            have h3 : (Wr.uv (L v3).length).length ≤ 10 := Wr.uvF_length 10 _; have h4 := L_size v3; have h2 : (Wr.txt (L v3)).length = (Wr.uv (L v3).length).length + (L v3).length := by simp [Wr.txt]
            have := HS.out; have := HV.out
            rw [S_size, ByteArray.size_extract]; omega
          go_wp2_with fail
          go_meet
          exact ⟨by first | rfl | (rw [Value.bool.injEq]; simp only [Bool.or_eq_false_iff, decide_eq_false_iff_not]; omega), HO.out⟩
        · go_wp2_with fail
          refine (err_any _ _ _ _ HR3.out).mono ?_
          rintro e wz ⟨rfl, hw⟩
          subst wz
          go_wp2_with fail
          go_meet
          exact ⟨by first | rfl | (rw [Value.bool.injEq]; simp only [Bool.or_eq_false_iff, decide_eq_false_iff_not]; omega), HO.out⟩
      · go_wp2_with fail
        refine (err_any _ _ _ _ HR2.out).mono ?_
        rintro e wz ⟨rfl, hw⟩
        subst wz
        rcases HF3.out with ⟨he, hx3⟩ | hne3
        · subst he
          go_wp2_with fail
          refine (err_any _ _ _ _ HR3.out).mono ?_
          rintro e wz ⟨rfl, hw⟩
          subst wz
          go_wp2_with fail
          refine (texts_one _ v3 (by have := HV.out.2.2; have := HS.out; omega)).mono ?_
          rintro e wz ⟨rfl, hb⟩
          replace HR1 := Lib.hid (HR1.out.keep (hb.block _ (blk_lt HR1.out)))
          replace HR2 := Lib.hid (HR2.out.keep (hb.block _ (blk_lt HR2.out)))
          replace HR3 := Lib.hid (HR3.out.keep (hb.block _ (blk_lt HR3.out)))
          replace HO := Lib.hid (HO.out.trans hb)
          clear hb
          go_wp2_with fail
          refine (left_any _ _ _ _ HR3.out).mono ?_
          rintro e wy ⟨rfl, hw⟩
          subst wy
          go_wp2_with fail
          refine (rest_any _ s s3.size HS30.out HLE.out.2.2).mono ?_
          rintro e wy ⟨rfl, hw⟩
          subst wy
          have hcat3 : ¬ 9223372036854775807 < (S (Wr.txt (L v3))).size + (s.extract (s.size - s3.size) s.size).size := by
            have h3 : (Wr.uv (L v3).length).length ≤ 10 := Wr.uvF_length 10 _; have h4 := L_size v3; have h2 : (Wr.txt (L v3)).length = (Wr.uv (L v3).length).length + (L v3).length := by simp [Wr.txt]
            have := HS.out; have := HV.out
            rw [S_size, ByteArray.size_extract]; omega
          go_wp2_with fail
          go_meet
          exact ⟨by first | rfl | (rw [Value.bool.injEq]; simp only [Bool.or_eq_false_iff, decide_eq_false_iff_not]; omega), HO.out⟩
        · go_wp2_with fail
          refine (err_any _ _ _ _ HR3.out).mono ?_
          rintro e wz ⟨rfl, hw⟩
          subst wz
          go_wp2_with fail
          go_meet
          exact ⟨by first | rfl | (rw [Value.bool.injEq]; simp only [Bool.or_eq_false_iff, decide_eq_false_iff_not]; omega), HO.out⟩
    · go_wp2_with fail
      refine (err_any _ _ _ _ HR1.out).mono ?_
      rintro e wz ⟨rfl, hw⟩
      subst wz
      rcases HF2.out with ⟨he, hx2⟩ | hne2
      · subst he
        go_wp2_with fail
        refine (err_any _ _ _ _ HR2.out).mono ?_
        rintro e wz ⟨rfl, hw⟩
        subst wz
        go_wp2_with fail
        refine (ints_one _ v2 HV.out.2.1).mono ?_
        rintro e wz ⟨rfl, hb⟩
        replace HR1 := Lib.hid (HR1.out.keep (hb.block _ (blk_lt HR1.out)))
        replace HR2 := Lib.hid (HR2.out.keep (hb.block _ (blk_lt HR2.out)))
        replace HR3 := Lib.hid (HR3.out.keep (hb.block _ (blk_lt HR3.out)))
        replace HO := Lib.hid (HO.out.trans hb)
        clear hb
        go_wp2_with fail
        refine (left_any _ _ _ _ HR2.out).mono ?_
        rintro e wy ⟨rfl, hw⟩
        subst wy
        go_wp2_with fail
        refine (rest_any _ s s2.size HS30.out HLE.out.2.1).mono ?_
        rintro e wy ⟨rfl, hw⟩
        subst wy
        have hcat2 : ¬ 9223372036854775807 < (S (Wr.uv (Wr.zig v2))).size + (s.extract (s.size - s2.size) s.size).size := by
          have h2 : (Wr.uv (Wr.zig v2)).length ≤ 10 := Wr.uvF_length 10 _
          have := HS.out; have := HV.out
          rw [S_size, ByteArray.size_extract]; omega
        rcases HF3.out with ⟨he, hx3⟩ | hne3
        · subst he
          go_wp2_with fail
          refine (err_any _ _ _ _ HR3.out).mono ?_
          rintro e wz ⟨rfl, hw⟩
          subst wz
          go_wp2_with fail
          refine (texts_one _ v3 (by have := HV.out.2.2; have := HS.out; omega)).mono ?_
          rintro e wz ⟨rfl, hb⟩
          replace HR1 := Lib.hid (HR1.out.keep (hb.block _ (blk_lt HR1.out)))
          replace HR2 := Lib.hid (HR2.out.keep (hb.block _ (blk_lt HR2.out)))
          replace HR3 := Lib.hid (HR3.out.keep (hb.block _ (blk_lt HR3.out)))
          replace HO := Lib.hid (HO.out.trans hb)
          clear hb
          go_wp2_with fail
          refine (left_any _ _ _ _ HR3.out).mono ?_
          rintro e wy ⟨rfl, hw⟩
          subst wy
          go_wp2_with fail
          refine (rest_any _ s s3.size HS30.out HLE.out.2.2).mono ?_
          rintro e wy ⟨rfl, hw⟩
          subst wy
          have hcat3 : ¬ 9223372036854775807 < (S (Wr.txt (L v3))).size + (s.extract (s.size - s3.size) s.size).size := by
            have h3 : (Wr.uv (L v3).length).length ≤ 10 := Wr.uvF_length 10 _; have h4 := L_size v3; have h2 : (Wr.txt (L v3)).length = (Wr.uv (L v3).length).length + (L v3).length := by simp [Wr.txt]
            have := HS.out; have := HV.out
            rw [S_size, ByteArray.size_extract]; omega
          go_wp2_with fail
          go_meet
          exact ⟨by first | rfl | (rw [Value.bool.injEq]; simp only [Bool.or_eq_false_iff, decide_eq_false_iff_not]; omega), HO.out⟩
        · go_wp2_with fail
          refine (err_any _ _ _ _ HR3.out).mono ?_
          rintro e wz ⟨rfl, hw⟩
          subst wz
          go_wp2_with fail
          go_meet
          exact ⟨by first | rfl | (rw [Value.bool.injEq]; simp only [Bool.or_eq_false_iff, decide_eq_false_iff_not]; omega), HO.out⟩
      · go_wp2_with fail
        refine (err_any _ _ _ _ HR2.out).mono ?_
        rintro e wz ⟨rfl, hw⟩
        subst wz
        rcases HF3.out with ⟨he, hx3⟩ | hne3
        · subst he
          go_wp2_with fail
          refine (err_any _ _ _ _ HR3.out).mono ?_
          rintro e wz ⟨rfl, hw⟩
          subst wz
          go_wp2_with fail
          refine (texts_one _ v3 (by have := HV.out.2.2; have := HS.out; omega)).mono ?_
          rintro e wz ⟨rfl, hb⟩
          replace HR1 := Lib.hid (HR1.out.keep (hb.block _ (blk_lt HR1.out)))
          replace HR2 := Lib.hid (HR2.out.keep (hb.block _ (blk_lt HR2.out)))
          replace HR3 := Lib.hid (HR3.out.keep (hb.block _ (blk_lt HR3.out)))
          replace HO := Lib.hid (HO.out.trans hb)
          clear hb
          go_wp2_with fail
          refine (left_any _ _ _ _ HR3.out).mono ?_
          rintro e wy ⟨rfl, hw⟩
          subst wy
          go_wp2_with fail
          refine (rest_any _ s s3.size HS30.out HLE.out.2.2).mono ?_
          rintro e wy ⟨rfl, hw⟩
          subst wy
          have hcat3 : ¬ 9223372036854775807 < (S (Wr.txt (L v3))).size + (s.extract (s.size - s3.size) s.size).size := by
            have h3 : (Wr.uv (L v3).length).length ≤ 10 := Wr.uvF_length 10 _; have h4 := L_size v3; have h2 : (Wr.txt (L v3)).length = (Wr.uv (L v3).length).length + (L v3).length := by simp [Wr.txt]
            have := HS.out; have := HV.out
            rw [S_size, ByteArray.size_extract]; omega
          go_wp2_with fail
          go_meet
          exact ⟨by first | rfl | (rw [Value.bool.injEq]; simp only [Bool.or_eq_false_iff, decide_eq_false_iff_not]; omega), HO.out⟩
        · go_wp2_with fail
          refine (err_any _ _ _ _ HR3.out).mono ?_
          rintro e wz ⟨rfl, hw⟩
          subst wz
          go_wp2_with fail
          go_meet
          exact ⟨by first | rfl | (rw [Value.bool.injEq]; simp only [Bool.or_eq_false_iff, decide_eq_false_iff_not]; omega), HO.out⟩
  case rest =>
    obtain ⟨rfl, hO⟩ := hcut
    have HO := Lib.hid hO
    have hlx : 1 ≤ (S (Wr.uv x)).size ∧ (S (Wr.uv x)).size ≤ 10 := by rw [S_size]; exact ⟨Wr.uvF_pos 9 x, Wr.uvF_length 10 x⟩
    have hly : 1 ≤ (S (Wr.uv y)).size ∧ (S (Wr.uv y)).size ≤ 10 := by rw [S_size]; exact ⟨Wr.uvF_pos 9 y, Wr.uvF_length 10 y⟩
    have HU1 := Lib.hid (fun w => uints_one w x x rfl HXY.out.1)
    have HU2 := Lib.hid (fun w => uints_one w y y rfl HXY.out.2)
    have HFR := Lib.hid (uv_front x y HXY.out.1 HXY.out.2)
    have HLV := Lib.hid (lvs_inj l m (by have := HS.out; omega) (by have := HS.out; omega) (fun t ht => by have := size_le_sizes l t ht; have := HZ.out; omega) (fun t ht => by have := size_le_sizes m t ht; have := HZ.out; omega))
    have hlxI : (1 : Int) ≤ (S (Wr.uv x)).size ∧ ((S (Wr.uv x)).size : Int) ≤ 10 := by omega
    have hlyI : (1 : Int) ≤ (S (Wr.uv y)).size ∧ ((S (Wr.uv y)).size : Int) ≤ 10 := by omega
    have HYX : Hid (x = y → S (Wr.uv x) = S (Wr.uv y)) := Lib.hid (fun e => by rw [e])
    clear hO hlx hly
    generalize S (Wr.uv x) = bx at *
    generalize S (Wr.uv y) = by_ at *
    go_wp2_with fail
    refine (HU1.out _).mono ?_
    rintro e w7 ⟨rfl, hb⟩
    replace HO := Lib.hid (HO.out.trans hb)
    clear hb
    go_wp2_with fail
    refine (HU2.out _).mono ?_
    rintro e w8 ⟨rfl, hb⟩
    replace HO := Lib.hid (HO.out.trans hb)
    clear hb HU1 HU2
    go_upto_region 14 with (fail)
    go_cut [143] (fun v wx => v = .bool false ∧ Own w.heap.size w wx)
    case first =>
      by_cases hxy : x = y
      · have hxyI : ((x : Int) != y) = false := by rw [hxy]; simp
        clear hxy
        go_wp2_with fail
        go_meet
        exact ⟨by first | rfl | (rw [Value.bool.injEq]; simp only [Bool.or_eq_false_iff, decide_eq_false_iff_not]; omega), HO.out⟩
      · have hxyI : ((x : Int) != y) = true := by rw [bne_iff_ne]; omega
        have hfr := HFR.out hxy
        clear hxy
        by_cases hle : bx.size ≤ by_.size
        · have hleI : (bx.size : Int) ≤ by_.size := by omega
          go_wp2_with fail
          go_meet
          exact ⟨by first | rfl | (rw [Value.bool.injEq]; simp only [Bool.or_eq_false_iff, decide_eq_false_iff_not]; omega), HO.out⟩
        · have hleI : ¬ (bx.size : Int) ≤ by_.size := by omega
          go_wp2_with fail
          go_meet
          exact ⟨by first | rfl | (rw [Value.bool.injEq]; simp only [Bool.or_eq_false_iff, decide_eq_false_iff_not]; omega), HO.out⟩
    case rest =>
    obtain ⟨rfl, hO⟩ := hcut
    replace HO := Lib.hid hO
    have hlv := HLV.out
    have HLCl := Lib.hid (fun w a c h => list_any w a c l h (by have := HZ.out; omega) (by have := HS.out; omega))
    have HLCm := Lib.hid (fun w a c h => list_any w a c m h (by have := HZ.out; omega) (by have := HS.out; omega))
    have HSM := Lib.hid (fun w h1 h2 => rSame_any w a3 a4 c3 c4 l m h1 h2 (by have := HS.out; omega) (by have := HS.out; omega))
    clear hO HLV
    generalize S (lvs l) = bl at *
    generalize S (lvs m) = bm at *
    generalize decide (l = m) = dd at *
    obtain ⟨sx, dx, wx1, hr, hs, ho⟩ := copy_t _ a3 c3 l (HRL.out.keep HO.out.below) (by have := HS.out; omega) HN3.out
    change (appSem _ _ _).run _ _ = _ at hr
    have HSx := Lib.hid hs
    replace HO := Lib.hid (HO.out.trans ho.below)
    clear hs ho
    go_wp2_with fail
    refine (HLCl.out _ sx dx HSx.out).mono ?_
    rintro e wx2 ⟨rfl, hb2⟩
    replace HO := Lib.hid (HO.out.trans hb2)
    clear hb2 hr HSx
    obtain ⟨sx, dx, wx1, hr, hs, ho⟩ := copy_t _ a4 c4 m (HRM.out.keep HO.out.below) (by have := HS.out; omega) HN4.out
    change (appSem _ _ _).run _ _ = _ at hr
    have HSx := Lib.hid hs
    replace HO := Lib.hid (HO.out.trans ho.below)
    clear hs ho
    go_wp2_with fail
    refine (HLCm.out _ sx dx HSx.out).mono ?_
    rintro e wx2 ⟨rfl, hb2⟩
    replace HO := Lib.hid (HO.out.trans hb2)
    clear hb2 hr HSx
    cases dd with
    | true =>
      go_wp2_with fail
      refine (HSM.out _ (HRL.out.keep HO.out.below) (HRM.out.keep HO.out.below)).mono ?_
      rintro e wx3 ⟨rfl, hb2⟩
      replace HO := Lib.hid (HO.out.trans hb2)
      clear hb2
      go_wp2_with fail
      refine (alive08 _).mono ?_
      rintro e wx4 ⟨rfl, hb2⟩
      replace HO := Lib.hid (HO.out.trans hb2)
      clear hb2
      go_wp2_with fail
      go_ret
      exact ⟨rfl, HO.out.below⟩
    | false =>
      go_wp2_with fail
      refine (HSM.out _ (HRL.out.keep HO.out.below) (HRM.out.keep HO.out.below)).mono ?_
      rintro e wx3 ⟨rfl, hb2⟩
      replace HO := Lib.hid (HO.out.trans hb2)
      clear hb2
      go_wp2_with fail
      refine (alive08 _).mono ?_
      rintro e wx4 ⟨rfl, hb2⟩
      replace HO := Lib.hid (HO.out.trans hb2)
      clear hb2
      go_wp2_with fail
      go_ret
      exact ⟨rfl, HO.out.below⟩

end Go.Proofs.Ytdceefbhkonndaa
