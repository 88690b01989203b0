/-
  Joined out of the texts MsgRqT.
-/
import Derived.Test.YtjgnomjjphkfbaaGreatRRqA
namespace Go.Proofs.YtjgnomjjphkfbaaGreat
open Go.RowKit

attribute [local go_sem ↓ high] neq_vers
theorem got_dec (u z : Mg.Got) : decide (u = z) = (decide (u.v = z.v) && decide (u.err = z.err)) := by
  cases u
  cases z
  rw [Bool.eq_iff_iff]
  simp only [decide_eq_true_eq, Bool.and_eq_true, Mg.Got.mk.injEq]
set_option maxRecDepth 20000 in
set_option maxHeartbeats 16000000 in
theorem ref_tolds (s s2 : MS) (x y : Mg.Msg) (w : World) (ha : MsgA w s x) (hb : MsgA w s2 y) (ok : x.Good) (ok2 : y.Good) :
    Calls Tryz.prog 39 #[.agg (toldV s x), .agg (toldV s2 y)] w fun e w' => e = .returned (.bool (decide (x.told = y.told))) ∧ Below w.heap.size w w' := by
  obtain ⟨w0, hw0⟩ : ∃ w0, w0 = (w.alloc (.cells (toldV s x) 41 (0, 0))).alloc (.cells (toldV s2 y) 41 (0, 0)) := ⟨_, rfl⟩
  have HW0 := Lib.hid hw0
  have HB1 : Hid (w0.heap[w.heap.size]? = some (.cells (toldV s x) 41 (0, 0))) := Lib.hid (by
    rw [hw0, Below.heap_alloc _ _ _ (by simp)]; exact heap_alloc_new w _)
  have HB2 : Hid (w0.heap[w.heap.size + 1]? = some (.cells (toldV s2 y) 41 (0, 0))) := Lib.hid (by
    rw [hw0]
    have := heap_alloc_new (w.alloc (.cells (toldV s x) 41 (0, 0))) (.cells (toldV s2 y) 41 (0, 0))
    rw [World.size_alloc] at this
    exact this)
  have HBW : Hid (Below w.heap.size w w0) := Lib.hid (by rw [hw0]; exact (((Own.refl w).alloc _).alloc _).below)
  have HA := Lib.hid ha
  have HB := Lib.hid hb
  have HOK := Lib.hid ok
  have HOK2 := Lib.hid ok2
  obtain ⟨R, hR⟩ : ∃ R, R = decide (x.told = y.told) := ⟨_, rfl⟩
  rw [← hR]
  have HRR := Lib.hid (hR.trans (told_dec x.told y.told))
  clear hw0 ha hb ok ok2 hR
  obtain ⟨b0, hb0⟩ : ∃ b, b = decide (x.told.shard = y.told.shard) := ⟨_, rfl⟩
  rw [← hb0] at HRR
  have g0 := nat_bne x.told.shard y.told.shard
  rw [← hb0] at g0
  obtain ⟨e0, he0⟩ : ∃ e, e = !b0 := ⟨_, rfl⟩
  rw [← he0] at g0
  have q0 : b0 = !e0 := by rw [he0, Bool.not_not]
  rw [q0] at HRR
  clear q0 hb0 he0
  obtain ⟨b1, hb1⟩ : ∃ b, b = decide (x.told.got = y.told.got) := ⟨_, rfl⟩
  rw [← hb1] at HRR
  have HD1 := Lib.hid hb1
  clear hb1
  obtain ⟨b2, hb2⟩ : ∃ b, b = decide (x.told.numbers = y.told.numbers) := ⟨_, rfl⟩
  rw [← hb2] at HRR
  have HD2 := Lib.hid hb2
  clear hb2
  obtain ⟨b3, hb3⟩ : ∃ b, b = decide (x.told.names = y.told.names) := ⟨_, rfl⟩
  rw [← hb3] at HRR
  have HD3 := Lib.hid hb3
  clear hb3
  have n1 := nat_bne x.told.got.length y.told.got.length
  obtain ⟨f1, hf1⟩ : ∃ f, f = !decide (x.told.got.length = y.told.got.length) := ⟨_, rfl⟩
  rw [← hf1] at n1
  have HF1 : Hid (f1 = true → b1 = false) := Lib.hid (fun h => by
    rw [HD1.out, decide_eq_false]
    intro e
    rw [hf1, e] at h
    simp at h)
  have HG1 : Hid (f1 = false → x.told.got.length = y.told.got.length) := Lib.hid (fun h => by
    rw [hf1] at h
    simpa using h)
  clear hf1
  have n2 := nat_bne x.told.numbers.length y.told.numbers.length
  obtain ⟨f2, hf2⟩ : ∃ f, f = !decide (x.told.numbers.length = y.told.numbers.length) := ⟨_, rfl⟩
  rw [← hf2] at n2
  have HF2 : Hid (f2 = true → b2 = false) := Lib.hid (fun h => by
    rw [HD2.out, decide_eq_false]
    intro e
    rw [hf2, e] at h
    simp at h)
  have HG2 : Hid (f2 = false → x.told.numbers.length = y.told.numbers.length) := Lib.hid (fun h => by
    rw [hf2] at h
    simpa using h)
  clear hf2
  go_enter Tryz.func39, Tryz.ntmps39
  go_upto_region 1 with (fail)
  rw [← HW0.out]
  clear HW0
  have c0 : w0.cell? ⟨w.heap.size, 0, none⟩ = some (.int .u32 x.told.shard) := by rw [cell_of_row _ _ _ _ _ _ (HB1.out)]; rfl
  have d0 : w0.cell? ⟨(w.heap.size + 1), 0, none⟩ = some (.int .u32 y.told.shard) := by rw [cell_of_row _ _ _ _ _ _ (HB2.out)]; rfl
  have c1 : w0.cell? ⟨w.heap.size, 1, none⟩ = some (.slice s.got.1 x.told.got.length s.got.2) := by rw [cell_of_row _ _ _ _ _ _ (HB1.out)]; rfl
  have d1 : w0.cell? ⟨(w.heap.size + 1), 1, none⟩ = some (.slice s2.got.1 y.told.got.length s2.got.2) := by rw [cell_of_row _ _ _ _ _ _ (HB2.out)]; rfl
  have c2 : w0.cell? ⟨w.heap.size, 2, none⟩ = some (.slice s.numbers.1 x.told.numbers.length s.numbers.2) := by rw [cell_of_row _ _ _ _ _ _ (HB1.out)]; rfl
  have d2 : w0.cell? ⟨(w.heap.size + 1), 2, none⟩ = some (.slice s2.numbers.1 y.told.numbers.length s2.numbers.2) := by rw [cell_of_row _ _ _ _ _ _ (HB2.out)]; rfl
  repeat' (first
  | (rename_i hh; have ht : (_ : Bool) = true := hh; subst ht; clear hh)
  | (rename_i hh; have hf := Bool.eq_false_iff.mpr hh; subst hf; clear hh)
  | go_values | go_skip | go_guarded | go_step | go_upon | go_back)
  all_goals try exact bodyPost_ret (v := .bool false) (by simp [results, Tryz.results39, go_sem]) rfl ⟨by rw [HRR.out]; first | (simp; done) | (rw [HF1.out rfl]; simp; done) | (rw [HF2.out rfl]; simp; done), HBW.out⟩
  have hq : f2 = false := by assumption
  subst hq
  have hln1 := HG1.out rfl
  have HL1 := Lib.hid hln1
  have hln2 := HG2.out rfl
  have HL2 := Lib.hid hln2
  go_wp2_with fail
  go_loopw [5] (fun vi wr => ∃ i : Nat, i ≤ x.told.got.length ∧ vi = .int .i64 i ∧ x.told.got.take i = y.told.got.take i ∧ Below w0.heap.size w0 wr) (fun vi _ => x.told.got.length - (intOf vi).toNat)
  case atStart => exact ⟨0, Nat.zero_le _, rfl, rfl, Below.refl _ _⟩
  case round =>
    obtain ⟨i, hi, rfl, htk, hbr⟩ := hrel
    have HTK := Lib.hid htk
    have HBX1 := Lib.hid hbr
    have hbd : Below w0.heap.size w0 wr.drew := hbr.trans ((Own.refl wr).drew.below.mono hbr.size)
    have hbo : Below w.heap.size w wr.drew := HBW.out.trans (hbd.mono HBW.out.size)
    have HBD := Lib.hid hbd
    have hlI : (0 : Int) ≤ x.told.got.length ∧ (x.told.got.length : Int) ≤ 100000 := by have := HOK.out.got.2; omega
    have hkI : (0 : Int) ≤ y.told.got.length ∧ (y.told.got.length : Int) ≤ 100000 := by have := HOK2.out.got.2; omega
    have c1 : wr.cell? ⟨w.heap.size, 1, none⟩ = some (.slice s.got.1 x.told.got.length s.got.2) := by rw [cell_of_row _ _ _ _ _ _ ((HBX1.out.block _ (blk_lt HB1.out)).trans HB1.out)]; rfl
    by_cases hlt : i < x.told.got.length
    · have hlt2 : i < y.told.got.length := by rw [← HL1.out]; exact hlt
      have c1' : wr.drew.cell? ⟨w.heap.size, 1, none⟩ = some (.slice s.got.1 x.told.got.length s.got.2) := by rw [cell_of_row _ _ _ _ _ _ ((hbd.block _ (blk_lt HB1.out)).trans HB1.out)]; rfl
      have d1' : wr.drew.cell? ⟨(w.heap.size + 1), 1, none⟩ = some (.slice s2.got.1 y.told.got.length s2.got.2) := by rw [cell_of_row _ _ _ _ _ _ ((hbd.block _ (blk_lt HB2.out)).trans HB2.out)]; rfl
      have hiI : (0 : Int) ≤ i ∧ (i : Int) < x.told.got.length ∧ (i : Int) < y.told.got.length := by omega
      obtain ⟨g, o, hg, hc⟩ := (HA.out.got.keep hbo).row i (by simpa using hlt)
      obtain ⟨g2, o2, hg2, hc2⟩ := (HB.out.got.keep hbo).row i (by simpa using hlt2)
      rw [hg] at c1'
      rw [hg2] at d1'
      obtain ⟨u, hu⟩ : ∃ u, u = x.told.got[i]'hlt := ⟨_, rfl⟩
      obtain ⟨z, hz⟩ : ∃ z, z = y.told.got[i]'hlt2 := ⟨_, rfl⟩
      have e1 : (x.told.got.map Mg.Got.cells)[i]'(by simpa using hlt) = Mg.Got.cells u := by rw [List.getElem_map, hu]
      have e2 : (y.told.got.map Mg.Got.cells)[i]'(by simpa using hlt2) = Mg.Got.cells z := by rw [List.getElem_map, hz]
      rw [e1] at hc
      rw [e2] at hc2
      have p0 : wr.drew.cell? ⟨g, o + i * 4, none⟩ = some (.int .u64 u.v.n) := hc.cell 0 (by simp)
      have r0 : wr.drew.cell? ⟨g2, o2 + i * 4, none⟩ = some (.int .u64 z.v.n) := hc2.cell 0 (by simp)
      have p1 : wr.drew.cell? ⟨g, o + i * 4 + 1, none⟩ = some (.int .u8 u.v.st) := hc.cell 1 (by simp)
      have r1 : wr.drew.cell? ⟨g2, o2 + i * 4 + 1, none⟩ = some (.int .u8 z.v.st) := hc2.cell 1 (by simp)
      have p2 : wr.drew.cell? ⟨g, o + i * 4 + 2, none⟩ = some (.string u.v.t) := hc.cell 2 (by simp)
      have r2 : wr.drew.cell? ⟨g2, o2 + i * 4 + 2, none⟩ = some (.string z.v.t) := hc2.cell 2 (by simp)
      have p3 : wr.drew.cell? ⟨g, o + i * 4 + 3, none⟩ = some (.int .i64 u.err) := hc.cell 3 (by simp)
      have r3 : wr.drew.cell? ⟨g2, o2 + i * 4 + 3, none⟩ = some (.int .i64 z.err) := hc2.cell 3 (by simp)
      obtain ⟨bb, hbb⟩ : ∃ bb, bb = decide (u = z) := ⟨_, rfl⟩
      have hcm2 := hbb.symm
      have HY : Hid (x.told.got[i]? = some u) := Lib.hid (by rw [List.getElem?_eq_getElem hlt, hu])
      have HZ : Hid (y.told.got[i]? = some z) := Lib.hid (by rw [List.getElem?_eq_getElem hlt2, hz])
      have HBB := Lib.hid hbb
      clear hc hc2 e1 e2 hu hz hbb hlt hlt2 hbd hbo hbr hg hg2 htk
      have hgd := HBB.out.trans (got_dec u z)
      clear hcm2
      have hce := int_bne u.err z.err
      obtain ⟨bv, hbv⟩ : ∃ b, b = decide (u.v = z.v) := ⟨_, rfl⟩
      obtain ⟨be, hbe⟩ : ∃ b, b = decide (u.err = z.err) := ⟨_, rfl⟩
      rw [← hbv, ← hbe] at hgd
      rw [← hbe] at hce
      have hcv := hbv.symm
      clear hbv hbe
      cases bv with
      | true =>
        cases be with
        | true =>
          have hb1 : bb = true := hgd
          subst hb1
          rw [Bool.not_true] at hce
          clear hgd
          go_wp2_with fail
          go_region
          all_goals
            go_wp2_with fail
            go_roundw
            case rel =>
              refine ⟨i + 1, by omega, by go_num, take_step HTK.out HY.out ?_, HBD.out⟩
              rw [HZ.out, of_decide_eq_true HBB.out.symm]
            case measure => simp [intOf]; omega
        | false =>
          have hb1 : bb = false := hgd
          subst hb1
          rw [Bool.not_false] at hce
          clear hgd
          go_wp2_with fail
          go_region
          all_goals
            go_wp2_with fail
            refine bodyPost_ret (v := .bool false) (by simp [results, Tryz.results39, go_sem]) rfl ⟨?_, HBW.out.trans (HBD.out.mono HBW.out.size)⟩
            have hne : x.told.got ≠ y.told.got := fun e => by
              have h1 : ¬ u = z := of_decide_eq_false HBB.out.symm
              have h2 := HY.out
              rw [e, HZ.out] at h2
              exact h1 (Option.some.inj h2).symm
            have hb' : b1 = false := by rw [HD1.out, decide_eq_false hne]
            rw [HRR.out, hb']
            simp
      | false =>
        have hb1 : bb = false := by rw [hgd, Bool.false_and]
        subst hb1
        clear hgd hce
        go_wp2_with fail
        go_region
        all_goals
          go_wp2_with fail
          refine bodyPost_ret (v := .bool false) (by simp [results, Tryz.results39, go_sem]) rfl ⟨?_, HBW.out.trans (HBD.out.mono HBW.out.size)⟩
          have hne : x.told.got ≠ y.told.got := fun e => by
            have h1 : ¬ u = z := of_decide_eq_false HBB.out.symm
            have h2 := HY.out
            rw [e, HZ.out] at h2
            exact h1 (Option.some.inj h2).symm
          have hb' : b1 = false := by rw [HD1.out, decide_eq_false hne]
          rw [HRR.out, hb']
          simp
    · have hieq : i = x.told.got.length := by omega
      subst hieq
      have hb' : b1 = true := by rw [HD1.out, decide_eq_true (take_all HTK.out HL1.out)]
      subst hb'
      clear hbd hbo hbr htk HTK HBD hi hlt
      go_wp2_with fail
      go_loopw [6] (fun vi wr => ∃ i : Nat, i ≤ x.told.numbers.length ∧ vi = .int .i64 i ∧ x.told.numbers.take i = y.told.numbers.take i ∧ Below w0.heap.size w0 wr) (fun vi _ => x.told.numbers.length - (intOf vi).toNat)
      case atStart => exact ⟨0, Nat.zero_le _, rfl, rfl, HBX1.out⟩
      case round =>
        obtain ⟨i, hi, rfl, htk, hbr⟩ := hrel
        have HTK := Lib.hid htk
        have HBX2 := Lib.hid hbr
        have hbd : Below w0.heap.size w0 wr.drew := hbr.trans ((Own.refl wr).drew.below.mono hbr.size)
        have hbo : Below w.heap.size w wr.drew := HBW.out.trans (hbd.mono HBW.out.size)
        have HBD := Lib.hid hbd
        have hlI : (0 : Int) ≤ x.told.numbers.length ∧ (x.told.numbers.length : Int) ≤ 100000 := by have := HOK.out.numbers.2; omega
        have hkI : (0 : Int) ≤ y.told.numbers.length ∧ (y.told.numbers.length : Int) ≤ 100000 := by have := HOK2.out.numbers.2; omega
        have c2 : wr.cell? ⟨w.heap.size, 2, none⟩ = some (.slice s.numbers.1 x.told.numbers.length s.numbers.2) := by rw [cell_of_row _ _ _ _ _ _ ((HBX2.out.block _ (blk_lt HB1.out)).trans HB1.out)]; rfl
        by_cases hlt : i < x.told.numbers.length
        · have hlt2 : i < y.told.numbers.length := by rw [← HL2.out]; exact hlt
          have c2' : wr.drew.cell? ⟨w.heap.size, 2, none⟩ = some (.slice s.numbers.1 x.told.numbers.length s.numbers.2) := by rw [cell_of_row _ _ _ _ _ _ ((hbd.block _ (blk_lt HB1.out)).trans HB1.out)]; rfl
          have d2' : wr.drew.cell? ⟨(w.heap.size + 1), 2, none⟩ = some (.slice s2.numbers.1 y.told.numbers.length s2.numbers.2) := by rw [cell_of_row _ _ _ _ _ _ ((hbd.block _ (blk_lt HB2.out)).trans HB2.out)]; rfl
          have hiI : (0 : Int) ≤ i ∧ (i : Int) < x.told.numbers.length ∧ (i : Int) < y.told.numbers.length := by omega
          obtain ⟨g, o, hg, hc⟩ := (HA.out.numbers.keep hbo).row i (by simpa using hlt)
          obtain ⟨g2, o2, hg2, hc2⟩ := (HB.out.numbers.keep hbo).row i (by simpa using hlt2)
          rw [hg] at c2'
          rw [hg2] at d2'
          obtain ⟨u, hu⟩ : ∃ u, u = x.told.numbers[i]'hlt := ⟨_, rfl⟩
          obtain ⟨z, hz⟩ : ∃ z, z = y.told.numbers[i]'hlt2 := ⟨_, rfl⟩
          have e1 : (x.told.numbers.map (fun a : Nat => [Value.int .u64 a]))[i]'(by simpa using hlt) = (fun a : Nat => [Value.int .u64 a]) u := by rw [List.getElem_map, hu]
          have e2 : (y.told.numbers.map (fun a : Nat => [Value.int .u64 a]))[i]'(by simpa using hlt2) = (fun a : Nat => [Value.int .u64 a]) z := by rw [List.getElem_map, hz]
          rw [e1] at hc
          rw [e2] at hc2
          have p0 : wr.drew.cell? ⟨g, o + i, none⟩ = some (.int .u64 u) := by simpa using hc.cell 0 (by simp)
          have r0 : wr.drew.cell? ⟨g2, o2 + i, none⟩ = some (.int .u64 z) := by simpa using hc2.cell 0 (by simp)
          obtain ⟨bb, hbb⟩ : ∃ bb, bb = decide (u = z) := ⟨_, rfl⟩
          have hcmp := nat_bne u z
          rw [← hbb] at hcmp
          have hcm2 := hbb.symm
          have HY : Hid (x.told.numbers[i]? = some u) := Lib.hid (by rw [List.getElem?_eq_getElem hlt, hu])
          have HZ : Hid (y.told.numbers[i]? = some z) := Lib.hid (by rw [List.getElem?_eq_getElem hlt2, hz])
          have HBB := Lib.hid hbb
          clear hc hc2 e1 e2 hu hz hbb hlt hlt2 hbd hbo hbr hg hg2 htk
          cases bb with
          | true =>
            rw [Bool.not_true] at hcmp
            go_wp2_with fail
            go_region
            all_goals
              go_wp2_with fail
              go_roundw
              case rel =>
                refine ⟨i + 1, by omega, by go_num, take_step HTK.out HY.out ?_, HBD.out⟩
                rw [HZ.out, of_decide_eq_true HBB.out.symm]
              case measure => simp [intOf]; omega
          | false =>
            rw [Bool.not_false] at hcmp
            go_wp2_with fail
            go_region
            all_goals
              go_wp2_with fail
              refine bodyPost_ret (v := .bool false) (by simp [results, Tryz.results39, go_sem]) rfl ⟨?_, HBW.out.trans (HBD.out.mono HBW.out.size)⟩
              have hne : x.told.numbers ≠ y.told.numbers := fun e => by
                have h1 : ¬ u = z := of_decide_eq_false HBB.out.symm
                have h2 := HY.out
                rw [e, HZ.out] at h2
                exact h1 (Option.some.inj h2).symm
              have hb' : b2 = false := by rw [HD2.out, decide_eq_false hne]
              rw [HRR.out, hb']
              simp
        · have hieq : i = x.told.numbers.length := by omega
          subst hieq
          have hb' : b2 = true := by rw [HD2.out, decide_eq_true (take_all HTK.out HL2.out)]
          subst hb'
          clear hbd hbo hbr htk HTK HBD hi hlt
          have HCB := Lib.hid (HBW.out.trans (HBX2.out.mono HBW.out.size))
          have c3 : wr.cell? ⟨w.heap.size, 3, none⟩ = some (.slice s.names.1 x.told.names.length s.names.2) := by rw [cell_of_row _ _ _ _ _ _ ((HBX2.out.block _ (blk_lt HB1.out)).trans HB1.out)]; rfl
          have d3 : wr.cell? ⟨(w.heap.size + 1), 3, none⟩ = some (.slice s2.names.1 y.told.names.length s2.names.2) := by rw [cell_of_row _ _ _ _ _ _ ((HBX2.out.block _ (blk_lt HB2.out)).trans HB2.out)]; rfl
          go_wp2_with fail
          refine (ref_names _ _ _ _ x.told.names y.told.names wr (HA.out.names.keep HCB.out).row (HB.out.names.keep HCB.out).row HOK.out.names.2 HOK2.out.names.2).mono ?_
          rintro e v1 ⟨rfl, hv1⟩
          rw [← HD3.out]
          go_wp2_with fail
          exact bodyPost_ret (v := .bool b3) (by simp [results, Tryz.results39, go_sem]) rfl ⟨by rw [HRR.out]; simp, HCB.out.trans (hv1.mono HCB.out.size)⟩

end Go.Proofs.YtjgnomjjphkfbaaGreat
