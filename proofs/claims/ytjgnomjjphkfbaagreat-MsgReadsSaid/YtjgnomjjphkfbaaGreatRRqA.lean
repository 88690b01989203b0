/-
  Joined out of the texts MsgRqA.
-/
import Derived.Test.YtjgnomjjphkfbaaGreatRRq
import Derived.Test.YtjgnomjjphkfbaaGreatREq
import Derived.Deep.DeepCutAuto
namespace Go.Proofs.YtjgnomjjphkfbaaGreat
open Go.RowKit

theorem str_bne (a b : ByteArray) : (!(a.toList == b.toList)) = !decide (a = b) := by rw [str_beq]
theorem neq_bool (a b : Bool) (w : World) : (binOp .neq 4 (.bool a) (.bool b)).run Tryz.prog w = .ok (.bool (!decide (a = b))) w := by
  cases a <;> cases b <;> first | (go_simp; done) | (go_simp; simp)
attribute [local go_sem ↓ high] neq_bool
attribute [local go_sem ↓ high] neq_own
attribute [local go_sem ↓ high] neq_reads
attribute [local go_sem ↓ high] neq_edits
set_option maxRecDepth 20000 in
set_option maxHeartbeats 16000000 in
theorem ref_asks (s s2 : MS) (x y : Mg.Msg) (w : World) (ha : MsgA w s x) (hb : MsgA w s2 y) (ok : x.Good) (ok2 : y.Good) :
    Calls Tryz.prog 36 #[.agg (askV s x), .agg (askV s2 y)] w fun e w' => e = .returned (.bool (decide (x.ask = y.ask))) ∧ Below w.heap.size w w' := by
  obtain ⟨w0, hw0⟩ : ∃ w0, w0 = (w.alloc (.cells (askV s x) 33 (0, 0))).alloc (.cells (askV s2 y) 33 (0, 0)) := ⟨_, rfl⟩
  have HW0 := Lib.hid hw0
  have HB1 : Hid (w0.heap[w.heap.size]? = some (.cells (askV s x) 33 (0, 0))) := Lib.hid (by
    rw [hw0, Below.heap_alloc _ _ _ (by simp)]; exact heap_alloc_new w _)
  have HB2 : Hid (w0.heap[w.heap.size + 1]? = some (.cells (askV s2 y) 33 (0, 0))) := Lib.hid (by
    rw [hw0]
    have := heap_alloc_new (w.alloc (.cells (askV s x) 33 (0, 0))) (.cells (askV s2 y) 33 (0, 0))
    rw [World.size_alloc] at this
    exact this)
  have HBW : Hid (Below w.heap.size w w0) := Lib.hid (by rw [hw0]; exact (((Own.refl w).alloc _).alloc _).below)
  have HA := Lib.hid ha
  have HB := Lib.hid hb
  have HOK := Lib.hid ok
  have HOK2 := Lib.hid ok2
  obtain ⟨R, hR⟩ : ∃ R, R = decide (x.ask = y.ask) := ⟨_, rfl⟩
  rw [← hR]
  have HRR := Lib.hid (hR.trans (ask_dec x.ask y.ask))
  clear hw0 ha hb ok ok2 hR
  obtain ⟨b0, hb0⟩ : ∃ b, b = decide (x.ask.shard = y.ask.shard) := ⟨_, rfl⟩
  rw [← hb0] at HRR
  have g0 := nat_bne x.ask.shard y.ask.shard
  rw [← hb0] at g0
  obtain ⟨e0, he0⟩ : ∃ e, e = !b0 := ⟨_, rfl⟩
  rw [← he0] at g0
  have q0 : b0 = !e0 := by rw [he0, Bool.not_not]
  rw [q0] at HRR
  clear q0 hb0 he0
  obtain ⟨b1, hb1⟩ : ∃ b, b = decide (x.ask.reads = y.ask.reads) := ⟨_, rfl⟩
  rw [← hb1] at HRR
  have HD1 := Lib.hid hb1
  clear hb1
  obtain ⟨b2, hb2⟩ : ∃ b, b = decide (x.ask.readAt = y.ask.readAt) := ⟨_, rfl⟩
  rw [← hb2] at HRR
  have HD2 := Lib.hid hb2
  clear hb2
  obtain ⟨b3, hb3⟩ : ∃ b, b = decide (x.ask.edits = y.ask.edits) := ⟨_, rfl⟩
  rw [← hb3] at HRR
  have HD3 := Lib.hid hb3
  clear hb3
  obtain ⟨b4, hb4⟩ : ∃ b, b = decide (x.ask.editAt = y.ask.editAt) := ⟨_, rfl⟩
  rw [← hb4] at HRR
  have HD4 := Lib.hid hb4
  clear hb4
  obtain ⟨b5, hb5⟩ : ∃ b, b = decide (x.ask.list = y.ask.list) := ⟨_, rfl⟩
  rw [← hb5] at HRR
  have g5 := hb5.symm
  obtain ⟨e5, he5⟩ : ∃ e, e = !b5 := ⟨_, rfl⟩
  have q5 : b5 = !e5 := by rw [he5, Bool.not_not]
  rw [q5] at HRR g5
  clear q5 hb5 he5
  obtain ⟨b6, hb6⟩ : ∃ b, b = decide (x.ask.pre = y.ask.pre) := ⟨_, rfl⟩
  rw [← hb6] at HRR
  have g6 := str_bne x.ask.pre y.ask.pre
  rw [← hb6] at g6
  obtain ⟨e6, he6⟩ : ∃ e, e = !b6 := ⟨_, rfl⟩
  rw [← he6] at g6
  have q6 : b6 = !e6 := by rw [he6, Bool.not_not]
  rw [q6] at HRR
  clear q6 hb6 he6
  obtain ⟨b7, hb7⟩ : ∃ b, b = decide (x.ask.give = y.ask.give) := ⟨_, rfl⟩
  rw [← hb7] at HRR
  have g7 := hb7.symm
  obtain ⟨e7, he7⟩ : ∃ e, e = !b7 := ⟨_, rfl⟩
  have q7 : b7 = !e7 := by rw [he7, Bool.not_not]
  rw [q7] at HRR g7
  clear q7 hb7 he7
  obtain ⟨b8, hb8⟩ : ∃ b, b = decide (x.ask.take = y.ask.take) := ⟨_, rfl⟩
  rw [← hb8] at HRR
  have g8 := hb8.symm
  obtain ⟨e8, he8⟩ : ∃ e, e = !b8 := ⟨_, rfl⟩
  have q8 : b8 = !e8 := by rw [he8, Bool.not_not]
  rw [q8] at HRR g8
  clear q8 hb8 he8
  obtain ⟨b9, hb9⟩ : ∃ b, b = decide (x.ask.range = y.ask.range) := ⟨_, rfl⟩
  rw [← hb9] at HRR
  have g9 := hb9.symm
  obtain ⟨e9, he9⟩ : ∃ e, e = !b9 := ⟨_, rfl⟩
  have q9 : b9 = !e9 := by rw [he9, Bool.not_not]
  rw [q9] at HRR g9
  clear q9 hb9 he9
  have n1 := nat_bne x.ask.reads.length y.ask.reads.length
  obtain ⟨f1, hf1⟩ : ∃ f, f = !decide (x.ask.reads.length = y.ask.reads.length) := ⟨_, rfl⟩
  rw [← hf1] at n1
  have HF1 : Hid (f1 = true → b1 = false) := Lib.hid (fun h => by
    rw [HD1.out, decide_eq_false]
    intro e
    rw [hf1, e] at h
    simp at h)
  have HG1 : Hid (f1 = false → x.ask.reads.length = y.ask.reads.length) := Lib.hid (fun h => by
    rw [hf1] at h
    simpa using h)
  clear hf1
  have n3 := nat_bne x.ask.edits.length y.ask.edits.length
  obtain ⟨f3, hf3⟩ : ∃ f, f = !decide (x.ask.edits.length = y.ask.edits.length) := ⟨_, rfl⟩
  rw [← hf3] at n3
  have HF3 : Hid (f3 = true → b3 = false) := Lib.hid (fun h => by
    rw [HD3.out, decide_eq_false]
    intro e
    rw [hf3, e] at h
    simp at h)
  have HG3 : Hid (f3 = false → x.ask.edits.length = y.ask.edits.length) := Lib.hid (fun h => by
    rw [hf3] at h
    simpa using h)
  clear hf3
  go_enter Tryz.func36, Tryz.ntmps36
  go_upto_region 1 with (fail)
  rw [← HW0.out]
  clear HW0
  have c0 : w0.cell? ⟨w.heap.size, 0, none⟩ = some (.int .u32 x.ask.shard) := by rw [cell_of_row _ _ _ _ _ _ (HB1.out)]; rfl
  have d0 : w0.cell? ⟨(w.heap.size + 1), 0, none⟩ = some (.int .u32 y.ask.shard) := by rw [cell_of_row _ _ _ _ _ _ (HB2.out)]; rfl
  have c1 : w0.cell? ⟨w.heap.size, 1, none⟩ = some (.slice s.reads.1 x.ask.reads.length s.reads.2) := by rw [cell_of_row _ _ _ _ _ _ (HB1.out)]; rfl
  have d1 : w0.cell? ⟨(w.heap.size + 1), 1, none⟩ = some (.slice s2.reads.1 y.ask.reads.length s2.reads.2) := by rw [cell_of_row _ _ _ _ _ _ (HB2.out)]; rfl
  have c3 : w0.cell? ⟨w.heap.size, 3, none⟩ = some (.slice s.edits.1 x.ask.edits.length s.edits.2) := by rw [cell_of_row _ _ _ _ _ _ (HB1.out)]; rfl
  have d3 : w0.cell? ⟨(w.heap.size + 1), 3, none⟩ = some (.slice s2.edits.1 y.ask.edits.length s2.edits.2) := by rw [cell_of_row _ _ _ _ _ _ (HB2.out)]; rfl
  have c5 : w0.cell? ⟨w.heap.size, 5, none⟩ = some (.bool x.ask.list) := by rw [cell_of_row _ _ _ _ _ _ (HB1.out)]; rfl
  have d5 : w0.cell? ⟨(w.heap.size + 1), 5, none⟩ = some (.bool y.ask.list) := by rw [cell_of_row _ _ _ _ _ _ (HB2.out)]; rfl
  have c6 : w0.cell? ⟨w.heap.size, 6, none⟩ = some (.string x.ask.pre) := by rw [cell_of_row _ _ _ _ _ _ (HB1.out)]; rfl
  have d6 : w0.cell? ⟨(w.heap.size + 1), 6, none⟩ = some (.string y.ask.pre) := by rw [cell_of_row _ _ _ _ _ _ (HB2.out)]; rfl
  have c7 : w0.cell? ⟨w.heap.size, 7, none⟩ = some (.bool x.ask.give) := by rw [cell_of_row _ _ _ _ _ _ (HB1.out)]; rfl
  have d7 : w0.cell? ⟨(w.heap.size + 1), 7, none⟩ = some (.bool y.ask.give) := by rw [cell_of_row _ _ _ _ _ _ (HB2.out)]; rfl
  have c8 : w0.cell? ⟨w.heap.size, 8, none⟩ = some (.bool x.ask.take) := by rw [cell_of_row _ _ _ _ _ _ (HB1.out)]; rfl
  have d8 : w0.cell? ⟨(w.heap.size + 1), 8, none⟩ = some (.bool y.ask.take) := by rw [cell_of_row _ _ _ _ _ _ (HB2.out)]; rfl
  have c9 : w0.cell? ⟨w.heap.size, 9, none⟩ = some (.int .u64 x.ask.range.frm) := by rw [cell_of_row _ _ _ _ _ _ (HB1.out)]; rfl
  have d9 : w0.cell? ⟨(w.heap.size + 1), 9, none⟩ = some (.int .u64 y.ask.range.frm) := by rw [cell_of_row _ _ _ _ _ _ (HB2.out)]; rfl
  have c10 : w0.cell? ⟨w.heap.size, 10, none⟩ = some (.int .u64 x.ask.range.top) := by rw [cell_of_row _ _ _ _ _ _ (HB1.out)]; rfl
  have d10 : w0.cell? ⟨(w.heap.size + 1), 10, none⟩ = some (.int .u64 y.ask.range.top) := by rw [cell_of_row _ _ _ _ _ _ (HB2.out)]; rfl
  repeat' (first
  | (rename_i hh; have ht : (_ : Bool) = true := hh; subst ht; clear hh)
  | (rename_i hh; have hf := Bool.eq_false_iff.mpr hh; subst hf; clear hh)
  | go_values | go_skip | go_guarded | go_step | go_upon | go_back)
  all_goals try exact bodyPost_ret (v := .bool false) (by simp [results, Tryz.results36, go_sem]) rfl ⟨by rw [HRR.out]; first | (simp; done) | (rw [HF1.out rfl]; simp; done) | (rw [HF3.out rfl]; simp; done), HBW.out⟩
  have hq : f3 = false := by assumption
  subst hq
  have hln1 := HG1.out rfl
  have HL1 := Lib.hid hln1
  have hln3 := HG3.out rfl
  have HL3 := Lib.hid hln3
  go_wp2_with fail
  go_loopw [5] (fun vi wr => ∃ i : Nat, i ≤ x.ask.reads.length ∧ vi = .int .i64 i ∧ x.ask.reads.take i = y.ask.reads.take i ∧ Below w0.heap.size w0 wr) (fun vi _ => x.ask.reads.length - (intOf vi).toNat)
  case atStart => exact ⟨0, Nat.zero_le _, rfl, rfl, Below.refl _ _⟩
  case round =>
    obtain ⟨i, hi, rfl, htk, hbr⟩ := hrel
    have HTK := Lib.hid htk
    have HBX1 := Lib.hid hbr
    have hbd : Below w0.heap.size w0 wr.drew := hbr.trans ((Own.refl wr).drew.below.mono hbr.size)
    have hbo : Below w.heap.size w wr.drew := HBW.out.trans (hbd.mono HBW.out.size)
    have HBD := Lib.hid hbd
    have hlI : (0 : Int) ≤ x.ask.reads.length ∧ (x.ask.reads.length : Int) ≤ 100000 := by have := HOK.out.reads.2; omega
    have hkI : (0 : Int) ≤ y.ask.reads.length ∧ (y.ask.reads.length : Int) ≤ 100000 := by have := HOK2.out.reads.2; omega
    have c1 : wr.cell? ⟨w.heap.size, 1, none⟩ = some (.slice s.reads.1 x.ask.reads.length s.reads.2) := by rw [cell_of_row _ _ _ _ _ _ ((HBX1.out.block _ (blk_lt HB1.out)).trans HB1.out)]; rfl
    by_cases hlt : i < x.ask.reads.length
    · have hlt2 : i < y.ask.reads.length := by rw [← HL1.out]; exact hlt
      have c1' : wr.drew.cell? ⟨w.heap.size, 1, none⟩ = some (.slice s.reads.1 x.ask.reads.length s.reads.2) := by rw [cell_of_row _ _ _ _ _ _ ((hbd.block _ (blk_lt HB1.out)).trans HB1.out)]; rfl
      have d1' : wr.drew.cell? ⟨(w.heap.size + 1), 1, none⟩ = some (.slice s2.reads.1 y.ask.reads.length s2.reads.2) := by rw [cell_of_row _ _ _ _ _ _ ((hbd.block _ (blk_lt HB2.out)).trans HB2.out)]; rfl
      have hiI : (0 : Int) ≤ i ∧ (i : Int) < x.ask.reads.length ∧ (i : Int) < y.ask.reads.length := by omega
      obtain ⟨g, o, hg, hc⟩ := (HA.out.reads.keep hbo).row i (by simpa using hlt)
      obtain ⟨g2, o2, hg2, hc2⟩ := (HB.out.reads.keep hbo).row i (by simpa using hlt2)
      rw [hg] at c1'
      rw [hg2] at d1'
      obtain ⟨u, hu⟩ : ∃ u, u = x.ask.reads[i]'hlt := ⟨_, rfl⟩
      obtain ⟨z, hz⟩ : ∃ z, z = y.ask.reads[i]'hlt2 := ⟨_, rfl⟩
      have e1 : (x.ask.reads.map Mg.Rd.cells)[i]'(by simpa using hlt) = Mg.Rd.cells u := by rw [List.getElem_map, hu]
      have e2 : (y.ask.reads.map Mg.Rd.cells)[i]'(by simpa using hlt2) = Mg.Rd.cells z := by rw [List.getElem_map, hz]
      rw [e1] at hc
      rw [e2] at hc2
      have p0 : wr.drew.cell? ⟨g, o + i * 2, none⟩ = some (.string u.p) := hc.cell 0 (by simp)
      have r0 : wr.drew.cell? ⟨g2, o2 + i * 2, none⟩ = some (.string z.p) := hc2.cell 0 (by simp)
      have p1 : wr.drew.cell? ⟨g, o + i * 2 + 1, none⟩ = some (.int .u64 u.n) := hc.cell 1 (by simp)
      have r1 : wr.drew.cell? ⟨g2, o2 + i * 2 + 1, none⟩ = some (.int .u64 z.n) := hc2.cell 1 (by simp)
      obtain ⟨bb, hbb⟩ : ∃ bb, bb = decide (u = z) := ⟨_, rfl⟩
      have hcm2 := hbb.symm
      have HY : Hid (x.ask.reads[i]? = some u) := Lib.hid (by rw [List.getElem?_eq_getElem hlt, hu])
      have HZ : Hid (y.ask.reads[i]? = some z) := Lib.hid (by rw [List.getElem?_eq_getElem hlt2, hz])
      have HBB := Lib.hid hbb
      clear hc hc2 e1 e2 hu hz hbb hlt hlt2 hbd hbo hbr hg hg2 htk
      cases bb with
      | true =>
        go_wp2_with fail
        go_region
        all_goals
          go_wp2_with fail
          go_roundw
          case rel =>
            refine ⟨i + 1, by omega, by go_num, take_step HTK.out HY.out ?_, HBD.out⟩
            rw [HZ.out, of_decide_eq_true HBB.out.symm]
          case measure => simp [intOf]; omega
      | false =>
        go_wp2_with fail
        go_region
        all_goals
          go_wp2_with fail
          refine bodyPost_ret (v := .bool false) (by simp [results, Tryz.results36, go_sem]) rfl ⟨?_, HBW.out.trans (HBD.out.mono HBW.out.size)⟩
          have hne : x.ask.reads ≠ y.ask.reads := fun e => by
            have h1 : ¬ u = z := of_decide_eq_false HBB.out.symm
            have h2 := HY.out
            rw [e, HZ.out] at h2
            exact h1 (Option.some.inj h2).symm
          have hb' : b1 = false := by rw [HD1.out, decide_eq_false hne]
          rw [HRR.out, hb']
          simp
    · have hieq : i = x.ask.reads.length := by omega
      subst hieq
      have hb' : b1 = true := by rw [HD1.out, decide_eq_true (take_all HTK.out HL1.out)]
      subst hb'
      clear hbd hbo hbr htk HTK HBD hi hlt
      go_wp2_with fail
      go_loopw [6] (fun vi wr => ∃ i : Nat, i ≤ x.ask.edits.length ∧ vi = .int .i64 i ∧ x.ask.edits.take i = y.ask.edits.take i ∧ Below w0.heap.size w0 wr) (fun vi _ => x.ask.edits.length - (intOf vi).toNat)
      case atStart => exact ⟨0, Nat.zero_le _, rfl, rfl, HBX1.out⟩
      case round =>
        obtain ⟨i, hi, rfl, htk, hbr⟩ := hrel
        have HTK := Lib.hid htk
        have HBX2 := Lib.hid hbr
        have hbd : Below w0.heap.size w0 wr.drew := hbr.trans ((Own.refl wr).drew.below.mono hbr.size)
        have hbo : Below w.heap.size w wr.drew := HBW.out.trans (hbd.mono HBW.out.size)
        have HBD := Lib.hid hbd
        have hlI : (0 : Int) ≤ x.ask.edits.length ∧ (x.ask.edits.length : Int) ≤ 100000 := by have := HOK.out.edits.2; omega
        have hkI : (0 : Int) ≤ y.ask.edits.length ∧ (y.ask.edits.length : Int) ≤ 100000 := by have := HOK2.out.edits.2; omega
        have c3 : wr.cell? ⟨w.heap.size, 3, none⟩ = some (.slice s.edits.1 x.ask.edits.length s.edits.2) := by rw [cell_of_row _ _ _ _ _ _ ((HBX2.out.block _ (blk_lt HB1.out)).trans HB1.out)]; rfl
        by_cases hlt : i < x.ask.edits.length
        · have hlt2 : i < y.ask.edits.length := by rw [← HL3.out]; exact hlt
          have c3' : wr.drew.cell? ⟨w.heap.size, 3, none⟩ = some (.slice s.edits.1 x.ask.edits.length s.edits.2) := by rw [cell_of_row _ _ _ _ _ _ ((hbd.block _ (blk_lt HB1.out)).trans HB1.out)]; rfl
          have d3' : wr.drew.cell? ⟨(w.heap.size + 1), 3, none⟩ = some (.slice s2.edits.1 y.ask.edits.length s2.edits.2) := by rw [cell_of_row _ _ _ _ _ _ ((hbd.block _ (blk_lt HB2.out)).trans HB2.out)]; rfl
          have hiI : (0 : Int) ≤ i ∧ (i : Int) < x.ask.edits.length ∧ (i : Int) < y.ask.edits.length := by omega
          obtain ⟨g, o, hg, hc⟩ := (HA.out.edits.keep hbo).row i (by simpa using hlt)
          obtain ⟨g2, o2, hg2, hc2⟩ := (HB.out.edits.keep hbo).row i (by simpa using hlt2)
          rw [hg] at c3'
          rw [hg2] at d3'
          obtain ⟨u, hu⟩ : ∃ u, u = x.ask.edits[i]'hlt := ⟨_, rfl⟩
          obtain ⟨z, hz⟩ : ∃ z, z = y.ask.edits[i]'hlt2 := ⟨_, rfl⟩
          have e1 : (x.ask.edits.map Mg.Ed.cells)[i]'(by simpa using hlt) = Mg.Ed.cells u := by rw [List.getElem_map, hu]
          have e2 : (y.ask.edits.map Mg.Ed.cells)[i]'(by simpa using hlt2) = Mg.Ed.cells z := by rw [List.getElem_map, hz]
          rw [e1] at hc
          rw [e2] at hc2
          have p0 : wr.drew.cell? ⟨g, o + i * 6, none⟩ = some (.int .u8 u.kind) := hc.cell 0 (by simp)
          have r0 : wr.drew.cell? ⟨g2, o2 + i * 6, none⟩ = some (.int .u8 z.kind) := hc2.cell 0 (by simp)
          have p1 : wr.drew.cell? ⟨g, o + i * 6 + 1, none⟩ = some (.string u.p) := hc.cell 1 (by simp)
          have r1 : wr.drew.cell? ⟨g2, o2 + i * 6 + 1, none⟩ = some (.string z.p) := hc2.cell 1 (by simp)
          have p2 : wr.drew.cell? ⟨g, o + i * 6 + 2, none⟩ = some (.bool u.any) := hc.cell 2 (by simp)
          have r2 : wr.drew.cell? ⟨g2, o2 + i * 6 + 2, none⟩ = some (.bool z.any) := hc2.cell 2 (by simp)
          have p3 : wr.drew.cell? ⟨g, o + i * 6 + 3, none⟩ = some (.int .u64 u.want) := hc.cell 3 (by simp)
          have r3 : wr.drew.cell? ⟨g2, o2 + i * 6 + 3, none⟩ = some (.int .u64 z.want) := hc2.cell 3 (by simp)
          have p4 : wr.drew.cell? ⟨g, o + i * 6 + 4, none⟩ = some (.int .u64 u.n) := hc.cell 4 (by simp)
          have r4 : wr.drew.cell? ⟨g2, o2 + i * 6 + 4, none⟩ = some (.int .u64 z.n) := hc2.cell 4 (by simp)
          have p5 : wr.drew.cell? ⟨g, o + i * 6 + 5, none⟩ = some (.string u.t) := hc.cell 5 (by simp)
          have r5 : wr.drew.cell? ⟨g2, o2 + i * 6 + 5, none⟩ = some (.string z.t) := hc2.cell 5 (by simp)
          obtain ⟨bb, hbb⟩ : ∃ bb, bb = decide (u = z) := ⟨_, rfl⟩
          have hcm2 := hbb.symm
          have HY : Hid (x.ask.edits[i]? = some u) := Lib.hid (by rw [List.getElem?_eq_getElem hlt, hu])
          have HZ : Hid (y.ask.edits[i]? = some z) := Lib.hid (by rw [List.getElem?_eq_getElem hlt2, hz])
          have HBB := Lib.hid hbb
          clear hc hc2 e1 e2 hu hz hbb hlt hlt2 hbd hbo hbr hg hg2 htk
          cases bb with
          | true =>
            go_wp2_with fail
            go_region
            all_goals
              go_wp2_with fail
              go_roundw
              case rel =>
                refine ⟨i + 1, by omega, by go_num, take_step HTK.out HY.out ?_, HBD.out⟩
                rw [HZ.out, of_decide_eq_true HBB.out.symm]
              case measure => simp [intOf]; omega
          | false =>
            go_wp2_with fail
            go_region
            all_goals
              go_wp2_with fail
              refine bodyPost_ret (v := .bool false) (by simp [results, Tryz.results36, go_sem]) rfl ⟨?_, HBW.out.trans (HBD.out.mono HBW.out.size)⟩
              have hne : x.ask.edits ≠ y.ask.edits := fun e => by
                have h1 : ¬ u = z := of_decide_eq_false HBB.out.symm
                have h2 := HY.out
                rw [e, HZ.out] at h2
                exact h1 (Option.some.inj h2).symm
              have hb' : b3 = false := by rw [HD3.out, decide_eq_false hne]
              rw [HRR.out, hb']
              simp
        · have hieq : i = x.ask.edits.length := by omega
          subst hieq
          have hb' : b3 = true := by rw [HD3.out, decide_eq_true (take_all HTK.out HL3.out)]
          subst hb'
          clear hbd hbo hbr htk HTK HBD hi hlt
          have HCB := Lib.hid (HBW.out.trans (HBX2.out.mono HBW.out.size))
          have c2 : wr.cell? ⟨w.heap.size, 2, none⟩ = some (.slice s.readAt.1 x.ask.readAt.length s.readAt.2) := by rw [cell_of_row _ _ _ _ _ _ ((HBX2.out.block _ (blk_lt HB1.out)).trans HB1.out)]; rfl
          have d2 : wr.cell? ⟨(w.heap.size + 1), 2, none⟩ = some (.slice s2.readAt.1 y.ask.readAt.length s2.readAt.2) := by rw [cell_of_row _ _ _ _ _ _ ((HBX2.out.block _ (blk_lt HB2.out)).trans HB2.out)]; rfl
          go_wp2_with fail
          refine (ref_ints _ _ _ _ x.ask.readAt y.ask.readAt wr (HA.out.readAt.keep HCB.out).row (HB.out.readAt.keep HCB.out).row HOK.out.readAt.2 HOK2.out.readAt.2).mono ?_
          rintro e v1 ⟨rfl, hv1⟩
          rw [← HD2.out]
          have HV1 := Lib.hid (HBX2.out.trans (hv1.mono HBX2.out.size))
          have HCB1 := Lib.hid (HBW.out.trans (HV1.out.mono HBW.out.size))
          have c4 : v1.cell? ⟨w.heap.size, 4, none⟩ = some (.slice s.editAt.1 x.ask.editAt.length s.editAt.2) := by rw [cell_of_row _ _ _ _ _ _ ((HV1.out.block _ (blk_lt HB1.out)).trans HB1.out)]; rfl
          have d4 : v1.cell? ⟨(w.heap.size + 1), 4, none⟩ = some (.slice s2.editAt.1 y.ask.editAt.length s2.editAt.2) := by rw [cell_of_row _ _ _ _ _ _ ((HV1.out.block _ (blk_lt HB2.out)).trans HB2.out)]; rfl
          clear HD2 hv1
          cases b2 with
          | false =>
            go_wp2_with fail
            exact bodyPost_ret (v := .bool false) (by simp [results, Tryz.results36, go_sem]) rfl ⟨by rw [HRR.out]; simp, HCB1.out⟩
          | true =>
            go_wp2_with fail
            refine (ref_ints _ _ _ _ x.ask.editAt y.ask.editAt v1 (HA.out.editAt.keep HCB1.out).row (HB.out.editAt.keep HCB1.out).row HOK.out.editAt.2 HOK2.out.editAt.2).mono ?_
            rintro e v2 ⟨rfl, hv2⟩
            rw [← HD4.out]
            go_wp2_with fail
            exact bodyPost_ret (v := .bool b4) (by simp [results, Tryz.results36, go_sem]) rfl ⟨by rw [HRR.out]; simp, HCB1.out.trans (hv2.mono HCB1.out.size)⟩

end Go.Proofs.YtjgnomjjphkfbaaGreat
