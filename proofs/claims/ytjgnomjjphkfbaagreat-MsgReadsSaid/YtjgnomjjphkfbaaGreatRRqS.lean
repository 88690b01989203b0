/-
  Joined out of the texts MsgRqS.
-/
import Derived.Test.YtjgnomjjphkfbaaGreatRRqT
import Derived.Test.YtjgnomjjphkfbaaGreatRRq
namespace Go.Proofs.YtjgnomjjphkfbaaGreat
open Go.RowKit

theorem neq_tx (y z : Mg.Tx) (w : World) : (binOp .neq 24 (.agg #[.int .u64 y.life, .int .u64 y.n]) (.agg #[.int .u64 z.life, .int .u64 z.n])).run Tryz.prog w = .ok (.bool (!decide (y = z))) w := by
  obtain ⟨a0, a1⟩ := y
  obtain ⟨b0, b1⟩ := z
  by_cases h0 : a0 = b0
  · subst h0
    by_cases h1 : a1 = b1
    · subst h1
      first | (go_simp; done) | (go_simp; simp)
    · have : ¬ (a1 : Int) = b1 := by omega
      first | (go_simp; done) | (go_simp; simp_all)
  · have : ¬ (a0 : Int) = b0 := by omega
    first | (go_simp; done) | (go_simp; simp_all)
attribute [local go_sem ↓ high] neq_bool
attribute [local go_sem ↓ high] neq_tx
attribute [local go_sem ↓ high] ldAsk_eq
attribute [local go_sem ↓ high] ldTold_eq
set_option maxRecDepth 20000 in
set_option maxHeartbeats 16000000 in
theorem ref_same (s s2 : MS) (x y : Mg.Msg) (w : World) (ha : MsgA w s x) (hb : MsgA w s2 y) (ok : x.Good) (ok2 : y.Good) :
    Calls Tryz.prog 14 #[.agg (MV s x), .agg (MV s2 y)] w fun e w' => e = .returned (.bool (decide (x = y))) ∧ Below w.heap.size w w' := by
  obtain ⟨w0, hw0⟩ : ∃ w0, w0 = (w.alloc (.cells (MV s x) 43 (0, 0))).alloc (.cells (MV s2 y) 43 (0, 0)) := ⟨_, rfl⟩
  have HW0 := Lib.hid hw0
  have HB1 : Hid (w0.heap[w.heap.size]? = some (.cells (MV s x) 43 (0, 0))) := Lib.hid (by
    rw [hw0, Below.heap_alloc _ _ _ (by simp)]; exact heap_alloc_new w _)
  have HB2 : Hid (w0.heap[w.heap.size + 1]? = some (.cells (MV s2 y) 43 (0, 0))) := Lib.hid (by
    rw [hw0]
    have := heap_alloc_new (w.alloc (.cells (MV s x) 43 (0, 0))) (.cells (MV s2 y) 43 (0, 0))
    rw [World.size_alloc] at this
    exact this)
  have HBW : Hid (Below w.heap.size w w0) := Lib.hid (by rw [hw0]; exact (((Own.refl w).alloc _).alloc _).below)
  have HA := Lib.hid ha
  have HB := Lib.hid hb
  have HOK := Lib.hid ok
  have HOK2 := Lib.hid ok2
  obtain ⟨R, hR⟩ : ∃ R, R = decide (x = y) := ⟨_, rfl⟩
  rw [← hR]
  have HRR := Lib.hid (hR.trans (msg_dec x y))
  clear hw0 ha hb ok ok2 hR
  obtain ⟨b0, hb0⟩ : ∃ b, b = decide (x.ask = y.ask) := ⟨_, rfl⟩
  rw [← hb0] at HRR
  have HD0 := Lib.hid hb0
  clear hb0
  obtain ⟨b1, hb1⟩ : ∃ b, b = decide (x.told = y.told) := ⟨_, rfl⟩
  rw [← hb1] at HRR
  have HD1 := Lib.hid hb1
  clear hb1
  obtain ⟨b2, hb2⟩ : ∃ b, b = decide (x.kind = y.kind) := ⟨_, rfl⟩
  rw [← hb2] at HRR
  have g2 := nat_bne x.kind y.kind
  rw [← hb2] at g2
  obtain ⟨e2, he2⟩ : ∃ e, e = !b2 := ⟨_, rfl⟩
  rw [← he2] at g2
  have q2 : b2 = !e2 := by rw [he2, Bool.not_not]
  rw [q2] at HRR
  clear q2 hb2 he2
  obtain ⟨b3, hb3⟩ : ∃ b, b = decide (x.tx = y.tx) := ⟨_, rfl⟩
  rw [← hb3] at HRR
  have g3 := hb3.symm
  obtain ⟨e3, he3⟩ : ∃ e, e = !b3 := ⟨_, rfl⟩
  have q3 : b3 = !e3 := by rw [he3, Bool.not_not]
  rw [q3] at HRR g3
  clear q3 hb3 he3
  obtain ⟨b4, hb4⟩ : ∃ b, b = decide (x.low = y.low) := ⟨_, rfl⟩
  rw [← hb4] at HRR
  have g4 := hb4.symm
  obtain ⟨e4, he4⟩ : ∃ e, e = !b4 := ⟨_, rfl⟩
  have q4 : b4 = !e4 := by rw [he4, Bool.not_not]
  rw [q4] at HRR g4
  clear q4 hb4 he4
  obtain ⟨b5, hb5⟩ : ∃ b, b = decide (x.map = y.map) := ⟨_, rfl⟩
  rw [← hb5] at HRR
  have g5 := nat_bne x.map y.map
  rw [← hb5] at g5
  obtain ⟨e5, he5⟩ : ∃ e, e = !b5 := ⟨_, rfl⟩
  rw [← he5] at g5
  have q5 : b5 = !e5 := by rw [he5, Bool.not_not]
  rw [q5] at HRR
  clear q5 hb5 he5
  obtain ⟨b6, hb6⟩ : ∃ b, b = decide (x.parts = y.parts) := ⟨_, rfl⟩
  rw [← hb6] at HRR
  have HD6 := Lib.hid hb6
  clear hb6
  obtain ⟨b7, hb7⟩ : ∃ b, b = decide (x.rows = y.rows) := ⟨_, rfl⟩
  rw [← hb7] at HRR
  have HD7 := Lib.hid hb7
  clear hb7
  obtain ⟨b8, hb8⟩ : ∃ b, b = decide (x.next = y.next) := ⟨_, rfl⟩
  rw [← hb8] at HRR
  have g8 := nat_bne x.next y.next
  rw [← hb8] at g8
  obtain ⟨e8, he8⟩ : ∃ e, e = !b8 := ⟨_, rfl⟩
  rw [← he8] at g8
  have q8 : b8 = !e8 := by rw [he8, Bool.not_not]
  rw [q8] at HRR
  clear q8 hb8 he8
  obtain ⟨b9, hb9⟩ : ∃ b, b = decide (x.own = y.own) := ⟨_, rfl⟩
  rw [← hb9] at HRR
  have HD9 := Lib.hid hb9
  clear hb9
  obtain ⟨b10, hb10⟩ : ∃ b, b = decide (x.commit = y.commit) := ⟨_, rfl⟩
  rw [← hb10] at HRR
  have g10 := hb10.symm
  obtain ⟨e10, he10⟩ : ∃ e, e = !b10 := ⟨_, rfl⟩
  have q10 : b10 = !e10 := by rw [he10, Bool.not_not]
  rw [q10] at HRR g10
  clear q10 hb10 he10
  obtain ⟨b11, hb11⟩ : ∃ b, b = decide (x.err = y.err) := ⟨_, rfl⟩
  rw [← hb11] at HRR
  have g11 := int_bne x.err y.err
  rw [← hb11] at g11
  obtain ⟨e11, he11⟩ : ∃ e, e = !b11 := ⟨_, rfl⟩
  rw [← he11] at g11
  have q11 : b11 = !e11 := by rw [he11, Bool.not_not]
  rw [q11] at HRR
  clear q11 hb11 he11
  obtain ⟨b12, hb12⟩ : ∃ b, b = decide (x.state = y.state) := ⟨_, rfl⟩
  rw [← hb12] at HRR
  have g12 := nat_bne x.state y.state
  rw [← hb12] at g12
  obtain ⟨e12, he12⟩ : ∃ e, e = !b12 := ⟨_, rfl⟩
  rw [← he12] at g12
  have q12 : b12 = !e12 := by rw [he12, Bool.not_not]
  rw [q12] at HRR
  clear q12 hb12 he12
  go_enter Tryz.func14, Tryz.ntmps14
  go_upto_region 1 with (fail)
  rw [← HW0.out]
  clear HW0
  have c0 : w0.cell? ⟨w.heap.size, 0, none⟩ = some (.int .u8 x.kind) := by rw [cell_of_row _ _ _ _ _ _ (HB1.out)]; rfl
  have d0 : w0.cell? ⟨(w.heap.size + 1), 0, none⟩ = some (.int .u8 y.kind) := by rw [cell_of_row _ _ _ _ _ _ (HB2.out)]; rfl
  have c1 : w0.cell? ⟨w.heap.size, 1, none⟩ = some (.int .u64 x.tx.life) := by rw [cell_of_row _ _ _ _ _ _ (HB1.out)]; rfl
  have d1 : w0.cell? ⟨(w.heap.size + 1), 1, none⟩ = some (.int .u64 y.tx.life) := by rw [cell_of_row _ _ _ _ _ _ (HB2.out)]; rfl
  have c2 : w0.cell? ⟨w.heap.size, 2, none⟩ = some (.int .u64 x.tx.n) := by rw [cell_of_row _ _ _ _ _ _ (HB1.out)]; rfl
  have d2 : w0.cell? ⟨(w.heap.size + 1), 2, none⟩ = some (.int .u64 y.tx.n) := by rw [cell_of_row _ _ _ _ _ _ (HB2.out)]; rfl
  have c3 : w0.cell? ⟨w.heap.size, 3, none⟩ = some (.int .u64 x.low.life) := by rw [cell_of_row _ _ _ _ _ _ (HB1.out)]; rfl
  have d3 : w0.cell? ⟨(w.heap.size + 1), 3, none⟩ = some (.int .u64 y.low.life) := by rw [cell_of_row _ _ _ _ _ _ (HB2.out)]; rfl
  have c4 : w0.cell? ⟨w.heap.size, 4, none⟩ = some (.int .u64 x.low.n) := by rw [cell_of_row _ _ _ _ _ _ (HB1.out)]; rfl
  have d4 : w0.cell? ⟨(w.heap.size + 1), 4, none⟩ = some (.int .u64 y.low.n) := by rw [cell_of_row _ _ _ _ _ _ (HB2.out)]; rfl
  have c5 : w0.cell? ⟨w.heap.size, 5, none⟩ = some (.int .u64 x.map) := by rw [cell_of_row _ _ _ _ _ _ (HB1.out)]; rfl
  have d5 : w0.cell? ⟨(w.heap.size + 1), 5, none⟩ = some (.int .u64 y.map) := by rw [cell_of_row _ _ _ _ _ _ (HB2.out)]; rfl
  have c19 : w0.cell? ⟨w.heap.size, 19, none⟩ = some (.int .u64 x.next) := by rw [cell_of_row _ _ _ _ _ _ (HB1.out)]; rfl
  have d19 : w0.cell? ⟨(w.heap.size + 1), 19, none⟩ = some (.int .u64 y.next) := by rw [cell_of_row _ _ _ _ _ _ (HB2.out)]; rfl
  have c21 : w0.cell? ⟨w.heap.size, 21, none⟩ = some (.bool x.commit) := by rw [cell_of_row _ _ _ _ _ _ (HB1.out)]; rfl
  have d21 : w0.cell? ⟨(w.heap.size + 1), 21, none⟩ = some (.bool y.commit) := by rw [cell_of_row _ _ _ _ _ _ (HB2.out)]; rfl
  have c22 : w0.cell? ⟨w.heap.size, 22, none⟩ = some (.int .i64 x.err) := by rw [cell_of_row _ _ _ _ _ _ (HB1.out)]; rfl
  have d22 : w0.cell? ⟨(w.heap.size + 1), 22, none⟩ = some (.int .i64 y.err) := by rw [cell_of_row _ _ _ _ _ _ (HB2.out)]; rfl
  have c27 : w0.cell? ⟨w.heap.size, 27, none⟩ = some (.int .u8 x.state) := by rw [cell_of_row _ _ _ _ _ _ (HB1.out)]; rfl
  have d27 : w0.cell? ⟨(w.heap.size + 1), 27, none⟩ = some (.int .u8 y.state) := by rw [cell_of_row _ _ _ _ _ _ (HB2.out)]; rfl
  repeat' (first
  | (rename_i hh; have ht : (_ : Bool) = true := hh; subst ht; clear hh)
  | (rename_i hh; have hf := Bool.eq_false_iff.mpr hh; subst hf; clear hh)
  | go_values | go_skip | go_guarded | go_step | go_upon | go_back)
  all_goals try exact bodyPost_ret (v := .bool false) (by simp [results, Tryz.results14, go_sem]) rfl ⟨by rw [HRR.out]; simp, HBW.out⟩
  have hq : e12 = false := by assumption
  subst hq
  have m0 : w0.cell? ⟨w.heap.size, 6, none⟩ = some (.slice s.parts.1 x.parts.length s.parts.2) := by rw [cell_of_row _ _ _ _ _ _ (HB1.out)]; rfl
  have n0 : w0.cell? ⟨(w.heap.size + 1), 6, none⟩ = some (.slice s2.parts.1 y.parts.length s2.parts.2) := by rw [cell_of_row _ _ _ _ _ _ (HB2.out)]; rfl
  go_wp2_with fail
  refine (ref_parts _ _ _ _ x.parts y.parts w0 (HA.out.parts.keep HBW.out).row (HB.out.parts.keep HBW.out).row HOK.out.parts.2 HOK2.out.parts.2).mono ?_
  rintro e v1 ⟨rfl, hv⟩
  rw [← HD6.out]
  have HC1 := Lib.hid (HBW.out.trans (hv.mono HBW.out.size))
  have HX1 := Lib.hid hv
  clear hv m0 n0
  cases b6 with
  | false =>
    go_wp2_with fail
    exact bodyPost_ret (v := .bool false) (by simp [results, Tryz.results14, go_sem]) rfl ⟨by rw [HRR.out]; simp, HC1.out⟩
  | true =>
    have m1 := ldAsk_run v1 _ s x ((HX1.out.block _ (blk_lt HB1.out)).trans HB1.out)
    have n1 := ldAsk_run v1 _ s2 y ((HX1.out.block _ (blk_lt HB2.out)).trans HB2.out)
    go_wp2_with fail
    refine (ref_asks s s2 x y v1 (HA.out.keep HC1.out) (HB.out.keep HC1.out) HOK.out HOK2.out).mono ?_
    rintro e v2 ⟨rfl, hv⟩
    rw [← HD0.out]
    have HC2 := Lib.hid (HC1.out.trans (hv.mono HC1.out.size))
    have HX2 := Lib.hid (HX1.out.trans (hv.mono HX1.out.size))
    clear hv m1 n1
    cases b0 with
    | false =>
      go_wp2_with fail
      exact bodyPost_ret (v := .bool false) (by simp [results, Tryz.results14, go_sem]) rfl ⟨by rw [HRR.out]; simp, HC2.out⟩
    | true =>
      have m2 : v2.cell? ⟨w.heap.size, 18, none⟩ = some (.slice s.rows.1 x.rows.length s.rows.2) := by rw [cell_of_row _ _ _ _ _ _ (((HX2.out.block _ (blk_lt HB1.out)).trans HB1.out))]; rfl
      have n2 : v2.cell? ⟨(w.heap.size + 1), 18, none⟩ = some (.slice s2.rows.1 y.rows.length s2.rows.2) := by rw [cell_of_row _ _ _ _ _ _ (((HX2.out.block _ (blk_lt HB2.out)).trans HB2.out))]; rfl
      go_wp2_with fail
      obtain ⟨xs, hxa, hxr⟩ := (HA.out.keep HC2.out).rows
      obtain ⟨ys, hya, hyr⟩ := (HB.out.keep HC2.out).rows
      refine (ref_rows _ _ _ _ x.rows y.rows xs ys v2 hxa hxr hya hyr HOK.out.rows.2 HOK2.out.rows.2 (fun r hr => (HOK.out.rows.1 r hr).d) (fun r hr => (HOK2.out.rows.1 r hr).d)).mono ?_
      rintro e v3 ⟨rfl, hv⟩
      rw [← HD7.out]
      have HC3 := Lib.hid (HC2.out.trans (hv.mono HC2.out.size))
      have HX3 := Lib.hid (HX2.out.trans (hv.mono HX2.out.size))
      clear hv m2 n2
      cases b7 with
      | false =>
        go_wp2_with fail
        exact bodyPost_ret (v := .bool false) (by simp [results, Tryz.results14, go_sem]) rfl ⟨by rw [HRR.out]; simp, HC3.out⟩
      | true =>
        have m3 : v3.cell? ⟨w.heap.size, 20, none⟩ = some (.slice s.own.1 x.own.length s.own.2) := by rw [cell_of_row _ _ _ _ _ _ (((HX3.out.block _ (blk_lt HB1.out)).trans HB1.out))]; rfl
        have n3 : v3.cell? ⟨(w.heap.size + 1), 20, none⟩ = some (.slice s2.own.1 y.own.length s2.own.2) := by rw [cell_of_row _ _ _ _ _ _ (((HX3.out.block _ (blk_lt HB2.out)).trans HB2.out))]; rfl
        go_wp2_with fail
        refine (ref_own _ _ _ _ x.own y.own v3 (HA.out.own.keep HC3.out).row (HB.out.own.keep HC3.out).row HOK.out.own.2 HOK2.out.own.2).mono ?_
        rintro e v4 ⟨rfl, hv⟩
        rw [← HD9.out]
        have HC4 := Lib.hid (HC3.out.trans (hv.mono HC3.out.size))
        have HX4 := Lib.hid (HX3.out.trans (hv.mono HX3.out.size))
        clear hv m3 n3
        cases b9 with
        | false =>
          go_wp2_with fail
          exact bodyPost_ret (v := .bool false) (by simp [results, Tryz.results14, go_sem]) rfl ⟨by rw [HRR.out]; simp, HC4.out⟩
        | true =>
          have m4 := ldTold_run v4 _ s x ((HX4.out.block _ (blk_lt HB1.out)).trans HB1.out)
          have n4 := ldTold_run v4 _ s2 y ((HX4.out.block _ (blk_lt HB2.out)).trans HB2.out)
          go_wp2_with fail
          refine (ref_tolds s s2 x y v4 (HA.out.keep HC4.out) (HB.out.keep HC4.out) HOK.out HOK2.out).mono ?_
          rintro e v5 ⟨rfl, hv⟩
          rw [← HD1.out]
          have HC5 := Lib.hid (HC4.out.trans (hv.mono HC4.out.size))
          have HX5 := Lib.hid (HX4.out.trans (hv.mono HX4.out.size))
          clear hv m4 n4
          go_wp2_with fail
          exact bodyPost_ret (v := .bool b1) (by simp [results, Tryz.results14, go_sem]) rfl ⟨by rw [HRR.out]; simp, HC5.out⟩

end Go.Proofs.YtjgnomjjphkfbaaGreat
