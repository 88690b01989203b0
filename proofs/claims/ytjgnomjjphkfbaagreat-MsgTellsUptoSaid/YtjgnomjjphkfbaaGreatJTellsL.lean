/-
  Joined out of the texts MsgTellsL.
-/
import Derived.Test.YtjgnomjjphkfbaaGreatJREnc
import Derived.Test.YtjgnomjjphkfbaaGreatJRMask
import Derived.Test.YtjgnomjjphkfbaaGreatJHeavy
import Derived.Test.YtjgnomjjphkfbaaGreatJMay
/-
  WHICH MESSAGES MAY BE, what their bytes are, which are the same, what they are masked: the law's walk.
-/
namespace Go.Proofs.YtjgnomjjphkfbaaGreat
open Go.RowKit

attribute [local go_sem ↓ high] ldMsg_eq
set_option maxRecDepth 20000 in
set_option maxHeartbeats 16000000 in
theorem tells_any (hS : SameAny) (s s2 : MS) (x y : Mg.Msg) (w : World) (ha : MsgA w s x) (hb : MsgA w s2 y) (fa : x.Fine) (fb : y.Fine) :
    Calls Tryz.prog 3 #[.agg (MV s x), .agg (MV s2 y)] w fun e w' => e = .returned (.bool true) ∧ Below w.heap.size w w' := by
  obtain ⟨w0, hw0⟩ : ∃ w0, w0 = (w.alloc (.cells (MV s x) 43 (0, 0))).alloc (.cells (MV s2 y) 43 (0, 0)) := ⟨_, rfl⟩
  have HW0 := Lib.hid hw0
  have HB1 : Hid (w0.heap[w.heap.size]? = some (.cells (MV s x) 43 (0, 0))) := Lib.hid (by
    rw [hw0, Below.heap_alloc _ _ _ (by simp)]; exact heap_alloc_new w _)
  have HB2 : Hid (w0.heap[w.heap.size + 1]? = some (.cells (MV s2 y) 43 (0, 0))) := Lib.hid (by
    rw [hw0]
    have := heap_alloc_new (w.alloc (.cells (MV s x) 43 (0, 0))) (.cells (MV s2 y) 43 (0, 0))
    rw [World.size_alloc] at this
    exact this)
  have HBW : Hid (Below w.heap.size w w0) := Lib.hid (by rw [hw0]; exact (((Own.refl w).alloc _).alloc _).below)
  have HO : Hid (∀ wz, Below w0.heap.size w0 wz → Below w.heap.size w wz) := Lib.hid (fun wz hz => HBW.out.trans (hz.mono HBW.out.size))
  have HA : Hid (∀ wz, Below w0.heap.size w0 wz → MsgA wz s x) := Lib.hid (fun wz hz => ha.keep (HO.out _ hz))
  have HB : Hid (∀ wz, Below w0.heap.size w0 wz → MsgA wz s2 y) := Lib.hid (fun wz hz => hb.keep (HO.out _ hz))
  have HL : Hid (∀ wz, Below w0.heap.size w0 wz → (ldMsg ⟨w.heap.size, 0, none⟩).run Tryz.prog wz = .ok (.agg (MV s x)) wz ∧ (ldMsg ⟨w.heap.size + 1, 0, none⟩).run Tryz.prog wz = .ok (.agg (MV s2 y)) wz) := Lib.hid (fun wz hz => ⟨ldMsg_run wz _ s x ((hz.block _ (blk_lt HB1.out)).trans HB1.out), ldMsg_run wz _ s2 y ((hz.block _ (blk_lt HB2.out)).trans HB2.out)⟩)
  have HS : Hid SameAny := Lib.hid hS
  have HFA := Lib.hid fa
  have HFB := Lib.hid fb
  have HX0 := Lib.hid (Below.refl w0.heap.size w0)
  clear hw0 ha hb fa fb hS
  go_enter Tryz.func3, Tryz.ntmps3
  go_upto_region 1 with (fail)
  rw [← HW0.out]
  clear HW0
  obtain ⟨ra, rb⟩ := HL.out _ HX0.out
  go_wp2_with fail
  refine (heavy_any s x w0 (HA.out _ HX0.out) HFA.out).mono ?_
  rintro e v1 ⟨⟨ha, rfl, hla⟩, hv⟩
  have HX1 := Lib.hid hv
  have HLA := Lib.hid hla
  clear hv hla ra rb
  cases ha with
  | true =>
    go_wp2_with fail
    refine (alive_any HS.out v1).mono ?_
    rintro e z1 ⟨rfl, hv⟩
    have hvb := HO.out _ (HX1.out.trans (hv.mono HX1.out.size))
    clear hv
    go_wp2_with fail
    exact bodyPost_ret (v := .bool true) (by simp [results, Tryz.results3, go_sem]) rfl ⟨rfl, hvb⟩
  | false =>
    have HGA := Lib.hid (Mg.light_good HFA.out (HLA.out rfl))
    have HNA := Lib.hid (Mg.light_len (HLA.out rfl))
    obtain ⟨ra, rb⟩ := HL.out _ HX1.out
    go_wp2_with fail
    refine (heavy_any s2 y v1 (HB.out _ HX1.out) HFB.out).mono ?_
    rintro e v2 ⟨⟨hb, rfl, hlb⟩, hv⟩
    have HX2 := Lib.hid (HX1.out.trans (hv.mono HX1.out.size))
    have HLB := Lib.hid hlb
    clear hv hlb ra rb
    cases hb with
    | true =>
      go_wp2_with fail
      refine (alive_any HS.out v2).mono ?_
      rintro e z1 ⟨rfl, hv⟩
      have hvb := HO.out _ (HX2.out.trans (hv.mono HX2.out.size))
      clear hv
      go_wp2_with fail
      exact bodyPost_ret (v := .bool true) (by simp [results, Tryz.results3, go_sem]) rfl ⟨rfl, hvb⟩
    | false =>
      have HGB := Lib.hid (Mg.light_good HFB.out (HLB.out rfl))
      have HGM := Lib.hid (Mg.mask_good HGA.out)
      obtain ⟨tx, ex, hex⟩ : ∃ (tx : ByteArray) (ex : Int), Mg.encR x = .tuple #[.string tx, .int .i64 ex] := by
        cases hm : Mg.may x with
        | false => exact ⟨_, _, Mg.encR_not hm⟩
        | true => exact ⟨_, _, Mg.encR_may hm⟩
      have HEX := Lib.hid hex
      obtain ⟨bm, hbm⟩ : ∃ b, b = Mg.may x := ⟨_, rfl⟩
      have HBM := Lib.hid hbm
      obtain ⟨bs, hbs⟩ : ∃ b, b = decide (x = y) := ⟨_, rfl⟩
      have HBS := Lib.hid hbs
      have HSS : Hid (∀ wz, Below w0.heap.size w0 wz → Calls Tryz.prog 13 #[.agg (MV s x), .agg (MV s2 y)] wz fun e w' => e = .returned (.bool bs) ∧ Below wz.heap.size wz w') := Lib.hid (fun wz hz => by
        have h := HS.out s s2 x y wz (HA.out _ hz) (HB.out _ hz) HGA.out HGB.out
        rw [← HBS.out] at h
        exact h)
      have qe := str_eq tx
      clear hex hbm hbs
      obtain ⟨ra, rb⟩ := HL.out _ HX2.out
      go_wp2_with fail
      refine (encode_any HS.out s x v2 (HA.out _ HX2.out) HGA.out HNA.out).mono ?_
      rintro e v3 ⟨rfl, hv⟩
      rw [HEX.out]
      have HX3 := Lib.hid (HX2.out.trans (hv.mono HX2.out.size))
      clear hv ra rb
      obtain ⟨ra, rb⟩ := HL.out _ HX3.out
      go_wp2_with fail
      refine (ref_encode s x v3 (HA.out _ HX3.out) HGA.out HNA.out).mono ?_
      rintro e v4 ⟨rfl, hv⟩
      rw [HEX.out]
      have HX4 := Lib.hid (HX3.out.trans (hv.mono HX3.out.size))
      clear hv ra rb
      go_upto_region 5 with (fail)
      have HD0 : Hid (Below w0.heap.size w0 v4.drew) := Lib.hid (HX4.out.trans ((Own.refl v4).drew.below.mono HX4.out.size))
      have r0 := HL.out _ HD0.out
      go_region_held3 (fun w' => (ldMsg ⟨w.heap.size, 0, none⟩).run Tryz.prog w' = .ok (.agg (MV s x)) w' ∧ (ldMsg ⟨w.heap.size + 1, 0, none⟩).run Tryz.prog w' = .ok (.agg (MV s2 y)) w') (first | (with_reducible exact r0) | (with_reducible exact r1) | (with_reducible exact r2) | (with_reducible exact r3) | (with_reducible exact r4) | (with_reducible exact r5) | (with_reducible exact r6) | (with_reducible exact r7) | (with_reducible exact r8) | fail) (first
      | (go_at_call 11
         (with_reducible refine (may_any HS.out s x _ (HA.out _ HD0.out) HGA.out HNA.out).mono ?_)
         rintro e y1 ⟨rfl, hv⟩
         rw [← HBM.out]
         have HD1 := Lib.hid (HD0.out.trans (hv.mono HD0.out.size))
         have r1 := HL.out _ HD1.out
         clear hv)
      | (go_at_call 12
         (with_reducible refine (ref_may s x _ (HA.out _ HD1.out) HGA.out HNA.out).mono ?_)
         rintro e y2 ⟨rfl, hv⟩
         rw [← HBM.out]
         have HD2 := Lib.hid (HD1.out.trans (hv.mono HD1.out.size))
         have r2 := HL.out _ HD2.out
         clear hv)
      | (go_at_call 13
         (with_reducible refine (HSS.out _ HD2.out).mono ?_)
         rintro e y3 ⟨rfl, hv⟩
         have HD3 := Lib.hid (HD2.out.trans (hv.mono HD2.out.size))
         have r3 := HL.out _ HD3.out
         clear hv)
      | (go_at_call 14
         (with_reducible refine (ref_same s s2 x y _ (HA.out _ HD3.out) (HB.out _ HD3.out) HGA.out HGB.out).mono ?_)
         rintro e y4 ⟨rfl, hv⟩
         rw [← HBS.out]
         have HD4 := Lib.hid (HD3.out.trans (hv.mono HD3.out.size))
         have r4 := HL.out _ HD4.out
         clear hv)
      | (go_at_call 15
         (with_reducible refine (mask_any s x _ (HA.out _ HD4.out) HGA.out).mono ?_)
         rintro e y5 ⟨s5, rfl, hmq, hv⟩
         have HM5 := Lib.hid hmq.arg
         clear hmq
         have HD5 := Lib.hid (HD4.out.trans (hv.mono HD4.out.size))
         have r5 := HL.out _ HD5.out
         clear hv)
      | (go_at_call 16
         (with_reducible refine (ref_mask s x _ (HA.out _ HD5.out) HGA.out).mono ?_)
         rintro e y6 ⟨s6, rfl, hmq, hv⟩
         have HM6 := Lib.hid hmq
         have HM56 := Lib.hid (HM5.out.keep hv)
         clear hmq
         have HD6 := Lib.hid (HD5.out.trans (hv.mono HD5.out.size))
         have r6 := HL.out _ HD6.out
         clear hv)
      | (go_at_call 14
         (with_reducible refine (ref_same s5 s6 (Mg.mask x) (Mg.mask x) _ HM56.out HM6.out HGM.out HGM.out).mono ?_)
         rintro e y7 ⟨rfl, hv⟩
         rw [decide_eq_true rfl]
         have HD7 := Lib.hid (HD6.out.trans (hv.mono HD6.out.size))
         have r7 := HL.out _ HD7.out
         clear hv)
      | (go_at_call 8
         (with_reducible refine (alive_any HS.out _).mono ?_)
         rintro e y8 ⟨rfl, hv⟩
         have HD8 := Lib.hid (HD7.out.trans (hv.mono HD7.out.size))
         have r8 := HL.out _ HD8.out
         clear hv)
      | fail)
      all_goals
        go_wp2_with fail
        exact bodyPost_ret (v := .bool true) (by simp [results, Tryz.results3, go_sem]) rfl ⟨rfl, HO.out _ HD8.out⟩

end Go.Proofs.YtjgnomjjphkfbaaGreat
