/-
  Joined out of the texts MsgReadsL.
-/
import Derived.Test.YtjgnomjjphkfbaaGreatRGetM
import Derived.Test.YtjgnomjjphkfbaaGreatRMay
namespace Go.Proofs.YtjgnomjjphkfbaaGreat
open Go.RowKit

theorem Mg.decF_good (s : List UInt8) : ((Mg.decF s).getD Mg.msg0).Good := by
  cases h : Mg.decF s with
  | none => exact Mg.good0
  | some m =>
    unfold Mg.decF at h
    split at h
    · exact Mg.fit_good (Mg.dec_some h).2
    · cases h

attribute [local go_sem ↓ high] stMsg_eq
attribute [local go_sem ↓ high] ldMsg_eq
set_option maxRecDepth 20000 in
set_option maxHeartbeats 8000000 in
theorem reads_any (hS : SameAny) (s : ByteArray) (w : World) (hs : s.size ≤ 140737488351232) :
    Calls Tryz.prog 4 #[.string s] w fun e w' => e = .returned (.bool true) ∧ Below w.heap.size w w' := by
  have HS : Hid SameAny := Lib.hid hS
  have hsI : (0 : Int) ≤ s.size ∧ (s.size : Int) ≤ 140737488351232 := by omega
  by_cases hlt : (8192 : Int) < s.size
  · clear hS hs
    go_enter Tryz.func4, Tryz.ntmps4
    go_wp2_with fail
    refine (alive_any HS.out w).mono ?_
    rintro e v ⟨rfl, hv⟩
    have HV := Lib.hid hv
    clear hv
    go_wp2_with fail
    exact bodyPost_ret (v := .bool true) (by simp [results, Tryz.results4, go_sem]) rfl ⟨rfl, HV.out⟩
  · have HD1 := Lib.hid (decode_any s (by omega) w)
    have HD2 := Lib.hid (fun wz => ref_decode s (by omega) wz)
    have HG := Lib.hid (Mg.decF_good (L s))
    obtain ⟨X, hX⟩ : ∃ X, X = (Mg.decF (L s)).getD Mg.msg0 := ⟨_, rfl⟩
    obtain ⟨E, hE⟩ : ∃ E, E = Mg.decE (Mg.decF (L s)) := ⟨_, rfl⟩
    rw [← hX, ← hE] at HD1 HD2
    rw [← hX] at HG
    clear hX hE hS hs
    go_enter Tryz.func4, Tryz.ntmps4
    go_wp2_with fail
    refine HD1.out.mono ?_
    rintro e v1 ⟨s1, rfl, hmo, hv1⟩
    obtain ⟨v2, r2, q2⟩ := st_part (P := Tryz.prog) (v1.alloc (.cells Z28 43 (0, 0))) 43 (.agg (MV s1 X)) v1.heap.size 0 (MV s1 X) rfl 43 Z28 (MV s1 X) (heap_alloc_new v1 _) 28 28 rfl rfl sizeMsg (by decide) (MV_one _ _) (whole_eq _ _ 28 rfl rfl)
    change (stMsg _ _).run _ _ = _ at r2
    have hb2 : Below v1.heap.size v1 v2 := (((Own.refl v1).alloc _).put q2 (Nat.le_refl _)).below
    have HM2 := Lib.hid q2.here
    have HA2 := Lib.hid (hmo.arg.keep hb2)
    have HB2 := Lib.hid (hv1.trans (hb2.mono hv1.size))
    clear q2 hmo hv1 hb2 HD1
    go_wp2_with fail
    refine (HD2.out v2).mono ?_
    rintro e v3 ⟨s3, rfl, hmo, hv3⟩
    obtain ⟨v4, r4, q4⟩ := st_part (P := Tryz.prog) (v3.alloc (.cells Z28 43 (0, 0))) 43 (.agg (MV s3 X)) v3.heap.size 0 (MV s3 X) rfl 43 Z28 (MV s3 X) (heap_alloc_new v3 _) 28 28 rfl rfl sizeMsg (by decide) (MV_one _ _) (whole_eq _ _ 28 rfl rfl)
    change (stMsg _ _).run _ _ = _ at r4
    have hb4 : Below v3.heap.size v3 v4 := (((Own.refl v3).alloc _).put q4 (Nat.le_refl _)).below
    have HA4 := Lib.hid (hmo.keep hb4)
    have hb24 : Below v2.heap.size v2 v4 := hv3.trans (hb4.mono hv3.size)
    have HC4 := Lib.hid (HA2.out.keep hb24)
    have HB4 := Lib.hid (HB2.out.trans (hb24.mono HB2.out.size))
    have g1 := ldMsg_run v4 _ s1 X ((hb24.block _ (blk_lt HM2.out)).trans HM2.out)
    have g2 := ldMsg_run v4 _ s3 X q4.here
    clear q4 hmo hv3 hb4 hb24 HD2 r2
    go_wp2_with fail
    refine (ref_same s1 s3 X X v4 HC4.out HA4.out HG.out HG.out).mono ?_
    rintro e v5 ⟨rfl, hv⟩
    rw [decide_eq_true rfl]
    have HB5 := Lib.hid (HB4.out.trans (hv.mono HB4.out.size))
    clear hv g1 g2 r4
    go_wp2_with fail
    refine (alive_any HS.out v5).mono ?_
    rintro e v6 ⟨rfl, hv⟩
    have HB6 := Lib.hid (HB5.out.trans (hv.mono HB5.out.size))
    clear hv
    go_wp2_with fail
    exact bodyPost_ret (v := .bool true) (by simp [results, Tryz.results4, go_sem]) rfl ⟨rfl, HB6.out⟩

end Go.Proofs.YtjgnomjjphkfbaaGreat
