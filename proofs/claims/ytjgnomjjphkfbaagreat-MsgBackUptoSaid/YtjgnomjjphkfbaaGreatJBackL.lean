/-
  Joined out of the texts MsgBack.
-/
import Derived.Test.YtjgnomjjphkfbaaGreatJMay
import Derived.Test.YtjgnomjjphkfbaaGreatJHeavy
import Derived.Test.YtjgnomjjphkfbaaGreatJRqS
/-
  WHAT WAS WRITTEN IS READ AS ITSELF; bytes that are read are written as themselves; unlike messages have unlike bytes: the law's walk.
-/
namespace Go.Proofs.YtjgnomjjphkfbaaGreat
open Go.RowKit

attribute [local go_sem ↓ high] ldMsg_eq
attribute [local go_sem ↓ high] neq_bool
set_option maxRecDepth 20000 in
set_option maxHeartbeats 16000000 in
theorem back_any (hS : SameAny) (s s2 : MS) (x y : Mg.Msg) (t : ByteArray) (w : World) (ha : MsgA w s x) (hb : MsgA w s2 y) (fa : x.Fine) (fb : y.Fine) (ht : t.size ≤ 1048576) :
    Calls Tryz.prog 5 #[.agg (MV s x), .agg (MV s2 y), .string t] w fun e w' => e = .returned (.bool true) ∧ Below w.heap.size w w' := by
  obtain ⟨w0, hw0⟩ : ∃ w0, w0 = (w.alloc (.cells (MV s x) 43 (0, 0))).alloc (.cells (MV s2 y) 43 (0, 0)) := ⟨_, rfl⟩
  have HW0 := Lib.hid hw0
  have HB1 : Hid (w0.heap[w.heap.size]? = some (.cells (MV s x) 43 (0, 0))) := Lib.hid (by
    rw [hw0, Below.heap_alloc _ _ _ (by simp)]; exact heap_alloc_new w _)
  have HB2 : Hid (w0.heap[w.heap.size + 1]? = some (.cells (MV s2 y) 43 (0, 0))) := Lib.hid (by
    rw [hw0]
    have := heap_alloc_new (w.alloc (.cells (MV s x) 43 (0, 0))) (.cells (MV s2 y) 43 (0, 0))
    rw [World.size_alloc] at this
    exact this)
  have HBW : Hid (Below w.heap.size w w0) := Lib.hid (by rw [hw0]; exact (((Own.refl w).alloc _).alloc _).below)
  have HO : Hid (∀ wz, Below w0.heap.size w0 wz → Below w.heap.size w wz) := Lib.hid (fun wz hz => HBW.out.trans (hz.mono HBW.out.size))
  have HA : Hid (∀ wz, Below w0.heap.size w0 wz → MsgA wz s x) := Lib.hid (fun wz hz => ha.keep (HO.out _ hz))
  have HB : Hid (∀ wz, Below w0.heap.size w0 wz → MsgA wz s2 y) := Lib.hid (fun wz hz => hb.keep (HO.out _ hz))
  have HL : Hid (∀ wz, Below w0.heap.size w0 wz → (ldMsg ⟨w.heap.size, 0, none⟩).run Tryz.prog wz = .ok (.agg (MV s x)) wz ∧ (ldMsg ⟨w.heap.size + 1, 0, none⟩).run Tryz.prog wz = .ok (.agg (MV s2 y)) wz) := Lib.hid (fun wz hz => ⟨ldMsg_run wz _ s x ((hz.block _ (blk_lt HB1.out)).trans HB1.out), ldMsg_run wz _ s2 y ((hz.block _ (blk_lt HB2.out)).trans HB2.out)⟩)
  have HS : Hid SameAny := Lib.hid hS
  have HFA := Lib.hid fa
  have HFB := Lib.hid fb
  have HT := Lib.hid ht
  have htI : (0 : Int) ≤ t.size ∧ (t.size : Int) ≤ 1048576 := by omega
  have HX0 := Lib.hid (Below.refl w0.heap.size w0)
  clear hw0 ha hb fa fb ht hS
  go_enter Tryz.func5, Tryz.ntmps5
  go_upto_region 1 with (fail)
  rw [← HW0.out]
  clear HW0
  obtain ⟨ra, rb⟩ := HL.out _ HX0.out
  go_wp2_with fail
  refine (heavy_any s x w0 (HA.out _ HX0.out) HFA.out).mono ?_
  rintro e v1 ⟨⟨ha, rfl, hla⟩, hv⟩
  have HX_v1 := Lib.hid (HX0.out.trans (hv.mono HX0.out.size))
  have HLA := Lib.hid hla
  clear hv hla ra rb
  cases ha with
  | true =>
    go_wp2_with fail
    refine (alive_any HS.out v1).mono ?_
    rintro e v2 ⟨rfl, hv⟩
    have hvb := HO.out _ (HX_v1.out.trans (hv.mono HX_v1.out.size))
    clear hv
    go_wp2_with fail
    exact bodyPost_ret (v := .bool true) (by simp [results, Tryz.results5, go_sem]) rfl ⟨rfl, hvb⟩
  | false =>
    have HGA := Lib.hid (Mg.light_good HFA.out (HLA.out rfl))
    have HNA := Lib.hid (Mg.light_len (HLA.out rfl))
    obtain ⟨ra, rb⟩ := HL.out _ HX_v1.out
    go_wp2_with fail
    refine (heavy_any s2 y v1 (HB.out _ HX_v1.out) HFB.out).mono ?_
    rintro e v3 ⟨⟨hb, rfl, hlb⟩, hv⟩
    have HX_v3 := Lib.hid (HX_v1.out.trans (hv.mono HX_v1.out.size))
    have HLB := Lib.hid hlb
    clear hv hlb ra rb
    cases hb with
    | true =>
      go_wp2_with fail
      refine (alive_any HS.out v3).mono ?_
      rintro e v4 ⟨rfl, hv⟩
      have hvb := HO.out _ (HX_v3.out.trans (hv.mono HX_v3.out.size))
      clear hv
      go_wp2_with fail
      exact bodyPost_ret (v := .bool true) (by simp [results, Tryz.results5, go_sem]) rfl ⟨rfl, hvb⟩
    | false =>
      have HGB := Lib.hid (Mg.light_good HFB.out (HLB.out rfl))
      have HNB := Lib.hid (Mg.light_len (HLB.out rfl))
      by_cases hlt : (8192 : Int) < t.size
      · go_wp2_with fail
        refine (alive_any HS.out v3).mono ?_
        rintro e v5 ⟨rfl, hv⟩
        have hvb := HO.out _ (HX_v3.out.trans (hv.mono HX_v3.out.size))
        clear hv
        go_wp2_with fail
        exact bodyPost_ret (v := .bool true) (by simp [results, Tryz.results5, go_sem]) rfl ⟨rfl, hvb⟩
      · obtain ⟨ra, rb⟩ := HL.out _ HX_v3.out
        go_wp2_with fail
        obtain ⟨tx, htx⟩ : ∃ tx, tx = S (Mg.enc x) := ⟨_, rfl⟩
        obtain ⟨ty, hty⟩ : ∃ ty, ty = S (Mg.enc y) := ⟨_, rfl⟩
        have HTX := Lib.hid htx
        have HTY := Lib.hid hty
        clear htx hty
        refine (encode_any HS.out s x v3 (HA.out _ HX_v3.out) HGA.out HNA.out).mono ?_
        rintro e v6 ⟨rfl, hv⟩
        have HX_v6 := Lib.hid (HX_v3.out.trans (hv.mono HX_v3.out.size))
        clear hv ra rb
        obtain ⟨ra, rb⟩ := HL.out _ HX_v6.out
        cases hma : Mg.may x with
        | false =>
          rw [Mg.encR_not hma]
          go_wp2_with fail
          refine (encode_any HS.out s2 y v6 (HB.out _ HX_v6.out) HGB.out HNB.out).mono ?_
          rintro e v7 ⟨rfl, hv⟩
          have HX_v7 := Lib.hid (HX_v6.out.trans (hv.mono HX_v6.out.size))
          clear hv ra rb
          obtain ⟨uy, ey, hey⟩ : ∃ (uy : ByteArray) (ey : Int), Mg.encR y = .tuple #[.string uy, .int .i64 ey] := by
            cases hmb : Mg.may y with
            | false => exact ⟨_, _, Mg.encR_not hmb⟩
            | true => exact ⟨_, _, Mg.encR_may hmb⟩
          rw [hey]
          clear hey
          have hd := decode_any t (by have := HT.out; omega) v7
          cases hdec : Mg.decF (L t) with
          | none =>
            rw [hdec] at hd
            simp only [Option.getD_none] at hd
            rw [show Mg.decE none = 7 from rfl] at hd
            go_wp2_with fail
            refine hd.mono ?_
            clear hd
            rintro e v8 ⟨sl, rfl, hmo, hv⟩
            have HX_v8 := Lib.hid (HX_v7.out.trans (hv.mono HX_v7.out.size))
            clear hv
            have HMO_v9 := Lib.hid hmo.arg
            clear hmo
            go_wp2_with (refine wpList_store_all rfl 43 (.tmp 15) (.tmp 100) rfl v8.heap.size (MV sl Mg.msg0) rfl rfl 43 _ (heap_alloc_new v8 _) (by rw [MV_size]; exact sizeMsg) rfl (MV_one _ _) ?_; intro v9 hp; have hb : Below v8.heap.size v8 v9 := (((Own.refl v8).alloc _).put hp (Nat.le_refl _)).below; have HX_v9 := Lib.hid (HX_v8.out.trans (hb.mono HX_v8.out.size)); have HA_v9 := Lib.hid (HMO_v9.out.keep hb); have HC_v9 := Lib.hid hp.here; have rr := ldMsg_run _ _ sl Mg.msg0 hp.here; clear hb hp)
            refine (ref_same sl MS0 Mg.msg0 Mg.msg0 v9 HA_v9.out (MsgA.bare rfl rfl rfl rfl rfl) Mg.good0 Mg.good0).mono ?_
            rintro e v10 ⟨rfl, hv⟩
            have HX_v10 := Lib.hid (HX_v9.out.trans (hv.mono HX_v9.out.size))
            rw [decide_eq_true rfl]
            clear hv rr
            go_wp2_with fail
            refine (alive_any HS.out v10).mono ?_
            rintro e v11 ⟨rfl, hv⟩
            have hvb := HO.out _ (HX_v10.out.trans (hv.mono HX_v10.out.size))
            clear hv
            go_wp2_with fail
            exact bodyPost_ret (v := .bool true) (by simp [results, Tryz.results5, go_sem]) rfl ⟨rfl, hvb⟩
          | some m =>
            obtain ⟨hm, he⟩ := Mg.dec_may hdec
            have hg := Mg.fit_good (Mg.may_fit hm).1
            have hl : (Mg.enc m).length ≤ 1073741824 := by have := (Mg.may_fit hm).2; omega
            have he2 : Mg.encR m = .tuple #[.string t, .int .i64 0] := by rw [Mg.encR_may hm, he]; rfl
            have HG := Lib.hid hg
            have HLN := Lib.hid hl
            have HE2 := Lib.hid he2
            clear hm he hg hl he2
            rw [hdec] at hd
            simp only [Option.getD_some] at hd
            rw [show Mg.decE (some m) = 0 from rfl] at hd
            go_wp2_with fail
            refine hd.mono ?_
            clear hd
            rintro e v12 ⟨sl, rfl, hmo, hv⟩
            have HX_v12 := Lib.hid (HX_v7.out.trans (hv.mono HX_v7.out.size))
            clear hv
            have HMO_v13 := Lib.hid hmo.arg
            clear hmo
            go_wp2_with (refine wpList_store_all rfl 43 (.tmp 15) (.tmp 100) rfl v12.heap.size (MV sl m) rfl rfl 43 _ (heap_alloc_new v12 _) (by rw [MV_size]; exact sizeMsg) rfl (MV_one _ _) ?_; intro v13 hp; have hb : Below v12.heap.size v12 v13 := (((Own.refl v12).alloc _).put hp (Nat.le_refl _)).below; have HX_v13 := Lib.hid (HX_v12.out.trans (hb.mono HX_v12.out.size)); have HA_v13 := Lib.hid (HMO_v13.out.keep hb); have HC_v13 := Lib.hid hp.here; have rr := ldMsg_run _ _ sl m hp.here; clear hb hp)
            refine (encode_any HS.out sl m v13 HA_v13.out HG.out HLN.out).mono ?_
            rintro e v14 ⟨rfl, hv⟩
            have HX_v14 := Lib.hid (HX_v13.out.trans (hv.mono HX_v13.out.size))
            rw [HE2.out]
            clear hv rr
            have qe := str_eq t
            go_wp2_with fail
            refine (alive_any HS.out v14).mono ?_
            rintro e v15 ⟨rfl, hv⟩
            have hvb := HO.out _ (HX_v14.out.trans (hv.mono HX_v14.out.size))
            clear hv
            go_wp2_with fail
            exact bodyPost_ret (v := .bool true) (by simp [results, Tryz.results5, go_sem]) rfl ⟨rfl, hvb⟩
        | true =>
          rw [Mg.encR_may hma, ← HTX.out]
          have HMA := Lib.hid hma
          clear hma
          go_wp2_with fail
          refine (encode_any HS.out s2 y v6 (HB.out _ HX_v6.out) HGB.out HNB.out).mono ?_
          rintro e v16 ⟨rfl, hv⟩
          have HX_v16 := Lib.hid (HX_v6.out.trans (hv.mono HX_v6.out.size))
          clear hv ra rb
          have hdx : Mg.decF (L tx) = some x := by rw [HTX.out, L_S]; exact Mg.back_dec HMA.out
          have hsx : L tx = Mg.enc x := by rw [HTX.out, L_S]
          have hsz : tx.size ≤ 65536 := by
            have h1 := (Mg.may_fit HMA.out).2
            rw [← hsx, L_size] at h1
            exact h1
          have hszI : (0 : Int) ≤ tx.size ∧ (tx.size : Int) ≤ 65536 := by omega
          have hd := decode_any tx (by omega) v16
          rw [hdx] at hd
          simp only [Option.getD_some] at hd
          rw [show Mg.decE (some x) = 0 from rfl] at hd
          have HD := Lib.hid hd
          have HSX := Lib.hid hsx
          have HSZ := Lib.hid hsz
          clear hd hdx hsx hsz
          cases hmb : Mg.may y with
          | false =>
            rw [Mg.encR_not hmb]
            clear hmb
            go_wp2_with fail
            refine HD.out.mono ?_
            rintro e v17 ⟨sl, rfl, hmo, hv⟩
            have HX_v17 := Lib.hid (HX_v16.out.trans (hv.mono HX_v16.out.size))
            clear hv
            have HMO_v18 := Lib.hid hmo.arg
            clear hmo
            go_wp2_with (refine wpList_store_all rfl 43 (.tmp 11) (.tmp 46) rfl v17.heap.size (MV sl x) rfl rfl 43 _ (heap_alloc_new v17 _) (by rw [MV_size]; exact sizeMsg) rfl (MV_one _ _) ?_; intro v18 hp; have hb : Below v17.heap.size v17 v18 := (((Own.refl v17).alloc _).put hp (Nat.le_refl _)).below; have HX_v18 := Lib.hid (HX_v17.out.trans (hb.mono HX_v17.out.size)); have HA_v18 := Lib.hid (HMO_v18.out.keep hb); have HC_v18 := Lib.hid hp.here; clear hb hp)
            have hd2 := decode_any (tx ++ ⟨#[120]⟩) (by rw [ByteArray.size_append]; have := HSZ.out; show tx.size + 1 ≤ 1073741824; omega) v18
            have hl2 : L (tx ++ ⟨#[120]⟩) = Mg.enc x ++ [120] := by rw [L_append, HSX.out]
            rw [hl2, Mg.back_more HMA.out] at hd2
            simp only [Option.getD_none] at hd2
            rw [show Mg.decE none = 7 from rfl] at hd2
            clear hl2
            go_wp2_with fail
            refine hd2.mono ?_
            clear hd2
            rintro e v19 ⟨sl2, rfl, hmo, hv⟩
            have HX_v19 := Lib.hid (HX_v18.out.trans (hv.mono HX_v18.out.size))
            have HA_v19 := Lib.hid (HA_v18.out.keep hv)
            have HC_v19 := Lib.hid ((hv.block _ (blk_lt HC_v18.out)).trans HC_v18.out)
            clear hv
            have HMO_v20 := Lib.hid hmo.arg
            clear hmo
            go_wp2_with (refine wpList_store_all rfl 43 (.tmp 13) (.tmp 52) rfl v19.heap.size (MV sl2 Mg.msg0) rfl rfl 43 _ (heap_alloc_new v19 _) (by rw [MV_size]; exact sizeMsg) rfl (MV_one _ _) ?_; intro v20 hp; have hb : Below v19.heap.size v19 v20 := (((Own.refl v19).alloc _).put hp (Nat.le_refl _)).below; have HX_v20 := Lib.hid (HX_v19.out.trans (hb.mono HX_v19.out.size)); have HA_v20 := Lib.hid (HMO_v20.out.keep hb); have HC_v20 := Lib.hid hp.here; have rm := ldMsg_run _ _ sl x ((hb.block _ (blk_lt HC_v19.out)).trans HC_v19.out); have HA6 := Lib.hid (HA_v19.out.keep hb); obtain ⟨ra, rb⟩ := HL.out _ (HX_v19.out.trans (hb.mono HX_v19.out.size)); clear hb hp)
            refine (ref_same sl s x x v20 HA6.out (HA.out _ HX_v20.out) HGA.out HGA.out).mono ?_
            rintro e v21 ⟨rfl, hv⟩
            have HX_v21 := Lib.hid (HX_v20.out.trans (hv.mono HX_v20.out.size))
            rw [decide_eq_true rfl]
            clear hv rm ra rb
            have hd := decode_any t (by have := HT.out; omega) v21
            cases hdec : Mg.decF (L t) with
            | none =>
              rw [hdec] at hd
              simp only [Option.getD_none] at hd
              rw [show Mg.decE none = 7 from rfl] at hd
              go_wp2_with fail
              refine hd.mono ?_
              clear hd
              rintro e v22 ⟨sl, rfl, hmo, hv⟩
              have HX_v22 := Lib.hid (HX_v21.out.trans (hv.mono HX_v21.out.size))
              clear hv
              have HMO_v23 := Lib.hid hmo.arg
              clear hmo
              go_wp2_with (refine wpList_store_all rfl 43 (.tmp 15) (.tmp 100) rfl v22.heap.size (MV sl Mg.msg0) rfl rfl 43 _ (heap_alloc_new v22 _) (by rw [MV_size]; exact sizeMsg) rfl (MV_one _ _) ?_; intro v23 hp; have hb : Below v22.heap.size v22 v23 := (((Own.refl v22).alloc _).put hp (Nat.le_refl _)).below; have HX_v23 := Lib.hid (HX_v22.out.trans (hb.mono HX_v22.out.size)); have HA_v23 := Lib.hid (HMO_v23.out.keep hb); have HC_v23 := Lib.hid hp.here; have rr := ldMsg_run _ _ sl Mg.msg0 hp.here; clear hb hp)
              refine (ref_same sl MS0 Mg.msg0 Mg.msg0 v23 HA_v23.out (MsgA.bare rfl rfl rfl rfl rfl) Mg.good0 Mg.good0).mono ?_
              rintro e v24 ⟨rfl, hv⟩
              have HX_v24 := Lib.hid (HX_v23.out.trans (hv.mono HX_v23.out.size))
              rw [decide_eq_true rfl]
              clear hv rr
              go_wp2_with fail
              refine (alive_any HS.out v24).mono ?_
              rintro e v25 ⟨rfl, hv⟩
              have hvb := HO.out _ (HX_v24.out.trans (hv.mono HX_v24.out.size))
              clear hv
              go_wp2_with fail
              exact bodyPost_ret (v := .bool true) (by simp [results, Tryz.results5, go_sem]) rfl ⟨rfl, hvb⟩
            | some m =>
              obtain ⟨hm, he⟩ := Mg.dec_may hdec
              have hg := Mg.fit_good (Mg.may_fit hm).1
              have hl : (Mg.enc m).length ≤ 1073741824 := by have := (Mg.may_fit hm).2; omega
              have he2 : Mg.encR m = .tuple #[.string t, .int .i64 0] := by rw [Mg.encR_may hm, he]; rfl
              have HG := Lib.hid hg
              have HLN := Lib.hid hl
              have HE2 := Lib.hid he2
              clear hm he hg hl he2
              rw [hdec] at hd
              simp only [Option.getD_some] at hd
              rw [show Mg.decE (some m) = 0 from rfl] at hd
              go_wp2_with fail
              refine hd.mono ?_
              clear hd
              rintro e v26 ⟨sl, rfl, hmo, hv⟩
              have HX_v26 := Lib.hid (HX_v21.out.trans (hv.mono HX_v21.out.size))
              clear hv
              have HMO_v27 := Lib.hid hmo.arg
              clear hmo
              go_wp2_with (refine wpList_store_all rfl 43 (.tmp 15) (.tmp 100) rfl v26.heap.size (MV sl m) rfl rfl 43 _ (heap_alloc_new v26 _) (by rw [MV_size]; exact sizeMsg) rfl (MV_one _ _) ?_; intro v27 hp; have hb : Below v26.heap.size v26 v27 := (((Own.refl v26).alloc _).put hp (Nat.le_refl _)).below; have HX_v27 := Lib.hid (HX_v26.out.trans (hb.mono HX_v26.out.size)); have HA_v27 := Lib.hid (HMO_v27.out.keep hb); have HC_v27 := Lib.hid hp.here; have rr := ldMsg_run _ _ sl m hp.here; clear hb hp)
              refine (encode_any HS.out sl m v27 HA_v27.out HG.out HLN.out).mono ?_
              rintro e v28 ⟨rfl, hv⟩
              have HX_v28 := Lib.hid (HX_v27.out.trans (hv.mono HX_v27.out.size))
              rw [HE2.out]
              clear hv rr
              have qe := str_eq t
              go_wp2_with fail
              refine (alive_any HS.out v28).mono ?_
              rintro e v29 ⟨rfl, hv⟩
              have hvb := HO.out _ (HX_v28.out.trans (hv.mono HX_v28.out.size))
              clear hv
              go_wp2_with fail
              exact bodyPost_ret (v := .bool true) (by simp [results, Tryz.results5, go_sem]) rfl ⟨rfl, hvb⟩
          | true =>
            rw [Mg.encR_may hmb, ← HTY.out]
            have HMB := Lib.hid hmb
            clear hmb
            go_wp2_with fail
            refine HD.out.mono ?_
            rintro e v30 ⟨sl, rfl, hmo, hv⟩
            have HX_v30 := Lib.hid (HX_v16.out.trans (hv.mono HX_v16.out.size))
            clear hv
            have HMO_v31 := Lib.hid hmo.arg
            clear hmo
            go_wp2_with (refine wpList_store_all rfl 43 (.tmp 11) (.tmp 46) rfl v30.heap.size (MV sl x) rfl rfl 43 _ (heap_alloc_new v30 _) (by rw [MV_size]; exact sizeMsg) rfl (MV_one _ _) ?_; intro v31 hp; have hb : Below v30.heap.size v30 v31 := (((Own.refl v30).alloc _).put hp (Nat.le_refl _)).below; have HX_v31 := Lib.hid (HX_v30.out.trans (hb.mono HX_v30.out.size)); have HA_v31 := Lib.hid (HMO_v31.out.keep hb); have HC_v31 := Lib.hid hp.here; clear hb hp)
            have hd2 := decode_any (tx ++ ⟨#[120]⟩) (by rw [ByteArray.size_append]; have := HSZ.out; show tx.size + 1 ≤ 1073741824; omega) v31
            have hl2 : L (tx ++ ⟨#[120]⟩) = Mg.enc x ++ [120] := by rw [L_append, HSX.out]
            rw [hl2, Mg.back_more HMA.out] at hd2
            simp only [Option.getD_none] at hd2
            rw [show Mg.decE none = 7 from rfl] at hd2
            clear hl2
            go_wp2_with fail
            refine hd2.mono ?_
            clear hd2
            rintro e v32 ⟨sl2, rfl, hmo, hv⟩
            have HX_v32 := Lib.hid (HX_v31.out.trans (hv.mono HX_v31.out.size))
            have HA_v32 := Lib.hid (HA_v31.out.keep hv)
            have HC_v32 := Lib.hid ((hv.block _ (blk_lt HC_v31.out)).trans HC_v31.out)
            clear hv
            have HMO_v33 := Lib.hid hmo.arg
            clear hmo
            go_wp2_with (refine wpList_store_all rfl 43 (.tmp 13) (.tmp 52) rfl v32.heap.size (MV sl2 Mg.msg0) rfl rfl 43 _ (heap_alloc_new v32 _) (by rw [MV_size]; exact sizeMsg) rfl (MV_one _ _) ?_; intro v33 hp; have hb : Below v32.heap.size v32 v33 := (((Own.refl v32).alloc _).put hp (Nat.le_refl _)).below; have HX_v33 := Lib.hid (HX_v32.out.trans (hb.mono HX_v32.out.size)); have HA_v33 := Lib.hid (HMO_v33.out.keep hb); have HC_v33 := Lib.hid hp.here; have rm := ldMsg_run _ _ sl x ((hb.block _ (blk_lt HC_v32.out)).trans HC_v32.out); have HA6 := Lib.hid (HA_v32.out.keep hb); obtain ⟨ra, rb⟩ := HL.out _ (HX_v32.out.trans (hb.mono HX_v32.out.size)); clear hb hp)
            refine (ref_same sl s x x v33 HA6.out (HA.out _ HX_v33.out) HGA.out HGA.out).mono ?_
            rintro e v34 ⟨rfl, hv⟩
            have HX_v34 := Lib.hid (HX_v33.out.trans (hv.mono HX_v33.out.size))
            rw [decide_eq_true rfl]
            clear hv rm ra rb
            obtain ⟨ra, rb⟩ := HL.out _ HX_v34.out
            have hin : decide (tx = ty) = decide (x = y) := by rw [HTX.out, HTY.out]; exact Mg.back_inj HMA.out HMB.out
            have q1 := str_beq tx ty
            have q2 : (!(tx.toList == ty.toList)) = !decide (tx = ty) := by rw [q1]
            rw [hin] at q1 q2
            have HIN : Hid (x = y → tx = ty) := Lib.hid (fun h => of_decide_eq_true (by rw [hin, h]; exact decide_eq_true rfl))
            obtain ⟨bb, hbb⟩ : ∃ bb, bb = decide (x = y) := ⟨_, rfl⟩
            rw [← hbb] at q1 q2
            have HBB := Lib.hid hbb
            clear hin hbb
            have hsyI : (0 : Int) ≤ ty.size ∧ (ty.size : Int) ≤ 65536 := by
              have h1 := (Mg.may_fit HMB.out).2
              have h2 : L ty = Mg.enc y := by rw [HTY.out, L_S]
              rw [← h2, L_size] at h1
              omega
            go_wp2_with fail
            refine (ref_same s s2 x y v34 (HA.out _ HX_v34.out) (HB.out _ HX_v34.out) HGA.out HGB.out).mono ?_
            rintro e v35 ⟨rfl, hv⟩
            have HX_v35 := Lib.hid (HX_v34.out.trans (hv.mono HX_v34.out.size))
            rw [← HBB.out]
            clear hv ra rb
            cases bb with
            | true =>
              rw [Bool.not_true] at q2
              have hd := decode_any t (by have := HT.out; omega) v35
              cases hdec : Mg.decF (L t) with
              | none =>
                rw [hdec] at hd
                simp only [Option.getD_none] at hd
                rw [show Mg.decE none = 7 from rfl] at hd
                go_wp2_with fail
                refine hd.mono ?_
                clear hd
                rintro e v36 ⟨sl, rfl, hmo, hv⟩
                have HX_v36 := Lib.hid (HX_v35.out.trans (hv.mono HX_v35.out.size))
                clear hv
                have HMO_v37 := Lib.hid hmo.arg
                clear hmo
                go_wp2_with (refine wpList_store_all rfl 43 (.tmp 15) (.tmp 100) rfl v36.heap.size (MV sl Mg.msg0) rfl rfl 43 _ (heap_alloc_new v36 _) (by rw [MV_size]; exact sizeMsg) rfl (MV_one _ _) ?_; intro v37 hp; have hb : Below v36.heap.size v36 v37 := (((Own.refl v36).alloc _).put hp (Nat.le_refl _)).below; have HX_v37 := Lib.hid (HX_v36.out.trans (hb.mono HX_v36.out.size)); have HA_v37 := Lib.hid (HMO_v37.out.keep hb); have HC_v37 := Lib.hid hp.here; have rr := ldMsg_run _ _ sl Mg.msg0 hp.here; clear hb hp)
                refine (ref_same sl MS0 Mg.msg0 Mg.msg0 v37 HA_v37.out (MsgA.bare rfl rfl rfl rfl rfl) Mg.good0 Mg.good0).mono ?_
                rintro e v38 ⟨rfl, hv⟩
                have HX_v38 := Lib.hid (HX_v37.out.trans (hv.mono HX_v37.out.size))
                rw [decide_eq_true rfl]
                clear hv rr
                go_wp2_with fail
                refine (alive_any HS.out v38).mono ?_
                rintro e v39 ⟨rfl, hv⟩
                have hvb := HO.out _ (HX_v38.out.trans (hv.mono HX_v38.out.size))
                clear hv
                go_wp2_with fail
                exact bodyPost_ret (v := .bool true) (by simp [results, Tryz.results5, go_sem]) rfl ⟨rfl, hvb⟩
              | some m =>
                obtain ⟨hm, he⟩ := Mg.dec_may hdec
                have hg := Mg.fit_good (Mg.may_fit hm).1
                have hl : (Mg.enc m).length ≤ 1073741824 := by have := (Mg.may_fit hm).2; omega
                have he2 : Mg.encR m = .tuple #[.string t, .int .i64 0] := by rw [Mg.encR_may hm, he]; rfl
                have HG := Lib.hid hg
                have HLN := Lib.hid hl
                have HE2 := Lib.hid he2
                clear hm he hg hl he2
                rw [hdec] at hd
                simp only [Option.getD_some] at hd
                rw [show Mg.decE (some m) = 0 from rfl] at hd
                go_wp2_with fail
                refine hd.mono ?_
                clear hd
                rintro e v40 ⟨sl, rfl, hmo, hv⟩
                have HX_v40 := Lib.hid (HX_v35.out.trans (hv.mono HX_v35.out.size))
                clear hv
                have HMO_v41 := Lib.hid hmo.arg
                clear hmo
                go_wp2_with (refine wpList_store_all rfl 43 (.tmp 15) (.tmp 100) rfl v40.heap.size (MV sl m) rfl rfl 43 _ (heap_alloc_new v40 _) (by rw [MV_size]; exact sizeMsg) rfl (MV_one _ _) ?_; intro v41 hp; have hb : Below v40.heap.size v40 v41 := (((Own.refl v40).alloc _).put hp (Nat.le_refl _)).below; have HX_v41 := Lib.hid (HX_v40.out.trans (hb.mono HX_v40.out.size)); have HA_v41 := Lib.hid (HMO_v41.out.keep hb); have HC_v41 := Lib.hid hp.here; have rr := ldMsg_run _ _ sl m hp.here; clear hb hp)
                refine (encode_any HS.out sl m v41 HA_v41.out HG.out HLN.out).mono ?_
                rintro e v42 ⟨rfl, hv⟩
                have HX_v42 := Lib.hid (HX_v41.out.trans (hv.mono HX_v41.out.size))
                rw [HE2.out]
                clear hv rr
                have qe := str_eq t
                go_wp2_with fail
                refine (alive_any HS.out v42).mono ?_
                rintro e v43 ⟨rfl, hv⟩
                have hvb := HO.out _ (HX_v42.out.trans (hv.mono HX_v42.out.size))
                clear hv
                go_wp2_with fail
                exact bodyPost_ret (v := .bool true) (by simp [results, Tryz.results5, go_sem]) rfl ⟨rfl, hvb⟩
            | false =>
              rw [Bool.not_false] at q2
              by_cases hle : (tx.size : Int) ≤ ty.size
              · have hne : x ≠ y := of_decide_eq_false HBB.out.symm
                have hp := Mg.back_pre HMA.out HMB.out hne
                have q3 : ((ty.extract 0 tx.size).toList == tx.toList) = false := by
                  rw [str_beq, decide_eq_false]
                  intro h
                  apply hp
                  have h1 := congrArg L h
                  have h2 : L ty = Mg.enc y := by rw [HTY.out, L_S]
                  rw [L_extract, h2, HSX.out, ← L_size tx, HSX.out] at h1
                  exact h1
                clear hne hp
                have hd := decode_any t (by have := HT.out; omega) v35
                cases hdec : Mg.decF (L t) with
                | none =>
                  rw [hdec] at hd
                  simp only [Option.getD_none] at hd
                  rw [show Mg.decE none = 7 from rfl] at hd
                  go_wp2_with fail
                  refine hd.mono ?_
                  clear hd
                  rintro e v44 ⟨sl, rfl, hmo, hv⟩
                  have HX_v44 := Lib.hid (HX_v35.out.trans (hv.mono HX_v35.out.size))
                  clear hv
                  have HMO_v45 := Lib.hid hmo.arg
                  clear hmo
                  go_wp2_with (refine wpList_store_all rfl 43 (.tmp 15) (.tmp 100) rfl v44.heap.size (MV sl Mg.msg0) rfl rfl 43 _ (heap_alloc_new v44 _) (by rw [MV_size]; exact sizeMsg) rfl (MV_one _ _) ?_; intro v45 hp; have hb : Below v44.heap.size v44 v45 := (((Own.refl v44).alloc _).put hp (Nat.le_refl _)).below; have HX_v45 := Lib.hid (HX_v44.out.trans (hb.mono HX_v44.out.size)); have HA_v45 := Lib.hid (HMO_v45.out.keep hb); have HC_v45 := Lib.hid hp.here; have rr := ldMsg_run _ _ sl Mg.msg0 hp.here; clear hb hp)
                  refine (ref_same sl MS0 Mg.msg0 Mg.msg0 v45 HA_v45.out (MsgA.bare rfl rfl rfl rfl rfl) Mg.good0 Mg.good0).mono ?_
                  rintro e v46 ⟨rfl, hv⟩
                  have HX_v46 := Lib.hid (HX_v45.out.trans (hv.mono HX_v45.out.size))
                  rw [decide_eq_true rfl]
                  clear hv rr
                  go_wp2_with fail
                  refine (alive_any HS.out v46).mono ?_
                  rintro e v47 ⟨rfl, hv⟩
                  have hvb := HO.out _ (HX_v46.out.trans (hv.mono HX_v46.out.size))
                  clear hv
                  go_wp2_with fail
                  exact bodyPost_ret (v := .bool true) (by simp [results, Tryz.results5, go_sem]) rfl ⟨rfl, hvb⟩
                | some m =>
                  obtain ⟨hm, he⟩ := Mg.dec_may hdec
                  have hg := Mg.fit_good (Mg.may_fit hm).1
                  have hl : (Mg.enc m).length ≤ 1073741824 := by have := (Mg.may_fit hm).2; omega
                  have he2 : Mg.encR m = .tuple #[.string t, .int .i64 0] := by rw [Mg.encR_may hm, he]; rfl
                  have HG := Lib.hid hg
                  have HLN := Lib.hid hl
                  have HE2 := Lib.hid he2
                  clear hm he hg hl he2
                  rw [hdec] at hd
                  simp only [Option.getD_some] at hd
                  rw [show Mg.decE (some m) = 0 from rfl] at hd
                  go_wp2_with fail
                  refine hd.mono ?_
                  clear hd
                  rintro e v48 ⟨sl, rfl, hmo, hv⟩
                  have HX_v48 := Lib.hid (HX_v35.out.trans (hv.mono HX_v35.out.size))
                  clear hv
                  have HMO_v49 := Lib.hid hmo.arg
                  clear hmo
                  go_wp2_with (refine wpList_store_all rfl 43 (.tmp 15) (.tmp 100) rfl v48.heap.size (MV sl m) rfl rfl 43 _ (heap_alloc_new v48 _) (by rw [MV_size]; exact sizeMsg) rfl (MV_one _ _) ?_; intro v49 hp; have hb : Below v48.heap.size v48 v49 := (((Own.refl v48).alloc _).put hp (Nat.le_refl _)).below; have HX_v49 := Lib.hid (HX_v48.out.trans (hb.mono HX_v48.out.size)); have HA_v49 := Lib.hid (HMO_v49.out.keep hb); have HC_v49 := Lib.hid hp.here; have rr := ldMsg_run _ _ sl m hp.here; clear hb hp)
                  refine (encode_any HS.out sl m v49 HA_v49.out HG.out HLN.out).mono ?_
                  rintro e v50 ⟨rfl, hv⟩
                  have HX_v50 := Lib.hid (HX_v49.out.trans (hv.mono HX_v49.out.size))
                  rw [HE2.out]
                  clear hv rr
                  have qe := str_eq t
                  go_wp2_with fail
                  refine (alive_any HS.out v50).mono ?_
                  rintro e v51 ⟨rfl, hv⟩
                  have hvb := HO.out _ (HX_v50.out.trans (hv.mono HX_v50.out.size))
                  clear hv
                  go_wp2_with fail
                  exact bodyPost_ret (v := .bool true) (by simp [results, Tryz.results5, go_sem]) rfl ⟨rfl, hvb⟩
              · have hd := decode_any t (by have := HT.out; omega) v35
                cases hdec : Mg.decF (L t) with
                | none =>
                  rw [hdec] at hd
                  simp only [Option.getD_none] at hd
                  rw [show Mg.decE none = 7 from rfl] at hd
                  go_wp2_with fail
                  refine hd.mono ?_
                  clear hd
                  rintro e v52 ⟨sl, rfl, hmo, hv⟩
                  have HX_v52 := Lib.hid (HX_v35.out.trans (hv.mono HX_v35.out.size))
                  clear hv
                  have HMO_v53 := Lib.hid hmo.arg
                  clear hmo
                  go_wp2_with (refine wpList_store_all rfl 43 (.tmp 15) (.tmp 100) rfl v52.heap.size (MV sl Mg.msg0) rfl rfl 43 _ (heap_alloc_new v52 _) (by rw [MV_size]; exact sizeMsg) rfl (MV_one _ _) ?_; intro v53 hp; have hb : Below v52.heap.size v52 v53 := (((Own.refl v52).alloc _).put hp (Nat.le_refl _)).below; have HX_v53 := Lib.hid (HX_v52.out.trans (hb.mono HX_v52.out.size)); have HA_v53 := Lib.hid (HMO_v53.out.keep hb); have HC_v53 := Lib.hid hp.here; have rr := ldMsg_run _ _ sl Mg.msg0 hp.here; clear hb hp)
                  refine (ref_same sl MS0 Mg.msg0 Mg.msg0 v53 HA_v53.out (MsgA.bare rfl rfl rfl rfl rfl) Mg.good0 Mg.good0).mono ?_
                  rintro e v54 ⟨rfl, hv⟩
                  have HX_v54 := Lib.hid (HX_v53.out.trans (hv.mono HX_v53.out.size))
                  rw [decide_eq_true rfl]
                  clear hv rr
                  go_wp2_with fail
                  refine (alive_any HS.out v54).mono ?_
                  rintro e v55 ⟨rfl, hv⟩
                  have hvb := HO.out _ (HX_v54.out.trans (hv.mono HX_v54.out.size))
                  clear hv
                  go_wp2_with fail
                  exact bodyPost_ret (v := .bool true) (by simp [results, Tryz.results5, go_sem]) rfl ⟨rfl, hvb⟩
                | some m =>
                  obtain ⟨hm, he⟩ := Mg.dec_may hdec
                  have hg := Mg.fit_good (Mg.may_fit hm).1
                  have hl : (Mg.enc m).length ≤ 1073741824 := by have := (Mg.may_fit hm).2; omega
                  have he2 : Mg.encR m = .tuple #[.string t, .int .i64 0] := by rw [Mg.encR_may hm, he]; rfl
                  have HG := Lib.hid hg
                  have HLN := Lib.hid hl
                  have HE2 := Lib.hid he2
                  clear hm he hg hl he2
                  rw [hdec] at hd
                  simp only [Option.getD_some] at hd
                  rw [show Mg.decE (some m) = 0 from rfl] at hd
                  go_wp2_with fail
                  refine hd.mono ?_
                  clear hd
                  rintro e v56 ⟨sl, rfl, hmo, hv⟩
                  have HX_v56 := Lib.hid (HX_v35.out.trans (hv.mono HX_v35.out.size))
                  clear hv
                  have HMO_v57 := Lib.hid hmo.arg
                  clear hmo
                  go_wp2_with (refine wpList_store_all rfl 43 (.tmp 15) (.tmp 100) rfl v56.heap.size (MV sl m) rfl rfl 43 _ (heap_alloc_new v56 _) (by rw [MV_size]; exact sizeMsg) rfl (MV_one _ _) ?_; intro v57 hp; have hb : Below v56.heap.size v56 v57 := (((Own.refl v56).alloc _).put hp (Nat.le_refl _)).below; have HX_v57 := Lib.hid (HX_v56.out.trans (hb.mono HX_v56.out.size)); have HA_v57 := Lib.hid (HMO_v57.out.keep hb); have HC_v57 := Lib.hid hp.here; have rr := ldMsg_run _ _ sl m hp.here; clear hb hp)
                  refine (encode_any HS.out sl m v57 HA_v57.out HG.out HLN.out).mono ?_
                  rintro e v58 ⟨rfl, hv⟩
                  have HX_v58 := Lib.hid (HX_v57.out.trans (hv.mono HX_v57.out.size))
                  rw [HE2.out]
                  clear hv rr
                  have qe := str_eq t
                  go_wp2_with fail
                  refine (alive_any HS.out v58).mono ?_
                  rintro e v59 ⟨rfl, hv⟩
                  have hvb := HO.out _ (HX_v58.out.trans (hv.mono HX_v58.out.size))
                  clear hv
                  go_wp2_with fail
                  exact bodyPost_ret (v := .bool true) (by simp [results, Tryz.results5, go_sem]) rfl ⟨rfl, hvb⟩

end Go.Proofs.YtjgnomjjphkfbaaGreat
