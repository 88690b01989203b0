/-
  Joined out of the texts MsgMask.
-/
import Derived.Test.YtjgnomjjphkfbaaGreatRMk
import Derived.Test.YtjgnomjjphkfbaaGreatRCp
import Derived.Deep.DeepCutAuto
namespace Go.Proofs.YtjgnomjjphkfbaaGreat
open Go.RowKit

set_option maxRecDepth 20000 in
set_option maxHeartbeats 16000000 in
theorem mask_any (s : MS) (x : Mg.Msg) (w : World) (h : MsgA w s x) (ok : x.Good) :
    Calls Tryz.prog 15 #[.agg (MV s x)] w fun e w' => ∃ s' : MS, e = .returned (.agg (MV s' (Mg.mask x))) ∧ MsgO w w' s' (Mg.mask x) ∧ Below w.heap.size w w' := by
  obtain ⟨w0, hw0⟩ : ∃ w0, w0 = (w.alloc (.cells (MV s x) 43 (0, 0))).alloc (.cells Z28 43 (0, 0)) := ⟨_, rfl⟩
  have hb0 : Below w.heap.size w w0 := by rw [hw0]; exact (((Own.refl w).alloc _).alloc _).below
  have h1 : w0.heap[w.heap.size]? = some (.cells (MV s x) 43 (0, 0)) := by
    rw [hw0, Below.heap_alloc _ _ _ (by simp)]; exact heap_alloc_new w _
  have h2 : w0.heap[w.heap.size + 1]? = some (.cells (MV MS0 Mg.msg0) 43 (0, 0)) := by
    have := heap_alloc_new (w.alloc (.cells (MV s x) 43 (0, 0))) (.cells Z28 43 (0, 0))
    rw [World.size_alloc] at this
    rw [hw0]
    exact this
  have HC : Hid (CellsAt w0 w.heap.size 0 (MV s x).toList) := Lib.hid ⟨_, _, _, h1, by simp, by rw [List.drop_zero, List.take_length]⟩
  have H1 := Lib.hid h1
  have H2 := Lib.hid h2
  have HB0 := Lib.hid hb0
  have HOK := Lib.hid ok
  have HCP := Lib.hid (copied_any s x w0 (h.keep hb0) ok)
  have HW0 := Lib.hid hw0
  clear h ok h1 h2 hb0 hw0
  go_enter Tryz.func15, Tryz.ntmps15
  go_upto_region 1 with (fail)
  rw [← HW0.out]
  clear HW0
  go_wp2_with (first | (refine wpList_load_at rfl 43 (.tmp 1) rfl w.heap.size 0 rfl (MV s x).toList _ HC.out Tryz.underlying43 rfl sizeMsg ?_))
  first | rw [Array.toArray_toList] | skip
  refine HCP.out.mono ?_
  rintro e w1 ⟨s1, rfl, hmo, ⟨xs, ⟨hrow, hro⟩, hap⟩, hb1⟩
  have HMO := Lib.hid hmo
  have HRO := Lib.hid (And.intro hrow (And.intro hro hap))
  have HB1 := Lib.hid hb1
  have HX1 := Lib.hid ((hb1.block _ (blk_lt H1.out)).trans H1.out)
  have HX2 := Lib.hid ((hb1.block _ (blk_lt H2.out)).trans H2.out)
  clear hmo hrow hro hap hb1 HCP HC H1 H2
  go_wp2_with (first | (refine wpList_store_all rfl 43 (.tmp 1) (.tmp 8) rfl w.heap.size (MV s1 x) rfl (by first | rfl | simp) 43 _ HX1.out (by rw [MV_size]; exact sizeMsg) rfl (MV_one _ _) ?_; intro w2 hp2; have HP2 := Lib.hid hp2; have q10 : w2.cell? ⟨w.heap.size, 10, none⟩ = some (.slice s1.edits.1 x.ask.edits.length s1.edits.2) := (by rw [cell_of_row _ _ _ _ _ _ hp2.here]; rfl); clear hp2))
  have hk0 := MK.start HMO.out HRO.out.1 HRO.out.2.1 HRO.out.2.2 HX1.out HX2.out HP2.out HB0.out HB1.out (Nat.le_refl _)
  have HK0 := Lib.hid hk0
  clear hk0 HMO HRO HX1 HX2 HP2 HB0 HB1 q10
  have hl1 : (0 : Int) ≤ x.ask.edits.length ∧ (x.ask.edits.length : Int) ≤ 100000 := by have := HOK.out.edits.2; omega
  go_loopw [13] (fun vi wr => ∃ i : Nat, i ≤ x.ask.edits.length ∧ vi = .int .i64 i ∧ MK w wr w.heap.size s1 x { x with ask := { x.ask with edits := upI Mg.hideE i x.ask.edits } } xs) (fun vi _ => x.ask.edits.length - (intOf vi).toNat)
  case atStart => exact ⟨0, Nat.zero_le _, rfl, HK0.out.cast (by rw [upI_zero])⟩
  case round =>
    obtain ⟨i, hi, rfl, hmk⟩ := hrel
    have HK := Lib.hid hmk
    clear hmk
    by_cases hlt : i < x.ask.edits.length
    · have hiI : (0 : Int) ≤ i ∧ (i : Int) < x.ask.edits.length := by omega
      have HLT := Lib.hid hlt
      have hd := HK.out.keep (Own.refl wr).drew.below
      have hll : i < (upI Mg.hideE i x.ask.edits).length := by rw [upI_len i (by omega)]; exact hlt
      obtain ⟨g, off, ha, hc⟩ := hd.ls.edits.row i (by simpa using hll)
      have e0 : (upI Mg.hideE i x.ask.edits)[i] = x.ask.edits[i] := by
        have := upI_at (f := Mg.hideE) i hlt
        rw [List.getElem?_eq_getElem hll] at this
        exact Option.some.inj this
      simp only [List.getElem_map, e0] at hc
      obtain ⟨tx, htx⟩ : ∃ tx, tx = (x.ask.edits[i]).t := ⟨_, rfl⟩
      have HTX : Hid (∀ h, tx = (x.ask.edits[i]'h).t) := Lib.hid (fun _ => htx)
      have pT : wr.drew.cell? ⟨g, off + i * 6 + 5, none⟩ = some (.string tx) := by rw [htx]; exact hc.cell 5 (by simp)
      have p10 := hd.cell 10 rfl
      rw [ha] at p10
      have HA := Lib.hid ha
      have HD := Lib.hid hd
      have HM := Lib.hid (fun wz => masked_any tx wz (by rw [htx]; exact (HOK.out.edits.1 _ (List.getElem_mem _)).f))
      clear hc e0 hll htx ha hd HK hlt
      go_wp2_with fail
      go_region_with (first
        | (go_at_call 41
           (refine (HM.out _).mono ?_)
           rintro e v1 ⟨rfl, hv⟩
           have hd1 := HD.out.keep hv
           have p10' := hd1.cell 10 rfl
           rw [HA.out] at p10'
           have ho := hd1.ls.edits
           rw [HA.out] at ho
           have fT := ho.thaw (off + i * 6 + 5)
           have pT1 : ∃ u, v1.cell? ⟨g, off + i * 6 + 5, none⟩ = some u := by
             obtain ⟨g', off', e', hc'⟩ := ho.row i (by rw [List.length_map, upI_len i (Nat.le_of_lt HLT.out)]; exact HLT.out)
             cases e'
             exact ⟨_, hc'.cell 5 (by simp)⟩
           obtain ⟨uT, pT1⟩ := pT1
           have hn := MK.edit_nextT i HLT.out hd1 HA.out HTX.out
           have HN := Lib.hid hn
           clear hd1 ho hn hv))
      all_goals
        go_wp2_with fail
        go_roundw
        case rel => exact ⟨i + 1, by omega, by go_num, HN.out⟩
        case measure => simp [intOf]; omega
    · obtain rfl : i = x.ask.edits.length := by omega
      clear hlt hi
      obtain ⟨x1, hx1⟩ : ∃ x1 : Mg.Msg, x1 = { x with ask := { x.ask with edits := x.ask.edits.map Mg.hideE } } := ⟨_, rfl⟩
      have hk1 : MK w wr w.heap.size s1 x x1 xs := HK.out.cast (by rw [upI_all, hx1])
      have hr1 : x1.rows = x.rows := by rw [hx1]
      have HOKR : Hid ((∀ r ∈ x1.rows, r.Good) ∧ x1.rows.length ≤ 100000) := Lib.hid (by rw [hr1]; exact HOK.out.rows)
      have HLR : Hid (x.rows.length = x1.rows.length) := Lib.hid (by rw [hr1])
      have HX1 := Lib.hid hx1
      have HK1 := Lib.hid hk1
      have p18 := hk1.cell 18 rfl
      rw [HLR.out] at p18
      have hl2 : (0 : Int) ≤ x1.rows.length ∧ (x1.rows.length : Int) ≤ 100000 := by have := HOKR.out.2; omega
      clear hk1 HK hr1 hx1
      go_wp2_with fail
      clear p18
      obtain ⟨w7, hw7⟩ : ∃ y, y = wr := ⟨_, rfl⟩
      subst hw7
      go_loopw [34] (fun vi wr => ∃ i : Nat, i ≤ x1.rows.length ∧ vi = .int .i64 i ∧ MK w wr w.heap.size s1 x { x1 with rows := upI Mg.hideR i x1.rows } xs) (fun vi _ => x1.rows.length - (intOf vi).toNat)
      case atStart => exact ⟨0, Nat.zero_le _, rfl, HK1.out.cast (by rw [upI_zero])⟩
      case round =>
        clear HK1
        obtain ⟨i, hi, rfl, hmk⟩ := hrel
        by_cases hlt : i < x1.rows.length
        · have hiI : (0 : Int) ≤ i ∧ (i : Int) < x1.rows.length := by omega
          have HLT := Lib.hid hlt
          have hK0 : MK w wr w.heap.size s1 x { x1 with rows := rowsK x1.rows i 0 hlt } xs := hmk.cast (by rw [rowsK_start])
          obtain ⟨gr, orr, sv, cv, hsr, hxi⟩ := hmk.rowsAt i (by show i < (upI Mg.hideR i x1.rows).length; rw [upI_len i (by omega)]; exact hlt)
          have e0 : (upI Mg.hideR i x1.rows)[i]'(by rw [upI_len i (by omega)]; exact hlt) = x1.rows[i] := by
            have := upI_at (f := Mg.hideR) i hlt
            rw [List.getElem?_eq_getElem (by rw [upI_len i (by omega)]; exact hlt)] at this
            exact Option.some.inj this
          simp only [e0] at hxi
          have p18 := hmk.cell 18 rfl
          rw [hsr, HLR.out] at p18
          obtain ⟨nv, hnv⟩ : ∃ nv, nv = (x1.rows[i]'hlt).l.length := ⟨_, rfl⟩
          have pL : wr.cell? ⟨gr, orr + i * 3 + 1 + 1, none⟩ = some (.slice sv nv cv) := by rw [hnv]; exact hmk.cellL hsr hxi
          have hnl := (HOKR.out.1 _ (List.getElem_mem hlt)).d
          have hnI : (0 : Int) ≤ nv ∧ (nv : Int) ≤ 100000 := by omega
          have HNV := Lib.hid hnv
          have HSR := Lib.hid hsr
          have HXI := Lib.hid hxi
          have HK0 := Lib.hid hK0
          clear hmk hK0 hsr hxi e0 hnv hnl
          go_wp2_with fail
          clear p18 pL
          obtain ⟨w8, hw8⟩ : ∃ y, y = wr := ⟨_, rfl⟩
          subst hw8
          go_loopw [45] (fun vi wr => ∃ k : Nat, k ≤ nv ∧ vi = .int .i64 k ∧ MK w wr w.heap.size s1 x { x1 with rows := rowsK x1.rows i k HLT.out } xs) (fun vi _ => nv - (intOf vi).toNat)
          case atStart => exact ⟨0, Nat.zero_le _, rfl, HK0.out⟩
          case round =>
            clear HK0
            obtain ⟨k, hk, rfl, hmk⟩ := hrel
            by_cases hkt : k < nv
            · have hkI : (0 : Int) ≤ k ∧ (k : Int) < nv := by omega
              have hkl : k < (x1.rows[i]'HLT.out).l.length := by rw [← HNV.out]; exact hkt
              have HKL := Lib.hid hkl
              have hd := hmk.keep (Own.refl wr).drew.below
              obtain ⟨gv, ov, hsv, pT0, fT⟩ := MK.verAt i k HLT.out HKL.out hd HXI.out
              obtain ⟨tx, htx⟩ : ∃ tx, tx = ((x1.rows[i]'HLT.out).l[k]'HKL.out).t := ⟨_, rfl⟩
              have pT : wr.drew.cell? ⟨gv, ov + k * 3 + 2, none⟩ = some (.string tx) := by rw [htx]; exact pT0
              have p18 := hd.cell 18 rfl
              rw [HSR.out, HLR.out] at p18
              have pL : wr.drew.cell? ⟨gr, orr + i * 3 + 1 + 1, none⟩ = some (.slice (some ⟨gv, ov, none⟩) nv cv) := by rw [HNV.out, ← hsv]; exact hd.cellL HSR.out HXI.out
              have HXI2 := HXI.out
              rw [hsv] at HXI2
              have HXJ := Lib.hid HXI2
              have HTX := Lib.hid htx
              have HD := Lib.hid hd
              have HM := Lib.hid (fun wz => masked_any tx wz (by rw [htx]; exact ((HOKR.out.1 _ (List.getElem_mem HLT.out)).c _ (List.getElem_mem _)).c))
              clear hmk hd fT hsv HXI2 pT0 htx hkl hkt
              go_wp2_with fail
              go_region_with (first
                | (go_at_call 41
                   (refine (HM.out _).mono ?_)
                   rintro e v1 ⟨rfl, hv⟩
                   have hd1 := HD.out.keep hv
                   have p18' := hd1.cell 18 rfl
                   rw [HSR.out, HLR.out] at p18'
                   have pL' : v1.cell? ⟨gr, orr + i * 3 + 1 + 1, none⟩ = some (.slice (some ⟨gv, ov, none⟩) nv cv) := by rw [HNV.out]; exact hd1.cellL HSR.out HXJ.out
                   obtain ⟨g2, o2, hs2, pT', fT'⟩ := MK.verAt i k HLT.out HKL.out hd1 HXJ.out
                   cases hs2
                   have fT2 := fT' (ov + k * 3 + 2)
                   have hn := MK.ver_nextT i k HLT.out HKL.out hd1 HXJ.out HTX.out
                   have HN := Lib.hid hn
                   clear hd1 hn hv fT'))
              all_goals
                go_wp2_with fail
                go_roundw
                case rel => exact ⟨k + 1, by omega, by go_num, HN.out⟩
                case measure => simp [intOf]; omega
            · obtain rfl : k = nv := by omega
              have hfin : MK w wr w.heap.size s1 x { x1 with rows := upI Mg.hideR (i + 1) x1.rows } xs := hmk.cast (by rw [← rowsK_done x1.rows i HLT.out, ← HNV.out])
              have HFIN := Lib.hid hfin
              clear hmk hkt hk hfin
              go_wp2_with fail
              go_roundw
              case rel => exact ⟨i + 1, by omega, by go_num, HFIN.out⟩
              case measure => simp [intOf]; omega
        · obtain rfl : i = x1.rows.length := by omega
          clear hlt hi
          obtain ⟨x2, hx2⟩ : ∃ x2 : Mg.Msg, x2 = { x1 with rows := x1.rows.map Mg.hideR } := ⟨_, rfl⟩
          have hk2 : MK w wr w.heap.size s1 x x2 xs := hmk.cast (by rw [upI_all, hx2])
          have hr2 : x2.told = x.told := by rw [hx2, HX1.out]
          have HOKG : Hid ((∀ r ∈ x2.told.got, r.Good) ∧ x2.told.got.length ≤ 100000) := Lib.hid (by rw [hr2]; exact HOK.out.got)
          have HLG : Hid (x.told.got.length = x2.told.got.length) := Lib.hid (by rw [hr2])
          have HX2 := Lib.hid hx2
          have HK2 := Lib.hid hk2
          have p24 := hk2.cell 24 rfl
          rw [HLG.out] at p24
          have hl3 : (0 : Int) ≤ x2.told.got.length ∧ (x2.told.got.length : Int) ≤ 100000 := by have := HOKG.out.2; omega
          clear hmk hk2 hr2 hx2
          go_wp2_with fail
          clear p24
          obtain ⟨w9, hw9⟩ : ∃ y, y = wr := ⟨_, rfl⟩
          subst hw9
          go_loopw [76] (fun vi wr => ∃ i : Nat, i ≤ x2.told.got.length ∧ vi = .int .i64 i ∧ MK w wr w.heap.size s1 x { x2 with told := { x2.told with got := upI Mg.hideG i x2.told.got } } xs) (fun vi _ => x2.told.got.length - (intOf vi).toNat)
          case atStart => exact ⟨0, Nat.zero_le _, rfl, HK2.out.cast (by rw [upI_zero])⟩
          case round =>
            clear HK2
            obtain ⟨i, hi, rfl, hmk⟩ := hrel
            have HK := Lib.hid hmk
            clear hmk
            by_cases hlt : i < x2.told.got.length
            · have hiI : (0 : Int) ≤ i ∧ (i : Int) < x2.told.got.length := by omega
              have HLT := Lib.hid hlt
              have hd := HK.out.keep (Own.refl wr).drew.below
              have hll : i < (upI Mg.hideG i x2.told.got).length := by rw [upI_len i (by omega)]; exact hlt
              obtain ⟨g, off, ha, hc⟩ := hd.ls.got.row i (by simpa using hll)
              have e0 : (upI Mg.hideG i x2.told.got)[i] = x2.told.got[i] := by
                have := upI_at (f := Mg.hideG) i hlt
                rw [List.getElem?_eq_getElem hll] at this
                exact Option.some.inj this
              simp only [List.getElem_map, e0] at hc
              obtain ⟨tx, htx⟩ : ∃ tx, tx = (x2.told.got[i]).v.t := ⟨_, rfl⟩
              have HTX : Hid (∀ h, tx = (x2.told.got[i]'h).v.t) := Lib.hid (fun _ => htx)
              have pT : wr.drew.cell? ⟨g, off + i * 4 + 2, none⟩ = some (.string tx) := by rw [htx]; exact hc.cell 2 (by simp)
              have p24 := hd.cell 24 rfl
              rw [ha, HLG.out] at p24
              have HA := Lib.hid ha
              have HD := Lib.hid hd
              have HM := Lib.hid (fun wz => masked_any tx wz (by rw [htx]; exact (HOKG.out.1 _ (List.getElem_mem _)).a.c))
              clear hc e0 hll htx ha hd HK hlt
              go_wp2_with fail
              go_region_with (first
                | (go_at_call 41
                   (refine (HM.out _).mono ?_)
                   rintro e v1 ⟨rfl, hv⟩
                   have hd1 := HD.out.keep hv
                   have p24' := hd1.cell 24 rfl
                   rw [HA.out, HLG.out] at p24'
                   have ho := hd1.ls.got
                   rw [HA.out] at ho
                   have fT := ho.thaw (off + i * 4 + 2)
                   have pT1 : ∃ u, v1.cell? ⟨g, off + i * 4 + 2, none⟩ = some u := by
                     obtain ⟨g', off', e', hc'⟩ := ho.row i (by rw [List.length_map, upI_len i (Nat.le_of_lt HLT.out)]; exact HLT.out)
                     cases e'
                     exact ⟨_, hc'.cell 2 (by simp)⟩
                   obtain ⟨uT, pT1⟩ := pT1
                   have hn := MK.got_nextT i HLT.out hd1 HA.out HTX.out
                   have HN := Lib.hid hn
                   clear hd1 ho hn hv))
              all_goals
                go_wp2_with fail
                go_roundw
                case rel => exact ⟨i + 1, by omega, by go_num, HN.out⟩
                case measure => simp [intOf]; omega
            · obtain rfl : i = x2.told.got.length := by omega
              have hk3 : MK w wr w.heap.size s1 x (Mg.mask x) xs := HK.out.cast (by rw [upI_all, HX2.out, HX1.out]; rfl)
              have HK3 := Lib.hid hk3
              have HC : Hid (CellsAt wr w.heap.size 0 (MV s1 x).toList) := Lib.hid ⟨_, _, _, hk3.blk, by simp, by rw [List.drop_zero, List.take_length]⟩
              clear hlt hi hk3 HK
              go_wp2_with (first
                | (refine wpList_load_at rfl 43 (.tmp 1) rfl w.heap.size 0 rfl (MV s1 x).toList _ HC.out Tryz.underlying43 rfl sizeMsg ?_)
                | (refine wpList_store_all rfl 43 (.tmp 2) (.tmp 96) rfl (w.heap.size + 1) (MV s1 x) rfl (by first | rfl | simp) 43 _ HK3.out.two (by rw [MV_size]; exact sizeMsg) rfl (MV_one _ _) ?_; intro w6 hp6; have HP6 := Lib.hid hp6; clear hp6))
              refine bodyPost_ret (results_cell_row rfl _ _ (w.heap.size + 1) _ _ _ _ rfl HP6.out.here Tryz.underlying43 rfl (by kernel_rfl)) rfl ⟨s1, by rw [MV_mask], HK3.out.ls.putB HK3.out.two HP6.out, ?_⟩
              exact HK3.out.bel.trans ⟨HP6.out.os, HP6.out.tape, HP6.out.output, by rw [HP6.out.size]; exact Nat.le_refl _, fun k hk => HP6.out.other k (by omega)⟩

end Go.Proofs.YtjgnomjjphkfbaaGreat
