/-
  Joined out of the texts MsgCp.
-/
import Derived.Test.YtjgnomjjphkfbaaGreatRCpx
import Derived.Deep.DeepCutAuto
import Derived.Deep.RegionHeld3
namespace Go.Proofs.YtjgnomjjphkfbaaGreat
open Go.RowKit

/-- A message that is nothing. -/
abbrev Z28 : Array Value := #[.int .u8 0, .int .u64 0, .int .u64 0, .int .u64 0, .int .u64 0, .int .u64 0, .slice none 0 0, .int .u32 0, .slice none 0 0, .slice none 0 0, .slice none 0 0, .slice none 0 0, .bool false, .string { data := #[] }, .bool false, .bool false, .int .u64 0, .int .u64 0, .slice none 0 0, .int .u64 0, .slice none 0 0, .bool false, .int .i64 0, .int .u32 0, .slice none 0 0, .slice none 0 0, .slice none 0 0, .int .u8 0]
set_option maxRecDepth 20000 in
set_option maxHeartbeats 8000000 in
theorem copied_any (s : MS) (x : Mg.Msg) (w : World) (h : MsgA w s x) (ok : x.Good) :
    Calls Tryz.prog 40 #[.agg (MV s x)] w fun e w' => ∃ s' : MS, e = .returned (.agg (MV s' x)) ∧ MsgO w w' s' x ∧ (∃ xs, (OL w w' 72 3 s'.rows.1 s'.rows.2 xs ∧ RowsO w w' x.rows xs) ∧ RowsAp xs x.rows.length) ∧ Below w.heap.size w w' := by
  obtain ⟨w0, hw0⟩ : ∃ w0, w0 = (w.alloc (.cells (MV s x) 43 (0, 0))).alloc (.cells Z28 43 (0, 0)) := ⟨_, rfl⟩
  obtain ⟨xs, hax, hrx⟩ := h.rows
  have hcp : CP w w0 w.heap.size s x xs 0 := by
    rw [hw0]
    refine ⟨?_, (((Own.refl w).alloc _).alloc _).below, Nat.le_refl _, ?_, ?_, ?_, ?_, ?_, ?_, ?_, ?_, ?_, ?_, ?_⟩
    · rw [Below.heap_alloc _ _ _ (by simp)]; exact heap_alloc_new w _
    · have := heap_alloc_new (w.alloc (.cells (MV s x) 43 (0, 0))) (.cells Z28 43 (0, 0))
      rw [World.size_alloc] at this
      exact this
    all_goals exact fun k => absurd k (by decide)
  have HA := Lib.hid h
  have HOK := Lib.hid ok
  have HAX := Lib.hid hax
  have HRX := Lib.hid hrx
  have HCP := Lib.hid hcp
  have HW0 := Lib.hid hw0
  have q6 := hcp.cell 6 rfl
  have f6 := hcp.thaw 6
  clear h ok hax hrx hcp
  go_enter Tryz.func40, Tryz.ntmps40
  go_upto_region 1 with (fail)
  rw [← HW0.out]
  clear HW0 hw0
  have HC := Lib.hid (cl_parts HA.out HOK.out HCP.out.bel)
  go_wp2_with fail
  refine HC.out.mono ?_
  rintro e w1 ⟨a1, c1, rfl, ho, hb⟩
  have hk := HCP.out.keep hb
  have p6 := hk.cell 6 rfl
  have p6f := hk.thaw 6
  have hput := hk.put_parts (ho.base (s := a1) HCP.out.bel.size)
  have HCP1 := Lib.hid hput
  clear hk hput ho hb HC q6 f6 HCP
  go_upto_region 2 with (fail)
  generalize w1.setCell ⟨w.heap.size, 6, none⟩ (.slice a1 x.parts.length c1) = w2 at *
  clear p6 p6f
  go_cut [] (fun wx => ∃ a2 c2 a3 c3, CP w wx w.heap.size { s with parts := (a1, c1), reads := (a2, c2), readAt := (a3, c3) } x xs 3)
  case first =>
    have hd := HCP1.out.keep (Own.refl w2).drew.below
    have HD0 := Lib.hid hd
    have p8 := hd.cell 8 rfl
    have p9 := hd.cell 9 rfl
    have HC0 := Lib.hid (cl_reads HA.out HOK.out hd.bel)
    clear hd
    go_region_with (first
      | (go_at_call 66
         (with_reducible refine HC0.out.mono ?_)
         rintro e v1 ⟨a2, c2, rfl, ho2, hb2⟩
         have hd1 := HD0.out.keep hb2
         have p8' := hd1.cell 8 rfl
         have p9' := hd1.cell 9 rfl
         have HO2' := Lib.hid (ho2.base HD0.out.bel.size)
         have HD1 := Lib.hid hd1
         have HC1 := Lib.hid (cl_readAt HA.out HOK.out hd1.bel)
         clear ho2 hb2 hd1)
      | (go_at_call 67
         (with_reducible refine HC1.out.mono ?_)
         rintro e v2 ⟨a3, c3, rfl, ho3, hb3⟩
         have hd2 := HD1.out.keep hb3
         have p8'' := hd2.cell 8 rfl
         have p9'' := hd2.cell 9 rfl
         have HO2'' := Lib.hid (HO2'.out.keep hb3)
         have HO3'' := Lib.hid (ho3.base HD1.out.bel.size)
         have f8 := hd2.thaw 8
         have f9 := hd2.thaw 9
         have e0 := hd2
         have u0 := e0.put_reads HO2''.out
         have e1 := u0
         have u1 := e1.put_readAt (HO3''.out.setM (i := 8) e0.blk (by decide) (.slice a2 x.ask.reads.length c2))
         have HF := Lib.hid u1
         clear e1 u1 e0 u0 ho3 hb3))
    all_goals
      go_wp2_with fail
      go_meet
      exact ⟨a2, c2, a3, c3, HF.out⟩
  case rest =>
  obtain ⟨a2, c2, a3, c3, hcp3⟩ := hcut
  have HCP3 := Lib.hid hcp3
  obtain ⟨y3, hy3⟩ : ∃ y, y = wc := ⟨_, rfl⟩
  subst hy3
  clear hcp3
  go_upto_region 3 with (fail)
  go_cut [] (fun wx => ∃ a4 c4 a5 c5, CP w wx w.heap.size { s with parts := (a1, c1), reads := (a2, c2), readAt := (a3, c3), edits := (a4, c4), editAt := (a5, c5) } x xs 5)
  case first =>
    have hd := HCP3.out.keep (Own.refl y3).drew.below
    have HD0 := Lib.hid hd
    have p10 := hd.cell 10 rfl
    have p11 := hd.cell 11 rfl
    have HC0 := Lib.hid (cl_edits HA.out HOK.out hd.bel)
    clear hd
    go_region_with (first
      | (go_at_call 68
         (with_reducible refine HC0.out.mono ?_)
         rintro e v1 ⟨a4, c4, rfl, ho4, hb4⟩
         have hd1 := HD0.out.keep hb4
         have p10' := hd1.cell 10 rfl
         have p11' := hd1.cell 11 rfl
         have HO4' := Lib.hid (ho4.base HD0.out.bel.size)
         have HD1 := Lib.hid hd1
         have HC1 := Lib.hid (cl_editAt HA.out HOK.out hd1.bel)
         clear ho4 hb4 hd1)
      | (go_at_call 67
         (with_reducible refine HC1.out.mono ?_)
         rintro e v2 ⟨a5, c5, rfl, ho5, hb5⟩
         have hd2 := HD1.out.keep hb5
         have p10'' := hd2.cell 10 rfl
         have p11'' := hd2.cell 11 rfl
         have HO4'' := Lib.hid (HO4'.out.keep hb5)
         have HO5'' := Lib.hid (ho5.base HD1.out.bel.size)
         have f10 := hd2.thaw 10
         have f11 := hd2.thaw 11
         have e0 := hd2
         have u0 := e0.put_edits HO4''.out
         have e1 := u0
         have u1 := e1.put_editAt (HO5''.out.setM (i := 10) e0.blk (by decide) (.slice a4 x.ask.edits.length c4))
         have HF := Lib.hid u1
         clear e1 u1 e0 u0 ho5 hb5))
    all_goals
      go_wp2_with fail
      go_meet
      exact ⟨a4, c4, a5, c5, HF.out⟩
  case rest =>
  obtain ⟨a4, c4, a5, c5, hcp5⟩ := hcut
  have HCP5 := Lib.hid hcp5
  obtain ⟨y5, hy5⟩ : ∃ y, y = wc := ⟨_, rfl⟩
  subst hy5
  clear hcp5
  go_upto_region 4 with (fail)
  go_cut [] (fun wx => ∃ a6 c6 a7 c7, CP w wx w.heap.size { s with parts := (a1, c1), reads := (a2, c2), readAt := (a3, c3), edits := (a4, c4), editAt := (a5, c5), rows := (a6, c6), own := (a7, c7) } x xs 7)
  case first =>
    have hd := HCP5.out.keep (Own.refl y5).drew.below
    have HD0 := Lib.hid hd
    have p18 := hd.cell 18 rfl
    have p20 := hd.cell 20 rfl
    have HC0 := Lib.hid (cl_rows (s := s) HAX.out HRX.out.1 HOK.out hd.bel)
    clear hd
    go_region_with (first
      | (go_at_call 69
         (with_reducible refine HC0.out.mono ?_)
         rintro e v1 ⟨a6, c6, rfl, ho6, hb6⟩
         have hd1 := HD0.out.keep hb6
         have p18' := hd1.cell 18 rfl
         have p20' := hd1.cell 20 rfl
         have HO6' := Lib.hid (ho6.base HD0.out.bel.size)
         have HD1 := Lib.hid hd1
         have HC1 := Lib.hid (cl_own HA.out HOK.out hd1.bel)
         clear ho6 hb6 hd1)
      | (go_at_call 70
         (with_reducible refine HC1.out.mono ?_)
         rintro e v2 ⟨a7, c7, rfl, ho7, hb7⟩
         have hd2 := HD1.out.keep hb7
         have p18'' := hd2.cell 18 rfl
         have p20'' := hd2.cell 20 rfl
         have HO6'' := Lib.hid (HO6'.out.keep hb7)
         have HO7'' := Lib.hid (ho7.base HD1.out.bel.size)
         have f18 := hd2.thaw 18
         have f20 := hd2.thaw 20
         have e0 := hd2
         have u0 := e0.put_rows HO6''.out
         have e1 := u0
         have u1 := e1.put_own (HO7''.out.setM (i := 18) e0.blk (by decide) (.slice a6 x.rows.length c6))
         have HF := Lib.hid u1
         clear e1 u1 e0 u0 ho7 hb7))
    all_goals
      go_wp2_with fail
      go_meet
      exact ⟨a6, c6, a7, c7, HF.out⟩
  case rest =>
  obtain ⟨a6, c6, a7, c7, hcp7⟩ := hcut
  have HCP7 := Lib.hid hcp7
  obtain ⟨y7, hy7⟩ : ∃ y, y = wc := ⟨_, rfl⟩
  subst hy7
  clear hcp7
  have HRH : Hid (RowsH w y7 x.rows xs 0) := Lib.hid (RowsH.start HRX.out)
  have p18 := HCP7.out.cell 18 rfl
  have hlI : (0 : Int) ≤ x.rows.length ∧ (x.rows.length : Int) ≤ 100000 := by have := HOK.out.rows.2; omega
  clear HCP5
  go_wp2_with fail
  clear p18
  go_loopw [43] (fun vi wr => ∃ (i : Nat) (xs2 : List (List Value)), i ≤ x.rows.length ∧ vi = .int .i64 i ∧ CP w wr w.heap.size { s with parts := (a1, c1), reads := (a2, c2), readAt := (a3, c3), edits := (a4, c4), editAt := (a5, c5), rows := (a6, c6), own := (a7, c7) } x xs2 7 ∧ RowsH w wr x.rows xs2 i) (fun vi _ => x.rows.length - (intOf vi).toNat)
  case atStart => exact ⟨0, xs, Nat.zero_le _, rfl, HCP7.out, HRH.out⟩
  case round =>
    clear HCP7 HRH
    obtain ⟨i, xs2, hi, rfl, hcp, hrh⟩ := hrel
    have HCP := Lib.hid hcp
    have HRH := Lib.hid hrh
    clear hcp hrh
    by_cases hlt : i < x.rows.length
    · have hiI : (0 : Int) ≤ i ∧ (i : Int) < x.rows.length := by omega
      have hx2 : i < xs2.length := by rw [HRH.out.1.1]; exact hlt
      have HX2 := Lib.hid hx2
      have HLT := Lib.hid hlt
      obtain ⟨g, off, ha, hce⟩ := (HCP.out.rows (by decide)).row i hx2
      simp only at ha
      subst ha
      obtain ⟨sv, cv, hxe, _, harg⟩ := HRH.out.1.2 i hlt
      have harg := harg (Nat.le_refl _)
      rw [List.getElem?_eq_getElem hx2] at hxe
      rw [Option.some.inj hxe] at hce
      have hd := HCP.out.keep (Own.refl wr).drew.below
      have HD := Lib.hid hd
      have p18 := hd.cell 18 rfl
      have pL : wr.drew.cell? ⟨g, off + i * 3 + 1 + 1, none⟩ = some (.slice sv (x.rows[i]'hlt).l.length cv) := (hce.keep rfl).cell 2 (by simp)
      have hcl := clone_vers sv cv _ wr.drew (harg.keep hd.bel) (by rw [List.length_map]; exact (HOK.out.rows.1 _ (List.getElem_mem _)).d)
      rw [List.length_map] at hcl
      have HCL := Lib.hid hcl
      obtain ⟨nv, hnv⟩ : ∃ nv, nv = (x.rows[i]'hlt).l.length := ⟨_, rfl⟩
      rw [← hnv] at pL HCL
      have HNV := Lib.hid hnv
      clear hx2 hxe harg hce hd hcl hnv
      go_wp2_with fail
      go_region_with (first
        | (go_at_call 71
           (with_reducible refine HCL.out.mono ?_)
           rintro e v1 ⟨av, cv2, rfl, hov, hbv⟩
           have hd1 := HD.out.keep hbv
           have p18b := hd1.cell 18 rfl
           have hx2 := HX2.out
           have hst := hd1.store (by decide) rfl i 2 hx2 (by decide) (.slice av nv cv2)
           have p18c := hst.cell 18 rfl
           have hrw := hd1.rows (by decide)
           have hce1 := ((hrw.row i hx2))
           have fL : v1.frozen? ⟨g, off + i * 3 + 1 + 1, none⟩ = false := by
             rcases hrw.sl.2 with ⟨h', _⟩ | ⟨g', off', cur, h', hg, _⟩
             · cases h'
             · cases h'; exact frozen_of_row v1 g _ _ _ hg
           have pL1 : ∃ u, v1.cell? ⟨g, off + i * 3 + 1 + 1, none⟩ = some u := by
             obtain ⟨g', off', e', hc'⟩ := hce1
             cases e'
             exact ⟨_, hc'.cell 2 (by rw [hrw.all _ (List.getElem_mem _)]; decide)⟩
           obtain ⟨uL, pL1⟩ := pL1
           have HST := Lib.hid hst
           have HRN : Hid (RowsH w (v1.setCell ⟨g, off + i * 3 + 2, none⟩ (.slice av nv cv2)) x.rows (xs2.set i (xs2[i].set 2 (.slice av nv cv2))) (i + 1)) := Lib.hid (by
             rw [HNV.out]
             exact ((HRH.out.keep (Own.refl wr).drew.below).keep hbv).next HLT.out (hov.base HD.out.bel.size) hrw.sl hx2 (N := wr.heap.size) (fun b hb => hov.far b hb) (HRH.out.old (Nat.le_of_lt HLT.out)))
           clear hd1 hst hrw hce1 hov hbv))
      all_goals
        go_wp2_with fail
        go_roundw
        case rel => exact ⟨i + 1, _, by omega, by go_num, HST.out, HRN.out⟩
        case measure => simp [intOf]; omega
    · obtain rfl : i = x.rows.length := by omega
      clear hlt hi
      go_upto_region 10 with (fail)
      go_cut [] (fun wx => ∃ a8 c8 a9 c9 a10 c10, CP w wx w.heap.size { s with parts := (a1, c1), reads := (a2, c2), readAt := (a3, c3), edits := (a4, c4), editAt := (a5, c5), rows := (a6, c6), own := (a7, c7), got := (a8, c8), numbers := (a9, c9), names := (a10, c10) } x xs2 10 ∧ RowsH w wx x.rows xs2 x.rows.length)
      case first =>
        have hd := HCP.out.keep (Own.refl wr).drew.below
        have HD0 := Lib.hid hd
        have p24 := hd.cell 24 rfl
        have p25 := hd.cell 25 rfl
        have p26 := hd.cell 26 rfl
        have HC0 := Lib.hid (cl_got HA.out HOK.out hd.bel)
        clear hd
        go_region_with (first
          | (go_at_call 72
             (with_reducible refine HC0.out.mono ?_)
             rintro e v1 ⟨a8, c8, rfl, ho8, hb8⟩
             have hd1 := HD0.out.keep hb8
             have p24' := hd1.cell 24 rfl
             have p25' := hd1.cell 25 rfl
             have p26' := hd1.cell 26 rfl
             have HB8 := Lib.hid hb8
             have HO8' := Lib.hid (ho8.base HD0.out.bel.size)
             have HD1 := Lib.hid hd1
             have HC1 := Lib.hid (cl_numbers HA.out HOK.out hd1.bel)
             clear ho8 hb8 hd1)
          | (go_at_call 73
             (with_reducible refine HC1.out.mono ?_)
             rintro e v2 ⟨a9, c9, rfl, ho9, hb9⟩
             have hd2 := HD1.out.keep hb9
             have p24'' := hd2.cell 24 rfl
             have p25'' := hd2.cell 25 rfl
             have p26'' := hd2.cell 26 rfl
             have HO8'' := Lib.hid (HO8'.out.keep hb9)
             have HB9 := Lib.hid hb9
             have HO9'' := Lib.hid (ho9.base HD1.out.bel.size)
             have HD2 := Lib.hid hd2
             have HC2 := Lib.hid (cl_names HA.out HOK.out hd2.bel)
             clear ho9 hb9 hd2)
          | (go_at_call 74
             (with_reducible refine HC2.out.mono ?_)
             rintro e v3 ⟨a10, c10, rfl, ho10, hb10⟩
             have hd3 := HD2.out.keep hb10
             have p24''' := hd3.cell 24 rfl
             have p25''' := hd3.cell 25 rfl
             have p26''' := hd3.cell 26 rfl
             have HO8''' := Lib.hid (HO8''.out.keep hb10)
             have HO9''' := Lib.hid (HO9''.out.keep hb10)
             have HO10''' := Lib.hid (ho10.base HD2.out.bel.size)
             have f24 := hd3.thaw 24
             have f25 := hd3.thaw 25
             have f26 := hd3.thaw 26
             have e0 := hd3
             have u0 := e0.put_got HO8'''.out
             have e1 := u0
             have u1 := e1.put_numbers (HO9'''.out.setM (i := 24) e0.blk (by decide) (.slice a8 x.told.got.length c8))
             have e2 := u1
             have u2 := e2.put_names ((HO10'''.out.setM (i := 24) e0.blk (by decide) (.slice a8 x.told.got.length c8)).setM (i := 25) e1.blk (by decide) (.slice a9 x.told.numbers.length c9))
             have HGG := Lib.hid ((((((HRH.out.keep (Own.refl wr).drew.below).keep HB8.out).keep HB9.out).keep hb10).setM (k := 24) e0.blk (by decide) (.slice a8 x.told.got.length c8)).setM (k := 25) e1.blk (by decide) (.slice a9 x.told.numbers.length c9) |>.setM (k := 26) e2.blk (by decide) (.slice a10 x.told.names.length c10))
             have HF := Lib.hid u2
             clear e2 u2 e1 u1 e0 u0 ho10 hb10))
        all_goals
          go_wp2_with fail
          go_meet
          exact ⟨a8, c8, a9, c9, a10, c10, HF.out, HGG.out⟩
      case rest =>
      obtain ⟨a8, c8, a9, c9, a10, c10, hcp10, hrh10⟩ := hcut
      have HCP10 := Lib.hid hcp10
      have HRO := Lib.hid hrh10.done
      have HC : Hid (CellsAt wc w.heap.size 0 (MV { s with parts := (a1, c1), reads := (a2, c2), readAt := (a3, c3), edits := (a4, c4), editAt := (a5, c5), rows := (a6, c6), own := (a7, c7), got := (a8, c8), numbers := (a9, c9), names := (a10, c10) } x).toList) := Lib.hid ⟨_, _, _, hcp10.blk, by simp, by rw [List.drop_zero, List.take_length]⟩
      clear hcp10 hrh10 HCP HRH
      go_wp2_with (first
        | (refine wpList_load_at rfl 43 (.tmp 1) rfl w.heap.size 0 rfl (MV { s with parts := (a1, c1), reads := (a2, c2), readAt := (a3, c3), edits := (a4, c4), editAt := (a5, c5), rows := (a6, c6), own := (a7, c7), got := (a8, c8), numbers := (a9, c9), names := (a10, c10) } x).toList _ HC.out Tryz.underlying43 rfl sizeMsg ?_)
        | (refine wpList_store_all rfl 43 (.tmp 2) (.tmp 79) rfl (w.heap.size + 1) (MV { s with parts := (a1, c1), reads := (a2, c2), readAt := (a3, c3), edits := (a4, c4), editAt := (a5, c5), rows := (a6, c6), own := (a7, c7), got := (a8, c8), numbers := (a9, c9), names := (a10, c10) } x) rfl (by first | rfl | simp) 43 _ HCP10.out.two (by rw [MV_size]; exact sizeMsg) rfl (MV_one _ _) ?_; intro w6 hp6; have HP6 := Lib.hid hp6; clear hp6))
      obtain ⟨hm, hb⟩ := HCP10.out.done HRO.out.1 HP6.out
      exact bodyPost_ret (results_cell_row rfl _ _ (w.heap.size + 1) _ _ _ _ rfl HP6.out.here Tryz.underlying43 rfl (by kernel_rfl)) rfl ⟨_, rfl, hm, ⟨_, HCP10.out.doneR HRO.out.1 HP6.out, HRO.out.2⟩, hb⟩

end Go.Proofs.YtjgnomjjphkfbaaGreat
