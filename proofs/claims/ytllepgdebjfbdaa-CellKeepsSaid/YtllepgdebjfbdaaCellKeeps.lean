/-
  THE WALK of the statement CellKeeps.
-/
import Derived.Test.YtllepgdebjfbdaaCellKeep0
import Derived.BigQuiet
namespace Go.Proofs.Ytllepgdebjfbdaa
open Go.RowKit
attribute [local go_sem ↓ high] appSem_eq

theorem Cl.destroy_live' (hs : Cl.Hist) (ok : ∀ h ∈ hs, Cl.okH h) (n : Nat) (h : Cl.liveAt hs n) :
    ∃ (kk : Nat) (hk : kk < hs.length), n = kk + 1 ∧ hs.length - 8 ≤ kk ∧ (hs[kk]).1 = 1 ∧ Cl.destroy (Cl.celOf hs) n = (Cl.celOf (hs.set kk (3, (hs[kk]).2)), 0) := by
  obtain ⟨hb, h1⟩ := h
  exact ⟨n - 1, by omega, by omega, by omega, h1, Cl.destroy_live hs ok n hb h1⟩

set_option maxRecDepth 20000 in
set_option maxHeartbeats 40000000 in
theorem cellKeeps_any (w : World) (al : Option Addr) (capl : Nat) (l : List Xct) (hl : ActsAt w al l) (okl : ∀ x ∈ l, okA x) (hm : l.length ≤ 9223372036854775807) :
    Calls Try.prog 4 #[.slice al l.length capl] w fun e w' => e = .returned (.bool true) ∧ Below w.heap.size w w' := by
  have HHV := Lib.hid (heavy_any w ⟨0, []⟩ none 0 al capl l (RowIs.nil _ _ _) (by simp) hl okl (by simp) hm)
  have hmI : (0 : Int) ≤ l.length ∧ (l.length : Int) ≤ 9223372036854775807 := by omega
  have HL := Lib.hid hl
  have HOK := Lib.hid okl
  clear hl okl hm
  go_enter Try.func4, Try.ntmps4
  go_wp2_with fail
  refine HHV.out.mono ?_
  rintro e w1 ⟨⟨b, rfl, hlen⟩, hb⟩
  have HO1 := Lib.hid ((Own.refl w).trans hb)
  clear hb HHV
  cases b with
  | true =>
    clear hlen
    go_wp2_with fail
    refine (works_any _).mono ?_
    rintro e w2 ⟨rfl, hb⟩
    have HO2 := Lib.hid (HO1.out.trans hb)
    clear hb
    go_wp2_with fail
    go_ret
    exact ⟨rfl, HO2.out.below⟩
  | false =>
    have HLEN := Lib.hid (hlen rfl).2
    clear hlen
    go_wp2_with fail
    have hO2 := HO1.out.alloc (.cells #[.int .u64 0, .slice none 0 0] 25 (0, 0))
    have hK2 : KpAt w (w1.alloc (.cells #[.int .u64 0, .slice none 0 0] 25 (0, 0))) w1.heap.size [] none 0 none 0 none 0 := ⟨heap_alloc_new w1 (.cells #[.int .u64 0, .slice none 0 0] 25 (0, 0)), SliceIs.nil _ _ _, by simp, SliceIs.nil _ _ _, by simp, SliceIs.nil _ _ _, by simp, hO2⟩
    have HK2 := Lib.hid hK2
    have HB1 := Lib.hid HO1.out.size
    clear hK2 hO2
    generalize w1.alloc (.cells #[.int .u64 0, .slice none 0 0] 25 (0, 0)) = W at *
    generalize w1.heap.size = b at *
    go_loopw [4, 5, 6] (fun vt vs vi wr => ∃ (i : Nat) (hs : Cl.Hist), i ≤ l.length ∧ vi = .int .i64 i ∧ KpIs w i b hs vt vs wr) (fun _ _ vi _ => l.length - (intOf vi).toNat)
    case atStart => exact ⟨0, [], Nat.zero_le _, rfl, none, 0, none, 0, none, 0, Cl.okHs.nil, rfl, rfl, HK2.out⟩
    case round =>
      clear HK2
      obtain ⟨i, hs, hi, rfl, a, cap, ta, tcap, sa, scap, hok, rfl, rfl, hk⟩ := hrel
      by_cases hlt : i < l.length
      · have hiI : (0 : Int) ≤ i ∧ (i : Int) < l.length := by omega
        have hi1000 : i < 1000 := by have := HLEN.out; omega
        obtain ⟨gl, ofl, rfl, q0, q1, q2, q3, q4, hgl⟩ := ActsAt.at (RowIs.keep HL.out hk.own.below) i hlt
        have HX := Lib.hid (HOK.out l[i] (List.getElem_mem hlt))
        have HH := Lib.hid (celOf_ok hs i hi1000 hok)
        generalize l[i] = x at *
        have HK := Lib.hid hk
        have HHS := Lib.hid hok
        have hnlI : (0 : Int) ≤ hs.length ∧ (hs.length : Int) ≤ 1000 := by have := hok.2; omega
        obtain ⟨k0, k1, f0, f1, lb⟩ := hk.cbox.facts
        clear hk hok
        go_upto_block 2 with fail
        have HB := Lib.hid (boxes2 wr (.cells #[.int .u8 x.kind, .bool x.any, .int .u64 x.want, .int .u64 x.n, .string x.t] 27 (0, 0)) (.cells #[.int .u64 (Cl.celOf hs).last, .slice a (Cl.celOf hs).l.length cap] 25 (0, 0)))
        have hk2 := HK.out.keep (HB.out.own.below)
        have HK2 := Lib.hid hk2
        clear k0 k1 f0 f1 q0 q1 q2 q3 q4 hgl hk2 HK
        refine (now_any _ (Cl.celOf hs) a cap HK2.out.cbox.vers HH.out.2.1).mono ?_
        rintro e w2 ⟨rfl, hb⟩
        have HK3 := Lib.hid (HK2.out.keep hb)
        have HB3 := Lib.hid (HB.out.keep hb)
        clear hb HK2 HB
        have hkI : (0 : Int) ≤ x.kind ∧ (x.kind : Int) ≤ 255 := by have := HX.out.1; omega
        obtain ⟨q0, q1, q2, q3, q4⟩ := act_cells HB3.out.b0
        have l0 := blk_lt HB3.out.b0
        have l1 := HB3.out.lt
        generalize hb8 : wr.heap.size + 1 = b8 at *
        generalize hb7 : wr.heap.size = b7 at *
        go_upto_block 2 with fail
        have HNB : Hid (b < b7 ∧ b < b8) := Lib.hid (by omega)
        have HLE : Hid (hs.length ≤ 1000) := Lib.hid (by omega)
        have HA7 := Lib.hid HB3.out.b0
        have HA8 := Lib.hid HB3.out.b1
        rw [hb7] at HA7
        rw [hb7, hb8] at HA8
        clear hb8 hb7
        generalize hm3 : ((x.kind : Int) % 3) = m3 at *
        have HM3 := Lib.hid hm3
        clear hm3
        go_cut [4, 5] (fun vt vs wx => ∃ hs', KpIs w (i + 1) b hs' vt vs wx)
        case first =>
          by_cases k0' : x.kind % 3 = 0
          · as_aux_lemma =>
            have hk3 : (x.kind : Int).tmod 3 = 0 := by rw [Int.tmod_eq_emod_of_nonneg (by omega)]; omega
            have hk4 : (x.kind : Int) % 3 = 0 := by omega
            have hmz : (m3 == 0) = true := by rw [← HM3.out, hk4]; rfl
            obtain ⟨d, re, fine, hput, hfi, hre, hor⟩ := put_fine hs HHS.out.1 HLE.out x.any x.want x.t
            have HP := Lib.hid (fun (wz : World) (hz : VersAt wz a (Cl.celOf hs).l) (hnz : a = none → cap = 0) => put_any wz (Cl.celOf hs) a cap x.any x.want x.t HX.out.2.2.2 hz HH.out.1 HH.out.2.1 hnz HH.out.2.2 HX.out.2.1)
            rw [hput] at HP
            have HFI := Lib.hid hfi
            have HOR := Lib.hid hor
            have hreI : (0 : Int) ≤ re ∧ (re : Int) ≤ 171 := by omega
            have HRE := Lib.hid (show re = 0 ∨ re ≠ 0 by omega)
            have HCB := Lib.hid HK3.out.cbox
            obtain ⟨k0, k1, f0, f1, lb⟩ := HCB.out.facts
            clear hput hfi hre hor k0'
            go_wp2_with fail
            refine (HP.out _ HCB.out.vers HCB.out.nil).mono ?_
            rintro e w4 ⟨s4, c4, rfl, hf⟩
            have hk4 := HK3.out.keep hf.own.below
            have hbox := setCel hk4.box d.last s4 d.l.length c4
            obtain ⟨kk0, kk1, kf0, kf1, klb⟩ := hk4.cbox.facts
            have hlb2 : b < w2.heap.size := blk_lt HK3.out.box
            have hnew : ∀ k ∈ blks s4, b < k := fun k hk => Nat.lt_of_lt_of_le hlb2 (hf.new k hk)
            have hcv := hf.is.keep (w' := (w4.setCell ⟨b, 0, none⟩ (.int .u64 d.last)).setCell ⟨b, 1, none⟩ (.slice s4 d.l.length c4)) (fun k hk => set_other _ (by have := hnew k hk; omega) _ _)
            have htv := hk4.tv.keep (w' := (w4.setCell ⟨b, 0, none⟩ (.int .u64 d.last)).setCell ⟨b, 1, none⟩ (.slice s4 d.l.length c4)) (fun k hk => set_other _ (by have := hk4.tn k hk; omega) _ _)
            have hsv := hk4.sv.keep (w' := (w4.setCell ⟨b, 0, none⟩ (.int .u64 d.last)).setCell ⟨b, 1, none⟩ (.slice s4 d.l.length c4)) (fun k hk => set_other _ (by have := hk4.sn k hk; omega) _ _)
            have hwas : CBox ((w4.setCell ⟨b, 0, none⟩ (.int .u64 d.last)).setCell ⟨b, 1, none⟩ (.slice s4 d.l.length c4)) b8 (Cl.celOf hs) a cap :=
              ⟨(set_other _ (by have := HNB.out; omega) _ _).trans ((hf.own.below.block _ (blk_lt HA8.out)).trans HA8.out), hk4.cbox.vers.set (fun h => by have := hk4.cn b h; omega) _ _, hk4.cbox.nil⟩
            have hact := (set_other w4 (j := b7) (k := b) (by have := HNB.out; omega) (.int .u64 d.last) (.slice s4 d.l.length c4)).trans ((hf.own.below.block _ (blk_lt HA7.out)).trans HA7.out)
            have hown := (hk4.own.setCell (p := ⟨b, 0, none⟩) HB1.out (.int .u64 d.last)).setCell (p := ⟨b, 1, none⟩) HB1.out (.slice s4 d.l.length c4)
            have HBOX := Lib.hid hbox
            have HCV := Lib.hid hcv
            have HNEW := Lib.hid hnew
            have HTV := Lib.hid htv
            have HTN := Lib.hid hk4.tn
            have HSV := Lib.hid hsv
            have HSN := Lib.hid hk4.sn
            have HWAS := Lib.hid hwas
            have HACT := Lib.hid hact
            have HOWN := Lib.hid hown
            clear hk4 hbox hcv hnew htv hsv hwas hact hown hf q0 q1 q2 q3 q4 l0 l1 k0 k1 f0 f1 lb HCB HP
            go_upto_region 28 with fail
            clear kk0 kk1 kf0 kf1 klb
            generalize (w4.setCell ⟨b, 0, none⟩ (.int .u64 d.last)).setCell ⟨b, 1, none⟩ (.slice s4 d.l.length c4) = W5 at *
            obtain ⟨q0, q1, q2, q3, q4⟩ := act_cells HACT.out
            have hwI : (0 : Int) ≤ x.want ∧ (x.want : Int) ≤ 18446744073709551615 := by have := HX.out.2.1; omega
            have htI : (0 : Int) ≤ x.t.size ∧ (x.t.size : Int) ≤ 140737488351232 := by have := HX.out.2.2.2; omega
            go_cut [12] (fun v wx => v = .bool fine ∧ wx = W5)
            case first =>
              generalize hnow : Cl.now (Cl.celOf hs) = nw at *
              cases hany : x.any with
              | true =>
                rw [hany] at q1
                have hc2 := trivial
                by_cases hc3 : x.t.size ≤ 4096
                · have hc3I : (x.t.size : Int) ≤ 4096 := by omega
                  go_wp2_with fail
                  go_meet
                  exact ⟨by rw [HFI.out]; simp [hany, hc2, hc3] <;> omega, rfl⟩
                · have hc3I : (4096 : Int) < x.t.size := by omega
                  go_wp2_with fail
                  go_meet
                  exact ⟨by rw [HFI.out]; simp [hany, hc2, hc3] <;> omega, rfl⟩
              | false =>
                rw [hany] at q1
                by_cases hc2 : x.want = nw
                · have hc2I : ((x.want : Int) == (nw : Int)) = true := by simp; omega
                  by_cases hc3 : x.t.size ≤ 4096
                  · have hc3I : (x.t.size : Int) ≤ 4096 := by omega
                    go_wp2_with fail
                    go_meet
                    exact ⟨by rw [HFI.out]; simp [hany, hc2, hc3] <;> omega, rfl⟩
                  · have hc3I : (4096 : Int) < x.t.size := by omega
                    go_wp2_with fail
                    go_meet
                    exact ⟨by rw [HFI.out]; simp [hany, hc2, hc3] <;> omega, rfl⟩
                · have hc2I : ((x.want : Int) == (nw : Int)) = false := by simp; omega
                  have hc3 := trivial
                  go_wp2_with fail
                  go_meet
                  exact ⟨by rw [HFI.out]; simp [hany, hc2, hc3] <;> omega, rfl⟩
            case rest =>
              obtain ⟨rfl, rfl⟩ := hcut
              rcases HOR.out with ⟨rfl, rfl, hd, hokh⟩ | ⟨rfl, hr0, hd⟩
              · obtain ⟨ta', tcap', w6, sa', scap', w7, hr6, hr7, hkp⟩ := kp_more (t := x.t) (st := 1) rfl HLE.out hd HBOX.out HCV.out HNEW.out HTV.out HTN.out HSV.out HSN.out HOWN.out HB1.out
                rw [show ((1 : Nat) : Int) = 1 from rfl] at hr7
                have HKP := Lib.hid hkp
                have HOKH := Lib.hid hokh
                have hlen1 : (hs ++ [(1, x.t)]).length = hs.length + 1 := by simp
                have HL1 := Lib.hid hlen1
                clear hkp hokh hlen1 hd HOR HFI
                go_wp2_with fail
                go_meet
                exact ⟨hs ++ [(1, x.t)], s4, c4, ta', tcap', sa', scap', HHS.out.snoc HOKH.out, by rw [HL1.out], by rw [HL1.out], HKP.out⟩
              · subst hd
                have hreN : ((re : Int) == 0) = false := by simp; omega
                obtain ⟨kk0, kk1, kf0, kf1, klb⟩ := celBox HBOX.out
                obtain ⟨y0, y1, yf0, yf1, yl⟩ := HWAS.out.facts
                have HVC := Lib.hid (HCV.out.rowF (vcells_len _) (by simp))
                clear hr0 HOR HFI
                go_wp2_with fail
                refine (same_any _ (Cl.celOf hs) (Cl.celOf hs) s4 a c4 cap HVC.out HWAS.out.vers HH.out.2.1 HH.out.2.1).mono ?_
                rintro e w6 ⟨rfl, hb⟩
                rw [sameC_refl]
                have HKF := Lib.hid ((⟨HBOX.out, HCV.out, HNEW.out, HTV.out, HTN.out, HSV.out, HSN.out, HOWN.out⟩ : KpAt w _ b hs s4 c4 ta tcap sa scap).keep hb)
                clear hb kk0 kk1 kf0 kf1 klb y0 y1 yf0 yf1 yl HVC
                go_wp2_with fail
                go_meet
                exact ⟨hs, s4, c4, ta, tcap, sa, scap, HHS.out.up, rfl, rfl, HKF.out⟩
          · by_cases k1' : x.kind % 3 = 1
            · as_aux_lemma =>
              have hk3 : (x.kind : Int).tmod 3 = 1 := by rw [Int.tmod_eq_emod_of_nonneg (by omega)]; omega
              have hk4 : (x.kind : Int) % 3 = 1 := by omega
              have hmz : (m3 == 0) = false := by rw [← HM3.out, hk4]; rfl
              have hm1 : (m3 == 1) = true := by rw [← HM3.out, hk4]; rfl
              clear k1'
              obtain ⟨d, re, fine, hput, hfi, hre, hor⟩ := delete_fine hs HHS.out.1 HLE.out x.any x.want
              have HP := Lib.hid (fun (wz : World) (hz : VersAt wz a (Cl.celOf hs).l) (hnz : a = none → cap = 0) => delete_any wz (Cl.celOf hs) a cap x.any x.want hz HH.out.1 HH.out.2.1 hnz HH.out.2.2 HX.out.2.1)
              rw [hput] at HP
              have HFI := Lib.hid hfi
              have HOR := Lib.hid hor
              have hreI : (0 : Int) ≤ re ∧ (re : Int) ≤ 171 := by omega
              have HRE := Lib.hid (show re = 0 ∨ re ≠ 0 by omega)
              have HCB := Lib.hid HK3.out.cbox
              obtain ⟨k0, k1, f0, f1, lb⟩ := HCB.out.facts
              clear hput hfi hre hor k0'
              go_wp2_with fail
              refine (HP.out _ HCB.out.vers HCB.out.nil).mono ?_
              rintro e w4 ⟨s4, c4, rfl, hf⟩
              have hk4 := HK3.out.keep hf.own.below
              have hbox := setCel hk4.box d.last s4 d.l.length c4
              obtain ⟨kk0, kk1, kf0, kf1, klb⟩ := hk4.cbox.facts
              have hlb2 : b < w2.heap.size := blk_lt HK3.out.box
              have hnew : ∀ k ∈ blks s4, b < k := fun k hk => Nat.lt_of_lt_of_le hlb2 (hf.new k hk)
              have hcv := hf.is.keep (w' := (w4.setCell ⟨b, 0, none⟩ (.int .u64 d.last)).setCell ⟨b, 1, none⟩ (.slice s4 d.l.length c4)) (fun k hk => set_other _ (by have := hnew k hk; omega) _ _)
              have htv := hk4.tv.keep (w' := (w4.setCell ⟨b, 0, none⟩ (.int .u64 d.last)).setCell ⟨b, 1, none⟩ (.slice s4 d.l.length c4)) (fun k hk => set_other _ (by have := hk4.tn k hk; omega) _ _)
              have hsv := hk4.sv.keep (w' := (w4.setCell ⟨b, 0, none⟩ (.int .u64 d.last)).setCell ⟨b, 1, none⟩ (.slice s4 d.l.length c4)) (fun k hk => set_other _ (by have := hk4.sn k hk; omega) _ _)
              have hwas : CBox ((w4.setCell ⟨b, 0, none⟩ (.int .u64 d.last)).setCell ⟨b, 1, none⟩ (.slice s4 d.l.length c4)) b8 (Cl.celOf hs) a cap :=
                ⟨(set_other _ (by have := HNB.out; omega) _ _).trans ((hf.own.below.block _ (blk_lt HA8.out)).trans HA8.out), hk4.cbox.vers.set (fun h => by have := hk4.cn b h; omega) _ _, hk4.cbox.nil⟩
              have hact := (set_other w4 (j := b7) (k := b) (by have := HNB.out; omega) (.int .u64 d.last) (.slice s4 d.l.length c4)).trans ((hf.own.below.block _ (blk_lt HA7.out)).trans HA7.out)
              have hown := (hk4.own.setCell (p := ⟨b, 0, none⟩) HB1.out (.int .u64 d.last)).setCell (p := ⟨b, 1, none⟩) HB1.out (.slice s4 d.l.length c4)
              have HBOX := Lib.hid hbox
              have HCV := Lib.hid hcv
              have HNEW := Lib.hid hnew
              have HTV := Lib.hid htv
              have HTN := Lib.hid hk4.tn
              have HSV := Lib.hid hsv
              have HSN := Lib.hid hk4.sn
              have HWAS := Lib.hid hwas
              have HACT := Lib.hid hact
              have HOWN := Lib.hid hown
              clear hk4 hbox hcv hnew htv hsv hwas hact hown hf q0 q1 q2 q3 q4 l0 l1 k0 k1 f0 f1 lb HCB HP
              go_upto_region 28 with fail
              clear kk0 kk1 kf0 kf1 klb
              generalize (w4.setCell ⟨b, 0, none⟩ (.int .u64 d.last)).setCell ⟨b, 1, none⟩ (.slice s4 d.l.length c4) = W5 at *
              obtain ⟨q0, q1, q2, q3, q4⟩ := act_cells HACT.out
              have hwI : (0 : Int) ≤ x.want ∧ (x.want : Int) ≤ 18446744073709551615 := by have := HX.out.2.1; omega
              have htI : (0 : Int) ≤ x.t.size ∧ (x.t.size : Int) ≤ 140737488351232 := by have := HX.out.2.2.2; omega
              go_cut [12] (fun v wx => v = .bool fine ∧ wx = W5)
              case first =>
                generalize hnow : Cl.now (Cl.celOf hs) = nw at *
                cases hany : x.any with
                | true =>
                  rw [hany] at q1
                  have hc2 := trivial
                  by_cases hc3 : 0 < nw
                  · have hc3I : (0 : Int) < nw := by omega
                    go_wp2_with fail
                    go_meet
                    exact ⟨by rw [HFI.out]; simp [hany, hc2, hc3] <;> omega, rfl⟩
                  · have hc3I : (nw : Int) = 0 := by omega
                    go_wp2_with fail
                    go_meet
                    exact ⟨by rw [HFI.out]; simp [hany, hc2, hc3] <;> omega, rfl⟩
                | false =>
                  rw [hany] at q1
                  by_cases hc2 : x.want = nw
                  · have hc2I : ((x.want : Int) == (nw : Int)) = true := by simp; omega
                    by_cases hc3 : 0 < nw
                    · have hc3I : (0 : Int) < nw := by omega
                      go_wp2_with fail
                      go_meet
                      exact ⟨by rw [HFI.out]; simp [hany, hc2, hc3] <;> omega, rfl⟩
                    · have hc3I : (nw : Int) = 0 := by omega
                      go_wp2_with fail
                      go_meet
                      exact ⟨by rw [HFI.out]; simp [hany, hc2, hc3] <;> omega, rfl⟩
                  · have hc2I : ((x.want : Int) == (nw : Int)) = false := by simp; omega
                    have hc3 := trivial
                    go_wp2_with fail
                    go_meet
                    exact ⟨by rw [HFI.out]; simp [hany, hc2, hc3] <;> omega, rfl⟩
              case rest =>
                obtain ⟨rfl, rfl⟩ := hcut
                rcases HOR.out with ⟨rfl, rfl, hd, hokh⟩ | ⟨rfl, hr0, hd⟩
                · obtain ⟨ta', tcap', w6, sa', scap', w7, hr6, hr7, hkp⟩ := kp_more (t := ⟨#[]⟩) (st := 2) rfl HLE.out hd HBOX.out HCV.out HNEW.out HTV.out HTN.out HSV.out HSN.out HOWN.out HB1.out
                  rw [show ((2 : Nat) : Int) = 2 from rfl] at hr7
                  have HKP := Lib.hid hkp
                  have HOKH := Lib.hid hokh
                  have hlen1 : (hs ++ [(2, (⟨#[]⟩ : ByteArray))]).length = hs.length + 1 := by simp
                  have HL1 := Lib.hid hlen1
                  clear hkp hokh hlen1 hd HOR HFI
                  go_wp2_with fail
                  go_meet
                  exact ⟨hs ++ [(2, (⟨#[]⟩ : ByteArray))], s4, c4, ta', tcap', sa', scap', HHS.out.snoc HOKH.out, by rw [HL1.out], by rw [HL1.out], HKP.out⟩
                · subst hd
                  have hreN : ((re : Int) == 0) = false := by simp; omega
                  obtain ⟨kk0, kk1, kf0, kf1, klb⟩ := celBox HBOX.out
                  obtain ⟨y0, y1, yf0, yf1, yl⟩ := HWAS.out.facts
                  have HVC := Lib.hid (HCV.out.rowF (vcells_len _) (by simp))
                  clear hr0 HOR HFI
                  go_wp2_with fail
                  refine (same_any _ (Cl.celOf hs) (Cl.celOf hs) s4 a c4 cap HVC.out HWAS.out.vers HH.out.2.1 HH.out.2.1).mono ?_
                  rintro e w6 ⟨rfl, hb⟩
                  rw [sameC_refl]
                  have HKF := Lib.hid ((⟨HBOX.out, HCV.out, HNEW.out, HTV.out, HTN.out, HSV.out, HSN.out, HOWN.out⟩ : KpAt w _ b hs s4 c4 ta tcap sa scap).keep hb)
                  clear hb kk0 kk1 kf0 kf1 klb y0 y1 yf0 yf1 yl HVC
                  go_wp2_with fail
                  go_meet
                  exact ⟨hs, s4, c4, ta, tcap, sa, scap, HHS.out.up, rfl, rfl, HKF.out⟩
            · as_aux_lemma =>
              have hk3 : (x.kind : Int).tmod 3 = 2 := by rw [Int.tmod_eq_emod_of_nonneg (by omega)]; omega
              have hk4 : (x.kind : Int) % 3 = 2 := by omega
              have hmz : (m3 == 0) = false := by rw [← HM3.out, hk4]; rfl
              have hm1 : (m3 == 1) = false := by rw [← HM3.out, hk4]; rfl
              have HCB := Lib.hid HK3.out.cbox
              obtain ⟨k0, k1, f0, f1, lb⟩ := HCB.out.facts
              have hnI : (0 : Int) ≤ x.n ∧ (x.n : Int) ≤ 18446744073709551615 := by have := HX.out.2.2.1; omega
              have HD := Lib.hid (fun (wz : World) (hz : VersAt wz a (Cl.celOf hs).l) (hnz : a = none → cap = 0) => destroy_any wz (Cl.celOf hs) a cap x.n hz HH.out.1 HH.out.2.1 hnz HH.out.2.2)
              have hul : IntKind.u64.wrap (hs.length : Int) = hs.length := IntWalk.u64_in _ (by omega)
              clear k0' k1'
              by_cases hlive : Cl.liveAt hs x.n
              · obtain ⟨kk, hkk, hn1, h8, h1, hde⟩ := Cl.destroy_live' hs HHS.out.1 x.n hlive
                rw [hde] at HD
                have hzI : (0 : Int) < x.n := by omega
                have hbI : (x.n : Int) ≤ hs.length := by omega
                have hi64 : IntKind.i64.wrap (x.n : Int) = x.n := IntWalk.i64_in _ (by omega)
                have hoI : (hs.length : Int) - 8 ≤ (x.n : Int) - 1 := by omega
                have hkN : (x.n : Int) - 1 = (kk : Int) := by omega
                clear hde hn1 hlive
                have hkkI : (0 : Int) ≤ kk ∧ (kk : Int) < hs.length := by omega
                have hoI2 : (hs.length : Int) - 8 ≤ kk := by omega
                clear h8
                obtain ⟨gs, os, rfl, hcell, hfz, hgsl⟩ := HK3.out.sv.stateAt kk hkk
                have hstI : (((hs[kk]).1 : Int) == 1) = true := by rw [beq_iff_eq]; omega
                have HKK := Lib.hid hkk
                clear h1
                generalize hdd : Cl.celOf (hs.set kk (3, (hs[kk]).2)) = d at *
                have HDD := Lib.hid hdd
                generalize (hs[kk]).1 = stv at *
                clear hdd
                go_wp2_with fail
                refine (HD.out _ HCB.out.vers HCB.out.nil).mono ?_
                rintro e w4 ⟨s4, c4, rfl, hf⟩
                have hk4 := HK3.out.keep hf.own.below
                have hbw := alloc_keep w4 (.cells #[.int .u64 d.last, .slice s4 d.l.length c4] 25 (0, 0))
                have hk5 := hk4.keep hbw
                have hlb2 : b < w2.heap.size := blk_lt HK3.out.box
                have hnew : ∀ k ∈ blks s4, b < k := fun k hk => Nat.lt_of_lt_of_le hlb2 (hf.new k hk)
                have hgs4 : gs ∉ blks s4 := fun hk => by have := hf.new gs hk; omega
                have hs5 := hf.is.keep (w' := w4.alloc (.cells #[.int .u64 d.last, .slice s4 d.l.length c4] 25 (0, 0))) (fun k hk => hbw.block k (hf.is.lt k hk))
                have HKP := Lib.hid (hk5.putLive HKK.out d HDD.out.symm hs5 hnew hgs4 HB1.out)
                obtain ⟨kk0, kk1, kf0, kf1, klb⟩ := hk5.cbox.facts
                have qn := cell_keep hf.own.below q3 l0
                have ql := Nat.lt_of_lt_of_le l0 hf.own.size
                obtain ⟨jk0, jk1, jf0, jf1, jlb⟩ := hk4.cbox.facts
                have hbl4 : b < w4.heap.size := blk_lt hk4.box
                have hst5 := hk5.sv.cells.cell kk (by simpa using HKK.out)
                have hbs : ¬ b = w4.heap.size := by have := blk_lt hk4.box; omega
                have hbs2 : ¬ w4.heap.size = b := by omega
                have hgl5 : gs < w4.heap.size := Nat.lt_of_lt_of_le hgsl hf.own.size
                have hgs1 : ¬ gs = w4.heap.size := by omega
                have hgs2 : ¬ w4.heap.size = gs := by omega
                have hgs3 : ¬ gs = b := by have := hk4.sn gs (by simp); omega
                have hgs4' : ¬ b = gs := by omega
                have hc5 := cell_keep hf.own.below hcell hgsl
                have hz5 : w4.frozen? ⟨gs, os + kk, none⟩ = false := by
                  have hb := hf.own.below.block gs hgsl
                  unfold World.frozen? at hfz ⊢
                  rw [hb]; exact hfz
                clear hk4 hk5 hbw hlb2 hnew hs5 hf hst5 hgs4
                go_wp2_with fail
                go_meet
                exact ⟨_, s4, c4, ta, tcap, _, scap, (HHS.out.set (k := kk) (st := 3) (t := (hs[kk]'HKK.out).2) ⟨(show 1 ≤ 3 by decide), Nat.le_refl 3, fun e => by cases e⟩).up, by rw [List.length_set], by rw [List.length_set], by
                  have h := HKP.out
                  rw [World.setCell_alloc_past _ _ _ _ hgl5, World.setCell_alloc_past _ _ _ _ (by simpa using hbl4), World.setCell_alloc_past _ _ _ _ (by simpa using hbl4)] at h
                  exact h⟩
              · have hne : (Cl.find (Cl.celOf hs) x.n).2 ≠ 0 := fun h => hlive ((Cl.find_live hs HHS.out.1 x.n).1 h)
                rw [Cl.destroy_dead hs x.n hne] at HD
                have hne2 := find_code (Cl.celOf hs) x.n
                generalize (Cl.find (Cl.celOf hs) x.n).2 = re at *
                have hreN : ((re : Int) == 0) = false := by simp; omega
                have HLV := Lib.hid hlive
                clear hne hne2 hlive
                by_cases hz : x.n = 0
                · have hzI : (x.n : Int) ≤ 0 := by omega
                  clear hz
                  generalize hw64 : IntKind.i64.wrap (x.n : Int) = n64
                  clear hw64
                  go_wp2_with fail
                  refine (HD.out _ HCB.out.vers HCB.out.nil).mono ?_
                  rintro e w4 ⟨s4, c4, rfl, hf⟩
                  have hk4 := HK3.out.keep hf.own.below
                  have hbw := alloc_keep w4 (.cells #[.int .u64 (Cl.celOf hs).last, .slice s4 (Cl.celOf hs).l.length c4] 25 (0, 0))
                  have hk5 := hk4.keep hbw
                  have hlb2 : b < w2.heap.size := blk_lt HK3.out.box
                  have hnew : ∀ k ∈ blks s4, b < k := fun k hk => Nat.lt_of_lt_of_le hlb2 (hf.new k hk)
                  have hs5 := hf.is.keep (w' := w4.alloc (.cells #[.int .u64 (Cl.celOf hs).last, .slice s4 (Cl.celOf hs).l.length c4] 25 (0, 0))) (fun k hk => hbw.block k (hf.is.lt k hk))
                  have HKP := Lib.hid (hk5.putNo hs5 hnew HB1.out)
                  obtain ⟨kk0, kk1, kf0, kf1, klb⟩ := hk5.cbox.facts
                  have qn := cell_keep hf.own.below q3 l0
                  have ql := Nat.lt_of_lt_of_le l0 hf.own.size
                  have hbs : ¬ b = w4.heap.size := by have := blk_lt hk4.box; omega
                  have hbs2 : ¬ w4.heap.size = b := by omega
                  obtain ⟨jk0, jk1, jf0, jf1, jlb⟩ := hk4.cbox.facts
                  have hbl4 : b < w4.heap.size := blk_lt hk4.box
                  clear hk4 hk5 hbw hlb2 hnew hs5 hf
                  go_wp2_with fail
                  go_meet
                  exact ⟨hs, s4, c4, ta, tcap, sa, scap, HHS.out.up, rfl, rfl, by
                    have h := HKP.out
                    rw [World.setCell_alloc_past _ _ _ _ hbl4, World.setCell_alloc_past _ _ _ _ (by simpa using hbl4)] at h
                    exact h⟩
                · by_cases hbig : hs.length < x.n
                  · have hzI : (0 : Int) < x.n := by omega
                    have hbI : (hs.length : Int) < x.n := by omega
                    clear hz hbig
                    generalize hw64 : IntKind.i64.wrap (x.n : Int) = n64
                    clear hw64
                    go_wp2_with fail
                    refine (HD.out _ HCB.out.vers HCB.out.nil).mono ?_
                    rintro e w4 ⟨s4, c4, rfl, hf⟩
                    have hk4 := HK3.out.keep hf.own.below
                    have hbw := alloc_keep w4 (.cells #[.int .u64 (Cl.celOf hs).last, .slice s4 (Cl.celOf hs).l.length c4] 25 (0, 0))
                    have hk5 := hk4.keep hbw
                    have hlb2 : b < w2.heap.size := blk_lt HK3.out.box
                    have hnew : ∀ k ∈ blks s4, b < k := fun k hk => Nat.lt_of_lt_of_le hlb2 (hf.new k hk)
                    have hs5 := hf.is.keep (w' := w4.alloc (.cells #[.int .u64 (Cl.celOf hs).last, .slice s4 (Cl.celOf hs).l.length c4] 25 (0, 0))) (fun k hk => hbw.block k (hf.is.lt k hk))
                    have HKP := Lib.hid (hk5.putNo hs5 hnew HB1.out)
                    obtain ⟨kk0, kk1, kf0, kf1, klb⟩ := hk5.cbox.facts
                    have qn := cell_keep hf.own.below q3 l0
                    have ql := Nat.lt_of_lt_of_le l0 hf.own.size
                    have hbs : ¬ b = w4.heap.size := by have := blk_lt hk4.box; omega
                    have hbs2 : ¬ w4.heap.size = b := by omega
                    obtain ⟨jk0, jk1, jf0, jf1, jlb⟩ := hk4.cbox.facts
                    have hbl4 : b < w4.heap.size := blk_lt hk4.box
                    clear hk4 hk5 hbw hlb2 hnew hs5 hf
                    go_wp2_with fail
                    go_meet
                    exact ⟨hs, s4, c4, ta, tcap, sa, scap, HHS.out.up, rfl, rfl, by
                      have h := HKP.out
                      rw [World.setCell_alloc_past _ _ _ _ hbl4, World.setCell_alloc_past _ _ _ _ (by simpa using hbl4)] at h
                      exact h⟩
                  · have hzI : (0 : Int) < x.n := by omega
                    have hbI : (x.n : Int) ≤ hs.length := by omega
                    have hi64 : IntKind.i64.wrap (x.n : Int) = x.n := IntWalk.i64_in _ (by omega)
                    by_cases hold : x.n - 1 < hs.length - 8
                    · have hoI : (x.n : Int) - 1 < (hs.length : Int) - 8 := by omega
                      clear hz hbig hold
                      go_wp2_with fail
                      refine (HD.out _ HCB.out.vers HCB.out.nil).mono ?_
                      rintro e w4 ⟨s4, c4, rfl, hf⟩
                      have hk4 := HK3.out.keep hf.own.below
                      have hbw := alloc_keep w4 (.cells #[.int .u64 (Cl.celOf hs).last, .slice s4 (Cl.celOf hs).l.length c4] 25 (0, 0))
                      have hk5 := hk4.keep hbw
                      have hlb2 : b < w2.heap.size := blk_lt HK3.out.box
                      have hnew : ∀ k ∈ blks s4, b < k := fun k hk => Nat.lt_of_lt_of_le hlb2 (hf.new k hk)
                      have hs5 := hf.is.keep (w' := w4.alloc (.cells #[.int .u64 (Cl.celOf hs).last, .slice s4 (Cl.celOf hs).l.length c4] 25 (0, 0))) (fun k hk => hbw.block k (hf.is.lt k hk))
                      have HKP := Lib.hid (hk5.putNo hs5 hnew HB1.out)
                      obtain ⟨kk0, kk1, kf0, kf1, klb⟩ := hk5.cbox.facts
                      have qn := cell_keep hf.own.below q3 l0
                      have ql := Nat.lt_of_lt_of_le l0 hf.own.size
                      have hbs : ¬ b = w4.heap.size := by have := blk_lt hk4.box; omega
                      have hbs2 : ¬ w4.heap.size = b := by omega
                      obtain ⟨jk0, jk1, jf0, jf1, jlb⟩ := hk4.cbox.facts
                      have hbl4 : b < w4.heap.size := blk_lt hk4.box
                      clear hk4 hk5 hbw hlb2 hnew hs5 hf
                      go_wp2_with fail
                      go_meet
                      exact ⟨hs, s4, c4, ta, tcap, sa, scap, HHS.out.up, rfl, rfl, by
                        have h := HKP.out
                        rw [World.setCell_alloc_past _ _ _ _ hbl4, World.setCell_alloc_past _ _ _ _ (by simpa using hbl4)] at h
                        exact h⟩
                    · have hoI : (hs.length : Int) - 8 ≤ (x.n : Int) - 1 := by omega
                      obtain ⟨kk, hkk, hn1, hdead⟩ : ∃ (kk : Nat) (hk : kk < hs.length), x.n = kk + 1 ∧ ¬ (hs[kk]).1 = 1 := ⟨x.n - 1, by omega, by omega, fun h => HLV.out ⟨⟨by omega, by omega⟩, h⟩⟩
                      obtain ⟨gs, os, rfl, hcell, hfz, hgsl⟩ := HK3.out.sv.stateAt kk hkk
                      generalize (hs[kk]).1 = stv at *
                      have hstI : ((stv : Int) == 1) = false := by rw [beq_eq_false_iff_ne]; omega
                      have hkN : (x.n : Int) - 1 = (kk : Int) := by omega
                      have hkkI : (0 : Int) ≤ kk ∧ (kk : Int) < hs.length := by omega
                      have hoI2 : (hs.length : Int) - 8 ≤ kk := by omega
                      clear hn1
                      clear hz hbig hold hdead HLV
                      go_wp2_with fail
                      refine (HD.out _ HCB.out.vers HCB.out.nil).mono ?_
                      rintro e w4 ⟨s4, c4, rfl, hf⟩
                      have hk4 := HK3.out.keep hf.own.below
                      have HB45 := Lib.hid hf.own.below
                      have hbw := alloc_keep w4 (.cells #[.int .u64 (Cl.celOf hs).last, .slice s4 (Cl.celOf hs).l.length c4] 25 (0, 0))
                      have hk5 := hk4.keep hbw
                      have hlb2 : b < w2.heap.size := blk_lt HK3.out.box
                      have hnew : ∀ k ∈ blks s4, b < k := fun k hk => Nat.lt_of_lt_of_le hlb2 (hf.new k hk)
                      have hs5 := hf.is.keep (w' := w4.alloc (.cells #[.int .u64 (Cl.celOf hs).last, .slice s4 (Cl.celOf hs).l.length c4] 25 (0, 0))) (fun k hk => hbw.block k (hf.is.lt k hk))
                      have HKP := Lib.hid (hk5.putNo hs5 hnew HB1.out)
                      obtain ⟨kk0, kk1, kf0, kf1, klb⟩ := hk5.cbox.facts
                      have qn := cell_keep hf.own.below q3 l0
                      have ql := Nat.lt_of_lt_of_le l0 hf.own.size
                      have hbs : ¬ b = w4.heap.size := by have := blk_lt hk4.box; omega
                      have hbs2 : ¬ w4.heap.size = b := by omega
                      obtain ⟨jk0, jk1, jf0, jf1, jlb⟩ := hk4.cbox.facts
                      have hbl4 : b < w4.heap.size := blk_lt hk4.box
                      clear hk4 hk5 hbw hlb2 hnew hs5 hf
                      have hc5 := cell_keep HB45.out hcell hgsl
                      have hl5 : gs < w4.heap.size := Nat.lt_of_lt_of_le hgsl HB45.out.size
                      go_wp2_with fail
                      go_meet
                      exact ⟨hs, s4, c4, ta, tcap, _, scap, HHS.out.up, rfl, rfl, by
                        have h := HKP.out
                        rw [World.setCell_alloc_past _ _ _ _ hbl4, World.setCell_alloc_past _ _ _ _ (by simpa using hbl4)] at h
                        exact h⟩
        case rest =>
          obtain ⟨hs', a', cap', ta', tcap', sa', scap', hok', rfl, rfl, hkp⟩ := hcut
          have hlen' : hs'.length ≤ 1000 := by have := hok'.2; omega
          have hn'I : (0 : Int) ≤ hs'.length ∧ (hs'.length : Int) ≤ 1000 := by omega
          have hul' : IntKind.u64.wrap (hs'.length : Int) = hs'.length := IntWalk.u64_in _ (by omega)
          have HKP := Lib.hid hkp
          have HOK' := Lib.hid hok'
          have HH2 := Lib.hid (celOf_ok hs' (i + 1) (by have := HLEN.out; omega) hok')
          obtain ⟨c0, c1, cf0, cf1, cl⟩ := celBox hkp.box
          clear hkp hok' hlen' HK3 HB3 HA7 HA8 HH HHS HNB q0 q1 q2 q3 q4 l0 l1 hnlI HX HM3
          go_wp2_with fail
          go_loopw [19] (fun vk wr2 => ∃ k : Nat, k ≤ hs'.length ∧ vk = .int .i64 k ∧ KpAt w wr2 b hs' a' cap' ta' tcap' sa' scap') (fun vk _ => hs'.length - (intOf vk).toNat)
          case atStart => exact ⟨0, Nat.zero_le _, rfl, HKP.out⟩
          case round =>
            clear HKP c0 c1 cf0 cf1 cl
            obtain ⟨k, hk, rfl, hkp⟩ := hrel
            have HKP := Lib.hid hkp
            obtain ⟨c0, c1, cf0, cf1, cl⟩ := celBox hkp.box
            by_cases hklt : k < hs'.length
            · have hkkI : (0 : Int) ≤ k ∧ (k : Int) < hs'.length := by omega
              obtain ⟨gt, ot, rfl, ht0, hgt⟩ := hkp.tv.textAt k hklt
              obtain ⟨gs, os, rfl, hs0, _, hgs⟩ := hkp.sv.stateAt k hklt
              have hwk : IntKind.u64.wrap ((k : Int) + 1) = (k : Int) + 1 := IntWalk.u64_in _ (by omega)
              have hrd := Cl.read_celOf hs' HOK'.out.1 k hklt
              have HRD : Hid (∀ wz : World, VersAt wz a' (Cl.celOf hs').l → Calls Try.prog 8 #[.agg #[.int .u64 hs'.length, .slice a' (Cl.celOf hs').l.length cap'], .int .u64 ((k : Int) + 1)] wz fun e w' =>
                e = .returned (.tuple #[.agg #[.int .u64 (Cl.read (Cl.celOf hs') (k + 1)).1.n, .int .u8 (Cl.read (Cl.celOf hs') (k + 1)).1.st, .string (Cl.read (Cl.celOf hs') (k + 1)).1.t], .int .i64 (Cl.read (Cl.celOf hs') (k + 1)).2]) ∧ Below wz.heap.size wz w') :=
                Lib.hid fun wz hz => read_any wz (Cl.celOf hs') a' cap' (k + 1) hz HH2.out.1 HH2.out.2.1 HH2.out.2.2 (by omega)
              rw [hrd] at HRD
              have HVV := Lib.hid hkp.cbox.vers
              clear hrd hkp
              generalize hs'[k] = hk' at *
              obtain ⟨stv, tx⟩ := hk'
              simp only at HRD hs0 ht0
              by_cases hkept : hs'.length - 8 ≤ k
              · have hkeptI : (hs'.length : Int) - 8 ≤ k := by omega
                rw [if_pos hkept] at HRD
                by_cases hst : stv = 1
                · rw [if_pos hst] at HRD
                  simp only at HRD
                  have hstI : ((stv : Int) == 1) = true := by rw [beq_iff_eq]; omega
                  clear hst hkept hk
                  go_wp2_with fail
                  refine (HRD.out _ HVV.out).mono ?_
                  rintro e w6 ⟨rfl, hb⟩
                  have HK6 := Lib.hid (HKP.out.keep hb)
                  have ht6 := cell_keep hb ht0 hgt
                  have hs6 := cell_keep hb hs0 hgs
                  have hgt6 := Nat.lt_of_lt_of_le hgt hb.size
                  have hgs6 := Nat.lt_of_lt_of_le hgs hb.size
                  clear hb HRD HVV c0 c1 cf0 cf1 cl ht0 hs0 hgt hgs
                  go_wp2_with fail
                  go_quiet (fail)
                  go_wp2_with fail
                  go_roundw
                  case rel => exact ⟨k + 1, by omega, by go_num, (HK6.out.keep (alloc_keep _ _)).keep ⟨rfl, rfl, rfl, Nat.le_refl _, fun _ _ => rfl⟩⟩
                  case measure => simp only [intOf]; omega
                · rw [if_neg hst] at HRD
                  simp only [Cl.ver0] at HRD
                  have hstI : ((stv : Int) == 1) = false := by rw [beq_eq_false_iff_ne]; omega
                  clear hst hkept hk
                  go_wp2_with fail
                  refine (HRD.out _ HVV.out).mono ?_
                  rintro e w6 ⟨rfl, hb⟩
                  have HK6 := Lib.hid (HKP.out.keep hb)
                  have ht6 := cell_keep hb ht0 hgt
                  have hs6 := cell_keep hb hs0 hgs
                  have hgt6 := Nat.lt_of_lt_of_le hgt hb.size
                  have hgs6 := Nat.lt_of_lt_of_le hgs hb.size
                  clear hb HRD HVV c0 c1 cf0 cf1 cl ht0 hs0 hgt hgs
                  go_wp2_with fail
                  go_quiet (fail)
                  go_wp2_with fail
                  go_roundw
                  case rel => exact ⟨k + 1, by omega, by go_num, (HK6.out.keep (alloc_keep _ _)).keep ⟨rfl, rfl, rfl, Nat.le_refl _, fun _ _ => rfl⟩⟩
                  case measure => simp only [intOf]; omega
              · have hkeptI : (k : Int) < (hs'.length : Int) - 8 := by omega
                rw [if_neg hkept] at HRD
                simp only [Cl.ver0] at HRD
                clear hkept hk
                go_wp2_with fail
                refine (HRD.out _ HVV.out).mono ?_
                rintro e w6 ⟨rfl, hb⟩
                have HK6 := Lib.hid (HKP.out.keep hb)
                have ht6 := cell_keep hb ht0 hgt
                have hs6 := cell_keep hb hs0 hgs
                have hgt6 := Nat.lt_of_lt_of_le hgt hb.size
                have hgs6 := Nat.lt_of_lt_of_le hgs hb.size
                clear hb HRD HVV c0 c1 cf0 cf1 cl ht0 hs0 hgt hgs
                go_wp2_with fail
                go_quiet (fail)
                go_wp2_with fail
                go_roundw
                case rel => exact ⟨k + 1, by omega, by go_num, (HK6.out.keep (alloc_keep _ _)).keep ⟨rfl, rfl, rfl, Nat.le_refl _, fun _ _ => rfl⟩⟩
                case measure => simp only [intOf]; omega
            · have hkkI : (k : Int) = hs'.length := by omega
              clear hkp
              go_wp2_with fail
              go_roundw
              case rel => exact ⟨i + 1, hs', by omega, rfl, a', cap', ta', tcap', sa', scap', HOK'.out, rfl, rfl, HKP.out⟩
              case measure => simp only [intOf]; omega
      · have hiI : (i : Int) = l.length := by omega
        have HO := Lib.hid hk.own
        clear hk hok
        go_wp2_with fail
        refine (works_any _).mono ?_
        rintro e w2 ⟨rfl, hb⟩
        have HO2 := Lib.hid (HO.out.trans hb)
        clear hb
        go_wp2_with fail
        go_ret
        exact ⟨rfl, HO2.out.below⟩

end Go.Proofs.Ytllepgdebjfbdaa
