/-
  THE WALK of the statement DiskKeeps: behind any crash each file begins with what it had at the last sync.
-/
import Derived.Test.YtdeojgjlheiflaaDiskKeeps
import Derived.Deep.RegionHeld3
import Derived.Deep.CutBlock
import Derived.Deep.DeepCutAuto
namespace Go.Proofs.Ytdeojgjlheiflaa
open Go.RowKit

attribute [local go_sem ↓ high] appSem_eq

theorem below_more {B : Nat} {w wz : World} (h : Below B w wz) (n : Nat) : Below B w (wz.drewN n) := h.trans ⟨rfl, rfl, rfl, Nat.le_refl _, fun _ _ => rfl⟩

set_option maxRecDepth 20000 in
set_option maxHeartbeats 2000000 in
theorem diskKeeps_any (w : World) (a : Option Addr) (cap : Nat) (l : List Xst) (a2 : Option Addr) (cap2 : Nat) (l2 : List Xst) (x y : Int) (h : StepsAt w a l) (ok : ∀ x ∈ l, okX x) (hl : l.length ≤ 9223372036854775807) (h2 : StepsAt w a2 l2) (ok2 : ∀ x ∈ l2, okX x) (hl2 : l2.length ≤ 9223372036854775807) :
    Calls Try.prog 3 #[.slice a l.length cap, .slice a2 l2.length cap2, .int .i64 x, .int .i64 y] w fun e w' => e = .returned (.bool true) ∧ Below w.heap.size w w' := by
  have HH := Lib.hid (heavy_any w a cap l h ok hl)
  have HH2 := Lib.hid (heavy_any w a2 cap2 l2 h2 ok2 hl2)
  have HR := Lib.hid h
  have HR2 := Lib.hid h2
  have HOKX := Lib.hid ok
  have hlI : (0 : Int) ≤ l.length ∧ (l.length : Int) ≤ 9223372036854775807 := by omega
  have hlI2 : (0 : Int) ≤ l2.length ∧ (l2.length : Int) ≤ 9223372036854775807 := by omega
  clear h ok hl h2 ok2 hl2
  go_enter Try.func3, Try.ntmps3
  go_wp2_with fail
  refine HH.out.mono ?_
  rintro e w1 ⟨rfl, hw⟩
  subst w1
  cases hhv : heavyB l with
  | true =>
    clear hhv HH HH2
    go_wp2_with fail
    refine (alive09 w).mono ?_
    rintro e w2 ⟨rfl, hb⟩
    have HB := Lib.hid hb
    clear hb
    go_wp2_with fail
    go_ret
    exact ⟨rfl, HB.out⟩
  | false =>
    have HHV := Lib.hid (heavy_no hhv)
    clear hhv HH
    go_wp2_with fail
    refine HH2.out.mono ?_
    rintro e w1 ⟨rfl, hw⟩
    subst w1
    cases hhv : heavyB l2 with
    | true =>
      clear hhv HH2
      go_wp2_with fail
      refine (alive09 w).mono ?_
      rintro e w2 ⟨rfl, hb⟩
      have HB := Lib.hid hb
      clear hb
      go_wp2_with fail
      go_ret
      exact ⟨rfl, HB.out⟩
    | false =>
      have HHV2 := Lib.hid (heavy_no hhv)
      clear hhv HH2
      go_wp2_with fail
      refine (new_has w 3 16384 (by decide) (by decide) (by decide)).mono ?_
      rintro e w1 ⟨rfl, hd, hb1, hlt1⟩
      have HM := Lib.hid (Mine.new (Own.refl w) hd (Nat.le_refl _) hb1)
      have hok0 : (Dk.new 3 16384).ok := Dk.new_ok 3 16384 (by decide) (by decide) (by decide)
      have HOK0 := Lib.hid hok0
      clear hd hb1 hlt1 hok0
      generalize w.heap.size = p at HM ⊢
      go_wp2_with fail
      go_loopw [11] (fun vi wr => ∃ (k : Nat) (d : Dk.D), k ≤ l.length ∧ vi = .int .i64 k ∧ Mine w wr p d ∧ d.ok ∧ d.n = 3 ∧ d.loose.length ≤ k) (fun vi _ => l.length - (intOf vi).toNat)
      case atStart => exact ⟨0, _, Nat.zero_le _, rfl, HM.out, HOK0.out, rfl, Nat.zero_le _⟩
      case round =>
        clear HM HOK0
        obtain ⟨k, d, hk, rfl, hM, hokd, hdn, hll⟩ := hrel
        have HM := Lib.hid hM
        have HOKD := Lib.hid hokd
        have HDN := Lib.hid hdn
        have HLL := Lib.hid hll
        clear hM hokd hdn hll
        by_cases hlt : k < l.length
        · obtain ⟨g, off, rfl, hg, c0, c1, c2, c3, c4, c5⟩ := StepsAt.at (RowIs.keep HR.out HM.out.own.below) k hlt
          have hkI : (0 : Int) ≤ k ∧ (k : Int) < l.length := by omega
          have hx := HOKX.out l[k] (List.getElem_mem hlt)
          have hsz := ssum_get HHV.out.1 l[k] (List.getElem_mem hlt)
          generalize l[k] = s at *
          have HDO := Lib.hid (does_any HM.out HOKD.out (by have := HLL.out; have := HHV.out.2; omega) s hx (by omega))
          have HDF := Lib.hid (doX_facts d HOKD.out s hx)
          clear hx hsz
          go_wp2_with fail
          refine HDO.out.mono ?_
          rintro e w4 ⟨rfl, hM4⟩
          have HM4 := Lib.hid hM4
          clear hM4
          go_wp2_with fail
          go_roundw
          case rel => exact ⟨k + 1, _, by omega, by go_num, HM4.out, HDF.out.1, by rw [HDF.out.2.1]; exact HDN.out, by have := HDF.out.2.2; have := HLL.out; omega⟩
          case measure => simp [intOf]; omega
        · obtain rfl : k = l.length := by omega
          have HFU := Lib.hid (HM.out.fuse HOKD.out (-1))
          have hok2 := Dk.fused_ok HOKD.out (-1) (by decide)
          have HOK2 := Lib.hid hok2
          obtain ⟨hsy, hwd⟩ := synced_wd HOKD.out
          have HSY := Lib.hid hsy
          have HWD := Lib.hid hwd
          have hnl : d.now.length = 3 := by rw [Dk.D.now_length]; exact HDN.out
          have HNL := Lib.hid hnl
          clear hok2 hsy hwd hnl
          go_wp2_with fail
          refine HFU.out.mono ?_
          rintro e w4 ⟨rfl, hM4⟩
          have hS4 := hM4.sync HOK2.out
          rw [HSY.out] at hS4
          have HS4 := Lib.hid hS4
          clear hM4 hS4 HFU
          go_wp2_with fail
          refine HS4.out.mono ?_
          rintro e w5 ⟨rfl, hM5⟩
          have hf5 := With.files (R := []) ⟨hM5, by simp⟩ HWD.out.ok rfl (show (synced d).n = 3 from HNL.out)
          have hrow : (synced d).now = d.now := rfl
          rw [hrow] at hf5
          have HF5 := Lib.hid hf5
          clear hM5 hf5 hrow HS4
          have HL5 : Hid ((synced d).loose = []) := Lib.hid rfl
          generalize d.now = S0 at *
          generalize synced d = d5 at *
          go_wp2_with fail
          refine HF5.out.mono ?_
          rintro e w6 ⟨a6, c6, rfl, hW6⟩
          have HW6 := Lib.hid hW6
          clear hW6 HF5
          go_wp2_with fail
          go_loopw [13] (fun vi wr => ∃ (k : Nat) (d : Dk.D), k ≤ l2.length ∧ vi = .int .i64 k ∧ With w wr p d [(a6, c6, S0)] ∧ WD d S0 ∧ d.loose.length ≤ k) (fun vi _ => l2.length - (intOf vi).toNat)
          case atStart => exact ⟨0, d5, Nat.zero_le _, rfl, HW6.out, HWD.out, by rw [HL5.out]; exact Nat.zero_le _⟩
          case round =>
            clear HW6 HWD HL5
            obtain ⟨k, d, hk2, rfl, hW, hwd, hll⟩ := hrel
            have HW := Lib.hid hW
            have HWD := Lib.hid hwd
            have HLL := Lib.hid hll
            clear hll
            by_cases hlt2 : k < l2.length
            · obtain ⟨g, off, rfl, hg, c0, c1, c2, c3, c4, c5⟩ := HR2.out.at k hlt2
              have hkI2 : (0 : Int) ≤ k ∧ (k : Int) < l2.length := by omega
              have hsz := ssum_get HHV2.out.1 l2[k] (List.getElem_mem hlt2)
              generalize l2[k] = s at *
              have hbw := hW.mine.own.below
              have hw2 := (hW.keep ((Below.refl wr.heap.size wr).drew)).write hwd.ok (by have := HLL.out; have := HHV2.out.2; omega) s.file s.s (by omega)
              have HWR := Lib.hid hw2
              have hwd2 := hwd.write s.file s.s
              have HWD2 := Lib.hid hwd2
              have d1 := keep_at hbw c1 hg
              have d4 := keep_at hbw c4 hg
              have HC := Lib.hid (And.intro hg (And.intro c1 c4))
              clear c0 c1 c2 c3 c4 c5 hg hbw hw2 hwd2 hW hwd hsz
              go_wp2_with fail
              go_region_held3 (fun w' => w'.cell? ⟨g, off + k * 6 + 1, none⟩ = some (.int .i64 s.file) ∧ w'.cell? ⟨g, off + k * 6 + 4, none⟩ = some (.string s.s)) (first | (with_reducible exact ⟨d1, d4⟩) | (with_reducible exact ⟨d1', d4'⟩) | exact ⟨d1, d4⟩)
                (first
                | (go_at_call 13
                   (with_reducible refine HWR.out.mono ?_)
                   rintro e w3 ⟨rfl, hT3⟩
                   have hb3 := hT3.mine.own.below
                   have d1' := keep_at hb3 HC.out.2.1 HC.out.1
                   have d4' := keep_at hb3 HC.out.2.2 HC.out.1
                   have HT3 := Lib.hid hT3
                   clear hb3 hT3))
              all_goals
                go_wp2_with fail
                go_roundw
                case rel => exact ⟨k + 1, _, by omega, by go_num, HT3.out, HWD2.out.1, by have := HWD2.out.2; have := HLL.out; omega⟩
                case measure => simp [intOf]; omega
            · obtain rfl : k = l2.length := by omega
              have hsl : d.sure.length = 3 := by rw [HWD.out.sure]; exact HNL.out
              have hf6 := hW.files hwd.ok hwd.fuse hsl
              have HF6 := Lib.hid hf6
              have hpc := fun i => pre_crashed S0 d.loose hwd.all x y i
              have hcn : (Dk.crash d x y).now = Dk.crashed S0 d.loose x y := by show Dk.crashed d.sure d.loose x y = _; rw [hwd.sure]
              have hdn : d.now = Dk.runs S0 d.loose := by show Dk.runs d.sure d.loose = _; rw [hwd.sure]
              rw [← hcn, ← hdn] at hpc
              have HPC := Lib.hid hpc
              have hokc := Dk.crash_ok hwd.ok x y
              have hokc2 := Dk.crash_ok hokc y x
              have hnc : (Dk.crash d x y).n = 3 := by show (Dk.crashed _ _ _ _).length = 3; rw [Dk.crashed_length]; exact hsl
              have hnc2 : (Dk.crash (Dk.crash d x y) y x).n = 3 := by show (Dk.crashed _ _ _ _).length = 3; rw [Dk.crashed_length]; exact hnc
              have hsame : (Dk.crash (Dk.crash d x y) y x).now = (Dk.crash d x y).now := Dk.crashed_zero _ _ _
              have hlo : (Dk.crash (Dk.crash d x y) y x).loose = [] := rfl
              have HX := Lib.hid (And.intro hokc (And.intro hokc2 (And.intro hnc (And.intro hnc2 (And.intro hsame hlo)))))
              have HT := Lib.hid (And.intro hwd.ok.total_now hokc.total_now)
              clear hsl hf6 hpc hcn hdn hokc hokc2 hnc hnc2 hsame hlo hW hwd
              go_wp2_with fail
              refine HF6.out.mono ?_
              rintro e w7 ⟨a7, c7, rfl, hW7⟩
              have HC7 := Lib.hid (hW7.crash HWD.out.ok (by have := HLL.out; have := HHV2.out.2; omega) x y)
              clear hW7 HF6
              go_wp2_with fail
              refine HC7.out.mono ?_
              rintro e w8 ⟨rfl, hW8⟩
              have HF8 := Lib.hid (hW8.files HX.out.1 rfl HX.out.2.2.1)
              clear hW8 HC7
              go_wp2_with fail
              refine HF8.out.mono ?_
              rintro e w9 ⟨a9, c9, rfl, hW9⟩
              have HW9 := Lib.hid hW9
              obtain ⟨l9, g9, o9, e9, hg9, r9⟩ := RowOf.at (hW9.rows (a9, c9, (Dk.crash d x y).now) (by simp))
              obtain ⟨l7, g7, o7, e7, hg7, r7⟩ := RowOf.at (hW9.rows (a7, c7, d.now) (by simp))
              obtain ⟨l6, g6, o6, e6, hg6, r6⟩ := RowOf.at (hW9.rows (a6, c6, S0) (by simp))
              simp only at e9 e7 e6 r9 r7 r6
              subst e9 e7 e6
              have HR9 := Lib.hid r9
              have HR7 := Lib.hid r7
              have HR6 := Lib.hid r6
              clear hW9 HF8 l9 l7 l6 r9 r7 r6
              go_wp2_with fail
              go_loopw [16] (fun vi wz => ∃ (i : Nat), i ≤ 3 ∧ vi = .int .i64 i ∧ Below w9.heap.size w9 wz) (fun vi _ => 3 - (intOf vi).toNat)
              case atStart => exact ⟨0, by omega, rfl, Below.refl _ _⟩
              case round =>
                obtain ⟨i, hi, rfl, hbz⟩ := hrel
                have HBZ := Lib.hid hbz
                by_cases hlt3 : i < 3
                · have hiI : (0 : Int) ≤ i ∧ (i : Int) < 3 := by omega
                  have x9 := keep_at hbz (HR9.out i hlt3) hg9
                  have x7 := keep_at hbz (HR7.out i hlt3) hg7
                  have x6 := keep_at hbz (HR6.out i hlt3) hg6
                  clear hbz
                  obtain ⟨p1, p2⟩ := HPC.out i
                  have z1 : (Dk.txt (Dk.crash d x y).now i).size ≤ 1073741824 := by have t1 := Dk.txt_le (Dk.crash d x y).now i; have t2 := HT.out.2; unfold Dk.Most at t2; omega
                  have z2 : (Dk.txt d.now i).size ≤ 1073741824 := by have t1 := Dk.txt_le d.now i; have t2 := HT.out.1; unfold Dk.Most at t2; omega
                  generalize Dk.txt (Dk.crash d x y).now i = tc at *
                  generalize Dk.txt d.now i = tn at *
                  generalize Dk.txt S0 i = ts at *
                  have HB1 := Lib.hid (fun wz => begins_yes wz ts tc p1 z1)
                  have HB2 := Lib.hid (fun wz => begins_yes wz tc tn p2 z2)
                  clear p1 p2 z1 z2
                  go_wp2_with fail
                  go_quiet (first | (go_at_call 15; (with_reducible exact Calls.quiet_of_same (HB1.out _))) | (go_at_call 15; (with_reducible exact Calls.quiet_of_same (HB2.out _))))
                  go_wp2_with fail
                  go_roundw
                  case rel => exact ⟨i + 1, by omega, by go_num, below_more HBZ.out _⟩
                  case measure => simp [intOf]; omega
                · obtain rfl : i = 3 := by omega
                  have hW10 := HW9.out.keep hbz
                  have hC10 := hW10.crash HX.out.1 (Nat.zero_le _) y x
                  have HC10 := Lib.hid hC10
                  clear hbz hW10 hC10
                  go_wp2_with fail
                  refine HC10.out.mono ?_
                  rintro e w10 ⟨rfl, hW10⟩
                  have hf11 := hW10.files HX.out.2.1 rfl HX.out.2.2.2.1
                  rw [HX.out.2.2.2.2.1] at hf11
                  have HF11 := Lib.hid hf11
                  clear hW10 hf11 HC10
                  go_wp2_with fail
                  refine HF11.out.mono ?_
                  rintro e w11 ⟨a11, c11, rfl, hW11⟩
                  obtain ⟨l11, g11, o11, e11, hg11, r11⟩ := RowOf.at (hW11.rows (a11, c11, (Dk.crash d x y).now) (by simp))
                  obtain ⟨l12, g12, o12, e12, hg12, r12⟩ := RowOf.at (hW11.rows (some ⟨g9, o9, none⟩, c9, (Dk.crash d x y).now) (by simp))
                  simp only at e11 e12 r11 r12
                  subst e11
                  injection e12 with e12
                  injection e12 with e12 e13 e14
                  subst e12 e13
                  have x0 := r11 0 (by decide)
                  have x1 := r11 1 (by decide)
                  have x2 := r11 2 (by decide)
                  have y0 := r12 0 (by decide)
                  have y1 := r12 1 (by decide)
                  have y2 := r12 2 (by decide)
                  rw [Nat.add_zero] at x0 y0
                  obtain ⟨F11, hD11⟩ := hW11.mine.has
                  have hlo := loose_has (hD11.own (Below.refl w11.heap.size w11).drew) HX.out.2.1
                  rw [HX.out.2.2.2.2.2] at hlo
                  have HLO := Lib.hid hlo
                  have HO11 := Lib.hid hW11.mine.own
                  have HG := Lib.hid (And.intro hg11 hg12)
                  clear hW11 r11 r12 hD11 hlo l11 l12 HF11
                  generalize Dk.txt (Dk.crash d x y).now 0 = t0 at *
                  generalize Dk.txt (Dk.crash d x y).now 1 = t1 at *
                  generalize Dk.txt (Dk.crash d x y).now 2 = t2 at *
                  have HXY := Lib.hid (And.intro x0 (And.intro x1 (And.intro x2 (And.intro y0 (And.intro y1 y2)))))
                  go_wp2_with fail
                  go_region_held3 (fun w' => w'.cell? ⟨g11, o11, none⟩ = some (.string t0) ∧ w'.cell? ⟨g11, o11 + 1, none⟩ = some (.string t1) ∧ w'.cell? ⟨g11, o11 + 2, none⟩ = some (.string t2) ∧ w'.cell? ⟨g9, o9, none⟩ = some (.string t0) ∧ w'.cell? ⟨g9, o9 + 1, none⟩ = some (.string t1) ∧ w'.cell? ⟨g9, o9 + 2, none⟩ = some (.string t2))
                    (first | (with_reducible exact ⟨x0, x1, x2, y0, y1, y2⟩) | (with_reducible exact ⟨x0', x1', x2', y0', y1', y2'⟩) | exact ⟨x0, x1, x2, y0, y1, y2⟩)
                    (first
                    | (go_at_call 16
                       (with_reducible refine HLO.out.mono ?_)
                       rintro e w12 ⟨rfl, hw12⟩
                       subst w12)
                    | (go_at_call 7
                       (with_reducible refine (alive09 _).mono ?_)
                       rintro e w12 ⟨rfl, hb12⟩
                       have x0' := keep_at hb12 HXY.out.1 HG.out.1
                       have x1' := keep_at hb12 HXY.out.2.1 HG.out.1
                       have x2' := keep_at hb12 HXY.out.2.2.1 HG.out.1
                       have y0' := keep_at hb12 HXY.out.2.2.2.1 HG.out.2
                       have y1' := keep_at hb12 HXY.out.2.2.2.2.1 HG.out.2
                       have y2' := keep_at hb12 HXY.out.2.2.2.2.2 HG.out.2
                       have HO12 := Lib.hid (HO11.out.drew.trans hb12)
                       clear hb12))
                  all_goals
                    go_wp2_with fail
                    go_ret
                    exact ⟨rfl, HO12.out.below⟩

end Go.Proofs.Ytdeojgjlheiflaa
