/-
  THE WALK of the statement CellTells.
-/
import Derived.Test.YtigbjmhlcacijaaCellActs
import Derived.Deep.CutBlock
import Derived.Deep.DeepCutAuto
namespace Go.Proofs.Ytigbjmhlcacijaa
open Go.RowKit

theorem alloc_keep (w : World) (o : Obj) : Below w.heap.size w (w.alloc o) := ((Own.refl w).alloc o).below
theorem CBox.facts {w : World} {b : Nat} {c : Cl.Cel} {a : Option Addr} {cap : Nat} (h : CBox w b c a cap) :
    w.cell? ⟨b, 0, none⟩ = some (.int .u64 c.last) ∧ w.cell? ⟨b, 1, none⟩ = some (.slice a c.l.length cap) ∧ w.frozen? ⟨b, 0, none⟩ = false ∧ w.frozen? ⟨b, 1, none⟩ = false ∧ b < w.heap.size := celBox h.box
theorem ActsAt.one (w : World) (x : Xct) (t : TypeId) (fr : Nat × Nat) : ActsAt (w.alloc (.cells #[.int .u8 x.kind, .bool x.any, .int .u64 x.want, .int .u64 x.n, .string x.t] t fr)) (some ⟨w.heap.size, 0, none⟩) [x] := fun i hi => by
  have : i = 0 := by simp at hi; omega
  subst this
  exact ⟨w.heap.size, 0, rfl, CellsAt.new w (acells x) t fr⟩
open Cl in
theorem act_len (c : Cel) (x : Xct) (h : c.l.length ≤ 20) : (actF c x).1.l.length ≤ 1000 := by
  have hg : ∀ st t, (grow c x.any x.want st t).1.l.length ≤ 1000 := fun st t => by
    unfold grow
    split
    · exact (show c.l.length ≤ 1000 by omega)
    · split
      · exact (show c.l.length ≤ 1000 by omega)
      · show (comes c st t).l.length ≤ 1000
        unfold comes; simp; omega
  unfold actF
  split
  · unfold put
    split
    · exact (show c.l.length ≤ 1000 by omega)
    · split
      · exact (show c.l.length ≤ 1000 by omega)
      · exact hg _ _
  · split
    · unfold delete
      split
      · exact (show c.l.length ≤ 1000 by omega)
      · split
        · exact (show c.l.length ≤ 1000 by omega)
        · exact hg _ _
    · unfold destroy
      split
      · show (c.l.set _ _).length ≤ 1000
        simp; omega
      · exact (show c.l.length ≤ 1000 by omega)

set_option maxRecDepth 20000 in
set_option maxHeartbeats 8000000 in
theorem cellTells_any (w : World) (c : Cl.Cel) (a : Option Addr) (cap : Nat) (x : Xct) (n : Nat) (h : VersAt w a c.l) (ok : ∀ v ∈ c.l, okV v) (okx : okA x) (hnil : a = none → cap = 0) (hl : c.last < 18446744073709551616) (hm : c.l.length ≤ 9223372036854775807) (hn : n < 18446744073709551616) :
    Calls Try.prog 4 #[.agg #[.int .u64 c.last, .slice a c.l.length cap], .agg #[.int .u8 x.kind, .bool x.any, .int .u64 x.want, .int .u64 x.n, .string x.t], .int .u64 n] w fun e w' => e = .returned (.bool true) ∧ Below w.heap.size w w' := by
  have HOK := Lib.hid ok
  have HX := Lib.hid okx
  have HNIL := Lib.hid hnil
  have HLAST := Lib.hid hl
  have HN := Lib.hid hn
  have HM := Lib.hid hm
  have H := Lib.hid h
  clear h ok okx hnil hl hn hm
  go_enter Try.func4, Try.ntmps4
  have HB := Lib.hid (boxes2 w (.cells #[.int .u64 c.last, .slice a c.l.length cap] 27 (0, 0)) (.cells #[.int .u8 x.kind, .bool x.any, .int .u64 x.want, .int .u64 x.n, .string x.t] 34 (0, 0)))
  go_wp2_with fail
  have hsz : ((w.alloc (.cells #[.int .u64 c.last, .slice a c.l.length cap] 27 (0, 0))).alloc (.cells #[.int .u8 x.kind, .bool x.any, .int .u64 x.want, .int .u64 x.n, .string x.t] 34 (0, 0))).heap.size = w.heap.size + 1 + 1 := by simp
  generalize (w.alloc (.cells #[.int .u64 c.last, .slice a c.l.length cap] 27 (0, 0))).alloc (.cells #[.int .u8 x.kind, .bool x.any, .int .u64 x.want, .int .u64 x.n, .string x.t] 34 (0, 0)) = W at *
  have HB2 := Lib.hid (HB.out.keep (alloc_keep W (.cells #[.int .u8 x.kind, .bool x.any, .int .u64 x.want, .int .u64 x.n, .string x.t] 34 (0, 0))))
  have HO := Lib.hid (HB.out.own.alloc (.cells #[.int .u8 x.kind, .bool x.any, .int .u64 x.want, .int .u64 x.n, .string x.t] 34 (0, 0)))
  have T2 : ActsAt (W.alloc (.cells #[.int .u8 x.kind, .bool x.any, .int .u64 x.want, .int .u64 x.n, .string x.t] 34 (0, 0))) (some ⟨w.heap.size + 1 + 1, 0, none⟩) [x] := by rw [← hsz]; exact ActsAt.one W x _ _
  clear hsz
  refine (heavy_any _ c a cap (some ⟨w.heap.size + 1 + 1, 0, none⟩) 1 [x] (H.out.keep HO.out.below) HOK.out T2 (fun y hy => by rw [List.mem_singleton.1 hy]; exact HX.out) HM.out (by rw [List.length_singleton]; omega)).mono ?_
  rintro e w1 ⟨⟨b, rfl, hlen⟩, hb⟩
  have HB3 := Lib.hid (HB2.out.keep hb)
  clear hb HB HB2 HO T2
  cases b with
  | true =>
    clear hlen
    go_wp2_with fail
    refine (works_any _).mono ?_
    rintro e w2 ⟨rfl, hb⟩
    have HO2 := Lib.hid (HB3.out.own.trans hb)
    clear hb
    go_wp2_with fail
    go_ret
    exact ⟨rfl, HO2.out.below⟩
  | false =>
    have hc20 := (hlen rfl).1
    have HH : Hid (c.l.length ≤ 1000 ∧ c.l.length ≤ 20) := Lib.hid ⟨by omega, hc20⟩
    have HRL := Lib.hid (act_len c x hc20)
    clear hlen hc20
    obtain ⟨k0, k1⟩ := cell_cells HB3.out.b0
    obtain ⟨q0, q1, q2, q3, q4⟩ := act_cells HB3.out.b1
    have HD := Lib.hid (fun (wz : World) (hz : VersAt wz a c.l) => does_any wz c a cap x hz HOK.out HX.out HH.out.1 HNIL.out HLAST.out)
    generalize actF c x = r at *
    obtain ⟨⟨rl, rv⟩, re⟩ := r
    have HRV : Hid (rv.length ≤ 1000) := HRL
    clear HRL
    go_wp2_with fail
    refine (HD.out _ (H.out.keep HB3.out.own.below)).mono ?_
    rintro e w2 ⟨sx, cx, sy, cy, rfl, hfx, hvy, hny, hoy⟩
    have hb2 := hfx.own.below
    have hbb := hb2.trans (((alloc_keep w2 (.cells #[.int .u64 rl, .slice sx rv.length cx] 27 (0, 0))).trans ((alloc_keep _ (.cells #[.int .u64 rl, .slice sy rv.length cy] 27 (0, 0))).mono (by simp))).mono hb2.size)
    have HB4 := Lib.hid (HB3.out.keep hbb)
    have hx := heap_alloc_new w2 (.cells #[.int .u64 rl, .slice sx rv.length cx] 27 (0, 0))
    have HX4 := Lib.hid ((Below.heap_alloc _ (.cells #[.int .u64 rl, .slice sy rv.length cy] 27 (0, 0)) _ (blk_lt hx)).trans hx)
    have hy := heap_alloc_new (w2.alloc (.cells #[.int .u64 rl, .slice sx rv.length cx] 27 (0, 0))) (.cells #[.int .u64 rl, .slice sy rv.length cy] 27 (0, 0))
    rw [World.size_alloc] at hy
    have HY4 := Lib.hid hy
    have HVX := Lib.hid (hfx.vers.keep ((alloc_keep w2 (.cells #[.int .u64 rl, .slice sx rv.length cx] 27 (0, 0))).trans ((alloc_keep _ (.cells #[.int .u64 rl, .slice sy rv.length cy] 27 (0, 0))).mono (by simp))))
    have HVY := Lib.hid (VersAt.keep hvy ((alloc_keep w2 (.cells #[.int .u64 rl, .slice sx rv.length cx] 27 (0, 0))).trans ((alloc_keep _ (.cells #[.int .u64 rl, .slice sy rv.length cy] 27 (0, 0))).mono (by simp))))
    clear hfx hvy hny hoy hb2 hbb hx hy HB3 k0 k1 q0 q1 q2 q3 q4 HD
    obtain ⟨k0, k1⟩ := cell_cells HB4.out.b0
    go_wp2_with fail
    generalize w2.heap.size + 1 = b8 at *
    generalize w2.heap.size = b7 at *
    generalize (w2.alloc (.cells #[.int .u64 rl, .slice sx rv.length cx] 27 (0, 0))).alloc (.cells #[.int .u64 rl, .slice sy rv.length cy] 27 (0, 0)) = W4 at *
    refine (copied_any _ c a cap (H.out.keep HB4.out.own.below) HH.out.1 HNIL.out).mono ?_
    rintro e w5 ⟨s5, c5, rfl, hf⟩
    have hb5 := hf.own.below
    have HCP := Lib.hid hf.vers
    replace HB4 := Lib.hid (HB4.out.keep hb5)
    replace HX4 := Lib.hid ((hb5.block _ (blk_lt HX4.out)).trans HX4.out)
    replace HY4 := Lib.hid ((hb5.block _ (blk_lt HY4.out)).trans HY4.out)
    replace HVX := Lib.hid (HVX.out.keep hb5)
    replace HVY := Lib.hid (HVY.out.keep hb5)
    clear hf hb5 k0 k1
    have HRD := Lib.hid (fun (wz : World) (hz : VersAt wz s5 c.l) => read_any wz c s5 c5 n hz HOK.out HH.out.1 HLAST.out HN.out)
    have HRR := Lib.hid (fun (wz : World) (hz : VersAt wz a c.l) => rread_any wz c a cap n hz HOK.out HH.out.1 HLAST.out HN.out)
    generalize Cl.read c n = rr at *
    go_wp2_with fail
    refine (HRD.out _ HCP.out).mono ?_
    rintro e w6 ⟨rfl, hb6⟩
    have hbb := hb6.trans ((alloc_keep w6 (.cells #[.int .u64 rr.1.n, .int .u8 rr.1.st, .string rr.1.t] 37 (0, 0))).mono hb6.size)
    replace HB4 := Lib.hid (HB4.out.keep hbb)
    replace HX4 := Lib.hid ((hbb.block _ (blk_lt HX4.out)).trans HX4.out)
    replace HY4 := Lib.hid ((hbb.block _ (blk_lt HY4.out)).trans HY4.out)
    replace HVX := Lib.hid (HVX.out.keep hbb)
    replace HVY := Lib.hid (HVY.out.keep hbb)
    have HV6 := Lib.hid (heap_alloc_new w6 (.cells #[.int .u64 rr.1.n, .int .u8 rr.1.st, .string rr.1.t] 37 (0, 0)))
    clear hb6 hbb HCP HRD
    obtain ⟨k0, k1⟩ := cell_cells HB4.out.b0
    have kl := blk_lt HB4.out.b0
    have hkk : w.heap.size < w6.heap.size := by
      have h1 := HB4.out.lt
      simp at h1
      omega
    go_upto_region 5 with fail
    generalize w6.alloc (.cells #[.int .u64 rr.1.n, .int .u8 rr.1.st, .string rr.1.t] 37 (0, 0)) = W6 at *
    generalize w6.heap.size = b11 at *
    go_wp2_with fail
    refine (HRR.out _ (H.out.keep HB4.out.own.below)).mono ?_
    rintro e w7 ⟨rfl, hb7⟩
    have hbb := hb7.trans ((alloc_keep w7 (.cells #[.int .u64 rr.1.n, .int .u8 rr.1.st, .string rr.1.t] 37 (0, 0))).mono hb7.size)
    replace HB4 := Lib.hid (HB4.out.keep hbb)
    replace HX4 := Lib.hid ((hbb.block _ (blk_lt HX4.out)).trans HX4.out)
    replace HY4 := Lib.hid ((hbb.block _ (blk_lt HY4.out)).trans HY4.out)
    replace HV6 := Lib.hid ((hbb.block _ (blk_lt HV6.out)).trans HV6.out)
    replace HVX := Lib.hid (HVX.out.keep hbb)
    replace HVY := Lib.hid (HVY.out.keep hbb)
    have HV7 := Lib.hid (heap_alloc_new w7 (.cells #[.int .u64 rr.1.n, .int .u8 rr.1.st, .string rr.1.t] 37 (0, 0)))
    clear hb7 hbb HRR k0 k1 kl hkk
    go_upto_region 6 with fail
    generalize w7.alloc (.cells #[.int .u64 rr.1.n, .int .u8 rr.1.st, .string rr.1.t] 37 (0, 0)) = W7 at *
    generalize w7.heap.size = b13 at *
    have HVC := Lib.hid (H.out.keep HB4.out.own.below)
    have HBW := Lib.hid (Own.refl W7).drew
    have HK : Hid (∀ wz, Below W7.heap.size W7 wz → wz.cell? ⟨w.heap.size, 0, none⟩ = some (.int .u64 c.last) ∧ wz.cell? ⟨w.heap.size, 1, none⟩ = some (.slice a c.l.length cap) ∧ wz.cell? ⟨b7, 0, none⟩ = some (.int .u64 rl) ∧ wz.cell? ⟨b7, 1, none⟩ = some (.slice sx rv.length cx) ∧ wz.cell? ⟨b8, 0, none⟩ = some (.int .u64 rl) ∧ wz.cell? ⟨b8, 1, none⟩ = some (.slice sy rv.length cy) ∧ wz.cell? ⟨b11, 0, none⟩ = some (.int .u64 rr.1.n) ∧ wz.cell? ⟨b11, 1, none⟩ = some (.int .u8 rr.1.st) ∧ wz.cell? ⟨b11, 2, none⟩ = some (.string rr.1.t) ∧ wz.cell? ⟨b13, 0, none⟩ = some (.int .u64 rr.1.n) ∧ wz.cell? ⟨b13, 1, none⟩ = some (.int .u8 rr.1.st) ∧ wz.cell? ⟨b13, 2, none⟩ = some (.string rr.1.t)) := Lib.hid fun wz hb => by
      have g3 := cell_cells ((hb.block _ (blk_lt HB4.out.b0)).trans HB4.out.b0)
      have g7 := cell_cells ((hb.block _ (blk_lt HX4.out)).trans HX4.out)
      have g8 := cell_cells ((hb.block _ (blk_lt HY4.out)).trans HY4.out)
      have g11 := ver_cells ((hb.block _ (blk_lt HV6.out)).trans HV6.out)
      have g13 := ver_cells ((hb.block _ (blk_lt HV7.out)).trans HV7.out)
      exact ⟨g3.1, g3.2, g7.1, g7.2, g8.1, g8.2, g11.1, g11.2.1, g11.2.2, g13.1, g13.2.1, g13.2.2⟩
    have HOW := Lib.hid HB4.out.own
    have hS := HK.out _ HBW.out.below
    have hsr := sameC_refl ⟨rl, rv⟩
    have HSXY : Hid (∀ wz : World, VersAt wz sx rv → VersAt wz sy rv → Calls Try.prog 20 #[.agg #[.int .u64 rl, .slice sx rv.length cx], .agg #[.int .u64 rl, .slice sy rv.length cy]] wz fun e w' => e = .returned (.bool (sameC ⟨rl, rv⟩ ⟨rl, rv⟩)) ∧ Below wz.heap.size wz w') := Lib.hid fun wz h1 h2 => same_any wz ⟨rl, rv⟩ ⟨rl, rv⟩ sx sy cx cy h1 h2 HRV.out HRV.out
    have HSCX : Hid (∀ (wz : World) (sq : Option Addr) (cq : Nat), VersAt wz sq c.l → VersAt wz sx rv → Calls Try.prog 20 #[.agg #[.int .u64 c.last, .slice sq c.l.length cq], .agg #[.int .u64 rl, .slice sx rv.length cx]] wz fun e w' => e = .returned (.bool (sameC c ⟨rl, rv⟩)) ∧ Below wz.heap.size wz w') := Lib.hid fun wz sq cq h1 h2 => same_any wz c ⟨rl, rv⟩ sq sx cq cx h1 h2 HH.out.1 HRV.out
    clear HX4 HY4 HV6 HV7 HB4 H
    go_region_held3 (fun w' => w'.cell? ⟨w.heap.size, 0, none⟩ = some (.int .u64 c.last) ∧ w'.cell? ⟨w.heap.size, 1, none⟩ = some (.slice a c.l.length cap) ∧ w'.cell? ⟨b7, 0, none⟩ = some (.int .u64 rl) ∧ w'.cell? ⟨b7, 1, none⟩ = some (.slice sx rv.length cx) ∧ w'.cell? ⟨b8, 0, none⟩ = some (.int .u64 rl) ∧ w'.cell? ⟨b8, 1, none⟩ = some (.slice sy rv.length cy) ∧ w'.cell? ⟨b11, 0, none⟩ = some (.int .u64 rr.1.n) ∧ w'.cell? ⟨b11, 1, none⟩ = some (.int .u8 rr.1.st) ∧ w'.cell? ⟨b11, 2, none⟩ = some (.string rr.1.t) ∧ w'.cell? ⟨b13, 0, none⟩ = some (.int .u64 rr.1.n) ∧ w'.cell? ⟨b13, 1, none⟩ = some (.int .u8 rr.1.st) ∧ w'.cell? ⟨b13, 2, none⟩ = some (.string rr.1.t))
      (first | exact hS | assumption)
      (first
      | (go_at_call 11
         (with_reducible refine (rsame_any _ rl rl sx sy cx cy rv rv (HVX.out.keep HBW.out.below) (HVY.out.keep HBW.out.below) HRV.out HRV.out).mono ?_)
         rintro e wz ⟨rfl, hb⟩
         replace HBW := Lib.hid (HBW.out.trans hb)
         have hS := HK.out _ HBW.out.below
         clear hb)
      | (go_at_call 11
         (with_reducible refine (rsame_any _ c.last rl a sy cap cy c.l rv (HVC.out.keep HBW.out.below) (HVY.out.keep HBW.out.below) HH.out.1 HRV.out).mono ?_)
         rintro e wz ⟨rfl, hb⟩
         replace HBW := Lib.hid (HBW.out.trans hb)
         have hS := HK.out _ HBW.out.below
         clear hb)
      | (go_at_call 20
         (with_reducible refine (HSXY.out _ (HVX.out.keep HBW.out.below) (HVY.out.keep HBW.out.below)).mono ?_)
         rintro e wz ⟨rfl, hb⟩
         replace HBW := Lib.hid (HBW.out.trans hb)
         have hS := HK.out _ HBW.out.below
         clear hb)
      | (go_at_call 20
         (with_reducible refine (HSCX.out _ sq cq HCP.out (HVX.out.keep HBW.out.below)).mono ?_)
         rintro e wz ⟨rfl, hb⟩
         replace HBW := Lib.hid (HBW.out.trans hb)
         have hS := HK.out _ HBW.out.below
         clear hb)
      | (go_at_call 9
         refine (copied_any _ c a cap (HVC.out.keep HBW.out.below) HH.out.1 HNIL.out).mono ?_
         rintro e wz ⟨sq, cq, rfl, hf⟩
         have HCP := Lib.hid hf.vers
         replace HBW := Lib.hid (HBW.out.trans hf.own.below)
         have hS := HK.out _ HBW.out.below
         clear hf)
      | (go_at_call 14
         refine (may_any _ c sq cq HCP.out HOK.out HLAST.out (Nat.le_trans HH.out.1 (by decide))).mono ?_
         rintro e wz ⟨rfl, hb⟩
         replace HBW := Lib.hid (HBW.out.trans hb)
         have hS := HK.out _ HBW.out.below
         clear hb)
      | (go_at_call 15
         refine (rmay_any _ c a cap (HVC.out.keep HBW.out.below) HOK.out HLAST.out (Nat.le_trans HH.out.1 (by decide))).mono ?_
         rintro e wz ⟨rfl, hb⟩
         replace HBW := Lib.hid (HBW.out.trans hb)
         have hS := HK.out _ HBW.out.below
         clear hb)
      | (go_at_call 16
         refine (now_any _ c sq cq HCP.out HH.out.1).mono ?_
         rintro e wz ⟨rfl, hb⟩
         replace HBW := Lib.hid (HBW.out.trans hb)
         have hS := HK.out _ HBW.out.below
         clear hb)
      | (go_at_call 17
         refine (rnow_any _ c a cap (HVC.out.keep HBW.out.below) HH.out.1).mono ?_
         rintro e wz ⟨rfl, hb⟩
         replace HBW := Lib.hid (HBW.out.trans hb)
         have hS := HK.out _ HBW.out.below
         clear hb)
      | (go_at_call 18
         refine (size_any _ c sq cq HCP.out HOK.out HH.out.1).mono ?_
         rintro e wz ⟨rfl, hb⟩
         replace HBW := Lib.hid (HBW.out.trans hb)
         have hS := HK.out _ HBW.out.below
         clear hb)
      | (go_at_call 19
         refine (rsize_any _ c a cap (HVC.out.keep HBW.out.below) HOK.out HH.out.1).mono ?_
         rintro e wz ⟨rfl, hb⟩
         replace HBW := Lib.hid (HBW.out.trans hb)
         have hS := HK.out _ HBW.out.below
         clear hb)
      | (go_at_call 8
         refine (works_any _).mono ?_
         rintro e wz ⟨rfl, hb⟩
         replace HBW := Lib.hid (HBW.out.trans hb)
         have hS := HK.out _ HBW.out.below
         clear hb)
      )
    go_wp2_with fail
    go_ret
    exact ⟨by first | rfl | simp, (HOW.out.trans HBW.out.below).below⟩

end Go.Proofs.Ytigbjmhlcacijaa
