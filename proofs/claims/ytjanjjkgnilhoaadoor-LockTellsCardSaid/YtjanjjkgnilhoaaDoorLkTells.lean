/-
  LockTells: the walk of the law.
-/
import Derived.Test.YtjanjjkgnilhoaaDoorLkAlive
namespace Go.Proofs.YtjanjjkgnilhoaaDoor
open Go.RowKit Go.Maps

/-- Two boxes. -/
structure BxAt (w : World) (x y : LV) (W : World) : Prop where
  own : Own w.heap.size w W
  lay : Lay w
  b0 : W.heap[w.heap.size]? = some (.cells #[.int .u8 x.kind, .string x.p, .int .u64 x.frm, .int .u64 x.top] 24 (0, 0))
  b1 : W.heap[w.heap.size + 1]? = some (.cells #[.int .u8 y.kind, .string y.p, .int .u64 y.frm, .int .u64 y.top] 24 (0, 0))
theorem BxAt.keep {w W W' : World} {x y : LV} (h : BxAt w x y W) (hb : Below W.heap.size W W') : BxAt w x y W' := ⟨h.own.trans hb, h.lay, (hb.block _ (blk_lt h.b0)).trans h.b0, (hb.block _ (blk_lt h.b1)).trans h.b1⟩
theorem BxAt.laid {w W : World} {x y : LV} (h : BxAt w x y W) : Lay W := h.lay.keep h.own.below
theorem BxAt.cells {w W : World} {x y : LV} (h : BxAt w x y W) :
    W.cell? ⟨w.heap.size, 0, none⟩ = some (.int .u8 x.kind) ∧ W.cell? ⟨w.heap.size, 1, none⟩ = some (.string x.p) ∧ W.cell? ⟨w.heap.size, 2, none⟩ = some (.int .u64 x.frm) ∧ W.cell? ⟨w.heap.size, 3, none⟩ = some (.int .u64 x.top) ∧
    W.cell? ⟨w.heap.size + 1, 0, none⟩ = some (.int .u8 y.kind) ∧ W.cell? ⟨w.heap.size + 1, 1, none⟩ = some (.string y.p) ∧ W.cell? ⟨w.heap.size + 1, 2, none⟩ = some (.int .u64 y.frm) ∧ W.cell? ⟨w.heap.size + 1, 3, none⟩ = some (.int .u64 y.top) := by
  obtain ⟨_, _, b0, b1⟩ := h
  refine ⟨?_, ?_, ?_, ?_, ?_, ?_, ?_, ?_⟩
  all_goals first
    | (rw [cell_of_row _ _ _ _ _ _ b0]; rfl)
    | (rw [cell_of_row _ _ _ _ _ _ b1]; rfl)

set_option maxRecDepth 20000 in
set_option maxHeartbeats 8000000 in
theorem tells_any (x y : LV) (hx : okL x) (hy : okL y) (w : World) (hl : Lay w) (zx : x.p.size ≤ 140737488351232) (zy : y.p.size ≤ 140737488351232) :
    Calls Tryd.prog 3 #[x.val, y.val] w fun e w' => e = .returned (.bool true) ∧ Below w.heap.size w w' := by
  obtain ⟨W, hW⟩ : ∃ W, W = (w.alloc (.cells #[.int .u8 x.kind, .string x.p, .int .u64 x.frm, .int .u64 x.top] 24 (0, 0))).alloc (.cells #[.int .u8 y.kind, .string y.p, .int .u64 y.frm, .int .u64 y.top] 24 (0, 0)) := ⟨_, rfl⟩
  have hB : BxAt w x y W := by
    obtain ⟨h1, h2⟩ := box2 (w := w) (w1 := W) (o1 := .cells #[.int .u8 x.kind, .string x.p, .int .u64 x.frm, .int .u64 x.top] 24 (0, 0)) (o2 := .cells #[.int .u8 y.kind, .string y.p, .int .u64 y.frm, .int .u64 y.top] 24 (0, 0)) (by rw [hW]; exact Below.refl _ _)
    exact ⟨by rw [hW]; exact ((Own.refl w).alloc _).alloc _, hl, h1, h2⟩
  have HBX := Lib.hid hB
  have hcc := hB.cells
  obtain ⟨p0, p1, p2, p3, q0, q1, q2, q3⟩ := hcc
  have HAL := Lib.hid (fun wz (hz : BxAt w x y wz) => alive_any wz hz.laid)
  have HM := Lib.hid (fun wz (hz : BxAt w x y wz) => lmay_any x hx wz hz.laid)
  have HRM := Lib.hid (fun wz => rmay_any x hx wz)
  have HC := Lib.hid (fun wz (hz : BxAt w x y wz) => conf_any x y hx hy wz hz.laid)
  have HD : Hid (∀ wz, BxAt w x y wz → Calls Tryd.prog 10 #[y.val, x.val] wz fun e w' => e = .returned (.bool (Lk.conf x.l y.l)) ∧ Below wz.heap.size wz w') := Lib.hid (fun wz (hz : BxAt w x y wz) => by rw [Lk.conf_comm]; exact conf_any y x hy hx wz hz.laid)
  have HRC := Lib.hid (fun wz => rconf_any x y hx hy wz)
  obtain ⟨xk, xp, xf, xt⟩ := x
  obtain ⟨yk, yp, yf, yt⟩ := y
  dsimp only at zx zy
  have zxI : (0 : Int) ≤ xp.size ∧ (xp.size : Int) ≤ 140737488351232 := by omega
  have zyI : (0 : Int) ≤ yp.size ∧ (yp.size : Int) ≤ 140737488351232 := by omega
  clear hB hl hx hy zx zy
  generalize Lk.may (LV.l ⟨xk, xp, xf, xt⟩) = m at *
  generalize Lk.conf (LV.l ⟨xk, xp, xf, xt⟩) (LV.l ⟨yk, yp, yf, yt⟩) = c at *
  simp only [LV.val] at *
  go_enter Tryd.func3, Tryd.ntmps3
  by_cases hb1 : (300 : Int) < xp.size
  · go_wp2_with fail
    rw [← hW]
    clear hW
    refine (HAL.out _ HBX.out).mono ?_
    rintro e w2 ⟨rfl, hb⟩
    have HB2 := Lib.hid (HBX.out.own.below.trans (hb.mono HBX.out.own.size))
    clear hb p0 p1 p2 p3 q0 q1 q2 q3
    go_wp2_with fail
    go_ret
    exact ⟨rfl, HB2.out⟩
  · by_cases hb2 : (300 : Int) < yp.size
    · go_wp2_with fail
      rw [← hW]
      clear hW
      refine (HAL.out _ HBX.out).mono ?_
      rintro e w2 ⟨rfl, hb⟩
      have HB2 := Lib.hid (HBX.out.own.below.trans (hb.mono HBX.out.own.size))
      clear hb p0 p1 p2 p3 q0 q1 q2 q3
      go_wp2_with fail
      go_ret
      exact ⟨rfl, HB2.out⟩
    · have HBD := Lib.hid (HBX.out.keep (Own.refl W).drew.below)
      go_wp2_with fail
      rw [← hW]
      clear hW
      have hS := HBD.out.cells
      clear p0 p1 p2 p3 q0 q1 q2 q3 HBX
      go_region_held3 (fun wz => wz.cell? ⟨w.heap.size, 0, none⟩ = some (.int .u8 xk) ∧ wz.cell? ⟨w.heap.size, 1, none⟩ = some (.string xp) ∧ wz.cell? ⟨w.heap.size, 2, none⟩ = some (.int .u64 xf) ∧ wz.cell? ⟨w.heap.size, 3, none⟩ = some (.int .u64 xt) ∧
        wz.cell? ⟨w.heap.size + 1, 0, none⟩ = some (.int .u8 yk) ∧ wz.cell? ⟨w.heap.size + 1, 1, none⟩ = some (.string yp) ∧ wz.cell? ⟨w.heap.size + 1, 2, none⟩ = some (.int .u64 yf) ∧ wz.cell? ⟨w.heap.size + 1, 3, none⟩ = some (.int .u64 yt))
        (first | exact hS | assumption)
        (first
      | (go_at_call 8
         (with_reducible refine (HM.out _ HBD.out).mono ?_)
         rintro e wz ⟨rfl, hb⟩
         replace HBD := Lib.hid (HBD.out.keep hb)
         have hS := HBD.out.cells
         clear hb)
      | (go_at_call 9
         (with_reducible refine (HRM.out _).mono ?_)
         rintro e wz ⟨rfl, hb⟩
         replace HBD := Lib.hid (HBD.out.keep hb)
         have hS := HBD.out.cells
         clear hb)
      | (go_at_call 10
         (with_reducible refine (HC.out _ HBD.out).mono ?_)
         rintro e wz ⟨rfl, hb⟩
         replace HBD := Lib.hid (HBD.out.keep hb)
         have hS := HBD.out.cells
         clear hb)
      | (go_at_call 10
         (with_reducible refine (HD.out _ HBD.out).mono ?_)
         rintro e wz ⟨rfl, hb⟩
         replace HBD := Lib.hid (HBD.out.keep hb)
         have hS := HBD.out.cells
         clear hb)
      | (go_at_call 11
         (with_reducible refine (HRC.out _).mono ?_)
         rintro e wz ⟨rfl, hb⟩
         replace HBD := Lib.hid (HBD.out.keep hb)
         have hS := HBD.out.cells
         clear hb)
      | (go_at_call 7
         (with_reducible refine (HAL.out _ HBD.out).mono ?_)
         rintro e wz ⟨rfl, hb⟩
         replace HBD := Lib.hid (HBD.out.keep hb)
         have hS := HBD.out.cells
         clear hb))
      all_goals
        clear hS
        go_wp2_with fail
        go_ret
        exact ⟨rfl, HBD.out.own.below⟩

end Go.Proofs.YtjanjjkgnilhoaaDoor
