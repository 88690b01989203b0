/-
  THE WALKS of the answer's locks: Held, has, Before.
-/
import Derived.Test.YtjanjjkgnilhoaaGreatDoorLkRf
namespace Go.Proofs.YtjanjjkgnilhoaaGreatDoor
open Go.RowKit Go.Maps

theorem row_take_le (X : Lh.St) (t : Tb.Tx) (i : Nat) : (Lh.row (X.take i) t).length ≤ X.length := by
  have := Lh.drop_length (X.take i) t
  have h : (X.take i).length ≤ X.length := by simp; omega
  omega

attribute [local go_sem ↓ high] appSem_eq
set_option maxRecDepth 20000 in
set_option maxHeartbeats 4000000 in
theorem rheld_any {w : World} {p : Nat} {X : Lh.St} (h : RfAt w p X) (hX : X.length ≤ 4096) (t : Tb.Tx) :
    Calls Tryz.prog 13 #[.pointer (some ⟨p, 0, none⟩), .agg #[.int .u64 t.life, .int .u64 t.n]] w fun e w' => (∃ s cap, e = .returned (.slice s (Lh.row X t).length cap) ∧ RowIs w' 4 s ((Lh.row X t).map LV.cells)) ∧ Below w.heap.size w w' := by
  obtain ⟨w0, hw0⟩ : ∃ w0, w0 = w.alloc (.cells #[.int .u64 t.life, .int .u64 t.n] 35 (0, 0)) := ⟨_, rfl⟩
  have hb0 : Own w.heap.size w w0 := by rw [hw0]; exact (Own.refl w).alloc _
  have hx0 : w0.heap[w.heap.size]? = some (.cells #[.int .u64 t.life, .int .u64 t.n] 35 (0, 0)) := by rw [hw0]; exact heap_alloc_new w _
  have HR0 := Lib.hid (h.keep hb0.below)
  have HX0 := Lib.hid hx0
  have HB0 := Lib.hid hb0
  have hXI : (0 : Int) ≤ X.length ∧ (X.length : Int) ≤ 4096 := by omega
  clear h hb0 hx0 hX
  go_enter Tryz.func13, Tryz.ntmps13
  go_wp2_with fail
  rw [← hw0]
  clear hw0
  obtain ⟨s, cap, hbx, hrow⟩ := HR0.out.row
  have HBX := Lib.hid hbx
  have HROW := Lib.hid hrow
  clear hbx hrow
  go_loopw [6, 5] (fun vi vl wr => ∃ (i : Nat) (s2 : Option Addr) (c2 : Nat), i ≤ X.length ∧ vi = .int .i64 i ∧ vl = .slice s2 (Lh.row (X.take i) t).length c2 ∧ OL w0 wr 25 4 s2 c2 ((Lh.row (X.take i) t).map LV.cells) ∧ Own w0.heap.size w0 wr) (fun vi _ _ => X.length - (intOf vi).toNat)
  case atStart => exact ⟨0, none, 0, Nat.zero_le _, rfl, rfl, OL.nil _ _ _ _, Own.refl _⟩
  case round =>
    obtain ⟨i, s2, c2, hi, rfl, rfl, hOL, hO⟩ := hrel
    have HOL := Lib.hid hOL
    have HO := Lib.hid hO
    clear hOL hO
    have hbx := (HO.out.below.block _ (blk_lt HBX.out)).trans HBX.out
    have e0 : wr.cell? ⟨p, 0, none⟩ = some (.slice s X.length cap) := by rw [cell_of_row _ _ _ _ _ _ hbx]; rfl
    by_cases hlt : i < X.length
    · obtain ⟨g, off, rfl, c0, c1, c2', c3, c4, c5⟩ := row_cells (HROW.out.keep HO.out.drew.below) i hlt
      have hiI : (0 : Int) ≤ i ∧ (i : Int) < X.length := by omega
      have HDS := Lib.hid (row_take_succ (t := t) hlt)
      have hdl := row_take_le X t i
      obtain ⟨y, hy⟩ : ∃ y, y = X[i]'hlt := ⟨_, rfl⟩
      rw [← hy] at c0 c1 c2' c3 c4 c5
      have HY := Lib.hid hy
      have hbx1 := (HO.out.drew.below.block _ (blk_lt HBX.out)).trans HBX.out
      have hbt1 := (HO.out.drew.below.block _ (blk_lt HX0.out)).trans HX0.out
      have e1 : wr.drew.cell? ⟨p, 0, none⟩ = some (.slice (some ⟨g, off, none⟩) X.length cap) := by rw [cell_of_row _ _ _ _ _ _ hbx1]; rfl
      have e2 : wr.drew.cell? ⟨w.heap.size, 0, none⟩ = some (.int .u64 t.life) := by rw [cell_of_row _ _ _ _ _ _ hbt1]; rfl
      have e3 : wr.drew.cell? ⟨w.heap.size, 1, none⟩ = some (.int .u64 t.n) := by rw [cell_of_row _ _ _ _ _ _ hbt1]; rfl
      have hrun := run_eqT y.1 t
      clear hy hbx hbx1 hbt1
      by_cases het : y.1 = t
      · rw [show decide (y.1 = t) = true by simp [het]] at hrun
        have hds := HDS.out
        rw [if_pos (by rw [← HY.out]; exact het), ← HY.out] at hds
        have HD2 := Lib.hid hds
        obtain ⟨s', cap2, W2, hrun2, hOL2, hO2, _⟩ := lk_push HO.out.drew (HOL.out.keep (Own.refl wr).drew.below) y.2 (by omega)
        have hrun3 : (appSem #[36, 36] 36 #[.slice s2 (Lh.row (X.take i) t).length c2, .slice (some ⟨wr.heap.size, 0, none⟩) 1 1]).run Tryz.prog ((wr.alloc (.cells #[.int .u8 y.2.kind, .string y.2.p, .int .u64 y.2.frm, .int .u64 y.2.top] 25 (0, 0))).drew) = .ok (.slice s' ((Lh.row (X.take i) t).length + 1) cap2) W2 := hrun2
        have HOL2 := Lib.hid hOL2
        have HO2 := Lib.hid hO2
        clear hds het HDS hOL2 hO2 hrun2
        go_wp2_with fail
        go_region
        clear hrun
        go_wp2_with fail
        go_roundw
        case rel => exact ⟨i + 1, s', cap2, by omega, by go_num, by rw [HD2.out]; simp, by rw [HD2.out]; exact HOL2.out, HO2.out⟩
        case measure => simp [intOf]; omega
      · rw [show decide (y.1 = t) = false by simp [het]] at hrun
        have hds := HDS.out
        rw [if_neg (by rw [← HY.out]; exact het)] at hds
        have HD2 := Lib.hid hds
        clear hds het HDS
        go_wp2_with fail
        go_region
        clear hrun c0 c1 c2' c3 c4 c5 e0 e1 e2 e3
        go_wp2_with fail
        go_roundw
        case rel => exact ⟨i + 1, s2, c2, by omega, by go_num, by rw [HD2.out], by rw [HD2.out]; exact HOL.out.keep (Own.refl wr).drew.below, HO.out.drew⟩
        case measure => simp [intOf]; omega
    · obtain rfl : i = X.length := by omega
      have hol := HOL.out
      rw [List.take_length] at hol
      have HOL2 := Lib.hid hol
      clear hol hbx HOL
      simp only [List.take_length]
      go_wp2_with fail
      go_ret
      exact ⟨⟨s2, c2, rfl, HOL2.out.row⟩, HB0.out.below.trans (HO.out.below.mono HB0.out.size)⟩

theorem lo_eq (x y : Tb.Tx × LV) : decide (x = y) = ((((x.1.life : Int) == y.1.life) && ((x.1.n : Int) == y.1.n)) && ((((x.2.kind : Int) == y.2.kind) && (x.2.p.toList == y.2.p.toList)) && ((x.2.frm : Int) == y.2.frm) && ((x.2.top : Int) == y.2.top))) := by
  rw [← lock_eq]
  obtain ⟨⟨a, b⟩, x2⟩ := x
  obtain ⟨⟨c, d⟩, y2⟩ := y
  rw [Bool.eq_iff_iff]
  simp only [Prod.mk.injEq, Tb.Tx.mk.injEq, decide_eq_true_eq, Bool.and_eq_true, beq_iff_eq]
  constructor
  · rintro ⟨⟨h1, h2⟩, h3⟩; exact ⟨⟨by omega, by omega⟩, h3⟩
  · rintro ⟨⟨h1, h2⟩, h3⟩; exact ⟨⟨by omega, by omega⟩, h3⟩
/-- '==' of two held locks. -/
theorem run_eqE (x y : Tb.Tx × LV) (W : World) : (binOp .eql 59 (.agg #[.int .u64 x.1.life, .int .u64 x.1.n, .int .u8 x.2.kind, .string x.2.p, .int .u64 x.2.frm, .int .u64 x.2.top]) (.agg #[.int .u64 y.1.life, .int .u64 y.1.n, .int .u8 y.2.kind, .string y.2.p, .int .u64 y.2.frm, .int .u64 y.2.top])).run Tryz.prog W = .ok (.bool (decide (x = y))) W := by
  rw [lo_eq]
  go_simp
  by_cases h0 : (x.1.life : Int) = y.1.life <;> by_cases h00 : (x.1.n : Int) = y.1.n <;> by_cases h1 : (x.2.kind : Int) = y.2.kind <;> by_cases h2 : x.2.p.toList = y.2.p.toList <;> by_cases h3 : (x.2.frm : Int) = y.2.frm <;> by_cases h4 : (x.2.top : Int) = y.2.top <;> simp [h0, h00, h1, h2, h3, h4]

set_option maxRecDepth 20000 in
set_option maxHeartbeats 4000000 in
theorem rhas_any {w : World} {p : Nat} {X : Lh.St} (h : RfAt w p X) (hX : X.length ≤ 10000) (t : Tb.Tx) (y : LV) :
    Calls Tryz.prog 30 #[.pointer (some ⟨p, 0, none⟩), .agg #[.int .u64 t.life, .int .u64 t.n], .agg #[.int .u8 y.kind, .string y.p, .int .u64 y.frm, .int .u64 y.top]] w fun e w' => e = .returned (.bool (decide ((t, y) ∈ X))) ∧ Below w.heap.size w w' := by
  obtain ⟨w0, hw0⟩ : ∃ w0, w0 = (w.alloc (.cells #[.int .u64 t.life, .int .u64 t.n] 35 (0, 0))).alloc (.cells #[.int .u8 y.kind, .string y.p, .int .u64 y.frm, .int .u64 y.top] 25 (0, 0)) := ⟨_, rfl⟩
  have hb0 : Own w.heap.size w w0 := by rw [hw0]; exact ((Own.refl w).alloc _).alloc _
  obtain ⟨hx0, hx1⟩ := box2 (w := w) (w1 := w0) (o1 := .cells #[.int .u64 t.life, .int .u64 t.n] 35 (0, 0)) (o2 := .cells #[.int .u8 y.kind, .string y.p, .int .u64 y.frm, .int .u64 y.top] 25 (0, 0)) (by rw [hw0]; exact Below.refl _ _)
  have HR0 := Lib.hid (h.keep hb0.below)
  have HX0 := Lib.hid hx0
  have HX1 := Lib.hid hx1
  have HB0 := Lib.hid hb0
  have hXI : (0 : Int) ≤ X.length ∧ (X.length : Int) ≤ 10000 := by omega
  obtain ⟨R, hR⟩ : ∃ R, R = decide ((t, y) ∈ X) := ⟨_, rfl⟩
  rw [← hR]
  have HR := Lib.hid hR
  clear h hb0 hx0 hx1 hX hR
  go_enter Tryz.func30, Tryz.ntmps30
  go_wp2_with fail
  rw [← hw0]
  clear hw0
  obtain ⟨s, cap, hbx, hrow⟩ := HR0.out.row
  have HBX := Lib.hid hbx
  have HROW := Lib.hid hrow
  clear hbx hrow
  go_loopw [7] (fun vi wr => ∃ i : Nat, i ≤ X.length ∧ vi = .int .i64 i ∧ (∀ k (hk : k < X.length), k < i → X[k] ≠ (t, y)) ∧ Own w0.heap.size w0 wr) (fun vi _ => X.length - (intOf vi).toNat)
  case atStart => exact ⟨0, Nat.zero_le _, rfl, fun k _ h => by omega, Own.refl _⟩
  case round =>
    obtain ⟨i, hi, rfl, hk, hO⟩ := hrel
    have HK := Lib.hid hk
    have HO := Lib.hid hO
    clear hk hO
    have hbx := (HO.out.below.block _ (blk_lt HBX.out)).trans HBX.out
    have e0 : wr.cell? ⟨p, 0, none⟩ = some (.slice s X.length cap) := by rw [cell_of_row _ _ _ _ _ _ hbx]; rfl
    by_cases hlt : i < X.length
    · obtain ⟨g, off, rfl, c0, c1, c2', c3, c4, c5⟩ := row_cells (HROW.out.keep HO.out.drew.below) i hlt
      have hiI : (0 : Int) ≤ i ∧ (i : Int) < X.length := by omega
      obtain ⟨z, hz⟩ : ∃ z, z = X[i]'hlt := ⟨_, rfl⟩
      rw [← hz] at c0 c1 c2' c3 c4 c5
      have HZ := Lib.hid hz
      have hbx1 := (HO.out.drew.below.block _ (blk_lt HBX.out)).trans HBX.out
      have hbt1 := (HO.out.drew.below.block _ (blk_lt HX0.out)).trans HX0.out
      have hby1 := (HO.out.drew.below.block _ (blk_lt HX1.out)).trans HX1.out
      have e1 : wr.drew.cell? ⟨p, 0, none⟩ = some (.slice (some ⟨g, off, none⟩) X.length cap) := by rw [cell_of_row _ _ _ _ _ _ hbx1]; rfl
      have e2 : wr.drew.cell? ⟨w.heap.size, 0, none⟩ = some (.int .u64 t.life) := by rw [cell_of_row _ _ _ _ _ _ hbt1]; rfl
      have e3 : wr.drew.cell? ⟨w.heap.size, 1, none⟩ = some (.int .u64 t.n) := by rw [cell_of_row _ _ _ _ _ _ hbt1]; rfl
      obtain ⟨y0, y1, y2, y3⟩ := lock_box hby1
      have hrun := run_eqE z (t, y)
      have HLT := Lib.hid hlt
      clear hz hbx hbx1 hbt1 hby1
      by_cases het : z = (t, y)
      · rw [show decide (z = (t, y)) = true by simp [het]] at hrun
        have HT : Hid (R = true) := Lib.hid (by rw [HR.out, ← het, HZ.out]; exact decide_eq_true (List.getElem_mem _))
        clear het
        go_wp2_with fail
        go_region
        clear hrun c0 c1 c2' c3 c4 c5 e0 e1 e2 e3 y0 y1 y2 y3
        go_wp2_with fail
        go_ret
        exact ⟨by rw [HT.out]; rfl, HB0.out.below.trans (HO.out.drew.below.mono HB0.out.size)⟩
      · rw [show decide (z = (t, y)) = false by simp [het]] at hrun
        have HNE := Lib.hid het
        clear het
        go_wp2_with fail
        go_region
        clear hrun c0 c1 c2' c3 c4 c5 e0 e1 e2 e3 y0 y1 y2 y3
        go_wp2_with fail
        go_roundw
        case rel =>
          refine ⟨i + 1, by omega, by go_num, fun k h hk => ?_, HO.out.drew⟩
          by_cases e : k = i
          · subst e; rw [← HZ.out]; exact HNE.out
          · exact HK.out k h (by omega)
        case measure => simp [intOf]; omega
    · obtain rfl : i = X.length := by omega
      have HT : Hid (R = false) := Lib.hid (by
        rw [HR.out]
        refine decide_eq_false fun hm => ?_
        obtain ⟨k, hk, e⟩ := List.getElem_of_mem hm
        exact HK.out k hk hk e)
      clear hbx
      go_wp2_with fail
      go_ret
      exact ⟨by rw [HT.out]; rfl, HB0.out.below.trans (HO.out.below.mono HB0.out.size)⟩

set_option maxRecDepth 20000 in
set_option maxHeartbeats 1000000 in
theorem before_any (x y : Tb.Tx) (w : World) : Calls Tryz.prog 34 #[.agg #[.int .u64 x.life, .int .u64 x.n], .agg #[.int .u64 y.life, .int .u64 y.n]] w fun e w' => e = .returned (.bool (Tb.lt x y)) ∧ Below w.heap.size w w' := by
  obtain ⟨a, b⟩ := x
  obtain ⟨c, d⟩ := y
  obtain ⟨R, hR⟩ : ∃ R, R = Tb.lt ⟨a, b⟩ ⟨c, d⟩ := ⟨_, rfl⟩
  rw [← hR]
  have HB := Lib.hid (((Own.refl w).alloc (.cells #[.int .u64 a, .int .u64 b] 35 (0, 0))).alloc (.cells #[.int .u64 c, .int .u64 d] 35 (0, 0)))
  obtain ⟨hx0, hx1⟩ := box2 (w := w) (o1 := .cells #[.int .u64 a, .int .u64 b] 35 (0, 0)) (o2 := .cells #[.int .u64 c, .int .u64 d] 35 (0, 0)) (Below.refl _ _)
  by_cases h1 : a < c
  · have h1I : (a : Int) < c := by omega
    have HT : Hid (R = true) := Lib.hid (by rw [hR]; simp [Tb.lt, h1])
    clear h1 hR hx0 hx1
    go_enter Tryz.func34, Tryz.ntmps34
    go_wp2_with fail
    go_ret
    exact ⟨by rw [HT.out]; rfl, HB.out.below⟩
  · have h1I : ¬ (a : Int) < c := by omega
    by_cases h2 : a = c
    · have HT : Hid (R = decide (b < d)) := Lib.hid (by rw [hR]; simp [Tb.lt, h2])
      subst h2
      by_cases h3 : b < d
      · have h3I : (b : Int) < d := by omega
        have HT2 : Hid (R = true) := Lib.hid (by rw [HT.out]; exact decide_eq_true h3)
        clear h1 hR hx0 hx1 h3
        go_enter Tryz.func34, Tryz.ntmps34
        go_wp2_with fail
        go_ret
        exact ⟨by rw [HT2.out]; rfl, HB.out.below⟩
      · have h3I : ¬ (b : Int) < d := by omega
        have HT2 : Hid (R = false) := Lib.hid (by rw [HT.out]; exact decide_eq_false h3)
        clear h1 hR hx0 hx1 h3
        go_enter Tryz.func34, Tryz.ntmps34
        go_wp2_with fail
        go_ret
        exact ⟨by rw [HT2.out]; rfl, HB.out.below⟩
    · have h2I : ¬ (a : Int) = c := by omega
      have HT : Hid (R = false) := Lib.hid (by rw [hR]; simp [Tb.lt, h1, h2])
      clear h1 h2 hR hx0 hx1
      go_enter Tryz.func34, Tryz.ntmps34
      go_wp2_with fail
      go_ret
      exact ⟨by rw [HT.out]; rfl, HB.out.below⟩

end Go.Proofs.YtjanjjkgnilhoaaGreatDoor
