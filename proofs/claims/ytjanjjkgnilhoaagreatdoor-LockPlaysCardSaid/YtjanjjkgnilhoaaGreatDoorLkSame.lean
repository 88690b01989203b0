/-
  THE WALK of SameHeld, at two rows that hold the same.
-/
import Derived.Test.YtjanjjkgnilhoaaGreatDoorLkAll
namespace Go.Proofs.YtjanjjkgnilhoaaGreatDoor
open Go.RowKit Go.Maps

theorem tx_ne (x y : Tb.Tx) : decide (x ≠ y) = !(((x.life : Int) == y.life) && ((x.n : Int) == y.n)) := by
  obtain ⟨a, b⟩ := x
  obtain ⟨c, d⟩ := y
  rw [Bool.eq_iff_iff]
  simp only [decide_eq_true_eq, ne_eq, Tb.Tx.mk.injEq, Bool.not_eq_true', Bool.and_eq_false_iff, beq_eq_false_iff_ne]
  omega
/-- '!=' and '==' of two transactions' numbers. -/
theorem run_neqT (x y : Tb.Tx) (W : World) : (binOp .neq 35 (.agg #[.int .u64 x.life, .int .u64 x.n]) (.agg #[.int .u64 y.life, .int .u64 y.n])).run Tryz.prog W = .ok (.bool (decide (x ≠ y))) W := by
  rw [tx_ne]
  go_simp
  by_cases h1 : (x.life : Int) = y.life <;> by_cases h2 : (x.n : Int) = y.n <;> simp [h1, h2]
theorem run_eqT (x y : Tb.Tx) (W : World) : (binOp .eql 35 (.agg #[.int .u64 x.life, .int .u64 x.n]) (.agg #[.int .u64 y.life, .int .u64 y.n])).run Tryz.prog W = .ok (.bool (decide (x = y))) W := by
  have e : decide (x = y) = !decide (x ≠ y) := by by_cases h : x = y <;> simp [h]
  rw [e, tx_ne, Bool.not_not]
  go_simp
  by_cases h1 : (x.life : Int) = y.life <;> by_cases h2 : (x.n : Int) = y.n <;> simp [h1, h2]
theorem run_neq_lo (e : Tb.Tx × LV) (W : World) : (binOp .neq 59 (.agg #[.int .u64 e.1.life, .int .u64 e.1.n, .int .u8 e.2.kind, .string e.2.p, .int .u64 e.2.frm, .int .u64 e.2.top]) (.agg #[.int .u64 e.1.life, .int .u64 e.1.n, .int .u8 e.2.kind, .string e.2.p, .int .u64 e.2.frm, .int .u64 e.2.top])).run Tryz.prog W = .ok (.bool false) W := by
  go_simp

set_option maxRecDepth 20000 in
set_option maxHeartbeats 4000000 in
theorem sameHeld_any (a b : Option Addr) (ca cb : Nat) (l : List (Tb.Tx × LV)) (w : World) (ha : RowIs w 6 a (l.map ecells)) (hb : RowIs w 6 b (l.map ecells)) (hl : l.length ≤ 100000) :
    Calls Tryz.prog 14 #[.slice a l.length ca, .slice b l.length cb] w fun e w' => e = .returned (.bool true) ∧ Below w.heap.size w w' := by
  have HA := Lib.hid ha
  have HB := Lib.hid hb
  have hlI : (0 : Int) ≤ l.length ∧ (l.length : Int) ≤ 100000 := by omega
  clear ha hb hl
  go_enter Tryz.func14, Tryz.ntmps14
  go_wp2_with fail
  go_loopw [5] (fun vi wr => ∃ i : Nat, i ≤ l.length ∧ vi = .int .i64 i ∧ Own w.heap.size w wr) (fun vi _ => l.length - (intOf vi).toNat)
  case atStart => exact ⟨0, Nat.zero_le _, rfl, Own.refl _⟩
  case round =>
    obtain ⟨i, hi, rfl, hO⟩ := hrel
    have HO := Lib.hid hO
    clear hO
    by_cases hlt : i < l.length
    · obtain ⟨g, off, rfl, hc⟩ := HA.out.keep HO.out.drew.below i (by simpa using hlt)
      obtain ⟨g2, off2, rfl, hd⟩ := HB.out.keep HO.out.drew.below i (by simpa using hlt)
      have hiI : (0 : Int) ≤ i ∧ (i : Int) < l.length := by omega
      obtain ⟨y, hy⟩ : ∃ y, y = l[i]'hlt := ⟨_, rfl⟩
      have hce : (l.map ecells)[i]'(by simpa using hlt) = ecells y := by rw [List.getElem_map, hy]
      rw [hce] at hc hd
      have c0 : wr.drew.cell? ⟨g, off + i * 6, none⟩ = some (.int .u64 y.1.life) := hc.cell 0 (by simp [ecells])
      have c1 : wr.drew.cell? ⟨g, off + i * 6 + 1, none⟩ = some (.int .u64 y.1.n) := hc.cell 1 (by simp [ecells])
      have c2 : wr.drew.cell? ⟨g, off + i * 6 + 2, none⟩ = some (.int .u8 y.2.kind) := hc.cell 2 (by simp [ecells])
      have c3 : wr.drew.cell? ⟨g, off + i * 6 + 3, none⟩ = some (.string y.2.p) := hc.cell 3 (by simp [ecells])
      have c4 : wr.drew.cell? ⟨g, off + i * 6 + 4, none⟩ = some (.int .u64 y.2.frm) := hc.cell 4 (by simp [ecells])
      have c5 : wr.drew.cell? ⟨g, off + i * 6 + 5, none⟩ = some (.int .u64 y.2.top) := hc.cell 5 (by simp [ecells])
      have d0 : wr.drew.cell? ⟨g2, off2 + i * 6, none⟩ = some (.int .u64 y.1.life) := hd.cell 0 (by simp [ecells])
      have d1 : wr.drew.cell? ⟨g2, off2 + i * 6 + 1, none⟩ = some (.int .u64 y.1.n) := hd.cell 1 (by simp [ecells])
      have d2 : wr.drew.cell? ⟨g2, off2 + i * 6 + 2, none⟩ = some (.int .u8 y.2.kind) := hd.cell 2 (by simp [ecells])
      have d3 : wr.drew.cell? ⟨g2, off2 + i * 6 + 3, none⟩ = some (.string y.2.p) := hd.cell 3 (by simp [ecells])
      have d4 : wr.drew.cell? ⟨g2, off2 + i * 6 + 4, none⟩ = some (.int .u64 y.2.frm) := hd.cell 4 (by simp [ecells])
      have d5 : wr.drew.cell? ⟨g2, off2 + i * 6 + 5, none⟩ = some (.int .u64 y.2.top) := hd.cell 5 (by simp [ecells])
      have hrun := run_neq_lo y
      clear hce hc hd hy
      go_wp2_with fail
      go_region
      clear c0 c1 c2 c3 c4 c5 d0 d1 d2 d3 d4 d5 hrun
      go_wp2_with fail
      go_roundw
      case rel => exact ⟨i + 1, by omega, by go_num, HO.out.drew⟩
      case measure => simp [intOf]; omega
    · obtain rfl : i = l.length := by omega
      go_wp2_with fail
      go_ret
      exact ⟨rfl, HO.out.below⟩

end Go.Proofs.YtjanjjkgnilhoaaGreatDoor
