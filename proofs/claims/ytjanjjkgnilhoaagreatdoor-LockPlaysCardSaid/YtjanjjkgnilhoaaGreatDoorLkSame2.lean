/-
  THE WALKS of SameLocks and SameTx, at two rows that hold the same.
-/
import Derived.Test.YtjanjjkgnilhoaaGreatDoorLkRfWho
namespace Go.Proofs.YtjanjjkgnilhoaaGreatDoor
open Go.RowKit Go.Maps

theorem run_neq_lk (e : LV) (W : World) : (binOp .neq 25 (.agg #[.int .u8 e.kind, .string e.p, .int .u64 e.frm, .int .u64 e.top]) (.agg #[.int .u8 e.kind, .string e.p, .int .u64 e.frm, .int .u64 e.top])).run Tryz.prog W = .ok (.bool false) W := by
  go_simp
theorem run_neq_tx (e : Tb.Tx) (W : World) : (binOp .neq 35 (.agg #[.int .u64 e.life, .int .u64 e.n]) (.agg #[.int .u64 e.life, .int .u64 e.n])).run Tryz.prog W = .ok (.bool false) W := by
  go_simp

set_option maxRecDepth 20000 in
set_option maxHeartbeats 4000000 in
theorem sameLocks_any (a b : Option Addr) (ca cb : Nat) (l : List LV) (w : World) (ha : RowIs w 4 a (l.map LV.cells)) (hb : RowIs w 4 b (l.map LV.cells)) (hl : l.length ≤ 100000) :
    Calls Tryz.prog 11 #[.slice a l.length ca, .slice b l.length cb] w fun e w' => e = .returned (.bool true) ∧ Below w.heap.size w w' := by
  have HA := Lib.hid ha
  have HB := Lib.hid hb
  have hlI : (0 : Int) ≤ l.length ∧ (l.length : Int) ≤ 100000 := by omega
  clear ha hb hl
  go_enter Tryz.func11, Tryz.ntmps11
  go_wp2_with fail
  go_loopw [5] (fun vi wr => ∃ i : Nat, i ≤ l.length ∧ vi = .int .i64 i ∧ Own w.heap.size w wr) (fun vi _ => l.length - (intOf vi).toNat)
  case atStart => exact ⟨0, Nat.zero_le _, rfl, Own.refl _⟩
  case round =>
    obtain ⟨i, hi, rfl, hO⟩ := hrel
    have HO := Lib.hid hO
    clear hO
    by_cases hlt : i < l.length
    · obtain ⟨g, off, rfl, hc⟩ := HA.out.keep HO.out.drew.below i (by simpa using hlt)
      obtain ⟨g2, off2, rfl, hd⟩ := HB.out.keep HO.out.drew.below i (by simpa using hlt)
      have hiI : (0 : Int) ≤ i ∧ (i : Int) < l.length := by omega
      obtain ⟨y, hy⟩ : ∃ y, y = l[i]'hlt := ⟨_, rfl⟩
      have hce : (l.map LV.cells)[i]'(by simpa using hlt) = LV.cells y := by rw [List.getElem_map, hy]
      rw [hce] at hc hd
      have c0 : wr.drew.cell? ⟨g, off + i * 4, none⟩ = some (.int .u8 y.kind) := hc.cell 0 (by simp [LV.cells])
      have c1 : wr.drew.cell? ⟨g, off + i * 4 + 1, none⟩ = some (.string y.p) := hc.cell 1 (by simp [LV.cells])
      have c2 : wr.drew.cell? ⟨g, off + i * 4 + 2, none⟩ = some (.int .u64 y.frm) := hc.cell 2 (by simp [LV.cells])
      have c3 : wr.drew.cell? ⟨g, off + i * 4 + 3, none⟩ = some (.int .u64 y.top) := hc.cell 3 (by simp [LV.cells])
      have d0 : wr.drew.cell? ⟨g2, off2 + i * 4, none⟩ = some (.int .u8 y.kind) := hd.cell 0 (by simp [LV.cells])
      have d1 : wr.drew.cell? ⟨g2, off2 + i * 4 + 1, none⟩ = some (.string y.p) := hd.cell 1 (by simp [LV.cells])
      have d2 : wr.drew.cell? ⟨g2, off2 + i * 4 + 2, none⟩ = some (.int .u64 y.frm) := hd.cell 2 (by simp [LV.cells])
      have d3 : wr.drew.cell? ⟨g2, off2 + i * 4 + 3, none⟩ = some (.int .u64 y.top) := hd.cell 3 (by simp [LV.cells])
      have hrun := run_neq_lk y
      clear hce hc hd hy
      go_wp2_with fail
      go_region
      clear c0 c1 c2 c3 d0 d1 d2 d3 hrun
      go_wp2_with fail
      go_roundw
      case rel => exact ⟨i + 1, by omega, by go_num, HO.out.drew⟩
      case measure => simp [intOf]; omega
    · obtain rfl : i = l.length := by omega
      go_wp2_with fail
      go_ret
      exact ⟨rfl, HO.out.below⟩

set_option maxRecDepth 20000 in
set_option maxHeartbeats 4000000 in
theorem sameTx_any (a b : Option Addr) (ca cb : Nat) (l : List Tb.Tx) (w : World) (ha : RowIs w 2 a (l.map tcells)) (hb : RowIs w 2 b (l.map tcells)) (hl : l.length ≤ 100000) :
    Calls Tryz.prog 17 #[.slice a l.length ca, .slice b l.length cb] w fun e w' => e = .returned (.bool true) ∧ Below w.heap.size w w' := by
  have HA := Lib.hid ha
  have HB := Lib.hid hb
  have hlI : (0 : Int) ≤ l.length ∧ (l.length : Int) ≤ 100000 := by omega
  clear ha hb hl
  go_enter Tryz.func17, Tryz.ntmps17
  go_wp2_with fail
  go_loopw [5] (fun vi wr => ∃ i : Nat, i ≤ l.length ∧ vi = .int .i64 i ∧ Own w.heap.size w wr) (fun vi _ => l.length - (intOf vi).toNat)
  case atStart => exact ⟨0, Nat.zero_le _, rfl, Own.refl _⟩
  case round =>
    obtain ⟨i, hi, rfl, hO⟩ := hrel
    have HO := Lib.hid hO
    clear hO
    by_cases hlt : i < l.length
    · obtain ⟨g, off, rfl, hc⟩ := HA.out.keep HO.out.drew.below i (by simpa using hlt)
      obtain ⟨g2, off2, rfl, hd⟩ := HB.out.keep HO.out.drew.below i (by simpa using hlt)
      have hiI : (0 : Int) ≤ i ∧ (i : Int) < l.length := by omega
      obtain ⟨y, hy⟩ : ∃ y, y = l[i]'hlt := ⟨_, rfl⟩
      have hce : (l.map tcells)[i]'(by simpa using hlt) = tcells y := by rw [List.getElem_map, hy]
      rw [hce] at hc hd
      have c0 : wr.drew.cell? ⟨g, off + i * 2, none⟩ = some (.int .u64 y.life) := hc.cell 0 (by simp [tcells])
      have c1 : wr.drew.cell? ⟨g, off + i * 2 + 1, none⟩ = some (.int .u64 y.n) := hc.cell 1 (by simp [tcells])
      have d0 : wr.drew.cell? ⟨g2, off2 + i * 2, none⟩ = some (.int .u64 y.life) := hd.cell 0 (by simp [tcells])
      have d1 : wr.drew.cell? ⟨g2, off2 + i * 2 + 1, none⟩ = some (.int .u64 y.n) := hd.cell 1 (by simp [tcells])
      have hrun := run_neq_tx y
      clear hce hc hd hy
      go_wp2_with fail
      go_region
      clear c0 c1 d0 d1 hrun
      go_wp2_with fail
      go_roundw
      case rel => exact ⟨i + 1, by omega, by go_num, HO.out.drew⟩
      case measure => simp [intOf]; omega
    · obtain rfl : i = l.length := by omega
      go_wp2_with fail
      go_ret
      exact ⟨rfl, HO.out.below⟩

end Go.Proofs.YtjanjjkgnilhoaaGreatDoor
