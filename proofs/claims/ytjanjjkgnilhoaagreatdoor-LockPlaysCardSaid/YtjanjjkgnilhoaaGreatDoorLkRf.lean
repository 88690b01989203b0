/-
  THE WALKS of the answer's locks: has, Drop, Held, Before.
-/
import Derived.Test.YtjanjjkgnilhoaaGreatDoorLkSame
import Derived.Test.YtjanjjkgnilhoaaGreatDoorLkCalls
namespace Go.Proofs.YtjanjjkgnilhoaaGreatDoor
open Go.RowKit Go.Maps

def eflat (l : List (Tb.Tx × LV)) : List Value := (l.map ecells).flatten
theorem ecells_one (l : List (Tb.Tx × LV)) : ∀ x ∈ l.map ecells, ∀ u ∈ x, u.oneCell' = true := by
  intro x hx u hu; obtain ⟨y, _, rfl⟩ := List.mem_map.1 hx
  unfold ecells at hu
  simp at hu
  rcases hu with rfl | rfl | rfl | rfl | rfl | rfl <;> rfl
/-- The answer's locks, at block p. -/
def RfAt (W : World) (p : Nat) (X : Lh.St) : Prop :=
  ∃ s cap, W.heap[p]? = some (.cells #[.slice s X.length cap] 33 (0, 0)) ∧ SliceIs W 59 6 s X.length cap (eflat X)
theorem RfAt.keep {W W' : World} {p : Nat} {X : Lh.St} (h : RfAt W p X) (hb : Below W.heap.size W W') : RfAt W' p X := by
  obtain ⟨s, cap, h1, h2⟩ := h
  exact ⟨s, cap, (hb.block p (blk_lt h1)).trans h1, h2.keep fun k hk => hb.block k (h2.lt k hk)⟩
theorem SliceIs.rowE {W : World} {a : Option Addr} {cap : Nat} {l : List (Tb.Tx × LV)} (h : SliceIs W 59 6 a l.length cap (eflat l)) : RowIs W 6 a (l.map ecells) := SliceIs.rowF h (ecells_len l) (by simp)
theorem RfAt.row {W : World} {p : Nat} {X : Lh.St} (h : RfAt W p X) : ∃ s cap, W.heap[p]? = some (.cells #[.slice s X.length cap] 33 (0, 0)) ∧ RowIs W 6 s (X.map ecells) := by
  obtain ⟨s, cap, h1, h2⟩ := h
  exact ⟨s, cap, h1, SliceIs.rowE h2⟩
/-- One of a row's six cells. -/
theorem row_cells {w : World} {a : Option Addr} {l : List (Tb.Tx × LV)} (h : RowIs w 6 a (l.map ecells)) (i : Nat) (hi : i < l.length) : ∃ g off, a = some ⟨g, off, none⟩ ∧
    w.cell? ⟨g, off + i * 6, none⟩ = some (.int .u64 (l[i]'hi).1.life) ∧ w.cell? ⟨g, off + i * 6 + 1, none⟩ = some (.int .u64 (l[i]'hi).1.n) ∧ w.cell? ⟨g, off + i * 6 + 2, none⟩ = some (.int .u8 (l[i]'hi).2.kind) ∧
    w.cell? ⟨g, off + i * 6 + 3, none⟩ = some (.string (l[i]'hi).2.p) ∧ w.cell? ⟨g, off + i * 6 + 4, none⟩ = some (.int .u64 (l[i]'hi).2.frm) ∧ w.cell? ⟨g, off + i * 6 + 5, none⟩ = some (.int .u64 (l[i]'hi).2.top) := by
  obtain ⟨g, off, ha, hc⟩ := h i (by simpa using hi)
  have hce : (l.map ecells)[i]'(by simpa using hi) = ecells (l[i]'hi) := by rw [List.getElem_map]
  rw [hce] at hc
  exact ⟨g, off, ha, hc.cell 0 (by simp [ecells]), hc.cell 1 (by simp [ecells]), hc.cell 2 (by simp [ecells]), hc.cell 3 (by simp [ecells]), hc.cell 4 (by simp [ecells]), hc.cell 5 (by simp [ecells])⟩

theorem drop_take_succ {X : Lh.St} {t : Tb.Tx} {i : Nat} (h : i < X.length) : Lh.drop (X.take (i + 1)) t = if X[i].1 = t then Lh.drop (X.take i) t else Lh.drop (X.take i) t ++ [X[i]] := by
  rw [← List.take_append_getElem h]
  unfold Lh.drop
  rw [List.filter_append]
  by_cases e : X[i].1 = t <;> simp [e]
theorem row_take_succ {X : Lh.St} {t : Tb.Tx} {i : Nat} (h : i < X.length) : Lh.row (X.take (i + 1)) t = if X[i].1 = t then Lh.row (X.take i) t ++ [X[i].2] else Lh.row (X.take i) t := by
  rw [← List.take_append_getElem h, Lh.row_app]
  by_cases e : X[i].1 = t
  · rw [if_pos e]; congr 1; simp [Lh.row, e]
  · rw [if_neg e]; simp [Lh.row, e]
theorem drop_take_le (X : Lh.St) (t : Tb.Tx) (i : Nat) : (Lh.drop (X.take i) t).length ≤ X.length := Nat.le_trans (List.length_filter_le _ _) (by simp; omega)

attribute [local go_sem ↓ high] appSem_eq
set_option maxRecDepth 20000 in
set_option maxHeartbeats 4000000 in
theorem rdrop_any {w : World} {p : Nat} {X : Lh.St} (h : RfAt w p X) (hX : X.length ≤ 4096) (t : Tb.Tx) :
    Calls Tryz.prog 8 #[.pointer (some ⟨p, 0, none⟩), .agg #[.int .u64 t.life, .int .u64 t.n]] w fun e w' => e = .returned (.int .i64 (Lh.row X t).length) ∧ RfAt w' p (Lh.drop X t) ∧ Upd w w' [p] := by
  obtain ⟨w0, hw0⟩ : ∃ w0, w0 = w.alloc (.cells #[.int .u64 t.life, .int .u64 t.n] 35 (0, 0)) := ⟨_, rfl⟩
  have hb0 : Own w.heap.size w w0 := by rw [hw0]; exact (Own.refl w).alloc _
  have hx0 : w0.heap[w.heap.size]? = some (.cells #[.int .u64 t.life, .int .u64 t.n] 35 (0, 0)) := by rw [hw0]; exact heap_alloc_new w _
  have HR0 := Lib.hid (h.keep hb0.below)
  have HX0 := Lib.hid hx0
  have HB0 := Lib.hid hb0
  have HXL := Lib.hid hX
  have hXI : (0 : Int) ≤ X.length ∧ (X.length : Int) ≤ 4096 := by omega
  have hp : p < w.heap.size := by obtain ⟨s, cap, h1, _⟩ := h; exact blk_lt h1
  have HP := Lib.hid hp
  clear h hb0 hx0 hX hp
  go_enter Tryz.func8, Tryz.ntmps8
  go_wp2_with fail
  rw [← hw0]
  clear hw0
  obtain ⟨s, cap, hbx, hrow⟩ := HR0.out.row
  have HBX := Lib.hid hbx
  have HROW := Lib.hid hrow
  clear hbx hrow
  go_loopw [6, 5] (fun vi vl wr => ∃ (i : Nat) (s2 : Option Addr) (c2 : Nat), i ≤ X.length ∧ vi = .int .i64 i ∧ vl = .slice s2 (Lh.drop (X.take i) t).length c2 ∧ OL w0 wr 59 6 s2 c2 ((Lh.drop (X.take i) t).map ecells) ∧ Own w0.heap.size w0 wr) (fun vi _ _ => X.length - (intOf vi).toNat)
  case atStart => exact ⟨0, none, 0, Nat.zero_le _, rfl, rfl, OL.nil _ _ _ _, Own.refl _⟩
  case round =>
    obtain ⟨i, s2, c2, hi, rfl, rfl, hOL, hO⟩ := hrel
    have HOL := Lib.hid hOL
    have HO := Lib.hid hO
    clear hOL hO
    have hbx := (HO.out.below.block _ (blk_lt HBX.out)).trans HBX.out
    have e0 : wr.cell? ⟨p, 0, none⟩ = some (.slice s X.length cap) := by rw [cell_of_row _ _ _ _ _ _ hbx]; rfl
    by_cases hlt : i < X.length
    · obtain ⟨g, off, rfl, c0, c1, c2', c3, c4, c5⟩ := row_cells (HROW.out.keep HO.out.drew.below) i hlt
      have hiI : (0 : Int) ≤ i ∧ (i : Int) < X.length := by omega
      have HDS := Lib.hid (drop_take_succ (t := t) hlt)
      have hdl := drop_take_le X t i
      obtain ⟨y, hy⟩ : ∃ y, y = X[i]'hlt := ⟨_, rfl⟩
      rw [← hy] at c0 c1 c2' c3 c4 c5
      have HY := Lib.hid hy
      have hbx1 := (HO.out.drew.below.block _ (blk_lt HBX.out)).trans HBX.out
      have hbt1 := (HO.out.drew.below.block _ (blk_lt HX0.out)).trans HX0.out
      have e1 : wr.drew.cell? ⟨p, 0, none⟩ = some (.slice (some ⟨g, off, none⟩) X.length cap) := by rw [cell_of_row _ _ _ _ _ _ hbx1]; rfl
      have e2 : wr.drew.cell? ⟨w.heap.size, 0, none⟩ = some (.int .u64 t.life) := by rw [cell_of_row _ _ _ _ _ _ hbt1]; rfl
      have e3 : wr.drew.cell? ⟨w.heap.size, 1, none⟩ = some (.int .u64 t.n) := by rw [cell_of_row _ _ _ _ _ _ hbt1]; rfl
      have hrun := run_neqT y.1 t
      clear hy hbx hbx1 hbt1
      by_cases het : y.1 = t
      · rw [show decide (y.1 ≠ t) = false by simp [het]] at hrun
        have hds := HDS.out
        rw [if_pos (by rw [← HY.out]; exact het)] at hds
        have HD2 := Lib.hid hds
        clear hds het HDS
        go_wp2_with fail
        go_region
        clear hrun c0 c1 c2' c3 c4 c5 e0 e1 e2 e3
        go_wp2_with fail
        go_roundw
        case rel => exact ⟨i + 1, s2, c2, by omega, by go_num, by rw [HD2.out], by rw [HD2.out]; exact HOL.out.keep (Own.refl wr).drew.below, HO.out.drew⟩
        case measure => simp [intOf]; omega
      · rw [show decide (y.1 ≠ t) = true by simp [het]] at hrun
        have hds := HDS.out
        rw [if_neg (by rw [← HY.out]; exact het), ← HY.out] at hds
        have HD2 := Lib.hid hds
        obtain ⟨s', cap2, W2, hrun2, hOL2, hO2, _⟩ := lo_push HO.out.drew (HOL.out.keep (Own.refl wr).drew.below) y.1 y.2 (by omega)
        have hrun3 : (appSem #[31, 31] 31 #[.slice s2 (Lh.drop (X.take i) t).length c2, .slice (some ⟨wr.heap.size, 0, none⟩) 1 1]).run Tryz.prog ((wr.alloc (.cells #[.int .u64 y.1.life, .int .u64 y.1.n, .int .u8 y.2.kind, .string y.2.p, .int .u64 y.2.frm, .int .u64 y.2.top] 59 (0, 0))).drew) = .ok (.slice s' ((Lh.drop (X.take i) t).length + 1) cap2) W2 := hrun2
        have HOL2 := Lib.hid hOL2
        have HO2 := Lib.hid hO2
        clear hds het HDS hOL2 hO2 hrun2
        go_wp2_with fail
        go_region
        clear hrun
        go_wp2_with fail
        go_roundw
        case rel => exact ⟨i + 1, s', cap2, by omega, by go_num, by rw [HD2.out]; simp, by rw [HD2.out]; exact HOL2.out, HO2.out⟩
        case measure => simp [intOf]; omega
    · obtain rfl : i = X.length := by omega
      have hdl := Lh.drop_length X t
      have HDL := Lib.hid hdl
      have hlI : (0 : Int) ≤ (Lh.drop X t).length ∧ ((Lh.drop X t).length : Int) ≤ X.length := by omega
      have hf := frozen_zero (i := 0) hbx
      have HBX2 := Lib.hid hbx
      have hol := HOL.out
      rw [List.take_length] at hol
      have HOL2 := Lib.hid hol
      clear hol hdl hbx HOL
      simp only [List.take_length]
      go_wp2_with fail
      refine bodyPost_ret (v := .int .i64 (X.length - (Lh.drop X t).length)) (by simp [results, Tryz.results8, go_sem]) rfl ⟨?_, ?_, ?_⟩
      · have := HDL.out
        rw [show (X.length : Int) - (Lh.drop X t).length = (Lh.row X t).length by omega]
      · refine ⟨s2, c2, ?_, ?_⟩
        · rw [heap_set _ HBX2.out]; rfl
        · have h2 := HOL2.out.sl
          rw [List.length_map] at h2
          have hne := h2.ne HBX2.out (by decide)
          exact h2.keep fun k hk => heap_setCell_other _ _ _ _ (fun e => hne (by have e2 : k = p := e; rw [← e2]; exact hk))
      · exact ((Upd.of_below [p] (HB0.out.below.trans (HO.out.below.mono HB0.out.size))).setCell (p := ⟨p, 0, none⟩) (.inl (by simp)) _)

end Go.Proofs.YtjanjjkgnilhoaaGreatDoor
