/-
  THE WALKS of (*lock.Locks).Drop and Held.
-/
import Derived.Test.YtjanjjkgnilhoaaGreatDoorLkTake
namespace Go.Proofs.YtjanjjkgnilhoaaGreatDoor
open Go.RowKit Go.Maps

theorem row_le (X : Lh.St) (t : Tb.Tx) : (Lh.row X t).length ≤ X.length := by
  have := Lh.drop_length X t
  omega

set_option maxRecDepth 20000 in
set_option maxHeartbeats 4000000 in
theorem drop_any {w : World} {q b n : Nat} {X : Lh.St} (h : LkAt w q b X n) (t : Tb.Tx) (ht : In t) :
    Calls Tryz.prog 7 #[.pointer (some ⟨q, 0, none⟩), .agg #[.int .u64 t.life, .int .u64 t.n]] w fun e w' => e = .returned (.int .i64 (Lh.row X t).length) ∧ LkAt w' q b (Lh.drop X t) n ∧ Upd w w' [q, b] := by
  obtain ⟨w0, hw0⟩ : ∃ w0, w0 = w.alloc (.cells #[.int .u64 t.life, .int .u64 t.n] 35 (0, 0)) := ⟨_, rfl⟩
  have hb0 : Own w.heap.size w w0 := by rw [hw0]; exact (Own.refl w).alloc _
  have hx0 : w0.heap[w.heap.size]? = some (.cells #[.int .u64 t.life, .int .u64 t.n] 35 (0, 0)) := by rw [hw0]; exact heap_alloc_new w _
  have hL0 : LkAt w0 q b X n := h.keep hb0.below
  have HN := Lib.hid (none_any hL0)
  have HB0 := Lib.hid hb0
  have hL1 : LkAt w0.drew q b X n := hL0.keep (Own.refl w0).drew.below
  have hL2 : LkAt w0.drew.drew q b X n := hL0.keep (Own.refl w0).drew.drew.below
  obtain ⟨a0, cap0, hlook, _⟩ := hL1.look ht
  obtain ⟨W', hdel, hU, hsz, hfin⟩ := hL2.strike ht 0
  have hx1 : w0.drew.heap[w.heap.size]? = some (.cells #[.int .u64 t.life, .int .u64 t.n] 35 (0, 0)) := hx0
  have hx2 : w0.drew.drew.heap[w.heap.size]? = some (.cells #[.int .u64 t.life, .int .u64 t.n] 35 (0, 0)) := hx0
  have c0 : w0.drew.cell? ⟨q, 0, none⟩ = some (.map (some b)) := by rw [cell_of_row _ _ _ _ _ _ hL1.box]; rfl
  have c1 : w0.drew.drew.cell? ⟨q, 0, none⟩ = some (.map (some b)) := by rw [cell_of_row _ _ _ _ _ _ hL2.box]; rfl
  have d0 : w0.drew.cell? ⟨w.heap.size, 0, none⟩ = some (.int .u64 t.life) := by rw [cell_of_row _ _ _ _ _ _ hx1]; rfl
  have d1 : w0.drew.cell? ⟨w.heap.size, 1, none⟩ = some (.int .u64 t.n) := by rw [cell_of_row _ _ _ _ _ _ hx1]; rfl
  have e0 : w0.drew.drew.cell? ⟨w.heap.size, 0, none⟩ = some (.int .u64 t.life) := by rw [cell_of_row _ _ _ _ _ _ hx2]; rfl
  have e1 : w0.drew.drew.cell? ⟨w.heap.size, 1, none⟩ = some (.int .u64 t.n) := by rw [cell_of_row _ _ _ _ _ _ hx2]; rfl
  have hbx : W'.heap[q]? = some (.cells #[.map (some b), .int .i64 X.length] 57 (0, 0)) := (hU.keep q hL2.lt.1 (by simp; exact hL2.ne)).trans hL2.box
  have m1 : W'.cell? ⟨q, 1, none⟩ = some (.int .i64 X.length) := by rw [cell_of_row _ _ _ _ _ _ hbx]; rfl
  have hf1 : W'.frozen? ⟨q, 1, none⟩ = false := frozen_zero (i := 1) hbx
  have HBX := Lib.hid hbx
  have HU := Lib.hid hU
  have HFIN := Lib.hid hfin
  have HDL := Lib.hid (Lh.drop_length X t)
  have hXm := h.most
  have hrI : (0 : Int) ≤ (Lh.row X t).length ∧ ((Lh.row X t).length : Int) ≤ X.length ∧ (X.length : Int) ≤ 4096 := by have := row_le X t; omega
  clear h hb0 hx0 hx1 hx2 hL0 hL1 hL2 hU hsz hfin hbx hXm
  go_enter Tryz.func7, Tryz.ntmps7
  go_wp2_with fail
  rw [← hw0]
  refine HN.out.mono ?_
  rintro e w1 ⟨rfl, rfl⟩
  clear hw0 HN
  go_wp2_with fail
  go_region
  go_wp2_with fail
  go_region
  all_goals
    clear hlook hdel c0 c1 d0 d1 e0 e1
    go_wp2_with fail
    refine bodyPost_ret (v := .int .i64 (Lh.row X t).length) (by simp [results, Tryz.results7, go_sem]) rfl ⟨rfl, ?_, ?_⟩
    · refine HFIN.out _ ?_ ((Upd.refl W' [q]).setCell (p := ⟨q, 1, none⟩) (.inl (by simp)) _)
      have hv : (X.length : Int) - (Lh.row X t).length = (Lh.drop X t).length := by have := HDL.out; omega
      rw [heap_set _ HBX.out, hv]; rfl
    · have h1 : Upd w w1.drew.drew [q, b] := Upd.of_below _ HB0.out.drew.drew.below
      exact (h1.trans HU.out (fun x hx => .inl (by simp at hx; simp [hx]))).trans ((Upd.refl W' [q, b]).setCell (p := ⟨q, 1, none⟩) (.inl (by simp)) _) (fun x hx => .inl hx)

set_option maxRecDepth 20000 in
set_option maxHeartbeats 4000000 in
theorem held_any {w : World} {q b n : Nat} {X : Lh.St} (h : LkAt w q b X n) (t : Tb.Tx) (ht : In t) :
    Calls Tryz.prog 12 #[.pointer (some ⟨q, 0, none⟩), .agg #[.int .u64 t.life, .int .u64 t.n]] w fun e w' => (∃ s cap, e = .returned (.slice s (Lh.row X t).length cap) ∧ RowIs w' 4 s ((Lh.row X t).map LV.cells)) ∧ Below w.heap.size w w' := by
  obtain ⟨w0, hw0⟩ : ∃ w0, w0 = w.alloc (.cells #[.int .u64 t.life, .int .u64 t.n] 35 (0, 0)) := ⟨_, rfl⟩
  have hb0 : Own w.heap.size w w0 := by rw [hw0]; exact (Own.refl w).alloc _
  have hx0 : w0.heap[w.heap.size]? = some (.cells #[.int .u64 t.life, .int .u64 t.n] 35 (0, 0)) := by rw [hw0]; exact heap_alloc_new w _
  have hL0 : LkAt w0 q b X n := h.keep hb0.below
  have HN := Lib.hid (none_any hL0)
  have HB0 := Lib.hid hb0
  have hL1 : LkAt w0.drew q b X n := hL0.keep (Own.refl w0).drew.below
  obtain ⟨a0, cap0, hlook, hsl⟩ := hL1.look ht
  have hx1 : w0.drew.heap[w.heap.size]? = some (.cells #[.int .u64 t.life, .int .u64 t.n] 35 (0, 0)) := hx0
  have hx2 : w0.drew.drew.heap[w.heap.size]? = some (.cells #[.int .u64 t.life, .int .u64 t.n] 35 (0, 0)) := hx0
  have c0 : w0.drew.cell? ⟨q, 0, none⟩ = some (.map (some b)) := by rw [cell_of_row _ _ _ _ _ _ hL1.box]; rfl
  have d0 : w0.drew.cell? ⟨w.heap.size, 0, none⟩ = some (.int .u64 t.life) := by rw [cell_of_row _ _ _ _ _ _ hx1]; rfl
  have d1 : w0.drew.cell? ⟨w.heap.size, 1, none⟩ = some (.int .u64 t.n) := by rw [cell_of_row _ _ _ _ _ _ hx1]; rfl
  have HCL := Lib.hid (clone_lock a0 cap0 (Lh.row X t) w0.drew hsl (by have := row_le X t; have := h.most; omega))
  have HX0 := Lib.hid hx0
  have HL := Lib.hid hL1
  clear h hb0 hx0 hx1 hx2 hL0 hL1 hsl
  go_enter Tryz.func12, Tryz.ntmps12
  go_wp2_with fail
  rw [← hw0]
  refine HN.out.mono ?_
  rintro e w1 ⟨rfl, rfl⟩
  clear hw0 HN
  go_wp2_with fail
  go_region_held3 (fun w' => w'.cell? ⟨q, 0, none⟩ = some (.map (some b)) ∧ w'.cell? ⟨w.heap.size, 0, none⟩ = some (.int .u64 t.life) ∧ w'.cell? ⟨w.heap.size, 1, none⟩ = some (.int .u64 t.n)) (first | exact And.intro c0 (And.intro d0 d1) | exact And.intro c0' (And.intro d0' d1'))
    (first
    | (go_at_call 26
       (with_reducible refine HCL.out.mono ?_)
       rintro e w7 ⟨⟨a7, cap7, rfl, hs7, hf7⟩, hO7⟩
       have HO7 := Lib.hid (HB0.out.drew.trans hO7.below)
       have HS7 := Lib.hid hs7
       have hbox := (HL.out.keep hO7.below).box
       have c0' : w7.cell? ⟨q, 0, none⟩ = some (.map (some b)) := by rw [cell_of_row _ _ _ _ _ _ hbox]; rfl
       have hbt := (hO7.below.block w.heap.size (blk_lt HX0.out)).trans HX0.out
       have d0' : w7.cell? ⟨w.heap.size, 0, none⟩ = some (.int .u64 t.life) := by rw [cell_of_row _ _ _ _ _ _ hbt]; rfl
       have d1' : w7.cell? ⟨w.heap.size, 1, none⟩ = some (.int .u64 t.n) := by rw [cell_of_row _ _ _ _ _ _ hbt]; rfl
       clear hs7 hf7 hO7 hbox hbt))
  clear hlook c0 d0 d1 c0' d0' d1' HCL
  go_wp2_with fail
  go_ret
  exact ⟨⟨a7, cap7, rfl, SliceIs.rowL HS7.out⟩, HO7.out.below⟩

end Go.Proofs.YtjanjjkgnilhoaaGreatDoor
