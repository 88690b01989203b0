/-
  THE WALK of alive: some answers that the document fixes.
-/
import Derived.Test.YtjanjjkgnilhoaaGreatDoorLkAll
import Derived.Test.YtjanjjkgnilhoaaGreatDoorLkDrop
import Derived.Deep.DeepCutAuto
namespace Go.Proofs.YtjanjjkgnilhoaaGreatDoor
open Go.RowKit Go.Maps

theorem tx_any (n : Nat) (w : World) : Calls Tryz.prog 20 #[.int .u64 n] w fun e w' => e = .returned (.agg #[.int .u64 1, .int .u64 n]) ∧ Own w.heap.size w w' := by
  go_enter Tryz.func20, Tryz.ntmps20
  go_wp2_with fail
  refine bodyPost_ret (v := .agg #[.int .u64 1, .int .u64 n]) ?_ rfl ⟨rfl, (Own.refl w).alloc _⟩
  have h := heap_alloc_new w (.cells #[.int .u64 1, .int .u64 n] 35 (0, 0))
  have c0 : (w.alloc (.cells #[.int .u64 1, .int .u64 n] 35 (0, 0))).cell? ⟨w.heap.size, 0, none⟩ = some (.int .u64 1) := by rw [cell_of_row _ _ _ _ _ _ h]; rfl
  have c1 : (w.alloc (.cells #[.int .u64 1, .int .u64 n] 35 (0, 0))).cell? ⟨w.heap.size, 1, none⟩ = some (.int .u64 n) := by rw [cell_of_row _ _ _ _ _ _ h]; rfl
  simp [results, Tryz.results20, go_sem, c0, c1]
namespace Al
def lw : LV := ⟨2, ⟨#[97, 47, 98]⟩, 5, 5⟩
def lr : LV := ⟨1, ⟨#[97, 47, 98]⟩, 5, 5⟩
def lp : LV := ⟨3, ⟨#[97]⟩, 0, 0⟩
def l6 : LV := ⟨4, ⟨#[]⟩, 6, 9⟩
def lq : LV := ⟨3, ⟨#[97, 47, 98]⟩, 0, 0⟩
def l5 : LV := ⟨4, ⟨#[]⟩, 5, 9⟩
def t (n : Nat) : Tb.Tx := ⟨1, n⟩
def X1 : Lh.St := [(t 1, lw), (t 1, lr)]
def X2 : Lh.St := [(t 1, lw), (t 1, lr), (t 2, lq)]
def X3 : Lh.St := [(t 2, lq)]
theorem a1 : Lh.take [] (t 1) [lw, lr] = (0, 0, X1) := by decide +kernel
theorem a2 : Lh.take X1 (t 2) [l6, lp] = (1, 9, X1) := by decide +kernel
theorem a3 : Lh.take X1 (t 2) [lq] = (0, 0, X2) := by decide +kernel
theorem a4 : Lh.take X2 (t 3) [l5] = (0, 9, X2) := by decide +kernel
theorem a5 : Lh.drop X2 (t 1) = X3 := by decide +kernel
theorem a6 : (Lh.row X2 (t 1)).length = 2 := by decide +kernel
theorem a7 : (Lh.all X3).length = 1 := by decide +kernel
theorem a8 : Lk.conf lw.l lp.l = true := by decide +kernel
theorem a9 : Lk.conf lr.l lr.l = false := by decide +kernel
theorem a10 : (Lh.who X3 lw).length = 0 := by decide +kernel
end Al

/-- What the walk holds. -/
structure AlAt (w : World) (B : Nat) (X : Lh.St) (n : Nat) (W : World) : Prop where
  own : Own w.heap.size w W
  lay : Lay w
  lk : LkAt W (w.heap.size + 1) w.heap.size X n
  hB : w.heap.size + 2 ≤ B
  b2 : W.heap[B]? = some (.cells #[.int .u8 2, .string ⟨#[97, 47, 98]⟩, .int .u64 5, .int .u64 5] 25 (0, 0))
  b3 : W.heap[B + 1]? = some (.cells #[.int .u8 1, .string ⟨#[97, 47, 98]⟩, .int .u64 5, .int .u64 5] 25 (0, 0))
  b4 : W.heap[B + 2]? = some (.cells #[.int .u8 3, .string ⟨#[97]⟩, .int .u64 0, .int .u64 0] 25 (0, 0))
theorem AlAt.keep {w W W' : World} {B n : Nat} {X : Lh.St} (h : AlAt w B X n W) (hb : Below W.heap.size W W') : AlAt w B X n W' :=
  ⟨h.own.trans hb, h.lay, h.lk.keep hb, h.hB, (hb.block _ (blk_lt h.b2)).trans h.b2, (hb.block _ (blk_lt h.b3)).trans h.b3, (hb.block _ (blk_lt h.b4)).trans h.b4⟩
theorem AlAt.upd {w W W' : World} {B n n' : Nat} {X X' : Lh.St} (h : AlAt w B X n W) (hl : LkAt W' (w.heap.size + 1) w.heap.size X' n') (hu : Upd W W' [w.heap.size + 1, w.heap.size]) : AlAt w B X' n' W' := by
  have hB := h.hB
  exact ⟨h.own.upd hu (by simp), h.lay, hl, hB, (hu.keep _ (blk_lt h.b2) (by simp; omega)).trans h.b2, (hu.keep _ (blk_lt h.b3) (by simp; omega)).trans h.b3, (hu.keep _ (blk_lt h.b4) (by simp; omega)).trans h.b4⟩
theorem AlAt.laid {w W : World} {B n : Nat} {X : Lh.St} (h : AlAt w B X n W) : Lay W := h.lay.keep h.own.below
theorem al_in (n : Nat) (h : n < 100) : In (Al.t n) := ⟨by unfold Al.t; simp, by unfold Al.t; simp; omega⟩
theorem al_take {w W : World} {B n k e : Nat} {X X' : Lh.St} (h : AlAt w B X n W) (hn : n < 100000) (m : Nat) (hm : m < 100) (s : Option Addr) (cap : Nat) (l : List LV) (hr : RowIs W 4 s (l.map LV.cells)) (hok : ∀ y ∈ l, okL y) (hlen : l.length ≤ 5000) (hT : Lh.take X (Al.t m) l = (k, e, X')) :
    Calls Tryz.prog 9 #[.pointer (some ⟨w.heap.size + 1, 0, none⟩), .agg #[.int .u64 1, .int .u64 m], .slice s l.length cap] W fun x w' => x = .returned (.tuple #[.int .i64 k, .int .i64 e]) ∧ AlAt w B X' (n + 1) w' := by
  refine (take_any h.lk h.laid hn (Al.t m) (al_in m hm) s cap l hr hok hlen).mono ?_
  rw [hT]
  rintro x w' ⟨rfl, h1, h2⟩
  exact ⟨rfl, h.upd h1 h2⟩
theorem okl {l : List LV} (h : l.all (fun y => decide (y.kind < 256) && decide (y.frm < 18446744073709551616) && decide (y.top < 18446744073709551616)) = true) : ∀ y ∈ l, okL y := fun y hy => by
  have := List.all_eq_true.1 h y hy
  simp only [Bool.and_eq_true, decide_eq_true_eq] at this
  exact ⟨this.1.1, this.1.2, this.2⟩
/-- A new row of locks. -/
theorem row_new (w : World) (l : List LV) (h : l.length ≤ 100) : RowIs (w.alloc (.cells (lflat l).toArray 25 (0, 0))) 4 (some ⟨w.heap.size, 0, none⟩) (l.map LV.cells) := by
  refine SliceIs.rowL (cap := l.length) (SliceIs.new w _ 4 l.length (lflat l) ?_ (by unfold maxLen; omega))
  have := flat_length 4 (l.map LV.cells) (lcells_len l)
  simpa [lflat] using this

theorem AlAt.cells {w W : World} {B n : Nat} {X : Lh.St} (h : AlAt w B X n W) :
    W.cell? ⟨B, 0, none⟩ = some (.int .u8 2) ∧ W.cell? ⟨B, 1, none⟩ = some (.string ⟨#[97, 47, 98]⟩) ∧ W.cell? ⟨B, 2, none⟩ = some (.int .u64 5) ∧ W.cell? ⟨B, 3, none⟩ = some (.int .u64 5) ∧
    W.cell? ⟨B + 1, 0, none⟩ = some (.int .u8 1) ∧ W.cell? ⟨B + 1, 1, none⟩ = some (.string ⟨#[97, 47, 98]⟩) ∧ W.cell? ⟨B + 1, 2, none⟩ = some (.int .u64 5) ∧ W.cell? ⟨B + 1, 3, none⟩ = some (.int .u64 5) ∧
    W.cell? ⟨B + 1 + 1, 0, none⟩ = some (.int .u8 3) ∧ W.cell? ⟨B + 1 + 1, 1, none⟩ = some (.string ⟨#[97]⟩) ∧ W.cell? ⟨B + 1 + 1, 2, none⟩ = some (.int .u64 0) ∧ W.cell? ⟨B + 1 + 1, 3, none⟩ = some (.int .u64 0) := by
  obtain ⟨_, _, _, _, b2, b3, b4⟩ := h
  refine ⟨?_, ?_, ?_, ?_, ?_, ?_, ?_, ?_, ?_, ?_, ?_, ?_⟩
  all_goals first
    | (rw [cell_of_row _ _ _ _ _ _ b2]; rfl)
    | (rw [cell_of_row _ _ _ _ _ _ b3]; rfl)
    | (rw [cell_of_row _ _ _ _ _ _ b4]; rfl)
theorem AlAt.drew {w W : World} {B n : Nat} {X : Lh.St} (h : AlAt w B X n W) : AlAt w B X n W.drew := h.keep (Own.refl W).drew.below
theorem AlAt.alloc {w W : World} {B n : Nat} {X : Lh.St} (h : AlAt w B X n W) (o : Obj) : AlAt w B X n (W.alloc o) := h.keep ((Below.refl _ W).alloc (Nat.le_refl _) o)
set_option maxRecDepth 20000 in
set_option maxHeartbeats 4000000 in
theorem alive_any (w : World) (hl : Lay w) : Calls Tryz.prog 5 #[] w fun e w' => e = .returned (.bool true) ∧ Below w.heap.size w w' := by
  have HLY := Lib.hid hl
  have HNEW := Lib.hid (new_any w)
  have HTX := Lib.hid (fun n wz => tx_any n wz)
  clear hl
  go_enter Tryz.func5, Tryz.ntmps5
  go_wp2_with fail
  refine HNEW.out.mono ?_
  rintro e w1 ⟨⟨rfl, hlk⟩, hO⟩
  have HO := Lib.hid hO
  have HLK := Lib.hid hlk
  clear hO hlk HNEW
  obtain ⟨W4, hW4⟩ : ∃ W4, W4 = ((w1.alloc (.cells #[.int .u8 2, .string ⟨#[97, 47, 98]⟩, .int .u64 5, .int .u64 5] 25 (0, 0))).alloc (.cells #[.int .u8 1, .string ⟨#[97, 47, 98]⟩, .int .u64 5, .int .u64 5] 25 (0, 0))).alloc (.cells #[.int .u8 3, .string ⟨#[97]⟩, .int .u64 0, .int .u64 0] 25 (0, 0)) := ⟨_, rfl⟩
  have hA : AlAt w w1.heap.size [] 0 W4 := by
    have hb : Below w1.heap.size w1 W4 := by rw [hW4]; exact (((Own.refl w1).alloc _).alloc _).alloc _ |>.below
    refine ⟨HO.out.trans hb, HLY.out, HLK.out.keep hb, by have := HLK.out.lt; omega, ?_, ?_, ?_⟩
    · rw [hW4, Below.heap_alloc _ _ _ (by simp <;> omega), Below.heap_alloc _ _ _ (by simp)]; exact heap_alloc_new w1 _
    · rw [hW4, Below.heap_alloc _ _ _ (by simp)]
      have := heap_alloc_new (w1.alloc (.cells #[.int .u8 2, .string ⟨#[97, 47, 98]⟩, .int .u64 5, .int .u64 5] 25 (0, 0))) (.cells #[.int .u8 1, .string ⟨#[97, 47, 98]⟩, .int .u64 5, .int .u64 5] 25 (0, 0))
      rwa [World.size_alloc] at this
    · rw [hW4]
      have := heap_alloc_new ((w1.alloc (.cells #[.int .u8 2, .string ⟨#[97, 47, 98]⟩, .int .u64 5, .int .u64 5] 25 (0, 0))).alloc (.cells #[.int .u8 1, .string ⟨#[97, 47, 98]⟩, .int .u64 5, .int .u64 5] 25 (0, 0))) (.cells #[.int .u8 3, .string ⟨#[97]⟩, .int .u64 0, .int .u64 0] 25 (0, 0))
      rwa [World.size_alloc, World.size_alloc] at this
  have HA := Lib.hid hA
  go_upto_region 7 with (fail)
  rw [← hW4]
  clear hW4 HO HLK
  generalize w1.heap.size = B at *
  have HT : Hid (∀ wz, Calls Tryz.prog 20 #[.int .u64 1] wz fun e w' => e = .returned (.agg #[.int .u64 1, .int .u64 1]) ∧ Own wz.heap.size wz w') := Lib.hid (tx_any 1)
  have HK : Hid (∀ wz s, AlAt w B [] 0 wz → RowIs wz 4 s ([Al.lw, Al.lr].map LV.cells) → Calls Tryz.prog 9 #[.pointer (some ⟨w.heap.size + 1, 0, none⟩), .agg #[.int .u64 1, .int .u64 1], .slice s 2 2] wz fun x w' => x = .returned (.tuple #[.int .i64 0, .int .i64 0]) ∧ AlAt w B Al.X1 1 w') :=
    Lib.hid (fun wz s h1 h2 => al_take h1 (by decide) 1 (by decide) s 2 [Al.lw, Al.lr] h2 (okl (by decide)) (by decide) Al.a1)
  have HR1 : Hid (∀ wz : World, RowIs (wz.alloc (.cells #[.int .u8 2, .string ⟨#[97, 47, 98]⟩, .int .u64 5, .int .u64 5, .int .u8 1, .string ⟨#[97, 47, 98]⟩, .int .u64 5, .int .u64 5] 25 (0, 0))) 4 (some ⟨wz.heap.size, 0, none⟩) ([Al.lw, Al.lr].map LV.cells)) := Lib.hid (fun wz => row_new wz [Al.lw, Al.lr] (by decide))
  have HD := Lib.hid hA.drew
  have HR2 : Hid (RowIs ((W4.alloc (.cells #[.int .u8 2, .string ⟨#[97, 47, 98]⟩, .int .u64 5, .int .u64 5, .int .u8 1, .string ⟨#[97, 47, 98]⟩, .int .u64 5, .int .u64 5] 25 (0, 0))).drew) 4 (some ⟨W4.heap.size, 0, none⟩) ([Al.lw, Al.lr].map LV.cells)) := Lib.hid ((HR1.out W4).keep (Own.refl _).drew.below)
  clear hA
  go_cut [6] (fun v wx => v = .int .i64 0 ∧ AlAt w B Al.X1 1 wx)
  case first =>
    go_region_held3 (fun wz => wz.cell? ⟨B, 0, none⟩ = some (.int .u8 2) ∧ wz.cell? ⟨B, 1, none⟩ = some (.string ⟨#[97, 47, 98]⟩) ∧ wz.cell? ⟨B, 2, none⟩ = some (.int .u64 5) ∧ wz.cell? ⟨B, 3, none⟩ = some (.int .u64 5) ∧
    wz.cell? ⟨B + 1, 0, none⟩ = some (.int .u8 1) ∧ wz.cell? ⟨B + 1, 1, none⟩ = some (.string ⟨#[97, 47, 98]⟩) ∧ wz.cell? ⟨B + 1, 2, none⟩ = some (.int .u64 5) ∧ wz.cell? ⟨B + 1, 3, none⟩ = some (.int .u64 5) ∧
    wz.cell? ⟨B + 1 + 1, 0, none⟩ = some (.int .u8 3) ∧ wz.cell? ⟨B + 1 + 1, 1, none⟩ = some (.string ⟨#[97]⟩) ∧ wz.cell? ⟨B + 1 + 1, 2, none⟩ = some (.int .u64 0) ∧ wz.cell? ⟨B + 1 + 1, 3, none⟩ = some (.int .u64 0))
      (first | exact HD.out.cells | exact HA5.out.cells | exact HA6.out.cells | exact (HD.out.alloc _).cells | exact (HA5.out.alloc _).cells | fail)
      (first
      | (go_at_call 20
         (with_reducible refine (HT.out _).mono ?_)
         rintro e w5 ⟨rfl, hO5⟩
         have HA5 : Hid (AlAt w B [] 0 w5) := Lib.hid (by first | exact HD.out.keep hO5.below | exact (HD.out.alloc _).keep hO5.below | fail)
         have HO5 := Lib.hid hO5
         clear hO5)
      | (go_at_call 9
         first
         | (with_reducible refine (HK.out _ _ (HA5.out.alloc _) (HR1.out _)).mono ?_)
         | (with_reducible refine (HK.out _ _ HA5.out (HR2.out.keep HO5.out.below)).mono ?_)
         | fail
         rintro e w6 ⟨rfl, hA6⟩
         have HA6 := Lib.hid hA6
         clear hA6))
    all_goals
      go_wp2_with fail
      go_meet
      exact ⟨rfl, HA6.out⟩
  case rest =>
  obtain ⟨rfl, hA⟩ := hcut
  clear HT HK HR1 HR2 HD
  go_upto_region 8 with (fail)
  have HT : Hid (∀ wz, Calls Tryz.prog 20 #[.int .u64 2] wz fun e w' => e = .returned (.agg #[.int .u64 1, .int .u64 2]) ∧ Own wz.heap.size wz w') := Lib.hid (tx_any 2)
  have HK : Hid (∀ wz s, AlAt w B Al.X1 1 wz → RowIs wz 4 s ([Al.l6, Al.lp].map LV.cells) → Calls Tryz.prog 9 #[.pointer (some ⟨w.heap.size + 1, 0, none⟩), .agg #[.int .u64 1, .int .u64 2], .slice s 2 2] wz fun x w' => x = .returned (.tuple #[.int .i64 1, .int .i64 9]) ∧ AlAt w B Al.X1 2 w') :=
    Lib.hid (fun wz s h1 h2 => al_take h1 (by decide) 2 (by decide) s 2 [Al.l6, Al.lp] h2 (okl (by decide)) (by decide) Al.a2)
  have HR1 : Hid (∀ wz : World, RowIs (wz.alloc (.cells #[.int .u8 4, .string ⟨#[]⟩, .int .u64 6, .int .u64 9, .int .u8 3, .string ⟨#[97]⟩, .int .u64 0, .int .u64 0] 25 (0, 0))) 4 (some ⟨wz.heap.size, 0, none⟩) ([Al.l6, Al.lp].map LV.cells)) := Lib.hid (fun wz => row_new wz [Al.l6, Al.lp] (by decide))
  have HD := Lib.hid hA.drew
  have HR2 : Hid (RowIs ((wc.alloc (.cells #[.int .u8 4, .string ⟨#[]⟩, .int .u64 6, .int .u64 9, .int .u8 3, .string ⟨#[97]⟩, .int .u64 0, .int .u64 0] 25 (0, 0))).drew) 4 (some ⟨wc.heap.size, 0, none⟩) ([Al.l6, Al.lp].map LV.cells)) := Lib.hid ((HR1.out wc).keep (Own.refl _).drew.below)
  clear hA
  go_cut [7, 8] (fun v v' wx => (v = .int .i64 1 ∧ v' = .int .i64 9) ∧ AlAt w B Al.X1 2 wx)
  case first =>
    go_region_held3 (fun wz => wz.cell? ⟨B, 0, none⟩ = some (.int .u8 2) ∧ wz.cell? ⟨B, 1, none⟩ = some (.string ⟨#[97, 47, 98]⟩) ∧ wz.cell? ⟨B, 2, none⟩ = some (.int .u64 5) ∧ wz.cell? ⟨B, 3, none⟩ = some (.int .u64 5) ∧
    wz.cell? ⟨B + 1, 0, none⟩ = some (.int .u8 1) ∧ wz.cell? ⟨B + 1, 1, none⟩ = some (.string ⟨#[97, 47, 98]⟩) ∧ wz.cell? ⟨B + 1, 2, none⟩ = some (.int .u64 5) ∧ wz.cell? ⟨B + 1, 3, none⟩ = some (.int .u64 5) ∧
    wz.cell? ⟨B + 1 + 1, 0, none⟩ = some (.int .u8 3) ∧ wz.cell? ⟨B + 1 + 1, 1, none⟩ = some (.string ⟨#[97]⟩) ∧ wz.cell? ⟨B + 1 + 1, 2, none⟩ = some (.int .u64 0) ∧ wz.cell? ⟨B + 1 + 1, 3, none⟩ = some (.int .u64 0))
      (first | exact HD.out.cells | exact HA5.out.cells | exact HA6.out.cells | exact (HD.out.alloc _).cells | exact (HA5.out.alloc _).cells | fail)
      (first
      | (go_at_call 20
         (with_reducible refine (HT.out _).mono ?_)
         rintro e w5 ⟨rfl, hO5⟩
         have HA5 : Hid (AlAt w B Al.X1 1 w5) := Lib.hid (by first | exact HD.out.keep hO5.below | exact (HD.out.alloc _).keep hO5.below | fail)
         have HO5 := Lib.hid hO5
         clear hO5)
      | (go_at_call 9
         first
         | (with_reducible refine (HK.out _ _ (HA5.out.alloc _) (HR1.out _)).mono ?_)
         | (with_reducible refine (HK.out _ _ HA5.out (HR2.out.keep HO5.out.below)).mono ?_)
         | fail
         rintro e w6 ⟨rfl, hA6⟩
         have HA6 := Lib.hid hA6
         clear hA6))
    all_goals
      go_wp2_with fail
      go_meet
      exact ⟨⟨rfl, rfl⟩, HA6.out⟩
  case rest =>
  obtain ⟨⟨rfl, rfl⟩, hA⟩ := hcut
  clear HT HK HR1 HR2 HD
  have HT : Hid (∀ wz, Calls Tryz.prog 20 #[.int .u64 2] wz fun e w' => e = .returned (.agg #[.int .u64 1, .int .u64 2]) ∧ Own wz.heap.size wz w') := Lib.hid (tx_any 2)
  have HK : Hid (∀ wz s, AlAt w B Al.X1 2 wz → RowIs wz 4 s ([Al.lq].map LV.cells) → Calls Tryz.prog 9 #[.pointer (some ⟨w.heap.size + 1, 0, none⟩), .agg #[.int .u64 1, .int .u64 2], .slice s 1 1] wz fun x w' => x = .returned (.tuple #[.int .i64 0, .int .i64 0]) ∧ AlAt w B Al.X2 3 w') :=
    Lib.hid (fun wz s h1 h2 => al_take h1 (by decide) 2 (by decide) s 1 [Al.lq] h2 (okl (by decide)) (by decide) Al.a3)
  have HR1 : Hid (∀ wz : World, RowIs (wz.alloc (.cells #[.int .u8 3, .string ⟨#[97, 47, 98]⟩, .int .u64 0, .int .u64 0] 25 (0, 0))) 4 (some ⟨wz.heap.size, 0, none⟩) ([Al.lq].map LV.cells)) := Lib.hid (fun wz => row_new wz [Al.lq] (by decide))
  have HA := Lib.hid hA
  clear hA
  go_wp2_with fail
  refine (HT.out _).mono ?_
  rintro e w5 ⟨rfl, hO5⟩
  have HA5 := Lib.hid (HA.out.keep hO5.below)
  clear hO5
  go_wp2_with fail
  refine (HK.out _ _ (HA5.out.alloc _) (HR1.out _)).mono ?_
  rintro e w7 ⟨rfl, hA⟩
  clear HT HK HR1 HA HA5
  have HT : Hid (∀ wz, Calls Tryz.prog 20 #[.int .u64 3] wz fun e w' => e = .returned (.agg #[.int .u64 1, .int .u64 3]) ∧ Own wz.heap.size wz w') := Lib.hid (tx_any 3)
  have HK : Hid (∀ wz s, AlAt w B Al.X2 3 wz → RowIs wz 4 s ([Al.l5].map LV.cells) → Calls Tryz.prog 9 #[.pointer (some ⟨w.heap.size + 1, 0, none⟩), .agg #[.int .u64 1, .int .u64 3], .slice s 1 1] wz fun x w' => x = .returned (.tuple #[.int .i64 0, .int .i64 9]) ∧ AlAt w B Al.X2 4 w') :=
    Lib.hid (fun wz s h1 h2 => al_take h1 (by decide) 3 (by decide) s 1 [Al.l5] h2 (okl (by decide)) (by decide) Al.a4)
  have HR1 : Hid (∀ wz : World, RowIs (wz.alloc (.cells #[.int .u8 4, .string ⟨#[]⟩, .int .u64 5, .int .u64 9] 25 (0, 0))) 4 (some ⟨wz.heap.size, 0, none⟩) ([Al.l5].map LV.cells)) := Lib.hid (fun wz => row_new wz [Al.l5] (by decide))
  have HA := Lib.hid hA
  clear hA
  go_wp2_with fail
  refine (HT.out _).mono ?_
  rintro e w5 ⟨rfl, hO5⟩
  have HA5 := Lib.hid (HA.out.keep hO5.below)
  clear hO5
  go_wp2_with fail
  refine (HK.out _ _ (HA5.out.alloc _) (HR1.out _)).mono ?_
  rintro e w8 ⟨rfl, hA⟩
  clear HT HK HR1 HA HA5
  have HT : Hid (∀ wz, Calls Tryz.prog 20 #[.int .u64 1] wz fun e w' => e = .returned (.agg #[.int .u64 1, .int .u64 1]) ∧ Own wz.heap.size wz w') := Lib.hid (tx_any 1)
  have HDR : Hid (∀ wz, AlAt w B Al.X2 4 wz → Calls Tryz.prog 7 #[.pointer (some ⟨w.heap.size + 1, 0, none⟩), .agg #[.int .u64 1, .int .u64 1]] wz fun x w' => x = .returned (.int .i64 2) ∧ AlAt w B Al.X3 4 w') := Lib.hid (fun wz h => by
    refine (drop_any h.lk (Al.t 1) (al_in 1 (by decide))).mono ?_
    rw [Al.a5, Al.a6]
    rintro x w' ⟨rfl, h1, h2⟩
    exact ⟨rfl, h.upd h1 h2⟩)
  have HA := Lib.hid hA
  clear hA
  go_wp2_with fail
  refine (HT.out _).mono ?_
  rintro e w5 ⟨rfl, hO5⟩
  have HA5 := Lib.hid (HA.out.keep hO5.below)
  clear hO5
  go_wp2_with fail
  refine (HDR.out _ HA5.out).mono ?_
  rintro e w9 ⟨rfl, hA⟩
  have HA9 := Lib.hid hA
  have HAL := Lib.hid (all_any hA.lk)
  have h7 := Al.a7
  have HA7 := Lib.hid h7
  clear HT HDR HA HA5 hA h7
  generalize Lh.all Al.X3 = AX at *
  have hax : (AX.length : Int) = 1 := by rw [HA7.out]; rfl
  go_wp2_with fail
  refine HAL.out.mono ?_
  rintro e w10 ⟨⟨s10, cap10, rfl, _⟩, hb10⟩
  have HA10 := Lib.hid (HA9.out.keep hb10)
  have hcc := HA10.out.cells
  obtain ⟨p0, p1, p2, p3, r0, r1, r2, r3, q0, q1, q2, q3⟩ := hcc
  have HC1 : Hid (Calls Tryz.prog 21 #[.agg #[.int .u8 2, .string ⟨#[97, 47, 98]⟩, .int .u64 5, .int .u64 5], .agg #[.int .u8 3, .string ⟨#[97]⟩, .int .u64 0, .int .u64 0]] w10 fun e w' => e = .returned (.bool true) ∧ Below w10.heap.size w10 w') := Lib.hid (by
    have := conf_any Al.lw Al.lp (okl (l := [Al.lw]) (by decide) _ (by simp)) (okl (l := [Al.lp]) (by decide) _ (by simp)) w10 HA10.out.laid
    rw [Al.a8] at this; exact this)
  clear hb10 HAL HA9
  go_wp2_with fail
  refine HC1.out.mono ?_
  rintro e w11 ⟨rfl, hb11⟩
  have HA11 := Lib.hid (HA10.out.keep hb11)
  clear p0 p1 p2 p3 r0 r1 r2 r3 q0 q1 q2 q3
  have hcc := HA11.out.cells
  obtain ⟨p0, p1, p2, p3, r0, r1, r2, r3, q0, q1, q2, q3⟩ := hcc
  have HC2 : Hid (Calls Tryz.prog 21 #[.agg #[.int .u8 1, .string ⟨#[97, 47, 98]⟩, .int .u64 5, .int .u64 5], .agg #[.int .u8 1, .string ⟨#[97, 47, 98]⟩, .int .u64 5, .int .u64 5]] w11 fun e w' => e = .returned (.bool false) ∧ Below w11.heap.size w11 w') := Lib.hid (by
    have := conf_any Al.lr Al.lr (okl (l := [Al.lr]) (by decide) _ (by simp)) (okl (l := [Al.lr]) (by decide) _ (by simp)) w11 HA11.out.laid
    rw [Al.a9] at this; exact this)
  clear hb11 HC1 HA10
  go_wp2_with fail
  refine HC2.out.mono ?_
  rintro e w12 ⟨rfl, hb12⟩
  have HA12 := Lib.hid (HA11.out.keep hb12)
  clear p0 p1 p2 p3 r0 r1 r2 r3 q0 q1 q2 q3
  have hcc := HA12.out.cells
  obtain ⟨p0, p1, p2, p3, r0, r1, r2, r3, q0, q1, q2, q3⟩ := hcc
  have HWH : Hid (Calls Tryz.prog 18 #[.pointer (some ⟨w.heap.size + 1, 0, none⟩), .agg #[.int .u8 2, .string ⟨#[97, 47, 98]⟩, .int .u64 5, .int .u64 5]] w12 fun e w' => (∃ s cap, e = .returned (.slice s 0 cap)) ∧ Below w12.heap.size w12 w') := Lib.hid (by
    refine (who_any HA12.out.lk HA12.out.laid Al.lw (okl (l := [Al.lw]) (by decide) _ (by simp))).mono ?_
    rw [Al.a10]
    rintro e w' ⟨⟨s, cap, rfl, _⟩, hb⟩
    exact ⟨⟨s, cap, rfl⟩, hb⟩)
  clear hb12 HC2 HA11
  go_wp2_with fail
  refine HWH.out.mono ?_
  rintro e w13 ⟨⟨s13, cap13, rfl⟩, hb13⟩
  have HA13 := Lib.hid (HA12.out.keep hb13)
  clear hb13 HWH HA12 p0 p1 p2 p3 r0 r1 r2 r3 q0 q1 q2 q3
  go_wp2_with fail
  go_ret
  exact ⟨rfl, HA13.out.own.below⟩

end Go.Proofs.YtjanjjkgnilhoaaGreatDoor
