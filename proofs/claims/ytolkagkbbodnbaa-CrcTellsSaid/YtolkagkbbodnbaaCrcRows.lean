/-
  THE WALKS of package crc's rows of bits.
-/
import Derived.Test.YtolkagkbbodnbaaCrcWalks
import Derived.Deep.QuietTactic
import Derived.BigQuiet
namespace Go.Proofs.Ytolkagkbbodnbaa
open Go.RowKit

/-- Rows of bits, as an array's cells. -/
def cells32 (M : Nat → BitVec 32) : Array Value := ((List.range 32).map fun i => Value.int .u32 (w32 (M i))).toArray
theorem cells32_size (M : Nat → BitVec 32) : (cells32 M).size = 32 := by simp [cells32]
theorem cells32_one (M : Nat → BitVec 32) : ∀ v ∈ (cells32 M).toList, v.oneCell' = true := by
  intro v hv
  simp only [cells32, List.toList_toArray, List.mem_map] at hv
  obtain ⟨i, _, rfl⟩ := hv
  rfl
theorem cells32_get (M : Nat → BitVec 32) (i : Nat) (h : i < 32) : (cells32 M)[i]? = some (.int .u32 (w32 (M i))) := by
  simp [cells32, h]

set_option maxHeartbeats 400000 in
theorem crc_of (M : Nat → BitVec 32) (c : BitVec 32) (w : World) :
    Calls Try.prog 17 #[.agg (cells32 M), .int .u32 (w32 c)] w fun e w' => e = .returned (.int .u32 (w32 (Crc.rowsTo M c 32))) ∧ Below w.heap.size w w' := by
  go_enter Try.func17, Try.ntmps17
  go_wp2
  have hcell : ∀ i, i < 32 → (w.alloc (.cells (cells32 M) 38)).cell? ⟨w.heap.size, i, none⟩ = some (.int .u32 (w32 (M i))) := by
    intro i hi
    rw [World.cell?_alloc_mark, cells32_get M i hi]
  have hO := (Own.refl w).alloc (.cells (cells32 M) 38)
  generalize hB : w.heap.size = B at *
  generalize w.alloc (.cells (cells32 M) 38) = W at *
  have HB := Lib.hid hB; clear hB
  go_loopw [4, 6] (fun x i wr => (∃ k : Nat, k ≤ 32 ∧ i = .int .i64 k ∧ x = .int .u32 (w32 (Crc.rowsTo M c k))) ∧ Own B w wr ∧ ∀ i, i < 32 → wr.cell? ⟨B, i, none⟩ = some (.int .u32 (w32 (M i)))) (fun _ i _ => 32 - (intOf i).toNat)
  case atStart => exact ⟨⟨0, Nat.zero_le _, rfl, rfl⟩, hO, hcell⟩
  case round =>
    obtain ⟨⟨k, hk, rfl, rfl⟩, hO, hcell⟩ := hrel
    by_cases hlt : k < 32
    · have hc := hcell k hlt
      have HC := Lib.hid hcell; clear hcell
      have hi : (0 : Int) ≤ k ∧ (k : Int) < 32 := by omega
      go_wp2
      go_quiet (fail)
      go_wp2
      go_roundw
      case rel => exact ⟨⟨k + 1, by omega, by go_num, rfl⟩, hO.drewN _, fun i hi => by rw [World.cell?_drewN]; exact HC.out i hi⟩
      case measure => simp [intOf]; omega
    · obtain rfl : k = 32 := by omega
      go_wp2
      go_ret
      exact ⟨rfl, by rw [HB.out]; exact hO.below⟩

theorem Try.undRows : Try.prog.underlying 38 = some (.array 32 22) := by kernel_rfl
theorem Try.sizeRows : (Try.prog.info? 38).map (·.size) = some 32 := by kernel_rfl
theorem Try.size22 (w : World) : (sizeOf 22).run Try.prog w = .ok 1 w := by kernel_rfl

theorem run_index32 (M : Nat → BitVec 32) (w : World) (k : Nat) (hk : k < 32) :
    (Instr.index 38 (.agg (cells32 M)) (.int .i64 k)).run Try.prog w = .ok (.int .u32 (w32 (M k))) w := by
  have h1 : (0 : Int) ≤ k ∧ (k : Int) < 32 := by omega
  have h2 := Try.size22 w
  simp only [Instr.index, asIntOf, Sem.run_bind, Sem.run_pure, Result.andThen_ok, run_underlying Try.undRows]
  simp [h1, h2, part]
  rw [cells32_get M k hk]
  rfl

def upd (M N : Nat → BitVec 32) (k : Nat) : Nat → BitVec 32 := fun i => if i < k then M i else N i
theorem cells32_set (M N : Nat → BitVec 32) (k : Nat) (hk : k < 32) : (cells32 (upd M N k)).setIfInBounds k (.int .u32 (w32 (M k))) = cells32 (upd M N (k + 1)) := by
  apply Array.ext
  · simp [cells32]
  · intro i h1 h2
    have hi : i < 32 := by simpa [cells32] using h1
    simp only [cells32, upd, List.setIfInBounds_toArray, List.getElem_toArray, List.getElem_set, List.getElem_map, List.getElem_range]
    by_cases h : k = i
    · subst h; simp
    · rw [if_neg h]
      have : (i < k) = (i < k + 1) := by rw [eq_iff_iff]; omega
      simp only [this]
theorem cells32_congr (M N : Nat → BitVec 32) (h : ∀ i, i < 32 → M i = N i) : cells32 M = cells32 N := by
  unfold cells32
  congr 1
  apply List.map_congr_left
  intro i hi
  rw [h i (by simpa using hi)]

set_option maxHeartbeats 400000 in
theorem crc_twice (M : Nat → BitVec 32) (w : World) :
    Calls Try.prog 18 #[.agg (cells32 M)] w fun e w' => e = .returned (.agg (cells32 fun i => Crc.rowsTo M (M i) 32)) ∧ Below w.heap.size w w' := by
  go_enter Try.func18, Try.ntmps18
  go_wp2_with (refine wpList_load_row rfl 38 (.tmp 1) rfl w.heap.size rfl 38 (cells32 M) (0, 0) _ (heap_alloc2_old _ _ _) Try.undRows rfl (by rw [Try.sizeRows, cells32_size]) ?_)
  generalize hz : #[Value.int IntKind.u32 0, _, _, _, _, _, _, _, _, _, _, _, _, _, _, _, _, _, _, _, _, _, _, _, _, _, _, _, _, _, _, _] = Z
  have hZ : Z = cells32 (upd (fun i => Crc.rowsTo M (M i) 32) (fun _ => 0#32) 0) := by rw [← hz]; rfl
  clear hz
  subst hZ
  have hb0 := heap_alloc2_old w (.cells (cells32 M) 38) (.cells (cells32 (upd (fun i => Crc.rowsTo M (M i) 32) (fun _ => 0#32) 0)) 38)
  have hb1 := heap_alloc2_new w (.cells (cells32 M) 38) (.cells (cells32 (upd (fun i => Crc.rowsTo M (M i) 32) (fun _ => 0#32) 0)) 38)
  have hO := ((Own.refl w).alloc (.cells (cells32 M) 38)).alloc (.cells (cells32 (upd (fun i => Crc.rowsTo M (M i) 32) (fun _ => 0#32) 0)) 38)
  have hsz : ((w.alloc (.cells (cells32 M) 38)).alloc (.cells (cells32 (upd (fun i => Crc.rowsTo M (M i) 32) (fun _ => 0#32) 0)) 38)).heap.size ≥ w.heap.size + 2 := by simp
  generalize (w.alloc (.cells (cells32 M) 38)).alloc (.cells (cells32 (upd (fun i => Crc.rowsTo M (M i) 32) (fun _ => 0#32) 0)) 38) = W at *
  go_loopw [6] (fun i wr => ∃ k : Nat, k ≤ 32 ∧ i = .int .i64 k ∧ Own w.heap.size w wr ∧ w.heap.size + 2 ≤ wr.heap.size ∧ wr.heap[w.heap.size]? = some (.cells (cells32 M) 38 (0, 0)) ∧
      wr.heap[w.heap.size + 1]? = some (.cells (cells32 (upd (fun i => Crc.rowsTo M (M i) 32) (fun _ => 0#32) k)) 38 (0, 0))) (fun i _ => 32 - (intOf i).toNat)
  case atStart => exact ⟨0, Nat.zero_le _, rfl, hO, hsz, hb0, hb1⟩
  case round =>
    clear hO hsz hb0 hb1
    obtain ⟨k, hk, rfl, hO, hsz, hb0, hb1⟩ := hrel
    by_cases hlt : k < 32
    · have hi : (0 : Int) ≤ k ∧ (k : Int) < 32 := by omega
      have hidx := fun w => run_index32 M w k hlt
      have H0 := Lib.hid hb0
      have H1 := Lib.hid hb1
      clear hb0 hb1
      go_wp2_with (first
        | (refine wpList_load_row rfl 38 (.tmp 1) rfl w.heap.size rfl 38 (cells32 M) (0, 0) _ H0.out Try.undRows rfl (by rw [Try.sizeRows, cells32_size]) ?_)
        | (go_at_call 17; refine (crc_of M _ _).mono ?_; rintro e w' ⟨rfl, hb⟩
           have K0 := Lib.hid ((hb.block w.heap.size (by omega)).trans H0.out)
           have K1 := Lib.hid ((hb.block (w.heap.size + 1) (by omega)).trans H1.out)
           have hO' := hO.trans hb
           have hsz' := hb.size
           have hcell : w'.cell? ⟨w.heap.size + 1, k, none⟩ = some (.int .u32 (w32 (upd (fun i => Crc.rowsTo M (M i) 32) (fun _ => 0#32) k k))) := by
             rw [cell_of_row _ _ _ _ _ _ K1.out, cells32_get _ _ hlt]
           have hfr : w'.frozen? ⟨w.heap.size + 1, k, none⟩ = false := frozen_of_row _ _ _ _ _ K1.out
           clear H0 H1 hO hb))
      go_roundw
      case rel =>
        refine ⟨k + 1, by omega, by go_num, hO'.setCell (by simp) _, by simp only [World.size_setCell]; omega, ?_, ?_⟩
        · rw [heap_setCell_other _ _ _ _ (by simp)]; exact K0.out
        · rw [heap_setCell_same _ _ _ _ _ _ K1.out, cells32_set _ _ _ hlt]
      case measure => simp [intOf]; omega
    · obtain rfl : k = 32 := by omega
      have e32 : cells32 (upd (fun i => Crc.rowsTo M (M i) 32) (fun _ => 0#32) 32) = cells32 fun i => Crc.rowsTo M (M i) 32 := cells32_congr _ _ fun i hi => by simp [upd, hi]
      rw [e32] at hb1
      have H1 := Lib.hid hb1
      clear hb0 hb1 e32
      go_wp2_with (first
        | (refine wpList_load_row rfl 38 (.tmp 2) rfl (w.heap.size + 1) rfl 38 _ (0, 0) _ H1.out Try.undRows rfl (by rw [Try.sizeRows, cells32_size]) ?_)
        | (refine wpList_store_same rfl 38 (.tmp 2) (.tmp 16) rfl (w.heap.size + 1) _ rfl rfl 38 H1.out (by rw [Try.sizeRows, cells32_size]) (cells32_one _) ?_))
      refine bodyPost_ret (results_cell_row rfl _ _ (w.heap.size + 1) _ _ _ _ rfl H1.out Try.undRows rfl (by rw [Try.sizeRows, cells32_size])) rfl ⟨rfl, hO.below⟩

/-- The rows of n halvings. -/
def itRows (n : Nat) : Nat → BitVec 32 := fun i => Crc.itN n (Crc.one i)
theorem twice_it (n : Nat) : cells32 (fun i => Crc.rowsTo (itRows n) (itRows n i) 32) = cells32 (itRows (n + n)) :=
  cells32_congr _ _ fun i _ => by
    rw [Crc.rows_it n _ (itRows n) (fun _ _ => rfl)]
    show Crc.itN n (Crc.itN n (Crc.one i)) = Crc.itN (n + n) (Crc.one i)
    rw [Crc.itN_add]
theorem crc_twice_it (n : Nat) (w : World) :
    Calls Try.prog 18 #[.agg (cells32 (itRows n))] w fun e w' => e = .returned (.agg (cells32 (itRows (n + n)))) ∧ Below w.heap.size w w' := by
  have := crc_twice (itRows n) w
  rwa [twice_it] at this
theorem crc_of_it (n : Nat) (c : BitVec 32) (w : World) :
    Calls Try.prog 17 #[.agg (cells32 (itRows n)), .int .u32 (w32 c)] w fun e w' => e = .returned (.int .u32 (w32 (Crc.itN n c))) ∧ Below w.heap.size w w' := by
  have := crc_of (itRows n) c w
  rwa [Crc.rows_it n c (itRows n) (fun _ _ => rfl)] at this

/-- What zero's array has when k rows of the shift are laid. -/
def shifts (k : Nat) : Nat → BitVec 32 := fun i => if i = 0 then Crc.poly else if i ≤ k then 1#32 <<< (i - 1) else 0#32
theorem cells32_setAt (M N : Nat → BitVec 32) (k : Nat) (x : BitVec 32) (h : ∀ i, i < 32 → N i = if i = k then x else M i) : (cells32 M).setIfInBounds k (.int .u32 (w32 x)) = cells32 N := by
  apply Array.ext
  · simp [cells32]
  · intro i h1 h2
    have hi : i < 32 := by simpa [cells32] using h1
    simp only [cells32, List.setIfInBounds_toArray, List.getElem_toArray, List.getElem_set, List.getElem_map, List.getElem_range]
    rw [h i hi]
    by_cases h : k = i
    · subst h; simp
    · rw [if_neg h, if_neg (fun e => h e.symm)]
theorem shifts_all : cells32 (shifts 31) = cells32 (itRows 1) :=
  cells32_congr _ _ (by
    intro i hi
    cases i with
    | zero => exact Crc.half_one0.symm
    | succ i =>
      show shifts 31 (i + 1) = Crc.half (Crc.one (i + 1))
      rw [Crc.half_one i hi]
      simp [shifts, Crc.one, show i + 1 ≤ 31 from by omega])
theorem poly_u32 : (3988292384 : Int) = w32 Crc.poly := by decide

set_option maxHeartbeats 400000 in
theorem crc_zero (w : World) :
    Calls Try.prog 16 #[] w fun e w' => e = .returned (.agg (cells32 (itRows 8))) ∧ Below w.heap.size w w' := by
  go_enter Try.func16, Try.ntmps16
  go_wp2
  generalize hz : #[Value.int IntKind.u32 3988292384, _, _, _, _, _, _, _, _, _, _, _, _, _, _, _, _, _, _, _, _, _, _, _, _, _, _, _, _, _, _, _] = Z
  have hZ : Z = cells32 (shifts 0) := by rw [← hz, poly_u32]; rfl
  clear hz
  subst hZ
  have hb0 := heap_alloc_new w (.cells (cells32 (shifts 0)) 38)
  have hO := (Own.refl w).alloc (.cells (cells32 (shifts 0)) 38)
  have hsz : (w.alloc (.cells (cells32 (shifts 0)) 38)).heap.size ≥ w.heap.size + 1 := by simp
  generalize w.alloc (.cells (cells32 (shifts 0)) 38) = W at *
  go_loopw [3] (fun i wr => ∃ k : Nat, k ≤ 31 ∧ i = .int .i64 k ∧ Own w.heap.size w wr ∧ w.heap.size + 1 ≤ wr.heap.size ∧ wr.heap[w.heap.size]? = some (.cells (cells32 (shifts k)) 38 (0, 0))) (fun i _ => 32 - (intOf i).toNat)
  case atStart => exact ⟨0, Nat.zero_le _, rfl, hO, hsz, hb0⟩
  case round =>
    clear hO hsz hb0
    obtain ⟨k, hk, rfl, hO, hsz, hb0⟩ := hrel
    by_cases hlt : k < 31
    · have hi : (0 : Int) ≤ k ∧ (k : Int) < 31 := by omega
      have hcell : wr.cell? ⟨w.heap.size, k + 1, none⟩ = some (.int .u32 (w32 (shifts k (k + 1)))) := by
        rw [cell_of_row _ _ _ _ _ _ hb0, cells32_get _ _ (by omega)]
      have hfr : wr.frozen? ⟨w.heap.size, k + 1, none⟩ = false := frozen_of_row _ _ _ _ _ hb0
      have H0 := Lib.hid hb0
      clear hb0
      go_wp2
      go_roundw
      case rel =>
        refine ⟨k + 1, by omega, by go_num, hO.setCell (Nat.le_refl _) _, by simp only [World.size_setCell]; omega, ?_⟩
        rw [heap_setCell_same _ _ _ _ _ _ H0.out, cells32_setAt (shifts k) (shifts (k + 1)) (k + 1) _ (fun i hi => ?_)]
        unfold shifts
        by_cases h0 : i = 0
        · simp [h0]
        · by_cases h1 : i = k + 1
          · simp [h1]
          · simp only [h0, h1, if_false, show (i ≤ k + 1) = (i ≤ k) from by rw [eq_iff_iff]; omega]
      case measure => simp [intOf]; omega
    · obtain rfl : k = 31 := by omega
      rw [shifts_all] at hb0
      have H0 := Lib.hid hb0
      clear hb0
      go_wp2_with (refine wpList_load_row rfl 38 (.tmp 0) rfl w.heap.size rfl 38 _ (0, 0) _ H0.out Try.undRows rfl (by rw [Try.sizeRows, cells32_size]) ?_)
      refine (crc_twice_it 1 _).mono ?_
      rintro e w1 ⟨rfl, hb1⟩
      go_wp2_with fail
      refine (crc_twice_it 2 _).mono ?_
      rintro e w2 ⟨rfl, hb2⟩
      go_wp2_with fail
      refine (crc_twice_it 4 _).mono ?_
      rintro e w3 ⟨rfl, hb3⟩
      have s1 := hb1.size
      have s2 := hb2.size
      have K0 := Lib.hid ((hb3.block w.heap.size (by omega)).trans ((hb2.block w.heap.size (by omega)).trans ((hb1.block w.heap.size (by omega)).trans H0.out)))
      have hO3 := ((hO.trans hb1).trans hb2).trans hb3
      clear hb1 hb2 hb3 H0
      go_wp2_with (refine wpList_store_agg rfl 38 (.tmp 0) (.tmp 15) rfl w.heap.size 0 _ rfl rfl 38 _ K0.out (by rw [Try.sizeRows, cells32_size]) (by rw [cells32_size, cells32_size]; omega) (cells32_one _) ?_)
      have e8 : (List.take 0 (cells32 (itRows 1)).toList ++ (cells32 (itRows (4 + 4))).toList ++ List.drop (0 + (cells32 (itRows (4 + 4))).size) (cells32 (itRows 1)).toList).toArray = cells32 (itRows 8) := by
        rw [List.drop_eq_nil_of_le (by simp [cells32_size])]; simp
      rw [e8]
      have hR := setRow_heap w3 w.heap.size _ (cells32 (itRows 8)) _ _ K0.out
      refine bodyPost_ret (results_cell_row rfl _ _ w.heap.size _ _ _ _ rfl hR Try.undRows rfl (by rw [Try.sizeRows, cells32_size])) rfl ⟨rfl, ?_⟩
      exact (hO3.setRow (Nat.le_refl _) _).below

end Go.Proofs.Ytolkagkbbodnbaa
