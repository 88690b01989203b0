/-
  THE WALK of the statements' small known answers for layer 8.
-/
import Derived.Test.YtdceefbhkonndaaWireRead4
namespace Go.Proofs.Ytdceefbhkonndaa
open Go.RowKit

theorem RowIs.new (w : World) (vs : List Value) (t : TypeId) (fr : Nat × Nat) : RowIs (w.alloc (.cells vs.toArray t fr)) 1 (some ⟨w.heap.size, 0, none⟩) (vs.map fun v => [v]) := fun i hi => by
  have hi' : i < vs.length := by simpa using hi
  refine ⟨w.heap.size, 0, rfl, ?_⟩
  have := (CellsAt.new w vs t fr).sub i 1 (by omega)
  rw [Nat.zero_add] at this
  rw [Nat.zero_add, Nat.mul_one]
  have e : (vs.drop i).take 1 = [vs[i]] := by rw [List.drop_eq_getElem_cons hi']; rfl
  rw [e] at this
  simpa using this
theorem below_alloc {w w' : World} {o : Obj} (hb : Below (w.alloc o).heap.size (w.alloc o) w') : Below w.heap.size w w' := ((Own.refl w).alloc o).below.trans (hb.mono (by simp))
theorem al_uints (w : World) :
    Calls Try.prog 12 #[.slice (some ⟨w.heap.size, 0, none⟩) 4 4] (w.alloc (.cells #[.int .u64 0, .int .u64 127, .int .u64 128, .int .u64 300] 29)) fun e w' => e = .returned (.string ⟨#[0, 127, 128, 1, 172, 2]⟩) ∧ Below w.heap.size w w' := by
  refine (uints_any _ (some ⟨w.heap.size, 0, none⟩) 4 [0, 127, 128, 300] (RowIs.new w [.int .u64 0, .int .u64 127, .int .u64 128, .int .u64 300] _ _) (by decide) (by decide)).mono ?_
  rintro e w' ⟨rfl, hb⟩
  exact ⟨by rfl, below_alloc hb⟩
theorem al_ints (w : World) :
    Calls Try.prog 13 #[.slice (some ⟨w.heap.size, 0, none⟩) 1 1] (w.alloc (.cells #[.int .i64 (-3)] 2)) fun e w' => e = .returned (.string ⟨#[5]⟩) ∧ Below w.heap.size w w' := by
  refine (ints_any _ (some ⟨w.heap.size, 0, none⟩) 1 [-3] (RowIs.new w [.int .i64 (-3)] _ _) (by decide) (by decide)).mono ?_
  rintro e w' ⟨rfl, hb⟩
  exact ⟨by rfl, below_alloc hb⟩
theorem al_list (w : World) :
    Calls Try.prog 16 #[.slice (some ⟨w.heap.size, 0, none⟩) 2 2] (w.alloc (.cells #[.string ⟨#[97]⟩, .string ⟨#[98, 99]⟩] 9)) fun e w' => e = .returned (.string ⟨#[2, 1, 97, 2, 98, 99]⟩) ∧ Below w.heap.size w w' := by
  refine (list_any _ (some ⟨w.heap.size, 0, none⟩) 2 [⟨#[97]⟩, ⟨#[98, 99]⟩] (RowIs.new w [.string ⟨#[97]⟩, .string ⟨#[98, 99]⟩] _ _) (by decide) (by decide)).mono ?_
  rintro e w' ⟨rfl, hb⟩
  exact ⟨by rfl, below_alloc hb⟩
theorem al_bools (w : World) :
    Calls Try.prog 15 #[.slice (some ⟨w.heap.size, 0, none⟩) 2 2] (w.alloc (.cells #[.bool true, .bool false] 4)) fun e w' => e = .returned (.string ⟨#[1, 0]⟩) ∧ Below w.heap.size w w' := by
  refine (bools_any _ (some ⟨w.heap.size, 0, none⟩) 2 [true, false] (RowIs.new w [.bool true, .bool false] _ _) (by decide)).mono ?_
  rintro e w' ⟨rfl, hb⟩
  exact ⟨by rfl, below_alloc hb⟩
theorem al_read (w : World) (b : Nat) (h : RdIs w b ⟨#[128, 0]⟩ 0) :
    Calls Try.prog 18 #[.pointer (some ⟨b, 0, none⟩), .int .u64 9] w fun e w' => e = .returned (.int .u64 0) ∧ RdStep w w' b ⟨#[128, 0]⟩ 7 := by
  have e : uRes ⟨#[128, 0]⟩ 9 = (0, ⟨#[128, 0]⟩, 7) := rfl
  have := uint_read w b ⟨#[128, 0]⟩ 9 (by decide) h
  rw [e] at this
  exact this
theorem Own.upd1 {w0 w w' : World} {b : Nat} (h : Own w0.heap.size w0 w) (u : Upd w w' [b]) (hb : w0.heap.size ≤ b) : Own w0.heap.size w0 w' := h.upd u (by simpa using hb)

set_option maxHeartbeats 2000000 in
theorem alive08 (w : World) :
    Calls Try.prog 8 #[] w fun e w' => e = .returned (.bool true) ∧ Below w.heap.size w w' := by
  go_enter Try.func8, Try.ntmps8
  go_wp2_with fail
  refine (new_any _ _).mono ?_
  rintro e w1 ⟨rfl, hr, hb, _⟩
  have HR := Lib.hid hr
  have HO := Lib.hid ((Own.refl w).trans hb)
  clear hr hb
  go_wp2_with fail
  refine (al_read _ _ HR.out).mono ?_
  rintro e w2 ⟨rfl, hr, hu⟩
  have HR2 := Lib.hid hr
  have HO2 := Lib.hid (HO.out.upd1 hu (Nat.le_refl _))
  clear hr hu
  go_wp2_with fail
  refine (al_uints _).mono ?_
  rintro e w3 ⟨rfl, hb⟩
  have HR3 := Lib.hid (HR2.out.keep (hb.block _ (blk_lt HR2.out)))
  have HO3 := Lib.hid (HO2.out.trans hb)
  clear hb
  go_wp2_with fail
  refine (al_ints _).mono ?_
  rintro e w4 ⟨rfl, hb⟩
  have HR4 := Lib.hid (HR3.out.keep (hb.block _ (blk_lt HR3.out)))
  have HO4 := Lib.hid (HO3.out.trans hb)
  clear hb
  go_wp2_with fail
  refine (al_list _).mono ?_
  rintro e w5 ⟨rfl, hb⟩
  have HR5 := Lib.hid (HR4.out.keep (hb.block _ (blk_lt HR4.out)))
  have HO5 := Lib.hid (HO4.out.trans hb)
  clear hb
  go_wp2_with fail
  refine (al_bools _).mono ?_
  rintro e w6 ⟨rfl, hb⟩
  have HR6 := Lib.hid (HR5.out.keep (hb.block _ (blk_lt HR5.out)))
  have HO6 := Lib.hid (HO5.out.trans hb)
  clear hb
  go_wp2_with fail
  refine (err_any _ _ _ _ HR6.out).mono ?_
  rintro e w7 ⟨rfl, rfl⟩
  go_wp2_with fail
  go_ret
  exact ⟨rfl, HO6.out.below⟩

end Go.Proofs.Ytdceefbhkonndaa
