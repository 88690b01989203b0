/-
  THE WALK of the statements' small known answers for layer 8.
-/
import Derived.Test.YtboplbcfoooenaaWireRead4
namespace Go.Proofs.Ytboplbcfoooenaa
open Go.RowKit

theorem RowIs.new (w : World) (vs : List Value) (t : TypeId) (fr : Nat × Nat) : RowIs (w.alloc (.cells vs.toArray t fr)) 1 (some ⟨w.heap.size, 0, none⟩) (vs.map fun v => [v]) := fun i hi => by
  have hi' : i < vs.length := by simpa using hi
  refine ⟨w.heap.size, 0, rfl, ?_⟩
  have := (CellsAt.new w vs t fr).sub i 1 (by omega)
  rw [Nat.zero_add] at this
  rw [Nat.zero_add, Nat.mul_one]
  have e : (vs.drop i).take 1 = [vs[i]] := by rw [List.drop_eq_getElem_cons hi']; rfl
  rw [e] at this
  simpa using this
theorem below_alloc {w w' : World} {o : Obj} (hb : Below (w.alloc o).heap.size (w.alloc o) w') : Below w.heap.size w w' := ((Own.refl w).alloc o).below.trans (hb.mono (by simp))
theorem al_uints (w : World) :
    Calls Try.prog 16 #[.slice (some ⟨w.heap.size, 0, none⟩) 4 4] (w.alloc (.cells #[.int .u64 0, .int .u64 127, .int .u64 128, .int .u64 300] 25)) fun e w' => e = .returned (.string ⟨#[0, 127, 128, 1, 172, 2]⟩) ∧ Below w.heap.size w w' := by
  refine (uints_any _ (some ⟨w.heap.size, 0, none⟩) 4 [0, 127, 128, 300] (RowIs.new w [.int .u64 0, .int .u64 127, .int .u64 128, .int .u64 300] _ _) (by decide) (by decide)).mono ?_
  rintro e w' ⟨rfl, hb⟩
  exact ⟨by rfl, below_alloc hb⟩
theorem al_read (w : World) (b : Nat) (h : RdIs w b ⟨#[128, 0]⟩ 0) :
    Calls Try.prog 19 #[.pointer (some ⟨b, 0, none⟩), .int .u64 9] w fun e w' => e = .returned (.int .u64 0) ∧ RdStep w w' b ⟨#[128, 0]⟩ 7 := by
  have e : uRes ⟨#[128, 0]⟩ 9 = (0, ⟨#[128, 0]⟩, 7) := rfl
  have := uint_read w b ⟨#[128, 0]⟩ 9 (by decide) h
  rw [e] at this
  exact this
theorem Own.upd1 {w0 w w' : World} {b : Nat} (h : Own w0.heap.size w0 w) (u : Upd w w' [b]) (hb : w0.heap.size ≤ b) : Own w0.heap.size w0 w' := h.upd u (by simpa using hb)

end Go.Proofs.Ytboplbcfoooenaa
