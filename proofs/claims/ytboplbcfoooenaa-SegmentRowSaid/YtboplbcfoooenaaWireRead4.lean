/-
  THE WALKS of package wire's Reader: a reader with a fault, a reader that is not there; New, Err, Left, End.
-/
import Derived.Test.YtboplbcfoooenaaWireRead3
namespace Go.Proofs.Ytboplbcfoooenaa
open Go.RowKit

theorem new_any (w : World) (s : ByteArray) :
    Calls Try.prog 18 #[.string s] w fun x w' => x = .returned (.pointer (some ⟨w.heap.size, 0, none⟩)) ∧ RdIs w' w.heap.size s 0 ∧ Below w.heap.size w w' ∧ w.heap.size < w'.heap.size := by
  go_enter Try.func18, Try.ntmps18
  go_wp2_with fail
  go_ret
  exact ⟨rfl, heap_alloc_new w _, ((Own.refl w).alloc _).below, by simp⟩
theorem err_any (w : World) (b : Nat) (s : ByteArray) (e : Nat) (h : RdIs w b s e) :
    Calls Try.prog 20 #[.pointer (some ⟨b, 0, none⟩)] w fun x w' => x = .returned (.int .i64 e) ∧ w' = w := by
  obtain ⟨c0, c1, c2, f0, f1⟩ := h.cells
  clear h
  go_enter Try.func20, Try.ntmps20
  go_wp2_with fail
  go_ret
  exact ⟨rfl, rfl⟩
theorem err_nil (w : World) :
    Calls Try.prog 20 #[.pointer none] w fun x w' => x = .returned (.int .i64 1) ∧ w' = w := by
  go_enter Try.func20, Try.ntmps20
  go_wp2_with fail
  go_ret
  exact ⟨rfl, rfl⟩
theorem left_any (w : World) (b : Nat) (s : ByteArray) (e : Nat) (h : RdIs w b s e) :
    Calls Try.prog 21 #[.pointer (some ⟨b, 0, none⟩)] w fun x w' => x = .returned (.int .i64 s.size) ∧ w' = w := by
  obtain ⟨c0, c1, c2, f0, f1⟩ := h.cells
  clear h
  go_enter Try.func21, Try.ntmps21
  go_wp2_with fail
  go_ret
  exact ⟨rfl, rfl⟩
theorem left_nil (w : World) :
    Calls Try.prog 21 #[.pointer none] w fun x w' => x = .returned (.int .i64 0) ∧ w' = w := by
  go_enter Try.func21, Try.ntmps21
  go_wp2_with fail
  go_ret
  exact ⟨rfl, rfl⟩
theorem uint_fault (w : World) (b : Nat) (s : ByteArray) (e : Nat) (m : Nat) (h : RdIs w b s e) (he : ((e : Int) != 0) = true) :
    Calls Try.prog 19 #[.pointer (some ⟨b, 0, none⟩), .int .u64 m] w fun x w' => x = .returned (.int .u64 0) ∧ Below w.heap.size w w' := by
  obtain ⟨c0, c1, c2, f0, f1⟩ := h.cells
  have hblt := blk_lt h
  have hbl1 : b < w.heap.size + 1 := by omega
  have hbl2 : b < w.heap.size + 1 + 1 := by omega
  clear h
  go_enter Try.func19, Try.ntmps19
  go_wp2_with (first | (go_at_call 30; go_in))
  exact bodyPost_ret (by simp [results, Try.results19, go_sem]) rfl ⟨rfl, (((Own.refl w).alloc _).alloc _).below⟩
theorem uint_nil (w : World) (m : Nat) :
    Calls Try.prog 19 #[.pointer none, .int .u64 m] w fun x w' => x = .returned (.int .u64 0) ∧ Below w.heap.size w w' := by
  go_enter Try.func19, Try.ntmps19
  go_wp2_with (first | (go_at_call 30; go_in))
  exact bodyPost_ret (by simp [results, Try.results19, go_sem]) rfl ⟨rfl, (((Own.refl w).alloc _).alloc _).below⟩
end Go.Proofs.Ytboplbcfoooenaa
