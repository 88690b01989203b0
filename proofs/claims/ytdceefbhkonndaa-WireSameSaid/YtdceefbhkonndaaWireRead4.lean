/-
  THE WALKS of package wire's Reader: a reader with a fault, a reader that is not there; New, Err, Left, End.
-/
import Derived.Test.YtdceefbhkonndaaWireRead3
namespace Go.Proofs.Ytdceefbhkonndaa
open Go.RowKit

theorem new_any (w : World) (s : ByteArray) :
    Calls Try.prog 17 #[.string s] w fun x w' => x = .returned (.pointer (some ⟨w.heap.size, 0, none⟩)) ∧ RdIs w' w.heap.size s 0 ∧ Below w.heap.size w w' ∧ w.heap.size < w'.heap.size := by
  go_enter Try.func17, Try.ntmps17
  go_wp2_with fail
  go_ret
  exact ⟨rfl, heap_alloc_new w _, ((Own.refl w).alloc _).below, by simp⟩
theorem err_any (w : World) (b : Nat) (s : ByteArray) (e : Nat) (h : RdIs w b s e) :
    Calls Try.prog 21 #[.pointer (some ⟨b, 0, none⟩)] w fun x w' => x = .returned (.int .i64 e) ∧ w' = w := by
  obtain ⟨c0, c1, c2, f0, f1⟩ := h.cells
  clear h
  go_enter Try.func21, Try.ntmps21
  go_wp2_with fail
  go_ret
  exact ⟨rfl, rfl⟩
theorem err_nil (w : World) :
    Calls Try.prog 21 #[.pointer none] w fun x w' => x = .returned (.int .i64 1) ∧ w' = w := by
  go_enter Try.func21, Try.ntmps21
  go_wp2_with fail
  go_ret
  exact ⟨rfl, rfl⟩
theorem left_any (w : World) (b : Nat) (s : ByteArray) (e : Nat) (h : RdIs w b s e) :
    Calls Try.prog 23 #[.pointer (some ⟨b, 0, none⟩)] w fun x w' => x = .returned (.int .i64 s.size) ∧ w' = w := by
  obtain ⟨c0, c1, c2, f0, f1⟩ := h.cells
  clear h
  go_enter Try.func23, Try.ntmps23
  go_wp2_with fail
  go_ret
  exact ⟨rfl, rfl⟩
theorem left_nil (w : World) :
    Calls Try.prog 23 #[.pointer none] w fun x w' => x = .returned (.int .i64 0) ∧ w' = w := by
  go_enter Try.func23, Try.ntmps23
  go_wp2_with fail
  go_ret
  exact ⟨rfl, rfl⟩
theorem end_fault (w : World) (b : Nat) (s : ByteArray) (e : Nat) (h : RdIs w b s e) (he : ((e : Int) == 0) = false) :
    Calls Try.prog 27 #[.pointer (some ⟨b, 0, none⟩)] w fun x w' => x = .returned (.int .i64 e) ∧ w' = w := by
  have HE := Lib.hid (fun w h => err_any w b s e h)
  have H := Lib.hid h
  clear h
  go_enter Try.func27, Try.ntmps27
  go_wp2_with fail
  refine (HE.out _ H.out).mono ?_
  rintro x w' ⟨rfl, rfl⟩
  go_wp2_with fail
  refine (HE.out _ H.out).mono ?_
  rintro x w' ⟨rfl, rfl⟩
  go_wp2_with fail
  go_ret
  exact ⟨rfl, rfl⟩
theorem end_ok (w : World) (b : Nat) (h : RdIs w b ⟨#[]⟩ 0) :
    Calls Try.prog 27 #[.pointer (some ⟨b, 0, none⟩)] w fun x w' => x = .returned (.int .i64 0) ∧ w' = w := by
  have HE := Lib.hid (fun w h => err_any w b ⟨#[]⟩ 0 h)
  have H := Lib.hid h
  obtain ⟨c0, c1, c2, f0, f1⟩ := h.cells
  clear h
  go_enter Try.func27, Try.ntmps27
  go_wp2_with fail
  refine (HE.out _ H.out).mono ?_
  rintro x w' ⟨rfl, rfl⟩
  go_wp2_with fail
  refine (HE.out _ H.out).mono ?_
  rintro x w' ⟨rfl, rfl⟩
  go_wp2_with fail
  go_ret
  exact ⟨rfl, rfl⟩
theorem end_nil (w : World) :
    Calls Try.prog 27 #[.pointer none] w fun x w' => x = .returned (.int .i64 1) ∧ w' = w := by
  go_enter Try.func27, Try.ntmps27
  go_wp2_with fail
  refine (err_nil _).mono ?_
  rintro x w' ⟨rfl, rfl⟩
  go_wp2_with fail
  refine (err_nil _).mono ?_
  rintro x w' ⟨rfl, rfl⟩
  go_wp2_with fail
  go_ret
  exact ⟨rfl, rfl⟩
theorem uint_fault (w : World) (b : Nat) (s : ByteArray) (e : Nat) (m : Nat) (h : RdIs w b s e) (he : ((e : Int) != 0) = true) :
    Calls Try.prog 18 #[.pointer (some ⟨b, 0, none⟩), .int .u64 m] w fun x w' => x = .returned (.int .u64 0) ∧ Below w.heap.size w w' := by
  obtain ⟨c0, c1, c2, f0, f1⟩ := h.cells
  have hblt := blk_lt h
  have hbl1 : b < w.heap.size + 1 := by omega
  have hbl2 : b < w.heap.size + 1 + 1 := by omega
  clear h
  go_enter Try.func18, Try.ntmps18
  go_wp2_with (first | (go_at_call 31; go_in))
  exact bodyPost_ret (by simp [results, Try.results18, go_sem]) rfl ⟨rfl, (((Own.refl w).alloc _).alloc _).below⟩
theorem uint_nil (w : World) (m : Nat) :
    Calls Try.prog 18 #[.pointer none, .int .u64 m] w fun x w' => x = .returned (.int .u64 0) ∧ Below w.heap.size w w' := by
  go_enter Try.func18, Try.ntmps18
  go_wp2_with (first | (go_at_call 31; go_in))
  exact bodyPost_ret (by simp [results, Try.results18, go_sem]) rfl ⟨rfl, (((Own.refl w).alloc _).alloc _).below⟩
theorem int_fault (w : World) (b : Nat) (s : ByteArray) (e : Nat) (lo : Int) (hi : Int) (h : RdIs w b s e) (he : ((e : Int) != 0) = true) :
    Calls Try.prog 19 #[.pointer (some ⟨b, 0, none⟩), .int .i64 lo, .int .i64 hi] w fun x w' => x = .returned (.int .i64 0) ∧ Below w.heap.size w w' := by
  obtain ⟨c0, c1, c2, f0, f1⟩ := h.cells
  have hblt := blk_lt h
  have hbl1 : b < w.heap.size + 1 := by omega
  have hbl2 : b < w.heap.size + 1 + 1 := by omega
  clear h
  go_enter Try.func19, Try.ntmps19
  go_wp2_with (first | (go_at_call 31; go_in))
  exact bodyPost_ret (by simp [results, Try.results19, go_sem]) rfl ⟨rfl, ((((Own.refl w).alloc _).alloc _).alloc _).below⟩
theorem int_nil (w : World) (lo : Int) (hi : Int) :
    Calls Try.prog 19 #[.pointer none, .int .i64 lo, .int .i64 hi] w fun x w' => x = .returned (.int .i64 0) ∧ Below w.heap.size w w' := by
  go_enter Try.func19, Try.ntmps19
  go_wp2_with (first | (go_at_call 31; go_in))
  exact bodyPost_ret (by simp [results, Try.results19, go_sem]) rfl ⟨rfl, ((((Own.refl w).alloc _).alloc _).alloc _).below⟩
theorem bool_fault (w : World) (b : Nat) (s : ByteArray) (e : Nat) (h : RdIs w b s e) (he : ((e : Int) != 0) = true) :
    Calls Try.prog 26 #[.pointer (some ⟨b, 0, none⟩)] w fun x w' => x = .returned (.bool false) ∧ Below w.heap.size w w' := by
  obtain ⟨c0, c1, c2, f0, f1⟩ := h.cells
  have hblt := blk_lt h
  have hbl1 : b < w.heap.size + 1 := by omega
  have hbl2 : b < w.heap.size + 1 + 1 := by omega
  clear h
  go_enter Try.func26, Try.ntmps26
  go_wp2_with (first | (go_at_call 31; go_in))
  exact bodyPost_ret (by simp [results, Try.results26, go_sem]) rfl ⟨rfl, ((Own.refl w).alloc _).below⟩
theorem bool_nil (w : World) :
    Calls Try.prog 26 #[.pointer none] w fun x w' => x = .returned (.bool false) ∧ Below w.heap.size w w' := by
  go_enter Try.func26, Try.ntmps26
  go_wp2_with (first | (go_at_call 31; go_in))
  exact bodyPost_ret (by simp [results, Try.results26, go_sem]) rfl ⟨rfl, ((Own.refl w).alloc _).below⟩
theorem text_fault (w : World) (b : Nat) (s : ByteArray) (e : Nat) (m : Int) (h : RdIs w b s e) (he : ((e : Int) != 0) = true) :
    Calls Try.prog 20 #[.pointer (some ⟨b, 0, none⟩), .int .i64 m] w fun x w' => x = .returned (.string ⟨#[]⟩) ∧ Below w.heap.size w w' := by
  obtain ⟨c0, c1, c2, f0, f1⟩ := h.cells
  have hblt := blk_lt h
  have hbl1 : b < w.heap.size + 1 := by omega
  have hbl2 : b < w.heap.size + 1 + 1 := by omega
  clear h
  go_enter Try.func20, Try.ntmps20
  go_wp2_with (first | (go_at_call 31; go_in))
  exact bodyPost_ret (by simp [results, Try.results20, go_sem]) rfl ⟨rfl, (((Own.refl w).alloc _).alloc _).below⟩
theorem text_nil (w : World) (m : Int) :
    Calls Try.prog 20 #[.pointer none, .int .i64 m] w fun x w' => x = .returned (.string ⟨#[]⟩) ∧ Below w.heap.size w w' := by
  go_enter Try.func20, Try.ntmps20
  go_wp2_with (first | (go_at_call 31; go_in))
  exact bodyPost_ret (by simp [results, Try.results20, go_sem]) rfl ⟨rfl, (((Own.refl w).alloc _).alloc _).below⟩
theorem count_fault (w : World) (b : Nat) (s : ByteArray) (e : Nat) (m : Int) (h : RdIs w b s e) (he : ((e : Int) != 0) = true) :
    Calls Try.prog 28 #[.pointer (some ⟨b, 0, none⟩), .int .i64 m] w fun x w' => x = .returned (.int .i64 0) ∧ Below w.heap.size w w' := by
  obtain ⟨c0, c1, c2, f0, f1⟩ := h.cells
  have hblt := blk_lt h
  have hbl1 : b < w.heap.size + 1 := by omega
  have hbl2 : b < w.heap.size + 1 + 1 := by omega
  clear h
  go_enter Try.func28, Try.ntmps28
  go_wp2_with (first | (go_at_call 31; go_in))
  exact bodyPost_ret (by simp [results, Try.results28, go_sem]) rfl ⟨rfl, (((Own.refl w).alloc _).alloc _).below⟩
theorem count_nil (w : World) (m : Int) :
    Calls Try.prog 28 #[.pointer none, .int .i64 m] w fun x w' => x = .returned (.int .i64 0) ∧ Below w.heap.size w w' := by
  go_enter Try.func28, Try.ntmps28
  go_wp2_with (first | (go_at_call 31; go_in))
  exact bodyPost_ret (by simp [results, Try.results28, go_sem]) rfl ⟨rfl, (((Own.refl w).alloc _).alloc _).below⟩
theorem list_fault (w : World) (b : Nat) (s : ByteArray) (e : Nat) (m k : Int) (h : RdIs w b s e) (he : ((e : Int) != 0) = true) :
    Calls Try.prog 25 #[.pointer (some ⟨b, 0, none⟩), .int .i64 m, .int .i64 k] w fun x w' => x = .returned (.slice none 0 0) ∧ Below w.heap.size w w' := by
  have H := Lib.hid h
  have HC := Lib.hid (fun w h => count_fault w b s e m h he)
  have HE := Lib.hid (fun w h => err_any w b s e h)
  clear h
  go_enter Try.func25, Try.ntmps25
  go_wp2_with fail
  refine (HC.out _ H.out).mono ?_
  rintro x w' ⟨rfl, hb⟩
  have HB := Lib.hid hb
  have H2 := Lib.hid (H.out.keep (hb.block b (blk_lt H.out)))
  clear hb
  go_wp2_with fail
  go_loopw [6, 10] (fun vl vi wr => vl = .slice none 0 0 ∧ vi = .int .i64 0 ∧ wr = w') (fun _ _ _ => 0)
  case atStart => exact ⟨rfl, rfl, rfl⟩
  obtain ⟨rfl, rfl, rfl⟩ := hrel
  go_wp2_with fail
  refine (HE.out _ H2.out).mono ?_
  rintro x w'' ⟨rfl, rfl⟩
  go_wp2_with fail
  go_ret
  exact ⟨rfl, HB.out⟩
theorem list_nil (w : World) (m k : Int) :
    Calls Try.prog 25 #[.pointer none, .int .i64 m, .int .i64 k] w fun x w' => x = .returned (.slice none 0 0) ∧ Below w.heap.size w w' := by
  go_enter Try.func25, Try.ntmps25
  go_wp2_with fail
  refine (count_nil _ m).mono ?_
  rintro x w' ⟨rfl, hb⟩
  have HB := Lib.hid hb
  clear hb
  go_wp2_with fail
  go_loopw [6, 10] (fun vl vi wr => vl = .slice none 0 0 ∧ vi = .int .i64 0 ∧ wr = w') (fun _ _ _ => 0)
  case atStart => exact ⟨rfl, rfl, rfl⟩
  obtain ⟨rfl, rfl, rfl⟩ := hrel
  go_wp2_with fail
  refine (err_nil _).mono ?_
  rintro x w'' ⟨rfl, rfl⟩
  go_wp2_with fail
  go_ret
  exact ⟨rfl, HB.out⟩

end Go.Proofs.Ytdceefbhkonndaa
