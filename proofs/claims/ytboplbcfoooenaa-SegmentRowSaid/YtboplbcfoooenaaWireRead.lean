/-
  THE WALKS of package wire's Reader: what each call does of bytes.
-/
import Derived.Test.YtboplbcfoooenaaWireNum
namespace Go.Proofs.Ytboplbcfoooenaa
open Go.RowKit

/-- A number that is read: it, its bytes, the fault. -/
theorem rd_cases (s : ByteArray) : ∃ x n e : Nat, Wr.rd (L s) = (x, n, e) ∧ ((e = 0 ∧ 1 ≤ n ∧ n ≤ s.size ∧ n ≤ 10 ∧ x < 18446744073709551616 ∧ (L s).take n = Wr.uv x) ∨ (x = 0 ∧ n = 0 ∧ (e = 6 ∨ e = 7))) := by
  refine ⟨_, _, _, rfl, ?_⟩
  by_cases h : (Wr.rd (L s)).2.2 = 0
  · obtain ⟨h1, h2, h3, h4, h5⟩ := Wr.rd_ok _ h
    rw [L_size] at h3
    exact .inl ⟨h, h2, h3, h4, h5, h1⟩
  · exact .inr (Wr.rdG_err _ _ _ h)

/-- A reader that was made. -/
def RdIs (w : World) (b : Nat) (s : ByteArray) (e : Nat) : Prop := w.heap[b]? = some (.cells #[.string s, .int .i64 e, .bool true] 78 (0, 0))
theorem RdIs.keep {w w' : World} {b : Nat} {s : ByteArray} {e : Nat} (h : RdIs w b s e) (hb : w'.heap[b]? = w.heap[b]?) : RdIs w' b s e := hb.trans h
/-- Memory that is made behind it leaves it. -/
theorem RdIs.keep2 {w : World} {b : Nat} {s : ByteArray} {e : Nat} {o1 o2 : Obj} {n : Nat} (h : RdIs w b s e) (_ : b < n) : RdIs ((w.alloc o1).alloc o2) b s e := by
  have hl := blk_lt h
  exact (Below.heap_alloc _ _ _ (by simp; omega)).trans ((Below.heap_alloc _ _ _ hl).trans h)
/-- What a call leaves: the reader, and nothing else of what was there has turned. -/
theorem RdIs.cells {w : World} {b : Nat} {s : ByteArray} {e : Nat} (h : RdIs w b s e) : w.cell? ⟨b, 0, none⟩ = some (.string s) ∧ w.cell? ⟨b, 1, none⟩ = some (.int .i64 e) ∧ w.cell? ⟨b, 2, none⟩ = some (.bool true) ∧ w.frozen? ⟨b, 0, none⟩ = false ∧ w.frozen? ⟨b, 1, none⟩ = false := by
  refine ⟨?_, ?_, ?_, frozen_of_row w b 0 _ _ h, frozen_of_row w b 1 _ _ h⟩
  all_goals rw [cell_of_row w b _ _ _ _ h]; rfl
theorem RdIs.setS {w : World} {b : Nat} {s : ByteArray} {e : Nat} (h : RdIs w b s e) (s' : ByteArray) : RdIs (w.setCell ⟨b, 0, none⟩ (.string s')) b s' e := by
  unfold RdIs; rw [heap_set _ h]; rfl
theorem RdIs.setE {w : World} {b : Nat} {s : ByteArray} {e : Nat} (h : RdIs w b s e) (e' : Nat) : RdIs (w.setCell ⟨b, 1, none⟩ (.int .i64 e')) b s e' := by
  unfold RdIs; rw [heap_set _ h]; rfl
def RdStep (w w' : World) (b : Nat) (s : ByteArray) (e : Nat) : Prop := RdIs w' b s e ∧ Upd w w' [b]

set_option maxHeartbeats 1000000 in
theorem uint_closure (w : World) (B1 B0 : Nat) (s : ByteArray) (most : Nat) (v : Value) (hs : s.size ≤ 1073741824) (h1 : w.heap[B1]? = some (.cells #[v] 25 (0, 0))) (h0 : w.heap[B0]? = some (.cells #[.int .u64 most] 25 (0, 0))) (hne : B0 ≠ B1) :
    Calls Try.prog 31 #[.string s, .pointer (some ⟨B1, 0, none⟩), .pointer (some ⟨B0, 0, none⟩)] w fun e w' =>
      (∃ x n er : Nat, Wr.rd (L s) = (x, n, er) ∧ e = .returned (.tuple #[.int .i64 n, .int .i64 (if er = 0 ∧ most < x then 80 else er : Nat)]) ∧ w' = w.setCell ⟨B1, 0, none⟩ (.int .u64 x)) := by
  have HN := Lib.hid (fun w => number_any s w hs)
  obtain ⟨x, n, er, hr, hc⟩ := rd_cases s
  rw [hr] at HN
  have c1 := cell_of_row w B1 0 _ _ _ h1
  have f1 := frozen_of_row w B1 0 _ _ h1
  have c0 := cell_of_row w B0 0 _ _ _ h0
  simp only [List.getElem?_toArray, List.getElem?_cons_zero] at c1 c0
  have H1 := Lib.hid h1
  have HR := Lib.hid hr
  have HC := Lib.hid hc
  clear hr hs
  go_enter Try.func31, Try.ntmps31
  go_wp2_with fail
  refine (HN.out _).mono ?_
  rintro e w1 ⟨rfl, rfl⟩
  unfold rdV
  rcases HC.out with ⟨rfl, _⟩ | ⟨rfl, rfl, rfl | rfl⟩
  · by_cases hm : most < x
    · have hmI : (most : Int) < x := by omega
      go_wp2_with fail
      refine bodyPost_ret (v := .tuple #[.int .i64 n, .int .i64 80]) (by simp [results, Try.results31, go_sem]) rfl ⟨x, n, 0, HR.out, by rw [if_pos ⟨rfl, hm⟩]; rfl, rfl⟩
    · have hmI : ¬ (most : Int) < x := by omega
      go_wp2_with fail
      refine bodyPost_ret (v := .tuple #[.int .i64 n, .int .i64 0]) (by simp [results, Try.results31, go_sem]) rfl ⟨x, n, 0, HR.out, by rw [if_neg (by omega)]; rfl, rfl⟩
  · go_wp2_with fail
    refine bodyPost_ret (v := .tuple #[.int .i64 0, .int .i64 6]) (by simp [results, Try.results31, go_sem]) rfl ⟨0, 0, 6, HR.out, by rw [if_neg (by omega)]; rfl, rfl⟩
  · go_wp2_with fail
    refine bodyPost_ret (v := .tuple #[.int .i64 0, .int .i64 7]) (by simp [results, Try.results31, go_sem]) rfl ⟨0, 0, 7, HR.out, by rw [if_neg (by omega)]; rfl, rfl⟩

/-- What Uint makes of bytes. -/
def uRes (s : ByteArray) (most : Nat) : Nat × ByteArray × Nat :=
  if (Wr.rd (L s)).2.2 = 0 then (if most < (Wr.rd (L s)).1 then (0, s, 80) else ((Wr.rd (L s)).1, s.extract (Wr.rd (L s)).2.1 s.size, 0)) else (0, s, (Wr.rd (L s)).2.2)
set_option maxHeartbeats 1000000 in
theorem uint_read (w : World) (b : Nat) (s : ByteArray) (most : Nat) (hs : s.size ≤ 1073741824) (h : RdIs w b s 0) :
    Calls Try.prog 19 #[.pointer (some ⟨b, 0, none⟩), .int .u64 most] w fun e w' => e = .returned (.int .u64 (uRes s most).1) ∧ RdStep w w' b (uRes s most).2.1 (uRes s most).2.2 := by
  have HB := Lib.hid h
  have hblt := blk_lt h
  have hb1 := heap_alloc2_old w (.cells #[.int .u64 most] 25 (0, 0)) (.cells #[.int .u64 0] 25 (0, 0))
  have hb2 := heap_alloc2_new w (.cells #[.int .u64 most] 25 (0, 0)) (.cells #[.int .u64 0] 25 (0, 0))
  have hC := uint_closure _ (w.heap.size + 1) w.heap.size s most _ hs hb2 hb1 (by omega)
  have HC := Lib.hid hC
  obtain ⟨c0, c1, c2, f0, f1⟩ := h.cells
  have hn1 : b ≠ w.heap.size + 1 := by omega
  clear hC h hb1 hb2
  go_enter Try.func19, Try.ntmps19
  go_wp2_with (first | (go_at_call 30; go_in))
  refine HC.out.mono ?_
  rintro e w2 ⟨x, n, er, hr, rfl, rfl⟩
  obtain ⟨x', n', er', hr', hcs⟩ := rd_cases s
  rw [hr] at hr'
  cases hr'
  have HR := Lib.hid hr
  have HCS := Lib.hid hcs
  clear hr
  rcases hcs with ⟨rfl, _, hn, _⟩ | ⟨rfl, rfl, he⟩
  · by_cases hm : most < x
    · have HE : Hid (uRes s most = (0, s, 80)) := Lib.hid (by unfold uRes; rw [HR.out]; simp [hm])
      rw [if_pos ⟨rfl, hm⟩]
      clear hm
      go_wp2_with fail
      refine bodyPost_ret (v := .int .u64 (0)) (by simp [results, Try.results19, go_sem]) rfl ⟨by rw [HE.out]; rfl, by rw [HE.out]; exact ⟨((HB.out.setE 80).keep2 hblt), (((Upd.refl w [b]).setCell (.inl (by simp)) _).alloc _).alloc _⟩⟩
    · have HE : Hid (uRes s most = (x, s.extract n s.size, 0)) := Lib.hid (by unfold uRes; rw [HR.out]; simp [hm])
      rw [if_neg (by omega)]
      clear hm
      have hnI : (0 : Int) ≤ n ∧ (n : Int) ≤ s.size := by omega
      go_wp2_with fail
      refine bodyPost_ret (v := .int .u64 (x)) (by simp [results, Try.results19, go_sem]) rfl ⟨by rw [HE.out], by rw [HE.out]; exact ⟨((HB.out.setS (s.extract n s.size)).keep2 hblt), (((Upd.refl w [b]).setCell (.inl (by simp)) _).alloc _).alloc _⟩⟩
  · rw [if_neg (by omega)]
    rcases he with rfl | rfl
    · have HE : Hid (uRes s most = (0, s, 6)) := Lib.hid (by unfold uRes; rw [HR.out]; simp)
      go_wp2_with fail
      refine bodyPost_ret (v := .int .u64 (0)) (by simp [results, Try.results19, go_sem]) rfl ⟨by rw [HE.out]; rfl, by rw [HE.out]; exact ⟨((HB.out.setE 6).keep2 hblt), (((Upd.refl w [b]).setCell (.inl (by simp)) _).alloc _).alloc _⟩⟩
    · have HE : Hid (uRes s most = (0, s, 7)) := Lib.hid (by unfold uRes; rw [HR.out]; simp)
      go_wp2_with fail
      refine bodyPost_ret (v := .int .u64 (0)) (by simp [results, Try.results19, go_sem]) rfl ⟨by rw [HE.out]; rfl, by rw [HE.out]; exact ⟨((HB.out.setE 7).keep2 hblt), (((Upd.refl w [b]).setCell (.inl (by simp)) _).alloc _).alloc _⟩⟩

end Go.Proofs.Ytboplbcfoooenaa
