/-
  THE WALKS of package wire's Reader: Text, Count.
-/
import Derived.Test.YtdceefbhkonndaaWireRead2
namespace Go.Proofs.Ytdceefbhkonndaa
open Go.RowKit

/-- A size that is read: it, its number's bytes, the fault. -/
def sRes (s : ByteArray) (most : Int) : Nat × Nat × Nat :=
  if (Wr.rd (L s)).2.2 = 0 then (if most < (Wr.rd (L s)).1 then (0, 0, 5) else if s.size - (Wr.rd (L s)).2.1 < (Wr.rd (L s)).1 then (0, 0, 6) else ((Wr.rd (L s)).1, (Wr.rd (L s)).2.1, 0)) else (0, 0, (Wr.rd (L s)).2.2)
theorem sRes_cases (s : ByteArray) (most : Int) : ∃ x n e : Nat, sRes s most = (x, n, e) ∧ ((e = 0 ∧ n + x ≤ s.size) ∨ (x = 0 ∧ n = 0 ∧ (e = 5 ∨ e = 6 ∨ e = 7))) := by
  refine ⟨(sRes s most).1, (sRes s most).2.1, (sRes s most).2.2, rfl, ?_⟩
  obtain ⟨x, n, e, hr, h⟩ := rd_cases s
  unfold sRes
  rw [hr]
  rcases h with ⟨rfl, _, h1, _⟩ | ⟨rfl, rfl, rfl | rfl⟩
  · simp only [if_true]
    split
    · simp
    · split
      · simp
      · simp; omega
  · simp
  · simp

set_option maxHeartbeats 1000000 in
theorem size_any (s : ByteArray) (most : Int) (w : World) (hs : s.size ≤ 1073741824) (hm1 : -9223372036854775808 ≤ most) (hm2 : most ≤ 9223372036854775807) :
    Calls Try.prog 36 #[.string s, .int .i64 most] w fun e w' => e = .returned (.tuple #[.int .i64 (sRes s most).1, .int .i64 (sRes s most).2.1, .int .i64 (sRes s most).2.2]) ∧ w' = w := by
  have hsI : (0 : Int) ≤ s.size ∧ (s.size : Int) ≤ 1073741824 := by omega
  have HN := Lib.hid (fun w => number_any s w hs)
  obtain ⟨x, n, er, hr, hc⟩ := rd_cases s
  rw [hr] at HN
  have HR := Lib.hid hr
  have HC := Lib.hid hc
  clear hr hs hc
  go_enter Try.func36, Try.ntmps36
  go_wp2_with fail
  refine (HN.out _).mono ?_
  rintro e w1 ⟨rfl, rfl⟩
  unfold rdV
  rcases HC.out with ⟨rfl, h1, h2, h3, h4, _⟩ | ⟨rfl, rfl, rfl | rfl⟩
  · have hxI : (0 : Int) ≤ x ∧ (x : Int) ≤ 18446744073709551615 := by omega
    have hnI : (1 : Int) ≤ n ∧ (n : Int) ≤ s.size := by omega
    by_cases hneg : most < 0
    · have HE : Hid (sRes s most = (0, 0, 5)) := Lib.hid (by unfold sRes; rw [HR.out]; simp only [if_true]; rw [if_pos (by omega)])
      go_wp2_with fail
      exact bodyPost_ret (v := .tuple #[.int .i64 0, .int .i64 0, .int .i64 5]) (by simp [results, Try.results36, go_sem]) rfl ⟨by rw [HE.out]; rfl, rfl⟩
    · have h0I : (0 : Int) ≤ most := by omega
      by_cases hm : most < x
      · have HE : Hid (sRes s most = (0, 0, 5)) := Lib.hid (by unfold sRes; rw [HR.out]; simp only [if_true]; rw [if_pos hm])
        clear hneg
        go_wp2_with fail
        exact bodyPost_ret (v := .tuple #[.int .i64 0, .int .i64 0, .int .i64 5]) (by simp [results, Try.results36, go_sem]) rfl ⟨by rw [HE.out]; rfl, rfl⟩
      · have hmI : ¬ most < (x : Int) := hm
        have hx64 : IntKind.i64.wrap (x : Int) = x := IntWalk.i64_in _ (by omega)
        by_cases hl : s.size - n < x
        · have HE : Hid (sRes s most = (0, 0, 6)) := Lib.hid (by unfold sRes; rw [HR.out]; simp only [if_true]; rw [if_neg hm, if_pos hl])
          have hlI : (s.size : Int) - n < x := by omega
          clear hneg hl
          go_wp2_with fail
          exact bodyPost_ret (v := .tuple #[.int .i64 0, .int .i64 0, .int .i64 6]) (by simp [results, Try.results36, go_sem]) rfl ⟨by rw [HE.out]; rfl, rfl⟩
        · have HE : Hid (sRes s most = (x, n, 0)) := Lib.hid (by unfold sRes; rw [HR.out]; simp only [if_true]; rw [if_neg hm, if_neg hl])
          have hlI : ¬ (s.size : Int) - n < x := by omega
          clear hneg hl
          go_wp2_with fail
          exact bodyPost_ret (v := .tuple #[.int .i64 x, .int .i64 n, .int .i64 0]) (by simp [results, Try.results36, go_sem]) rfl ⟨by rw [HE.out]; rfl, rfl⟩
  · have HE : Hid (sRes s most = (0, 0, 6)) := Lib.hid (by unfold sRes; rw [HR.out]; simp)
    go_wp2_with fail
    exact bodyPost_ret (v := .tuple #[.int .i64 0, .int .i64 0, .int .i64 6]) (by simp [results, Try.results36, go_sem]) rfl ⟨by rw [HE.out]; rfl, rfl⟩
  · have HE : Hid (sRes s most = (0, 0, 7)) := Lib.hid (by unfold sRes; rw [HR.out]; simp)
    go_wp2_with fail
    exact bodyPost_ret (v := .tuple #[.int .i64 0, .int .i64 0, .int .i64 7]) (by simp [results, Try.results36, go_sem]) rfl ⟨by rw [HE.out]; rfl, rfl⟩

/-- What the closures of Text and Count leave. -/
def SizeDone (w : World) (B : Nat) (n e : Nat) (v : Value) (x : Ending) (w' : World) : Prop :=
  x = .returned (.tuple #[.int .i64 n, .int .i64 e]) ∧ w' = w.setCell ⟨B, 0, none⟩ v
set_option maxHeartbeats 1000000 in
theorem count_closure (w : World) (B0 B1 : Nat) (s : ByteArray) (most : Int) (v : Value) (hs : s.size ≤ 1073741824) (hm1 : -9223372036854775808 ≤ most) (hm2 : most ≤ 9223372036854775807) (h0 : w.heap[B0]? = some (.cells #[.int .i64 most] 3 (0, 0))) (h1 : w.heap[B1]? = some (.cells #[v] 3 (0, 0))) :
    Calls Try.prog 38 #[.string s, .pointer (some ⟨B0, 0, none⟩), .pointer (some ⟨B1, 0, none⟩)] w (SizeDone w B1 (sRes s most).2.1 (sRes s most).2.2 (.int .i64 (sRes s most).1)) := by
  have HN := Lib.hid (fun w => size_any s most w hs hm1 hm2)
  obtain ⟨x, n, er, hr, hc⟩ := sRes_cases s most
  rw [hr] at HN ⊢
  have c1 := cell_of_row w B1 0 _ _ _ h1
  have f1 := frozen_of_row w B1 0 _ _ h1
  have c0 := cell_of_row w B0 0 _ _ _ h0
  simp only [List.getElem?_toArray, List.getElem?_cons_zero] at c1 c0
  clear hr hs h0 h1 hc
  go_enter Try.func38, Try.ntmps38
  go_wp2_with fail
  refine (HN.out _).mono ?_
  rintro e w1 ⟨rfl, rfl⟩
  go_wp2_with fail
  refine bodyPost_ret (v := .tuple #[.int .i64 n, .int .i64 er]) (by simp [results, Try.results38, go_sem]) rfl ⟨rfl, rfl⟩
def TextDone (w : World) (B1 : Nat) (s : ByteArray) (x n er : Nat) (e : Ending) (w' : World) : Prop :=
  e = .returned (.tuple #[.int .i64 (n + x : Nat), .int .i64 er]) ∧ (if er = 0 then w' = w.setCell ⟨B1, 0, none⟩ (.string (s.extract n (n + x))) else w' = w)
set_option maxHeartbeats 1000000 in
theorem text_closure (w : World) (B0 B1 : Nat) (s : ByteArray) (most : Int) (hs : s.size ≤ 1073741824) (hm1 : -9223372036854775808 ≤ most) (hm2 : most ≤ 9223372036854775807) (h0 : w.heap[B0]? = some (.cells #[.int .i64 most] 3 (0, 0))) (h1 : w.heap[B1]? = some (.cells #[.string ⟨#[]⟩] 9 (0, 0)))
    (x n er : Nat) (hr : sRes s most = (x, n, er)) :
    Calls Try.prog 35 #[.string s, .pointer (some ⟨B0, 0, none⟩), .pointer (some ⟨B1, 0, none⟩)] w (TextDone w B1 s x n er) := by
  have HN := Lib.hid (fun w => size_any s most w hs hm1 hm2)
  have hc : (er = 0 ∧ n + x ≤ s.size) ∨ (x = 0 ∧ n = 0 ∧ (er = 5 ∨ er = 6 ∨ er = 7)) := by
    obtain ⟨x', n', er', hr', hc⟩ := sRes_cases s most
    rw [hr] at hr'; cases hr'; exact hc
  rw [hr] at HN
  have c1 := cell_of_row w B1 0 _ _ _ h1
  have f1 := frozen_of_row w B1 0 _ _ h1
  have c0 := cell_of_row w B0 0 _ _ _ h0
  simp only [List.getElem?_toArray, List.getElem?_cons_zero] at c1 c0
  clear hr
  have hsI : (0 : Int) ≤ s.size ∧ (s.size : Int) ≤ 1073741824 := by omega
  clear hs h0 h1
  rcases hc with ⟨rfl, hn⟩ | ⟨rfl, rfl, he⟩
  · have hnI : (n : Int) + x ≤ s.size ∧ (0 : Int) ≤ n ∧ (0 : Int) ≤ x := by omega
    clear hn
    go_enter Try.func35, Try.ntmps35
    go_wp2_with fail
    refine (HN.out _).mono ?_
    rintro e w1 ⟨rfl, rfl⟩
    go_wp2_with fail
    refine bodyPost_ret (v := .tuple #[.int .i64 (n + x : Nat), .int .i64 0]) (by simp [results, Try.results35, go_sem]) rfl ⟨rfl, rfl⟩
  · rcases he with rfl | rfl | rfl
    all_goals go_enter Try.func35, Try.ntmps35
    all_goals go_wp2_with fail
    all_goals refine (HN.out _).mono ?_
    all_goals rintro e w1 ⟨rfl, rfl⟩
    all_goals go_wp2_with fail
    all_goals exact bodyPost_ret (by simp [results, Try.results35, go_sem]) rfl ⟨rfl, rfl⟩

/-- What Count makes of bytes. -/
def cRes (s : ByteArray) (most : Int) : Nat × ByteArray × Nat :=
  if (sRes s most).2.2 = 0 then ((sRes s most).1, s.extract (sRes s most).2.1 s.size, 0) else (0, s, (sRes s most).2.2)
set_option maxHeartbeats 1000000 in
theorem count_read (w : World) (b : Nat) (s : ByteArray) (most : Int) (hs : s.size ≤ 1073741824) (hm1 : -9223372036854775808 ≤ most) (hm2 : most ≤ 9223372036854775807) (h : RdIs w b s 0) :
    Calls Try.prog 28 #[.pointer (some ⟨b, 0, none⟩), .int .i64 most] w fun e w' => e = .returned (.int .i64 (cRes s most).1) ∧ RdStep w w' b (cRes s most).2.1 (cRes s most).2.2 := by
  have HB := Lib.hid h
  have hblt := blk_lt h
  have hb1 := heap_alloc2_old w (.cells #[.int .i64 most] 3 (0, 0)) (.cells #[.int .i64 0] 3 (0, 0))
  have hb2 := heap_alloc2_new w (.cells #[.int .i64 most] 3 (0, 0)) (.cells #[.int .i64 0] 3 (0, 0))
  have hC := count_closure _ w.heap.size (w.heap.size + 1) s most _ hs hm1 hm2 hb1 hb2
  obtain ⟨c0, c1, c2, f0, f1⟩ := h.cells
  have hn1 : b ≠ w.heap.size + 1 := by omega
  obtain ⟨x, n, er, hr, hc⟩ := sRes_cases s most
  have hE : cRes s most = if er = 0 then (x, s.extract n s.size, 0) else (0, s, er) := by unfold cRes; rw [hr]
  rw [hr] at hC
  have HC := Lib.hid hC
  clear hC h hb1 hb2 hr
  go_enter Try.func28, Try.ntmps28
  go_wp2_with (first | (go_at_call 31; go_in))
  refine HC.out.mono ?_
  rintro e w2 ⟨rfl, rfl⟩
  rcases hc with ⟨rfl, hn⟩ | ⟨rfl, rfl, he⟩
  · rw [if_pos rfl] at hE
    have HE := Lib.hid hE
    have hnI : (0 : Int) ≤ n ∧ (n : Int) ≤ s.size := by omega
    clear hE
    go_wp2_with fail
    refine bodyPost_ret (v := .int .i64 x) (by simp [results, Try.results28, go_sem]) rfl ⟨by first | (rw [HE.out]; done) | (rw [HE.out]; rfl), by rw [HE.out]; exact ⟨((HB.out.setS (s.extract n s.size)).keep2 hblt), (((Upd.refl w [b]).setCell (.inl (by simp)) _).alloc _).alloc _⟩⟩
  · rw [if_neg (by omega)] at hE
    rcases he with rfl | rfl | rfl
    · have HE := Lib.hid hE
      clear hE
      go_wp2_with fail
      refine bodyPost_ret (v := .int .i64 0) (by simp [results, Try.results28, go_sem]) rfl ⟨by first | (rw [HE.out]; done) | (rw [HE.out]; rfl), by rw [HE.out]; exact ⟨((HB.out.setE 5).keep2 hblt), (((Upd.refl w [b]).setCell (.inl (by simp)) _).alloc _).alloc _⟩⟩
    · have HE := Lib.hid hE
      clear hE
      go_wp2_with fail
      refine bodyPost_ret (v := .int .i64 0) (by simp [results, Try.results28, go_sem]) rfl ⟨by first | (rw [HE.out]; done) | (rw [HE.out]; rfl), by rw [HE.out]; exact ⟨((HB.out.setE 6).keep2 hblt), (((Upd.refl w [b]).setCell (.inl (by simp)) _).alloc _).alloc _⟩⟩
    · have HE := Lib.hid hE
      clear hE
      go_wp2_with fail
      refine bodyPost_ret (v := .int .i64 0) (by simp [results, Try.results28, go_sem]) rfl ⟨by first | (rw [HE.out]; done) | (rw [HE.out]; rfl), by rw [HE.out]; exact ⟨((HB.out.setE 7).keep2 hblt), (((Upd.refl w [b]).setCell (.inl (by simp)) _).alloc _).alloc _⟩⟩

/-- What Text makes of bytes. -/
def tRes (s : ByteArray) (most : Int) : ByteArray × ByteArray × Nat :=
  if (sRes s most).2.2 = 0 then (s.extract (sRes s most).2.1 ((sRes s most).2.1 + (sRes s most).1), s.extract ((sRes s most).2.1 + (sRes s most).1) s.size, 0) else (⟨#[]⟩, s, (sRes s most).2.2)
set_option maxHeartbeats 1000000 in
theorem text_read (w : World) (b : Nat) (s : ByteArray) (most : Int) (hs : s.size ≤ 1073741824) (hm1 : -9223372036854775808 ≤ most) (hm2 : most ≤ 9223372036854775807) (h : RdIs w b s 0) :
    Calls Try.prog 20 #[.pointer (some ⟨b, 0, none⟩), .int .i64 most] w fun e w' => e = .returned (.string (tRes s most).1) ∧ RdStep w w' b (tRes s most).2.1 (tRes s most).2.2 := by
  have HB := Lib.hid h
  have hblt := blk_lt h
  have hb1 := heap_alloc2_old w (.cells #[.int .i64 most] 3 (0, 0)) (.cells #[.string ⟨#[]⟩] 9 (0, 0))
  have hb2 := heap_alloc2_new w (.cells #[.int .i64 most] 3 (0, 0)) (.cells #[.string ⟨#[]⟩] 9 (0, 0))
  obtain ⟨x, n, er, hr, hc⟩ := sRes_cases s most
  have hC := text_closure _ w.heap.size (w.heap.size + 1) s most hs hm1 hm2 hb1 hb2 x n er hr
  obtain ⟨c0, c1, c2, f0, f1⟩ := h.cells
  have hn1 : b ≠ w.heap.size + 1 := by omega
  have hE : tRes s most = if er = 0 then (s.extract n (n + x), s.extract (n + x) s.size, 0) else (⟨#[]⟩, s, er) := by unfold tRes; rw [hr]
  have HC := Lib.hid hC
  clear hC h hb1 hb2 hr
  go_enter Try.func20, Try.ntmps20
  go_wp2_with (first | (go_at_call 31; go_in))
  refine HC.out.mono ?_
  rintro e w2 ⟨rfl, hw⟩
  rcases hc with ⟨rfl, hn⟩ | ⟨rfl, rfl, he⟩
  · rw [if_pos rfl] at hE hw
    have HE := Lib.hid hE
    have hnI : (0 : Int) ≤ (n + x : Nat) ∧ ((n + x : Nat) : Int) ≤ s.size := by omega
    clear hE
    subst hw
    generalize n + x = m at *
    go_wp2_with fail
    refine bodyPost_ret (v := .string (s.extract n m)) (by simp [results, Try.results20, go_sem]) rfl ⟨by first | (rw [HE.out]; done) | (rw [HE.out]; rfl), by rw [HE.out]; exact ⟨((HB.out.setS (s.extract m s.size)).keep2 hblt), (((Upd.refl w [b]).setCell (.inl (by simp)) _).alloc _).alloc _⟩⟩
  · rw [if_neg (by omega)] at hE hw
    subst hw
    rcases he with rfl | rfl | rfl
    · have HE := Lib.hid hE
      clear hE
      go_wp2_with fail
      refine bodyPost_ret (v := .string ⟨#[]⟩) (by simp [results, Try.results20, go_sem]) rfl ⟨by first | (rw [HE.out]; done) | (rw [HE.out]; rfl), by rw [HE.out]; exact ⟨((HB.out.setE 5).keep2 hblt), (((Upd.refl w [b]).setCell (.inl (by simp)) _).alloc _).alloc _⟩⟩
    · have HE := Lib.hid hE
      clear hE
      go_wp2_with fail
      refine bodyPost_ret (v := .string ⟨#[]⟩) (by simp [results, Try.results20, go_sem]) rfl ⟨by first | (rw [HE.out]; done) | (rw [HE.out]; rfl), by rw [HE.out]; exact ⟨((HB.out.setE 6).keep2 hblt), (((Upd.refl w [b]).setCell (.inl (by simp)) _).alloc _).alloc _⟩⟩
    · have HE := Lib.hid hE
      clear hE
      go_wp2_with fail
      refine bodyPost_ret (v := .string ⟨#[]⟩) (by simp [results, Try.results20, go_sem]) rfl ⟨by first | (rw [HE.out]; done) | (rw [HE.out]; rfl), by rw [HE.out]; exact ⟨((HB.out.setE 7).keep2 hblt), (((Upd.refl w [b]).setCell (.inl (by simp)) _).alloc _).alloc _⟩⟩

end Go.Proofs.Ytdceefbhkonndaa
