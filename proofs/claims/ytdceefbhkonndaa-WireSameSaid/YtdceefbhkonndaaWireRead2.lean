/-
  THE WALKS of package wire's Reader: Int, Bool.
-/
import Derived.Test.YtdceefbhkonndaaWireRead
namespace Go.Proofs.Ytdceefbhkonndaa
open Go.RowKit

theorem zag_bits (y : Nat) (h : y < 18446744073709551616) : Go.bits .xor .i64 ((y : Int) / 2) (-((y : Int) % 2)) = Wr.zag y := by
  rw [show (y : Int) % 2 = ((y % 2 : Nat) : Int) by omega]
  have e : ∀ a b : Int, Go.bits .xor .i64 a b = IntKind.i64.wrap ((BitVec.ofInt 64 a ^^^ BitVec.ofInt 64 b).toNat : Int) := fun _ _ => rfl
  have h1 : (BitVec.ofInt 64 ((y : Int) / 2)).toNat = y / 2 := by rw [BitVec.toNat_ofInt]; omega
  have hw : ∀ a : Int, 0 ≤ a → a < 18446744073709551616 → IntKind.i64.wrap a = if a < 9223372036854775808 then a else a - 18446744073709551616 := by
    intro a h1 h2
    rw [IntKind.wrap_i64]
    split <;> omega
  unfold Wr.zag
  rw [e, BitVec.toNat_xor, h1]
  by_cases hp : y % 2 = 0
  · rw [if_pos hp, hp]
    have e0 : (BitVec.ofInt 64 (-((0 : Nat) : Int))).toNat = 0 := rfl
    rw [e0, Nat.xor_zero, hw _ (by omega) (by omega), if_pos (by omega)]
  · have hp1 : y % 2 = 1 := by omega
    rw [if_neg hp, hp1]
    have e0 : (BitVec.ofInt 64 (-((1 : Nat) : Int))).toNat = 18446744073709551615 := rfl
    have hk : ∀ n : Nat, n < 18446744073709551616 → n ^^^ 18446744073709551615 = 18446744073709551615 - n := by
      intro n hn
      have := BitVec.toNat_not (x := BitVec.ofNat 64 n)
      have e2 : (~~~ BitVec.ofNat 64 n) = BitVec.ofNat 64 n ^^^ BitVec.allOnes 64 := by rw [BitVec.xor_allOnes]
      rw [e2, BitVec.toNat_xor, BitVec.toNat_ofNat, Nat.mod_eq_of_lt hn] at this
      simpa using this
    rw [e0, hk _ (by omega), hw _ (by omega) (by omega), if_neg (by omega)]
    omega
theorem and1 (y : Nat) (h : y < 18446744073709551616) : Go.bits .and .u64 (y : Int) 1 = (y : Int) % 2 := by
  rw [show (y : Int) % 2 = ((y % 2 : Nat) : Int) by omega]
  have e : Go.bits .and .u64 (y : Int) 1 = IntKind.u64.wrap ((BitVec.ofInt 64 (y : Int) &&& BitVec.ofInt 64 1).toNat : Int) := rfl
  have h1 : (BitVec.ofInt 64 (y : Int)).toNat = y := by rw [BitVec.toNat_ofInt]; omega
  have h2 : (BitVec.ofInt 64 1).toNat = 1 := rfl
  rw [e, BitVec.toNat_and, h1, h2, show (1 : Nat) = 2 ^ 1 - 1 from rfl, Nat.and_two_pow_sub_one_eq_mod, IntKind.wrap_u64]
  omega

set_option maxHeartbeats 1000000 in
theorem int_closure (w : World) (B2 B0 B1 : Nat) (s : ByteArray) (lo hi : Int) (v : Value) (hs : s.size ≤ 1073741824) (h2 : w.heap[B2]? = some (.cells #[v] 2 (0, 0))) (h0 : w.heap[B0]? = some (.cells #[.int .i64 lo] 2 (0, 0))) (h1 : w.heap[B1]? = some (.cells #[.int .i64 hi] 2 (0, 0))) (hne : B0 ≠ B2) (hne1 : B1 ≠ B2) :
    Calls Try.prog 34 #[.string s, .pointer (some ⟨B2, 0, none⟩), .pointer (some ⟨B0, 0, none⟩), .pointer (some ⟨B1, 0, none⟩)] w fun e w' =>
      (∃ x n er : Nat, Wr.rd (L s) = (x, n, er) ∧ e = .returned (.tuple #[.int .i64 n, .int .i64 (if er = 0 ∧ (Wr.zag x < lo ∨ hi < Wr.zag x) then 80 else er : Nat)]) ∧ w' = w.setCell ⟨B2, 0, none⟩ (.int .i64 (Wr.zag x))) := by
  have HN := Lib.hid (fun w => number_any s w hs)
  obtain ⟨x, n, er, hr, hc⟩ := rd_cases s
  rw [hr] at HN
  have c2 := cell_of_row w B2 0 _ _ _ h2
  have f2 := frozen_of_row w B2 0 _ _ h2
  have c0 := cell_of_row w B0 0 _ _ _ h0
  have c1 := cell_of_row w B1 0 _ _ _ h1
  simp only [List.getElem?_toArray, List.getElem?_cons_zero] at c2 c1 c0
  have hx : x < 18446744073709551616 := by omega
  have hz := zag_bits x hx
  have ha := and1 x hx
  have hzb := Wr.zag_bd x hx
  have hxI : (0 : Int) ≤ x ∧ (x : Int) ≤ 18446744073709551615 := by omega
  have hz0 : Go.bits .xor .i64 0 0 = 0 := rfl
  have ha0 : Go.bits .and .u64 0 1 = 0 := rfl
  have HZ := Lib.hid hz
  have HR := Lib.hid hr
  have HC := Lib.hid hc
  clear hr hs hx
  go_enter Try.func34, Try.ntmps34
  go_wp2_with fail
  refine (HN.out _).mono ?_
  rintro e w1 ⟨rfl, rfl⟩
  unfold rdV
  rcases HC.out with ⟨rfl, _⟩ | ⟨rfl, rfl, rfl | rfl⟩
  · by_cases hm : Wr.zag x < lo
    · go_wp2_with fail
      refine bodyPost_ret (v := .tuple #[.int .i64 n, .int .i64 80]) (by simp [results, Try.results34, go_sem]) rfl ⟨x, n, 0, HR.out, by rw [if_pos ⟨rfl, .inl hm⟩]; rfl, rfl⟩
    · by_cases hm2 : hi < Wr.zag x
      · go_wp2_with fail
        refine bodyPost_ret (v := .tuple #[.int .i64 n, .int .i64 80]) (by simp [results, Try.results34, go_sem]) rfl ⟨x, n, 0, HR.out, by rw [if_pos ⟨rfl, .inr hm2⟩]; rfl, rfl⟩
      · go_wp2_with fail
        refine bodyPost_ret (v := .tuple #[.int .i64 n, .int .i64 0]) (by simp [results, Try.results34, go_sem]) rfl ⟨x, n, 0, HR.out, by rw [if_neg (by omega)]; rfl, rfl⟩
  · go_wp2_with fail
    refine bodyPost_ret (v := .tuple #[.int .i64 0, .int .i64 6]) (by simp [results, Try.results34, go_sem]) rfl ⟨0, 0, 6, HR.out, by rw [if_neg (by omega)]; rfl, rfl⟩
  · go_wp2_with fail
    refine bodyPost_ret (v := .tuple #[.int .i64 0, .int .i64 7]) (by simp [results, Try.results34, go_sem]) rfl ⟨0, 0, 7, HR.out, by rw [if_neg (by omega)]; rfl, rfl⟩

/-- What Int makes of bytes. -/
def iRes (s : ByteArray) (lo hi : Int) : Int × ByteArray × Nat :=
  if (Wr.rd (L s)).2.2 = 0 then (if Wr.zag (Wr.rd (L s)).1 < lo ∨ hi < Wr.zag (Wr.rd (L s)).1 then (0, s, 80) else (Wr.zag (Wr.rd (L s)).1, s.extract (Wr.rd (L s)).2.1 s.size, 0)) else (0, s, (Wr.rd (L s)).2.2)
theorem RdIs.alloc {w : World} {b : Nat} {s : ByteArray} {e : Nat} (h : RdIs w b s e) (o : Obj) : RdIs (w.alloc o) b s e := (Below.heap_alloc _ _ _ (blk_lt h)).trans h
theorem heap_alloc3 (w : World) (o1 o2 o3 : Obj) : (((w.alloc o1).alloc o2).alloc o3).heap[w.heap.size]? = some o1 ∧ (((w.alloc o1).alloc o2).alloc o3).heap[w.heap.size + 1]? = some o2 ∧ (((w.alloc o1).alloc o2).alloc o3).heap[w.heap.size + 2]? = some o3 := by
  refine ⟨?_, ?_, ?_⟩
  · rw [Below.heap_alloc _ _ _ (by simp; omega)]; exact heap_alloc2_old w o1 o2
  · rw [Below.heap_alloc _ _ _ (by simp)]; exact heap_alloc2_new w o1 o2
  · have := heap_alloc_new ((w.alloc o1).alloc o2) o3
    simpa using this
set_option maxHeartbeats 1000000 in
theorem int_read (w : World) (b : Nat) (s : ByteArray) (lo hi : Int) (hs : s.size ≤ 1073741824) (h : RdIs w b s 0) :
    Calls Try.prog 19 #[.pointer (some ⟨b, 0, none⟩), .int .i64 lo, .int .i64 hi] w fun e w' => e = .returned (.int .i64 (iRes s lo hi).1) ∧ RdStep w w' b (iRes s lo hi).2.1 (iRes s lo hi).2.2 := by
  have HB := Lib.hid h
  have hblt := blk_lt h
  obtain ⟨hb0, hb1, hb2⟩ := heap_alloc3 w (.cells #[.int .i64 lo] 2 (0, 0)) (.cells #[.int .i64 hi] 2 (0, 0)) (.cells #[.int .i64 0] 2 (0, 0))
  have hbl1 : b < w.heap.size + 1 := by omega
  have hbl2 : b < w.heap.size + 1 + 1 := by omega
  have hC := int_closure _ (w.heap.size + 1 + 1) w.heap.size (w.heap.size + 1) s lo hi _ hs hb2 hb0 hb1 (by omega) (by omega)
  have HC := Lib.hid hC
  obtain ⟨c0, c1, c2, f0, f1⟩ := h.cells
  have hn1 : b ≠ w.heap.size + 1 + 1 := by omega
  clear hC h hb0 hb1 hb2
  go_enter Try.func19, Try.ntmps19
  go_wp2_with (first | (go_at_call 31; go_in))
  refine HC.out.mono ?_
  rintro e w2 ⟨x, n, er, hr, rfl, rfl⟩
  obtain ⟨x', n', er', hr', hcs⟩ := rd_cases s
  rw [hr] at hr'
  cases hr'
  have HR := Lib.hid hr
  clear hr
  rcases hcs with ⟨rfl, _, hn, _⟩ | ⟨rfl, rfl, he⟩
  · by_cases hm : Wr.zag x < lo ∨ hi < Wr.zag x
    · have HE : Hid (iRes s lo hi = (0, s, 80)) := Lib.hid (by unfold iRes; rw [HR.out]; simp [hm])
      rw [if_pos ⟨rfl, hm⟩]
      clear hm
      go_wp2_with fail
      refine bodyPost_ret (v := .int .i64 (0)) (by simp [results, Try.results19, go_sem]) rfl ⟨by rw [HE.out], by rw [HE.out]; exact ⟨((HB.out.setE 80).keep2 hblt).alloc _, ((((Upd.refl w [b]).setCell (.inl (by simp)) _).alloc _).alloc _).alloc _⟩⟩
    · have HE : Hid (iRes s lo hi = (Wr.zag x, s.extract n s.size, 0)) := Lib.hid (by unfold iRes; rw [HR.out]; simp [hm])
      rw [if_neg (fun h => hm h.2)]
      clear hm
      have hnI : (0 : Int) ≤ n ∧ (n : Int) ≤ s.size := by omega
      go_wp2_with fail
      refine bodyPost_ret (v := .int .i64 (Wr.zag x)) (by simp [results, Try.results19, go_sem]) rfl ⟨by rw [HE.out], by rw [HE.out]; exact ⟨((HB.out.setS (s.extract n s.size)).keep2 hblt).alloc _, ((((Upd.refl w [b]).setCell (.inl (by simp)) _).alloc _).alloc _).alloc _⟩⟩
  · rw [if_neg (by omega)]
    rcases he with rfl | rfl
    · have HE : Hid (iRes s lo hi = (0, s, 6)) := Lib.hid (by unfold iRes; rw [HR.out]; simp)
      go_wp2_with fail
      refine bodyPost_ret (v := .int .i64 (0)) (by simp [results, Try.results19, go_sem]) rfl ⟨by rw [HE.out], by rw [HE.out]; exact ⟨((HB.out.setE 6).keep2 hblt).alloc _, ((((Upd.refl w [b]).setCell (.inl (by simp)) _).alloc _).alloc _).alloc _⟩⟩
    · have HE : Hid (iRes s lo hi = (0, s, 7)) := Lib.hid (by unfold iRes; rw [HR.out]; simp)
      go_wp2_with fail
      refine bodyPost_ret (v := .int .i64 (0)) (by simp [results, Try.results19, go_sem]) rfl ⟨by rw [HE.out], by rw [HE.out]; exact ⟨((HB.out.setE 7).keep2 hblt).alloc _, ((((Upd.refl w [b]).setCell (.inl (by simp)) _).alloc _).alloc _).alloc _⟩⟩

/-- What Bool makes of bytes. -/
def bRes (s : ByteArray) : Bool × ByteArray × Nat :=
  match L s with
  | [] => (false, s, 6)
  | c :: _ => if 1 < c.toNat then (false, s, 7) else (c.toNat == 1, s.extract 1 s.size, 0)
/-- What the closure of Bool leaves. -/
def BoolDone (w : World) (B1 : Nat) (s : ByteArray) (e : Ending) (w' : World) : Prop :=
  e = .returned (.tuple #[.int .i64 (if (bRes s).2.2 = 0 then 1 else 0 : Nat), .int .i64 (bRes s).2.2]) ∧ (if (bRes s).2.2 = 0 then w' = w.setCell ⟨B1, 0, none⟩ (.bool (bRes s).1) else w' = w)
set_option maxHeartbeats 1000000 in
theorem bool_closure (w : World) (B1 : Nat) (s : ByteArray) (hs : s.size ≤ 1073741824) (h1 : w.heap[B1]? = some (.cells #[.bool false] 4 (0, 0))) :
    Calls Try.prog 37 #[.string s, .pointer (some ⟨B1, 0, none⟩)] w (BoolDone w B1 s) := by
  have c1 := cell_of_row w B1 0 _ _ _ h1
  have f1 := frozen_of_row w B1 0 _ _ h1
  simp only [List.getElem?_toArray, List.getElem?_cons_zero] at c1
  clear hs h1
  by_cases hz : s.size = 0
  · have HE : Hid (bRes s = (false, s, 6)) := Lib.hid (by
      have : L s = [] := List.eq_nil_of_length_eq_zero (by rw [L_size]; exact hz)
      unfold bRes; rw [this])
    have h0 : s = ByteArray.empty := by rw [← ByteArray.size_eq_zero_iff]; exact hz
    subst h0
    go_enter Try.func37, Try.ntmps37
    go_wp2_with fail
    refine bodyPost_ret (v := .tuple #[.int .i64 0, .int .i64 6]) (by simp [results, Try.results37, go_sem]) rfl (by unfold BoolDone; rw [HE.out]; exact ⟨rfl, rfl⟩)
  · have hpos : 0 < s.size := by omega
    have hd : L s = s[0] :: (L s).drop 1 := by
      have h0 : 0 < (L s).length := by rw [L_size]; exact hpos
      have := List.drop_eq_getElem_cons h0
      rw [L_get s 0 hpos] at this
      simpa using this
    have hne : s.toList.isEmpty = false := by
      rw [ByteArray.toList_eq]
      have hl : 0 < s.data.toList.length := by rw [Array.length_toList]; exact hpos
      cases h : s.data.toList with
      | nil => rw [h] at hl; cases hl
      | cons a b => rfl
    have hposI : (0 : Int) < s.size := by omega
    have hHE : bRes s = if 1 < s[0].toNat then (false, s, 7) else (s[0].toNat == 1, s.extract 1 s.size, 0) := by unfold bRes; rw [hd]
    have hlt := s[0].toNat_lt
    obtain ⟨c, hc⟩ : ∃ c, s[0].toNat = c := ⟨_, rfl⟩
    rw [hc] at hHE hlt
    have hcI : (0 : Int) ≤ c ∧ (c : Int) ≤ 255 := by omega
    clear hd hz hlt
    by_cases h1 : 1 < c
    · rw [if_pos h1] at hHE
      have HE := Lib.hid hHE
      have h1I : (1 : Int) < c := by omega
      clear hHE h1
      go_enter Try.func37, Try.ntmps37
      go_wp2_with fail
      refine bodyPost_ret (v := .tuple #[.int .i64 0, .int .i64 7]) (by simp [results, Try.results37, go_sem]) rfl (by unfold BoolDone; rw [HE.out]; exact ⟨rfl, rfl⟩)
    · rw [if_neg h1] at hHE
      have HE := Lib.hid hHE
      have h1I : ¬ (1 : Int) < c := by omega
      have HCB : Hid (((c : Int) == 1) = (c == 1)) := Lib.hid (by rw [Bool.eq_iff_iff, beq_iff_eq, beq_iff_eq]; omega)
      clear hHE h1
      go_enter Try.func37, Try.ntmps37
      go_wp2_with fail
      refine bodyPost_ret (v := .tuple #[.int .i64 1, .int .i64 0]) (by simp [results, Try.results37, go_sem]) rfl (by unfold BoolDone; rw [HE.out]; refine ⟨rfl, ?_⟩; rw [HCB.out]; rfl)

set_option maxHeartbeats 1000000 in
theorem bool_read (w : World) (b : Nat) (s : ByteArray) (hs : s.size ≤ 1073741824) (h : RdIs w b s 0) :
    Calls Try.prog 26 #[.pointer (some ⟨b, 0, none⟩)] w fun e w' => e = .returned (.bool (bRes s).1) ∧ RdStep w w' b (bRes s).2.1 (bRes s).2.2 := by
  have HB := Lib.hid h
  have hblt := blk_lt h
  have hC := bool_closure _ w.heap.size s hs (heap_alloc_new w (.cells #[.bool false] 4 (0, 0)))
  have HC := Lib.hid hC
  obtain ⟨c0, c1, c2, f0, f1⟩ := h.cells
  have hn1 : b ≠ w.heap.size := by omega
  have hcs : bRes s = (false, s, 6) ∨ bRes s = (false, s, 7) ∨ (1 ≤ s.size ∧ ∃ v, bRes s = (v, s.extract 1 s.size, 0)) := by
    unfold bRes
    have hl := L_size s
    revert hl
    cases L s with
    | nil => intro _; simp
    | cons c r =>
      intro hl
      simp only [List.length_cons] at hl
      by_cases h1 : 1 < c.toNat
      · exact .inr (.inl (if_pos h1))
      · exact .inr (.inr ⟨by omega, _, if_neg h1⟩)
  clear hC h
  go_enter Try.func26, Try.ntmps26
  go_wp2_with (first | (go_at_call 31; go_in))
  refine HC.out.mono ?_
  rintro e w2 hd
  unfold BoolDone at hd
  rcases hcs with he | he | ⟨hn, v, he⟩
  · rw [he] at hd
    obtain ⟨rfl, rfl⟩ := hd
    have HE := Lib.hid he
    clear he
    go_wp2_with fail
    refine bodyPost_ret (v := .bool false) (by simp [results, Try.results26, go_sem]) rfl ⟨by rw [HE.out], by rw [HE.out]; exact ⟨(HB.out.setE 6).alloc _, ((Upd.refl w [b]).setCell (.inl (by simp)) _).alloc _⟩⟩
  · rw [he] at hd
    obtain ⟨rfl, rfl⟩ := hd
    have HE := Lib.hid he
    clear he
    go_wp2_with fail
    refine bodyPost_ret (v := .bool false) (by simp [results, Try.results26, go_sem]) rfl ⟨by rw [HE.out], by rw [HE.out]; exact ⟨(HB.out.setE 7).alloc _, ((Upd.refl w [b]).setCell (.inl (by simp)) _).alloc _⟩⟩
  · rw [he] at hd
    obtain ⟨rfl, rfl⟩ := hd
    have HE := Lib.hid he
    clear he
    have hnI : (1 : Int) ≤ s.size := by omega
    cases v with
    | true =>
      go_wp2_with fail
      refine bodyPost_ret (v := .bool true) (by simp [results, Try.results26, go_sem]) rfl ⟨by rw [HE.out], by rw [HE.out]; exact ⟨(HB.out.setS (s.extract 1 s.size)).alloc _, ((Upd.refl w [b]).setCell (.inl (by simp)) _).alloc _⟩⟩
    | false =>
      go_wp2_with fail
      refine bodyPost_ret (v := .bool false) (by simp [results, Try.results26, go_sem]) rfl ⟨by rw [HE.out], by rw [HE.out]; exact ⟨(HB.out.setS (s.extract 1 s.size)).alloc _, ((Upd.refl w [b]).setCell (.inl (by simp)) _).alloc _⟩⟩

end Go.Proofs.Ytdceefbhkonndaa
