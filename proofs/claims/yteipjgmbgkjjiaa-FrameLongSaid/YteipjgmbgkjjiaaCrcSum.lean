/-
  THE WALKS of crc.Sum, and of the document's answer for sums.
-/
import Derived.Test.YteipjgmbgkjjiaaCrcWalks
set_option linter.unusedVariables false
set_option linter.unusedSimpArgs false
namespace Go.Proofs.Yteipjgmbgkjjiaa
open Go.RowKit

set_option maxHeartbeats 400000 in
theorem crc_sum (s : ByteArray) (w : World) (hs : s.size ≤ 9223372036854775807) :
    Calls Try.prog 10 #[.string s] w fun e w' => e = .returned (.int .u32 (w32 (Crc.sum (L s)))) ∧ Below w.heap.size w w' := by
  have h0 : (0 : Int) = w32 0#32 := rfl
  have hm := crc_more 0#32 s
  rw [← h0] at hm
  have Hm := Lib.hid hm
  clear hm h0
  go_enter Try.func10, Try.ntmps10
  go_wp2_with (go_at_call 22; refine (Hm.out _ hs).mono ?_; rintro e w' ⟨rfl, hb⟩)
  go_ret
  exact ⟨rfl, hb⟩

theorem halfR1 (c : BitVec 32) (h : (c &&& 1#32 == 1#32) = true) : (c >>> 1) ^^^ 3988292384#32 = Crc.half c := by
  rw [beq_iff_eq] at h
  unfold Crc.half
  rw [h, BitVec.mul_one]; rfl
theorem halfR0 (c : BitVec 32) (h : (c &&& 1#32 == 1#32) = false) : (c >>> 1) = Crc.half c := by
  unfold Crc.half
  rw [Crc.and_one] at h ⊢
  cases hb : Crc.bit0 c with
  | true => rw [hb, if_pos rfl] at h; exact absurd h (by decide)
  | false => simp

set_option maxHeartbeats 400000 in
theorem ref_half (c : BitVec 32) (w : World) :
    Calls Try.prog 29 #[.int .u32 (w32 c)] w fun e w' => e = .returned (.int .u32 (w32 (Crc.half c))) ∧ w = w' := by
  have h1 : (1 : Int) = w32 1#32 := rfl
  have he : (w32 (c &&& 1#32) == 1) = (c &&& 1#32 == 1#32) := by rw [h1, eq32]
  cases hb : (c &&& 1#32 == 1#32) with
  | true =>
    rw [hb] at he
    have H := Lib.hid (halfR1 c hb)
    clear hb h1
    go_enter Try.func29, Try.ntmps29
    go_wp2
    go_ret
    exact ⟨ret_u (by rw [H.out]), rfl⟩
  | false =>
    rw [hb] at he
    have H := Lib.hid (halfR0 c hb)
    clear hb h1
    go_enter Try.func29, Try.ntmps29
    go_wp2
    go_ret
    exact ⟨ret_u (by rw [H.out]), rfl⟩

set_option maxHeartbeats 400000 in
theorem ref_more (c : BitVec 32) (s : ByteArray) (w : World) (hs : s.size ≤ 9223372036854775807) :
    Calls Try.prog 27 #[.int .u32 (w32 c), .string s] w fun e w' => e = .returned (.int .u32 (w32 (Crc.more c (L s)))) ∧ w = w' := by
  go_enter Try.func27, Try.ntmps27
  go_wp2
  go_loop [0, 5] (fun x i => ∃ k : Nat, k ≤ s.size ∧ i = .int .i64 k ∧ x = .int .u32 (w32 (Crc.raw (~~~ c) ((L s).take k)))) (fun _ i => s.size - (intOf i).toNat)
  case atStart => exact ⟨0, Nat.zero_le _, rfl, by rw [List.take_zero, Crc.raw_nil, Crc.not_eq]⟩
  case round =>
    obtain ⟨k, hk, rfl, rfl⟩ := hrel
    by_cases hlt : k < s.size
    · have hts := L_take_succ s k hlt
      go_wp2
      have HA : Hid (Crc.raw (~~~ c) ((L s).take (k + 1)) = Crc.itN 8 (Crc.raw (~~~ c) ((L s).take k) ^^^ BitVec.ofNat 32 s[k].toNat)) := by
        rw [hts, Crc.raw_snoc]; rfl
      clear hts
      generalize Crc.raw (~~~ c) ((L s).take k) ^^^ BitVec.ofNat 32 s[k].toNat = A at *
      go_loop [0, 6] (fun x j => ∃ m : Nat, m ≤ 8 ∧ j = .int .i64 m ∧ x = .int .u32 (w32 (Crc.itN m A))) (fun _ j => 8 - (intOf j).toNat)
      case atStart => exact ⟨0, Nat.zero_le _, rfl, rfl⟩
      case round =>
        obtain ⟨m, hm, rfl, rfl⟩ := hrel
        by_cases hm8 : m < 8
        · go_wp2_with (go_at_call 29; refine (ref_half _ _).mono ?_; rintro e w' ⟨rfl, rfl⟩)
          go_round
          case rel => exact ⟨m + 1, by omega, by go_num, rfl⟩
          case measure => simp [intOf]; omega
        · obtain rfl : m = 8 := by omega
          go_wp2
          go_round
          case rel => exact ⟨k + 1, by omega, by go_num, by rw [HA.out]⟩
          case measure => simp [intOf]; omega
    · go_wp2
      go_ret
      refine ⟨ret_u ?_, rfl⟩
      rw [L_take_all s k (by omega)]
      unfold Crc.more
      rw [Crc.not_eq (Crc.raw _ _)]

set_option maxHeartbeats 400000 in
theorem ref_sum (s : ByteArray) (w : World) (hs : s.size ≤ 9223372036854775807) :
    Calls Try.prog 24 #[.string s] w fun e w' => e = .returned (.int .u32 (w32 (Crc.sum (L s)))) ∧ w = w' := by
  have h0 : (0 : Int) = w32 0#32 := rfl
  have hm := ref_more 0#32 s
  rw [← h0] at hm
  have Hm := Lib.hid hm
  clear hm h0
  go_enter Try.func24, Try.ntmps24
  go_wp2_with (go_at_call 27; refine (Hm.out _ hs).mono ?_; rintro e w' ⟨rfl, rfl⟩)
  go_ret
  exact ⟨rfl, rfl⟩

end Go.Proofs.Yteipjgmbgkjjiaa
