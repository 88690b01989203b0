/-
  THE WALKS of the document's answer for layer 7.
-/
import Derived.Test.YtolkagkbbodnbaaCrcJoin
namespace Go.Proofs.Ytolkagkbbodnbaa
open Go.RowKit

theorem halfR1 (c : BitVec 32) (h : (c &&& 1#32 == 1#32) = true) : (c >>> 1) ^^^ 3988292384#32 = Crc.half c := by
  rw [beq_iff_eq] at h
  unfold Crc.half
  rw [h, BitVec.mul_one]; rfl
theorem halfR0 (c : BitVec 32) (h : (c &&& 1#32 == 1#32) = false) : (c >>> 1) = Crc.half c := by
  unfold Crc.half
  rw [Crc.and_one] at h ⊢
  cases hb : Crc.bit0 c with
  | true => rw [hb, if_pos rfl] at h; exact absurd h (by decide)
  | false => simp

set_option maxHeartbeats 400000 in
theorem ref_half (c : BitVec 32) (w : World) :
    Calls Try.prog 15 #[.int .u32 (w32 c)] w fun e w' => e = .returned (.int .u32 (w32 (Crc.half c))) ∧ w = w' := by
  have h1 : (1 : Int) = w32 1#32 := rfl
  have he : (w32 (c &&& 1#32) == 1) = (c &&& 1#32 == 1#32) := by rw [h1, eq32]
  cases hb : (c &&& 1#32 == 1#32) with
  | true =>
    rw [hb] at he
    have H := Lib.hid (halfR1 c hb)
    clear hb h1
    go_enter Try.func15, Try.ntmps15
    go_wp2
    go_ret
    exact ⟨ret_u (by rw [H.out]), rfl⟩
  | false =>
    rw [hb] at he
    have H := Lib.hid (halfR0 c hb)
    clear hb h1
    go_enter Try.func15, Try.ntmps15
    go_wp2
    go_ret
    exact ⟨ret_u (by rw [H.out]), rfl⟩

set_option maxHeartbeats 400000 in
theorem ref_more (c : BitVec 32) (s : ByteArray) (w : World) (hs : s.size ≤ 9223372036854775807) :
    Calls Try.prog 11 #[.int .u32 (w32 c), .string s] w fun e w' => e = .returned (.int .u32 (w32 (Crc.more c (L s)))) ∧ w = w' := by
  go_enter Try.func11, Try.ntmps11
  go_wp2
  go_loop [0, 5] (fun x i => ∃ k : Nat, k ≤ s.size ∧ i = .int .i64 k ∧ x = .int .u32 (w32 (Crc.raw (~~~ c) ((L s).take k)))) (fun _ i => s.size - (intOf i).toNat)
  case atStart => exact ⟨0, Nat.zero_le _, rfl, by rw [List.take_zero, Crc.raw_nil, Crc.not_eq]⟩
  case round =>
    obtain ⟨k, hk, rfl, rfl⟩ := hrel
    by_cases hlt : k < s.size
    · have hts := L_take_succ s k hlt
      go_wp2
      have HA : Hid (Crc.raw (~~~ c) ((L s).take (k + 1)) = Crc.itN 8 (Crc.raw (~~~ c) ((L s).take k) ^^^ BitVec.ofNat 32 s[k].toNat)) := by
        rw [hts, Crc.raw_snoc]; rfl
      clear hts
      generalize Crc.raw (~~~ c) ((L s).take k) ^^^ BitVec.ofNat 32 s[k].toNat = A at *
      go_loop [0, 6] (fun x j => ∃ m : Nat, m ≤ 8 ∧ j = .int .i64 m ∧ x = .int .u32 (w32 (Crc.itN m A))) (fun _ j => 8 - (intOf j).toNat)
      case atStart => exact ⟨0, Nat.zero_le _, rfl, rfl⟩
      case round =>
        obtain ⟨m, hm, rfl, rfl⟩ := hrel
        by_cases hm8 : m < 8
        · go_wp2_with (go_at_call 15; refine (ref_half _ _).mono ?_; rintro e w' ⟨rfl, rfl⟩)
          go_round
          case rel => exact ⟨m + 1, by omega, by go_num, rfl⟩
          case measure => simp [intOf]; omega
        · obtain rfl : m = 8 := by omega
          go_wp2
          go_round
          case rel => exact ⟨k + 1, by omega, by go_num, by rw [HA.out]⟩
          case measure => simp [intOf]; omega
    · go_wp2
      go_ret
      refine ⟨ret_u ?_, rfl⟩
      rw [L_take_all s k (by omega)]
      unfold Crc.more
      rw [Crc.not_eq (Crc.raw _ _)]

set_option maxHeartbeats 400000 in
theorem ref_sum (s : ByteArray) (w : World) (hs : s.size ≤ 9223372036854775807) :
    Calls Try.prog 9 #[.string s] w fun e w' => e = .returned (.int .u32 (w32 (Crc.sum (L s)))) ∧ w = w' := by
  have h0 : (0 : Int) = w32 0#32 := rfl
  have hm := ref_more 0#32 s
  rw [← h0] at hm
  have Hm := Lib.hid hm
  clear hm h0
  go_enter Try.func9, Try.ntmps9
  go_wp2_with (go_at_call 11; refine (Hm.out _ hs).mono ?_; rintro e w' ⟨rfl, rfl⟩)
  go_ret
  exact ⟨rfl, rfl⟩

theorem bit_test (a : BitVec 32) (n : Nat) : (w32 ((a >>> n) &&& 1#32) == 1) = a.getLsbD n := by
  rw [show (1 : Int) = w32 1#32 from rfl, eq32, Crc.bit_take]
  cases a.getLsbD n <;> decide

set_option maxHeartbeats 400000 in
theorem ref_product (a b : BitVec 32) (w : World) :
    Calls Try.prog 19 #[.int .u32 (w32 a), .int .u32 (w32 b)] w fun e w' => e = .returned (.int .u32 (w32 (Crc.prod a b))) ∧ w = w' := by
  go_enter Try.func19, Try.ntmps19
  go_wp2
  go_loop [1, 5, 6] (fun vb vs vi => ∃ k : Nat, k ≤ 32 ∧ vi = .int .i64 (31 - (k : Int)) ∧ vb = .int .u32 (w32 (Crc.itN k b)) ∧ vs = .int .u32 (w32 (Crc.prodTo a b k))) (fun _ _ vi => (intOf vi + 1).toNat)
  case atStart => exact ⟨0, Nat.zero_le _, rfl, rfl, rfl⟩
  case round =>
    obtain ⟨k, hk, rfl, rfl, rfl⟩ := hrel
    by_cases hlt : k < 32
    · have ht := bit_test a (31 - k)
      have hi : (0 : Int) ≤ 31 - (k : Int) := by omega
      have HP : Hid (Crc.prodTo a b (k + 1) = Crc.prodTo a b k ^^^ (if a.getLsbD (31 - k) then Crc.itN k b else 0#32)) := rfl
      cases hb : a.getLsbD (31 - k) with
      | true =>
        rw [hb] at ht HP
        clear hb
        go_wp2_with (go_at_call 15; refine (ref_half _ _).mono ?_; rintro e w' ⟨rfl, rfl⟩)
        go_round
        case rel => exact ⟨k + 1, by omega, by go_num, rfl, by rw [HP.out]; rfl⟩
        case measure => simp [intOf]; omega
      | false =>
        rw [hb] at ht HP
        clear hb
        go_wp2_with (go_at_call 15; refine (ref_half _ _).mono ?_; rintro e w' ⟨rfl, rfl⟩)
        go_round
        case rel => exact ⟨k + 1, by omega, by go_num, rfl, by rw [HP.out]; simp⟩
        case measure => simp [intOf]; omega
    · obtain rfl : k = 32 := by omega
      go_wp2
      go_ret
      exact ⟨rfl, rfl⟩

/-- The power of x. -/
def pow (n : Nat) : BitVec 32 := Crc.itN n (Crc.one 31)
theorem ref_product_pow (n : Nat) (b : BitVec 32) (w : World) :
    Calls Try.prog 19 #[.int .u32 (w32 (pow n)), .int .u32 (w32 b)] w fun e w' => e = .returned (.int .u32 (w32 (Crc.itN n b))) ∧ w = w' := by
  have := ref_product (pow n) b w
  rwa [pow, Crc.prod_it] at this
theorem ref_product_sq (n : Nat) (w : World) :
    Calls Try.prog 19 #[.int .u32 (w32 (pow n)), .int .u32 (w32 (pow n))] w fun e w' => e = .returned (.int .u32 (w32 (pow (n + n)))) ∧ w = w' := by
  have := ref_product_pow n (pow n) w
  have e : Crc.itN n (pow n) = pow (n + n) := (Crc.itN_add n n (Crc.one 31)).symm
  rwa [e] at this
theorem pow_one : (1073741824 : Int) = w32 (pow 1) := by decide

def RefJoinRel (a0 : BitVec 32) (n0 : Nat) (va vn vx : Value) (a : BitVec 32) (n K : Nat) : Prop :=
  va = .int .u32 (w32 a) ∧ vn = .int .u64 n ∧ vx = .int .u32 (w32 (pow K)) ∧ n ≤ 18446744073709551615 ∧ Crc.itN (K * n) a = Crc.itN (8 * n0) a0

set_option maxHeartbeats 1000000 in
theorem ref_join (a b : BitVec 32) (n : Nat) (w : World) (hn : n ≤ 18446744073709551615) :
    Calls Try.prog 13 #[.int .u32 (w32 a), .int .u32 (w32 b), .int .u64 n] w fun e w' => e = .returned (.int .u32 (w32 (Crc.join a b n))) ∧ w = w' := by
  have HW := Lib.hid pow_one
  go_enter Try.func13, Try.ntmps13
  go_wp2_with fail
  rw [HW.out]
  clear HW
  refine (ref_product_sq 1 _).mono ?_
  rintro e w' ⟨rfl, rfl⟩
  go_wp2_with fail
  refine (ref_product_sq 2 _).mono ?_
  rintro e w' ⟨rfl, rfl⟩
  go_wp2_with fail
  refine (ref_product_sq 4 _).mono ?_
  rintro e w' ⟨rfl, rfl⟩
  go_wp2_with fail
  go_loop [0, 2, 7] (fun va vn vx => ∃ a' n' K, RefJoinRel a n va vn vx a' n' K) (fun _ vn _ => (intOf vn).toNat)
  case atStart => exact ⟨a, n, 8, rfl, rfl, rfl, hn, rfl⟩
  case round =>
    obtain ⟨a', n', K, rfl, rfl, rfl, hn', hval⟩ := hrel
    have HV := Lib.hid hval
    clear hval
    rcases Nat.eq_zero_or_pos n' with h0 | hpos
    · subst h0
      go_wp2
      go_ret
      refine ⟨ret_u ?_, rfl⟩
      have := HV.out
      rw [Nat.mul_zero] at this
      unfold Crc.join
      rw [← this, Crc.itN]
    · obtain ⟨q, hq⟩ : ∃ q, n' = 2 * q + 1 ∨ n' = 2 * q := ⟨n' / 2, by omega⟩
      have hpos' : (0 : Int) < n' := by omega
      have hdiv := Lib.hid (show (n' : Int) / 2 = ((n' / 2 : Nat) : Int) by omega)
      rcases hq with hq | hq
      · have hodd : ((n' : Int) % 2 == 1) = true := beq_iff_eq.2 (by omega)
        have hV2 := Lib.hid (show Crc.itN ((K + K) * (n' / 2)) (Crc.itN K a') = Crc.itN (8 * n) a from by rw [show n' / 2 = q from by omega, join_odd, ← hq]; exact HV.out)
        clear HV hq
        go_wp2_with fail
        refine (ref_product_pow K _ _).mono ?_
        rintro e w' ⟨rfl, rfl⟩
        go_wp2_with fail
        refine (ref_product_sq K _).mono ?_
        rintro e w' ⟨rfl, rfl⟩
        go_wp2_with fail
        go_round
        case rel => exact ⟨_, n' / 2, K + K, rfl, congrArg (Value.int .u64) hdiv.out, rfl, by omega, hV2.out⟩
        case measure => simp [intOf]; omega
      · have hodd : ((n' : Int) % 2 == 1) = false := beq_eq_false_iff_ne.2 (by omega)
        have hV2 := Lib.hid (show Crc.itN ((K + K) * (n' / 2)) a' = Crc.itN (8 * n) a from by rw [show n' / 2 = q from by omega, join_even, ← hq]; exact HV.out)
        clear HV hq
        go_wp2_with fail
        refine (ref_product_sq K _).mono ?_
        rintro e w' ⟨rfl, rfl⟩
        go_wp2_with fail
        go_round
        case rel => exact ⟨_, n' / 2, K + K, rfl, congrArg (Value.int .u64) hdiv.out, rfl, by omega, hV2.out⟩
        case measure => simp [intOf]; omega

set_option maxHeartbeats 400000 in
theorem ref_slow (a b : BitVec 32) (k : Nat) (w : World) (hk : k < 600) :
    Calls Try.prog 14 #[.int .u32 (w32 a), .int .u32 (w32 b), .int .i64 k] w fun e w' => e = .returned (.int .u32 (w32 (Crc.join a b k))) ∧ Below w.heap.size w w' := by
  have hk' : (k : Int) < 600 := by omega
  have hmk := run_make_bytes (P := Try.prog) w 32 5 k Try.und32 (by kernel_rfl) (by omega)
  have hback := run_convert_bytes_back (P := Try.prog) (w.alloc (.cells (zeroCells k) 5)) 32 9 5 ⟨w.heap.size, 0, none⟩ k (List.replicate k 0) Try.und32 Try.und5 Try.und9 (fun j hj => by
    have hj' : j < k := by simpa using hj
    rw [show (⟨w.heap.size, 0, none⟩ : Addr).add j = ⟨w.heap.size, j, none⟩ from by unfold Addr.add; split <;> simp_all, World.cell?_alloc_mark]
    simp [zeroCells, hj'])
  simp only [List.length_replicate] at hback
  have hsz : (⟨(List.replicate k (0 : UInt8)).toArray⟩ : ByteArray).size ≤ 9223372036854775807 := by simp [ByteArray.size]; omega
  generalize hZ : (⟨(List.replicate k (0 : UInt8)).toArray⟩ : ByteArray) = Z at *
  have HZ := Lib.hid hZ
  have h0 : (0 : Int) = w32 0#32 := rfl
  have hm := ref_more 0#32 Z
  rw [← h0] at hm
  have Hm := Lib.hid hm
  clear hm h0 hZ
  go_enter Try.func14, Try.ntmps14
  go_wp2_with fail
  refine (ref_more a Z _ hsz).mono ?_
  rintro e w' ⟨rfl, rfl⟩
  go_wp2_with fail
  refine (Hm.out _ hsz).mono ?_
  rintro e w' ⟨rfl, rfl⟩
  go_wp2_with fail
  go_ret
  refine ⟨ret_u ?_, ((Below.refl _ _).alloc (Nat.le_refl _) _)⟩
  have hL : L Z = List.replicate k 0 := by rw [← HZ.out]
  rw [hL, Crc.slow_eq]

end Go.Proofs.Ytolkagkbbodnbaa
