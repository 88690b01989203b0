/-
  THE WALK of package wire's number.
-/
import Derived.Test.YtboplbcfoooenaaWireMore
namespace Go.Proofs.Ytboplbcfoooenaa
open Go.RowKit

/-- The spelling of a read. -/
def rdV (r : Nat × Nat × Nat) : Value := .tuple #[.int .u64 r.1, .int .i64 r.2.1, .int .i64 r.2.2]
theorem and127 (v : Nat) (hc : v < 256) : Go.bits .and .u64 (v : Int) 127 = ((v % 128 : Nat) : Int) := by
  have e : Go.bits .and .u64 (v : Int) 127 = IntKind.u64.wrap ((BitVec.ofInt 64 (v : Int) &&& BitVec.ofInt 64 127).toNat : Int) := rfl
  have h1 : (BitVec.ofInt 64 (v : Int)).toNat = v := by rw [BitVec.toNat_ofInt]; omega
  have h2 : (BitVec.ofInt 64 127).toNat = 127 := rfl
  rw [e, BitVec.toNat_and, h1, h2, show (127 : Nat) = 2 ^ 7 - 1 from rfl, Nat.and_two_pow_sub_one_eq_mod, IntKind.wrap_u64]
  omega
theorem or_high (x y k : Nat) (hx : x < 2 ^ k) (hk : k ≤ 63) : Go.bits .or .u64 (x : Int) (IntKind.u64.wrap ((y : Int) * 2 ^ k)) = (((x + y * 2 ^ k) % 18446744073709551616 : Nat) : Int) := by
  have e : ∀ a b : Int, Go.bits .or .u64 a b = IntKind.u64.wrap ((BitVec.ofInt 64 a ||| BitVec.ofInt 64 b).toNat : Int) := fun _ _ => rfl
  have hp : (2 : Nat) ^ k ≤ 2 ^ 63 := Nat.pow_le_pow_right (by decide) hk
  have hx64 : x < 18446744073709551616 := Nat.lt_of_lt_of_le hx (Nat.le_trans hp (by decide))
  have h1 : (BitVec.ofInt 64 (x : Int)).toNat = x := by rw [BitVec.toNat_ofInt]; omega
  have h2 : (BitVec.ofInt 64 (IntKind.u64.wrap ((y : Int) * 2 ^ k))).toNat = y * 2 ^ k % 18446744073709551616 := by
    rw [BitVec.toNat_ofInt, IntKind.wrap_u64]
    have : ((y : Int) * 2 ^ k) = ((y * 2 ^ k : Nat) : Int) := by push_cast; rfl
    rw [this]; omega
  have hm : y * 2 ^ k % 18446744073709551616 = 2 ^ k * (y % 2 ^ (64 - k)) := by
    have h64 : 18446744073709551616 = 2 ^ k * 2 ^ (64 - k) := by rw [← Nat.pow_add, show k + (64 - k) = 64 by omega]
    rw [h64, Nat.mul_comm y, Nat.mul_mod_mul_left]
  have hs : (x + y * 2 ^ k) % 18446744073709551616 = x + y * 2 ^ k % 18446744073709551616 := by
    have hlt : x + y * 2 ^ k % 18446744073709551616 < 18446744073709551616 := by
      rw [hm]
      have h64 : 18446744073709551616 = 2 ^ k * 2 ^ (64 - k) := by rw [← Nat.pow_add, show k + (64 - k) = 64 by omega]
      have hlt : y % 2 ^ (64 - k) < 2 ^ (64 - k) := Nat.mod_lt _ (Nat.pow_pos (by decide))
      have : 2 ^ k * (y % 2 ^ (64 - k) + 1) ≤ 2 ^ k * 2 ^ (64 - k) := Nat.mul_le_mul_left _ hlt
      rw [Nat.mul_add] at this
      omega
    omega
  rw [e, BitVec.toNat_or, h1, h2, hs, hm, Nat.or_comm, ← Nat.two_pow_add_eq_or_of_lt hx, IntKind.wrap_u64]
  rw [← hm]
  have := Nat.mod_lt (y * 2 ^ k) (show 0 < 18446744073709551616 by decide)
  rw [Nat.add_comm, ← hs]
  have := Nat.mod_lt (x + y * 2 ^ k) (show 0 < 18446744073709551616 by decide)
  omega

set_option maxRecDepth 20000 in
set_option maxHeartbeats 1000000 in
theorem number_any (s : ByteArray) (w : World) (hs : s.size ≤ 1073741824) :
    Calls Try.prog 32 #[.string s] w fun e w' => e = .returned (rdV (Wr.rd (L s))) ∧ w' = w := by
  have hsI : (s.size : Int) ≤ 1073741824 := by omega
  have HS := Lib.hid hs
  clear hs
  go_enter Try.func32, Try.ntmps32
  go_wp2_with fail
  go_loop [2, 8] (fun vx vi => ∃ i x : Nat, i ≤ s.size ∧ i ≤ 9 ∧ vi = .int .i64 i ∧ vx = .int .u64 x ∧ x < 2 ^ (7 * i) ∧ Wr.rd (L s) = Wr.rdG ((L s).drop i) i x) (fun _ vi => s.size - (intOf vi).toNat)
  case atStart => exact ⟨0, 0, Nat.zero_le _, by decide, rfl, rfl, by decide, rfl⟩
  case round =>
    obtain ⟨i, x, hi, hi10, rfl, rfl, hx, hr⟩ := hrel
    by_cases hlt : i < s.size
    · have hiI : (0 : Int) ≤ i ∧ (i : Int) < s.size := by omega
      have hget := L_get s i hlt
      have hdr : (L s).drop i = s[i] :: (L s).drop (i + 1) := by
        rw [List.drop_eq_getElem_cons (by rw [L_size]; exact hlt), hget]
      rw [hdr] at hr
      have hc255 := s[i].toNat_lt
      rw [Wr.rdG] at hr
      have hsv : ∃ v, s[i].toNat = v := ⟨_, rfl⟩
      obtain ⟨v, hv⟩ := hsv
      rw [hv] at hr hc255
      have hand := and127 v hc255
      have hor := or_high x (v % 128) (7 * i) hx (by omega)
      have h128 : ((v % 128 * 2 ^ (7 * i) : Nat)) = v % 128 * 128 ^ i := by rw [Nat.pow_mul]
      rw [h128] at hor
      have hvI : (0 : Int) ≤ v ∧ (v : Int) ≤ 255 := by omega
      clear hdr hget h128
      by_cases h1 : i = 9 ∧ 1 < v
      · obtain ⟨rfl, h1⟩ := h1
        rw [if_pos (.inl ⟨rfl, h1⟩)] at hr
        have HR := Lib.hid hr
        have hg : (1 : Int) < v := by omega
        clear hr hor hand
        go_wp2_with fail
        refine bodyPost_ret (v := .tuple #[.int .u64 (0), .int .i64 (0), .int .i64 7]) (by simp [results, Try.results32, go_sem]) rfl ⟨by rw [HR.out]; rfl, rfl⟩
      · by_cases h2 : 0 < i ∧ v = 0
        · obtain ⟨h2, rfl⟩ := h2
          rw [if_pos (.inr ⟨h2, rfl⟩)] at hr
          have HR := Lib.hid hr
          clear hr hor hand h1
          by_cases h9 : i = 9
          · subst h9
            go_wp2_with fail
            refine bodyPost_ret (v := .tuple #[.int .u64 (0), .int .i64 (0), .int .i64 7]) (by simp [results, Try.results32, go_sem]) rfl ⟨by rw [HR.out]; rfl, rfl⟩
          · have h9' : ((i : Int) == 9) = false := beq_eq_false_iff_ne.2 (by omega)
            clear h9
            go_wp2_with fail
            refine bodyPost_ret (v := .tuple #[.int .u64 (0), .int .i64 (0), .int .i64 7]) (by simp [results, Try.results32, go_sem]) rfl ⟨by rw [HR.out]; rfl, rfl⟩
        · rw [if_neg (by omega)] at hr
          have HR := Lib.hid hr
          have hw7 : IntKind.i64.wrap (7 * (i : Int)) = 7 * (i : Int) := IntWalk.i64_in _ (by omega)
          have HRX : Hid (i < 9 → (x + v % 128 * 128 ^ i) % 18446744073709551616 < 2 ^ (7 * (i + 1))) := Lib.hid (by
            intro h9
            rw [Nat.pow_mul, Nat.pow_succ]
            rw [Nat.pow_mul] at hx
            have h1 : v % 128 * 128 ^ i ≤ 127 * 128 ^ i := Nat.mul_le_mul_right _ (by omega)
            have h2 : (2 ^ 7 : Nat) = 128 := rfl
            rw [h2] at hx ⊢
            refine Nat.lt_of_le_of_lt (Nat.mod_le _ _) ?_
            omega)
          have HV9 : Hid (i = 9 → v = 1) := Lib.hid (fun h => by omega)
          clear h1 hr hx
          by_cases h9 : i = 9
          · subst h9
            obtain rfl : v = 1 := HV9.out rfl
            rw [if_pos (by decide)] at HR
            have hor9 : Go.bits .or .u64 (x : Int) 9223372036854775808 = (((x + 1 % 128 * 128 ^ 9) % 18446744073709551616 : Nat) : Int) := hor
            have hand9 : Go.bits .and .u64 1 127 = 1 := hand
            clear hor hand
            go_wp2_with fail
            refine bodyPost_ret (v := rdV (Wr.rd (L s))) (by rw [HR.out]; simp [results, Try.results32, go_sem, rdV, Wr.M64]) rfl ⟨rfl, rfl⟩
          · have h9' : ((i : Int) == 9) = false := beq_eq_false_iff_ne.2 (by omega)
            by_cases h0 : i = 0
            · subst h0
              clear h9 h9' h2
              have hor0 : Go.bits .or .u64 (x : Int) ((v : Int) % 128) = (((x + v % 128 * 128 ^ 0) % 18446744073709551616 : Nat) : Int) := by
                rw [← hor]
                congr 1
                rw [IntKind.wrap_u64]; simp; omega
              clear hor
              by_cases h128 : v < 128
              · rw [if_pos h128] at HR
                have h128I : (v : Int) < 128 := by omega
                go_wp2_with fail
                refine bodyPost_ret (v := rdV (Wr.rd (L s))) (by rw [HR.out]; simp [results, Try.results32, go_sem, rdV, Wr.M64]) rfl ⟨rfl, rfl⟩
              · rw [if_neg h128] at HR
                have h128I : ¬ (v : Int) < 128 := by omega
                go_wp2_with fail
                go_round
                case rel => exact ⟨1, (x + v % 128 * 128 ^ 0) % 18446744073709551616, by omega, by decide, rfl, by rw [Nat.pow_zero, Nat.mul_one]; congr 1, HRX.out (by decide), HR.out⟩
                case measure => simp [intOf]; omega
            · have h0I : (0 : Int) < i := by omega
              have horI : Go.bits .or .u64 (x : Int) (IntKind.u64.wrap ((v : Int) % 128 * 2 ^ (7 * i))) = (((x + v % 128 * 128 ^ i) % 18446744073709551616 : Nat) : Int) := by
                rw [← hor]; push_cast; rfl
              clear hor
              have hvz : ((v : Int) == 0) = false := beq_eq_false_iff_ne.2 (by omega)
              have HI9 := Lib.hid h9
              clear h9 h0 h2
              by_cases h128 : v < 128
              · rw [if_pos h128] at HR
                have h128I : (v : Int) < 128 := by omega
                go_wp2_with fail
                refine bodyPost_ret (v := rdV (Wr.rd (L s))) (by rw [HR.out]; simp [results, Try.results32, go_sem, rdV, Wr.M64]) rfl ⟨rfl, rfl⟩
              · rw [if_neg h128] at HR
                have h128I : ¬ (v : Int) < 128 := by omega
                go_wp2_with fail
                go_round
                case rel => exact ⟨i + 1, (x + v % 128 * 128 ^ i) % 18446744073709551616, by omega, by have := HI9.out; omega, by go_num, by congr 1, HRX.out (by have := HI9.out; omega), HR.out⟩
                case measure => simp [intOf]; omega
    · obtain rfl : i = s.size := by omega
      have hd : (L s).drop s.size = [] := List.drop_of_length_le (by rw [L_size]; exact Nat.le_refl _)
      rw [hd] at hr
      have HR := Lib.hid (show Wr.rd (L s) = (0, 0, 6) from hr)
      clear hr hd hx
      go_wp2_with fail
      refine bodyPost_ret (v := rdV (Wr.rd (L s))) (by rw [HR.out]; simp [results, Try.results32, go_sem, rdV]) rfl ⟨rfl, rfl⟩
end Go.Proofs.Ytboplbcfoooenaa
