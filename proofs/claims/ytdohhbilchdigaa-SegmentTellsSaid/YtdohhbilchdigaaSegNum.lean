/-
  THE WALK of the document's answer for layer 8: Number.
-/
import Derived.Test.YtdohhbilchdigaaWireRead4
namespace Go.Proofs.Ytdohhbilchdigaa
open Go.RowKit

set_option maxRecDepth 20000 in
set_option maxHeartbeats 1000000 in
theorem rnum_any (s : ByteArray) (w : World) (hs : s.size ≤ 1073741824) :
    Calls Try.prog 36 #[.string s] w fun e w' => e = .returned (rdV (Wr.rd (L s))) ∧ w' = w := by
  have hsI : (s.size : Int) ≤ 1073741824 := by omega
  have HS := Lib.hid hs
  clear hs
  go_enter Try.func36, Try.ntmps36
  go_wp2_with fail
  go_loop [5, 6, 7] (fun vx vp vi => ∃ i x p : Nat, i ≤ s.size ∧ i ≤ 9 ∧ vi = .int .i64 i ∧ vx = .int .u64 x ∧ vp = .int .u64 p ∧ p = 128 ^ i ∧ x < p ∧ Wr.rd (L s) = Wr.rdG ((L s).drop i) i x) (fun _ _ vi => s.size - (intOf vi).toNat)
  case atStart => exact ⟨0, 0, 1, Nat.zero_le _, by decide, rfl, rfl, rfl, rfl, by decide, rfl⟩
  case round =>
    obtain ⟨i, x, p, hi, hi10, rfl, rfl, rfl, hp, hx, hr⟩ := hrel
    have hp63 := Wr.pow128 i hi10
    rw [← hp] at hp63
    have HP := Lib.hid hp
    by_cases hlt : i < s.size
    · have hiI : (0 : Int) ≤ i ∧ (i : Int) < s.size := by omega
      have hget := L_get s i hlt
      have hdr : (L s).drop i = s[i] :: (L s).drop (i + 1) := by
        rw [List.drop_eq_getElem_cons (by rw [L_size]; exact hlt), hget]
      rw [hdr] at hr
      have hc255 := s[i].toNat_lt
      rw [Wr.rdG, ← hp] at hr
      have hsv : ∃ v, s[i].toNat = v := ⟨_, rfl⟩
      obtain ⟨v, hv⟩ := hsv
      rw [hv] at hr hc255
      have hvI : (0 : Int) ≤ v ∧ (v : Int) ≤ 255 := by omega
      have hvw : IntKind.u64.wrap (v : Int) = v := IntWalk.u64_in _ (by omega)
      have htm : (v : Int).tmod 128 = (v : Int) % 128 := Int.tmod_eq_emod_of_nonneg (by omega)
      have hmul : (v % 128) * p ≤ 127 * p := Nat.mul_le_mul_right _ (by omega)
      have hcast : ((v : Int) % 128) * (p : Int) = ((v % 128 * p : Nat) : Int) := by push_cast; rfl
      have hadd : IntKind.u64.wrap ((x : Int) + IntKind.u64.wrap ((v : Int) % 128 * p)) = (((x + v % 128 * p) % 18446744073709551616 : Nat) : Int) := by
        rw [IntKind.wrap_u64, IntKind.wrap_u64, hcast]; omega
      clear hdr hget hcast hp
      by_cases h1 : i = 9 ∧ 1 < v
      · obtain ⟨rfl, h1⟩ := h1
        rw [if_pos (.inl ⟨rfl, h1⟩)] at hr
        have HR := Lib.hid hr
        have hg : (1 : Int) < v := by omega
        clear hr hadd hmul h1
        go_wp2_with fail
        refine bodyPost_ret (v := .tuple #[.int .u64 (0), .int .i64 (0), .int .i64 7]) (by simp [results, Try.results36, go_sem]) rfl ⟨by rw [HR.out]; rfl, rfl⟩
      · by_cases h2 : 0 < i ∧ v = 0
        · obtain ⟨h2, rfl⟩ := h2
          rw [if_pos (.inr ⟨h2, rfl⟩)] at hr
          have HR := Lib.hid hr
          have h2I : (0 : Int) < i := by omega
          clear hr hadd hmul h1
          go_wp2_with fail
          refine bodyPost_ret (v := .tuple #[.int .u64 (0), .int .i64 (0), .int .i64 7]) (by simp [results, Try.results36, go_sem]) rfl ⟨by rw [HR.out]; rfl, rfl⟩
        · rw [if_neg (by omega)] at hr
          have HR := Lib.hid hr
          have hbad1 : i = 0 ∨ (0 : Int) < i ∧ ((v : Int) == 0) = false := by
            by_cases h0 : 0 < i
            · right; exact ⟨by omega, by rw [beq_eq_false_iff_ne]; omega⟩
            · left; omega
          have HN9 : Hid (¬ v < 128 → i < 9) := Lib.hid (by intro h; omega)
          have HRX : Hid ((x + v % 128 * p) % 18446744073709551616 < p * 128) := Lib.hid (by
            refine Nat.lt_of_le_of_lt (Nat.mod_le _ _) ?_; omega)
          by_cases h9 : i = 9
          · subst h9
            have hv1 : (v : Int) ≤ 1 := by omega
            have b1 : ((v : Int) == 0) = false := by rw [beq_eq_false_iff_ne]; omega
            have b2 : decide ((1 : Int) < v) = false := by rw [decide_eq_false_iff_not]; omega
            rw [if_pos (by omega)] at HR
            clear hbad1 h1 h2 hr hx hmul HN9
            go_wp2_with fail
            refine bodyPost_ret (v := rdV (Wr.rd (L s))) (by rw [HR.out]; simp [results, Try.results36, go_sem, rdV, Wr.M64]) rfl ⟨rfl, rfl⟩
          · have b2 : ((i : Int) == 9) = false := by rw [beq_eq_false_iff_ne]; omega
            clear h1 h2 hr hx hmul h9
            by_cases h128 : v < 128
            · rw [if_pos h128] at HR
              have h128I : (v : Int) < 128 := by omega
              clear h128 HN9
              rcases hbad1 with rfl | ⟨h0I, b1⟩
              all_goals
                go_wp2_with fail
                refine bodyPost_ret (v := rdV (Wr.rd (L s))) (by rw [HR.out]; simp [results, Try.results36, go_sem, rdV, Wr.M64]) rfl ⟨rfl, rfl⟩
            · rw [if_neg h128] at HR
              have h128I : (128 : Int) ≤ v := by omega
              have h9 := HN9.out h128
              have hpn := Wr.pow128 (i + 1) (by omega)
              rw [Nat.pow_succ, ← HP.out] at hpn
              have hpw : IntKind.u64.wrap ((p : Int) * 128) = ((p * 128 : Nat) : Int) := by rw [IntKind.wrap_u64]; push_cast; omega
              clear h128 hp63
              rcases hbad1 with rfl | ⟨h0I, b1⟩
              all_goals
                go_wp2_with fail
                go_round
                case rel => first | exact ⟨i + 1, (x + v % 128 * p) % 18446744073709551616, p * 128, by omega, by omega, by go_num, by first | rfl | rw [hadd], by first | rfl | rw [hpw], by rw [Nat.pow_succ, ← HP.out], HRX.out, HR.out⟩ | exact ⟨0 + 1, (x + v % 128 * p) % 18446744073709551616, p * 128, by omega, by omega, by go_num, by first | rfl | rw [hadd], by first | rfl | rw [hpw], by rw [Nat.pow_succ, ← HP.out], HRX.out, HR.out⟩
                case measure => simp [intOf]; omega
    · obtain rfl : i = s.size := by omega
      have hd : (L s).drop s.size = [] := List.drop_of_length_le (by rw [L_size]; exact Nat.le_refl _)
      rw [hd] at hr
      have HR := Lib.hid (show Wr.rd (L s) = (0, 0, 6) from hr)
      clear hr hd hx
      go_wp2_with fail
      refine bodyPost_ret (v := rdV (Wr.rd (L s))) (by rw [HR.out]; simp [results, Try.results36, go_sem, rdV, Wr.M64]) rfl ⟨rfl, rfl⟩
end Go.Proofs.Ytdohhbilchdigaa
