/-
  THE WALKS of package crc: what Sum, More and Join hand back, and that they leave alone what was there.
-/
import Derived.Test.YteipjgmbgkjjiaaBase
import Derived.Test.YteipjgmbgkjjiaaCrcMath
set_option linter.unusedVariables false
set_option linter.unusedSimpArgs false
namespace Go.Proofs.Yteipjgmbgkjjiaa
open Go.RowKit

theorem Try.und9 : Try.prog.underlying 9 = some .string := by kernel_rfl
theorem Try.und32 : Try.prog.underlying 53 = some (.slice 5) := by kernel_rfl
theorem Try.und5 : Try.prog.underlying 5 = some (.int .u8) := by kernel_rfl

theorem halfO (x : BitVec 32) : (x >>> 1) ^^^ (3988292384#32 * (x &&& 1#32)) = Crc.half x := rfl

set_option maxHeartbeats 400000 in
theorem crc_more (c : BitVec 32) (s : ByteArray) (w : World) (hs : s.size ≤ 9223372036854775807) :
    Calls Try.prog 22 #[.int .u32 (w32 c), .string s] w fun e w' => e = .returned (.int .u32 (w32 (Crc.more c (L s)))) ∧ Below w.heap.size w w' := by
  have hconv : ∀ w : World, (convert 9 53 (.string s)).run Try.prog w = _ := fun w => run_bytes_of_string w 9 53 5 s Try.und9 Try.und32 Try.und5
  go_enter Try.func22, Try.ntmps22
  go_wp2
  have hcell := bytes_cell w s 5
  have hO := ((Own.refl w).alloc (.cells (bytesRow s (grownCap w s.size 0 5)) 5 ((bytesRow s (grownCap w s.size 0 5)).size, (bytesRow s (grownCap w s.size 0 5)).size + 1))).drew
  generalize (w.alloc (.cells (bytesRow s (grownCap w s.size 0 5)) 5 ((bytesRow s (grownCap w s.size 0 5)).size, (bytesRow s (grownCap w s.size 0 5)).size + 1))).drew = W at *
  generalize grownCap w s.size 0 5 = cap
  clear hconv
  go_loop [0, 12] (fun x i => ∃ k : Nat, k ≤ s.size ∧ i = .int .i64 k ∧ x = .int .u32 (w32 (Crc.raw (~~~ c) ((L s).take k)))) (fun _ i => s.size - (intOf i).toNat)
  case atStart => exact ⟨0, Nat.zero_le _, rfl, rfl⟩
  case round =>
    obtain ⟨k, hk, rfl, rfl⟩ := hrel
    by_cases hlt : k < s.size
    · have hc := hcell k hlt
      have hts := L_take_succ s k hlt
      go_wp2
      have HA : Hid (Crc.raw (~~~ c) ((L s).take (k + 1)) = Crc.itN 8 (Crc.raw (~~~ c) ((L s).take k) ^^^ BitVec.ofNat 32 s[k].toNat)) := by
        rw [hts, Crc.raw_snoc]; rfl
      clear hts hc hcell
      generalize Crc.raw (~~~ c) ((L s).take k) ^^^ BitVec.ofNat 32 s[k].toNat = A at *
      go_loop [0, 20] (fun x j => ∃ m : Nat, m ≤ 8 ∧ j = .int .i64 m ∧ x = .int .u32 (w32 (Crc.itN m A))) (fun _ j => 8 - (intOf j).toNat)
      case atStart => exact ⟨0, Nat.zero_le _, rfl, rfl⟩
      case round =>
        obtain ⟨m, hm, rfl, rfl⟩ := hrel
        by_cases hm8 : m < 8
        · go_wp2
          go_round
          case rel => exact ⟨m + 1, by omega, by go_num, by rw [Crc.itN, ← halfO]⟩
          case measure => simp [intOf]; omega
        · obtain rfl : m = 8 := by omega
          go_wp2
          go_round
          case rel => exact ⟨k + 1, by omega, by go_num, by rw [HA.out]⟩
          case measure => simp [intOf]; omega
    · go_wp2
      go_ret
      refine ⟨ret_u ?_, hO.below⟩
      rw [L_take_all s k (by omega)]; rfl

end Go.Proofs.Yteipjgmbgkjjiaa
