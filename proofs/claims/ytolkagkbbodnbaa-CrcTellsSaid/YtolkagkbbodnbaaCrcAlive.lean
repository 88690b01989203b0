/-
  THE WALK of the statements' small known answers for layer 7.
-/
import Derived.Test.YtolkagkbbodnbaaCrcRef
namespace Go.Proofs.Ytolkagkbbodnbaa
open Go.RowKit

theorem sum_known (s : ByteArray) (v : Int) (w : World) (hs : s.size ≤ 9223372036854775807) (hv : w32 (Crc.sum (L s)) = v) :
    Calls Try.prog 8 #[.string s] w fun e w' => e = .returned (.int .u32 v) ∧ Below w.heap.size w w' := by
  subst hv; exact crc_sum s w hs
theorem more_known (c : Int) (s : ByteArray) (v : Int) (w : World) (hs : s.size ≤ 9223372036854775807) (hc : w32 (BitVec.ofInt 32 c) = c) (hv : w32 (Crc.more (BitVec.ofInt 32 c) (L s)) = v) :
    Calls Try.prog 10 #[.int .u32 c, .string s] w fun e w' => e = .returned (.int .u32 v) ∧ Below w.heap.size w w' := by
  subst hv; have := crc_more (BitVec.ofInt 32 c) s w hs; rwa [hc] at this
theorem join_known (a b : Int) (n : Nat) (v : Int) (w : World) (hn : n ≤ 18446744073709551615) (ha : w32 (BitVec.ofInt 32 a) = a) (hb : w32 (BitVec.ofInt 32 b) = b) (hv : w32 (Crc.join (BitVec.ofInt 32 a) (BitVec.ofInt 32 b) n) = v) :
    Calls Try.prog 12 #[.int .u32 a, .int .u32 b, .int .u64 n] w fun e w' => e = .returned (.int .u32 v) ∧ Below w.heap.size w w' := by
  subst hv; have := crc_join (BitVec.ofInt 32 a) (BitVec.ofInt 32 b) n w hn; rwa [ha, hb] at this

set_option maxHeartbeats 1000000 in
theorem alive07 (w : World) :
    Calls Try.prog 7 #[] w fun e w' => e = .returned (.bool true) ∧ Below w.heap.size w w' := by
  go_enter Try.func7, Try.ntmps7
  have hO := Own.refl w
  go_wp2_with fail
  refine (sum_known _ 3421780262 _ (by decide) (by decide +kernel)).mono ?_
  rintro e w1 ⟨rfl, hb1⟩
  replace hO := hO.trans hb1
  clear hb1
  go_wp2_with fail
  refine (sum_known _ 0 _ (by decide) (by decide +kernel)).mono ?_
  rintro e w1 ⟨rfl, hb1⟩
  replace hO := hO.trans hb1
  clear hb1
  go_wp2_with fail
  refine (sum_known _ 3904355907 _ (by decide) (by decide +kernel)).mono ?_
  rintro e w1 ⟨rfl, hb1⟩
  replace hO := hO.trans hb1
  clear hb1
  go_wp2_with fail
  refine (sum_known _ 3265866552 _ (by decide) (by decide +kernel)).mono ?_
  rintro e w1 ⟨rfl, hb1⟩
  replace hO := hO.trans hb1
  clear hb1
  go_wp2_with fail
  refine (join_known _ _ 2 891568578 _ (by decide) (by decide +kernel) (by decide +kernel) (by decide +kernel)).mono ?_
  rintro e w1 ⟨rfl, hb1⟩
  replace hO := hO.trans hb1
  clear hb1
  go_wp2_with fail
  refine (sum_known _ 891568578 _ (by decide) (by decide +kernel)).mono ?_
  rintro e w1 ⟨rfl, hb1⟩
  replace hO := hO.trans hb1
  clear hb1
  go_wp2_with fail
  refine (sum_known _ 3904355907 _ (by decide) (by decide +kernel)).mono ?_
  rintro e w1 ⟨rfl, hb1⟩
  replace hO := hO.trans hb1
  clear hb1
  go_wp2_with fail
  refine (more_known _ _ 891568578 _ (by decide) (by decide +kernel) (by decide +kernel)).mono ?_
  rintro e w1 ⟨rfl, hb1⟩
  replace hO := hO.trans hb1
  clear hb1
  go_wp2_with fail
  refine (sum_known _ 891568578 _ (by decide) (by decide +kernel)).mono ?_
  rintro e w1 ⟨rfl, hb1⟩
  replace hO := hO.trans hb1
  clear hb1
  go_wp2_with fail
  go_ret
  exact ⟨rfl, hO.below⟩

end Go.Proofs.Ytolkagkbbodnbaa
