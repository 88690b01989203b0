/-
  THE WALK of the statement CrcTells.
-/
import Derived.Test.YtolkagkbbodnbaaCrcAlive
namespace Go.Proofs.Ytolkagkbbodnbaa
open Go.RowKit

set_option maxHeartbeats 1000000 in
theorem crcTells_any (s : ByteArray) (a b : BitVec 32) (n : Nat) (w : World) (hs : s.size ≤ 9223372036854775807) (hn : n ≤ 18446744073709551615) :
    Calls Try.prog 3 #[.string s, .int .u32 (w32 a), .int .u32 (w32 b), .int .u64 n] w fun e w' => e = .returned (.bool true) ∧ Below w.heap.size w w' := by
  have hO := Own.refl w
  by_cases hlong : 8192 < s.size
  · have hl : (8192 : Int) < s.size := by omega
    go_enter Try.func3, Try.ntmps3
    go_wp2_with fail
    refine (alive07 _).mono ?_
    rintro e w1 ⟨rfl, hb1⟩
    replace hO := hO.trans hb1
    clear hb1
    go_wp2_with fail
    go_ret
    exact ⟨rfl, hO.below⟩
  · have hl : (s.size : Int) ≤ 8192 := by omega
    have hk : n % 600 < 600 := Nat.mod_lt _ (by decide)
    go_enter Try.func3, Try.ntmps3
    go_wp2_with fail
    refine (crc_sum s _ hs).mono ?_
    rintro e w1 ⟨rfl, hb1⟩
    replace hO := hO.trans hb1
    clear hb1
    go_wp2_with fail
    refine (ref_sum s _ hs).mono ?_
    rintro e w1 ⟨rfl, rfl⟩
    go_wp2_with fail
    refine (crc_more a s _ hs).mono ?_
    rintro e w1 ⟨rfl, hb1⟩
    replace hO := hO.trans hb1
    clear hb1
    go_wp2_with fail
    refine (ref_more a s _ hs).mono ?_
    rintro e w1 ⟨rfl, rfl⟩
    go_wp2_with fail
    refine (crc_join a b n _ hn).mono ?_
    rintro e w1 ⟨rfl, hb1⟩
    replace hO := hO.trans hb1
    clear hb1
    go_wp2_with fail
    refine (ref_join a b n _ hn).mono ?_
    rintro e w1 ⟨rfl, rfl⟩
    go_wp2_with fail
    refine (crc_join a b (n % 600) _ (by omega)).mono ?_
    rintro e w1 ⟨rfl, hb1⟩
    replace hO := hO.trans hb1
    clear hb1
    go_wp2_with fail
    refine (ref_slow a b (n % 600) _ hk).mono ?_
    rintro e w1 ⟨rfl, hb1⟩
    replace hO := hO.trans hb1
    clear hb1
    go_wp2_with fail
    refine (alive07 _).mono ?_
    rintro e w1 ⟨rfl, hb1⟩
    replace hO := hO.trans hb1
    clear hb1
    go_wp2_with fail
    go_ret
    exact ⟨rfl, hO.below⟩

end Go.Proofs.Ytolkagkbbodnbaa
