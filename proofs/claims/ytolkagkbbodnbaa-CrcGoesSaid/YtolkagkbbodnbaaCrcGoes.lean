/-
  THE WALK of the statement CrcGoes.
-/
import Derived.Test.YtolkagkbbodnbaaCrcAlive
namespace Go.Proofs.Ytolkagkbbodnbaa
open Go.RowKit

section
variable (s t u : ByteArray) (a : BitVec 32) (w : World)
theorem goes_more (ht : t.size ≤ 9223372036854775807) :
    Calls Try.prog 10 #[.int .u32 (w32 (Crc.sum (L s))), .string t] w fun e w' => e = .returned (.int .u32 (w32 (Crc.sum (L s ++ L t)))) ∧ Below w.heap.size w w' := by
  rw [← Crc.sum_append]; exact crc_more _ t w ht
theorem goes_sum (h : (s ++ t).size ≤ 9223372036854775807) :
    Calls Try.prog 8 #[.string (s ++ t)] w fun e w' => e = .returned (.int .u32 (w32 (Crc.sum (L s ++ L t)))) ∧ Below w.heap.size w w' := by
  rw [← L_append]; exact crc_sum _ w h
theorem goes_join (l m : List UInt8) (n : Nat) (hn : n = m.length) (h : n ≤ 18446744073709551615) :
    Calls Try.prog 12 #[.int .u32 (w32 (Crc.sum l)), .int .u32 (w32 (Crc.sum m)), .int .u64 n] w fun e w' => e = .returned (.int .u32 (w32 (Crc.sum (l ++ m)))) ∧ Below w.heap.size w w' := by
  subst hn
  rw [← Crc.join_sum]; exact crc_join _ _ _ w h
theorem goes_nil :
    Calls Try.prog 10 #[.int .u32 (w32 a), .string ⟨#[]⟩] w fun e w' => e = .returned (.int .u32 (w32 a)) ∧ Below w.heap.size w w' := by
  have := crc_more a ⟨#[]⟩ w (by decide)
  rwa [show L ⟨#[]⟩ = [] from rfl, Crc.more_nil] at this
theorem goes_more2 (ht : t.size ≤ 9223372036854775807) :
    Calls Try.prog 10 #[.int .u32 (w32 (Crc.more a (L s))), .string t] w fun e w' => e = .returned (.int .u32 (w32 (Crc.more a (L s ++ L t)))) ∧ Below w.heap.size w w' := by
  rw [← Crc.more_append]; exact crc_more _ t w ht
theorem goes_more3 (h : (s ++ t).size ≤ 9223372036854775807) :
    Calls Try.prog 10 #[.int .u32 (w32 a), .string (s ++ t)] w fun e w' => e = .returned (.int .u32 (w32 (Crc.more a (L s ++ L t)))) ∧ Below w.heap.size w w' := by
  rw [← L_append]; exact crc_more _ _ w h
theorem goes_zero (y : BitVec 32) (n : Nat) (h : n ≤ 18446744073709551615) :
    Calls Try.prog 12 #[.int .u32 0, .int .u32 (w32 y), .int .u64 n] w fun e w' => e = .returned (.int .u32 (w32 (Crc.join 0#32 y n))) ∧ Below w.heap.size w w' :=
  crc_join 0#32 y n w h
theorem goes_apart (n : Nat) (hn : n = (L t).length) (h : n ≤ 18446744073709551615) :
    Calls Try.prog 12 #[.int .u32 (w32 (Crc.sum (L s))), .int .u32 0, .int .u64 n] w fun e w' => e = .returned (.int .u32 (w32 (Crc.sum (L s ++ L t) ^^^ Crc.join 0#32 (Crc.sum (L t)) n))) ∧ Below w.heap.size w w' := by
  subst hn
  rw [← Crc.join_sum, Crc.join_apart]
  exact crc_join _ 0#32 _ w h
theorem goes_join3 (n : Nat) (hn : n = t.size + u.size) (h : n ≤ 18446744073709551615) :
    Calls Try.prog 12 #[.int .u32 (w32 (Crc.sum (L s))), .int .u32 (w32 (Crc.sum (L t ++ L u))), .int .u64 ((t.size : Int) + (u.size : Int))] w fun e w' => e = .returned (.int .u32 (w32 (Crc.sum (L s ++ L t ++ L u)))) ∧ Below w.heap.size w w' := by
  have := goes_join w (L s) (L t ++ L u) n (by rw [hn, List.length_append, L_size, L_size]) h
  subst hn
  rwa [← List.append_assoc, Int.natCast_add] at this
end

set_option maxHeartbeats 2000000 in
theorem crcGoes_any (s t u : ByteArray) (a : BitVec 32) (w : World) (hs : s.size ≤ 140737488351232) (ht : t.size ≤ 140737488351232) (hu : u.size ≤ 140737488351232) :
    Calls Try.prog 4 #[.string s, .string t, .string u, .int .u32 (w32 a)] w fun e w' => e = .returned (.bool true) ∧ Below w.heap.size w w' := by
  have hO := Own.refl w
  by_cases hlong : 8192 < s.size + t.size + u.size
  · have hl : (8192 : Int) < s.size + t.size + u.size := by omega
    go_enter Try.func4, Try.ntmps4
    go_wp2_with fail
    refine (alive07 _).mono ?_
    rintro e w1 ⟨rfl, hb1⟩
    replace hO := hO.trans hb1
    clear hb1
    go_wp2_with fail
    go_ret
    exact ⟨rfl, hO.below⟩
  · have hl : (s.size : Int) + t.size + u.size ≤ 8192 := by omega
    go_enter Try.func4, Try.ntmps4
    go_wp2_with fail
    refine (crc_sum s _ (by omega)).mono ?_
    rintro e w1 ⟨rfl, hb1⟩
    replace hO := hO.trans hb1
    clear hb1
    go_wp2_with fail
    refine (crc_sum t _ (by omega)).mono ?_
    rintro e w1 ⟨rfl, hb1⟩
    replace hO := hO.trans hb1
    clear hb1
    go_wp2_with fail
    refine (crc_sum u _ (by omega)).mono ?_
    rintro e w1 ⟨rfl, hb1⟩
    replace hO := hO.trans hb1
    clear hb1
    go_wp2_with fail
    refine (goes_more s t _ (by omega)).mono ?_
    rintro e w1 ⟨rfl, hb1⟩
    replace hO := hO.trans hb1
    clear hb1
    go_wp2_with fail
    refine (goes_sum s t _ (by rw [ByteArray.size_append]; omega)).mono ?_
    rintro e w1 ⟨rfl, hb1⟩
    replace hO := hO.trans hb1
    clear hb1
    go_wp2_with fail
    refine (goes_join _ (L s) (L t) t.size (L_size t).symm (by omega)).mono ?_
    rintro e w1 ⟨rfl, hb1⟩
    replace hO := hO.trans hb1
    clear hb1
    go_wp2_with fail
    refine (goes_sum s t _ (by rw [ByteArray.size_append]; omega)).mono ?_
    rintro e w1 ⟨rfl, hb1⟩
    replace hO := hO.trans hb1
    clear hb1
    go_wp2_with fail
    refine (goes_nil a _).mono ?_
    rintro e w1 ⟨rfl, hb1⟩
    replace hO := hO.trans hb1
    clear hb1
    go_wp2_with fail
    refine (crc_more a s _ (by omega)).mono ?_
    rintro e w1 ⟨rfl, hb1⟩
    replace hO := hO.trans hb1
    clear hb1
    go_wp2_with fail
    refine (goes_more2 s t a _ (by omega)).mono ?_
    rintro e w1 ⟨rfl, hb1⟩
    replace hO := hO.trans hb1
    clear hb1
    go_wp2_with fail
    refine (goes_more3 s t a _ (by rw [ByteArray.size_append]; omega)).mono ?_
    rintro e w1 ⟨rfl, hb1⟩
    replace hO := hO.trans hb1
    clear hb1
    go_wp2_with fail
    refine (goes_join _ (L s) (L t) t.size (L_size t).symm (by omega)).mono ?_
    rintro e w1 ⟨rfl, hb1⟩
    replace hO := hO.trans hb1
    clear hb1
    go_wp2_with fail
    refine (goes_join _ (L s ++ L t) (L u) u.size (L_size u).symm (by omega)).mono ?_
    rintro e w1 ⟨rfl, hb1⟩
    replace hO := hO.trans hb1
    clear hb1
    go_wp2_with fail
    refine (goes_join _ (L t) (L u) u.size (L_size u).symm (by omega)).mono ?_
    rintro e w1 ⟨rfl, hb1⟩
    replace hO := hO.trans hb1
    clear hb1
    go_wp2_with fail
    refine (goes_join3 s t u _ (t.size + u.size) rfl (by omega)).mono ?_
    rintro e w1 ⟨rfl, hb1⟩
    replace hO := hO.trans hb1
    clear hb1
    go_wp2_with fail
    refine (goes_join _ (L s) (L t) t.size (L_size t).symm (by omega)).mono ?_
    rintro e w1 ⟨rfl, hb1⟩
    replace hO := hO.trans hb1
    clear hb1
    go_wp2_with fail
    refine (goes_zero _ (Crc.sum (L t)) t.size (by omega)).mono ?_
    rintro e w1 ⟨rfl, hb1⟩
    replace hO := hO.trans hb1
    clear hb1
    go_wp2_with fail
    refine (goes_apart s t _ t.size (L_size t).symm (by omega)).mono ?_
    rintro e w1 ⟨rfl, hb1⟩
    replace hO := hO.trans hb1
    clear hb1
    go_wp2_with fail
    refine (alive07 _).mono ?_
    rintro e w1 ⟨rfl, hb1⟩
    replace hO := hO.trans hb1
    clear hb1
    go_wp2_with fail
    go_ret
    exact ⟨rfl, hO.below⟩

end Go.Proofs.Ytolkagkbbodnbaa
