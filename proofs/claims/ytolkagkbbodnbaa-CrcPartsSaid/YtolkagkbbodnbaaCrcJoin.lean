/-
  THE WALKS of Sum and Join.
-/
import Derived.Test.YtolkagkbbodnbaaCrcRows
namespace Go.Proofs.Ytolkagkbbodnbaa
open Go.RowKit

set_option maxHeartbeats 400000 in
theorem crc_sum (s : ByteArray) (w : World) (hs : s.size ≤ 9223372036854775807) :
    Calls Try.prog 8 #[.string s] w fun e w' => e = .returned (.int .u32 (w32 (Crc.sum (L s)))) ∧ Below w.heap.size w w' := by
  have h0 : (0 : Int) = w32 0#32 := rfl
  have hm := crc_more 0#32 s
  rw [← h0] at hm
  have Hm := Lib.hid hm
  clear hm h0
  go_enter Try.func8, Try.ntmps8
  go_wp2_with (go_at_call 10; refine (Hm.out _ hs).mono ?_; rintro e w' ⟨rfl, hb⟩)
  go_ret
  exact ⟨rfl, hb⟩

theorem join_odd (K q : Nat) (a : BitVec 32) : Crc.itN ((K + K) * q) (Crc.itN K a) = Crc.itN (K * (2 * q + 1)) a := by
  rw [← Crc.itN_add]; congr 1; rw [Nat.mul_add, Nat.mul_one, ← Nat.mul_assoc, Nat.mul_two]
theorem join_even (K q : Nat) (a : BitVec 32) : Crc.itN ((K + K) * q) a = Crc.itN (K * (2 * q)) a := by
  congr 1; rw [← Nat.mul_assoc, Nat.mul_two]

/-- What Join's loop keeps. -/
def JoinRel (w : World) (a0 : BitVec 32) (n0 : Nat) (va vn vp : Value) (wr : World) (a : BitVec 32) (n K g : Nat) : Prop :=
  va = .int .u32 (w32 a) ∧ vn = .int .u64 n ∧ vp = .pointer (some ⟨g, 0, none⟩) ∧ n ≤ 18446744073709551615 ∧ Crc.itN (K * n) a = Crc.itN (8 * n0) a0 ∧ Own w.heap.size w wr ∧
    w.heap.size ≤ g ∧ wr.heap[g]? = some (.cells (cells32 (itRows K)) 38 (0, 0))

set_option maxHeartbeats 1000000 in
theorem crc_join (a b : BitVec 32) (n : Nat) (w : World) (hn : n ≤ 18446744073709551615) :
    Calls Try.prog 12 #[.int .u32 (w32 a), .int .u32 (w32 b), .int .u64 n] w fun e w' => e = .returned (.int .u32 (w32 (Crc.join a b n))) ∧ Below w.heap.size w w' := by
  go_enter Try.func12, Try.ntmps12
  go_wp2_with fail
  refine (crc_zero _).mono ?_
  rintro e w1 ⟨rfl, hb1⟩
  go_wp2_with (refine wpList_store_all rfl 38 (.tmp 7) (.tmp 8) rfl w1.heap.size _ rfl rfl 38 _ (heap_alloc_new _ _) (by rw [Try.sizeRows, cells32_size]) (by rw [cells32_size]; rfl) (cells32_one _) ?_; intro w2 hp2)
  have hO := (((Own.refl w).trans hb1).alloc _).put hp2 hb1.size
  have h8 := Lib.hid hp2.here
  have hs1 := hb1.size
  clear hb1 hp2
  go_frame
  go_loopw [0, 2, 7] (fun va vn vp wr => ∃ a' n' K g, JoinRel w a n va vn vp wr a' n' K g) (fun _ vn _ _ => (intOf vn).toNat)
  case atStart => exact ⟨a, n, 8, w1.heap.size, rfl, rfl, rfl, hn, rfl, hO, hs1, h8.out⟩
  case round =>
    clear hO h8 hs1
    obtain ⟨a', n', K, g, rfl, rfl, rfl, hn', hval, hO, hg, hblk⟩ := hrel
    have HV := Lib.hid hval
    have HB := Lib.hid hblk
    clear hval hblk
    rcases Nat.eq_zero_or_pos n' with h0 | hpos
    · subst h0
      go_wp2
      go_ret
      refine ⟨ret_u ?_, hO.below⟩
      have := HV.out
      rw [Nat.mul_zero] at this
      unfold Crc.join
      rw [← this, Crc.itN]
    · obtain ⟨q, hq⟩ : ∃ q, n' = 2 * q + 1 ∨ n' = 2 * q := ⟨n' / 2, by omega⟩
      have hpos' : (0 : Int) < n' := by omega
      rcases hq with hq | hq
      · have hodd : ((n' : Int) % 2 == 1) = true := beq_iff_eq.2 (by omega)
        have hV2 := Lib.hid (show Crc.itN ((K + K) * q) (Crc.itN K a') = Crc.itN (8 * n) a from by rw [join_odd, ← hq]; exact HV.out)
        have hdiv := Lib.hid (show (n' : Int) / 2 = (q : Int) by omega)
        have hqn : q < n' := by omega
        clear HV hq
        go_wp2_with (first
          | (refine wpList_load_row rfl 38 (.tmp 7) rfl g rfl 38 _ (0, 0) _ HB.out Try.undRows rfl (by rw [Try.sizeRows, cells32_size]) ?_)
          | (go_at_call 17; refine (crc_of_it K a' _).mono ?_; rintro e w2 ⟨rfl, hb2⟩
             have hgl := blk_lt HB.out
             have hO2 := hO.trans hb2
             have KB2 := Lib.hid ((hb2.block g hgl).trans HB.out)
             clear hO HB hb2 hgl)
          | (refine wpList_load_row rfl 38 (.tmp 7) rfl g rfl 38 _ (0, 0) _ KB2.out Try.undRows rfl (by rw [Try.sizeRows, cells32_size]) ?_)
          | (go_at_call 18; refine (crc_twice_it K _).mono ?_; rintro e w3 ⟨rfl, hb3⟩
             have hgl := blk_lt KB2.out
             have hO3 := hO2.trans hb3
             have KB := Lib.hid ((hb3.block g hgl).trans KB2.out)
             clear hO2 KB2 hb3 hgl)
          | (refine wpList_store_all rfl 38 (.tmp 7) (.tmp 20) rfl g _ rfl rfl 38 _ KB.out (by rw [Try.sizeRows, cells32_size]) (by rw [cells32_size, cells32_size]) (cells32_one _) ?_; intro w4 hp4
             have hO4 := hO3.put hp4 hg
             have K4 := Lib.hid hp4.here
             clear hO3 KB hp4)
          | (refine wpList_load_row rfl 38 (.tmp 7) rfl g rfl 38 _ (0, 0) _ K4.out Try.undRows rfl (by rw [Try.sizeRows, cells32_size]) ?_)
          | (refine wpList_store_all rfl 38 (.tmp 7) (.tmp 21) rfl w4.heap.size _ rfl rfl 38 _ (heap_alloc_new _ _) (by rw [Try.sizeRows, cells32_size]) (by rw [cells32_size]; rfl) (cells32_one _) ?_; intro w5 hp5
             have hO5 := (hO4.alloc _).put hp5 hO4.size
             have K5 := Lib.hid hp5.here
             have hg5 := hO4.size
             clear hO4 K4 hp5))
        go_roundw
        case rel => exact ⟨_, q, K + K, w4.heap.size, rfl, congrArg (Value.int .u64) hdiv.out, rfl, by omega, hV2.out, hO5, hg5, K5.out⟩
        case measure => simp [intOf]; omega
      · have hodd : ((n' : Int) % 2 == 1) = false := beq_eq_false_iff_ne.2 (by omega)
        have hV2 := Lib.hid (show Crc.itN ((K + K) * q) a' = Crc.itN (8 * n) a from by rw [join_even, ← hq]; exact HV.out)
        have hdiv := Lib.hid (show (n' : Int) / 2 = (q : Int) by omega)
        have hqn : q < n' := by omega
        clear HV hq
        go_wp2_with (first
          | (refine wpList_load_row rfl 38 (.tmp 7) rfl g rfl 38 _ (0, 0) _ HB.out Try.undRows rfl (by rw [Try.sizeRows, cells32_size]) ?_)
          | (go_at_call 18; refine (crc_twice_it K _).mono ?_; rintro e w3 ⟨rfl, hb3⟩
             have hgl := blk_lt HB.out
             have hO3 := hO.trans hb3
             have KB := Lib.hid ((hb3.block g hgl).trans HB.out)
             clear hO HB hb3 hgl)
          | (refine wpList_store_all rfl 38 (.tmp 7) (.tmp 20) rfl g _ rfl rfl 38 _ KB.out (by rw [Try.sizeRows, cells32_size]) (by rw [cells32_size, cells32_size]) (cells32_one _) ?_; intro w4 hp4
             have hO4 := hO3.put hp4 hg
             have K4 := Lib.hid hp4.here
             clear hO3 KB hp4)
          | (refine wpList_load_row rfl 38 (.tmp 7) rfl g rfl 38 _ (0, 0) _ K4.out Try.undRows rfl (by rw [Try.sizeRows, cells32_size]) ?_)
          | (refine wpList_store_all rfl 38 (.tmp 7) (.tmp 21) rfl w4.heap.size _ rfl rfl 38 _ (heap_alloc_new _ _) (by rw [Try.sizeRows, cells32_size]) (by rw [cells32_size]; rfl) (cells32_one _) ?_; intro w5 hp5
             have hO5 := (hO4.alloc _).put hp5 hO4.size
             have K5 := Lib.hid hp5.here
             have hg5 := hO4.size
             clear hO4 K4 hp5))
        go_roundw
        case rel => exact ⟨_, q, K + K, w4.heap.size, rfl, congrArg (Value.int .u64) hdiv.out, rfl, by omega, hV2.out, hO5, hg5, K5.out⟩
        case measure => simp [intOf]; omega

end Go.Proofs.Ytolkagkbbodnbaa
