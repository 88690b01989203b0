/-
  THE WALKS of crc.Sum, and of the document's answer for sums.
-/
import Derived.Test.YtboplbcfoooenaaCrcWalks
namespace Go.Proofs.Ytboplbcfoooenaa
open Go.RowKit

set_option maxHeartbeats 400000 in
theorem crc_sum (s : ByteArray) (w : World) (hs : s.size ≤ 9223372036854775807) :
    Calls Try.prog 26 #[.string s] w fun e w' => e = .returned (.int .u32 (w32 (Crc.sum (L s)))) ∧ Below w.heap.size w w' := by
  have h0 : (0 : Int) = w32 0#32 := rfl
  have hm := crc_more 0#32 s
  rw [← h0] at hm
  have Hm := Lib.hid hm
  clear hm h0
  go_enter Try.func26, Try.ntmps26
  go_wp2_with (go_at_call 25; refine (Hm.out _ hs).mono ?_; rintro e w' ⟨rfl, hb⟩)
  go_ret
  exact ⟨rfl, hb⟩

theorem halfR1 (c : BitVec 32) (h : (c &&& 1#32 == 1#32) = true) : (c >>> 1) ^^^ 3988292384#32 = Crc.half c := by
  rw [beq_iff_eq] at h
  unfold Crc.half
  rw [h, BitVec.mul_one]; rfl
theorem halfR0 (c : BitVec 32) (h : (c &&& 1#32 == 1#32) = false) : (c >>> 1) = Crc.half c := by
  unfold Crc.half
  rw [Crc.and_one] at h ⊢
  cases hb : Crc.bit0 c with
  | true => rw [hb, if_pos rfl] at h; exact absurd h (by decide)
  | false => simp

end Go.Proofs.Ytboplbcfoooenaa
