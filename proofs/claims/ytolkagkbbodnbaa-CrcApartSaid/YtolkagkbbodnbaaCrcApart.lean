/-
  THE WALK of the statement CrcApart.
-/
import Derived.Test.YtolkagkbbodnbaaCrcAlive
import Derived.Test.YtolkagkbbodnbaaBytes8
namespace Go.Proofs.Ytolkagkbbodnbaa
open Go.RowKit

/-- What the loop keeps: the bytes with some bits turned. -/
def ApartRel (w : World) (s : ByteArray) (turns : BitVec 32) (k cap : Nat) (wr : World) (i : Nat) (bs : List UInt8) : Prop :=
  i ≤ 32 ∧ bs.length = s.size ∧ Own w.heap.size w wr ∧ w.heap.size < wr.heap.size ∧ wr.heap[w.heap.size]? = some (.cells (byteRow bs cap) 5 (cap, cap + 1)) ∧
    Crc.raw (~~~ 0#32) bs = Crc.raw (~~~ 0#32) (L s) ^^^ Crc.itN (8 * s.size - k) (Crc.low i turns)
theorem turns_end (s : ByteArray) (turns : BitVec 32) (k : Nat) (bs : List UInt8) (h : Crc.raw (~~~ 0#32) bs = Crc.raw (~~~ 0#32) (L s) ^^^ Crc.itN (8 * s.size - k) (Crc.low 32 turns)) :
    (Crc.sum bs == Crc.sum (L s)) = (turns == 0#32) := by
  rw [Crc.low_all] at h
  rw [Bool.eq_iff_iff, beq_iff_eq, beq_iff_eq]
  unfold Crc.sum Crc.more
  rw [h]
  constructor
  · intro e
    have e1 : Crc.raw (~~~ 0#32) (L s) ^^^ Crc.itN (8 * s.size - k) turns = Crc.raw (~~~ 0#32) (L s) := by
      have := congrArg (fun x : BitVec 32 => ~~~ x) e
      simpa using this
    have e2 : Crc.itN (8 * s.size - k) turns = 0#32 := by
      have := congrArg (fun x : BitVec 32 => Crc.raw (~~~ 0#32) (L s) ^^^ x) e1
      simpa [← BitVec.xor_assoc] using this
    rw [← Crc.itN_zero (8 * s.size - k)] at e2
    exact Crc.itN_inj _ e2
  · rintro rfl
    rw [Crc.itN_zero]; simp

set_option maxHeartbeats 2000000 in
theorem crcApart_any (s : ByteArray) (turns : BitVec 32) (at_ : Nat) (w : World) (hs : s.size ≤ 140737488351232) (hat : at_ ≤ 65535) :
    Calls Try.prog 5 #[.string s, .int .u32 (w32 turns), .int .u16 at_] w fun e w' => e = .returned (.bool true) ∧ Below w.heap.size w w' := by
  have hO := Own.refl w
  by_cases hlong : 4096 < s.size
  · have hl : (4096 : Int) < s.size := by omega
    go_enter Try.func5, Try.ntmps5
    go_wp2_with fail
    refine (alive07 _).mono ?_
    rintro e w1 ⟨rfl, hb1⟩
    replace hO := hO.trans hb1
    clear hb1
    go_wp2_with fail
    go_ret
    exact ⟨rfl, hO.below⟩
  by_cases hshort : s.size < 5
  · have hl : (s.size : Int) < 5 := by omega
    go_enter Try.func5, Try.ntmps5
    go_wp2_with fail
    refine (alive07 _).mono ?_
    rintro e w1 ⟨rfl, hb1⟩
    replace hO := hO.trans hb1
    clear hb1
    go_wp2_with fail
    go_ret
    exact ⟨rfl, hO.below⟩
  have hl : (s.size : Int) ≤ 4096 := by omega
  have hl5 : 5 ≤ (s.size : Int) := by omega
  have hconv : ∀ w : World, (convert 9 32 (.string s)).run Try.prog w = _ := fun w => run_bytes_of_string w 9 32 5 s Try.und9 Try.und32 Try.und5
  simp only [byteRow_of] at hconv
  have hcap := grownCap_ge w s.size 0 5
  generalize hc : grownCap w s.size 0 5 = cap at *
  have hsz : (byteRow (L s) cap).size = cap := byteRow_size _ _ (by rw [L_size]; exact hcap)
  have hat' : (at_ : Int) ≤ 65535 := by omega
  obtain ⟨k, hk, hkl⟩ : ∃ k : Nat, (at_ : Int) % (8 * (s.size : Int) - 31) = k ∧ k < 8 * s.size - 31 :=
    ⟨at_ % (8 * s.size - 31), by rw [Int.natCast_emod, Int.natCast_sub (by omega)]; rfl, Nat.mod_lt _ (by omega)⟩
  have hO1 := ((Own.refl w).alloc (.cells (byteRow (L s) cap) 5 (cap, cap + 1))).drew
  have hb1 : (w.alloc (.cells (byteRow (L s) cap) 5 (cap, cap + 1))).drew.heap[w.heap.size]? = _ := heap_alloc_new w (.cells (byteRow (L s) cap) 5 (cap, cap + 1))
  go_enter Try.func5, Try.ntmps5
  go_wp2
  rw [hk]
  have HB := Lib.hid hb1
  clear hk hconv hb1 hO
  have hws : w.heap.size < ((w.alloc (.cells (byteRow (L s) cap) 5 (cap, cap + 1))).drew).heap.size := by simp
  generalize (w.alloc (.cells (byteRow (L s) cap) 5 (cap, cap + 1))).drew = W at *
  go_loopw [9] (fun vi wr => ∃ i bs, vi = .int .i64 (i : Nat) ∧ ApartRel w s turns k cap wr i bs) (fun vi _ => 32 - (intOf vi).toNat)
  case atStart => exact ⟨0, L s, rfl, by omega, L_size s, hO1, hws, HB.out, by rw [Crc.low_zero, Crc.itN_zero]; simp⟩
  case round =>
    clear hO1 hws HB
    obtain ⟨i, bs, rfl, hi, hlen, hO, hws, hblk, hraw⟩ := hrel
    have HR := Lib.hid hraw
    have HB := Lib.hid hblk
    clear hraw hblk
    by_cases hlt : i < 32
    · have hi' : (i : Int) < 32 := by omega
      have ht := bit_test turns i
      have hj : (k + i) / 8 < bs.length := by omega
      have hjI : ((k : Int) + i) / 8 < s.size := by omega
      have hcell : wr.cell? ⟨w.heap.size, (k + i) / 8, none⟩ = some (.int .u8 (by8 bs[(k + i) / 8])) := by rw [cell_of_row _ _ _ _ _ _ HB.out, byteRow_get _ _ _ hj]
      have hfr : wr.frozen? ⟨w.heap.size, (k + i) / 8, none⟩ = false := frozen_past (by omega) HB.out
      cases hb : turns.getLsbD i with
      | true =>
        rw [hb] at ht
        have HT := Lib.hid hb
        clear hb
        go_wp2
        go_roundw
        case rel =>
          refine ⟨i + 1, bs.set ((k + i) / 8) (bs[(k + i) / 8] ^^^ (1 <<< UInt8.ofNat ((k + i) % 8))), by go_num, by omega, by rw [List.length_set]; exact hlen, hO.setCell (Nat.le_refl _) _, by simpa using hws, ?_, ?_⟩
          · rw [heap_set _ HB.out, byteRow_set _ _ _ _ hj]
          · rw [Crc.raw_turn bs _ _ _ (Nat.mod_lt _ (by decide)) hj, HR.out, ← Crc.turns_step (8 * s.size - k) i turns hlt (by omega), HT.out, if_pos rfl, BitVec.xor_assoc]
            congr 3
            rw [hlen]; omega
        case measure => simp [intOf]; omega
      | false =>
        rw [hb] at ht
        have HT := Lib.hid hb
        clear hb hcell hfr
        go_wp2
        go_roundw
        case rel =>
          refine ⟨i + 1, bs, by go_num, by omega, hlen, hO, hws, HB.out, ?_⟩
          rw [HR.out, ← Crc.turns_step (8 * s.size - k) i turns hlt (by omega), HT.out]; simp
        case measure => simp [intOf]; omega
    · obtain rfl : i = 32 := by omega
      have HE := Lib.hid (turns_end s turns k bs HR.out)
      have hback := run_string_of (P := Try.prog) wr 32 9 5 w.heap.size cap bs _ _ _ s.size hlen.symm Try.und32 Try.und5 Try.und9 HB.out (fun j hj => byteRow_get _ _ _ hj)
      have hbsz : (⟨bs.toArray⟩ : ByteArray).size ≤ 9223372036854775807 := by rw [size_mk]; omega
      have HS := Lib.hid (show L ⟨bs.toArray⟩ = bs from rfl)
      generalize (⟨bs.toArray⟩ : ByteArray) = Z at *
      have hz : (w32 turns == 0) = (turns == 0#32) := eq32 turns 0#32
      have HL := Lib.hid hlen
      clear HR HB hws hlen
      go_wp2_with fail
      refine (crc_sum Z _ hbsz).mono ?_
      rintro e w1 ⟨rfl, hb1⟩
      replace hO := hO.trans hb1
      clear hb1
      go_wp2_with fail
      refine (crc_sum s _ (by omega)).mono ?_
      rintro e w1 ⟨rfl, hb1⟩
      replace hO := hO.trans hb1
      clear hb1
      rw [HS.out]
      have he := HE.out
      go_wp2_with fail
      refine (alive07 _).mono ?_
      rintro e w1 ⟨rfl, hb1⟩
      replace hO := hO.trans hb1
      clear hb1
      go_wp2_with fail
      go_ret
      exact ⟨rfl, hO.below⟩

end Go.Proofs.Ytolkagkbbodnbaa
