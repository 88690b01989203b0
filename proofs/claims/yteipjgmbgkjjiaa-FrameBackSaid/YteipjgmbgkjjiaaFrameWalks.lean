/-
  THE WALKS of package frame: head, number, Size.
-/
import Derived.Test.YteipjgmbgkjjiaaCrcSum
import Derived.Test.YteipjgmbgkjjiaaFrameRow
import Derived.Test.YteipjgmbgkjjiaaBytes8
import Derived.Outline
set_option linter.unusedVariables false
set_option linter.unusedSimpArgs false
namespace Go.Proofs.Yteipjgmbgkjjiaa
open Go.RowKit

/-- Bytes as a text. -/
def S (l : List UInt8) : ByteArray := ⟨l.toArray⟩
theorem L_S (l : List UInt8) : L (S l) = l := rfl
theorem S_L (s : ByteArray) : S (L s) = s := rfl
theorem S_size (l : List UInt8) : (S l).size = l.length := rfl

theorem or64 (m c : Nat) (hc : c < 256) : Go.bits .or .u64 (IntKind.u64.wrap ((m : Int) * 256)) (IntKind.u64.wrap (c : Int)) = ((256 * m + c) % Frm.M64 : Nat) := by
  have e : Go.bits .or .u64 (IntKind.u64.wrap ((m : Int) * 256)) (IntKind.u64.wrap (c : Int)) = IntKind.u64.wrap ((BitVec.ofInt 64 (IntKind.u64.wrap ((m : Int) * 256)) ||| BitVec.ofInt 64 (IntKind.u64.wrap (c : Int))).toNat : Int) := rfl
  have hw : ∀ n : Nat, IntKind.u64.wrap (n : Int) = ((n % 18446744073709551616 : Nat) : Int) := by
    intro n; rw [IntKind.wrap_u64]; omega
  have hb : ∀ n : Nat, (BitVec.ofInt 64 ((n : Nat) : Int)).toNat = n % 18446744073709551616 := by
    intro n; rw [BitVec.toNat_ofInt]; omega
  have hm : (m : Int) * 256 = ((256 * (m % 72057594037927936) + 18446744073709551616 * (m / 72057594037927936) : Nat) : Int) := by omega
  have hx : (256 * (m % 72057594037927936) + 18446744073709551616 * (m / 72057594037927936)) % 18446744073709551616 = 256 * (m % 72057594037927936) := by omega
  rw [e, hm]
  simp only [hw, BitVec.toNat_or, hb]
  rw [hx, Nat.mod_eq_of_lt (a := c) (by omega), Nat.mod_eq_of_lt (a := c) (by omega), Nat.mod_eq_of_lt (a := 256 * (m % 72057594037927936)) (by omega)]
  have hy : m % 72057594037927936 < 72057594037927936 := Nat.mod_lt _ (by decide)
  have ho : 256 * (m % 72057594037927936) ||| c = 256 * (m % 72057594037927936) + c := by
    have := Nat.shiftLeft_add_eq_or_of_lt (b := c) (i := 8) (by omega) (m % 72057594037927936)
    rw [Nat.shiftLeft_eq, Nat.mul_comm] at this
    exact this.symm
  rw [ho]
  unfold Frm.M64
  omega
theorem frozen_zero {w : World} {g i : Nat} {cs : Array Value} {t : TypeId} (hg : w.heap[g]? = some (.cells cs t (0, 0))) : w.frozen? ⟨g, i, none⟩ = false := by
  simp [World.frozen?, hg]
theorem by8_ofNat (n : Nat) : by8 (UInt8.ofNat n) = ((n % 256 : Nat) : Int) := by
  unfold by8; rw [UInt8.toNat_ofNat']
theorem hd_lo (n : Nat) (t : List UInt8) (i : Nat) (hi : i < 4) (h : i < (Frm.hd n t).length) : (t.length : Int) / 2 ^ (24 - 8 * i) % 256 = by8 (Frm.hd n t)[i] := by
  have e0 : (Frm.hd n t)[i] = (Frm.be 4 t.length)[i]'(by rw [Frm.be_length]; exact hi) := List.getElem_append_left (by rw [Frm.be_length]; exact hi)
  rw [e0, Frm.be_get, by8_ofNat]
  have e : (2 : Int) ^ (24 - 8 * i) = ((256 ^ (4 - 1 - i) : Nat) : Int) := by
    rw [show 24 - 8 * i = 8 * (4 - 1 - i) from by omega, Int.pow_mul, Int.natCast_pow]; rfl
  rw [e]; rfl
theorem hd_hi (n : Nat) (t : List UInt8) (i : Nat) (hi : i < 8) (h : 4 + i < (Frm.hd n t).length) : (n : Int) / 2 ^ (56 - 8 * i) % 256 = by8 (Frm.hd n t)[4 + i] := by
  have e0 : (Frm.hd n t)[4 + i] = (Frm.be 8 n)[4 + i - (Frm.be 4 t.length).length]'(by rw [Frm.be_length, Frm.be_length]; omega) := List.getElem_append_right (by rw [Frm.be_length]; omega)
  rw [e0, Frm.be_get, by8_ofNat, Frm.be_length]
  have e : (2 : Int) ^ (56 - 8 * i) = ((256 ^ (8 - 1 - (4 + i - 4)) : Nat) : Int) := by
    rw [show 56 - 8 * i = 8 * (8 - 1 - (4 + i - 4)) from by omega, Int.pow_mul, Int.natCast_pow]; rfl
  rw [e]; rfl
/-- What a loop that fills a head keeps. -/
def HeadRel (w : World) (D : List UInt8) (wr : World) (i : Nat) : Prop :=
  Own w.heap.size w wr ∧ wr.heap[w.heap.size + 1]? = some (.cells (byteRow (D.take i ++ List.replicate (D.length - i) 0) 12) 66 (0, 0))
set_option maxHeartbeats 400000 in
theorem frame_head (n : Nat) (t : ByteArray) (w : World) (hn : n < 18446744073709551616) (ht : t.size ≤ 65536) :
    Calls Try.prog 23 #[.agg #[.int .u64 n, .string t]] w fun e w' => e = .returned (.string (S (Frm.hd n (L t)))) ∧ Below w.heap.size w w' := by
  have hnI : (0 : Int) ≤ n ∧ (n : Int) ≤ 18446744073709551615 := by omega
  have htI : (t.size : Int) ≤ 65536 := by omega
  have hD := Frm.hd_length n (L t)
  generalize hDD : Frm.hd n (L t) = D at *
  have HD := Lib.hid hDD
  have HDl := Lib.hid hD
  clear hDD hD
  go_enter Try.func23, Try.ntmps23
  go_wp2
  have h0 : HeadRel w D ((w.alloc (.cells #[.int .u64 n, .string t] 24)).alloc (.cells #[.int .u8 0, .int .u8 0, .int .u8 0, .int .u8 0, .int .u8 0, .int .u8 0, .int .u8 0, .int .u8 0, .int .u8 0, .int .u8 0, .int .u8 0, .int .u8 0] 66)) 0 :=
    ⟨((Own.refl w).alloc _).alloc _, by rw [HDl.out]; have := heap_alloc_new (w.alloc (.cells #[.int .u64 n, .string t] 24)) (.cells #[.int .u8 0, .int .u8 0, .int .u8 0, .int .u8 0, .int .u8 0, .int .u8 0, .int .u8 0, .int .u8 0, .int .u8 0, .int .u8 0, .int .u8 0, .int .u8 0] 66); rw [World.size_alloc] at this; exact this⟩
  have H0 := Lib.hid h0
  clear h0
  have hrec : ((w.alloc (.cells #[.int .u64 n, .string t] 24)).alloc (.cells #[.int .u8 0, .int .u8 0, .int .u8 0, .int .u8 0, .int .u8 0, .int .u8 0, .int .u8 0, .int .u8 0, .int .u8 0, .int .u8 0, .int .u8 0, .int .u8 0] 66)).cell? ⟨w.heap.size, 0, none⟩ = some (.int .u64 n) := by go_simp
  generalize ((w.alloc (.cells #[.int .u64 n, .string t] 24)).alloc (.cells #[.int .u8 0, .int .u8 0, .int .u8 0, .int .u8 0, .int .u8 0, .int .u8 0, .int .u8 0, .int .u8 0, .int .u8 0, .int .u8 0, .int .u8 0, .int .u8 0] 66)) = W at *
  go_loopw [11] (fun vi wr => ∃ i : Nat, i ≤ 4 ∧ vi = .int .i64 i ∧ HeadRel w D wr i ∧ wr.cell? ⟨w.heap.size, 0, none⟩ = some (.int .u64 n)) (fun vi _ => 4 - (intOf vi).toNat)
  case atStart => exact ⟨0, by omega, rfl, H0.out, hrec⟩
  case round =>
    obtain ⟨i, hi, rfl, hH, hc⟩ := hrel
    clear hrec H0
    by_cases hlt : i < 4
    · have hI : (0 : Int) ≤ i ∧ (i : Int) < 4 := by omega
      have hlt' : i < D.length := by rw [HDl.out]; omega
      have hin : i < (D.take i ++ List.replicate (D.length - i) 0).length := by simp; omega
      have hcell : wr.cell? ⟨w.heap.size + 1, i, none⟩ = some (.int .u8 (by8 (D.take i ++ List.replicate (D.length - i) 0)[i])) := by rw [cell_of_row _ _ _ _ _ _ hH.2, byteRow_get _ _ _ hin]
      have hfr : wr.frozen? ⟨w.heap.size + 1, i, none⟩ = false := frozen_zero hH.2
      have HV : Hid ((t.size : Int) / 2 ^ (24 - 8 * i) % 256 = by8 D[i]) := Lib.hid (by
        have := hd_lo n (L t) i hlt (by rw [HD.out]; exact hlt')
        rw [L_size] at this
        rw [this]; simp only [HD.out])
      have HN := Lib.hid (set_next D i hlt')
      go_wp2
      go_roundw
      case rel =>
        refine ⟨i + 1, by omega, by go_num, ⟨hH.1.setCell (by simp) _, ?_⟩, by go_simp⟩
        rw [heap_set _ hH.2, HV.out, byteRow_set _ _ _ _ hin, HN.out]
      case measure => simp [intOf]; omega
    · obtain rfl : i = 4 := by omega
      go_wp2
      go_loopw [23] (fun vi wr => ∃ i : Nat, i ≤ 8 ∧ vi = .int .i64 i ∧ HeadRel w D wr (4 + i) ∧ wr.cell? ⟨w.heap.size, 0, none⟩ = some (.int .u64 n)) (fun vi _ => 8 - (intOf vi).toNat)
      case atStart => exact ⟨0, by omega, rfl, hH, hc⟩
      case round =>
        clear hH hc
        obtain ⟨i, hi, rfl, hH, hc⟩ := hrel
        by_cases hlt : i < 8
        · have hI : (0 : Int) ≤ i ∧ (i : Int) < 8 := by omega
          have hlt' : 4 + i < D.length := by rw [HDl.out]; omega
          have hin : 4 + i < (D.take (4 + i) ++ List.replicate (D.length - (4 + i)) 0).length := by simp; omega
          have hcell := cell_of_row _ _ (4 + i) _ _ _ hH.2
          rw [byteRow_get _ _ _ hin] at hcell
          have hfr := frozen_zero (i := 4 + i) hH.2
          have HV : Hid ((n : Int) / 2 ^ (56 - 8 * i) % 256 = by8 D[4 + i]) := Lib.hid (by
            have := hd_hi n (L t) i hlt (by rw [HD.out]; exact hlt')
            rw [this]; simp only [HD.out])
          have HN := Lib.hid (set_next D (4 + i) hlt')
          go_wp2
          go_roundw
          case rel =>
            refine ⟨i + 1, by omega, by go_num, ⟨hH.1.setCell (by simp) _, ?_⟩, by go_simp⟩
            rw [heap_set _ hH.2, HV.out, byteRow_set _ _ _ _ hin, HN.out, Nat.add_assoc]
          case measure => simp [intOf]; omega
        · obtain rfl : i = 8 := by omega
          have e12 : D.take (4 + 8) ++ List.replicate (D.length - (4 + 8)) 0 = D := by
            rw [HDl.out, show 12 - (4 + 8) = 0 from rfl, List.replicate_zero, List.append_nil, List.take_of_length_le (by rw [HDl.out]; decide)]
          have hb := hH.2
          rw [e12] at hb
          have HB := Lib.hid hb
          have hO := hH.1.below
          clear e12 hb hH
          rename_i wr
          have hs : ∀ Q : Prop, Q ∨ True := fun _ => .inr trivial
          clear hs
          have hback := run_string_of (P := Try.prog) _ 53 9 5 (w.heap.size + 1) 12 D _ _ _ 12 HDl.out.symm Try.und32 Try.und5 Try.und9 HB.out (fun j hj => byteRow_get _ _ _ hj)
          go_wp2
          go_ret
          exact ⟨rfl, hO⟩

set_option maxHeartbeats 400000 in
theorem frame_size (t : ByteArray) (w : World) (ht : t.size ≤ 65536) :
    Calls Try.prog 18 #[.string t] w fun e w' => e = .returned (.int .i64 ((16 + t.size : Nat) : Int)) ∧ w = w' := by
  have htI : (t.size : Int) ≤ 65536 := by omega
  have HE := Lib.hid (show (16 : Int) + (t.size : Int) = ((16 + t.size : Nat) : Int) from by omega)
  go_enter Try.func18, Try.ntmps18
  go_wp2
  go_ret
  exact ⟨by rw [HE.out]; rfl, rfl⟩

set_option maxHeartbeats 400000 in
theorem frame_number (s : ByteArray) (w : World) (hs : s.size ≤ 9223372036854775807) :
    Calls Try.prog 25 #[.string s] w fun e w' => e = .returned (.int .u64 (Frm.num (L s))) ∧ Below w.heap.size w w' := by
  have hconv : ∀ w : World, (convert 9 53 (.string s)).run Try.prog w = _ := fun w => run_bytes_of_string w 9 53 5 s Try.und9 Try.und32 Try.und5
  go_enter Try.func25, Try.ntmps25
  go_wp2
  have hcell := bytes_cell w s 5
  have hO := ((Own.refl w).alloc (.cells (bytesRow s (grownCap w s.size 0 5)) 5 ((bytesRow s (grownCap w s.size 0 5)).size, (bytesRow s (grownCap w s.size 0 5)).size + 1))).drew
  generalize (w.alloc (.cells (bytesRow s (grownCap w s.size 0 5)) 5 ((bytesRow s (grownCap w s.size 0 5)).size, (bytesRow s (grownCap w s.size 0 5)).size + 1))).drew = W at *
  generalize grownCap w s.size 0 5 = cap
  clear hconv
  go_loop [2, 8] (fun x i => ∃ k : Nat, k ≤ s.size ∧ i = .int .i64 k ∧ x = .int .u64 (Frm.num ((L s).take k))) (fun _ i => s.size - (intOf i).toNat)
  case atStart => exact ⟨0, Nat.zero_le _, rfl, rfl⟩
  case round =>
    obtain ⟨k, hk, rfl, rfl⟩ := hrel
    by_cases hlt : k < s.size
    · have hc := hcell k hlt
      have hts := L_take_succ s k hlt
      have hm := Frm.num_lt ((L s).take k)
      have HA := Lib.hid (Frm.num_snoc ((L s).take k) s[k])
      rw [← hts] at HA
      clear hts
      generalize Frm.num ((L s).take k) = m at *
      have hmI : (0 : Int) ≤ m ∧ (m : Int) ≤ 18446744073709551615 := by unfold Frm.M64 at hm; omega
      clear hm
      have HO := Lib.hid (or64 m s[k].toNat s[k].toNat_lt)
      go_wp2
      go_round
      case rel => exact ⟨k + 1, by omega, by go_num, by rw [HO.out, HA.out]⟩
      case measure => simp [intOf]; omega
    · go_wp2
      go_ret
      refine ⟨ret_u ?_, hO.below⟩
      rw [L_take_all s k (by omega)]

end Go.Proofs.Yteipjgmbgkjjiaa
