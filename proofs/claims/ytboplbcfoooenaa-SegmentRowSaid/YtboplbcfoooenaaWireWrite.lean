/-
  THE WALKS of package wire: what Uints, Ints, Texts, Bools, List write.
-/
import Derived.Test.YtboplbcfoooenaaFrameRef
import Derived.Test.YtboplbcfoooenaaBuilder
import Derived.Test.YtboplbcfoooenaaRowArgs
import Derived.Test.YtboplbcfoooenaaWireMath
namespace Go.Proofs.Ytboplbcfoooenaa
open Go.RowKit

theorem or128 (y : Nat) : Go.bits .or .u8 ((y : Int) % 256) 128 = by8 (UInt8.ofNat (y % 128 + 128)) := by
  have e : Go.bits .or .u8 ((y : Int) % 256) 128 = IntKind.u8.wrap ((BitVec.ofInt 8 ((y : Int) % 256) ||| BitVec.ofInt 8 128).toNat : Int) := rfl
  have h1 : (BitVec.ofInt 8 ((y : Int) % 256)).toNat = y % 256 := by rw [BitVec.toNat_ofInt]; omega
  have h2 : (BitVec.ofInt 8 128).toNat = 128 := rfl
  rw [e, BitVec.toNat_or, h1, h2, by8_ofNat, IntKind.wrap_u8]
  have hk : ∀ k, k < 256 → k ||| 128 = k % 128 + 128 := by decide +kernel
  rw [hk (y % 256) (Nat.mod_lt _ (by decide))]
  omega

def ucell (x : Nat) : List Value := [.int .u64 x]
/-- The bytes of numbers. -/
def uvs (xs : List Nat) : List UInt8 := xs.flatMap Wr.uv
theorem uvs_le (xs : List Nat) : (uvs xs).length ≤ 10 * xs.length := by
  induction xs with
  | nil => simp [uvs]
  | cons x xs ih =>
    have := Wr.uvF_length 10 x
    unfold uvs at ih
    simp only [uvs, List.flatMap_cons, List.length_append, List.length_cons, Wr.uv]; omega

set_option maxHeartbeats 1000000 in
theorem uints_any (w : World) (a : Option Addr) (cap : Nat) (xs : List Nat) (h : RowIs w 1 a (xs.map ucell)) (h64 : ∀ x ∈ xs, x < 18446744073709551616) (hlen : xs.length ≤ 1073741824) :
    Calls Try.prog 16 #[.slice a xs.length cap] w fun e w' => e = .returned (.string (S (uvs xs))) ∧ Below w.heap.size w w' := by
  have hlI : (xs.length : Int) ≤ 1073741824 := by omega
  have H := Lib.hid h
  have H64 := Lib.hid h64
  have HLn := Lib.hid hlen
  have HB0 : Hid (Bld w.heap.size w.heap.size [] (w.alloc (.cells #[.pointer none, .slice none 0 0] 71))) := Lib.hid (Bld.new w)
  clear h h64 hlen
  go_enter Try.func16, Try.ntmps16
  go_wp2_with fail
  have hO := (Own.refl w).alloc (.cells #[.pointer none, .slice none 0 0] 71)
  have HO0 := Lib.hid hO
  clear hO
  go_loopw [5, 8] (fun _ vi wr => ∃ k : Nat, k ≤ xs.length ∧ vi = .int .i64 k ∧ Bld w.heap.size w.heap.size (uvs (xs.take k)) wr ∧ Own w.heap.size w wr) (fun _ vi _ => xs.length - (intOf vi).toNat)
  case atStart => exact ⟨0, Nat.zero_le _, rfl, HB0.out, HO0.out⟩
  case round =>
    clear HB0 HO0
    obtain ⟨k, hk, rfl, hB, hO⟩ := hrel
    have HB := Lib.hid hB
    have HO := Lib.hid hO
    clear hB hO
    by_cases hlt : k < xs.length
    · obtain ⟨g, off, rfl, hc⟩ := (H.out.keep HO.out.below).cell1 (f := fun x => .int .u64 (x : Nat)) k hlt
      have hx := H64.out xs[k] (List.getElem_mem hlt)
      have HT : Hid (uvs (xs.take (k + 1)) = uvs (xs.take k) ++ Wr.uvF 10 xs[k]) := Lib.hid (by
        rw [List.take_succ_eq_append_getElem hlt, uvs, List.flatMap_append]; simp [uvs, Wr.uv])
      have hle := uvs_le (xs.take k)
      have hkI : (0 : Int) ≤ k ∧ (k : Int) < xs.length := by omega
      have HLE : Hid ((uvs (xs.take k)).length ≤ 10 * 1073741824) := Lib.hid (by have := HLn.out; rw [List.length_take] at hle; omega)
      clear hle
      generalize xs[k] = x at *
      have HX0 : Hid (x < 128 ^ 10) := Lib.hid (Nat.lt_of_lt_of_le hx (by decide))
      have hxI : (0 : Int) ≤ x ∧ (x : Int) ≤ 18446744073709551615 := by omega
      clear hx
      go_wp2_with fail
      go_loopw [5] (fun vx wr => ∃ (y f : Nat) (l : List UInt8), vx = .int .u64 y ∧ y < 128 ^ f ∧ 1 ≤ f ∧ f ≤ 10 ∧ (y : Int) ≤ 18446744073709551615 ∧ l ++ Wr.uvF f y = uvs (xs.take k) ++ Wr.uvF 10 x ∧ l.length ≤ (uvs (xs.take k)).length + (10 - f) ∧ Bld w.heap.size w.heap.size l wr ∧ Own w.heap.size w wr) (fun vx _ => (intOf vx).toNat)
      case atStart => exact ⟨x, 10, uvs (xs.take k), rfl, HX0.out, by decide, by decide, hxI.2, rfl, by omega, HB.out, HO.out⟩
      case round =>
        obtain ⟨y, f, l, rfl, hyf, hf1, hf2, hyI, hcat, hll, hB, hO⟩ := hrel
        have hy0 : (0 : Int) ≤ y := Int.natCast_nonneg _
        have HC := Lib.hid hcat
        have HLL : Hid (l.length + 1 ≤ 140737488355328) := Lib.hid (by have := HLE.out; omega)
        have HLL2 := Lib.hid hll
        have HB1 := Lib.hid hB
        have HO1 := Lib.hid hO
        have HF := Lib.hid (show y < 128 ^ f ∧ 1 ≤ f ∧ f ≤ 10 from ⟨hyf, hf1, hf2⟩)
        clear hcat hll hB hO hyf hf1 hf2 HB HO
        by_cases hbig : 127 < y
        · have hbI : (127 : Int) < y := by omega
          have HBy := Lib.hid (fun w1 h1 => bld_byte w.heap.size w.heap.size l (UInt8.ofNat (y % 128 + 128)) w1 h1 HLL.out)
          have HOr := Lib.hid (or128 y)
          go_wp2_with fail
          rw [HOr.out]
          refine (HBy.out _ HB1.out HO1.out.size).mono ?_
          rintro e w2 ⟨rfl, hB2, hb2⟩
          have HB2 := Lib.hid hB2
          have HO2 := Lib.hid (show Own w.heap.size w w2 from ⟨HO1.out.below.trans hb2, Nat.le_trans HO1.out.size hb2.size⟩)
          clear hB2 hb2
          have hdiv : (y : Int) / 128 = ((y / 128 : Nat) : Int) := by omega
          have HD := Lib.hid hdiv
          clear hdiv
          go_wp2_with fail
          go_roundw
          case rel =>
            obtain ⟨h1, h2, h3⟩ := HF.out
            have hf2 : 2 ≤ f := by
              rcases Nat.lt_or_ge f 2 with h | h
              · obtain rfl : f = 1 := by omega
                simp at h1; omega
              · exact h
            obtain ⟨f', rfl⟩ : ∃ f', f = f' + 1 := ⟨f - 1, by omega⟩
            refine ⟨y / 128, f', l ++ [UInt8.ofNat (y % 128 + 128)], by rw [← HD.out], ?_, by omega, by omega, by omega, ?_, ?_, HB2.out, HO2.out⟩
            · rw [Nat.pow_succ] at h1
              exact Nat.div_lt_of_lt_mul (by omega)
            · rw [← HC.out, Wr.uvF_big _ _ (by omega)]; simp
            · have := HLL2.out; simp; omega
          case measure => simp [intOf]; omega
        · have hbI : (y : Int) ≤ 127 := by omega
          have HE : Hid (l ++ [UInt8.ofNat y] = uvs (xs.take (k + 1))) := Lib.hid (by
            obtain ⟨h1, h2, h3⟩ := HF.out
            obtain ⟨f', rfl⟩ : ∃ f', f = f' + 1 := ⟨f - 1, by omega⟩
            rw [HT.out, ← HC.out, Wr.uvF_small _ _ (by omega)])
          have HBy := Lib.hid (fun w1 h1 => bld_byte w.heap.size w.heap.size l (UInt8.ofNat y) w1 h1 HLL.out)
          have HV : Hid ((y : Int) = by8 (UInt8.ofNat y)) := Lib.hid (by rw [by8_ofNat]; omega)
          go_wp2_with fail
          rw [HV.out]
          refine (HBy.out _ HB1.out HO1.out.size).mono ?_
          rintro e w2 ⟨rfl, hB2, hb2⟩
          have hB3 := hB2
          rw [HE.out] at hB3
          have HB2 := Lib.hid hB3
          have HO2 := Lib.hid (show Own w.heap.size w w2 from ⟨HO1.out.below.trans hb2, Nat.le_trans HO1.out.size hb2.size⟩)
          clear hB2 hB3 hb2
          go_wp2_with fail
          go_roundw
          case rel => exact ⟨k + 1, by omega, by go_num, HB2.out, HO2.out⟩
          case measure => simp [intOf]; omega
    · obtain rfl : k = xs.length := by omega
      have hB := HB.out
      rw [List.take_length] at hB
      replace HB := Lib.hid hB
      clear hB
      go_wp2_with fail
      refine (bld_string _ _ _ _ HB.out HO.out.size).mono ?_
      rintro e w2 ⟨rfl, hb2⟩
      have HB2 := Lib.hid (HO.out.below.trans hb2)
      clear hb2
      go_wp2_with fail
      go_ret
      exact ⟨rfl, HB2.out⟩

end Go.Proofs.Ytboplbcfoooenaa
