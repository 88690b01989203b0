/-
  THE WALKS of package wire's Reader: Int, Bool.
-/
import Derived.Test.YtboplbcfoooenaaWireRead
namespace Go.Proofs.Ytboplbcfoooenaa
open Go.RowKit

theorem zag_bits (y : Nat) (h : y < 18446744073709551616) : Go.bits .xor .i64 ((y : Int) / 2) (-((y : Int) % 2)) = Wr.zag y := by
  rw [show (y : Int) % 2 = ((y % 2 : Nat) : Int) by omega]
  have e : ∀ a b : Int, Go.bits .xor .i64 a b = IntKind.i64.wrap ((BitVec.ofInt 64 a ^^^ BitVec.ofInt 64 b).toNat : Int) := fun _ _ => rfl
  have h1 : (BitVec.ofInt 64 ((y : Int) / 2)).toNat = y / 2 := by rw [BitVec.toNat_ofInt]; omega
  have hw : ∀ a : Int, 0 ≤ a → a < 18446744073709551616 → IntKind.i64.wrap a = if a < 9223372036854775808 then a else a - 18446744073709551616 := by
    intro a h1 h2
    rw [IntKind.wrap_i64]
    split <;> omega
  unfold Wr.zag
  rw [e, BitVec.toNat_xor, h1]
  by_cases hp : y % 2 = 0
  · rw [if_pos hp, hp]
    have e0 : (BitVec.ofInt 64 (-((0 : Nat) : Int))).toNat = 0 := rfl
    rw [e0, Nat.xor_zero, hw _ (by omega) (by omega), if_pos (by omega)]
  · have hp1 : y % 2 = 1 := by omega
    rw [if_neg hp, hp1]
    have e0 : (BitVec.ofInt 64 (-((1 : Nat) : Int))).toNat = 18446744073709551615 := rfl
    have hk : ∀ n : Nat, n < 18446744073709551616 → n ^^^ 18446744073709551615 = 18446744073709551615 - n := by
      intro n hn
      have := BitVec.toNat_not (x := BitVec.ofNat 64 n)
      have e2 : (~~~ BitVec.ofNat 64 n) = BitVec.ofNat 64 n ^^^ BitVec.allOnes 64 := by rw [BitVec.xor_allOnes]
      rw [e2, BitVec.toNat_xor, BitVec.toNat_ofNat, Nat.mod_eq_of_lt hn] at this
      simpa using this
    rw [e0, hk _ (by omega), hw _ (by omega) (by omega), if_neg (by omega)]
    omega
theorem and1 (y : Nat) (h : y < 18446744073709551616) : Go.bits .and .u64 (y : Int) 1 = (y : Int) % 2 := by
  rw [show (y : Int) % 2 = ((y % 2 : Nat) : Int) by omega]
  have e : Go.bits .and .u64 (y : Int) 1 = IntKind.u64.wrap ((BitVec.ofInt 64 (y : Int) &&& BitVec.ofInt 64 1).toNat : Int) := rfl
  have h1 : (BitVec.ofInt 64 (y : Int)).toNat = y := by rw [BitVec.toNat_ofInt]; omega
  have h2 : (BitVec.ofInt 64 1).toNat = 1 := rfl
  rw [e, BitVec.toNat_and, h1, h2, show (1 : Nat) = 2 ^ 1 - 1 from rfl, Nat.and_two_pow_sub_one_eq_mod, IntKind.wrap_u64]
  omega

/-- What Int makes of bytes. -/
def iRes (s : ByteArray) (lo hi : Int) : Int × ByteArray × Nat :=
  if (Wr.rd (L s)).2.2 = 0 then (if Wr.zag (Wr.rd (L s)).1 < lo ∨ hi < Wr.zag (Wr.rd (L s)).1 then (0, s, 80) else (Wr.zag (Wr.rd (L s)).1, s.extract (Wr.rd (L s)).2.1 s.size, 0)) else (0, s, (Wr.rd (L s)).2.2)
theorem RdIs.alloc {w : World} {b : Nat} {s : ByteArray} {e : Nat} (h : RdIs w b s e) (o : Obj) : RdIs (w.alloc o) b s e := (Below.heap_alloc _ _ _ (blk_lt h)).trans h
theorem heap_alloc3 (w : World) (o1 o2 o3 : Obj) : (((w.alloc o1).alloc o2).alloc o3).heap[w.heap.size]? = some o1 ∧ (((w.alloc o1).alloc o2).alloc o3).heap[w.heap.size + 1]? = some o2 ∧ (((w.alloc o1).alloc o2).alloc o3).heap[w.heap.size + 2]? = some o3 := by
  refine ⟨?_, ?_, ?_⟩
  · rw [Below.heap_alloc _ _ _ (by simp; omega)]; exact heap_alloc2_old w o1 o2
  · rw [Below.heap_alloc _ _ _ (by simp)]; exact heap_alloc2_new w o1 o2
  · have := heap_alloc_new ((w.alloc o1).alloc o2) o3
    simpa using this
/-- What Bool makes of bytes. -/
def bRes (s : ByteArray) : Bool × ByteArray × Nat :=
  match L s with
  | [] => (false, s, 6)
  | c :: _ => if 1 < c.toNat then (false, s, 7) else (c.toNat == 1, s.extract 1 s.size, 0)
/-- What the closure of Bool leaves. -/
def BoolDone (w : World) (B1 : Nat) (s : ByteArray) (e : Ending) (w' : World) : Prop :=
  e = .returned (.tuple #[.int .i64 (if (bRes s).2.2 = 0 then 1 else 0 : Nat), .int .i64 (bRes s).2.2]) ∧ (if (bRes s).2.2 = 0 then w' = w.setCell ⟨B1, 0, none⟩ (.bool (bRes s).1) else w' = w)
end Go.Proofs.Ytboplbcfoooenaa
