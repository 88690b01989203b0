/-
  THE WALKS of package wire: Ints, Texts, Bools, List; and of the document's answer: Uint, Zig, Text.
-/
import Derived.Test.YtboplbcfoooenaaWireWrite
namespace Go.Proofs.Ytboplbcfoooenaa
open Go.RowKit

theorem RowIs.one {w : World} {g : Nat} {v : Value} {t : TypeId} {fr : Nat × Nat} (h : w.heap[g]? = some (.cells #[v] t fr)) : RowIs w 1 (some ⟨g, 0, none⟩) [[v]] := fun i hi => by
  obtain rfl : i = 0 := by simpa using hi
  exact ⟨g, 0, rfl, ⟨_, _, _, h, by simp, by simp⟩⟩
/-- One number, in a row that the caller has made. -/
theorem uints_one (w : World) (v : Int) (x : Nat) (hv : v = x) (hx : x < 18446744073709551616) :
    Calls Try.prog 16 #[.slice (some ⟨w.heap.size, 0, none⟩) 1 1] (w.alloc (.cells #[.int .u64 v] 25)) fun e w' => e = .returned (.string (S (Wr.uv x))) ∧ Below w.heap.size w w' := by
  subst hv
  refine (uints_any (w.alloc (.cells #[.int .u64 x] 25)) (some ⟨w.heap.size, 0, none⟩) 1 [x] (RowIs.one (heap_alloc_new w _)) (by simpa using hx) (by simp)).mono ?_
  rintro e w' ⟨rfl, hb⟩
  refine ⟨by simp [uvs], ?_⟩
  exact ((Own.refl w).alloc _).below.trans (hb.mono (by simp))

def icell (x : Int) : List Value := [.int .i64 x]
def tcell (t : ByteArray) : List Value := [.string t]
def bcell (b : Bool) : List Value := [.bool b]
/-- The bytes of whole numbers, texts, truths. -/
def ivs (xs : List Int) : List UInt8 := xs.flatMap fun x => Wr.uv (Wr.zig x)
def tvs (ts : List ByteArray) : List UInt8 := ts.flatMap fun t => Wr.txt (L t)
def bvs (bs : List Bool) : List UInt8 := bs.map Wr.bool
/-- How many bytes texts have. -/
def sizes (l : List ByteArray) : Nat := (l.map (·.size)).sum
theorem ivs_le (xs : List Int) : (ivs xs).length ≤ 10 * xs.length := by
  induction xs with
  | nil => simp [ivs]
  | cons x xs ih =>
    have h1 : (Wr.uv (Wr.zig x)).length ≤ 10 := Wr.uvF_length 10 (Wr.zig x)
    show (Wr.uv (Wr.zig x) ++ ivs xs).length ≤ _
    rw [List.length_append, List.length_cons]; omega
theorem tvs_le (ts : List ByteArray) : (tvs ts).length ≤ 10 * ts.length + sizes ts := by
  induction ts with
  | nil => simp [tvs]
  | cons x xs ih =>
    have h1 : (Wr.uv (L x).length).length ≤ 10 := Wr.uvF_length 10 _
    have e := L_size x
    have e2 : sizes (x :: xs) = x.size + sizes xs := by simp [sizes]
    show ((Wr.uv (L x).length ++ L x) ++ tvs xs).length ≤ _
    rw [List.length_append, List.length_append, List.length_cons, e2]; omega
theorem sizes_take_le (l : List ByteArray) (k : Nat) : sizes (l.take k) ≤ sizes l := by
  conv => rhs; rw [← List.take_append_drop k l]
  unfold sizes
  rw [List.map_append, List.sum_append]; omega
theorem sizes_append (a b : List ByteArray) : sizes (a ++ b) = sizes a + sizes b := by unfold sizes; rw [List.map_append, List.sum_append]
theorem sizes_take_succ (l : List ByteArray) (i : Nat) (h : i < l.length) : sizes (l.take (i + 1)) = sizes (l.take i) + l[i].size := by
  rw [List.take_succ_eq_append_getElem h, sizes_append]; simp [sizes]
theorem size_le_sizes (l : List ByteArray) (t : ByteArray) (h : t ∈ l) : t.size ≤ sizes l := by
  induction l with
  | nil => cases h
  | cons x l ih =>
    unfold sizes at ih ⊢
    rcases List.mem_cons.1 h with rfl | h
    · simp
    · have := ih h; simp; omega

theorem zig_bits (x : Int) (h1 : -9223372036854775808 ≤ x) (h2 : x ≤ 9223372036854775807) :
    Go.bits .xor .u64 (IntKind.u64.wrap (x * 2)) (IntKind.u64.wrap (x / 9223372036854775808)) = (Wr.zig x : Nat) := by
  have e : ∀ a b : Int, Go.bits .xor .u64 a b = IntKind.u64.wrap ((BitVec.ofInt 64 a ^^^ BitVec.ofInt 64 b).toNat : Int) := fun _ _ => rfl
  rw [e, BitVec.toNat_xor, BitVec.toNat_ofInt, BitVec.toNat_ofInt, IntKind.wrap_u64]
  unfold Wr.zig
  by_cases h : 0 ≤ x
  · have e0 : (IntKind.u64.wrap (x / 9223372036854775808) % ((2 ^ 64 : Nat) : Int)).toNat = 0 := by
      rw [show x / 9223372036854775808 = 0 by omega]; decide
    rw [if_pos h, e0, Nat.xor_zero, IntKind.wrap_u64]
    omega
  · have e3 : (IntKind.u64.wrap (x / 9223372036854775808) % ((2 ^ 64 : Nat) : Int)).toNat = 18446744073709551615 := by
      rw [show x / 9223372036854775808 = -1 by omega]; decide
    have hk : ∀ n : Nat, n < 18446744073709551616 → n ^^^ 18446744073709551615 = 18446744073709551615 - n := by
      intro n hn
      have := BitVec.toNat_not (x := BitVec.ofNat 64 n)
      have e2 : (~~~ BitVec.ofNat 64 n) = BitVec.ofNat 64 n ^^^ BitVec.allOnes 64 := by rw [BitVec.xor_allOnes]
      rw [e2, BitVec.toNat_xor, BitVec.toNat_ofNat, Nat.mod_eq_of_lt hn] at this
      simpa using this
    rw [if_neg h, e3, hk _ (by omega), IntKind.wrap_u64]
    omega

/-- A list's bytes. -/
def lvs (ts : List ByteArray) : List UInt8 := Wr.uv ts.length ++ tvs ts
end Go.Proofs.Ytboplbcfoooenaa
