/-
  WORDS FOR BYTES IN MEMORY: a row of bytes with spare room behind it, written byte by byte, and made a text.
-/
import Derived.Test.YteipjgmbgkjjiaaBase
set_option linter.unusedVariables false
set_option linter.unusedSimpArgs false
namespace Go.Proofs.Yteipjgmbgkjjiaa
open Go.RowKit

def by8 (b : UInt8) : Int := b.toNat
theorem by8_lt (b : UInt8) : 0 ≤ by8 b ∧ by8 b < 256 := by unfold by8; have := b.toNat_lt; omega
theorem by8_inj {a b : UInt8} (h : by8 a = by8 b) : a = b := by unfold by8 at h; exact UInt8.toNat_inj.1 (by omega)
theorem wrap8_bv (x : BitVec 8) : IntKind.u8.wrap (x.toNat : Int) = by8 ⟨x⟩ := by
  rw [IntKind.wrap_u8]; have := x.isLt; show _ = (x.toNat : Int); omega
@[go_sem] theorem xor8 (a b : UInt8) : Go.bits .xor .u8 (by8 a) (by8 b) = by8 (a ^^^ b) := by
  have e : Go.bits .xor .u8 (by8 a) (by8 b) = IntKind.u8.wrap ((BitVec.ofInt 8 (by8 a) ^^^ BitVec.ofInt 8 (by8 b)).toNat : Int) := rfl
  have f : ∀ b : UInt8, BitVec.ofInt 8 (by8 b) = b.toBitVec := by
    intro b; unfold by8; apply BitVec.eq_of_toNat_eq; rw [BitVec.toNat_ofInt]; have := b.toNat_lt; show _ = b.toNat; omega
  rw [e, f, f, wrap8_bv]; rfl
@[go_sem] theorem xor8a (a b : UInt8) : Go.bits .xor .u8 (a.toNat : Int) (b.toNat : Int) = by8 (a ^^^ b) := xor8 a b
@[go_sem] theorem xor8b (a b : UInt8) : Go.bits .xor .u8 (by8 a) (b.toNat : Int) = by8 (a ^^^ b) := xor8 a b
@[go_sem] theorem shl8 (m : Nat) : IntKind.u8.wrap ((2 : Int) ^ (m % 8)) = by8 (1 <<< UInt8.ofNat (m % 8)) := by
  have : ∀ r, r < 8 → IntKind.u8.wrap ((2 : Int) ^ r) = by8 (1 <<< UInt8.ofNat r) := by decide
  exact this _ (Nat.mod_lt _ (by decide))

@[go_sem] theorem shl8' (m : Nat) : (2 : Int) ^ (m % 8) % (256 : Int) = by8 (1 <<< UInt8.ofNat (m % 8)) := by
  rw [← shl8, IntKind.wrap_u8]

/-- Bytes, as a row's cells, with room up to 'cap'. -/
def byteRow (l : List UInt8) (cap : Nat) : Array Value := (l.map fun b => Value.int .u8 (by8 b)).toArray ++ Array.replicate (cap - l.length) (.int .u8 0)
theorem byteRow_size (l : List UInt8) (cap : Nat) (h : l.length ≤ cap) : (byteRow l cap).size = cap := by simp [byteRow]; omega
theorem byteRow_get (l : List UInt8) (cap j : Nat) (h : j < l.length) : (byteRow l cap)[j]? = some (.int .u8 (by8 l[j])) := by
  unfold byteRow
  rw [Array.getElem?_append_left (by simpa using h)]
  simp [h]
theorem byteRow_set (l : List UInt8) (cap j : Nat) (b : UInt8) (h : j < l.length) : (byteRow l cap).setIfInBounds j (.int .u8 (by8 b)) = byteRow (l.set j b) cap := by
  unfold byteRow
  apply Array.ext_getElem?
  intro i
  rw [Array.getElem?_setIfInBounds]
  by_cases hi : j = i
  · subst hi
    rw [if_pos rfl, Array.getElem?_append_left (by simpa using h)]
    rw [if_pos (by simp; omega)]
    simp [h]
  · rw [if_neg hi, List.length_set]
    by_cases hl : i < l.length
    · rw [Array.getElem?_append_left (by simpa using hl), Array.getElem?_append_left (by simpa using hl)]
      simp [List.getElem?_set_ne hi]
    · rw [Array.getElem?_append_right (by simp; omega), Array.getElem?_append_right (by simp; omega)]
      simp
theorem byteRow_of (s : ByteArray) (cap : Nat) : bytesRow s cap = byteRow (L s) cap := by
  unfold bytesRow byteRow
  rw [L_size]
  congr 1
  apply Array.ext'
  simp [by8, L]

/-- 'string(b)' of a row of bytes. -/
theorem run_string_of {P : Program} (w : World) (src dst e : TypeId) (g cap : Nat) (l : List UInt8) (cs : Array Value) (t : TypeId) (fr : Nat × Nat) (n : Nat) (hn : n = l.length)
    (hs : P.underlying src = some (.slice e)) (he : P.underlying e = some (.int .u8)) (hd : P.underlying dst = some .string)
    (hg : w.heap[g]? = some (.cells cs t fr)) (hc : ∀ j (hj : j < l.length), cs[j]? = some (.int .u8 (by8 l[j]))) :
    (convert src dst (.slice (some ⟨g, 0, none⟩) n cap)).run P w = .ok (.string ⟨l.toArray⟩) w := by
  subst hn
  refine run_convert_bytes_back w src dst e ⟨g, 0, none⟩ cap l hs he hd fun j hj => ?_
  rw [show (⟨g, 0, none⟩ : Addr).add j = ⟨g, j, none⟩ from by unfold Addr.add; split <;> simp_all, cell_of_row _ _ _ _ _ _ hg, hc j hj]
  rfl
theorem L_mk (l : List UInt8) : L ⟨l.toArray⟩ = l := rfl
theorem size_mk (l : List UInt8) : (⟨l.toArray⟩ : ByteArray).size = l.length := rfl

theorem zeroCells_row (n : Nat) : zeroCells n = byteRow (List.replicate n 0) n := by
  unfold zeroCells byteRow
  apply Array.ext'
  simp [by8]
/-- The first i of D, and zeros: one more. -/
theorem set_next (D : List UInt8) (i : Nat) (hi : i < D.length) : (D.take i ++ List.replicate (D.length - i) 0).set i D[i] = D.take (i + 1) ++ List.replicate (D.length - (i + 1)) 0 := by
  have hlen : (D.take i).length = i := by simp; omega
  have e : List.replicate (D.length - i) (0 : UInt8) = 0 :: List.replicate (D.length - (i + 1)) 0 := by
    rw [show D.length - i = (D.length - (i + 1)) + 1 from by omega, List.replicate_succ]
  rw [e, List.set_append_right _ _ (by omega), hlen, Nat.sub_self, List.set_cons_zero, List.take_succ_eq_append_getElem hi, List.append_assoc]
  rfl
theorem L_extract (s : ByteArray) (n : Nat) : L (s.extract 0 n) = (L s).take n := by
  simp [L, ByteArray.data_extract]

end Go.Proofs.Yteipjgmbgkjjiaa
