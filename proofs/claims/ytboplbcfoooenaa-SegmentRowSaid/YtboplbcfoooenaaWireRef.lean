/-
  THE WALKS of the document's answer for layer 8: Uint, Zig, Text; and what a copy of a row is.
-/
import Derived.Test.YtboplbcfoooenaaWireAlive
namespace Go.Proofs.Ytboplbcfoooenaa
open Go.RowKit
attribute [local go_sem ↓ high] appSem_eq

/-- A row of bytes, as a slice's cells. -/
def bcells (l : List UInt8) : List Value := l.map fun b => .int .u8 (by8 b)
theorem low128 (y : Nat) : (y : Int) % 128 + 128 = by8 (UInt8.ofNat (y % 128 + 128)) := by
  rw [by8_ofNat]; omega
theorem low127 (y : Nat) (h : y < 128) : (y : Int) = by8 (UInt8.ofNat y) := by
  rw [by8_ofNat]; omega
theorem bcells_snoc (l : List UInt8) (c : UInt8) : bcells (l ++ [c]) = bcells l ++ [.int .u8 (by8 c)] := by simp [bcells]
theorem bcells_get (l : List UInt8) (j : Nat) (h : j < l.length) : (bcells l)[j]'(by simpa [bcells] using h) = .int .u8 (by8 l[j]) := by simp [bcells]
theorem news1 {w : World} {v : Value} {t : TypeId} : ∀ j u, [v][j]? = some u → (w.alloc (.cells #[v] t (0, 0))).cell? ((⟨w.heap.size, 0, none⟩ : Addr).add j) = some u := by
  intro j u hj
  match j, hj with
  | 0, hj => simp at hj; subst hj; simp [Addr.add]

end Go.Proofs.Ytboplbcfoooenaa
