/-
  THE WALKS of the document's answer for layer 11: Head, Next; and segment.Next.
-/
import Derived.Test.YtboplbcfoooenaaSegWalks
import Derived.Test.YtboplbcfoooenaaWireRef
namespace Go.Proofs.Ytboplbcfoooenaa
open Go.RowKit

attribute [local go_sem ↓ high] appSem_eq

/-- A head, whatever it is of. -/
theorem seg_head (w : World) (kind gen first : Nat) (t : ByteArray) (hk : kind < 256) (hg : gen < 18446744073709551616) (hf : first < 18446744073709551616) (ht : t.size ≤ 1073741824) :
    Calls Try.prog 10 #[.int .u8 kind, .int .u64 gen, .int .u64 first, .string t] w fun e w' => e = .returned (.tuple #[.string (S (Sg.head kind gen first (L t)).1), .int .i64 (Sg.head kind gen first (L t)).2]) ∧ Below w.heap.size w w' := by
  cases h : Sg.may kind gen first (L t) with
  | true => exact seg_head_yes w kind gen first t hk hg hf ht h
  | false =>
    rw [head_no h]
    exact (seg_head_no w kind gen first t hk hg hf h).mono fun e w' ⟨h1, h2⟩ => ⟨h1, by rw [h2]; exact Below.refl _ _⟩
end Go.Proofs.Ytboplbcfoooenaa
