/-
  RECORDS AND LISTS OF TEXTS THAT WERE HANDED IN, opened.
-/
import Derived.Test.YteipjgmbgkjjiaaBase
import Derived.Lib.SmallJoins
import Derived.SizedLaws
import Derived.ProofKit
set_option linter.unusedVariables false
set_option linter.unusedSimpArgs false
namespace Go.Proofs.Yteipjgmbgkjjiaa
open Go.RowKit

section
open Go.ChangeShapes Go.WideShapes Go.ChangeAt
variable {H : Type} {enc : TypeId × Value → H} {w : World} {base : Nat} {spare : Nat → Bool} {held : Bool}
theorem open_rec {r : Reach} {b0 : Nat} {v : Value} {d : DataW H} {p : List MemPlace} (hv : Value.okWide Try.prog w r b0 24 v) (h : DataW.Trod enc Try.prog w base spare held 24 v d p) :
    ∃ (n : Nat) (t : ByteArray), v = .agg #[.int .u64 n, .string t] ∧ d = .agg [.lit (.int .u64 n), .lit (.string t.data.toList)] ∧ p = [] ∧ n < 18446744073709551616 := by
  obtain ⟨c0, c1, y0, y1, m, rfl, rfl, rfl, h0, h1⟩ := Go.Joins.open_agg2 Try.underlying24 (by kernel_rfl) (by kernel_rfl) hv h
  obtain ⟨a, e0, rfl, wa⟩ := DataW.trod_int Try.underlying22 h0
  obtain ⟨b, e1, rfl, wb⟩ := DataW.trod_string Try.underlying9 h1
  obtain ⟨n, rfl, hn⟩ := nat64_of_wf wa
  simp at e0 e1
  subst e0 e1
  exact ⟨n, b, rfl, rfl, rfl, by omega⟩
theorem sized_rec {ts : List TypeId} {ds : List (DataW H)} (h : (DataW.weightsEach Try.prog ts ds).all (· ≤ reachBytes) = true) {j : Nat} {n : Lit} {bytes : List UInt8} (ht : ts[j]? = some 24)
    (hd : ds[j]? = some (.agg [.lit n, .lit (.string bytes)])) : bytes.length ≤ reachBytes := by
  have := List.all_eq_true.1 h _ (DataW.weights_mem_each ht hd bytes.length (by simp [DataW.weights, Try.underlying24, DataW.weightsEach]))
  simpa using this
end

end Go.Proofs.Yteipjgmbgkjjiaa
