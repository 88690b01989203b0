/-
  ROWS of numbers, texts and truths that were handed in, opened.
-/
import Derived.Test.YtdceefbhkonndaaWireCopy
namespace Go.Proofs.Ytdceefbhkonndaa
open Go.RowKit

section
variable {H : Type} {enc : TypeId × Value → H} {w : World} {base : Nat} {spare : Nat → Bool} {held : Bool} {P : Program}
theorem open_u {T : Nat} (hu : P.underlying T = some (.int .u64)) (fuel : Nat) (cs : List Value) (x : DataW H × List MemPlace) (h : DataW.trod enc P w base spare held fuel T cs = some x) (_ : ∀ n ∈ x.1.weights P T, n ≤ 140737488351232) :
    ∃ c : Nat, c < 18446744073709551616 ∧ cs = ucell c := by
  obtain ⟨n, rfl, _, hw⟩ := DataW.trod_int hu h
  obtain ⟨c, rfl, hc⟩ := nat64_of_wf hw
  exact ⟨c, by omega, rfl⟩
theorem open_i {T : Nat} (hu : P.underlying T = some (.int .i64)) (fuel : Nat) (cs : List Value) (x : DataW H × List MemPlace) (h : DataW.trod enc P w base spare held fuel T cs = some x) (_ : ∀ n ∈ x.1.weights P T, n ≤ 140737488351232) :
    ∃ c : Int, (-9223372036854775808 ≤ c ∧ c ≤ 9223372036854775807) ∧ cs = icell c := by
  obtain ⟨n, rfl, _, hw⟩ := DataW.trod_int hu h
  exact ⟨n, i64_of_wf hw, rfl⟩
theorem open_b {T : Nat} (hu : P.underlying T = some .bool) (fuel : Nat) (cs : List Value) (x : DataW H × List MemPlace) (h : DataW.trod enc P w base spare held fuel T cs = some x) (_ : ∀ n ∈ x.1.weights P T, n ≤ 140737488351232) :
    ∃ c : Bool, True ∧ cs = bcell c := by
  obtain ⟨c, rfl, _⟩ := DataW.trod_bool hu h
  exact ⟨c, trivial, rfl⟩
end

end Go.Proofs.Ytdceefbhkonndaa
