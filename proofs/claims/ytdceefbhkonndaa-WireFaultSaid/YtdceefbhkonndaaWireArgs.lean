/-
  CALLS OF A READER THAT WERE HANDED IN, numbers and truths of slices, opened.
-/
import Derived.Test.YtdceefbhkonndaaWireFault
import Derived.Test.YtdceefbhkonndaaRowSized
namespace Go.Proofs.Ytdceefbhkonndaa
open Go.RowKit

section
variable {H : Type} {enc : TypeId × Value → H} {w : World} {base : Nat} {spare : Nat → Bool} {held : Bool}
open Go.ChangeShapes in
theorem open_read (fuel : Nat) (cs : List Value) (x : DataW H × List MemPlace) (h : DataW.trod enc Try.prog w base spare held fuel 52 cs = some x) : ∃ c : Rcall, True ∧ cs = rcells c := by
  obtain ⟨xs, n, _, _, hl, hlen, hf⟩ := DataW.trod_struct Try.underlying52 h
  rw [show Try.prog.cellsOf 52 = 6 by kernel_rfl] at hl
  match xs, hlen, cs, hl with
  | [y0, y1, y2, y3, y4, y5], _, [c0, c1, c2, c3, c4, c5], _ =>
    have k0 : Try.prog.cellsOf 5 = 1 := by kernel_rfl
    have k1 : Try.prog.cellsOf 29 = 1 := by kernel_rfl
    have k2 : Try.prog.cellsOf 2 = 1 := by kernel_rfl
    have k3 : Try.prog.cellsOf 3 = 1 := by kernel_rfl
    obtain ⟨n0, e0, _, w0⟩ := DataW.trod_int Try.underlying5 (hf 0 _ rfl)
    obtain ⟨n1, e1, _, w1⟩ := DataW.trod_int Try.underlying29 (hf 1 _ rfl)
    obtain ⟨n2, e2, _, w2⟩ := DataW.trod_int Try.underlying2 (hf 2 _ rfl)
    obtain ⟨n3, e3, _, w3⟩ := DataW.trod_int Try.underlying2 (hf 3 _ rfl)
    obtain ⟨n4, e4, _, w4⟩ := DataW.trod_int Try.underlying3 (hf 4 _ rfl)
    obtain ⟨n5, e5, _, w5⟩ := DataW.trod_int Try.underlying3 (hf 5 _ rfl)
    obtain ⟨u, rfl, hu⟩ := nat64_of_wf w1
    refine ⟨⟨n0, u, n2, n3, n4, n5⟩, trivial, ?_⟩
    clear h hf
    simp_all [rcells]
end

end Go.Proofs.Ytdceefbhkonndaa
