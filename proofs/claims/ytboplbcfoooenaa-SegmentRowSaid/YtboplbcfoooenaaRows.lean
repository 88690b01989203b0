/-
  No cell of these rows narrows 'for every input' (looked for: loops, veiled, ifaces, maps, wideKeys, modest, calm, conditions, laid).
  DERIVED. THE GIVEN ROWS OF THIS SEAT. 2 by the template 'for every input the law returns true; each argument reads behind the call as it read before'; 0 by the template 'total and deterministic' (their statements: YtboplbcfoooenaaTotals.lean).
  GIVEN WITH THE SEED: the statements are not yours to turn. If you find one false, say at which input.
  Laid BY PROGRAM, IN A SANDBOX (cutbox-rows.mjs): the forced cells as the released guide's own fill.sh prints them over the translation b71c3ab3ed4bf4a2… (all of the seat's roots in one cut). By AI agents, Wed Nov 11 2026. No macro, syntax, notation, axiom, sorry.
-/
import Derived.Test.YtboplbcfoooenaaChecked
import GoSem.Claim
import GoSem.ClaimJoined
import GoSem.ClaimMapViews
import Derived.JoinedTies
import Derived.KernelRfl
namespace Go.Proofs.Ytboplbcfoooenaa
/- THE CELL 'sum', in the pinned program and in every row, IS THE sha256 OF THE DUMP (.gsa) THAT YtboplbcfoooenaaProg.lean LOADS. Nothing in Lean hashes anything: it is a label: what it is worth is what the hold of that sum in a sandbox is worth. -/
noncomputable def Try.pinned : Pinned := { name := "ytboplbcfoooenaa", sum := "b71c3ab3ed4bf4a27c61bef4f115cf7d332f8fc891b7a115969d8e23b2e8bd89", checked := Try.checked }
namespace Rows
def none {H : Type} : Left H := { results := [], args := [] }

/-- 'scriniumlaw11.SegmentRow': WHATEVER THE INPUT: true; the input reads as it did. -/
def segmentRowSpec : ChangeSpec := { name := "segmentRow", fn := fun _ => fun
  | [d] => { results := [.lit (.bool true)], args := [d] }
  | _ => none }
def segmentRowRow : OpenClaim := { program := "ytboplbcfoooenaa", sum := "b71c3ab3ed4bf4a27c61bef4f115cf7d332f8fc891b7a115969d8e23b2e8bd89", func := "scrinium/scriniumlaw11.SegmentRow", spec := "segmentRow", inPlace := ["internal/abi.NoEscape"], unfollowed := true, recurses := true, apart := false }
def SegmentRowSaid : Prop := segmentRowRow.holds Try.pinned (OpenSpec.ofChange segmentRowSpec)

/-- ITS FALSE NEIGHBOUR: 'it returns false'. Refute it at one input. -/
def segmentRowWrong : ChangeSpec := { name := "segmentRow", fn := fun _ => fun
  | [d] => { results := [.lit (.bool false)], args := [d] }
  | _ => none }
def SegmentRowWrongFalsely : Prop := segmentRowRow.holds Try.pinned (OpenSpec.ofChange segmentRowWrong)

/-- 'scriniumlaw11.SegmentOrder': WHATEVER THE INPUT: true; the input reads as it did. -/
def segmentOrderSpec : ChangeSpec := { name := "segmentOrder", fn := fun _ => fun
  | [d1, d2, d3, d4, d5] => { results := [.lit (.bool true)], args := [d1, d2, d3, d4, d5] }
  | _ => none }
def segmentOrderRow : OpenClaim := { program := "ytboplbcfoooenaa", sum := "b71c3ab3ed4bf4a27c61bef4f115cf7d332f8fc891b7a115969d8e23b2e8bd89", func := "scrinium/scriniumlaw11.SegmentOrder", spec := "segmentOrder", inPlace := ["internal/abi.NoEscape"], unfollowed := true, recurses := true, apart := false }
def SegmentOrderSaid : Prop := segmentOrderRow.holds Try.pinned (OpenSpec.ofChange segmentOrderSpec)

/-- ITS FALSE NEIGHBOUR: 'it returns false'. Refute it at one input. -/
def segmentOrderWrong : ChangeSpec := { name := "segmentOrder", fn := fun _ => fun
  | [d1, d2, d3, d4, d5] => { results := [.lit (.bool false)], args := [d1, d2, d3, d4, d5] }
  | _ => none }
def SegmentOrderWrongFalsely : Prop := segmentOrderRow.holds Try.pinned (OpenSpec.ofChange segmentOrderWrong)

/- THE SECOND FORM. 'bulk': how many values and letters a reading holds, each counted each time it is reached (what is shared counts as often as it is met; a slice's spare places count too). A statement '..UptoSaid' is the law's where the arguments, and the package variables that the reading takes, are together of bulk at most 1048576: NARROWER than '..Said'. Prove '..Said' where nothing that the law and all that it calls make is longer than what came in: it says more and counts as full. Else prove '..UptoSaid'. A law counts once. -/
mutual
def uptoBulk {H : Type} : DataW H → Nat
  | .lit (.string bytes) => bytes.length + 1
  | .lit _ => 1
  | .nil => 1
  | .ptr d => uptoBulk d + 1
  | .slice elems spare => uptoBulkAll elems + uptoBulkAll spare + 1
  | .agg parts => uptoBulkAll parts + 1
  | .iface _ d => uptoBulk d + 1
  | .map entries => uptoBulkEntries entries + 1
  | .held _ => 1
def uptoBulkAll {H : Type} : List (DataW H) → Nat
  | [] => 0
  | d :: r => uptoBulk d + uptoBulkAll r
def uptoBulkEntries {H : Type} : List (Lit × DataW H) → Nat
  | [] => 0
  | x :: r => uptoBulkEntry x + uptoBulkEntries r
def uptoBulkEntry {H : Type} : Lit × DataW H → Nat
  | (.string bytes, d) => bytes.length + uptoBulk d + 1
  | (_, d) => uptoBulk d + 1
 end
def uptoSmall : (H : Type) → List (DataW H) → Bool := fun _ ds => decide (uptoBulkAll ds ≤ 1048576)
def OpenSpec.upto (s : _root_.Go.ChangeSpec) : _root_.Go.OpenSpec := { _root_.Go.OpenSpec.ofChange s with cond := some uptoSmall }

/-- 'scriniumlaw11.SegmentRow', WHERE WHAT IT READS IS OF BULK AT MOST 1048576: true; the input reads as it did. -/
def segmentRowUptoRow : OpenClaim := { program := "ytboplbcfoooenaa", sum := "b71c3ab3ed4bf4a27c61bef4f115cf7d332f8fc891b7a115969d8e23b2e8bd89", func := "scrinium/scriniumlaw11.SegmentRow", spec := "segmentRow", inPlace := ["internal/abi.NoEscape"], unfollowed := true, recurses := true, apart := false, narrowed := true }
def SegmentRowUptoSaid : Prop := segmentRowUptoRow.holds Try.pinned (OpenSpec.upto segmentRowSpec)

/-- 'scriniumlaw11.SegmentOrder', WHERE WHAT IT READS IS OF BULK AT MOST 1048576: true; the input reads as it did. -/
def segmentOrderUptoRow : OpenClaim := { program := "ytboplbcfoooenaa", sum := "b71c3ab3ed4bf4a27c61bef4f115cf7d332f8fc891b7a115969d8e23b2e8bd89", func := "scrinium/scriniumlaw11.SegmentOrder", spec := "segmentOrder", inPlace := ["internal/abi.NoEscape"], unfollowed := true, recurses := true, apart := false, narrowed := true }
def SegmentOrderUptoSaid : Prop := segmentOrderUptoRow.holds Try.pinned (OpenSpec.upto segmentOrderSpec)

end Rows
end Go.Proofs.Ytboplbcfoooenaa
