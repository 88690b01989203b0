/-
  THE WALKS of the document's answer for layer 8: Zig, Text, Same.
-/
import Derived.Test.YtboplbcfoooenaaWireRef
namespace Go.Proofs.Ytboplbcfoooenaa
open Go.RowKit

theorem same_str {a b : ByteArray} : (a.toList = b.toList) ↔ a = b := by
  rw [ByteArray.toList_eq, ByteArray.toList_eq]
  exact ⟨fun h => Go.WideShapes.bytes_inj h, fun h => by rw [h]⟩
end Go.Proofs.Ytboplbcfoooenaa
