/-
  THE WALK of the document's answer for layer 10: Decode.
-/
import Derived.Test.YtboplbcfoooenaaFrameRef
import Derived.Deep.RegionWith
namespace Go.Proofs.Ytboplbcfoooenaa
open Go.RowKit

theorem rdec_sum_lo (s : ByteArray) (N : Nat) : Crc.sum (L (s.extract 0 12 ++ s.extract 16 (16 + N))) = Crc.sum ((L s).take 12 ++ ((L s).drop 16).take N) := by
  rw [L_append, L_cut, L_cut]; congr 3; omega

end Go.Proofs.Ytboplbcfoooenaa
