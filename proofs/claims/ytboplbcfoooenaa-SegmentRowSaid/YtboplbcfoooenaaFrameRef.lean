/-
  THE WALKS of the document's answer for layer 10: Number, Bytes, Encode, Decode.
-/
import Derived.Test.YtboplbcfoooenaaFrameDec
import Derived.Test.YtboplbcfoooenaaMem
namespace Go.Proofs.Ytboplbcfoooenaa
open Go.RowKit

theorem same_below {P : Program} {f : FuncId} {args : Array Value} {w : World} {v : Value} (h : Calls P f args w fun e w' => e = .returned v ∧ w = w') : Calls P f args w fun e w' => e = .returned v ∧ Below w.heap.size w w' :=
  h.mono fun _ _ ⟨he, hw⟩ => ⟨he, by rw [← hw]; exact Below.refl _ _⟩

theorem num64 (m c : Nat) (_ : c < 256) : IntKind.u64.wrap (IntKind.u64.wrap (256 * (m : Int)) + IntKind.u64.wrap (c : Int)) = ((256 * m + c) % Frm.M64 : Nat) := by
  simp only [IntKind.wrap_u64]; unfold Frm.M64; omega

theorem back_set (D : List UInt8) (m : Nat) (hm : m < D.length) : (List.replicate (m + 1) 0 ++ D.drop (m + 1)).set m D[m] = List.replicate m 0 ++ D.drop m := by
  have e : List.replicate (m + 1) (0 : UInt8) = List.replicate m 0 ++ [0] := List.replicate_succ'
  rw [e, List.append_assoc, List.set_append_right _ _ (by simp)]
  congr 1
  rw [List.length_replicate, Nat.sub_self]
  exact (List.drop_eq_getElem_cons hm).symm

theorem S_append (a b : List UInt8) : S a ++ S b = S (a ++ b) := by
  have e : L (S a ++ S b) = a ++ b := by rw [L_append, L_S, L_S]
  rw [← e, S_L]

end Go.Proofs.Ytboplbcfoooenaa
