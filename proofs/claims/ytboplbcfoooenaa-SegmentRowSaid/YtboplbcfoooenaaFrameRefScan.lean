/-
  THE WALKS of the document's answer for layer 10: Scan, Same.
-/
import Derived.Test.YtboplbcfoooenaaFrameRefDec
import Derived.Test.YtboplbcfoooenaaFrameScan
import Derived.Test.YtboplbcfoooenaaQuietLoad
namespace Go.Proofs.Ytboplbcfoooenaa
open Go.RowKit

attribute [local go_sem ↓ high] appSem_eq

def rcells (r : Frm.Rec) : List Value := [.int .u64 r.num, .string (S r.text)]
theorem rrow_length (rs : List Frm.Rec) : (rrow rs).length = rs.length * 2 := by
  induction rs with
  | nil => rfl
  | cons y ys ih => simp only [rrow, List.flatMap_cons, List.length_append, List.length_cons] at ih ⊢; rw [ih]; simp; omega
theorem rrow_at : ∀ (rs : List Frm.Rec) (k : Nat) (h : k < rs.length), ((rrow rs).drop (k * 2)).take 2 = rcells rs[k]
  | r :: rs, 0, _ => by simp [rrow, rcells]
  | r :: rs, k + 1, h => by
    have ih := rrow_at rs k (by simpa using h)
    have e : rrow (r :: rs) = rcells r ++ rrow rs := by simp [rrow, rcells]
    rw [e, show (k + 1) * 2 = 2 + k * 2 from by omega, ← List.drop_drop]
    simpa [rcells] using ih
theorem rec_elem {w : World} {g off cap : Nat} {l : List Frm.Rec} (h : SliceIs w 52 2 (some ⟨g, off, none⟩) l.length cap (rrow l)) (k : Nat) (hk : k < l.length) : CellsAt w g (off + k * 2) (rcells l[k]) := by
  have hc := h.cells.sub (k * 2) 2 (by rw [rrow_length]; omega)
  rwa [rrow_at l k hk] at hc

/-- What the loop over bytes keeps. -/
structure RScan (w : World) (s : ByteArray) (first : Nat) (acc : List Frm.Rec) (p nx : Nat) (a : Option Addr) (cap : Nat) (wr : World) : Prop where
  sc : Frm.Scanning (L s) first acc p nx
  nx : nx < 18446744073709551616
  len : acc.length ≤ p
  row : SliceIs wr 52 2 a acc.length cap (rrow acc)
  fresh : ∀ k ∈ blks a, w.heap.size ≤ k
  own : Own w.heap.size w wr

end Go.Proofs.Ytboplbcfoooenaa
