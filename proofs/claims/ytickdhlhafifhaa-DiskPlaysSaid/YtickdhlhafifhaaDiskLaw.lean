/-
  PLAIN LAWS OF DISKS: writes alone, and what a crash leaves of them. No program is in sight here.
-/
import Derived.Test.YtickdhlhafifhaaDiskFiles
namespace Go.Proofs.Ytickdhlhafifhaa
open Go.RowKit

def callOf (x : Xst) : Dk.Call := ⟨x.file.toNat, false, 0, x.s⟩
/-- A disk of three files, behind writes alone. -/
def dof (acc : List Xst) : Dk.D := ⟨16384, List.replicate 3 Dk.none, acc.map callOf, -1⟩
theorem dof_nil : dof [] = Dk.new 3 16384 := rfl
theorem dof_burn (acc : List Xst) : Dk.burn (dof acc) = (dof acc, 0) := rfl
def goes (acc : List Xst) (x : Xst) : Prop := (0 ≤ x.file ∧ x.file < 3) ∧ ¬ (dof acc).left < x.s.size
theorem dof_is (acc : List Xst) (f : Int) : (dof acc).is f = true ↔ 0 ≤ f ∧ f < 3 := Dk.D.is_iff
theorem write_goes {acc : List Xst} {x : Xst} (h : goes acc x) : Dk.write (dof acc) x.file x.s = (dof (acc ++ [x]), 0) := by
  unfold Dk.write
  rw [if_neg (by rw [dof_burn]; simp), if_neg (by rw [(dof_is acc x.file).2 h.1]; simp), if_neg h.2, dof_burn]
  unfold dof Dk.D.add
  rw [List.map_append]; rfl
theorem write_stays {acc : List Xst} {x : Xst} (h : ¬ goes acc x) : ∃ e : Nat, Dk.write (dof acc) x.file x.s = (dof acc, e) ∧ e ≠ 0 ∧ e ≤ 100 := by
  unfold Dk.write
  rw [if_neg (by rw [dof_burn]; simp), dof_burn]
  by_cases h1 : (dof acc).is x.file = false
  · rw [if_pos h1]; exact ⟨3, rfl, by decide, by decide⟩
  · rw [if_neg h1]
    have h1' := (dof_is acc x.file).1 (by simpa using h1)
    by_cases h2 : (dof acc).left < x.s.size
    · rw [if_pos h2]; exact ⟨4, rfl, by decide, by decide⟩
    · exact absurd ⟨h1', h2⟩ h
def Good (acc : List Xst) : Prop := ∀ i (h : i < acc.length), goes (acc.take i) acc[i]
theorem Good.nil : Good [] := fun i h => by simp at h
theorem Good.snoc {acc : List Xst} {x : Xst} (h : Good acc) (hx : goes acc x) : Good (acc ++ [x]) := by
  intro i hi
  rcases Nat.lt_or_ge i acc.length with h1 | h1
  · rw [List.getElem_append_left h1, List.take_append_of_le_length (by omega)]
    exact h i h1
  · have : i = acc.length := by simp at hi; omega
    subst this
    rw [List.getElem_append_right (Nat.le_refl _), List.take_append_of_le_length (Nat.le_refl _), List.take_length]
    simpa using hx
/-- A step, of which so many bytes count. -/
def cutX (x : Xst) (y : Nat) : Xst := { x with s := Dk.piece x.s y }
/-- What the other disk is handed: so many whole ones, and a piece of one more. -/
def xof (acc : List Xst) (k y : Nat) : List Xst := if h : k < acc.length then acc.take k ++ [cutX acc[k] y] else acc
def upX (acc : List Xst) (k y i : Nat) : List Xst := if i ≤ k then acc.take i else xof acc k y
theorem goes_cut {acc : List Xst} {x : Xst} (h : goes acc x) (y : Nat) : goes acc (cutX x y) := by
  refine ⟨h.1, ?_⟩
  have := Dk.piece_size x.s y
  have := h.2
  show ¬ (dof acc).left < (Dk.piece x.s y).size
  omega
theorem upX_lt {acc : List Xst} {k y i : Nat} (h : i < k) (hi : i < acc.length) : upX acc k y i = acc.take i ∧ upX acc k y (i + 1) = acc.take i ++ [acc[i]] := by
  unfold upX
  rw [if_pos (by omega), if_pos (by omega), List.take_succ_eq_append_getElem hi]; exact ⟨rfl, rfl⟩
theorem upX_eq {acc : List Xst} {k y : Nat} (hi : k < acc.length) : upX acc k y k = acc.take k ∧ upX acc k y (k + 1) = acc.take k ++ [cutX acc[k] y] := by
  unfold upX xof
  rw [if_pos (Nat.le_refl _), if_neg (by omega), dif_pos hi]; exact ⟨rfl, rfl⟩
theorem upX_end {acc : List Xst} {k y i : Nat} (h : i = acc.length ∨ k < i) (hi : i ≤ acc.length) : upX acc k y i = xof acc k y := by
  unfold upX
  by_cases hk : i ≤ k
  · rw [if_pos hk]
    rcases h with rfl | h
    · unfold xof; rw [dif_neg (by omega), List.take_length]
    · omega
  · rw [if_neg hk]
/-- What a crash leaves is what the other disk has. -/
theorem crash_xof (acc : List Xst) (k y : Nat) : (Dk.crash (dof acc) k y).now = (dof (xof acc k y)).now := by
  show Dk.crashed (List.replicate 3 Dk.none) (acc.map callOf) k y = Dk.runs (List.replicate 3 Dk.none) ((xof acc k y).map callOf)
  unfold Dk.crashed xof
  by_cases h : k < acc.length
  · rw [dif_pos h, dif_pos (by simp; exact h), List.map_append, List.map_cons, List.map_nil, Dk.runs_snoc]
    simp only [Int.toNat_natCast, List.getElem_map, List.map_take]
    rfl
  · rw [dif_neg h, dif_neg (by simp; omega)]
    rw [Int.toNat_natCast, List.take_of_length_le (by simp; omega)]

end Go.Proofs.Ytickdhlhafifhaa
