/-
  SLICES THAT WERE HANDED IN, by their elements' cells: opened, kept, and out of slices that the call has made.
-/
import Derived.Test.YteipjgmbgkjjiaaMem
import Derived.Deep.Slices
import Derived.Deep.Strs
import Derived.ProofKit
set_option linter.unusedVariables false
set_option linter.unusedSimpArgs false
namespace Go.Proofs.Yteipjgmbgkjjiaa
open Go.RowKit

/-- A slice, by its elements' cells. -/
def RowIs (w : World) (size : Nat) (a : Option Addr) (xs : List (List Value)) : Prop :=
  ∀ i (h : i < xs.length), ∃ g off, a = some ⟨g, off, none⟩ ∧ CellsAt w g (off + i * size) xs[i]
theorem RowIs.keep {w w' : World} {size : Nat} {a : Option Addr} {xs : List (List Value)} (h : RowIs w size a xs) (hb : Below w.heap.size w w') : RowIs w' size a xs := fun i hi => by
  obtain ⟨g, off, ha, hc⟩ := h i hi
  exact ⟨g, off, ha, hc.keep (hb.block g hc.lt)⟩
theorem RowIs.nil (w : World) (size : Nat) (a : Option Addr) : RowIs w size a [] := fun i hi => by simp at hi
theorem CellsAt.of_cells {w : World} {a : Addr} {n : Nat} {cs : List Value} {base : Nat} (h : w.cells? base a n = some cs) (hn : 0 < n) : a.spot = none ∧ CellsAt w a.block a.off cs := by
  obtain ⟨hb, hl, hc⟩ := World.cells?_some h
  have h0 := hc 0 hn
  rw [List.getElem?_eq_getElem (by omega)] at h0
  have ha : a.add 0 = a := by simp [Addr.add]
  rw [ha] at h0
  have hspot : a.spot = none := by
    unfold World.cell? at h0
    split at h0
    · cases hs : a.spot with
      | none => rfl
      | some s => rw [hs] at h0; simp at h0
    · cases h0
  obtain ⟨g, off, s⟩ := a
  simp only at hspot; subst hspot
  refine ⟨rfl, ?_⟩
  cases hg : w.heap[g]? with
  | none => unfold World.cell? at h0; rw [hg] at h0; cases h0
  | some o =>
    cases o with
    | cells c t fr =>
      have hat : ∀ i, i < n → c[off + i]? = cs[i]? := fun i hi => by
        have := hc i hi
        have e : (⟨g, off, none⟩ : Addr).add i = ⟨g, off + i, none⟩ := by unfold Addr.add; split <;> simp_all
        rw [e, cell_of_row w g _ c t fr hg] at this
        exact this
      have hlast := hat (n - 1) (by omega)
      rw [List.getElem?_eq_getElem (by omega)] at hlast
      have hlt := (Array.getElem?_eq_some_iff.1 hlast).1
      refine ⟨c, t, fr, hg, by simp only; omega, ?_⟩
      apply List.ext_getElem?
      intro i
      by_cases hi : i < cs.length
      · rw [List.getElem?_take_of_lt hi, List.getElem?_drop]
        simpa using hat i (by omega)
      · rw [List.getElem?_eq_none (by simp; omega), List.getElem?_eq_none (by omega)]
    | _ => unfold World.cell? at h0; rw [hg] at h0; cases h0
/-- The elements of a slice that the call has made, n cells each. -/
theorem SliceIs.rowIs {w : World} {e : TypeId} {size : Nat} {a : Option Addr} {n cap : Nat} {xs : List Value} (h : SliceIs w e size a n cap xs) (ys : List (List Value)) (hy : ∀ i (hi : i < ys.length), (xs.drop (i * size)).take size = ys[i]) (hn : ys.length ≤ n) : RowIs w size a ys := fun i hi => by
  obtain ⟨g, off, rfl⟩ := h.there (by omega)
  refine ⟨g, off, rfl, ?_⟩
  rw [← hy i hi]
  refine h.cells.sub (i * size) size ?_
  rw [h.1, ← Nat.succ_mul]
  exact Nat.mul_le_mul_right _ (by omega)
/-- A row of one-cell elements. -/
theorem SliceIs.rowIs1 {w : World} {e : TypeId} {a : Option Addr} {n cap : Nat} {xs : List Value} (h : SliceIs w e 1 a n cap xs) (hn : xs.length ≤ n) : RowIs w 1 a (xs.map fun x => [x]) := by
  refine h.rowIs _ (fun i hi => ?_) (by simpa using hn)
  have hi' : i < xs.length := by simpa using hi
  have e : (xs.drop i).take 1 = [xs[i]] := by rw [List.drop_eq_getElem_cons hi']; rfl
  simpa using e
theorem RowIs.cell1 {w : World} {a : Option Addr} {α : Type} {f : α → Value} {xs : List α} (h : RowIs w 1 a (xs.map fun x => [f x])) (i : Nat) (hi : i < xs.length) : ∃ g off, a = some ⟨g, off, none⟩ ∧ w.cell? ⟨g, off + i, none⟩ = some (f xs[i]) := by
  obtain ⟨g, off, ha, hc⟩ := h i (by simpa using hi)
  refine ⟨g, off, ha, ?_⟩
  have := hc.cell 0 (by simp)
  simpa using this

section
variable {H : Type} {enc : TypeId × Value → H} {w : World} {base : Nat} {spare : Nat → Bool} {held : Bool} {P : Program}
/-- A slice that was handed in, opened by a law of its elements. -/
theorem open_row {T E size : Nat} {α : Type} [Inhabited α] (f : α → List Value) (ok : α → Prop) (hu : P.underlying T = some (.slice E)) (hE : P.cellsOf E = size) (h0 : 0 < size)
    (open1 : ∀ (fuel : Nat) (cs : List Value) (x : DataW H × List MemPlace), DataW.trod enc P w base spare held fuel E cs = some x → ∃ c : α, ok c ∧ cs = f c)
    {fuel : Nat} {cs : List Value} {x : DataW H × List MemPlace} (h : DataW.trod enc P w base spare held fuel T cs = some x) :
    ∃ (a : Option Addr) (cap : Nat) (l : List α), cs = [.slice a l.length cap] ∧ (∀ c ∈ l, ok c) ∧ RowIs w size a (l.map f) ∧ l.length ≤ cap ∧ cap ≤ maxLen := by
  rcases Go.Deep.open_slice hu h with ⟨rfl, _⟩ | ⟨a, len, cap, m, n, D, Pl, rfl, hb, hl, hm, hmm, hx, hi⟩
  · exact ⟨none, 0, [], rfl, by simp, fun i hi => by simp at hi, by simp, by decide⟩
  · have hlm : len ≤ m := by rw [hmm]; split <;> omega
    have hspot : 0 < len → a.spot = none := fun h0' => by
      obtain ⟨cs', hc, ht⟩ := hi 0 (by omega)
      rw [hE] at hc
      rw [Nat.zero_mul] at hc
      have := (CellsAt.of_cells hc h0).1
      simpa [Addr.add] using this
    have : ∀ i, i < len → ∃ c : α, ok c ∧ a.spot = none ∧ CellsAt w a.block (a.off + i * size) (f c) := fun i hil => by
      obtain ⟨cs', hc, ht⟩ := hi i (by omega)
      obtain ⟨c, hok, rfl⟩ := open1 _ _ _ ht
      rw [hE] at hc
      obtain ⟨hs, hcells⟩ := CellsAt.of_cells hc h0
      refine ⟨c, hok, hspot (by omega), ?_⟩
      unfold Addr.add at hcells
      split at hcells
      · rename_i hz
        have hi0 : i = 0 := by
          rcases Nat.mul_eq_zero.1 hz with h | h
          · exact h
          · omega
        subst hi0
        simpa using hcells
      · exact hcells
    obtain ⟨fn, hf⟩ := Go.Deep.choose_lt (α := α) this
    refine ⟨some a, cap, (List.range len).map fn, by simp, ?_, ?_, by simpa using hl, hm⟩
    · intro c hc
      obtain ⟨i, hi, rfl⟩ := List.mem_map.1 hc
      exact (hf i (List.mem_range.1 hi)).1
    · intro i hi
      have hil : i < len := by simpa using hi
      obtain ⟨_, hs, hcl⟩ := hf i hil
      obtain ⟨g, off, s⟩ := a
      simp only at hs hcl
      subst hs
      exact ⟨g, off, rfl, by simpa using hcl⟩
end

end Go.Proofs.Yteipjgmbgkjjiaa
