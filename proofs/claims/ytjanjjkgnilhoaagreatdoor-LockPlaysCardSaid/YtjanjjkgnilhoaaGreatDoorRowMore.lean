/-
  SLICES THAT WERE HANDED IN, WITH THE BOUNDS OF THEIR WEIGHTS AND OF THEIR LENGTHS; and copies of rows.
-/
import Derived.Test.YtjanjjkgnilhoaaGreatDoorRowSized
import Derived.Test.YtjanjjkgnilhoaaGreatDoorQuietLoad
namespace Go.Proofs.YtjanjjkgnilhoaaGreatDoor
open Go.RowKit

section
variable {H : Type} {enc : TypeId × Value → H} {w : World} {base : Nat} {spare : Nat → Bool} {held : Bool} {P : Program}
/-- A slice that was handed in, opened by a law of its elements that knows the element's weights to be bounded. -/
theorem open_row_more {T E size : Nat} {α : Type} [Inhabited α] (f : α → List Value) (ok : α → Prop) (B : Nat) (hu : P.underlying T = some (.slice E)) (hE : P.cellsOf E = size) (h0 : 0 < size)
    (open1 : ∀ (fuel : Nat) (cs : List Value) (x : DataW H × List MemPlace), DataW.trod enc P w base spare held fuel E cs = some x → (∀ n ∈ x.1.weights P E, n ≤ B) → ∃ c : α, ok c ∧ cs = f c)
    {fuel : Nat} {cs : List Value} {x : DataW H × List MemPlace} (h : DataW.trod enc P w base spare held fuel T cs = some x) (hw : ∀ n ∈ x.1.weights P T, n ≤ B) :
    ∃ (a : Option Addr) (cap : Nat) (l : List α), cs = [.slice a l.length cap] ∧ (∀ c ∈ l, ok c) ∧ RowIs w size a (l.map f) ∧ l.length ≤ cap ∧ cap ≤ maxLen ∧ l.length * P.bytesOf E ≤ B ∧ (a = none → cap = 0) := by
  rcases Go.Deep.open_slice hu h with ⟨rfl, _⟩ | ⟨a, len, cap, m, n, D, Pl, rfl, hb, hl, hm, hmm, hx, hi⟩
  · exact ⟨none, 0, [], rfl, by simp, fun i hi => by simp at hi, by simp, by decide, by simp, fun _ => rfl⟩
  · have hlm : len ≤ m := by rw [hmm]; split <;> omega
    have hspot : 0 < len → a.spot = none := fun h0' => by
      obtain ⟨cs', hc, ht⟩ := hi 0 (by omega)
      rw [hE] at hc
      rw [Nat.zero_mul] at hc
      have := (CellsAt.of_cells hc h0).1
      simpa [Addr.add] using this
    have : ∀ i, i < len → ∃ c : α, ok c ∧ a.spot = none ∧ CellsAt w a.block (a.off + i * size) (f c) := fun i hil => by
      obtain ⟨cs', hc, ht⟩ := hi i (by omega)
      obtain ⟨c, hok, rfl⟩ := open1 _ _ _ ht (fun k hk => hw k (by
        rw [hx]
        simp only [DataW.weights, hu]
        exact List.mem_cons_of_mem _ (List.mem_append_left _ (weightsAll_in (d := D i) (List.mem_map.2 ⟨i, List.mem_range.2 hil, rfl⟩) k hk))))
      rw [hE] at hc
      obtain ⟨hs, hcells⟩ := CellsAt.of_cells hc h0
      refine ⟨c, hok, hspot (by omega), ?_⟩
      unfold Addr.add at hcells
      split at hcells
      · rename_i hz
        have hi0 : i = 0 := by
          rcases Nat.mul_eq_zero.1 hz with h | h
          · exact h
          · omega
        subst hi0
        simpa using hcells
      · exact hcells
    obtain ⟨fn, hf⟩ := Go.Deep.choose_lt (α := α) this
    refine ⟨some a, cap, (List.range len).map fn, by simp, ?_, ?_, by simpa using hl, hm, ?_, fun h => by cases h⟩
    · intro c hc
      obtain ⟨i, hi, rfl⟩ := List.mem_map.1 hc
      exact (hf i (List.mem_range.1 hi)).1
    · intro i hi
      have hil : i < len := by simpa using hi
      obtain ⟨_, hs, hcl⟩ := hf i hil
      obtain ⟨g, off, s⟩ := a
      simp only at hs hcl
      subst hs
      exact ⟨g, off, rfl, by simpa using hcl⟩
    · have := hw ((len + (m - len)) * P.bytesOf E) (by
        rw [hx]
        simp only [DataW.weights, hu]
        simp)
      refine Nat.le_trans ?_ this
      simp only [List.length_map, List.length_range]
      exact Nat.mul_le_mul_right _ (by omega)
end

section
variable {P : Program}
/-- 'append([]T{}, x...)' of a row. -/
theorem copy_run {T E : TypeId} {i : TypeInfo} {z : Value} {bytes : Nat} (ht : P.underlying T = some (.slice E)) (hi : P.info? E = some i) (hz : i.zero = some z) (hsize : i.size = 1) (hby : i.bytes = bytes) (hzs : z.cells.size = 1)
    (w : World) (a : Option Addr) (cap : Nat) (xs : List Value) (h : RowIs w 1 a (xs.map fun v => [v])) (h1 : ∀ u ∈ xs, u.oneCell' = true) (hn : xs.length ≤ 1073741824) (hb : bytes ≤ 16) (hnil : a = none → cap = 0) :
    ∃ s' cap' w', (appSem #[T, T] T #[.slice (some ⟨w.heap.size, 0, none⟩) 0 0, .slice a xs.length cap]).run P (w.alloc (.cells #[] E (0, 0))) = .ok (.slice s' xs.length cap') w' ∧ RowIs w' 1 s' (xs.map fun v => [v]) ∧ Own w.heap.size w w' := by
  have hS : SliceIs (w.alloc (.cells #[] E (0, 0))) E 1 (some ⟨w.heap.size, 0, none⟩) 0 0 [] := ⟨by simp, .inr ⟨w.heap.size, 0, #[], rfl, heap_alloc_new w _, Nat.le_refl _, by decide, by simp, by simp⟩⟩
  cases a with
  | none =>
    have hx : xs = [] := by
      cases xs with
      | nil => rfl
      | cons v r => obtain ⟨g, off, e, _⟩ := h 0 (by simp); cases e
    subst hx
    obtain rfl : cap = 0 := hnil rfl
    exact ⟨some ⟨w.heap.size, 0, none⟩, 0, _, run_append_slice_none _ T T E i ht hi _ 0 0 (Nat.le_refl _), RowIs.nil _ _ _, (Own.refl w).alloc _⟩
  | some ad =>
    have hbl : xs.length * bytes ≤ xs.length * 16 := Nat.mul_le_mul_left _ hb
    obtain ⟨s', cap', w', hr, hs, hu, hk⟩ := run_append_slice (P := P) (w.alloc (.cells #[] E (0, 0))) T T E i z 1 bytes ht hi hz hsize hby hzs (by decide) (some ⟨w.heap.size, 0, none⟩) 0 0 [] hS ad xs.length cap xs (by simp)
      (by
        intro j u hj
        obtain ⟨hj', e⟩ := List.getElem?_eq_some_iff.1 hj
        obtain ⟨g, off, e2, hc⟩ := h j (by simpa using hj')
        cases e2
        have := hc.cell 0 (by simp)
        have hlt := hc.lt
        rw [show (⟨g, off, none⟩ : Addr).add j = ⟨g, off + j, none⟩ from by unfold Addr.add; split <;> simp_all]
        rw [World.cell?_of_block (w := w) (Below.heap_alloc _ _ _ hlt)]
        simp at this
        rw [this, ← e]) h1 (by unfold maxLen; omega) (by rw [Nat.zero_add]; omega)
    rw [Nat.zero_add] at hr hs
    refine ⟨s', cap', w', hr, ?_, ((Own.refl w).alloc _).upd hu (by simp)⟩
    have := hs.rowIs1 (by simp)
    simpa using this
end

end Go.Proofs.YtjanjjkgnilhoaaGreatDoor
