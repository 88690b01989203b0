/-
  SLICES THAT WERE HANDED IN, WITH THE BOUNDS OF THEIR WEIGHTS.
-/
import Derived.Test.YteipjgmbgkjjiaaRowArgs
import Derived.SizedLaws
set_option linter.unusedVariables false
set_option linter.unusedSimpArgs false
namespace Go.Proofs.Yteipjgmbgkjjiaa
open Go.RowKit

section
variable {H : Type} {enc : TypeId × Value → H} {w : World} {base : Nat} {spare : Nat → Bool} {held : Bool} {P : Program}
theorem weightsAll_in {e : TypeId} : ∀ {l : List (DataW H)} {d : DataW H}, d ∈ l → ∀ n ∈ d.weights P e, n ∈ DataW.weightsAll P e l
  | [], _, h, _, _ => by cases h
  | x :: r, d, h, n, hn => by
    simp only [DataW.weightsAll, List.mem_append]
    rcases List.mem_cons.1 h with rfl | h
    · exact Or.inl hn
    · exact Or.inr (weightsAll_in h n hn)
/-- A slice that was handed in, opened by a law of its elements that knows the element's weights to be bounded. -/
theorem open_row_sized {T E size : Nat} {α : Type} [Inhabited α] (f : α → List Value) (ok : α → Prop) (B : Nat) (hu : P.underlying T = some (.slice E)) (hE : P.cellsOf E = size) (h0 : 0 < size)
    (open1 : ∀ (fuel : Nat) (cs : List Value) (x : DataW H × List MemPlace), DataW.trod enc P w base spare held fuel E cs = some x → (∀ n ∈ x.1.weights P E, n ≤ B) → ∃ c : α, ok c ∧ cs = f c)
    {fuel : Nat} {cs : List Value} {x : DataW H × List MemPlace} (h : DataW.trod enc P w base spare held fuel T cs = some x) (hw : ∀ n ∈ x.1.weights P T, n ≤ B) :
    ∃ (a : Option Addr) (cap : Nat) (l : List α), cs = [.slice a l.length cap] ∧ (∀ c ∈ l, ok c) ∧ RowIs w size a (l.map f) ∧ l.length ≤ cap ∧ cap ≤ maxLen := by
  rcases Go.Deep.open_slice hu h with ⟨rfl, _⟩ | ⟨a, len, cap, m, n, D, Pl, rfl, hb, hl, hm, hmm, hx, hi⟩
  · exact ⟨none, 0, [], rfl, by simp, fun i hi => by simp at hi, by simp, by decide⟩
  · have hlm : len ≤ m := by rw [hmm]; split <;> omega
    have hspot : 0 < len → a.spot = none := fun h0' => by
      obtain ⟨cs', hc, ht⟩ := hi 0 (by omega)
      rw [hE] at hc
      rw [Nat.zero_mul] at hc
      have := (CellsAt.of_cells hc h0).1
      simpa [Addr.add] using this
    have : ∀ i, i < len → ∃ c : α, ok c ∧ a.spot = none ∧ CellsAt w a.block (a.off + i * size) (f c) := fun i hil => by
      obtain ⟨cs', hc, ht⟩ := hi i (by omega)
      obtain ⟨c, hok, rfl⟩ := open1 _ _ _ ht (fun k hk => hw k (by
        rw [hx]
        simp only [DataW.weights, hu]
        exact List.mem_cons_of_mem _ (List.mem_append_left _ (weightsAll_in (d := D i) (List.mem_map.2 ⟨i, List.mem_range.2 hil, rfl⟩) k hk))))
      rw [hE] at hc
      obtain ⟨hs, hcells⟩ := CellsAt.of_cells hc h0
      refine ⟨c, hok, hspot (by omega), ?_⟩
      unfold Addr.add at hcells
      split at hcells
      · rename_i hz
        have hi0 : i = 0 := by
          rcases Nat.mul_eq_zero.1 hz with h | h
          · exact h
          · omega
        subst hi0
        simpa using hcells
      · exact hcells
    obtain ⟨fn, hf⟩ := Go.Deep.choose_lt (α := α) this
    refine ⟨some a, cap, (List.range len).map fn, by simp, ?_, ?_, by simpa using hl, hm⟩
    · intro c hc
      obtain ⟨i, hi, rfl⟩ := List.mem_map.1 hc
      exact (hf i (List.mem_range.1 hi)).1
    · intro i hi
      have hil : i < len := by simpa using hi
      obtain ⟨_, hs, hcl⟩ := hf i hil
      obtain ⟨g, off, s⟩ := a
      simp only at hs hcl
      subst hs
      exact ⟨g, off, rfl, by simpa using hcl⟩
/-- The weights of one argument, out of the reach of all. -/
theorem weights_of {ts : List TypeId} {ds : List (DataW H)} (h : (DataW.weightsEach P ts ds).all (· ≤ reachBytes) = true) {j : Nat} {t : TypeId} {d : DataW H} (ht : ts[j]? = some t) (hd : ds[j]? = some d) :
    ∀ n ∈ d.weights P t, n ≤ 140737488351232 := fun n hn => by
  have := List.all_eq_true.1 h _ (DataW.weights_mem_each ht hd n hn)
  have e : reachBytes = 140737488351232 := rfl
  simpa [e] using this
/-- A text that was handed in as an element. -/
theorem open_text {T : Nat} (hu : P.underlying T = some .string) (fuel : Nat) (cs : List Value) (x : DataW H × List MemPlace) (h : DataW.trod enc P w base spare held fuel T cs = some x)
    (hw : ∀ n ∈ x.1.weights P T, n ≤ 140737488351232) : ∃ c : ByteArray, c.size ≤ 140737488351232 ∧ cs = [.string c] := by
  obtain ⟨s, rfl, hx, _⟩ := DataW.trod_string hu h
  refine ⟨s, ?_, rfl⟩
  have := hw s.size (by rw [hx]; simp [DataW.weights])
  exact this
end

end Go.Proofs.Yteipjgmbgkjjiaa
