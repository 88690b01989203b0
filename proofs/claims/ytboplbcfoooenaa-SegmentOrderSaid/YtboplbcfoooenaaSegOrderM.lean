/-
  PLAIN LAW: a log is found again whatever the order in which its segments stand, with others of elder generations among them. No program is in sight here.
-/
import Derived.Test.YtboplbcfoooenaaSegRowM
namespace Go.Proofs.Ytboplbcfoooenaa
open Go.RowKit

namespace Sg
theorem bst_some {l : List It} : ∀ {k j : Nat}, bst l k = some j → j < k ∧ (l[j]!).kind = 1 ∧ ∀ i, i < k → (l[i]!).kind = 1 → (l[i]!).gen ≤ (l[j]!).gen
  | 0, j, h => by cases h
  | k + 1, j, h => by
    rw [bst_succ] at h
    cases hb : bst l k with
    | none =>
      rw [hb] at h
      simp only at h
      split at h
      · rename_i hk
        cases h
        refine ⟨by omega, hk, fun i hi hik => ?_⟩
        by_cases e : i = k
        · rw [e]; exact Nat.le_refl _
        · exact absurd hik (bst_none hb i (by omega))
      · cases h
    | some q =>
      obtain ⟨h1, h2, h3⟩ := bst_some hb
      rw [hb] at h
      simp only at h
      split at h
      · rename_i hk
        cases h
        refine ⟨by omega, hk.1, fun i hi hik => ?_⟩
        by_cases e : i = k
        · rw [e]; exact Nat.le_refl _
        · have := h3 i (by omega) hik
          omega
      · rename_i hk
        cases h
        refine ⟨by omega, h2, fun i hi hik => ?_⟩
        by_cases e : i = k
        · subst e
          have h4 : ¬ (l[j]!).gen < (l[i]!).gen := fun h => hk ⟨hik, h⟩
          omega
        · exact h3 i (by omega) hik
where
  bst_none {l : List It} : ∀ {k : Nat}, bst l k = none → ∀ i, i < k → (l[i]!).kind ≠ 1
  | 0, _, i, hi => by omega
  | k + 1, h, i, hi => by
    rw [bst_succ] at h
    cases hb : bst l k with
    | none =>
      rw [hb] at h
      simp only at h
      split at h
      · cases h
      · rename_i hk
        by_cases e : i = k
        · rw [e]; exact hk
        · exact bst_none hb i (by omega)
    | some q =>
      rw [hb] at h
      simp only at h
      split at h <;> cases h

/-- Pieces of a log, and others of elder generations, in any order: at p i stands piece i. -/
structure Mixed (l : List It) (g m : Nat) (p : Nat → Nat) (f : Nat → Nat) : Prop where
  m0 : 0 < m
  lt : ∀ i, i < m → p i < l.length
  kind0 : (l[p 0]!).kind = 1
  kind : ∀ i, 0 < i → i < m → (l[p i]!).kind = 0
  gen : ∀ i, i < m → (l[p i]!).gen = g
  first : ∀ i, i < m → (l[p i]!).first = f i
  next : ∀ i, i < m → (l[p i]!).next = f (i + 1)
  whole : ∀ i, i < m → (l[p i]!).whole = true
  others : ∀ q, q < l.length → (∃ i, i < m ∧ q = p i) ∨ (l[q]!).gen < g
  inj : ∀ i j, i < m → j < m → p i = p j → i = j
  rise : ∀ i, i + 1 < m → f i < f (i + 1)
  last : f (m - 1) ≤ f m

variable {l : List It} {g m : Nat} {p f : Nat → Nat}
theorem Mixed.mono (h : Mixed l g m p f) : ∀ d i, i + d < m → f i ≤ f (i + d) ∧ (0 < d → f i < f (i + d))
  | 0, i, _ => ⟨Nat.le_refl _, fun h => by omega⟩
  | d + 1, i, hi => by
    have h1 := (h.mono d i (by omega)).1
    have h2 := h.rise (i + d) (by omega)
    have e : i + (d + 1) = i + d + 1 := by omega
    rw [e]
    exact ⟨by omega, fun _ => by omega⟩
theorem Mixed.same (h : Mixed l g m p f) {i j : Nat} (hi : i < m) (hj : j < m) (e : f i = f j) : i = j := by
  rcases Nat.lt_trichotomy i j with h1 | h1 | h1
  · have := (h.mono (j - i) i (by omega)).2 (by omega)
    rw [show i + (j - i) = j by omega] at this
    omega
  · exact h1
  · have := (h.mono (i - j) j (by omega)).2 (by omega)
    rw [show j + (i - j) = i by omega] at this
    omega
theorem Mixed.top (h : Mixed l g m p f) {i : Nat} (hi : i < m) (e : f i = f m) : i = m - 1 := by
  have h1 := h.last
  by_cases h2 : i = m - 1
  · exact h2
  · have := (h.mono (m - 1 - i) i (by omega)).2 (by omega)
    rw [show i + (m - 1 - i) = m - 1 by omega] at this
    omega
theorem Mixed.begins (h : Mixed l g m p f) : bst l l.length = some (p 0) := by
  have h0 := h.lt 0 h.m0
  cases hb : bst l l.length with
  | none => exact absurd h.kind0 (bst_some.bst_none hb (p 0) h0)
  | some j =>
    obtain ⟨h1, h2, h3⟩ := bst_some hb
    have h4 := h3 (p 0) h0 h.kind0
    rw [h.gen 0 h.m0] at h4
    rcases h.others j h1 with ⟨i, hi, rfl⟩ | h5
    · by_cases e : i = 0
      · rw [e]
      · have := h.kind i (by omega) hi
        omega
    · omega
/-- The places from one piece on. -/
def rest (p : Nat → Nat) (i : Nat) : Nat → List Nat
  | 0 => []
  | n + 1 => p (i + 1) :: rest p (i + 1) n
theorem Mixed.chain (h : Mixed l g m p f) : ∀ (n i : Nat) (taken : Nat → Bool), i + n + 1 = m → (∀ k, 0 < k → k ≤ i → taken (p k) = true) → (∀ k, i < k → k < m → taken (p k) = false) → Chain l g taken (p i) (rest p i n)
  | 0, i, taken, hm, ht, _ => by
    refine .stop fun q hq => ?_
    cases hp : may1 l g (l[p i]!).next taken q with
    | false => rfl
    | true =>
      exfalso
      obtain ⟨h1, h2, h3, h4⟩ := may1_taken hp
      rcases h.others q hq with ⟨k, hk, rfl⟩ | h5
      · rw [h.next i (by omega), h.first k hk, show i + 1 = m by omega] at h4
        have hk1 := h.top hk h4
        by_cases e : k = 0
        · rw [e] at h2; have := h.kind0; omega
        · rw [ht k (by omega) (by omega)] at h1; cases h1
      · omega
  | n + 1, i, taken, hm, ht, hf => by
    have hi1 : i + 1 < m := by omega
    refine .step (h.whole i (by omega)) ⟨h.lt _ hi1, ?_, fun q hq => ?_⟩ (h.chain n (i + 1) (upd taken (p (i + 1))) (by omega) (fun k h1 h2 => ?_) (fun k h1 h2 => ?_))
    · unfold may1
      rw [hf (i + 1) (by omega) hi1, decide_eq_true (h.kind (i + 1) (by omega) hi1), decide_eq_true (h.gen (i + 1) hi1), decide_eq_true (by rw [h.first (i + 1) hi1, h.next i (by omega)])]
      rfl
    · cases hp : may1 l g (l[p i]!).next taken q with
      | false => rfl
      | true =>
        exfalso
        obtain ⟨h1, h2, h3, h4⟩ := may1_taken hp
        have hql : q < l.length := by have := h.lt (i + 1) hi1; omega
        rcases h.others q hql with ⟨k, hk, rfl⟩ | h5
        · rw [h.next i (by omega), h.first k hk] at h4
          have := h.same hk hi1 h4
          subst this
          omega
        · omega
    · unfold upd
      by_cases e : k = i + 1
      · rw [e]; simp
      · rw [ht k h1 (by omega)]; rfl
    · unfold upd
      rw [hf k (by omega) h2, decide_eq_false (fun e => by have := h.inj k (i + 1) h2 hi1 e; omega)]
      rfl
theorem rest_get (p : Nat → Nat) : ∀ (n i k : Nat), k < n → (rest p i n)[k]? = some (p (i + 1 + k))
  | n + 1, i, 0, _ => by simp [rest]
  | n + 1, i, k + 1, h => by
    unfold rest
    rw [List.getElem?_cons_succ, rest_get p n (i + 1) k (by omega)]
    congr 2; omega
theorem rest_length (p : Nat → Nat) : ∀ (n i : Nat), (rest p i n).length = n
  | 0, _ => rfl
  | n + 1, i => by unfold rest; rw [List.length_cons, rest_length p n (i + 1)]
theorem Mixed.found (h : Mixed l g m p f) {row : List Nat} {er : Nat} (hr : RowOf l row er) : er = 0 ∧ row.length = m ∧ ∀ i, i < m → row[i]? = some (p i) := by
  have h0 : RowOf l (p 0 :: rest p 0 (m - 1)) 0 := by
    unfold RowOf
    rw [h.begins]
    refine ⟨_, rfl, rfl, ?_⟩
    rw [h.gen 0 h.m0]
    exact h.chain (m - 1) 0 _ (by have := h.m0; omega) (fun k h1 h2 => by omega) (fun k h1 h2 => rfl)
  obtain ⟨rfl, rfl⟩ := hr.uniq h0
  refine ⟨rfl, by rw [List.length_cons, rest_length]; have := h.m0; omega, fun i hi => ?_⟩
  cases i with
  | zero => rfl
  | succ i =>
    rw [List.getElem?_cons_succ, rest_get p (m - 1) 0 i (by omega)]
    congr 2; omega
end Sg

end Go.Proofs.Ytboplbcfoooenaa
