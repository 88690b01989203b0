/-
  PLAIN LAW: what stands in any order of pieces and elder segments. No program is in sight here.
-/
import Derived.Test.YtboplbcfoooenaaSegOrderM
namespace Go.Proofs.Ytboplbcfoooenaa
open Go.RowKit

namespace Sg
/-- The pieces, each with its number, and the elder ones with none. -/
def orig (P : Nat → It) (m : Nat) (E : List It) : List (It × Int) := (List.range m).map (fun i => (P i, (i : Int))) ++ E.map fun e => (e, -1)
theorem orig_apart (P : Nat → It) (m : Nat) (E : List It) : (orig P m E).Pairwise (fun a b => a.2 = b.2 → a.2 = -1) := by
  unfold orig
  rw [List.pairwise_append]
  refine ⟨?_, ?_, fun a ha b hb h => ?_⟩
  · rw [List.pairwise_map]
    refine List.Pairwise.imp_of_mem ?_ List.nodup_range
    intro i j _ _ hne h
    simp only at h
    exact absurd (Int.ofNat.inj h) hne
  · rw [List.pairwise_map]
    exact List.Pairwise.imp (fun _ _ => rfl) (List.pairwise_of_forall (R := fun _ _ => True) (fun _ _ => trivial))
  · obtain ⟨e, _, rfl⟩ := List.mem_map.1 hb
    exact h
theorem orig_mem {P : Nat → It} {m : Nat} {E : List It} {t : It × Int} (h : t ∈ orig P m E) : (∃ i, i < m ∧ t = (P i, (i : Int))) ∨ (∃ e ∈ E, t = (e, -1)) := by
  unfold orig at h
  rcases List.mem_append.1 h with h | h
  · obtain ⟨i, hi, rfl⟩ := List.mem_map.1 h
    exact .inl ⟨i, List.mem_range.1 hi, rfl⟩
  · obtain ⟨e, he, rfl⟩ := List.mem_map.1 h
    exact .inr ⟨e, he, rfl⟩
/-- Where a piece stands. -/
def place (T : List (It × Int)) (i : Nat) : Nat := T.findIdx fun t => decide (t.2 = (i : Int))
variable {T : List (It × Int)} {P : Nat → It} {m : Nat} {E : List It}
theorem place_at (h : T.Perm (orig P m E)) {i : Nat} (hi : i < m) : ∃ hp : place T i < T.length, T[place T i] = (P i, (i : Int)) := by
  have hm : (P i, (i : Int)) ∈ T := h.mem_iff.2 (List.mem_append_left _ (List.mem_map.2 ⟨i, List.mem_range.2 hi, rfl⟩))
  have hp : place T i < T.length := List.findIdx_lt_length_of_exists ⟨_, hm, by simp⟩
  refine ⟨hp, ?_⟩
  have h2 : decide ((T[place T i]).2 = (i : Int)) = true := List.findIdx_getElem (w := hp)
  have h3 := of_decide_eq_true h2
  rcases orig_mem (h.mem_iff.1 (List.getElem_mem hp)) with ⟨k, hk, hT⟩ | ⟨e, _, hT⟩
  · rw [hT] at h3 ⊢
    simp only at h3
    obtain rfl : k = i := by omega
    rfl
  · rw [hT] at h3; simp only at h3; omega
theorem place_only (h : T.Perm (orig P m E)) {q k : Nat} (hq : q < T.length) (hk : k < m) (he : (T[q]).2 = (k : Int)) : q = place T k := by
  obtain ⟨hp, hT⟩ := place_at h hk
  have hpw : T.Pairwise (fun a b => a.2 = b.2 → a.2 = -1) := (h.pairwise_iff (fun {a b} hab hba => by rw [hba]; exact hab hba.symm)).2 (orig_apart P m E)
  have h2 : (T[place T k]).2 = (k : Int) := by rw [hT]
  rcases Nat.lt_trichotomy q (place T k) with h1 | h1 | h1
  · have := (List.pairwise_iff_getElem.1 hpw) q (place T k) hq hp h1 (by rw [he, h2])
    rw [he] at this; omega
  · exact h1
  · have := (List.pairwise_iff_getElem.1 hpw) (place T k) q hp hq h1 (by rw [he, h2])
    rw [h2] at this; omega

theorem fst_at (T : List (It × Int)) (q : Nat) (h : q < T.length) : (T.map Prod.fst)[q]! = (T[q]).1 := by
  rw [get_bang _ q (by simpa using h), List.getElem_map]
theorem mixed_of (h : T.Perm (orig P m E)) (g : Nat) (f : Nat → Nat) (m0 : 0 < m) (k0 : (P 0).kind = 1) (k1 : ∀ i, 0 < i → i < m → (P i).kind = 0) (hg : ∀ i, i < m → (P i).gen = g) (hf : ∀ i, i < m → (P i).first = f i) (hn : ∀ i, i < m → (P i).next = f (i + 1))
    (hw : ∀ i, i < m → (P i).whole = true) (he : ∀ e ∈ E, e.gen < g) (rise : ∀ i, i + 1 < m → f i < f (i + 1)) (last : f (m - 1) ≤ f m) : Mixed (T.map Prod.fst) g m (place T) f := by
  have at1 : ∀ i, i < m → (T.map Prod.fst)[place T i]! = P i := fun i hi => by
    obtain ⟨hp, hT⟩ := place_at h hi
    rw [fst_at T _ hp, hT]
  refine ⟨m0, fun i hi => ?_, by rw [at1 0 m0]; exact k0, fun i h0 hi => by rw [at1 i hi]; exact k1 i h0 hi, fun i hi => by rw [at1 i hi]; exact hg i hi, fun i hi => by rw [at1 i hi]; exact hf i hi, fun i hi => by rw [at1 i hi]; exact hn i hi, fun i hi => by rw [at1 i hi]; exact hw i hi, fun q hq => ?_, fun i j hi hj e => ?_, rise, last⟩
  · rw [List.length_map]; exact (place_at h hi).1
  · have hq' : q < T.length := by simpa using hq
    rcases orig_mem (h.mem_iff.1 (List.getElem_mem hq')) with ⟨k, hk, hT⟩ | ⟨e, hE, hT⟩
    · exact .inl ⟨k, hk, place_only h hq' hk (by rw [hT])⟩
    · refine .inr ?_
      rw [fst_at T q hq', hT]
      exact he e hE
  · obtain ⟨hp, hT⟩ := place_at h hi
    obtain ⟨hp2, hT2⟩ := place_at h hj
    have : T[place T i] = T[place T j] := by congr 1
    rw [hT, hT2] at this
    injection this with _ h2
    omega
/-- The row that is found: who stands there. -/
theorem order_found (h : T.Perm (orig P m E)) {g : Nat} {f : Nat → Nat} (hx : Mixed (T.map Prod.fst) g m (place T) f) {row : List Nat} {er : Nat} (hr : RowOf (T.map Prod.fst) row er) :
    er = 0 ∧ row.length = m ∧ ∀ i (hi : i < row.length), ∃ hq : row[i] < T.length, (T[row[i]]).2 = (i : Int) := by
  obtain ⟨h1, h2, h3⟩ := hx.found hr
  refine ⟨h1, h2, fun i hi => ?_⟩
  have h4 := h3 i (by omega)
  rw [List.getElem?_eq_getElem hi] at h4
  injection h4 with h4
  obtain ⟨hp, hT⟩ := place_at h (show i < m by omega)
  rw [h4]
  exact ⟨hp, by rw [hT]⟩
end Sg

end Go.Proofs.Ytboplbcfoooenaa
