/-
  PLAIN MATHEMATICS of the answer's lists: the list of all, set in one by one, is the list by who holds them; the list of who is in the way. No program is in sight here.
-/
import Derived.Test.YtjanjjkgnilhoaaGreatDoorLkRfTake
namespace Go.Proofs.YtjanjjkgnilhoaaGreatDoor

namespace Lh
open Tb
theorem row_cons (a : Tx × LV) (M : St) (t : Tx) : row (a :: M) t = (if a.1 = t then [a.2] else []) ++ row M t := by
  by_cases h : a.1 = t <;> simp [row, h]
/-- Rising by who, not strictly. -/
def Up (M : St) : Prop := M.Pairwise fun a b => lt b.1 a.1 = false
theorem up_ext : ∀ {M N : St}, Up M → Up N → (∀ t, row M t = row N t) → M = N
  | [], [], _, _, _ => rfl
  | [], b :: N, _, _, h => by have := h b.1; simp [row] at this
  | a :: M, [], _, _, h => by have := h a.1; simp [row] at this
  | a :: M, b :: N, hM, hN, h => by
    obtain ⟨m1, m2⟩ := List.pairwise_cons.1 hM
    obtain ⟨n1, n2⟩ := List.pairwise_cons.1 hN
    have h1 : lt a.1 b.1 = false := by
      have : (a.1, a.2) ∈ b :: N := mem_row.1 (by rw [← h]; exact mem_row.2 (by simp))
      rcases List.mem_cons.1 this with e | e
      · rw [← e]; exact lt_irrefl _
      · exact n1 _ e
    have h2 : lt b.1 a.1 = false := by
      have : (b.1, b.2) ∈ a :: M := mem_row.1 (by rw [h]; exact mem_row.2 (by simp))
      rcases List.mem_cons.1 this with e | e
      · rw [← e]; exact lt_irrefl _
      · exact m1 _ e
    have e1 : a.1 = b.1 := by
      rcases lt_tri a.1 b.1 with k | k | k
      · rw [h1] at k; cases k
      · exact k
      · rw [h2] at k; cases k
    have e2 := h a.1
    rw [row_cons, row_cons, if_pos rfl, if_pos e1.symm] at e2
    have e3 : a.2 = b.2 ∧ row M a.1 = row N a.1 := by simpa using e2
    have hab : a = b := Prod.ext e1 e3.1
    have hMN : M = N := up_ext m2 n2 fun t => by
      have e4 := h t
      rw [row_cons, row_cons, hab] at e4
      exact List.append_cancel_left e4
    rw [hab, hMN]
theorem row_flat (X : St) (t : Tx) : ∀ K : List Tx, K.Nodup → row (K.flatMap fun t => (row X t).map fun y => (t, y)) t = if t ∈ K then row X t else []
  | [], _ => rfl
  | a :: K, h => by
    obtain ⟨h1, h2⟩ := List.nodup_cons.1 h
    rw [List.flatMap_cons, row_app, row_flat X t K h2]
    by_cases e : t = a
    · subst e
      rw [row_own, if_neg h1]; simp
    · rw [row_other e]; simp [e]
theorem row_all (X : St) (t : Tx) : row (all X) t = row X t := by
  unfold all
  rw [row_flat X t _ (keys_srt X).nodup]
  split
  · rfl
  · rename_i h
    rw [keys_row] at h
    exact (Classical.not_not.1 h).symm
theorem all_up (X : St) : Up (all X) := by
  unfold Up all
  rw [List.pairwise_flatMap]
  refine ⟨fun t _ => ?_, (keys_srt X).imp ?_⟩
  · rw [List.pairwise_map]
    exact List.pairwise_iff_getElem.2 fun _ _ _ _ _ => lt_irrefl _
  · intro a b h x hx y hy
    obtain ⟨_, _, rfl⟩ := List.mem_map.1 hx
    obtain ⟨_, _, rfl⟩ := List.mem_map.1 hy
    exact lt_asymm h
/-- One more, set in where it belongs. -/
theorem all_snoc (X : St) (t : Tx) (y : LV) (k : Nat) (hk : k ≤ (all X).length) (h1 : ∀ j (h : j < (all X).length), k ≤ j → lt t (all X)[j].1 = true)
    (h2 : k = 0 ∨ ∃ h : k - 1 < (all X).length, lt t (all X)[k - 1].1 = false) : all (X ++ [(t, y)]) = (all X).take k ++ (t, y) :: (all X).drop k := by
  have hU := all_up X
  have hR := row_all X
  generalize all X = A at *
  have hU2 : Up (A.take k ++ A.drop k) := by rw [List.take_append_drop]; exact hU
  obtain ⟨u1, u2, u3⟩ := List.pairwise_append.1 hU2
  have hd : ∀ b ∈ A.drop k, lt t b.1 = true := fun b hb => by
    obtain ⟨j, hj, rfl⟩ := List.mem_iff_getElem.1 hb
    rw [List.getElem_drop]
    exact h1 _ _ (by omega)
  have ht : ∀ a ∈ A.take k, lt t a.1 = false := fun a ha => by
    obtain ⟨j, hj, rfl⟩ := List.mem_iff_getElem.1 ha
    rw [List.getElem_take]
    rw [List.length_take] at hj
    rcases h2 with h2 | ⟨h3, h4⟩
    · omega
    by_cases e : j = k - 1
    · subst e; exact h4
    have h5 := List.pairwise_iff_getElem.1 hU j (k - 1) (by omega) (by omega) (by omega)
    cases hq : lt t A[j].1 with
    | false => rfl
    | true =>
      rcases lt_tri A[j].1 A[k - 1].1 with q | q | q
      · rw [lt_trans hq q] at h4; cases h4
      · rw [← q, hq] at h4; cases h4
      · rw [h5] at q; cases q
  refine up_ext (all_up _) ?_ ?_
  · refine List.pairwise_append.2 ⟨u1, List.pairwise_cons.2 ⟨fun b hb => lt_asymm (hd b hb), u2⟩, fun a ha b hb => ?_⟩
    rcases List.mem_cons.1 hb with rfl | hb
    · exact ht a ha
    · exact u3 a ha b hb
  · intro s
    have hr := hR s
    rw [← List.take_append_drop k A, row_app] at hr
    rw [row_all, row_app, row_app, row_cons (t, y) [], row_cons (t, y) (A.drop k), row_nil, ← hr]
    by_cases e : t = s
    · subst e
      have : row (A.drop k) t = [] := by
        cases hq : row (A.drop k) t with
        | nil => rfl
        | cons z r =>
          have hz : (t, z) ∈ A.drop k := mem_row.1 (by rw [hq]; simp)
          have := hd _ hz
          rw [lt_irrefl] at this; cases this
      rw [this]; simp
    · rw [if_neg e]; simp
/-- Who is in the way, in the first i. -/
structure WhoUp (A : St) (x : LV) (i : Nat) (out : List Tx) : Prop where
  srt : Srt out
  len : out.length ≤ i
  mem : ∀ t, t ∈ out ↔ ∃ j, ∃ h : j < A.length, j < i ∧ A[j].1 = t ∧ Lk.conf x.l A[j].2.l = true
theorem WhoUp.nil (A : St) (x : LV) : WhoUp A x 0 [] := ⟨List.Pairwise.nil, Nat.le_refl _, fun t => by
  constructor
  · intro h; cases h
  · rintro ⟨j, _, h, _⟩; omega⟩
theorem WhoUp.skip {A : St} {x : LV} {i : Nat} {out : List Tx} (h : WhoUp A x i out) (hi : i < A.length) (hc : Lk.conf x.l A[i].2.l = false) : WhoUp A x (i + 1) out := ⟨h.srt, by have := h.len; omega, fun t => by
  rw [h.mem]
  constructor
  · rintro ⟨j, h1, h2, h3⟩; exact ⟨j, h1, by omega, h3⟩
  · rintro ⟨j, h1, h2, h3, h4⟩
    by_cases e : j = i
    · subst e; rw [hc] at h4; cases h4
    · exact ⟨j, h1, by omega, h3, h4⟩⟩
theorem WhoUp.same {A : St} {x : LV} {i : Nat} {out : List Tx} (h : WhoUp A x i out) (hi : i < A.length) (hm : A[i].1 ∈ out) : WhoUp A x (i + 1) out := ⟨h.srt, by have := h.len; omega, fun t => by
  constructor
  · intro ht
    obtain ⟨j, h1, h2, h3⟩ := (h.mem t).1 ht
    exact ⟨j, h1, by omega, h3⟩
  · rintro ⟨j, h1, h2, h3, h4⟩
    by_cases e : j = i
    · subst e; rw [← h3]; exact hm
    · exact (h.mem t).2 ⟨j, h1, by omega, h3, h4⟩⟩
theorem WhoUp.push {A : St} {x : LV} {i : Nat} {out : List Tx} (hU : Up A) (h : WhoUp A x i out) (hi : i < A.length) (hc : Lk.conf x.l A[i].2.l = true)
    (hl : out = [] ∨ ∃ k : out.length - 1 < out.length, out[out.length - 1] ≠ A[i].1) : WhoUp A x (i + 1) (out ++ [A[i].1]) := by
  have hle : ∀ t ∈ out, lt A[i].1 t = false := fun t ht => by
    obtain ⟨j, h1, h2, h3, _⟩ := (h.mem t).1 ht
    rw [← h3]
    exact List.pairwise_iff_getElem.1 hU j i h1 hi h2
  have hlt : ∀ t ∈ out, lt t A[i].1 = true := fun t ht => by
    rcases hl with rfl | ⟨hk, hn⟩
    · cases ht
    have hL : lt out[out.length - 1] A[i].1 = true := by
      rcases lt_tri out[out.length - 1] A[i].1 with q | q | q
      · exact q
      · exact absurd q hn
      · rw [hle _ (List.getElem_mem hk)] at q; cases q
    obtain ⟨j, hj, rfl⟩ := List.mem_iff_getElem.1 ht
    by_cases e : j = out.length - 1
    · subst e; exact hL
    · exact lt_trans (List.pairwise_iff_getElem.1 h.srt j (out.length - 1) hj hk (by omega)) hL
  refine ⟨List.pairwise_append.2 ⟨h.srt, List.pairwise_singleton _ _, fun a ha b hb => ?_⟩, by have := h.len; simp; omega, fun t => ?_⟩
  · simp at hb; rw [hb]; exact hlt a ha
  · rw [List.mem_append, h.mem]
    constructor
    · rintro (⟨j, h1, h2, h3⟩ | ht)
      · exact ⟨j, h1, by omega, h3⟩
      · simp at ht; exact ⟨i, hi, by omega, ht.symm, hc⟩
    · rintro ⟨j, h1, h2, h3, h4⟩
      by_cases e : j = i
      · subst e; right; simp [h3]
      · exact .inl ⟨j, h1, by omega, h3, h4⟩
theorem WhoUp.done {X : St} {x : LV} {out : List Tx} (h : WhoUp (all X) x (all X).length out) : out = who X x :=
  Srt.ext h.srt (who_srt X x) fun t => by
    rw [h.mem, mem_who]
    constructor
    · rintro ⟨j, h1, _, h3, h4⟩
      exact ⟨(all X)[j].2, mem_all.1 (by rw [← h3]; exact List.getElem_mem h1), h4⟩
    · rintro ⟨y, h1, h2⟩
      obtain ⟨j, hj, e⟩ := List.mem_iff_getElem.1 (mem_all.2 h1)
      exact ⟨j, hj, hj, by rw [e], by rw [e]; exact h2⟩
end Lh

end Go.Proofs.YtjanjjkgnilhoaaGreatDoor
