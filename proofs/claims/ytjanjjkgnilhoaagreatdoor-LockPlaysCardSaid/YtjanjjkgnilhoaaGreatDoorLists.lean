/-
  LISTS OF ONE'S OWN: slices that a call has made, whose blocks stand apart; what an append, or a cut, makes of them.
-/
import Derived.Test.YtjanjjkgnilhoaaGreatDoorFlat
namespace Go.Proofs.YtjanjjkgnilhoaaGreatDoor
open Go.RowKit

/-- A slice of a call's own, element by element. -/
structure OL (w W : World) (E : TypeId) (size : Nat) (s : Option Addr) (cap : Nat) (xs : List (List Value)) : Prop where
  sl : SliceIs W E size s xs.length cap xs.flatten
  far : ∀ k ∈ blks s, w.heap.size ≤ k
  all : ∀ x ∈ xs, x.length = size
/-- Two slices whose blocks stand apart. -/
def Apart (a b : Option Addr) : Prop := ∀ k ∈ blks a, k ∉ blks b
theorem Apart.symm {a b : Option Addr} (h : Apart a b) : Apart b a := fun k hb ha => h k ha hb
theorem Apart.none (b : Option Addr) : Apart none b := fun k h => by simp at h
/-- What an append to s leaves: all blocks but those of s; and it lies where s lay, or in new memory. -/
structure Keeps (W W2 : World) (s s' : Option Addr) : Prop where
  upd : Upd W W2 (blks s)
  new : ∀ k ∈ blks s', k ∈ blks s ∨ W.heap.size ≤ k
section
variable {w W W2 : World} {E : TypeId} {size : Nat} {s s' t : Option Addr} {cap : Nat} {xs : List (List Value)}
theorem OL.nil (w W : World) (E : TypeId) (size : Nat) : OL w W E size none 0 [] := ⟨SliceIs.nil _ _ _, by simp, by simp⟩
theorem OL.row (h : OL w W E size s cap xs) : RowIs W size s xs := h.sl.rowF h.all rfl
theorem OL.keep (h : OL w W E size s cap xs) (hb : Below W.heap.size W W2) : OL w W2 E size s cap xs :=
  ⟨h.sl.keep fun k hk => hb.block k (h.sl.lt k hk), h.far, h.all⟩
theorem OL.other (h : OL w W E size t cap xs) (k : Keeps W W2 s s') (ha : Apart s t) : OL w W2 E size t cap xs ∧ Apart s' t :=
  ⟨⟨h.sl.keep fun b hb => k.upd.keep b (h.sl.lt b hb) (fun hs => ha b hs hb), h.far, h.all⟩, fun b hb hbt => by
    rcases k.new b hb with h1 | h1
    · exact ha b h1 hbt
    · have := h.sl.lt b hbt; omega⟩
theorem Keeps.trans {W3 : World} {s'' : Option Addr} (h : Keeps W W2 s s') (k : Keeps W2 W3 s' s'') : Keeps W W3 s s'' :=
  ⟨h.upd.trans k.upd h.new, fun b hb => by
    rcases k.new b hb with h1 | h1
    · exact h.new b h1
    · have := h.upd.size; exact .inr (by omega)⟩
theorem Keeps.own (h : Keeps W W2 s s') (hs : ∀ k ∈ blks s, w.heap.size ≤ k) (hO : Own w.heap.size w W) : Own w.heap.size w W2 := hO.upd h.upd hs
theorem Keeps.far (h : Keeps W W2 s s') (hs : ∀ k ∈ blks s, w.heap.size ≤ k) (hO : w.heap.size ≤ W.heap.size) : ∀ k ∈ blks s', w.heap.size ≤ k := fun k hk => by
  rcases h.new k hk with h1 | h1
  · exact hs k h1
  · omega
end

section
variable {P : Program}
/-- 'append(s, x)': x lies in a new row of its own. -/
theorem ol_push {T E : TypeId} {i : TypeInfo} {z : Value} {size bytes : Nat} (ht : P.underlying T = some (.slice E)) (hi : P.info? E = some i) (hz : i.zero = some z) (hsize : i.size = size) (hby : i.bytes = bytes) (hzs : z.cells.size = size) (hsz : 0 < size) (hb : bytes ≤ 256)
    {w W : World} (hO : Own w.heap.size w W) {s : Option Addr} {cap : Nat} {xs : List (List Value)} (h : OL w W E size s cap xs) (x : List Value) (hx : x.length = size) (h1 : ∀ u ∈ x, u.oneCell' = true) (hn : xs.length ≤ 100000) :
    ∃ s' cap' W2, (appSem #[T, T] T #[.slice s xs.length cap, .slice (some ⟨W.heap.size, 0, none⟩) 1 1]).run P (W.alloc (.cells x.toArray E (0, 0))) = .ok (.slice s' (xs.length + 1) cap') W2 ∧
      OL w W2 E size s' cap' (xs ++ [x]) ∧ Own w.heap.size w W2 ∧ Keeps W W2 s s' := by
  have hfl : [x].flatten = x := by simp
  have hrow : RowIs (W.alloc (.cells x.toArray E (0, 0))) size (some ⟨W.heap.size, 0, none⟩) [x] := by
    have hS := SliceIs.new W E size 1 x (by omega) (by decide)
    rw [← hfl] at hS
    rw [hfl] at hS
    exact SliceIs.rowF (xs := [x]) (by rw [hfl]; exact hS) (by simpa using hx) rfl
  obtain ⟨s', cap', W2, hr, hS, hU, hB⟩ := append_row (P := P) ht hi hz hsize hby hzs hsz (W.alloc (.cells x.toArray E (0, 0))) s xs.length cap xs.flatten (h.sl.alloc _) (some ⟨W.heap.size, 0, none⟩) 1 [x] hrow (by simpa using hx) (by simpa using h1) (by simp; omega) hb (by simp)
  have K : Keeps W W2 s s' := ⟨(((Upd.refl W (blks s)).alloc _).trans hU (fun x hx => .inl hx)), fun k hk => by
    rcases hB k hk with h2 | h2
    · exact .inl h2
    · simp at h2; exact .inr (by omega)⟩
  refine ⟨s', cap', W2, hr, ⟨?_, K.far h.far hO.size, ?_⟩, K.own h.far hO, K⟩
  · rw [List.length_append, List.flatten_append]; exact hS
  · intro y hy
    rcases List.mem_append.1 hy with hy | hy
    · exact h.all y hy
    · simp at hy; rw [hy]; exact hx
/-- 'append(append([]E{}, s[:k]...), s[k+1:]...)'. -/
theorem ol_cut {T E : TypeId} {i : TypeInfo} {z : Value} {size bytes : Nat} (ht : P.underlying T = some (.slice E)) (hi : P.info? E = some i) (hz : i.zero = some z) (hsize : i.size = size) (hby : i.bytes = bytes) (hzs : z.cells.size = size) (hsz : 0 < size) (hb : bytes ≤ 256)
    {w W : World} (hO : Own w.heap.size w W) {g off cap : Nat} {xs : List (List Value)} (h : OL w W E size (some ⟨g, off, none⟩) cap xs) (h1 : ∀ x ∈ xs, ∀ u ∈ x, u.oneCell' = true) (hn : xs.length ≤ 100000) (k : Nat) (hk : k < xs.length) (A : Option Addr) (hA : (if cap = k + 1 then some (⟨g, off, none⟩ : Addr) else some ⟨g, off + (k + 1) * size, none⟩) = A) :
    ∃ s1 c1 W1 s2 c2 W2, (appSem #[T, T] T #[.slice (some ⟨W.heap.size, 0, none⟩) 0 0, .slice (some ⟨g, off, none⟩) k cap]).run P (W.alloc (.cells #[] E (0, 0))) = .ok (.slice s1 k c1) W1 ∧
      (appSem #[T, T] T #[.slice s1 k c1, .slice A (xs.length - (k + 1)) (cap - (k + 1))]).run P W1 = .ok (.slice s2 (xs.length - 1) c2) W2 ∧
      OL w W2 E size s2 c2 (xs.take k ++ xs.drop (k + 1)) ∧ Own w.heap.size w W2 ∧ Keeps W W2 none s2 := by
  have hSE : SliceIs (W.alloc (.cells #[] E (0, 0))) E size (some ⟨W.heap.size, 0, none⟩) 0 0 [] := ⟨by simp, .inr ⟨W.heap.size, 0, #[], rfl, heap_alloc_new W _, Nat.le_refl _, by decide, by simp, by simp⟩⟩
  have hbw := ((Own.refl W).alloc (.cells #[] E (0, 0))).below
  have hlen : (xs.take k).length = k := by simp; omega
  have hrow1 : RowIs (W.alloc (.cells #[] E (0, 0))) size (some ⟨g, off, none⟩) (xs.take k) := fun j hj => by
    have hj' : j < xs.length := by simp at hj; omega
    obtain ⟨g', off', ha, hc⟩ := h.row.keep hbw j hj'
    exact ⟨g', off', ha, by simpa using hc⟩
  obtain ⟨s1, c1, W1, hr1, hS1, hU1, hB1⟩ := append_row (P := P) ht hi hz hsize hby hzs hsz (W.alloc (.cells #[] E (0, 0))) (some ⟨W.heap.size, 0, none⟩) 0 0 [] hSE (some ⟨g, off, none⟩) cap (xs.take k) hrow1 (fun x hx => h.all x (List.mem_of_mem_take hx)) (fun x hx => h1 x (List.mem_of_mem_take hx)) (by rw [hlen]; omega) hb (by simp)
  rw [Nat.zero_add, hlen] at hr1 hS1
  rw [List.nil_append] at hS1
  have hgW : g < W.heap.size := h.sl.lt g (by simp)
  have K1 : Keeps W W1 none s1 := by
    refine ⟨?_, fun b hb => ?_⟩
    · exact ((Upd.refl W []).alloc (.cells #[] E (0, 0))).trans hU1 (fun x hx => by simp at hx; exact .inr (by omega))
    · rcases hB1 b hb with h2 | h2
      · simp at h2; exact .inr (by omega)
      · simp at h2; exact .inr (by omega)
  obtain ⟨h2, _⟩ := h.other K1 (Apart.none _)
  have hlen2 : (xs.drop (k + 1)).length = xs.length - (k + 1) := by simp
  have hrow2 : RowIs W1 size A (xs.drop (k + 1)) := by
    have hcap := h2.sl.bound.1
    by_cases hc : cap = k + 1
    · rw [List.drop_eq_nil_of_le (by omega)]; exact RowIs.nil _ _ _
    rw [if_neg hc] at hA
    subst hA
    have hd := h2.sl.drop (k + 1) (by omega)
    rw [flat_drop size xs h.all] at hd
    exact hd.rowF (fun x hx => h.all x (List.mem_of_mem_drop hx)) hlen2.symm
  obtain ⟨s2, c2, W2, hr2, hS2, hU2, hB2⟩ := append_row (P := P) ht hi hz hsize hby hzs hsz W1 s1 k c1 (xs.take k).flatten hS1 A (cap - (k + 1)) (xs.drop (k + 1)) hrow2 (fun x hx => h.all x (List.mem_of_mem_drop hx)) (fun x hx => h1 x (List.mem_of_mem_drop hx)) (by rw [hlen2]; omega) hb (fun e => by rw [e] at hA; split at hA <;> cases hA)
  rw [hlen2, show k + (xs.length - (k + 1)) = xs.length - 1 by omega] at hr2 hS2
  have K := K1.trans ⟨hU2, hB2⟩
  refine ⟨s1, c1, W1, s2, c2, W2, hr1, hr2, ⟨?_, K.far (by simp) hO.size, ?_⟩, K.own (by simp) hO, K⟩
  · rw [List.length_append, List.flatten_append, hlen, hlen2, show k + (xs.length - (k + 1)) = xs.length - 1 by omega]; exact hS2
  · intro x hx
    rcases List.mem_append.1 hx with hx | hx
    · exact h.all x (List.mem_of_mem_take hx)
    · exact h.all x (List.mem_of_mem_drop hx)
end

end Go.Proofs.YtjanjjkgnilhoaaGreatDoor
