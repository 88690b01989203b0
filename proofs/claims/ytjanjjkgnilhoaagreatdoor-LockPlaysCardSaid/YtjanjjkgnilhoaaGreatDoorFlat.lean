/-
  ROWS OF ELEMENTS OF SEVERAL CELLS EACH: appended, copied, cut, stored into.
-/
import Derived.Test.YtjanjjkgnilhoaaGreatDoorRowMore
namespace Go.Proofs.YtjanjjkgnilhoaaGreatDoor
open Go.RowKit

theorem flat_get (size : Nat) (h0 : 0 < size) : ∀ (xs : List (List Value)) (_ : ∀ x ∈ xs, x.length = size) (j : Nat) (u : Value), xs.flatten[j]? = some u → ∃ (h : j / size < xs.length), xs[j / size][j % size]? = some u
  | [], _, j, u, h => by simp at h
  | x :: r, hs, j, u, h => by
    have hx := hs x (by simp)
    rw [List.flatten_cons] at h
    by_cases hj : j < size
    · rw [List.getElem?_append_left (by omega)] at h
      refine ⟨by rw [Nat.div_eq_of_lt hj]; simp, ?_⟩
      simp only [Nat.div_eq_of_lt hj, Nat.mod_eq_of_lt hj, List.getElem_cons_zero]
      exact h
    · rw [List.getElem?_append_right (by omega), hx] at h
      obtain ⟨h1, h2⟩ := flat_get size h0 r (fun y hy => hs y (by simp [hy])) (j - size) u h
      have e1 : j / size = (j - size) / size + 1 := by
        rw [Nat.div_eq_sub_div h0 (by omega)]
      have e2 : j % size = (j - size) % size := Nat.mod_eq_sub_mod (by omega)
      refine ⟨by rw [e1]; simpa using h1, ?_⟩
      simp only [e1, e2, List.getElem_cons_succ]
      exact h2
theorem flat_length (size : Nat) : ∀ (xs : List (List Value)) (_ : ∀ x ∈ xs, x.length = size), xs.flatten.length = xs.length * size
  | [], _ => by simp
  | x :: r, hs => by
    rw [List.flatten_cons, List.length_append, hs x (by simp), flat_length size r (fun y hy => hs y (by simp [hy])), List.length_cons, Nat.succ_mul]; omega
theorem flat_drop (size : Nat) : ∀ (xs : List (List Value)) (_ : ∀ x ∈ xs, x.length = size) (i : Nat), xs.flatten.drop (i * size) = (xs.drop i).flatten
  | xs, _, 0 => by simp
  | [], _, i + 1 => by simp
  | x :: r, hs, i + 1 => by
    have hx := hs x (by simp)
    rw [List.flatten_cons, List.drop_succ_cons, Nat.succ_mul, Nat.add_comm, ← List.drop_drop, List.drop_append_of_le_length (by omega), List.drop_of_length_le (l := x) (by omega), List.nil_append]
    exact flat_drop size r (fun y hy => hs y (by simp [hy])) i
theorem flat_take (size : Nat) : ∀ (xs : List (List Value)) (_ : ∀ x ∈ xs, x.length = size) (i : Nat), xs.flatten.take (i * size) = (xs.take i).flatten
  | xs, _, 0 => by simp
  | [], _, i + 1 => by simp
  | x :: r, hs, i + 1 => by
    have hx := hs x (by simp)
    rw [List.flatten_cons, List.take_succ_cons, List.flatten_cons, Nat.succ_mul, List.take_append, List.take_of_length_le (by omega), hx, Nat.add_sub_cancel]
    rw [flat_take size r (fun y hy => hs y (by simp [hy])) i]
theorem flat_one (size : Nat) (xs : List (List Value)) (hs : ∀ x ∈ xs, x.length = size) (i : Nat) (h : i < xs.length) : (xs.flatten.drop (i * size)).take size = xs[i] := by
  rw [flat_drop size xs hs i]
  have := flat_take size (xs.drop i) (fun x hx => hs x (List.mem_of_mem_drop hx)) 1
  rw [Nat.one_mul] at this
  rw [this, List.drop_eq_getElem_cons h, List.take_succ_cons, List.take_zero, List.flatten_cons, List.flatten_nil, List.append_nil]
/-- The cells of a row's elements, one behind the other. -/
theorem RowIs.news {w : World} {size : Nat} (h0 : 0 < size) {ad : Addr} {xs : List (List Value)} (h : RowIs w size (some ad) xs) (hs : ∀ x ∈ xs, x.length = size) :
    ∀ j u, xs.flatten[j]? = some u → w.cell? (ad.add j) = some u := by
  intro j u hj
  obtain ⟨h1, h2⟩ := flat_get size h0 xs hs j u hj
  obtain ⟨g, off, e, hc⟩ := h (j / size) h1
  cases e
  obtain ⟨h3, h4⟩ := List.getElem?_eq_some_iff.1 h2
  have := hc.cell (j % size) h3
  rw [h4] at this
  rw [Addr.add_lit]
  rw [show off + j = off + j / size * size + j % size from by have := Nat.div_add_mod j size; rw [Nat.mul_comm] at this; omega]
  exact this
theorem SliceIs.rowF {w : World} {e : TypeId} {size : Nat} {a : Option Addr} {n cap : Nat} {xs : List (List Value)} (h : SliceIs w e size a n cap xs.flatten) (hs : ∀ x ∈ xs, x.length = size) (hn : n = xs.length) : RowIs w size a xs :=
  h.rowIs xs (fun i hi => flat_one size xs hs i hi) (by omega)
/-- A slice's end. -/
theorem SliceIs.drop {w : World} {e : TypeId} {size : Nat} {g off n cap : Nat} {xs : List Value} (h : SliceIs w e size (some ⟨g, off, none⟩) n cap xs) (i : Nat) (hi : i ≤ n) :
    SliceIs w e size (some ⟨g, off + i * size, none⟩) (n - i) (cap - i) (xs.drop (i * size)) := by
  rcases h.2 with ⟨h', _⟩ | ⟨g', off', cur, h', hg, r1, r2, r3, r4⟩
  · cases h'
  cases h'
  have h1 := h.1
  refine ⟨by rw [List.length_drop, h1, ← Nat.sub_mul], .inr ⟨g, off + i * size, cur, rfl, hg, by omega, by omega, ?_, ?_⟩⟩
  · have : (cap - i) * size + i * size = cap * size := by rw [← Nat.add_mul]; congr 1; omega
    omega
  · rw [← r4, List.drop_take, List.drop_drop, ← Nat.sub_mul]
/-- A slice of a new block of its own, all of it. -/
theorem SliceIs.new (w : World) (e : TypeId) (size n : Nat) (xs : List Value) (hl : xs.length = n * size) (hn : n ≤ maxLen) : SliceIs (w.alloc (.cells xs.toArray e (0, 0))) e size (some ⟨w.heap.size, 0, none⟩) n n xs :=
  ⟨hl, .inr ⟨w.heap.size, 0, xs.toArray, rfl, heap_alloc_new w _, Nat.le_refl _, hn, by simp [hl], by rw [← hl]; simp⟩⟩

section
variable {P : Program}
/-- 'append(s, x...)' of a row. -/
theorem append_row {T E : TypeId} {i : TypeInfo} {z : Value} {size bytes : Nat} (ht : P.underlying T = some (.slice E)) (hi : P.info? E = some i) (hz : i.zero = some z) (hsize : i.size = size) (hby : i.bytes = bytes) (hzs : z.cells.size = size) (hsz : 0 < size)
    (w : World) (sa : Option Addr) (n cap0 : Nat) (xs0 : List Value) (hS : SliceIs w E size sa n cap0 xs0)
    (a : Option Addr) (cap : Nat) (xs : List (List Value)) (h : RowIs w size a xs) (hs : ∀ x ∈ xs, x.length = size) (h1 : ∀ x ∈ xs, ∀ u ∈ x, u.oneCell' = true) (hn : n + xs.length ≤ 1073741824) (hb : bytes ≤ 256) (hnil : a = none → cap = 0) :
    ∃ s' cap' w', (appSem #[T, T] T #[.slice sa n cap0, .slice a xs.length cap]).run P w = .ok (.slice s' (n + xs.length) cap') w' ∧ SliceIs w' E size s' (n + xs.length) cap' (xs0 ++ xs.flatten) ∧ Upd w w' (blks sa) ∧ (∀ k ∈ blks s', k ∈ blks sa ∨ w.heap.size ≤ k) := by
  cases a with
  | none =>
    have hx : xs = [] := by
      cases xs with
      | nil => rfl
      | cons v r => obtain ⟨g, off, e, _⟩ := h 0 (by simp); cases e
    subst hx
    obtain rfl : cap = 0 := hnil rfl
    exact ⟨sa, cap0, w, run_append_slice_none _ T T E i ht hi _ n cap0 hS.bound.1, by simpa using hS, Upd.refl _ _, fun k hk => .inl hk⟩
  | some ad =>
    have hbl : (n + xs.length) * bytes ≤ (n + xs.length) * 256 := Nat.mul_le_mul_left _ hb
    exact run_append_slice (P := P) w T T E i z size bytes ht hi hz hsize hby hzs hsz sa n cap0 xs0 hS ad xs.length cap xs.flatten (flat_length size xs hs) (h.news hsz hs) (by
      intro u hu
      obtain ⟨x, hx, hu⟩ := List.mem_flatten.1 hu
      exact h1 x hx u hu) (by unfold maxLen; omega) (by omega)
/-- What an append of a row comes to. -/
def Appd (P : Program) (T E : TypeId) (size : Nat) (w : World) (sa : Option Addr) (n cap0 : Nat) (xs0 : List Value) (a : Option Addr) (cap : Nat) (xs : List (List Value)) (s' : Option Addr) (cap' : Nat) (w' : World) : Prop :=
  (appSem #[T, T] T #[.slice sa n cap0, .slice a xs.length cap]).run P w = .ok (.slice s' (n + xs.length) cap') w' ∧ SliceIs w' E size s' (n + xs.length) cap' (xs0 ++ xs.flatten) ∧ Upd w w' (blks sa) ∧ (∀ k ∈ blks s', k ∈ blks sa ∨ w.heap.size ≤ k)
end

end Go.Proofs.YtjanjjkgnilhoaaGreatDoor
