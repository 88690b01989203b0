/-
  PLAIN MATHEMATICS OF LOCKS THAT ARE HELD: who holds which, in the order in which they were taken; what is taken, let go, told. No program is in sight here.
-/
import Derived.Test.YtjanjjkgnilhoaaGreatDoorLkMay
namespace Go.Proofs.YtjanjjkgnilhoaaGreatDoor

deriving instance DecidableEq for LV

namespace Tb
structure Tx where
  life : Nat
  n : Nat
deriving DecidableEq, Inhabited
def lt (a b : Tx) : Bool := decide (a.life < b.life) || (decide (a.life = b.life) && decide (a.n < b.n))
def cmp (a b : Tx) : Int := if lt a b then -1 else if lt b a then 1 else 0
theorem lt_iff {a b : Tx} : lt a b = true ↔ a.life < b.life ∨ a.life = b.life ∧ a.n < b.n := by simp [lt]
theorem lt_irrefl (a : Tx) : lt a a = false := by
  cases h : lt a a with
  | false => rfl
  | true => rw [lt_iff] at h; omega
theorem lt_trans {a b c : Tx} (h : lt a b = true) (k : lt b c = true) : lt a c = true := by rw [lt_iff] at *; omega
theorem lt_tri (a b : Tx) : lt a b = true ∨ a = b ∨ lt b a = true := by
  rw [lt_iff, lt_iff]
  obtain ⟨a1, a2⟩ := a
  obtain ⟨b1, b2⟩ := b
  simp only [Tx.mk.injEq]
  omega
theorem lt_asymm {a b : Tx} (h : lt a b = true) : lt b a = false := by
  cases k : lt b a with
  | false => rfl
  | true => rw [lt_iff] at *; omega
theorem lt_ne {a b : Tx} (h : lt a b = true) : a ≠ b := fun e => by rw [e, lt_irrefl] at h; cases h
theorem cmp_neg {a b : Tx} : cmp a b < 0 ↔ lt a b = true := by
  unfold cmp
  cases h : lt a b with
  | true => simp
  | false => cases h2 : lt b a <;> simp
/-- Rising. -/
def Srt (l : List Tx) : Prop := l.Pairwise fun a b => lt a b = true
theorem Srt.nodup {l : List Tx} (h : Srt l) : l.Nodup := h.imp fun h => lt_ne h
theorem Srt.ext : ∀ {l m : List Tx}, Srt l → Srt m → (∀ t, t ∈ l ↔ t ∈ m) → l = m
  | [], [], _, _, _ => rfl
  | [], b :: m, _, _, h => by have := (h b).2 (by simp); cases this
  | a :: l, [], _, _, h => by have := (h a).1 (by simp); cases this
  | a :: l, b :: m, hl, hm, h => by
    obtain ⟨l1, l2⟩ := List.pairwise_cons.1 hl
    obtain ⟨m1, m2⟩ := List.pairwise_cons.1 hm
    have hab : a = b := by
      rcases List.mem_cons.1 ((h a).1 (by simp)) with e | e
      · exact e
      · rcases List.mem_cons.1 ((h b).2 (by simp)) with e2 | e2
        · exact e2.symm
        · have := lt_asymm (m1 a e)
          rw [l1 b e2] at this; cases this
    subst hab
    have : l = m := Srt.ext l2 m2 fun t => ⟨fun ht => by
      rcases List.mem_cons.1 ((h t).1 (List.mem_cons_of_mem _ ht)) with e | e
      · exact absurd e.symm (lt_ne (l1 t ht))
      · exact e, fun ht => by
      rcases List.mem_cons.1 ((h t).2 (List.mem_cons_of_mem _ ht)) with e | e
      · exact absurd e.symm (lt_ne (m1 t ht))
      · exact e⟩
    rw [this]
/-- Set in, rising, once. -/
def ins (t : Tx) : List Tx → List Tx
  | [] => [t]
  | a :: l => if t = a then a :: l else if lt t a = true then t :: a :: l else a :: ins t l
theorem mem_ins {t x : Tx} : ∀ {l : List Tx}, x ∈ ins t l ↔ x = t ∨ x ∈ l
  | [] => by simp [ins]
  | a :: l => by
    unfold ins
    split
    · rename_i h; subst h; simp
    · split
      · simp
      · have ih : x ∈ ins t l ↔ x = t ∨ x ∈ l := mem_ins
        simp only [List.mem_cons, ih]
        constructor
        · rintro (h | h | h)
          · exact .inr (.inl h)
          · exact .inl h
          · exact .inr (.inr h)
        · rintro (h | h | h)
          · exact .inr (.inl h)
          · exact .inl h
          · exact .inr (.inr h)
theorem Srt.ins {t : Tx} : ∀ {l : List Tx}, Srt l → Srt (ins t l)
  | [], _ => List.pairwise_singleton _ _
  | a :: l, h => by
    obtain ⟨h1, h2⟩ := List.pairwise_cons.1 h
    unfold Tb.ins
    split
    · exact h
    · rename_i hne
      split
      · rename_i hl
        refine List.pairwise_cons.2 ⟨fun x hx => ?_, h⟩
        rcases List.mem_cons.1 hx with rfl | hx
        · exact hl
        · exact lt_trans hl (h1 x hx)
      · rename_i hl
        refine List.pairwise_cons.2 ⟨fun x hx => ?_, Srt.ins h2⟩
        rcases mem_ins.1 hx with rfl | hx
        · rcases lt_tri x a with k | k | k
          · exact absurd k hl
          · exact absurd k hne
          · exact k
        · exact h1 x hx
end Tb

namespace Lh
open Tb
/-- Who holds which lock, in the order in which they were taken. -/
abbrev St := List (Tx × LV)
def row (X : St) (t : Tx) : List LV := (X.filter fun e => decide (e.1 = t)).map (·.2)
theorem mem_row {X : St} {t : Tx} {y : LV} : y ∈ row X t ↔ (t, y) ∈ X := by
  unfold row
  simp only [List.mem_map, List.mem_filter, decide_eq_true_eq]
  constructor
  · rintro ⟨⟨a, b⟩, ⟨h1, h2⟩, h3⟩; simp at h2 h3; rw [← h2, ← h3]; exact h1
  · intro h; exact ⟨(t, y), ⟨h, rfl⟩, rfl⟩
theorem row_nil (t : Tx) : row [] t = [] := rfl
theorem row_app (X Y : St) (t : Tx) : row (X ++ Y) t = row X t ++ row Y t := by unfold row; simp
theorem row_own (t : Tx) (l : List LV) : row (l.map fun y => (t, y)) t = l := by
  unfold row
  rw [List.filter_eq_self.2 (by intro e he; simp at he; obtain ⟨y, _, rfl⟩ := he; simp), List.map_map]
  exact List.map_id _
theorem row_other {t s : Tx} (h : s ≠ t) (l : List LV) : row (l.map fun y => (t, y)) s = [] := by
  unfold row
  rw [List.filter_eq_nil_iff.2 (by intro e he; simp at he; obtain ⟨y, _, rfl⟩ := he; simp; exact fun e => h e.symm)]
  rfl
/-- Who holds any, rising. -/
def keys (X : St) : List Tx := X.foldr (fun e l => ins e.1 l) []
theorem keys_srt : ∀ X : St, Srt (keys X)
  | [] => List.Pairwise.nil
  | _ :: X => Srt.ins (keys_srt X)
theorem mem_keys {t : Tx} : ∀ {X : St}, t ∈ keys X ↔ ∃ y, (t, y) ∈ X
  | [] => by simp [keys]
  | e :: X => by
    have ih : t ∈ keys X ↔ ∃ y, (t, y) ∈ X := mem_keys
    show t ∈ ins e.1 (keys X) ↔ _
    rw [mem_ins, ih]
    constructor
    · rintro (rfl | ⟨y, h⟩)
      · exact ⟨e.2, by simp⟩
      · exact ⟨y, List.mem_cons_of_mem _ h⟩
    · rintro ⟨y, h⟩
      rcases List.mem_cons.1 h with h | h
      · left; rw [← h]
      · exact .inr ⟨y, h⟩
theorem keys_row {X : St} {t : Tx} : t ∈ keys X ↔ row X t ≠ [] := by
  rw [mem_keys]
  constructor
  · rintro ⟨y, h⟩ e
    have := mem_row.2 h
    rw [e] at this; cases this
  · intro h
    obtain ⟨y, hy⟩ := List.exists_mem_of_ne_nil _ h
    exact ⟨y, mem_row.1 hy⟩
def hits (x : LV) (l : List LV) : Bool := l.any fun y => Lk.conf x.l y.l
def who (X : St) (x : LV) : List Tx := (keys X).filter fun t => hits x (row X t)
theorem who_srt (X : St) (x : LV) : Srt (who X x) := (keys_srt X).filter _
theorem mem_who {X : St} {x : LV} {t : Tx} : t ∈ who X x ↔ ∃ y, (t, y) ∈ X ∧ Lk.conf x.l y.l = true := by
  unfold who
  rw [List.mem_filter, mem_keys]
  unfold hits
  rw [List.any_eq_true]
  constructor
  · rintro ⟨_, y, h1, h2⟩; exact ⟨y, mem_row.1 h1, h2⟩
  · rintro ⟨y, h1, h2⟩; exact ⟨⟨y, h1⟩, y, mem_row.2 h1, h2⟩
/-- Is there another one who stands in the way? -/
def busy (X : St) (t : Tx) (x : LV) : Bool := (who X x).any fun s => decide (s ≠ t)
theorem busy_iff {X : St} {t : Tx} {x : LV} : busy X t x = true ↔ ∃ e ∈ X, e.1 ≠ t ∧ Lk.conf x.l e.2.l = true := by
  unfold busy
  rw [List.any_eq_true]
  constructor
  · rintro ⟨s, h1, h2⟩
    obtain ⟨y, h3, h4⟩ := mem_who.1 h1
    exact ⟨(s, y), h3, of_decide_eq_true h2, h4⟩
  · rintro ⟨⟨s, y⟩, h1, h2, h3⟩
    exact ⟨s, mem_who.2 ⟨y, h1, h3⟩, decide_eq_true h2⟩
def add (l : List LV) (x : List LV) : List LV := x.foldl (fun a y => if y ∈ a then a else a ++ [y]) l
theorem add_nil (l : List LV) : add l [] = l := rfl
theorem add_cons (l : List LV) (y : LV) (x : List LV) : add l (y :: x) = add (if y ∈ l then l else l ++ [y]) x := rfl
theorem add_snoc (l x : List LV) (y : LV) : add l (x ++ [y]) = if y ∈ add l x then add l x else add l x ++ [y] := by unfold add; rw [List.foldl_append]; rfl
theorem add_pre : ∀ (x l : List LV), ∃ r, add l x = l ++ r ∧ r.length ≤ x.length ∧ ∀ y ∈ r, y ∈ x
  | [], l => ⟨[], by rw [add_nil, List.append_nil], Nat.le_refl _, by simp⟩
  | y :: x, l => by
    rw [add_cons]
    split
    · obtain ⟨r, h1, h2, h3⟩ := add_pre x l
      exact ⟨r, h1, by simp; omega, fun z hz => List.mem_cons_of_mem _ (h3 z hz)⟩
    · obtain ⟨r, h1, h2, h3⟩ := add_pre x (l ++ [y])
      refine ⟨y :: r, by rw [h1]; simp, by simp; omega, fun z hz => ?_⟩
      rcases List.mem_cons.1 hz with rfl | hz
      · simp
      · exact List.mem_cons_of_mem _ (h3 z hz)
/-- What is taken newly. -/
def news (l x : List LV) : List LV := (add l x).drop l.length
theorem add_news (l x : List LV) : add l x = l ++ news l x := by
  obtain ⟨r, h, _⟩ := add_pre x l
  unfold news
  rw [h]; simp
theorem news_le (l x : List LV) : (news l x).length ≤ x.length := by
  obtain ⟨r, h, h2, _⟩ := add_pre x l
  unfold news
  rw [h]; simpa using h2
theorem news_mem (l x : List LV) : ∀ y ∈ news l x, y ∈ x := by
  obtain ⟨r, h, _, h2⟩ := add_pre x l
  unfold news
  rw [h]; simpa using h2
def put (X : St) (t : Tx) (x : List LV) : St := X ++ (news (row X t) x).map fun y => (t, y)
theorem row_put_same (X : St) (t : Tx) (x : List LV) : row (put X t x) t = add (row X t) x := by
  unfold put; rw [row_app, row_own, ← add_news]
theorem row_put_other (X : St) {t s : Tx} (h : s ≠ t) (x : List LV) : row (put X t x) s = row X s := by
  unfold put; rw [row_app, row_other h, List.append_nil]
theorem put_length (X : St) (t : Tx) (x : List LV) : (put X t x).length + (row X t).length = X.length + (add (row X t) x).length := by
  rw [add_news]; unfold put; simp; omega
theorem put_none {X : St} {t : Tx} {x : List LV} (h : add (row X t) x = []) : put X t x = X := by
  have h1 : news (row X t) x = [] := by unfold news; rw [h]; simp
  unfold put; rw [h1]; simp
def drop (X : St) (t : Tx) : St := X.filter fun e => decide (e.1 ≠ t)
theorem row_drop_same (X : St) (t : Tx) : row (drop X t) t = [] := by
  unfold row drop
  rw [List.filter_filter, List.filter_eq_nil_iff.2 (by intro e _; simp)]; rfl
theorem row_drop_other (X : St) {t s : Tx} (h : s ≠ t) : row (drop X t) s = row X s := by
  unfold row drop
  rw [List.filter_filter]
  congr 1
  refine List.filter_congr fun e _ => ?_
  by_cases k : e.1 = s
  · rw [k]; simp [h]
  · simp [k]
theorem drop_length (X : St) (t : Tx) : (drop X t).length + (row X t).length = X.length := by
  unfold drop row
  rw [List.length_map]
  induction X with
  | nil => rfl
  | cons e X ih =>
    rw [List.filter_cons, List.filter_cons]
    by_cases h : e.1 = t
    · simp [h] at ih ⊢; omega
    · simp [h] at ih ⊢; omega
/-- All, by who holds them, rising. -/
def all (X : St) : List (Tx × LV) := (keys X).flatMap fun t => (row X t).map fun y => (t, y)
theorem mem_all {X : St} {e : Tx × LV} : e ∈ all X ↔ e ∈ X := by
  unfold all
  rw [List.mem_flatMap]
  constructor
  · rintro ⟨t, _, h⟩
    obtain ⟨y, hy, rfl⟩ := List.mem_map.1 h
    exact mem_row.1 hy
  · intro h
    exact ⟨e.1, mem_keys.2 ⟨e.2, h⟩, List.mem_map.2 ⟨e.2, mem_row.2 h, rfl⟩⟩
theorem all_length_le (X : St) : (all X).length = ((keys X).map fun t => (row X t).length).sum := by
  unfold all; rw [List.length_flatMap]; simp
/-- A call to take: how many were looked at, what is told, what is held behind it. -/
def first (p : LV → Bool) : List LV → Option Nat
  | [] => none
  | y :: l => if p y = true then some 0 else (first p l).map (· + 1)
theorem first_none {p : LV → Bool} : ∀ {l : List LV}, first p l = none ↔ ∀ y ∈ l, p y = false
  | [] => by simp [first]
  | y :: l => by
    have ih : first p l = none ↔ _ := first_none (p := p) (l := l)
    unfold first
    split
    · rename_i h; simp [h]
    · rename_i h
      rw [Option.map_eq_none_iff, ih]
      simp at h
      simp [h]
theorem first_some {p : LV → Bool} : ∀ {l : List LV} {i : Nat}, first p l = some i ↔ ∃ h : i < l.length, p l[i] = true ∧ ∀ j (hj : j < i), p (l[j]'(by omega)) = false
  | [], i => by simp [first]
  | y :: l, i => by
    unfold first
    split
    · rename_i h
      constructor
      · intro e; cases e; exact ⟨by simp, h, fun j hj => by omega⟩
      · rintro ⟨h1, h2, h3⟩
        cases i with
        | zero => rfl
        | succ i => have := h3 0 (by omega); simp only [List.getElem_cons_zero] at this; rw [h] at this; cases this
    · rename_i h
      simp at h
      cases i with
      | zero =>
        constructor
        · intro e
          cases hq : first p l <;> rw [hq] at e <;> cases e
        · rintro ⟨_, h2, _⟩
          simp only [List.getElem_cons_zero] at h2; rw [h] at h2; cases h2
      | succ i =>
        have ih : first p l = some i ↔ _ := first_some (p := p) (l := l) (i := i)
        have e1 : ((first p l).map (· + 1) = some (i + 1)) ↔ first p l = some i := by
          cases first p l <;> simp
        rw [e1, ih]
        constructor
        · rintro ⟨h1, h2, h3⟩
          refine ⟨by simp; omega, by simpa using h2, fun j hj => ?_⟩
          cases j with
          | zero => simpa using h
          | succ j => simpa using h3 j (by omega)
        · rintro ⟨h1, h2, h3⟩
          refine ⟨by simpa using h1, by simpa using h2, fun j hj => ?_⟩
          simpa using h3 (j + 1) (by omega)
abbrev Most : Nat := 4096
def take (X : St) (t : Tx) (x : List LV) : Nat × Nat × St :=
  match first (fun y => !Lk.may y.l) x with
  | some i => (i, 2, X)
  | none => match first (busy X t) x with
    | some i => (i, 9, X)
    | none => if Most < (put X t x).length then (0, 4, X) else (0, 0, put X t x)
end Lh

end Go.Proofs.YtjanjjkgnilhoaaGreatDoor
