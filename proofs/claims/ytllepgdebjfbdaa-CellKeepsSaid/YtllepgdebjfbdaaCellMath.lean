/-
  PLAIN MATHEMATICS OF THE CELL: which may be, what it is now, and what each call makes of it. No program is in sight here.
-/
namespace Go.Proofs.Ytllepgdebjfbdaa.Cl

structure Ver where
  n : Nat
  st : Nat
  t : ByteArray
structure Cel where
  last : Nat
  l : List Ver
abbrev M64 : Nat := 18446744073709551616
instance : Inhabited Ver := ⟨⟨0, 0, ⟨#[]⟩⟩⟩

/-- May a version stand behind number 'last'? -/
def verOk (last : Nat) (v : Ver) : Bool := decide (last < v.n) && decide (1 ≤ v.st) && decide (v.st ≤ 3) && (if v.st = 1 then decide (v.t.size ≤ 4096) else decide (v.t.size = 0))
def mayF (last : Nat) : List Ver → Option Nat
  | [] => some last
  | v :: r => if verOk last v then mayF v.n r else none
def may (c : Cel) : Bool := decide (c.l.length ≤ 8) && mayF 0 c.l == some c.last
def lastOf : List Ver → Option Ver
  | [] => none
  | [v] => some v
  | _ :: w :: r => lastOf (w :: r)
def now (c : Cel) : Nat := match c.l.getLast? with | some v => if v.st = 1 then v.n else 0 | none => 0
def size (c : Cel) : Nat := (c.l.map fun v => v.t.size).sum
/-- One version more; eight stay. -/
def comes (c : Cel) (st : Nat) (t : ByteArray) : Cel := ⟨c.last + 1, (c.l ++ [Ver.mk (c.last + 1) st t]).drop (c.l.length + 1 - 8)⟩
/-- Errors: 0 none, 2 argument, 3 nothing there, 4 full, 5 long, 170 stale, 171 gone. -/
def grow (c : Cel) (any : Bool) (want st : Nat) (t : ByteArray) : Cel × Nat :=
  if any = false ∧ want ≠ now c then (c, 170) else if c.last = 18446744073709551615 then (c, 4) else (comes c st t, 0)
def put (c : Cel) (any : Bool) (want : Nat) (t : ByteArray) : Cel × Nat :=
  if may c = false then (c, 2) else if 4096 < t.size then (c, 5) else grow c any want 1 t
def delete (c : Cel) (any : Bool) (want : Nat) : Cel × Nat :=
  if may c = false then (c, 2) else if now c = 0 then (c, 3) else grow c any want 2 ⟨#[]⟩
/-- Where a number stands first. -/
def at_ (n : Nat) : List Ver → Option Nat
  | [] => none
  | v :: r => if v.n = n then some 0 else (at_ n r).map (· + 1)
/-- Where a live version stands, or which error. -/
def find (c : Cel) (n : Nat) : Nat × Nat :=
  if may c = false then (0, 2) else match at_ n c.l with
    | none => (0, 3)
    | some i => if (c.l.getD i default).st = 1 then (i, 0) else (0, 171)
def destroy (c : Cel) (n : Nat) : Cel × Nat :=
  if (find c n).2 = 0 then (⟨c.last, c.l.set (find c n).1 ⟨n, 3, ⟨#[]⟩⟩⟩, 0) else (c, (find c n).2)
def ver0 : Ver := ⟨0, 0, ⟨#[]⟩⟩
def read (c : Cel) (n : Nat) : Ver × Nat :=
  let m := if n = 0 then now c else n
  if n = 0 ∧ m = 0 ∧ may c = true then (ver0, 3)
  else if (find c m).2 = 0 then (c.l.getD (find c m).1 default, 0) else (ver0, (find c m).2)

theorem at_lt : ∀ (n : Nat) (l : List Ver) (i : Nat), at_ n l = some i → i < l.length ∧ (l.getD i default).n = n
  | n, [], i, h => by cases h
  | n, v :: r, i, h => by
    unfold at_ at h
    by_cases hv : v.n = n
    · rw [if_pos hv] at h; cases h; exact ⟨by simp, hv⟩
    · rw [if_neg hv] at h
      obtain ⟨j, hj, rfl⟩ := Option.map_eq_some_iff.1 h
      obtain ⟨h1, h2⟩ := at_lt n r j hj
      exact ⟨by simp; omega, by simpa using h2⟩
theorem at_none : ∀ (n : Nat) (l : List Ver), at_ n l = none → ∀ v ∈ l, v.n ≠ n
  | n, [], _, v, hv => by cases hv
  | n, u :: r, h, v, hv => by
    unfold at_ at h
    by_cases hu : u.n = n
    · rw [if_pos hu] at h; cases h
    · rw [if_neg hu] at h
      rcases List.mem_cons.1 hv with rfl | hv
      · exact hu
      · exact at_none n r (by simpa using h) v hv
theorem at_first : ∀ (n : Nat) (l : List Ver) (i : Nat), at_ n l = some i → ∀ j, j < i → (l.getD j default).n ≠ n
  | n, [], i, h, j, hj => by cases h
  | n, v :: r, i, h, j, hj => by
    unfold at_ at h
    by_cases hv : v.n = n
    · rw [if_pos hv] at h; cases h; omega
    · rw [if_neg hv] at h
      obtain ⟨k, hk, rfl⟩ := Option.map_eq_some_iff.1 h
      cases j with
      | zero => simpa using hv
      | succ j => simpa using at_first n r k hk j (by omega)
/-- What may be, rises. -/
theorem mayF_rise : ∀ (l : List Ver) (last m : Nat), mayF last l = some m → (∀ v ∈ l, last < v.n ∧ v.n ≤ m) ∧ last ≤ m ∧ (l ≠ [] → ∃ v, l.getLast? = some v ∧ v.n = m)
  | [], last, m, h => by
    unfold mayF at h; cases h
    exact ⟨by simp, Nat.le_refl _, by simp⟩
  | v :: r, last, m, h => by
    unfold mayF at h
    by_cases hv : verOk last v = true
    · rw [if_pos hv] at h
      obtain ⟨h1, h2, h3⟩ := mayF_rise r v.n m h
      have hlt : last < v.n := by
        unfold verOk at hv
        simp only [Bool.and_eq_true, decide_eq_true_eq] at hv
        exact hv.1.1.1
      refine ⟨?_, by omega, fun _ => ?_⟩
      · intro u hu
        rcases List.mem_cons.1 hu with rfl | hu
        · exact ⟨hlt, h2⟩
        · have := h1 u hu; omega
      · cases r with
        | nil => unfold mayF at h; cases h; exact ⟨v, rfl, rfl⟩
        | cons w r' =>
          obtain ⟨u, h4, h5⟩ := h3 (by simp)
          exact ⟨u, by rw [List.getLast?_cons_cons]; exact h4, h5⟩
    · rw [if_neg hv] at h; cases h

end Go.Proofs.Ytllepgdebjfbdaa.Cl
