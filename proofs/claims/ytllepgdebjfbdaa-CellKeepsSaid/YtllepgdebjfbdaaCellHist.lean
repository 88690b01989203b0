/-
  PLAIN LAW of CellKeeps: a cell is what its history says. No program is in sight here.
-/
import Derived.Test.YtllepgdebjfbdaaCellMath
namespace Go.Proofs.Ytllepgdebjfbdaa.Cl

/-- A history: of each number, from 1 on, what it is now, and the text that was put. -/
abbrev Hist := List (Nat × ByteArray)
def verOf (i : Nat) (h : Nat × ByteArray) : Ver := ⟨i + 1, h.1, if h.1 = 1 then h.2 else ⟨#[]⟩⟩
/-- The versions of a history, numbered from i + 1 on. -/
def vers : Nat → Hist → List Ver
  | _, [] => []
  | i, h :: r => verOf i h :: vers (i + 1) r
def celOf (hs : Hist) : Cel := ⟨hs.length, (vers 0 hs).drop (hs.length - 8)⟩
def okH (h : Nat × ByteArray) : Prop := 1 ≤ h.1 ∧ h.1 ≤ 3 ∧ (h.1 = 1 → h.2.size ≤ 4096)
theorem vers_length : ∀ (i : Nat) (hs : Hist), (vers i hs).length = hs.length
  | _, [] => rfl
  | i, h :: r => by simp [vers, vers_length (i + 1) r]
theorem vers_append : ∀ (i : Nat) (a b : Hist), vers i (a ++ b) = vers i a ++ vers (i + a.length) b
  | i, [], b => by simp [vers]
  | i, h :: r, b => by
    simp only [List.cons_append, vers, vers_append (i + 1) r b, List.length_cons]
    rw [show i + 1 + r.length = i + (r.length + 1) by omega]
theorem vers_get : ∀ (i : Nat) (hs : Hist) (k : Nat) (h : k < hs.length), (vers i hs)[k]'(by rw [vers_length]; exact h) = verOf (i + k) hs[k]
  | i, x :: r, 0, _ => rfl
  | i, x :: r, k + 1, h => by
    have := vers_get (i + 1) r k (by simpa using h)
    simp only [vers, List.getElem_cons_succ]
    rw [this, show i + 1 + k = i + (k + 1) by omega]
theorem vers_set : ∀ (i : Nat) (hs : Hist) (k : Nat) (x : Nat × ByteArray), vers i (hs.set k x) = (vers i hs).set k (verOf (i + k) x)
  | i, [], k, x => rfl
  | i, h :: r, 0, x => rfl
  | i, h :: r, k + 1, x => by
    simp only [List.set_cons_succ, vers, vers_set (i + 1) r k x]
    rw [show i + 1 + k = i + (k + 1) by omega]
theorem celOf_length (hs : Hist) : (celOf hs).l.length = min hs.length 8 := by
  unfold celOf; simp only [List.length_drop, vers_length]; omega
theorem drop_vers (i : Nat) (hs : Hist) (k : Nat) : (vers i hs).drop k = vers (i + k) (hs.drop k) := by
  induction k generalizing i hs with
  | zero => simp
  | succ k ih =>
    cases hs with
    | nil => simp [vers]
    | cons h r =>
      simp only [vers, List.drop_succ_cons, ih]
      rw [show i + 1 + k = i + (k + 1) by omega]
theorem verOk_of (i : Nat) (h : Nat × ByteArray) (ok : okH h) : verOk i (verOf i h) = true := by
  obtain ⟨h1, h2, h3⟩ := ok
  unfold verOk verOf
  simp only
  by_cases h4 : h.1 = 1
  · simp [h4, h3 h4]
  · simp [h4, h1, h2]; rfl
theorem mayF_vers : ∀ (i last : Nat) (hs : Hist), last ≤ i → (∀ h ∈ hs, okH h) → mayF last (vers i hs) = some (if hs = [] then last else i + hs.length)
  | i, last, [], _, _ => rfl
  | i, last, h :: r, hl, ok => by
    have o := ok h (by simp)
    have hv : verOk last (verOf i h) = true := by
      have := verOk_of i h o
      unfold verOk at this ⊢
      simp only [Bool.and_eq_true, decide_eq_true_eq] at this ⊢
      obtain ⟨⟨⟨h1, h2⟩, h3⟩, h4⟩ := this
      exact ⟨⟨⟨by omega, h2⟩, h3⟩, h4⟩
    simp only [vers, mayF]
    rw [if_pos hv, mayF_vers (i + 1) (verOf i h).n r (Nat.le_refl _) (fun x hx => ok x (by simp [hx]))]
    by_cases hr : r = []
    · subst hr; simp [verOf]
    · rw [if_neg hr]; simp; omega
theorem may_celOf (hs : Hist) (ok : ∀ h ∈ hs, okH h) : may (celOf hs) = true := by
  unfold may
  have hl := celOf_length hs
  have h8 : (celOf hs).l.length ≤ 8 := by omega
  have e : mayF 0 (celOf hs).l = some (celOf hs).last := by
    unfold celOf
    simp only
    rw [drop_vers, mayF_vers _ _ _ (Nat.zero_le _) (fun h hh => ok h (List.mem_of_mem_drop hh))]
    by_cases hd : hs.drop (hs.length - 8) = []
    · rw [if_pos hd]
      have := congrArg List.length hd
      simp only [List.length_drop, List.length_nil] at this
      have : hs.length = 0 := by omega
      rw [this]
    · rw [if_neg hd]; simp only [List.length_drop]; congr 1; omega
  rw [e]; simp [h8]
theorem comes_celOf (hs : Hist) (st : Nat) (t : ByteArray) (ht : st ≠ 1 → t = ⟨#[]⟩) : comes (celOf hs) st t = celOf (hs ++ [(st, t)]) := by
  unfold comes
  rw [celOf_length]
  have e : Ver.mk ((celOf hs).last + 1) st t = verOf hs.length (st, t) := by
    unfold verOf celOf
    by_cases h : st = 1
    · simp [h]
    · simp [h, ht h]
  rw [e]
  unfold celOf
  simp only [List.length_append, List.length_singleton, vers_append, Nat.zero_add]
  congr 1
  have e2 : vers hs.length [(st, t)] = [verOf hs.length (st, t)] := rfl
  rw [e2]
  by_cases h : hs.length < 8
  · rw [show hs.length - 8 = 0 by omega, show min hs.length 8 + 1 - 8 = 0 by omega, show hs.length + 1 - 8 = 0 by omega]
    simp
  · rw [show min hs.length 8 + 1 - 8 = 1 by omega, show hs.length + 1 - 8 = (hs.length - 8) + 1 by omega, ← List.drop_drop, List.drop_append_of_le_length (l₁ := vers 0 hs) (by rw [vers_length]; omega)]
theorem now_celOf (hs : Hist) : now (celOf hs) = match hs.getLast? with | some h => if h.1 = 1 then hs.length else 0 | none => 0 := by
  unfold now
  have e : (celOf hs).l.getLast? = (vers 0 hs).getLast? := by
    unfold celOf
    simp only
    rw [List.getLast?_drop]
    split
    · rename_i h; rw [vers_length] at h
      have h0 : hs.length = 0 := by omega
      have : hs = [] := List.eq_nil_of_length_eq_zero h0
      subst this; rfl
    · rfl
  rw [e]
  rcases List.eq_nil_or_concat hs with rfl | ⟨a, h, rfl⟩
  · rfl
  · rw [List.concat_eq_append, vers_append, List.getLast?_append]
    simp [vers, verOf]
/-- Where a number stands in a cell of a history. -/
theorem at_vers : ∀ (i : Nat) (hs : Hist) (n : Nat), at_ n (vers i hs) = if i < n ∧ n ≤ i + hs.length then some (n - 1 - i) else none
  | i, [], n => by simp [vers, at_]
  | i, h :: r, n => by
    simp only [vers, at_]
    have e : (verOf i h).n = i + 1 := rfl
    rw [e, at_vers (i + 1) r n]
    by_cases h1 : i + 1 = n
    · subst h1; simp
    · rw [if_neg h1]
      by_cases h2 : i + 1 < n ∧ n ≤ i + 1 + r.length
      · rw [if_pos h2, if_pos (by simp; omega)]
        simp only [Option.map_some]
        congr 1; omega
      · rw [if_neg h2, if_neg (by simp; omega)]; rfl
theorem at_celOf (hs : Hist) (n : Nat) : at_ n (celOf hs).l = if hs.length - 8 < n ∧ n ≤ hs.length then some (n - 1 - (hs.length - 8)) else none := by
  unfold celOf
  simp only
  rw [drop_vers, at_vers, Nat.zero_add]
  simp only [List.length_drop]
  by_cases h : hs.length - 8 < n ∧ n ≤ hs.length
  · rw [if_pos h, if_pos (by omega)]
  · rw [if_neg h, if_neg (by omega)]
theorem celOf_get (hs : Hist) (k : Nat) (h1 : hs.length - 8 ≤ k) (h2 : k < hs.length) : (celOf hs).l.getD (k - (hs.length - 8)) default = verOf k hs[k] := by
  have hl : k - (hs.length - 8) < (celOf hs).l.length := by rw [celOf_length]; omega
  rw [List.getD_eq_getElem?_getD, List.getElem?_eq_getElem hl, Option.getD_some]
  have := vers_get 0 hs k h2
  simp only [Nat.zero_add] at this
  rw [← this]
  show ((vers 0 hs).drop (hs.length - 8))[k - (hs.length - 8)]'(by rw [List.length_drop, vers_length]; omega) = _
  rw [List.getElem_drop]
  congr 1
  omega
/-- What a find in a cell of a history is. -/
theorem find_celOf (hs : Hist) (ok : ∀ h ∈ hs, okH h) (n : Nat) :
    find (celOf hs) n = if h : hs.length - 8 < n ∧ n ≤ hs.length then (if (hs[n - 1]'(by omega)).1 = 1 then (n - 1 - (hs.length - 8), 0) else (0, 171)) else (0, 3) := by
  unfold find
  rw [may_celOf hs ok, at_celOf]
  by_cases h : hs.length - 8 < n ∧ n ≤ hs.length
  · rw [if_pos h, dif_pos h]
    simp only [Bool.true_eq_false, if_false]
    have := celOf_get hs (n - 1) (by omega) (by omega)
    rw [show n - 1 - (hs.length - 8) = (n - 1) - (hs.length - 8) from rfl, this]
    rfl
  · rw [if_neg h, dif_neg h]; rfl

theorem grow_celOf (hs : Hist) (hl : hs.length < 18446744073709551615) (any : Bool) (want st : Nat) (t : ByteArray) (ht : st ≠ 1 → t = ⟨#[]⟩) :
    grow (celOf hs) any want st t = if any = false ∧ want ≠ now (celOf hs) then (celOf hs, 170) else (celOf (hs ++ [(st, t)]), 0) := by
  unfold grow
  by_cases h : any = false ∧ want ≠ now (celOf hs)
  · rw [if_pos h, if_pos h]
  · rw [if_neg h, if_neg h, if_neg (show ¬ (celOf hs).last = _ from by show ¬ hs.length = _; omega), comes_celOf hs st t ht]
theorem put_celOf (hs : Hist) (ok : ∀ h ∈ hs, okH h) (hl : hs.length < 18446744073709551615) (any : Bool) (want : Nat) (t : ByteArray) :
    put (celOf hs) any want t = if 4096 < t.size then (celOf hs, 5) else if any = false ∧ want ≠ now (celOf hs) then (celOf hs, 170) else (celOf (hs ++ [(1, t)]), 0) := by
  unfold put
  rw [may_celOf hs ok, if_neg (by decide), grow_celOf hs hl any want 1 t (fun h => absurd rfl h)]
theorem delete_celOf (hs : Hist) (ok : ∀ h ∈ hs, okH h) (hl : hs.length < 18446744073709551615) (any : Bool) (want : Nat) :
    delete (celOf hs) any want = if now (celOf hs) = 0 then (celOf hs, 3) else if any = false ∧ want ≠ now (celOf hs) then (celOf hs, 170) else (celOf (hs ++ [(2, ⟨#[]⟩)]), 0) := by
  unfold delete
  rw [may_celOf hs ok, if_neg (by decide), grow_celOf hs hl any want 2 _ (fun _ => rfl)]
/-- Is a number kept, and live? -/
def liveAt (hs : Hist) (n : Nat) : Prop := ∃ h : hs.length - 8 < n ∧ n ≤ hs.length, (hs[n - 1]'(by omega)).1 = 1
theorem find_live (hs : Hist) (ok : ∀ h ∈ hs, okH h) (n : Nat) : (find (celOf hs) n).2 = 0 ↔ liveAt hs n := by
  rw [find_celOf hs ok n]
  unfold liveAt
  by_cases h : hs.length - 8 < n ∧ n ≤ hs.length
  · rw [dif_pos h]
    split
    · rename_i h1; exact ⟨fun _ => ⟨h, h1⟩, fun _ => rfl⟩
    · rename_i h1; exact ⟨fun e => by simp at e, fun ⟨_, h2⟩ => absurd h2 h1⟩
  · rw [dif_neg h]
    exact ⟨fun e => by simp at e, fun ⟨h2, _⟩ => absurd h2 h⟩
theorem destroy_live (hs : Hist) (ok : ∀ h ∈ hs, okH h) (n : Nat) (h : hs.length - 8 < n ∧ n ≤ hs.length) (h1 : (hs[n - 1]'(by omega)).1 = 1) :
    destroy (celOf hs) n = (celOf (hs.set (n - 1) (3, (hs[n - 1]'(by omega)).2)), 0) := by
  have hf : find (celOf hs) n = (n - 1 - (hs.length - 8), 0) := by rw [find_celOf hs ok n, dif_pos h, if_pos h1]
  unfold destroy
  rw [hf]
  simp only [if_true]
  congr 1
  unfold celOf
  simp only [List.length_set, vers_set, Nat.zero_add]
  congr 1
  rw [List.drop_set, if_neg (by omega)]
  congr 1
  unfold verOf
  simp
  omega
theorem destroy_dead (hs : Hist) (n : Nat) (h : (find (celOf hs) n).2 ≠ 0) : destroy (celOf hs) n = (celOf hs, (find (celOf hs) n).2) := by
  unfold destroy; rw [if_neg h]
theorem read_celOf (hs : Hist) (ok : ∀ h ∈ hs, okH h) (k : Nat) (hk : k < hs.length) :
    read (celOf hs) (k + 1) = if hs.length - 8 ≤ k then (if (hs[k]).1 = 1 then (⟨k + 1, 1, (hs[k]).2⟩, 0) else (ver0, 171)) else (ver0, 3) := by
  unfold read
  simp only [Nat.add_one_ne_zero, if_false, false_and]
  rw [find_celOf hs ok (k + 1)]
  simp only [Nat.add_sub_cancel]
  by_cases h : hs.length - 8 ≤ k
  · rw [dif_pos ⟨by omega, by omega⟩, if_pos h]
    by_cases h1 : (hs[k]).1 = 1
    · rw [if_pos h1, if_pos h1]
      simp only [if_true]
      rw [celOf_get hs k h hk]
      unfold verOf
      rw [h1]
      simp
    · rw [if_neg h1, if_neg h1]; rfl
  · rw [dif_neg (by omega), if_neg h]; rfl
theorem celOf_nil : celOf [] = ⟨0, []⟩ := rfl

end Go.Proofs.Ytllepgdebjfbdaa.Cl
