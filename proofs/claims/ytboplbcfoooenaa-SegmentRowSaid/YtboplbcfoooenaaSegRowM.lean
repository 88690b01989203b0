/-
  PLAIN MATHEMATICS OF ROWS OF SEGMENTS: where a log begins, and which segment goes on from one. No program is in sight here.
-/
import Derived.Test.YtboplbcfoooenaaSegBytes
namespace Go.Proofs.Ytboplbcfoooenaa
open Go.RowKit

/-- A segment in a list, as a machine holds it. -/
structure It where
  kind : Nat
  gen : Nat
  first : Nat
  t : ByteArray
  ra : Option Addr
  n : Nat
  rcap : Nat
  used : Int
  whole : Bool
instance : Inhabited It := ⟨⟨0, 0, 0, ⟨#[]⟩, none, 0, 0, 0, false⟩⟩
def icells (x : It) : List Value := [.int .u8 x.kind, .int .u64 x.gen, .int .u64 x.first, .string x.t, .slice x.ra x.n x.rcap, .int .i64 x.used, .bool x.whole]
def It.next (x : It) : Nat := (x.first + x.n) % 18446744073709551616
structure okI (x : It) : Prop where
  kind : x.kind < 256
  gen : x.gen < 18446744073709551616
  first : x.first < 18446744073709551616
  n : x.n ≤ 140737488355328

namespace Sg
/-- Where a log begins, of so many segments: the first of the highest generation. -/
def bst (l : List It) : Nat → Option Nat
  | 0 => none
  | k + 1 => match bst l k with
    | none => if (l[k]!).kind = 1 then some k else none
    | some j => if (l[k]!).kind = 1 ∧ (l[j]!).gen < (l[k]!).gen then some k else some j
theorem bst_succ (l : List It) (k : Nat) : bst l (k + 1) = match bst l k with
    | none => if (l[k]!).kind = 1 then some k else none
    | some j => if (l[k]!).kind = 1 ∧ (l[j]!).gen < (l[k]!).gen then some k else some j := rfl
theorem bst_lt (l : List It) : ∀ {k j : Nat}, bst l k = some j → j < k
  | 0, j, h => by cases h
  | k + 1, j, h => by
    unfold bst at h
    cases hb : bst l k with
    | none =>
      rw [hb] at h
      simp only at h
      split at h
      · cases h; omega
      · cases h
    | some i =>
      have := bst_lt l hb
      rw [hb] at h
      simp only at h
      split at h
      · cases h; omega
      · cases h; omega
/-- What may go on. -/
def may1 (l : List It) (g tgt : Nat) (taken : Nat → Bool) (i : Nat) : Bool := !taken i && decide ((l[i]!).kind = 0) && decide ((l[i]!).gen = g) && decide ((l[i]!).first = tgt)
def IsNext (p : Nat → Bool) (len : Nat) : Option Nat → Prop
  | none => ∀ i < len, p i = false
  | some j => j < len ∧ p j = true ∧ ∀ i < j, p i = false
theorem IsNext.uniq {p : Nat → Bool} {len : Nat} {o o' : Option Nat} (h : IsNext p len o) (h' : IsNext p len o') : o = o' := by
  match o, o', h, h' with
  | none, none, _, _ => rfl
  | none, some j, h, ⟨h1, h2, _⟩ => rw [h j h1] at h2; cases h2
  | some j, none, ⟨h1, h2, _⟩, h => rw [h j h1] at h2; cases h2
  | some i, some j, ⟨_, h2, h3⟩, ⟨_, k2, k3⟩ =>
    rcases Nat.lt_trichotomy i j with h | h | h
    · rw [k3 i h] at h2; cases h2
    · rw [h]
    · rw [h3 j h] at k2; cases k2
def upd (taken : Nat → Bool) (j : Nat) : Nat → Bool := fun i => taken i || decide (i = j)
/-- A log's segments behind one. -/
inductive Chain (l : List It) (g : Nat) : (Nat → Bool) → Nat → List Nat → Prop
  | cut {taken : Nat → Bool} {a : Nat} : (l[a]!).whole = false → Chain l g taken a []
  | stop {taken : Nat → Bool} {a : Nat} : IsNext (may1 l g (l[a]!).next taken) l.length none → Chain l g taken a []
  | step {taken : Nat → Bool} {a j : Nat} {r : List Nat} : (l[a]!).whole = true → IsNext (may1 l g (l[a]!).next taken) l.length (some j) → Chain l g (upd taken j) j r → Chain l g taken a (j :: r)
theorem Chain.uniq {l : List It} {g : Nat} {taken : Nat → Bool} {a : Nat} {r r' : List Nat} (h : Chain l g taken a r) (h' : Chain l g taken a r') : r = r' := by
  induction h generalizing r' with
  | cut hw =>
    cases h' with
    | cut _ => rfl
    | stop _ => rfl
    | step hw' _ _ => rw [hw] at hw'; cases hw'
  | stop hn =>
    cases h' with
    | cut _ => rfl
    | stop _ => rfl
    | step _ hn' _ => cases hn.uniq hn'
  | step hw hn _ ih =>
    cases h' with
    | cut hw' => rw [hw] at hw'; cases hw'
    | stop hn' => cases hn.uniq hn'
    | step _ hn' hc' =>
      cases hn.uniq hn'
      rw [ih hc']
/-- What Row answers. -/
def RowOf (l : List It) (row : List Nat) (er : Nat) : Prop :=
  match bst l l.length with
  | none => row = [] ∧ er = 3
  | some a => ∃ r, row = a :: r ∧ er = 0 ∧ Chain l (l[a]!).gen (fun _ => false) a r
theorem RowOf.uniq {l : List It} {row row' : List Nat} {er er' : Nat} (h : RowOf l row er) (h' : RowOf l row' er') : row = row' ∧ er = er' := by
  unfold RowOf at h h'
  cases hb : bst l l.length with
  | none =>
    rw [hb] at h h'
    exact ⟨by rw [h.1, h'.1], by rw [h.2, h'.2]⟩
  | some a =>
    rw [hb] at h h'
    obtain ⟨r, rfl, rfl, hc⟩ := h
    obtain ⟨r', rfl, rfl, hc'⟩ := h'
    rw [hc.uniq hc']
    exact ⟨rfl, rfl⟩
/-- How many are taken rises: so a walk through a log comes to an end. -/
def cntT (taken : Nat → Bool) : Nat → Nat
  | 0 => 0
  | k + 1 => cntT taken k + if taken k then 1 else 0
theorem cntT_le (taken : Nat → Bool) : ∀ k, cntT taken k ≤ k
  | 0 => Nat.le_refl _
  | k + 1 => by have := cntT_le taken k; unfold cntT; split <;> omega
theorem cntT_upd_ge (taken : Nat → Bool) (j : Nat) : ∀ k, k ≤ j → cntT (upd taken j) k = cntT taken k
  | 0, _ => rfl
  | k + 1, h => by
    have := cntT_upd_ge taken j k (by omega)
    unfold cntT
    rw [this]
    have e : upd taken j k = taken k := by unfold upd; rw [decide_eq_false (by omega)]; simp
    rw [e]
theorem cntT_upd (taken : Nat → Bool) (j : Nat) (ht : taken j = false) : ∀ k, j < k → cntT (upd taken j) k = cntT taken k + 1
  | 0, h => by omega
  | k + 1, h => by
    unfold cntT
    by_cases hk : k = j
    · subst hk
      rw [cntT_upd_ge taken k k (Nat.le_refl _)]
      simp [upd, ht]
    · rw [cntT_upd taken j ht k (by omega)]
      have e : upd taken j k = taken k := by unfold upd; rw [decide_eq_false hk]; simp
      rw [e]; omega
theorem may1_taken {l : List It} {g tgt : Nat} {taken : Nat → Bool} {i : Nat} (h : may1 l g tgt taken i = true) : taken i = false ∧ (l[i]!).kind = 0 ∧ (l[i]!).gen = g ∧ (l[i]!).first = tgt := by
  unfold may1 at h
  simp only [Bool.and_eq_true, Bool.not_eq_true', decide_eq_true_eq] at h
  exact ⟨h.1.1.1, h.1.1.2, h.1.2, h.2⟩
end Sg

/-- A place, or none, as a machine holds it. -/
def atV : Option Nat → Int
  | none => -1
  | some j => j
theorem get_bang (l : List It) (i : Nat) (h : i < l.length) : l[i]! = l[i] := by simp [h]

end Go.Proofs.Ytboplbcfoooenaa
