/-
  A MAP FROM PLACES TO NUMBERS: made, written, struck; and what a walk through it finds, in whatever order it goes.
-/
import Derived.Test.YtboplbcfoooenaaSegRowM
import Derived.Maps.Own
import Derived.Maps.OwnOps
import Derived.Maps.OwnSet
import Derived.Maps.Views
import Derived.Maps.RangeWalk
namespace Go.Proofs.Ytboplbcfoooenaa
open Go.RowKit Go.Maps

theorem int_key : Keyed Try.prog 3 := int_keyed Try.underlying3
theorem place_wf (i : Nat) (h : i < 9223372036854775808) : (Lit.int .i64 (i : Int)).wf = true := by
  simp only [Lit.wf, Bool.and_eq_true, decide_eq_true_eq]
  rw [show IntKind.i64.min = -9223372036854775808 from by decide, show IntKind.i64.max = 9223372036854775807 from by decide]
  omega
theorem num_wf (c : Nat) (h : c < 18446744073709551616) : (Lit.int .u64 (c : Int)).wf = true := by
  simp only [Lit.wf, Bool.and_eq_true, decide_eq_true_eq]
  rw [show IntKind.u64.min = 0 from by decide, show IntKind.u64.max = 18446744073709551615 from by decide]
  omega
theorem place_key (i : Nat) (h : i < 9223372036854775808) : keyOf Try.prog 3 (.int .i64 i) = some (.int .i64 i) := keyOf_int_mk Try.underlying3 (place_wf i h)

/-- What a map says: of which places, and which number each has. -/
structure SaysL (D : DataW Unit) (F : Nat → Option Nat) : Prop where
  only : ∀ x : Int, Maps.has D (.int .i64 x) = true → ∃ i c : Nat, x = i ∧ F i = some c ∧ ∀ zd, D.atKey (.int .i64 x) zd = .lit (.int .u64 c)
  all : ∀ i c : Nat, F i = some c → Maps.has D (.int .i64 i) = true
def LeftMap (w : World) (b n : Nat) (F : Nat → Option Nat) : Prop :=
  ∃ D : DataW Unit, w.ownsMap Try.prog 3 (plainElem Try.prog 25) b n D ∧ SaysL D F
theorem LeftMap.made (w : World) : LeftMap (w.alloc (.map #[] 0)) w.heap.size 0 (fun _ => none) :=
  ⟨.map [], World.ownsMap_made _ _ _ _, ⟨fun x h => (by simp [Maps.has] at h), fun i c h => (by cases h)⟩⟩
theorem LeftMap.kept {w w' : World} {b n : Nat} {F : Nat → Option Nat} (h : LeftMap w b n F) (hg : w'.heap[b]? = w.heap[b]?) : LeftMap w' b n F := by
  obtain ⟨D, ⟨es, clock, hb, F, hs, hD⟩, hS⟩ := h
  exact ⟨D, ⟨es, clock, hg.trans hb, F, hs, hD⟩, hS⟩
theorem LeftMap.lt {w : World} {b n : Nat} {F : Nat → Option Nat} (h : LeftMap w b n F) : b < w.heap.size := by
  obtain ⟨D, ho, _⟩ := h; exact ho.lt
theorem LeftMap.mono {w : World} {b n n' : Nat} {F : Nat → Option Nat} (h : LeftMap w b n F) (hn : n ≤ n') : LeftMap w b n' F := by
  obtain ⟨D, ho, hS⟩ := h; exact ⟨D, ho.mono hn, hS⟩
theorem lit_ne {x y : Int} (h : x ≠ y) : (Lit.int .i64 x) ≠ (Lit.int .i64 y) := fun e => h (by injection e)
theorem grown_upd {w w' : World} {b : Nat} (h : w.grownBy w' (some b)) : Upd w w' [b] :=
  ⟨h.os, h.tape, h.output, h.size, fun k hk hF => h.block k hk (fun e => hF (by cases e; simp))⟩
theorem grown_none {w w' : World} (h : w.grownBy w' none) : Below w.heap.size w w' := ⟨h.os, h.tape, h.output, h.size, fun k hk => h.block k hk (by simp)⟩
theorem grown_of {w w' : World} (h : Below w.heap.size w w') : w.grownBy w' none := ⟨h.os, h.tape, h.output, h.size, fun k hk _ => h.block k hk⟩
theorem grown_at {w w' : World} {b n : Nat} (h : w.grownBy w' (some b)) (hn : n ≤ w.heap.size) (hb : n ≤ b) : Below n w w' := ⟨h.os, h.tape, h.output, h.size, fun k hk => h.block k (by omega) (fun e => by cases e; omega)⟩
/-- What one store leaves. -/
theorem LeftMap.stored {w' : World} {b n : Nat} {D : DataW Unit} {F F' : Nat → Option Nat} (hS : SaysL D F) (hM : IsMap D) (i c : Nat) (hi : i < 1000000) (ho' : w'.ownsMap Try.prog 3 (plainElem Try.prog 25) b n (D.put (.int .i64 i) (.lit (.int .u64 c)))) (hF : F' i = some c) (hF' : ∀ j, j ≠ i → F' j = F j) : LeftMap w' b n F' := by
  have hk := place_key i (by omega)
  refine ⟨_, ho', ⟨fun x hx => ?_, fun j d hj => ?_⟩⟩
  · by_cases e : x = i
    · subst e
      exact ⟨i, c, rfl, hF, fun zd => atKey_put_same hM (int_key.key hk) _ _⟩
    · rw [has_put_other (lit_ne e)] at hx
      obtain ⟨j, d, rfl, hd, hat⟩ := hS.only x hx
      exact ⟨j, d, rfl, by rw [hF' j (fun e2 => e (by rw [e2]))]; exact hd, fun zd => by rw [atKey_put_other (lit_ne e)]; exact hat zd⟩
  · by_cases e : j = i
    · subst e
      exact has_put_same hM (int_key.key hk) _
    · rw [has_put_other (lit_ne (by omega))]
      exact hS.all j d (by rw [← hF' j e]; exact hj)
/-- One place struck. -/
theorem LeftMap.strike {w' : World} {b n : Nat} {D : DataW Unit} {F F' : Nat → Option Nat} (hS : SaysL D F) (i : Nat) (ho : w'.ownsMap Try.prog 3 (plainElem Try.prog 25) b n (D.del (.int .i64 i))) (hF : F' i = none) (hF' : ∀ j, j ≠ i → F' j = F j) : LeftMap w' b n F' := by
  refine ⟨_, ho, ⟨fun x hx => ?_, fun j d hj => ?_⟩⟩
  · by_cases e : x = i
    · subst e
      rw [has_del_same] at hx; cases hx
    · rw [has_del_other (lit_ne e)] at hx
      obtain ⟨j, d, rfl, hd, hat⟩ := hS.only x hx
      exact ⟨j, d, rfl, by rw [hF' j (fun e2 => e (by rw [e2]))]; exact hd, fun zd => by rw [atKey_del_other (lit_ne e)]; exact hat zd⟩
  · have e : j ≠ i := fun e => by subst e; rw [hF] at hj; cases hj
    rw [has_del_other (lit_ne (by omega))]
    exact hS.all j d (by rw [← hF' j e]; exact hj)

/-- What a walk through the map has found so far: the least place of those that have the number. -/
structure Found (F : Nat → Option Nat) (D : DataW Unit) (tgt : Nat) (left : Lit → Bool) (o : Option Nat) : Prop where
  sub : ∀ kl, left kl = true → Maps.has D kl = true
  hit : ∀ j, o = some j → F j = some tgt
  low : ∀ i, F i = some tgt → left (.int .i64 i) = true ∨ ∃ j, o = some j ∧ j ≤ i
theorem Found.start {F : Nat → Option Nat} {D : DataW Unit} (hS : SaysL D F) (tgt : Nat) : Found F D tgt (Maps.has D) none :=
  ⟨fun _ h => h, fun j h => (by cases h), fun i h => .inl (hS.all i tgt h)⟩
theorem Found.skip {F : Nat → Option Nat} {D : DataW Unit} {tgt : Nat} {left : Lit → Bool} {o : Option Nat} (h : Found F D tgt left o) (i c : Nat) (hi : F i = some c) (hn : c = tgt → ∃ j, o = some j ∧ j ≤ i) : Found F D tgt (fun z => left z && !z.sameKey (.int .i64 (i : Int))) o := by
  refine ⟨fun kl hk => h.sub kl (by simp at hk; exact hk.1), h.hit, fun k hk => ?_⟩
  by_cases e : k = i
  · subst e
    rw [hi] at hk
    exact .inr (hn (by injection hk))
  · rcases h.low k hk with h1 | h1
    · refine .inl ?_
      rw [h1, sameKey_ne (lit_ne (by omega))]; rfl
    · exact .inr h1
theorem Found.take {F : Nat → Option Nat} {D : DataW Unit} {tgt : Nat} {left : Lit → Bool} {o : Option Nat} (h : Found F D tgt left o) (i : Nat) (hi : F i = some tgt) (hn : ∀ j, o = some j → i < j) : Found F D tgt (fun z => left z && !z.sameKey (.int .i64 (i : Int))) (some i) := by
  refine ⟨fun kl hk => h.sub kl (by simp at hk; exact hk.1), fun j hj => (by cases hj; exact hi), fun k hk => ?_⟩
  by_cases e : k = i
  · exact .inr ⟨i, rfl, by omega⟩
  · rcases h.low k hk with h1 | ⟨j, h1, h2⟩
    · refine .inl ?_
      rw [h1, sameKey_ne (lit_ne (by omega))]; rfl
    · exact .inr ⟨i, rfl, by have := hn j h1; omega⟩
/-- The places that are left of a list. -/
def leftF (l : List It) (g : Nat) (taken : Nat → Bool) (k : Nat) : Nat → Option Nat := fun i => if i < k ∧ taken i = false ∧ (l[i]!).kind = 0 ∧ (l[i]!).gen = g then some (l[i]!).first else none
theorem leftF_some {l : List It} {g k i c : Nat} {taken : Nat → Bool} (h : leftF l g taken k i = some c) : i < k ∧ taken i = false ∧ (l[i]!).kind = 0 ∧ (l[i]!).gen = g ∧ (l[i]!).first = c := by
  unfold leftF at h
  split at h
  · rename_i h1
    injection h with h2
    exact ⟨h1.1, h1.2.1, h1.2.2.1, h1.2.2.2, h2⟩
  · cases h
theorem leftF_same {l : List It} {g k : Nat} {taken : Nat → Bool} (h : ¬ ((l[k]!).kind = 0 ∧ (l[k]!).gen = g)) : leftF l g taken (k + 1) = leftF l g taken k := by
  funext j
  unfold leftF
  by_cases e : j = k
  · subst e
    rw [if_neg (fun h1 => h h1.2.2), if_neg (fun h1 => h h1.2.2)]
  · have : j < k + 1 ↔ j < k := by omega
    simp only [this]
theorem leftF_new {l : List It} {g k : Nat} (h : (l[k]!).kind = 0 ∧ (l[k]!).gen = g) : leftF l g (fun _ => false) (k + 1) k = some (l[k]!).first ∧ ∀ j, j ≠ k → leftF l g (fun _ => false) (k + 1) j = leftF l g (fun _ => false) k j := by
  refine ⟨?_, fun j hj => ?_⟩
  · unfold leftF
    rw [if_pos ⟨by omega, rfl, h.1, h.2⟩]
  · unfold leftF
    have : j < k + 1 ↔ j < k := by omega
    simp only [this]
theorem leftF_zero (l : List It) (g : Nat) (taken : Nat → Bool) : leftF l g taken 0 = fun _ => none := by
  funext j
  unfold leftF
  rw [if_neg (fun h => by omega)]
theorem leftF_upd {l : List It} {g k : Nat} {taken : Nat → Bool} (i : Nat) : leftF l g (Sg.upd taken i) k i = none ∧ ∀ j, j ≠ i → leftF l g (Sg.upd taken i) k j = leftF l g taken k j := by
  refine ⟨?_, fun j hj => ?_⟩
  · unfold leftF
    rw [if_neg (fun h => by have := h.2.1; unfold Sg.upd at this; simp at this)]
  · have e : Sg.upd taken i j = taken j := by unfold Sg.upd; rw [decide_eq_false hj]; simp
    unfold leftF
    rw [e]
theorem leftF_may {l : List It} {g tgt i : Nat} {taken : Nat → Bool} : leftF l g taken l.length i = some tgt ↔ i < l.length ∧ Sg.may1 l g tgt taken i = true := by
  constructor
  · intro h
    obtain ⟨h1, h2, h3, h4, h5⟩ := leftF_some h
    refine ⟨h1, ?_⟩
    unfold Sg.may1
    rw [h2, decide_eq_true h3, decide_eq_true h4, decide_eq_true h5]; rfl
  · rintro ⟨h0, h⟩
    obtain ⟨h1, h2, h3, h4⟩ := Sg.may1_taken h
    unfold leftF
    rw [if_pos ⟨h0, h1, h2, h3⟩, h4]
theorem Found.next {l : List It} {g tgt : Nat} {taken : Nat → Bool} {D : DataW Unit} {left : Lit → Bool} {o : Option Nat} (h : Found (leftF l g taken l.length) D tgt left o) (hl : ∀ kl, left kl = false) : Sg.IsNext (Sg.may1 l g tgt taken) l.length o := by
  have low : ∀ i, i < l.length → Sg.may1 l g tgt taken i = true → ∃ j, o = some j ∧ j ≤ i := fun i hi hm => by
    rcases h.low i (leftF_may.2 ⟨hi, hm⟩) with h1 | h1
    · rw [hl] at h1; cases h1
    · exact h1
  cases o with
  | none =>
    intro i hi
    cases hm : Sg.may1 l g tgt taken i with
    | false => rfl
    | true => obtain ⟨j, hj, _⟩ := low i hi hm; cases hj
  | some j =>
    obtain ⟨h1, h2⟩ := leftF_may.1 (h.hit j rfl)
    refine ⟨h1, h2, fun i hi => ?_⟩
    cases hm : Sg.may1 l g tgt taken i with
    | false => rfl
    | true =>
      obtain ⟨k, hk, hle⟩ := low i (by omega) hm
      cases hk; omega

end Go.Proofs.Ytboplbcfoooenaa
