/-
  A DRAWN REGION BY AN INVARIANT ON WHICH OF ITS OPERATIONS HAVE COME: for operations that write in whatever order.
-/
import Derived.Test.YtjanjjkgnilhoaaGreatDoorBase
import Derived.Orders
namespace Go.Proofs.YtjanjjkgnilhoaaGreatDoor
open Go.RowKit

section
variable {P : Program} {ops : Array Oper} {Q : Exit → Act → World → Prop}
theorem each_ready (hdep : ∀ (i : Nat) (o : Oper), ops[i]? = some o → ∀ e : Edge, e ∈ o.after → e.on < i) {listed : Array Bool} (hs : listed.size = ops.size) (hr : Region.ready .any ops listed = []) : ∀ j, j < ops.size → listed.getD j false = true := by
  intro j
  induction j using Nat.strongRecOn with
  | _ j ih =>
    intro hj
    cases hl : listed.getD j false with
    | true => rfl
    | false =>
      exfalso
      have hm : j ∈ Region.ready .any ops listed := by
        rw [mem_ready]
        refine ⟨?_, ops[j], by rw [Array.getElem?_eq_getElem hj], fun e he _ => ih e.on (hdep j ops[j] (by rw [Array.getElem?_eq_getElem hj]) e he) (by have := hdep j ops[j] (by rw [Array.getElem?_eq_getElem hj]) e he; omega)⟩
        rw [Array.getD_eq_getD_getElem?, Array.getElem?_eq_getElem (by omega)] at hl ⊢
        exact hl
      rw [hr] at hm
      cases hm
theorem each_any (hdep : ∀ (i : Nat) (o : Oper), ops[i]? = some o → ∀ e : Edge, e ∈ o.after → e.on < i) (I : (Nat → Bool) → Act → World → Prop)
    (hstep : ∀ (D : Nat → Bool) (i : Nat) (o : Oper) (a : Act) (w : World), ops[i]? = some o → D i = false → (∀ e : Edge, e ∈ o.after → Region.binds .any e = true → D e.on = true) → I D a w → wpOp P ops Q i (fun a' w' => I (fun j => D j || decide (j = i)) a' w') a w)
    (hend : ∀ D a w, (∀ j, j < ops.size → D j = true) → I D a w → Q .normal a w) :
    ∀ (fuel : Nat) (listed : Array Bool) (a : Act) (w : World), listed.size = ops.size → listed.toList.countP (fun x => !x) ≤ fuel → I (fun j => listed.getD j false) a w → wpAny P .any ops Q fuel listed a w
  | 0, listed, a, w, hs, hc, hI => by
    have hall : ∀ j, j < ops.size → listed.getD j false = true := by
      intro j hj
      have h0 : listed.toList.countP (fun x => !x) = 0 := by omega
      have h1 := List.countP_eq_zero.1 h0 listed[j] (by simp)
      rw [Array.getD_eq_getD_getElem?, Array.getElem?_eq_getElem (by omega)]
      simpa using h1
    refine ⟨?_, hend _ a w hall hI⟩
    cases hr : Region.ready .any ops listed with
    | nil => rfl
    | cons x xs =>
      exfalso
      have hm : x ∈ Region.ready .any ops listed := by rw [hr]; simp
      obtain ⟨h1, o, ho, _⟩ := mem_ready.1 hm
      have hx : x < ops.size := (Array.getElem?_eq_some_iff.1 ho).1
      have h2 := hall x hx
      rw [Array.getD_eq_getD_getElem?, Array.getElem?_eq_getElem (by omega)] at h1 h2
      simp at h1 h2
      rw [h1] at h2; cases h2
  | fuel + 1, listed, a, w, hs, hc, hI => by
    refine ⟨fun hr => hend _ a w (each_ready hdep hs hr) hI, fun i hi => ?_⟩
    obtain ⟨h1, o, ho, h3⟩ := mem_ready.1 hi
    have hx : i < ops.size := (Array.getElem?_eq_some_iff.1 ho).1
    have hxl : i < listed.size := by omega
    have hli : listed[i] = false := by
      rw [Array.getD_eq_getD_getElem?, Array.getElem?_eq_getElem hxl] at h1
      simpa using h1
    have hDi : listed.getD i false = false := by
      rw [Array.getD_eq_getD_getElem?, Array.getElem?_eq_getElem hxl, hli]; rfl
    refine wpOp_mono (fun a' w' h => ?_) (hstep _ i o a w ho hDi h3 hI)
    refine each_any hdep I hstep hend fuel _ a' w' (by simpa using hs) ?_ ?_
    · have e : (listed.setIfInBounds i true).toList = listed.toList.set i true := by simp
      rw [e, List.countP_set (by simpa using hxl)]
      have hp : 0 < listed.toList.countP (fun x => !x) := List.countP_pos_iff.2 ⟨listed[i], by simp, by rw [hli]; rfl⟩
      have hg : listed.toList[i]'(by simpa using hxl) = false := by simpa using hli
      rw [hg]
      simp only [Bool.not_false, Bool.not_true, if_true, Bool.false_eq_true, if_false]
      omega
    · refine cast (congrArg (fun D => I D a' w') ?_) h
      funext j
      rw [Array.getD_eq_getD_getElem?, Array.getD_eq_getD_getElem?, Array.getElem?_setIfInBounds]
      by_cases hij : i = j
      · subst hij
        rw [if_pos rfl, if_pos hxl]; simp
      · rw [if_neg hij, decide_eq_false (fun e => hij e.symm)]; simp
theorem dep_of (h : ((List.range ops.size).all fun i => match ops[i]? with | some o => o.after.toList.all (fun e => decide (e.on < i)) | none => true) = true) : ∀ (i : Nat) (o : Oper), ops[i]? = some o → ∀ e : Edge, e ∈ o.after → e.on < i := by
  intro i o ho e he
  have hi : i < ops.size := (Array.getElem?_eq_some_iff.1 ho).1
  have h1 := List.all_eq_true.1 h i (List.mem_range.2 hi)
  rw [ho] at h1
  exact of_decide_eq_true (List.all_eq_true.1 h1 e (by simpa using he))
theorem wp_region_each {id : Nat} {a : Act} {w : World} (hm : P.follows .mixedOrders = true) (hdep : ∀ (i : Nat) (o : Oper), ops[i]? = some o → ∀ e : Edge, e ∈ o.after → e.on < i) (I : (Nat → Bool) → Act → World → Prop) (h0 : I (fun _ => false) a w.drew)
    (hstep : ∀ (D : Nat → Bool) (i : Nat) (o : Oper) (a : Act) (w : World), ops[i]? = some o → D i = false → (∀ e : Edge, e ∈ o.after → Region.binds .any e = true → D e.on = true) → I D a w → wpOp P ops Q i (fun a' w' => I (fun j => D j || decide (j = i)) a' w') a w)
    (hend : ∀ D a w, (∀ j, j < ops.size → D j = true) → I D a w → Q .normal a w) : (Code.region id ops true).wp P Q a w := by
  refine wp_region_any hm (each_any hdep I hstep hend ops.size _ a _ (by simp) ?_ ?_)
  · refine Nat.le_trans (List.countP_le_length) (by simp)
  · refine cast (congrArg (fun D => I D a w.drew) ?_) h0
    funext j
    rw [Array.getD_eq_getD_getElem?]
    by_cases hj : j < ops.size
    · rw [Array.getElem?_eq_getElem (by simpa using hj)]; simp
    · rw [Array.getElem?_eq_none (by simpa using hj)]; rfl
end

end Go.Proofs.YtjanjjkgnilhoaaGreatDoor
