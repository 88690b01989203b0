/-
  THE WALKS of package path: which texts are paths, and what a path is under.
-/
import Derived.Test.YtjanjjkgnilhoaaGreatDoorLkM
import Derived.Test.YtjanjjkgnilhoaaGreatDoorShelf
import Derived.Test.YtjanjjkgnilhoaaGreatDoorRowMore
import Derived.Laws.RangeAny
namespace Go.Proofs.YtjanjjkgnilhoaaGreatDoor
open Go.RowKit

/-- What lies where the program begins: the machine's width of a search. -/
def Lay (w : World) : Prop := ∃ m : Int, w.cell? ⟨0, 0, none⟩ = some (.int .i64 m)
theorem Lay.keep {w w' : World} (h : Lay w) (hb : Below w.heap.size w w') : Lay w' := by
  obtain ⟨m, hm⟩ := h
  refine ⟨m, ?_⟩
  have hlt : 0 < w.heap.size := by
    by_cases h0 : 0 < w.heap.size
    · exact h0
    · unfold World.cell? at hm
      rw [Array.getElem?_eq_none (by simp only; omega)] at hm
      cases hm
  have hb0 := hb.block 0 hlt
  unfold World.cell? at hm ⊢
  simp only at hm ⊢
  rw [hb0]; exact hm

def oddR (r : Nat) : Bool := (decide (r < 97) || decide (122 < r)) && ((decide (r < 48) || decide (57 < r)) && (!decide (r = 46) && (!decide (r = 95) && !decide (r = 45))))
theorem oddR_good (c : UInt8) : oddR c.toNat = !Lk.good c := by
  unfold oddR Lk.good
  rw [Bool.eq_iff_iff]
  simp only [Bool.and_eq_true, Bool.or_eq_true, Bool.not_eq_true', Bool.or_eq_false_iff, Bool.and_eq_false_iff, decide_eq_true_eq, decide_eq_false_iff_not]
  omega
theorem oddR_high {r : Nat} (h : 128 ≤ r) : oddR r = true := by
  unfold oddR
  simp only [Bool.and_eq_true, Bool.or_eq_true, Bool.not_eq_true', decide_eq_true_eq, decide_eq_false_iff_not]
  omega
theorem good_low {c : UInt8} (h : Lk.good c = true) : c.toNat < 128 := by
  unfold Lk.good at h
  simp only [Bool.and_eq_true, Bool.or_eq_true, decide_eq_true_eq] at h
  omega
theorem idx_odd (s : ByteArray) : ∀ (f pos : Nat), s.size - pos ≤ f → (Lib.idxFuncFrom oddR true s f pos = -1 ↔ ∀ i (h : i < s.size), pos ≤ i → Lk.good s[i] = true)
  | 0, pos, hf => by
    unfold Lib.idxFuncFrom
    exact ⟨fun _ i h hp => by omega, fun _ => rfl⟩
  | f + 1, pos, hf => by
    unfold Lib.idxFuncFrom
    by_cases hp : pos < s.size
    · rw [if_pos hp]
      by_cases ha : (s[pos]'hp).toNat < 128
      · rw [decode_ascii s pos hp ha]
        simp only
        rw [oddR_good]
        cases hg : Lk.good s[pos] with
        | false =>
          simp only [Bool.not_false, if_true]
          refine ⟨fun h => by omega, fun h => ?_⟩
          have := h pos hp (Nat.le_refl _)
          rw [hg] at this; cases this
        | true =>
          simp only [Bool.not_true, Bool.false_eq_true, if_false]
          rw [idx_odd s f (pos + 1) (by omega)]
          refine ⟨fun h i hi hpi => ?_, fun h i hi hpi => h i hi (by omega)⟩
          by_cases e : i = pos
          · subst e; exact hg
          · exact h i hi (by omega)
      · rw [if_pos (oddR_high (decode_high s pos hp (by omega)).1)]
        refine ⟨fun h => by omega, fun h => ?_⟩
        have := good_low (h pos hp (Nat.le_refl _))
        omega
    · rw [if_neg hp]
      exact ⟨fun _ i h hpi => by omega, fun _ => rfl⟩
theorem all_good (s : ByteArray) : ((L s).all Lk.good = true) ↔ ∀ i (h : i < s.size), Lk.good s[i] = true := by
  rw [List.all_eq_true]
  constructor
  · intro h i hi
    exact h _ (by
      have : s[i] = (L s)[i]'(by rw [L_size]; exact hi) := rfl
      rw [this]; exact List.getElem_mem _)
  · intro h c hc
    obtain ⟨i, hi, rfl⟩ := List.getElem_of_mem hc
    have hi' : i < s.size := by rw [L_size] at hi; exact hi
    exact h i hi'
theorem idx_good (s : ByteArray) : decide (0 ≤ Lib.idxFunc oddR true s) = !(L s).all Lk.good := by
  have h := idx_odd s s.size 0 (by omega)
  have hr := Lib.idxFunc_range oddR true s
  unfold Lib.idxFunc at hr ⊢
  cases ha : (L s).all Lk.good with
  | true =>
    have := (all_good s).1 ha
    have h1 := h.2 fun i hi _ => this i hi
    rw [h1]; rfl
  | false =>
    rw [Bool.not_false, decide_eq_true_iff]
    rcases hr with h1 | h1
    · have := (all_good s).2 fun i hi => h.1 h1 i hi (Nat.zero_le _)
      rw [ha] at this; cases this
    · exact h1.1

set_option maxRecDepth 20000 in
set_option maxHeartbeats 1000000 in
theorem odd_any (r : Nat) (w : World) : Calls Tryz.prog 88 #[.int .i32 r] w fun e w' => e = .returned (.bool (oddR r)) ∧ w' = w := by
  go_enter Tryz.func88, Tryz.ntmps88
  go_wp2
  all_goals
    go_ret
    refine ⟨?_, rfl⟩
    congr 1
    show Value.bool _ = Value.bool _
    congr 1
    unfold oddR
    rw [Bool.eq_iff_iff]
    simp only [Bool.and_eq_true, Bool.or_eq_true, Bool.not_eq_true', decide_eq_true_eq, decide_eq_false_iff_not, bne_iff_ne, ne_eq, Bool.false_eq_true, false_iff]
    omega

end Go.Proofs.YtjanjjkgnilhoaaGreatDoor
