/-
  TWO THINGS IN MEMORY SIDE BY SIDE, each in blocks of its own, and blocks that nobody writes: what a step of the one leaves of the others.
-/
import Derived.Test.YtmlilfdaacchjaaMem
namespace Go.Proofs.Ytmlilfdaacchjaa
open Go.RowKit

/-- What a world says of some blocks, and of no others. -/
structure Loc (R : World → List Nat → Prop) : Prop where
  keep : ∀ w w' F, R w F → (∀ k ∈ F, w'.heap[k]? = w.heap[k]?) → R w' F
  lt : ∀ w F, R w F → ∀ k ∈ F, k < w.heap.size

/-- Nothing. -/
def NoR : World → List Nat → Prop := fun _ F => F = []
theorem NoR.loc : Loc NoR := ⟨fun _ _ _ h _ => h, fun _ _ h k hk => by rw [h] at hk; cases hk⟩

/-- What a call has made: R and S in blocks of their own, and the blocks of K as they were laid. -/
def Two (w0 w : World) (R S : World → List Nat → Prop) (K : List (Nat × Obj)) : Prop :=
  ∃ F G, R w F ∧ S w G ∧ Own w0.heap.size w0 w ∧ (∀ k ∈ F, w0.heap.size ≤ k) ∧ (∀ k ∈ G, w0.heap.size ≤ k) ∧ (∀ k ∈ F, k ∉ G) ∧ ∀ p ∈ K, w.heap[p.1]? = some p.2 ∧ p.1 ∉ F ∧ p.1 ∉ G

/-- A step of one thing: it may turn its own blocks alone; new ones may come. -/
def RStep (w w' : World) (F : List Nat) (R : World → List Nat → Prop) : Prop := ∃ F', R w' F' ∧ Upd w w' F ∧ ∀ k ∈ F', k ∈ F ∨ w.heap.size ≤ k

section
variable {w0 w w' : World} {R R' S S' : World → List Nat → Prop} {K : List (Nat × Obj)}
theorem Two.own (h : Two w0 w R S K) : Below w0.heap.size w0 w := by obtain ⟨F, G, _, _, hO, _⟩ := h; exact hO.below
theorem Two.owns (h : Two w0 w R S K) : Own w0.heap.size w0 w := by obtain ⟨F, G, _, _, hO, _⟩ := h; exact hO
theorem Two.got (h : Two w0 w R S K) {k : Nat} {o : Obj} (hk : (k, o) ∈ K) : w.heap[k]? = some o := by obtain ⟨F, G, _, _, _, _, _, _, hK⟩ := h; exact (hK _ hk).1
theorem Two.forget {K' : List (Nat × Obj)} (h : Two w0 w R S K) (hK : ∀ p ∈ K', p ∈ K) : Two w0 w R S K' := by
  obtain ⟨F, G, a, b, c, d, e, f, g⟩ := h; exact ⟨F, G, a, b, c, d, e, f, fun p hp => g p (hK p hp)⟩
theorem Two.start (w : World) : Two w w NoR NoR [] := ⟨[], [], rfl, rfl, Own.refl w, by simp, by simp, by simp, by simp⟩
/-- Whoever leaves what was there as it was leaves both. -/
theorem Two.below (lR : Loc R) (lS : Loc S) (h : Two w0 w R S K) (hb : Below w.heap.size w w') : Two w0 w' R S K := by
  obtain ⟨F, G, hR, hS, hO, hF, hG, hFG, hK⟩ := h
  exact ⟨F, G, lR.keep _ _ _ hR fun k hk => hb.block k (lR.lt _ _ hR k hk), lS.keep _ _ _ hS fun k hk => hb.block k (lS.lt _ _ hS k hk), hO.trans hb, hF, hG, hFG,
    fun p hp => ⟨(hb.block _ (blk_lt (hK p hp).1)).trans (hK p hp).1, (hK p hp).2⟩⟩
theorem Two.drew (lR : Loc R) (lS : Loc S) (h : Two w0 w R S K) : Two w0 w.drew R S K := h.below lR lS (Below.refl _ _).drew
theorem Two.alloc (lR : Loc R) (lS : Loc S) (h : Two w0 w R S K) (o : Obj) : Two w0 (w.alloc o) R S ((w.heap.size, o) :: K) := by
  have h2 := h.below lR lS ((Below.refl _ _).alloc (Nat.le_refl _) o)
  obtain ⟨F, G, hR, hS, hO, hF, hG, hFG, hK⟩ := h
  have hb := (Below.refl w.heap.size w).alloc (Nat.le_refl _) o
  refine ⟨F, G, lR.keep _ _ _ hR fun k hk => hb.block k (lR.lt _ _ hR k hk), lS.keep _ _ _ hS fun k hk => hb.block k (lS.lt _ _ hS k hk), hO.trans hb, hF, hG, hFG, ?_⟩
  intro p hp
  rcases List.mem_cons.1 hp with rfl | hp
  · exact ⟨heap_alloc_new w o, fun hf => by have := lR.lt _ _ hR _ hf; simp at this, fun hf => by have := lS.lt _ _ hS _ hf; simp at this⟩
  · exact ⟨(hb.block _ (blk_lt (hK p hp).1)).trans (hK p hp).1, (hK p hp).2⟩
/-- A step of the first. -/
theorem Two.step (lS : Loc S) (h : Two w0 w R S K) (hs : ∀ F, R w F → RStep w w' F R') : Two w0 w' R' S K := by
  obtain ⟨F, G, hR, hS, hO, hF, hG, hFG, hK⟩ := h
  obtain ⟨F', hR', hu, hn⟩ := hs F hR
  refine ⟨F', G, hR', lS.keep _ _ _ hS fun k hk => hu.keep k (lS.lt _ _ hS k hk) (fun hf => hFG k hf hk), hO.upd hu hF, ?_, hG, ?_, ?_⟩
  · intro k hk
    rcases hn k hk with h | h
    · exact hF k h
    · exact Nat.le_trans hO.size h
  · intro k hk hg
    rcases hn k hk with h | h
    · exact hFG k h hg
    · have := lS.lt _ _ hS k hg; omega
  · intro p hp
    obtain ⟨h1, h2, h3⟩ := hK p hp
    have hlt := blk_lt h1
    refine ⟨(hu.keep _ hlt h2).trans h1, fun hf => ?_, h3⟩
    rcases hn _ hf with h | h
    · exact h2 h
    · omega
theorem Two.swap (h : Two w0 w R S K) : Two w0 w S R K := by
  obtain ⟨F, G, hR, hS, hO, hF, hG, hFG, hK⟩ := h
  exact ⟨G, F, hS, hR, hO, hG, hF, fun k hk hf => hFG k hf hk, fun p hp => ⟨(hK p hp).1, (hK p hp).2.2, (hK p hp).2.1⟩⟩
/-- A new thing in new blocks takes the place of nothing. -/
theorem Two.make (lS : Loc S) (h : Two w0 w NoR S K) (hb : Below w.heap.size w w') {F : List Nat} (hR : R w' F) (hF : ∀ k ∈ F, w.heap.size ≤ k) : Two w0 w' R S K :=
  h.step lS fun G hG => by subst hG; exact ⟨F, hR, Upd.of_below _ hb, fun k hk => .inr (hF k hk)⟩
theorem Two.first (h : Two w0 w R S K) : ∃ F, R w F := by obtain ⟨F, _, hR, _⟩ := h; exact ⟨F, hR⟩
end

end Go.Proofs.Ytmlilfdaacchjaa
