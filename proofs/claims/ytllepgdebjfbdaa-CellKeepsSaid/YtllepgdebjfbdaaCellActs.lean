/-
  ACTS ON CELLS OF A HISTORY; a cell in a box; acts that were handed in, opened.
-/
import Derived.Test.YtllepgdebjfbdaaCellDoes
namespace Go.Proofs.Ytllepgdebjfbdaa
open Go.RowKit

namespace Cl
def okHs (hs : Hist) (i : Nat) : Prop := (∀ h ∈ hs, okH h) ∧ hs.length ≤ i
theorem okHs.nil : okHs [] 0 := ⟨by simp, Nat.le_refl _⟩
theorem okHs.snoc {hs : Hist} {i st : Nat} {t : ByteArray} (h : okHs hs i) (ho : okH (st, t)) : okHs (hs ++ [(st, t)]) (i + 1) :=
  ⟨by intro x hx; rcases List.mem_append.1 hx with hx | hx; exact h.1 x hx; simp at hx; subst hx; exact ho, by have := h.2; simp; omega⟩
theorem okHs.set {hs : Hist} {i k st : Nat} {t : ByteArray} (h : okHs hs i) (ho : okH (st, t)) : okHs (hs.set k (st, t)) i :=
  ⟨by intro x hx; rcases List.mem_or_eq_of_mem_set hx with hx | rfl; exact h.1 x hx; exact ho, by simpa using h.2⟩
theorem okHs.up {hs : Hist} {i : Nat} (h : okHs hs i) : okHs hs (i + 1) := ⟨h.1, by have := h.2; omega⟩
end Cl
open Cl in
/-- An act leaves a cell of a history. -/
theorem act_hist (hs : Hist) (i : Nat) (hi : i < 1000) (h : okHs hs i) (a : Xct) : ∃ hs', (actF (celOf hs) a).1 = celOf hs' ∧ okHs hs' (i + 1) := by
  have hl : hs.length < 18446744073709551615 := by have := h.2; omega
  unfold actF
  split
  · rw [put_celOf hs h.1 hl]
    split
    · exact ⟨hs, rfl, h.up⟩
    · split
      · exact ⟨hs, rfl, h.up⟩
      · rename_i h1 _; exact ⟨_, rfl, h.snoc ⟨Nat.le_refl 1, (show 1 ≤ 3 by decide), fun _ => (show a.t.size ≤ 4096 by omega)⟩⟩
  · split
    · rw [delete_celOf hs h.1 hl]
      split
      · exact ⟨hs, rfl, h.up⟩
      · split
        · exact ⟨hs, rfl, h.up⟩
        · exact ⟨_, rfl, h.snoc ⟨by decide, by decide, fun e => by cases e⟩⟩
    · by_cases hf : (find (celOf hs) a.n).2 = 0
      · obtain ⟨hb, h1⟩ := (find_live hs h.1 a.n).1 hf
        rw [destroy_live hs h.1 a.n hb h1]
        exact ⟨_, rfl, (h.set ⟨(show 1 ≤ 3 by decide), Nat.le_refl 3, fun e => by cases e⟩).up⟩
      · rw [destroy_dead hs a.n hf]
        exact ⟨hs, rfl, h.up⟩
open Cl in
theorem celOf_ok (hs : Hist) (i : Nat) (hi : i < 1000) (h : okHs hs i) : (∀ v ∈ (celOf hs).l, okV v) ∧ (celOf hs).l.length ≤ 1000 ∧ (celOf hs).last < 18446744073709551616 := by
  refine ⟨fun v hv => ?_, by rw [celOf_length]; omega, by have := h.2; show hs.length < _; omega⟩
  have hm : ∀ (j : Nat) (l : Hist) (_ : ∀ x ∈ l, okH x) (v : Ver) (_ : v ∈ vers j l), v.n ≤ j + l.length ∧ v.st ≤ 3 ∧ v.t.size ≤ 4096 := by
    intro j l
    induction l generalizing j with
    | nil => intro _ v hv; simp [vers] at hv
    | cons x r ih =>
      intro ho v hv
      simp only [vers, List.mem_cons] at hv
      rcases hv with rfl | hv
      · have o := ho x (by simp)
        refine ⟨by simp [verOf], o.2.1, ?_⟩
        unfold verOf
        by_cases h1 : x.1 = 1
        · simp only [h1, if_true]; exact o.2.2 h1
        · simp only [h1, if_false]; exact Nat.zero_le _
      · have := ih (j + 1) (fun y hy => ho y (by simp [hy])) v hv
        simp only [List.length_cons]; omega
  have := hm 0 hs h.1 v (List.mem_of_mem_drop hv)
  have h2 := h.2
  exact ⟨by omega, by omega, by omega⟩

/-- A cell in a box of the call's own. -/
structure CBox (w : World) (b : Nat) (c : Cl.Cel) (a : Option Addr) (cap : Nat) : Prop where
  box : w.heap[b]? = some (.cells #[.int .u64 c.last, .slice a c.l.length cap] 25 (0, 0))
  vers : VersAt w a c.l
  nil : a = none → cap = 0
theorem CBox.keep {w w' : World} {b : Nat} {c : Cl.Cel} {a : Option Addr} {cap : Nat} (h : CBox w b c a cap) (hb : Below w.heap.size w w') : CBox w' b c a cap :=
  ⟨(hb.block _ (blk_lt h.box)).trans h.box, h.vers.keep hb, h.nil⟩
theorem VersAt.set {w : World} {a : Option Addr} {l : List Cl.Ver} (h : VersAt w a l) {b : Nat} (hb : b ∉ blks a) (u v : Value) : VersAt ((w.setCell ⟨b, 0, none⟩ u).setCell ⟨b, 1, none⟩ v) a l := by
  intro i hi
  obtain ⟨g, off, rfl, hc⟩ := h i hi
  have hg : g ≠ b := by intro e; subst e; simp at hb
  exact ⟨g, off, rfl, hc.keep ((Below.heap_setCell _ _ _ _ (by simpa using hg)).trans (Below.heap_setCell _ _ _ _ (by simpa using hg)))⟩
/-- A box is filled anew. -/
theorem CBox.put {w : World} {b : Nat} {c d : Cl.Cel} {a a' : Option Addr} {cap cap' : Nat} (h : CBox w b c a cap) (hv : VersAt w a' d.l) (hn : a' = none → cap' = 0) (hne : b ∉ blks a') :
    CBox ((w.setCell ⟨b, 0, none⟩ (.int .u64 d.last)).setCell ⟨b, 1, none⟩ (.slice a' d.l.length cap')) b d a' cap' :=
  ⟨setCel h.box _ _ _ _, hv.set hne _ _, hn⟩
theorem CBox.other {w : World} {b b' : Nat} {c : Cl.Cel} {a : Option Addr} {cap : Nat} (h : CBox w b c a cap) (hb : b' ≠ b) (hne : b' ∉ blks a) (u v : Value) : CBox ((w.setCell ⟨b', 0, none⟩ u).setCell ⟨b', 1, none⟩ v) b c a cap :=
  ⟨((Below.heap_setCell _ _ _ _ (by simpa using hb.symm)).trans (Below.heap_setCell _ _ _ _ (by simpa using hb.symm))).trans h.box, h.vers.set hne _ _, h.nil⟩
theorem CBox.new {w w1 : World} {a : Option Addr} {cap : Nat} {c : Cl.Cel} (h : VFresh w w1 a cap c.l) : CBox (w1.alloc (.cells #[.int .u64 c.last, .slice a c.l.length cap] 25 (0, 0))) w1.heap.size c a cap :=
  ⟨heap_alloc_new _ _, h.vers.keep ((Own.refl _).alloc _).below, h.nil⟩
theorem sameL_refl (l : List Cl.Ver) : sameL l l = true := by unfold sameL; simp
theorem sameC_refl (c : Cl.Cel) : sameC c c = true := by unfold sameC; simp [sameL_refl]

section
variable {H : Type} {enc : TypeId × Value → H} {w : World} {base : Nat} {spare : Nat → Bool} {held : Bool}
open Go.ChangeShapes in
theorem open_act (fuel : Nat) (cs : List Value) (x : DataW H × List MemPlace) (h : DataW.trod enc Try.prog w base spare held fuel 27 cs = some x) (hw : ∀ n ∈ x.1.weights Try.prog 27, n ≤ 140737488351232) : ∃ c : Xct, okA c ∧ cs = acells c := by
  obtain ⟨xs, n, _, hx, hl, hlen, hf⟩ := DataW.trod_struct Try.underlying27 h
  rw [show Try.prog.cellsOf 27 = 5 by kernel_rfl] at hl
  match xs, hlen, cs, hl with
  | [y0, y1, y2, y3, y4], _, [c0, c1, c2, c3, c4], _ =>
    have k0 : Try.prog.cellsOf 5 = 1 := by kernel_rfl
    have k1 : Try.prog.cellsOf 4 = 1 := by kernel_rfl
    have k2 : Try.prog.cellsOf 22 = 1 := by kernel_rfl
    have k4 : Try.prog.cellsOf 9 = 1 := by kernel_rfl
    obtain ⟨n0, e0, _, w0⟩ := DataW.trod_int Try.underlying5 (hf 0 _ rfl)
    obtain ⟨n1, e1, _⟩ := DataW.trod_bool Try.underlying4 (hf 1 _ rfl)
    obtain ⟨n2, e2, _, w2⟩ := DataW.trod_int Try.underlying22 (hf 2 _ rfl)
    obtain ⟨n3, e3, _, w3⟩ := DataW.trod_int Try.underlying22 (hf 3 _ rfl)
    obtain ⟨n4, e4, hy, _⟩ := DataW.trod_string Try.underlying9 (hf 4 _ rfl)
    obtain ⟨u0, rfl, hu0⟩ := nat8_of_wf w0
    obtain ⟨u2, rfl, hu2⟩ := nat64_of_wf w2
    obtain ⟨u3, rfl, hu3⟩ := nat64_of_wf w3
    have hz : n4.size ≤ 140737488351232 := by
      refine hw _ ?_
      rw [hx]
      simp only [DataW.weights, Try.underlying27, hy]
      exact DataW.weights_mem_each (j := 4) rfl rfl _ (by simp [DataW.weights])
    refine ⟨⟨u0, n1, u2, u3, n4⟩, ⟨(show u0 ≤ 255 by omega), (show u2 < 18446744073709551616 by omega), (show u3 < 18446744073709551616 by omega), hz⟩, ?_⟩
    clear h hf
    simp_all [acells]
end

end Go.Proofs.Ytllepgdebjfbdaa
