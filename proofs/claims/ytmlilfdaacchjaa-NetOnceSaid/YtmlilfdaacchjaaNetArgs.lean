/-
  CALLS THAT WERE HANDED IN: a slice of them, opened; and Heavy, Same.
-/
import Derived.Test.YtmlilfdaacchjaaNetAlive
import Derived.Deep.Slices
import Derived.Deep.Strs
import Derived.Laws.StructEq
namespace Go.Proofs.Ytmlilfdaacchjaa
open Go.RowKit

/-- A call. -/
structure Cmd where
  dodo : Nat
  g : Gram
  pick : Int
def ccells (c : Cmd) : List Value := [.int .u8 c.dodo, .int .u32 (w32 c.g.frm), .int .u32 (w32 c.g.to), .string c.g.text, .int .i64 c.pick]
instance : Inhabited Cmd := ⟨⟨0, ⟨0, 0, ⟨#[]⟩⟩, 0⟩⟩
def Cmd.ok (c : Cmd) : Prop := (c.dodo < 256 ∧ c.g.text.size ≤ maxLen) ∧ -9223372036854775808 ≤ c.pick ∧ c.pick ≤ 9223372036854775807

/-- A slice that was handed in, by its elements' cells. -/
def RowIs (w : World) (size : Nat) (a : Option Addr) (xs : List (List Value)) : Prop :=
  ∀ i (h : i < xs.length), ∃ g off, a = some ⟨g, off, none⟩ ∧ CellsAt w g (off + i * size) xs[i]
def CmdsAt (w : World) (a : Option Addr) (cap : Nat) (l : List Cmd) : Prop := (∀ c ∈ l, c.ok) ∧ RowIs w 5 a (l.map ccells) ∧ l.length ≤ cap ∧ cap ≤ maxLen
theorem RowIs.keep {w w' : World} {size : Nat} {a : Option Addr} {xs : List (List Value)} (h : RowIs w size a xs) (hb : Below w.heap.size w w') : RowIs w' size a xs := fun i hi => by
  obtain ⟨g, off, ha, hc⟩ := h i hi
  exact ⟨g, off, ha, hc.keep (hb.block g hc.lt)⟩
theorem CmdsAt.keep {w w' : World} {a : Option Addr} {cap : Nat} {l : List Cmd} (h : CmdsAt w a cap l) (hb : Below w.heap.size w w') : CmdsAt w' a cap l := ⟨h.1, h.2.1.keep hb, h.2.2⟩
theorem CmdsAt.at {w : World} {a : Option Addr} {cap : Nat} {l : List Cmd} (h : CmdsAt w a cap l) (i : Nat) (hi : i < l.length) : ∃ g off, a = some ⟨g, off, none⟩ ∧ CellsAt w g (off + i * 5) (ccells l[i]) := by
  have := h.2.1 i (by simpa using hi)
  simpa using this

theorem CellsAt.of_cells {w : World} {a : Addr} {n : Nat} {cs : List Value} {base : Nat} (h : w.cells? base a n = some cs) (hn : 0 < n) : a.spot = none ∧ CellsAt w a.block a.off cs := by
  obtain ⟨hb, hl, hc⟩ := World.cells?_some h
  have h0 := hc 0 hn
  rw [List.getElem?_eq_getElem (by omega)] at h0
  have ha : a.add 0 = a := by simp [Addr.add]
  rw [ha] at h0
  have hspot : a.spot = none := by
    unfold World.cell? at h0
    split at h0
    · cases hs : a.spot with
      | none => rfl
      | some s => rw [hs] at h0; simp at h0
    · cases h0
  obtain ⟨g, off, s⟩ := a
  simp only at hspot; subst hspot
  refine ⟨rfl, ?_⟩
  cases hg : w.heap[g]? with
  | none => unfold World.cell? at h0; rw [hg] at h0; cases h0
  | some o =>
    cases o with
    | cells c t fr =>
      have hat : ∀ i, i < n → c[off + i]? = cs[i]? := fun i hi => by
        have := hc i hi
        have e : (⟨g, off, none⟩ : Addr).add i = ⟨g, off + i, none⟩ := by unfold Addr.add; split <;> simp_all
        rw [e, cell_of_row w g _ c t fr hg] at this
        exact this
      have hlast := hat (n - 1) (by omega)
      rw [List.getElem?_eq_getElem (by omega)] at hlast
      have hlt := (Array.getElem?_eq_some_iff.1 hlast).1
      refine ⟨c, t, fr, hg, by simp only; omega, ?_⟩
      apply List.ext_getElem?
      intro i
      by_cases hi : i < cs.length
      · rw [List.getElem?_take_of_lt hi, List.getElem?_drop]
        simpa using hat i (by omega)
      · rw [List.getElem?_eq_none (by simp; omega), List.getElem?_eq_none (by omega)]
    | _ => unfold World.cell? at h0; rw [hg] at h0; cases h0

section
variable {H : Type} {enc : TypeId × Value → H} {w : World} {base : Nat} {spare : Nat → Bool} {held : Bool}
open Go.ChangeShapes in
theorem open_cmd {fuel : Nat} {cs : List Value} {x : DataW H × List MemPlace} (h : DataW.trod enc Try.prog w base spare held fuel 35 cs = some x) : ∃ c : Cmd, c.ok ∧ cs = ccells c := by
  obtain ⟨y0, y1, y2, n, _, hl, h0, h1, h2⟩ := Go.Deep.trod_struct3 Try.underlying35 h
  rw [show Try.prog.cellsOf 35 = 5 by kernel_rfl] at hl
  obtain ⟨z0, z1, z2, m, _, hm, g0, g1, g2⟩ := Go.Deep.trod_struct3 Try.underlying33 h1
  match cs, hl with
  | [c0, c1, c2, c3, c4], _ =>
    obtain ⟨n0, e0, _, w0⟩ := DataW.trod_int Try.underlying5 h0
    obtain ⟨n1, e1, _, w1⟩ := DataW.trod_int Try.underlying23 g0
    obtain ⟨n2, e2, _, w2⟩ := DataW.trod_int Try.underlying23 g1
    obtain ⟨s3, e3, _, w3⟩ := DataW.trod_string Try.underlying9 g2
    obtain ⟨n4, e4, _, w4⟩ := DataW.trod_int Try.underlying3 h2
    obtain ⟨d, rfl, hd⟩ := nat8_of_wf w0
    obtain ⟨a1, rfl⟩ := bv32_of_wf w1
    obtain ⟨a2, rfl⟩ := bv32_of_wf w2
    have hp := i64_of_wf w4
    refine ⟨⟨d, ⟨a1, a2, s3⟩, n4⟩, ⟨⟨by show d < 256; omega, w3⟩, hp⟩, ?_⟩
    have k3 : Try.prog.cellsOf 33 = 3 := by kernel_rfl
    have k1 : Try.prog.cellsOf 23 = 1 := by kernel_rfl
    have k2 : Try.prog.cellsOf 9 = 1 := by kernel_rfl
    have k4 : Try.prog.cellsOf 5 = 1 := by kernel_rfl
    have k5 : Try.prog.cellsOf 3 = 1 := by kernel_rfl
    clear h h0 h1 h2 g0 g1 g2
    simp_all [ccells]
theorem open_cmds {fuel : Nat} {cs : List Value} {x : DataW H × List MemPlace} (h : DataW.trod enc Try.prog w base spare held fuel 22 cs = some x) :
    ∃ a cap l, cs = [.slice a (l : List Cmd).length cap] ∧ CmdsAt w a cap l := by
  rcases Go.Deep.open_slice Try.underlying22 h with ⟨rfl, _⟩ | ⟨a, len, cap, m, n, D, Pl, rfl, hb, hl, hm, hmm, hx, hi⟩
  · exact ⟨none, 0, [], rfl, by simp, fun i hi => by simp at hi, by simp, by decide⟩
  · have hlm : len ≤ m := by rw [hmm]; split <;> omega
    have hspot : 0 < len → a.spot = none := fun h0 => by
      obtain ⟨cs', hc, ht⟩ := hi 0 (by omega)
      rw [show Try.prog.cellsOf 35 = 5 by kernel_rfl] at hc
      exact (CellsAt.of_cells hc (by decide)).1
    have : ∀ i, i < len → ∃ c : Cmd, c.ok ∧ a.spot = none ∧ CellsAt w a.block (a.off + i * 5) (ccells c) := fun i hil => by
      obtain ⟨cs', hc, ht⟩ := hi i (by omega)
      obtain ⟨c, hok, rfl⟩ := open_cmd ht
      rw [show Try.prog.cellsOf 35 = 5 by kernel_rfl] at hc
      obtain ⟨hs, hcells⟩ := CellsAt.of_cells hc (by decide)
      refine ⟨c, hok, ?_⟩
      refine ⟨hspot (by omega), ?_⟩
      unfold Addr.add at hcells
      split at hcells
      · rename_i h0
        have : i = 0 := by omega
        subst this
        simpa using hcells
      · exact hcells
    obtain ⟨f, hf⟩ := Go.Deep.choose_lt (α := Cmd) this
    refine ⟨some a, cap, (List.range len).map f, by simp, ?_, ?_, by simpa using hl, hm⟩
    · intro c hc
      obtain ⟨i, hi, rfl⟩ := List.mem_map.1 hc
      exact (hf i (List.mem_range.1 hi)).1
    · intro i hi
      have hil : i < len := by simpa using hi
      obtain ⟨_, hs, hcl⟩ := hf i hil
      obtain ⟨g, off, s⟩ := a
      simp only at hs hcl
      subst hs
      exact ⟨g, off, rfl, by simpa using hcl⟩
end

end Go.Proofs.Ytmlilfdaacchjaa
