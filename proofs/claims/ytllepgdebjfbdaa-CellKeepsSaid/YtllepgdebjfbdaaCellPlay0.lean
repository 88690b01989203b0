/-
  WHAT THE WALKS of CellPlays, CellKeeps, CellApart share.
-/
import Derived.Test.YtllepgdebjfbdaaCellActs
import Derived.Deep.CutBlock
import Derived.Deep.DeepCutAuto
namespace Go.Proofs.Ytllepgdebjfbdaa
open Go.RowKit

theorem alloc_keep (w : World) (o : Obj) : Below w.heap.size w (w.alloc o) := ((Own.refl w).alloc o).below
theorem CBox.facts {w : World} {b : Nat} {c : Cl.Cel} {a : Option Addr} {cap : Nat} (h : CBox w b c a cap) :
    w.cell? ⟨b, 0, none⟩ = some (.int .u64 c.last) ∧ w.cell? ⟨b, 1, none⟩ = some (.slice a c.l.length cap) ∧ w.frozen? ⟨b, 0, none⟩ = false ∧ w.frozen? ⟨b, 1, none⟩ = false ∧ b < w.heap.size := celBox h.box
/-- The cells of an act. -/
structure ActAt (w : World) (g p : Nat) (x : Xct) : Prop where
  q0 : w.cell? ⟨g, p, none⟩ = some (.int .u8 x.kind)
  q1 : w.cell? ⟨g, p + 1, none⟩ = some (.bool x.any)
  q2 : w.cell? ⟨g, p + 2, none⟩ = some (.int .u64 x.want)
  q3 : w.cell? ⟨g, p + 3, none⟩ = some (.int .u64 x.n)
  q4 : w.cell? ⟨g, p + 4, none⟩ = some (.string x.t)
  lt : g < w.heap.size
theorem ActAt.keep {w w' : World} {g p : Nat} {x : Xct} (h : ActAt w g p x) (hb : Below w.heap.size w w') : ActAt w' g p x :=
  ⟨cell_keep hb h.q0 h.lt, cell_keep hb h.q1 h.lt, cell_keep hb h.q2 h.lt, cell_keep hb h.q3 h.lt, cell_keep hb h.q4 h.lt, Nat.lt_of_lt_of_le h.lt hb.size⟩
theorem VFresh.below {w w' : World} {a : Option Addr} {cap : Nat} {l : List Cl.Ver} (h : VFresh w w' a cap l) (o : Obj) : Below w.heap.size w (w'.alloc o) := (h.own.alloc o).below
theorem old_new {s s3 : Option Addr} {P : Prop} {b n m : Nat} (h : (s = s3 ∧ P) ∨ ∀ k ∈ blks s, m ≤ k) (h3 : ∀ k ∈ blks s3, n ≤ k) (hn : b < n) (hm : b < m) : ∀ k ∈ blks s, b < k := fun k hk => by
  rcases h with ⟨rfl, _⟩ | h
  · exact Nat.lt_of_lt_of_le hn (h3 k hk)
  · exact Nat.lt_of_lt_of_le hm (h k hk)
theorem set_other (w : World) {j k : Nat} (h : j ≠ k) (u v : Value) : ((w.setCell ⟨k, 0, none⟩ u).setCell ⟨k, 1, none⟩ v).heap[j]? = w.heap[j]? :=
  (Below.heap_setCell _ _ _ _ (by simpa using h)).trans (Below.heap_setCell _ _ _ _ (by simpa using h))
def plCel (w : World) (i b : Nat) (wr : World) : Prop := ∃ hs a cap, Cl.okHs hs i ∧ CBox wr b (Cl.celOf hs) a cap ∧ Own w.heap.size w wr ∧ ∀ k ∈ blks a, b < k


end Go.Proofs.Ytllepgdebjfbdaa
