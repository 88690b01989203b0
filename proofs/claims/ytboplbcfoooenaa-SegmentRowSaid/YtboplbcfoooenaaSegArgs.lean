/-
  A SEGMENT THAT WAS HANDED IN, and lists of segments, opened.
-/
import Derived.Test.YtboplbcfoooenaaSegSmall
import Derived.Test.YtboplbcfoooenaaRowMore
import Derived.Lib.SmallJoins
namespace Go.Proofs.Ytboplbcfoooenaa
open Go.RowKit

/-- A segment with the row of its records. -/
structure SegA where
  x : Sx
  a : Option Addr
  cap : Nat
instance : Inhabited SegA := ⟨⟨⟨0, 0, 0, ⟨#[]⟩, [], 0, false⟩, none, 0⟩⟩
def SegA.cells (y : SegA) : List Value := y.x.cells y.a y.cap
def okSA (w : World) (y : SegA) : Prop := okH y.x ∧ RowIs w 1 y.a (y.x.recs.map tcell) ∧ y.x.recs.length ≤ y.cap

section
open Go.ChangeShapes Go.WideShapes Go.ChangeAt
variable {H : Type} {enc : TypeId × Value → H} {w : World} {base : Nat} {spare : Nat → Bool} {held : Bool}
set_option maxRecDepth 20000 in
theorem open_segc (fuel : Nat) (cs : List Value) (x : DataW H × List MemPlace) (h : DataW.trod enc Try.prog w base spare held fuel 28 cs = some x) (hw : ∀ n ∈ x.1.weights Try.prog 28, n ≤ 140737488351232) : ∃ c : SegA, okSA w c ∧ cs = c.cells := by
  obtain ⟨xs, n, _, hx, hl, hlen, hf⟩ := DataW.trod_struct Try.underlying28 h
  rw [show Try.prog.cellsOf 28 = 7 by kernel_rfl] at hl
  match xs, hlen, cs, hl with
  | [y0, y1, y2, y3, y4, y5, y6], _, [c0, c1, c2, c3, c4, c5, c6], _ =>
    have k0 : Try.prog.cellsOf 5 = 1 := by kernel_rfl
    have k1 : Try.prog.cellsOf 25 = 1 := by kernel_rfl
    have k2 : Try.prog.cellsOf 9 = 1 := by kernel_rfl
    have k3 : Try.prog.cellsOf 26 = 1 := by kernel_rfl
    have k4 : Try.prog.cellsOf 3 = 1 := by kernel_rfl
    have k5 : Try.prog.cellsOf 4 = 1 := by kernel_rfl
    obtain ⟨n0, e0, _, w0⟩ := DataW.trod_int Try.underlying5 (hf 0 _ rfl)
    obtain ⟨n1, e1, _, w1⟩ := DataW.trod_int Try.underlying25 (hf 1 _ rfl)
    obtain ⟨n2, e2, _, w2⟩ := DataW.trod_int Try.underlying25 (hf 2 _ rfl)
    obtain ⟨n3, e3, hy, _⟩ := DataW.trod_string Try.underlying9 (hf 3 _ rfl)
    obtain ⟨a, cap, l, hcs, hok, hrow, hlc, hcm, hlb, _⟩ := open_row_more (size := 1) tcell (fun t => t.size ≤ 140737488351232) 140737488351232 Try.underlying26 (by kernel_rfl) (by decide) (open_text Try.underlying9) (hf 4 _ rfl) (fun k hk => hw k (by
      rw [hx]
      simp only [DataW.weights, Try.underlying28]
      exact DataW.weights_mem_each (j := 4) rfl rfl _ hk))
    obtain ⟨n5, e5, _, w5⟩ := DataW.trod_int Try.underlying3 (hf 5 _ rfl)
    obtain ⟨n6, e6, _⟩ := DataW.trod_bool Try.underlying4 (hf 6 _ rfl)
    obtain ⟨u0, rfl, hu0⟩ := nat8_of_wf w0
    obtain ⟨u1, rfl, hu1⟩ := nat64_of_wf w1
    obtain ⟨u2, rfl, hu2⟩ := nat64_of_wf w2
    have hz : n3.size ≤ 140737488351232 := by
      refine hw _ ?_
      rw [hx]
      simp only [DataW.weights, Try.underlying28, hy]
      exact DataW.weights_mem_each (j := 3) rfl rfl _ (by simp [DataW.weights])
    have hlz : l.length ≤ 140737488351232 := by
      rw [show Try.prog.bytesOf 9 = 16 by kernel_rfl] at hlb
      omega
    refine ⟨⟨⟨u0, u1, u2, n3, l, n5, n6⟩, a, cap⟩, ⟨⟨(show u0 < 256 by omega), (show u1 < 18446744073709551616 by omega), (show u2 < 18446744073709551616 by omega), (show l.length ≤ 140737488355328 by omega), (show n3.size ≤ 140737488355328 by omega), fun r hr => (show r.size ≤ 140737488355328 by have := hok r hr; omega)⟩, hrow, hlc⟩, ?_⟩
    clear h hf
    simp_all [SegA.cells, Sx.cells]
set_option maxRecDepth 20000 in
theorem open_segv {r : Reach} {b0 : Nat} {v : Value} {fuel : Nat} {x : DataW H × List MemPlace} (hv : Value.okWide Try.prog w r b0 28 v) (h : DataW.trod enc Try.prog w base spare held fuel 28 v.cells.toList = some x)
    (hw : ∀ n ∈ x.1.weights Try.prog 28, n ≤ 140737488351232) : ∃ (y : Sx) (a : Option Addr) (cap : Nat), v = .agg #[.int .u8 y.kind, .int .u64 y.gen, .int .u64 y.first, .string y.t, .slice a y.recs.length cap, .int .i64 y.used, .bool y.whole] ∧ okH y ∧ RowIs w 1 a (y.recs.map tcell) ∧ y.recs.length ≤ cap := by
  obtain ⟨cs, rfl, hsz⟩ := okWide_struct Try.underlying28 hv
  obtain ⟨c, hok, he⟩ := open_segc fuel _ x h hw
  refine ⟨c.x, c.a, c.cap, ?_, hok.1, hok.2.1, hok.2.2⟩
  obtain ⟨l⟩ := cs
  simp only [Value.cells, SegA.cells, Sx.cells] at he
  subst he
  rfl
end

end Go.Proofs.Ytboplbcfoooenaa
