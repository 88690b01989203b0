/-
  A CELL AND AN ACT THAT WERE HANDED IN, opened.
-/
import Derived.Test.YtigbjmhlcacijaaCellActs
import Derived.Test.YtigbjmhlcacijaaRowMore
import Derived.Lib.SmallJoins
namespace Go.Proofs.Ytigbjmhlcacijaa
open Go.RowKit

section
open Go.ChangeShapes Go.WideShapes Go.ChangeAt
variable {H : Type} {enc : TypeId × Value → H} {w : World} {base : Nat} {spare : Nat → Bool} {held : Bool}
theorem open_ver (fuel : Nat) (cs : List Value) (x : DataW H × List MemPlace) (h : DataW.trod enc Try.prog w base spare held fuel 37 cs = some x) (hw : ∀ n ∈ x.1.weights Try.prog 37, n ≤ 140737488351232) : ∃ c : Cl.Ver, okV c ∧ cs = vcells c := by
  obtain ⟨xs, n, _, hx, hl, hlen, hf⟩ := DataW.trod_struct Try.underlying37 h
  rw [show Try.prog.cellsOf 37 = 3 by kernel_rfl] at hl
  match xs, hlen, cs, hl with
  | [y0, y1, y2], _, [c0, c1, c2], _ =>
    have k0 : Try.prog.cellsOf 23 = 1 := by kernel_rfl
    have k1 : Try.prog.cellsOf 5 = 1 := by kernel_rfl
    have k4 : Try.prog.cellsOf 9 = 1 := by kernel_rfl
    obtain ⟨n0, e0, _, w0⟩ := DataW.trod_int Try.underlying23 (hf 0 _ rfl)
    obtain ⟨n1, e1, _, w1⟩ := DataW.trod_int Try.underlying5 (hf 1 _ rfl)
    obtain ⟨n4, e4, hy, _⟩ := DataW.trod_string Try.underlying9 (hf 2 _ rfl)
    obtain ⟨u0, rfl, hu0⟩ := nat64_of_wf w0
    obtain ⟨u1, rfl, hu1⟩ := nat8_of_wf w1
    have hz : n4.size ≤ 140737488351232 := by
      refine hw _ ?_
      rw [hx]
      simp only [DataW.weights, Try.underlying37, hy]
      exact DataW.weights_mem_each (j := 2) rfl rfl _ (by simp [DataW.weights])
    refine ⟨⟨u0, u1, n4⟩, ⟨(show u0 < 18446744073709551616 by omega), (show u1 ≤ 255 by omega), hz⟩, ?_⟩
    clear h hf
    simp_all [vcells]
theorem open_actv {r : Reach} {b0 : Nat} {v : Value} {fuel : Nat} {x : DataW H × List MemPlace} (hv : Value.okWide Try.prog w r b0 34 v) (h : DataW.trod enc Try.prog w base spare held fuel 34 v.cells.toList = some x)
    (hw : ∀ n ∈ x.1.weights Try.prog 34, n ≤ 140737488351232) : ∃ c : Xct, v = .agg #[.int .u8 c.kind, .bool c.any, .int .u64 c.want, .int .u64 c.n, .string c.t] ∧ okA c := by
  obtain ⟨cs, rfl, hsz⟩ := okWide_struct Try.underlying34 hv
  obtain ⟨c, hok, he⟩ := open_act fuel _ x h hw
  refine ⟨c, ?_, hok⟩
  obtain ⟨l⟩ := cs
  simp only [Value.cells, acells] at he
  subst he
  rfl
theorem open_cell {r : Reach} {b0 : Nat} {v : Value} {fuel : Nat} {x : DataW H × List MemPlace} (hv : Value.okWide Try.prog w r b0 27 v) (h : DataW.trod enc Try.prog w base spare held fuel 27 v.cells.toList = some x)
    (hw : ∀ n ∈ x.1.weights Try.prog 27, n ≤ 140737488351232) : ∃ (m : Nat) (aa : Option Addr) (cc : Nat) (l : List Cl.Ver), v = .agg #[.int .u64 m, .slice aa l.length cc] ∧ m < 18446744073709551616 ∧ (∀ v ∈ l, okV v) ∧ VersAt w aa l ∧ l.length ≤ 9223372036854775807 ∧ (aa = none → cc = 0) := by
  obtain ⟨cs, rfl, hsz⟩ := okWide_struct Try.underlying27 hv
  obtain ⟨xs, n, _, hx, hl, hlen, hf⟩ := DataW.trod_struct Try.underlying27 h
  rw [show Try.prog.cellsOf 27 = 2 by kernel_rfl] at hl
  obtain ⟨cl⟩ := cs
  simp only [Value.cells] at hf hl
  match xs, hlen, cl, hl with
  | [y0, y1], _, [c0, c1], _ =>
    have k0 : Try.prog.cellsOf 23 = 1 := by kernel_rfl
    have k1 : Try.prog.cellsOf 25 = 1 := by kernel_rfl
    obtain ⟨n0, e0, _, w0⟩ := DataW.trod_int Try.underlying23 (hf 0 _ rfl)
    obtain ⟨a, cap, l, hcs, hok, hrow, hlc, hcm, _, hnil⟩ := open_row_more (size := 3) vcells okV 140737488351232 Try.underlying25 (by kernel_rfl) (by decide) open_ver (hf 1 _ rfl) (fun k hk => hw k (by
      rw [hx]
      simp only [DataW.weights, Try.underlying27]
      exact DataW.weights_mem_each (j := 1) rfl rfl _ hk))
    obtain ⟨u0, rfl, hu0⟩ := nat64_of_wf w0
    have h63 : maxLen = 9223372036854775807 := rfl
    refine ⟨u0, a, cap, l, ?_, by omega, hok, hrow, by omega, hnil⟩
    clear h hf
    simp_all
end

end Go.Proofs.Ytigbjmhlcacijaa
