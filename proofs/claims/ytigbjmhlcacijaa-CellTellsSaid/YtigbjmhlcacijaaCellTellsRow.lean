/-
  THE STATEMENT CellTellsSaid, out of its walk: for every input the law returns true, and the input reads as it did.
-/
import Derived.Test.YtigbjmhlcacijaaCellTells
import Derived.Test.YtigbjmhlcacijaaCellTellArgs
import Derived.ProofKit
import Derived.OpenShut
import Derived.ShutString
import Derived.ChangeOld
import Derived.Below
import Derived.SizedLaws
namespace Go.Proofs.Ytigbjmhlcacijaa.cellTells
open Go.ChangeShapes Go.WideShapes Go.ChangeAt Go.RowKit
open Go.ChangeMaps (open_string shut_string)
set_option linter.unusedVariables false

theorem own : ownKnob Try.prog.godebug = none := by kernel_rfl
theorem laidOut : laidOutB Try.prog = true := by kernel_rfl

set_option maxRecDepth 100000 in
theorem lifted (os : Os) (started : os.Started) (H : Type) (enc : TypeId × Value → H) :
    ReturnsInHanded {} Try.checked os 4 .any (Rows.cellTellsSpec.pre6 enc Try.prog Try.f4 Rows.cellTellsRow.domain false) (Rows.cellTellsSpec.post enc Try.prog Try.f4 false true false false) := by
  refine returnsInHanded_of_change_sized (C := Try.checked) own started (by kernel_rfl) Try.func4
    (ChangeSpec.witness6 (enc := enc) (C := Try.checked) false ⟨#[], #[.agg #[.int .u64 0, .slice none 0 0], .agg #[.int .u8 0, .bool false, .int .u64 0, .int .u64 0, .string ByteArray.empty], .int .u64 0], []⟩ 8 (by kernel_rfl) (by kernel_rfl) (by kernel_rfl) (by kernel_rfl)) ?_
  intro W base args ds gs before hval0 hW hcnd hsz _
  have hval : ∀ (j : Nat) t v, Try.f4.params[j]? = some t → args[j]? = some v → Value.okWide Try.prog W .any base t v := hval0
  have hW' := hW
  obtain ⟨p, q, hA0, hV, rfl, hfz, hnd⟩ := hW
  have hA : DataW.TrodAll enc Try.prog W 0 (fun _ => true) true Try.f4.params.toList args.toList ds p := hA0
  rw [Try.params4] at hA hval
  obtain ⟨v0, vs0, d0, ds0, p0, q0, hargs, rfl, rfl, h0, r0⟩ := trodAll_cons hA
  obtain ⟨v1, vs1, d1, ds1, p1, q1, rfl, rfl, rfl, h1, r1⟩ := trodAll_cons r0
  obtain ⟨v2, vs2, d2, ds2, p2, q2, rfl, rfl, rfl, h2, r2⟩ := trodAll_cons r1
  obtain ⟨rfl, rfl, rfl⟩ := trodAll_nil r2
  obtain rfl : args = #[v0, v1, v2] := by cases args; simp_all
  obtain ⟨rfl, rfl⟩ := trodVars_none hV
  have k0 := h0
  have lt0 : ∀ x ∈ p0, x.block < W.heap.size := by obtain ⟨m, hm⟩ := k0; exact DataW.trod_lt m _ _ _ hm
  have g0 := hval 0 27 v0 rfl rfl
  have k1 := h1
  have lt1 : ∀ x ∈ p1, x.block < W.heap.size := by obtain ⟨m, hm⟩ := k1; exact DataW.trod_lt m _ _ _ hm
  have g1 := hval 1 34 v1 rfl rfl
  obtain ⟨a2, rfl, rfl, rfl, w2⟩ := open_int Try.underlying23 (hval 2 23 v2 rfl rfl) h2
  clear hA0 hval0
  have u0 : ∃ (m : Nat) (aa : Option Addr) (cc : Nat) (l : List Cl.Ver), v0 = .agg #[.int .u64 m, .slice aa l.length cc] ∧ m < 18446744073709551616 ∧ (∀ v ∈ l, okV v) ∧ VersAt W aa l ∧ l.length ≤ 9223372036854775807 ∧ (aa = none → cc = 0) := by
    obtain ⟨fuel, hf⟩ := h0
    exact open_cell g0 hf (weights_of hsz (j := 0) rfl rfl)
  obtain ⟨m0, aa, cc, l0, rfl, hm0, hok0, hv0, hl0, hnil0⟩ := u0
  have u1 : ∃ x : Xct, v1 = .agg #[.int .u8 x.kind, .bool x.any, .int .u64 x.want, .int .u64 x.n, .string x.t] ∧ okA x := by
    obtain ⟨fuel, hf⟩ := h1
    exact open_actv g1 hf (weights_of hsz (j := 1) rfl rfl)
  obtain ⟨x1, rfl, hx1⟩ := u1
  obtain ⟨n2, rfl, hn2⟩ := nat64_of_wf w2
  refine (cellTells_any W ⟨m0, l0⟩ aa cc x1 n2 hv0 hok0 hx1 hnil0 hm0 hl0 (by omega)).mono fun e W' ⟨he, bel⟩ => ?_
  subst he
  exact ⟨_, rfl, _, _, _, [], _, [], hW', trodAll_mk1 (shut_bool Try.underlying4 _), (trodAll_cons_mk (Below.trod laidOut (by kernel_rfl) (of_decide_eq_true (by kernel_rfl)) k0 bel lt0) (trodAll_cons_mk (Below.trod laidOut (by kernel_rfl) (of_decide_eq_true (by kernel_rfl)) k1 bel lt1) (trodAll_cons_mk (shut_int Try.underlying23 w2) trodAll_mk0))), rfl, bel.frame _, fun h => by cases h⟩

theorem over : Rows.cellTellsRow.holds Try.pinned (OpenSpec.ofChange Rows.cellTellsSpec) :=
  OpenClaim.holds_of_wide 4 Try.f4 rfl rfl rfl rfl rfl rfl rfl ⟨rfl, rfl, rfl, rfl, rfl⟩ rfl rfl rfl rfl rfl (by kernel_rfl) Try.func4 (by kernel_rfl)
    (of_decide_eq_true (by kernel_rfl)) (by unfold Func.isWrapper; first | (rw [if_pos (by decide +kernel)]; kernel_rfl) | (rw [if_neg (by decide +kernel)]; exact ⟨rfl, rfl⟩))
    (fun os started H enc _ => lifted os started H enc)

theorem proved : Rows.CellTellsSaid := over
#print axioms proved
end Go.Proofs.Ytigbjmhlcacijaa.cellTells
