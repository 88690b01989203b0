/-
  THE STATEMENT SegmentOrderSaid, out of its walk: for every input the law returns true, and the input reads as it did.
-/
import Derived.Test.YtboplbcfoooenaaSegOrder
import Derived.ProofKit
import Derived.OpenShut
import Derived.ShutString
import Derived.ChangeOld
import Derived.Below
import Derived.SizedLaws
namespace Go.Proofs.Ytboplbcfoooenaa.segmentOrder
open Go.ChangeShapes Go.WideShapes Go.ChangeAt Go.RowKit
open Go.ChangeMaps (open_string shut_string)
set_option linter.unusedVariables false

theorem own : ownKnob Try.prog.godebug = none := by kernel_rfl
theorem laidOut : laidOutB Try.prog = true := by kernel_rfl

set_option maxRecDepth 100000 in
theorem lifted (os : Os) (started : os.Started) (H : Type) (enc : TypeId × Value → H) :
    ReturnsInHanded {} Try.checked os 4 .any (Rows.segmentOrderSpec.pre6 enc Try.prog Try.f4 Rows.segmentOrderRow.domain false) (Rows.segmentOrderSpec.post enc Try.prog Try.f4 false true false false) := by
  refine returnsInHanded_of_change_sized (C := Try.checked) own started (by kernel_rfl) Try.func4
    (ChangeSpec.witness6 (enc := enc) (C := Try.checked) false ⟨#[], #[.slice none 0 0, .slice none 0 0, .int .u32 0, .int .u32 0, .slice none 0 0], []⟩ 8 (by kernel_rfl) (by kernel_rfl) (by kernel_rfl) (by kernel_rfl)) ?_
  intro W base args ds gs before hval0 hW hcnd hsz _
  have hval : ∀ (j : Nat) t v, Try.f4.params[j]? = some t → args[j]? = some v → Value.okWide Try.prog W .any base t v := hval0
  have hW' := hW
  obtain ⟨p, q, hA0, hV, rfl, hfz, hnd⟩ := hW
  have hA : DataW.TrodAll enc Try.prog W 0 (fun _ => true) true Try.f4.params.toList args.toList ds p := hA0
  rw [Try.params4] at hA hval
  obtain ⟨v0, vs0, d0, ds0, p0, q0, hargs, rfl, rfl, h0, r0⟩ := trodAll_cons hA
  obtain ⟨v1, vs1, d1, ds1, p1, q1, rfl, rfl, rfl, h1, r1⟩ := trodAll_cons r0
  obtain ⟨v2, vs2, d2, ds2, p2, q2, rfl, rfl, rfl, h2, r2⟩ := trodAll_cons r1
  obtain ⟨v3, vs3, d3, ds3, p3, q3, rfl, rfl, rfl, h3, r3⟩ := trodAll_cons r2
  obtain ⟨v4, vs4, d4, ds4, p4, q4, rfl, rfl, rfl, h4, r4⟩ := trodAll_cons r3
  obtain ⟨rfl, rfl, rfl⟩ := trodAll_nil r4
  obtain rfl : args = #[v0, v1, v2, v3, v4] := by cases args; simp_all
  obtain ⟨rfl, rfl⟩ := trodVars_none hV
  have k0 := h0
  have lt0 : ∀ x ∈ p0, x.block < W.heap.size := by obtain ⟨m, hm⟩ := k0; exact DataW.trod_lt m _ _ _ hm
  have g0 := hval 0 37 v0 rfl rfl
  have k1 := h1
  have lt1 : ∀ x ∈ p1, x.block < W.heap.size := by obtain ⟨m, hm⟩ := k1; exact DataW.trod_lt m _ _ _ hm
  have g1 := hval 1 22 v1 rfl rfl
  obtain ⟨a2, rfl, rfl, rfl, w2⟩ := open_int Try.underlying38 (hval 2 38 v2 rfl rfl) h2
  obtain ⟨a3, rfl, rfl, rfl, w3⟩ := open_int Try.underlying38 (hval 3 38 v3 rfl rfl) h3
  have k4 := h4
  have lt4 : ∀ x ∈ p4, x.block < W.heap.size := by obtain ⟨m, hm⟩ := k4; exact DataW.trod_lt m _ _ _ hm
  have g4 := hval 4 39 v4 rfl rfl
  clear hA0 hval0
  obtain ⟨aa0, nn0, cc0, rfl⟩ := Go.WideShapes.okWide_slice Try.underlying37 (hval 0 37 v0 rfl rfl)
  obtain ⟨fuel0, hf0⟩ := h0
  obtain ⟨a0, cap0, l0, hcs0, hl0, hrow0, hlc0, hcm0⟩ := open_row_more (size := 1) (PieceA.cells) (okPA W) 140737488351232 Try.underlying37 (by kernel_rfl) (by decide) (open_piece) hf0 (weights_of hsz (j := 0) rfl rfl)
  have hcs0' : (Value.slice aa0 nn0 cc0) = .slice a0 l0.length cap0 := by simpa [Value.cells] using hcs0
  injection hcs0' with e1 e2 e3
  subst e1 e2 e3
  have hcl0 : l0.length ≤ 9223372036854775807 := by have h1 := hcm0.1; have : maxLen = 9223372036854775807 := rfl; omega
  obtain ⟨aa1, nn1, cc1, rfl⟩ := Go.WideShapes.okWide_slice Try.underlying22 (hval 1 22 v1 rfl rfl)
  obtain ⟨fuel1, hf1⟩ := h1
  obtain ⟨a1, cap1, l1, hcs1, hl1, hrow1, hlc1, hcm1⟩ := open_row_more (size := 7) (SegA.cells) (okSA W) 140737488351232 Try.underlying22 (by kernel_rfl) (by decide) (open_segc) hf1 (weights_of hsz (j := 1) rfl rfl)
  have hcs1' : (Value.slice aa1 nn1 cc1) = .slice a1 l1.length cap1 := by simpa [Value.cells] using hcs1
  injection hcs1' with e1 e2 e3
  subst e1 e2 e3
  have hcl1 : l1.length ≤ 9223372036854775807 := by have h1 := hcm1.1; have : maxLen = 9223372036854775807 := rfl; omega
  obtain ⟨aa4, nn4, cc4, rfl⟩ := Go.WideShapes.okWide_slice Try.underlying39 (hval 4 39 v4 rfl rfl)
  obtain ⟨fuel4, hf4⟩ := h4
  obtain ⟨a4, cap4, l4, hcs4, hl4, hrow4, hlc4, hcm4⟩ := open_row_more (size := 1) (fun b : Nat => [Value.int .u8 b]) (fun b => b < 256) 140737488351232 Try.underlying39 (by kernel_rfl) (by decide) (open_8) hf4 (weights_of hsz (j := 4) rfl rfl)
  have hcs4' : (Value.slice aa4 nn4 cc4) = .slice a4 l4.length cap4 := by simpa [Value.cells] using hcs4
  injection hcs4' with e1 e2 e3
  subst e1 e2 e3
  have hcl4 : l4.length ≤ 9223372036854775807 := by have h1 := hcm4.1; have : maxLen = 9223372036854775807 := rfl; omega
  obtain ⟨n2, rfl, hn2⟩ := nat32_of_wf w2
  obtain ⟨n3, rfl, hn3⟩ := nat32_of_wf w3
  refine (segmentOrder_any W aa0 cc0 l0 hrow0 hl0 aa1 cc1 l1 hrow1 hl1 n2 n3 (by omega) (by omega) aa4 cc4 l4 hrow4 hl4 hcl0 hcl1 hcl4).mono fun e W' ⟨he, bel⟩ => ?_
  subst he
  exact ⟨_, rfl, _, _, _, [], _, [], hW', trodAll_mk1 (shut_bool Try.underlying4 _), (trodAll_cons_mk (Below.trod laidOut (by kernel_rfl) (of_decide_eq_true (by kernel_rfl)) k0 bel lt0) (trodAll_cons_mk (Below.trod laidOut (by kernel_rfl) (of_decide_eq_true (by kernel_rfl)) k1 bel lt1) (trodAll_cons_mk (shut_int Try.underlying38 w2) (trodAll_cons_mk (shut_int Try.underlying38 w3) (trodAll_cons_mk (Below.trod laidOut (by kernel_rfl) (of_decide_eq_true (by kernel_rfl)) k4 bel lt4) trodAll_mk0))))), rfl, bel.frame _, fun h => by cases h⟩

theorem over : Rows.segmentOrderRow.holds Try.pinned (OpenSpec.ofChange Rows.segmentOrderSpec) :=
  OpenClaim.holds_of_wide 4 Try.f4 rfl rfl rfl rfl rfl rfl rfl ⟨rfl, rfl, rfl, rfl, rfl⟩ rfl rfl rfl rfl rfl (by kernel_rfl) Try.func4 (by kernel_rfl)
    (of_decide_eq_true (by kernel_rfl)) (by unfold Func.isWrapper; first | (rw [if_pos (by decide +kernel)]; kernel_rfl) | (rw [if_neg (by decide +kernel)]; exact ⟨rfl, rfl⟩))
    (fun os started H enc _ => lifted os started H enc)

theorem proved : Rows.SegmentOrderSaid := over
#print axioms proved
end Go.Proofs.Ytboplbcfoooenaa.segmentOrder
