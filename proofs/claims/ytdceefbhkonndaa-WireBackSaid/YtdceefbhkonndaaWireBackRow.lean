/-
  THE STATEMENT WireBackSaid, out of its walk: for every input the law returns true, and the input reads as it did.
-/
import Derived.Test.YtdceefbhkonndaaWireBack
import Derived.Test.YtdceefbhkonndaaWireArgs2
import Derived.ProofKit
import Derived.OpenShut
import Derived.ShutString
import Derived.ChangeOld
import Derived.Below
import Derived.SizedLaws
namespace Go.Proofs.Ytdceefbhkonndaa.wireBack
open Go.ChangeShapes Go.WideShapes Go.ChangeAt Go.RowKit
open Go.ChangeMaps (open_string shut_string)
set_option linter.unusedVariables false

theorem own : ownKnob Try.prog.godebug = none := by kernel_rfl
theorem laidOut : laidOutB Try.prog = true := by kernel_rfl

set_option maxRecDepth 100000 in
theorem lifted (os : Os) (started : os.Started) (H : Type) (enc : TypeId × Value → H) :
    ReturnsInHanded {} Try.checked os 5 .any (Rows.wireBackSpec.pre6 enc Try.prog Try.f5 Rows.wireBackRow.domain false) (Rows.wireBackSpec.post enc Try.prog Try.f5 false true false false) := by
  refine returnsInHanded_of_change_sized (C := Try.checked) own started (by kernel_rfl) Try.func5
    (ChangeSpec.witness6 (enc := enc) (C := Try.checked) false ⟨#[], #[.slice none 0 0, .slice none 0 0, .slice none 0 0, .slice none 0 0], []⟩ 8 (by kernel_rfl) (by kernel_rfl) (by kernel_rfl) (by kernel_rfl)) ?_
  intro W base args ds gs before hval0 hW hcnd hsz _
  have hval : ∀ (j : Nat) t v, Try.f5.params[j]? = some t → args[j]? = some v → Value.okWide Try.prog W .any base t v := hval0
  have hW' := hW
  obtain ⟨p, q, hA0, hV, rfl, hfz, hnd⟩ := hW
  have hA : DataW.TrodAll enc Try.prog W 0 (fun _ => true) true Try.f5.params.toList args.toList ds p := hA0
  rw [Try.params5] at hA hval
  obtain ⟨v0, vs0, d0, ds0, p0, q0, hargs, rfl, rfl, h0, r0⟩ := trodAll_cons hA
  obtain ⟨v1, vs1, d1, ds1, p1, q1, rfl, rfl, rfl, h1, r1⟩ := trodAll_cons r0
  obtain ⟨v2, vs2, d2, ds2, p2, q2, rfl, rfl, rfl, h2, r2⟩ := trodAll_cons r1
  obtain ⟨v3, vs3, d3, ds3, p3, q3, rfl, rfl, rfl, h3, r3⟩ := trodAll_cons r2
  obtain ⟨rfl, rfl, rfl⟩ := trodAll_nil r3
  obtain rfl : args = #[v0, v1, v2, v3] := by cases args; simp_all
  obtain ⟨rfl, rfl⟩ := trodVars_none hV
  have k0 := h0
  have lt0 : ∀ x ∈ p0, x.block < W.heap.size := by obtain ⟨m, hm⟩ := k0; exact DataW.trod_lt m _ _ _ hm
  have g0 := hval 0 22 v0 rfl rfl
  have k1 := h1
  have lt1 : ∀ x ∈ p1, x.block < W.heap.size := by obtain ⟨m, hm⟩ := k1; exact DataW.trod_lt m _ _ _ hm
  have g1 := hval 1 23 v1 rfl rfl
  have k2 := h2
  have lt2 : ∀ x ∈ p2, x.block < W.heap.size := by obtain ⟨m, hm⟩ := k2; exact DataW.trod_lt m _ _ _ hm
  have g2 := hval 2 24 v2 rfl rfl
  have k3 := h3
  have lt3 : ∀ x ∈ p3, x.block < W.heap.size := by obtain ⟨m, hm⟩ := k3; exact DataW.trod_lt m _ _ _ hm
  have g3 := hval 3 25 v3 rfl rfl
  clear hA0 hval0
  obtain ⟨aa0, nn0, cc0, rfl⟩ := Go.WideShapes.okWide_slice Try.underlying22 (hval 0 22 v0 rfl rfl)
  obtain ⟨fuel0, hf0⟩ := h0
  obtain ⟨a0, cap0, l0, hcs0, hl0, hrow0, hlc0, hcm0⟩ := open_row_more (size := 1) ucell (fun x => x < 18446744073709551616) 140737488351232 Try.underlying22 (by kernel_rfl) (by decide) (open_u Try.underlying29) hf0 (weights_of hsz (j := 0) rfl rfl)
  have hcs0' : (Value.slice aa0 nn0 cc0) = .slice a0 l0.length cap0 := by simpa [Value.cells] using hcs0
  injection hcs0' with e1 e2 e3
  subst e1 e2 e3
  have hcl0 : l0.length ≤ 9223372036854775807 := by have : maxLen = 9223372036854775807 := rfl; omega
  have hlb0 : l0.length ≤ 140737488351232 := by
    have h1 := hcm0.2.1
    rw [show Try.prog.bytesOf 29 = 8 by kernel_rfl] at h1
    omega
  obtain ⟨aa1, nn1, cc1, rfl⟩ := Go.WideShapes.okWide_slice Try.underlying23 (hval 1 23 v1 rfl rfl)
  obtain ⟨fuel1, hf1⟩ := h1
  obtain ⟨a1, cap1, l1, hcs1, hl1, hrow1, hlc1, hcm1⟩ := open_row_more (size := 1) icell (fun x => -9223372036854775808 ≤ x ∧ x ≤ 9223372036854775807) 140737488351232 Try.underlying23 (by kernel_rfl) (by decide) (open_i Try.underlying2) hf1 (weights_of hsz (j := 1) rfl rfl)
  have hcs1' : (Value.slice aa1 nn1 cc1) = .slice a1 l1.length cap1 := by simpa [Value.cells] using hcs1
  injection hcs1' with e1 e2 e3
  subst e1 e2 e3
  have hcl1 : l1.length ≤ 9223372036854775807 := by have : maxLen = 9223372036854775807 := rfl; omega
  have hlb1 : l1.length ≤ 140737488351232 := by
    have h1 := hcm1.2.1
    rw [show Try.prog.bytesOf 2 = 8 by kernel_rfl] at h1
    omega
  obtain ⟨aa2, nn2, cc2, rfl⟩ := Go.WideShapes.okWide_slice Try.underlying24 (hval 2 24 v2 rfl rfl)
  obtain ⟨fuel2, hf2⟩ := h2
  obtain ⟨a2, cap2, l2, hcs2, hl2, hrow2, hlc2, hcm2⟩ := open_row_more (size := 1) tcell (fun t => t.size ≤ 140737488351232) 140737488351232 Try.underlying24 (by kernel_rfl) (by decide) (open_text Try.underlying9) hf2 (weights_of hsz (j := 2) rfl rfl)
  have hcs2' : (Value.slice aa2 nn2 cc2) = .slice a2 l2.length cap2 := by simpa [Value.cells] using hcs2
  injection hcs2' with e1 e2 e3
  subst e1 e2 e3
  have hcl2 : l2.length ≤ 9223372036854775807 := by have : maxLen = 9223372036854775807 := rfl; omega
  have hlb2 : l2.length ≤ 140737488351232 := by
    have h1 := hcm2.2.1
    rw [show Try.prog.bytesOf 9 = 16 by kernel_rfl] at h1
    omega
  obtain ⟨aa3, nn3, cc3, rfl⟩ := Go.WideShapes.okWide_slice Try.underlying25 (hval 3 25 v3 rfl rfl)
  obtain ⟨fuel3, hf3⟩ := h3
  obtain ⟨a3, cap3, l3, hcs3, hl3, hrow3, hlc3, hcm3⟩ := open_row_more (size := 1) bcell (fun _ => True) 140737488351232 Try.underlying25 (by kernel_rfl) (by decide) (open_b Try.underlying4) hf3 (weights_of hsz (j := 3) rfl rfl)
  have hcs3' : (Value.slice aa3 nn3 cc3) = .slice a3 l3.length cap3 := by simpa [Value.cells] using hcs3
  injection hcs3' with e1 e2 e3
  subst e1 e2 e3
  have hcl3 : l3.length ≤ 9223372036854775807 := by have : maxLen = 9223372036854775807 := rfl; omega
  have hlb3 : l3.length ≤ 140737488351232 := by
    have h1 := hcm3.2.1
    rw [show Try.prog.bytesOf 4 = 1 by kernel_rfl] at h1
    omega
  refine (wireBack_any W l0 l1 l2 l3 aa0 aa1 aa2 aa3 cc0 cc1 cc2 cc3 ⟨hrow0, hrow1, hrow2, hrow3, hcm0.2.2, hcm1.2.2, hcm2.2.2, hcm3.2.2, hl0, hl1⟩ hlb0 hlb1 hlb2 hlb3 hl2).mono fun e W' ⟨he, bel⟩ => ?_
  subst he
  exact ⟨_, rfl, _, _, _, [], _, [], hW', trodAll_mk1 (shut_bool Try.underlying4 _), (trodAll_cons_mk (Below.trod laidOut (by kernel_rfl) (of_decide_eq_true (by kernel_rfl)) k0 bel lt0) (trodAll_cons_mk (Below.trod laidOut (by kernel_rfl) (of_decide_eq_true (by kernel_rfl)) k1 bel lt1) (trodAll_cons_mk (Below.trod laidOut (by kernel_rfl) (of_decide_eq_true (by kernel_rfl)) k2 bel lt2) (trodAll_cons_mk (Below.trod laidOut (by kernel_rfl) (of_decide_eq_true (by kernel_rfl)) k3 bel lt3) trodAll_mk0)))), rfl, bel.frame _, fun h => by cases h⟩

theorem over : Rows.wireBackRow.holds Try.pinned (OpenSpec.ofChange Rows.wireBackSpec) :=
  OpenClaim.holds_of_wide 5 Try.f5 rfl rfl rfl rfl rfl rfl rfl ⟨rfl, rfl, rfl, rfl, rfl⟩ rfl rfl rfl rfl rfl (by kernel_rfl) Try.func5 (by kernel_rfl)
    (of_decide_eq_true (by kernel_rfl)) (by unfold Func.isWrapper; first | (rw [if_pos (by decide +kernel)]; kernel_rfl) | (rw [if_neg (by decide +kernel)]; exact ⟨rfl, rfl⟩))
    (fun os started H enc _ => lifted os started H enc)

theorem proved : Rows.WireBackSaid := over
#print axioms proved
end Go.Proofs.Ytdceefbhkonndaa.wireBack
