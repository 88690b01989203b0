/-
  THE STATEMENT WireSameSaid, out of its walk: for every input the law returns true, and the input reads as it did.
-/
import Derived.Test.YtdceefbhkonndaaWireSame
import Derived.Test.YtdceefbhkonndaaWireArgs2
import Derived.ProofKit
import Derived.OpenShut
import Derived.ShutString
import Derived.ChangeOld
import Derived.Below
import Derived.SizedLaws
namespace Go.Proofs.Ytdceefbhkonndaa.wireSame
open Go.ChangeShapes Go.WideShapes Go.ChangeAt Go.RowKit
open Go.ChangeMaps (open_string shut_string)
set_option linter.unusedVariables false

theorem own : ownKnob Try.prog.godebug = none := by kernel_rfl
theorem laidOut : laidOutB Try.prog = true := by kernel_rfl

set_option maxRecDepth 100000 in
theorem lifted (os : Os) (started : os.Started) (H : Type) (enc : TypeId × Value → H) :
    ReturnsInHanded {} Try.checked os 4 .any (Rows.wireSameSpec.pre6 enc Try.prog Try.f4 Rows.wireSameRow.domain false) (Rows.wireSameSpec.post enc Try.prog Try.f4 false true false false) := by
  refine returnsInHanded_of_change_sized (C := Try.checked) own started (by kernel_rfl) Try.func4
    (ChangeSpec.witness6 (enc := enc) (C := Try.checked) false ⟨#[], #[.string ByteArray.empty, .int .u64 0, .int .u64 0, .slice none 0 0, .slice none 0 0], []⟩ 8 (by kernel_rfl) (by kernel_rfl) (by kernel_rfl) (by kernel_rfl)) ?_
  intro W base args ds gs before hval0 hW hcnd hsz _
  have hval : ∀ (j : Nat) t v, Try.f4.params[j]? = some t → args[j]? = some v → Value.okWide Try.prog W .any base t v := hval0
  have hW' := hW
  obtain ⟨p, q, hA0, hV, rfl, hfz, hnd⟩ := hW
  have hA : DataW.TrodAll enc Try.prog W 0 (fun _ => true) true Try.f4.params.toList args.toList ds p := hA0
  rw [Try.params4] at hA hval
  obtain ⟨v0, vs0, d0, ds0, p0, q0, hargs, rfl, rfl, h0, r0⟩ := trodAll_cons hA
  obtain ⟨v1, vs1, d1, ds1, p1, q1, rfl, rfl, rfl, h1, r1⟩ := trodAll_cons r0
  obtain ⟨v2, vs2, d2, ds2, p2, q2, rfl, rfl, rfl, h2, r2⟩ := trodAll_cons r1
  obtain ⟨v3, vs3, d3, ds3, p3, q3, rfl, rfl, rfl, h3, r3⟩ := trodAll_cons r2
  obtain ⟨v4, vs4, d4, ds4, p4, q4, rfl, rfl, rfl, h4, r4⟩ := trodAll_cons r3
  obtain ⟨rfl, rfl, rfl⟩ := trodAll_nil r4
  obtain rfl : args = #[v0, v1, v2, v3, v4] := by cases args; simp_all
  obtain ⟨rfl, rfl⟩ := trodVars_none hV
  obtain ⟨a0, rfl, rfl, rfl, w0⟩ := open_string Try.underlying9 (hval 0 9 v0 rfl rfl) h0
  have z0 : a0.size ≤ 140737488351232 := sized_string hsz (j := 0) (t := 9) rfl rfl
  obtain ⟨a1, rfl, rfl, rfl, w1⟩ := open_int Try.underlying29 (hval 1 29 v1 rfl rfl) h1
  obtain ⟨a2, rfl, rfl, rfl, w2⟩ := open_int Try.underlying29 (hval 2 29 v2 rfl rfl) h2
  have k3 := h3
  have lt3 : ∀ x ∈ p3, x.block < W.heap.size := by obtain ⟨m, hm⟩ := k3; exact DataW.trod_lt m _ _ _ hm
  have g3 := hval 3 24 v3 rfl rfl
  have k4 := h4
  have lt4 : ∀ x ∈ p4, x.block < W.heap.size := by obtain ⟨m, hm⟩ := k4; exact DataW.trod_lt m _ _ _ hm
  have g4 := hval 4 24 v4 rfl rfl
  clear hA0 hval0
  obtain ⟨n1, rfl, hn1⟩ := nat64_of_wf w1
  obtain ⟨n2, rfl, hn2⟩ := nat64_of_wf w2
  obtain ⟨aa3, nn3, cc3, rfl⟩ := Go.WideShapes.okWide_slice Try.underlying24 (hval 3 24 v3 rfl rfl)
  obtain ⟨fuel3, hf3⟩ := h3
  obtain ⟨a3, cap3, l3, hcs3, hl3, hrow3, hlc3, hcm3⟩ := open_row_more (size := 1) tcell (fun t => t.size ≤ 140737488351232) 140737488351232 Try.underlying24 (by kernel_rfl) (by decide) (open_text Try.underlying9) hf3 (weights_of hsz (j := 3) rfl rfl)
  have hcs3' : (Value.slice aa3 nn3 cc3) = .slice a3 l3.length cap3 := by simpa [Value.cells] using hcs3
  injection hcs3' with e1 e2 e3
  subst e1 e2 e3
  have hcl3 : l3.length ≤ 9223372036854775807 := by have : maxLen = 9223372036854775807 := rfl; omega
  have hlb3 : l3.length ≤ 140737488351232 := by
    have h1 := hcm3.2.1
    rw [show Try.prog.bytesOf 9 = 16 by kernel_rfl] at h1
    omega
  obtain ⟨aa4, nn4, cc4, rfl⟩ := Go.WideShapes.okWide_slice Try.underlying24 (hval 4 24 v4 rfl rfl)
  obtain ⟨fuel4, hf4⟩ := h4
  obtain ⟨a4, cap4, l4, hcs4, hl4, hrow4, hlc4, hcm4⟩ := open_row_more (size := 1) tcell (fun t => t.size ≤ 140737488351232) 140737488351232 Try.underlying24 (by kernel_rfl) (by decide) (open_text Try.underlying9) hf4 (weights_of hsz (j := 4) rfl rfl)
  have hcs4' : (Value.slice aa4 nn4 cc4) = .slice a4 l4.length cap4 := by simpa [Value.cells] using hcs4
  injection hcs4' with e1 e2 e3
  subst e1 e2 e3
  have hcl4 : l4.length ≤ 9223372036854775807 := by have : maxLen = 9223372036854775807 := rfl; omega
  have hlb4 : l4.length ≤ 140737488351232 := by
    have h1 := hcm4.2.1
    rw [show Try.prog.bytesOf 9 = 16 by kernel_rfl] at h1
    omega
  refine (wireSame_any W a0 n1 n2 l3 l4 aa3 aa4 cc3 cc4 hrow3 hrow4 hcm3.2.2 hcm4.2.2 z0 (by omega) (by omega) hlb3 hlb4 hl3 hl4).mono fun e W' ⟨he, bel⟩ => ?_
  subst he
  exact ⟨_, rfl, _, _, _, [], _, [], hW', trodAll_mk1 (shut_bool Try.underlying4 _), (trodAll_cons_mk (shut_string Try.underlying9 w0) (trodAll_cons_mk (shut_int Try.underlying29 w1) (trodAll_cons_mk (shut_int Try.underlying29 w2) (trodAll_cons_mk (Below.trod laidOut (by kernel_rfl) (of_decide_eq_true (by kernel_rfl)) k3 bel lt3) (trodAll_cons_mk (Below.trod laidOut (by kernel_rfl) (of_decide_eq_true (by kernel_rfl)) k4 bel lt4) trodAll_mk0))))), rfl, bel.frame _, fun h => by cases h⟩

theorem over : Rows.wireSameRow.holds Try.pinned (OpenSpec.ofChange Rows.wireSameSpec) :=
  OpenClaim.holds_of_wide 4 Try.f4 rfl rfl rfl rfl rfl rfl rfl ⟨rfl, rfl, rfl, rfl, rfl⟩ rfl rfl rfl rfl rfl (by kernel_rfl) Try.func4 (by kernel_rfl)
    (of_decide_eq_true (by kernel_rfl)) (by unfold Func.isWrapper; first | (rw [if_pos (by decide +kernel)]; kernel_rfl) | (rw [if_neg (by decide +kernel)]; exact ⟨rfl, rfl⟩))
    (fun os started H enc _ => lifted os started H enc)

theorem proved : Rows.WireSameSaid := over
#print axioms proved
end Go.Proofs.Ytdceefbhkonndaa.wireSame
