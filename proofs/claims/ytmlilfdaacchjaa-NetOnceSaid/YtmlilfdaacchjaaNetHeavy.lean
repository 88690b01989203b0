/-
  THE WALKS of Heavy, and of Same.
-/
import Derived.Test.YtmlilfdaacchjaaNetArgs
namespace Go.Proofs.Ytmlilfdaacchjaa
open Go.RowKit

def HeavyOut (l : List Cmd) (e : Ending) : Prop := ∃ b, e = .returned (.bool b) ∧ (b = false → l.length ≤ 200)
set_option maxRecDepth 20000 in
set_option maxHeartbeats 1000000 in
theorem heavy_any (w : World) (a : Option Addr) (cap : Nat) (l : List Cmd) (h : CmdsAt w a cap l) :
    Calls Try.prog 6 #[.slice a l.length cap] w fun e w' => HeavyOut l e ∧ w = w' := by
  have hmax : (l.length : Int) ≤ 9223372036854775807 := by have h1 := h.2.2.1; have h2 := h.2.2.2; unfold maxLen at h2; omega
  have H := Lib.hid h
  clear h
  go_enter Try.func6, Try.ntmps6
  go_wp2_with fail
  go_loop [3, 4] (fun vn vi => ∃ (i : Nat) (n : Int), i ≤ l.length ∧ vn = .int .i64 n ∧ vi = .int .i64 i) (fun _ vi => l.length - (intOf vi).toNat)
  case atStart => exact ⟨0, 0, Nat.zero_le _, rfl, rfl⟩
  case round =>
    obtain ⟨i, n, hi, rfl, rfl⟩ := hrel
    by_cases hlt : i < l.length
    · obtain ⟨g, off, rfl, hc⟩ := H.out.at i hlt
      have hI : (0 : Int) ≤ i ∧ (i : Int) < l.length := by omega
      have HC := Lib.hid hc
      clear hc
      have c3 : w.cell? ⟨g, off + i * 5 + 3, none⟩ = some (.string l[i].g.text) := HC.out.cell 3 (by simp [ccells])
      generalize l[i].g.text = tx at c3
      go_wp2_with fail
      · go_ret
        exact ⟨⟨true, rfl, fun h => by cases h⟩, rfl⟩
      · go_round
        case rel => exact ⟨i + 1, _, by omega, rfl, by go_num⟩
        case measure => simp [intOf]; omega
    · obtain rfl : i = l.length := by omega
      go_wp2
      go_ret
      exact ⟨⟨decide ((200 : Int) < l.length), rfl, fun h => by simp at h; omega⟩, rfl⟩

section
variable {P : Program}
/-- A whole struct loaded in a region that draws its order. -/
theorem wpQuiet_load_at {ops : Array Oper} {C : World → Prop} {rest : List Oper} {o : Oper} {a : Act} {Q : Act → Prop} (hgd : o.guard = none) (ty : TypeId) (x : Operand) (ho : o.op = .load ty x)
    (g p : Nat) (hx : a.eval x = .pointer (some ⟨g, p, none⟩)) (xs : List Value) (d : TypeDesc) (hc : ∀ w, C w → CellsAt w g p xs)
    (hu : P.underlying ty = some d) (hd : (match d with | .struct _ | .array _ _ => true | _ => false) = true) (hi : (P.info? ty).map (·.size) = some xs.length)
    (h : wpQuiet P ops C Q rest (a.put o.dst (.agg xs.toArray))) : wpQuiet P ops C Q (o :: rest) a := by
  refine wpQuiet_step fun K hK => ?_
  have hw : Region.wanted o (yielded ops a.tmps) = true := by unfold Region.wanted; rw [hgd]
  rw [if_pos hw]
  refine ⟨.agg xs.toArray, fun w hCw => ?_, hK _ h⟩
  obtain ⟨cs, t, fr, hg, hn, he⟩ := hc w hCw
  unfold Oper.quietAt execOp
  have hl := run_loadVar_agg (P := P) w g p xs.length t ty cs fr d hg hu hd hi hn
  rw [he] at hl
  simp only [ho, hx, Instr.loadAt, Instr.sureAddr, Sem.run_bind, Sem.run_pure, Result.andThen_ok, hl]
  exact ⟨rfl, rfl⟩
end

set_option maxRecDepth 20000 in
set_option maxHeartbeats 1000000 in
theorem same_eq (w : World) (a a' : Option Addr) (cap cap' : Nat) (l : List Gram) (hf : l.length ≤ 1024) (h : SliceIs w 33 3 a l.length cap (gall l)) (h' : SliceIs w 33 3 a' l.length cap' (gall l)) :
    Calls Try.prog 16 #[.slice a l.length cap, .slice a' l.length cap'] w fun e w' => e = .returned (.bool true) ∧ ∃ n, w' = w.drewN n := by
  have hfI : (l.length : Int) ≤ 1024 := by omega
  have H := Lib.hid h
  have H' := Lib.hid h'
  clear h h'
  go_enter Try.func16, Try.ntmps16
  go_wp2_with fail
  go_loopw [5] (fun vi wr => ∃ (i m : Nat), i ≤ l.length ∧ vi = .int .i64 i ∧ wr = w.drewN m) (fun vi _ => l.length - (intOf vi).toNat)
  case atStart => exact ⟨0, 0, Nat.zero_le _, rfl, rfl⟩
  case round =>
    obtain ⟨i, m0, hi, rfl, rfl⟩ := hrel
    by_cases hlt : i < l.length
    · obtain ⟨g, off, rfl⟩ := H.out.there (by omega)
      obtain ⟨g', off', rfl⟩ := H'.out.there (by omega)
      have hI : (0 : Int) ≤ i ∧ (i : Int) < l.length := by omega
      have hC := H.out.elem i hlt
      have hC' := H'.out.elem i hlt
      generalize l[i] = gr at hC hC'
      have HC : Hid (CellsAt w g (off + i * 3) [.int .u32 (w32 gr.frm), .int .u32 (w32 gr.to), .string gr.text]) := Lib.hid hC
      have HC' : Hid (CellsAt w g' (off' + i * 3) [.int .u32 (w32 gr.frm), .int .u32 (w32 gr.to), .string gr.text]) := Lib.hid hC'
      clear hC hC'
      go_wp2_with fail
      refine wp_region_quiet_lit (by kernel_rfl) (by kernel_rfl) ?_
      repeat (first
        | (refine wpQuiet_load_at rfl 33 (.tmp 19) rfl g (off + i * 3) rfl [.int .u32 (w32 gr.frm), .int .u32 (w32 gr.to), .string gr.text] _ (by rintro _ ⟨m, rfl⟩; exact HC.out) Try.underlying33 rfl (by kernel_rfl) ?_)
        | (refine wpQuiet_load_at rfl 33 (.tmp 23) rfl g' (off' + i * 3) rfl [.int .u32 (w32 gr.frm), .int .u32 (w32 gr.to), .string gr.text] _ (by rintro _ ⟨m, rfl⟩; exact HC'.out) Try.underlying33 rfl (by kernel_rfl) ?_)
        | (quiet_step (fail)))
      refine wpQuiet_nil ?_
      intro _ hw'
      obtain ⟨nq, hw''⟩ := hw'
      subst hw''
      rw [World.drewN_drewN]
      go_wp2
      go_roundw
      case rel => exact ⟨i + 1, _, by omega, by go_num, rfl⟩
      case measure => simp [intOf]; omega
    · obtain rfl : i = l.length := by omega
      go_wp2
      go_ret
      exact ⟨rfl, _, rfl⟩

end Go.Proofs.Ytmlilfdaacchjaa
