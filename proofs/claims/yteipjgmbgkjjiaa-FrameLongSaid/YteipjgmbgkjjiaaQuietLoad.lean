/-
  A WHOLE STRUCT LOADED IN A REGION THAT DRAWS ITS ORDER AND ONLY READS; slices by their elements; append under a name that the walk does not open.
-/
import Derived.Test.YteipjgmbgkjjiaaMem
import Derived.BigQuiet
import Derived.Deep.QuietTactic
set_option linter.unusedVariables false
set_option linter.unusedSimpArgs false
namespace Go.Proofs.Yteipjgmbgkjjiaa
open Go.RowKit

section
variable {P : Program}
/-- A whole struct loaded in a region that draws its order. -/
theorem wpQuiet_load_at {ops : Array Oper} {C : World → Prop} {rest : List Oper} {o : Oper} {a : Act} {Q : Act → Prop} (hgd : o.guard = none) (ty : TypeId) (x : Operand) (ho : o.op = .load ty x)
    (g p : Nat) (hx : a.eval x = .pointer (some ⟨g, p, none⟩)) (xs : List Value) (d : TypeDesc) (hc : ∀ w, C w → CellsAt w g p xs)
    (hu : P.underlying ty = some d) (hd : (match d with | .struct _ | .array _ _ => true | _ => false) = true) (hi : (P.info? ty).map (·.size) = some xs.length)
    (h : wpQuiet P ops C Q rest (a.put o.dst (.agg xs.toArray))) : wpQuiet P ops C Q (o :: rest) a := by
  refine wpQuiet_step fun K hK => ?_
  have hw : Region.wanted o (yielded ops a.tmps) = true := by unfold Region.wanted; rw [hgd]
  rw [if_pos hw]
  refine ⟨.agg xs.toArray, fun w hCw => ?_, hK _ h⟩
  obtain ⟨cs, t, fr, hg, hn, he⟩ := hc w hCw
  unfold Oper.quietAt execOp
  have hl := run_loadVar_agg (P := P) w g p xs.length t ty cs fr d hg hu hd hi hn
  rw [he] at hl
  simp only [ho, hx, Instr.loadAt, Instr.sureAddr, Sem.run_bind, Sem.run_pure, Result.andThen_ok, hl]
  exact ⟨rfl, rfl⟩
end

/-- The builtin append, under a name that the walk does not open: 'attribute [local go_sem ↓ high] appSem_eq', and what it comes to laid ahead of the walk. -/
def appSem (ats : Array TypeId) (ty : TypeId) (args : Array Value) : Sem Value := Builtin.append_ ats ty args
theorem appSem_eq (ats : Array TypeId) (ty : TypeId) (cs : Array Bool) (args : Array Value) : builtin .append ats ty cs args = (do pure (.value (← appSem ats ty args))) := rfl

end Go.Proofs.Yteipjgmbgkjjiaa
