/-
  A MAP KEYED BY MESSAGES: how often each is under way.
-/
import Derived.Test.YtmlilfdaacchjaaNetPlay0
import Derived.Maps.Own
import Derived.Maps.OwnOps
import Derived.Maps.Views
import Derived.Maps.RangeWalk
import Derived.DeepKeys4
namespace Go.Proofs.Ytmlilfdaacchjaa
open Go.RowKit Go.Maps

theorem gram_keyed : Keyed Try.prog 33 := Keyed.of_law (deep_law_laid (by kernel_rfl) (m := 4) (by decide) (by decide +kernel) (by kernel_rfl) (by kernel_rfl))

def gval (g : Gram) : Value := .agg #[.int .u32 (w32 g.frm), .int .u32 (w32 g.to), .string g.text]
theorem w32_wf (x : BitVec 32) : (Lit.int .u32 (w32 x)).wf = true := by
  have h := x.isLt
  have e : w32 x = (x.toNat : Int) := rfl
  simp only [Lit.wf, Bool.and_eq_true, decide_eq_true_eq]
  rw [show IntKind.u32.min = 0 from by decide, show IntKind.u32.max = 4294967295 from by decide, e]
  omega
theorem gram_lits (g : Gram) (h : g.text.size ≤ maxLen) (d : Nat) : Try.prog.keyLits (d + 2) 33 [.int .u32 (w32 g.frm), .int .u32 (w32 g.to), .string g.text] = some [.int .u32 (w32 g.frm), .int .u32 (w32 g.to), .string g.text.data.toList] := by
  have h1 := w32_wf g.frm
  have h2 := w32_wf g.to
  have k3 : Try.prog.cellsOf 33 = 3 := by kernel_rfl
  have k1 : Try.prog.cellsOf 23 = 1 := by kernel_rfl
  have k2 : Try.prog.cellsOf 9 = 1 := by kernel_rfl
  have hu : ∀ x : Int, (Lit.int .u32 x).wf = true → Try.prog.keyLits (d + 1) 23 [.int .u32 x] = some [.int .u32 x] := fun x hx => by
    unfold Program.keyLits
    rw [Try.underlying23]
    simp [hx]
  have hs : Try.prog.keyLits (d + 1) 9 [.string g.text] = some [.string g.text.data.toList] := by
    unfold Program.keyLits
    rw [Try.underlying9]
    simp [h]
  have hu1 := hu _ h1
  have hu2 := hu _ h2
  unfold Program.keyLits
  rw [Try.underlying33]
  simp [k3, k1, k2, hu1, hu2, hs]
theorem gkey_of (g : Gram) (h : g.text.size ≤ maxLen) : ∃ l, keyOf Try.prog 33 (gval g) = some l := by
  refine ⟨.string (keyBytes [.int .u32 (w32 g.frm), .int .u32 (w32 g.to), .string g.text.data.toList]), ?_⟩
  have hk : Try.prog.keyType 33 = true := by kernel_rfl
  have k3 : Try.prog.cellsOf 33 = 3 := by kernel_rfl
  obtain ⟨d, hd⟩ : ∃ d, Try.prog.types.size + 1 = d + 2 := ⟨Try.prog.types.size - 1, by kernel_rfl⟩
  have hf : (gval g).formed Try.prog 33 = true := by
    unfold gval Value.formed
    rw [Try.underlying33]
    simp [k3]
  unfold keyOf
  rw [Try.underlying33]
  simp only [hk, hf, hd]
  have e : (gval g).cells.toList = [.int .u32 (w32 g.frm), .int .u32 (w32 g.to), .string g.text] := rfl
  rw [e, gram_lits g h d]
  rfl

open Classical in
noncomputable def cnt (key : Value) (L : List Gram) : Nat := (L.filter fun g => decide (gval g = key)).length
open Classical in
theorem cnt_snoc (key : Value) (L : List Gram) (g : Gram) : cnt key (L ++ [g]) = cnt key L + if gval g = key then 1 else 0 := by
  unfold cnt
  rw [List.filter_append, List.length_append]
  by_cases h : gval g = key <;> simp [h]
open Classical in
theorem cnt_erase (key : Value) : ∀ (L : List Gram) (k : Nat) (hk : k < L.length), cnt key (L.eraseIdx k) + (if gval L[k] = key then 1 else 0) = cnt key L
  | g :: L, 0, _ => by
    unfold cnt
    by_cases h : gval g = key <;> simp [h]
  | g :: L, k + 1, hk => by
    have ih := cnt_erase key L k (by simpa using hk)
    unfold cnt at ih ⊢
    by_cases h : gval g = key <;> simp [h] at ih ⊢ <;> omega
theorem cnt_nil (key : Value) : cnt key [] = 0 := by simp [cnt]

/-- The map in block b: at most n entries; at each key how often it is in L. -/
def OnceMap (w : World) (b n : Nat) (L : List Gram) : Prop :=
  ∃ D : DataW Unit, w.ownsMap Try.prog 33 (plainElem Try.prog 3) b n D ∧ IsMap D ∧
    ∀ key kl, keyOf Try.prog 33 key = some kl → D.atKey kl (.lit (.int .i64 0)) = .lit (.int .i64 (cnt key L))
theorem OnceMap.made (w : World) : OnceMap (w.alloc (.map #[] 0)) w.heap.size 0 [] :=
  ⟨.map [], World.ownsMap_made _ _ _ _, isMap_empty, fun key kl _ => by rw [cnt_nil]; rfl⟩
theorem OnceMap.kept {w w' : World} {b n : Nat} {L : List Gram} (h : OnceMap w b n L) (hg : w'.heap[b]? = w.heap[b]?) : OnceMap w' b n L := by
  obtain ⟨D, ⟨es, clock, hb, F, hs, hD⟩, hM, hk⟩ := h
  exact ⟨D, ⟨es, clock, hg.trans hb, F, hs, hD⟩, hM, hk⟩
/-- A map in which the key g stands for what L' has of it, all other keys for what L has, where L' and L have the same of these. -/
theorem OnceMap.put {w w' : World} {b n : Nat} {L L' : List Gram} {D : DataW Unit} {g : Gram} {kl : Lit} {c : Int} (hM : IsMap D) (hk : ∀ key kl, keyOf Try.prog 33 key = some kl → D.atKey kl (.lit (.int .i64 0)) = .lit (.int .i64 (cnt key L)))
    (hg : keyOf Try.prog 33 (gval g) = some kl) (ho : w'.ownsMap Try.prog 33 (plainElem Try.prog 3) b n (D.put kl (.lit (.int .i64 c))))
    (hc : c = cnt (gval g) L') (hL : ∀ key, key ≠ gval g → cnt key L' = cnt key L) : OnceMap w' b n L' := by
  refine ⟨_, ho, hM.put _ _, fun key kl' hkey => ?_⟩
  by_cases he : kl' = kl
  · subst he
    have : key = gval g := gram_keyed.inj hkey hg
    subst this
    rw [atKey_put_same hM (gram_keyed.key hg), hc]
  · rw [atKey_put_other he, hk key kl' hkey, hL key (fun h => he (by subst h; rw [hg] at hkey; exact (Option.some.inj hkey).symm))]

end Go.Proofs.Ytmlilfdaacchjaa
