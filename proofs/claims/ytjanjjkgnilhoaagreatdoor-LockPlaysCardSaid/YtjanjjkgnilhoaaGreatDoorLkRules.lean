/-
  THE WALKS of lock's rules: the four, and the map that holds them.
-/
import Derived.Test.YtjanjjkgnilhoaaGreatDoorLkRef3
import Derived.Maps.Own
import Derived.Maps.OwnOps
import Derived.Maps.OwnSet
import Derived.Maps.Views
import Derived.DeepKeys4
import Derived.BigRegion
import Derived.Test.YtjanjjkgnilhoaaGreatDoorEach
namespace Go.Proofs.YtjanjjkgnilhoaaGreatDoor
open Go.RowKit Go.Maps

theorem pair_keyed : Keyed Tryz.prog 78 := Keyed.of_law (deep_law_laid (by kernel_rfl) (m := 4) (by decide) (by decide +kernel) (by kernel_rfl) (by kernel_rfl))
def pval (a b : Nat) : Value := .agg #[.int .u8 a, .int .u8 b]
def plit (a b : Nat) : Lit := .string (keyBytes [.int .u8 a, .int .u8 b])
theorem u8w (c : Nat) (h : c < 256) : (Lit.int .u8 (c : Int)).wf = true := by
  simp only [Lit.wf, Bool.and_eq_true, decide_eq_true_eq]
  rw [show IntKind.u8.min = 0 from by decide, show IntKind.u8.max = 255 from by decide]
  omega
theorem pair_lits (a b : Int) (ha : (Lit.int .u8 a).wf = true) (hb : (Lit.int .u8 b).wf = true) (d : Nat) : Tryz.prog.keyLits (d + 2) 78 [.int .u8 a, .int .u8 b] = some [.int .u8 a, .int .u8 b] := by
  have k3 : Tryz.prog.cellsOf 78 = 2 := by kernel_rfl
  have k1 : Tryz.prog.cellsOf 5 = 1 := by kernel_rfl
  have hu : ∀ x : Int, (Lit.int .u8 x).wf = true → Tryz.prog.keyLits (d + 1) 5 [.int .u8 x] = some [.int .u8 x] := fun x hx => by
    unfold Program.keyLits
    rw [Tryz.underlying5]
    simp [hx]
  have hu1 := hu _ ha
  have hu2 := hu _ hb
  unfold Program.keyLits
  rw [Tryz.underlying78]
  have e2 : List.range 2 = [0, 1] := rfl
  simp [k3, k1, e2, hu1, hu2]
theorem pkey (a b : Nat) (ha : a < 256) (hb : b < 256) : keyOf Tryz.prog 78 (pval a b) = some (plit a b) := by
  have hk : Tryz.prog.keyType 78 = true := by kernel_rfl
  have k3 : Tryz.prog.cellsOf 78 = 2 := by kernel_rfl
  obtain ⟨d, hd⟩ : ∃ d, Tryz.prog.types.size + 1 = d + 2 := ⟨Tryz.prog.types.size - 1, by kernel_rfl⟩
  have hf : (pval a b).formed Tryz.prog 78 = true := by
    unfold pval Value.formed
    rw [Tryz.underlying78]
    simp [k3]
  unfold keyOf
  rw [Tryz.underlying78]
  simp only [hk, hf, hd]
  have e : (pval a b).cells.toList = [.int .u8 a, .int .u8 b] := rfl
  rw [e, pair_lits _ _ (u8w _ ha) (u8w _ hb) d]
  rfl
theorem plit_inj {a b a' b' : Nat} (ha : a < 256) (hb : b < 256) (ha' : a' < 256) (hb' : b' < 256) (h : plit a b = plit a' b') : a = a' ∧ b = b' := by
  have h1 : pval a b = pval a' b' := pair_keyed.inj (pkey a b ha hb) (by rw [h]; exact pkey a' b' ha' hb')
  unfold pval at h1
  simp only [Value.agg.injEq] at h1
  have h2 := congrArg Array.toList h1
  simp only [List.cons.injEq, Value.int.injEq, and_true, true_and] at h2
  omega
/-- A function, as a map's element. -/
def RF : Value → Option (DataW Unit × List MemPlace)
  | .func (.func g) ⟨[]⟩ ⟨[]⟩ => some (.lit (.int .i64 g), [])
  | _ => some (.nil, [])
theorem RF_of (g : Nat) : RF (.func (.func g) #[] #[]) = some (.lit (.int .i64 g), []) := rfl
theorem RF_inv {v : Value} {g : Nat} {ps : List MemPlace} (h : RF v = some (.lit (.int .i64 g), ps)) : v = .func (.func g) #[] #[] := by
  unfold RF at h
  split at h
  · rename_i g'
    simp only [Option.some.injEq, Prod.mk.injEq, DataW.lit.injEq, Lit.int.injEq, true_and] at h
    have : g' = g := Int.ofNat_inj.1 h.1
    rw [this]
  · simp at h
/-- The seven rules. -/
def rulesD : DataW Unit := (((((((DataW.map []).put (plit 1 2) (.lit (.int .i64 53))).put (plit 2 2) (.lit (.int .i64 53))).put (plit 2 3) (.lit (.int .i64 55))).put (plit 1 4) (.lit (.int .i64 54))).put (plit 2 4) (.lit (.int .i64 54))).put (plit 4 4) (.lit (.int .i64 54))).put (plit 3 4) (.lit (.int .i64 57))

/-- The rules: at which operation each is laid, for which kinds, and which function. -/
def ruleL : List (Nat × Nat × Nat × Nat) := [(3, 1, 2, 53), (6, 2, 2, 53), (8, 2, 3, 55), (11, 1, 4, 54), (14, 2, 4, 54), (17, 4, 4, 54), (19, 3, 4, 57)]
theorem ruleL_lt : ∀ r ∈ ruleL, r.2.1 < 256 ∧ r.2.2.1 < 256 ∧ r.1 < 22 ∧ r.1 ≠ 0 := by decide
theorem ruleL_once : ∀ r ∈ ruleL, ∀ q ∈ ruleL, (r.2.1 = q.2.1 ∧ r.2.2.1 = q.2.2.1 ∨ r.1 = q.1) → r = q := by decide
/-- What an operation's slot holds, once it has come. -/
def rdst : List (Option Nat) := [some 3, some 4, some 5, none, some 6, some 7, none, some 8, none, some 9, some 10, none, some 11, some 12, none, some 13, some 14, none, some 15, none, some 16, some 0]
def rval (b : Nat) (d : Nat) : Value := ([Value.map (some b), undef, undef, Value.map (some b), pval 1 2, .func (.func 53) #[] #[], pval 2 2, .func (.func 53) #[] #[], pval 2 3, pval 1 4, .func (.func 54) #[] #[], pval 2 4, .func (.func 54) #[] #[], pval 4 4, .func (.func 54) #[] #[], pval 3 4, Value.map (some b)] : List Value).getD d undef
theorem rdst_once : ∀ i ∈ List.range 22, ∀ j ∈ List.range 22, rdst.getD i none ≠ none → rdst.getD i none = rdst.getD j none → i = j := by decide
theorem rdst_lt : ∀ i ∈ List.range 22, ∀ d ∈ List.range 40, rdst.getD i none = some d → d < 17 ∧ d ≠ 1 ∧ d ≠ 2 := by decide
/-- So many rules have been laid. -/
def ruleN (D : Nat → Bool) : Nat := (ruleL.map fun r => if D r.1 then 1 else 0).sum
/-- Where the laying stands: which operations have come. -/
structure RI (w : World) (D : Nat → Bool) (a : Act) (W : World) : Prop where
  size : a.tmps.size = 17
  noDef : a.defers = []
  s1 : a.eval (.tmp 1) = .func (.func 53) #[] #[]
  s2 : a.eval (.tmp 2) = .func (.func 54) #[] #[]
  slots : ∀ i, i < 22 → D i = true → ∀ d, rdst.getD i none = some d → a.eval (.tmp d) = rval w.heap.size d
  before : D 0 = false → W = w.drew ∧ ∀ r ∈ ruleL, D r.1 = false
  map : D 0 = true → ∃ E n, W.ownsMap Tryz.prog 78 RF w.heap.size n E ∧ n ≤ ruleN D ∧ IsMap E ∧ (∀ r ∈ ruleL, D r.1 = true → ∀ z, E.atKey (plit r.2.1 r.2.2.1) z = .lit (.int .i64 r.2.2.2)) ∧ (∀ r ∈ ruleL, D r.1 = true → Maps.has E (plit r.2.1 r.2.2.1) = true) ∧ (∀ kl, Maps.has E kl = true → ∃ r ∈ ruleL, D r.1 = true ∧ kl = plit r.2.1 r.2.2.1)
  below : Below w.heap.size w W
theorem eval_slot {a : Act} {d : Nat} {v : Value} (hd : d < a.tmps.size) : (a.put (some d) v).eval (.tmp d) = v := by
  simp [Act.eval, Act.put, hd]
/-- An operation that fills its slot. -/
theorem RI.fill {w W : World} {D : Nat → Bool} {a : Act} (h : RI w D a W) {i d : Nat} (hi : i < 22) (hd : rdst.getD i none = some d) (h0 : i ≠ 0) (hr : ∀ r ∈ ruleL, r.1 ≠ i) : RI w (fun j => D j || decide (j = i)) (a.put (some d) (rval w.heap.size d)) W := by
  have hd40 : d < 40 := by
    have : ∀ i ∈ List.range 22, ∀ d, rdst.getD i none = some d → d < 40 := by
      intro i hi d hd
      have h1 : rdst.getD i none ∈ none :: rdst := by
        rw [List.getD_eq_getElem?_getD]
        cases hq : rdst[i]? with
        | none => simp
        | some q => simp; exact .inr (List.mem_of_getElem? hq)
      rw [hd] at h1
      simp [rdst] at h1
      omega
    exact this i (List.mem_range.2 hi) d hd
  obtain ⟨hlt, n1, n2⟩ := rdst_lt i (List.mem_range.2 hi) d (List.mem_range.2 hd40) hd
  have hrl : ∀ r ∈ ruleL, (D r.1 || decide (r.1 = i)) = D r.1 := fun r hr' => by rw [decide_eq_false (hr r hr'), Bool.or_false]
  have hn : ruleN (fun j => D j || decide (j = i)) = ruleN D := by
    unfold ruleN
    congr 1
    refine List.map_congr_left fun r hr' => ?_
    show (if (D r.1 || decide (r.1 = i)) = true then 1 else 0) = _
    rw [hrl r hr']
  refine ⟨by simpa [Act.put] using h.size, h.noDef, ?_, ?_, fun j hj hD e he => ?_, fun hD => ?_, fun hD => ?_, h.below⟩
  · rw [Act.eval_put (fun e he => by injection he with he; intro hc; injection hc with hc; exact n1 (he.trans hc.symm))]; exact h.s1
  · rw [Act.eval_put (fun e he => by injection he with he; intro hc; injection hc with hc; exact n2 (he.trans hc.symm))]; exact h.s2
  · by_cases hij : j = i
    · subst hij
      rw [hd] at he; cases he
      exact eval_slot (by rw [h.size]; exact hlt)
    · rw [decide_eq_false hij, Bool.or_false] at hD
      have hne : e ≠ d := fun e2 => hij (rdst_once j (List.mem_range.2 hj) i (List.mem_range.2 hi) (by rw [he]; simp) (by rw [he, hd, e2]))
      rw [Act.eval_put (fun e' he' => by injection he' with he'; intro hc; injection hc with hc; exact hne (hc.trans he'.symm))]
      exact h.slots j hj hD e he
  · have hD0 : D 0 = false := by simp at hD; exact hD.1
    obtain ⟨h1, h2⟩ := h.before hD0
    exact ⟨h1, fun r hr' => by rw [hrl r hr']; exact h2 r hr'⟩
  · have hD0 : D 0 = true := by simpa [Ne.symm h0] using hD
    obtain ⟨E, n, m1, m2, m3, m4, m5, m6⟩ := h.map hD0
    refine ⟨E, n, m1, by rw [hn]; exact m2, m3, fun r hr' hd' => m4 r hr' (by rw [← hrl r hr']; exact hd'), fun r hr' hd' => m5 r hr' (by rw [← hrl r hr']; exact hd'), fun kl hk => ?_⟩
    obtain ⟨r, q1, q2, q3⟩ := m6 kl hk
    exact ⟨r, q1, by rw [hrl r q1]; exact q2, q3⟩

/-- A rule laid. -/
theorem RI.lay {w W : World} {D : Nat → Bool} {a : Act} (h : RI w D a W) {r : Nat × Nat × Nat × Nat} (hr : r ∈ ruleL) (h0 : D 0 = true) (hD : D r.1 = false) :
    ∃ W', (Instr.mapUpdate 76 (.map (some w.heap.size)) (pval r.2.1 r.2.2.1) (.func (.func r.2.2.2) #[] #[])).run Tryz.prog W = .ok () W' ∧ RI w (fun j => D j || decide (j = r.1)) (a.put none undef) W' := by
  obtain ⟨E, n, m1, m2, m3, m4, m5, m6⟩ := h.map h0
  obtain ⟨lx, ly, hi, hi0⟩ := ruleL_lt r hr
  have hn7 : ruleN D ≤ 7 := by
    unfold ruleN ruleL
    simp only [List.map_cons, List.map_nil, List.sum_cons, List.sum_nil]
    repeat' split
    all_goals omega
  obtain ⟨W', hrun, ho, hg⟩ := m1.update pair_keyed Tryz.underlying76 (by unfold maxLen; omega) (pkey r.2.1 r.2.2.1 lx ly) (RF_of r.2.2.2)
  have hkey := pair_keyed.key (pkey r.2.1 r.2.2.1 lx ly)
  have hother : ∀ q ∈ ruleL, q ≠ r → plit q.2.1 q.2.2.1 ≠ plit r.2.1 r.2.2.1 := fun q hq hne e => by
    obtain ⟨qx, qy, _, _⟩ := ruleL_lt q hq
    obtain ⟨e1, e2⟩ := plit_inj qx qy lx ly e
    exact hne (ruleL_once q hq r hr (.inl ⟨e1, e2⟩))
  have hnew : ∀ q ∈ ruleL, (D q.1 || decide (q.1 = r.1)) = true → q = r ∨ (q ≠ r ∧ D q.1 = true) := fun q hq hd => by
    by_cases hqr : q = r
    · exact .inl hqr
    · refine .inr ⟨hqr, ?_⟩
      have : ¬ q.1 = r.1 := fun e => hqr (ruleL_once q hq r hr (.inr e))
      rw [decide_eq_false this, Bool.or_false] at hd
      exact hd
  refine ⟨W', hrun, h.size, h.noDef, h.s1, h.s2, fun j hj hd e he => ?_, fun hd => ?_, fun _ => ?_, ?_⟩
  · by_cases hij : j = r.1
    · subst hij
      have : ∀ r ∈ ruleL, rdst.getD r.1 none = none := by decide
      rw [this r hr] at he; cases he
    · rw [decide_eq_false hij, Bool.or_false] at hd
      exact h.slots j hj hd e he
  · rw [h0] at hd; cases hd
  · refine ⟨E.put (plit r.2.1 r.2.2.1) (.lit (.int .i64 r.2.2.2)), n + 1, ho, ?_, m3.put _ _, fun q hq hd z => ?_, fun q hq hd => ?_, fun kl hk => ?_⟩
    · have hstep : ruleN D + 1 ≤ ruleN (fun j => D j || decide (j = r.1)) := ruleN_step hr hD
      omega
    · rcases hnew q hq hd with rfl | ⟨hne, hd'⟩
      · exact atKey_put_same m3 hkey _ _
      · rw [atKey_put_other (hother q hq hne)]; exact m4 q hq hd' z
    · rcases hnew q hq hd with rfl | ⟨hne, hd'⟩
      · exact has_put_same m3 hkey _
      · rw [has_put_other (hother q hq hne)]; exact m5 q hq hd'
    · by_cases e : kl = plit r.2.1 r.2.2.1
      · exact ⟨r, hr, by simp, e⟩
      · rw [has_put_other e] at hk
        obtain ⟨q, h1, h2, h3⟩ := m6 kl hk
        exact ⟨q, h1, by show (D q.1 || decide (q.1 = r.1)) = true; rw [h2]; rfl, h3⟩
  · exact ⟨hg.os.trans h.below.os, hg.tape.trans h.below.tape, hg.output.trans h.below.output, Nat.le_trans h.below.size hg.size, fun k hk => (hg.block k (Nat.lt_of_lt_of_le hk h.below.size) (fun e => by cases e; omega)).trans (h.below.block k hk)⟩
where
  ruleN_step {D : Nat → Bool} {r : Nat × Nat × Nat × Nat} (hr : r ∈ ruleL) (hD : D r.1 = false) : ruleN D + 1 ≤ ruleN (fun j => D j || decide (j = r.1)) := by
    unfold ruleN
    have key : ∀ l : List (Nat × Nat × Nat × Nat), (r ∈ l → (l.map fun q => if D q.1 then 1 else 0).sum + 1 ≤ (l.map fun q => if (D q.1 || decide (q.1 = r.1)) = true then 1 else 0).sum) ∧ (l.map fun q => if D q.1 then 1 else 0).sum ≤ (l.map fun q => if (D q.1 || decide (q.1 = r.1)) = true then 1 else 0).sum := by
      intro l
      induction l with
      | nil => exact ⟨fun h => (by cases h), Nat.le_refl _⟩
      | cons q l ih =>
        simp only [List.map_cons, List.sum_cons]
        have hq : (if D q.1 = true then 1 else 0) ≤ (if (D q.1 || decide (q.1 = r.1)) = true then 1 else 0 : Nat) := by
          cases D q.1 <;> simp
        refine ⟨fun h => ?_, by omega⟩
        rcases List.mem_cons.1 h with rfl | h
        · rw [hD]
          simp
          have := ih.2
          simp at this
          omega
        · have := ih.1 h
          omega
    exact (key ruleL).1 hr

end Go.Proofs.YtjanjjkgnilhoaaGreatDoor
