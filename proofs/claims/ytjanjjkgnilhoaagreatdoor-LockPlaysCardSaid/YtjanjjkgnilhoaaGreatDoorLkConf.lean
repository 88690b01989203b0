/-
  THE WALKS of lock's four rules, and what the map of the rules tells.
-/
import Derived.Test.YtjanjjkgnilhoaaGreatDoorLkRules2
namespace Go.Proofs.YtjanjjkgnilhoaaGreatDoor
open Go.RowKit Go.Maps

theorem rule_path (x y : LV) (w : World) : Calls Tryz.prog 53 #[x.val, y.val] w fun e w' => e = .returned (.bool (decide (L x.p = L y.p))) ∧ Below w.heap.size w w' := by
  obtain ⟨k, p, f, t⟩ := x
  obtain ⟨k', p', f', t'⟩ := y
  have HO := Lib.hid (((Own.refl w).alloc (.cells #[.int .u8 k, .string p, .int .u64 f, .int .u64 t] 25 (0, 0))).alloc (.cells #[.int .u8 k', .string p', .int .u64 f', .int .u64 t'] 25 (0, 0)))
  have HR : Hid (decide (L p = L p') = (p.toList == p'.toList)) := Lib.hid path_eq
  show Calls _ _ _ _ fun e w' => e = .returned (.bool (decide (L p = L p'))) ∧ _
  generalize decide (L p = L p') = r at *
  by_cases hq : p.toList = p'.toList
  · have hqb : (p.toList == p'.toList) = true := by rw [hq]; simp
    rw [hqb] at HR
    clear hq
    go_enter Tryz.func53, Tryz.ntmps53
    go_wp2_with fail
    go_ret
    exact ⟨by rw [HR.out]; rfl, HO.out.below⟩
  · have hqb : (p.toList == p'.toList) = false := by rw [beq_eq_false_iff_ne]; exact hq
    rw [hqb] at HR
    clear hq
    go_enter Tryz.func53, Tryz.ntmps53
    go_wp2_with fail
    go_ret
    exact ⟨by rw [HR.out]; rfl, HO.out.below⟩

theorem rule_meet (x y : LV) (hx : okL x) (hy : okL y) (w : World) : Calls Tryz.prog 54 #[x.val, y.val] w fun e w' => e = .returned (.bool (Lk.meet x.l y.l)) ∧ Below w.heap.size w w' := by
  obtain ⟨k, p, f, t⟩ := x
  obtain ⟨k', p', f', t'⟩ := y
  have hf := hx.frm
  have ht := hx.top
  have hf' := hy.frm
  have ht' := hy.top
  simp only at hf ht hf' ht'
  have hfI : (0 : Int) ≤ f ∧ (f : Int) < 18446744073709551616 := by omega
  have htI : (0 : Int) ≤ t ∧ (t : Int) < 18446744073709551616 := by omega
  have hfI' : (0 : Int) ≤ f' ∧ (f' : Int) < 18446744073709551616 := by omega
  have htI' : (0 : Int) ≤ t' ∧ (t' : Int) < 18446744073709551616 := by omega
  have HO := Lib.hid (((Own.refl w).alloc (.cells #[.int .u8 k, .string p, .int .u64 f, .int .u64 t] 25 (0, 0))).alloc (.cells #[.int .u8 k', .string p', .int .u64 f', .int .u64 t'] 25 (0, 0)))
  have HR : Hid (Lk.meet (LV.l ⟨k, p, f, t⟩) (LV.l ⟨k', p', f', t'⟩) = (decide (f ≤ t') && decide (f' ≤ t))) := Lib.hid rfl
  clear hx hy hf ht hf' ht'
  by_cases hA : f ≤ t'
  · have hAI : (f : Int) ≤ t' := by omega
    have HR3 : Hid (Lk.meet (LV.l ⟨k, p, f, t⟩) (LV.l ⟨k', p', f', t'⟩) = decide (f' ≤ t)) := Lib.hid (by rw [HR.out, decide_eq_true hA]; rfl)
    clear hA HR
    go_enter Tryz.func54, Tryz.ntmps54
    go_wp2_with fail
    go_ret
    exact ⟨by rw [HR3.out]; rfl, HO.out.below⟩
  · have hAI : (t' : Int) < f := by omega
    have HR3 : Hid (Lk.meet (LV.l ⟨k, p, f, t⟩) (LV.l ⟨k', p', f', t'⟩) = false) := Lib.hid (by rw [HR.out, decide_eq_false hA]; rfl)
    clear hA HR
    go_enter Tryz.func54, Tryz.ntmps54
    go_wp2_with fail
    go_ret
    exact ⟨by rw [HR3.out]; rfl, HO.out.below⟩

theorem rule_under (x y : LV) (w : World) (hl : Lay w) : Calls Tryz.prog 55 #[x.val, y.val] w fun e w' => e = .returned (.bool (Lk.under (L y.p) (L x.p))) ∧ Below w.heap.size w w' := by
  have HU : Hid (∀ wz, Below w.heap.size w wz → Calls Tryz.prog 56 #[.string y.p, .string x.p] wz fun e w' => e = .returned (.bool (Lk.under (L y.p) (L x.p))) ∧ Below wz.heap.size wz w') := Lib.hid (fun wz hb => under_any y.p x.p wz (hl.keep hb))
  obtain ⟨k, p, f, t⟩ := x
  obtain ⟨k', p', f', t'⟩ := y
  have HO := Lib.hid (((Own.refl w).alloc (.cells #[.int .u8 k, .string p, .int .u64 f, .int .u64 t] 25 (0, 0))).alloc (.cells #[.int .u8 k', .string p', .int .u64 f', .int .u64 t'] 25 (0, 0)))
  go_enter Tryz.func55, Tryz.ntmps55
  go_wp2_with fail
  refine (HU.out _ HO.out.below).mono ?_
  rintro e w1 ⟨rfl, hb⟩
  go_wp2_with fail
  go_ret
  exact ⟨rfl, (HO.out.trans hb).below⟩

theorem rule_true (x y : LV) (w : World) : Calls Tryz.prog 57 #[x.val, y.val] w fun e w' => e = .returned (.bool true) ∧ Below w.heap.size w w' := by
  obtain ⟨k, p, f, t⟩ := x
  obtain ⟨k', p', f', t'⟩ := y
  have HO := Lib.hid (((Own.refl w).alloc (.cells #[.int .u8 k, .string p, .int .u64 f, .int .u64 t] 25 (0, 0))).alloc (.cells #[.int .u8 k', .string p', .int .u64 f', .int .u64 t'] 25 (0, 0)))
  go_enter Tryz.func57, Tryz.ntmps57
  go_wp2_with fail
  go_ret
  exact ⟨rfl, HO.out.below⟩

/-- A rule that the map holds, called. -/
theorem rule_any (x y : LV) (hx : okL x) (hy : okL y) {r : Nat × Nat × Nat × Nat} (hr : r ∈ ruleL) (e1 : x.kind = r.2.1) (e2 : y.kind = r.2.2.1) (w : World) (hl : Lay w) : Calls Tryz.prog r.2.2.2 #[x.val, y.val] w fun e w' => e = .returned (.bool (Lk.rule x.l y.l)) ∧ Below w.heap.size w w' := by
  have h1 : x.l.kind = r.2.1 := e1
  have h2 : y.l.kind = r.2.2.1 := e2
  unfold ruleL at hr
  simp only [List.mem_cons, List.not_mem_nil, or_false] at hr
  rcases hr with rfl | rfl | rfl | rfl | rfl | rfl | rfl <;> simp only at h1 h2 ⊢
  · have e : Lk.rule x.l y.l = decide (L x.p = L y.p) := by unfold Lk.rule; rw [h1, h2]; rfl
    rw [e]; exact rule_path x y w
  · have e : Lk.rule x.l y.l = decide (L x.p = L y.p) := by unfold Lk.rule; rw [h1, h2]; rfl
    rw [e]; exact rule_path x y w
  · have e : Lk.rule x.l y.l = Lk.under (L y.p) (L x.p) := by unfold Lk.rule; rw [h1, h2]; rfl
    rw [e]; exact rule_under x y w hl
  · have e : Lk.rule x.l y.l = Lk.meet x.l y.l := by unfold Lk.rule; rw [h1, h2]; rfl
    rw [e]; exact rule_meet x y hx hy w
  · have e : Lk.rule x.l y.l = Lk.meet x.l y.l := by unfold Lk.rule; rw [h1, h2]; rfl
    rw [e]; exact rule_meet x y hx hy w
  · have e : Lk.rule x.l y.l = Lk.meet x.l y.l := by unfold Lk.rule; rw [h1, h2]; rfl
    rw [e]; exact rule_meet x y hx hy w
  · have e : Lk.rule x.l y.l = true := by unfold Lk.rule; rw [h1, h2]; rfl
    rw [e]; exact rule_true x y w
/-- No rule: no conflict. -/
theorem rule_none (x y : LV) (hn : ∀ r ∈ ruleL, ¬ (x.kind = r.2.1 ∧ y.kind = r.2.2.1)) : Lk.rule x.l y.l = false := by
  have h (a b : Nat) : (∃ r ∈ ruleL, r.2.1 = a ∧ r.2.2.1 = b) → ¬ (x.l.kind = a ∧ y.l.kind = b) := fun ⟨r, h1, h2, h3⟩ h4 => hn r h1 (by rw [h2, h3]; exact h4)
  have a1 := h 1 2 (by decide)
  have a2 := h 2 2 (by decide)
  have a3 := h 2 3 (by decide)
  have a4 := h 1 4 (by decide)
  have a5 := h 2 4 (by decide)
  have a6 := h 4 4 (by decide)
  have a7 := h 3 4 (by decide)
  unfold Lk.rule
  rw [if_neg (by omega), if_neg a3, if_neg (by omega), decide_eq_false a7]

/-- What the map of the rules tells at two kinds. -/
theorem IsRules.look {W : World} {b : Nat} (h : IsRules W b) (x y : LV) (hx : okL x) (hy : okL y) :
    (∃ r ∈ ruleL, x.kind = r.2.1 ∧ y.kind = r.2.2.1 ∧ (Instr.lookup 76 (.map (some b)) (pval x.kind y.kind) true).run Tryz.prog W = .ok (.tuple #[.func (.func r.2.2.2) #[] #[], .bool true]) W) ∨
    ((∀ r ∈ ruleL, ¬ (x.kind = r.2.1 ∧ y.kind = r.2.2.1)) ∧ ∃ v, (Instr.lookup 76 (.map (some b)) (pval x.kind y.kind) true).run Tryz.prog W = .ok (.tuple #[v, .bool false]) W) := by
  obtain ⟨E, n, m1, m3, m4, m6⟩ := h.all
  have hz : ∃ z, (zeroValue 74).run Tryz.prog W = .ok z W ∧ ∃ zd zp, RF z = some (zd, zp) := ⟨.nilFunc, by go_simp, .nil, [], rfl⟩
  obtain ⟨z, hz, zd, zp, hzd⟩ := hz
  obtain ⟨v, ps, hrun, hv⟩ := m1.look_ok pair_keyed Tryz.underlying76 hz hzd (pkey x.kind y.kind hx.kind hy.kind)
  by_cases hr : ∃ r ∈ ruleL, x.kind = r.2.1 ∧ y.kind = r.2.2.1
  · obtain ⟨r, h1, e1, e2⟩ := hr
    refine .inl ⟨r, h1, e1, e2, ?_⟩
    obtain ⟨h2, h3⟩ := m4 r h1
    rw [e1, e2, h2] at hv
    have hvf := RF_inv hv
    rw [hvf, e1, e2, h3] at hrun
    rw [e1, e2]; exact hrun
  · refine .inr ⟨fun r h1 h2 => hr ⟨r, h1, h2⟩, v, ?_⟩
    have hh : Maps.has E (plit x.kind y.kind) = false := by
      cases hq : Maps.has E (plit x.kind y.kind) with
      | false => rfl
      | true =>
        obtain ⟨r, h1, h2⟩ := m6 _ hq
        obtain ⟨l1, l2, _, _⟩ := ruleL_lt r h1
        exact absurd ⟨r, h1, plit_inj hx.kind hy.kind l1 l2 h2⟩ hr
    rw [hh] at hrun
    exact hrun

end Go.Proofs.YtjanjjkgnilhoaaGreatDoor
