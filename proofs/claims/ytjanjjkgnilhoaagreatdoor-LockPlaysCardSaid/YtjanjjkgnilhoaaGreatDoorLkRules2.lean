/-
  THE WALK of lock.rules: the map of the rules, whatever the order in which they are laid.
-/
import Derived.Test.YtjanjjkgnilhoaaGreatDoorLkRules
namespace Go.Proofs.YtjanjjkgnilhoaaGreatDoor
open Go.RowKit Go.Maps

/-- What the rules' map says. -/
structure IsRules (W : World) (b : Nat) : Prop where
  all : ∃ E n, W.ownsMap Tryz.prog 78 RF b n E ∧ IsMap E ∧ (∀ r ∈ ruleL, (∀ z, E.atKey (plit r.2.1 r.2.2.1) z = .lit (.int .i64 r.2.2.2)) ∧ Maps.has E (plit r.2.1 r.2.2.1) = true) ∧ (∀ kl, Maps.has E kl = true → ∃ r ∈ ruleL, kl = plit r.2.1 r.2.2.1)
theorem build_pair (x y : Nat) (W : World) : (Instr.build 78 #[(0, .int .u8 x), (1, .int .u8 y)]).run Tryz.prog W = .ok (pval x y) W := by
  have hz : (zeroValue 78).run Tryz.prog W = .ok (.agg #[.int .u8 0, .int .u8 0]) W := by go_simp
  go_simp
  rfl
theorem RI.made {w W : World} {D : Nat → Bool} {a : Act} (h : RI w D a W) (h0 : D 0 = false) : RI w (fun j => D j || decide (j = 0)) (a.put (some 3) (.map (some W.heap.size))) (W.alloc (.map #[] 0)) := by
  obtain ⟨hW, hall⟩ := h.before h0
  have hsz : W.heap.size = w.heap.size := by rw [hW]; rfl
  have hno : ∀ r ∈ ruleL, (D r.1 || decide (r.1 = 0)) = false := fun r hr => by rw [hall r hr, decide_eq_false (ruleL_lt r hr).2.2.2]; rfl
  have n1 : ∀ e : Nat, some 3 = some e → Operand.tmp 1 ≠ .tmp e := fun e he => by injection he with he; subst he; intro hc; injection hc with hc; cases hc
  have n2 : ∀ e : Nat, some 3 = some e → Operand.tmp 2 ≠ .tmp e := fun e he => by injection he with he; subst he; intro hc; injection hc with hc; cases hc
  refine ⟨by simpa [Act.put] using h.size, h.noDef, by rw [Act.eval_put n1]; exact h.s1, by rw [Act.eval_put n2]; exact h.s2, fun j hj hD e he => ?_, fun hD => ?_, fun _ => ?_, ?_⟩
  · by_cases hj0 : j = 0
    · subst hj0
      injection he with he
      subst he
      rw [eval_slot (by rw [h.size]; decide), hsz]; rfl
    · rw [decide_eq_false hj0, Bool.or_false] at hD
      have hne : e ≠ 3 := fun e2 => hj0 (rdst_once j (List.mem_range.2 hj) 0 (List.mem_range.2 (by decide)) (by rw [he]; simp) (by rw [he, e2]; rfl))
      rw [Act.eval_put (fun e' he' => by injection he' with he'; intro hc; injection hc with hc; exact hne (hc.trans he'.symm))]
      exact h.slots j hj hD e he
  · simp at hD
  · rw [← hsz]
    refine ⟨.map [], 0, World.ownsMap_made _ _ _ _, Nat.zero_le _, isMap_empty, fun r hr hd => ?_, fun r hr hd => ?_, fun kl hk => ?_⟩
    · rw [hno r hr] at hd; cases hd
    · rw [hno r hr] at hd; cases hd
    · simp [Maps.has] at hk
  · exact h.below.alloc h.below.size _

set_option maxRecDepth 20000 in
set_option maxHeartbeats 4000000 in
theorem rules_any (w : World) : Calls Tryz.prog 38 #[] w fun e w' => e = .returned (.map (some w.heap.size)) ∧ IsRules w' w.heap.size ∧ Below w.heap.size w w' := by
  have hmm := @run_makeMap Tryz.prog
  go_enter Tryz.func38, Tryz.ntmps38
  go_wp2_with fail
  refine wp_region_each (by kernel_rfl) (dep_of (by kernel_rfl)) (RI w) ?_ ?_ ?_
  · refine ⟨rfl, rfl, rfl, rfl, fun i _ h => (by cases h), fun _ => ⟨rfl, fun _ _ => rfl⟩, fun h => (by cases h), (Own.refl w).drew.below⟩
  · intro D i o a W ho hDi hdep hI
    have hi : i < 22 := by
      have := (Array.getElem?_eq_some_iff.1 ho).1
      simpa using this
    have hcase : i = 0 ∨ i = 1 ∨ i = 2 ∨ i = 3 ∨ i = 4 ∨ i = 5 ∨ i = 6 ∨ i = 7 ∨ i = 8 ∨ i = 9 ∨ i = 10 ∨ i = 11 ∨ i = 12 ∨ i = 13 ∨ i = 14 ∨ i = 15 ∨ i = 16 ∨ i = 17 ∨ i = 18 ∨ i = 19 ∨ i = 20 ∨ i = 21 := by omega
    rcases hcase with rfl | rfl | rfl | rfl | rfl | rfl | rfl | rfl | rfl | rfl | rfl | rfl | rfl | rfl | rfl | rfl | rfl | rfl | rfl | rfl | rfl | rfl
    · simp at ho
      subst ho
      simp [wpOp, Region.wanted, Oper.wp, execOp, hmm, Oper.upon]
      exact .inl (hI.made hDi)
    · simp at ho
      subst ho
      have hF := hI.fill (i := 1) (d := 4) (by decide) rfl (by decide) (by decide)
      have hb : Sem.run Tryz.prog (Instr.build 78 #[(0, a.eval (.const (.int .u8 1))), (1, a.eval (.const (.int .u8 2)))]) W = .ok (pval 1 2) W := build_pair 1 2 W
      simp [wpOp, Region.wanted, Oper.wp, execOp, Oper.upon]
      rw [hb]
      exact .inl hF
    · simp at ho
      subst ho
      simp [wpOp, Region.wanted, Oper.wp, execOp, Oper.upon]
      rw [hI.s1]
      exact .inl (hI.fill (i := 2) (d := 5) (by decide) rfl (by decide) (by decide))
    · simp at ho
      subst ho
      have d0 : D 0 = true := by simpa [Region.binds] using hdep { on := 0, ground := .data } (by simp)
      have db : D 1 = true := by simpa [Region.binds] using hdep { on := 1, ground := .data } (by simp)
      have e3 := hI.slots 0 (by decide) d0 3 rfl
      have eb := hI.slots 1 (by decide) db 4 rfl
      have dm : D 2 = true := by simpa [Region.binds] using hdep { on := 2, ground := .data } (by simp)
      have em := hI.slots 2 (by decide) dm 5 rfl
      obtain ⟨W', hrun, hR⟩ := hI.lay (r := (3, 1, 2, 53)) (by decide) d0 hDi
      simp [wpOp, Region.wanted, Oper.wp, execOp, Oper.upon]
      rw [e3, eb, em]
      refine .inl ?_
      have hrun2 : Sem.run Tryz.prog (Instr.mapUpdate 76 (rval w.heap.size 3) (rval w.heap.size 4) (.func (.func 53) #[] #[])) W = .ok () W' := hrun
      first | (rw [hrun2]; exact hR) | (erw [hrun2]; exact hR)
    · simp at ho
      subst ho
      have hF := hI.fill (i := 4) (d := 6) (by decide) rfl (by decide) (by decide)
      have hb : Sem.run Tryz.prog (Instr.build 78 #[(0, a.eval (.const (.int .u8 2))), (1, a.eval (.const (.int .u8 2)))]) W = .ok (pval 2 2) W := build_pair 2 2 W
      simp [wpOp, Region.wanted, Oper.wp, execOp, Oper.upon]
      rw [hb]
      exact .inl hF
    · simp at ho
      subst ho
      simp [wpOp, Region.wanted, Oper.wp, execOp, Oper.upon]
      rw [hI.s1]
      exact .inl (hI.fill (i := 5) (d := 7) (by decide) rfl (by decide) (by decide))
    · simp at ho
      subst ho
      have d0 : D 0 = true := by simpa [Region.binds] using hdep { on := 0, ground := .data } (by simp)
      have db : D 4 = true := by simpa [Region.binds] using hdep { on := 4, ground := .data } (by simp)
      have e3 := hI.slots 0 (by decide) d0 3 rfl
      have eb := hI.slots 4 (by decide) db 6 rfl
      have dm : D 5 = true := by simpa [Region.binds] using hdep { on := 5, ground := .data } (by simp)
      have em := hI.slots 5 (by decide) dm 7 rfl
      obtain ⟨W', hrun, hR⟩ := hI.lay (r := (6, 2, 2, 53)) (by decide) d0 hDi
      simp [wpOp, Region.wanted, Oper.wp, execOp, Oper.upon]
      rw [e3, eb, em]
      refine .inl ?_
      have hrun2 : Sem.run Tryz.prog (Instr.mapUpdate 76 (rval w.heap.size 3) (rval w.heap.size 6) (.func (.func 53) #[] #[])) W = .ok () W' := hrun
      first | (rw [hrun2]; exact hR) | (erw [hrun2]; exact hR)
    · simp at ho
      subst ho
      have hF := hI.fill (i := 7) (d := 8) (by decide) rfl (by decide) (by decide)
      have hb : Sem.run Tryz.prog (Instr.build 78 #[(0, a.eval (.const (.int .u8 2))), (1, a.eval (.const (.int .u8 3)))]) W = .ok (pval 2 3) W := build_pair 2 3 W
      simp [wpOp, Region.wanted, Oper.wp, execOp, Oper.upon]
      rw [hb]
      exact .inl hF
    · simp at ho
      subst ho
      have d0 : D 0 = true := by simpa [Region.binds] using hdep { on := 0, ground := .data } (by simp)
      have db : D 7 = true := by simpa [Region.binds] using hdep { on := 7, ground := .data } (by simp)
      have e3 := hI.slots 0 (by decide) d0 3 rfl
      have eb := hI.slots 7 (by decide) db 8 rfl
      obtain ⟨W', hrun, hR⟩ := hI.lay (r := (8, 2, 3, 55)) (by decide) d0 hDi
      simp [wpOp, Region.wanted, Oper.wp, execOp, Oper.upon]
      rw [e3, eb]
      refine .inl ?_
      have hrun2 : Sem.run Tryz.prog (Instr.mapUpdate 76 (rval w.heap.size 3) (rval w.heap.size 8) (.func (.func 55) #[] #[])) W = .ok () W' := hrun
      first | (rw [hrun2]; exact hR) | (erw [hrun2]; exact hR)
    · simp at ho
      subst ho
      have hF := hI.fill (i := 9) (d := 9) (by decide) rfl (by decide) (by decide)
      have hb : Sem.run Tryz.prog (Instr.build 78 #[(0, a.eval (.const (.int .u8 1))), (1, a.eval (.const (.int .u8 4)))]) W = .ok (pval 1 4) W := build_pair 1 4 W
      simp [wpOp, Region.wanted, Oper.wp, execOp, Oper.upon]
      rw [hb]
      exact .inl hF
    · simp at ho
      subst ho
      simp [wpOp, Region.wanted, Oper.wp, execOp, Oper.upon]
      rw [hI.s2]
      exact .inl (hI.fill (i := 10) (d := 10) (by decide) rfl (by decide) (by decide))
    · simp at ho
      subst ho
      have d0 : D 0 = true := by simpa [Region.binds] using hdep { on := 0, ground := .data } (by simp)
      have db : D 9 = true := by simpa [Region.binds] using hdep { on := 9, ground := .data } (by simp)
      have e3 := hI.slots 0 (by decide) d0 3 rfl
      have eb := hI.slots 9 (by decide) db 9 rfl
      have dm : D 10 = true := by simpa [Region.binds] using hdep { on := 10, ground := .data } (by simp)
      have em := hI.slots 10 (by decide) dm 10 rfl
      obtain ⟨W', hrun, hR⟩ := hI.lay (r := (11, 1, 4, 54)) (by decide) d0 hDi
      simp [wpOp, Region.wanted, Oper.wp, execOp, Oper.upon]
      rw [e3, eb, em]
      refine .inl ?_
      have hrun2 : Sem.run Tryz.prog (Instr.mapUpdate 76 (rval w.heap.size 3) (rval w.heap.size 9) (.func (.func 54) #[] #[])) W = .ok () W' := hrun
      first | (rw [hrun2]; exact hR) | (erw [hrun2]; exact hR)
    · simp at ho
      subst ho
      have hF := hI.fill (i := 12) (d := 11) (by decide) rfl (by decide) (by decide)
      have hb : Sem.run Tryz.prog (Instr.build 78 #[(0, a.eval (.const (.int .u8 2))), (1, a.eval (.const (.int .u8 4)))]) W = .ok (pval 2 4) W := build_pair 2 4 W
      simp [wpOp, Region.wanted, Oper.wp, execOp, Oper.upon]
      rw [hb]
      exact .inl hF
    · simp at ho
      subst ho
      simp [wpOp, Region.wanted, Oper.wp, execOp, Oper.upon]
      rw [hI.s2]
      exact .inl (hI.fill (i := 13) (d := 12) (by decide) rfl (by decide) (by decide))
    · simp at ho
      subst ho
      have d0 : D 0 = true := by simpa [Region.binds] using hdep { on := 0, ground := .data } (by simp)
      have db : D 12 = true := by simpa [Region.binds] using hdep { on := 12, ground := .data } (by simp)
      have e3 := hI.slots 0 (by decide) d0 3 rfl
      have eb := hI.slots 12 (by decide) db 11 rfl
      have dm : D 13 = true := by simpa [Region.binds] using hdep { on := 13, ground := .data } (by simp)
      have em := hI.slots 13 (by decide) dm 12 rfl
      obtain ⟨W', hrun, hR⟩ := hI.lay (r := (14, 2, 4, 54)) (by decide) d0 hDi
      simp [wpOp, Region.wanted, Oper.wp, execOp, Oper.upon]
      rw [e3, eb, em]
      refine .inl ?_
      have hrun2 : Sem.run Tryz.prog (Instr.mapUpdate 76 (rval w.heap.size 3) (rval w.heap.size 11) (.func (.func 54) #[] #[])) W = .ok () W' := hrun
      first | (rw [hrun2]; exact hR) | (erw [hrun2]; exact hR)
    · simp at ho
      subst ho
      have hF := hI.fill (i := 15) (d := 13) (by decide) rfl (by decide) (by decide)
      have hb : Sem.run Tryz.prog (Instr.build 78 #[(0, a.eval (.const (.int .u8 4))), (1, a.eval (.const (.int .u8 4)))]) W = .ok (pval 4 4) W := build_pair 4 4 W
      simp [wpOp, Region.wanted, Oper.wp, execOp, Oper.upon]
      rw [hb]
      exact .inl hF
    · simp at ho
      subst ho
      simp [wpOp, Region.wanted, Oper.wp, execOp, Oper.upon]
      rw [hI.s2]
      exact .inl (hI.fill (i := 16) (d := 14) (by decide) rfl (by decide) (by decide))
    · simp at ho
      subst ho
      have d0 : D 0 = true := by simpa [Region.binds] using hdep { on := 0, ground := .data } (by simp)
      have db : D 15 = true := by simpa [Region.binds] using hdep { on := 15, ground := .data } (by simp)
      have e3 := hI.slots 0 (by decide) d0 3 rfl
      have eb := hI.slots 15 (by decide) db 13 rfl
      have dm : D 16 = true := by simpa [Region.binds] using hdep { on := 16, ground := .data } (by simp)
      have em := hI.slots 16 (by decide) dm 14 rfl
      obtain ⟨W', hrun, hR⟩ := hI.lay (r := (17, 4, 4, 54)) (by decide) d0 hDi
      simp [wpOp, Region.wanted, Oper.wp, execOp, Oper.upon]
      rw [e3, eb, em]
      refine .inl ?_
      have hrun2 : Sem.run Tryz.prog (Instr.mapUpdate 76 (rval w.heap.size 3) (rval w.heap.size 13) (.func (.func 54) #[] #[])) W = .ok () W' := hrun
      first | (rw [hrun2]; exact hR) | (erw [hrun2]; exact hR)
    · simp at ho
      subst ho
      have hF := hI.fill (i := 18) (d := 15) (by decide) rfl (by decide) (by decide)
      have hb : Sem.run Tryz.prog (Instr.build 78 #[(0, a.eval (.const (.int .u8 3))), (1, a.eval (.const (.int .u8 4)))]) W = .ok (pval 3 4) W := build_pair 3 4 W
      simp [wpOp, Region.wanted, Oper.wp, execOp, Oper.upon]
      rw [hb]
      exact .inl hF
    · simp at ho
      subst ho
      have d0 : D 0 = true := by simpa [Region.binds] using hdep { on := 0, ground := .data } (by simp)
      have db : D 18 = true := by simpa [Region.binds] using hdep { on := 18, ground := .data } (by simp)
      have e3 := hI.slots 0 (by decide) d0 3 rfl
      have eb := hI.slots 18 (by decide) db 15 rfl
      obtain ⟨W', hrun, hR⟩ := hI.lay (r := (19, 3, 4, 57)) (by decide) d0 hDi
      simp [wpOp, Region.wanted, Oper.wp, execOp, Oper.upon]
      rw [e3, eb]
      refine .inl ?_
      have hrun2 : Sem.run Tryz.prog (Instr.mapUpdate 76 (rval w.heap.size 3) (rval w.heap.size 15) (.func (.func 57) #[] #[])) W = .ok () W' := hrun
      first | (rw [hrun2]; exact hR) | (erw [hrun2]; exact hR)
    · simp at ho
      subst ho
      have d0 : D 0 = true := by simpa [Region.binds] using hdep { on := 0, ground := .data } (by simp)
      simp [wpOp, Region.wanted, Oper.wp, execOp, Oper.upon]
      rw [hI.slots 0 (by decide) d0 3 rfl]
      exact .inl (hI.fill (i := 20) (d := 16) (by decide) rfl (by decide) (by decide))
    · simp at ho
      subst ho
      have d0 : D 20 = true := by simpa [Region.binds] using hdep { on := 20, ground := .data } (by simp)
      simp [wpOp, Region.wanted, Oper.wp, execOp, Oper.upon]
      rw [hI.slots 20 (by decide) d0 16 rfl]
      exact .inl (hI.fill (i := 21) (d := 0) (by decide) rfl (by decide) (by decide))
  · rename_i Q0 K0 hK0
    intro D a W hall hI
    have h0 := hI.slots 21 (by decide) (hall 21 (by decide)) 0 rfl
    have hm := hI.map (hall 0 (by decide))
    obtain ⟨E, n, m1, _, m3, m4, m5, m6⟩ := hm
    have hR : IsRules W w.heap.size := ⟨⟨E, n, m1, m3, fun r hr => ⟨m4 r hr (hall r.1 (by simpa using (ruleL_lt r hr).2.2.1)), m5 r hr (hall r.1 (by simpa using (ruleL_lt r hr).2.2.1))⟩, fun kl hk => (by obtain ⟨r, h1, _, h3⟩ := m6 kl hk; exact ⟨r, h1, h3⟩)⟩⟩
    refine hK0 a W ?_
    clear hmm hK0 hall
    refine wp_ret ?_
    refine bodyPost_ret (v := .map (some w.heap.size)) ?_ hI.noDef ?_
    rotate_left
    · exact ⟨rfl, hR, hI.below⟩
    have h00 : a.eval (.tmp 0) = .map (some w.heap.size) := h0
    have h01 : a.tmps.getD 0 undef = .map (some w.heap.size) := by simpa [Act.eval] using h00
    have h02 : a.tmps[0]?.getD undef = .map (some w.heap.size) := by simpa [Act.eval] using h00
    simp [results, Tryz.results38, go_sem, h02]

end Go.Proofs.YtjanjjkgnilhoaaGreatDoor
