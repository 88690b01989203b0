/-
  THE WALK of lock.Conflict.
-/
import Derived.Test.YtjanjjkgnilhoaaGreatDoorLkConf
import Derived.Deep.RegionHeld3
import Derived.Deep.CondSized
namespace Go.Proofs.YtjanjjkgnilhoaaGreatDoor
open Go.RowKit Go.Maps

theorem ruleL_fn : ∀ r ∈ ruleL, r.2.2.2 = 53 ∨ r.2.2.2 = 54 ∨ r.2.2.2 = 55 ∨ r.2.2.2 = 57 := by decide
set_option maxRecDepth 20000 in
set_option maxHeartbeats 2000000 in
theorem conf_any (x y : LV) (hx : okL x) (hy : okL y) (w : World) (hl : Lay w) : Calls Tryz.prog 21 #[x.val, y.val] w fun e w' => e = .returned (.bool (Lk.conf x.l y.l)) ∧ Below w.heap.size w w' := by
  have HM1 : Hid (∀ wz, Below w.heap.size w wz → Calls Tryz.prog 23 #[x.val] wz fun e w' => e = .returned (.bool (Lk.may x.l)) ∧ Below wz.heap.size wz w') := Lib.hid (fun wz hb => lmay_any x hx wz (hl.keep hb))
  have HM2 : Hid (∀ wz, Below w.heap.size w wz → Calls Tryz.prog 23 #[y.val] wz fun e w' => e = .returned (.bool (Lk.may y.l)) ∧ Below wz.heap.size wz w') := Lib.hid (fun wz hb => lmay_any y hy wz (hl.keep hb))
  have HO := Lib.hid (((Own.refl w).alloc (.cells #[.int .u8 x.kind, .string x.p, .int .u64 x.frm, .int .u64 x.top] 25 (0, 0))).alloc (.cells #[.int .u8 y.kind, .string y.p, .int .u64 y.frm, .int .u64 y.top] 25 (0, 0)))
  have HR0 : Hid (Lk.may x.l = false → Lk.conf x.l y.l = false) := Lib.hid (fun h => by unfold Lk.conf; rw [h]; rfl)
  have HR1 : Hid (Lk.may y.l = false → Lk.conf x.l y.l = false) := Lib.hid (fun h => by unfold Lk.conf; rw [h]; simp)
  have HR2 : Hid (Lk.may x.l = true → Lk.may y.l = true → Lk.conf x.l y.l = if y.kind < x.kind then Lk.rule y.l x.l else Lk.rule x.l y.l) := Lib.hid (fun h1 h2 => Lk.conf_rule h1 h2)
  generalize Lk.conf x.l y.l = r at *
  generalize Lk.may x.l = m1 at *
  generalize Lk.may y.l = m2 at *
  have HXO := Lib.hid hx
  have HYO := Lib.hid hy
  have HL := Lib.hid hl
  have hkx : (0 : Int) ≤ x.kind ∧ (x.kind : Int) < 256 := by have := hx.kind; omega
  have hky : (0 : Int) ≤ y.kind ∧ (y.kind : Int) < 256 := by have := hy.kind; omega
  clear hx hy hl
  go_enter Tryz.func21, Tryz.ntmps21
  go_wp2_with fail
  refine (HM1.out _ HO.out.below).mono ?_
  rintro e w1 ⟨rfl, hb⟩
  have HO1 := Lib.hid (HO.out.trans hb)
  obtain ⟨x1, x2⟩ := box2 hb
  obtain ⟨c0, c1, c2, c3⟩ := lock_box x1
  obtain ⟨d0, d1, d2, d3⟩ := lock_box x2
  clear hb
  cases m1 with
  | false =>
    have HR := Lib.hid (HR0.out rfl)
    clear HR0 HR1 HR2
    go_wp2_with fail
    go_ret
    exact ⟨by rw [HR.out]; rfl, HO1.out.below⟩
  | true =>
    clear c0 c1 c2 c3
    go_wp2_with fail
    refine (HM2.out _ HO1.out.below).mono ?_
    rintro e w2 ⟨rfl, hb⟩
    have HO2 := Lib.hid (HO1.out.trans hb)
    have y1 := (hb.block _ (blk_lt x1)).trans x1
    have y2 := (hb.block _ (blk_lt x2)).trans x2
    clear hb x1 x2 d0 d1 d2 d3 HO1 HO HM1 HM2
    obtain ⟨c0, c1, c2, c3⟩ := lock_box y1
    obtain ⟨d0, d1, d2, d3⟩ := lock_box y2
    cases m2 with
    | false =>
      have HR := Lib.hid (HR1.out rfl)
      clear HR0 HR1 HR2
      go_wp2_with fail
      go_ret
      exact ⟨by rw [HR.out]; rfl, HO2.out.below⟩
    | true =>
      have HR := Lib.hid (HR2.out (by simp) (by simp))
      clear HR0 HR1 HR2
      by_cases hk : y.kind < x.kind
      · have hkI : (y.kind : Int) < x.kind := by omega
        rw [if_pos hk] at HR
        clear hk
        go_wp2_with (first
          | (refine wpList_store_all rfl 25 (.tmp 2) (.tmp 20) rfl w.heap.size _ rfl rfl 25 _ y1 (by kernel_rfl) rfl (by simp [Value.oneCell']) ?_; intro w5 hp5)
          | (refine wpList_store_all rfl 25 (.tmp 3) (.tmp 21) rfl (w.heap.size + 1) _ rfl rfl 25 _ ((hp5.other _ (by omega)).trans y2) (by kernel_rfl) rfl (by simp [Value.oneCell']) ?_; intro w3 hp3))
        have HO3 := Lib.hid ((HO2.out.put hp5 (Nat.le_refl _)).put hp3 (Nat.le_succ _))
        have z1 := (hp3.other w.heap.size (by omega)).trans hp5.here
        have z2 := hp3.here
        clear hp5 hp3 y1 y2 c0 c1 c2 c3 d0 d1 d2 d3
        obtain ⟨c0, c1, c2, c3⟩ := lock_box z1
        obtain ⟨d0, d1, d2, d3⟩ := lock_box z2
        have HRU := Lib.hid (fun wz => rules_any wz)
        have hz1 := blk_lt z1
        have hz2 := blk_lt z2
        have HZ := Lib.hid (And.intro z1 z2)
        clear z1 z2
        go_region_held3 (fun w' => w'.cell? ⟨w.heap.size, 0, none⟩ = some (.int .u8 y.kind) ∧ w'.cell? ⟨w.heap.size + 1, 0, none⟩ = some (.int .u8 x.kind)) (first | exact And.intro c0 d0 | exact And.intro c0' d0')
          (first
          | (go_at_call 38
             (with_reducible refine (HRU.out _).mono ?_)
             rintro e w4 ⟨rfl, hI, hb⟩
             have HO4 := Lib.hid (HO3.out.drew.trans hb)
             have y1 := (hb.block _ hz1).trans HZ.out.1
             have y2 := (hb.block _ hz2).trans HZ.out.2
             obtain ⟨c0', c1', c2', c3'⟩ := lock_box y1
             obtain ⟨d0', d1', d2', d3'⟩ := lock_box y2
             have hlook : ∃ v is, (Instr.lookup 76 (.map (some w3.heap.size)) (.agg #[.int .u8 y.kind, .int .u8 x.kind]) true).run Tryz.prog w4 = .ok (.tuple #[v, .bool is]) w4 ∧ Hid ((∃ g, v = .func (.func g) #[] #[] ∧ is = true ∧ (g = 53 ∨ g = 54 ∨ g = 55 ∨ g = 57) ∧ ∀ wz, Lay wz → Calls Tryz.prog g #[y.val, x.val] wz fun e w' => e = .returned (.bool (Lk.rule y.l x.l)) ∧ Below wz.heap.size wz w') ∨ (is = false ∧ Lk.rule y.l x.l = false)) := by
               rcases hI.look y x HYO.out HXO.out with ⟨r, h1, h2, h3, h4⟩ | ⟨h1, v, h2⟩
               · exact ⟨_, _, h4, Lib.hid (.inl ⟨_, rfl, rfl, ruleL_fn _ h1, fun wz hz => rule_any y x HYO.out HXO.out h1 h2 h3 wz hz⟩)⟩
               · exact ⟨_, _, h2, Lib.hid (.inr ⟨rfl, rule_none y x h1⟩)⟩
             obtain ⟨v, is, hlook, HV⟩ := hlook
             have hszd : w3.drew.heap.size = w3.heap.size := rfl
             have HI := Lib.hid hI
             have HY := Lib.hid (And.intro y1 y2)
             clear hb hI y1 y2))
        rcases HV.out with ⟨g, rfl, rfl, hg, hC⟩ | ⟨rfl, hN⟩
        · have HC := Lib.hid (hC w4 (HL.out.keep HO4.out.below))
          clear hC HV
          obtain ⟨y1, y2⟩ := HY.out
          obtain ⟨e0, e1, e2, e3⟩ := lock_box y1
          obtain ⟨f0, f1, f2, f3⟩ := lock_box y2
          clear y1 y2 HY HI HZ HRU hlook
          rcases hg with rfl | rfl | rfl | rfl
          all_goals
            go_wp2_with fail
            refine HC.out.mono ?_
            rintro e w6 ⟨rfl, hb⟩
            have HO6 := Lib.hid (HO4.out.trans hb)
            go_wp2_with fail
            go_ret
            exact ⟨by rw [HR.out]; rfl, HO6.out.below⟩
        · have HR2 := Lib.hid (HR.out.trans hN)
          clear hN HV HI HZ HRU hlook HY
          go_wp2_with fail
          go_ret
          exact ⟨by rw [HR2.out]; rfl, HO4.out.below⟩
      · have hkI : (x.kind : Int) ≤ y.kind := by omega
        rw [if_neg hk] at HR
        clear hk
        go_wp2_with fail
        have HO3 := HO2
        have z1 := y1
        have z2 := y2
        clear y1 y2 c0 c1 c2 c3 d0 d1 d2 d3 HO2
        obtain ⟨c0, c1, c2, c3⟩ := lock_box z1
        obtain ⟨d0, d1, d2, d3⟩ := lock_box z2
        have HRU := Lib.hid (fun wz => rules_any wz)
        have hz1 := blk_lt z1
        have hz2 := blk_lt z2
        have HZ := Lib.hid (And.intro z1 z2)
        clear z1 z2
        go_region_held3 (fun w' => w'.cell? ⟨w.heap.size, 0, none⟩ = some (.int .u8 x.kind) ∧ w'.cell? ⟨w.heap.size + 1, 0, none⟩ = some (.int .u8 y.kind)) (first | exact And.intro c0 d0 | exact And.intro c0' d0')
          (first
          | (go_at_call 38
             (with_reducible refine (HRU.out _).mono ?_)
             rintro e w4 ⟨rfl, hI, hb⟩
             have HO4 := Lib.hid (HO3.out.drew.trans hb)
             have y1 := (hb.block _ hz1).trans HZ.out.1
             have y2 := (hb.block _ hz2).trans HZ.out.2
             obtain ⟨c0', c1', c2', c3'⟩ := lock_box y1
             obtain ⟨d0', d1', d2', d3'⟩ := lock_box y2
             have hlook : ∃ v is, (Instr.lookup 76 (.map (some w2.heap.size)) (.agg #[.int .u8 x.kind, .int .u8 y.kind]) true).run Tryz.prog w4 = .ok (.tuple #[v, .bool is]) w4 ∧ Hid ((∃ g, v = .func (.func g) #[] #[] ∧ is = true ∧ (g = 53 ∨ g = 54 ∨ g = 55 ∨ g = 57) ∧ ∀ wz, Lay wz → Calls Tryz.prog g #[x.val, y.val] wz fun e w' => e = .returned (.bool (Lk.rule x.l y.l)) ∧ Below wz.heap.size wz w') ∨ (is = false ∧ Lk.rule x.l y.l = false)) := by
               rcases hI.look x y HXO.out HYO.out with ⟨r, h1, h2, h3, h4⟩ | ⟨h1, v, h2⟩
               · exact ⟨_, _, h4, Lib.hid (.inl ⟨_, rfl, rfl, ruleL_fn _ h1, fun wz hz => rule_any x y HXO.out HYO.out h1 h2 h3 wz hz⟩)⟩
               · exact ⟨_, _, h2, Lib.hid (.inr ⟨rfl, rule_none x y h1⟩)⟩
             obtain ⟨v, is, hlook, HV⟩ := hlook
             have hszd : w2.drew.heap.size = w2.heap.size := rfl
             have HI := Lib.hid hI
             have HY := Lib.hid (And.intro y1 y2)
             clear hb hI y1 y2))
        rcases HV.out with ⟨g, rfl, rfl, hg, hC⟩ | ⟨rfl, hN⟩
        · have HC := Lib.hid (hC w4 (HL.out.keep HO4.out.below))
          clear hC HV
          obtain ⟨y1, y2⟩ := HY.out
          obtain ⟨e0, e1, e2, e3⟩ := lock_box y1
          obtain ⟨f0, f1, f2, f3⟩ := lock_box y2
          clear y1 y2 HY HI HZ HRU hlook
          rcases hg with rfl | rfl | rfl | rfl
          all_goals
            go_wp2_with fail
            refine HC.out.mono ?_
            rintro e w6 ⟨rfl, hb⟩
            have HO6 := Lib.hid (HO4.out.trans hb)
            go_wp2_with fail
            go_ret
            exact ⟨by rw [HR.out]; rfl, HO6.out.below⟩
        · have HR2 := Lib.hid (HR.out.trans hN)
          clear hN HV HI HZ HRU hlook HY
          go_wp2_with fail
          go_ret
          exact ⟨by rw [HR2.out]; rfl, HO4.out.below⟩

end Go.Proofs.YtjanjjkgnilhoaaGreatDoor
