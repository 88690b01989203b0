/-
  THE WALKS of the document's answer for layer 22: which locks may be, and which conflict.
-/
import Derived.Test.YtjanjjkgnilhoaaGreatDoorLkRef2
namespace Go.Proofs.YtjanjjkgnilhoaaGreatDoor
open Go.RowKit

theorem lock_box {w1 : World} {k : Int} {p : ByteArray} {f t : Int} {b : Nat} (h : w1.heap[b]? = some (.cells #[.int .u8 k, .string p, .int .u64 f, .int .u64 t] 25 (0, 0))) :
    w1.cell? ⟨b, 0, none⟩ = some (.int .u8 k) ∧ w1.cell? ⟨b, 1, none⟩ = some (.string p) ∧ w1.cell? ⟨b, 2, none⟩ = some (.int .u64 f) ∧ w1.cell? ⟨b, 3, none⟩ = some (.int .u64 t) := by
  refine ⟨?_, ?_, ?_, ?_⟩ <;> (rw [cell_of_row _ _ _ _ _ _ h]; rfl)

set_option maxRecDepth 20000 in
set_option maxHeartbeats 1000000 in
theorem rmay_any (x : LV) (ok : okL x) (w : World) : Calls Tryz.prog 28 #[x.val] w fun e w' => e = .returned (.bool (Lk.may x.l)) ∧ Below w.heap.size w w' := by
  obtain ⟨k, p, f, t⟩ := x
  have hk := ok.kind
  have hf := ok.frm
  have ht := ok.top
  simp only at hk hf ht
  have hkI : (0 : Int) ≤ k ∧ (k : Int) < 256 := by omega
  have hfI : (0 : Int) ≤ f ∧ (f : Int) < 18446744073709551616 := by omega
  have htI : (0 : Int) ≤ t ∧ (t : Int) < 18446744073709551616 := by omega
  have HM := Lib.hid (fun wz => rpieces_any p wz)
  have HP := Lib.hid (fun wz => rpref_any p wz)
  have HO := Lib.hid ((Own.refl w).alloc (.cells #[.int .u8 k, .string p, .int .u64 f, .int .u64 t] 25 (0, 0)))
  have hmay : Lk.may (LV.l ⟨k, p, f, t⟩) = (decide (f ≤ t) && ((decide (k = 1) || decide (k = 2)) && (Lk.pathB (L p) && decide (f = t)) || decide (k = 3) && (Lk.prefB (L p) && decide (f = 0) && decide (t = 0)) || decide (k = 4) && decide (L p = []))) := rfl
  have HMY := Lib.hid hmay
  clear ok hmay hf ht
  by_cases hft : f ≤ t
  · have hftI : (f : Int) ≤ t := by omega
    have HQ : Hid (Lk.may (LV.l ⟨k, p, f, t⟩) = ((decide (k = 1) || decide (k = 2)) && (Lk.pathB (L p) && decide (f = t)) || decide (k = 3) && (Lk.prefB (L p) && decide (f = 0) && decide (t = 0)) || decide (k = 4) && decide (L p = []))) := Lib.hid (by rw [HMY.out, decide_eq_true hft, Bool.true_and])
    clear hft HMY
    by_cases h12 : k = 1 ∨ k = 2
    · have HR : Hid (Lk.may (LV.l ⟨k, p, f, t⟩) = (Lk.pathB (L p) && ((f : Int) == t))) := Lib.hid (by
        rw [HQ.out]
        have hee : decide (f = t) = ((f : Int) == t) := by rw [Bool.eq_iff_iff, decide_eq_true_eq, beq_iff_eq]; omega
        rw [← hee]
        rcases h12 with rfl | rfl <;> simp)
      have h1I : ((k : Int) == 1) = true ∨ ((k : Int) == 1) = false ∧ ((k : Int) == 2) = true := by rcases h12 with rfl | rfl; exact .inl rfl; exact .inr ⟨rfl, rfl⟩
      clear HQ h12 HP
      rcases h1I with h1 | ⟨h1, h2⟩
      all_goals
        go_enter Tryz.func28, Tryz.ntmps28
        go_wp2_with fail
        refine (HM.out _).mono ?_
        rintro e w1 ⟨a, cap, ps, rfl, hps, hrow, hlen, hb⟩
        have HX := Lib.hid (pos_pieces hps)
        have HO1 := Lib.hid (HO.out.trans hb)
        have hX := hb.block w.heap.size (by simp)
        rw [heap_alloc_new] at hX
        obtain ⟨c0, c1, c2, c3⟩ := lock_box hX
        have hlI : (0 : Int) ≤ ps.length ∧ (ps.length : Int) ≤ 129 := by omega
        clear hb hX hps hrow hlen
        by_cases hz : 0 < ps.length
        · have HR2 : Hid (Lk.may (LV.l ⟨k, p, f, t⟩) = ((f : Int) == t)) := Lib.hid (by rw [HR.out, ← HX.out, decide_eq_true hz, Bool.true_and])
          have hzI : (0 : Int) < ps.length := by omega
          clear hz
          go_wp2_with fail
          go_ret
          exact ⟨by rw [HR2.out]; rfl, HO1.out.below⟩
        · have HR2 : Hid (Lk.may (LV.l ⟨k, p, f, t⟩) = false) := Lib.hid (by rw [HR.out, ← HX.out, decide_eq_false hz, Bool.false_and])
          have hzI : (ps.length : Int) ≤ 0 := by omega
          have hz0 : ps.length = 0 := by omega
          clear hz
          go_wp2_with fail
          go_ret
          exact ⟨by rw [HR2.out]; rfl, HO1.out.below⟩
    have n1 : ((k : Int) == 1) = false := by rw [beq_eq_false_iff_ne]; omega
    have n2 : ((k : Int) == 2) = false := by rw [beq_eq_false_iff_ne]; omega
    by_cases h3 : k = 3
    · have HR : Hid (Lk.may (LV.l ⟨k, p, f, t⟩) = (Lk.prefB (L p) && ((f : Int) == 0) && ((t : Int) == 0))) := Lib.hid (by
        have he1 : decide (f = 0) = ((f : Int) == 0) := by rw [Bool.eq_iff_iff, decide_eq_true_eq, beq_iff_eq]; omega
        have he2 : decide (t = 0) = ((t : Int) == 0) := by rw [Bool.eq_iff_iff, decide_eq_true_eq, beq_iff_eq]; omega
        rw [HQ.out, ← he1, ← he2, h3]; simp)
      have h3I : ((k : Int) == 3) = true := by rw [h3]; rfl
      generalize hb : Lk.prefB (L p) = b at *
      clear HQ h12 HM hb h3
      go_enter Tryz.func28, Tryz.ntmps28
      go_wp2_with fail
      refine (HP.out _).mono ?_
      rintro e w1 ⟨rfl, hb⟩
      have HO1 := Lib.hid (HO.out.trans hb)
      have hX := hb.block w.heap.size (by simp)
      rw [heap_alloc_new] at hX
      obtain ⟨c0, c1, c2, c3⟩ := lock_box hX
      clear hb hX
      cases b with
      | true =>
        go_wp2_with fail
        all_goals
          go_ret
          refine ⟨?_, HO1.out.below⟩
          rw [HR.out]
          congr 1
          show Value.bool _ = Value.bool _
          congr 1
          simp_all
      | false =>
        go_wp2_with fail
        go_ret
        exact ⟨by rw [HR.out]; rfl, HO1.out.below⟩
    have n3 : ((k : Int) == 3) = false := by rw [beq_eq_false_iff_ne]; omega
    by_cases h4 : k = 4
    · have HR : Hid (Lk.may (LV.l ⟨k, p, f, t⟩) = decide (L p = [])) := Lib.hid (by rw [HQ.out, h4]; simp)
      have h4I : ((k : Int) == 4) = true := by rw [h4]; rfl
      clear HQ h12 h3 h4 HM HP
      by_cases h : p = ⟨#[]⟩
      · subst h
        go_enter Tryz.func28, Tryz.ntmps28
        go_wp2_with fail
        go_ret
        exact ⟨by rw [HR.out]; rfl, HO.out.below⟩
      · have hE := noE h
        have hE2 := noE2 h
        have HR2 : Hid (Lk.may (LV.l ⟨k, p, f, t⟩) = false) := Lib.hid (by rw [HR.out, decide_eq_false (fun e => h (empty_L.2 e))])
        clear h
        go_enter Tryz.func28, Tryz.ntmps28
        go_wp2_with fail
        go_ret
        exact ⟨by rw [HR2.out]; rfl, HO.out.below⟩
    · have HR : Hid (Lk.may (LV.l ⟨k, p, f, t⟩) = false) := Lib.hid (by rw [HQ.out, decide_eq_false (fun e => h12 (.inl e)), decide_eq_false (fun e => h12 (.inr e)), decide_eq_false h3, decide_eq_false h4]; rfl)
      have n4 : ((k : Int) == 4) = false := by rw [beq_eq_false_iff_ne]; omega
      clear HQ h12 h3 h4 HM HP
      go_enter Tryz.func28, Tryz.ntmps28
      go_wp2_with fail
      go_ret
      exact ⟨by rw [HR.out]; rfl, HO.out.below⟩
  · have hftI : (t : Int) < f := by omega
    have HR : Hid (Lk.may (LV.l ⟨k, p, f, t⟩) = false) := Lib.hid (by rw [HMY.out, decide_eq_false hft]; rfl)
    clear HMY hft
    go_enter Tryz.func28, Tryz.ntmps28
    go_wp2_with fail
    go_ret
    exact ⟨by rw [HR.out]; rfl, HO.out.below⟩

theorem isp_any (x : LV) (w : World) : Calls Tryz.prog 61 #[x.val] w fun e w' => e = .returned (.bool (Lk.isP x.l)) ∧ Below w.heap.size w w' := by
  obtain ⟨k, p, f, t⟩ := x
  have HO := Lib.hid ((Own.refl w).alloc (.cells #[.int .u8 k, .string p, .int .u64 f, .int .u64 t] 25 (0, 0)))
  have HR : Hid (Lk.isP (LV.l ⟨k, p, f, t⟩) = (((k : Int) == 1) || ((k : Int) == 2))) := Lib.hid (by
    show (decide (k = 1) || decide (k = 2)) = _
    have e1 : decide (k = 1) = ((k : Int) == 1) := by rw [Bool.eq_iff_iff, decide_eq_true_eq, beq_iff_eq]; omega
    have e2 : decide (k = 2) = ((k : Int) == 2) := by rw [Bool.eq_iff_iff, decide_eq_true_eq, beq_iff_eq]; omega
    rw [e1, e2])
  cases h1 : ((k : Int) == 1) with
  | true =>
    have HR2 : Hid (Lk.isP (LV.l ⟨k, p, f, t⟩) = true) := Lib.hid (by rw [HR.out, h1]; rfl)
    clear HR
    go_enter Tryz.func61, Tryz.ntmps61
    go_wp2_with fail
    go_ret
    exact ⟨by rw [HR2.out]; rfl, HO.out.below⟩
  | false =>
    have HR2 : Hid (Lk.isP (LV.l ⟨k, p, f, t⟩) = ((k : Int) == 2)) := Lib.hid (by rw [HR.out, h1]; rfl)
    clear HR
    go_enter Tryz.func61, Tryz.ntmps61
    go_wp2_with fail
    go_ret
    exact ⟨by rw [HR2.out]; rfl, HO.out.below⟩

theorem path_eq {a b : ByteArray} : decide (L a = L b) = (a.toList == b.toList) := by
  rw [Bool.eq_iff_iff, decide_eq_true_eq, beq_iff_eq]; exact str_iff.symm
theorem box2 {w w1 : World} {o1 o2 : Obj} (hb : Below ((w.alloc o1).alloc o2).heap.size ((w.alloc o1).alloc o2) w1) : w1.heap[w.heap.size]? = some o1 ∧ w1.heap[w.heap.size + 1]? = some o2 := by
  refine ⟨(hb.block _ (by simp; omega)).trans ?_, (hb.block _ (by simp)).trans ?_⟩
  · exact (Below.heap_alloc _ _ _ (by simp)).trans (heap_alloc_new w o1)
  · have := heap_alloc_new (w.alloc o1) o2
    rwa [World.size_alloc] at this
set_option maxRecDepth 20000 in
set_option maxHeartbeats 1000000 in
theorem stops_any (x y : LV) (hx : okL x) (hy : okL y) (w : World) : Calls Tryz.prog 45 #[x.val, y.val] w fun e w' => e = .returned (.bool (Lk.stops x.l y.l)) ∧ Below w.heap.size w w' := by
  have HI := Lib.hid (fun wz => isp_any y wz)
  have HU := Lib.hid (fun wz => runder_any y.p x.p wz)
  obtain ⟨k, p, f, t⟩ := x
  obtain ⟨k', p', f', t'⟩ := y
  have hf := hx.frm
  have ht := hx.top
  have hf' := hy.frm
  have ht' := hy.top
  simp only at hf ht hf' ht'
  have hfI : (0 : Int) ≤ f ∧ (f : Int) < 18446744073709551616 := by omega
  have htI : (0 : Int) ≤ t ∧ (t : Int) < 18446744073709551616 := by omega
  have hfI' : (0 : Int) ≤ f' ∧ (f' : Int) < 18446744073709551616 := by omega
  have htI' : (0 : Int) ≤ t' ∧ (t' : Int) < 18446744073709551616 := by omega
  have HO := Lib.hid (((Own.refl w).alloc (.cells #[.int .u8 k, .string p, .int .u64 f, .int .u64 t] 25 (0, 0))).alloc (.cells #[.int .u8 k', .string p', .int .u64 f', .int .u64 t'] 25 (0, 0)))
  have HR : Hid (Lk.stops (LV.l ⟨k, p, f, t⟩) (LV.l ⟨k', p', f', t'⟩) = if k = 2 then ((decide (k' = 1) || decide (k' = 2)) && decide (L p = L p')) || (decide (k' = 3) && Lk.under (L p') (L p)) else if k = 4 then decide (k' = 3) || (decide (f ≤ t') && decide (f' ≤ t)) else false) := Lib.hid rfl
  clear hx hy hf ht hf' ht'
  by_cases h2 : k = 2
  · have h2I : ((k : Int) == 2) = true := by rw [h2]; rfl
    have HR1 : Hid (Lk.stops (LV.l ⟨k, p, f, t⟩) (LV.l ⟨k', p', f', t'⟩) = (((decide (k' = 1) || decide (k' = 2)) && decide (L p = L p')) || (decide (k' = 3) && Lk.under (L p') (L p)))) := Lib.hid (by rw [HR.out, if_pos h2])
    clear h2 HR
    cases hi : Lk.isP (LV.l ⟨k', p', f', t'⟩) with
    | true =>
      have hi2 : (decide (k' = 1) || decide (k' = 2)) = true := hi
      have h3n : ¬ k' = 3 := by simp at hi2; omega
      have h3B : ((k' : Int) == 3) = false := by rw [beq_eq_false_iff_ne]; omega
      have HR2 : Hid (Lk.stops (LV.l ⟨k, p, f, t⟩) (LV.l ⟨k', p', f', t'⟩) = (p.toList == p'.toList)) := Lib.hid (by rw [HR1.out, hi2, decide_eq_false h3n, path_eq]; simp)
      rw [hi] at HI
      clear hi hi2 h3n HR1
      by_cases hq : p.toList = p'.toList
      · have hqb : (p.toList == p'.toList) = true := by rw [hq]; simp
        rw [hqb] at HR2
        clear hq
        go_enter Tryz.func45, Tryz.ntmps45
        go_wp2_with fail
        refine (HI.out _).mono ?_
        rintro e w1 ⟨rfl, hb⟩
        have HO1 := Lib.hid (HO.out.trans hb)
        obtain ⟨x1, x2⟩ := box2 hb
        obtain ⟨c0, c1, c2, c3⟩ := lock_box x1
        obtain ⟨d0, d1, d2, d3⟩ := lock_box x2
        clear hb x1 x2
        go_wp2_with fail
        go_ret
        exact ⟨by rw [HR2.out]; rfl, HO1.out.below⟩
      · have hqb : (p.toList == p'.toList) = false := by rw [beq_eq_false_iff_ne]; exact hq
        rw [hqb] at HR2
        clear hq
        go_enter Tryz.func45, Tryz.ntmps45
        go_wp2_with fail
        refine (HI.out _).mono ?_
        rintro e w1 ⟨rfl, hb⟩
        have HO1 := Lib.hid (HO.out.trans hb)
        obtain ⟨x1, x2⟩ := box2 hb
        obtain ⟨c0, c1, c2, c3⟩ := lock_box x1
        obtain ⟨d0, d1, d2, d3⟩ := lock_box x2
        clear hb x1 x2
        go_wp2_with fail
        go_ret
        exact ⟨by rw [HR2.out]; rfl, HO1.out.below⟩
    | false =>
      have hi2 : (decide (k' = 1) || decide (k' = 2)) = false := hi
      rw [hi] at HI
      by_cases h3 : k' = 3
      · have h3B : ((k' : Int) == 3) = true := by rw [h3]; rfl
        have HR2 : Hid (Lk.stops (LV.l ⟨k, p, f, t⟩) (LV.l ⟨k', p', f', t'⟩) = Lk.under (L p') (L p)) := Lib.hid (by rw [HR1.out, hi2, decide_eq_true h3]; simp)
        clear hi hi2 h3 HR1
        go_enter Tryz.func45, Tryz.ntmps45
        go_wp2_with fail
        refine (HI.out _).mono ?_
        rintro e w1 ⟨rfl, hb⟩
        have HO1 := Lib.hid (HO.out.trans hb)
        obtain ⟨x1, x2⟩ := box2 hb
        obtain ⟨c0, c1, c2, c3⟩ := lock_box x1
        obtain ⟨d0, d1, d2, d3⟩ := lock_box x2
        clear hb x1 x2
        go_wp2_with fail
        refine (HU.out _).mono ?_
        rintro e w2 ⟨rfl, hb⟩
        have HO2 := Lib.hid (HO1.out.trans hb)
        clear hb
        go_wp2_with fail
        go_ret
        exact ⟨by rw [HR2.out]; rfl, HO2.out.below⟩
      · have h3B : ((k' : Int) == 3) = false := by rw [beq_eq_false_iff_ne]; omega
        have HR2 : Hid (Lk.stops (LV.l ⟨k, p, f, t⟩) (LV.l ⟨k', p', f', t'⟩) = false) := Lib.hid (by rw [HR1.out, hi2, decide_eq_false h3]; simp)
        clear hi hi2 h3 HR1
        go_enter Tryz.func45, Tryz.ntmps45
        go_wp2_with fail
        refine (HI.out _).mono ?_
        rintro e w1 ⟨rfl, hb⟩
        have HO1 := Lib.hid (HO.out.trans hb)
        obtain ⟨x1, x2⟩ := box2 hb
        obtain ⟨c0, c1, c2, c3⟩ := lock_box x1
        obtain ⟨d0, d1, d2, d3⟩ := lock_box x2
        clear hb x1 x2
        go_wp2_with fail
        go_ret
        exact ⟨by rw [HR2.out]; rfl, HO1.out.below⟩
  have n2 : ((k : Int) == 2) = false := by rw [beq_eq_false_iff_ne]; omega
  by_cases h4 : k = 4
  · have h4I : ((k : Int) == 4) = true := by rw [h4]; rfl
    by_cases h3 : k' = 3
    · have h3B : ((k' : Int) == 3) = true := by rw [h3]; rfl
      have HR2 : Hid (Lk.stops (LV.l ⟨k, p, f, t⟩) (LV.l ⟨k', p', f', t'⟩) = true) := Lib.hid (by rw [HR.out, if_neg h2, if_pos h4, decide_eq_true h3]; rfl)
      clear h2 h4 h3 HR HI HU
      go_enter Tryz.func45, Tryz.ntmps45
      go_wp2_with fail
      go_ret
      exact ⟨by rw [HR2.out]; rfl, HO.out.below⟩
    · have h3B : ((k' : Int) == 3) = false := by rw [beq_eq_false_iff_ne]; omega
      have HR2 : Hid (Lk.stops (LV.l ⟨k, p, f, t⟩) (LV.l ⟨k', p', f', t'⟩) = (decide (f ≤ t') && decide (f' ≤ t))) := Lib.hid (by rw [HR.out, if_neg h2, if_pos h4, decide_eq_false h3]; rfl)
      clear h2 h4 h3 HR HI HU
      by_cases hA : f ≤ t'
      · have hAI : (f : Int) ≤ t' := by omega
        have HR3 : Hid (Lk.stops (LV.l ⟨k, p, f, t⟩) (LV.l ⟨k', p', f', t'⟩) = decide (f' ≤ t)) := Lib.hid (by rw [HR2.out, decide_eq_true hA]; rfl)
        clear hA HR2
        go_enter Tryz.func45, Tryz.ntmps45
        go_wp2_with fail
        go_ret
        exact ⟨by rw [HR3.out]; rfl, HO.out.below⟩
      · have hAI : (t' : Int) < f := by omega
        have HR3 : Hid (Lk.stops (LV.l ⟨k, p, f, t⟩) (LV.l ⟨k', p', f', t'⟩) = false) := Lib.hid (by rw [HR2.out, decide_eq_false hA]; rfl)
        clear hA HR2
        go_enter Tryz.func45, Tryz.ntmps45
        go_wp2_with fail
        go_ret
        exact ⟨by rw [HR3.out]; rfl, HO.out.below⟩
  · have n4 : ((k : Int) == 4) = false := by rw [beq_eq_false_iff_ne]; omega
    have HR2 : Hid (Lk.stops (LV.l ⟨k, p, f, t⟩) (LV.l ⟨k', p', f', t'⟩) = false) := Lib.hid (by rw [HR.out, if_neg h2, if_neg h4])
    clear h2 h4 HR HI HU
    go_enter Tryz.func45, Tryz.ntmps45
    go_wp2_with fail
    go_ret
    exact ⟨by rw [HR2.out]; rfl, HO.out.below⟩

set_option maxRecDepth 20000 in
set_option maxHeartbeats 1000000 in
theorem rconf_any (x y : LV) (hx : okL x) (hy : okL y) (w : World) : Calls Tryz.prog 29 #[x.val, y.val] w fun e w' => e = .returned (.bool (Lk.conf x.l y.l)) ∧ Below w.heap.size w w' := by
  have HM1 := Lib.hid (fun wz => rmay_any x hx wz)
  have HM2 := Lib.hid (fun wz => rmay_any y hy wz)
  have HS1 := Lib.hid (fun wz => stops_any x y hx hy wz)
  have HS2 := Lib.hid (fun wz => stops_any y x hy hx wz)
  have HR : Hid (Lk.conf x.l y.l = (Lk.may x.l && Lk.may y.l && (Lk.stops x.l y.l || Lk.stops y.l x.l))) := Lib.hid rfl
  have HO := Lib.hid (((Own.refl w).alloc (.cells #[.int .u8 x.kind, .string x.p, .int .u64 x.frm, .int .u64 x.top] 25 (0, 0))).alloc (.cells #[.int .u8 y.kind, .string y.p, .int .u64 y.frm, .int .u64 y.top] 25 (0, 0)))
  generalize Lk.conf x.l y.l = r at *
  generalize Lk.may x.l = m1 at *
  generalize Lk.may y.l = m2 at *
  generalize Lk.stops x.l y.l = s1 at *
  generalize Lk.stops y.l x.l = s2 at *
  obtain ⟨k, p, f, t⟩ := x
  obtain ⟨k', p', f', t'⟩ := y
  go_enter Tryz.func29, Tryz.ntmps29
  go_wp2_with fail
  refine (HM1.out _).mono ?_
  rintro e w1 ⟨rfl, hb⟩
  have HO1 := Lib.hid (HO.out.trans hb)
  obtain ⟨x1, x2⟩ := box2 hb
  obtain ⟨c0, c1, c2, c3⟩ := lock_box x1
  obtain ⟨d0, d1, d2, d3⟩ := lock_box x2
  clear hb
  cases m1 with
  | false =>
    go_wp2_with fail
    go_ret
    exact ⟨by rw [HR.out]; rfl, HO1.out.below⟩
  | true =>
    clear c0 c1 c2 c3
    go_wp2_with fail
    refine (HM2.out _).mono ?_
    rintro e w2 ⟨rfl, hb⟩
    have HO2 := Lib.hid (HO1.out.trans hb)
    have y1 := (hb.block _ (blk_lt x1)).trans x1
    have y2 := (hb.block _ (blk_lt x2)).trans x2
    clear hb x1 x2 d0 d1 d2 d3
    obtain ⟨c0, c1, c2, c3⟩ := lock_box y1
    obtain ⟨d0, d1, d2, d3⟩ := lock_box y2
    cases m2 with
    | false =>
      go_wp2_with fail
      go_ret
      exact ⟨by rw [HR.out]; rfl, HO2.out.below⟩
    | true =>
      go_wp2_with fail
      refine (HS1.out _).mono ?_
      rintro e w3 ⟨rfl, hb⟩
      have HO3 := Lib.hid (HO2.out.trans hb)
      have z1 := (hb.block _ (blk_lt y1)).trans y1
      have z2 := (hb.block _ (blk_lt y2)).trans y2
      clear hb y1 y2 c0 c1 c2 c3 d0 d1 d2 d3
      obtain ⟨c0, c1, c2, c3⟩ := lock_box z1
      obtain ⟨d0, d1, d2, d3⟩ := lock_box z2
      cases s1 with
      | true =>
        go_wp2_with fail
        go_ret
        exact ⟨by rw [HR.out]; rfl, HO3.out.below⟩
      | false =>
        go_wp2_with fail
        refine (HS2.out _).mono ?_
        rintro e w4 ⟨rfl, hb⟩
        have HO4 := Lib.hid (HO3.out.trans hb)
        clear hb
        go_wp2_with fail
        go_ret
        exact ⟨by rw [HR.out]; rfl, HO4.out.below⟩

end Go.Proofs.YtjanjjkgnilhoaaGreatDoor
