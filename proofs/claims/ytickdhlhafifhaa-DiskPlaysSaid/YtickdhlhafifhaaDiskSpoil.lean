/-
  THE WALK of layer 9: Spoil.
-/
import Derived.Test.YtickdhlhafifhaaDiskCrash
import Derived.Test.YtickdhlhafifhaaMark
namespace Go.Proofs.Ytickdhlhafifhaa
open Go.RowKit

attribute [local go_sem ↓ high] appSem_eq

/-- A byte of a row that '[]byte(s)' has laid. -/
theorem MarkIs.byte {w : World} {base : Nat} {e : TypeId} {g n cap : Nat} {l : List UInt8} (h : MarkIs w base e (some ⟨g, 0, none⟩) n cap l) (i : Nat) (hi : i < l.length) :
    w.cell? ⟨g, i, none⟩ = some (.int .u8 (by8 l[i])) ∧ w.frozen? ⟨g, i, none⟩ = false ∧ g < w.heap.size ∧ n ≤ cap := by
  obtain ⟨hl, ⟨h, _⟩ | ⟨g', cur, fz, hg', hbg, hg, hfz, hnc, hcm, hcs, ht⟩⟩ := h
  · cases h
  · cases hg'
    have h1 : (cur.toList.take n)[i]? = some (.int .u8 (by8 l[i])) := by rw [ht]; simp [hi]
    rw [List.getElem?_take] at h1
    refine ⟨?_, ?_, blk_lt hg, hnc⟩
    · rw [cell_of_row w g i _ _ _ hg]
      split at h1
      · simpa using h1
      · cases h1
    · have := hfz i (by omega)
      simp [World.frozen?, hg]; omega
theorem MarkIs.set {w : World} {base : Nat} {e : TypeId} {g n cap : Nat} {l : List UInt8} (h : MarkIs w base e (some ⟨g, 0, none⟩) n cap l) (i : Nat) (hi : i < l.length) (b : UInt8) :
    MarkIs (w.setCell ⟨g, i, none⟩ (.int .u8 (by8 b))) base e (some ⟨g, 0, none⟩) n cap (l.set i b) := by
  obtain ⟨hl, ⟨h, _⟩ | ⟨g', cur, fz, hg', hbg, hg, hfz, hnc, hcm, hcs, ht⟩⟩ := h
  · cases h
  · cases hg'
    refine ⟨by rw [List.length_set]; exact hl, .inr ⟨g, cur.setIfInBounds i (.int .u8 (by8 b)), fz, rfl, hbg, heap_set _ hg, ?_, hnc, hcm, by rw [Array.size_setIfInBounds]; exact hcs, ?_⟩⟩
    · rw [Array.size_setIfInBounds]; exact hfz
    · rw [Array.toList_setIfInBounds, List.take_set, ht, ← List.map_set]
theorem spoil_none {d : Dk.D} {file i : Int} {b : UInt8} (h : d.is file = false) : Dk.spoil d file i b = (d, 3) := by unfold Dk.spoil; rw [if_pos h]
theorem spoil_arg {d : Dk.D} {f : Nat} {i : Int} {b : UInt8} (h : d.is f = true) (h1 : i < 0 ∨ ((Dk.txt d.now f).size : Int) ≤ i) : Dk.spoil d f i b = (d, 2) := by unfold Dk.spoil; rw [if_neg (by simp [h]), if_pos (by simpa using h1)]
theorem spoil_busy {d : Dk.D} {f : Nat} {i : Int} {b : UInt8} (h : d.is f = true) (h1 : ¬ (i < 0 ∨ ((Dk.txt d.now f).size : Int) ≤ i)) (h2 : d.loose ≠ []) : Dk.spoil d f i b = (d, 9) := by unfold Dk.spoil; rw [if_neg (by simp [h]), if_neg (by simpa using h1), if_pos h2]
theorem spoil_yes {d : Dk.D} {f q : Nat} {b : UInt8} (h : d.is f = true) (h1 : q < (Dk.txt d.now f).size) (h2 : d.loose = []) : Dk.spoil d f q b = ({ d with sure := d.sure.set f (Dk.turned (Dk.txt d.sure f) q b) }, 0) := by
  unfold Dk.spoil; rw [if_neg (by simp [h]), if_neg (by simp; omega), if_neg (by simp [h2])]; rfl
set_option maxRecDepth 20000 in
set_option maxHeartbeats 2000000 in
theorem spoil_has {w : World} {p : Nat} {d : Dk.D} {F : List Nat} (h : DHas w p d F) (ok : d.ok) (hl : d.loose.length ≤ 100000) (file i : Int) (hi1 : -9223372036854775808 ≤ i) (hi2 : i ≤ 9223372036854775807) (b : UInt8) :
    Calls Try.prog 39 #[.pointer (some ⟨p, 0, none⟩), .int .i64 file, .int .i64 i, .int .u8 (by8 b)] w fun e w' => e = .returned (.int .i64 (Dk.spoil d file i b).2) ∧ DStep w w' p (Dk.spoil d file i b).1 F := by
  have HH := Lib.hid h
  obtain ⟨a, cap, vs, rfl, hB, hS, hC⟩ := h
  have HN := Lib.hid (none_no hB ok.n1)
  have HI := Lib.hid (is_any hB file)
  have hie : (decide (0 ≤ file) && decide (file < (d.n : Int))) = d.is file := rfl
  rw [hie] at HI
  have HOK := Lib.hid ok
  have HB := Lib.hid hB
  obtain ⟨z0, z1, z2, z3⟩ := hB.facts
  have hlI : (0 : Int) ≤ d.loose.length ∧ (d.loose.length : Int) ≤ 100000 := by omega
  clear hB hS hC ok hie hl
  go_enter Try.func39, Try.ntmps39
  go_wp2_with fail
  refine HN.out.mono ?_
  rintro e w2 ⟨rfl, hw⟩
  subst w2
  cases his : d.is file with
  | false =>
    rw [his] at HI
    have HE := Lib.hid (spoil_none (i := i) (b := b) his)
    clear his
    go_wp2_with fail
    refine HI.out.mono ?_
    rintro e w2 ⟨rfl, hw⟩
    subst w2
    go_wp2_with fail
    go_ret
    rw [HE.out]
    exact ⟨rfl, HH.out.same (Upd.refl _ _)⟩
  | true =>
    rw [his] at HI
    have hfI := Dk.D.is_iff.1 his
    obtain ⟨f, rfl⟩ := Int.eq_ofNat_of_zero_le hfI.1
    have hfn : f < d.n := by omega
    have HF := Lib.hid hfn
    have hfI2 : (0 : Int) ≤ f ∧ (f : Int) < 16 := by have := HOK.out.n2; omega
    have hnow := HB.out.nowAt f (by omega)
    have HIS := Lib.hid his
    have hzI : (0 : Int) ≤ (Dk.txt d.now f).size ∧ ((Dk.txt d.now f).size : Int) ≤ 4194304 := by have t1 := Dk.txt_le d.now f; have t2 := HOK.out.total_now; unfold Dk.Most at t2; omega
    clear his hfI hfn
    by_cases hbad : i < 0 ∨ ((Dk.txt d.now f).size : Int) ≤ i
    · have HE := Lib.hid (spoil_arg (b := b) HIS.out hbad)
      by_cases hi0 : i < 0
      · clear hbad
        go_wp2_with fail
        refine HI.out.mono ?_
        rintro e w2 ⟨rfl, hw⟩
        subst w2
        go_wp2_with fail
        go_ret
        rw [HE.out]
        exact ⟨rfl, HH.out.same (Upd.refl _ _)⟩
      · have hi3 : ((Dk.txt d.now f).size : Int) ≤ i := by omega
        clear hbad
        go_wp2_with fail
        refine HI.out.mono ?_
        rintro e w2 ⟨rfl, hw⟩
        subst w2
        go_wp2_with fail
        go_ret
        rw [HE.out]
        exact ⟨rfl, HH.out.same (Upd.refl _ _)⟩
    · obtain ⟨q, rfl⟩ := Int.eq_ofNat_of_zero_le (show 0 ≤ i by omega)
      have hq : q < (Dk.txt d.now f).size := by omega
      have hqI : (0 : Int) ≤ q ∧ (q : Int) < (Dk.txt d.now f).size := by omega
      have HQ := Lib.hid hq
      by_cases hlo : d.loose = []
      · have HE := Lib.hid (spoil_yes (b := b) HIS.out hq hlo)
        have HLO := Lib.hid hlo
        have hlen : d.loose.length = 0 := by rw [hlo]; rfl
        rw [hlen] at z2
        obtain ⟨cp, W0, hconv, hmk, hbw⟩ := MarkIs.of_bytes (P := Try.prog) w 9 76 5 (Dk.txt d.now f) Try.underlying9 Try.underlying76 Try.underlying5 (by unfold maxLen; omega)
        have hql : q < (L (Dk.txt d.now f)).length := by rw [L_size]; exact hq
        obtain ⟨m1, m2, m3, m4⟩ := hmk.byte q hql
        have hms := hmk.set q hql ((L (Dk.txt d.now f))[q] ^^^ b)
        have hB0 := HB.out.keep (hbw.block p HB.out.lt)
        have hplt := HB.out.lt
        have hB1 := hB0.keep (w' := W0.setCell ⟨w.heap.size, q, none⟩ (.int .u8 (by8 ((L (Dk.txt d.now f))[q] ^^^ b)))) (Below.heap_setCell _ _ _ _ (by simp; omega))
        have hO1 := (((Own.refl w).trans hbw).setCell (p := ⟨w.heap.size, q, none⟩) (Nat.le_refl _) (.int .u8 (by8 ((L (Dk.txt d.now f))[q] ^^^ b))))
        have HBF := Lib.hid hB0
        have HW1 := Lib.hid (And.intro hB1 (And.intro hms hO1))
        have HTU : Hid (Dk.turned (Dk.txt d.sure f) q b = S ((L (Dk.txt d.now f)).set q ((L (Dk.txt d.now f))[q] ^^^ b))) := Lib.hid (by
          have e : d.now = d.sure := by unfold Dk.D.now; rw [HLO.out]; rfl
          have hg : (L (Dk.txt d.now f))[q] = (L (Dk.txt d.now f)).getD q 0 := by rw [List.getD_eq_getElem?_getD, List.getElem?_eq_getElem hql]; rfl
          unfold Dk.turned
          rw [hg, e])
        clear hbad hq hlo hlen hmk hms hB0 hB1 hO1 hbw hplt z0 z1 z3
        generalize (L (Dk.txt d.now f))[q] = bq at *
        obtain ⟨y0, y1, y2, y3⟩ := HBF.out.facts
        have ynow := HBF.out.nowAt f (by omega)
        go_wp2_with fail
        refine HI.out.mono ?_
        rintro e w2 ⟨rfl, hw⟩
        subst w2
        go_wp2_with fail
        obtain ⟨hB5, hM5, hO5⟩ := HW1.out
        have hcv := hM5.text (P := Try.prog) 76 9 Try.underlying76 Try.underlying5 Try.underlying9 (by omega)
        have hcv2 := (hM5.keep (Below.refl _ (W0.setCell ⟨w.heap.size, q, none⟩ (.int .u8 (by8 (bq ^^^ b))))).drew).text (P := Try.prog) 76 9 Try.underlying76 Try.underlying5 Try.underlying9 (by omega)
        have htu : Dk.turned (Dk.txt d.sure f) q b = ⟨((L (Dk.txt d.now f)).set q (bq ^^^ b)).toArray⟩ := HTU.out
        rw [← htu] at hcv hcv2
        have f5 := hB5.frozen (2 + f)
        have c5 := hB5.nowAt f (by omega)
        have HB5 := Lib.hid hB5
        have HO5 := Lib.hid hO5
        clear hM5 htu HTU HW1 hB5 hO5 hconv m1 m2 m3 m4 y0 y1 y2 y3 ynow hnow z2 HBF
        generalize W0.setCell ⟨w.heap.size, q, none⟩ (.int .u8 (by8 (bq ^^^ b))) = w5 at *
        generalize hT5 : Dk.turned (Dk.txt d.sure f) q b = T5 at *
        go_region
        have hB6 : DBox (w5.setCell ⟨p, 2 + f, none⟩ (.string T5)).drew p d.n d.room (d.now.set f T5) d.sure a d.loose.length cap d.fuse := (HB5.out.setNow f HF.out T5).keep rfl
        have hU6 : Upd w (w5.setCell ⟨p, 2 + f, none⟩ (.string T5)).drew [p] := (((Upd.of_below [p] HO5.out.below).setCell (.inl (by simp)) _).drew)
        have HB6 := Lib.hid hB6
        have HU6 := Lib.hid hU6
        clear hB6 hU6 hcv hcv2 f5 c5
        generalize (w5.setCell ⟨p, 2 + f, none⟩ (.string T5)).drew = w6 at *
        go_wp2_with (first | (refine wp_load_now HB6.out rfl (.tmp 63) rfl rfl ?_) | (refine wp_store_sure HB6.out _ HB6.out.ln rfl (.tmp 66) (.tmp 64) rfl rfl rfl ?_; intro w7 hB7 hU7; have HB7 := Lib.hid hB7; have HU7 := Lib.hid hU7; clear hB7 hU7))
        go_ret
        rw [HE.out]
        obtain ⟨a', cap', vs', hFe, hBe, hSe, hCe⟩ := HH.out
        have hUU : Upd w w7 [p] := HU6.out.trans HU7.out (fun x hx => .inl hx)
        have hpa : p ∉ blks a' := hSe.ne hBe.box (by decide)
        have hab : a' = a ∧ cap' = cap := by
          have h1 := hBe.facts.2.2.1
          have h2 := HB.out.facts.2.2.1
          rw [h1] at h2
          injection h2 with h2
          injection h2 with h2 h3 h4
          exact ⟨h2, h4⟩
        obtain ⟨rfl, rfl⟩ := hab
        have hns : d.now = d.sure := by unfold Dk.D.now; rw [HLO.out]; rfl
        refine ⟨rfl, _, ⟨a', cap', vs', rfl, ?_, hSe.keep fun k hk => hUU.keep k (hSe.lt k hk) (by simp; intro e; subst e; exact hpa hk), hCe.keep hUU (noBox1 hBe)⟩, hUU.mono (by simp), fun k hk => .inl hk⟩
        have e1 : ({ d with sure := d.sure.set f T5 } : Dk.D).n = d.n := by unfold Dk.D.n; simp
        have e2 : ({ d with sure := d.sure.set f T5 } : Dk.D).now = d.sure.set f T5 := by unfold Dk.D.now; rw [HLO.out]; rfl
        rw [e1, e2]
        have h := HB7.out
        rw [hns] at h
        exact h
      · have HE := Lib.hid (spoil_busy (b := b) HIS.out hbad hlo)
        have hlp : (0 : Int) < d.loose.length := by have := List.length_pos_iff.2 hlo; omega
        clear hbad hq hlo
        go_wp2_with fail
        refine HI.out.mono ?_
        rintro e w2 ⟨rfl, hw⟩
        subst w2
        go_wp2_with fail
        go_ret
        rw [HE.out]
        exact ⟨rfl, HH.out.same (Upd.refl _ _)⟩

end Go.Proofs.Ytickdhlhafifhaa
