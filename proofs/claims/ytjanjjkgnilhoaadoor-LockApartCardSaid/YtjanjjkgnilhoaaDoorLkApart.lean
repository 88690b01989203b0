/-
  LockApart: plain mathematics, and the walk of the law.
-/
import Derived.Test.YtjanjjkgnilhoaaDoorLkCalls
import Derived.Test.YtjanjjkgnilhoaaDoorLkSame
import Derived.Deep.DeepCutAuto
namespace Go.Proofs.YtjanjjkgnilhoaaDoor
open Go.RowKit Go.Maps

namespace Lh
/-- No two who hold locks hold any that conflict. -/
def NoConf (X : St) : Prop := ∀ e ∈ X, ∀ f ∈ X, e.1 ≠ f.1 → Lk.conf e.2.l f.2.l = false
theorem noconf_nil : NoConf [] := fun e he => by cases he
theorem noconf_put {X : St} {t : Tb.Tx} {l : List LV} (h : NoConf X) (hb : ∀ y ∈ l, busy X t y = false) : NoConf (put X t l) := by
  intro e he f hf hne
  have key : ∀ (g : Tb.Tx × LV) (y : LV), g ∈ X → y ∈ news (row X t) l → g.1 ≠ t → Lk.conf y.l g.2.l = false := fun g y hg hy hgt => by
    have h1 := hb y (news_mem _ _ y hy)
    cases hc : Lk.conf y.l g.2.l with
    | false => rfl
    | true => rw [busy_iff.2 ⟨g, hg, hgt, hc⟩] at h1; cases h1
  rcases List.mem_append.1 he with h1 | h1 <;> rcases List.mem_append.1 hf with h2 | h2
  · exact h e h1 f h2 hne
  · obtain ⟨y, hy, rfl⟩ := List.mem_map.1 h2
    rw [Lk.conf_comm]; exact key e y h1 hy hne
  · obtain ⟨y, hy, rfl⟩ := List.mem_map.1 h1
    exact key f y h2 hy (Ne.symm hne)
  · obtain ⟨y, hy, rfl⟩ := List.mem_map.1 h1
    obtain ⟨z, hz, rfl⟩ := List.mem_map.1 h2
    exact absurd rfl hne
theorem noconf_drop {X : St} (t : Tb.Tx) (h : NoConf X) : NoConf (drop X t) := fun e he f hf => h e (List.mem_filter.1 he).1 f (List.mem_filter.1 hf).1
theorem take_cases (X : St) (t : Tb.Tx) (l : List LV) : ((take X t l).2.1 ≠ 0 ∧ (take X t l).2.2 = X) ∨ ((take X t l).2.1 = 0 ∧ (take X t l).2.2 = put X t l ∧ ∀ y ∈ l, busy X t y = false) := by
  unfold take
  cases h1 : first (fun y => !Lk.may y.l) l with
  | some i => exact .inl ⟨by simp, rfl⟩
  | none =>
    cases h2 : first (busy X t) l with
    | some i => exact .inl ⟨by simp, rfl⟩
    | none =>
      simp only
      split
      · exact .inl ⟨by simp, rfl⟩
      · exact .inr ⟨rfl, rfl, first_none.1 h2⟩
theorem noconf_take {X : St} (t : Tb.Tx) (l : List LV) (h : NoConf X) : NoConf (take X t l).2.2 := by
  rcases take_cases X t l with ⟨_, e⟩ | ⟨_, e, hb⟩
  · rw [e]; exact h
  · rw [e]; exact noconf_put h hb
theorem noconf_all {X : St} (h : NoConf X) (i j : Nat) (hi : i < (all X).length) (hj : j < (all X).length) (hne : (all X)[i].1 ≠ (all X)[j].1) : Lk.conf (all X)[i].2.l (all X)[j].2.l = false :=
  h _ (mem_all.1 (List.getElem_mem hi)) _ (mem_all.1 (List.getElem_mem hj)) hne
end Lh

/-- One of a row's six cells. -/
theorem row_cells {w : World} {a : Option Addr} {l : List (Tb.Tx × LV)} (h : RowIs w 6 a (l.map ecells)) (i : Nat) (hi : i < l.length) : ∃ g off, a = some ⟨g, off, none⟩ ∧
    w.cell? ⟨g, off + i * 6, none⟩ = some (.int .u64 (l[i]'hi).1.life) ∧ w.cell? ⟨g, off + i * 6 + 1, none⟩ = some (.int .u64 (l[i]'hi).1.n) ∧ w.cell? ⟨g, off + i * 6 + 2, none⟩ = some (.int .u8 (l[i]'hi).2.kind) ∧
    w.cell? ⟨g, off + i * 6 + 3, none⟩ = some (.string (l[i]'hi).2.p) ∧ w.cell? ⟨g, off + i * 6 + 4, none⟩ = some (.int .u64 (l[i]'hi).2.frm) ∧ w.cell? ⟨g, off + i * 6 + 5, none⟩ = some (.int .u64 (l[i]'hi).2.top) := by
  obtain ⟨g, off, ha, hc⟩ := h i (by simpa using hi)
  have hce : (l.map ecells)[i]'(by simpa using hi) = ecells (l[i]'hi) := by rw [List.getElem_map]
  rw [hce] at hc
  exact ⟨g, off, ha, hc.cell 0 (by simp [ecells]), hc.cell 1 (by simp [ecells]), hc.cell 2 (by simp [ecells]), hc.cell 3 (by simp [ecells]), hc.cell 4 (by simp [ecells]), hc.cell 5 (by simp [ecells])⟩
/-- 'append([]api.Lock{}, x...)' of a row that was handed in. -/
theorem copy_lock (w : World) (a : Option Addr) (cap : Nat) (l : List LV) (hr : RowIs w 4 a (l.map LV.cells)) (hl : l.length ≤ 5000) (hn : a = none → cap = 0) :
    ∃ s' cap' w', (appSem #[34, 34] 34 #[.slice (some ⟨w.heap.size, 0, none⟩) 0 0, .slice a l.length cap]).run Tryd.prog (w.alloc (.cells #[] 24 (0, 0))) = .ok (.slice s' l.length cap') w' ∧ RowIs w' 4 s' (l.map LV.cells) ∧ Own w.heap.size w w' := by
  obtain ⟨i, hi, hz, hsize, hby⟩ := lk_info
  have hnil : SliceIs (w.alloc (.cells #[] 24 (0, 0))) 24 4 (some ⟨w.heap.size, 0, none⟩) 0 0 [] := SliceIs.new w 24 4 0 [] rfl (by decide)
  cases a with
  | none =>
    have hx : l = [] := by
      cases l with
      | nil => rfl
      | cons v r => obtain ⟨g, off, e, _⟩ := hr 0 (by simp); cases e
    subst hx
    obtain rfl : cap = 0 := hn rfl
    exact ⟨some ⟨w.heap.size, 0, none⟩, 0, _, run_append_slice_none _ _ _ _ i Tryd.underlying34 hi _ 0 0 (Nat.le_refl _), RowIs.nil _ _ _, (Own.refl w).alloc _⟩
  | some ad =>
    obtain ⟨s', cap', w', hrun, hS, hU, hB⟩ := append_row (T := 34) Tryd.underlying34 hi hz hsize hby rfl (by decide) (w.alloc (.cells #[] 24 (0, 0))) (some ⟨w.heap.size, 0, none⟩) 0 0 [] hnil (some ad) cap (l.map LV.cells) (hr.keep ((Below.refl _ w).alloc (Nat.le_refl _) _)) (lcells_len l) (lcells_one l) (by simp; omega) (by decide) hn
    rw [List.length_map, Nat.zero_add] at hrun hS
    refine ⟨s', cap', w', hrun, ?_, ((Own.refl w).alloc _).upd hU (by simp)⟩
    exact SliceIs.rowL (by simpa [lflat] using hS)

attribute [local go_sem ↓ high] appSem_eq
set_option maxRecDepth 20000 in
set_option maxHeartbeats 8000000 in
theorem apart_any (a : Option Addr) (cap : Nat) (l : List CV) (w : World) (hl : Lay w) (h : CallsAt w a l) : Calls Tryd.prog 4 #[.slice a l.length cap] w fun e w' => e = .returned (.bool true) ∧ Below w.heap.size w w' := by
  have HC := Lib.hid h
  have HLY := Lib.hid hl
  have HHV := Lib.hid (heavy_any a cap l w h)
  have HNEW := Lib.hid (new_any w)
  have HAL := Lib.hid (fun wz (hz : Own w.heap.size w wz) => alive_any wz (hl.keep hz.below))
  have hlI : (0 : Int) ≤ l.length ∧ (l.length : Int) ≤ 140737488351232 := by have := h.len; omega
  clear h hl
  go_enter Tryd.func4, Tryd.ntmps4
  go_wp2_with fail
  refine HHV.out.mono ?_
  rintro e w1 ⟨rfl, hw⟩
  subst w1
  cases hhv : heavy l with
  | true =>
    clear hhv
    go_wp2_with fail
    refine (HAL.out _ (Own.refl _)).mono ?_
    rintro e w2 ⟨rfl, hb⟩
    go_wp2_with fail
    go_ret
    exact ⟨rfl, hb⟩
  | false =>
    have hfacts : l.length ≤ 60 ∧ asked l ≤ 100 ∧ ∀ c ∈ l, ∀ y ∈ c.l, y.p.size ≤ 300 := by
      unfold heavy at hhv
      simp only [Bool.or_eq_false_iff, decide_eq_false_iff_not] at hhv
      obtain ⟨⟨h1, h2⟩, h3⟩ := hhv
      refine ⟨by omega, by omega, fun c hc y hy => ?_⟩
      have h4 := List.any_eq_false.1 h1 c hc
      unfold long at h4
      simp only [List.any_eq_true, decide_eq_true_eq, not_exists, not_and] at h4
      have := h4 y hy
      omega
    have HF := Lib.hid hfacts
    have hlen : ∀ i, i < l.length → (l.take i).length < 60 := fun i hi => by simp; omega
    clear hhv hfacts
    go_wp2_with fail
    refine HNEW.out.mono ?_
    rintro e w1 ⟨⟨rfl, hlk⟩, hO⟩
    have HO := Lib.hid hO
    have HLK := Lib.hid hlk
    clear hO hlk HNEW HHV hlen
    go_wp2_with fail
    go_loopw [4] (fun vi wr => ∃ (i : Nat) (X : Lh.St), i ≤ l.length ∧ vi = .int .i64 i ∧ Lh.NoConf X ∧ LkAt wr (w.heap.size + 1) w.heap.size X i ∧ Own w.heap.size w wr) (fun vi _ => l.length - (intOf vi).toNat)
    case atStart => exact ⟨0, [], Nat.zero_le _, rfl, Lh.noconf_nil, HLK.out, HO.out⟩
    case round =>
      clear HO HLK
      obtain ⟨wo, hwo⟩ : ∃ wo, wo = wr := ⟨_, rfl⟩
      subst hwo
      obtain ⟨i, X, hi, rfl, hNC, hL, hO⟩ := hrel
      have HO := Lib.hid hO
      have HL := Lib.hid hL
      have HNC := Lib.hid hNC
      clear hO hL hNC
      by_cases hlt : i < l.length
      · obtain ⟨g, off, rfl, c0, c1, c2, c3⟩ := call_at (HC.out.keep HO.out.below) i hlt
        have hiI : (0 : Int) ≤ i ∧ (i : Int) < l.length := by omega
        obtain ⟨c, hc⟩ : ∃ c, c = l[i]'hlt := ⟨_, rfl⟩
        have hmem : c ∈ l := by rw [hc]; exact List.getElem_mem _
        have HOK := Lib.hid (HC.out.ok c hmem)
        rw [← hc] at c0 c1 c2 c3
        have HCL : Hid (c.l.length ≤ 100) := Lib.hid (by
          have h1 := asked_le (l := l) (i + 1)
          rw [← List.take_append_getElem hlt, asked_snoc, ← hc] at h1
          have := HF.out.2.1
          omega)
        have HI60 : Hid (i < 60) := Lib.hid (by have := HF.out.1; omega)
        have HBX := Lib.hid (heap_alloc_new wo (.cells #[.int .u8 c.dodo, .int .u64 c.t.life, .int .u64 c.t.n, .slice c.a c.l.length c.cap] 36 (0, 0)))
        have HOB := Lib.hid (HO.out.alloc (.cells #[.int .u8 c.dodo, .int .u64 c.t.life, .int .u64 c.t.n, .slice c.a c.l.length c.cap] 36 (0, 0)))
        have HLB := Lib.hid (HL.out.keep ((Below.refl _ wo).alloc (Nat.le_refl _) (.cells #[.int .u8 c.dodo, .int .u64 c.t.life, .int .u64 c.t.n, .slice c.a c.l.length c.cap] 36 (0, 0))))
        have HALL := Lib.hid (all_any HLB.out)
        have hdI : (0 : Int) ≤ c.dodo ∧ (c.dodo : Int) ≤ 255 := by have := HOK.out.dodo; omega
        have HOW := Lib.hid HO.out
        have HQB : Hid (w.heap.size + 1 < wo.heap.size) := Lib.hid HL.out.lt.1
        clear hc hmem HL HO
        go_wp2_with fail
        refine HALL.out.mono ?_
        rintro e w4 ⟨⟨s4, cap4, rfl, hol4⟩, hb4⟩
        have HOL4 := Lib.hid hol4
        have HL4 := Lib.hid (HLB.out.keep hb4)
        have HO4 := Lib.hid (HOB.out.trans hb4)
        have HO4W : Hid (Own wo.heap.size wo w4) := Lib.hid (((Own.refl wo).alloc _).trans hb4)
        have hbx4 := (hb4.block _ (blk_lt HBX.out)).trans HBX.out
        have HBX4 := Lib.hid hbx4
        have b0 : w4.cell? ⟨wo.heap.size, 0, none⟩ = some (.int .u8 c.dodo) := by rw [cell_of_row _ _ _ _ _ _ hbx4]; rfl
        have b1 : w4.cell? ⟨wo.heap.size, 1, none⟩ = some (.int .u64 c.t.life) := by rw [cell_of_row _ _ _ _ _ _ hbx4]; rfl
        have b2 : w4.cell? ⟨wo.heap.size, 2, none⟩ = some (.int .u64 c.t.n) := by rw [cell_of_row _ _ _ _ _ _ hbx4]; rfl
        clear hol4 hb4 hbx4 HALL HLB HOB HBX c0 c1 c2 c3
        go_upto_if 33 with fail
        go_cut [] (fun wx => ∃ X', Lh.NoConf X' ∧ LkAt wx (w.heap.size + 1) w.heap.size X' (i + 1) ∧ Own w.heap.size w wx)
        case first =>
          cases hB : ((c.dodo : Int) % 5 == 4) with
          | true =>
            have HDR := Lib.hid (drop_any HL4.out c.t HOK.out.tx)
            go_wp2_with fail
            refine HDR.out.mono ?_
            rintro e w5 ⟨rfl, hl5, hu5⟩
            have HL5 := Lib.hid hl5
            have HO5 := Lib.hid (HO4.out.upd hu5 (by simp))
            clear hl5 hu5 HDR b0 b1 b2
            go_wp2_with fail
            go_meet
            exact ⟨_, Lh.noconf_drop _ HNC.out, HL5.out.mono (Nat.le_succ _), HO5.out⟩
          | false =>
            have hn5 : Below w4.heap.size w4 w4.drew := (Own.refl w4).drew.below
            obtain ⟨s5, cap5, W5, hrun0, hrow5, hO5⟩ := copy_lock w4.drew c.a c.cap c.l ((HOK.out.row.keep HOW.out.below).keep (HO4W.out.below.trans (hn5.mono HO4W.out.size))) (by have := HCL.out; omega) HOK.out.nil
            have hrun : (appSem #[34, 34] 34 #[.slice (some ⟨w4.heap.size, 0, none⟩) 0 0, .slice c.a c.l.length c.cap]).run Tryd.prog ((w4.alloc (.cells #[] 24 (0, 0))).drew) = .ok (.slice s5 c.l.length cap5) W5 := hrun0
            have hb5 : Below w4.heap.size w4 W5 := hn5.trans hO5.below
            have hS : ∀ wz, Below w4.heap.size w4 wz → wz.cell? ⟨wo.heap.size, 1, none⟩ = some (.int .u64 c.t.life) ∧ wz.cell? ⟨wo.heap.size, 2, none⟩ = some (.int .u64 c.t.n) ∧ wz.cell? ⟨wo.heap.size, 3, none⟩ = some (.slice c.a c.l.length c.cap) := fun wz hz => by
              have h := (hz.block _ (blk_lt HBX4.out)).trans HBX4.out
              refine ⟨?_, ?_, ?_⟩ <;> (rw [cell_of_row _ _ _ _ _ _ h]; rfl)
            have HS := Lib.hid hS
            have HS2 : Hid (∀ wz wy, Below w4.heap.size w4 wz → Upd wz wy [w.heap.size + 1, w.heap.size] → wy.cell? ⟨wo.heap.size, 1, none⟩ = some (.int .u64 c.t.life) ∧ wy.cell? ⟨wo.heap.size, 2, none⟩ = some (.int .u64 c.t.n) ∧ wy.cell? ⟨wo.heap.size, 3, none⟩ = some (.slice c.a c.l.length c.cap)) := Lib.hid (fun wz wy hz hu => by
              have h0 := (hz.block _ (blk_lt HBX4.out)).trans HBX4.out
              have h := (hu.keep _ (blk_lt h0) (by have := HQB.out; simp; omega)).trans h0
              refine ⟨?_, ?_, ?_⟩ <;> (rw [cell_of_row _ _ _ _ _ _ h]; rfl))
            have HB5 := Lib.hid hb5
            have HN5 := Lib.hid hn5
            obtain ⟨k, e, X2, hT⟩ : ∃ k e X2, Lh.take X c.t c.l = (k, e, X2) := ⟨_, _, _, rfl⟩
            have HTC := Lib.hid (Lh.take_cases X c.t c.l)
            have HNT := Lib.hid (Lh.noconf_take c.t c.l HNC.out)
            have hTK := take_any (HL4.out.keep hb5) ((HLY.out.keep HO4.out.below).keep hb5) (by have := HI60.out; omega) c.t HOK.out.tx s5 cap5 c.l hrow5 (fun y hy => (HOK.out.ok y hy).1) (by have := HCL.out; omega)
            rw [hT] at hTK HTC HNT
            have HTK := Lib.hid hTK
            have HRW4 : Hid (∀ wz wy, Below w4.heap.size w4 wz → Upd wz wy [w.heap.size + 1, w.heap.size] → RowIs wy 6 s4 ((Lh.all X).map ecells)) := Lib.hid (fun wz wy hz hu => by
              have h1 := HOL4.out.keep hz
              have hl4 := HL4.out.keep hz
              obtain ⟨D, hD, _⟩ := hl4.map
              obtain ⟨es, cl, hbm⟩ := owns_map hD
              have h2 := h1.sl.ne hl4.box (by decide)
              have h3 := slice_ne_map h1.sl hbm
              exact (OL.row ⟨h1.sl.keep fun k hk => hu.keep k (h1.sl.lt k hk) (by
                intro hm
                simp at hm
                rcases hm with rfl | rfl
                · exact h2 hk
                · exact h3 hk), h1.far, h1.all⟩))
            clear hrun0 hrow5 hO5 hb5 hn5 hS hT hTK b0 b1 b2
            go_upto_region 13 with (fail)
            have s0 := HS.out w4.drew HN5.out
            obtain ⟨s01, s02, s03⟩ := s0
            go_cut [8] (fun v wx => v = .int .i64 e ∧ LkAt wx (w.heap.size + 1) w.heap.size X2 (i + 1) ∧ RowIs wx 6 s4 ((Lh.all X).map ecells) ∧ Own w.heap.size w wx)
            case first =>
              go_region_held3 (fun wz => wz.cell? ⟨wo.heap.size, 1, none⟩ = some (.int .u64 c.t.life) ∧ wz.cell? ⟨wo.heap.size, 2, none⟩ = some (.int .u64 c.t.n) ∧ wz.cell? ⟨wo.heap.size, 3, none⟩ = some (.slice c.a c.l.length c.cap))
                (first | exact HS.out _ HN5.out | exact HS.out _ ((HN5.out.alloc (by simp) _)) | exact HS.out _ HB5.out | exact HS2.out _ _ HB5.out HU6.out | fail)
                (first
                | (go_at_call 16
                   (with_reducible refine HTK.out.mono ?_)
                   rintro e w6 ⟨rfl, hl6, hu6⟩
                   have HL6 := Lib.hid hl6
                   have HU6 := Lib.hid hu6
                   clear hl6 hu6))
              all_goals
                go_wp2_with fail
                go_meet
                exact ⟨rfl, HL6.out, HRW4.out _ _ HB5.out HU6.out, ((HO4.out.trans HB5.out).upd HU6.out (by simp))⟩
            case rest =>
            obtain ⟨rfl, hl6, hr6, hO6⟩ := hcut
            have HL6 := Lib.hid hl6
            have HR6 := Lib.hid hr6
            have HO6 := Lib.hid hO6
            have HAX : Hid ((Lh.all X).length ≤ 100000) := Lib.hid (by have := Lh.all_len X; have := HL4.out.most; omega)
            clear hl6 hr6 hO6 s01 s02 s03 hrun HTK HRW4 HS HN5 HB5
            rcases HTC.out with ⟨he, hX⟩ | ⟨he, _⟩
            · simp only at he hX
              subst hX
              have heI : ¬ (e : Int) = 0 := by omega
              have HA6 := Lib.hid (all_any HL6.out)
              clear he
              go_wp2_with fail
              refine HA6.out.mono ?_
              rintro x w7 ⟨⟨s7, c7, rfl, hol7⟩, hb7⟩
              have HSM := Lib.hid (sameHeld_any s4 s7 cap4 c7 (Lh.all X2) w7 (HR6.out.keep hb7) hol7.row HAX.out)
              have HL7 := Lib.hid (HL6.out.keep hb7)
              have HO7 := Lib.hid (HO6.out.trans hb7)
              clear hol7 hb7 HA6
              go_wp2_with fail
              refine HSM.out.mono ?_
              rintro x w8 ⟨rfl, hb8⟩
              have HL8 := Lib.hid (HL7.out.keep hb8)
              have HO8 := Lib.hid (HO7.out.trans hb8)
              clear hb8 HSM HL7 HO7
              go_wp2_with fail
              go_meet
              exact ⟨X2, HNT.out, HL8.out, HO8.out⟩
            · simp only at he
              subst he
              go_wp2_with fail
              go_meet
              exact ⟨X2, HNT.out, HL6.out, HO6.out⟩
        case rest =>
        obtain ⟨X', hNC', hL5, hO5⟩ := hcut
        have HNC' := Lib.hid hNC'
        have HL5 := Lib.hid hL5
        have HO5 := Lib.hid hO5
        have HA5 := Lib.hid (all_any hL5)
        have hal := Nat.le_trans (Lh.all_len X') hL5.most
        have halI : (0 : Int) ≤ (Lh.all X').length ∧ ((Lh.all X').length : Int) ≤ 4096 := by omega
        have HCF : Hid (∀ (i j : Nat) (hi : i < (Lh.all X').length) (hj : j < (Lh.all X').length), okL (Lh.all X')[i].2 ∧ ((Lh.all X')[i].1 ≠ (Lh.all X')[j].1 → Lk.conf (Lh.all X')[i].2.l (Lh.all X')[j].2.l = false)) := Lib.hid (fun i j hi hj => ⟨(HL5.out.ok _ (Lh.mem_all.1 (List.getElem_mem hi))).2, Lh.noconf_all HNC'.out i j hi hj⟩)
        clear hNC' hL5 hO5 hal b0 b1 b2 HOL4 HL4 HO4 HBX4
        go_wp2_with fail
        refine HA5.out.mono ?_
        rintro e w6 ⟨⟨s6, cap6, rfl, hol6⟩, hb6⟩
        have HR6 := Lib.hid hol6.row
        have HL6 := Lib.hid (HL5.out.keep hb6)
        have HO6 := Lib.hid (HO5.out.trans hb6)
        clear hol6 hb6 HA5 HL5 HO5
        generalize Lh.all X' = AL at *
        go_wp2_with fail
        go_loopw [10] (fun vi wr => ∃ p : Nat, p ≤ AL.length ∧ vi = .int .i64 p ∧ Own w6.heap.size w6 wr) (fun vi _ => AL.length - (intOf vi).toNat)
        case atStart => exact ⟨0, Nat.zero_le _, rfl, Own.refl _⟩
        case round =>
          obtain ⟨p, hp, rfl, hO⟩ := hrel
          have HOP := Lib.hid hO
          clear hO
          by_cases hpl : p < AL.length
          · have hpI : (0 : Int) ≤ p ∧ (p : Int) < AL.length := by omega
            go_wp2_with fail
            go_loopw [11] (fun vj wr => ∃ r : Nat, r ≤ p ∧ vj = .int .i64 r ∧ Own w6.heap.size w6 wr) (fun vj _ => p - (intOf vj).toNat)
            case atStart => exact ⟨0, Nat.zero_le _, rfl, HOP.out⟩
            case round =>
              clear HOP
              obtain ⟨r, hr, rfl, hO⟩ := hrel
              have HOR := Lib.hid hO
              clear hO
              by_cases hrl : r < p
              · have hrI : (0 : Int) ≤ r ∧ (r : Int) < p := by omega
                have hrI2 : (r : Int) < AL.length := by omega
                obtain ⟨g6, off6, hs6, _⟩ := row_cells HR6.out p hpl
                have HSC : Hid (∀ wz, Below w6.heap.size w6 wz → (wz.cell? ⟨g6, off6 + p * 6, none⟩ = some (.int .u64 (AL[p]'hpl).1.life) ∧ wz.cell? ⟨g6, off6 + p * 6 + 1, none⟩ = some (.int .u64 (AL[p]'hpl).1.n) ∧ wz.cell? ⟨g6, off6 + p * 6 + 2, none⟩ = some (.int .u8 (AL[p]'hpl).2.kind) ∧ wz.cell? ⟨g6, off6 + p * 6 + 3, none⟩ = some (.string (AL[p]'hpl).2.p) ∧ wz.cell? ⟨g6, off6 + p * 6 + 4, none⟩ = some (.int .u64 (AL[p]'hpl).2.frm) ∧ wz.cell? ⟨g6, off6 + p * 6 + 5, none⟩ = some (.int .u64 (AL[p]'hpl).2.top)) ∧
                    wz.cell? ⟨g6, off6 + r * 6, none⟩ = some (.int .u64 (AL[r]'(by omega)).1.life) ∧ wz.cell? ⟨g6, off6 + r * 6 + 1, none⟩ = some (.int .u64 (AL[r]'(by omega)).1.n) ∧ wz.cell? ⟨g6, off6 + r * 6 + 2, none⟩ = some (.int .u8 (AL[r]'(by omega)).2.kind) ∧ wz.cell? ⟨g6, off6 + r * 6 + 3, none⟩ = some (.string (AL[r]'(by omega)).2.p) ∧ wz.cell? ⟨g6, off6 + r * 6 + 4, none⟩ = some (.int .u64 (AL[r]'(by omega)).2.frm) ∧ wz.cell? ⟨g6, off6 + r * 6 + 5, none⟩ = some (.int .u64 (AL[r]'(by omega)).2.top)) := Lib.hid (fun wz hz => by
                  obtain ⟨g1, o1, e1, h1⟩ := row_cells (HR6.out.keep hz) p hpl
                  obtain ⟨g2, o2, e2, h2⟩ := row_cells (HR6.out.keep hz) r (by omega)
                  rw [hs6] at e1 e2
                  cases e1; cases e2
                  exact ⟨h1, h2⟩)
                have hcf := HCF.out p r hpl (by omega)
                have hok2 := (HCF.out r p (by omega) hpl).1
                generalize hy1 : AL[p]'hpl = y1 at *
                generalize hy2 : AL[r]'(by omega) = y2 at *
                subst hs6
                have hrun := run_neqT y1.1 y2.1
                have HCC : Hid (∀ wz, Below w6.heap.size w6 wz → Calls Tryd.prog 10 #[.agg #[.int .u8 y1.2.kind, .string y1.2.p, .int .u64 y1.2.frm, .int .u64 y1.2.top], .agg #[.int .u8 y2.2.kind, .string y2.2.p, .int .u64 y2.2.frm, .int .u64 y2.2.top]] wz fun e w' => e = .returned (.bool (Lk.conf y1.2.l y2.2.l)) ∧ Below wz.heap.size wz w') := Lib.hid (fun wz hz => conf_any y1.2 y2.2 hcf.1 hok2 wz (HLY.out.keep (HO6.out.below.trans (hz.mono HO6.out.size))))
                have HCF2 := Lib.hid hcf.2
                have hS0 := HSC.out wr.drew HOR.out.drew.below
                have HBD := Lib.hid HOR.out.drew.below
                clear hcf hok2 hy1 hy2
                by_cases het : y1.1 = y2.1
                · rw [show decide (y1.1 ≠ y2.1) = false by simp [het]] at hrun
                  obtain ⟨⟨p0, p1, p2, p3, p4, p5⟩, r0, r1, r2, r3, r4, r5⟩ := hS0
                  clear het
                  go_wp2_with fail
                  go_region
                  clear hrun p0 p1 p2 p3 p4 p5 r0 r1 r2 r3 r4 r5
                  go_wp2_with fail
                  go_roundw
                  case rel => exact ⟨r + 1, by omega, by go_num, HOR.out.drew⟩
                  case measure => simp [intOf]; omega
                · rw [show decide (y1.1 ≠ y2.1) = true by simp [het]] at hrun
                  have hcf := HCF2.out het
                  rw [hcf] at HCC
                  clear het hcf
                  go_wp2_with fail
                  go_region_held3 (fun wz => (wz.cell? ⟨g6, off6 + p * 6, none⟩ = some (.int .u64 y1.1.life) ∧ wz.cell? ⟨g6, off6 + p * 6 + 1, none⟩ = some (.int .u64 y1.1.n) ∧ wz.cell? ⟨g6, off6 + p * 6 + 2, none⟩ = some (.int .u8 y1.2.kind) ∧ wz.cell? ⟨g6, off6 + p * 6 + 3, none⟩ = some (.string y1.2.p) ∧ wz.cell? ⟨g6, off6 + p * 6 + 4, none⟩ = some (.int .u64 y1.2.frm) ∧ wz.cell? ⟨g6, off6 + p * 6 + 5, none⟩ = some (.int .u64 y1.2.top)) ∧
                    wz.cell? ⟨g6, off6 + r * 6, none⟩ = some (.int .u64 y2.1.life) ∧ wz.cell? ⟨g6, off6 + r * 6 + 1, none⟩ = some (.int .u64 y2.1.n) ∧ wz.cell? ⟨g6, off6 + r * 6 + 2, none⟩ = some (.int .u8 y2.2.kind) ∧ wz.cell? ⟨g6, off6 + r * 6 + 3, none⟩ = some (.string y2.2.p) ∧ wz.cell? ⟨g6, off6 + r * 6 + 4, none⟩ = some (.int .u64 y2.2.frm) ∧ wz.cell? ⟨g6, off6 + r * 6 + 5, none⟩ = some (.int .u64 y2.2.top))
                    (first | exact hS0 | exact hS1 | fail)
                    (first
                    | (go_at_call 10
                       (with_reducible refine (HCC.out _ HBD.out).mono ?_)
                       rintro x w9 ⟨rfl, hb9⟩
                       have HO9 := Lib.hid (HOR.out.drew.trans hb9)
                       have hS1 := HSC.out _ HO9.out.below
                       clear hb9))
                  all_goals
                    clear hrun hS0 hS1
                    go_wp2_with fail
                    go_roundw
                    case rel => exact ⟨r + 1, by omega, by go_num, HO9.out⟩
                    case measure => simp [intOf]; omega
              · obtain rfl : r = p := by omega
                go_wp2_with fail
                go_roundw
                case rel => exact ⟨r + 1, by omega, by go_num, HOR.out⟩
                case measure => simp [intOf]; omega
          · obtain rfl : p = AL.length := by omega
            go_wp2_with fail
            go_roundw
            case rel => exact ⟨i + 1, X', by omega, by go_num, HNC'.out, HL6.out.keep HOP.out.below, HO6.out.trans HOP.out.below⟩
            case measure => simp [intOf]; omega
      · obtain rfl : i = l.length := by omega
        go_wp2_with fail
        refine (HAL.out _ HO.out).mono ?_
        rintro e w2 ⟨rfl, hb⟩
        have HO2 := Lib.hid (HO.out.trans hb)
        clear hb
        go_wp2_with fail
        go_ret
        exact ⟨rfl, HO2.out.below⟩

end Go.Proofs.YtjanjjkgnilhoaaDoor
