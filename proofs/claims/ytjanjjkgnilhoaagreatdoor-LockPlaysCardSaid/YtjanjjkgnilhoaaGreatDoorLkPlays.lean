/-
  LockPlays: the walk of the law.
-/
import Derived.Test.YtjanjjkgnilhoaaGreatDoorLkSame2
import Derived.Deep.DeepCutAuto
namespace Go.Proofs.YtjanjjkgnilhoaaGreatDoor
open Go.RowKit Go.Maps

/-- What the answer's calls turn, the program's locks do not see. -/
theorem LkAt.apart {W W' : World} {q b n p : Nat} {X Y : Lh.St} (h : LkAt W q b X n) (k : RfAt W p Y) (hu : Upd W W' [p]) : LkAt W' q b X n := by
  obtain ⟨D, h1, h2, h3⟩ := h.map
  obtain ⟨s, cap, hp, _⟩ := k
  have hqp : q ≠ p := fun e => by have := h.box; rw [e, hp] at this; cases this
  have hl := h1.lt
  obtain ⟨es, c, e1, F, e2, e3⟩ := h1
  have hbp : b ≠ p := fun e => by rw [e, hp] at e1; cases e1
  refine ⟨(hu.keep q (blk_lt h.box) (by simpa using hqp)).trans h.box, ⟨D, ?_, h2, h3.keep fun k hk hc => hu.keep k hk ?_⟩, h.ok, h.most⟩
  · exact ⟨es, c, (hu.keep b hl (by simpa using hbp)).trans e1, F, e2, e3⟩
  · obtain ⟨cs, hcs⟩ := hc
    intro hm
    simp at hm
    rw [hm, hp] at hcs
    cases hcs
/-- What the program's calls turn, the answer's locks do not see. -/
theorem RfAt.apart {W W' : World} {q b n p : Nat} {X Y : Lh.St} (h : RfAt W p Y) (k : LkAt W q b X n) (hu : Upd W W' [q, b]) : RfAt W' p Y := by
  obtain ⟨s, cap, hp, hs⟩ := h
  obtain ⟨D, h1, _⟩ := k.map
  obtain ⟨es, c, hb⟩ := owns_map h1
  have hqp : p ≠ q := fun e => by have := k.box; rw [← e, hp] at this; cases this
  have hbp : p ≠ b := fun e => by rw [← e, hp] at hb; cases hb
  refine ⟨s, cap, (hu.keep p (blk_lt hp) (by simp [hqp, hbp])).trans hp, hs.keep fun j hj => hu.keep j (hs.lt j hj) ?_⟩
  intro hm
  simp at hm
  rcases hm with rfl | rfl
  · exact hs.ne k.box (by decide) hj
  · exact slice_ne_map hs hb hj

/-- Both boxes, what they hold; and the lock that was handed in. -/
structure Two (w : World) (y : LV) (q b p : Nat) (W : World) (X Y : Lh.St) (n : Nat) : Prop where
  lk : LkAt W q b X n
  rf : RfAt W p Y
  own : Own w.heap.size w W
  yb : W.heap[w.heap.size]? = some (.cells #[.int .u8 y.kind, .string y.p, .int .u64 y.frm, .int .u64 y.top] 25 (0, 0))
  fq : w.heap.size < q
  fb : w.heap.size < b
  fp : w.heap.size < p
section
variable {w : World} {y : LV} {q b p : Nat} {W W' : World} {X Y : Lh.St} {n : Nat}
theorem Two.keep (h : Two w y q b p W X Y n) (hb : Below W.heap.size W W') : Two w y q b p W' X Y n :=
  ⟨h.lk.keep hb, h.rf.keep hb, h.own.trans hb, (hb.block _ (blk_lt h.yb)).trans h.yb, h.fq, h.fb, h.fp⟩
theorem Two.mono {n' : Nat} (h : Two w y q b p W X Y n) (hn : n ≤ n') : Two w y q b p W X Y n' := ⟨h.lk.mono hn, h.rf, h.own, h.yb, h.fq, h.fb, h.fp⟩
/-- A call of the program's. -/
theorem Two.lkTo {X' : Lh.St} {n' : Nat} (h : Two w y q b p W X Y n) (h1 : LkAt W' q b X' n') (u : Upd W W' [q, b]) : Two w y q b p W' X' Y n' := by
  have f1 := h.fq
  have f2 := h.fb
  exact ⟨h1, h.rf.apart h.lk u, h.own.upd u (by simp; omega), (u.keep _ (blk_lt h.yb) (by simp; omega)).trans h.yb, f1, f2, h.fp⟩
/-- A call of the answer's. -/
theorem Two.rfTo {Y' : Lh.St} (h : Two w y q b p W X Y n) (h1 : RfAt W' p Y') (u : Upd W W' [p]) : Two w y q b p W' X Y' n := by
  have f3 := h.fp
  exact ⟨h.lk.apart h.rf u, h1, h.own.upd u (by simp; omega), (u.keep _ (blk_lt h.yb) (by simp; omega)).trans h.yb, h.fq, h.fb, f3⟩
end

/-- 'append([]api.Lock{}, x...)' of a row that was handed in. -/
theorem copy_lock (w : World) (a : Option Addr) (cap : Nat) (l : List LV) (hr : RowIs w 4 a (l.map LV.cells)) (hl : l.length ≤ 5000) (hn : a = none → cap = 0) :
    ∃ s' cap' w', (appSem #[36, 36] 36 #[.slice (some ⟨w.heap.size, 0, none⟩) 0 0, .slice a l.length cap]).run Tryz.prog (w.alloc (.cells #[] 25 (0, 0))) = .ok (.slice s' l.length cap') w' ∧ RowIs w' 4 s' (l.map LV.cells) ∧ Own w.heap.size w w' := by
  obtain ⟨i, hi, hz, hsize, hby⟩ := lk_info
  have hnil : SliceIs (w.alloc (.cells #[] 25 (0, 0))) 25 4 (some ⟨w.heap.size, 0, none⟩) 0 0 [] := SliceIs.new w 25 4 0 [] rfl (by decide)
  cases a with
  | none =>
    have hx : l = [] := by
      cases l with
      | nil => rfl
      | cons v r => obtain ⟨g, off, e, _⟩ := hr 0 (by simp); cases e
    subst hx
    obtain rfl : cap = 0 := hn rfl
    exact ⟨some ⟨w.heap.size, 0, none⟩, 0, _, run_append_slice_none _ _ _ _ i Tryz.underlying36 hi _ 0 0 (Nat.le_refl _), RowIs.nil _ _ _, (Own.refl w).alloc _⟩
  | some ad =>
    obtain ⟨s', cap', w', hrun, hS, hU, hB⟩ := append_row (T := 36) Tryz.underlying36 hi hz hsize hby rfl (by decide) (w.alloc (.cells #[] 25 (0, 0))) (some ⟨w.heap.size, 0, none⟩) 0 0 [] hnil (some ad) cap (l.map LV.cells) (hr.keep ((Below.refl _ w).alloc (Nat.le_refl _) _)) (lcells_len l) (lcells_one l) (by simp; omega) (by decide) hn
    rw [List.length_map, Nat.zero_add] at hrun hS
    refine ⟨s', cap', w', hrun, ?_, ((Own.refl w).alloc _).upd hU (by simp)⟩
    exact SliceIs.rowL (by simpa [lflat] using hS)

attribute [local go_sem ↓ high] appSem_eq
set_option maxRecDepth 20000 in
set_option maxHeartbeats 8000000 in
theorem plays_any (a : Option Addr) (cap : Nat) (l : List CV) (y : LV) (w : World) (hl : Lay w) (h : CallsAt w a l) (hy : okL y) (zy : y.p.size ≤ 140737488351232) :
    Calls Tryz.prog 3 #[.slice a l.length cap, y.val] w fun e w' => e = .returned (.bool true) ∧ Below w.heap.size w w' := by
  obtain ⟨w0, hw0⟩ : ∃ w0, w0 = w.alloc (.cells #[.int .u8 y.kind, .string y.p, .int .u64 y.frm, .int .u64 y.top] 25 (0, 0)) := ⟨_, rfl⟩
  have hO0 : Own w.heap.size w w0 := by rw [hw0]; exact (Own.refl w).alloc _
  have hy0 : w0.heap[w.heap.size]? = some (.cells #[.int .u8 y.kind, .string y.p, .int .u64 y.frm, .int .u64 y.top] 25 (0, 0)) := by rw [hw0]; exact heap_alloc_new w _
  have p1 : w0.cell? ⟨w.heap.size, 1, none⟩ = some (.string y.p) := by rw [cell_of_row _ _ _ _ _ _ hy0]; rfl
  have HO0 := Lib.hid hO0
  have HY0 := Lib.hid hy0
  have HC := Lib.hid h
  have HY := Lib.hid hy
  have HLY := Lib.hid hl
  have HHV := Lib.hid (heavy_any a cap l w0 (h.keep hO0.below))
  have HNEW := Lib.hid (new_any w0)
  have HAL := Lib.hid (fun wz (hz : Own w.heap.size w wz) => alive_any wz (hl.keep hz.below))
  have hlI : (0 : Int) ≤ l.length ∧ (l.length : Int) ≤ 140737488351232 := by have := h.len; omega
  have hyI : (0 : Int) ≤ y.p.size ∧ (y.p.size : Int) ≤ 140737488351232 := by omega
  clear h hl hy zy hO0 hy0
  go_enter Tryz.func3, Tryz.ntmps3
  go_wp2_with fail
  rw [← hw0]
  refine HHV.out.mono ?_
  rintro e w1 ⟨rfl, hw⟩
  subst w1
  clear hw0 HHV
  cases hhv : heavy l with
  | true =>
    clear hhv
    go_wp2_with fail
    refine (HAL.out _ HO0.out).mono ?_
    rintro e w2 ⟨rfl, hb⟩
    go_wp2_with fail
    go_ret
    exact ⟨rfl, (HO0.out.trans hb).below⟩
  | false =>
    have hfacts : l.length ≤ 60 ∧ asked l ≤ 100 ∧ ∀ c ∈ l, ∀ y ∈ c.l, y.p.size ≤ 300 := by
      unfold heavy at hhv
      simp only [Bool.or_eq_false_iff, decide_eq_false_iff_not] at hhv
      obtain ⟨⟨h1, h2⟩, h3⟩ := hhv
      refine ⟨by omega, by omega, fun c hc y hy => ?_⟩
      have h4 := List.any_eq_false.1 h1 c hc
      unfold long at h4
      simp only [List.any_eq_true, decide_eq_true_eq, not_exists, not_and] at h4
      have := h4 y hy
      omega
    have HF := Lib.hid hfacts
    clear hhv hfacts
    by_cases h3 : (300 : Int) < y.p.size
    · go_wp2_with fail
      refine (HAL.out _ HO0.out).mono ?_
      rintro e w2 ⟨rfl, hb⟩
      go_wp2_with fail
      go_ret
      exact ⟨rfl, (HO0.out.trans hb).below⟩
    · go_wp2_with fail
      refine HNEW.out.mono ?_
      rintro e w1 ⟨⟨rfl, hlk⟩, hO⟩
      obtain ⟨w2, hw2⟩ : ∃ w2, w2 = w1.alloc (.cells #[.slice none 0 0] 33 (0, 0)) := ⟨_, rfl⟩
      have hb12 : Own w1.heap.size w1 w2 := by rw [hw2]; exact (Own.refl w1).alloc _
      have hp2 : w2.heap[w1.heap.size]? = some (.cells #[.slice none 0 0] 33 (0, 0)) := by rw [hw2]; exact heap_alloc_new w1 _
      have hs01 := HO0.out.size
      have hs0 := blk_lt HY0.out
      have hs1 := hO.size
      have HT2 : Hid (Two w y (w0.heap.size + 1) w0.heap.size w1.heap.size w2 [] [] 0) := Lib.hid (by
        refine ⟨hlk.keep hb12.below, ⟨none, 0, hp2, SliceIs.nil _ _ _⟩, (HO0.out.trans hO.below).trans hb12.below, ?_, by omega, by omega, by omega⟩
        exact ((hO.below.trans (hb12.below.mono hs1)).block _ hs0).trans HY0.out)
      clear hlk hO hb12 hp2 hs01 hs0 hs1 p1 HNEW
      go_wp2_with fail
      rw [← hw2]
      generalize w0.heap.size + 1 = q at *
      generalize w0.heap.size = b at *
      generalize w1.heap.size = p at *
      clear hw2
      go_wp2_with fail
      go_loopw [7] (fun vi wr => ∃ (i : Nat) (X : Lh.St), i ≤ l.length ∧ vi = .int .i64 i ∧ Two w y q b p wr X X i) (fun vi _ => l.length - (intOf vi).toNat)
      case atStart => exact ⟨0, [], Nat.zero_le _, rfl, HT2.out⟩
      case round =>
        clear HT2
        obtain ⟨wo, hwo⟩ : ∃ wo, wo = wr := ⟨_, rfl⟩
        subst hwo
        obtain ⟨i, X, hi, rfl, hT⟩ := hrel
        have HT := Lib.hid hT
        clear hT
        by_cases hlt : i < l.length
        · obtain ⟨g, off, rfl, c0, c1, c2, c3⟩ := call_at (HC.out.keep HT.out.own.below) i hlt
          have hiI : (0 : Int) ≤ i ∧ (i : Int) < l.length := by omega
          obtain ⟨c, hc⟩ : ∃ c, c = l[i]'hlt := ⟨_, rfl⟩
          have hmem : c ∈ l := by rw [hc]; exact List.getElem_mem _
          have HOK := Lib.hid (HC.out.ok c hmem)
          rw [← hc] at c0 c1 c2 c3
          have HCL : Hid (c.l.length ≤ 100) := Lib.hid (by
            have h1 := asked_le (l := l) (i + 1)
            rw [← List.take_append_getElem hlt, asked_snoc, ← hc] at h1
            have := HF.out.2.1
            omega)
          have HI60 : Hid (i < 60) := Lib.hid (by have := HF.out.1; omega)
          have hdI : (0 : Int) ≤ c.dodo ∧ (c.dodo : Int) ≤ 255 := by have := HOK.out.dodo; omega
          obtain ⟨w4, hw4⟩ : ∃ w4, w4 = wo.alloc (.cells #[.int .u8 c.dodo, .int .u64 c.t.life, .int .u64 c.t.n, .slice c.a c.l.length c.cap] 38 (0, 0)) := ⟨_, rfl⟩
          have HT4 : Hid (Two w y q b p w4 X X i) := Lib.hid (by rw [hw4]; exact HT.out.keep ((Below.refl _ wo).alloc (Nat.le_refl _) _))
          have HZ4 : Hid (w4.heap[wo.heap.size]? = some (.cells #[.int .u8 c.dodo, .int .u64 c.t.life, .int .u64 c.t.n, .slice c.a c.l.length c.cap] 38 (0, 0))) := Lib.hid (by rw [hw4]; exact heap_alloc_new wo _)
          have HZN : Hid (q < wo.heap.size ∧ b < wo.heap.size ∧ p < wo.heap.size) := Lib.hid (by
            have h1 := HT.out.lk.lt
            obtain ⟨s, cap, h2, _⟩ := HT.out.rf
            exact ⟨h1.1, h1.2, blk_lt h2⟩)
          clear hc hmem HT
          go_upto_if 40 with fail
          rw [← hw4]
          clear hw4 c0 c1 c2 c3
          generalize wo.heap.size = z at *
          have HS : Hid (∀ wz : World, wz.heap[z]? = some (.cells #[.int .u8 c.dodo, .int .u64 c.t.life, .int .u64 c.t.n, .slice c.a c.l.length c.cap] 38 (0, 0)) → wz.cell? ⟨z, 1, none⟩ = some (.int .u64 c.t.life) ∧ wz.cell? ⟨z, 2, none⟩ = some (.int .u64 c.t.n) ∧ wz.cell? ⟨z, 3, none⟩ = some (.slice c.a c.l.length c.cap)) := Lib.hid (fun wz h => by
            refine ⟨?_, ?_, ?_⟩ <;> (rw [cell_of_row _ _ _ _ _ _ h]; rfl))
          go_cut [] (fun wx => ∃ X', Two w y q b p wx X' X' (i + 1) ∧ wx.heap[z]? = some (.cells #[.int .u8 c.dodo, .int .u64 c.t.life, .int .u64 c.t.n, .slice c.a c.l.length c.cap] 38 (0, 0)))
          case first =>
            cases hB : ((c.dodo : Int) % 5 == 4) with
            | true =>
              have HT4D := Lib.hid (HT4.out.keep (Own.refl w4).drew.below)
              have HDR := Lib.hid (drop_any HT4D.out.lk c.t HOK.out.tx)
              have S0 := HS.out w4.drew HZ4.out
              have HXL : Hid (X.length ≤ 4096) := Lib.hid HT4.out.lk.most
              have hrI : (0 : Int) ≤ (Lh.row X c.t).length := by omega
              go_upto_region 11 with (fail)
              go_region_held3 (fun wz => wz.cell? ⟨z, 1, none⟩ = some (.int .u64 c.t.life) ∧ wz.cell? ⟨z, 2, none⟩ = some (.int .u64 c.t.n))
                (first | exact ⟨S0.1, S0.2.1⟩ | exact ⟨S5.1, S5.2.1⟩ | exact ⟨S6.1, S6.2.1⟩ | fail)
                (first
                | (go_at_call 7
                   (with_reducible refine HDR.out.mono ?_)
                   rintro e w5 ⟨rfl, hl5, hu5⟩
                   have hz5 := (hu5.keep z (blk_lt (show w4.drew.heap[z]? = _ from HZ4.out)) (by have := HZN.out; simp; omega)).trans (show w4.drew.heap[z]? = _ from HZ4.out)
                   have HZ5 := Lib.hid hz5
                   have HT5 := Lib.hid (HT4D.out.lkTo hl5 hu5)
                   have S5 := HS.out w5 hz5
                   have HRD := Lib.hid (rdrop_any HT5.out.rf HXL.out c.t)
                   clear hl5 hu5 hz5 S0)
                | (go_at_call 8
                   (with_reducible refine HRD.out.mono ?_)
                   rintro e w6 ⟨rfl, hr6, hu6⟩
                   have hz6 := (hu6.keep z (blk_lt HZ5.out) (by have := HZN.out; simp; omega)).trans HZ5.out
                   have HZ6 := Lib.hid hz6
                   have HT6 := Lib.hid (HT5.out.rfTo hr6 hu6)
                   have S6 := HS.out w6 hz6
                   clear hr6 hu6 hz6 S5))
              all_goals
                clear S6
                go_wp2_with fail
                go_meet
                exact ⟨_, HT6.out.mono (Nat.le_succ _), HZ6.out⟩
            | false =>
              have hn5 : Below w4.heap.size w4 w4.drew := (Own.refl w4).drew.below
              obtain ⟨s5, cap5, W5, hrun0, hrow5, hO5⟩ := copy_lock w4.drew c.a c.cap c.l ((HOK.out.row.keep HT4.out.own.below).keep hn5) (by have := HCL.out; omega) HOK.out.nil
              have hrun : (appSem #[36, 36] 36 #[.slice (some ⟨w4.heap.size, 0, none⟩) 0 0, .slice c.a c.l.length c.cap]).run Tryz.prog ((w4.alloc (.cells #[] 25 (0, 0))).drew) = .ok (.slice s5 c.l.length cap5) W5 := hrun0
              have hb5 : Below w4.heap.size w4 W5 := hn5.trans hO5.below
              have HKZ : Hid (∀ wz, Below w4.heap.size w4 wz → wz.heap[z]? = some (.cells #[.int .u8 c.dodo, .int .u64 c.t.life, .int .u64 c.t.n, .slice c.a c.l.length c.cap] 38 (0, 0))) := Lib.hid (fun wz hz => (hz.block _ (blk_lt HZ4.out)).trans HZ4.out)
              have HKU : Hid (∀ wz wy, Below w4.heap.size w4 wz → Upd wz wy [q, b] → wy.heap[z]? = some (.cells #[.int .u8 c.dodo, .int .u64 c.t.life, .int .u64 c.t.n, .slice c.a c.l.length c.cap] 38 (0, 0))) := Lib.hid (fun wz wy hz hu => by
                have h0 := HKZ.out wz hz
                exact (hu.keep _ (blk_lt h0) (by have := HZN.out; simp; omega)).trans h0)
              have HB5 := Lib.hid hb5
              have HN5 := Lib.hid hn5
              obtain ⟨k, e, X2, hT⟩ : ∃ k e X2, Lh.take X c.t c.l = (k, e, X2) := ⟨_, _, _, rfl⟩
              have HTE := Lib.hid hT
              have hTK := take_any (HT4.out.lk.keep hb5) ((HLY.out.keep HT4.out.own.below).keep hb5) (by have := HI60.out; omega) c.t HOK.out.tx s5 cap5 c.l hrow5 (fun y hy => (HOK.out.ok y hy).1) (by have := HCL.out; omega)
              rw [hT] at hTK
              have HTK := Lib.hid hTK
              clear hrun0 hrow5 hO5 hb5 hn5 hT hTK
              go_upto_region 13 with (fail)
              have s0 := HS.out w4.drew (HKZ.out _ HN5.out)
              obtain ⟨s01, s02, s03⟩ := s0
              go_cut [9, 10] (fun v v2 wx => v = .int .i64 k ∧ v2 = .int .i64 e ∧ Two w y q b p wx X2 X (i + 1) ∧ wx.heap[z]? = some (.cells #[.int .u8 c.dodo, .int .u64 c.t.life, .int .u64 c.t.n, .slice c.a c.l.length c.cap] 38 (0, 0)))
              case first =>
                go_region_held3 (fun wz => wz.cell? ⟨z, 1, none⟩ = some (.int .u64 c.t.life) ∧ wz.cell? ⟨z, 2, none⟩ = some (.int .u64 c.t.n) ∧ wz.cell? ⟨z, 3, none⟩ = some (.slice c.a c.l.length c.cap))
                  (first | exact HS.out _ (HKZ.out _ HN5.out) | exact HS.out _ (HKZ.out _ (HN5.out.alloc (by simp) _)) | exact HS.out _ (HKZ.out _ HB5.out) | exact HS.out _ (HKU.out _ _ HB5.out HU6.out) | fail)
                  (first
                  | (go_at_call 9
                     (with_reducible refine HTK.out.mono ?_)
                     rintro e w6 ⟨rfl, hl6, hu6⟩
                     have HL6 := Lib.hid hl6
                     have HU6 := Lib.hid hu6
                     clear hl6 hu6))
                all_goals
                  go_wp2_with fail
                  go_meet
                  exact ⟨rfl, rfl, (HT4.out.keep HB5.out).lkTo HL6.out HU6.out, HKU.out _ _ HB5.out HU6.out⟩
              case rest =>
              obtain ⟨rfl, rfl, hT6, hz6⟩ := hcut
              have HT6 := Lib.hid hT6
              have HZ6 := Lib.hid hz6
              have hRT := rtake_any hT6.rf HT4.out.lk.most (fun e he => (HT4.out.lk.ok e he).2) c.t c.a c.cap c.l (HOK.out.row.keep hT6.own.below) (fun y hy => (HOK.out.ok y hy).1) (by have := HCL.out; omega)
              rw [HTE.out] at hRT
              have HRT := Lib.hid hRT
              obtain ⟨u1, u2, u3⟩ := HS.out wc hz6
              clear hT6 hz6 hRT s01 s02 s03 hrun HTK HKU HKZ HN5 HB5
              go_wp2_with fail
              refine HRT.out.mono ?_
              rintro x w7 ⟨rfl, hr7, hu7⟩
              have HT7 := Lib.hid (HT6.out.rfTo hr7 hu7)
              have HZ7 := Lib.hid ((hu7.keep z (blk_lt HZ6.out) (by have := HZN.out; simp; omega)).trans HZ6.out)
              clear hr7 hu7 HRT u1 u2 u3
              go_wp2_with fail
              go_meet
              exact ⟨X2, HT7.out, HZ7.out⟩
          case rest =>
          obtain ⟨X', hT8, hz8⟩ := hcut
          have HT8 := Lib.hid hT8
          have HZ8 := Lib.hid hz8
          clear hT8 hz8 HT4 HZ4
          have HXL : Hid (X'.length ≤ 4096) := Lib.hid HT8.out.lk.most
          have HOX : Hid (∀ e ∈ X', okL e.2) := Lib.hid (fun e he => (HT8.out.lk.ok e he).2)
          have HLR : Hid ((Lh.row X' c.t).length ≤ 100000) := Lib.hid (by have := Lh.drop_length X' c.t; have := HXL.out; omega)
          have HLA : Hid ((Lh.all X').length ≤ 100000) := Lib.hid (by have := Lh.all_len X'; have := HXL.out; omega)
          have HLW : Hid ((Lh.who X' y).length ≤ 100000) := Lib.hid (by have := who_len X' y; have := HXL.out; omega)
          have KH := Lib.hid (fun wz (hz : Below wc.heap.size wc wz) => held_any (HT8.out.lk.keep hz) c.t HOK.out.tx)
          have KR := Lib.hid (fun wz (hz : Below wc.heap.size wc wz) => rheld_any (HT8.out.rf.keep hz) HXL.out c.t)
          have KA := Lib.hid (fun wz (hz : Below wc.heap.size wc wz) => all_any (HT8.out.lk.keep hz))
          have KB := Lib.hid (fun wz (hz : Below wc.heap.size wc wz) => rall_any (HT8.out.rf.keep hz) HXL.out)
          have KW := Lib.hid (fun wz (hz : Below wc.heap.size wc wz) => who_any (HT8.out.lk.keep hz) ((HLY.out.keep HT8.out.own.below).keep hz) y HY.out)
          have KV := Lib.hid (fun wz (hz : Below wc.heap.size wc wz) => rwho_any (HT8.out.rf.keep hz) HXL.out HOX.out y HY.out)
          have HS8 : Hid (∀ wz, Below wc.heap.size wc wz → (wz.cell? ⟨z, 1, none⟩ = some (.int .u64 c.t.life) ∧ wz.cell? ⟨z, 2, none⟩ = some (.int .u64 c.t.n)) ∧
              wz.cell? ⟨w.heap.size, 0, none⟩ = some (.int .u8 y.kind) ∧ wz.cell? ⟨w.heap.size, 1, none⟩ = some (.string y.p) ∧ wz.cell? ⟨w.heap.size, 2, none⟩ = some (.int .u64 y.frm) ∧ wz.cell? ⟨w.heap.size, 3, none⟩ = some (.int .u64 y.top)) := Lib.hid (fun wz hb => by
            obtain ⟨h1, h2, _⟩ := HS.out wz ((hb.block _ (blk_lt HZ8.out)).trans HZ8.out)
            have h3 := (hb.block _ (blk_lt HT8.out.yb)).trans HT8.out.yb
            refine ⟨⟨h1, h2⟩, ?_, ?_, ?_, ?_⟩ <;> (rw [cell_of_row _ _ _ _ _ _ h3]; rfl))
          have HB0 : Hid (Below wc.heap.size wc wc.drew) := Lib.hid (Own.refl wc).drew.below
          have hS0 := HS8.out _ HB0.out
          have hjI : (0 : Int) ≤ i ∧ (i : Int) < l.length := by omega
          generalize hRW : Lh.row X' c.t = RW at *
          generalize hAL : Lh.all X' = AX at *
          generalize hWH : Lh.who X' y = WH at *
          have HRW := Lib.hid hRW
          have HALx := Lib.hid hAL
          have HWH := Lib.hid hWH
          clear hRW hAL hWH
          go_upto_region 17 with (fail)
          go_region_held3 (fun wz => (wz.cell? ⟨z, 1, none⟩ = some (.int .u64 c.t.life) ∧ wz.cell? ⟨z, 2, none⟩ = some (.int .u64 c.t.n)) ∧
              wz.cell? ⟨w.heap.size, 0, none⟩ = some (.int .u8 y.kind) ∧ wz.cell? ⟨w.heap.size, 1, none⟩ = some (.string y.p) ∧ wz.cell? ⟨w.heap.size, 2, none⟩ = some (.int .u64 y.frm) ∧ wz.cell? ⟨w.heap.size, 3, none⟩ = some (.int .u64 y.top))
            (first | exact hS0 | exact hS1 | exact hS2 | exact hS3 | exact hS4 | exact hS5 | exact hS6 | exact hS7 | exact hS8 | exact hS9 | fail)
            (first
            | (go_at_call 12
               (with_reducible refine (KH.out _ HB0.out).mono ?_)
               rintro e v1 ⟨⟨s1, k1, rfl, hr1⟩, hb1⟩
               have HB1 := Lib.hid (HB0.out.trans (hb1.mono HB0.out.size))
               have HR1 := Lib.hid hr1
               have hS1 := HS8.out _ HB1.out
               clear hr1 hb1)
            | (go_at_call 13
               (with_reducible refine (KR.out _ HB1.out).mono ?_)
               rintro e v2 ⟨⟨s2, k2, rfl, hr2⟩, hb2⟩
               have HB2 := Lib.hid (HB1.out.trans (hb2.mono HB1.out.size))
               have HSL := Lib.hid (sameLocks_any s1 s2 k1 k2 RW v2 (HR1.out.keep hb2) hr2 HLR.out)
               have hS2 := HS8.out _ HB2.out
               clear hr2 hb2)
            | (go_at_call 11
               (with_reducible refine HSL.out.mono ?_)
               rintro e v3 ⟨rfl, hb3⟩
               have HB3 := Lib.hid (HB2.out.trans (hb3.mono HB2.out.size))
               have hS3 := HS8.out _ HB3.out
               clear hb3)
            | (go_at_call 15
               (with_reducible refine (KA.out _ HB3.out).mono ?_)
               rintro e v4 ⟨⟨s4, k4, rfl, hr4⟩, hb4⟩
               have HB4 := Lib.hid (HB3.out.trans (hb4.mono HB3.out.size))
               have HR4 := Lib.hid hr4.row
               have hS4 := HS8.out _ HB4.out
               clear hr4 hb4)
            | (go_at_call 16
               (with_reducible refine (KB.out _ HB4.out).mono ?_)
               rintro e v5 ⟨⟨s5, k5, rfl, hr5⟩, hb5⟩
               have HB5 := Lib.hid (HB4.out.trans (hb5.mono HB4.out.size))
               have HSH := Lib.hid (sameHeld_any s4 s5 k4 k5 AX v5 (HR4.out.keep hb5) hr5.row HLA.out)
               have hS5 := HS8.out _ HB5.out
               clear hr5 hb5)
            | (go_at_call 14
               (with_reducible refine HSH.out.mono ?_)
               rintro e v6 ⟨rfl, hb6⟩
               have HB6 := Lib.hid (HB5.out.trans (hb6.mono HB5.out.size))
               have hS6 := HS8.out _ HB6.out
               clear hb6)
            | (go_at_call 18
               (with_reducible refine (KW.out _ HB6.out).mono ?_)
               rintro e v7 ⟨⟨s7, k7, rfl, hr7⟩, hb7⟩
               have HB7 := Lib.hid (HB6.out.trans (hb7.mono HB6.out.size))
               have HR7 := Lib.hid hr7
               have hS7 := HS8.out _ HB7.out
               clear hr7 hb7)
            | (go_at_call 19
               (with_reducible refine (KV.out _ HB7.out).mono ?_)
               rintro e v8 ⟨⟨s8, k8, rfl, hr8⟩, hb8⟩
               have HB8 := Lib.hid (HB7.out.trans (hb8.mono HB7.out.size))
               have HST := Lib.hid (sameTx_any s7 s8 k7 k8 WH v8 (HR7.out.keep hb8) hr8 HLW.out)
               have hS8 := HS8.out _ HB8.out
               clear hr8 hb8)
            | (go_at_call 17
               (with_reducible refine HST.out.mono ?_)
               rintro e v9 ⟨rfl, hb9⟩
               have HB9 := Lib.hid (HB8.out.trans (hb9.mono HB8.out.size))
               have hS9 := HS8.out _ HB9.out
               clear hb9))
          all_goals
            clear hS0 hS1 hS2 hS3 hS4 hS5 hS6 hS7 hS8 hS9
            go_wp2_with fail
            go_roundw
            case rel => exact ⟨i + 1, X', by omega, by go_num, HT8.out.keep HB9.out⟩
            case measure => simp [intOf]; omega
        · obtain rfl : i = l.length := by omega
          go_wp2_with fail
          refine (HAL.out _ HT.out.own).mono ?_
          rintro e w2 ⟨rfl, hb⟩
          have HO2 := Lib.hid (HT.out.own.trans hb)
          clear hb
          go_wp2_with fail
          go_ret
          exact ⟨rfl, HO2.out.below⟩

end Go.Proofs.YtjanjjkgnilhoaaGreatDoor
