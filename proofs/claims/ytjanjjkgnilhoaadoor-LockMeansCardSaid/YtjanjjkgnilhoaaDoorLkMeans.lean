/-
  LockMeans: plain mathematics, and the walk of the law.
-/
import Derived.Test.YtjanjjkgnilhoaaDoorLkAlive
namespace Go.Proofs.YtjanjjkgnilhoaaDoor
open Go.RowKit Go.Maps

namespace Lk
abbrev rL (p : List UInt8) (a : Nat) : L := ⟨1, p, a, a⟩
abbrev wL (p : List UInt8) (a : Nat) : L := ⟨2, p, a, a⟩
abbrev lL (p : List UInt8) : L := ⟨3, p, 0, 0⟩
abbrev xL (f t : Nat) : L := ⟨4, [], f, t⟩
theorem may_r (p : List UInt8) (a : Nat) : may (rL p a) = pathB p := by simp [may]
theorem may_w (p : List UInt8) (a : Nat) : may (wL p a) = pathB p := by simp [may]
theorem may_l (p : List UInt8) : may (lL p) = prefB p := by simp [may]
theorem may_x (f t : Nat) : may (xL f t) = decide (f ≤ t) := by rw [Bool.eq_iff_iff]; simp [may]
theorem conf_rr (p q : List UInt8) (a b : Nat) : conf (rL p a) (rL q b) = false := by simp [conf, stops, rL]
theorem conf_rl (p q : List UInt8) (a : Nat) : conf (rL p a) (lL q) = false := by simp [conf, stops, rL, lL]
theorem conf_ll (p : List UInt8) : conf (lL p) (lL p) = false := by simp [conf, stops, lL]
theorem conf_ww (p q : List UInt8) (a b : Nat) : conf (wL p a) (wL q b) = (pathB p && pathB q && decide (p = q)) := by
  unfold conf
  rw [may_w, may_w]
  cases pathB p <;> cases pathB q <;> rw [Bool.eq_iff_iff] <;> simp [stops, isP]
  intro h; exact h.symm
theorem conf_wr (p q : List UInt8) (a b : Nat) : conf (wL p a) (rL q b) = (pathB p && pathB q && decide (p = q)) := by
  unfold conf
  rw [may_w, may_r]
  cases pathB p <;> cases pathB q <;> rw [Bool.eq_iff_iff] <;> simp [stops, isP]
theorem conf_wl (p q : List UInt8) (a : Nat) : conf (wL p a) (lL q) = under q p := by
  unfold conf
  rw [may_w, may_l]
  have e : (stops (wL p a) (lL q) || stops (lL q) (wL p a)) = under q p := by simp [stops, isP]
  rw [e]
  unfold under
  cases pathB p <;> cases prefB q <;> rfl
theorem conf_xw (p : List UInt8) (a f t : Nat) : conf (xL f t) (wL p a) = (pathB p && decide (f ≤ a) && decide (a ≤ t)) := by
  unfold conf
  rw [may_w, may_x]
  cases pathB p <;> rw [Bool.eq_iff_iff] <;> simp [stops, isP, meet]
  omega
theorem conf_xr (p : List UInt8) (a f t : Nat) : conf (xL f t) (rL p a) = (pathB p && decide (f ≤ a) && decide (a ≤ t)) := by
  unfold conf
  rw [may_r, may_x]
  cases pathB p <;> rw [Bool.eq_iff_iff] <;> simp [stops, meet]
  omega
theorem conf_xl (p : List UInt8) (f t : Nat) : conf (xL f t) (lL p) = (decide (f ≤ t) && prefB p) := by
  unfold conf
  rw [may_l, may_x]
  simp [stops, xL, lL]
theorem conf_xx (f t : Nat) : conf (xL f t) (xL f t) = decide (f ≤ t) := by
  unfold conf
  rw [may_x]
  cases h : decide (f ≤ t) with
  | false => rfl
  | true => simp at h; simp [stops, meet, h]
end Lk

/-- The six boxes. -/
structure MnAt (w : World) (p q r : ByteArray) (a b f t : Nat) (W : World) : Prop where
  own : Own w.heap.size w W
  b0 : W.heap[w.heap.size]? = some (.cells #[.int .u8 1, .string p, .int .u64 a, .int .u64 a] 24 (0, 0))
  b1 : W.heap[w.heap.size + 1]? = some (.cells #[.int .u8 1, .string q, .int .u64 b, .int .u64 b] 24 (0, 0))
  b2 : W.heap[w.heap.size + 1 + 1]? = some (.cells #[.int .u8 2, .string p, .int .u64 a, .int .u64 a] 24 (0, 0))
  b3 : W.heap[w.heap.size + 1 + 1 + 1]? = some (.cells #[.int .u8 2, .string q, .int .u64 b, .int .u64 b] 24 (0, 0))
  b4 : W.heap[w.heap.size + 1 + 1 + 1 + 1]? = some (.cells #[.int .u8 3, .string r, .int .u64 0, .int .u64 0] 24 (0, 0))
  b5 : W.heap[w.heap.size + 1 + 1 + 1 + 1 + 1]? = some (.cells #[.int .u8 4, .string ⟨#[]⟩, .int .u64 f, .int .u64 t] 24 (0, 0))
theorem MnAt.keep {w W W' : World} {p q r : ByteArray} {a b f t : Nat} (h : MnAt w p q r a b f t W) (hb : Below W.heap.size W W') : MnAt w p q r a b f t W' :=
  ⟨h.own.trans hb, (hb.block _ (blk_lt h.b0)).trans h.b0, (hb.block _ (blk_lt h.b1)).trans h.b1, (hb.block _ (blk_lt h.b2)).trans h.b2, (hb.block _ (blk_lt h.b3)).trans h.b3, (hb.block _ (blk_lt h.b4)).trans h.b4, (hb.block _ (blk_lt h.b5)).trans h.b5⟩
theorem mnAt_new (w : World) (p q r : ByteArray) (a b f t : Nat) : MnAt w p q r a b f t ((((((w.alloc (.cells #[.int .u8 1, .string p, .int .u64 a, .int .u64 a] 24 (0, 0))).alloc (.cells #[.int .u8 1, .string q, .int .u64 b, .int .u64 b] 24 (0, 0))).alloc (.cells #[.int .u8 2, .string p, .int .u64 a, .int .u64 a] 24 (0, 0))).alloc (.cells #[.int .u8 2, .string q, .int .u64 b, .int .u64 b] 24 (0, 0))).alloc (.cells #[.int .u8 3, .string r, .int .u64 0, .int .u64 0] 24 (0, 0))).alloc (.cells #[.int .u8 4, .string ⟨#[]⟩, .int .u64 f, .int .u64 t] 24 (0, 0))) := by
  have hn : ∀ (W : World) (o : Obj) (n : Nat), n = W.heap.size → (W.alloc o).heap[n]? = some o := fun W o n h => by subst h; exact heap_alloc_new W o
  have hk : ∀ (W : World) (o u : Obj) (n : Nat), W.heap[n]? = some u → (W.alloc o).heap[n]? = some u := fun W o u n h => (Below.heap_alloc _ _ _ (blk_lt h)).trans h
  refine ⟨((((((Own.refl w).alloc _).alloc _).alloc _).alloc _).alloc _).alloc _, ?_, ?_, ?_, ?_, ?_, ?_⟩
  · exact hk _ _ _ _ (hk _ _ _ _ (hk _ _ _ _ (hk _ _ _ _ (hk _ _ _ _ (hn _ _ _ rfl)))))
  · exact hk _ _ _ _ (hk _ _ _ _ (hk _ _ _ _ (hk _ _ _ _ (hn _ _ _ (by simp)))))
  · exact hk _ _ _ _ (hk _ _ _ _ (hk _ _ _ _ (hn _ _ _ (by simp))))
  · exact hk _ _ _ _ (hk _ _ _ _ (hn _ _ _ (by simp)))
  · exact hk _ _ _ _ (hn _ _ _ (by simp))
  · exact hn _ _ _ (by simp)

set_option maxRecDepth 20000 in
set_option maxHeartbeats 8000000 in
theorem means_any (p q r : ByteArray) (a b f t : Nat) (ha : a < 18446744073709551616) (hb : b < 18446744073709551616) (hf : f < 18446744073709551616) (ht : t < 18446744073709551616) (w : World) (hl : Lay w) (zp : p.size ≤ 140737488351232) (zq : q.size ≤ 140737488351232) (zr : r.size ≤ 140737488351232) :
    Calls Tryd.prog 5 #[.string p, .string q, .string r, .int .u64 a, .int .u64 b, .int .u64 f, .int .u64 t] w fun e w' => e = .returned (.bool true) ∧ Below w.heap.size w w' := by
  have zI : ((0 : Int) ≤ p.size ∧ (p.size : Int) ≤ 140737488351232) ∧ ((0 : Int) ≤ q.size ∧ (q.size : Int) ≤ 140737488351232) ∧ ((0 : Int) ≤ r.size ∧ (r.size : Int) ≤ 140737488351232) := by omega
  obtain ⟨⟨zp0, zp1⟩, ⟨zq0, zq1⟩, zr0, zr1⟩ := zI
  have HAL := Lib.hid (fun wz (hb : Below w.heap.size w wz) => alive_any wz (hl.keep hb))
  have okr : okL ⟨1, p, a, a⟩ := ⟨(show 1 < 256 by decide), ha, ha⟩
  have oks : okL ⟨1, q, b, b⟩ := ⟨(show 1 < 256 by decide), hb, hb⟩
  have okw : okL ⟨2, p, a, a⟩ := ⟨(show 2 < 256 by decide), ha, ha⟩
  have okv : okL ⟨2, q, b, b⟩ := ⟨(show 2 < 256 by decide), hb, hb⟩
  have okl : okL ⟨3, r, 0, 0⟩ := ⟨(show 3 < 256 by decide), (show 0 < 18446744073709551616 by decide), (show 0 < 18446744073709551616 by decide)⟩
  have okx : okL ⟨4, ⟨#[]⟩, f, t⟩ := ⟨(show 4 < 256 by decide), hf, ht⟩
  have Crs : Hid (∀ wz, Below w.heap.size w wz → Calls Tryd.prog 10 #[.agg #[.int .u8 1, .string p, .int .u64 a, .int .u64 a], .agg #[.int .u8 1, .string q, .int .u64 b, .int .u64 b]] wz fun e w' => e = .returned (.bool (false)) ∧ Below wz.heap.size wz w') := Lib.hid (fun wz hbz => by
    have := conf_any ⟨1, p, a, a⟩ ⟨1, q, b, b⟩ okr oks wz (hl.keep hbz)
    rw [show Lk.conf (LV.l ⟨1, p, a, a⟩) (LV.l ⟨1, q, b, b⟩) = (false) from Lk.conf_rr _ _ _ _] at this; exact this)
  have Crl : Hid (∀ wz, Below w.heap.size w wz → Calls Tryd.prog 10 #[.agg #[.int .u8 1, .string p, .int .u64 a, .int .u64 a], .agg #[.int .u8 3, .string r, .int .u64 0, .int .u64 0]] wz fun e w' => e = .returned (.bool (false)) ∧ Below wz.heap.size wz w') := Lib.hid (fun wz hbz => by
    have := conf_any ⟨1, p, a, a⟩ ⟨3, r, 0, 0⟩ okr okl wz (hl.keep hbz)
    rw [show Lk.conf (LV.l ⟨1, p, a, a⟩) (LV.l ⟨3, r, 0, 0⟩) = (false) from Lk.conf_rl _ _ _] at this; exact this)
  have Cll : Hid (∀ wz, Below w.heap.size w wz → Calls Tryd.prog 10 #[.agg #[.int .u8 3, .string r, .int .u64 0, .int .u64 0], .agg #[.int .u8 3, .string r, .int .u64 0, .int .u64 0]] wz fun e w' => e = .returned (.bool (false)) ∧ Below wz.heap.size wz w') := Lib.hid (fun wz hbz => by
    have := conf_any ⟨3, r, 0, 0⟩ ⟨3, r, 0, 0⟩ okl okl wz (hl.keep hbz)
    rw [show Lk.conf (LV.l ⟨3, r, 0, 0⟩) (LV.l ⟨3, r, 0, 0⟩) = (false) from Lk.conf_ll _] at this; exact this)
  have Cwv : Hid (∀ wz, Below w.heap.size w wz → Calls Tryd.prog 10 #[.agg #[.int .u8 2, .string p, .int .u64 a, .int .u64 a], .agg #[.int .u8 2, .string q, .int .u64 b, .int .u64 b]] wz fun e w' => e = .returned (.bool (Lk.pathB (L p) && Lk.pathB (L q) && (p.toList == q.toList))) ∧ Below wz.heap.size wz w') := Lib.hid (fun wz hbz => by
    have := conf_any ⟨2, p, a, a⟩ ⟨2, q, b, b⟩ okw okv wz (hl.keep hbz)
    rw [show Lk.conf (LV.l ⟨2, p, a, a⟩) (LV.l ⟨2, q, b, b⟩) = (Lk.pathB (L p) && Lk.pathB (L q) && (p.toList == q.toList)) from (Lk.conf_ww _ _ _ _).trans (by rw [← path_eq])] at this; exact this)
  have Cws : Hid (∀ wz, Below w.heap.size w wz → Calls Tryd.prog 10 #[.agg #[.int .u8 2, .string p, .int .u64 a, .int .u64 a], .agg #[.int .u8 1, .string q, .int .u64 b, .int .u64 b]] wz fun e w' => e = .returned (.bool (Lk.pathB (L p) && Lk.pathB (L q) && (p.toList == q.toList))) ∧ Below wz.heap.size wz w') := Lib.hid (fun wz hbz => by
    have := conf_any ⟨2, p, a, a⟩ ⟨1, q, b, b⟩ okw oks wz (hl.keep hbz)
    rw [show Lk.conf (LV.l ⟨2, p, a, a⟩) (LV.l ⟨1, q, b, b⟩) = (Lk.pathB (L p) && Lk.pathB (L q) && (p.toList == q.toList)) from (Lk.conf_wr _ _ _ _).trans (by rw [← path_eq])] at this; exact this)
  have Cwl : Hid (∀ wz, Below w.heap.size w wz → Calls Tryd.prog 10 #[.agg #[.int .u8 2, .string p, .int .u64 a, .int .u64 a], .agg #[.int .u8 3, .string r, .int .u64 0, .int .u64 0]] wz fun e w' => e = .returned (.bool (Lk.under (L r) (L p))) ∧ Below wz.heap.size wz w') := Lib.hid (fun wz hbz => by
    have := conf_any ⟨2, p, a, a⟩ ⟨3, r, 0, 0⟩ okw okl wz (hl.keep hbz)
    rw [show Lk.conf (LV.l ⟨2, p, a, a⟩) (LV.l ⟨3, r, 0, 0⟩) = (Lk.under (L r) (L p)) from Lk.conf_wl _ _ _] at this; exact this)
  have Cxw : Hid (∀ wz, Below w.heap.size w wz → Calls Tryd.prog 10 #[.agg #[.int .u8 4, .string ⟨#[]⟩, .int .u64 f, .int .u64 t], .agg #[.int .u8 2, .string p, .int .u64 a, .int .u64 a]] wz fun e w' => e = .returned (.bool (Lk.pathB (L p) && decide (f ≤ a) && decide (a ≤ t))) ∧ Below wz.heap.size wz w') := Lib.hid (fun wz hbz => by
    have := conf_any ⟨4, ⟨#[]⟩, f, t⟩ ⟨2, p, a, a⟩ okx okw wz (hl.keep hbz)
    rw [show Lk.conf (LV.l ⟨4, ⟨#[]⟩, f, t⟩) (LV.l ⟨2, p, a, a⟩) = (Lk.pathB (L p) && decide (f ≤ a) && decide (a ≤ t)) from Lk.conf_xw _ _ _ _] at this; exact this)
  have Cxr : Hid (∀ wz, Below w.heap.size w wz → Calls Tryd.prog 10 #[.agg #[.int .u8 4, .string ⟨#[]⟩, .int .u64 f, .int .u64 t], .agg #[.int .u8 1, .string p, .int .u64 a, .int .u64 a]] wz fun e w' => e = .returned (.bool (Lk.pathB (L p) && decide (f ≤ a) && decide (a ≤ t))) ∧ Below wz.heap.size wz w') := Lib.hid (fun wz hbz => by
    have := conf_any ⟨4, ⟨#[]⟩, f, t⟩ ⟨1, p, a, a⟩ okx okr wz (hl.keep hbz)
    rw [show Lk.conf (LV.l ⟨4, ⟨#[]⟩, f, t⟩) (LV.l ⟨1, p, a, a⟩) = (Lk.pathB (L p) && decide (f ≤ a) && decide (a ≤ t)) from Lk.conf_xr _ _ _ _] at this; exact this)
  have Cxl : Hid (∀ wz, Below w.heap.size w wz → Calls Tryd.prog 10 #[.agg #[.int .u8 4, .string ⟨#[]⟩, .int .u64 f, .int .u64 t], .agg #[.int .u8 3, .string r, .int .u64 0, .int .u64 0]] wz fun e w' => e = .returned (.bool (decide (f ≤ t) && Lk.prefB (L r))) ∧ Below wz.heap.size wz w') := Lib.hid (fun wz hbz => by
    have := conf_any ⟨4, ⟨#[]⟩, f, t⟩ ⟨3, r, 0, 0⟩ okx okl wz (hl.keep hbz)
    rw [show Lk.conf (LV.l ⟨4, ⟨#[]⟩, f, t⟩) (LV.l ⟨3, r, 0, 0⟩) = (decide (f ≤ t) && Lk.prefB (L r)) from Lk.conf_xl _ _ _] at this; exact this)
  have Cxx : Hid (∀ wz, Below w.heap.size w wz → Calls Tryd.prog 10 #[.agg #[.int .u8 4, .string ⟨#[]⟩, .int .u64 f, .int .u64 t], .agg #[.int .u8 4, .string ⟨#[]⟩, .int .u64 f, .int .u64 t]] wz fun e w' => e = .returned (.bool (decide (f ≤ t))) ∧ Below wz.heap.size wz w') := Lib.hid (fun wz hbz => by
    have := conf_any ⟨4, ⟨#[]⟩, f, t⟩ ⟨4, ⟨#[]⟩, f, t⟩ okx okx wz (hl.keep hbz)
    rw [show Lk.conf (LV.l ⟨4, ⟨#[]⟩, f, t⟩) (LV.l ⟨4, ⟨#[]⟩, f, t⟩) = (decide (f ≤ t)) from Lk.conf_xx _ _] at this; exact this)
  have Mp := Lib.hid (fun wz (hbz : Below w.heap.size w wz) => pmay_any p wz (hl.keep hbz))
  have Mq := Lib.hid (fun wz (hbz : Below w.heap.size w wz) => pmay_any q wz (hl.keep hbz))
  have Un := Lib.hid (fun wz (hbz : Below w.heap.size w wz) => under_any r p wz (hl.keep hbz))
  have Pr := Lib.hid (fun wz (hbz : Below w.heap.size w wz) => ppref_any r wz (hl.keep hbz))
  have HM0 := Lib.hid (mnAt_new w p q r a b f t)
  generalize Lk.pathB (L p) = bp at *
  generalize Lk.pathB (L q) = bq at *
  generalize Lk.under (L r) (L p) = u at *
  generalize Lk.prefB (L r) = pr at *
  have hfI : (0 : Int) ≤ f ∧ (f : Int) ≤ 18446744073709551615 := by omega
  clear zp zq zr okr oks okw okv okl okx ha hb hf ht hl
  go_enter Tryd.func5, Tryd.ntmps5
  by_cases hb1 : (600 : Int) < p.size + q.size + r.size
  · go_wp2_with fail
    refine (HAL.out _ (Below.refl _ _)).mono ?_
    rintro e w2 ⟨rfl, hb⟩
    go_wp2_with fail
    go_ret
    exact ⟨rfl, hb⟩
  · go_upto_region 7 with (fail)
    generalize (((((w.alloc (.cells #[.int .u8 1, .string p, .int .u64 a, .int .u64 a] 24 (0, 0))).alloc (.cells #[.int .u8 1, .string q, .int .u64 b, .int .u64 b] 24 (0, 0))).alloc (.cells #[.int .u8 2, .string p, .int .u64 a, .int .u64 a] 24 (0, 0))).alloc (.cells #[.int .u8 2, .string q, .int .u64 b, .int .u64 b] 24 (0, 0))).alloc (.cells #[.int .u8 3, .string r, .int .u64 0, .int .u64 0] 24 (0, 0))).alloc (.cells #[.int .u8 4, .string ⟨#[]⟩, .int .u64 f, .int .u64 t] 24 (0, 0)) = W at *
    have HM := HM0
    clear HM0 hb1
    go_cut [66] (fun v wx => v = .bool false ∧ MnAt w p q r a b f t wx)
    case first =>
      obtain ⟨x00, x01, x02, x03⟩ := lock_box HM.out.b0
      obtain ⟨x10, x11, x12, x13⟩ := lock_box HM.out.b1
      go_wp2_with fail
      refine (Crs.out _ HM.out.own.below).mono ?_
      rintro e wz ⟨rfl, hb⟩
      replace HM := Lib.hid (HM.out.keep hb)
      clear hb x00 x01 x02 x03 x10 x11 x12 x13
      obtain ⟨x00, x01, x02, x03⟩ := lock_box HM.out.b0
      obtain ⟨x10, x11, x12, x13⟩ := lock_box HM.out.b4
      go_wp2_with fail
      refine (Crl.out _ HM.out.own.below).mono ?_
      rintro e wz ⟨rfl, hb⟩
      replace HM := Lib.hid (HM.out.keep hb)
      clear hb x00 x01 x02 x03 x10 x11 x12 x13
      obtain ⟨x00, x01, x02, x03⟩ := lock_box HM.out.b4
      go_wp2_with fail
      refine (Cll.out _ HM.out.own.below).mono ?_
      rintro e wz ⟨rfl, hb⟩
      replace HM := Lib.hid (HM.out.keep hb)
      clear hb x00 x01 x02 x03
      go_wp2_with fail
      go_meet
      exact ⟨rfl, HM.out⟩
    case rest =>
    obtain ⟨rfl, hM⟩ := hcut
    replace HM := Lib.hid hM
    clear hM Crs Crl Cll
    go_upto_region 9 with (fail)
    go_cut [21] (fun v wx => v = .bool (bp && bq) ∧ MnAt w p q r a b f t wx)
    case first =>
      cases bp with
      | false =>
        go_wp2_with fail
        refine (Mp.out _ HM.out.own.below).mono ?_
        rintro e wz ⟨rfl, hb⟩
        replace HM := Lib.hid (HM.out.keep hb)
        clear hb
        go_wp2_with fail
        go_meet
        exact ⟨rfl, HM.out⟩
      | true =>
        go_wp2_with fail
        refine (Mp.out _ HM.out.own.below).mono ?_
        rintro e wz ⟨rfl, hb⟩
        replace HM := Lib.hid (HM.out.keep hb)
        clear hb
        go_wp2_with fail
        refine (Mq.out _ HM.out.own.below).mono ?_
        rintro e wz ⟨rfl, hb⟩
        replace HM := Lib.hid (HM.out.keep hb)
        clear hb
        go_wp2_with fail
        go_meet
        exact ⟨rfl, HM.out⟩
    case rest =>
    obtain ⟨rfl, hM⟩ := hcut
    replace HM := Lib.hid hM
    clear hM
    go_upto_region 10 with (fail)
    go_cut [103] (fun v wx => v = .bool false ∧ MnAt w p q r a b f t wx)
    case first =>
      clear Cxw Cxr
      generalize (bp && bq) = both at *
      cases both with
      | false =>
        simp only [Bool.false_and] at Cwv Cws
        obtain ⟨x00, x01, x02, x03⟩ := lock_box HM.out.b2
        obtain ⟨x10, x11, x12, x13⟩ := lock_box HM.out.b3
        go_wp2_with fail
        refine (Cwv.out _ HM.out.own.below).mono ?_
        rintro e wz ⟨rfl, hb⟩
        replace HM := Lib.hid (HM.out.keep hb)
        clear hb x00 x01 x02 x03 x10 x11 x12 x13
        obtain ⟨x00, x01, x02, x03⟩ := lock_box HM.out.b2
        obtain ⟨x10, x11, x12, x13⟩ := lock_box HM.out.b1
        go_wp2_with fail
        refine (Cws.out _ HM.out.own.below).mono ?_
        rintro e wz ⟨rfl, hb⟩
        replace HM := Lib.hid (HM.out.keep hb)
        clear hb x00 x01 x02 x03 x10 x11 x12 x13
        obtain ⟨x00, x01, x02, x03⟩ := lock_box HM.out.b2
        obtain ⟨x10, x11, x12, x13⟩ := lock_box HM.out.b4
        go_wp2_with fail
        refine (Cwl.out _ HM.out.own.below).mono ?_
        rintro e wz ⟨rfl, hb⟩
        replace HM := Lib.hid (HM.out.keep hb)
        clear hb x00 x01 x02 x03 x10 x11 x12 x13
        go_wp2_with fail
        refine (Un.out _ HM.out.own.below).mono ?_
        rintro e wz ⟨rfl, hb⟩
        replace HM := Lib.hid (HM.out.keep hb)
        clear hb
        go_wp2_with fail
        go_meet
        exact ⟨by simp, HM.out⟩
      | true =>
        simp only [Bool.true_and] at Cwv Cws
        obtain ⟨x00, x01, x02, x03⟩ := lock_box HM.out.b2
        obtain ⟨x10, x11, x12, x13⟩ := lock_box HM.out.b3
        go_wp2_with fail
        refine (Cwv.out _ HM.out.own.below).mono ?_
        rintro e wz ⟨rfl, hb⟩
        replace HM := Lib.hid (HM.out.keep hb)
        clear hb x00 x01 x02 x03 x10 x11 x12 x13
        obtain ⟨x00, x01, x02, x03⟩ := lock_box HM.out.b2
        obtain ⟨x10, x11, x12, x13⟩ := lock_box HM.out.b1
        go_wp2_with fail
        refine (Cws.out _ HM.out.own.below).mono ?_
        rintro e wz ⟨rfl, hb⟩
        replace HM := Lib.hid (HM.out.keep hb)
        clear hb x00 x01 x02 x03 x10 x11 x12 x13
        obtain ⟨x00, x01, x02, x03⟩ := lock_box HM.out.b2
        obtain ⟨x10, x11, x12, x13⟩ := lock_box HM.out.b4
        go_wp2_with fail
        refine (Cwl.out _ HM.out.own.below).mono ?_
        rintro e wz ⟨rfl, hb⟩
        replace HM := Lib.hid (HM.out.keep hb)
        clear hb x00 x01 x02 x03 x10 x11 x12 x13
        go_wp2_with fail
        refine (Un.out _ HM.out.own.below).mono ?_
        rintro e wz ⟨rfl, hb⟩
        replace HM := Lib.hid (HM.out.keep hb)
        clear hb
        go_wp2_with fail
        go_meet
        exact ⟨by simp, HM.out⟩
    case rest =>
    obtain ⟨rfl, hM⟩ := hcut
    replace HM := Lib.hid hM
    clear hM Cwv Cws Cwl Un
    go_upto_region 12 with (fail)
    go_cut [22] (fun v wx => v = .bool (bp && decide (f ≤ a) && decide (a ≤ t)) ∧ MnAt w p q r a b f t wx)
    case first =>
      clear Cxw Cxr Cxl Cxx
      cases bp with
      | false =>
        go_wp2_with fail
        refine (Mp.out _ HM.out.own.below).mono ?_
        rintro e wz ⟨rfl, hb⟩
        replace HM := Lib.hid (HM.out.keep hb)
        clear hb
        go_wp2_with fail
        go_meet
        exact ⟨rfl, HM.out⟩
      | true =>
        by_cases hfa : f ≤ a
        · have hfaI : (f : Int) ≤ a := by omega
          go_wp2_with fail
          refine (Mp.out _ HM.out.own.below).mono ?_
          rintro e wz ⟨rfl, hb⟩
          replace HM := Lib.hid (HM.out.keep hb)
          clear hb
          go_wp2_with fail
          go_meet
          exact ⟨by rw [decide_eq_true hfa, Value.bool.injEq, Bool.eq_iff_iff]; simp, HM.out⟩
        · have hfaI : ¬ (f : Int) ≤ a := by omega
          go_wp2_with fail
          refine (Mp.out _ HM.out.own.below).mono ?_
          rintro e wz ⟨rfl, hb⟩
          replace HM := Lib.hid (HM.out.keep hb)
          clear hb
          go_wp2_with fail
          go_meet
          exact ⟨by rw [decide_eq_false hfa]; rfl, HM.out⟩
    case rest =>
    obtain ⟨rfl, hM⟩ := hcut
    replace HM := Lib.hid hM
    clear hM Mp Mq
    generalize (bp && decide (f ≤ a) && decide (a ≤ t)) = inn at *
    by_cases hft : f ≤ t
    · have hftI : (f : Int) ≤ t := by omega
      rw [decide_eq_true hft] at Cxx
      simp only [decide_eq_true hft, Bool.true_and] at Cxl
      clear hft
      obtain ⟨x00, x01, x02, x03⟩ := lock_box HM.out.b5
      obtain ⟨x10, x11, x12, x13⟩ := lock_box HM.out.b2
      go_wp2_with fail
      refine (Cxw.out _ HM.out.own.below).mono ?_
      rintro e wz ⟨rfl, hb⟩
      replace HM := Lib.hid (HM.out.keep hb)
      clear hb x00 x01 x02 x03 x10 x11 x12 x13
      obtain ⟨x00, x01, x02, x03⟩ := lock_box HM.out.b5
      obtain ⟨x10, x11, x12, x13⟩ := lock_box HM.out.b0
      go_wp2_with fail
      refine (Cxr.out _ HM.out.own.below).mono ?_
      rintro e wz ⟨rfl, hb⟩
      replace HM := Lib.hid (HM.out.keep hb)
      clear hb x00 x01 x02 x03 x10 x11 x12 x13
      obtain ⟨x00, x01, x02, x03⟩ := lock_box HM.out.b5
      obtain ⟨x10, x11, x12, x13⟩ := lock_box HM.out.b4
      go_wp2_with fail
      refine (Cxl.out _ HM.out.own.below).mono ?_
      rintro e wz ⟨rfl, hb⟩
      replace HM := Lib.hid (HM.out.keep hb)
      clear hb x00 x01 x02 x03 x10 x11 x12 x13
      go_wp2_with fail
      refine (Pr.out _ HM.out.own.below).mono ?_
      rintro e wz ⟨rfl, hb⟩
      replace HM := Lib.hid (HM.out.keep hb)
      clear hb
      obtain ⟨x00, x01, x02, x03⟩ := lock_box HM.out.b5
      go_wp2_with fail
      refine (Cxx.out _ HM.out.own.below).mono ?_
      rintro e wz ⟨rfl, hb⟩
      replace HM := Lib.hid (HM.out.keep hb)
      clear hb x00 x01 x02 x03
      go_wp2_with fail
      refine (HAL.out _ HM.out.own.below).mono ?_
      rintro e wz ⟨rfl, hb⟩
      replace HM := Lib.hid (HM.out.keep hb)
      clear hb
      go_wp2_with fail
      go_ret
      exact ⟨rfl, HM.out.own.below⟩
    · have hftI : ¬ (f : Int) ≤ t := by omega
      rw [decide_eq_false hft] at Cxx
      simp only [decide_eq_false hft, Bool.false_and] at Cxl
      clear hft
      obtain ⟨x00, x01, x02, x03⟩ := lock_box HM.out.b5
      obtain ⟨x10, x11, x12, x13⟩ := lock_box HM.out.b2
      go_wp2_with fail
      refine (Cxw.out _ HM.out.own.below).mono ?_
      rintro e wz ⟨rfl, hb⟩
      replace HM := Lib.hid (HM.out.keep hb)
      clear hb x00 x01 x02 x03 x10 x11 x12 x13
      obtain ⟨x00, x01, x02, x03⟩ := lock_box HM.out.b5
      obtain ⟨x10, x11, x12, x13⟩ := lock_box HM.out.b0
      go_wp2_with fail
      refine (Cxr.out _ HM.out.own.below).mono ?_
      rintro e wz ⟨rfl, hb⟩
      replace HM := Lib.hid (HM.out.keep hb)
      clear hb x00 x01 x02 x03 x10 x11 x12 x13
      obtain ⟨x00, x01, x02, x03⟩ := lock_box HM.out.b5
      obtain ⟨x10, x11, x12, x13⟩ := lock_box HM.out.b4
      go_wp2_with fail
      refine (Cxl.out _ HM.out.own.below).mono ?_
      rintro e wz ⟨rfl, hb⟩
      replace HM := Lib.hid (HM.out.keep hb)
      clear hb x00 x01 x02 x03 x10 x11 x12 x13
      obtain ⟨x00, x01, x02, x03⟩ := lock_box HM.out.b5
      go_wp2_with fail
      refine (Cxx.out _ HM.out.own.below).mono ?_
      rintro e wz ⟨rfl, hb⟩
      replace HM := Lib.hid (HM.out.keep hb)
      clear hb x00 x01 x02 x03
      go_wp2_with fail
      refine (HAL.out _ HM.out.own.below).mono ?_
      rintro e wz ⟨rfl, hb⟩
      replace HM := Lib.hid (HM.out.keep hb)
      clear hb
      go_wp2_with fail
      go_ret
      exact ⟨rfl, HM.out.own.below⟩

end Go.Proofs.YtjanjjkgnilhoaaDoor
