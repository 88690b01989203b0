/-
  THE WALKS of package cell: Destroy, Read.
-/
import Derived.Test.YtllepgdebjfbdaaCellFind
import Derived.Deep.CutBlock
import Derived.Deep.DeepCutAuto
namespace Go.Proofs.Ytllepgdebjfbdaa
open Go.RowKit

theorem find_in {c : Cl.Cel} {n : Nat} (h : (Cl.find c n).2 = 0) : (Cl.find c n).1 < c.l.length ∧ Cl.may c = true ∧ (c.l.getD (Cl.find c n).1 default).st = 1 ∧ Cl.at_ n c.l = some (Cl.find c n).1 := by
  by_cases hm : Cl.may c = true
  · cases hat : Cl.at_ n c.l with
    | none => rw [find_none hm hat] at h; cases h
    | some i =>
      have hf := find_some hm hat
      by_cases hs : (c.l.getD i default).st = 1
      · rw [if_pos hs] at hf; rw [hf]; exact ⟨(Cl.at_lt n c.l i hat).1, hm, hs, rfl⟩
      · rw [if_neg hs] at hf; rw [hf] at h; cases h
  · rw [find_dead (by simpa using hm)] at h; cases h
theorem find_code (c : Cl.Cel) (n : Nat) : (Cl.find c n).2 ≤ 171 := by
  unfold Cl.find
  split
  · exact by decide
  · split
    · exact (show 3 ≤ 171 by decide)
    · split
      · exact Nat.zero_le _
      · exact Nat.le_refl _

theorem flat_set : ∀ (l : List Cl.Ver) (i : Nat) (v : Cl.Ver) (_ : i < l.length), ((l.set i v).map vcells).flatten = ((((l.map vcells).flatten.set (i * 3) (.int .u64 v.n)).set (i * 3 + 1) (.int .u8 v.st)).set (i * 3 + 2) (.string v.t))
  | [], i, v, h => by simp at h
  | x :: r, 0, v, _ => by simp [vcells]
  | x :: r, i + 1, v, h => by
    have ih := flat_set r i v (by simpa using h)
    simp only [List.set_cons_succ, List.map_cons, List.flatten_cons, ih]
    rw [show (i + 1) * 3 = i * 3 + 1 + 1 + 1 by omega]
    simp only [vcells, List.cons_append, List.nil_append, List.set_cons_succ]
theorem drop_take_set (xs : List Value) (off n j : Nat) (u : Value) : ((xs.set (off + j) u).drop off).take n = ((xs.drop off).take n).set j u := by
  rw [List.drop_set, if_neg (by omega), List.take_set, Nat.add_sub_cancel_left]
theorem SliceIs.setV {w : World} {g off cap : Nat} {l : List Cl.Ver} (h : SliceIs w 35 3 (some ⟨g, off, none⟩) l.length cap (l.map vcells).flatten) (i : Nat) (hi : i < l.length) (v : Cl.Ver) :
    SliceIs (((w.setCell ⟨g, off + i * 3, none⟩ (.int .u64 v.n)).setCell ⟨g, off + i * 3 + 1, none⟩ (.int .u8 v.st)).setCell ⟨g, off + i * 3 + 2, none⟩ (.string v.t)) 35 3 (some ⟨g, off, none⟩) l.length cap ((l.set i v).map vcells).flatten := by
  rcases h.2 with ⟨h', _⟩ | ⟨g', off', cur, h', hg, r1, r2, r3, r4⟩
  · cases h'
  cases h'
  have hg3 := setCell_row (k := off + i * 3 + 2) (setCell_row (k := off + i * 3 + 1) (setCell_row (k := off + i * 3) hg (.int .u64 v.n)) (.int .u8 v.st)) (.string v.t)
  refine ⟨?_, .inr ⟨g, off, _, rfl, hg3, r1, r2, by simpa using r3, ?_⟩⟩
  · rw [flat_length 3 _ (vcells_len _)]; simp
  · rw [flat_set l i v hi, ← r4]
    simp only [Array.set!_eq_setIfInBounds, Array.toList_setIfInBounds]
    rw [show off + i * 3 + 2 = off + (i * 3 + 2) by omega, show off + i * 3 + 1 = off + (i * 3 + 1) by omega, drop_take_set, drop_take_set, drop_take_set]
/-- The cells of a version in a slice of the call's own, and that they may be written. -/
theorem SliceIs.verAt {w : World} {g off cap : Nat} {l : List Cl.Ver} (h : SliceIs w 35 3 (some ⟨g, off, none⟩) l.length cap (l.map vcells).flatten) (i : Nat) (hi : i < l.length) :
    w.cell? ⟨g, off + i * 3, none⟩ = some (.int .u64 l[i].n) ∧ w.cell? ⟨g, off + i * 3 + 1, none⟩ = some (.int .u8 l[i].st) ∧ w.cell? ⟨g, off + i * 3 + 2, none⟩ = some (.string l[i].t) ∧
    w.frozen? ⟨g, off + i * 3, none⟩ = false ∧ w.frozen? ⟨g, off + i * 3 + 1, none⟩ = false ∧ w.frozen? ⟨g, off + i * 3 + 2, none⟩ = false := by
  have hv : VersAt w (some ⟨g, off, none⟩) l := h.rowF (vcells_len l) (by simp)
  obtain ⟨g', off', e, k0, k1, k2, _⟩ := hv.at i hi
  cases e
  rcases h.2 with ⟨h', _⟩ | ⟨g', off', cur, h', hg, _⟩
  · cases h'
  cases h'
  exact ⟨k0, k1, k2, frozen_of_row w g _ _ _ hg, frozen_of_row w g _ _ _ hg, frozen_of_row w g _ _ _ hg⟩

set_option maxRecDepth 20000 in
set_option maxHeartbeats 2000000 in
theorem destroy_any (w : World) (c : Cl.Cel) (a : Option Addr) (cap : Nat) (n : Nat) (h : VersAt w a c.l) (ok : ∀ v ∈ c.l, okV v) (hn : c.l.length ≤ 1000) (hnil : a = none → cap = 0) (hl : c.last < 18446744073709551616) :
    Calls Try.prog 21 #[.agg #[.int .u64 c.last, .slice a c.l.length cap], .int .u64 n] w fun e w' => ResOut w (Cl.destroy c n) e w' := by
  have HB := Lib.hid (boxes2 w (.cells #[.int .u64 c.last, .slice a c.l.length cap] 25 (0, 0)) (.cells #[.int .u64 0, .slice none 0 0] 25 (0, 0)))
  have H := Lib.hid h
  have HN := Lib.hid hn
  have HOK := Lib.hid ok
  have HLAST := Lib.hid hl
  have HNIL := Lib.hid hnil
  clear h hn hl ok hnil
  go_enter Try.func21, Try.ntmps21
  go_wp2_with fail
  refine (find_any _ c a cap n (H.out.keep HB.out.own.below) HOK.out HN.out HLAST.out).mono ?_
  rintro e w1 ⟨rfl, hb1⟩
  have HB1 := Lib.hid (HB.out.keep hb1)
  clear hb1 HB
  obtain ⟨k0, k1⟩ := cell_cells HB1.out.b0
  by_cases h0 : (Cl.find c n).2 = 0
  · obtain ⟨hlt, _, _, _⟩ := find_in h0
    have hcd : Cl.destroy c n = (⟨c.last, c.l.set (Cl.find c n).1 ⟨n, 3, ⟨#[]⟩⟩⟩, 0) := by unfold Cl.destroy; rw [if_pos h0]
    rw [h0]
    have HE := Lib.hid hcd
    clear h0 hcd
    generalize (Cl.find c n).1 = i at *
    have hiI : (0 : Int) ≤ i ∧ (i : Int) < c.l.length := by omega
    have HLT := Lib.hid hlt
    clear hlt
    go_wp2_with fail
    refine (kept_any _ c a cap (H.out.keep HB1.out.own.below) (by have := HN.out; omega) HNIL.out).mono ?_
    rintro e w2 ⟨a', cap', rfl, hf⟩
    have HB2 := Lib.hid (HB1.out.keep hf.own.below)
    obtain ⟨g, off, rfl⟩ := hf.is.there (by have := HLT.out; omega)
    have HF := Lib.hid hf
    clear hf k0 k1
    obtain ⟨k0, k1⟩ := cell_cells HB2.out.b0
    obtain ⟨r0, r1⟩ := cell_cells HB2.out.b1
    have f0 := frozen_of_row w2 w.heap.size 0 _ _ HB2.out.b0
    have f1 := frozen_of_row w2 w.heap.size 1 _ _ HB2.out.b0
    have f2 := frozen_of_row w2 (w.heap.size + 1) 0 _ _ HB2.out.b1
    have f3 := frozen_of_row w2 (w.heap.size + 1) 1 _ _ HB2.out.b1
    have l2 := HB2.out.lt
    have l1 : w.heap.size < w2.heap.size := by omega
    obtain ⟨q0, q1, q2, z0, z1, z2⟩ := HF.out.is.verAt i HLT.out
    have hgw : w.heap.size + 1 < g := by have := HF.out.new g (by simp); have := HB1.out.lt; omega
    have hg1 : ¬ g = w.heap.size := by omega
    have hg2 : ¬ g = w.heap.size + 1 := by omega
    have hg3 : ¬ w.heap.size = g := by omega
    have hg4 : ¬ w.heap.size + 1 = g := by omega
    have hgl : g < w2.heap.size := HF.out.is.lt g (by simp)
    go_wp2_with fail
    refine bodyPost_ret (v := .tuple #[.agg #[.int .u64 c.last, .slice (some ⟨g, off, none⟩) c.l.length cap'], .int .i64 0]) (by simp [results, Try.results21, go_sem, r0, r1, f2, f3, l2, k0, k1, f0, f1, l1, q0, q1, q2, z0, z1, z2, hg1, hg2, hg3, hg4, hgl]) rfl ⟨some ⟨g, off, none⟩, cap', by rw [HE.out]; simp, ?_⟩
    rw [HE.out]
    refine ⟨?_, fun k hk => by simp at hk; omega, ?_⟩
    · have e : ∀ (x y : Nat) (u : Value) (wz : World), x ≠ g → (wz.setCell ⟨x, y, none⟩ u).heap[g]? = wz.heap[g]? := fun x y u wz hx => Below.heap_setCell _ _ _ _ (by simpa using fun h => hx h.symm)
      simp only [List.length_set]
      have h1 := (HF.out.is.keep (w' := (w2.setCell ⟨w.heap.size, 0, none⟩ (.int .u64 c.last)).setCell ⟨w.heap.size, 1, none⟩ (.slice (some ⟨g, off, none⟩) c.l.length cap')) (by
        intro k hk; simp at hk; subst hk; rw [e _ _ _ _ (by omega), e _ _ _ _ (by omega)])).setV i HLT.out ⟨n, 3, ⟨#[]⟩⟩
      exact h1.keep (by intro k hk; simp at hk; subst hk; rw [e _ _ _ _ (by omega), e _ _ _ _ (by omega)]; rfl)
    · have hO := HB2.out.own
      exact ((((((hO.setCell (by simp) _).setCell (by simp) _).setCell (by simp; omega) _).setCell (by simp; omega) _).setCell (by simp; omega) _).setCell (by simp) _).setCell (by simp) _
  · have hcd : Cl.destroy c n = (c, (Cl.find c n).2) := by unfold Cl.destroy; rw [if_neg h0]
    have h0I : (((Cl.find c n).2 : Nat) : Int) ≠ 0 := by omega
    have HE := Lib.hid hcd
    clear h0 hcd
    generalize (Cl.find c n).2 = e0 at *
    go_wp2_with fail
    refine (kept_any _ c a cap (H.out.keep HB1.out.own.below) (by have := HN.out; omega) HNIL.out).mono ?_
    rintro e w2 ⟨a', cap', rfl, hf⟩
    have HB2 := Lib.hid (HB1.out.keep hf.own.below)
    obtain ⟨r0, r1⟩ := cell_cells HB2.out.b1
    have f2 := frozen_of_row w2 (w.heap.size + 1) 0 _ _ HB2.out.b1
    have f3 := frozen_of_row w2 (w.heap.size + 1) 1 _ _ HB2.out.b1
    have l2 := HB2.out.lt
    have HF := Lib.hid hf
    clear hf
    go_wp2_with fail
    refine bodyPost_ret (v := .tuple #[.agg #[.int .u64 c.last, .slice a' c.l.length cap'], .int .i64 e0]) (by simp [results, Try.results21, go_sem, r0, r1, f2, f3, l2]) rfl ⟨a', cap', by rw [HE.out], ?_⟩
    rw [HE.out]
    exact HF.out.fill HB1.out _ _

/-- A read, told of where it looks. -/
theorem read_at (c : Cl.Cel) (n m : Nat) (hm : m = if n = 0 then Cl.now c else n) (h : ¬ (n = 0 ∧ m = 0 ∧ Cl.may c = true)) :
    Cl.read c n = if (Cl.find c m).2 = 0 then (c.l.getD (Cl.find c m).1 default, 0) else (Cl.ver0, (Cl.find c m).2) := by
  unfold Cl.read
  simp only [← hm]
  rw [if_neg h]
set_option maxRecDepth 20000 in
set_option maxHeartbeats 4000000 in
theorem read_any (w : World) (c : Cl.Cel) (a : Option Addr) (cap : Nat) (n : Nat) (h : VersAt w a c.l) (ok : ∀ v ∈ c.l, okV v) (hn : c.l.length ≤ 1000) (hl : c.last < 18446744073709551616) (hw : n < 18446744073709551616) :
    Calls Try.prog 8 #[.agg #[.int .u64 c.last, .slice a c.l.length cap], .int .u64 n] w fun e w' =>
      e = .returned (.tuple #[.agg #[.int .u64 (Cl.read c n).1.n, .int .u8 (Cl.read c n).1.st, .string (Cl.read c n).1.t], .int .i64 (Cl.read c n).2]) ∧ Below w.heap.size w w' := by
  have HB := Lib.hid (boxes2 w (.cells #[.int .u64 c.last, .slice a c.l.length cap] 25 (0, 0)) (.cells #[.int .u64 0, .int .u8 0, .string ⟨#[]⟩] 35 (0, 0)))
  have H := Lib.hid h
  have HN := Lib.hid hn
  have HOK := Lib.hid ok
  have HLAST := Lib.hid hl
  have hwI : (0 : Int) ≤ n ∧ (n : Int) ≤ 18446744073709551615 := by omega
  clear h hn hl ok hw
  by_cases h0 : n = 0
  · subst h0
    go_enter Try.func8, Try.ntmps8
    go_wp2_with fail
    refine (now_any _ c a cap (H.out.keep HB.out.own.below) HN.out).mono ?_
    rintro e w1 ⟨rfl, hb1⟩
    have HB1 := Lib.hid (HB.out.keep hb1)
    clear hb1 HB
    obtain ⟨k0, k1⟩ := cell_cells HB1.out.b0
    by_cases hz : Cl.now c = 0
    · have HZ := Lib.hid hz
      rw [hz]
      clear hz
      go_wp2_with fail
      refine (may_any _ c a cap (H.out.keep HB1.out.own.below) HOK.out HLAST.out (by have := HN.out; omega)).mono ?_
      rintro e w3 ⟨rfl, hb3⟩
      have HB0 := Lib.hid (HB1.out.keep hb3)
      clear hb3 HB1 k0 k1
      obtain ⟨k0, k1⟩ := cell_cells HB0.out.b0
      by_cases hm : Cl.may c = true
      · have HR := Lib.hid (show Cl.read c 0 = (Cl.ver0, 3) by unfold Cl.read; simp [HZ.out, hm])
        rw [hm]
        obtain ⟨r0, r1, r2⟩ := ver_cells HB0.out.b1
        have f2 := frozen_of_row w3 (w.heap.size + 1) 0 _ _ HB0.out.b1
        have f3 := frozen_of_row w3 (w.heap.size + 1) 1 _ _ HB0.out.b1
        have f4 := frozen_of_row w3 (w.heap.size + 1) 2 _ _ HB0.out.b1
        have l2 := HB0.out.lt
        clear hm
        go_wp2_with fail
        refine bodyPost_ret (v := .tuple #[.agg #[.int .u64 0, .int .u8 0, .string ⟨#[]⟩], .int .i64 3]) (by simp [results, Try.results8, go_sem, r0, r1, r2, f2, f3, f4, l2]) rfl ⟨by rw [HR.out]; rfl, (((HB0.out.own.setCell (by simp) _).setCell (by simp) _).setCell (by simp) _).below⟩
      · have hm' : Cl.may c = false := by simpa using hm
        have HRD := Lib.hid (read_at c 0 0 (by simp [HZ.out]) (by simp [hm']))
        rw [hm']
        clear hm hm'
        have HB1 := HB0
        go_wp2_with fail
        refine (find_any _ c a cap 0 (H.out.keep HB1.out.own.below) HOK.out HN.out HLAST.out).mono ?_
        rintro e w2 ⟨rfl, hb2⟩
        have HB2 := Lib.hid (HB1.out.keep hb2)
        clear hb2
        have k1 := (cell_cells HB2.out.b0).2
        obtain ⟨r0, r1, r2⟩ := ver_cells HB2.out.b1
        have f2 := frozen_of_row w2 (w.heap.size + 1) 0 _ _ HB2.out.b1
        have f3 := frozen_of_row w2 (w.heap.size + 1) 1 _ _ HB2.out.b1
        have f4 := frozen_of_row w2 (w.heap.size + 1) 2 _ _ HB2.out.b1
        have l2 := HB2.out.lt
        by_cases h0 : (Cl.find c 0).2 = 0
        · obtain ⟨hlt, _, _, _⟩ := find_in h0
          have hr := HRD.out
          rw [if_pos h0, List.getD_eq_getElem?_getD, List.getElem?_eq_getElem hlt, Option.getD_some] at hr
          rw [h0]
          obtain ⟨g, off, rfl, q0, q1, q2, hgl⟩ := (H.out.keep HB2.out.own.below).at _ hlt
          have hiI : (0 : Int) ≤ (Cl.find c 0).1 ∧ ((Cl.find c 0).1 : Int) < c.l.length := by omega
          have HR := Lib.hid hr
          clear h0 hr HRD
          generalize c.l[(Cl.find c 0).1] = v at *
          generalize (Cl.find c 0).1 = i at *
          go_wp2_with fail
          refine bodyPost_ret (v := .tuple #[.agg #[.int .u64 v.n, .int .u8 v.st, .string v.t], .int .i64 0]) (by simp [results, Try.results8, go_sem, r0, r1, r2, f2, f3, f4, l2]) rfl ⟨by rw [HR.out]; rfl, (((HB2.out.own.setCell (by simp) _).setCell (by simp) _).setCell (by simp) _).below⟩
        · have hr := HRD.out
          rw [if_neg h0] at hr
          have h0I : (((Cl.find c 0).2 : Nat) : Int) ≠ 0 := by omega
          have HR := Lib.hid hr
          clear h0 hr HRD
          generalize (Cl.find c 0).2 = e0 at *
          go_wp2_with fail
          refine bodyPost_ret (v := .tuple #[.agg #[.int .u64 0, .int .u8 0, .string ⟨#[]⟩], .int .i64 e0]) (by simp [results, Try.results8, go_sem, r0, r1, r2, f2, f3, f4, l2]) rfl ⟨by rw [HR.out]; rfl, (((HB2.out.own.setCell (by simp) _).setCell (by simp) _).setCell (by simp) _).below⟩
    · have HRD := Lib.hid (read_at c 0 (Cl.now c) (by simp) (by simp [hz]))
      have hzI : ((Cl.now c : Int) == 0) = false := by simp; omega
      clear hz
      go_wp2_with fail
      refine (find_any _ c a cap (Cl.now c) (H.out.keep HB1.out.own.below) HOK.out HN.out HLAST.out).mono ?_
      rintro e w2 ⟨rfl, hb2⟩
      have HB2 := Lib.hid (HB1.out.keep hb2)
      clear hb2
      have k1 := (cell_cells HB2.out.b0).2
      obtain ⟨r0, r1, r2⟩ := ver_cells HB2.out.b1
      have f2 := frozen_of_row w2 (w.heap.size + 1) 0 _ _ HB2.out.b1
      have f3 := frozen_of_row w2 (w.heap.size + 1) 1 _ _ HB2.out.b1
      have f4 := frozen_of_row w2 (w.heap.size + 1) 2 _ _ HB2.out.b1
      have l2 := HB2.out.lt
      by_cases h0 : (Cl.find c (Cl.now c)).2 = 0
      · obtain ⟨hlt, _, _, _⟩ := find_in h0
        have hr := HRD.out
        rw [if_pos h0, List.getD_eq_getElem?_getD, List.getElem?_eq_getElem hlt, Option.getD_some] at hr
        rw [h0]
        obtain ⟨g, off, rfl, q0, q1, q2, hgl⟩ := (H.out.keep HB2.out.own.below).at _ hlt
        have hiI : (0 : Int) ≤ (Cl.find c (Cl.now c)).1 ∧ ((Cl.find c (Cl.now c)).1 : Int) < c.l.length := by omega
        have HR := Lib.hid hr
        clear h0 hr HRD
        generalize c.l[(Cl.find c (Cl.now c)).1] = v at *
        generalize (Cl.find c (Cl.now c)).1 = i at *
        go_wp2_with fail
        refine bodyPost_ret (v := .tuple #[.agg #[.int .u64 v.n, .int .u8 v.st, .string v.t], .int .i64 0]) (by simp [results, Try.results8, go_sem, r0, r1, r2, f2, f3, f4, l2]) rfl ⟨by rw [HR.out]; rfl, (((HB2.out.own.setCell (by simp) _).setCell (by simp) _).setCell (by simp) _).below⟩
      · have hr := HRD.out
        rw [if_neg h0] at hr
        have h0I : (((Cl.find c (Cl.now c)).2 : Nat) : Int) ≠ 0 := by omega
        have HR := Lib.hid hr
        clear h0 hr HRD
        generalize (Cl.find c (Cl.now c)).2 = e0 at *
        go_wp2_with fail
        refine bodyPost_ret (v := .tuple #[.agg #[.int .u64 0, .int .u8 0, .string ⟨#[]⟩], .int .i64 e0]) (by simp [results, Try.results8, go_sem, r0, r1, r2, f2, f3, f4, l2]) rfl ⟨by rw [HR.out]; rfl, (((HB2.out.own.setCell (by simp) _).setCell (by simp) _).setCell (by simp) _).below⟩
  · have HRD := Lib.hid (read_at c n n (by rw [if_neg h0]) (by simp [h0]))
    have h0I : ((n : Int) == 0) = false := by simp; omega
    have HB1 := HB
    clear h0
    go_enter Try.func8, Try.ntmps8
    go_wp2_with fail
    refine (find_any _ c a cap n (H.out.keep HB1.out.own.below) HOK.out HN.out HLAST.out).mono ?_
    rintro e w2 ⟨rfl, hb2⟩
    have HB2 := Lib.hid (HB1.out.keep hb2)
    clear hb2
    have k1 := (cell_cells HB2.out.b0).2
    obtain ⟨r0, r1, r2⟩ := ver_cells HB2.out.b1
    have f2 := frozen_of_row w2 (w.heap.size + 1) 0 _ _ HB2.out.b1
    have f3 := frozen_of_row w2 (w.heap.size + 1) 1 _ _ HB2.out.b1
    have f4 := frozen_of_row w2 (w.heap.size + 1) 2 _ _ HB2.out.b1
    have l2 := HB2.out.lt
    by_cases h0 : (Cl.find c n).2 = 0
    · obtain ⟨hlt, _, _, _⟩ := find_in h0
      have hr := HRD.out
      rw [if_pos h0, List.getD_eq_getElem?_getD, List.getElem?_eq_getElem hlt, Option.getD_some] at hr
      rw [h0]
      obtain ⟨g, off, rfl, q0, q1, q2, hgl⟩ := (H.out.keep HB2.out.own.below).at _ hlt
      have hiI : (0 : Int) ≤ (Cl.find c n).1 ∧ ((Cl.find c n).1 : Int) < c.l.length := by omega
      have HR := Lib.hid hr
      clear h0 hr HRD
      generalize c.l[(Cl.find c n).1] = v at *
      generalize (Cl.find c n).1 = i at *
      go_wp2_with fail
      refine bodyPost_ret (v := .tuple #[.agg #[.int .u64 v.n, .int .u8 v.st, .string v.t], .int .i64 0]) (by simp [results, Try.results8, go_sem, r0, r1, r2, f2, f3, f4, l2]) rfl ⟨by rw [HR.out]; rfl, (((HB2.out.own.setCell (by simp) _).setCell (by simp) _).setCell (by simp) _).below⟩
    · have hr := HRD.out
      rw [if_neg h0] at hr
      have h0I : (((Cl.find c n).2 : Nat) : Int) ≠ 0 := by omega
      have HR := Lib.hid hr
      clear h0 hr HRD
      generalize (Cl.find c n).2 = e0 at *
      go_wp2_with fail
      refine bodyPost_ret (v := .tuple #[.agg #[.int .u64 0, .int .u8 0, .string ⟨#[]⟩], .int .i64 e0]) (by simp [results, Try.results8, go_sem, r0, r1, r2, f2, f3, f4, l2]) rfl ⟨by rw [HR.out]; rfl, (((HB2.out.own.setCell (by simp) _).setCell (by simp) _).setCell (by simp) _).below⟩

end Go.Proofs.Ytllepgdebjfbdaa
