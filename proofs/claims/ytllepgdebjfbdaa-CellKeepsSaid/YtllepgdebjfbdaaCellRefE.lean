/-
  THE WALKS of the document's answer for layer 17: Destroy, Read.
-/
import Derived.Test.YtllepgdebjfbdaaCellRefD
namespace Go.Proofs.Ytllepgdebjfbdaa
open Go.RowKit
attribute [local go_sem ↓ high] appSem_eq

theorem idx_none {n : Nat} {l : List Cl.Ver} (h : Cl.at_ n l = none) : idx n l = -1 := by unfold idx; rw [h]
theorem idx_some {n i : Nat} {l : List Cl.Ver} (h : Cl.at_ n l = some i) : idx n l = i := by unfold idx; rw [h]
theorem destroy_no {c : Cl.Cel} {n k : Nat} (h : Cl.find c n = (0, k)) (hk : k ≠ 0) : Cl.destroy c n = (c, k) := by unfold Cl.destroy; rw [h]; simp [hk]
theorem destroy_yes {c : Cl.Cel} {n i : Nat} (h : Cl.find c n = (i, 0)) : Cl.destroy c n = (⟨c.last, c.l.set i ⟨n, 3, ⟨#[]⟩⟩⟩, 0) := by unfold Cl.destroy; rw [h]; simp

set_option maxRecDepth 20000 in
set_option maxHeartbeats 4000000 in
theorem rdestroy_any (w : World) (c : Cl.Cel) (a : Option Addr) (cap : Nat) (n : Nat) (h : VersAt w a c.l) (ok : ∀ v ∈ c.l, okV v) (hn : c.l.length ≤ 1000) (hnil : a = none → cap = 0) (hl : c.last < 18446744073709551616) :
    Calls Try.prog 24 #[.agg #[.int .u64 c.last, .slice a c.l.length cap], .int .u64 n] w fun e w' => RefOut w a c.l (Cl.destroy c n) e w' := by
  have HB := Lib.hid (boxes2 w (.cells #[.int .u64 c.last, .slice a c.l.length cap] 25 (0, 0)) (.cells #[.int .u64 0, .slice none 0 0] 25 (0, 0)))
  have H := Lib.hid h
  have HNIL := Lib.hid hnil
  have HN := Lib.hid hn
  have HOK := Lib.hid ok
  have HLAST := Lib.hid hl
  clear h hn hnil hl ok
  go_enter Try.func24, Try.ntmps24
  go_wp2_with fail
  refine (rmay_any _ c a cap (H.out.keep HB.out.own.below) HOK.out HLAST.out (by have := HN.out; omega)).mono ?_
  rintro e w1 ⟨rfl, hb1⟩
  have HB1 := Lib.hid (HB.out.keep hb1)
  clear hb1 HB
  have l2 := HB1.out.lt
  obtain ⟨k0, k1, r0, r1, f2, f3⟩ := HB1.out.facts
  by_cases hm : Cl.may c = true
  · have HLE := Lib.hid (may_len hm)
    have HM := Lib.hid hm
    rw [hm]
    clear hm
    go_wp2_with fail
    refine (at_any _ c a cap n (H.out.keep HB1.out.own.below) HN.out).mono ?_
    rintro e w2 ⟨rfl, hb1⟩
    have HB2 := Lib.hid (HB1.out.keep hb1)
    clear hb1 k0 k1 r0 r1 f2 f3 l2 HB1
    have l2 := HB2.out.lt
    obtain ⟨k0, k1, r0, r1, f2, f3⟩ := HB2.out.facts
    cases hat : Cl.at_ n c.l with
    | none =>
      rw [idx_none hat]
      have HE := Lib.hid (destroy_no (find_none HM.out hat) (by decide))
      clear hat
      go_wp2_with fail
      refine bodyPost_ret (v := .tuple #[.agg #[.int .u64 c.last, .slice a c.l.length cap], .int .i64 3]) (by simp [results, Try.results24, go_sem, r0, r1, f2, f3, l2]) rfl ?_
      rw [HE.out]
      exact ref_same HB2.out H.out HNIL.out rfl
    | some i =>
      rw [idx_some hat]
      obtain ⟨hlt, _⟩ := Cl.at_lt n c.l i hat
      have hfs := find_some HM.out hat
      rw [List.getD_eq_getElem?_getD, List.getElem?_eq_getElem hlt, Option.getD_some] at hfs
      obtain ⟨g, off, rfl, q0, q1, q2, hgl⟩ := (H.out.keep HB2.out.own.below).at i hlt
      have hiI : (0 : Int) ≤ i ∧ (i : Int) < c.l.length := by omega
      by_cases hs : (c.l[i]).st = 1
      · have hsI : ((c.l[i]).st : Int) = 1 := by omega
        rw [if_pos hs] at hfs
        have HE := Lib.hid (destroy_yes hfs)
        have HLT := Lib.hid hlt
        obtain ⟨s1, c1, w3, hr3, hs3, hu3, hk3⟩ := vapp (w2.alloc (.cells #[.int .u64 c.last, .slice none 0 0] 25 (0, 0))) none 0 0 [] (SliceIs.nil _ _ _) (some ⟨g, off, none⟩) cap c.l (H.out.keep (HB2.out.own.alloc _).below) (by have := HN.out; omega) HNIL.out
        rw [Nat.zero_add, List.nil_append] at hs3
        rw [Nat.zero_add] at hr3
        obtain ⟨g3, off3, rfl⟩ := hs3.there (by omega)
        obtain ⟨v0, v1, v2, z0, z1, z2⟩ := hs3.verAt i hlt
        have hOB : Below (w2.alloc (.cells #[.int .u64 c.last, .slice none 0 0] 25 (0, 0))).heap.size (w2.alloc (.cells #[.int .u64 c.last, .slice none 0 0] 25 (0, 0))) w3 := hu3.below
        have hB3 := (HB2.out.keep ((Own.refl w2).alloc (.cells #[.int .u64 c.last, .slice none 0 0] 25 (0, 0))).below).keep hOB
        have hd := (hOB.block w2.heap.size (by simp)).trans (heap_alloc_new w2 (.cells #[.int .u64 c.last, .slice none 0 0] 25 (0, 0)))
        obtain ⟨d0, d1⟩ := cell_cells hd
        have f5 := frozen_of_row w3 w2.heap.size 1 _ _ hd
        have l5 := blk_lt hd
        have hgw : w2.heap.size < g3 := by
          rcases hk3 g3 (by simp) with h | h
          · simp at h
          · simp at h; omega
        have hg1 : ¬ g3 = w2.heap.size := by omega
        have hg2 : ¬ g3 = w.heap.size + 1 := by omega
        have hg3 : ¬ w2.heap.size = g3 := by omega
        have hg4 : ¬ w.heap.size + 1 = g3 := by omega
        have hg5 : ¬ w2.heap.size = w.heap.size + 1 := by omega
        have hg6 : ¬ w.heap.size + 1 = w2.heap.size := by omega
        have hgl3 : g3 < w3.heap.size := hs3.lt g3 (by simp)
        have HB3 := Lib.hid hB3
        have HS3 := Lib.hid hs3
        generalize c.l[i] = v at *
        clear hs hfs hat hlt k0 k1 r0 r1 f2 f3
        have l3 := hB3.lt
        have l0 : w.heap.size < w2.heap.size := by omega
        obtain ⟨k0, k1, r0, r1, f2, f3⟩ := HB2.out.facts
        obtain ⟨_, _, s0, s1', f6, f7⟩ := hB3.facts
        clear hB3 hs3 hu3 hk3 hOB hd
        go_wp2_with fail
        refine bodyPost_ret (v := .tuple #[.agg #[.int .u64 c.last, .slice (some ⟨g3, off3, none⟩) c.l.length c1], .int .i64 0]) (by simp [results, Try.results24, go_sem, d0, d1, f5, l5, hg1, hg2, hg3, hg4, hg5, hg6, hgl3, v0, v1, v2, z0, z1, z2, s0, s1', f6, f7, l3]) rfl ?_
        rw [HE.out]
        have hOz := ((((((HB3.out.own.setCell (p := ⟨w2.heap.size, 1, none⟩) (by simp; omega) (.slice (some ⟨g3, off3, none⟩) c.l.length c1)).setCell (p := ⟨g3, off3 + i * 3, none⟩) (by simp; omega) (.int .u64 n)).setCell (p := ⟨g3, off3 + i * 3 + 1, none⟩) (by simp; omega) (.int .u8 3)).setCell (p := ⟨g3, off3 + i * 3 + 2, none⟩) (by simp; omega) (.string ⟨#[]⟩)).setCell (p := ⟨w.heap.size + 1, 0, none⟩) (by simp) (.int .u64 c.last)).setCell (p := ⟨w.heap.size + 1, 1, none⟩) (by simp) (.slice (some ⟨g3, off3, none⟩) c.l.length c1))
        refine ⟨some ⟨g3, off3, none⟩, c1, by simp, ?_, by simp, hOz.below, .inr (by intro k hk; simp at hk; omega)⟩
        have e : ∀ (x y : Nat) (u : Value) (wz : World), x ≠ g3 → (wz.setCell ⟨x, y, none⟩ u).heap[g3]? = wz.heap[g3]? := fun x y u wz hx => Below.heap_setCell _ _ _ _ (by simpa using fun h => hx h.symm)
        have h1 := (HS3.out.keep (w' := w3.setCell ⟨w2.heap.size, 1, none⟩ (.slice (some ⟨g3, off3, none⟩) c.l.length c1)) (by intro k hk; simp at hk; subst hk; rw [e _ _ _ _ (by omega)])).setV i HLT.out ⟨n, 3, ⟨#[]⟩⟩
        have h2 := h1.keep (w' := (((((w3.setCell ⟨w2.heap.size, 1, none⟩ (.slice (some ⟨g3, off3, none⟩) c.l.length c1)).setCell ⟨g3, off3 + i * 3, none⟩ (.int .u64 n)).setCell ⟨g3, off3 + i * 3 + 1, none⟩ (.int .u8 3)).setCell ⟨g3, off3 + i * 3 + 2, none⟩ (.string ⟨#[]⟩)).setCell ⟨w.heap.size + 1, 0, none⟩ (.int .u64 c.last)).setCell ⟨w.heap.size + 1, 1, none⟩ (.slice (some ⟨g3, off3, none⟩) c.l.length c1)) (by intro k hk; simp at hk; subst hk; rw [e _ _ _ _ (by omega), e _ _ _ _ (by omega)]; rfl)
        exact h2.rowF (vcells_len _) (by simp)
      · have hsI : (((c.l[i]).st : Int) == 1) = false := by simp; omega
        have hsJ : (((c.l[i]).st : Int) != 1) = true := by simp; omega
        rw [if_neg hs] at hfs
        have HE := Lib.hid (destroy_no hfs (by decide))
        clear hs hfs hat
        generalize c.l[i] = v at *
        clear hlt
        go_wp2_with fail
        refine bodyPost_ret (v := .tuple #[.agg #[.int .u64 c.last, .slice (some ⟨g, off, none⟩) c.l.length cap], .int .i64 171]) (by simp [results, Try.results24, go_sem, r0, r1, f2, f3, l2]) rfl ?_
        rw [HE.out]
        exact ref_same HB2.out H.out HNIL.out rfl
  · have hm' : Cl.may c = false := by simpa using hm
    have HE := Lib.hid (destroy_no (find_dead (n := n) hm') (by decide))
    rw [hm']
    clear hm hm'
    go_wp2_with fail
    refine bodyPost_ret (v := .tuple #[.agg #[.int .u64 c.last, .slice a c.l.length cap], .int .i64 2]) (by simp [results, Try.results24, go_sem, r0, r1, f2, f3, l2]) rfl ?_
    rw [HE.out]
    exact ref_same HB1.out H.out HNIL.out rfl

theorem read_dead {c : Cl.Cel} {n : Nat} (h : Cl.may c = false) : Cl.read c n = (Cl.ver0, 2) := by
  rw [read_at c n _ rfl (by simp [h]), find_dead h]; rfl
theorem read_now0 {c : Cl.Cel} (h : Cl.may c = true) (h1 : Cl.now c = 0) : Cl.read c 0 = (Cl.ver0, 3) := by unfold Cl.read; simp [h, h1]
theorem at_rise (n : Nat) : ∀ (l : List Cl.Ver) (last m : Nat) (_ : Cl.mayF last l = some m) (v : Cl.Ver) (_ : l.getLast? = some v), Cl.at_ v.n l = some (l.length - 1)
  | [], last, m, h, v, hv => by simp at hv
  | [x], last, m, h, v, hv => by simp at hv; subst hv; simp [Cl.at_]
  | x :: y :: r, last, m, h, v, hv => by
    unfold Cl.mayF at h
    by_cases ho : Cl.verOk last x = true
    · rw [if_pos ho] at h
      rw [List.getLast?_cons_cons] at hv
      have ih := at_rise n (y :: r) x.n m h v hv
      have hlt := ((Cl.mayF_rise (y :: r) x.n m h).1 v (List.mem_of_getLast? hv)).1
      unfold Cl.at_
      rw [if_neg (by omega), ih]
      simp
    · rw [if_neg ho] at h; cases h
theorem read_now {c : Cl.Cel} {v : Cl.Ver} (h : Cl.may c = true) (h1 : Cl.now c ≠ 0) (hv : c.l.getLast? = some v) : Cl.read c 0 = (v, 0) := by
  have hst : v.st = 1 ∧ Cl.now c = v.n := by
    unfold Cl.now at h1 ⊢
    rw [hv] at h1 ⊢
    simp only at h1 ⊢
    by_cases hs : v.st = 1
    · rw [if_pos hs]; exact ⟨hs, rfl⟩
    · rw [if_neg hs] at h1; exact absurd rfl h1
  have hm : Cl.mayF 0 c.l = some c.last := by
    unfold Cl.may at h; simp at h; exact h.2
  have hat := at_rise 0 c.l 0 c.last hm v hv
  have hlen : c.l.length - 1 < c.l.length := by
    cases hc : c.l with
    | nil => rw [hc] at hv; cases hv
    | cons x r => simp
  have hg : c.l.getD (c.l.length - 1) default = v := by
    rw [List.getD_eq_getElem?_getD]
    rw [List.getLast?_eq_getElem?] at hv
    rw [hv]; rfl
  rw [read_at c 0 (Cl.now c) (by simp) (by simp [h1]), hst.2, find_some h hat, hg, if_pos hst.1]
  show (if (0 : Nat) = 0 then (c.l.getD (c.l.length - 1) default, 0) else _) = _
  rw [if_pos rfl, hg]
theorem read_find {c : Cl.Cel} {n k : Nat} (h0 : n ≠ 0) (h : Cl.find c n = (0, k)) (hk : k ≠ 0) : Cl.read c n = (Cl.ver0, k) := by
  rw [read_at c n n (by rw [if_neg h0]) (by simp [h0]), h]; simp [hk]
theorem read_found {c : Cl.Cel} {n i : Nat} (h0 : n ≠ 0) (h : Cl.find c n = (i, 0)) (hi : i < c.l.length) : Cl.read c n = (c.l[i], 0) := by
  rw [read_at c n n (by rw [if_neg h0]) (by simp [h0]), h]; simp [hi]

set_option maxRecDepth 20000 in
set_option maxHeartbeats 4000000 in
theorem rread_any (w : World) (c : Cl.Cel) (a : Option Addr) (cap : Nat) (n : Nat) (h : VersAt w a c.l) (ok : ∀ v ∈ c.l, okV v) (hn : c.l.length ≤ 1000) (hl : c.last < 18446744073709551616) (hw : n < 18446744073709551616) :
    Calls Try.prog 10 #[.agg #[.int .u64 c.last, .slice a c.l.length cap], .int .u64 n] w fun e w' =>
      e = .returned (.tuple #[.agg #[.int .u64 (Cl.read c n).1.n, .int .u8 (Cl.read c n).1.st, .string (Cl.read c n).1.t], .int .i64 (Cl.read c n).2]) ∧ Below w.heap.size w w' := by
  have HB := Lib.hid (boxes2 w (.cells #[.int .u64 c.last, .slice a c.l.length cap] 25 (0, 0)) (.cells #[.int .u64 0, .int .u8 0, .string ⟨#[]⟩] 35 (0, 0)))
  have H := Lib.hid h
  have HN := Lib.hid hn
  have HOK := Lib.hid ok
  have HLAST := Lib.hid hl
  have hwI : (0 : Int) ≤ n ∧ (n : Int) ≤ 18446744073709551615 := by omega
  clear h hn hl ok hw
  go_enter Try.func10, Try.ntmps10
  go_wp2_with fail
  refine (rmay_any _ c a cap (H.out.keep HB.out.own.below) HOK.out HLAST.out (by have := HN.out; omega)).mono ?_
  rintro e w1 ⟨rfl, hb1⟩
  have HB1 := Lib.hid (HB.out.keep hb1)
  clear hb1 HB
  have l2 := HB1.out.lt
  have k0 := (cell_cells HB1.out.b0).1
  have k1 := (cell_cells HB1.out.b0).2
  obtain ⟨r0, r1, r2⟩ := ver_cells HB1.out.b1
  have f2 := frozen_of_row _ (w.heap.size + 1) 0 _ _ HB1.out.b1
  have f3 := frozen_of_row _ (w.heap.size + 1) 1 _ _ HB1.out.b1
  have f4 := frozen_of_row _ (w.heap.size + 1) 2 _ _ HB1.out.b1
  by_cases hm : Cl.may c = true
  · have HM := Lib.hid hm
    rw [hm]
    clear hm
    by_cases h0 : n = 0
    · subst h0
      go_wp2_with fail
      refine (rnow_any _ c a cap (H.out.keep HB1.out.own.below) HN.out).mono ?_
      rintro e w2 ⟨rfl, hb1⟩
      have HB2 := Lib.hid (HB1.out.keep hb1)
      clear hb1 k0 k1 r0 r1 r2 f2 f3 f4 l2
      have l2 := HB2.out.lt
      have k0 := (cell_cells HB2.out.b0).1
      have k1 := (cell_cells HB2.out.b0).2
      obtain ⟨r0, r1, r2⟩ := ver_cells HB2.out.b1
      have f2 := frozen_of_row _ (w.heap.size + 1) 0 _ _ HB2.out.b1
      have f3 := frozen_of_row _ (w.heap.size + 1) 1 _ _ HB2.out.b1
      have f4 := frozen_of_row _ (w.heap.size + 1) 2 _ _ HB2.out.b1
      by_cases hz : Cl.now c = 0
      · have HE := Lib.hid (read_now0 HM.out hz)
        rw [hz]
        clear hz
        go_wp2_with fail
        refine bodyPost_ret (v := .tuple #[.agg #[.int .u64 0, .int .u8 0, .string ⟨#[]⟩], .int .i64 3]) (by simp [results, Try.results10, go_sem, r0, r1, r2, f2, f3, f4, l2]) rfl ⟨by rw [HE.out]; rfl, (((HB2.out.own.setCell (by simp) _).setCell (by simp) _).setCell (by simp) _).below⟩
      · have hzI : ((Cl.now c : Int) == 0) = false := by simp; omega
        rcases List.eq_nil_or_concat c.l with e | ⟨r, v, e⟩
        · exact absurd (by unfold Cl.now; rw [e]; rfl) hz
        · have HE := Lib.hid (read_now HM.out hz (v := v) (by rw [e]; simp))
          have hlen : c.l.length = r.length + 1 := by rw [e]; simp
          obtain ⟨g, off, rfl, q0, q1, q2, hgl⟩ := (H.out.keep HB2.out.own.below).at r.length (by omega)
          have hv : c.l[r.length]'(by omega) = v := by simp [e]
          rw [hv] at q0 q1 q2
          have hI : (c.l.length : Int) - 1 = r.length := by omega
          have h1 : (0 : Int) ≤ r.length ∧ (r.length : Int) < c.l.length := by omega
          have hnI : (0 : Int) ≤ c.l.length ∧ (c.l.length : Int) ≤ 1000 := by have := HN.out; omega
          clear e hlen hv hz
          go_wp2_with fail
          refine bodyPost_ret (v := .tuple #[.agg #[.int .u64 v.n, .int .u8 v.st, .string v.t], .int .i64 0]) (by simp [results, Try.results10, go_sem, r0, r1, r2, f2, f3, f4, l2]) rfl ⟨by rw [HE.out]; rfl, (((HB2.out.own.setCell (by simp) _).setCell (by simp) _).setCell (by simp) _).below⟩
    · have H0 := Lib.hid h0
      have h0I : ((n : Int) == 0) = false := by simp; omega
      clear h0
      go_wp2_with fail
      refine (at_any _ c a cap n (H.out.keep HB1.out.own.below) HN.out).mono ?_
      rintro e w2 ⟨rfl, hb1⟩
      have HB2 := Lib.hid (HB1.out.keep hb1)
      clear hb1 k0 k1 r0 r1 r2 f2 f3 f4 l2
      have l2 := HB2.out.lt
      have k0 := (cell_cells HB2.out.b0).1
      have k1 := (cell_cells HB2.out.b0).2
      obtain ⟨r0, r1, r2⟩ := ver_cells HB2.out.b1
      have f2 := frozen_of_row _ (w.heap.size + 1) 0 _ _ HB2.out.b1
      have f3 := frozen_of_row _ (w.heap.size + 1) 1 _ _ HB2.out.b1
      have f4 := frozen_of_row _ (w.heap.size + 1) 2 _ _ HB2.out.b1
      cases hat : Cl.at_ n c.l with
      | none =>
        rw [idx_none hat]
        have HE := Lib.hid (read_find H0.out (find_none HM.out hat) (by decide))
        clear hat
        go_wp2_with fail
        refine bodyPost_ret (v := .tuple #[.agg #[.int .u64 0, .int .u8 0, .string ⟨#[]⟩], .int .i64 3]) (by simp [results, Try.results10, go_sem, r0, r1, r2, f2, f3, f4, l2]) rfl ⟨by rw [HE.out]; rfl, (((HB2.out.own.setCell (by simp) _).setCell (by simp) _).setCell (by simp) _).below⟩
      | some i =>
        rw [idx_some hat]
        obtain ⟨hlt, _⟩ := Cl.at_lt n c.l i hat
        have hfs := find_some HM.out hat
        rw [List.getD_eq_getElem?_getD, List.getElem?_eq_getElem hlt, Option.getD_some] at hfs
        obtain ⟨g, off, rfl, q0, q1, q2, hgl⟩ := (H.out.keep HB2.out.own.below).at i hlt
        have hiI : (0 : Int) ≤ i ∧ (i : Int) < c.l.length := by omega
        by_cases hs : (c.l[i]).st = 1
        · have hsI : ((c.l[i]).st : Int) = 1 := by omega
          rw [if_pos hs] at hfs
          have HE := Lib.hid (read_found H0.out hfs hlt)
          have HS1 := Lib.hid hs
          clear hs hfs hat
          generalize c.l[i] = v at *
          clear hlt
          go_wp2_with fail
          refine bodyPost_ret (v := .tuple #[.agg #[.int .u64 v.n, .int .u8 1, .string v.t], .int .i64 0]) (by simp [results, Try.results10, go_sem, r0, r1, r2, f2, f3, f4, l2]) rfl ⟨by rw [HE.out]; simp only [HS1.out]; rfl, (((HB2.out.own.setCell (by simp) _).setCell (by simp) _).setCell (by simp) _).below⟩
        · have hsI : (((c.l[i]).st : Int) == 1) = false := by simp; omega
          have hsJ : (((c.l[i]).st : Int) != 1) = true := by simp; omega
          rw [if_neg hs] at hfs
          have HE := Lib.hid (read_find H0.out hfs (by decide))
          clear hs hfs hat
          generalize c.l[i] = v at *
          clear hlt
          go_wp2_with fail
          refine bodyPost_ret (v := .tuple #[.agg #[.int .u64 0, .int .u8 0, .string ⟨#[]⟩], .int .i64 171]) (by simp [results, Try.results10, go_sem, r0, r1, r2, f2, f3, f4, l2]) rfl ⟨by rw [HE.out]; rfl, (((HB2.out.own.setCell (by simp) _).setCell (by simp) _).setCell (by simp) _).below⟩
  · have hm' : Cl.may c = false := by simpa using hm
    have HE := Lib.hid (read_dead (n := n) hm')
    rw [hm']
    clear hm hm'
    go_wp2_with fail
    refine bodyPost_ret (v := .tuple #[.agg #[.int .u64 0, .int .u8 0, .string ⟨#[]⟩], .int .i64 2]) (by simp [results, Try.results10, go_sem, r0, r1, r2, f2, f3, f4, l2]) rfl ⟨by rw [HE.out]; rfl, (((HB1.out.own.setCell (by simp) _).setCell (by simp) _).setCell (by simp) _).below⟩

end Go.Proofs.Ytllepgdebjfbdaa
