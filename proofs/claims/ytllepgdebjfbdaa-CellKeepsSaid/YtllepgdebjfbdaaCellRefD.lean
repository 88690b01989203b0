/-
  THE WALKS of the document's answer for layer 17: Put, Delete.
-/
import Derived.Test.YtllepgdebjfbdaaCellRefC
namespace Go.Proofs.Ytllepgdebjfbdaa
open Go.RowKit

/-- A cell comes out, and an error. -/
def RefOut (w : World) (ao : Option Addr) (lo : List Cl.Ver) (r : Cl.Cel × Nat) (e : Ending) (w' : World) : Prop := ∃ a cap, e = .returned (.tuple #[.agg #[.int .u64 r.1.last, .slice a r.1.l.length cap], .int .i64 r.2]) ∧ VersAt w' a r.1.l ∧ (a = none → cap = 0) ∧ Below w.heap.size w w' ∧ ((a = ao ∧ r.1.l = lo) ∨ ∀ k ∈ blks a, w.heap.size ≤ k)
structure BF (w W : World) (c : Cl.Cel) (a : Option Addr) (cap : Nat) : Prop where
  k0 : W.cell? ⟨w.heap.size, 0, none⟩ = some (.int .u64 c.last)
  k1 : W.cell? ⟨w.heap.size, 1, none⟩ = some (.slice a c.l.length cap)
  r0 : W.cell? ⟨w.heap.size + 1, 0, none⟩ = some (.int .u64 0)
  r1 : W.cell? ⟨w.heap.size + 1, 1, none⟩ = some (.slice none 0 0)
  f2 : W.frozen? ⟨w.heap.size + 1, 0, none⟩ = false
  f3 : W.frozen? ⟨w.heap.size + 1, 1, none⟩ = false
theorem Boxes2.facts {w W : World} {c : Cl.Cel} {a : Option Addr} {cap : Nat} (h : Boxes2 w W (.cells #[.int .u64 c.last, .slice a c.l.length cap] 25 (0, 0)) (.cells #[.int .u64 0, .slice none 0 0] 25 (0, 0))) : BF w W c a cap :=
  ⟨(cell_cells h.b0).1, (cell_cells h.b0).2, (cell_cells h.b1).1, (cell_cells h.b1).2, frozen_of_row W (w.heap.size + 1) 0 _ _ h.b1, frozen_of_row W (w.heap.size + 1) 1 _ _ h.b1⟩
theorem grow_full {c : Cl.Cel} {any : Bool} {want st : Nat} {t : ByteArray} (h : ¬ (any = false ∧ want ≠ Cl.now c)) (h1 : c.last = 18446744073709551615) : Cl.grow c any want st t = (c, 4) := by unfold Cl.grow; rw [if_neg h, if_pos h1]
theorem grow_comes {c : Cl.Cel} {any : Bool} {want st : Nat} {t : ByteArray} (h : ¬ (any = false ∧ want ≠ Cl.now c)) (h1 : ¬ c.last = 18446744073709551615) : Cl.grow c any want st t = (Cl.comes c st t, 0) := by unfold Cl.grow; rw [if_neg h, if_neg h1]
theorem ref_same {w W : World} {c : Cl.Cel} {a : Option Addr} {cap : Nat} {o0 o1 : Obj} {e : Ending} {k : Nat} {u v : Value} (hB : Boxes2 w W o0 o1) (h : VersAt w a c.l) (hnil : a = none → cap = 0)
    (he : e = .returned (.tuple #[.agg #[.int .u64 c.last, .slice a c.l.length cap], .int .i64 k])) : RefOut w a c.l (c, k) e ((W.setCell ⟨w.heap.size + 1, 0, none⟩ u).setCell ⟨w.heap.size + 1, 1, none⟩ v) := by
  have hO := (hB.own.setCell (p := ⟨w.heap.size + 1, 0, none⟩) (by simp) u).setCell (p := ⟨w.heap.size + 1, 1, none⟩) (by simp) v
  exact ⟨a, cap, he, h.keep hO.below, hnil, hO.below, .inl ⟨rfl, rfl⟩⟩
theorem ref_new {w W w2 : World} {ao : Option Addr} {lo : List Cl.Ver} {c : Cl.Cel} {a : Option Addr} {cap : Nat} {o0 o1 : Obj} {e : Ending} {k : Nat} {u v : Value} (hB : Boxes2 w W o0 o1) (hf : VFresh W w2 a cap c.l)
    (he : e = .returned (.tuple #[.agg #[.int .u64 c.last, .slice a c.l.length cap], .int .i64 k])) : RefOut w ao lo (c, k) e ((w2.setCell ⟨w.heap.size + 1, 0, none⟩ u).setCell ⟨w.heap.size + 1, 1, none⟩ v) := by
  have h := hf.fill hB u v
  exact ⟨a, cap, he, h.vers, h.nil, h.own.below, .inr h.new⟩

set_option maxRecDepth 20000 in
set_option maxHeartbeats 4000000 in
theorem rput_any (w : World) (c : Cl.Cel) (a : Option Addr) (cap : Nat) (any : Bool) (want : Nat) (t : ByteArray) (hw : want < 18446744073709551616) (ht : t.size ≤ 140737488351232) (h : VersAt w a c.l) (ok : ∀ v ∈ c.l, okV v) (hn : c.l.length ≤ 1000) (hnil : a = none → cap = 0) (hl : c.last < 18446744073709551616) :
    Calls Try.prog 22 #[.agg #[.int .u64 c.last, .slice a c.l.length cap], .bool any, .int .u64 want, .string t] w fun e w' => RefOut w a c.l (Cl.put c any want t) e w' := by
  have HB := Lib.hid (boxes2 w (.cells #[.int .u64 c.last, .slice a c.l.length cap] 25 (0, 0)) (.cells #[.int .u64 0, .slice none 0 0] 25 (0, 0)))
  have H := Lib.hid h
  have HNIL := Lib.hid hnil
  have HN := Lib.hid hn
  have HOK := Lib.hid ok
  have HLAST := Lib.hid hl
  have htI : (0 : Int) ≤ t.size ∧ (t.size : Int) ≤ 140737488351232 := by omega
  clear h hn hnil hl ok
  go_enter Try.func22, Try.ntmps22
  go_wp2_with fail
  refine (rmay_any _ c a cap (H.out.keep HB.out.own.below) HOK.out HLAST.out (by have := HN.out; omega)).mono ?_
  rintro e w1 ⟨rfl, hb1⟩
  have HB1 := Lib.hid (HB.out.keep hb1)
  clear hb1 HB
  have l2 := HB1.out.lt
  obtain ⟨k0, k1, r0, r1, f2, f3⟩ := HB1.out.facts
  by_cases hm : Cl.may c = true
  · have HLE := Lib.hid (may_len hm)
    rw [hm]
    by_cases hL : 4096 < t.size
    · have HE := Lib.hid (show Cl.put c any want t = (c, 5) by unfold Cl.put; rw [hm, if_neg (by decide), if_pos hL])
      have hLI : (4096 : Int) < t.size := by omega
      clear hm hL
      go_wp2_with fail
      refine bodyPost_ret (v := .tuple #[.agg #[.int .u64 c.last, .slice a c.l.length cap], .int .i64 5]) (by simp [results, Try.results22, go_sem, r0, r1, f2, f3, l2]) rfl ?_
      rw [HE.out]
      exact ref_same HB1.out H.out HNIL.out rfl
    · have HG := Lib.hid (show Cl.put c any want t = Cl.grow c any want 1 t by unfold Cl.put; rw [hm, if_neg (by decide), if_neg hL])
      have hLI : (t.size : Int) ≤ 4096 := by omega
      clear hm hL
      by_cases hst : any = false ∧ want ≠ Cl.now c
      · have HE := Lib.hid (show Cl.put c any want t = (c, 170) by rw [HG.out]; unfold Cl.grow; rw [if_pos hst])
        obtain ⟨rfl, hne⟩ := hst
        have hneI : ((want : Int) != (Cl.now c : Int)) = true := by rw [bne_iff_ne]; omega
        clear hne
        go_wp2_with fail
        refine (rnow_any _ c a cap (H.out.keep HB1.out.own.below) (by have := HN.out; omega)).mono ?_
        rintro e w4 ⟨rfl, hb1⟩
        have HB9 := Lib.hid (HB1.out.keep hb1)
        clear hb1 k0 k1 r0 r1 f2 f3 l2
        have l2 := HB9.out.lt
        obtain ⟨k0, k1, r0, r1, f2, f3⟩ := HB9.out.facts
        go_wp2_with fail
        refine bodyPost_ret (v := .tuple #[.agg #[.int .u64 c.last, .slice a c.l.length cap], .int .i64 170]) (by simp [results, Try.results22, go_sem, r0, r1, f2, f3, l2]) rfl ?_
        rw [HE.out]
        exact ref_same HB9.out H.out HNIL.out rfl
      · have HST := Lib.hid hst
        clear hst
        by_cases hany : any = true
        · subst hany
          have HB9 := HB1
          by_cases hfull : c.last = 18446744073709551615
          · have HE := Lib.hid (HG.out.trans (grow_full (by first | exact HST.out | simp) hfull))
            have hfI : ((c.last : Int) == 18446744073709551615) = true := by rw [beq_iff_eq]; omega
            clear hfull
            go_wp2_with fail
            refine bodyPost_ret (v := .tuple #[.agg #[.int .u64 c.last, .slice a c.l.length cap], .int .i64 4]) (by simp [results, Try.results22, go_sem, r0, r1, f2, f3, l2]) rfl ?_
            rw [HE.out]
            exact ref_same HB9.out H.out HNIL.out rfl
          · have HE := Lib.hid (HG.out.trans (grow_comes (by first | exact HST.out | simp) hfull))
            have hfI : ((c.last : Int) == 18446744073709551615) = false := by rw [beq_eq_false_iff_ne]; omega
            have HFU := Lib.hid hfull
            clear hfull
            go_wp2_with fail
            refine (rcomes_any _ c a cap 1 t (H.out.keep HB9.out.own.below) HLE.out HNIL.out (by have := HLAST.out; have := HFU.out; omega)).mono ?_
            rintro e w5 ⟨a', cap', rfl, hf⟩
            have HBz := Lib.hid (HB9.out.keep hf.own.below)
            clear k0 k1 r0 r1 f2 f3 l2
            have l2 := HBz.out.lt
            obtain ⟨k0, k1, r0, r1, f2, f3⟩ := HBz.out.facts
            have HF := Lib.hid hf
            clear hf
            generalize Cl.comes c 1 t = d at *
            go_wp2_with fail
            refine bodyPost_ret (v := .tuple #[.agg #[.int .u64 d.last, .slice a' d.l.length cap'], .int .i64 0]) (by simp [results, Try.results22, go_sem, r0, r1, f2, f3, l2]) rfl ?_
            rw [HE.out]
            exact ref_new HB9.out HF.out rfl
        · have hne : want = Cl.now c := by
            have := HST.out
            simp [hany] at this
            exact this
          obtain rfl : any = false := by simpa using hany
          subst hne
          clear hany
          go_wp2_with fail
          refine (rnow_any _ c a cap (H.out.keep HB1.out.own.below) (by have := HN.out; omega)).mono ?_
          rintro e w4 ⟨rfl, hb1⟩
          have HB9 := Lib.hid (HB1.out.keep hb1)
          clear hb1 k0 k1 r0 r1 f2 f3 l2
          have l2 := HB9.out.lt
          obtain ⟨k0, k1, r0, r1, f2, f3⟩ := HB9.out.facts
          by_cases hfull : c.last = 18446744073709551615
          · have HE := Lib.hid (HG.out.trans (grow_full (by first | exact HST.out | simp) hfull))
            have hfI : ((c.last : Int) == 18446744073709551615) = true := by rw [beq_iff_eq]; omega
            clear hfull
            go_wp2_with fail
            refine bodyPost_ret (v := .tuple #[.agg #[.int .u64 c.last, .slice a c.l.length cap], .int .i64 4]) (by simp [results, Try.results22, go_sem, r0, r1, f2, f3, l2]) rfl ?_
            rw [HE.out]
            exact ref_same HB9.out H.out HNIL.out rfl
          · have HE := Lib.hid (HG.out.trans (grow_comes (by first | exact HST.out | simp) hfull))
            have hfI : ((c.last : Int) == 18446744073709551615) = false := by rw [beq_eq_false_iff_ne]; omega
            have HFU := Lib.hid hfull
            clear hfull
            go_wp2_with fail
            refine (rcomes_any _ c a cap 1 t (H.out.keep HB9.out.own.below) HLE.out HNIL.out (by have := HLAST.out; have := HFU.out; omega)).mono ?_
            rintro e w5 ⟨a', cap', rfl, hf⟩
            have HBz := Lib.hid (HB9.out.keep hf.own.below)
            clear k0 k1 r0 r1 f2 f3 l2
            have l2 := HBz.out.lt
            obtain ⟨k0, k1, r0, r1, f2, f3⟩ := HBz.out.facts
            have HF := Lib.hid hf
            clear hf
            generalize Cl.comes c 1 t = d at *
            go_wp2_with fail
            refine bodyPost_ret (v := .tuple #[.agg #[.int .u64 d.last, .slice a' d.l.length cap'], .int .i64 0]) (by simp [results, Try.results22, go_sem, r0, r1, f2, f3, l2]) rfl ?_
            rw [HE.out]
            exact ref_new HB9.out HF.out rfl
  · have hm' : Cl.may c = false := by simpa using hm
    have HE := Lib.hid (show Cl.put c any want t = (c, 2) by unfold Cl.put; rw [hm', if_pos rfl])
    rw [hm']
    clear hm hm'
    go_wp2_with fail
    refine bodyPost_ret (v := .tuple #[.agg #[.int .u64 c.last, .slice a c.l.length cap], .int .i64 2]) (by simp [results, Try.results22, go_sem, r0, r1, f2, f3, l2]) rfl ?_
    rw [HE.out]
    exact ref_same HB1.out H.out HNIL.out rfl

set_option maxRecDepth 20000 in
set_option maxHeartbeats 4000000 in
theorem rdelete_any (w : World) (c : Cl.Cel) (a : Option Addr) (cap : Nat) (any : Bool) (want : Nat) (hw : want < 18446744073709551616) (h : VersAt w a c.l) (ok : ∀ v ∈ c.l, okV v) (hn : c.l.length ≤ 1000) (hnil : a = none → cap = 0) (hl : c.last < 18446744073709551616) :
    Calls Try.prog 23 #[.agg #[.int .u64 c.last, .slice a c.l.length cap], .bool any, .int .u64 want] w fun e w' => RefOut w a c.l (Cl.delete c any want) e w' := by
  have HB := Lib.hid (boxes2 w (.cells #[.int .u64 c.last, .slice a c.l.length cap] 25 (0, 0)) (.cells #[.int .u64 0, .slice none 0 0] 25 (0, 0)))
  have H := Lib.hid h
  have HNIL := Lib.hid hnil
  have HN := Lib.hid hn
  have HOK := Lib.hid ok
  have HLAST := Lib.hid hl
  clear h hn hnil hl ok
  go_enter Try.func23, Try.ntmps23
  go_wp2_with fail
  refine (rmay_any _ c a cap (H.out.keep HB.out.own.below) HOK.out HLAST.out (by have := HN.out; omega)).mono ?_
  rintro e w1 ⟨rfl, hb1⟩
  have HB1 := Lib.hid (HB.out.keep hb1)
  clear hb1 HB
  have l2 := HB1.out.lt
  obtain ⟨k0, k1, r0, r1, f2, f3⟩ := HB1.out.facts
  by_cases hm : Cl.may c = true
  · have HLE := Lib.hid (may_len hm)
    rw [hm]
    have HM := Lib.hid hm
    clear hm
    go_wp2_with fail
    refine (rnow_any _ c a cap (H.out.keep HB1.out.own.below) (by have := HN.out; omega)).mono ?_
    rintro e w3 ⟨rfl, hb3⟩
    have HB3 := Lib.hid (HB1.out.keep hb3)
    clear hb3 HB1 k0 k1 r0 r1 f2 f3 l2
    have l2 := HB3.out.lt
    obtain ⟨k0, k1, r0, r1, f2, f3⟩ := HB3.out.facts
    by_cases hL : Cl.now c = 0
    · have HE := Lib.hid (show Cl.delete c any want = (c, 3) by unfold Cl.delete; rw [HM.out, if_neg (by decide), if_pos hL])
      rw [hL]
      clear hL
      go_wp2_with fail
      refine bodyPost_ret (v := .tuple #[.agg #[.int .u64 c.last, .slice a c.l.length cap], .int .i64 3]) (by simp [results, Try.results23, go_sem, r0, r1, f2, f3, l2]) rfl ?_
      rw [HE.out]
      exact ref_same HB3.out H.out HNIL.out rfl
    · have HG := Lib.hid (show Cl.delete c any want = Cl.grow c any want 2 ⟨#[]⟩ by unfold Cl.delete; rw [HM.out, if_neg (by decide), if_neg hL])
      have hLI : ((Cl.now c : Int) == 0) = false := by simp; omega
      clear hL
      by_cases hst : any = false ∧ want ≠ Cl.now c
      · have HE := Lib.hid (show Cl.delete c any want = (c, 170) by rw [HG.out]; unfold Cl.grow; rw [if_pos hst])
        obtain ⟨rfl, hne⟩ := hst
        have hneI : ((want : Int) != (Cl.now c : Int)) = true := by rw [bne_iff_ne]; omega
        clear hne
        go_wp2_with fail
        refine (rnow_any _ c a cap (H.out.keep HB3.out.own.below) (by have := HN.out; omega)).mono ?_
        rintro e w4 ⟨rfl, hb1⟩
        have HB9 := Lib.hid (HB3.out.keep hb1)
        clear hb1 k0 k1 r0 r1 f2 f3 l2
        have l2 := HB9.out.lt
        obtain ⟨k0, k1, r0, r1, f2, f3⟩ := HB9.out.facts
        go_wp2_with fail
        refine bodyPost_ret (v := .tuple #[.agg #[.int .u64 c.last, .slice a c.l.length cap], .int .i64 170]) (by simp [results, Try.results23, go_sem, r0, r1, f2, f3, l2]) rfl ?_
        rw [HE.out]
        exact ref_same HB9.out H.out HNIL.out rfl
      · have HST := Lib.hid hst
        clear hst
        by_cases hany : any = true
        · subst hany
          have HB9 := HB3
          by_cases hfull : c.last = 18446744073709551615
          · have HE := Lib.hid (HG.out.trans (grow_full (by first | exact HST.out | simp) hfull))
            have hfI : ((c.last : Int) == 18446744073709551615) = true := by rw [beq_iff_eq]; omega
            clear hfull
            go_wp2_with fail
            refine bodyPost_ret (v := .tuple #[.agg #[.int .u64 c.last, .slice a c.l.length cap], .int .i64 4]) (by simp [results, Try.results23, go_sem, r0, r1, f2, f3, l2]) rfl ?_
            rw [HE.out]
            exact ref_same HB9.out H.out HNIL.out rfl
          · have HE := Lib.hid (HG.out.trans (grow_comes (by first | exact HST.out | simp) hfull))
            have hfI : ((c.last : Int) == 18446744073709551615) = false := by rw [beq_eq_false_iff_ne]; omega
            have HFU := Lib.hid hfull
            clear hfull
            go_wp2_with fail
            refine (rcomes_any _ c a cap 2 ⟨#[]⟩ (H.out.keep HB9.out.own.below) HLE.out HNIL.out (by have := HLAST.out; have := HFU.out; omega)).mono ?_
            rintro e w5 ⟨a', cap', rfl, hf⟩
            have HBz := Lib.hid (HB9.out.keep hf.own.below)
            clear k0 k1 r0 r1 f2 f3 l2
            have l2 := HBz.out.lt
            obtain ⟨k0, k1, r0, r1, f2, f3⟩ := HBz.out.facts
            have HF := Lib.hid hf
            clear hf
            generalize Cl.comes c 2 ⟨#[]⟩ = d at *
            go_wp2_with fail
            refine bodyPost_ret (v := .tuple #[.agg #[.int .u64 d.last, .slice a' d.l.length cap'], .int .i64 0]) (by simp [results, Try.results23, go_sem, r0, r1, f2, f3, l2]) rfl ?_
            rw [HE.out]
            exact ref_new HB9.out HF.out rfl
        · have hne : want = Cl.now c := by
            have := HST.out
            simp [hany] at this
            exact this
          obtain rfl : any = false := by simpa using hany
          subst hne
          clear hany
          go_wp2_with fail
          refine (rnow_any _ c a cap (H.out.keep HB3.out.own.below) (by have := HN.out; omega)).mono ?_
          rintro e w4 ⟨rfl, hb1⟩
          have HB9 := Lib.hid (HB3.out.keep hb1)
          clear hb1 k0 k1 r0 r1 f2 f3 l2
          have l2 := HB9.out.lt
          obtain ⟨k0, k1, r0, r1, f2, f3⟩ := HB9.out.facts
          by_cases hfull : c.last = 18446744073709551615
          · have HE := Lib.hid (HG.out.trans (grow_full (by first | exact HST.out | simp) hfull))
            have hfI : ((c.last : Int) == 18446744073709551615) = true := by rw [beq_iff_eq]; omega
            clear hfull
            go_wp2_with fail
            refine bodyPost_ret (v := .tuple #[.agg #[.int .u64 c.last, .slice a c.l.length cap], .int .i64 4]) (by simp [results, Try.results23, go_sem, r0, r1, f2, f3, l2]) rfl ?_
            rw [HE.out]
            exact ref_same HB9.out H.out HNIL.out rfl
          · have HE := Lib.hid (HG.out.trans (grow_comes (by first | exact HST.out | simp) hfull))
            have hfI : ((c.last : Int) == 18446744073709551615) = false := by rw [beq_eq_false_iff_ne]; omega
            have HFU := Lib.hid hfull
            clear hfull
            go_wp2_with fail
            refine (rcomes_any _ c a cap 2 ⟨#[]⟩ (H.out.keep HB9.out.own.below) HLE.out HNIL.out (by have := HLAST.out; have := HFU.out; omega)).mono ?_
            rintro e w5 ⟨a', cap', rfl, hf⟩
            have HBz := Lib.hid (HB9.out.keep hf.own.below)
            clear k0 k1 r0 r1 f2 f3 l2
            have l2 := HBz.out.lt
            obtain ⟨k0, k1, r0, r1, f2, f3⟩ := HBz.out.facts
            have HF := Lib.hid hf
            clear hf
            generalize Cl.comes c 2 ⟨#[]⟩ = d at *
            go_wp2_with fail
            refine bodyPost_ret (v := .tuple #[.agg #[.int .u64 d.last, .slice a' d.l.length cap'], .int .i64 0]) (by simp [results, Try.results23, go_sem, r0, r1, f2, f3, l2]) rfl ?_
            rw [HE.out]
            exact ref_new HB9.out HF.out rfl
  · have hm' : Cl.may c = false := by simpa using hm
    have HE := Lib.hid (show Cl.delete c any want = (c, 2) by unfold Cl.delete; rw [hm', if_pos rfl])
    rw [hm']
    clear hm hm'
    go_wp2_with fail
    refine bodyPost_ret (v := .tuple #[.agg #[.int .u64 c.last, .slice a c.l.length cap], .int .i64 2]) (by simp [results, Try.results23, go_sem, r0, r1, f2, f3, l2]) rfl ?_
    rw [HE.out]
    exact ref_same HB1.out H.out HNIL.out rfl

end Go.Proofs.Ytllepgdebjfbdaa
