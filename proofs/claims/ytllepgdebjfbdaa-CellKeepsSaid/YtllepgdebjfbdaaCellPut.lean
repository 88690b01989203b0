/-
  THE WALKS of package cell: Put, Delete.
-/
import Derived.Test.YtllepgdebjfbdaaCellComes
namespace Go.Proofs.Ytllepgdebjfbdaa
open Go.RowKit

/-- Two boxes behind each other. -/
structure Boxes2 (w W : World) (o0 o1 : Obj) : Prop where
  own : Own w.heap.size w W
  b0 : W.heap[w.heap.size]? = some o0
  b1 : W.heap[w.heap.size + 1]? = some o1
  lt : w.heap.size + 1 < W.heap.size
theorem boxes2 (w : World) (o0 o1 : Obj) : Boxes2 w ((w.alloc o0).alloc o1) o0 o1 := by
  have hO := ((Own.refl w).alloc o0).alloc o1
  have h0 := heap_alloc_new w o0
  have h1 := heap_alloc_new (w.alloc o0) o1
  have h0' := (Below.heap_alloc _ o1 _ (blk_lt h0)).trans h0
  rw [World.size_alloc] at h1
  exact ⟨hO, h0', h1, by simp⟩
theorem Boxes2.keep {w W W' : World} {o0 o1 : Obj} (h : Boxes2 w W o0 o1) (hb : Below W.heap.size W W') : Boxes2 w W' o0 o1 :=
  ⟨h.own.trans hb, (hb.block _ (blk_lt h.b0)).trans h.b0, (hb.block _ (blk_lt h.b1)).trans h.b1, Nat.lt_of_lt_of_le h.lt hb.size⟩
theorem VFresh.fill {w W w1 : World} {a : Option Addr} {cap : Nat} {l : List Cl.Ver} {o0 o1 : Obj} (h : VFresh W w1 a cap l) (hB : Boxes2 w W o0 o1) (u v : Value) :
    VFresh w ((w1.setCell ⟨w.heap.size + 1, 0, none⟩ u).setCell ⟨w.heap.size + 1, 1, none⟩ v) a cap l :=
  h.sets hB.own (F := [w.heap.size + 1]) (((Upd.refl _ _).setCell (.inl (by simp)) _).setCell (.inl (by simp)) _) (by have := hB.lt; simp; omega)
theorem may_len {c : Cl.Cel} (h : Cl.may c = true) : c.l.length ≤ 8 := by
  unfold Cl.may at h; simp at h; exact h.1

set_option maxRecDepth 20000 in
set_option maxHeartbeats 2000000 in
theorem put_any (w : World) (c : Cl.Cel) (a : Option Addr) (cap : Nat) (any : Bool) (want : Nat) (t : ByteArray) (ht : t.size ≤ 140737488351232) (h : VersAt w a c.l) (ok : ∀ v ∈ c.l, okV v) (hn : c.l.length ≤ 1000) (hnil : a = none → cap = 0) (hl : c.last < 18446744073709551616) (hw : want < 18446744073709551616) :
    Calls Try.prog 19 #[.agg #[.int .u64 c.last, .slice a c.l.length cap], .bool any, .int .u64 want, .string t] w fun e w' => ResOut w (Cl.put c any want t) e w' := by
  have HB := Lib.hid (boxes2 w (.cells #[.int .u64 c.last, .slice a c.l.length cap] 25 (0, 0)) (.cells #[.int .u64 0, .slice none 0 0] 25 (0, 0)))
  have H := Lib.hid h
  have HNIL := Lib.hid hnil
  have HN := Lib.hid hn
  have HOK := Lib.hid ok
  have HLAST := Lib.hid hl
  have HW := Lib.hid hw
  have htI : (0 : Int) ≤ t.size ∧ (t.size : Int) ≤ 140737488351232 := by omega
  clear h hn hnil hl hw ok
  go_enter Try.func19, Try.ntmps19
  go_wp2_with fail
  refine (may_any _ c a cap (H.out.keep HB.out.own.below) HOK.out HLAST.out (by have := HN.out; omega)).mono ?_
  rintro e w1 ⟨rfl, hb1⟩
  have HB1 := Lib.hid (HB.out.keep hb1)
  clear hb1 HB
  obtain ⟨k0, k1⟩ := cell_cells HB1.out.b0
  by_cases hm : Cl.may c = true
  · have HLE := Lib.hid (may_len hm)
    rw [hm]
    by_cases hL : 4096 < t.size
    · have HE := Lib.hid (show Cl.put c any want t = (c, 5) by unfold Cl.put; rw [hm, if_neg (by decide), if_pos hL])
      have hLI : (4096 : Int) < t.size := by omega
      clear hm hL
      go_wp2_with fail
      refine (kept_any _ c a cap (H.out.keep HB1.out.own.below) (by have := HN.out; omega) HNIL.out).mono ?_
      rintro e w2 ⟨a', cap', rfl, hf⟩
      have HB2 := Lib.hid (HB1.out.keep hf.own.below)
      obtain ⟨r0, r1⟩ := cell_cells HB2.out.b1
      have f2 := frozen_of_row w2 (w.heap.size + 1) 0 _ _ HB2.out.b1
      have f3 := frozen_of_row w2 (w.heap.size + 1) 1 _ _ HB2.out.b1
      have l2 := HB2.out.lt
      have HF := Lib.hid hf
      clear hf
      go_wp2_with fail
      refine bodyPost_ret (v := .tuple #[.agg #[.int .u64 c.last, .slice a' c.l.length cap'], .int .i64 5]) (by simp [results, Try.results19, go_sem, r0, r1, f2, f3, l2]) rfl ⟨a', cap', by rw [HE.out]; rfl, ?_⟩
      rw [HE.out]
      exact HF.out.fill HB1.out _ _
    · have HE := Lib.hid (show Cl.put c any want t = Cl.grow c any want 1 t by unfold Cl.put; rw [hm, if_neg (by decide), if_neg hL])
      have hLI : (t.size : Int) ≤ 4096 := by omega
      clear hm hL
      go_wp2_with fail
      refine (comes_any _ c a cap any want 1 t (H.out.keep HB1.out.own.below) HLE.out HNIL.out HLAST.out HW.out).mono ?_
      rintro e w2 ⟨a', cap', rfl, hf⟩
      have HB2 := Lib.hid (HB1.out.keep hf.own.below)
      obtain ⟨r0, r1⟩ := cell_cells HB2.out.b1
      have f2 := frozen_of_row w2 (w.heap.size + 1) 0 _ _ HB2.out.b1
      have f3 := frozen_of_row w2 (w.heap.size + 1) 1 _ _ HB2.out.b1
      have l2 := HB2.out.lt
      have HF := Lib.hid hf
      clear hf
      generalize Cl.grow c any want 1 t = r at *
      obtain ⟨⟨rl, rv⟩, re⟩ := r
      go_wp2_with fail
      refine bodyPost_ret (v := .tuple #[.agg #[.int .u64 rl, .slice a' rv.length cap'], .int .i64 re]) (by simp [results, Try.results19, go_sem, r0, r1, f2, f3, l2]) rfl ⟨a', cap', by rw [HE.out], ?_⟩
      rw [HE.out]
      exact HF.out.fill HB1.out _ _
  · have hm' : Cl.may c = false := by simpa using hm
    have HE := Lib.hid (show Cl.put c any want t = (c, 2) by unfold Cl.put; rw [hm', if_pos rfl])
    rw [hm']
    clear hm hm'
    go_wp2_with fail
    refine (kept_any _ c a cap (H.out.keep HB1.out.own.below) (by have := HN.out; omega) HNIL.out).mono ?_
    rintro e w2 ⟨a', cap', rfl, hf⟩
    have HB2 := Lib.hid (HB1.out.keep hf.own.below)
    obtain ⟨r0, r1⟩ := cell_cells HB2.out.b1
    have f2 := frozen_of_row w2 (w.heap.size + 1) 0 _ _ HB2.out.b1
    have f3 := frozen_of_row w2 (w.heap.size + 1) 1 _ _ HB2.out.b1
    have l2 := HB2.out.lt
    have HF := Lib.hid hf
    clear hf
    go_wp2_with fail
    refine bodyPost_ret (v := .tuple #[.agg #[.int .u64 c.last, .slice a' c.l.length cap'], .int .i64 2]) (by simp [results, Try.results19, go_sem, r0, r1, f2, f3, l2]) rfl ⟨a', cap', by rw [HE.out]; rfl, ?_⟩
    rw [HE.out]
    exact HF.out.fill HB1.out _ _

set_option maxRecDepth 20000 in
set_option maxHeartbeats 2000000 in
theorem delete_any (w : World) (c : Cl.Cel) (a : Option Addr) (cap : Nat) (any : Bool) (want : Nat) (h : VersAt w a c.l) (ok : ∀ v ∈ c.l, okV v) (hn : c.l.length ≤ 1000) (hnil : a = none → cap = 0) (hl : c.last < 18446744073709551616) (hw : want < 18446744073709551616) :
    Calls Try.prog 20 #[.agg #[.int .u64 c.last, .slice a c.l.length cap], .bool any, .int .u64 want] w fun e w' => ResOut w (Cl.delete c any want) e w' := by
  have HB := Lib.hid (boxes2 w (.cells #[.int .u64 c.last, .slice a c.l.length cap] 25 (0, 0)) (.cells #[.int .u64 0, .slice none 0 0] 25 (0, 0)))
  have H := Lib.hid h
  have HNIL := Lib.hid hnil
  have HN := Lib.hid hn
  have HOK := Lib.hid ok
  have HLAST := Lib.hid hl
  have HW := Lib.hid hw
  clear h hn hnil hl hw ok
  go_enter Try.func20, Try.ntmps20
  go_wp2_with fail
  refine (may_any _ c a cap (H.out.keep HB.out.own.below) HOK.out HLAST.out (by have := HN.out; omega)).mono ?_
  rintro e w1 ⟨rfl, hb1⟩
  have HB1 := Lib.hid (HB.out.keep hb1)
  clear hb1 HB
  obtain ⟨k0, k1⟩ := cell_cells HB1.out.b0
  by_cases hm : Cl.may c = true
  · have HLE := Lib.hid (may_len hm)
    rw [hm]
    have HM := Lib.hid hm
    clear hm
    go_wp2_with fail
    refine (now_any _ c a cap (H.out.keep HB1.out.own.below) (by have := HN.out; omega)).mono ?_
    rintro e w3 ⟨rfl, hb3⟩
    have HB3 := Lib.hid (HB1.out.keep hb3)
    clear hb3 HB1 k0 k1
    obtain ⟨k0, k1⟩ := cell_cells HB3.out.b0
    by_cases hL : Cl.now c = 0
    · have HE := Lib.hid (show Cl.delete c any want = (c, 3) by unfold Cl.delete; rw [HM.out, if_neg (by decide), if_pos hL])
      rw [hL]
      clear hL
      go_wp2_with fail
      refine (kept_any _ c a cap (H.out.keep HB3.out.own.below) (by have := HN.out; omega) HNIL.out).mono ?_
      rintro e w2 ⟨a', cap', rfl, hf⟩
      have HB2 := Lib.hid (HB3.out.keep hf.own.below)
      obtain ⟨r0, r1⟩ := cell_cells HB2.out.b1
      have f2 := frozen_of_row w2 (w.heap.size + 1) 0 _ _ HB2.out.b1
      have f3 := frozen_of_row w2 (w.heap.size + 1) 1 _ _ HB2.out.b1
      have l2 := HB2.out.lt
      have HF := Lib.hid hf
      clear hf
      go_wp2_with fail
      refine bodyPost_ret (v := .tuple #[.agg #[.int .u64 c.last, .slice a' c.l.length cap'], .int .i64 3]) (by simp [results, Try.results20, go_sem, r0, r1, f2, f3, l2]) rfl ⟨a', cap', by rw [HE.out]; rfl, ?_⟩
      rw [HE.out]
      exact HF.out.fill HB3.out _ _
    · have HE := Lib.hid (show Cl.delete c any want = Cl.grow c any want 2 ⟨#[]⟩ by unfold Cl.delete; rw [HM.out, if_neg (by decide), if_neg hL])
      have hLI : ((Cl.now c : Int) == 0) = false := by simp; omega
      clear hL
      go_wp2_with fail
      refine (comes_any _ c a cap any want 2 ⟨#[]⟩ (H.out.keep HB3.out.own.below) HLE.out HNIL.out HLAST.out HW.out).mono ?_
      rintro e w2 ⟨a', cap', rfl, hf⟩
      have HB2 := Lib.hid (HB3.out.keep hf.own.below)
      obtain ⟨r0, r1⟩ := cell_cells HB2.out.b1
      have f2 := frozen_of_row w2 (w.heap.size + 1) 0 _ _ HB2.out.b1
      have f3 := frozen_of_row w2 (w.heap.size + 1) 1 _ _ HB2.out.b1
      have l2 := HB2.out.lt
      have HF := Lib.hid hf
      clear hf
      generalize Cl.grow c any want 2 ⟨#[]⟩ = r at *
      obtain ⟨⟨rl, rv⟩, re⟩ := r
      go_wp2_with fail
      refine bodyPost_ret (v := .tuple #[.agg #[.int .u64 rl, .slice a' rv.length cap'], .int .i64 re]) (by simp [results, Try.results20, go_sem, r0, r1, f2, f3, l2]) rfl ⟨a', cap', by rw [HE.out], ?_⟩
      rw [HE.out]
      exact HF.out.fill HB3.out _ _
  · have hm' : Cl.may c = false := by simpa using hm
    have HE := Lib.hid (show Cl.delete c any want = (c, 2) by unfold Cl.delete; rw [hm', if_pos rfl])
    rw [hm']
    clear hm hm'
    go_wp2_with fail
    refine (kept_any _ c a cap (H.out.keep HB1.out.own.below) (by have := HN.out; omega) HNIL.out).mono ?_
    rintro e w2 ⟨a', cap', rfl, hf⟩
    have HB2 := Lib.hid (HB1.out.keep hf.own.below)
    obtain ⟨r0, r1⟩ := cell_cells HB2.out.b1
    have f2 := frozen_of_row w2 (w.heap.size + 1) 0 _ _ HB2.out.b1
    have f3 := frozen_of_row w2 (w.heap.size + 1) 1 _ _ HB2.out.b1
    have l2 := HB2.out.lt
    have HF := Lib.hid hf
    clear hf
    go_wp2_with fail
    refine bodyPost_ret (v := .tuple #[.agg #[.int .u64 c.last, .slice a' c.l.length cap'], .int .i64 2]) (by simp [results, Try.results20, go_sem, r0, r1, f2, f3, l2]) rfl ⟨a', cap', by rw [HE.out]; rfl, ?_⟩
    rw [HE.out]
    exact HF.out.fill HB1.out _ _

end Go.Proofs.Ytllepgdebjfbdaa
