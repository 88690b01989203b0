/-
  THE WALK of package cell's comes: one version more.
-/
import Derived.Test.YtllepgdebjfbdaaCellKept
import Derived.Deep.CutBlock
import Derived.Deep.RegionLaw
import Derived.Deep.DeepCutAuto
namespace Go.Proofs.Ytllepgdebjfbdaa
open Go.RowKit
attribute [local go_sem ↓ high] appSem_eq

/-- A cell comes out that is the call's own, and an error. -/
def ResOut (w : World) (r : Cl.Cel × Nat) (e : Ending) (w' : World) : Prop := ∃ a cap, e = .returned (.tuple #[.agg #[.int .u64 r.1.last, .slice a r.1.l.length cap], .int .i64 r.2]) ∧ VFresh w w' a cap r.1.l
theorem ver_cells {w : World} {b : Nat} {n st : Int} {t : ByteArray} (h : w.heap[b]? = some (.cells #[.int .u64 n, .int .u8 st, .string t] 35 (0, 0))) :
    w.cell? ⟨b, 0, none⟩ = some (.int .u64 n) ∧ w.cell? ⟨b, 1, none⟩ = some (.int .u8 st) ∧ w.cell? ⟨b, 2, none⟩ = some (.string t) := by
  refine ⟨?_, ?_, ?_⟩
  all_goals rw [cell_of_row w b _ _ _ _ h]; rfl
/-- Three boxes behind each other. -/
structure Boxes3 (w W : World) (o0 o1 o2 : Obj) : Prop where
  own : Own w.heap.size w W
  b0 : W.heap[w.heap.size]? = some o0
  b1 : W.heap[w.heap.size + 1]? = some o1
  b2 : W.heap[w.heap.size + 2]? = some o2
  lt : w.heap.size + 2 < W.heap.size
theorem boxes3 (w : World) (o0 o1 o2 : Obj) : Boxes3 w (((w.alloc o0).alloc o1).alloc o2) o0 o1 o2 := by
  have hO := (((Own.refl w).alloc o0).alloc o1).alloc o2
  have h0 := heap_alloc_new w o0
  have h1 := heap_alloc_new (w.alloc o0) o1
  have h2 := heap_alloc_new ((w.alloc o0).alloc o1) o2
  have h1' := (Below.heap_alloc _ o2 _ (blk_lt h1)).trans h1
  have h0' := (Below.heap_alloc _ o2 _ (blk_lt ((Below.heap_alloc _ o1 _ (blk_lt h0)).trans h0))).trans ((Below.heap_alloc _ o1 _ (blk_lt h0)).trans h0)
  rw [World.size_alloc] at h1'
  rw [World.size_alloc, World.size_alloc] at h2
  exact ⟨hO, h0', h1', h2, by simp⟩
theorem Boxes3.keep {w W W' : World} {o0 o1 o2 : Obj} (h : Boxes3 w W o0 o1 o2) (hb : Below W.heap.size W W') : Boxes3 w W' o0 o1 o2 :=
  ⟨h.own.trans hb, (hb.block _ (blk_lt h.b0)).trans h.b0, (hb.block _ (blk_lt h.b1)).trans h.b1, (hb.block _ (blk_lt h.b2)).trans h.b2, Nat.lt_of_lt_of_le h.lt hb.size⟩

theorem setCell_row {w : World} {b k : Nat} {cs : Array Value} {t : TypeId} (h : w.heap[b]? = some (.cells cs t (0, 0))) (u : Value) : (w.setCell ⟨b, k, none⟩ u).heap[b]? = some (.cells (cs.set! k u) t (0, 0)) := by
  have hlt := blk_lt h
  have h' : w.heap[b] = .cells cs t (0, 0) := by simpa [Array.getElem?_eq_getElem hlt] using h
  show (w.heap.modify b _)[b]? = _
  rw [Array.getElem?_eq_getElem (by simpa using hlt), Array.getElem_modify_self, h']
  rfl
theorem Boxes3.setV {w W : World} {o0 o2 : Obj} {n st : Int} {t : ByteArray} (h : Boxes3 w W o0 (.cells #[.int .u64 n, .int .u8 st, .string t] 35 (0, 0)) o2) (m' : Int) :
    Boxes3 w (W.setCell ⟨w.heap.size + 1, 0, none⟩ (.int .u64 m')) o0 (.cells #[.int .u64 m', .int .u8 st, .string t] 35 (0, 0)) o2 :=
  ⟨h.own.setCell (by simp) _, (Below.heap_setCell _ _ _ _ (by simp)).trans h.b0, setCell_row h.b1 _, (Below.heap_setCell _ _ _ _ (by simp)).trans h.b2, by have := h.lt; simpa [World.setCell] using this⟩

theorem cell_keep {w w' : World} {B b k : Nat} {v : Value} (hb : Below B w w') (h : w.cell? ⟨b, k, none⟩ = some v) (hl : b < B) : w'.cell? ⟨b, k, none⟩ = some v := by
  rw [World.cell?_of_block (w := w) (hb.block _ hl)]; exact h
theorem VFresh.drop1 {w w' : World} {g off cap : Nat} {l : List Cl.Ver} (h : VFresh w w' (some ⟨g, off, none⟩) cap l) (hl : 1 ≤ l.length) : VFresh w w' (some ⟨g, off + 3, none⟩) (cap - 1) (l.drop 1) := by
  refine ⟨?_, by simpa using h.new, h.own⟩
  have := h.is.drop 1 hl
  rw [flat_drop 3 _ (vcells_len l) 1] at this
  simpa using this
theorem vfresh_more {W W1 w3 w4 : World} {a s : Option Addr} {cap cap' : Nat} {l : List Cl.Ver} {v : Cl.Ver} (h : VFresh W1 w3 a cap l) (hO : Own W.heap.size W W1)
    (hs : SliceIs w4 35 3 s (l.length + 1) cap' ((l.map vcells).flatten ++ vcells v)) (hu : Upd w3 w4 (blks a)) (hk : ∀ k ∈ blks s, k ∈ blks a ∨ w3.heap.size ≤ k) : VFresh W w4 s cap' (l ++ [v]) :=
  ⟨by simpa using hs, fun k hk' => by
    rcases hk k hk' with h1 | h1
    · exact Nat.le_trans hO.size (h.new k h1)
    · exact Nat.le_trans (hO.trans h.own.below).size h1, (hO.trans h.own.below).upd hu fun k hk => Nat.le_trans hO.size (h.new k hk)⟩

set_option maxRecDepth 20000 in
set_option maxHeartbeats 2000000 in
theorem comes_any (w : World) (c : Cl.Cel) (a : Option Addr) (cap : Nat) (any : Bool) (want st : Nat) (t : ByteArray) (h : VersAt w a c.l) (hn : c.l.length ≤ 8) (hnil : a = none → cap = 0) (hl : c.last < 18446744073709551616) (hw : want < 18446744073709551616) :
    Calls Try.prog 30 #[.agg #[.int .u64 c.last, .slice a c.l.length cap], .bool any, .int .u64 want, .agg #[.int .u64 0, .int .u8 st, .string t]] w fun e w' => ResOut w (Cl.grow c any want st t) e w' := by
  have hlI : (0 : Int) ≤ c.last ∧ (c.last : Int) ≤ 18446744073709551615 := by omega
  have HB := Lib.hid (boxes3 w (.cells #[.int .u64 c.last, .slice a c.l.length cap] 25 (0, 0)) (.cells #[.int .u64 0, .int .u8 st, .string t] 35 (0, 0)) (.cells #[.int .u64 0, .slice none 0 0] 25 (0, 0)))
  have H := Lib.hid h
  have HNIL := Lib.hid hnil
  have HN := Lib.hid hn
  by_cases hst : any = false ∧ want ≠ Cl.now c
  · have HE := Lib.hid (show Cl.grow c any want st t = (c, 170) by unfold Cl.grow; rw [if_pos hst])
    obtain ⟨rfl, hne⟩ := hst
    have hneI : ((want : Int) == (Cl.now c : Int)) = false := by simp; omega
    clear h hn hnil hl hw hne
    go_enter Try.func30, Try.ntmps30
    go_wp2_with fail
    refine (now_any _ c a cap (H.out.keep HB.out.own.below) (by have := HN.out; omega)).mono ?_
    rintro e w1 ⟨rfl, hb1⟩
    have HB1 := Lib.hid (HB.out.keep hb1)
    clear hb1 HB
    obtain ⟨k0, k1⟩ := cell_cells HB1.out.b0
    go_wp2_with fail
    refine (kept_any _ c a cap (H.out.keep HB1.out.own.below) (by have := HN.out; omega) HNIL.out).mono ?_
    rintro e w2 ⟨a', cap', rfl, hf⟩
    have HB2 := Lib.hid (HB1.out.keep hf.own.below)
    have hb2 := HB2.out.b2
    obtain ⟨r0, r1⟩ := cell_cells hb2
    have f2 := frozen_of_row w2 (w.heap.size + 2) 0 _ _ hb2
    have f3 := frozen_of_row w2 (w.heap.size + 2) 1 _ _ hb2
    have l2 := blk_lt hb2
    have HF := Lib.hid hf
    clear hb2 hf
    go_wp2_with fail
    refine bodyPost_ret (v := .tuple #[.agg #[.int .u64 c.last, .slice a' c.l.length cap'], .int .i64 170]) (by simp [results, Try.results30, go_sem, r0, r1, f2, f3, l2]) rfl ⟨a', cap', by rw [HE.out]; rfl, ?_⟩
    rw [HE.out]
    exact HF.out.sets HB1.out.own (F := [w.heap.size + 2]) (((Upd.refl _ _).setCell (.inl (by simp)) _).setCell (.inl (by simp)) _) (by have := HB1.out.lt; simp; omega)
  · have HST := Lib.hid hst
    clear h hn hnil hl hw hst
    go_enter Try.func30, Try.ntmps30
    go_upto_region 1 with (fail)
    go_cut [11] (fun v wx => v = .bool false ∧ Boxes3 w wx (.cells #[.int .u64 c.last, .slice a c.l.length cap] 25 (0, 0)) (.cells #[.int .u64 0, .int .u8 st, .string t] 35 (0, 0)) (.cells #[.int .u64 0, .slice none 0 0] 25 (0, 0)))
    case first =>
      cases any with
      | true =>
        go_wp2_with fail
        go_meet
        exact ⟨rfl, HB.out⟩
      | false =>
        have hne : want = Cl.now c := by
          have := HST.out
          simpa using this
        subst hne
        go_wp2_with fail
        refine (now_any _ c a cap (H.out.keep HB.out.own.below) (by have := HN.out; omega)).mono ?_
        rintro e w1 ⟨rfl, hb1⟩
        have HB1 := Lib.hid (HB.out.keep hb1)
        clear hb1
        go_wp2_with fail
        go_meet
        exact ⟨rfl, HB1.out⟩
    case rest =>
      obtain ⟨rfl, hB⟩ := hcut
      have HB2 := Lib.hid hB
      clear hB HB
      obtain ⟨k0, k1⟩ := cell_cells HB2.out.b0
      by_cases hfull : c.last = 18446744073709551615
      · have HE := Lib.hid (show Cl.grow c any want st t = (c, 4) by unfold Cl.grow; rw [if_neg HST.out, if_pos hfull])
        have hfI : IntKind.u64.wrap ((c.last : Int) + 1) = 0 := by rw [hfull]; rfl
        clear hfull
        go_wp2_with fail
        refine (kept_any _ c a cap (H.out.keep HB2.out.own.below) (by have := HN.out; omega) HNIL.out).mono ?_
        rintro e w2 ⟨a', cap', rfl, hf⟩
        have HB3 := Lib.hid (HB2.out.keep hf.own.below)
        have hb2 := HB3.out.b2
        obtain ⟨r0, r1⟩ := cell_cells hb2
        have f2 := frozen_of_row w2 (w.heap.size + 2) 0 _ _ hb2
        have f3 := frozen_of_row w2 (w.heap.size + 2) 1 _ _ hb2
        have l2 := blk_lt hb2
        have HF := Lib.hid hf
        clear hb2 hf
        go_wp2_with fail
        refine bodyPost_ret (v := .tuple #[.agg #[.int .u64 c.last, .slice a' c.l.length cap'], .int .i64 4]) (by simp [results, Try.results30, go_sem, r0, r1, f2, f3, l2]) rfl ⟨a', cap', by rw [HE.out]; rfl, ?_⟩
        rw [HE.out]
        exact HF.out.sets HB2.out.own (F := [w.heap.size + 2]) (((Upd.refl _ _).setCell (.inl (by simp)) _).setCell (.inl (by simp)) _) (by have := HB2.out.lt; simp; omega)
      · have HE := Lib.hid (show Cl.grow c any want st t = (Cl.comes c st t, 0) by unfold Cl.grow; rw [if_neg HST.out, if_neg hfull])
        have hfI : IntKind.u64.wrap ((c.last : Int) + 1) = (c.last : Int) + 1 := IntWalk.u64_in _ (by omega)
        have hfJ : (((c.last : Int) + 1) == 0) = false := by simp; omega
        clear hfull
        obtain ⟨v0, v1, v2⟩ := ver_cells HB2.out.b1
        have f0 := frozen_of_row wc (w.heap.size + 1) 0 _ _ HB2.out.b1
        have l2 := HB2.out.lt
        go_upto_region 6 with (fail)
        have hB3 := HB2.out.setV ((c.last : Int) + 1)
        have HW := Lib.hid (H.out.keep hB3.own.below)
        have HB3 := Lib.hid hB3
        clear hB3 HB2 k0 k1 v0 v1 v2 f0 l2
        have k1 := (cell_cells HB3.out.b0).2
        obtain ⟨v0, v1, v2⟩ := ver_cells HB3.out.b1
        generalize wc.setCell ⟨w.heap.size + 1, 0, none⟩ (.int .u64 ((c.last : Int) + 1)) = W at *
        have lt1 : w.heap.size < W.heap.size := by have := HB3.out.lt; omega
        have lt2 : w.heap.size + 1 < W.heap.size := by have := HB3.out.lt; omega
        go_cut [10] (fun v wx => ∃ a2 cap2, v = .slice a2 (c.l.length + 1) cap2 ∧ VFresh W wx a2 cap2 (c.l ++ [Cl.Ver.mk (c.last + 1) st t]))
        case first =>
          obtain ⟨i0, hi, hz0, hz1, hz2⟩ := info_parts verInfo
          go_region_law (first
            | (refine step_append_slice (by rfl) (.tmp 35) (.tmp 37) 23 (by rfl) 35 i0 _ 3 32 Try.underlying23 hi hz0 hz1 hz2 rfl (by decide) a3 c.l.length cap3 _ (by rfl) (HF3.out.is.alloc _) ⟨w3.heap.size, 0, none⟩ 1 1 (vcells (Cl.Ver.mk (c.last + 1) st t)) (by rfl) (by rfl) (news_of ⟨_, _, _, heap_alloc_new _ _, by simp [vcells], by simp [vcells]⟩) (by simp [vcells]; exact ⟨rfl, rfl, rfl⟩) (by have := HN.out; unfold maxLen; omega) (by have := HN.out; omega) ?_
               intro s4 cap4 w4 hs4 hu4 hk4
               have HF4 : Hid (VFresh W w4 s4 cap4 (c.l ++ [Cl.Ver.mk (c.last + 1) st t])) := Lib.hid (vfresh_more (HF3.out.keep ((Own.refl w3).alloc _).below) (Own.refl W).drew hs4 hu4 hk4)
               clear hs4 hu4 hk4)
            | (refine step_append_slice (by rfl) (.tmp 35) (.tmp 37) 23 (by rfl) 35 i0 _ 3 32 Try.underlying23 hi hz0 hz1 hz2 rfl (by decide) a3 c.l.length cap3 _ (by rfl) HF3.out.is ⟨W.heap.size, 0, none⟩ 1 1 (vcells (Cl.Ver.mk (c.last + 1) st t)) (by rfl) (by rfl) (news_of ⟨_, _, _, (HF3.out.own.below.block _ (by simp)).trans (heap_alloc_new W _), by simp [vcells], by simp [vcells]⟩) (by simp [vcells]; exact ⟨rfl, rfl, rfl⟩) (by have := HN.out; unfold maxLen; omega) (by have := HN.out; omega) ?_
               intro s4 cap4 w4 hs4 hu4 hk4
               have HF4 : Hid (VFresh W w4 s4 cap4 (c.l ++ [Cl.Ver.mk (c.last + 1) st t])) := Lib.hid (vfresh_more HF3.out ((Own.refl W).alloc _).drew hs4 hu4 hk4)
               clear hs4 hu4 hk4)
            | (go_simp; go_at_call 34; refine (clone_any _ a cap c.l (by first | exact HW.out.keep (Own.refl W).drew.below | exact HW.out.keep ((Own.refl W).alloc _).drew.below) (by have := HN.out; omega) HNIL.out).mono ?_; rintro e w3 ⟨a3, cap3, rfl, hf3⟩; have HF3 := Lib.hid hf3; try (have q0 := cell_keep hf3.own.below v0 (by simp; omega)); try (have q1 := cell_keep hf3.own.below v1 (by simp; omega)); try (have q2 := cell_keep hf3.own.below v2 (by simp; omega)); clear hf3))
          all_goals go_wp2_with fail
          all_goals go_meet
          all_goals exact ⟨s4, cap4, rfl, HF4.out⟩
        case rest =>
          obtain ⟨a2, cap2, rfl, hf⟩ := hcut
          have HF := Lib.hid hf
          have HB4 := Lib.hid (HB3.out.keep hf.own.below)
          obtain ⟨v0, v1, v2⟩ := ver_cells HB4.out.b1
          obtain ⟨r0, r1⟩ := cell_cells HB4.out.b2
          have f2 := frozen_of_row wc (w.heap.size + 2) 0 _ _ HB4.out.b2
          have f3 := frozen_of_row wc (w.heap.size + 2) 1 _ _ HB4.out.b2
          have l2 := HB4.out.lt
          clear hf k1
          obtain ⟨g2, off2, rfl⟩ := HF.out.is.there (by simp)
          have hI : (0 : Int) ≤ c.l.length ∧ (c.l.length : Int) ≤ 8 := by have := HN.out; omega
          have HC : Hid (Cl.comes c st t = ⟨c.last + 1, (c.l ++ [Cl.Ver.mk (c.last + 1) st t]).drop (c.l.length + 1 - 8)⟩) := Lib.hid rfl
          go_wp2_with fail
          by_cases h8 : c.l.length = 8
          · have h8I : (c.l.length : Int) + 1 - 8 = 1 := by omega
            have hcap : ¬ cap2 = 1 := by have := HF.out.is.bound.1; simp at this; omega
            have hF2 := HF.out.drop1 (by simp)
            have hcl : (Cl.comes c st t) = ⟨c.last + 1, (c.l ++ [Cl.Ver.mk (c.last + 1) st t]).drop 1⟩ := by rw [HC.out, h8]
            have hlen : (Cl.comes c st t).l.length = 8 := by rw [hcl]; simp [h8]
            have HF2 : Hid (VFresh W wc (some ⟨g2, off2 + 3, none⟩) (cap2 - 1) (Cl.comes c st t).l) := Lib.hid (by rw [hcl]; exact hF2)
            have HL := Lib.hid hlen
            have HLa : Hid (((Cl.comes c st t).last : Int) = (c.last : Int) + 1) := Lib.hid rfl
            clear hlen hcl hF2 HC HF
            go_region
            go_wp2_with fail
            refine bodyPost_ret (v := .tuple #[.agg #[.int .u64 ((c.last : Int) + 1), .slice (some ⟨g2, off2 + 3, none⟩) 8 (cap2 - 1)], .int .i64 0]) (by simp [results, Try.results30, go_sem, r0, r1, f2, f3, l2]) rfl ⟨some ⟨g2, off2 + 3, none⟩, cap2 - 1, by rw [HE.out]; simp only; rw [HL.out, HLa.out]; rfl, ?_⟩
            rw [HE.out]
            exact HF2.out.sets HB3.out.own (F := [w.heap.size + 2]) (((Upd.refl _ _).setCell (.inl (by simp)) _).setCell (.inl (by simp)) _).drew (by have := HB3.out.lt; simp; omega)
          · have h8I : (c.l.length : Int) + 1 - 8 ≤ 0 := by have := HN.out; omega
            have hcap : ¬ cap2 = 0 := by have := HF.out.is.bound.1; simp at this; omega
            have hcl : (Cl.comes c st t) = ⟨c.last + 1, c.l ++ [Cl.Ver.mk (c.last + 1) st t]⟩ := by rw [HC.out, show c.l.length + 1 - 8 = 0 by have := HN.out; omega]; rfl
            have hlen : (Cl.comes c st t).l.length = c.l.length + 1 := by rw [hcl]; simp
            have HF2 : Hid (VFresh W wc (some ⟨g2, off2, none⟩) cap2 (Cl.comes c st t).l) := Lib.hid (by rw [hcl]; exact HF.out)
            have HL := Lib.hid hlen
            have HLa : Hid (((Cl.comes c st t).last : Int) = (c.last : Int) + 1) := Lib.hid rfl
            clear hlen hcl HC HF h8
            go_region
            go_wp2_with fail
            refine bodyPost_ret (v := .tuple #[.agg #[.int .u64 ((c.last : Int) + 1), .slice (some ⟨g2, off2, none⟩) (c.l.length + 1) cap2], .int .i64 0]) (by simp [results, Try.results30, go_sem, r0, r1, f2, f3, l2]) rfl ⟨some ⟨g2, off2, none⟩, cap2, by rw [HE.out]; simp only; rw [HL.out, HLa.out]; rfl, ?_⟩
            rw [HE.out]
            exact HF2.out.sets HB3.out.own (F := [w.heap.size + 2]) (((Upd.refl _ _).setCell (.inl (by simp)) _).setCell (.inl (by simp)) _).drew (by have := HB3.out.lt; simp; omega)

end Go.Proofs.Ytllepgdebjfbdaa
