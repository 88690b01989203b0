/-
  THE WALKS of package cell: Same; Clone, kept.
-/
import Derived.Test.YtllepgdebjfbdaaCellNow
namespace Go.Proofs.Ytllepgdebjfbdaa
open Go.RowKit
attribute [local go_sem ↓ high] appSem_eq

/-- Are two cells the same? -/
noncomputable def sameC (c d : Cl.Cel) : Bool := decide (c.last = d.last) && sameL c.l d.l
set_option maxHeartbeats 1000000 in
theorem same_any (w : World) (c d : Cl.Cel) (a a' : Option Addr) (cap cap' : Nat) (h : VersAt w a c.l) (h' : VersAt w a' d.l) (hn : c.l.length ≤ 1000) (hm : d.l.length ≤ 1000) :
    Calls Try.prog 18 #[.agg #[.int .u64 c.last, .slice a c.l.length cap], .agg #[.int .u64 d.last, .slice a' d.l.length cap']] w fun e w' => e = .returned (.bool (sameC c d)) ∧ Below w.heap.size w w' := by
  have hO := ((Own.refl w).alloc (.cells #[.int .u64 c.last, .slice a c.l.length cap] 25 (0, 0))).alloc (.cells #[.int .u64 d.last, .slice a' d.l.length cap'] 25 (0, 0))
  have HC := Lib.hid (equal_any _ a a' cap cap' c.l d.l (h.keep hO.below) (h'.keep hO.below) hn hm)
  have HO := Lib.hid hO
  clear h h' hO
  by_cases hl : c.last = d.last
  · have HE := Lib.hid (show sameC c d = sameL c.l d.l by unfold sameC; simp [hl])
    rw [← hl] at HC HO
    rw [← hl]
    clear hl
    go_enter Try.func18, Try.ntmps18
    go_wp2_with fail
    refine HC.out.mono ?_
    rintro e w1 ⟨rfl, hb1⟩
    go_wp2_with fail
    go_ret
    exact ⟨by rw [HE.out]; rfl, (HO.out.trans hb1).below⟩
  · have HE := Lib.hid (show sameC c d = false by unfold sameC; simp [hl])
    have hlI : ((c.last : Int) == (d.last : Int)) = false := by simp; omega
    clear hl
    go_enter Try.func18, Try.ntmps18
    go_wp2_with fail
    go_ret
    exact ⟨by rw [HE.out]; rfl, HO.out.below⟩

theorem verInfo : (Try.prog.info? 35).map (fun i => (i.zero, i.size, i.bytes)) = some (some (.agg #[.int .u64 0, .int .u8 0, .string ⟨#[]⟩]), 3, 32) := by kernel_rfl
theorem vcells_len (l : List Cl.Ver) : ∀ x ∈ l.map vcells, x.length = 3 := by
  intro x hx; obtain ⟨v, _, rfl⟩ := List.mem_map.1 hx; rfl
theorem vcells_one (l : List Cl.Ver) : ∀ x ∈ l.map vcells, ∀ u ∈ x, u.oneCell' = true := by
  intro x hx u hu; obtain ⟨v, _, rfl⟩ := List.mem_map.1 hx
  simp only [vcells, List.mem_cons, List.not_mem_nil, or_false] at hu
  rcases hu with rfl | rfl | rfl <;> rfl
/-- Versions in memory that the call has made. -/
structure VFresh (w w' : World) (a : Option Addr) (cap : Nat) (l : List Cl.Ver) : Prop where
  is : SliceIs w' 35 3 a l.length cap (l.map vcells).flatten
  new : ∀ k ∈ blks a, w.heap.size ≤ k
  own : Own w.heap.size w w'
theorem VFresh.vers {w w' : World} {a : Option Addr} {cap : Nat} {l : List Cl.Ver} (h : VFresh w w' a cap l) : VersAt w' a l := h.is.rowF (vcells_len l) (by simp)
theorem SliceIs.nil_cap {w : World} {e : TypeId} {size : Nat} {n cap : Nat} {xs : List Value} (h : SliceIs w e size none n cap xs) : cap = 0 := by
  rcases h.2 with ⟨_, _, h⟩ | ⟨g, off, cur, h, _⟩
  · exact h
  · cases h
theorem VFresh.nil {w w' : World} {a : Option Addr} {cap : Nat} {l : List Cl.Ver} (h : VFresh w w' a cap l) : a = none → cap = 0 := fun e => by subst e; exact h.is.nil_cap
theorem VFresh.keep {w w' w2 : World} {a : Option Addr} {cap : Nat} {l : List Cl.Ver} (h : VFresh w w' a cap l) (hb : Below w'.heap.size w' w2) : VFresh w w2 a cap l :=
  ⟨h.is.keep fun k hk => hb.block k (h.is.lt k hk), h.new, h.own.trans hb⟩
theorem VFresh.sets {w W w1 w2 : World} {a : Option Addr} {cap : Nat} {l : List Cl.Ver} {F : List Nat} (h : VFresh W w1 a cap l) (hO : Own w.heap.size w W) (hu : Upd w1 w2 F) (hF : ∀ k ∈ F, w.heap.size ≤ k ∧ k < W.heap.size) : VFresh w w2 a cap l :=
  ⟨h.is.keep fun k hk => hu.keep k (h.is.lt k hk) (fun hf => by have := (hF k hf).2; have := h.new k hk; omega), fun k hk => Nat.le_trans hO.size (h.new k hk), (hO.trans h.own.below).upd hu fun k hk => (hF k hk).1⟩
theorem VFresh.up {w W w1 : World} {a : Option Addr} {cap : Nat} {l : List Cl.Ver} (h : VFresh W w1 a cap l) (hO : Own w.heap.size w W) : VFresh w w1 a cap l := h.sets hO (F := []) (Upd.refl _ _) (by simp)
/-- Versions appended to a slice of the call's own. -/
theorem vapp (w : World) (sa : Option Addr) (n cap0 : Nat) (xs0 : List Value) (hS : SliceIs w 35 3 sa n cap0 xs0) (a : Option Addr) (cap : Nat) (l : List Cl.Ver) (h : VersAt w a l) (hn : n + l.length ≤ 1073741824) (hnil : a = none → cap = 0) :
    ∃ s' cap' w', (appSem #[23, 23] 23 #[.slice sa n cap0, .slice a l.length cap]).run Try.prog w = .ok (.slice s' (n + l.length) cap') w' ∧
      SliceIs w' 35 3 s' (n + l.length) cap' (xs0 ++ (l.map vcells).flatten) ∧ Upd w w' (blks sa) ∧ (∀ k ∈ blks s', k ∈ blks sa ∨ w.heap.size ≤ k) := by
  obtain ⟨i0, hi, hz0, hz1, hz2⟩ := info_parts verInfo
  have := append_row (P := Try.prog) Try.underlying23 hi hz0 hz1 hz2 rfl (by decide) w sa n cap0 xs0 hS a cap (l.map vcells) h (vcells_len l) (vcells_one l) (by simpa using hn) (by decide) hnil
  rw [List.length_map] at this
  exact this
/-- A list of versions comes out that is the call's own. -/
def ListOut (w : World) (l : List Cl.Ver) (e : Ending) (w' : World) : Prop := ∃ a cap, e = .returned (.slice a l.length cap) ∧ VFresh w w' a cap l
set_option maxHeartbeats 1000000 in
theorem clone_any (w : World) (a : Option Addr) (cap : Nat) (l : List Cl.Ver) (h : VersAt w a l) (hn : l.length ≤ 1000) (hnil : a = none → cap = 0) :
    Calls Try.prog 34 #[.slice a l.length cap] w fun e w' => ListOut w l e w' := by
  cases a with
  | none =>
    obtain rfl := h.nil
    obtain rfl : cap = 0 := hnil rfl
    clear hn hnil h
    have heq := Lib.run_eql_slice_nil (P := Try.prog) w 23 35 none 0 0 0 0 Try.underlying23
    go_enter Try.func34, Try.ntmps34
    go_wp2_with fail
    go_ret
    exact ⟨none, 0, rfl, SliceIs.nil _ _ _, by simp, Own.refl _⟩
  | some ad =>
    have hO := (Own.refl w).alloc (.cells #[] 35 (0, 0))
    have hS : SliceIs (w.alloc (.cells #[] 35 (0, 0))) 35 3 (some ⟨w.heap.size, 0, none⟩) 0 0 [] := SliceIs.new w _ 3 0 [] rfl (by decide)
    obtain ⟨s', cap', w', hr, hs, hu, hk⟩ := vapp _ _ 0 0 [] hS (some ad) cap l (h.keep hO.below) (by omega) (by simp)
    rw [Nat.zero_add] at hr hs
    have HF : Hid (VFresh w w' s' cap' l) := Lib.hid ⟨hs, fun k hk' => by
      rcases hk k hk' with h | h
      · simp at h; omega
      · exact Nat.le_trans hO.size h, hO.upd hu (by simp)⟩
    clear hs hu hk hS hO h hn
    have heq := Lib.run_eql_slice_nil (P := Try.prog) w 23 35 (some ad) l.length cap 0 0 Try.underlying23
    go_enter Try.func34, Try.ntmps34
    go_wp2_with fail
    go_ret
    exact ⟨s', cap', rfl, HF.out⟩

def KeptOut (w : World) (c : Cl.Cel) (e : Ending) (w' : World) : Prop := ∃ a cap, e = .returned (.agg #[.int .u64 c.last, .slice a c.l.length cap]) ∧ VFresh w w' a cap c.l
set_option maxHeartbeats 1000000 in
theorem kept_any (w : World) (c : Cl.Cel) (a : Option Addr) (cap : Nat) (h : VersAt w a c.l) (hn : c.l.length ≤ 1000) (hnil : a = none → cap = 0) :
    Calls Try.prog 29 #[.agg #[.int .u64 c.last, .slice a c.l.length cap]] w fun e w' => KeptOut w c e w' := by
  have hO := ((Own.refl w).alloc (.cells #[.int .u64 c.last, .slice a c.l.length cap] 25 (0, 0))).alloc (.cells #[.int .u64 0, .slice none 0 0] 25 (0, 0))
  have HC := Lib.hid (clone_any _ a cap c.l (h.keep hO.below) hn hnil)
  have hb0 := (heap_alloc_new w (.cells #[.int .u64 c.last, .slice a c.l.length cap] 25 (0, 0)))
  have HB0 := Lib.hid ((Below.heap_alloc _ (.cells #[.int .u64 0, .slice none 0 0] 25 (0, 0)) _ (blk_lt hb0)).trans hb0)
  have HB1 := Lib.hid (heap_alloc_new (w.alloc (.cells #[.int .u64 c.last, .slice a c.l.length cap] 25 (0, 0))) (.cells #[.int .u64 0, .slice none 0 0] 25 (0, 0)))
  have HO := Lib.hid hO
  clear h hO hb0
  go_enter Try.func29, Try.ntmps29
  go_wp2_with fail
  refine HC.out.mono ?_
  rintro e w1 ⟨a', cap', rfl, hf⟩
  have hb1 := (hf.own.below.block _ (blk_lt HB0.out)).trans HB0.out
  have hb2 := (hf.own.below.block _ (blk_lt HB1.out)).trans HB1.out
  rw [World.size_alloc] at hb2
  obtain ⟨k0, k1⟩ := cell_cells hb1
  obtain ⟨r0, r1⟩ := cell_cells hb2
  have f1 := frozen_of_row w1 w.heap.size 1 _ _ hb1
  have f2 := frozen_of_row w1 (w.heap.size + 1) 0 _ _ hb2
  have f3 := frozen_of_row w1 (w.heap.size + 1) 1 _ _ hb2
  have l1 := blk_lt hb1
  have l2 := blk_lt hb2
  have HF := Lib.hid hf
  clear hb1 hb2 hf HC
  go_wp2_with fail
  refine bodyPost_ret (v := .agg #[.int .u64 c.last, .slice a' c.l.length cap']) (by simp [results, Try.results29, go_sem, k0, k1, r0, r1, f1, f2, f3, l1, l2]) rfl ⟨a', cap', rfl, ?_⟩
  exact HF.out.sets HO.out (F := [w.heap.size, w.heap.size + 1]) ((((Upd.refl _ _).setCell (.inl (by simp)) _).setCell (.inl (by simp)) _).setCell (.inl (by simp)) _) (by simp; omega)

end Go.Proofs.Ytllepgdebjfbdaa
