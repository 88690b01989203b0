/-
  THE WALKS: the sort of nothing; slices.Index, Contains, Clone at locks; New, none.
-/
import Derived.Test.YtjanjjkgnilhoaaGreatDoorLkSort
import Derived.Test.YtjanjjkgnilhoaaGreatDoorLkConf2
import Derived.Test.YtjanjjkgnilhoaaGreatDoorLists
namespace Go.Proofs.YtjanjjkgnilhoaaGreatDoor
open Go.RowKit

theorem ins_none (fv : Value) (w : World) : Calls Tryz.prog 65 #[.slice none 0 0, .int .i64 0, .int .i64 0, fv] w fun e w' => e = .returned (.tuple #[]) ∧ w' = w := by
  go_enter Tryz.func65, Tryz.ntmps65
  go_wp2_with fail
  refine wp_loop_rounds 1 ?_
  rw [rounds_succ]
  go_wp2_with fail
  go_end0
  exact ⟨rfl, rfl⟩
set_option maxRecDepth 20000 in
set_option maxHeartbeats 2000000 in
theorem pdq_none (lim : Int) (fv : Value) (w : World) : Calls Tryz.prog 51 #[.slice none 0 0, .int .i64 0, .int .i64 0, .int .i64 lim, fv] w fun e w' => e = .returned (.tuple #[]) ∧ w' = w := by
  have HI := Lib.hid (fun wz => ins_none fv wz)
  go_enter Tryz.func51, Tryz.ntmps51
  go_wp2_with fail
  refine wp_loop_rounds 1 ?_
  rw [rounds_succ]
  go_wp2_with fail
  refine (HI.out _).mono ?_
  rintro e w1 ⟨rfl, rfl⟩
  go_wp2_with fail
  (try simp only [Exit.inBlock, Exit.then]); refine bodyPost_ret (results_none rfl _ _ _) rfl ?_
  exact ⟨rfl, rfl⟩
theorem sort_none (fv : Value) (w : World) : Calls Tryz.prog 37 #[.slice none 0 0, fv] w fun e w' => e = .returned (.tuple #[]) ∧ w' = w := by
  have HP := Lib.hid (fun lim wz => pdq_none lim fv wz)
  have HL := Lib.hid (fun wz => Tryz.bits_Len 0 wz (by omega) (by omega))
  go_enter Tryz.func37, Tryz.ntmps37
  go_wp2_with fail
  refine (HL.out _).mono ?_
  rintro e w1 ⟨rfl, rfl⟩
  go_wp2_with fail
  refine (HP.out _ _).mono ?_
  rintro e w1 ⟨rfl, rfl⟩
  go_wp2_with fail
  go_end0
  exact ⟨rfl, rfl⟩

theorem lock_eq (x y : LV) : decide (x = y) = ((((x.kind : Int) == y.kind) && (x.p.toList == y.p.toList)) && ((x.frm : Int) == y.frm) && ((x.top : Int) == y.top)) := by
  obtain ⟨k, p, f, t⟩ := x
  obtain ⟨k', p', f', t'⟩ := y
  have hp : p.toList = p'.toList ↔ p = p' := by
    constructor
    · intro h
      have h1 : L p = L p' := by unfold L; rw [← ByteArray.toList_eq, ← ByteArray.toList_eq]; exact h
      obtain ⟨d⟩ := p
      obtain ⟨d'⟩ := p'
      have : d = d' := Array.toList_inj.1 h1
      rw [this]
    · rintro rfl; rfl
  rw [Bool.eq_iff_iff]
  simp only [LV.mk.injEq, decide_eq_true_eq, Bool.and_eq_true, beq_iff_eq, hp]
  constructor
  · rintro ⟨h1, h2, h3, h4⟩; exact ⟨⟨⟨by omega, h2⟩, by omega⟩, by omega⟩
  · rintro ⟨⟨⟨h1, h2⟩, h3⟩, h4⟩; exact ⟨by omega, h2, by omega, by omega⟩
/-- '==' of two locks. -/
theorem run_eqL (x y : LV) (W : World) : (binOp .eql 25 x.val y.val).run Tryz.prog W = .ok (.bool (decide (x = y))) W := by
  rw [lock_eq]
  go_simp
  by_cases h1 : (x.kind : Int) = y.kind <;> by_cases h2 : x.p.toList = y.p.toList <;> by_cases h3 : (x.frm : Int) = y.frm <;> by_cases h4 : (x.top : Int) = y.top <;> simp [h1, h2, h3, h4]
def hasL (l : List LV) (y : LV) : Bool := decide (y ∈ l)

set_option maxRecDepth 20000 in
set_option maxHeartbeats 1000000 in
theorem index_lock (y : LV) (a : Option Addr) (cap : Nat) (l : List LV) (w : World) (hr : RowIs w 4 a (l.map LV.cells)) (hl : l.length ≤ 10000) :
    Calls Tryz.prog 42 #[.slice a l.length cap, y.val] w fun e w' => (∃ r : Int, e = .returned (.int .i64 r) ∧ Hid (0 ≤ r ↔ y ∈ l)) ∧ Below w.heap.size w w' := by
  have HR := Lib.hid hr
  have hlI : (0 : Int) ≤ l.length ∧ (l.length : Int) ≤ 10000 := by omega
  have HO := Lib.hid ((Own.refl w).alloc (.cells #[.int .u8 y.kind, .string y.p, .int .u64 y.frm, .int .u64 y.top] 25 (0, 0)))
  have HY := Lib.hid (heap_alloc_new w (.cells #[.int .u8 y.kind, .string y.p, .int .u64 y.frm, .int .u64 y.top] 25 (0, 0)))
  clear hr hl
  go_enter Tryz.func42, Tryz.ntmps42
  go_wp2_with fail
  go_loopw [8] (fun vi wr => ∃ i : Nat, i ≤ l.length ∧ vi = .int .i64 i ∧ (∀ k (h : k < l.length), k < i → l[k] ≠ y) ∧ Own w.heap.size w wr ∧ wr.heap[w.heap.size]? = some (.cells #[.int .u8 y.kind, .string y.p, .int .u64 y.frm, .int .u64 y.top] 25 (0, 0))) (fun vi _ => l.length - (intOf vi).toNat)
  case atStart => exact ⟨0, Nat.zero_le _, rfl, fun k _ h => by omega, HO.out, HY.out⟩
  case round =>
    clear HO HY
    obtain ⟨i, hi, rfl, hk, hO, hy⟩ := hrel
    have HO := Lib.hid hO
    have HK := Lib.hid hk
    have HY := Lib.hid hy
    clear hO hk hy
    by_cases hlt : i < l.length
    · obtain ⟨g, off, rfl, hc⟩ := HR.out.keep HO.out.below i (by simpa using hlt)
      have hiI : (0 : Int) ≤ i ∧ (i : Int) < l.length := by omega
      have HT := Lib.hid hlt
      obtain ⟨t, ht⟩ : ∃ t, t = l[i]'hlt := ⟨_, rfl⟩
      have HTT : Hid (t = l[i]'hlt) := Lib.hid ht
      have hce : (l.map LV.cells)[i]'(by simpa using hlt) = LV.cells t := by rw [List.getElem_map, ht]
      rw [hce] at hc
      have c0 : wr.cell? ⟨g, off + i * 4, none⟩ = some (.int .u8 t.kind) := hc.cell 0 (by simp [LV.cells])
      have c1 : wr.cell? ⟨g, off + i * 4 + 1, none⟩ = some (.string t.p) := hc.cell 1 (by simp [LV.cells])
      have c2 : wr.cell? ⟨g, off + i * 4 + 2, none⟩ = some (.int .u64 t.frm) := hc.cell 2 (by simp [LV.cells])
      have c3 : wr.cell? ⟨g, off + i * 4 + 3, none⟩ = some (.int .u64 t.top) := hc.cell 3 (by simp [LV.cells])
      obtain ⟨d0, d1, d2, d3⟩ := lock_box HY.out
      clear hce hc ht
      have hD : y = t ∨ (y ≠ t ∧ (¬ (y.kind : Int) = t.kind ∨ ((y.kind : Int) = t.kind ∧ ¬ y.p.toList = t.p.toList) ∨ ((y.kind : Int) = t.kind ∧ y.p.toList = t.p.toList ∧ ¬ (y.frm : Int) = t.frm) ∨ ((y.kind : Int) = t.kind ∧ y.p.toList = t.p.toList ∧ (y.frm : Int) = t.frm ∧ ¬ (y.top : Int) = t.top))) := by
        have h := lock_eq y t
        by_cases h1 : (y.kind : Int) = t.kind <;> by_cases h2 : y.p.toList = t.p.toList <;> by_cases h3 : (y.frm : Int) = t.frm <;> by_cases h4 : (y.top : Int) = t.top <;> simp [h1, h2, h3, h4] at h ⊢ <;> first | exact h | exact Classical.em _
      rcases hD with e | ⟨hne, hD⟩
      · subst e
        go_wp2_with fail
        go_region
        clear c0 c1 c2 c3 d0 d1 d2 d3
        go_wp2_with fail
        go_ret
        refine ⟨⟨i, rfl, Lib.hid ?_⟩, HO.out.drew.below⟩
        refine ⟨fun _ => ?_, fun _ => by omega⟩
        rw [HTT.out]
        exact List.getElem_mem _
      · have HNE := Lib.hid hne
        clear hne
        rcases hD with h1 | ⟨h1, h2⟩ | ⟨h1, h2, h3⟩ | ⟨h1, h2, h3, h4⟩
        all_goals
          go_wp2_with fail
          go_region
          clear c0 c1 c2 c3 d0 d1 d2 d3
          go_wp2_with fail
          go_roundw
          case rel =>
            refine ⟨i + 1, by omega, by go_num, fun k h hk => ?_, HO.out.drew, HY.out⟩
            by_cases e : k = i
            · subst e; rw [← HTT.out]; exact fun e => HNE.out e.symm
            · exact HK.out k h (by omega)
          case measure => simp [intOf]; omega
    · obtain rfl : i = l.length := by omega
      go_wp2_with fail
      go_ret
      refine ⟨⟨-1, rfl, Lib.hid ?_⟩, HO.out.below⟩
      refine ⟨fun h => by omega, fun h => ?_⟩
      obtain ⟨k, hk, e⟩ := List.getElem_of_mem h
      exact absurd e (HK.out k hk hk)
theorem has_lock (y : LV) (a : Option Addr) (cap : Nat) (l : List LV) (w : World) (hr : RowIs w 4 a (l.map LV.cells)) (hl : l.length ≤ 10000) :
    Calls Tryz.prog 27 #[.slice a l.length cap, y.val] w fun e w' => e = .returned (.bool (hasL l y)) ∧ Below w.heap.size w w' := by
  have HO := Lib.hid ((Own.refl w).alloc (.cells #[.int .u8 y.kind, .string y.p, .int .u64 y.frm, .int .u64 y.top] 25 (0, 0)))
  have HC := Lib.hid (fun wz (hb : Below w.heap.size w wz) => index_lock y a cap l wz (hr.keep hb) hl)
  have HR : Hid (hasL l y = decide (y ∈ l)) := Lib.hid rfl
  generalize hasL l y = b at *
  clear hr hl
  go_enter Tryz.func27, Tryz.ntmps27
  go_wp2_with fail
  refine (HC.out _ HO.out.below).mono ?_
  rintro e w1 ⟨⟨r, rfl, hr⟩, hb⟩
  have HRR := hr
  have HB := Lib.hid (HO.out.trans hb)
  clear hr hb
  go_wp2_with fail
  go_ret
  refine ⟨?_, HB.out.below⟩
  have e : decide (0 ≤ r) = b := by rw [HR.out, Bool.eq_iff_iff, decide_eq_true_eq, decide_eq_true_eq]; exact HRR.out
  rw [← e]; simp [go_sem]

theorem lkInfo : (Tryz.prog.info? 25).map (fun i => (i.zero, i.size, i.bytes)) = some (some (.agg #[.int .u8 0, .string ⟨#[]⟩, .int .u64 0, .int .u64 0]), 4, 40) := by kernel_rfl
theorem lk_info : ∃ i, Tryz.prog.info? 25 = some i ∧ i.zero = some (.agg #[.int .u8 0, .string ⟨#[]⟩, .int .u64 0, .int .u64 0]) ∧ i.size = 4 ∧ i.bytes = 40 := by
  have h := lkInfo
  cases hi : Tryz.prog.info? 25 with
  | none => rw [hi] at h; cases h
  | some i =>
    rw [hi] at h
    simp only [Option.map_some, Option.some.injEq, Prod.mk.injEq] at h
    exact ⟨i, rfl, h.1, h.2.1, h.2.2⟩
theorem SliceIs.rowL {W : World} {a : Option Addr} {cap : Nat} {l : List LV} (h : SliceIs W 25 4 a l.length cap (lflat l)) : RowIs W 4 a (l.map LV.cells) := SliceIs.rowF h (lcells_len l) (by simp)
attribute [local go_sem ↓ high] appSem_eq
theorem eq_nilL (w : World) : (binOp .eql 36 (.slice none 0 0) (.slice none 0 0)).run Tryz.prog w = .ok (.bool true) w := by kernel_rfl
theorem eq_someL (a : Addr) (n c : Nat) (w : World) : (binOp .eql 36 (.slice (some a) n c) (.slice none 0 0)).run Tryz.prog w = .ok (.bool false) w := by kernel_rfl
theorem eq_someM (b : Nat) (w : World) : (binOp .eql 55 (.map (some b)) (.map none)).run Tryz.prog w = .ok (.bool false) w := by kernel_rfl
set_option maxRecDepth 20000 in
set_option maxHeartbeats 1000000 in
/-- slices.Clone of a row of locks. -/
theorem clone_lock (a : Option Addr) (cap : Nat) (l : List LV) (w : World) (hs : SliceIs w 25 4 a l.length cap (lflat l)) (hl : l.length ≤ 10000) :
    Calls Tryz.prog 26 #[.slice a l.length cap] w fun e w' => (∃ a' cap', e = .returned (.slice a' l.length cap') ∧ SliceIs w' 25 4 a' l.length cap' (lflat l) ∧ (∀ k ∈ blks a', w.heap.size ≤ k)) ∧ Own w.heap.size w w' := by
  rcases hs.2 with ⟨rfl, h0, rfl⟩ | ⟨g, off, cur, rfl, hg⟩
  · have hl0 : l = [] := List.length_eq_zero_iff.1 h0
    subst hl0
    have HS := Lib.hid hs
    have hnl := eq_nilL w
    clear hs h0 hl
    go_enter Tryz.func26, Tryz.ntmps26
    go_wp2_with fail
    go_ret
    exact ⟨⟨none, 0, rfl, HS.out, by simp⟩, Own.refl w⟩
  · obtain ⟨i, hi, hz, hsize, hby⟩ := lk_info
    have hrow := SliceIs.rowL hs
    have hnil : SliceIs (w.alloc (.cells #[] 25 (0, 0))) 25 4 (some ⟨w.heap.size, 0, none⟩) 0 0 [] := SliceIs.new w 25 4 0 [] rfl (by decide)
    obtain ⟨s', cap', w', hrun, hS, hU, hB⟩ := append_row (T := 36) Tryz.underlying36 hi hz hsize hby rfl (by decide) (w.alloc (.cells #[] 25 (0, 0))) (some ⟨w.heap.size, 0, none⟩) 0 0 [] hnil (some ⟨g, off, none⟩) cap (l.map LV.cells) (hrow.keep ((Below.refl _ w).alloc (Nat.le_refl _) _)) (lcells_len l) (lcells_one l) (by simp; omega) (by decide) (by simp)
    rw [List.length_map, Nat.zero_add] at hrun hS
    have HS := Lib.hid hS
    have HB : Hid (∀ k ∈ blks s', w.heap.size ≤ k) := Lib.hid (fun k hk => by
      rcases hB k hk with h | h
      · simp at h; omega
      · simp at h; omega)
    have HO := Lib.hid (((Own.refl w).alloc (.cells #[] 25 (0, 0))).upd hU (by simp))
    have hsl := eq_someL ⟨g, off, none⟩ l.length cap w
    clear hs hrow hnil hS hB hU hg hl
    go_enter Tryz.func26, Tryz.ntmps26
    go_wp2_with fail
    go_ret
    exact ⟨⟨s', cap', rfl, by simpa [lflat] using HS.out, HB.out⟩, HO.out⟩

set_option maxRecDepth 20000 in
set_option maxHeartbeats 1000000 in
/-- New. -/
theorem new_any (w : World) : Calls Tryz.prog 6 #[] w fun e w' => (e = .returned (.pointer (some ⟨w.heap.size + 1, 0, none⟩)) ∧ LkAt w' (w.heap.size + 1) w.heap.size [] 0) ∧ Own w.heap.size w w' := by
  have hmm := @run_makeMap Tryz.prog
  have HO := Lib.hid (((Own.refl w).alloc (.map #[] 0)).alloc (.cells #[.map (some w.heap.size), .int .i64 0] 57 (0, 0)))
  have HL : Hid (LkAt ((w.alloc (.map #[] 0)).alloc (.cells #[.map (some w.heap.size), .int .i64 0] 57 (0, 0))) (w.heap.size + 1) w.heap.size [] 0) := Lib.hid (by
    have h1 := heap_alloc_new (w.alloc (.map #[] 0)) (.cells #[.map (some w.heap.size), .int .i64 0] 57 (0, 0))
    rw [World.size_alloc] at h1
    refine ⟨h1, ⟨.map [], (World.ownsMap_made w _ _ _).alloc _, Go.Maps.isMap_empty, ⟨fun kl hk => (by simp [Go.Maps.has] at hk), fun t _ h => absurd rfl h, fun t _ => ⟨none, 0, rfl, SliceIs.nil _ _ _⟩⟩⟩, by simp, by simp⟩)
  go_enter Tryz.func6, Tryz.ntmps6
  go_wp2_with fail
  go_ret
  exact ⟨⟨rfl, HL.out⟩, HO.out⟩
set_option maxRecDepth 20000 in
set_option maxHeartbeats 1000000 in
theorem none_any {W : World} {q b n : Nat} {X : Lh.St} (h : LkAt W q b X n) : Calls Tryz.prog 22 #[.pointer (some ⟨q, 0, none⟩)] W fun e w' => e = .returned (.bool false) ∧ w' = W := by
  have c0 : W.cell? ⟨q, 0, none⟩ = some (.map (some b)) := by rw [cell_of_row _ _ _ _ _ _ h.box]; rfl
  have hsm := eq_someM b W
  clear h
  go_enter Tryz.func22, Tryz.ntmps22
  go_wp2_with fail
  go_ret
  exact ⟨rfl, rfl⟩
set_option maxRecDepth 20000 in
set_option maxHeartbeats 1000000 in
theorem none_nil (W : World) : Calls Tryz.prog 22 #[.pointer none] W fun e w' => e = .returned (.bool true) ∧ w' = W := by
  go_enter Tryz.func22, Tryz.ntmps22
  go_wp2_with fail
  go_ret
  exact ⟨rfl, rfl⟩

end Go.Proofs.YtjanjjkgnilhoaaGreatDoor
