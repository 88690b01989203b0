/-
  THE WALKS of package cell: Now, Size; Clone, Equal, Same.
-/
import Derived.Test.YtllepgdebjfbdaaCellWalks
import Derived.Test.YtllepgdebjfbdaaFlat
namespace Go.Proofs.Ytllepgdebjfbdaa
open Go.RowKit

namespace Cl
def lastV (c : Cel) : Ver := match c.l.getLast? with | some v => v | none => ver0
theorem now_last (c : Cel) : now c = if (lastV c).st = 1 then (lastV c).n else 0 := by
  unfold now lastV
  cases c.l.getLast? <;> rfl
end Cl
theorem VersAt.nil {w : World} {l : List Cl.Ver} (h : VersAt w none l) : l = [] := by
  cases l with
  | nil => rfl
  | cons v r => obtain ⟨g, off, e, _⟩ := h 0 (by simp); cases e

set_option maxHeartbeats 1000000 in
theorem now1_any (w : World) (b : Nat) (c : Cl.Cel) (a : Option Addr) (cap : Nat) (hb : w.heap[b]? = some (.cells #[.int .u64 c.last, .slice a c.l.length cap] 25 (0, 0))) (h : VersAt w a c.l) (hn : c.l.length ≤ 1000) :
    Calls Try.prog 27 #[.pointer (some ⟨b, 0, none⟩)] w fun e w' => e = .returned (.agg #[.int .u64 (Cl.lastV c).n, .int .u8 (Cl.lastV c).st, .string (Cl.lastV c).t]) ∧ Below w.heap.size w w' := by
  obtain ⟨k0, k1⟩ := cell_cells hb
  have hlt := blk_lt hb
  have hnI : (0 : Int) ≤ c.l.length ∧ (c.l.length : Int) ≤ 1000 := by omega
  rcases List.eq_nil_or_concat c.l with e | ⟨r, v, e⟩
  · have hl : Cl.lastV c = Cl.ver0 := by unfold Cl.lastV; rw [e]; rfl
    have h0 : (c.l.length : Int) = 0 := by rw [e]; rfl
    have HL := Lib.hid hl
    clear e hb hl h hn
    go_enter Try.func27, Try.ntmps27
    go_wp2_with fail
    refine bodyPost_ret (v := .agg #[.int .u64 0, .int .u8 0, .string ⟨#[]⟩]) (by simp [results, Try.results27, go_sem]) rfl ⟨by rw [HL.out]; rfl, ((Own.refl w).alloc _).below⟩
  · have hl : Cl.lastV c = v := by unfold Cl.lastV; rw [e]; simp
    have hlen : c.l.length = r.length + 1 := by rw [e]; simp
    obtain ⟨g, off, rfl, q0, q1, q2, hgl⟩ := h.at r.length (by omega)
    have hv : c.l[r.length]'(by omega) = v := by simp [e]
    rw [hv] at q0 q1 q2
    have hI : (c.l.length : Int) - 1 = r.length := by omega
    have h0 : (0 : Int) < c.l.length := by omega
    have h1 : (r.length : Int) < c.l.length := by omega
    have HL := Lib.hid hl
    clear e hb hl h hn hlen hv
    go_enter Try.func27, Try.ntmps27
    go_wp2_with fail
    refine bodyPost_ret (v := .agg #[.int .u64 v.n, .int .u8 v.st, .string v.t]) (by simp [results, Try.results27, go_sem]) rfl ⟨by rw [HL.out], ((Own.refl w).alloc _).below⟩

set_option maxHeartbeats 1000000 in
theorem now_any (w : World) (c : Cl.Cel) (a : Option Addr) (cap : Nat) (h : VersAt w a c.l) (hn : c.l.length ≤ 1000) :
    Calls Try.prog 14 #[.agg #[.int .u64 c.last, .slice a c.l.length cap]] w fun e w' => e = .returned (.int .u64 (Cl.now c)) ∧ Below w.heap.size w w' := by
  have hO := (Own.refl w).alloc (.cells #[.int .u64 c.last, .slice a c.l.length cap] 25 (0, 0))
  have hw : w.heap.size < (w.alloc (.cells #[.int .u64 c.last, .slice a c.l.length cap] 25 (0, 0))).heap.size := by simp
  have hc := now1_any _ _ c a cap (heap_alloc_new w (.cells #[.int .u64 c.last, .slice a c.l.length cap] 25 (0, 0))) (h.keep hO.below) hn
  have HC := Lib.hid hc
  have HO := Lib.hid hO
  have HN := Lib.hid (Cl.now_last c)
  clear hc hO h hn hw
  generalize Cl.lastV c = v at HC HN
  go_enter Try.func14, Try.ntmps14
  go_wp2_with fail
  refine HC.out.mono ?_
  rintro e w1 ⟨rfl, hb1⟩
  have HO1 := Lib.hid (HO.out.trans hb1)
  clear hb1
  by_cases h1 : v.st = 1
  · have h1I : (v.st : Int) = 1 := by omega
    have HE := Lib.hid (show Cl.now c = v.n by rw [HN.out, if_pos h1])
    clear h1
    go_wp2_with fail
    go_ret
    exact ⟨by rw [HE.out]; rfl, (HO1.out.alloc _).below⟩
  · have h1I : ¬ ((v.st : Int) = 1) := by omega
    have HE := Lib.hid (show Cl.now c = 0 by rw [HN.out, if_neg h1])
    clear h1
    go_wp2_with fail
    go_ret
    exact ⟨by rw [HE.out]; rfl, (HO1.out.alloc _).below⟩

theorem sum_take (l : List Cl.Ver) (i : Nat) (h : i < l.length) : ((l.take (i + 1)).map fun v => v.t.size).sum = ((l.take i).map fun v => v.t.size).sum + l[i].t.size := by
  rw [List.take_succ_eq_append_getElem h, List.map_append, List.sum_append]; simp
theorem sum_bound : ∀ (l : List Cl.Ver) (_ : ∀ v ∈ l, okV v), (l.map fun v => v.t.size).sum ≤ l.length * 140737488351232
  | [], _ => by simp
  | v :: r, h => by
    have := sum_bound r (fun x hx => h x (by simp [hx]))
    have h1 := (h v (by simp)).2.2
    simp only [List.map_cons, List.sum_cons, List.length_cons, Nat.succ_mul]; omega
set_option maxHeartbeats 1000000 in
theorem size_any (w : World) (c : Cl.Cel) (a : Option Addr) (cap : Nat) (h : VersAt w a c.l) (ok : ∀ v ∈ c.l, okV v) (hn : c.l.length ≤ 1000) :
    Calls Try.prog 16 #[.agg #[.int .u64 c.last, .slice a c.l.length cap]] w fun e w' => e = .returned (.int .i64 (Cl.size c)) ∧ Below w.heap.size w w' := by
  have hnI : (0 : Int) ≤ c.l.length ∧ (c.l.length : Int) ≤ 1000 := by omega
  have hs : ∀ i, i ≤ c.l.length → ((c.l.take i).map fun v => v.t.size).sum ≤ 140737488351232000 := fun i hi => by
    have := sum_bound (c.l.take i) (fun v hv => ok v (List.mem_of_mem_take hv))
    have h2 : (c.l.take i).length ≤ 1000 := by simp; omega
    have := Nat.mul_le_mul_right 140737488351232 h2
    omega
  have H := Lib.hid h
  have HS := Lib.hid hs
  have HOK := Lib.hid ok
  have HO := Lib.hid ((Own.refl w).alloc (.cells #[.int .u64 c.last, .slice a c.l.length cap] 25 (0, 0)))
  clear h ok hn hs
  go_enter Try.func16, Try.ntmps16
  go_wp2_with fail
  go_loopw [2, 8] (fun vx vi wr => ∃ i x : Nat, i ≤ c.l.length ∧ vi = .int .i64 i ∧ vx = .int .i64 x ∧ x = ((c.l.take i).map fun v => v.t.size).sum ∧ Own w.heap.size w wr)
    (fun _ vi _ => c.l.length - (intOf vi).toNat)
  case atStart => exact ⟨0, 0, Nat.zero_le _, rfl, rfl, by simp, HO.out⟩
  case round =>
    clear HO
    obtain ⟨i, x, hi, rfl, rfl, hx, hO⟩ := hrel
    have HO := Lib.hid hO
    by_cases hlt : i < c.l.length
    · have hiI : (0 : Int) ≤ i ∧ (i : Int) < c.l.length := by omega
      obtain ⟨g, off, rfl, k0, k1, k2, _⟩ := (H.out.keep hO.below).at i hlt
      have hx2 := HS.out (i + 1) (by omega)
      have hst := sum_take c.l i hlt
      rw [← hx] at hst
      rw [hst] at hx2
      have HX := Lib.hid hst
      have hxI : (0 : Int) ≤ x ∧ (0 : Int) ≤ c.l[i].t.size ∧ (x : Int) + c.l[i].t.size ≤ 140737488351232000 := by omega
      clear hO hx hst hx2
      generalize c.l[i] = v at *
      go_wp2_with fail
      go_roundw
      case rel => exact ⟨i + 1, x + v.t.size, by omega, rfl, rfl, HX.out.symm, HO.out.alloc _⟩
      case measure => simp only [intOf]; omega
    · have hiI : (i : Int) = c.l.length := by omega
      have HX := Lib.hid (show Cl.size c = x by unfold Cl.size; rw [hx, List.take_of_length_le (by omega)])
      clear hx hO
      go_wp2_with fail
      go_ret
      exact ⟨by rw [HX.out]; rfl, HO.out.below⟩

open Classical in
/-- Are two lists of versions the same? -/
noncomputable def sameL (l m : List Cl.Ver) : Bool := decide (l = m)
set_option maxRecDepth 20000 in
set_option maxHeartbeats 1000000 in
theorem equal_any (w : World) (a a' : Option Addr) (cap cap' : Nat) (l m : List Cl.Ver) (h : VersAt w a l) (h' : VersAt w a' m) (hn : l.length ≤ 1000) (hm : m.length ≤ 1000) :
    Calls Try.prog 28 #[.slice a l.length cap, .slice a' m.length cap'] w fun e w' => e = .returned (.bool (sameL l m)) ∧ Below w.heap.size w w' := by
  by_cases hl : l.length = m.length
  · have hnI : (0 : Int) ≤ l.length ∧ (l.length : Int) ≤ 1000 := by omega
    rw [← hl]
    have H := Lib.hid h
    have H' := Lib.hid h'
    have HL := Lib.hid hl
    clear h h' hl hn hm
    go_enter Try.func28, Try.ntmps28
    go_wp2_with fail
    go_loopw [13] (fun vi wr => ∃ (i k : Nat), i ≤ l.length ∧ vi = .int .i64 i ∧ wr = w.drewN k ∧ l.take i = m.take i) (fun vi _ => l.length - (intOf vi).toNat)
    case atStart => exact ⟨0, 0, Nat.zero_le _, rfl, rfl, rfl⟩
    case round =>
      obtain ⟨i, m0, hi, rfl, rfl, ht⟩ := hrel
      have HT := Lib.hid ht
      clear ht
      by_cases hlt : i < l.length
      · have hlt' : i < m.length := by have := HL.out; omega
        have hI : (0 : Int) ≤ i ∧ (i : Int) < l.length := by omega
        obtain ⟨g, off, rfl, p0, p1, p2, hgl⟩ := H.out.at i hlt
        obtain ⟨g', off', rfl, q0, q1, q2, hgl'⟩ := H'.out.at i hlt'
        by_cases he : l[i] = m[i]
        · have HT2 := Lib.hid (show l.take (i + 1) = m.take (i + 1) by rw [List.take_succ_eq_append_getElem hlt, List.take_succ_eq_append_getElem hlt', HT.out, he])
          rw [← he] at q0 q1 q2
          clear he hlt'
          generalize l[i] = v at *
          go_wp2_with fail
          refine wp_region_quiet_lit (by kernel_rfl) (by kernel_rfl) ?_
          repeat (quiet_step (fail))
          refine wpQuiet_nil ?_
          intro _ hw'
          obtain ⟨nq, hw''⟩ := hw'
          subst hw''
          rw [World.drewN_drewN]
          go_wp2
          go_roundw
          case rel => exact ⟨i + 1, _, by omega, rfl, rfl, HT2.out⟩
          case measure => simp [intOf]; omega
        · have HF := Lib.hid (show sameL l m = false by
            unfold sameL
            simp only [decide_eq_false_iff_not]
            intro e; subst e; exact he rfl)
          generalize l[i] = v at *
          generalize m[i] = u at *
          have h3 : v.n ≠ u.n ∨ (u.n = v.n ∧ v.st ≠ u.st) ∨ (u.n = v.n ∧ u.st = v.st ∧ v.t ≠ u.t) := by
            obtain ⟨a1, a2, a3⟩ := v
            obtain ⟨b1, b2, b3⟩ := u
            by_cases x1 : a1 = b1
            · by_cases x2 : a2 = b2
              · by_cases x3 : a3 = b3
                · exact absurd (by rw [x1, x2, x3]) he
                · exact .inr (.inr ⟨x1.symm, x2.symm, x3⟩)
              · exact .inr (.inl ⟨x1.symm, x2⟩)
            · exact .inl x1
          clear he
          rcases h3 with h3 | ⟨h4, h3⟩ | ⟨h4, h5, h3⟩
          · have e1 : ((v.n : Int) == (u.n : Int)) = false := by simp; omega
            clear h3
            go_wp2_with fail
            refine wp_region_quiet_lit (by kernel_rfl) (by kernel_rfl) ?_
            repeat (quiet_step (fail))
            refine wpQuiet_nil ?_
            intro _ hw'
            obtain ⟨nq, hw''⟩ := hw'
            subst hw''
            go_wp2
            go_ret
            exact ⟨by rw [HF.out]; rfl, ⟨rfl, rfl, rfl, Nat.le_refl _, fun _ _ => rfl⟩⟩
          · rw [h4] at q0
            have e1 : ((v.st : Int) == (u.st : Int)) = false := by simp; omega
            clear h3 h4
            go_wp2_with fail
            refine wp_region_quiet_lit (by kernel_rfl) (by kernel_rfl) ?_
            repeat (quiet_step (fail))
            refine wpQuiet_nil ?_
            intro _ hw'
            obtain ⟨nq, hw''⟩ := hw'
            subst hw''
            go_wp2
            go_ret
            exact ⟨by rw [HF.out]; rfl, ⟨rfl, rfl, rfl, Nat.le_refl _, fun _ _ => rfl⟩⟩
          · rw [h4] at q0
            rw [h5] at q1
            have e1 : (v.t.toList == u.t.toList) = false := by simp [ByteArray.toList_eq]; intro h; exact h3 (by cases hv : v.t; cases hu : u.t; simp_all)
            clear h3 h4 h5
            go_wp2_with fail
            refine wp_region_quiet_lit (by kernel_rfl) (by kernel_rfl) ?_
            repeat (quiet_step (fail))
            refine wpQuiet_nil ?_
            intro _ hw'
            obtain ⟨nq, hw''⟩ := hw'
            subst hw''
            go_wp2
            go_ret
            exact ⟨by rw [HF.out]; rfl, ⟨rfl, rfl, rfl, Nat.le_refl _, fun _ _ => rfl⟩⟩
      · have hI : (i : Int) = l.length := by omega
        have HF := Lib.hid (show sameL l m = true by
          have := HT.out
          have h2 := HL.out
          rw [List.take_of_length_le (by omega), List.take_of_length_le (by omega)] at this
          unfold sameL; simp [this])
        go_wp2
        go_ret
        exact ⟨by rw [HF.out]; rfl, ⟨rfl, rfl, rfl, Nat.le_refl _, fun _ _ => rfl⟩⟩
  · have hI : ¬ ((l.length : Int) = m.length) := by omega
    have HF := Lib.hid (show sameL l m = false by unfold sameL; simp; intro e; exact hl (by rw [e]))
    clear h h' hl
    go_enter Try.func28, Try.ntmps28
    go_wp2_with fail
    go_ret
    exact ⟨by rw [HF.out]; rfl, Below.refl _ _⟩

end Go.Proofs.Ytllepgdebjfbdaa
