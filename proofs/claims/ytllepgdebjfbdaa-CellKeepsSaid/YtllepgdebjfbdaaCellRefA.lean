/-
  THE WALKS of the document's answer for layer 17: May, Now, Size, Same.
-/
import Derived.Test.YtllepgdebjfbdaaCellRead
import Derived.BigQuiet
namespace Go.Proofs.Ytllepgdebjfbdaa
open Go.RowKit

set_option maxHeartbeats 1000000 in
theorem rmay_any (w : World) (c : Cl.Cel) (a : Option Addr) (cap : Nat) (h : VersAt w a c.l) (ok : ∀ v ∈ c.l, okV v) (hl : c.last < 18446744073709551616) (hn : c.l.length ≤ 9223372036854775807) :
    Calls Try.prog 13 #[.agg #[.int .u64 c.last, .slice a c.l.length cap]] w fun e w' => e = .returned (.bool (Cl.may c)) ∧ Below w.heap.size w w' := by
  have H := Lib.hid h
  have HOK := Lib.hid ok
  have hlI : (0 : Int) ≤ c.last ∧ (c.last : Int) ≤ 18446744073709551615 := by omega
  have hnI : (0 : Int) ≤ c.l.length ∧ (c.l.length : Int) ≤ 9223372036854775807 := by omega
  have hbx := heap_alloc_new w (.cells #[.int .u64 c.last, .slice a c.l.length cap] 25 (0, 0))
  have HBX := Lib.hid hbx
  have HO := Lib.hid ((Own.refl w).alloc (.cells #[.int .u64 c.last, .slice a c.l.length cap] 25 (0, 0)))
  clear h ok hl hn hbx
  by_cases h8 : c.l.length ≤ 8
  rotate_left
  · have h8I : (8 : Int) < c.l.length := by omega
    have HE := Lib.hid (show Cl.may c = false by unfold Cl.may; simp [h8])
    clear h8
    go_enter Try.func13, Try.ntmps13
    go_wp2_with fail
    go_ret
    exact ⟨by rw [HE.out]; rfl, HO.out.below⟩
  have h8I : (c.l.length : Int) ≤ 8 := by omega
  have H8 := Lib.hid h8
  clear h8
  go_enter Try.func13, Try.ntmps13
  go_wp2_with fail
  go_loopw [3, 4] (fun vx vi wr => ∃ i x : Nat, i ≤ c.l.length ∧ vi = .int .i64 i ∧ vx = .int .u64 x ∧ x < 18446744073709551616 ∧ Cl.mayF 0 c.l = Cl.mayF x (c.l.drop i) ∧ wr.heap[w.heap.size]? = some (.cells #[.int .u64 c.last, .slice a c.l.length cap] 25 (0, 0)) ∧ Own w.heap.size w wr)
    (fun _ vi _ => c.l.length - (intOf vi).toNat)
  case atStart => exact ⟨0, 0, Nat.zero_le _, rfl, rfl, by decide, rfl, HBX.out, HO.out⟩
  case round =>
    clear HBX HO
    obtain ⟨i, x, hi, rfl, rfl, hx, hf, hb, hO⟩ := hrel
    have HB := Lib.hid hb
    have HO := Lib.hid hO
    have hxI : (0 : Int) ≤ x ∧ (x : Int) ≤ 18446744073709551615 := by omega
    obtain ⟨ck0, ck1⟩ := cell_cells hb
    by_cases hlt : i < c.l.length
    · have hiI : (0 : Int) ≤ i ∧ (i : Int) < c.l.length := by omega
      obtain ⟨g, off, rfl, k0, k1, k2, _⟩ := (H.out.keep hO.below).at i hlt
      have o := HOK.out c.l[i] (List.getElem_mem hlt)
      rw [List.drop_eq_getElem_cons hlt, Cl.mayF] at hf
      have hf2 : Cl.verOk x c.l[i] = false → Cl.may c = false := fun e => by
        unfold Cl.may
        rw [hf, e]; simp
      have HF := Lib.hid hf
      have HF2 := Lib.hid hf2
      obtain ⟨o1, o2, o3⟩ := o
      have h1I : (0 : Int) ≤ c.l[i].n ∧ (c.l[i].n : Int) ≤ 18446744073709551615 := by omega
      have h2I : (0 : Int) ≤ c.l[i].st ∧ (c.l[i].st : Int) ≤ 255 := by omega
      have h3I : (0 : Int) ≤ c.l[i].t.size ∧ (c.l[i].t.size : Int) ≤ 140737488351232 := by omega
      have hem := empty_text c.l[i].t
      have HO1 := Lib.hid o1
      clear hb hO hx hf hf2 o1 o2 o3
      generalize hv : c.l[i] = v at *
      clear hv
      by_cases b1 : v.n ≤ x
      · have b1I : (v.n : Int) ≤ x := by omega
        have HE := Lib.hid (HF2.out (by unfold Cl.verOk; simp; omega))
        clear b1
        go_wp2_with fail
        go_ret
        exact ⟨by rw [HE.out]; rfl, (HO.out.alloc _).below⟩
      · have b1I : (x : Int) < v.n := by omega
        by_cases b2 : v.st < 1
        · have b2I : (v.st : Int) < 1 := by omega
          have b2J : ¬ ((v.st : Int) = 1) := by omega
          have HE := Lib.hid (HF2.out (by unfold Cl.verOk; simp; omega))
          clear b1 b2
          go_wp2_with fail
          go_ret
          exact ⟨by rw [HE.out]; rfl, (HO.out.alloc _).below⟩
        · have b2I : (1 : Int) ≤ v.st := by omega
          by_cases b3 : 3 < v.st
          · have b3I : (3 : Int) < v.st := by omega
            have b3J : ¬ ((v.st : Int) = 1) := by omega
            have HE := Lib.hid (HF2.out (by unfold Cl.verOk; simp; omega))
            clear b1 b2 b3
            go_wp2_with fail
            go_ret
            exact ⟨by rw [HE.out]; rfl, (HO.out.alloc _).below⟩
          · have b3I : (v.st : Int) ≤ 3 := by omega
            by_cases b4 : v.st = 1
            · have b4I : (v.st : Int) = 1 := by omega
              by_cases b5 : 4096 < v.t.size
              · have b5I : (4096 : Int) < v.t.size := by omega
                have HE := Lib.hid (HF2.out (by unfold Cl.verOk; simp [b4]; omega))
                clear b1 b2 b3 b4 b5
                go_wp2_with fail
                go_ret
                exact ⟨by rw [HE.out]; rfl, (HO.out.alloc _).below⟩
              · have b5I : (v.t.size : Int) ≤ 4096 := by omega
                have hok : Cl.verOk x v = true := by unfold Cl.verOk; simp [b4]; omega
                have HE := Lib.hid hok
                clear b1 b2 b3 b4 b5 hok
                go_wp2_with fail
                go_roundw
                case rel =>
                  refine ⟨i + 1, v.n, by omega, rfl, rfl, by omega, ?_, ?_, HO.out.alloc _⟩
                  · rw [HF.out, if_pos HE.out]
                  · rw [Below.heap_alloc _ _ _ (blk_lt HB.out)]; exact HB.out
                case measure => simp only [intOf]; omega
            · have b4I : ¬ ((v.st : Int) = 1) := by omega
              have b4J : ((v.st : Int) == 1) = false := by simp; omega
              have b4K : ((v.st : Int) != 1) = true := by simp; omega
              by_cases b5 : v.t.size = 0
              · have hok : Cl.verOk x v = true := by unfold Cl.verOk; simp [b4, b5]; omega
                have HE := Lib.hid hok
                clear b1 b2 b3 b4 hok
                go_wp2_with fail
                go_roundw
                case rel =>
                  refine ⟨i + 1, v.n, by omega, rfl, rfl, by omega, ?_, ?_, HO.out.alloc _⟩
                  · rw [HF.out, if_pos HE.out]
                  · rw [Below.heap_alloc _ _ _ (blk_lt HB.out)]; exact HB.out
                case measure => simp only [intOf]; omega
              · have HE := Lib.hid (HF2.out (by unfold Cl.verOk; simp [b4, b5]))
                clear b1 b2 b3 b4
                go_wp2_with fail
                go_ret
                exact ⟨by rw [HE.out]; rfl, (HO.out.alloc _).below⟩
    · have hiI : (i : Int) = c.l.length := by omega
      have hm : Cl.may c = (decide (c.l.length ≤ 8) && decide (x = c.last)) := by
        unfold Cl.may
        rw [hf, List.drop_of_length_le (by omega)]
        unfold Cl.mayF
        congr 1
      have HM := Lib.hid hm
      by_cases hx : x = c.last
      · have HE := Lib.hid (show Cl.may c = true by rw [HM.out]; simp [H8.out, hx])
        subst hx
        clear hm hf hlt hb hO
        go_wp2_with fail
        go_ret
        exact ⟨by rw [HE.out]; rfl, HO.out.below⟩
      · have HE := Lib.hid (show Cl.may c = false by rw [HM.out]; simp [H8.out, hx])
        have hxI : ((c.last : Int) == (x : Int)) = false := by simp; omega
        clear hm hf hx hlt hb hO
        go_wp2_with fail
        go_ret
        exact ⟨by rw [HE.out]; rfl, HO.out.below⟩

set_option maxHeartbeats 1000000 in
theorem rnow_any (w : World) (c : Cl.Cel) (a : Option Addr) (cap : Nat) (h : VersAt w a c.l) (hn : c.l.length ≤ 1000) :
    Calls Try.prog 15 #[.agg #[.int .u64 c.last, .slice a c.l.length cap]] w fun e w' => e = .returned (.int .u64 (Cl.now c)) ∧ Below w.heap.size w w' := by
  have HO := Lib.hid ((Own.refl w).alloc (.cells #[.int .u64 c.last, .slice a c.l.length cap] 25 (0, 0)))
  have H := Lib.hid h
  have hnI : (0 : Int) ≤ c.l.length ∧ (c.l.length : Int) ≤ 1000 := by omega
  rcases List.eq_nil_or_concat c.l with e | ⟨r, v, e⟩
  · have HE := Lib.hid (show Cl.now c = 0 by unfold Cl.now; rw [e]; rfl)
    have h0 : (c.l.length : Int) = 0 := by rw [e]; rfl
    clear e h hn
    go_enter Try.func15, Try.ntmps15
    go_wp2_with fail
    go_ret
    exact ⟨by rw [HE.out]; rfl, HO.out.below⟩
  · have hl : Cl.now c = if v.st = 1 then v.n else 0 := by unfold Cl.now; rw [e]; simp
    have hlen : c.l.length = r.length + 1 := by rw [e]; simp
    obtain ⟨g, off, rfl, q0, q1, q2, hgl⟩ := h.at r.length (by omega)
    have hv : c.l[r.length]'(by omega) = v := by simp [e]
    rw [hv] at q0 q1 q2
    have hI : (c.l.length : Int) - 1 = r.length := by omega
    have h0 : ((c.l.length : Int) == 0) = false := by rw [beq_eq_false_iff_ne]; omega
    have h1 : (0 : Int) ≤ r.length ∧ (r.length : Int) < c.l.length := by omega
    have HL := Lib.hid hl
    clear e hl h hn hlen hv
    by_cases hs : v.st = 1
    · have hsI : (v.st : Int) = 1 := by omega
      have HE := Lib.hid (show Cl.now c = v.n by rw [HL.out, if_pos hs])
      clear hs
      go_enter Try.func15, Try.ntmps15
      go_wp2_with fail
      go_ret
      exact ⟨by rw [HE.out]; rfl, HO.out.below⟩
    · have hsI : ((v.st : Int) == 1) = false := by simp; omega
      have HE := Lib.hid (show Cl.now c = 0 by rw [HL.out, if_neg hs])
      clear hs
      go_enter Try.func15, Try.ntmps15
      go_wp2_with fail
      go_ret
      exact ⟨by rw [HE.out]; rfl, HO.out.below⟩

set_option maxHeartbeats 1000000 in
theorem rsize_any (w : World) (c : Cl.Cel) (a : Option Addr) (cap : Nat) (h : VersAt w a c.l) (ok : ∀ v ∈ c.l, okV v) (hn : c.l.length ≤ 1000) :
    Calls Try.prog 17 #[.agg #[.int .u64 c.last, .slice a c.l.length cap]] w fun e w' => e = .returned (.int .i64 (Cl.size c)) ∧ Below w.heap.size w w' := by
  have hnI : (0 : Int) ≤ c.l.length ∧ (c.l.length : Int) ≤ 1000 := by omega
  have hs : ∀ i, i ≤ c.l.length → ((c.l.take i).map fun v => v.t.size).sum ≤ 140737488351232000 := fun i hi => by
    have := sum_bound (c.l.take i) (fun v hv => ok v (List.mem_of_mem_take hv))
    have h2 : (c.l.take i).length ≤ 1000 := by simp; omega
    have := Nat.mul_le_mul_right 140737488351232 h2
    omega
  have H := Lib.hid h
  have HS := Lib.hid hs
  have HOK := Lib.hid ok
  have HO := Lib.hid ((Own.refl w).alloc (.cells #[.int .u64 c.last, .slice a c.l.length cap] 25 (0, 0)))
  clear h ok hn hs
  go_enter Try.func17, Try.ntmps17
  go_wp2_with fail
  go_loopw [3, 4] (fun vx vi wr => ∃ i x : Nat, i ≤ c.l.length ∧ vi = .int .i64 i ∧ vx = .int .i64 x ∧ x = ((c.l.take i).map fun v => v.t.size).sum ∧ wr = w.alloc (.cells #[.int .u64 c.last, .slice a c.l.length cap] 25 (0, 0)))
    (fun _ vi _ => c.l.length - (intOf vi).toNat)
  case atStart => exact ⟨0, 0, Nat.zero_le _, rfl, rfl, by simp, rfl⟩
  case round =>
    obtain ⟨i, x, hi, rfl, rfl, hx, rfl⟩ := hrel
    have hO := HO.out
    by_cases hlt : i < c.l.length
    · have hiI : (0 : Int) ≤ i ∧ (i : Int) < c.l.length := by omega
      obtain ⟨g, off, rfl, k0, k1, k2, _⟩ := H.out.at i hlt
      have hgl : g < w.heap.size := by assumption
      have hx2 := HS.out (i + 1) (by omega)
      have hst := sum_take c.l i hlt
      rw [← hx] at hst
      rw [hst] at hx2
      have HX := Lib.hid hst
      have hxI : (0 : Int) ≤ x ∧ (0 : Int) ≤ c.l[i].t.size ∧ (x : Int) + c.l[i].t.size ≤ 140737488351232000 := by omega
      clear hO hx hst hx2
      generalize c.l[i] = v at *
      go_wp2_with fail
      go_roundw
      case rel => exact ⟨i + 1, x + v.t.size, by omega, rfl, rfl, HX.out.symm, trivial⟩
      case measure => simp only [intOf]; omega
    · have hiI : (i : Int) = c.l.length := by omega
      have HX := Lib.hid (show Cl.size c = x by unfold Cl.size; rw [hx, List.take_of_length_le (by omega)])
      clear hx hO
      go_wp2_with fail
      go_ret
      exact ⟨by rw [HX.out]; rfl, HO.out.below⟩


end Go.Proofs.Ytllepgdebjfbdaa
