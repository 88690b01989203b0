/-
  THE WALKS of the document's answer for layer 17: Same, at.
-/
import Derived.Test.YtllepgdebjfbdaaCellRefA
namespace Go.Proofs.Ytllepgdebjfbdaa
open Go.RowKit

set_option maxRecDepth 20000 in
set_option maxHeartbeats 4000000 in
theorem rsame_any (w : World) (n1 n2 : Nat) (a a' : Option Addr) (cap cap' : Nat) (l m : List Cl.Ver) (h : VersAt w a l) (h' : VersAt w a' m) (hn : l.length ≤ 1000) (hm : m.length ≤ 1000) :
    Calls Try.prog 11 #[.agg #[.int .u64 n1, .slice a l.length cap], .agg #[.int .u64 n2, .slice a' m.length cap']] w fun e w' => e = .returned (.bool (sameC ⟨n1, l⟩ ⟨n2, m⟩)) ∧ Below w.heap.size w w' := by
  have hO := ((Own.refl w).alloc (.cells #[.int .u64 n1, .slice a l.length cap] 25 (0, 0))).alloc (.cells #[.int .u64 n2, .slice a' m.length cap'] 25 (0, 0))
  have HB := Lib.hid (boxes2 w (.cells #[.int .u64 n1, .slice a l.length cap] 25 (0, 0)) (.cells #[.int .u64 n2, .slice a' m.length cap'] 25 (0, 0)))
  have HV := Lib.hid (h.keep hO.below)
  have HV' := Lib.hid (h'.keep hO.below)
  have HO := Lib.hid hO
  clear hO h h'
  by_cases hlast : n1 = n2
  · subst hlast
    by_cases hl : l.length = m.length
    · have hnI : (0 : Int) ≤ l.length ∧ (l.length : Int) ≤ 1000 := by omega
      rw [← hl] at HV HV' HO HB ⊢
      have HL := Lib.hid hl
      clear hl hn hm
      go_enter Try.func11, Try.ntmps11
      go_wp2_with fail
      obtain ⟨c0, c1⟩ := cell_cells HB.out.b0
      obtain ⟨d0, d1⟩ := cell_cells HB.out.b1
      have hlt2 := HB.out.lt
      generalize (w.alloc (.cells #[.int .u64 n1, .slice a l.length cap] 25 (0, 0))).alloc (.cells #[.int .u64 n1, .slice a' l.length cap'] 25 (0, 0)) = W at *
      go_loopw [5] (fun vi wr => ∃ (i k : Nat), i ≤ l.length ∧ vi = .int .i64 i ∧ wr = W.drewN k ∧ l.take i = m.take i) (fun vi _ => l.length - (intOf vi).toNat)
      case atStart => exact ⟨0, 0, Nat.zero_le _, rfl, rfl, rfl⟩
      case round =>
        obtain ⟨i, m0, hi, rfl, rfl, ht⟩ := hrel
        have HT := Lib.hid ht
        clear ht
        by_cases hlt : i < l.length
        · have hlt' : i < m.length := by have := HL.out; omega
          have hI : (0 : Int) ≤ i ∧ (i : Int) < l.length := by omega
          obtain ⟨g, off, rfl, p0, p1, p2, hgl⟩ := HV.out.at i hlt
          obtain ⟨g', off', rfl, q0, q1, q2, hgl'⟩ := HV'.out.at i hlt'
          by_cases he : l[i] = m[i]
          · have HT2 := Lib.hid (show l.take (i + 1) = m.take (i + 1) by rw [List.take_succ_eq_append_getElem hlt, List.take_succ_eq_append_getElem hlt', HT.out, he])
            rw [← he] at q0 q1 q2
            clear he hlt'
            generalize l[i] = v at *
            go_wp2_with fail
            refine wp_region_quiet_lit (by kernel_rfl) (by kernel_rfl) ?_
            repeat (quiet_step (fail))
            refine wpQuiet_nil ?_
            intro _ hw'
            obtain ⟨nq, hw''⟩ := hw'
            subst hw''
            rw [World.drewN_drewN]
            go_wp2_with fail
            go_roundw
            case rel => exact ⟨i + 1, _, by omega, rfl, rfl, HT2.out⟩
            case measure => simp [intOf]; omega
          · have HF := Lib.hid (show sameC ⟨n1, l⟩ ⟨n1, m⟩ = false by
              unfold sameC sameL
              simp only [decide_true, Bool.true_and, decide_eq_false_iff_not]
              intro e; subst e; exact he rfl)
            generalize l[i] = v at *
            generalize m[i] = u at *
            have h3 : v.n ≠ u.n ∨ (u.n = v.n ∧ v.st ≠ u.st) ∨ (u.n = v.n ∧ u.st = v.st ∧ v.t ≠ u.t) := by
              obtain ⟨a1, a2, a3⟩ := v
              obtain ⟨b1, b2, b3⟩ := u
              by_cases x1 : a1 = b1
              · by_cases x2 : a2 = b2
                · by_cases x3 : a3 = b3
                  · exact absurd (by rw [x1, x2, x3]) he
                  · exact .inr (.inr ⟨x1.symm, x2.symm, x3⟩)
                · exact .inr (.inl ⟨x1.symm, x2⟩)
              · exact .inl x1
            clear he
            rcases h3 with h3 | ⟨h4, h3⟩ | ⟨h4, h5, h3⟩
            · have e1 : ((v.n : Int) == (u.n : Int)) = false := by simp; omega
              clear h3
              go_wp2_with fail
              refine wp_region_quiet_lit (by kernel_rfl) (by kernel_rfl) ?_
              repeat (quiet_step (fail))
              refine wpQuiet_nil ?_
              intro _ hw'
              obtain ⟨nq, hw''⟩ := hw'
              subst hw''
              go_wp2_with fail
              go_ret
              exact ⟨by rw [HF.out]; rfl, ((HO.out.drewN _).drewN _).below⟩
            · rw [h4] at q0
              have e1 : ((v.st : Int) == (u.st : Int)) = false := by simp; omega
              clear h3 h4
              go_wp2_with fail
              refine wp_region_quiet_lit (by kernel_rfl) (by kernel_rfl) ?_
              repeat (quiet_step (fail))
              refine wpQuiet_nil ?_
              intro _ hw'
              obtain ⟨nq, hw''⟩ := hw'
              subst hw''
              go_wp2_with fail
              go_ret
              exact ⟨by rw [HF.out]; rfl, ((HO.out.drewN _).drewN _).below⟩
            · rw [h4] at q0
              rw [h5] at q1
              have e1 : (v.t.toList == u.t.toList) = false := by simp [ByteArray.toList_eq]; intro h; exact h3 (by cases hv : v.t; cases hu : u.t; simp_all)
              clear h3 h4 h5
              go_wp2_with fail
              refine wp_region_quiet_lit (by kernel_rfl) (by kernel_rfl) ?_
              repeat (quiet_step (fail))
              refine wpQuiet_nil ?_
              intro _ hw'
              obtain ⟨nq, hw''⟩ := hw'
              subst hw''
              go_wp2_with fail
              go_ret
              exact ⟨by rw [HF.out]; rfl, ((HO.out.drewN _).drewN _).below⟩
        · have hI : (i : Int) = l.length := by omega
          have HF := Lib.hid (show sameC ⟨n1, l⟩ ⟨n1, m⟩ = true by
            have := HT.out
            have h2 := HL.out
            rw [List.take_of_length_le (by omega), List.take_of_length_le (by omega)] at this
            unfold sameC sameL; simp [this])
          go_wp2_with fail
          go_ret
          exact ⟨by rw [HF.out]; rfl, (HO.out.drewN _).below⟩

    · have hI : ((l.length : Int) == m.length) = false := by rw [beq_eq_false_iff_ne]; omega
      have HF := Lib.hid (show sameC ⟨n1, l⟩ ⟨n1, m⟩ = false by unfold sameC sameL; simp; intro e; exact hl (by rw [e]))
      have hI2 : ((l.length : Int) != m.length) = true := by rw [bne_iff_ne]; omega
      clear hl
      go_enter Try.func11, Try.ntmps11
      go_wp2_with fail
      go_ret
      exact ⟨by rw [HF.out]; rfl, HO.out.below⟩
  · have hI : ((n1 : Int) != n2) = true := by rw [bne_iff_ne]; omega
    have HF := Lib.hid (show sameC ⟨n1, l⟩ ⟨n2, m⟩ = false by unfold sameC; simp [hlast])
    clear hlast
    go_enter Try.func11, Try.ntmps11
    go_wp2_with fail
    go_ret
    exact ⟨by rw [HF.out]; rfl, HO.out.below⟩

set_option maxRecDepth 20000 in
set_option maxHeartbeats 1000000 in
theorem at_any (w : World) (c : Cl.Cel) (a : Option Addr) (cap : Nat) (n : Nat) (h : VersAt w a c.l) (hn : c.l.length ≤ 1000) :
    Calls Try.prog 26 #[.agg #[.int .u64 c.last, .slice a c.l.length cap], .int .u64 n] w fun e w' => e = .returned (.int .i64 (idx n c.l)) ∧ Below w.heap.size w w' := by
  have HO := Lib.hid ((Own.refl w).alloc (.cells #[.int .u64 c.last, .slice a c.l.length cap] 25 (0, 0)))
  have H := Lib.hid h
  have hnI : (0 : Int) ≤ c.l.length ∧ (c.l.length : Int) ≤ 1000 := by omega
  clear h hn
  go_enter Try.func26, Try.ntmps26
  go_wp2_with fail
  go_loop [5] (fun vi => ∃ i : Nat, i ≤ c.l.length ∧ vi = .int .i64 i ∧ Cl.at_ n c.l = (Cl.at_ n (c.l.drop i)).map (· + i)) (fun vi => c.l.length - (intOf vi).toNat)
  case atStart => exact ⟨0, Nat.zero_le _, rfl, by simp⟩
  case round =>
    obtain ⟨i, hi, rfl, ht⟩ := hrel
    have HT := Lib.hid ht
    by_cases hlt : i < c.l.length
    · have hiI : (0 : Int) ≤ i ∧ (i : Int) < c.l.length := by omega
      obtain ⟨g, off, rfl, k0, k1, k2, hgl⟩ := H.out.at i hlt
      have HD := Lib.hid (show c.l.drop i = c.l[i] :: c.l.drop (i + 1) from List.drop_eq_getElem_cons hlt)
      clear ht
      generalize c.l[i] = v at *
      by_cases he : v.n = n
      · have HE := Lib.hid (show idx n c.l = i by unfold idx; rw [HT.out, HD.out, Cl.at_, if_pos he]; simp)
        have heI : ((v.n : Int) == (n : Int)) = true := by simp; omega
        clear he
        go_wp2_with fail
        go_ret
        exact ⟨by rw [HE.out]; rfl, HO.out.below⟩
      · have HE := Lib.hid (show Cl.at_ n c.l = (Cl.at_ n (c.l.drop (i + 1))).map (· + (i + 1)) by
          rw [HT.out, HD.out, Cl.at_, if_neg he, Option.map_map]
          congr 1
          funext x
          simp only [Function.comp]; omega)
        have heI : ((v.n : Int) == (n : Int)) = false := by simp; omega
        clear he
        go_wp2_with fail
        go_round
        case rel => exact ⟨i + 1, by omega, rfl, HE.out⟩
        case measure => simp only [intOf]; omega
    · have hiI : (i : Int) = c.l.length := by omega
      have HE := Lib.hid (show idx n c.l = -1 by unfold idx; rw [ht, List.drop_of_length_le (by omega)]; rfl)
      clear ht
      go_wp2_with fail
      go_ret
      exact ⟨by rw [HE.out]; rfl, HO.out.below⟩

end Go.Proofs.Ytllepgdebjfbdaa
