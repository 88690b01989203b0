/-
  THE WALKS of the document's answer for layer 8: Zig, Text, Same.
-/
import Derived.Test.YtdohhbilchdigaaWireRef
namespace Go.Proofs.Ytdohhbilchdigaa
open Go.RowKit

theorem same_str {a b : ByteArray} : (a.toList = b.toList) ↔ a = b := by
  rw [ByteArray.toList_eq, ByteArray.toList_eq]
  exact ⟨fun h => Go.WideShapes.bytes_inj h, fun h => by rw [h]⟩
/-- Two lists of texts. -/
theorem rSame_any (w : World) (a b : Option Addr) (ca cb : Nat) (l m : List ByteArray) (h : RowIs w 1 a (l.map tcell)) (k : RowIs w 1 b (m.map tcell)) (hl : l.length ≤ 1073741824) (hm : m.length ≤ 9223372036854775807) :
    Calls Try.prog 21 #[.slice a l.length ca, .slice b m.length cb] w fun e w' => e = .returned (.bool (decide (l = m))) ∧ Below w.heap.size w w' := by
  have H := Lib.hid h
  have K := Lib.hid k
  have hlI : (0 : Int) ≤ l.length ∧ (l.length : Int) ≤ 1073741824 := by omega
  have hmI : (0 : Int) ≤ m.length ∧ (m.length : Int) ≤ 9223372036854775807 := by omega
  clear h k hl hm
  by_cases hlen : l.length = m.length
  · have hlm : ((l.length : Int) != m.length) = false := by rw [hlen]; simp
    have HLEN := Lib.hid hlen
    clear hlen
    go_enter Try.func21, Try.ntmps21
    go_wp2_with fail
    go_loopw [5] (fun vi wr => ∃ i m0 : Nat, i ≤ l.length ∧ vi = .int .i64 i ∧ l.take i = m.take i ∧ wr = w.drewN m0) (fun vi _ => l.length - (intOf vi).toNat)
    case atStart => exact ⟨0, 0, Nat.zero_le _, rfl, rfl, rfl⟩
    case round =>
      obtain ⟨i, m0, hi, rfl, heq, rfl⟩ := hrel
      have HE := Lib.hid heq
      clear heq
      by_cases hlt : i < l.length
      · have hltm : i < m.length := by have := HLEN.out; omega
        obtain ⟨g, off, rfl, hc⟩ := H.out.cell1 (f := fun x => .string x) i hlt
        obtain ⟨g', off', rfl, hc'⟩ := K.out.cell1 (f := fun x => .string x) i hltm
        have hiI : (0 : Int) ≤ i ∧ (i : Int) < l.length := by omega
        have hiM : (i : Int) < m.length := by omega
        have HN : Hid (l[i] = m[i] → l.take (i + 1) = m.take (i + 1)) := Lib.hid (fun e => by
          rw [List.take_succ_eq_append_getElem hlt, List.take_succ_eq_append_getElem hltm, HE.out, e])
        have HN2 : Hid (l[i] ≠ m[i] → l ≠ m) := Lib.hid (fun e e2 => e (by subst e2; rfl))
        generalize l[i] = x at *
        generalize m[i] = y at *
        by_cases hxy : x = y
        · subst hxy
          go_wp2_with fail
          refine wp_region_quiet_lit (by kernel_rfl) (by kernel_rfl) ?_
          repeat (quiet_step (fail))
          refine wpQuiet_nil ?_
          intro _ hw'
          obtain ⟨nq, hw''⟩ := hw'
          subst hw''
          rw [World.drewN_drewN]
          go_wp2
          go_roundw
          case rel => exact ⟨i + 1, _, by omega, by go_num, HN.out trivial, rfl⟩
          case measure => simp [intOf]; omega
        · have hne : (x.toList == y.toList) = false := beq_eq_false_iff_ne.2 fun e => hxy (same_str.1 e)
          have hne2 : (!(x.toList == y.toList)) = true := by rw [hne]; rfl
          have HD : Hid (decide (l = m) = false) := Lib.hid (decide_eq_false (HN2.out hxy))
          go_wp2_with fail
          refine wp_region_quiet_lit (by kernel_rfl) (by kernel_rfl) ?_
          repeat (quiet_step (fail))
          refine wpQuiet_nil ?_
          intro _ hw'
          obtain ⟨nq, hw''⟩ := hw'
          subst hw''
          rw [World.drewN_drewN]
          go_wp2
          go_ret
          exact ⟨by rw [HD.out]; rfl, (Own.refl w).drewN _ |>.below⟩
      · obtain rfl : i = l.length := by omega
        have HD : Hid (decide (l = m) = true) := Lib.hid (decide_eq_true (by
          have := HE.out
          rwa [List.take_length, HLEN.out, List.take_length] at this))
        go_wp2_with fail
        go_ret
        exact ⟨by rw [HD.out]; rfl, (Own.refl w).drewN _ |>.below⟩
  · have hlm : ((l.length : Int) != m.length) = true := by rw [bne_iff_ne]; omega
    have HD : Hid (decide (l = m) = false) := Lib.hid (decide_eq_false (fun e => hlen (by rw [e])))
    go_enter Try.func21, Try.ntmps21
    go_wp2_with fail
    go_ret
    exact ⟨by rw [HD.out]; rfl, Below.refl _ _⟩

end Go.Proofs.Ytdohhbilchdigaa
