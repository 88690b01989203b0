/-
  THE WALK of the statement DiskNil: what none answers.
-/
import Derived.Test.YtickdhlhafifhaaDiskAlive
namespace Go.Proofs.Ytickdhlhafifhaa
open Go.RowKit

attribute [local go_sem ↓ high] appSem_eq

set_option maxRecDepth 20000 in
set_option maxHeartbeats 1000000 in
theorem diskNil_any (w : World) (a : Option Addr) (cap : Nat) (l : List Xst) (h : StepsAt w a l) (ok : ∀ x ∈ l, okX x) (hl : l.length ≤ 9223372036854775807) :
    Calls Try.prog 7 #[.slice a l.length cap] w fun e w' => e = .returned (.bool true) ∧ Below w.heap.size w w' := by
  have HH := Lib.hid (heavy_any w a cap l h ok hl)
  have HR := Lib.hid h
  have HOK := Lib.hid ok
  have hlI : (0 : Int) ≤ l.length ∧ (l.length : Int) ≤ 9223372036854775807 := by omega
  clear h ok hl
  go_enter Try.func7, Try.ntmps7
  go_wp2_with fail
  refine HH.out.mono ?_
  rintro e w1 ⟨rfl, hw⟩
  subst w1
  cases hhv : heavyB l with
  | true =>
    clear hhv HH
    go_wp2_with fail
    refine (alive09 w).mono ?_
    rintro e w2 ⟨rfl, hb⟩
    have HB := Lib.hid hb
    clear hb
    go_wp2_with fail
    go_ret
    exact ⟨rfl, HB.out⟩
  | false =>
    clear hhv HH
    go_wp2_with fail
    go_loopw [4] (fun vi wr => ∃ k : Nat, k ≤ l.length ∧ vi = .int .i64 k ∧ Own w.heap.size w wr) (fun vi _ => l.length - (intOf vi).toNat)
    case atStart => exact ⟨0, Nat.zero_le _, rfl, Own.refl w⟩
    case round =>
      obtain ⟨k, hk, rfl, hO⟩ := hrel
      have HO := Lib.hid hO
      clear hO
      by_cases hlt : k < l.length
      · obtain ⟨g, off, rfl, hg, c0, c1, c2, c3, c4, c5⟩ := StepsAt.at (RowIs.keep HR.out HO.out.below) k hlt
        have hkI : (0 : Int) ≤ k ∧ (k : Int) < l.length := by omega
        have hx := HOK.out l[k] (List.getElem_mem hlt)
        generalize l[k] = x at *
        have hk8 := hx.kind
        by_cases h7 : x.kind % 8 = 7
        · have ht : (x.kind : Int).tmod 8 = 7 := by rw [Int.tmod_eq_emod_of_nonneg (by omega)]; omega
          have he : (x.kind : Int) % 8 = 7 := by omega
          clear h7 hk8 hx
          go_wp2_with fail
          go_roundw
          case rel => exact ⟨k + 1, by omega, by go_num, HO.out⟩
          case measure => simp [intOf]; omega
        · have HDN := Lib.hid (does_nil wr x hk8 h7)
          obtain ⟨r, hr⟩ : ∃ r, r = x.kind % 8 := ⟨_, rfl⟩
          have ht : (x.kind : Int).tmod 8 = r := by rw [Int.tmod_eq_emod_of_nonneg (by omega)]; omega
          have he : (x.kind : Int) % 8 = r := by omega
          have hrI : ((r : Int) != 7) = true := by simp; omega
          have hr7 : ¬ ((r : Int) = 7) := by omega
          clear h7 hr hk8 hx
          go_wp2_with fail
          refine HDN.out.mono ?_
          rintro e w2 ⟨rfl, hb⟩
          have HO2 := Lib.hid (HO.out.trans hb)
          clear hb
          go_wp2_with fail
          go_roundw
          case rel => exact ⟨k + 1, by omega, by go_num, HO2.out⟩
          case measure => simp [intOf]; omega
      · obtain rfl : k = l.length := by omega
        go_wp2_with fail
        refine (files_nil wr).mono ?_
        rintro e w2 ⟨rfl, hw⟩
        subst w2
        go_wp2_with fail
        refine (room_nil wr).mono ?_
        rintro e w2 ⟨rfl, hw⟩
        subst w2
        go_wp2_with fail
        refine (loose_nil wr).mono ?_
        rintro e w2 ⟨rfl, hw⟩
        subst w2
        go_wp2_with fail
        refine (copy_nil wr).mono ?_
        rintro e w2 ⟨rfl, hw⟩
        subst w2
        go_wp2_with fail
        refine (alive09 wr).mono ?_
        rintro e w2 ⟨rfl, hb⟩
        have HB := Lib.hid (HO.out.trans hb)
        clear hb
        go_wp2_with fail
        go_ret
        exact ⟨rfl, HB.out.below⟩

end Go.Proofs.Ytickdhlhafifhaa
