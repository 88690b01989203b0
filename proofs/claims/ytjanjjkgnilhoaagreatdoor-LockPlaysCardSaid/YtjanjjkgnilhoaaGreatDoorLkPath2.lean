/-
  THE WALKS of package path, gone on: pieces, paths, what a path is under.
-/
import Derived.Test.YtjanjjkgnilhoaaGreatDoorLkPath
namespace Go.Proofs.YtjanjjkgnilhoaaGreatDoor
open Go.RowKit

theorem odd_pred (w : World) : PredAtRunes Tryz.prog 88 #[] oddR w := fun W x _ _ => (odd_any x W).mono fun _ _ h => ⟨h.1, 0, h.2⟩

set_option maxRecDepth 20000 in
set_option maxHeartbeats 1000000 in
theorem piece_any (s : ByteArray) (w : World) : Calls Tryz.prog 79 #[.string s] w fun e w' => e = .returned (.bool (Lk.pieceB (L s))) ∧ Below w.heap.size w w' := by
  have HC := Lib.hid (Tryz.strings_ContainsFunc_runes 88 #[] (enters_of Tryz.func88 (by kernel_rfl) rfl) oddR s w (odd_pred w))
  rw [idx_good] at HC
  have hP : Lk.pieceB (L s) = (decide (1 ≤ s.size) && decide (s.size ≤ 32) && (L s).all Lk.good) := by unfold Lk.pieceB; rw [L_size]
  have HP := Lib.hid hP
  clear hP
  by_cases h1 : 1 ≤ s.size
  · have h1I : (1 : Int) ≤ s.size := by omega
    by_cases h2 : s.size ≤ 32
    · have h2I : (s.size : Int) ≤ 32 := by omega
      have HR : Hid (Lk.pieceB (L s) = (L s).all Lk.good) := Lib.hid (by rw [HP.out, decide_eq_true h1, decide_eq_true h2]; rfl)
      clear h1 h2
      generalize (L s).all Lk.good = b at *
      go_enter Tryz.func79, Tryz.ntmps79
      go_wp2_with fail
      refine HC.out.mono ?_
      rintro e w1 ⟨rfl, hb⟩
      have HB := Lib.hid hb
      clear hb
      go_wp2_with fail
      go_ret
      exact ⟨by rw [HR.out]; simp, HB.out⟩
    · have h2I : (32 : Int) < s.size := by omega
      have HR : Hid (Lk.pieceB (L s) = false) := Lib.hid (by rw [HP.out, decide_eq_false h2]; simp)
      clear h1 h2
      go_enter Tryz.func79, Tryz.ntmps79
      go_wp2_with fail
      go_ret
      exact ⟨by rw [HR.out]; rfl, Below.refl _ _⟩
  · have h1I : (s.size : Int) < 1 := by omega
    have HR : Hid (Lk.pieceB (L s) = false) := Lib.hid (by rw [HP.out, decide_eq_false h1]; simp)
    clear h1
    go_enter Tryz.func79, Tryz.ntmps79
    go_wp2_with fail
    go_ret
    exact ⟨by rw [HR.out]; rfl, Below.refl _ _⟩
theorem notpiece_any (s : ByteArray) (w : World) : Calls Tryz.prog 78 #[.string s] w fun e w' => e = .returned (.bool (!Lk.pieceB (L s))) ∧ Below w.heap.size w w' := by
  have HC := Lib.hid (piece_any s w)
  generalize Lk.pieceB (L s) = b at *
  go_enter Tryz.func78, Tryz.ntmps78
  go_wp2_with fail
  refine HC.out.mono ?_
  rintro e w1 ⟨rfl, hb⟩
  go_wp2_with fail
  go_ret
  exact ⟨rfl, hb⟩

set_option maxRecDepth 20000 in
set_option maxHeartbeats 1000000 in
/-- The first that is no piece. -/
theorem index_bad (a : Option Addr) (cap : Nat) (l : List ByteArray) (w : World) (hr : RowIs w 1 a (l.map fun t => [Value.string t])) (hl : l.length ≤ 1000) :
    Calls Tryz.prog 87 #[.slice a l.length cap, .func (.func 78) #[] #[]] w fun e w' => (∃ r : Int, e = .returned (.int .i64 r) ∧ (0 ≤ r ↔ l.all (fun t => Lk.pieceB (L t)) = false)) ∧ Below w.heap.size w w' := by
  have HR := Lib.hid hr
  have hlI : (0 : Int) ≤ l.length ∧ (l.length : Int) ≤ 1000 := by omega
  have HC : Hid (∀ s wz, Calls Tryz.prog 78 #[.string s] wz fun e w' => e = .returned (.bool (!Lk.pieceB (L s))) ∧ Below wz.heap.size wz w') := Lib.hid notpiece_any
  have HO := Lib.hid (Own.refl w)
  clear hr hl
  go_enter Tryz.func87, Tryz.ntmps87
  go_wp2_with fail
  go_loopw [8] (fun vi wr => ∃ i : Nat, i ≤ l.length ∧ vi = .int .i64 i ∧ (∀ k (h : k < l.length), k < i → Lk.pieceB (L l[k]) = true) ∧ Own w.heap.size w wr) (fun vi _ => l.length - (intOf vi).toNat)
  case atStart => exact ⟨0, Nat.zero_le _, rfl, fun k _ h => by omega, HO.out⟩
  case round =>
    clear HO
    obtain ⟨i, hi, rfl, hk, hO⟩ := hrel
    have HO := Lib.hid hO
    have HK := Lib.hid hk
    clear hO hk
    by_cases hlt : i < l.length
    · obtain ⟨g, off, rfl, hc0⟩ := RowIs.cell1 (f := Value.string) (HR.out.keep HO.out.below) i hlt
      have hiI : (0 : Int) ≤ i ∧ (i : Int) < l.length := by omega
      have HT := Lib.hid hlt
      obtain ⟨t, ht, hc⟩ : ∃ t, t = l[i]'hlt ∧ wr.cell? ⟨g, off + i, none⟩ = some (.string t) := ⟨_, rfl, hc0⟩
      have HTT : Hid (t = l[i]'hlt) := Lib.hid ht
      clear ht hc0
      go_wp2_with fail
      refine (HC.out t _).mono ?_
      rintro e w1 ⟨rfl, hb⟩
      have HO1 := Lib.hid (HO.out.trans hb)
      clear hb hc
      cases hp : Lk.pieceB (L t) with
      | false =>
        have HPF := Lib.hid hp
        clear hp
        rw [Bool.not_false]
        go_wp2_with fail
        go_ret
        refine ⟨⟨i, rfl, ?_⟩, HO1.out.below⟩
        refine ⟨fun _ => ?_, fun _ => by omega⟩
        rw [List.all_eq_false]
        exact ⟨l[i]'HT.out, List.getElem_mem _, by rw [← HTT.out, HPF.out]; simp⟩
      | true =>
        have HPF := Lib.hid hp
        clear hp
        rw [Bool.not_true]
        go_wp2_with fail
        go_roundw
        case rel =>
          refine ⟨i + 1, by omega, by go_num, fun k h hk => ?_, HO1.out⟩
          by_cases e : k = i
          · subst e; rw [← HTT.out]; exact HPF.out
          · exact HK.out k h (by omega)
        case measure => simp [intOf]; omega
    · obtain rfl : i = l.length := by omega
      go_wp2_with fail
      go_ret
      refine ⟨⟨-1, rfl, ?_⟩, HO.out.below⟩
      refine ⟨fun h => by omega, fun h => ?_⟩
      obtain ⟨t, ht, hp⟩ := List.all_eq_false.1 h
      obtain ⟨k, hk, rfl⟩ := List.getElem_of_mem ht
      exact absurd (HK.out k hk hk) hp
theorem contains_bad (a : Option Addr) (cap : Nat) (l : List ByteArray) (w : World) (hr : RowIs w 1 a (l.map fun t => [Value.string t])) (hl : l.length ≤ 1000) :
    Calls Tryz.prog 77 #[.slice a l.length cap, .func (.func 78) #[] #[]] w fun e w' => e = .returned (.bool (!l.all (fun t => Lk.pieceB (L t)))) ∧ Below w.heap.size w w' := by
  have HC := Lib.hid (index_bad a cap l w hr hl)
  clear hr hl
  generalize hb : l.all (fun t => Lk.pieceB (L t)) = b at *
  have HBB := Lib.hid hb
  clear hb
  go_enter Tryz.func77, Tryz.ntmps77
  go_wp2_with fail
  refine HC.out.mono ?_
  rintro e w1 ⟨⟨r, rfl, hr⟩, hb⟩
  have HRR := Lib.hid hr
  have HB := Lib.hid hb
  clear hr hb
  go_wp2_with fail
  go_ret
  refine ⟨?_, HB.out⟩
  have h := HRR.out
  have e : decide (0 ≤ r) = !b := by
    cases b with
    | true => rw [Bool.not_true, decide_eq_false]; exact fun h1 => by have := h.1 h1; cases this
    | false => rw [Bool.not_false, decide_eq_true (h.2 rfl)]
  rw [← e]; rfl

end Go.Proofs.YtjanjjkgnilhoaaGreatDoor
