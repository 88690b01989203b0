/-
  THE WALKS of package path, ended: Pieces, May, Prefix, Under.
-/
import Derived.Test.YtjanjjkgnilhoaaGreatDoorLkPath2
import Derived.Test.YtjanjjkgnilhoaaGreatDoorFlat
namespace Go.Proofs.YtjanjjkgnilhoaaGreatDoor
open Go.RowKit

theorem split_row (s : ByteArray) : (Lib.splitB ⟨#[47]⟩ 0 (Lib.countB s ⟨#[47]⟩) s).map L = Lk.spl (L s) := by
  have h1 := Lib.splitB_data ⟨#[47]⟩ 0 (Lib.countB s ⟨#[47]⟩) s
  have h2 : (Lib.splitB ⟨#[47]⟩ 0 (Lib.countB s ⟨#[47]⟩) s).map L = Lib.splitK [47] 0 (Lib.countB s ⟨#[47]⟩) (L s) := h1
  rw [h2]
  exact split_count _ _ rfl
where
  split_count : ∀ (k : Nat) (s : ByteArray), Lib.countB s ⟨#[47]⟩ = k → Lib.splitK [47] 0 k (L s) = Lk.spl (L s)
  | 0, s, h => by
    rcases Lk.index_slash (L s) with ⟨h1, h2⟩ | ⟨i, h1, h2, h3, h4⟩
    · rw [Lk.spl_none h2]; rfl
    · have h5 : Lib.indexB s ⟨#[47]⟩ = i := h1
      have := Lib.countB_hit s ⟨#[47]⟩ i (by decide) h5
      omega
  | k + 1, s, h => by
    unfold Lib.splitK
    rcases Lk.index_slash (L s) with ⟨h1, h2⟩ | ⟨i, h1, h2, h3, h4⟩
    · rw [h1, Lk.spl_none h2]; rfl
    · have h5 : Lib.indexB s ⟨#[47]⟩ = i := h1
      have hc := Lib.countB_hit s ⟨#[47]⟩ i (by decide) h5
      have e0 : ((i : Int) == -1) = false := by rw [beq_eq_false_iff_ne]; omega
      rw [h1]
      simp only [e0, Bool.false_eq_true, if_false, Int.toNat_natCast, Nat.add_zero, List.length_cons, List.length_nil]
      have e1 : (L s).drop (i + (0 + 1)) = L (s.extract (i + (⟨#[47]⟩ : ByteArray).size) s.size) := by
        exact (Lib.extract_to_end s _).symm
      rw [e1, split_count k _ (by omega), ← e1]
      conv => rhs; rw [h4]
      rw [Lk.spl_at h3]

set_option maxRecDepth 20000 in
set_option maxHeartbeats 1000000 in
/-- path.Pieces: nil just where the text is no path. -/
theorem pieces_any (s : ByteArray) (w : World) (hl : Lay w) : Calls Tryz.prog 58 #[.string s] w fun e w' => (∃ (a : Option Addr) (n cap : Nat), e = .returned (.slice a n cap) ∧ (Lk.pathB (L s) = true → ∃ ad, a = some ad) ∧ (Lk.pathB (L s) = false → a = none ∧ n = 0 ∧ cap = 0)) ∧ Below w.heap.size w w' := by
  obtain ⟨m, hm⟩ := hl
  have HM := Lib.hid hm
  clear hm
  by_cases h1 : s.size ≤ 128
  · have h1I : (s.size : Int) ≤ 128 := by omega
    have HS := Lib.hid (Tryz.strings_Split s ⟨#[47]⟩ m w (by omega) HM.out (by decide))
    have hrow := split_row s
    have hlen := Lib.splitB_all ⟨#[47]⟩ (by decide) 0 (Lib.countB s ⟨#[47]⟩) s rfl
    have hP : Lk.pathB (L s) = (decide ((Lk.spl (L s)).length ≤ 8) && (Lk.spl (L s)).all Lk.pieceB) := by unfold Lk.pathB; rw [L_size, decide_eq_true h1]; rfl
    rw [← hrow, List.length_map, List.all_map] at hP
    rw [← hlen] at HS
    generalize Lib.splitB ⟨#[47]⟩ 0 (Lib.countB s ⟨#[47]⟩) s = ps at *
    have hpos : 0 < ps.length := by omega
    have HP := Lib.hid hP
    have HL := Lib.hid hpos
    clear hrow hlen hP h1 hpos
    by_cases h8 : ps.length ≤ 8
    · have h8I : (0 : Int) ≤ ps.length ∧ (ps.length : Int) ≤ 8 := by omega
      have HQ : Hid (Lk.pathB (L s) = ps.all fun t => Lk.pieceB (L t)) := Lib.hid (by rw [HP.out, decide_eq_true h8, Bool.true_and]; rfl)
      have HN : Hid (RowIs (w.alloc (.cells (ps.map Value.string).toArray 9 (0, 0))) 1 (some ⟨w.heap.size, 0, none⟩) (ps.map fun t => [Value.string t])) := Lib.hid (by
        have hS := SliceIs.new w 9 1 ps.length (ps.map Value.string) (by simp) (by unfold maxLen; omega)
        have := hS.rowIs1 (by simp)
        rw [List.map_map] at this
        exact this)
      have HC := Lib.hid (contains_bad (some ⟨w.heap.size, 0, none⟩) ps.length ps _ HN.out (by omega))
      have HO := Lib.hid ((Own.refl w).alloc (.cells (ps.map Value.string).toArray 9 (0, 0)))
      clear h8 HN
      generalize hb : ps.all (fun t => Lk.pieceB (L t)) = b at *
      have HBB := Lib.hid hb
      clear hb
      go_enter Tryz.func58, Tryz.ntmps58
      go_wp2_with fail
      refine HS.out.mono ?_
      rintro e w1 ⟨rfl, rfl⟩
      clear HS
      go_wp2_with fail
      refine HC.out.mono ?_
      rintro e w2 ⟨rfl, hb2⟩
      have HO2 := Lib.hid (HO.out.trans hb2)
      clear hb2 HC HO
      cases b with
      | true =>
        rw [Bool.not_true]
        go_wp2_with fail
        go_ret
        exact ⟨⟨_, _, _, rfl, fun _ => ⟨_, rfl⟩, fun h => (by rw [HQ.out] at h; cases h)⟩, HO2.out.below⟩
      | false =>
        rw [Bool.not_false]
        go_wp2_with fail
        go_ret
        exact ⟨⟨none, 0, 0, rfl, fun h => (by rw [HQ.out] at h; cases h), fun _ => ⟨rfl, rfl, rfl⟩⟩, HO2.out.below⟩
    · have h8I : (8 : Int) < ps.length := by omega
      have HQ : Hid (Lk.pathB (L s) = false) := Lib.hid (by rw [HP.out, decide_eq_false h8]; rfl)
      have HO := Lib.hid ((Own.refl w).alloc (.cells (ps.map Value.string).toArray 9 (0, 0)))
      clear h8
      go_enter Tryz.func58, Tryz.ntmps58
      go_wp2_with fail
      refine HS.out.mono ?_
      rintro e w1 ⟨rfl, rfl⟩
      clear HS
      go_wp2_with fail
      go_ret
      exact ⟨⟨none, 0, 0, rfl, fun h => (by rw [HQ.out] at h; cases h), fun _ => ⟨rfl, rfl, rfl⟩⟩, HO.out.below⟩
  · have h1I : (128 : Int) < s.size := by omega
    have HQ : Hid (Lk.pathB (L s) = false) := Lib.hid (by unfold Lk.pathB; rw [L_size, decide_eq_false h1]; rfl)
    clear h1
    go_enter Tryz.func58, Tryz.ntmps58
    go_wp2_with fail
    go_ret
    exact ⟨⟨none, 0, 0, rfl, fun h => (by rw [HQ.out] at h; cases h), fun _ => ⟨rfl, rfl, rfl⟩⟩, Below.refl _ _⟩

set_option maxHeartbeats 1000000 in
theorem pmay_any (s : ByteArray) (w : World) (hl : Lay w) : Calls Tryz.prog 39 #[.string s] w fun e w' => e = .returned (.bool (Lk.pathB (L s))) ∧ Below w.heap.size w w' := by
  have HC := Lib.hid (pieces_any s w hl)
  generalize Lk.pathB (L s) = b at *
  go_enter Tryz.func39, Tryz.ntmps39
  go_wp2_with fail
  refine HC.out.mono ?_
  rintro e w1 ⟨⟨a, n, cap, rfl, h1, h2⟩, hb⟩
  cases b with
  | true =>
    obtain ⟨ad, rfl⟩ := h1 rfl
    clear h1 h2 HC
    go_wp2_with fail
    go_ret
    exact ⟨rfl, hb⟩
  | false =>
    obtain ⟨rfl, rfl, rfl⟩ := h2 rfl
    clear h1 h2 HC
    go_wp2_with fail
    go_ret
    exact ⟨rfl, hb⟩

end Go.Proofs.YtjanjjkgnilhoaaGreatDoor
