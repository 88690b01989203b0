/-
  Joined out of the texts MsgTurned.
-/
import Derived.Test.YtjgnomjjphkfbaaGreatJBase
import Derived.Test.YtjgnomjjphkfbaaGreatJMsg
/-
  TURNED: a text, of which the bytes behind the first five are turned.
-/
namespace Go.Proofs.YtjgnomjjphkfbaaGreat
open Go.RowKit

/-- A byte of a row that '[]byte(s)' has laid. -/
theorem MarkIs.byte {w : World} {base : Nat} {e : TypeId} {g n cap : Nat} {l : List UInt8} (h : MarkIs w base e (some ⟨g, 0, none⟩) n cap l) (i : Nat) (hi : i < l.length) :
    w.cell? ⟨g, i, none⟩ = some (.int .u8 (by8 l[i])) ∧ w.frozen? ⟨g, i, none⟩ = false ∧ g < w.heap.size ∧ n ≤ cap := by
  obtain ⟨hl, ⟨h, _⟩ | ⟨g', cur, fz, hg', hbg, hg, hfz, hnc, hcm, hcs, ht⟩⟩ := h
  · cases h
  · cases hg'
    have h1 : (cur.toList.take n)[i]? = some (.int .u8 (by8 l[i])) := by rw [ht]; simp [hi]
    rw [List.getElem?_take] at h1
    refine ⟨?_, ?_, blk_lt hg, hnc⟩
    · rw [cell_of_row w g i _ _ _ hg]
      split at h1
      · simpa using h1
      · cases h1
    · have := hfz i (by omega)
      simp [World.frozen?, hg]; omega
theorem MarkIs.set {w : World} {base : Nat} {e : TypeId} {g n cap : Nat} {l : List UInt8} (h : MarkIs w base e (some ⟨g, 0, none⟩) n cap l) (i : Nat) (_ : i < l.length) (b : UInt8) :
    MarkIs (w.setCell ⟨g, i, none⟩ (.int .u8 (by8 b))) base e (some ⟨g, 0, none⟩) n cap (l.set i b) := by
  obtain ⟨hl, ⟨h, _⟩ | ⟨g', cur, fz, hg', hbg, hg, hfz, hnc, hcm, hcs, ht⟩⟩ := h
  · cases h
  · cases hg'
    refine ⟨by rw [List.length_set]; exact hl, .inr ⟨g, cur.setIfInBounds i (.int .u8 (by8 b)), fz, rfl, hbg, heap_set _ hg, ?_, hnc, hcm, by rw [Array.size_setIfInBounds]; exact hcs, ?_⟩⟩
    · rw [Array.size_setIfInBounds]; exact hfz
    · rw [Array.toList_setIfInBounds, List.take_set, ht, ← List.map_set]
/-- The text of a row that '[]byte(s)' has laid, be it empty or not. -/
theorem MarkIs.text0 {P : Program} {w : World} {base : Nat} {e : TypeId} {g n cap : Nat} {l : List UInt8} (h : MarkIs w base e (some ⟨g, 0, none⟩) n cap l) (src dst : TypeId) (hs : P.underlying src = some (.slice e)) (he : P.underlying e = some (.int .u8)) (hd : P.underlying dst = some .string) :
    (convert src dst (.slice (some ⟨g, 0, none⟩) n cap)).run P w = .ok (.string ⟨l.toArray⟩) w := by
  obtain ⟨hl, ⟨h, _⟩ | ⟨g', cur, fz, hg', hbg, hg, hfz, hnc, hcm, hcs, ht⟩⟩ := h
  · cases h
  · cases hg'
    refine run_string_of (P := P) w src dst e g cap l cur e fz n hl.symm hs he hd hg ?_
    intro j hj
    have h1 : (cur.toList.take n)[j]? = some (.int .u8 (by8 l[j])) := by rw [ht]; simp [hj]
    rw [List.getElem?_take] at h1
    split at h1
    · simpa using h1
    · cases h1

set_option maxRecDepth 20000 in
set_option maxHeartbeats 4000000 in
theorem turned_any (t : ByteArray) (b : UInt8) (w : World) (ht : t.size ≤ 1073741824) :
    Calls Tryz.prog 19 #[.string t, .int .u8 (by8 b)] w fun e w' => (∃ r, e = .returned (.string r) ∧ (L r).take 5 = (L t).take 5 ∧ (L r).length = (L t).length) ∧ Below w.heap.size w w' := by
  obtain ⟨cp, W0, hconv, hmk, hbw⟩ := MarkIs.of_bytes (P := Tryz.prog) w 9 76 5 t Tryz.underlying9 Tryz.underlying76 Tryz.underlying5 (by unfold maxLen; omega)
  have HMK := Lib.hid hmk
  have HBW := Lib.hid hbw
  have htI : (0 : Int) ≤ t.size ∧ (t.size : Int) ≤ 1073741824 := by omega
  clear hmk hbw ht
  go_enter Tryz.func19, Tryz.ntmps19
  go_wp2_with fail
  go_loopw [6] (fun vi wr => ∃ (i : Nat) (l : List UInt8), 5 ≤ i ∧ vi = .int .i64 i ∧ i ≤ t.size + 5 ∧ MarkIs wr w.heap.size 5 (some ⟨w.heap.size, 0, none⟩) t.size cp l ∧ l.take 5 = (L t).take 5 ∧ Below w.heap.size w wr) (fun vi _ => t.size + 5 - (intOf vi).toNat)
  case atStart => exact ⟨5, L t, Nat.le_refl _, rfl, by omega, HMK.out, rfl, HBW.out⟩
  case round =>
    obtain ⟨i, l, h5, rfl, hi, hmk, htk, hbr⟩ := hrel
    have HMR := Lib.hid hmk
    have HTK := Lib.hid htk
    have HBR := Lib.hid hbr
    have hiI : (5 : Int) ≤ i ∧ (i : Int) ≤ 1073741829 := by omega
    clear hmk htk hbr hconv
    by_cases hlt : i < t.size
    · have hlI : (i : Int) < t.size := by omega
      have hil : i < l.length := by rw [HMR.out.1]; exact hlt
      obtain ⟨m1, m2, m3, m4⟩ := HMR.out.byte i hil
      have hset := HMR.out.set i hil (l[i] ^^^ b)
      have HSET := Lib.hid hset
      have hbs : Below w.heap.size w (wr.setCell ⟨w.heap.size, i, none⟩ (.int .u8 (by8 (l[i] ^^^ b)))) := ⟨HBR.out.os, HBR.out.tape, HBR.out.output, by simp [World.setCell]; exact HBR.out.size, fun k hk => by rw [heap_setCell_other _ _ _ _ (by show k ≠ w.heap.size; omega)]; exact HBR.out.block k hk⟩
      have HBS := Lib.hid hbs
      obtain ⟨q, hq⟩ : ∃ q, q = l[i] := ⟨_, rfl⟩
      rw [← hq] at m1
      have HQ := Lib.hid hq
      clear hset hbs hq
      go_wp2_with fail
      go_roundw
      case rel =>
        have e := HSET.out
        have e2 := HBS.out
        rw [← HQ.out] at e e2
        refine ⟨i + 1, _, by omega, by go_num, by omega, e, ?_, e2⟩
        rw [List.take_set_of_le h5]
        exact HTK.out
      case measure => simp [intOf]; omega
    · have hcv := HMR.out.text0 (P := Tryz.prog) 76 9 Tryz.underlying76 Tryz.underlying5 Tryz.underlying9
      have hlI : ¬ (i : Int) < t.size := by omega
      go_wp2_with fail
      exact bodyPost_ret (v := .string ⟨l.toArray⟩) (by simp [results, Tryz.results19, go_sem]) rfl ⟨⟨_, rfl, HTK.out, HMR.out.1.trans (L_size t).symm⟩, HBR.out⟩

end Go.Proofs.YtjgnomjjphkfbaaGreat
