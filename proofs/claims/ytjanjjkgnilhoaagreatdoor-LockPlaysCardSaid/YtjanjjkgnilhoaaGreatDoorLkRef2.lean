/-
  THE WALKS of the document's answer for layer 16: pieces, prefixes, what a path is under.
-/
import Derived.Test.YtjanjjkgnilhoaaGreatDoorLkRef
import Derived.BigQuiet
namespace Go.Proofs.YtjanjjkgnilhoaaGreatDoor
open Go.RowKit

abbrev srow (ps : List ByteArray) : List (List Value) := ps.map fun t => [Value.string t]
theorem srow_at {w : World} {a : Option Addr} {ps : List ByteArray} (h : RowIs w 1 a (srow ps)) (i : Nat) (hi : i < ps.length) : ∃ g off t, a = some ⟨g, off, none⟩ ∧ t = ps[i]'hi ∧ w.cell? ⟨g, off + i, none⟩ = some (.string t) := by
  obtain ⟨g, off, e, hc⟩ := RowIs.cell1 (f := Value.string) h i hi
  exact ⟨g, off, _, e, rfl, hc⟩

set_option maxRecDepth 20000 in
set_option maxHeartbeats 2000000 in
theorem rpieces_any (s : ByteArray) (w : World) : Calls Tryz.prog 43 #[.string s] w fun e w' => ∃ (a : Option Addr) (cap : Nat) (ps : List ByteArray), e = .returned (.slice a ps.length cap) ∧ ps.map L = Lk.pieces (L s) ∧ RowIs w' 1 a (srow ps) ∧ ps.length ≤ 129 ∧ Below w.heap.size w w' := by
  by_cases h1 : s.size ≤ 128
  · have h1I : (s.size : Int) ≤ 128 := by omega
    have HC := Lib.hid (rcut_any s w h1)
    have HP : Hid (Lk.pathB (L s) = (decide ((Lk.spl (L s)).length ≤ 8) && (Lk.spl (L s)).all Lk.pieceB)) := Lib.hid (by unfold Lk.pathB; rw [L_size, decide_eq_true h1]; rfl)
    clear h1
    go_enter Tryz.func43, Tryz.ntmps43
    go_wp2_with fail
    refine HC.out.mono ?_
    rintro e w1 ⟨a, cap, ps, rfl, hps, hrow, hlen, hb⟩
    have HPS := Lib.hid hps
    have HR := Lib.hid hrow
    have HB := Lib.hid hb
    have HLN := Lib.hid hlen
    have hlI : (0 : Int) ≤ ps.length ∧ (ps.length : Int) ≤ 129 := by omega
    clear hps hrow hlen hb HC
    by_cases h8 : ps.length ≤ 8
    · have h8I : (ps.length : Int) ≤ 8 := by omega
      have HQ : Hid (Lk.pathB (L s) = ps.all fun t => Lk.pieceB (L t)) := Lib.hid (by rw [HP.out, ← HPS.out, List.length_map, decide_eq_true h8, Bool.true_and, List.all_map]; rfl)
      clear h8
      go_wp2_with fail
      go_loop [4] (fun vi => ∃ i : Nat, i ≤ ps.length ∧ vi = .int .i64 i ∧ ∀ k (h : k < ps.length), k < i → Lk.pieceB (L (ps[k]'h)) = true) (fun vi => ps.length - (intOf vi).toNat)
      case atStart => exact ⟨0, Nat.zero_le _, rfl, fun k _ h => by omega⟩
      case round =>
        obtain ⟨i, hi, rfl, hk⟩ := hrel
        have HK := Lib.hid hk
        clear hk
        by_cases hlt : i < ps.length
        · obtain ⟨g, off, t, rfl, ht, hc⟩ := srow_at HR.out i hlt
          have hiI : (0 : Int) ≤ i ∧ (i : Int) < ps.length := by omega
          have HTT := Lib.hid ht
          have HRP := Lib.hid (fun wz => rpiece_any t wz)
          clear ht
          cases hp : Lk.pieceB (L t) with
          | true =>
            rw [hp] at HRP
            have HPT := Lib.hid hp
            clear hp
            go_wp2_with fail
            refine (HRP.out _).mono ?_
            rintro e w2 ⟨rfl, rfl⟩
            go_wp2_with fail
            go_roundw
            case rel =>
              refine ⟨i + 1, by omega, by go_num, fun k h hk => ?_⟩
              by_cases e : k = i
              · subst e; rw [← HTT.out]; exact HPT.out
              · exact HK.out k h (by omega)
            case measure => simp [intOf]; omega
          | false =>
            rw [hp] at HRP
            have HPT := Lib.hid hp
            have HLT := Lib.hid hlt
            clear hp
            go_wp2_with fail
            refine (HRP.out _).mono ?_
            rintro e w2 ⟨rfl, rfl⟩
            go_wp2_with fail
            go_ret
            have hall : Lk.pathB (L s) = false := by
              rw [HQ.out, List.all_eq_false]
              exact ⟨ps[i]'HLT.out, List.getElem_mem _, by rw [← HTT.out, HPT.out]; simp⟩
            exact ⟨none, 0, [], rfl, (by unfold Lk.pieces; rw [hall]; rfl), RowIs.nil _ _ _, by simp, HB.out⟩
        · obtain rfl : i = ps.length := by omega
          go_wp2_with fail
          go_ret
          have hall : Lk.pathB (L s) = true := by
            rw [HQ.out, List.all_eq_true]
            intro t ht
            obtain ⟨k, hk, rfl⟩ := List.getElem_of_mem ht
            exact HK.out k hk hk
          exact ⟨a, cap, ps, rfl, (by unfold Lk.pieces; rw [hall, HPS.out]; rfl), HR.out, HLN.out, HB.out⟩
    · have h8I : (8 : Int) < ps.length := by omega
      have HQ : Hid (Lk.pathB (L s) = false) := Lib.hid (by rw [HP.out, ← HPS.out, List.length_map, decide_eq_false h8]; rfl)
      clear h8
      go_wp2_with fail
      go_ret
      exact ⟨none, 0, [], rfl, (by unfold Lk.pieces; rw [HQ.out]; rfl), RowIs.nil _ _ _, by simp, HB.out⟩
  · have h1I : (128 : Int) < s.size := by omega
    have HQ : Hid (Lk.pathB (L s) = false) := Lib.hid (by unfold Lk.pathB; rw [L_size, decide_eq_false h1]; rfl)
    clear h1
    go_enter Tryz.func43, Tryz.ntmps43
    go_wp2_with fail
    go_ret
    exact ⟨none, 0, [], rfl, (by unfold Lk.pieces; rw [HQ.out]; rfl), RowIs.nil _ _ _, by simp, Below.refl _ _⟩
theorem pos_pieces {s : ByteArray} {ps : List ByteArray} (h : ps.map L = Lk.pieces (L s)) : decide (0 < ps.length) = Lk.pathB (L s) := by
  rw [← Lk.pieces_pos, ← h, List.length_map]

set_option maxHeartbeats 1000000 in
theorem rpref_any (s : ByteArray) (w : World) : Calls Tryz.prog 44 #[.string s] w fun e w' => e = .returned (.bool (Lk.prefB (L s))) ∧ Below w.heap.size w w' := by
  have HC := Lib.hid (rpieces_any s w)
  by_cases h : s = ⟨#[]⟩
  · subst h
    have hp : Lk.prefB (L ⟨#[]⟩) = true := rfl
    rw [hp]
    clear HC
    go_enter Tryz.func44, Tryz.ntmps44
    go_wp2_with fail
    go_ret
    exact ⟨rfl, Below.refl _ _⟩
  · have HR : Hid (Lk.prefB (L s) = Lk.pathB (L s)) := Lib.hid (by rw [pref_eq, decide_eq_false h]; rfl)
    have hE := noE h
    have hE2 := noE2 h
    clear h
    go_enter Tryz.func44, Tryz.ntmps44
    go_wp2_with fail
    refine HC.out.mono ?_
    rintro e w1 ⟨a, cap, ps, rfl, hps, hrow, hlen, hb⟩
    have HX := Lib.hid (pos_pieces hps)
    have hlI : (0 : Int) ≤ ps.length ∧ (ps.length : Int) ≤ 129 := by omega
    clear hps hrow hlen HC
    go_wp2_with fail
    go_ret
    exact ⟨by rw [HR.out, ← HX.out]; rfl, hb⟩

theorem str_iff {a b : ByteArray} : (a.toList = b.toList) ↔ L a = L b := by rw [ByteArray.toList_eq, ByteArray.toList_eq]
set_option maxRecDepth 20000 in
set_option maxHeartbeats 2000000 in
theorem runder_any (p s : ByteArray) (w : World) : Calls Tryz.prog 62 #[.string p, .string s] w fun e w' => e = .returned (.bool (Lk.under (L p) (L s))) ∧ Below w.heap.size w w' := by
  have HC := Lib.hid (fun t wz => rpieces_any t wz)
  have HF := Lib.hid (fun wz => rpref_any p wz)
  have HU : Hid (Lk.under (L p) (L s) = (Lk.prefB (L p) && decide ((Lk.pieces (L p)).length < (Lk.pieces (L s)).length) && (Lk.pieces (L p)).isPrefixOf (Lk.pieces (L s)))) := Lib.hid (Lk.under_eq _ _).symm
  go_enter Tryz.func62, Tryz.ntmps62
  go_wp2_with fail
  refine (HC.out p _).mono ?_
  rintro e w1 ⟨a1, cap1, ps1, rfl, hps1, hrow1, hlen1, hb1⟩
  have hl1I : (0 : Int) ≤ ps1.length ∧ (ps1.length : Int) ≤ 129 := by omega
  clear hlen1
  go_wp2_with fail
  refine (HC.out s _).mono ?_
  rintro e w2 ⟨a2, cap2, ps2, rfl, hps2, hrow2, hlen2, hb2⟩
  have hl2I : (0 : Int) ≤ ps2.length ∧ (ps2.length : Int) ≤ 129 := by omega
  clear hlen2
  have HB := Lib.hid (hb1.trans (hb2.mono hb1.size))
  have HR1 := Lib.hid (hrow1.keep hb2)
  have HR2 := Lib.hid hrow2
  have hUU := HU.out
  rw [← hps1, ← hps2, List.length_map, List.length_map] at hUU
  have HUU := Lib.hid hUU
  clear hb1 hb2 hrow1 hrow2 hps1 hps2 hUU HU HC
  go_wp2_with fail
  refine (HF.out _).mono ?_
  rintro e w3 ⟨rfl, hb3⟩
  have HB3 := Lib.hid (HB.out.trans (hb3.mono HB.out.size))
  have HR31 := Lib.hid (HR1.out.keep hb3)
  have HR32 := Lib.hid (HR2.out.keep hb3)
  clear hb3 HB HR1 HR2 HF
  cases hp : Lk.prefB (L p) with
  | false =>
    have HV : Hid (Lk.under (L p) (L s) = false) := Lib.hid (by rw [HUU.out, hp]; rfl)
    go_wp2_with fail
    go_ret
    exact ⟨by rw [HV.out]; rfl, HB3.out⟩
  | true =>
    by_cases hlt : ps1.length < ps2.length
    · have hltI : (ps1.length : Int) < ps2.length := by omega
      have HV : Hid (Lk.under (L p) (L s) = (ps1.map L).isPrefixOf (ps2.map L)) := Lib.hid (by rw [HUU.out, hp, decide_eq_true hlt]; rfl)
      have HLT : Hid (ps1.length < ps2.length ∧ True) := Lib.hid ⟨hlt, trivial⟩
      clear hp hlt HUU
      go_wp2_with fail
      go_loopw [7] (fun vi wr => ∃ i : Nat, i ≤ ps1.length ∧ vi = .int .i64 i ∧ (∀ k, k < i → (ps1.map L)[k]? = (ps2.map L)[k]?) ∧ Own w3.heap.size w3 wr) (fun vi _ => ps1.length - (intOf vi).toNat)
      case atStart => exact ⟨0, Nat.zero_le _, rfl, fun k h => by omega, Own.refl w3⟩
      case round =>
        obtain ⟨i, hi, rfl, hk, hO⟩ := hrel
        have HK := Lib.hid hk
        have HO := Lib.hid hO
        clear hk hO
        by_cases hlt : i < ps1.length
        · have hlt2 : i < ps2.length := by have := HLT.out.1; omega
          obtain ⟨g1, o1, t1, rfl, ht1, hc1⟩ := srow_at (HR31.out.keep HO.out.below) i hlt
          obtain ⟨g2, o2, t2, rfl, ht2, hc2⟩ := srow_at (HR32.out.keep HO.out.below) i hlt2
          have hiI : (0 : Int) ≤ i ∧ (i : Int) < ps1.length ∧ (i : Int) < ps2.length := by omega
          have e1 : (ps1.map L)[i]? = some (L t1) := by rw [List.getElem?_map, List.getElem?_eq_getElem hlt, ht1]; rfl
          have e2 : (ps2.map L)[i]? = some (L t2) := by rw [List.getElem?_map, List.getElem?_eq_getElem hlt2, ht2]; rfl
          have HE1 := Lib.hid e1
          have HE2 := Lib.hid e2
          clear ht1 ht2 e1 e2
          by_cases hq : t1.toList = t2.toList
          · have HQ := Lib.hid (str_iff.1 hq)
            have hqb : (t1.toList == t2.toList) = true := by rw [hq]; simp
            have hqb2 : (t1.toList != t2.toList) = false := by rw [hq]; simp
            clear hq
            go_wp2_with fail
            go_quiet (fail)
            go_wp2_with fail
            go_roundw
            case rel =>
              refine ⟨i + 1, by omega, by go_num, fun k hk => ?_, HO.out.drewN _⟩
              by_cases e : k = i
              · subst e; rw [HE1.out, HE2.out, HQ.out]
              · exact HK.out k (by omega)
            case measure => simp [intOf]; omega
          · have HQ := Lib.hid (fun h => hq (str_iff.2 h))
            have hqb : (t1.toList == t2.toList) = false := by rw [beq_eq_false_iff_ne]; exact hq
            have hqb2 : (t1.toList != t2.toList) = true := by rw [bne_iff_ne]; exact hq
            clear hq
            go_wp2_with fail
            go_quiet (fail)
            go_wp2_with fail
            go_ret
            refine ⟨?_, HB3.out.trans ((HO.out.drewN _).below.mono HB3.out.size)⟩
            have hf : (ps1.map L).isPrefixOf (ps2.map L) = false := by
              cases hx : (ps1.map L).isPrefixOf (ps2.map L) with
              | false => rfl
              | true =>
                exfalso
                obtain ⟨r, hr⟩ := List.isPrefixOf_iff_prefix.1 hx
                have h1 := HE2.out
                have h0 := HE1.out
                rw [← hr, List.getElem?_append_left (by exact (List.getElem?_eq_some_iff.1 h0).1), h0] at h1
                injection h1 with h1
                exact HQ.out h1
            rw [HV.out, hf]
            rfl
        · obtain rfl : i = ps1.length := by omega
          go_wp2_with fail
          go_ret
          refine ⟨?_, HB3.out.trans (HO.out.below.mono HB3.out.size)⟩
          have hf : (ps1.map L).isPrefixOf (ps2.map L) = true := by
            rw [List.isPrefixOf_iff_prefix, List.prefix_iff_eq_take]
            apply List.ext_getElem?
            intro k
            rw [List.length_map]
            by_cases hk : k < ps1.length
            · rw [List.getElem?_take_of_lt hk]; exact HK.out k hk
            · rw [List.getElem?_eq_none (by rw [List.length_map]; omega), List.getElem?_eq_none (by rw [List.length_take]; omega)]
          rw [HV.out, hf]
          rfl
    · have hltI : (ps2.length : Int) ≤ ps1.length := by omega
      have HV : Hid (Lk.under (L p) (L s) = false) := Lib.hid (by rw [HUU.out, decide_eq_false hlt]; simp)
      clear hlt hp HUU
      go_wp2_with fail
      go_ret
      exact ⟨by rw [HV.out]; rfl, HB3.out⟩

end Go.Proofs.YtjanjjkgnilhoaaGreatDoor
