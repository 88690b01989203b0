/-
  THE WALKS of the document's answer for layer 16: a piece, a text cut at its slashes.
-/
import Derived.Test.YtjanjjkgnilhoaaGreatDoorLkMay
import Derived.Test.YtjanjjkgnilhoaaGreatDoorLists
namespace Go.Proofs.YtjanjjkgnilhoaaGreatDoor
open Go.RowKit

attribute [local go_sem ↓ high] appSem_eq

theorem L_at (s : ByteArray) (i : Nat) (h : i < s.size) : (L s)[i]'(by rw [L_size]; exact h) = s[i] := rfl
theorem good_cases (c : UInt8) : (Lk.good c = true ∧ (97 ≤ c.toNat ∧ c.toNat ≤ 122 ∨ 48 ≤ c.toNat ∧ c.toNat ≤ 57 ∨ c.toNat = 46 ∨ c.toNat = 95 ∨ c.toNat = 45)) ∨ (Lk.good c = false ∧ (c.toNat ≠ 46 ∧ c.toNat ≠ 95 ∧ c.toNat ≠ 45) ∧ (c.toNat < 48 ∨ 57 < c.toNat ∧ c.toNat < 97 ∨ 122 < c.toNat)) := by
  cases h : Lk.good c with
  | true =>
    unfold Lk.good at h
    simp only [Bool.and_eq_true, Bool.or_eq_true, decide_eq_true_eq] at h
    exact .inl ⟨rfl, by omega⟩
  | false =>
    unfold Lk.good at h
    simp only [Bool.or_eq_false_iff, Bool.and_eq_false_iff, decide_eq_false_iff_not] at h
    exact .inr ⟨rfl, by omega, by omega⟩

set_option maxRecDepth 20000 in
set_option maxHeartbeats 2000000 in
theorem rpiece_any (s : ByteArray) (w : World) : Calls Tryz.prog 60 #[.string s] w fun e w' => e = .returned (.bool (Lk.pieceB (L s))) ∧ w' = w := by
  have hP : Lk.pieceB (L s) = (decide (1 ≤ s.size) && decide (s.size ≤ 32) && (L s).all Lk.good) := by unfold Lk.pieceB; rw [L_size]
  have HP := Lib.hid hP
  clear hP
  by_cases h1 : 1 ≤ s.size
  · have h1I : (1 : Int) ≤ s.size := by omega
    by_cases h2 : s.size ≤ 32
    · have h2I : (s.size : Int) ≤ 32 := by omega
      have HR : Hid (Lk.pieceB (L s) = (L s).all Lk.good) := Lib.hid (by rw [HP.out, decide_eq_true h1, decide_eq_true h2]; rfl)
      clear h1 h2 HP
      go_enter Tryz.func60, Tryz.ntmps60
      go_wp2_with fail
      go_loop [3] (fun vi => ∃ i : Nat, i ≤ s.size ∧ vi = .int .i64 i ∧ ∀ k (h : k < s.size), k < i → Lk.good s[k] = true) (fun vi => s.size - (intOf vi).toNat)
      case atStart => exact ⟨0, Nat.zero_le _, rfl, fun k _ h => by omega⟩
      case round =>
        obtain ⟨i, hi, rfl, hk⟩ := hrel
        have HK := Lib.hid hk
        clear hk
        by_cases hlt : i < s.size
        · have hiI : (0 : Int) ≤ i ∧ (i : Int) < s.size := by omega
          have HC := Lib.hid (good_cases (s[i]'hlt))
          have HT := Lib.hid hlt
          obtain ⟨v, hv⟩ : ∃ v, (s[i]'hlt).toNat = v := ⟨_, rfl⟩
          have hv255 := (s[i]'hlt).toNat_lt
          have hg := HC.out
          rw [hv] at hg hv255
          have hvI : (0 : Int) ≤ v ∧ (v : Int) ≤ 255 := by omega
          rcases hg with ⟨hg, hc⟩ | ⟨hg, ⟨n1, n2, n3⟩, hc⟩
          · have HG := Lib.hid hg
            have hcI : ((97 : Int) ≤ v ∧ (v : Int) ≤ 122) ∨ ((48 : Int) ≤ v ∧ (v : Int) ≤ 57) ∨ (v : Int) = 46 ∨ (v : Int) = 95 ∨ (v : Int) = 45 := by omega
            clear hg hc hv255
            rcases hcI with hcI | hcI | hcI | hcI | hcI
            all_goals
              go_wp2_with fail
              go_roundw
              case rel =>
                refine ⟨i + 1, by omega, by go_num, fun k h hk => ?_⟩
                by_cases e : k = i
                · subst e; exact HG.out
                · exact HK.out k h (by omega)
              case measure => simp [intOf]; omega
          · have HG := Lib.hid hg
            have m1 : ((v : Int) == 46) = false := by rw [beq_eq_false_iff_ne]; omega
            have m2 : ((v : Int) == 95) = false := by rw [beq_eq_false_iff_ne]; omega
            have m3 : ((v : Int) == 45) = false := by rw [beq_eq_false_iff_ne]; omega
            have hcI : ((v : Int) < 48) ∨ ((57 : Int) < v ∧ (v : Int) < 97) ∨ (122 : Int) < v := by omega
            clear hg hc n1 n2 n3 hv255
            rcases hcI with hcI | hcI | hcI
            · have hd : decide ((97 : Int) ≤ v) = false := decide_eq_false (by omega)
              go_wp2_with fail
              go_ret
              refine ⟨?_, rfl⟩
              have hall : (L s).all Lk.good = false := by
                rw [List.all_eq_false]
                exact ⟨s[i]'HT.out, by rw [← L_at s i HT.out]; exact List.getElem_mem _, by rw [HG.out]; simp⟩
              rw [HR.out, hall]
              rfl
            · have hd : decide ((v : Int) ≤ 57) = false := decide_eq_false (by omega)
              go_wp2_with fail
              go_ret
              refine ⟨?_, rfl⟩
              have hall : (L s).all Lk.good = false := by
                rw [List.all_eq_false]
                exact ⟨s[i]'HT.out, by rw [← L_at s i HT.out]; exact List.getElem_mem _, by rw [HG.out]; simp⟩
              rw [HR.out, hall]
              rfl
            · have hd : decide ((v : Int) ≤ 57) = false := decide_eq_false (by omega)
              have hd2 : decide ((v : Int) ≤ 122) = false := decide_eq_false (by omega)
              go_wp2_with fail
              go_ret
              refine ⟨?_, rfl⟩
              have hall : (L s).all Lk.good = false := by
                rw [List.all_eq_false]
                exact ⟨s[i]'HT.out, by rw [← L_at s i HT.out]; exact List.getElem_mem _, by rw [HG.out]; simp⟩
              rw [HR.out, hall]
              rfl
        · obtain rfl : i = s.size := by omega
          go_wp2_with fail
          go_ret
          refine ⟨?_, rfl⟩
          have hall : (L s).all Lk.good = true := (all_good s).2 fun i h => HK.out i h h
          rw [HR.out, hall]
          rfl
    · have h2I : (32 : Int) < s.size := by omega
      have HR : Hid (Lk.pieceB (L s) = false) := Lib.hid (by rw [HP.out, decide_eq_false h2]; simp)
      clear h1 h2
      go_enter Tryz.func60, Tryz.ntmps60
      go_wp2_with fail
      go_ret
      exact ⟨by rw [HR.out]; rfl, rfl⟩
  · have h1I : (s.size : Int) < 1 := by omega
    have HR : Hid (Lk.pieceB (L s) = false) := Lib.hid (by rw [HP.out, decide_eq_false h1]; simp)
    clear h1
    go_enter Tryz.func60, Tryz.ntmps60
    go_wp2_with fail
    go_ret
    exact ⟨by rw [HR.out]; rfl, rfl⟩

theorem strInfo : (Tryz.prog.info? 9).map (fun i => (i.zero, i.size, i.bytes)) = some (some (.string ⟨#[]⟩), 1, 16) := by kernel_rfl
/-- Where the cutting stands: the pieces, and the one under way. -/
def Cutting (s : ByteArray) (at0 i : Nat) (ps : List ByteArray) : Prop :=
  at0 ≤ i ∧ (∀ c ∈ ((L s).drop at0).take (i - at0), c ≠ 47) ∧ (i ≤ s.size → ps.map L ++ Lk.spl ((L s).drop at0) = Lk.spl (L s)) ∧ (s.size < i → ps.map L = Lk.spl (L s)) ∧ ps.length ≤ i
theorem Cutting.start (s : ByteArray) : Cutting s 0 0 [] := ⟨Nat.le_refl _, by simp, fun _ => by simp, fun h => by omega, Nat.le_refl _⟩
theorem Cutting.on {s : ByteArray} {at0 i : Nat} {ps : List ByteArray} (h : Cutting s at0 i ps) (hi : i < s.size) (hc : s[i] ≠ 47) : Cutting s at0 (i + 1) ps := by
  obtain ⟨h1, h2, h3, h4, h5⟩ := h
  refine ⟨by omega, fun c hc' => ?_, fun h => h3 (by omega), fun h => by omega, by omega⟩
  rw [show i + 1 - at0 = (i - at0) + 1 by omega, List.take_add_one] at hc'
  rcases List.mem_append.1 hc' with hm | hm
  · exact h2 c hm
  · rw [List.getElem?_drop, show at0 + (i - at0) = i by omega, List.getElem?_eq_getElem (by rw [L_size]; exact hi)] at hm
    simp at hm
    rw [hm]; exact hc
theorem take_L (s : ByteArray) (a b : Nat) : L (s.extract a b) = ((L s).drop a).take (b - a) := by
  rw [L_extract2]
where
  L_extract2 : L (s.extract a b) = ((L s).drop a).take (b - a) := by
    simp [L, ByteArray.data_extract, Array.toList_extract, List.extract_eq_take_drop]
theorem Cutting.cut {s : ByteArray} {at0 i : Nat} {ps : List ByteArray} (h : Cutting s at0 i ps) (hi : i < s.size) (hc : s[i] = 47) : Cutting s (i + 1) (i + 1) (ps ++ [s.extract at0 i]) := by
  obtain ⟨h1, h2, h3, h4, h5⟩ := h
  refine ⟨Nat.le_refl _, by simp, fun _ => ?_, fun h => by omega, by simp; omega⟩
  have e : (L s).drop at0 = ((L s).drop at0).take (i - at0) ++ 47 :: (L s).drop (i + 1) := by
    conv => lhs; rw [← List.take_append_drop (i - at0) ((L s).drop at0)]
    rw [List.drop_drop, show at0 + (i - at0) = i by omega]
    have e2 : (L s).drop i = 47 :: (L s).drop (i + 1) := by
      rw [List.drop_eq_getElem_cons (by rw [L_size]; exact hi), L_at s i hi, hc]
    rw [e2]
  have := h3 (by omega)
  rw [e, Lk.spl_at h2] at this
  rw [List.map_append, List.append_assoc, ← this, List.map_cons, List.map_nil, take_L]
  rfl
theorem Cutting.last {s : ByteArray} {at0 : Nat} {ps : List ByteArray} (h : Cutting s at0 s.size ps) : Cutting s (s.size + 1) (s.size + 1) (ps ++ [s.extract at0 s.size]) := by
  obtain ⟨h1, h2, h3, h4, h5⟩ := h
  refine ⟨Nat.le_refl _, by simp, fun h => by omega, fun _ => ?_, by simp; omega⟩
  have e : ((L s).drop at0).take (s.size - at0) = (L s).drop at0 := List.take_of_length_le (by rw [List.length_drop, L_size]; exact Nat.le_refl _)
  have := h3 (Nat.le_refl _)
  rw [e] at h2
  rw [Lk.spl_none h2] at this
  rw [List.map_append, ← this, List.map_cons, List.map_nil, take_L, e]

set_option maxRecDepth 20000 in
set_option maxHeartbeats 2000000 in
theorem rcut_any (s : ByteArray) (w : World) (hs : s.size ≤ 128) : Calls Tryz.prog 59 #[.string s] w fun e w' => ∃ (a : Option Addr) (cap : Nat) (ps : List ByteArray), e = .returned (.slice a ps.length cap) ∧ ps.map L = Lk.spl (L s) ∧ RowIs w' 1 a (ps.map fun t => [Value.string t]) ∧ ps.length ≤ 129 ∧ Below w.heap.size w w' := by
  have hsI : (s.size : Int) ≤ 128 := by omega
  have HO := Lib.hid (Own.refl w)
  have HS := Lib.hid hs
  clear hs
  go_enter Tryz.func59, Tryz.ntmps59
  go_wp2_with fail
  go_loopw [3, 4, 5] (fun vl va vi wr => ∃ (i at0 : Nat) (ps : List ByteArray) (a : Option Addr) (cap : Nat), i ≤ s.size + 1 ∧ vi = .int .i64 i ∧ va = .int .i64 at0 ∧ vl = .slice a ps.length cap ∧ Cutting s at0 i ps ∧ OL w wr 9 1 a cap (ps.map fun t => [Value.string t]) ∧ Own w.heap.size w wr) (fun _ _ vi _ => s.size + 1 - (intOf vi).toNat)
  case atStart => exact ⟨0, 0, [], none, 0, Nat.zero_le _, rfl, rfl, rfl, Cutting.start s, OL.nil _ _ _ _, HO.out⟩
  case round =>
    clear HO
    obtain ⟨i, at0, ps, a, cap, hi, rfl, rfl, rfl, hC, hL, hO⟩ := hrel
    have HC := Lib.hid hC
    have HLL := Lib.hid hL
    have HO := Lib.hid hO
    have hat := hC.1
    have hpl := hC.2.2.2.2
    clear hC hL hO
    have hatI : (0 : Int) ≤ at0 ∧ (at0 : Int) ≤ i := by omega
    by_cases hlt : i < s.size
    · have hiI : (0 : Int) ≤ i ∧ (i : Int) < s.size := by omega
      have HT := Lib.hid hlt
      have hne : ((i : Int) == (s.size : Int)) = false := by rw [beq_eq_false_iff_ne]; omega
      obtain ⟨v, hv⟩ : ∃ v, (s[i]'hlt).toNat = v := ⟨_, rfl⟩
      have HV := Lib.hid hv
      by_cases h47 : v = 47
      · have hvI : ((v : Int) == 47) = true := by rw [h47]; rfl
        have HCC := Lib.hid (HC.out.cut hlt (UInt8.toNat_inj.1 (by rw [hv, h47]; rfl)))
        obtain ⟨i0, hin, hz0, hz1, hz2⟩ := info_parts strInfo
        obtain ⟨s', cap', W2, hr, hL2, hO2, hK2⟩ := ol_push (P := Tryz.prog) Tryz.underlying82 hin hz0 hz1 hz2 rfl (by decide) (by decide) HO.out HLL.out [.string (s.extract at0 i)] rfl (by intro u hu; simp at hu; subst hu; rfl) (by rw [List.length_map]; omega)
        rw [List.length_map] at hr
        have HL2 := Lib.hid hL2
        have HO2 := Lib.hid hO2
        clear hin hz0 hz1 hz2 hL2 hO2 hK2 h47 HLL HO HC
        go_wp2_with fail
        go_roundw
        case rel => exact ⟨i + 1, i + 1, ps ++ [s.extract at0 i], s', cap', by have := HT.out; omega, by go_num, by go_num, by rw [List.length_append]; rfl, HCC.out, by rw [List.map_append]; exact HL2.out, HO2.out⟩
        case measure => have := HT.out; simp [intOf]; omega
      · have hvI : ((v : Int) == 47) = false := by rw [beq_eq_false_iff_ne]; omega
        have HCC := Lib.hid (HC.out.on hlt (fun e => h47 (by rw [← hv, e]; rfl)))
        clear h47 HC
        go_wp2_with fail
        go_roundw
        case rel => exact ⟨i + 1, at0, ps, a, cap, by have := HT.out; omega, by go_num, rfl, rfl, HCC.out, HLL.out, HO.out⟩
        case measure => have := HT.out; simp [intOf]; omega
    · by_cases hee : i = s.size
      · have hiI : (i : Int) = s.size := by omega
        have HCC : Hid (Cutting s (s.size + 1) (s.size + 1) (ps ++ [s.extract at0 s.size])) := Lib.hid (Cutting.last (hee ▸ HC.out))
        obtain ⟨i0, hin, hz0, hz1, hz2⟩ := info_parts strInfo
        obtain ⟨s', cap', W2, hr, hL2, hO2, hK2⟩ := ol_push (P := Tryz.prog) Tryz.underlying82 hin hz0 hz1 hz2 rfl (by decide) (by decide) HO.out HLL.out [.string (s.extract at0 s.size)] rfl (by intro u hu; simp at hu; subst hu; rfl) (by rw [List.length_map]; have := HS.out; omega)
        rw [List.length_map] at hr
        have HL2 := Lib.hid hL2
        have HO2 := Lib.hid hO2
        subst hee
        clear hin hz0 hz1 hz2 hL2 hO2 hK2 hlt HLL HO HC hiI
        go_wp2_with fail
        go_roundw
        case rel => exact ⟨s.size + 1, s.size + 1, ps ++ [s.extract at0 s.size], s', cap', Nat.le_refl _, by go_num, by go_num, by rw [List.length_append]; rfl, HCC.out, by rw [List.map_append]; exact HL2.out, HO2.out⟩
        case measure => simp [intOf]
      · have hiI : (s.size : Int) < i := by omega
        have HE : Hid (s.size < i) := Lib.hid (by omega)
        clear hlt hee
        go_wp2_with fail
        go_ret
        exact ⟨a, cap, ps, rfl, HC.out.2.2.2.1 HE.out, HLL.out.row, by have := HS.out; omega, HO.out.below⟩

end Go.Proofs.YtjanjjkgnilhoaaGreatDoor
