/-
  Joined out of the texts MsgRq MsgRqR.
-/
import Derived.Test.YtjgnomjjphkfbaaGreatREq
import Derived.Deep.DeepCutAuto
namespace Go.Proofs.YtjgnomjjphkfbaaGreat
open Go.RowKit

set_option maxRecDepth 20000 in
set_option maxHeartbeats 4000000 in
theorem ref_ints (a b : Option Addr) (c d : Nat) (l k : List Int) (w : World) (hl : RowIs w 1 a (l.map (fun a : Int => [Value.int .i64 a]))) (hk : RowIs w 1 b (k.map (fun a : Int => [Value.int .i64 a]))) (hn : l.length ≤ 100000) (hn2 : k.length ≤ 100000) :
    Calls Tryz.prog 63 #[.slice a l.length c, .slice b k.length d] w fun e w' => e = .returned (.bool (decide (l = k))) ∧ Below w.heap.size w w' := by
  have hlI : (0 : Int) ≤ l.length ∧ (l.length : Int) ≤ 100000 := by omega
  have hkI : (0 : Int) ≤ k.length ∧ (k.length : Int) ≤ 100000 := by omega
  have HL := Lib.hid hl
  have HK := Lib.hid hk
  have HO := Lib.hid (Own.refl w)
  obtain ⟨R, hR⟩ : ∃ R, R = decide (l = k) := ⟨_, rfl⟩
  rw [← hR]
  have HR := Lib.hid hR
  clear hl hk hn hn2 hR
  by_cases hln : l.length = k.length
  · have HLN := Lib.hid hln
    have hne : ((l.length : Int) != k.length) = false := by rw [hln]; simp
    clear hln
    go_enter Tryz.func63, Tryz.ntmps63
    go_wp2_with fail
    go_loopw [5] (fun vi wr => ∃ i : Nat, i ≤ l.length ∧ vi = .int .i64 i ∧ l.take i = k.take i ∧ Own w.heap.size w wr) (fun vi _ => l.length - (intOf vi).toNat)
    case atStart => exact ⟨0, Nat.zero_le _, rfl, rfl, HO.out⟩
    case round =>
      clear HO hne
      obtain ⟨i, hi, rfl, htk, hO⟩ := hrel
      have HTK := Lib.hid htk
      have HO := Lib.hid hO
      clear htk hO
      by_cases hlt : i < l.length
      · have hlt2 : i < k.length := by rw [← HLN.out]; exact hlt
        have hiI : (0 : Int) ≤ i ∧ (i : Int) < l.length ∧ (i : Int) < k.length := by omega
        obtain ⟨g, o, rfl, hc⟩ := HL.out.keep HO.out.drew.below i (by simpa using hlt)
        obtain ⟨g2, o2, rfl, hc2⟩ := HK.out.keep HO.out.drew.below i (by simpa using hlt2)
        obtain ⟨y, hy⟩ : ∃ y, y = l[i]'hlt := ⟨_, rfl⟩
        obtain ⟨z, hz⟩ : ∃ z, z = k[i]'hlt2 := ⟨_, rfl⟩
        have e1 : (l.map (fun a : Int => [Value.int .i64 a]))[i]'(by simpa using hlt) = (fun a : Int => [Value.int .i64 a]) y := by rw [List.getElem_map, hy]
        have e2 : (k.map (fun a : Int => [Value.int .i64 a]))[i]'(by simpa using hlt2) = (fun a : Int => [Value.int .i64 a]) z := by rw [List.getElem_map, hz]
        rw [e1] at hc
        rw [e2] at hc2
        have p0 : wr.drew.cell? ⟨g, o + i, none⟩ = some (.int .i64 y) := by simpa using hc.cell 0 (by simp)
        have r0 : wr.drew.cell? ⟨g2, o2 + i, none⟩ = some (.int .i64 z) := by simpa using hc2.cell 0 (by simp)
        have hcmp := int_bne y z
        obtain ⟨bb, hbb⟩ : ∃ bb, bb = decide (y = z) := ⟨_, rfl⟩
        first | rw [← hbb] at hcmp | skip
        have hcm2 := hbb.symm
        have HY : Hid (l[i]? = some y) := Lib.hid (by rw [List.getElem?_eq_getElem hlt, hy])
        have HZ : Hid (k[i]? = some z) := Lib.hid (by rw [List.getElem?_eq_getElem hlt2, hz])
        have HB := Lib.hid hbb
        clear hc hc2 e1 e2 hy hz hbb hlt hlt2
        cases bb with
        | true =>
          first | rw [Bool.not_true] at hcmp | skip
          go_wp2_with fail
          go_region
          all_goals
            go_wp2_with fail
            go_roundw
            case rel =>
              refine ⟨i + 1, by omega, by go_num, take_step HTK.out HY.out ?_, HO.out.drew⟩
              rw [HZ.out, of_decide_eq_true HB.out.symm]
            case measure => simp [intOf]; omega
        | false =>
          first | rw [Bool.not_false] at hcmp | skip
          go_wp2_with fail
          go_region
          all_goals
            go_wp2_with fail
            refine bodyPost_ret (v := .bool false) (by simp [results, Tryz.results63, go_sem]) rfl ⟨?_, HO.out.drew.below⟩
            have hne : l ≠ k := fun e => by
              have h1 : ¬ y = z := of_decide_eq_false HB.out.symm
              have h2 := HY.out
              rw [e, HZ.out] at h2
              exact h1 (Option.some.inj h2).symm
            rw [HR.out, decide_eq_false hne]
      · obtain rfl : i = l.length := by omega
        go_wp2_with fail
        refine bodyPost_ret (v := .bool true) (by simp [results, Tryz.results63, go_sem]) rfl ⟨?_, HO.out.below⟩
        rw [HR.out, decide_eq_true (take_all HTK.out HLN.out)]
  · have hne : ((l.length : Int) != k.length) = true := by rw [bne_iff_ne]; omega
    have hlk : l ≠ k := fun e => hln (by rw [e])
    have HLK := Lib.hid hlk
    clear hln hlk
    go_enter Tryz.func63, Tryz.ntmps63
    go_wp2_with fail
    refine bodyPost_ret (v := .bool false) (by simp [results, Tryz.results63, go_sem]) rfl ⟨?_, HO.out.below⟩
    rw [HR.out, decide_eq_false HLK.out]

set_option maxRecDepth 20000 in
set_option maxHeartbeats 4000000 in
theorem ref_names (a b : Option Addr) (c d : Nat) (l k : List ByteArray) (w : World) (hl : RowIs w 1 a (l.map (fun a : ByteArray => [Value.string a]))) (hk : RowIs w 1 b (k.map (fun a : ByteArray => [Value.string a]))) (hn : l.length ≤ 100000) (hn2 : k.length ≤ 100000) :
    Calls Tryz.prog 64 #[.slice a l.length c, .slice b k.length d] w fun e w' => e = .returned (.bool (decide (l = k))) ∧ Below w.heap.size w w' := by
  have hlI : (0 : Int) ≤ l.length ∧ (l.length : Int) ≤ 100000 := by omega
  have hkI : (0 : Int) ≤ k.length ∧ (k.length : Int) ≤ 100000 := by omega
  have HL := Lib.hid hl
  have HK := Lib.hid hk
  have HO := Lib.hid (Own.refl w)
  obtain ⟨R, hR⟩ : ∃ R, R = decide (l = k) := ⟨_, rfl⟩
  rw [← hR]
  have HR := Lib.hid hR
  clear hl hk hn hn2 hR
  by_cases hln : l.length = k.length
  · have HLN := Lib.hid hln
    have hne : ((l.length : Int) != k.length) = false := by rw [hln]; simp
    clear hln
    go_enter Tryz.func64, Tryz.ntmps64
    go_wp2_with fail
    go_loopw [5] (fun vi wr => ∃ i : Nat, i ≤ l.length ∧ vi = .int .i64 i ∧ l.take i = k.take i ∧ Own w.heap.size w wr) (fun vi _ => l.length - (intOf vi).toNat)
    case atStart => exact ⟨0, Nat.zero_le _, rfl, rfl, HO.out⟩
    case round =>
      clear HO hne
      obtain ⟨i, hi, rfl, htk, hO⟩ := hrel
      have HTK := Lib.hid htk
      have HO := Lib.hid hO
      clear htk hO
      by_cases hlt : i < l.length
      · have hlt2 : i < k.length := by rw [← HLN.out]; exact hlt
        have hiI : (0 : Int) ≤ i ∧ (i : Int) < l.length ∧ (i : Int) < k.length := by omega
        obtain ⟨g, o, rfl, hc⟩ := HL.out.keep HO.out.drew.below i (by simpa using hlt)
        obtain ⟨g2, o2, rfl, hc2⟩ := HK.out.keep HO.out.drew.below i (by simpa using hlt2)
        obtain ⟨y, hy⟩ : ∃ y, y = l[i]'hlt := ⟨_, rfl⟩
        obtain ⟨z, hz⟩ : ∃ z, z = k[i]'hlt2 := ⟨_, rfl⟩
        have e1 : (l.map (fun a : ByteArray => [Value.string a]))[i]'(by simpa using hlt) = (fun a : ByteArray => [Value.string a]) y := by rw [List.getElem_map, hy]
        have e2 : (k.map (fun a : ByteArray => [Value.string a]))[i]'(by simpa using hlt2) = (fun a : ByteArray => [Value.string a]) z := by rw [List.getElem_map, hz]
        rw [e1] at hc
        rw [e2] at hc2
        have p0 : wr.drew.cell? ⟨g, o + i, none⟩ = some (.string y) := by simpa using hc.cell 0 (by simp)
        have r0 : wr.drew.cell? ⟨g2, o2 + i, none⟩ = some (.string z) := by simpa using hc2.cell 0 (by simp)
        have hcmp := str_beq y z
        obtain ⟨bb, hbb⟩ : ∃ bb, bb = decide (y = z) := ⟨_, rfl⟩
        first | rw [← hbb] at hcmp | skip
        have hcm2 := hbb.symm
        have HY : Hid (l[i]? = some y) := Lib.hid (by rw [List.getElem?_eq_getElem hlt, hy])
        have HZ : Hid (k[i]? = some z) := Lib.hid (by rw [List.getElem?_eq_getElem hlt2, hz])
        have HB := Lib.hid hbb
        clear hc hc2 e1 e2 hy hz hbb hlt hlt2
        cases bb with
        | true =>
          first | rw [Bool.not_true] at hcmp | skip
          go_wp2_with fail
          go_region
          all_goals
            go_wp2_with fail
            go_roundw
            case rel =>
              refine ⟨i + 1, by omega, by go_num, take_step HTK.out HY.out ?_, HO.out.drew⟩
              rw [HZ.out, of_decide_eq_true HB.out.symm]
            case measure => simp [intOf]; omega
        | false =>
          first | rw [Bool.not_false] at hcmp | skip
          go_wp2_with fail
          go_region
          all_goals
            go_wp2_with fail
            refine bodyPost_ret (v := .bool false) (by simp [results, Tryz.results64, go_sem]) rfl ⟨?_, HO.out.drew.below⟩
            have hne : l ≠ k := fun e => by
              have h1 : ¬ y = z := of_decide_eq_false HB.out.symm
              have h2 := HY.out
              rw [e, HZ.out] at h2
              exact h1 (Option.some.inj h2).symm
            rw [HR.out, decide_eq_false hne]
      · obtain rfl : i = l.length := by omega
        go_wp2_with fail
        refine bodyPost_ret (v := .bool true) (by simp [results, Tryz.results64, go_sem]) rfl ⟨?_, HO.out.below⟩
        rw [HR.out, decide_eq_true (take_all HTK.out HLN.out)]
  · have hne : ((l.length : Int) != k.length) = true := by rw [bne_iff_ne]; omega
    have hlk : l ≠ k := fun e => hln (by rw [e])
    have HLK := Lib.hid hlk
    clear hln hlk
    go_enter Tryz.func64, Tryz.ntmps64
    go_wp2_with fail
    refine bodyPost_ret (v := .bool false) (by simp [results, Tryz.results64, go_sem]) rfl ⟨?_, HO.out.below⟩
    rw [HR.out, decide_eq_false HLK.out]

set_option maxRecDepth 20000 in
set_option maxHeartbeats 4000000 in
theorem ref_parts (a b : Option Addr) (c d : Nat) (l k : List Nat) (w : World) (hl : RowIs w 1 a (l.map (fun a : Nat => [Value.int .u32 a]))) (hk : RowIs w 1 b (k.map (fun a : Nat => [Value.int .u32 a]))) (hn : l.length ≤ 100000) (hn2 : k.length ≤ 100000) :
    Calls Tryz.prog 35 #[.slice a l.length c, .slice b k.length d] w fun e w' => e = .returned (.bool (decide (l = k))) ∧ Below w.heap.size w w' := by
  have hlI : (0 : Int) ≤ l.length ∧ (l.length : Int) ≤ 100000 := by omega
  have hkI : (0 : Int) ≤ k.length ∧ (k.length : Int) ≤ 100000 := by omega
  have HL := Lib.hid hl
  have HK := Lib.hid hk
  have HO := Lib.hid (Own.refl w)
  obtain ⟨R, hR⟩ : ∃ R, R = decide (l = k) := ⟨_, rfl⟩
  rw [← hR]
  have HR := Lib.hid hR
  clear hl hk hn hn2 hR
  by_cases hln : l.length = k.length
  · have HLN := Lib.hid hln
    have hne : ((l.length : Int) != k.length) = false := by rw [hln]; simp
    clear hln
    go_enter Tryz.func35, Tryz.ntmps35
    go_wp2_with fail
    go_loopw [5] (fun vi wr => ∃ i : Nat, i ≤ l.length ∧ vi = .int .i64 i ∧ l.take i = k.take i ∧ Own w.heap.size w wr) (fun vi _ => l.length - (intOf vi).toNat)
    case atStart => exact ⟨0, Nat.zero_le _, rfl, rfl, HO.out⟩
    case round =>
      clear HO hne
      obtain ⟨i, hi, rfl, htk, hO⟩ := hrel
      have HTK := Lib.hid htk
      have HO := Lib.hid hO
      clear htk hO
      by_cases hlt : i < l.length
      · have hlt2 : i < k.length := by rw [← HLN.out]; exact hlt
        have hiI : (0 : Int) ≤ i ∧ (i : Int) < l.length ∧ (i : Int) < k.length := by omega
        obtain ⟨g, o, rfl, hc⟩ := HL.out.keep HO.out.drew.below i (by simpa using hlt)
        obtain ⟨g2, o2, rfl, hc2⟩ := HK.out.keep HO.out.drew.below i (by simpa using hlt2)
        obtain ⟨y, hy⟩ : ∃ y, y = l[i]'hlt := ⟨_, rfl⟩
        obtain ⟨z, hz⟩ : ∃ z, z = k[i]'hlt2 := ⟨_, rfl⟩
        have e1 : (l.map (fun a : Nat => [Value.int .u32 a]))[i]'(by simpa using hlt) = (fun a : Nat => [Value.int .u32 a]) y := by rw [List.getElem_map, hy]
        have e2 : (k.map (fun a : Nat => [Value.int .u32 a]))[i]'(by simpa using hlt2) = (fun a : Nat => [Value.int .u32 a]) z := by rw [List.getElem_map, hz]
        rw [e1] at hc
        rw [e2] at hc2
        have p0 : wr.drew.cell? ⟨g, o + i, none⟩ = some (.int .u32 y) := by simpa using hc.cell 0 (by simp)
        have r0 : wr.drew.cell? ⟨g2, o2 + i, none⟩ = some (.int .u32 z) := by simpa using hc2.cell 0 (by simp)
        have hcmp := nat_bne y z
        obtain ⟨bb, hbb⟩ : ∃ bb, bb = decide (y = z) := ⟨_, rfl⟩
        first | rw [← hbb] at hcmp | skip
        have hcm2 := hbb.symm
        have HY : Hid (l[i]? = some y) := Lib.hid (by rw [List.getElem?_eq_getElem hlt, hy])
        have HZ : Hid (k[i]? = some z) := Lib.hid (by rw [List.getElem?_eq_getElem hlt2, hz])
        have HB := Lib.hid hbb
        clear hc hc2 e1 e2 hy hz hbb hlt hlt2
        cases bb with
        | true =>
          first | rw [Bool.not_true] at hcmp | skip
          go_wp2_with fail
          go_region
          all_goals
            go_wp2_with fail
            go_roundw
            case rel =>
              refine ⟨i + 1, by omega, by go_num, take_step HTK.out HY.out ?_, HO.out.drew⟩
              rw [HZ.out, of_decide_eq_true HB.out.symm]
            case measure => simp [intOf]; omega
        | false =>
          first | rw [Bool.not_false] at hcmp | skip
          go_wp2_with fail
          go_region
          all_goals
            go_wp2_with fail
            refine bodyPost_ret (v := .bool false) (by simp [results, Tryz.results35, go_sem]) rfl ⟨?_, HO.out.drew.below⟩
            have hne : l ≠ k := fun e => by
              have h1 : ¬ y = z := of_decide_eq_false HB.out.symm
              have h2 := HY.out
              rw [e, HZ.out] at h2
              exact h1 (Option.some.inj h2).symm
            rw [HR.out, decide_eq_false hne]
      · obtain rfl : i = l.length := by omega
        go_wp2_with fail
        refine bodyPost_ret (v := .bool true) (by simp [results, Tryz.results35, go_sem]) rfl ⟨?_, HO.out.below⟩
        rw [HR.out, decide_eq_true (take_all HTK.out HLN.out)]
  · have hne : ((l.length : Int) != k.length) = true := by rw [bne_iff_ne]; omega
    have hlk : l ≠ k := fun e => hln (by rw [e])
    have HLK := Lib.hid hlk
    clear hln hlk
    go_enter Tryz.func35, Tryz.ntmps35
    go_wp2_with fail
    refine bodyPost_ret (v := .bool false) (by simp [results, Tryz.results35, go_sem]) rfl ⟨?_, HO.out.below⟩
    rw [HR.out, decide_eq_false HLK.out]

attribute [local go_sem ↓ high] neq_own
set_option maxRecDepth 20000 in
set_option maxHeartbeats 4000000 in
theorem ref_own (a b : Option Addr) (c d : Nat) (l k : List Mg.Rng) (w : World) (hl : RowIs w 2 a (l.map Mg.Rng.cells)) (hk : RowIs w 2 b (k.map Mg.Rng.cells)) (hn : l.length ≤ 100000) (hn2 : k.length ≤ 100000) :
    Calls Tryz.prog 38 #[.slice a l.length c, .slice b k.length d] w fun e w' => e = .returned (.bool (decide (l = k))) ∧ Below w.heap.size w w' := by
  have hlI : (0 : Int) ≤ l.length ∧ (l.length : Int) ≤ 100000 := by omega
  have hkI : (0 : Int) ≤ k.length ∧ (k.length : Int) ≤ 100000 := by omega
  have HL := Lib.hid hl
  have HK := Lib.hid hk
  have HO := Lib.hid (Own.refl w)
  obtain ⟨R, hR⟩ : ∃ R, R = decide (l = k) := ⟨_, rfl⟩
  rw [← hR]
  have HR := Lib.hid hR
  clear hl hk hn hn2 hR
  by_cases hln : l.length = k.length
  · have HLN := Lib.hid hln
    have hne : ((l.length : Int) != k.length) = false := by rw [hln]; simp
    clear hln
    go_enter Tryz.func38, Tryz.ntmps38
    go_wp2_with fail
    go_loopw [5] (fun vi wr => ∃ i : Nat, i ≤ l.length ∧ vi = .int .i64 i ∧ l.take i = k.take i ∧ Own w.heap.size w wr) (fun vi _ => l.length - (intOf vi).toNat)
    case atStart => exact ⟨0, Nat.zero_le _, rfl, rfl, HO.out⟩
    case round =>
      clear HO hne
      obtain ⟨i, hi, rfl, htk, hO⟩ := hrel
      have HTK := Lib.hid htk
      have HO := Lib.hid hO
      clear htk hO
      by_cases hlt : i < l.length
      · have hlt2 : i < k.length := by rw [← HLN.out]; exact hlt
        have hiI : (0 : Int) ≤ i ∧ (i : Int) < l.length ∧ (i : Int) < k.length := by omega
        obtain ⟨g, o, rfl, hc⟩ := HL.out.keep HO.out.drew.below i (by simpa using hlt)
        obtain ⟨g2, o2, rfl, hc2⟩ := HK.out.keep HO.out.drew.below i (by simpa using hlt2)
        obtain ⟨y, hy⟩ : ∃ y, y = l[i]'hlt := ⟨_, rfl⟩
        obtain ⟨z, hz⟩ : ∃ z, z = k[i]'hlt2 := ⟨_, rfl⟩
        have e1 : (l.map Mg.Rng.cells)[i]'(by simpa using hlt) = Mg.Rng.cells y := by rw [List.getElem_map, hy]
        have e2 : (k.map Mg.Rng.cells)[i]'(by simpa using hlt2) = Mg.Rng.cells z := by rw [List.getElem_map, hz]
        rw [e1] at hc
        rw [e2] at hc2
        have p0 : wr.drew.cell? ⟨g, o + i * 2, none⟩ = some (.int .u64 y.frm) := hc.cell 0 (by simp)
        have r0 : wr.drew.cell? ⟨g2, o2 + i * 2, none⟩ = some (.int .u64 z.frm) := hc2.cell 0 (by simp)
        have p1 : wr.drew.cell? ⟨g, o + i * 2 + 1, none⟩ = some (.int .u64 y.top) := hc.cell 1 (by simp)
        have r1 : wr.drew.cell? ⟨g2, o2 + i * 2 + 1, none⟩ = some (.int .u64 z.top) := hc2.cell 1 (by simp)
        have hcmp := True.intro
        obtain ⟨bb, hbb⟩ : ∃ bb, bb = decide (y = z) := ⟨_, rfl⟩
        first | rw [← hbb] at hcmp | skip
        have hcm2 := hbb.symm
        have HY : Hid (l[i]? = some y) := Lib.hid (by rw [List.getElem?_eq_getElem hlt, hy])
        have HZ : Hid (k[i]? = some z) := Lib.hid (by rw [List.getElem?_eq_getElem hlt2, hz])
        have HB := Lib.hid hbb
        clear hc hc2 e1 e2 hy hz hbb hlt hlt2
        cases bb with
        | true =>
          first | rw [Bool.not_true] at hcmp | skip
          go_wp2_with fail
          go_region
          all_goals
            go_wp2_with fail
            go_roundw
            case rel =>
              refine ⟨i + 1, by omega, by go_num, take_step HTK.out HY.out ?_, HO.out.drew⟩
              rw [HZ.out, of_decide_eq_true HB.out.symm]
            case measure => simp [intOf]; omega
        | false =>
          first | rw [Bool.not_false] at hcmp | skip
          go_wp2_with fail
          go_region
          all_goals
            go_wp2_with fail
            refine bodyPost_ret (v := .bool false) (by simp [results, Tryz.results38, go_sem]) rfl ⟨?_, HO.out.drew.below⟩
            have hne : l ≠ k := fun e => by
              have h1 : ¬ y = z := of_decide_eq_false HB.out.symm
              have h2 := HY.out
              rw [e, HZ.out] at h2
              exact h1 (Option.some.inj h2).symm
            rw [HR.out, decide_eq_false hne]
      · obtain rfl : i = l.length := by omega
        go_wp2_with fail
        refine bodyPost_ret (v := .bool true) (by simp [results, Tryz.results38, go_sem]) rfl ⟨?_, HO.out.below⟩
        rw [HR.out, decide_eq_true (take_all HTK.out HLN.out)]
  · have hne : ((l.length : Int) != k.length) = true := by rw [bne_iff_ne]; omega
    have hlk : l ≠ k := fun e => hln (by rw [e])
    have HLK := Lib.hid hlk
    clear hln hlk
    go_enter Tryz.func38, Tryz.ntmps38
    go_wp2_with fail
    refine bodyPost_ret (v := .bool false) (by simp [results, Tryz.results38, go_sem]) rfl ⟨?_, HO.out.below⟩
    rw [HR.out, decide_eq_false HLK.out]

end Go.Proofs.YtjgnomjjphkfbaaGreat

namespace Go.Proofs.YtjgnomjjphkfbaaGreat
open Go.RowKit

attribute [local go_sem ↓ high] neq_vers
theorem str_bne' (a b : ByteArray) : (!(a.toList == b.toList)) = !decide (a = b) := by rw [str_beq]
set_option maxRecDepth 20000 in
set_option maxHeartbeats 8000000 in
theorem ref_rows (a b : Option Addr) (c d : Nat) (l k : List Mg.Row) (xs ys : List (List Value)) (w : World) (hl : ArgL w 3 a c xs) (hlr : RowsA w l xs) (hk : ArgL w 3 b d ys) (hkr : RowsA w k ys) (hn : l.length ≤ 100000) (hn2 : k.length ≤ 100000) (hv : ∀ y ∈ l, y.l.length ≤ 100000) (hv2 : ∀ y ∈ k, y.l.length ≤ 100000) :
    Calls Tryz.prog 37 #[.slice a l.length c, .slice b k.length d] w fun e w' => e = .returned (.bool (decide (l = k))) ∧ Below w.heap.size w w' := by
  have hlI : (0 : Int) ≤ l.length ∧ (l.length : Int) ≤ 100000 := by omega
  have hkI : (0 : Int) ≤ k.length ∧ (k.length : Int) ≤ 100000 := by omega
  have HL := Lib.hid hl
  have HK := Lib.hid hk
  have HLR := Lib.hid hlr
  have HKR := Lib.hid hkr
  have HV := Lib.hid (And.intro hv hv2)
  have HO := Lib.hid (Own.refl w)
  obtain ⟨R, hR⟩ : ∃ R, R = decide (l = k) := ⟨_, rfl⟩
  rw [← hR]
  have HR := Lib.hid hR
  clear hl hk hn hn2 hR hlr hkr hv hv2
  by_cases hln : l.length = k.length
  · have HLN := Lib.hid hln
    have hne : ((l.length : Int) != k.length) = false := by rw [hln]; simp
    clear hln
    go_enter Tryz.func37, Tryz.ntmps37
    go_wp2_with fail
    go_loopw [5, 6] (fun vi _ wr => ∃ i : Nat, i ≤ l.length ∧ vi = .int .i64 i ∧ l.take i = k.take i ∧ Own w.heap.size w wr) (fun vi _ _ => l.length - (intOf vi).toNat)
    case atStart => exact ⟨0, Nat.zero_le _, rfl, rfl, HO.out⟩
    case round =>
      clear HO hne
      obtain ⟨i, hi, rfl, htk, hO⟩ := hrel
      have HTK := Lib.hid htk
      have HO := Lib.hid hO
      clear htk hO
      by_cases hlt : i < l.length
      · have hlt2 : i < k.length := by rw [← HLN.out]; exact hlt
        have hiI : (0 : Int) ≤ i ∧ (i : Int) < l.length ∧ (i : Int) < k.length := by omega
        have hx : i < xs.length := by rw [HLR.out.1]; exact hlt
        have hy : i < ys.length := by rw [HKR.out.1]; exact hlt2
        obtain ⟨g, o, rfl, hcw⟩ := HL.out.row i hx
        obtain ⟨g2, o2, rfl, hcw2⟩ := HK.out.row i hy
        obtain ⟨sy, cy, e1, hay⟩ := HLR.out.2 i hlt
        obtain ⟨sz, cz, e2, haz⟩ := HKR.out.2 i hlt2
        obtain ⟨y, hyy⟩ : ∃ y, y = l[i]'hlt := ⟨_, rfl⟩
        obtain ⟨z, hzz⟩ : ∃ z, z = k[i]'hlt2 := ⟨_, rfl⟩
        rw [← hyy] at e1 hay
        rw [← hzz] at e2 haz
        rw [List.getElem?_eq_getElem hx] at e1
        rw [List.getElem?_eq_getElem hy] at e2
        rw [Option.some.inj e1] at hcw
        rw [Option.some.inj e2] at hcw2
        have hc := hcw.keep (HO.out.drew.below.block _ hcw.lt)
        have hc2 := hcw2.keep (HO.out.drew.below.block _ hcw2.lt)
        have HP2 : Hid (∀ wz, Below w.heap.size w wz → wz.cell? ⟨g, o + i * 3 + 1 + 1, none⟩ = some (.slice sy y.l.length cy)) := Lib.hid (fun wz hz => (hcw.keep (hz.block _ hcw.lt)).cell 2 (by simp))
        have HR2 : Hid (∀ wz, Below w.heap.size w wz → wz.cell? ⟨g2, o2 + i * 3 + 1 + 1, none⟩ = some (.slice sz z.l.length cz)) := Lib.hid (fun wz hz => (hcw2.keep (hz.block _ hcw2.lt)).cell 2 (by simp))
        clear hcw hcw2
        have p0 : wr.drew.cell? ⟨g, o + i * 3, none⟩ = some (.string y.p) := hc.cell 0 (by simp)
        have p1 : wr.drew.cell? ⟨g, o + i * 3 + 1, none⟩ = some (.int .u64 y.last) := hc.cell 1 (by simp)
        have p2 : wr.drew.cell? ⟨g, o + i * 3 + 1 + 1, none⟩ = some (.slice sy y.l.length cy) := hc.cell 2 (by simp)
        have r0 : wr.drew.cell? ⟨g2, o2 + i * 3, none⟩ = some (.string z.p) := hc2.cell 0 (by simp)
        have r1 : wr.drew.cell? ⟨g2, o2 + i * 3 + 1, none⟩ = some (.int .u64 z.last) := hc2.cell 1 (by simp)
        have r2 : wr.drew.cell? ⟨g2, o2 + i * 3 + 1 + 1, none⟩ = some (.slice sz z.l.length cz) := hc2.cell 2 (by simp)
        have HY : Hid (l[i]? = some y) := Lib.hid (by rw [List.getElem?_eq_getElem hlt, hyy])
        have HZ : Hid (k[i]? = some z) := Lib.hid (by rw [List.getElem?_eq_getElem hlt2, hzz])
        have hyl : y.l.length ≤ 100000 := by rw [hyy]; exact HV.out.1 _ (List.getElem_mem _)
        have hzl : z.l.length ≤ 100000 := by rw [hzz]; exact HV.out.2 _ (List.getElem_mem _)
        have hylI : (0 : Int) ≤ y.l.length ∧ (y.l.length : Int) ≤ 100000 := by omega
        have hzlI : (0 : Int) ≤ z.l.length ∧ (z.l.length : Int) ≤ 100000 := by omega
        have HAY := Lib.hid hay
        have HAZ := Lib.hid haz
        have HNE : Hid (y ≠ z → R = false) := Lib.hid (fun h1 => by
          rw [HR.out, decide_eq_false]
          intro e
          have h2 := HY.out
          rw [e, HZ.out] at h2
          exact h1 (Option.some.inj h2).symm)
        have q0 := str_bne' y.p z.p
        have q1 := nat_bne y.last z.last
        have q2 := nat_bne y.l.length z.l.length
        obtain ⟨b0, hb0⟩ : ∃ b, b = decide (y.p = z.p) := ⟨_, rfl⟩
        obtain ⟨b1, hb1⟩ : ∃ b, b = decide (y.last = z.last) := ⟨_, rfl⟩
        obtain ⟨b2, hb2⟩ : ∃ b, b = decide (y.l.length = z.l.length) := ⟨_, rfl⟩
        rw [← hb0] at q0
        rw [← hb1] at q1
        rw [← hb2] at q2
        have HB0 := Lib.hid hb0
        have HB1 := Lib.hid hb1
        have HB2 := Lib.hid hb2
        clear hc hc2 e1 e2 hyy hzz hlt hlt2 hay haz hyl hzl hb0 hb1 hb2 hx hy
        cases b0 with
        | false =>
          rw [Bool.not_false] at q0
          clear q1 q2
          go_wp2_with fail
          go_region
          all_goals
            go_wp2_with fail
            exact bodyPost_ret (v := .bool false) (by simp [results, Tryz.results37, go_sem]) rfl ⟨by rw [HNE.out (fun e => of_decide_eq_false HB0.out.symm (by rw [e]))], HO.out.drew.below⟩
        | true =>
          rw [Bool.not_true] at q0
          cases b1 with
          | false =>
            rw [Bool.not_false] at q1
            clear q2
            go_wp2_with fail
            go_region
            all_goals
              go_wp2_with fail
              exact bodyPost_ret (v := .bool false) (by simp [results, Tryz.results37, go_sem]) rfl ⟨by rw [HNE.out (fun e => of_decide_eq_false HB1.out.symm (by rw [e]))], HO.out.drew.below⟩
          | true =>
            rw [Bool.not_true] at q1
            cases b2 with
            | false =>
              rw [Bool.not_false] at q2
              go_wp2_with fail
              go_region
              all_goals
                go_wp2_with fail
                exact bodyPost_ret (v := .bool false) (by simp [results, Tryz.results37, go_sem]) rfl ⟨by rw [HNE.out (fun e => of_decide_eq_false HB2.out.symm (by rw [e]))], HO.out.drew.below⟩
            | true =>
              rw [Bool.not_true] at q2
              go_wp2_with fail
              go_region
              all_goals
                go_wp2_with fail
                go_loopw [6] (fun vm wr2 => ∃ m : Nat, m ≤ y.l.length ∧ vm = .int .i64 m ∧ y.l.take m = z.l.take m ∧ Own w.heap.size w wr2) (fun vm _ => y.l.length - (intOf vm).toNat)
                case atStart => exact ⟨0, Nat.zero_le _, rfl, rfl, HO.out.drew⟩
                case round =>
                  obtain ⟨m, hm, rfl, htm, hO2⟩ := hrel
                  have HTM := Lib.hid htm
                  have HO2 := Lib.hid hO2
                  have hyz : y.l.length = z.l.length := of_decide_eq_true HB2.out.symm
                  have HYZ := Lib.hid hyz
                  have t2 := HP2.out _ hO2.below
                  have t2' := HP2.out _ hO2.drew.below
                  have v2' := HR2.out _ hO2.drew.below
                  clear p0 p1 p2 r0 r1 r2 q0 q1 q2 htm hO2
                  by_cases hmt : m < y.l.length
                  · have hmt2 : m < z.l.length := by rw [← hyz]; exact hmt
                    have hmI : (0 : Int) ≤ m ∧ (m : Int) < y.l.length ∧ (m : Int) < z.l.length := by omega
                    obtain ⟨g3, o3, rfl, hd⟩ := (HAY.out.keep HO2.out.drew.below).row m (by simpa using hmt)
                    obtain ⟨g4, o4, rfl, hd2⟩ := (HAZ.out.keep HO2.out.drew.below).row m (by simpa using hmt2)
                    obtain ⟨u, hu⟩ : ∃ u, u = y.l[m]'hmt := ⟨_, rfl⟩
                    obtain ⟨v, hv⟩ : ∃ v, v = z.l[m]'hmt2 := ⟨_, rfl⟩
                    have e1 : (y.l.map Mg.Ver.cells)[m]'(by simpa using hmt) = Mg.Ver.cells u := by rw [List.getElem_map, hu]
                    have e2 : (z.l.map Mg.Ver.cells)[m]'(by simpa using hmt2) = Mg.Ver.cells v := by rw [List.getElem_map, hv]
                    rw [e1] at hd
                    rw [e2] at hd2
                    have p0 : wr.drew.cell? ⟨g3, o3 + m * 3, none⟩ = some (.int .u64 u.n) := hd.cell 0 (by simp)
                    have p1 : wr.drew.cell? ⟨g3, o3 + m * 3 + 1, none⟩ = some (.int .u8 u.st) := hd.cell 1 (by simp)
                    have p2 : wr.drew.cell? ⟨g3, o3 + m * 3 + 2, none⟩ = some (.string u.t) := hd.cell 2 (by simp)
                    have r0 : wr.drew.cell? ⟨g4, o4 + m * 3, none⟩ = some (.int .u64 v.n) := hd2.cell 0 (by simp)
                    have r1 : wr.drew.cell? ⟨g4, o4 + m * 3 + 1, none⟩ = some (.int .u8 v.st) := hd2.cell 1 (by simp)
                    have r2 : wr.drew.cell? ⟨g4, o4 + m * 3 + 2, none⟩ = some (.string v.t) := hd2.cell 2 (by simp)
                    obtain ⟨bb, hbb⟩ : ∃ bb, bb = decide (u = v) := ⟨_, rfl⟩
                    have hcm2 := hbb.symm
                    have HU : Hid (y.l[m]? = some u) := Lib.hid (by rw [List.getElem?_eq_getElem hmt, hu])
                    have HW : Hid (z.l[m]? = some v) := Lib.hid (by rw [List.getElem?_eq_getElem hmt2, hv])
                    have HBB := Lib.hid hbb
                    clear hd hd2 e1 e2 hu hv hbb hmt hmt2 hyz
                    cases bb with
                    | true =>
                      go_wp2_with fail
                      go_region
                      all_goals
                        go_wp2_with fail
                        go_roundw
                        case rel =>
                          refine ⟨m + 1, by omega, by go_num, take_step HTM.out HU.out ?_, HO2.out.drew⟩
                          rw [HW.out, of_decide_eq_true HBB.out.symm]
                        case measure => simp [intOf]; omega
                    | false =>
                      go_wp2_with fail
                      go_region
                      all_goals
                        go_wp2_with fail
                        exact bodyPost_ret (v := .bool false) (by simp [results, Tryz.results37, go_sem]) rfl ⟨by rw [HNE.out (fun e => by
                          have h1 := HU.out
                          rw [e, HW.out] at h1
                          exact of_decide_eq_false HBB.out.symm (Option.some.inj h1).symm)], HO2.out.drew.below⟩
                  · have hme : m = y.l.length := by omega
                    subst hme
                    have hyzl : y = z := by
                      have h1 := take_all HTM.out HYZ.out
                      have h2 := of_decide_eq_true HB0.out.symm
                      have h3 := of_decide_eq_true HB1.out.symm
                      obtain ⟨yp, yl, yv⟩ := y
                      obtain ⟨zp, zl, zv⟩ := z
                      simp only at h1 h2 h3
                      rw [h1, h2, h3]
                    have HYE := Lib.hid hyzl
                    clear hyz hyzl
                    go_wp2_with fail
                    go_roundw
                    case rel =>
                      refine ⟨i + 1, by omega, by go_num, take_step HTK.out HY.out ?_, HO2.out⟩
                      rw [HZ.out, HYE.out]
                    case measure => simp [intOf]; omega
      · obtain rfl : i = l.length := by omega
        go_wp2_with fail
        refine bodyPost_ret (v := .bool true) (by simp [results, Tryz.results37, go_sem]) rfl ⟨?_, HO.out.below⟩
        rw [HR.out, decide_eq_true (take_all HTK.out HLN.out)]
  · have hne : ((l.length : Int) != k.length) = true := by rw [bne_iff_ne]; omega
    have hlk : l ≠ k := fun e => hln (by rw [e])
    have HLK := Lib.hid hlk
    clear hln hlk
    go_enter Tryz.func37, Tryz.ntmps37
    go_wp2_with fail
    refine bodyPost_ret (v := .bool false) (by simp [results, Tryz.results37, go_sem]) rfl ⟨?_, HO.out.below⟩
    rw [HR.out, decide_eq_false HLK.out]

end Go.Proofs.YtjgnomjjphkfbaaGreat
