/-
  Joined out of the texts MsgEq MsgEqR MsgSm0.
-/
import Derived.Test.YtjgnomjjphkfbaaGreatRGo
import Derived.Deep.DeepCutAuto
namespace Go.Proofs.YtjgnomjjphkfbaaGreat
open Go.RowKit

theorem str_ne {a b : ByteArray} (h : a ≠ b) : ¬ a.toList = b.toList := fun e => h (Mg.L_inj (by rw [ByteArray.toList_eq, ByteArray.toList_eq] at e; exact e))
theorem str_beq (a b : ByteArray) : (a.toList == b.toList) = decide (a = b) := by
  by_cases h : a = b
  · subst h; simp
  · rw [decide_eq_false h, beq_eq_false_iff_ne]; exact str_ne h
theorem int_bne (a b : Int) : (a != b) = !decide (a = b) := by
  by_cases h : a = b
  · subst h; simp
  · simp [h]
theorem nat_bne (a b : Nat) : ((a : Int) != (b : Int)) = !decide (a = b) := by
  rw [int_bne]
  by_cases h : a = b
  · subst h; simp
  · have : ¬ (a : Int) = b := by omega
    rw [decide_eq_false this, decide_eq_false h]
theorem take_step {α : Type} {l k : List α} {i : Nat} {y : α} (h : l.take i = k.take i) (hl : l[i]? = some y) (hk : k[i]? = some y) : l.take (i + 1) = k.take (i + 1) := by
  rw [List.take_add_one, List.take_add_one, h, hl, hk]
theorem take_all {α : Type} {l k : List α} (h : l.take l.length = k.take l.length) (hl : l.length = k.length) : l = k := by
  rw [List.take_length, hl, List.take_length] at h
  exact h
theorem neq_reads (y z : Mg.Rd) (w : World) : (binOp .neq 67 (.agg #[.string y.p, .int .u64 y.n]) (.agg #[.string z.p, .int .u64 z.n])).run Tryz.prog w = .ok (.bool (!decide (y = z))) w := by
  obtain ⟨a0, a1⟩ := y
  obtain ⟨b0, b1⟩ := z
  by_cases h0 : a0 = b0
  · subst h0
    by_cases h1 : a1 = b1
    · subst h1
      first | (go_simp; done) | (go_simp; simp)
    · have : ¬ (a1 : Int) = b1 := by omega
      first | (go_simp; done) | (go_simp; simp_all)
  · have := str_ne h0
    first | (go_simp; done) | (go_simp; simp_all)
attribute [local go_sem ↓ high] neq_reads
set_option maxRecDepth 20000 in
set_option maxHeartbeats 4000000 in
theorem equal_reads (a b : Option Addr) (c d : Nat) (l k : List Mg.Rd) (w : World) (hl : RowIs w 2 a (l.map Mg.Rd.cells)) (hk : RowIs w 2 b (k.map Mg.Rd.cells)) (hn : l.length ≤ 100000) (hn2 : k.length ≤ 100000) :
    Calls Tryz.prog 25 #[.slice a l.length c, .slice b k.length d] w fun e w' => e = .returned (.bool (decide (l = k))) ∧ Below w.heap.size w w' := by
  have hlI : (0 : Int) ≤ l.length ∧ (l.length : Int) ≤ 100000 := by omega
  have hkI : (0 : Int) ≤ k.length ∧ (k.length : Int) ≤ 100000 := by omega
  have HL := Lib.hid hl
  have HK := Lib.hid hk
  have HO := Lib.hid (Own.refl w)
  obtain ⟨R, hR⟩ : ∃ R, R = decide (l = k) := ⟨_, rfl⟩
  rw [← hR]
  have HR := Lib.hid hR
  clear hl hk hn hn2 hR
  by_cases hln : l.length = k.length
  · have HLN := Lib.hid hln
    have hne : ((l.length : Int) != k.length) = false := by rw [hln]; simp
    clear hln
    go_enter Tryz.func25, Tryz.ntmps25
    go_wp2_with fail
    go_loopw [13] (fun vi wr => ∃ i : Nat, i ≤ l.length ∧ vi = .int .i64 i ∧ l.take i = k.take i ∧ Own w.heap.size w wr) (fun vi _ => l.length - (intOf vi).toNat)
    case atStart => exact ⟨0, Nat.zero_le _, rfl, rfl, HO.out⟩
    case round =>
      clear HO hne
      obtain ⟨i, hi, rfl, htk, hO⟩ := hrel
      have HTK := Lib.hid htk
      have HO := Lib.hid hO
      clear htk hO
      by_cases hlt : i < l.length
      · have hlt2 : i < k.length := by rw [← HLN.out]; exact hlt
        have hiI : (0 : Int) ≤ i ∧ (i : Int) < l.length ∧ (i : Int) < k.length := by omega
        obtain ⟨g, o, rfl, hc⟩ := HL.out.keep HO.out.drew.below i (by simpa using hlt)
        obtain ⟨g2, o2, rfl, hc2⟩ := HK.out.keep HO.out.drew.below i (by simpa using hlt2)
        obtain ⟨y, hy⟩ : ∃ y, y = l[i]'hlt := ⟨_, rfl⟩
        obtain ⟨z, hz⟩ : ∃ z, z = k[i]'hlt2 := ⟨_, rfl⟩
        have e1 : (l.map Mg.Rd.cells)[i]'(by simpa using hlt) = Mg.Rd.cells y := by rw [List.getElem_map, hy]
        have e2 : (k.map Mg.Rd.cells)[i]'(by simpa using hlt2) = Mg.Rd.cells z := by rw [List.getElem_map, hz]
        rw [e1] at hc
        rw [e2] at hc2
        have p0 : wr.drew.cell? ⟨g, o + i * 2, none⟩ = some (.string y.p) := hc.cell 0 (by simp)
        have r0 : wr.drew.cell? ⟨g2, o2 + i * 2, none⟩ = some (.string z.p) := hc2.cell 0 (by simp)
        have p1 : wr.drew.cell? ⟨g, o + i * 2 + 1, none⟩ = some (.int .u64 y.n) := hc.cell 1 (by simp)
        have r1 : wr.drew.cell? ⟨g2, o2 + i * 2 + 1, none⟩ = some (.int .u64 z.n) := hc2.cell 1 (by simp)
        have hcmp := True.intro
        obtain ⟨bb, hbb⟩ : ∃ bb, bb = decide (y = z) := ⟨_, rfl⟩
        first | rw [← hbb] at hcmp | skip
        have hcm2 := hbb.symm
        have HY : Hid (l[i]? = some y) := Lib.hid (by rw [List.getElem?_eq_getElem hlt, hy])
        have HZ : Hid (k[i]? = some z) := Lib.hid (by rw [List.getElem?_eq_getElem hlt2, hz])
        have HB := Lib.hid hbb
        clear hc hc2 e1 e2 hy hz hbb hlt hlt2
        cases bb with
        | true =>
          first | rw [Bool.not_true] at hcmp | skip
          go_wp2_with fail
          go_region
          all_goals
            go_wp2_with fail
            go_roundw
            case rel =>
              refine ⟨i + 1, by omega, by go_num, take_step HTK.out HY.out ?_, HO.out.drew⟩
              rw [HZ.out, of_decide_eq_true HB.out.symm]
            case measure => simp [intOf]; omega
        | false =>
          first | rw [Bool.not_false] at hcmp | skip
          go_wp2_with fail
          go_region
          all_goals
            go_wp2_with fail
            refine bodyPost_ret (v := .bool false) (by simp [results, Tryz.results25, go_sem]) rfl ⟨?_, HO.out.drew.below⟩
            have hne : l ≠ k := fun e => by
              have h1 : ¬ y = z := of_decide_eq_false HB.out.symm
              have h2 := HY.out
              rw [e, HZ.out] at h2
              exact h1 (Option.some.inj h2).symm
            rw [HR.out, decide_eq_false hne]
      · obtain rfl : i = l.length := by omega
        go_wp2_with fail
        refine bodyPost_ret (v := .bool true) (by simp [results, Tryz.results25, go_sem]) rfl ⟨?_, HO.out.below⟩
        rw [HR.out, decide_eq_true (take_all HTK.out HLN.out)]
  · have hne : ((l.length : Int) != k.length) = true := by rw [bne_iff_ne]; omega
    have hlk : l ≠ k := fun e => hln (by rw [e])
    have HLK := Lib.hid hlk
    clear hln hlk
    go_enter Tryz.func25, Tryz.ntmps25
    go_wp2_with fail
    refine bodyPost_ret (v := .bool false) (by simp [results, Tryz.results25, go_sem]) rfl ⟨?_, HO.out.below⟩
    rw [HR.out, decide_eq_false HLK.out]

set_option maxRecDepth 20000 in
set_option maxHeartbeats 4000000 in
theorem equal_ints (a b : Option Addr) (c d : Nat) (l k : List Int) (w : World) (hl : RowIs w 1 a (l.map (fun a : Int => [Value.int .i64 a]))) (hk : RowIs w 1 b (k.map (fun a : Int => [Value.int .i64 a]))) (hn : l.length ≤ 100000) (hn2 : k.length ≤ 100000) :
    Calls Tryz.prog 26 #[.slice a l.length c, .slice b k.length d] w fun e w' => e = .returned (.bool (decide (l = k))) ∧ Below w.heap.size w w' := by
  have hlI : (0 : Int) ≤ l.length ∧ (l.length : Int) ≤ 100000 := by omega
  have hkI : (0 : Int) ≤ k.length ∧ (k.length : Int) ≤ 100000 := by omega
  have HL := Lib.hid hl
  have HK := Lib.hid hk
  have HO := Lib.hid (Own.refl w)
  obtain ⟨R, hR⟩ : ∃ R, R = decide (l = k) := ⟨_, rfl⟩
  rw [← hR]
  have HR := Lib.hid hR
  clear hl hk hn hn2 hR
  by_cases hln : l.length = k.length
  · have HLN := Lib.hid hln
    have hne : ((l.length : Int) != k.length) = false := by rw [hln]; simp
    clear hln
    go_enter Tryz.func26, Tryz.ntmps26
    go_wp2_with fail
    go_loopw [13] (fun vi wr => ∃ i : Nat, i ≤ l.length ∧ vi = .int .i64 i ∧ l.take i = k.take i ∧ Own w.heap.size w wr) (fun vi _ => l.length - (intOf vi).toNat)
    case atStart => exact ⟨0, Nat.zero_le _, rfl, rfl, HO.out⟩
    case round =>
      clear HO hne
      obtain ⟨i, hi, rfl, htk, hO⟩ := hrel
      have HTK := Lib.hid htk
      have HO := Lib.hid hO
      clear htk hO
      by_cases hlt : i < l.length
      · have hlt2 : i < k.length := by rw [← HLN.out]; exact hlt
        have hiI : (0 : Int) ≤ i ∧ (i : Int) < l.length ∧ (i : Int) < k.length := by omega
        obtain ⟨g, o, rfl, hc⟩ := HL.out.keep HO.out.drew.below i (by simpa using hlt)
        obtain ⟨g2, o2, rfl, hc2⟩ := HK.out.keep HO.out.drew.below i (by simpa using hlt2)
        obtain ⟨y, hy⟩ : ∃ y, y = l[i]'hlt := ⟨_, rfl⟩
        obtain ⟨z, hz⟩ : ∃ z, z = k[i]'hlt2 := ⟨_, rfl⟩
        have e1 : (l.map (fun a : Int => [Value.int .i64 a]))[i]'(by simpa using hlt) = (fun a : Int => [Value.int .i64 a]) y := by rw [List.getElem_map, hy]
        have e2 : (k.map (fun a : Int => [Value.int .i64 a]))[i]'(by simpa using hlt2) = (fun a : Int => [Value.int .i64 a]) z := by rw [List.getElem_map, hz]
        rw [e1] at hc
        rw [e2] at hc2
        have p0 : wr.drew.cell? ⟨g, o + i, none⟩ = some (.int .i64 y) := by simpa using hc.cell 0 (by simp)
        have r0 : wr.drew.cell? ⟨g2, o2 + i, none⟩ = some (.int .i64 z) := by simpa using hc2.cell 0 (by simp)
        have hcmp := int_bne y z
        obtain ⟨bb, hbb⟩ : ∃ bb, bb = decide (y = z) := ⟨_, rfl⟩
        first | rw [← hbb] at hcmp | skip
        have hcm2 := hbb.symm
        have HY : Hid (l[i]? = some y) := Lib.hid (by rw [List.getElem?_eq_getElem hlt, hy])
        have HZ : Hid (k[i]? = some z) := Lib.hid (by rw [List.getElem?_eq_getElem hlt2, hz])
        have HB := Lib.hid hbb
        clear hc hc2 e1 e2 hy hz hbb hlt hlt2
        cases bb with
        | true =>
          first | rw [Bool.not_true] at hcmp | skip
          go_wp2_with fail
          go_region
          all_goals
            go_wp2_with fail
            go_roundw
            case rel =>
              refine ⟨i + 1, by omega, by go_num, take_step HTK.out HY.out ?_, HO.out.drew⟩
              rw [HZ.out, of_decide_eq_true HB.out.symm]
            case measure => simp [intOf]; omega
        | false =>
          first | rw [Bool.not_false] at hcmp | skip
          go_wp2_with fail
          go_region
          all_goals
            go_wp2_with fail
            refine bodyPost_ret (v := .bool false) (by simp [results, Tryz.results26, go_sem]) rfl ⟨?_, HO.out.drew.below⟩
            have hne : l ≠ k := fun e => by
              have h1 : ¬ y = z := of_decide_eq_false HB.out.symm
              have h2 := HY.out
              rw [e, HZ.out] at h2
              exact h1 (Option.some.inj h2).symm
            rw [HR.out, decide_eq_false hne]
      · obtain rfl : i = l.length := by omega
        go_wp2_with fail
        refine bodyPost_ret (v := .bool true) (by simp [results, Tryz.results26, go_sem]) rfl ⟨?_, HO.out.below⟩
        rw [HR.out, decide_eq_true (take_all HTK.out HLN.out)]
  · have hne : ((l.length : Int) != k.length) = true := by rw [bne_iff_ne]; omega
    have hlk : l ≠ k := fun e => hln (by rw [e])
    have HLK := Lib.hid hlk
    clear hln hlk
    go_enter Tryz.func26, Tryz.ntmps26
    go_wp2_with fail
    refine bodyPost_ret (v := .bool false) (by simp [results, Tryz.results26, go_sem]) rfl ⟨?_, HO.out.below⟩
    rw [HR.out, decide_eq_false HLK.out]

theorem neq_edits (y z : Mg.Ed) (w : World) : (binOp .neq 59 (.agg #[.int .u8 y.kind, .string y.p, .bool y.any, .int .u64 y.want, .int .u64 y.n, .string y.t]) (.agg #[.int .u8 z.kind, .string z.p, .bool z.any, .int .u64 z.want, .int .u64 z.n, .string z.t])).run Tryz.prog w = .ok (.bool (!decide (y = z))) w := by
  obtain ⟨a0, a1, a2, a3, a4, a5⟩ := y
  obtain ⟨b0, b1, b2, b3, b4, b5⟩ := z
  by_cases h0 : a0 = b0
  · subst h0
    by_cases h1 : a1 = b1
    · subst h1
      by_cases h2 : a2 = b2
      · subst h2
        by_cases h3 : a3 = b3
        · subst h3
          by_cases h4 : a4 = b4
          · subst h4
            by_cases h5 : a5 = b5
            · subst h5
              first | (go_simp; done) | (go_simp; simp)
            · have := str_ne h5
              first | (go_simp; done) | (go_simp; simp_all)
          · have : ¬ (a4 : Int) = b4 := by omega
            first | (go_simp; done) | (go_simp; simp_all)
        · have : ¬ (a3 : Int) = b3 := by omega
          first | (go_simp; done) | (go_simp; simp_all)
      · have := h2
        first | (go_simp; done) | (go_simp; simp_all)
    · have := str_ne h1
      first | (go_simp; done) | (go_simp; simp_all)
  · have : ¬ (a0 : Int) = b0 := by omega
    first | (go_simp; done) | (go_simp; simp_all)
attribute [local go_sem ↓ high] neq_edits
set_option maxRecDepth 20000 in
set_option maxHeartbeats 4000000 in
theorem equal_edits (a b : Option Addr) (c d : Nat) (l k : List Mg.Ed) (w : World) (hl : RowIs w 6 a (l.map Mg.Ed.cells)) (hk : RowIs w 6 b (k.map Mg.Ed.cells)) (hn : l.length ≤ 100000) (hn2 : k.length ≤ 100000) :
    Calls Tryz.prog 27 #[.slice a l.length c, .slice b k.length d] w fun e w' => e = .returned (.bool (decide (l = k))) ∧ Below w.heap.size w w' := by
  have hlI : (0 : Int) ≤ l.length ∧ (l.length : Int) ≤ 100000 := by omega
  have hkI : (0 : Int) ≤ k.length ∧ (k.length : Int) ≤ 100000 := by omega
  have HL := Lib.hid hl
  have HK := Lib.hid hk
  have HO := Lib.hid (Own.refl w)
  obtain ⟨R, hR⟩ : ∃ R, R = decide (l = k) := ⟨_, rfl⟩
  rw [← hR]
  have HR := Lib.hid hR
  clear hl hk hn hn2 hR
  by_cases hln : l.length = k.length
  · have HLN := Lib.hid hln
    have hne : ((l.length : Int) != k.length) = false := by rw [hln]; simp
    clear hln
    go_enter Tryz.func27, Tryz.ntmps27
    go_wp2_with fail
    go_loopw [13] (fun vi wr => ∃ i : Nat, i ≤ l.length ∧ vi = .int .i64 i ∧ l.take i = k.take i ∧ Own w.heap.size w wr) (fun vi _ => l.length - (intOf vi).toNat)
    case atStart => exact ⟨0, Nat.zero_le _, rfl, rfl, HO.out⟩
    case round =>
      clear HO hne
      obtain ⟨i, hi, rfl, htk, hO⟩ := hrel
      have HTK := Lib.hid htk
      have HO := Lib.hid hO
      clear htk hO
      by_cases hlt : i < l.length
      · have hlt2 : i < k.length := by rw [← HLN.out]; exact hlt
        have hiI : (0 : Int) ≤ i ∧ (i : Int) < l.length ∧ (i : Int) < k.length := by omega
        obtain ⟨g, o, rfl, hc⟩ := HL.out.keep HO.out.drew.below i (by simpa using hlt)
        obtain ⟨g2, o2, rfl, hc2⟩ := HK.out.keep HO.out.drew.below i (by simpa using hlt2)
        obtain ⟨y, hy⟩ : ∃ y, y = l[i]'hlt := ⟨_, rfl⟩
        obtain ⟨z, hz⟩ : ∃ z, z = k[i]'hlt2 := ⟨_, rfl⟩
        have e1 : (l.map Mg.Ed.cells)[i]'(by simpa using hlt) = Mg.Ed.cells y := by rw [List.getElem_map, hy]
        have e2 : (k.map Mg.Ed.cells)[i]'(by simpa using hlt2) = Mg.Ed.cells z := by rw [List.getElem_map, hz]
        rw [e1] at hc
        rw [e2] at hc2
        have p0 : wr.drew.cell? ⟨g, o + i * 6, none⟩ = some (.int .u8 y.kind) := hc.cell 0 (by simp)
        have r0 : wr.drew.cell? ⟨g2, o2 + i * 6, none⟩ = some (.int .u8 z.kind) := hc2.cell 0 (by simp)
        have p1 : wr.drew.cell? ⟨g, o + i * 6 + 1, none⟩ = some (.string y.p) := hc.cell 1 (by simp)
        have r1 : wr.drew.cell? ⟨g2, o2 + i * 6 + 1, none⟩ = some (.string z.p) := hc2.cell 1 (by simp)
        have p2 : wr.drew.cell? ⟨g, o + i * 6 + 2, none⟩ = some (.bool y.any) := hc.cell 2 (by simp)
        have r2 : wr.drew.cell? ⟨g2, o2 + i * 6 + 2, none⟩ = some (.bool z.any) := hc2.cell 2 (by simp)
        have p3 : wr.drew.cell? ⟨g, o + i * 6 + 3, none⟩ = some (.int .u64 y.want) := hc.cell 3 (by simp)
        have r3 : wr.drew.cell? ⟨g2, o2 + i * 6 + 3, none⟩ = some (.int .u64 z.want) := hc2.cell 3 (by simp)
        have p4 : wr.drew.cell? ⟨g, o + i * 6 + 4, none⟩ = some (.int .u64 y.n) := hc.cell 4 (by simp)
        have r4 : wr.drew.cell? ⟨g2, o2 + i * 6 + 4, none⟩ = some (.int .u64 z.n) := hc2.cell 4 (by simp)
        have p5 : wr.drew.cell? ⟨g, o + i * 6 + 5, none⟩ = some (.string y.t) := hc.cell 5 (by simp)
        have r5 : wr.drew.cell? ⟨g2, o2 + i * 6 + 5, none⟩ = some (.string z.t) := hc2.cell 5 (by simp)
        have hcmp := True.intro
        obtain ⟨bb, hbb⟩ : ∃ bb, bb = decide (y = z) := ⟨_, rfl⟩
        first | rw [← hbb] at hcmp | skip
        have hcm2 := hbb.symm
        have HY : Hid (l[i]? = some y) := Lib.hid (by rw [List.getElem?_eq_getElem hlt, hy])
        have HZ : Hid (k[i]? = some z) := Lib.hid (by rw [List.getElem?_eq_getElem hlt2, hz])
        have HB := Lib.hid hbb
        clear hc hc2 e1 e2 hy hz hbb hlt hlt2
        cases bb with
        | true =>
          first | rw [Bool.not_true] at hcmp | skip
          go_wp2_with fail
          go_region
          all_goals
            go_wp2_with fail
            go_roundw
            case rel =>
              refine ⟨i + 1, by omega, by go_num, take_step HTK.out HY.out ?_, HO.out.drew⟩
              rw [HZ.out, of_decide_eq_true HB.out.symm]
            case measure => simp [intOf]; omega
        | false =>
          first | rw [Bool.not_false] at hcmp | skip
          go_wp2_with fail
          go_region
          all_goals
            go_wp2_with fail
            refine bodyPost_ret (v := .bool false) (by simp [results, Tryz.results27, go_sem]) rfl ⟨?_, HO.out.drew.below⟩
            have hne : l ≠ k := fun e => by
              have h1 : ¬ y = z := of_decide_eq_false HB.out.symm
              have h2 := HY.out
              rw [e, HZ.out] at h2
              exact h1 (Option.some.inj h2).symm
            rw [HR.out, decide_eq_false hne]
      · obtain rfl : i = l.length := by omega
        go_wp2_with fail
        refine bodyPost_ret (v := .bool true) (by simp [results, Tryz.results27, go_sem]) rfl ⟨?_, HO.out.below⟩
        rw [HR.out, decide_eq_true (take_all HTK.out HLN.out)]
  · have hne : ((l.length : Int) != k.length) = true := by rw [bne_iff_ne]; omega
    have hlk : l ≠ k := fun e => hln (by rw [e])
    have HLK := Lib.hid hlk
    clear hln hlk
    go_enter Tryz.func27, Tryz.ntmps27
    go_wp2_with fail
    refine bodyPost_ret (v := .bool false) (by simp [results, Tryz.results27, go_sem]) rfl ⟨?_, HO.out.below⟩
    rw [HR.out, decide_eq_false HLK.out]

theorem neq_got (y z : Mg.Got) (w : World) : (binOp .neq 64 (.agg #[.int .u64 y.v.n, .int .u8 y.v.st, .string y.v.t, .int .i64 y.err]) (.agg #[.int .u64 z.v.n, .int .u8 z.v.st, .string z.v.t, .int .i64 z.err])).run Tryz.prog w = .ok (.bool (!decide (y = z))) w := by
  obtain ⟨⟨a0, a1, a2⟩, a3⟩ := y
  obtain ⟨⟨b0, b1, b2⟩, b3⟩ := z
  by_cases h0 : a0 = b0
  · subst h0
    by_cases h1 : a1 = b1
    · subst h1
      by_cases h2 : a2 = b2
      · subst h2
        by_cases h3 : a3 = b3
        · subst h3
          first | (go_simp; done) | (go_simp; simp)
        · have := h3
          first | (go_simp; done) | (go_simp; simp_all)
      · have := str_ne h2
        first | (go_simp; done) | (go_simp; simp_all)
    · have : ¬ (a1 : Int) = b1 := by omega
      first | (go_simp; done) | (go_simp; simp_all)
  · have : ¬ (a0 : Int) = b0 := by omega
    first | (go_simp; done) | (go_simp; simp_all)
attribute [local go_sem ↓ high] neq_got
set_option maxRecDepth 20000 in
set_option maxHeartbeats 4000000 in
theorem equal_got (a b : Option Addr) (c d : Nat) (l k : List Mg.Got) (w : World) (hl : RowIs w 4 a (l.map Mg.Got.cells)) (hk : RowIs w 4 b (k.map Mg.Got.cells)) (hn : l.length ≤ 100000) (hn2 : k.length ≤ 100000) :
    Calls Tryz.prog 28 #[.slice a l.length c, .slice b k.length d] w fun e w' => e = .returned (.bool (decide (l = k))) ∧ Below w.heap.size w w' := by
  have hlI : (0 : Int) ≤ l.length ∧ (l.length : Int) ≤ 100000 := by omega
  have hkI : (0 : Int) ≤ k.length ∧ (k.length : Int) ≤ 100000 := by omega
  have HL := Lib.hid hl
  have HK := Lib.hid hk
  have HO := Lib.hid (Own.refl w)
  obtain ⟨R, hR⟩ : ∃ R, R = decide (l = k) := ⟨_, rfl⟩
  rw [← hR]
  have HR := Lib.hid hR
  clear hl hk hn hn2 hR
  by_cases hln : l.length = k.length
  · have HLN := Lib.hid hln
    have hne : ((l.length : Int) != k.length) = false := by rw [hln]; simp
    clear hln
    go_enter Tryz.func28, Tryz.ntmps28
    go_wp2_with fail
    go_loopw [13] (fun vi wr => ∃ i : Nat, i ≤ l.length ∧ vi = .int .i64 i ∧ l.take i = k.take i ∧ Own w.heap.size w wr) (fun vi _ => l.length - (intOf vi).toNat)
    case atStart => exact ⟨0, Nat.zero_le _, rfl, rfl, HO.out⟩
    case round =>
      clear HO hne
      obtain ⟨i, hi, rfl, htk, hO⟩ := hrel
      have HTK := Lib.hid htk
      have HO := Lib.hid hO
      clear htk hO
      by_cases hlt : i < l.length
      · have hlt2 : i < k.length := by rw [← HLN.out]; exact hlt
        have hiI : (0 : Int) ≤ i ∧ (i : Int) < l.length ∧ (i : Int) < k.length := by omega
        obtain ⟨g, o, rfl, hc⟩ := HL.out.keep HO.out.drew.below i (by simpa using hlt)
        obtain ⟨g2, o2, rfl, hc2⟩ := HK.out.keep HO.out.drew.below i (by simpa using hlt2)
        obtain ⟨y, hy⟩ : ∃ y, y = l[i]'hlt := ⟨_, rfl⟩
        obtain ⟨z, hz⟩ : ∃ z, z = k[i]'hlt2 := ⟨_, rfl⟩
        have e1 : (l.map Mg.Got.cells)[i]'(by simpa using hlt) = Mg.Got.cells y := by rw [List.getElem_map, hy]
        have e2 : (k.map Mg.Got.cells)[i]'(by simpa using hlt2) = Mg.Got.cells z := by rw [List.getElem_map, hz]
        rw [e1] at hc
        rw [e2] at hc2
        have p0 : wr.drew.cell? ⟨g, o + i * 4, none⟩ = some (.int .u64 y.v.n) := hc.cell 0 (by simp)
        have r0 : wr.drew.cell? ⟨g2, o2 + i * 4, none⟩ = some (.int .u64 z.v.n) := hc2.cell 0 (by simp)
        have p1 : wr.drew.cell? ⟨g, o + i * 4 + 1, none⟩ = some (.int .u8 y.v.st) := hc.cell 1 (by simp)
        have r1 : wr.drew.cell? ⟨g2, o2 + i * 4 + 1, none⟩ = some (.int .u8 z.v.st) := hc2.cell 1 (by simp)
        have p2 : wr.drew.cell? ⟨g, o + i * 4 + 2, none⟩ = some (.string y.v.t) := hc.cell 2 (by simp)
        have r2 : wr.drew.cell? ⟨g2, o2 + i * 4 + 2, none⟩ = some (.string z.v.t) := hc2.cell 2 (by simp)
        have p3 : wr.drew.cell? ⟨g, o + i * 4 + 3, none⟩ = some (.int .i64 y.err) := hc.cell 3 (by simp)
        have r3 : wr.drew.cell? ⟨g2, o2 + i * 4 + 3, none⟩ = some (.int .i64 z.err) := hc2.cell 3 (by simp)
        have hcmp := True.intro
        obtain ⟨bb, hbb⟩ : ∃ bb, bb = decide (y = z) := ⟨_, rfl⟩
        first | rw [← hbb] at hcmp | skip
        have hcm2 := hbb.symm
        have HY : Hid (l[i]? = some y) := Lib.hid (by rw [List.getElem?_eq_getElem hlt, hy])
        have HZ : Hid (k[i]? = some z) := Lib.hid (by rw [List.getElem?_eq_getElem hlt2, hz])
        have HB := Lib.hid hbb
        clear hc hc2 e1 e2 hy hz hbb hlt hlt2
        cases bb with
        | true =>
          first | rw [Bool.not_true] at hcmp | skip
          go_wp2_with fail
          go_region
          all_goals
            go_wp2_with fail
            go_roundw
            case rel =>
              refine ⟨i + 1, by omega, by go_num, take_step HTK.out HY.out ?_, HO.out.drew⟩
              rw [HZ.out, of_decide_eq_true HB.out.symm]
            case measure => simp [intOf]; omega
        | false =>
          first | rw [Bool.not_false] at hcmp | skip
          go_wp2_with fail
          go_region
          all_goals
            go_wp2_with fail
            refine bodyPost_ret (v := .bool false) (by simp [results, Tryz.results28, go_sem]) rfl ⟨?_, HO.out.drew.below⟩
            have hne : l ≠ k := fun e => by
              have h1 : ¬ y = z := of_decide_eq_false HB.out.symm
              have h2 := HY.out
              rw [e, HZ.out] at h2
              exact h1 (Option.some.inj h2).symm
            rw [HR.out, decide_eq_false hne]
      · obtain rfl : i = l.length := by omega
        go_wp2_with fail
        refine bodyPost_ret (v := .bool true) (by simp [results, Tryz.results28, go_sem]) rfl ⟨?_, HO.out.below⟩
        rw [HR.out, decide_eq_true (take_all HTK.out HLN.out)]
  · have hne : ((l.length : Int) != k.length) = true := by rw [bne_iff_ne]; omega
    have hlk : l ≠ k := fun e => hln (by rw [e])
    have HLK := Lib.hid hlk
    clear hln hlk
    go_enter Tryz.func28, Tryz.ntmps28
    go_wp2_with fail
    refine bodyPost_ret (v := .bool false) (by simp [results, Tryz.results28, go_sem]) rfl ⟨?_, HO.out.below⟩
    rw [HR.out, decide_eq_false HLK.out]

set_option maxRecDepth 20000 in
set_option maxHeartbeats 4000000 in
theorem equal_numbers (a b : Option Addr) (c d : Nat) (l k : List Nat) (w : World) (hl : RowIs w 1 a (l.map (fun a : Nat => [Value.int .u64 a]))) (hk : RowIs w 1 b (k.map (fun a : Nat => [Value.int .u64 a]))) (hn : l.length ≤ 100000) (hn2 : k.length ≤ 100000) :
    Calls Tryz.prog 29 #[.slice a l.length c, .slice b k.length d] w fun e w' => e = .returned (.bool (decide (l = k))) ∧ Below w.heap.size w w' := by
  have hlI : (0 : Int) ≤ l.length ∧ (l.length : Int) ≤ 100000 := by omega
  have hkI : (0 : Int) ≤ k.length ∧ (k.length : Int) ≤ 100000 := by omega
  have HL := Lib.hid hl
  have HK := Lib.hid hk
  have HO := Lib.hid (Own.refl w)
  obtain ⟨R, hR⟩ : ∃ R, R = decide (l = k) := ⟨_, rfl⟩
  rw [← hR]
  have HR := Lib.hid hR
  clear hl hk hn hn2 hR
  by_cases hln : l.length = k.length
  · have HLN := Lib.hid hln
    have hne : ((l.length : Int) != k.length) = false := by rw [hln]; simp
    clear hln
    go_enter Tryz.func29, Tryz.ntmps29
    go_wp2_with fail
    go_loopw [13] (fun vi wr => ∃ i : Nat, i ≤ l.length ∧ vi = .int .i64 i ∧ l.take i = k.take i ∧ Own w.heap.size w wr) (fun vi _ => l.length - (intOf vi).toNat)
    case atStart => exact ⟨0, Nat.zero_le _, rfl, rfl, HO.out⟩
    case round =>
      clear HO hne
      obtain ⟨i, hi, rfl, htk, hO⟩ := hrel
      have HTK := Lib.hid htk
      have HO := Lib.hid hO
      clear htk hO
      by_cases hlt : i < l.length
      · have hlt2 : i < k.length := by rw [← HLN.out]; exact hlt
        have hiI : (0 : Int) ≤ i ∧ (i : Int) < l.length ∧ (i : Int) < k.length := by omega
        obtain ⟨g, o, rfl, hc⟩ := HL.out.keep HO.out.drew.below i (by simpa using hlt)
        obtain ⟨g2, o2, rfl, hc2⟩ := HK.out.keep HO.out.drew.below i (by simpa using hlt2)
        obtain ⟨y, hy⟩ : ∃ y, y = l[i]'hlt := ⟨_, rfl⟩
        obtain ⟨z, hz⟩ : ∃ z, z = k[i]'hlt2 := ⟨_, rfl⟩
        have e1 : (l.map (fun a : Nat => [Value.int .u64 a]))[i]'(by simpa using hlt) = (fun a : Nat => [Value.int .u64 a]) y := by rw [List.getElem_map, hy]
        have e2 : (k.map (fun a : Nat => [Value.int .u64 a]))[i]'(by simpa using hlt2) = (fun a : Nat => [Value.int .u64 a]) z := by rw [List.getElem_map, hz]
        rw [e1] at hc
        rw [e2] at hc2
        have p0 : wr.drew.cell? ⟨g, o + i, none⟩ = some (.int .u64 y) := by simpa using hc.cell 0 (by simp)
        have r0 : wr.drew.cell? ⟨g2, o2 + i, none⟩ = some (.int .u64 z) := by simpa using hc2.cell 0 (by simp)
        have hcmp := nat_bne y z
        obtain ⟨bb, hbb⟩ : ∃ bb, bb = decide (y = z) := ⟨_, rfl⟩
        first | rw [← hbb] at hcmp | skip
        have hcm2 := hbb.symm
        have HY : Hid (l[i]? = some y) := Lib.hid (by rw [List.getElem?_eq_getElem hlt, hy])
        have HZ : Hid (k[i]? = some z) := Lib.hid (by rw [List.getElem?_eq_getElem hlt2, hz])
        have HB := Lib.hid hbb
        clear hc hc2 e1 e2 hy hz hbb hlt hlt2
        cases bb with
        | true =>
          first | rw [Bool.not_true] at hcmp | skip
          go_wp2_with fail
          go_region
          all_goals
            go_wp2_with fail
            go_roundw
            case rel =>
              refine ⟨i + 1, by omega, by go_num, take_step HTK.out HY.out ?_, HO.out.drew⟩
              rw [HZ.out, of_decide_eq_true HB.out.symm]
            case measure => simp [intOf]; omega
        | false =>
          first | rw [Bool.not_false] at hcmp | skip
          go_wp2_with fail
          go_region
          all_goals
            go_wp2_with fail
            refine bodyPost_ret (v := .bool false) (by simp [results, Tryz.results29, go_sem]) rfl ⟨?_, HO.out.drew.below⟩
            have hne : l ≠ k := fun e => by
              have h1 : ¬ y = z := of_decide_eq_false HB.out.symm
              have h2 := HY.out
              rw [e, HZ.out] at h2
              exact h1 (Option.some.inj h2).symm
            rw [HR.out, decide_eq_false hne]
      · obtain rfl : i = l.length := by omega
        go_wp2_with fail
        refine bodyPost_ret (v := .bool true) (by simp [results, Tryz.results29, go_sem]) rfl ⟨?_, HO.out.below⟩
        rw [HR.out, decide_eq_true (take_all HTK.out HLN.out)]
  · have hne : ((l.length : Int) != k.length) = true := by rw [bne_iff_ne]; omega
    have hlk : l ≠ k := fun e => hln (by rw [e])
    have HLK := Lib.hid hlk
    clear hln hlk
    go_enter Tryz.func29, Tryz.ntmps29
    go_wp2_with fail
    refine bodyPost_ret (v := .bool false) (by simp [results, Tryz.results29, go_sem]) rfl ⟨?_, HO.out.below⟩
    rw [HR.out, decide_eq_false HLK.out]

set_option maxRecDepth 20000 in
set_option maxHeartbeats 4000000 in
theorem equal_names (a b : Option Addr) (c d : Nat) (l k : List ByteArray) (w : World) (hl : RowIs w 1 a (l.map (fun a : ByteArray => [Value.string a]))) (hk : RowIs w 1 b (k.map (fun a : ByteArray => [Value.string a]))) (hn : l.length ≤ 100000) (hn2 : k.length ≤ 100000) :
    Calls Tryz.prog 30 #[.slice a l.length c, .slice b k.length d] w fun e w' => e = .returned (.bool (decide (l = k))) ∧ Below w.heap.size w w' := by
  have hlI : (0 : Int) ≤ l.length ∧ (l.length : Int) ≤ 100000 := by omega
  have hkI : (0 : Int) ≤ k.length ∧ (k.length : Int) ≤ 100000 := by omega
  have HL := Lib.hid hl
  have HK := Lib.hid hk
  have HO := Lib.hid (Own.refl w)
  obtain ⟨R, hR⟩ : ∃ R, R = decide (l = k) := ⟨_, rfl⟩
  rw [← hR]
  have HR := Lib.hid hR
  clear hl hk hn hn2 hR
  by_cases hln : l.length = k.length
  · have HLN := Lib.hid hln
    have hne : ((l.length : Int) != k.length) = false := by rw [hln]; simp
    clear hln
    go_enter Tryz.func30, Tryz.ntmps30
    go_wp2_with fail
    go_loopw [13] (fun vi wr => ∃ i : Nat, i ≤ l.length ∧ vi = .int .i64 i ∧ l.take i = k.take i ∧ Own w.heap.size w wr) (fun vi _ => l.length - (intOf vi).toNat)
    case atStart => exact ⟨0, Nat.zero_le _, rfl, rfl, HO.out⟩
    case round =>
      clear HO hne
      obtain ⟨i, hi, rfl, htk, hO⟩ := hrel
      have HTK := Lib.hid htk
      have HO := Lib.hid hO
      clear htk hO
      by_cases hlt : i < l.length
      · have hlt2 : i < k.length := by rw [← HLN.out]; exact hlt
        have hiI : (0 : Int) ≤ i ∧ (i : Int) < l.length ∧ (i : Int) < k.length := by omega
        obtain ⟨g, o, rfl, hc⟩ := HL.out.keep HO.out.drew.below i (by simpa using hlt)
        obtain ⟨g2, o2, rfl, hc2⟩ := HK.out.keep HO.out.drew.below i (by simpa using hlt2)
        obtain ⟨y, hy⟩ : ∃ y, y = l[i]'hlt := ⟨_, rfl⟩
        obtain ⟨z, hz⟩ : ∃ z, z = k[i]'hlt2 := ⟨_, rfl⟩
        have e1 : (l.map (fun a : ByteArray => [Value.string a]))[i]'(by simpa using hlt) = (fun a : ByteArray => [Value.string a]) y := by rw [List.getElem_map, hy]
        have e2 : (k.map (fun a : ByteArray => [Value.string a]))[i]'(by simpa using hlt2) = (fun a : ByteArray => [Value.string a]) z := by rw [List.getElem_map, hz]
        rw [e1] at hc
        rw [e2] at hc2
        have p0 : wr.drew.cell? ⟨g, o + i, none⟩ = some (.string y) := by simpa using hc.cell 0 (by simp)
        have r0 : wr.drew.cell? ⟨g2, o2 + i, none⟩ = some (.string z) := by simpa using hc2.cell 0 (by simp)
        have hcmp := str_beq y z
        obtain ⟨bb, hbb⟩ : ∃ bb, bb = decide (y = z) := ⟨_, rfl⟩
        first | rw [← hbb] at hcmp | skip
        have hcm2 := hbb.symm
        have HY : Hid (l[i]? = some y) := Lib.hid (by rw [List.getElem?_eq_getElem hlt, hy])
        have HZ : Hid (k[i]? = some z) := Lib.hid (by rw [List.getElem?_eq_getElem hlt2, hz])
        have HB := Lib.hid hbb
        clear hc hc2 e1 e2 hy hz hbb hlt hlt2
        cases bb with
        | true =>
          first | rw [Bool.not_true] at hcmp | skip
          go_wp2_with fail
          go_region
          all_goals
            go_wp2_with fail
            go_roundw
            case rel =>
              refine ⟨i + 1, by omega, by go_num, take_step HTK.out HY.out ?_, HO.out.drew⟩
              rw [HZ.out, of_decide_eq_true HB.out.symm]
            case measure => simp [intOf]; omega
        | false =>
          first | rw [Bool.not_false] at hcmp | skip
          go_wp2_with fail
          go_region
          all_goals
            go_wp2_with fail
            refine bodyPost_ret (v := .bool false) (by simp [results, Tryz.results30, go_sem]) rfl ⟨?_, HO.out.drew.below⟩
            have hne : l ≠ k := fun e => by
              have h1 : ¬ y = z := of_decide_eq_false HB.out.symm
              have h2 := HY.out
              rw [e, HZ.out] at h2
              exact h1 (Option.some.inj h2).symm
            rw [HR.out, decide_eq_false hne]
      · obtain rfl : i = l.length := by omega
        go_wp2_with fail
        refine bodyPost_ret (v := .bool true) (by simp [results, Tryz.results30, go_sem]) rfl ⟨?_, HO.out.below⟩
        rw [HR.out, decide_eq_true (take_all HTK.out HLN.out)]
  · have hne : ((l.length : Int) != k.length) = true := by rw [bne_iff_ne]; omega
    have hlk : l ≠ k := fun e => hln (by rw [e])
    have HLK := Lib.hid hlk
    clear hln hlk
    go_enter Tryz.func30, Tryz.ntmps30
    go_wp2_with fail
    refine bodyPost_ret (v := .bool false) (by simp [results, Tryz.results30, go_sem]) rfl ⟨?_, HO.out.below⟩
    rw [HR.out, decide_eq_false HLK.out]

set_option maxRecDepth 20000 in
set_option maxHeartbeats 4000000 in
theorem equal_parts (a b : Option Addr) (c d : Nat) (l k : List Nat) (w : World) (hl : RowIs w 1 a (l.map (fun a : Nat => [Value.int .u32 a]))) (hk : RowIs w 1 b (k.map (fun a : Nat => [Value.int .u32 a]))) (hn : l.length ≤ 100000) (hn2 : k.length ≤ 100000) :
    Calls Tryz.prog 31 #[.slice a l.length c, .slice b k.length d] w fun e w' => e = .returned (.bool (decide (l = k))) ∧ Below w.heap.size w w' := by
  have hlI : (0 : Int) ≤ l.length ∧ (l.length : Int) ≤ 100000 := by omega
  have hkI : (0 : Int) ≤ k.length ∧ (k.length : Int) ≤ 100000 := by omega
  have HL := Lib.hid hl
  have HK := Lib.hid hk
  have HO := Lib.hid (Own.refl w)
  obtain ⟨R, hR⟩ : ∃ R, R = decide (l = k) := ⟨_, rfl⟩
  rw [← hR]
  have HR := Lib.hid hR
  clear hl hk hn hn2 hR
  by_cases hln : l.length = k.length
  · have HLN := Lib.hid hln
    have hne : ((l.length : Int) != k.length) = false := by rw [hln]; simp
    clear hln
    go_enter Tryz.func31, Tryz.ntmps31
    go_wp2_with fail
    go_loopw [13] (fun vi wr => ∃ i : Nat, i ≤ l.length ∧ vi = .int .i64 i ∧ l.take i = k.take i ∧ Own w.heap.size w wr) (fun vi _ => l.length - (intOf vi).toNat)
    case atStart => exact ⟨0, Nat.zero_le _, rfl, rfl, HO.out⟩
    case round =>
      clear HO hne
      obtain ⟨i, hi, rfl, htk, hO⟩ := hrel
      have HTK := Lib.hid htk
      have HO := Lib.hid hO
      clear htk hO
      by_cases hlt : i < l.length
      · have hlt2 : i < k.length := by rw [← HLN.out]; exact hlt
        have hiI : (0 : Int) ≤ i ∧ (i : Int) < l.length ∧ (i : Int) < k.length := by omega
        obtain ⟨g, o, rfl, hc⟩ := HL.out.keep HO.out.drew.below i (by simpa using hlt)
        obtain ⟨g2, o2, rfl, hc2⟩ := HK.out.keep HO.out.drew.below i (by simpa using hlt2)
        obtain ⟨y, hy⟩ : ∃ y, y = l[i]'hlt := ⟨_, rfl⟩
        obtain ⟨z, hz⟩ : ∃ z, z = k[i]'hlt2 := ⟨_, rfl⟩
        have e1 : (l.map (fun a : Nat => [Value.int .u32 a]))[i]'(by simpa using hlt) = (fun a : Nat => [Value.int .u32 a]) y := by rw [List.getElem_map, hy]
        have e2 : (k.map (fun a : Nat => [Value.int .u32 a]))[i]'(by simpa using hlt2) = (fun a : Nat => [Value.int .u32 a]) z := by rw [List.getElem_map, hz]
        rw [e1] at hc
        rw [e2] at hc2
        have p0 : wr.drew.cell? ⟨g, o + i, none⟩ = some (.int .u32 y) := by simpa using hc.cell 0 (by simp)
        have r0 : wr.drew.cell? ⟨g2, o2 + i, none⟩ = some (.int .u32 z) := by simpa using hc2.cell 0 (by simp)
        have hcmp := nat_bne y z
        obtain ⟨bb, hbb⟩ : ∃ bb, bb = decide (y = z) := ⟨_, rfl⟩
        first | rw [← hbb] at hcmp | skip
        have hcm2 := hbb.symm
        have HY : Hid (l[i]? = some y) := Lib.hid (by rw [List.getElem?_eq_getElem hlt, hy])
        have HZ : Hid (k[i]? = some z) := Lib.hid (by rw [List.getElem?_eq_getElem hlt2, hz])
        have HB := Lib.hid hbb
        clear hc hc2 e1 e2 hy hz hbb hlt hlt2
        cases bb with
        | true =>
          first | rw [Bool.not_true] at hcmp | skip
          go_wp2_with fail
          go_region
          all_goals
            go_wp2_with fail
            go_roundw
            case rel =>
              refine ⟨i + 1, by omega, by go_num, take_step HTK.out HY.out ?_, HO.out.drew⟩
              rw [HZ.out, of_decide_eq_true HB.out.symm]
            case measure => simp [intOf]; omega
        | false =>
          first | rw [Bool.not_false] at hcmp | skip
          go_wp2_with fail
          go_region
          all_goals
            go_wp2_with fail
            refine bodyPost_ret (v := .bool false) (by simp [results, Tryz.results31, go_sem]) rfl ⟨?_, HO.out.drew.below⟩
            have hne : l ≠ k := fun e => by
              have h1 : ¬ y = z := of_decide_eq_false HB.out.symm
              have h2 := HY.out
              rw [e, HZ.out] at h2
              exact h1 (Option.some.inj h2).symm
            rw [HR.out, decide_eq_false hne]
      · obtain rfl : i = l.length := by omega
        go_wp2_with fail
        refine bodyPost_ret (v := .bool true) (by simp [results, Tryz.results31, go_sem]) rfl ⟨?_, HO.out.below⟩
        rw [HR.out, decide_eq_true (take_all HTK.out HLN.out)]
  · have hne : ((l.length : Int) != k.length) = true := by rw [bne_iff_ne]; omega
    have hlk : l ≠ k := fun e => hln (by rw [e])
    have HLK := Lib.hid hlk
    clear hln hlk
    go_enter Tryz.func31, Tryz.ntmps31
    go_wp2_with fail
    refine bodyPost_ret (v := .bool false) (by simp [results, Tryz.results31, go_sem]) rfl ⟨?_, HO.out.below⟩
    rw [HR.out, decide_eq_false HLK.out]

theorem neq_own (y z : Mg.Rng) (w : World) : (binOp .neq 31 (.agg #[.int .u64 y.frm, .int .u64 y.top]) (.agg #[.int .u64 z.frm, .int .u64 z.top])).run Tryz.prog w = .ok (.bool (!decide (y = z))) w := by
  obtain ⟨a0, a1⟩ := y
  obtain ⟨b0, b1⟩ := z
  by_cases h0 : a0 = b0
  · subst h0
    by_cases h1 : a1 = b1
    · subst h1
      first | (go_simp; done) | (go_simp; simp)
    · have : ¬ (a1 : Int) = b1 := by omega
      first | (go_simp; done) | (go_simp; simp_all)
  · have : ¬ (a0 : Int) = b0 := by omega
    first | (go_simp; done) | (go_simp; simp_all)
attribute [local go_sem ↓ high] neq_own
set_option maxRecDepth 20000 in
set_option maxHeartbeats 4000000 in
theorem equal_own (a b : Option Addr) (c d : Nat) (l k : List Mg.Rng) (w : World) (hl : RowIs w 2 a (l.map Mg.Rng.cells)) (hk : RowIs w 2 b (k.map Mg.Rng.cells)) (hn : l.length ≤ 100000) (hn2 : k.length ≤ 100000) :
    Calls Tryz.prog 34 #[.slice a l.length c, .slice b k.length d] w fun e w' => e = .returned (.bool (decide (l = k))) ∧ Below w.heap.size w w' := by
  have hlI : (0 : Int) ≤ l.length ∧ (l.length : Int) ≤ 100000 := by omega
  have hkI : (0 : Int) ≤ k.length ∧ (k.length : Int) ≤ 100000 := by omega
  have HL := Lib.hid hl
  have HK := Lib.hid hk
  have HO := Lib.hid (Own.refl w)
  obtain ⟨R, hR⟩ : ∃ R, R = decide (l = k) := ⟨_, rfl⟩
  rw [← hR]
  have HR := Lib.hid hR
  clear hl hk hn hn2 hR
  by_cases hln : l.length = k.length
  · have HLN := Lib.hid hln
    have hne : ((l.length : Int) != k.length) = false := by rw [hln]; simp
    clear hln
    go_enter Tryz.func34, Tryz.ntmps34
    go_wp2_with fail
    go_loopw [13] (fun vi wr => ∃ i : Nat, i ≤ l.length ∧ vi = .int .i64 i ∧ l.take i = k.take i ∧ Own w.heap.size w wr) (fun vi _ => l.length - (intOf vi).toNat)
    case atStart => exact ⟨0, Nat.zero_le _, rfl, rfl, HO.out⟩
    case round =>
      clear HO hne
      obtain ⟨i, hi, rfl, htk, hO⟩ := hrel
      have HTK := Lib.hid htk
      have HO := Lib.hid hO
      clear htk hO
      by_cases hlt : i < l.length
      · have hlt2 : i < k.length := by rw [← HLN.out]; exact hlt
        have hiI : (0 : Int) ≤ i ∧ (i : Int) < l.length ∧ (i : Int) < k.length := by omega
        obtain ⟨g, o, rfl, hc⟩ := HL.out.keep HO.out.drew.below i (by simpa using hlt)
        obtain ⟨g2, o2, rfl, hc2⟩ := HK.out.keep HO.out.drew.below i (by simpa using hlt2)
        obtain ⟨y, hy⟩ : ∃ y, y = l[i]'hlt := ⟨_, rfl⟩
        obtain ⟨z, hz⟩ : ∃ z, z = k[i]'hlt2 := ⟨_, rfl⟩
        have e1 : (l.map Mg.Rng.cells)[i]'(by simpa using hlt) = Mg.Rng.cells y := by rw [List.getElem_map, hy]
        have e2 : (k.map Mg.Rng.cells)[i]'(by simpa using hlt2) = Mg.Rng.cells z := by rw [List.getElem_map, hz]
        rw [e1] at hc
        rw [e2] at hc2
        have p0 : wr.drew.cell? ⟨g, o + i * 2, none⟩ = some (.int .u64 y.frm) := hc.cell 0 (by simp)
        have r0 : wr.drew.cell? ⟨g2, o2 + i * 2, none⟩ = some (.int .u64 z.frm) := hc2.cell 0 (by simp)
        have p1 : wr.drew.cell? ⟨g, o + i * 2 + 1, none⟩ = some (.int .u64 y.top) := hc.cell 1 (by simp)
        have r1 : wr.drew.cell? ⟨g2, o2 + i * 2 + 1, none⟩ = some (.int .u64 z.top) := hc2.cell 1 (by simp)
        have hcmp := True.intro
        obtain ⟨bb, hbb⟩ : ∃ bb, bb = decide (y = z) := ⟨_, rfl⟩
        first | rw [← hbb] at hcmp | skip
        have hcm2 := hbb.symm
        have HY : Hid (l[i]? = some y) := Lib.hid (by rw [List.getElem?_eq_getElem hlt, hy])
        have HZ : Hid (k[i]? = some z) := Lib.hid (by rw [List.getElem?_eq_getElem hlt2, hz])
        have HB := Lib.hid hbb
        clear hc hc2 e1 e2 hy hz hbb hlt hlt2
        cases bb with
        | true =>
          first | rw [Bool.not_true] at hcmp | skip
          go_wp2_with fail
          go_region
          all_goals
            go_wp2_with fail
            go_roundw
            case rel =>
              refine ⟨i + 1, by omega, by go_num, take_step HTK.out HY.out ?_, HO.out.drew⟩
              rw [HZ.out, of_decide_eq_true HB.out.symm]
            case measure => simp [intOf]; omega
        | false =>
          first | rw [Bool.not_false] at hcmp | skip
          go_wp2_with fail
          go_region
          all_goals
            go_wp2_with fail
            refine bodyPost_ret (v := .bool false) (by simp [results, Tryz.results34, go_sem]) rfl ⟨?_, HO.out.drew.below⟩
            have hne : l ≠ k := fun e => by
              have h1 : ¬ y = z := of_decide_eq_false HB.out.symm
              have h2 := HY.out
              rw [e, HZ.out] at h2
              exact h1 (Option.some.inj h2).symm
            rw [HR.out, decide_eq_false hne]
      · obtain rfl : i = l.length := by omega
        go_wp2_with fail
        refine bodyPost_ret (v := .bool true) (by simp [results, Tryz.results34, go_sem]) rfl ⟨?_, HO.out.below⟩
        rw [HR.out, decide_eq_true (take_all HTK.out HLN.out)]
  · have hne : ((l.length : Int) != k.length) = true := by rw [bne_iff_ne]; omega
    have hlk : l ≠ k := fun e => hln (by rw [e])
    have HLK := Lib.hid hlk
    clear hln hlk
    go_enter Tryz.func34, Tryz.ntmps34
    go_wp2_with fail
    refine bodyPost_ret (v := .bool false) (by simp [results, Tryz.results34, go_sem]) rfl ⟨?_, HO.out.below⟩
    rw [HR.out, decide_eq_false HLK.out]

theorem neq_vers (y z : Mg.Ver) (w : World) : (binOp .neq 62 (.agg #[.int .u64 y.n, .int .u8 y.st, .string y.t]) (.agg #[.int .u64 z.n, .int .u8 z.st, .string z.t])).run Tryz.prog w = .ok (.bool (!decide (y = z))) w := by
  obtain ⟨a0, a1, a2⟩ := y
  obtain ⟨b0, b1, b2⟩ := z
  by_cases h0 : a0 = b0
  · subst h0
    by_cases h1 : a1 = b1
    · subst h1
      by_cases h2 : a2 = b2
      · subst h2
        first | (go_simp; done) | (go_simp; simp)
      · have := str_ne h2
        first | (go_simp; done) | (go_simp; simp_all)
    · have : ¬ (a1 : Int) = b1 := by omega
      first | (go_simp; done) | (go_simp; simp_all)
  · have : ¬ (a0 : Int) = b0 := by omega
    first | (go_simp; done) | (go_simp; simp_all)
attribute [local go_sem ↓ high] neq_vers
set_option maxRecDepth 20000 in
set_option maxHeartbeats 4000000 in
theorem equal_vers (a b : Option Addr) (c d : Nat) (l k : List Mg.Ver) (w : World) (hl : RowIs w 3 a (l.map Mg.Ver.cells)) (hk : RowIs w 3 b (k.map Mg.Ver.cells)) (hn : l.length ≤ 100000) (hn2 : k.length ≤ 100000) :
    Calls Tryz.prog 62 #[.slice a l.length c, .slice b k.length d] w fun e w' => e = .returned (.bool (decide (l = k))) ∧ Below w.heap.size w w' := by
  have hlI : (0 : Int) ≤ l.length ∧ (l.length : Int) ≤ 100000 := by omega
  have hkI : (0 : Int) ≤ k.length ∧ (k.length : Int) ≤ 100000 := by omega
  have HL := Lib.hid hl
  have HK := Lib.hid hk
  have HO := Lib.hid (Own.refl w)
  obtain ⟨R, hR⟩ : ∃ R, R = decide (l = k) := ⟨_, rfl⟩
  rw [← hR]
  have HR := Lib.hid hR
  clear hl hk hn hn2 hR
  by_cases hln : l.length = k.length
  · have HLN := Lib.hid hln
    have hne : ((l.length : Int) != k.length) = false := by rw [hln]; simp
    clear hln
    go_enter Tryz.func62, Tryz.ntmps62
    go_wp2_with fail
    go_loopw [13] (fun vi wr => ∃ i : Nat, i ≤ l.length ∧ vi = .int .i64 i ∧ l.take i = k.take i ∧ Own w.heap.size w wr) (fun vi _ => l.length - (intOf vi).toNat)
    case atStart => exact ⟨0, Nat.zero_le _, rfl, rfl, HO.out⟩
    case round =>
      clear HO hne
      obtain ⟨i, hi, rfl, htk, hO⟩ := hrel
      have HTK := Lib.hid htk
      have HO := Lib.hid hO
      clear htk hO
      by_cases hlt : i < l.length
      · have hlt2 : i < k.length := by rw [← HLN.out]; exact hlt
        have hiI : (0 : Int) ≤ i ∧ (i : Int) < l.length ∧ (i : Int) < k.length := by omega
        obtain ⟨g, o, rfl, hc⟩ := HL.out.keep HO.out.drew.below i (by simpa using hlt)
        obtain ⟨g2, o2, rfl, hc2⟩ := HK.out.keep HO.out.drew.below i (by simpa using hlt2)
        obtain ⟨y, hy⟩ : ∃ y, y = l[i]'hlt := ⟨_, rfl⟩
        obtain ⟨z, hz⟩ : ∃ z, z = k[i]'hlt2 := ⟨_, rfl⟩
        have e1 : (l.map Mg.Ver.cells)[i]'(by simpa using hlt) = Mg.Ver.cells y := by rw [List.getElem_map, hy]
        have e2 : (k.map Mg.Ver.cells)[i]'(by simpa using hlt2) = Mg.Ver.cells z := by rw [List.getElem_map, hz]
        rw [e1] at hc
        rw [e2] at hc2
        have p0 : wr.drew.cell? ⟨g, o + i * 3, none⟩ = some (.int .u64 y.n) := hc.cell 0 (by simp)
        have r0 : wr.drew.cell? ⟨g2, o2 + i * 3, none⟩ = some (.int .u64 z.n) := hc2.cell 0 (by simp)
        have p1 : wr.drew.cell? ⟨g, o + i * 3 + 1, none⟩ = some (.int .u8 y.st) := hc.cell 1 (by simp)
        have r1 : wr.drew.cell? ⟨g2, o2 + i * 3 + 1, none⟩ = some (.int .u8 z.st) := hc2.cell 1 (by simp)
        have p2 : wr.drew.cell? ⟨g, o + i * 3 + 2, none⟩ = some (.string y.t) := hc.cell 2 (by simp)
        have r2 : wr.drew.cell? ⟨g2, o2 + i * 3 + 2, none⟩ = some (.string z.t) := hc2.cell 2 (by simp)
        have hcmp := True.intro
        obtain ⟨bb, hbb⟩ : ∃ bb, bb = decide (y = z) := ⟨_, rfl⟩
        first | rw [← hbb] at hcmp | skip
        have hcm2 := hbb.symm
        have HY : Hid (l[i]? = some y) := Lib.hid (by rw [List.getElem?_eq_getElem hlt, hy])
        have HZ : Hid (k[i]? = some z) := Lib.hid (by rw [List.getElem?_eq_getElem hlt2, hz])
        have HB := Lib.hid hbb
        clear hc hc2 e1 e2 hy hz hbb hlt hlt2
        cases bb with
        | true =>
          first | rw [Bool.not_true] at hcmp | skip
          go_wp2_with fail
          go_region
          all_goals
            go_wp2_with fail
            go_roundw
            case rel =>
              refine ⟨i + 1, by omega, by go_num, take_step HTK.out HY.out ?_, HO.out.drew⟩
              rw [HZ.out, of_decide_eq_true HB.out.symm]
            case measure => simp [intOf]; omega
        | false =>
          first | rw [Bool.not_false] at hcmp | skip
          go_wp2_with fail
          go_region
          all_goals
            go_wp2_with fail
            refine bodyPost_ret (v := .bool false) (by simp [results, Tryz.results62, go_sem]) rfl ⟨?_, HO.out.drew.below⟩
            have hne : l ≠ k := fun e => by
              have h1 : ¬ y = z := of_decide_eq_false HB.out.symm
              have h2 := HY.out
              rw [e, HZ.out] at h2
              exact h1 (Option.some.inj h2).symm
            rw [HR.out, decide_eq_false hne]
      · obtain rfl : i = l.length := by omega
        go_wp2_with fail
        refine bodyPost_ret (v := .bool true) (by simp [results, Tryz.results62, go_sem]) rfl ⟨?_, HO.out.below⟩
        rw [HR.out, decide_eq_true (take_all HTK.out HLN.out)]
  · have hne : ((l.length : Int) != k.length) = true := by rw [bne_iff_ne]; omega
    have hlk : l ≠ k := fun e => hln (by rw [e])
    have HLK := Lib.hid hlk
    clear hln hlk
    go_enter Tryz.func62, Tryz.ntmps62
    go_wp2_with fail
    refine bodyPost_ret (v := .bool false) (by simp [results, Tryz.results62, go_sem]) rfl ⟨?_, HO.out.below⟩
    rw [HR.out, decide_eq_false HLK.out]

end Go.Proofs.YtjgnomjjphkfbaaGreat

namespace Go.Proofs.YtjgnomjjphkfbaaGreat
open Go.RowKit

set_option maxRecDepth 20000 in
set_option maxHeartbeats 4000000 in
theorem same_row (y z : Mg.Row) (a b : Option Addr) (c d : Nat) (w : World) (ha : ArgL w 3 a c (y.l.map Mg.Ver.cells)) (hb : ArgL w 3 b d (z.l.map Mg.Ver.cells)) (hn : y.l.length ≤ 100000) (hn2 : z.l.length ≤ 100000) :
    Calls Tryz.prog 33 #[.agg #[.string y.p, .int .u64 y.last, .slice a y.l.length c], .agg #[.string z.p, .int .u64 z.last, .slice b z.l.length d]] w fun e w' => e = .returned (.bool (decide (y = z))) ∧ Below w.heap.size w w' := by
  have hO := ((Own.refl w).alloc (.cells #[.string y.p, .int .u64 y.last, .slice a y.l.length c] 72 (0, 0))).alloc (.cells #[.string z.p, .int .u64 z.last, .slice b z.l.length d] 72 (0, 0))
  have HC := Lib.hid (equal_vers a b c d y.l z.l _ (ha.keep hO.below).row (hb.keep hO.below).row hn hn2)
  have HO := Lib.hid hO
  obtain ⟨p, n, l⟩ := y
  obtain ⟨p2, n2, l2⟩ := z
  have HE : Hid (decide (({ p := p, last := n, l := l } : Mg.Row) = { p := p2, last := n2, l := l2 }) = (decide (p = p2) && (decide (n = n2) && decide (l = l2)))) := Lib.hid (by
    by_cases h1 : p = p2 <;> by_cases h2 : n = n2 <;> by_cases h3 : l = l2 <;> simp [h1, h2, h3])
  rw [HE.out]
  clear hO ha hb hn hn2 HE
  have h1 := str_beq p p2
  have h2 : ((n : Int) == (n2 : Int)) = decide (n = n2) := by
    have := nat_bne n n2
    simp only [bne] at this
    simpa using this
  generalize decide (p = p2) = b1 at *
  generalize decide (n = n2) = b2 at *
  cases b1 with
  | false =>
    clear HC h2
    rw [Bool.false_and]
    go_enter Tryz.func33, Tryz.ntmps33
    go_wp2_with fail
    go_ret
    exact ⟨rfl, HO.out.below⟩
  | true =>
    cases b2 with
    | false =>
      clear HC
      rw [Bool.false_and, Bool.and_false]
      go_enter Tryz.func33, Tryz.ntmps33
      go_wp2_with fail
      go_ret
      exact ⟨rfl, HO.out.below⟩
    | true =>
      rw [Bool.true_and, Bool.true_and]
      generalize decide (l = l2) = b3 at *
      go_enter Tryz.func33, Tryz.ntmps33
      go_wp2_with fail
      refine HC.out.mono ?_
      rintro e w1 ⟨rfl, hb1⟩
      have HB := Lib.hid (HO.out.trans hb1)
      clear hb1
      go_wp2_with fail
      go_ret
      exact ⟨rfl, HB.out.below⟩

set_option maxRecDepth 20000 in
set_option maxHeartbeats 4000000 in
theorem equal_rows (a b : Option Addr) (c d : Nat) (l k : List Mg.Row) (xs ys : List (List Value)) (w : World) (hl : ArgL w 3 a c xs) (hlr : RowsA w l xs) (hk : ArgL w 3 b d ys) (hkr : RowsA w k ys) (hn : l.length ≤ 100000) (hn2 : k.length ≤ 100000) (hv : ∀ y ∈ l, y.l.length ≤ 100000) (hv2 : ∀ y ∈ k, y.l.length ≤ 100000) :
    Calls Tryz.prog 32 #[.slice a l.length c, .slice b k.length d, .func (.func 33) #[] #[]] w fun e w' => e = .returned (.bool (decide (l = k))) ∧ Below w.heap.size w w' := by
  have hlI : (0 : Int) ≤ l.length ∧ (l.length : Int) ≤ 100000 := by omega
  have hkI : (0 : Int) ≤ k.length ∧ (k.length : Int) ≤ 100000 := by omega
  have HL := Lib.hid hl
  have HK := Lib.hid hk
  have HLR := Lib.hid hlr
  have HKR := Lib.hid hkr
  have HV := Lib.hid (And.intro hv hv2)
  have HO := Lib.hid (Own.refl w)
  obtain ⟨R, hR⟩ : ∃ R, R = decide (l = k) := ⟨_, rfl⟩
  rw [← hR]
  have HR := Lib.hid hR
  clear hl hk hn hn2 hR hlr hkr hv hv2
  by_cases hln : l.length = k.length
  · have HLN := Lib.hid hln
    have hne : ((l.length : Int) != k.length) = false := by rw [hln]; simp
    clear hln
    go_enter Tryz.func32, Tryz.ntmps32
    go_wp2_with fail
    go_loopw [17] (fun vi wr => ∃ i : Nat, i ≤ l.length ∧ vi = .int .i64 i ∧ l.take i = k.take i ∧ Own w.heap.size w wr) (fun vi _ => l.length - (intOf vi).toNat)
    case atStart => exact ⟨0, Nat.zero_le _, rfl, rfl, HO.out⟩
    case round =>
      clear HO hne
      obtain ⟨i, hi, rfl, htk, hO⟩ := hrel
      have HTK := Lib.hid htk
      have HO := Lib.hid hO
      clear htk hO
      by_cases hlt : i < l.length
      · have hlt2 : i < k.length := by rw [← HLN.out]; exact hlt
        have hiI : (0 : Int) ≤ i ∧ (i : Int) < l.length ∧ (i : Int) < k.length := by omega
        have hx : i < xs.length := by rw [HLR.out.1]; exact hlt
        have hy : i < ys.length := by rw [HKR.out.1]; exact hlt2
        obtain ⟨g, o, rfl, hc⟩ := (HL.out.keep HO.out.below).row i hx
        obtain ⟨g2, o2, rfl, hc2⟩ := (HK.out.keep HO.out.below).row i hy
        obtain ⟨sy, cy, e1, hay⟩ := (HLR.out.keep HO.out.below).2 i hlt
        obtain ⟨sz, cz, e2, haz⟩ := (HKR.out.keep HO.out.below).2 i hlt2
        obtain ⟨y, hyy⟩ : ∃ y, y = l[i]'hlt := ⟨_, rfl⟩
        obtain ⟨z, hzz⟩ : ∃ z, z = k[i]'hlt2 := ⟨_, rfl⟩
        rw [← hyy] at e1 hay
        rw [← hzz] at e2 haz
        rw [List.getElem?_eq_getElem hx] at e1
        rw [List.getElem?_eq_getElem hy] at e2
        rw [Option.some.inj e1] at hc
        rw [Option.some.inj e2] at hc2
        have p0 : wr.cell? ⟨g, o + i * 3, none⟩ = some (.string y.p) := hc.cell 0 (by simp)
        have p1 : wr.cell? ⟨g, o + i * 3 + 1, none⟩ = some (.int .u64 y.last) := hc.cell 1 (by simp)
        have p2 : wr.cell? ⟨g, o + i * 3 + 2, none⟩ = some (.slice sy y.l.length cy) := hc.cell 2 (by simp)
        have hcl := hc.lt
        have hb2 := (HO.out.alloc (.cells #[.string y.p, .int .u64 y.last, .slice sy y.l.length cy] 72 (0, 0))).below
        have r0 : wr.cell? ⟨g2, o2 + i * 3, none⟩ = some (.string z.p) := hc2.cell 0 (by simp)
        have r1 : wr.cell? ⟨g2, o2 + i * 3 + 1, none⟩ = some (.int .u64 z.last) := hc2.cell 1 (by simp)
        have r2 : wr.cell? ⟨g2, o2 + i * 3 + 2, none⟩ = some (.slice sz z.l.length cz) := hc2.cell 2 (by simp)
        have hcl2 := hc2.lt
        have HY : Hid (l[i]? = some y) := Lib.hid (by rw [List.getElem?_eq_getElem hlt, hyy])
        have HZ : Hid (k[i]? = some z) := Lib.hid (by rw [List.getElem?_eq_getElem hlt2, hzz])
        have hoo := ((Own.refl wr).alloc (.cells #[.string y.p, .int .u64 y.last, .slice sy y.l.length cy] 72 (0, 0))).alloc (.cells #[.string z.p, .int .u64 z.last, .slice sz z.l.length cz] 72 (0, 0))
        have HC := Lib.hid (same_row y z sy sz cy cz _ (hay.keep hoo.below) (haz.keep hoo.below) (by rw [hyy]; exact HV.out.1 _ (List.getElem_mem _)) (by rw [hzz]; exact HV.out.2 _ (List.getElem_mem _)))
        have HOO := Lib.hid hoo
        clear hc hc2 e1 e2 hyy hzz hlt hlt2 hay haz hoo hb2
        go_wp2_with fail
        refine HC.out.mono ?_
        rintro e w5 ⟨rfl, hb5⟩
        have HO5 := Lib.hid (HO.out.trans (HOO.out.trans hb5).below)
        obtain ⟨bb, hbb⟩ : ∃ bb, bb = decide (y = z) := ⟨_, rfl⟩
        rw [← hbb]
        have HB := Lib.hid hbb
        clear hb5 hbb HC HOO p0 p1 p2 r0 r1 r2
        cases bb with
        | true =>
          go_wp2_with fail
          go_roundw
          case rel =>
            refine ⟨i + 1, by omega, by go_num, take_step HTK.out HY.out ?_, HO5.out⟩
            rw [HZ.out, of_decide_eq_true HB.out.symm]
          case measure => simp [intOf]; omega
        | false =>
          go_wp2_with fail
          refine bodyPost_ret (v := .bool false) (by simp [results, Tryz.results32, go_sem]) rfl ⟨?_, HO5.out.below⟩
          have hne : l ≠ k := fun e => by
            have h1 : ¬ y = z := of_decide_eq_false HB.out.symm
            have h2 := HY.out
            rw [e, HZ.out] at h2
            exact h1 (Option.some.inj h2).symm
          rw [HR.out, decide_eq_false hne]
      · obtain rfl : i = l.length := by omega
        go_wp2_with fail
        refine bodyPost_ret (v := .bool true) (by simp [results, Tryz.results32, go_sem]) rfl ⟨?_, HO.out.below⟩
        rw [HR.out, decide_eq_true (take_all HTK.out HLN.out)]
  · have hne : ((l.length : Int) != k.length) = true := by rw [bne_iff_ne]; omega
    have hlk : l ≠ k := fun e => hln (by rw [e])
    have HLK := Lib.hid hlk
    clear hln hlk
    go_enter Tryz.func32, Tryz.ntmps32
    go_wp2_with fail
    refine bodyPost_ret (v := .bool false) (by simp [results, Tryz.results32, go_sem]) rfl ⟨?_, HO.out.below⟩
    rw [HR.out, decide_eq_false HLK.out]

end Go.Proofs.YtjgnomjjphkfbaaGreat

namespace Go.Proofs.YtjgnomjjphkfbaaGreat
open Go.RowKit

/-- What stands of a message's question in its cells, and of what it is told. -/
def askV (s : MS) (x : Mg.Msg) : Array Value := (((s.cells x).drop 7).take 11).toArray
def toldV (s : MS) (x : Mg.Msg) : Array Value := (((s.cells x).drop 23).take 4).toArray
def ldAsk (a : Addr) := loadVar 33 a
theorem ldAsk_eq (a : Addr) : loadVar 33 a = ldAsk a := rfl
def stAsk (a : Addr) (v : Value) := storeVar 33 a v
theorem stAsk_eq (a : Addr) (v : Value) : storeVar 33 a v = stAsk a v := rfl
def ldTold (a : Addr) := loadVar 41 a
theorem ldTold_eq (a : Addr) : loadVar 41 a = ldTold a := rfl
def stTold (a : Addr) (v : Value) := storeVar 41 a v
theorem stTold_eq (a : Addr) (v : Value) : storeVar 41 a v = stTold a v := rfl
theorem ldAsk_run (w : World) (b : Nat) (s : MS) (x : Mg.Msg) (h : w.heap[b]? = some (.cells (MV s x) 43 (0, 0))) : (ldAsk ⟨b, 7, none⟩).run Tryz.prog w = .ok (.agg (askV s x)) w :=
  run_loadVar_agg w b 7 11 43 33 (MV s x) (0, 0) _ h Tryz.underlying33 rfl (by kernel_rfl) (by rw [MV_size]; decide)
theorem ldTold_run (w : World) (b : Nat) (s : MS) (x : Mg.Msg) (h : w.heap[b]? = some (.cells (MV s x) 43 (0, 0))) : (ldTold ⟨b, 23, none⟩).run Tryz.prog w = .ok (.agg (toldV s x)) w :=
  run_loadVar_agg w b 23 4 43 41 (MV s x) (0, 0) _ h Tryz.underlying41 rfl (by kernel_rfl) (by rw [MV_size]; decide)
theorem run_storeVar_agg {P : Program} (w : World) (ty : TypeId) (g : Nat) (vs cs : Array Value) (t : TypeId) (hg : w.heap[g]? = some (.cells cs t (0, 0))) (hi : (P.info? ty).map (·.size) = some vs.size) (hn : vs.size = cs.size) (h1 : ∀ v ∈ vs.toList, v.oneCell' = true) :
    ∃ w', (storeVar ty ⟨g, 0, none⟩ (.agg vs)).run P w = .ok () w' ∧ PutAt w w' g vs t := by
  have hs := run_storeCells_at (P := P) g 0 t vs.toList 0 cs w hg (by simp; omega) h1
  cases hq : P.info? ty with
  | none => simp [hq] at hi
  | some i =>
    have hsz : i.size = vs.size := by simpa [hq] using hi
    have hvar : (storeVar ty ⟨g, 0, none⟩ (.agg vs)).run P w = .ok () (w.setRow g (cs.toList.take 0 ++ vs.toList ++ cs.toList.drop (0 + vs.size)).toArray) := by
      simp only [storeVar, Value.cells, Sem.run_bind, sizeOf, typeInfo, run_program, Result.andThen_ok, hq, Sem.run_pure, hsz]
      simpa using hs
    have e : (cs.toList.take 0 ++ vs.toList ++ cs.toList.drop (0 + vs.size)).toArray = vs := by
      rw [List.drop_eq_nil_of_le (by simp; omega)]; simp
    rw [e] at hvar
    exact ⟨_, hvar, putAt_setRow w g cs vs t hg⟩
theorem askV_size (s : MS) (x : Mg.Msg) : (askV s x).size = 11 := rfl
theorem toldV_size (s : MS) (x : Mg.Msg) : (toldV s x).size = 4 := rfl
theorem mem_take_drop {α : Type} {l : List α} {i n : Nat} {v : α} (h : v ∈ (l.drop i).take n) : v ∈ l := List.mem_of_mem_drop (List.mem_of_mem_take h)
theorem askV_one (s : MS) (x : Mg.Msg) : ∀ v ∈ (askV s x).toList, v.oneCell' = true := fun v hv => MV_one s x v (mem_take_drop hv)
theorem toldV_one (s : MS) (x : Mg.Msg) : ∀ v ∈ (toldV s x).toList, v.oneCell' = true := fun v hv => MV_one s x v (mem_take_drop hv)
theorem stAsk_run (w : World) (g : Nat) (s : MS) (x : Mg.Msg) (cs : Array Value) (hg : w.heap[g]? = some (.cells cs 33 (0, 0))) (hc : cs.size = 11) : ∃ w', (stAsk ⟨g, 0, none⟩ (.agg (askV s x))).run Tryz.prog w = .ok () w' ∧ PutAt w w' g (askV s x) 33 :=
  run_storeVar_agg w _ g _ cs _ hg (by rw [askV_size]; kernel_rfl) (by rw [askV_size, hc]) (askV_one s x)
theorem stTold_run (w : World) (g : Nat) (s : MS) (x : Mg.Msg) (cs : Array Value) (hg : w.heap[g]? = some (.cells cs 41 (0, 0))) (hc : cs.size = 4) : ∃ w', (stTold ⟨g, 0, none⟩ (.agg (toldV s x))).run Tryz.prog w = .ok () w' ∧ PutAt w w' g (toldV s x) 41 :=
  run_storeVar_agg w _ g _ cs _ hg (by rw [toldV_size]; kernel_rfl) (by rw [toldV_size, hc]) (toldV_one s x)
theorem nat_beq (a b : Nat) : ((a : Int) == (b : Int)) = decide (a = b) := by
  have := nat_bne a b
  simp only [bne] at this
  simpa using this
theorem int_beq (a b : Int) : (a == b) = decide (a = b) := by
  have := int_bne a b
  simp only [bne] at this
  simpa using this
theorem bool_beq (a b : Bool) : (a == b) = decide (a = b) := by cases a <;> cases b <;> rfl
theorem eq_rng (y z : Mg.Rng) (w : World) : (binOp .eql 31 (.agg #[.int .u64 y.frm, .int .u64 y.top]) (.agg #[.int .u64 z.frm, .int .u64 z.top])).run Tryz.prog w = .ok (.bool (decide (y = z))) w := by
  obtain ⟨a0, a1⟩ := y
  obtain ⟨b0, b1⟩ := z
  by_cases h0 : a0 = b0
  · subst h0
    by_cases h1 : a1 = b1
    · subst h1
      first | (go_simp; done) | (go_simp; simp)
    · have : ¬ (a1 : Int) = b1 := by omega
      first | (go_simp; done) | (go_simp; simp_all)
  · have : ¬ (a0 : Int) = b0 := by omega
    first | (go_simp; done) | (go_simp; simp_all)
theorem eq_tx (y z : Mg.Tx) (w : World) : (binOp .eql 24 (.agg #[.int .u64 y.life, .int .u64 y.n]) (.agg #[.int .u64 z.life, .int .u64 z.n])).run Tryz.prog w = .ok (.bool (decide (y = z))) w := by
  obtain ⟨a0, a1⟩ := y
  obtain ⟨b0, b1⟩ := z
  by_cases h0 : a0 = b0
  · subst h0
    by_cases h1 : a1 = b1
    · subst h1
      first | (go_simp; done) | (go_simp; simp)
    · have : ¬ (a1 : Int) = b1 := by omega
      first | (go_simp; done) | (go_simp; simp_all)
  · have : ¬ (a0 : Int) = b0 := by omega
    first | (go_simp; done) | (go_simp; simp_all)
theorem ask_dec (x y : Mg.Ask) : decide (x = y) = (decide (x.shard = y.shard) && (decide (x.reads = y.reads) && (decide (x.readAt = y.readAt) && (decide (x.edits = y.edits) && (decide (x.editAt = y.editAt) && (decide (x.list = y.list) && (decide (x.pre = y.pre) && (decide (x.give = y.give) && (decide (x.take = y.take) && decide (x.range = y.range)))))))))) := by
  cases x
  cases y
  rw [Bool.eq_iff_iff]
  simp only [decide_eq_true_eq, Bool.and_eq_true, Mg.Ask.mk.injEq]
theorem told_dec (x y : Mg.Told) : decide (x = y) = (decide (x.shard = y.shard) && (decide (x.got = y.got) && (decide (x.numbers = y.numbers) && decide (x.names = y.names)))) := by
  cases x
  cases y
  rw [Bool.eq_iff_iff]
  simp only [decide_eq_true_eq, Bool.and_eq_true, Mg.Told.mk.injEq]
theorem msg_dec (x y : Mg.Msg) : decide (x = y) = (decide (x.ask = y.ask) && (decide (x.told = y.told) && (decide (x.kind = y.kind) && (decide (x.tx = y.tx) && (decide (x.low = y.low) && (decide (x.map = y.map) && (decide (x.parts = y.parts) && (decide (x.rows = y.rows) && (decide (x.next = y.next) && (decide (x.own = y.own) && (decide (x.commit = y.commit) && (decide (x.err = y.err) && decide (x.state = y.state))))))))))))) := by
  cases x
  cases y
  rw [Bool.eq_iff_iff]
  simp only [decide_eq_true_eq, Bool.and_eq_true, Mg.Msg.mk.injEq]
  constructor <;> (intro h; simp_all)
theorem eq_rows {w : World} {s s2 : MS} {x y : Mg.Msg} (ha : MsgA w s x) (hb : MsgA w s2 y) (ok : x.Good) (ok2 : y.Good) {wz : World} (hz : Below w.heap.size w wz) :
    Calls Tryz.prog 32 #[.slice s.rows.1 x.rows.length s.rows.2, .slice s2.rows.1 y.rows.length s2.rows.2, .func (.func 33) #[] #[]] wz fun e w' => e = .returned (.bool (decide (x.rows = y.rows))) ∧ Below wz.heap.size wz w' := by
  obtain ⟨xs, h1, h2⟩ := ha.rows
  obtain ⟨ys, h3, h4⟩ := hb.rows
  exact equal_rows _ _ _ _ _ _ xs ys wz (h1.keep hz) (h2.keep hz) (h3.keep hz) (h4.keep hz) ok.rows.2 ok2.rows.2 (fun y hy => (ok.rows.1 y hy).d) (fun y hy => (ok2.rows.1 y hy).d)
/-- Two copies, in two new blocks. -/
structure Two (w0 w1 : World) (t : TypeId) (p q : Nat) (xs ys : Array Value) : Prop where
  bel : Below w0.heap.size w0 w1
  one : w1.heap[p]? = some (.cells xs t (0, 0))
  two : w1.heap[q]? = some (.cells ys t (0, 0))
  np : w0.heap.size ≤ p
  nq : w0.heap.size ≤ q
theorem two_of {w0 A W1 W2 : World} {t : TypeId} {p q : Nat} {xs ys : Array Value} (hb : Below w0.heap.size w0 A) (h1 : PutAt A W1 p xs t) (h2 : PutAt W1 W2 q ys t) (hp : w0.heap.size ≤ p) (hq : w0.heap.size ≤ q) (hne : p ≠ q) : Two w0 W2 t p q xs ys :=
  ⟨hb.trans ⟨h2.os.trans h1.os, h2.tape.trans h1.tape, h2.output.trans h1.output, by rw [h2.size, h1.size]; exact Nat.le_refl _, fun k hk => (h2.other k (by omega)).trans (h1.other k (by omega))⟩, (h2.other p hne).trans h1.here, h2.here, hp, hq⟩

end Go.Proofs.YtjgnomjjphkfbaaGreat
