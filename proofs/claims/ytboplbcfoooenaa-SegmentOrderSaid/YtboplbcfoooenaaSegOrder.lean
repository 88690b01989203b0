/-
  THE WALK of the statement SegmentOrder.
-/
import Derived.Test.YtboplbcfoooenaaSegOrderA
import Derived.Test.YtboplbcfoooenaaSegAlive
namespace Go.Proofs.Ytboplbcfoooenaa
open Go.RowKit

attribute [local go_sem ↓ high] appSem_eq

set_option maxRecDepth 20000 in
set_option maxHeartbeats 4000000 in
theorem segmentOrder_any (w : World) (a : Option Addr) (cap : Nat) (ps : List PieceA) (hr : RowIs w 1 a (ps.map PieceA.cells)) (hok : ∀ y ∈ ps, okPA w y)
    (ea : Option Addr) (ecap : Nat) (el : List SegA) (he : RowIs w 7 ea (el.map SegA.cells)) (heok : ∀ y ∈ el, okSA w y) (gen first : Nat) (hg : gen < 4294967296) (hf : first < 4294967296)
    (ka : Option Addr) (kcap : Nat) (kl : List Nat) (hk : RowIs w 1 ka (kl.map fun b : Nat => [Value.int .u8 b])) (hkb : ∀ b ∈ kl, b < 256) (hl : ps.length ≤ 9223372036854775807) (hle : el.length ≤ 9223372036854775807) (hlk : kl.length ≤ 9223372036854775807) :
    Calls Try.prog 4 #[.slice a ps.length cap, .slice ea el.length ecap, .int .u32 gen, .int .u32 first, .slice ka kl.length kcap] w fun e w' => e = .returned (.bool true) ∧ Below w.heap.size w w' := by
  have HR := Lib.hid hr
  have HOK : Hid (∀ i, i < ps.length → okPA w ps[i]!) := Lib.hid (fun i hi => by rw [bang_p ps i hi]; exact hok _ (List.getElem_mem hi))
  have HE := Lib.hid he
  have HEOK : Hid (∀ i, i < el.length → okSA w el[i]!) := Lib.hid (fun i hi => by rw [bang_a el i hi]; exact heok _ (List.getElem_mem hi))
  have HK := Lib.hid hk
  have HKB := Lib.hid hkb
  have hlI : (0 : Int) ≤ ps.length ∧ (ps.length : Int) ≤ 9223372036854775807 := by omega
  have hleI : (0 : Int) ≤ el.length ∧ (el.length : Int) ≤ 9223372036854775807 := by omega
  have hlkI : (0 : Int) ≤ kl.length ∧ (kl.length : Int) ≤ 9223372036854775807 := by omega
  have hgI : (0 : Int) ≤ gen ∧ (gen : Int) < 4294967296 := by omega
  have hfI : (0 : Int) ≤ first ∧ (first : Int) < 4294967296 := by omega
  have HO := Lib.hid (Own.refl w)
  clear hr hok hl hle hlk he heok hk hkb
  by_cases h12 : 12 < ps.length
  · have h12I : (12 : Int) < ps.length := by omega
    clear h12 hg hf
    go_enter Try.func4, Try.ntmps4
    go_wp2_with fail
    refine (alive11 _).mono ?_
    rintro e w1 ⟨rfl, hb⟩
    go_wp2_with fail
    go_ret
    exact ⟨rfl, hb⟩
  have h12I : (ps.length : Int) ≤ 12 := by omega
  by_cases h0 : ps.length = 0
  · have h0I : (ps.length : Int) = 0 := by omega
    clear h12 hg hf h0
    go_enter Try.func4, Try.ntmps4
    go_wp2_with fail
    refine (alive11 _).mono ?_
    rintro e w1 ⟨rfl, hb⟩
    go_wp2_with fail
    go_ret
    exact ⟨rfl, hb⟩
  have h0I : ((ps.length : Int) == 0) = false := by rw [beq_eq_false_iff_ne]; omega
  by_cases he12 : 12 < el.length
  · have he12I : (12 : Int) < el.length := by omega
    clear h12 hg hf h0 he12
    go_enter Try.func4, Try.ntmps4
    go_wp2_with fail
    refine (alive11 _).mono ?_
    rintro e w1 ⟨rfl, hb⟩
    go_wp2_with fail
    go_ret
    exact ⟨rfl, hb⟩
  have he12I : (el.length : Int) ≤ 12 := by omega
  have HL : Hid (0 < ps.length ∧ ps.length ≤ 12 ∧ el.length ≤ 12 ∧ gen < 4294967296 ∧ first < 4294967296) := Lib.hid ⟨by omega, by omega, by omega, hg, hf⟩
  obtain ⟨g, hgg⟩ : ∃ g : Nat, g = gen + 2 := ⟨_, rfl⟩
  have hg2 : (2 : Int) + (gen : Int) = (g : Int) := by omega
  have HG := Lib.hid hgg
  have hg3 : (2 : Int) ≤ g ∧ (g : Int) ≤ 4294967297 := by omega
  have hf0 : (1 : Int) + (first : Int) = (pFirst ps first 0 : Nat) := by rw [pFirst_zero]; omega
  have hf1 : (0 : Int) ≤ (pFirst ps first 0 : Nat) ∧ ((pFirst ps first 0 : Nat) : Int) ≤ 4294967297 := by omega
  clear h12 h0 he12 hg hf hgg
  go_enter Try.func4, Try.ntmps4
  go_wp2_with fail
  go_loopw [11, 12, 13, 15] (fun va vp vn vi wr => ∃ (i : Nat) (sa pa : Option Addr) (cs cp : Nat), i ≤ ps.length ∧ vi = .int .i64 i ∧ vn = .int .u64 (pFirst ps first i : Nat) ∧ va = .slice sa i cs ∧ vp = .slice pa i cp ∧ Two w wr (upto ps g first i) sa pa cs cp ∧ ∀ j, j + 1 < i → (ps[j]!).recs.length ≠ 0) (fun _ _ _ vi _ => ps.length - (intOf vi).toNat)
  case atStart => exact ⟨0, none, none, 0, 0, Nat.zero_le _, rfl, by first | rfl | (rw [← hf0]), rfl, rfl, Two.nil w HO.out, fun j hj => by omega⟩
  case round =>
    clear HO hf0 hf1 hg2 hgI
    obtain ⟨i, sa, pa, cs, cp, hi, rfl, rfl, rfl, rfl, hT, hne⟩ := hrel
    have HT := Lib.hid hT
    have HN := Lib.hid hne
    clear hT hne
    by_cases hlt : i < ps.length
    · obtain ⟨gb, off, rfl, hc⟩ := RowIs.cell1 (f := fun y : PieceA => Value.slice y.a y.recs.length y.cap) (HR.out.keep HT.out.own.below) i hlt
      rw [← bang_p ps i hlt] at hc
      have HOI := HOK.out i hlt
      obtain ⟨y, hy⟩ : ∃ y, y = ps[i]! := ⟨_, rfl⟩
      have HY := Lib.hid hy
      have HPS := Lib.hid (pFirst_succ ps first hlt)
      rw [← hy] at hc HOI HPS
      have hiI : (0 : Int) ≤ i ∧ (i : Int) < ps.length := by omega
      have hpl := pFirst_le (ps := ps) first (fun y hy => by obtain ⟨k, hk, rfl⟩ := List.getElem_of_mem hy; rw [← bang_p ps k hk]; exact (HOK.out k hk).2.1) (i := i) (by omega)
      have hpI : (0 : Int) ≤ (pFirst ps first i : Nat) ∧ ((pFirst ps first i : Nat) : Int) ≤ 2251799813685248 := by have := HL.out; omega
      have hyn := HOI.2.1
      have hynI : (0 : Int) ≤ (y.recs.length : Int) ∧ (y.recs.length : Int) ≤ 140737488351232 := by omega
      have hadd : ((pFirst ps first i : Nat) : Int) + (y.recs.length : Int) = (pFirst ps first (i + 1) : Nat) := by rw [HPS.out]; omega
      have hpI2 : (0 : Int) ≤ (pFirst ps first (i + 1) : Nat) ∧ ((pFirst ps first (i + 1) : Nat) : Int) ≤ 2392537302036480 := by rw [← hadd]; omega
      have HHV : Hid (∀ kd : Int, (kd = 0 ∨ kd = 1) → ∀ wz, Below w.heap.size w wz → Calls Try.prog 6 #[.agg #[.int .u8 kd, .int .u64 g, .int .u64 (pFirst ps first i : Nat), .string ⟨#[]⟩, .slice y.a y.recs.length y.cap, .int .i64 0, .bool true]] wz fun e w' => (∃ b, e = .returned (.bool b)) ∧ Below wz.heap.size wz w') := Lib.hid (fun kd hkd wz hb => by
        obtain ⟨k, rfl, hk⟩ : ∃ k : Nat, kd = k ∧ k < 256 := by rcases hkd with rfl | rfl; exact ⟨0, rfl, by decide⟩; exact ⟨1, rfl, by decide⟩
        have h := heavy11 wz ⟨k, g, pFirst ps first i, ⟨#[]⟩, y.recs, 0, true⟩ y.a y.cap ⟨hk, by show g < _; omega, by show pFirst ps first i < _; omega, by show y.recs.length ≤ _; omega, by show (0 : Nat) ≤ _; omega, fun r hr => by have := HOI.2.2 r hr; omega⟩ (HOI.1.keep hb)
        exact h.mono fun e w' ⟨⟨b, h1, _⟩, h2⟩ => ⟨⟨b, h1⟩, h2⟩)
      clear hpl hyn HOI hy
      by_cases hz : i = 0
      · have hzB : ((i : Int) == 0) = true := by rw [hz]; rfl
        have HZ := Lib.hid hz
        clear hz
        go_wp2_with fail
        refine (HHV.out 1 (by first | exact .inl rfl | exact .inr rfl) _ ((HT.out.own.alloc _).below)).mono ?_
        rintro e w1 ⟨⟨b, rfl⟩, hb1⟩
        have hbW := ((Own.refl wr).alloc (.cells #[.int .u8 1, .int .u64 g, .int .u64 (pFirst ps first i : Nat), .string ⟨#[]⟩, .slice y.a y.recs.length y.cap, .int .i64 0, .bool true] 28 (0, 0))).trans hb1
        have hBX : SBox (wr.alloc (.cells #[.int .u8 1, .int .u64 g, .int .u64 (pFirst ps first i : Nat), .string ⟨#[]⟩, .slice y.a y.recs.length y.cap, .int .i64 0, .bool true] 28 (0, 0))) wr.heap.size 1 g (pFirst ps first i : Nat) ⟨#[]⟩ y.a y.recs.length y.cap 0 true := heap_alloc_new wr _
        have HBX := Lib.hid (hBX.keep (hb1.block _ (blk_lt hBX)))
        have HT1 := Lib.hid (HT.out.keep hbW.below)
        clear hb1 hBX hbW hc HHV HT
        cases b with
        | true =>
          go_wp2_with fail
          refine (alive11 _).mono ?_
          rintro e w2 ⟨rfl, hb⟩
          have HO2 := Lib.hid (HT1.out.own.trans hb)
          clear hb
          go_wp2_with fail
          go_ret
          exact ⟨rfl, HO2.out.below⟩
        | false =>
          obtain ⟨gb2, off2, e2, hc⟩ := RowIs.cell1 (f := fun y : PieceA => Value.slice y.a y.recs.length y.cap) (HR.out.keep HT1.out.own.below) i hlt
          rw [← bang_p ps i hlt, ← HY.out] at hc
          injection e2 with e2
          injection e2 with hga hoff hnn
          subst hga hoff
          obtain ⟨c0, c1, c2, c3, c4, c5, c6, f0, f1, f2, f3, f4, f5, f6⟩ := HBX.out.facts
          obtain ⟨sa', cs', W1, hr1, hL1, hP1, hA1, hO1, hK1⟩ := HT1.out.pushS (by rw [upto_length]; have := HL.out; omega) ⟨1, g, pFirst ps first i, ⟨#[]⟩, y.a, y.recs.length, y.cap, 0, true⟩
          obtain ⟨pa', cp', W2, hr2, hT2, hK2⟩ := pushP (by rw [upto_length]; have := HL.out; omega) hL1 hP1 hA1 hO1 i
          rw [upto_length] at hr1 hr2
          replace hr1 : (appSem #[22, 22] 22 #[.slice sa i cs, .slice (some ⟨w1.heap.size, 0, none⟩) 1 1]).run Try.prog (w1.alloc (.cells #[.int .u8 1, .int .u64 g, .int .u64 (pFirst ps first i : Nat), .string ⟨#[]⟩, .slice y.a y.recs.length y.cap, .int .i64 0, .bool true] 28 (0, 0))) = .ok (.slice sa' (i + 1) cs') W1 := hr1
          change (appSem _ _ _).run _ _ = _ at hr2
          have HT2 : Hid (Two w W2 (upto ps g first (i + 1)) sa' pa' cs' cp') := Lib.hid (by rw [upto_succ]; unfold pit; rw [← HY.out]; first | (rw [if_pos HZ.out]; exact hT2) | (rw [if_neg HZ.out]; exact hT2))
          have HNX : Hid (∀ j, j + 1 < i + 1 → (ps[j]!).recs.length ≠ 0) := Lib.hid (fun j hj => by have := HZ.out; omega)
          clear hnn hL1 hP1 hA1 hO1 hK1 hT2 hK2 f0 f1 f2 f3 f4 f5 f6 HN
          go_wp2_with fail
          go_roundw
          case rel => exact ⟨i + 1, sa', pa', cs', cp', by omega, by go_num, by go_num, by go_num, by go_num, HT2.out, HNX.out⟩
          case measure => simp [intOf]; omega
      · have hzB : ((i : Int) == 0) = false := by rw [beq_eq_false_iff_ne]; omega
        have HZ := Lib.hid hz
        obtain ⟨k, hk⟩ : ∃ k, i = k + 1 := ⟨i - 1, by omega⟩
        have hkI : (i : Int) - 1 = (k : Int) := by omega
        have hkb : (0 : Int) ≤ k ∧ (k : Int) < ps.length := by omega
        obtain ⟨gb3, off3, e3, hd⟩ := RowIs.cell1 (f := fun y : PieceA => Value.slice y.a y.recs.length y.cap) (HR.out.keep HT.out.own.below) k (by omega)
        rw [← bang_p ps k (by omega)] at hd
        injection e3 with e3
        injection e3 with hga hoff hnn
        subst hga hoff
        have HKI := Lib.hid hk
        obtain ⟨z, hzz⟩ : ∃ z, z = ps[k]! := ⟨_, rfl⟩
        rw [← hzz] at hd
        have HZZ := Lib.hid hzz
        have hd2 : (wr.alloc (.cells #[.int .u8 0, .int .u64 g, .int .u64 (pFirst ps first i : Nat), .string ⟨#[]⟩, .slice y.a y.recs.length y.cap, .int .i64 0, .bool true] 28 (0, 0))).cell? ⟨gb, off + k, none⟩ = some (.slice z.a z.recs.length z.cap) := by
          obtain ⟨gb4, off4, e4, hd4⟩ := RowIs.cell1 (f := fun y : PieceA => Value.slice y.a y.recs.length y.cap) (HR.out.keep (HT.out.own.alloc (.cells #[.int .u8 0, .int .u64 g, .int .u64 (pFirst ps first i : Nat), .string ⟨#[]⟩, .slice y.a y.recs.length y.cap, .int .i64 0, .bool true] 28 (0, 0))).below) k (by omega)
          injection e4 with e4
          injection e4 with hga hoff _
          subst hga hoff
          rw [← bang_p ps k (by omega), ← hzz] at hd4
          exact hd4
        clear hz hk hnn hzz
        by_cases hn0 : z.recs.length = 0
        · have hn0I : (z.recs.length : Int) = 0 := by omega
          have HO := Lib.hid (HT.out.own.alloc (.cells #[.int .u8 0, .int .u64 g, .int .u64 (pFirst ps first i : Nat), .string ⟨#[]⟩, .slice y.a y.recs.length y.cap, .int .i64 0, .bool true] 28 (0, 0)))
          clear hn0 HT HHV
          go_wp2_with fail
          refine (alive11 _).mono ?_
          rintro e w2 ⟨rfl, hb⟩
          have HO2 := Lib.hid (HO.out.trans hb)
          clear hb
          go_wp2_with fail
          go_ret
          exact ⟨rfl, HO2.out.below⟩
        have hn0B : ((z.recs.length : Int) == 0) = false := by rw [beq_eq_false_iff_ne]; omega
        have HN0 := Lib.hid hn0
        clear hn0
        go_wp2_with fail
        clear hd hd2 hkI hkb
        refine (HHV.out 0 (by first | exact .inl rfl | exact .inr rfl) _ ((HT.out.own.alloc _).below)).mono ?_
        rintro e w1 ⟨⟨b, rfl⟩, hb1⟩
        have hbW := ((Own.refl wr).alloc (.cells #[.int .u8 0, .int .u64 g, .int .u64 (pFirst ps first i : Nat), .string ⟨#[]⟩, .slice y.a y.recs.length y.cap, .int .i64 0, .bool true] 28 (0, 0))).trans hb1
        have hBX : SBox (wr.alloc (.cells #[.int .u8 0, .int .u64 g, .int .u64 (pFirst ps first i : Nat), .string ⟨#[]⟩, .slice y.a y.recs.length y.cap, .int .i64 0, .bool true] 28 (0, 0))) wr.heap.size 0 g (pFirst ps first i : Nat) ⟨#[]⟩ y.a y.recs.length y.cap 0 true := heap_alloc_new wr _
        have HBX := Lib.hid (hBX.keep (hb1.block _ (blk_lt hBX)))
        have HT1 := Lib.hid (HT.out.keep hbW.below)
        clear hb1 hBX hbW hc HHV HT
        cases b with
        | true =>
          go_wp2_with fail
          refine (alive11 _).mono ?_
          rintro e w2 ⟨rfl, hb⟩
          have HO2 := Lib.hid (HT1.out.own.trans hb)
          clear hb
          go_wp2_with fail
          go_ret
          exact ⟨rfl, HO2.out.below⟩
        | false =>
          obtain ⟨gb2, off2, e2, hc⟩ := RowIs.cell1 (f := fun y : PieceA => Value.slice y.a y.recs.length y.cap) (HR.out.keep HT1.out.own.below) i hlt
          rw [← bang_p ps i hlt, ← HY.out] at hc
          injection e2 with e2
          injection e2 with hga hoff hnn
          subst hga hoff
          obtain ⟨c0, c1, c2, c3, c4, c5, c6, f0, f1, f2, f3, f4, f5, f6⟩ := HBX.out.facts
          obtain ⟨sa', cs', W1, hr1, hL1, hP1, hA1, hO1, hK1⟩ := HT1.out.pushS (by rw [upto_length]; have := HL.out; omega) ⟨0, g, pFirst ps first i, ⟨#[]⟩, y.a, y.recs.length, y.cap, 0, true⟩
          obtain ⟨pa', cp', W2, hr2, hT2, hK2⟩ := pushP (by rw [upto_length]; have := HL.out; omega) hL1 hP1 hA1 hO1 i
          rw [upto_length] at hr1 hr2
          replace hr1 : (appSem #[22, 22] 22 #[.slice sa i cs, .slice (some ⟨w1.heap.size, 0, none⟩) 1 1]).run Try.prog (w1.alloc (.cells #[.int .u8 0, .int .u64 g, .int .u64 (pFirst ps first i : Nat), .string ⟨#[]⟩, .slice y.a y.recs.length y.cap, .int .i64 0, .bool true] 28 (0, 0))) = .ok (.slice sa' (i + 1) cs') W1 := hr1
          change (appSem _ _ _).run _ _ = _ at hr2
          have HT2 : Hid (Two w W2 (upto ps g first (i + 1)) sa' pa' cs' cp') := Lib.hid (by rw [upto_succ]; unfold pit; rw [← HY.out]; first | (rw [if_pos HZ.out]; exact hT2) | (rw [if_neg HZ.out]; exact hT2))
          have HNX : Hid (∀ j, j + 1 < i + 1 → (ps[j]!).recs.length ≠ 0) := Lib.hid (fun j hj => if e : j + 1 < i then HN.out j e else by have h1 := HKI.out; obtain rfl : j = k := (by omega); rw [← HZZ.out]; exact HN0.out)
          clear hnn hL1 hP1 hA1 hO1 hK1 hT2 hK2 f0 f1 f2 f3 f4 f5 f6 HN
          go_wp2_with fail
          go_roundw
          case rel => exact ⟨i + 1, sa', pa', cs', cp', by omega, by go_num, by go_num, by go_num, by go_num, HT2.out, HNX.out⟩
          case measure => simp [intOf]; omega
    · obtain rfl : i = ps.length := by omega
      clear hi hlt
      go_wp2_with fail
      go_loopw [11, 12, 17] (fun va vp vi wr => ∃ (j : Nat) (sa pa : Option Addr) (cs cp : Nat), j ≤ el.length ∧ vi = .int .i64 j ∧ va = .slice sa (ps.length + j) cs ∧ vp = .slice pa (ps.length + j) cp ∧ Two w wr (behind ps g first el j) sa pa cs cp) (fun _ _ vi _ => el.length - (intOf vi).toNat)
      case atStart => exact ⟨0, sa, pa, cs, cp, Nat.zero_le _, rfl, rfl, rfl, by rw [behind_zero]; exact HT.out⟩
      case round =>
        clear HT
        obtain ⟨j, sa, pa, cs, cp, hj, rfl, rfl, rfl, hT⟩ := hrel
        have HT := Lib.hid hT
        clear hT
        by_cases hlt : j < el.length
        · obtain ⟨ge, oe, rfl, hc⟩ := (HE.out.keep HT.out.own.below) j (by simpa using hlt)
          rw [List.getElem_map, ← bang_a el j hlt] at hc
          have HOI := HEOK.out j hlt
          obtain ⟨y, hy⟩ : ∃ y, y = el[j]! := ⟨_, rfl⟩
          have HY := Lib.hid hy
          rw [← hy] at hc HOI
          have hjI : (0 : Int) ≤ j ∧ (j : Int) < el.length := by omega
          have hgn := HOI.1.gen
          obtain ⟨r, hr0⟩ : ∃ r : Nat, r = y.x.gen % g := ⟨_, rfl⟩
          have hmodI : (y.x.gen : Int).tmod (g : Int) = (r : Int) := by rw [Int.tmod_eq_emod_of_nonneg (by omega), hr0]; rfl
          have c0 : wr.cell? ⟨ge, oe + j * 7, none⟩ = some (.int .u8 y.x.kind) := hc.cell 0 (by simp [SegA.cells, Sx.cells])
          have c1 : wr.cell? ⟨ge, oe + j * 7 + 1, none⟩ = some (.int .u64 y.x.gen) := hc.cell 1 (by simp [SegA.cells, Sx.cells])
          have c2 : wr.cell? ⟨ge, oe + j * 7 + 2, none⟩ = some (.int .u64 y.x.first) := hc.cell 2 (by simp [SegA.cells, Sx.cells])
          have c3 : wr.cell? ⟨ge, oe + j * 7 + 3, none⟩ = some (.string y.x.t) := hc.cell 3 (by simp [SegA.cells, Sx.cells])
          have c4 : wr.cell? ⟨ge, oe + j * 7 + 4, none⟩ = some (.slice y.a y.x.recs.length y.cap) := hc.cell 4 (by simp [SegA.cells, Sx.cells])
          have c5 : wr.cell? ⟨ge, oe + j * 7 + 5, none⟩ = some (.int .i64 y.x.used) := hc.cell 5 (by simp [SegA.cells, Sx.cells])
          have c6 : wr.cell? ⟨ge, oe + j * 7 + 6, none⟩ = some (.bool y.x.whole) := hc.cell 6 (by simp [SegA.cells, Sx.cells])
          have hT1 := HT.out.keep ((Own.refl wr).alloc (.cells #[.int .u8 y.x.kind, .int .u64 (r : Nat), .int .u64 y.x.first, .string y.x.t, .slice y.a y.x.recs.length y.cap, .int .i64 y.x.used, .bool y.x.whole] 28 (0, 0))).below
          obtain ⟨sa', cs', W1, hr1, hL1, hP1, hA1, hO1, hK1⟩ := hT1.pushS (by rw [behind_length (by omega)]; have := HL.out; omega) (eit g y)
          obtain ⟨pa', cp', W2, hr2, hT2, hK2⟩ := pushP (by rw [behind_length (by omega)]; have := HL.out; omega) hL1 hP1 hA1 hO1 (-1)
          rw [behind_length (by omega)] at hr1 hr2
          rw [World.size_alloc] at hr1
          unfold eit at hr1
          rw [← hr0] at hr1
          replace hr1 : (appSem #[22, 22] 22 #[.slice sa (ps.length + j) cs, .slice (some ⟨wr.heap.size + 1, 0, none⟩) 1 1]).run Try.prog ((wr.alloc (.cells #[.int .u8 y.x.kind, .int .u64 (r : Nat), .int .u64 y.x.first, .string y.x.t, .slice y.a y.x.recs.length y.cap, .int .i64 y.x.used, .bool y.x.whole] 28 (0, 0))).alloc (.cells #[.int .u8 y.x.kind, .int .u64 (r : Nat), .int .u64 y.x.first, .string y.x.t, .slice y.a y.x.recs.length y.cap, .int .i64 y.x.used, .bool y.x.whole] 28 (0, 0))) = .ok (.slice sa' (ps.length + j + 1) cs') W1 := hr1
          change (appSem _ _ _).run _ _ = _ at hr2
          have HT2 : Hid (Two w W2 (behind ps g first el (j + 1)) sa' pa' cs' cp') := Lib.hid (by rw [behind_succ ps g first el hlt, ← HY.out]; exact hT2)
          clear hc HOI hT1 hL1 hP1 hA1 hO1 hK1 hT2 hK2 hy HT hgn hr0
          go_wp2_with fail
          go_roundw
          case rel => exact ⟨j + 1, sa', pa', cs', cp', by omega, by go_num, by go_num, by go_num, HT2.out⟩
          case measure => simp [intOf]; omega
        · obtain rfl : j = el.length := by omega
          have HT0 := Lib.hid (behind_all ps g first el ▸ HT.out)
          have HLN : Hid ((Sg.orig (pit ps g first) ps.length (el.map (eit g))).length = ps.length + el.length) := Lib.hid (by simp [Sg.orig])
          clear HT hj hlt
          go_wp2_with fail
          go_loopw [11, 12, 19, 20, 21] (fun va vp vl vw vi wr => ∃ (T U : List (It × Int)) (sa pa la wa : Option Addr) (cs cp cl cw : Nat), (U ++ T).Perm (Sg.orig (pit ps g first) ps.length (el.map (eit g))) ∧ vi = .int .i64 U.length ∧ va = .slice sa T.length cs ∧ vp = .slice pa T.length cp ∧ vl = .slice la U.length cl ∧ vw = .slice wa U.length cw ∧ Two w wr T sa pa cs cp ∧ Two w wr U la wa cl cw ∧ Cross la wa sa pa) (fun va _ _ _ _ _ => rowLen va)
          case atStart => exact ⟨Sg.orig (pit ps g first) ps.length (el.map (eit g)), [], sa, pa, none, none, cs, cp, 0, 0, List.Perm.refl _, rfl, by rw [HLN.out], by rw [HLN.out], rfl, rfl, HT0.out, Two.nil w HT0.out.own, ⟨Apart.none _, Apart.none _, Apart.none _, Apart.none _⟩⟩
          case round =>
            clear HT0
            obtain ⟨T, U, sa, pa, la, wa, cs, cp, cl, cw, hpm, rfl, rfl, rfl, rfl, rfl, hT, hU, hX⟩ := hrel
            have hlen := hpm.length_eq
            rw [HLN.out, List.length_append] at hlen
            have HLE := Lib.hid hlen
            have HPM := Lib.hid hpm
            have hUI : (0 : Int) ≤ U.length ∧ (U.length : Int) ≤ 1000 := by have := HL.out; omega
            have hTI : (0 : Int) ≤ T.length ∧ (T.length : Int) ≤ 1000 := by have := HL.out; omega
            have HT := Lib.hid hT
            have HU := Lib.hid hU
            have HX := Lib.hid hX
            clear hpm hlen hT hU hX
            by_cases hT0 : 0 < T.length
            · obtain ⟨gs, os, rfl⟩ := HT.out.seg.sl.there (by simpa using hT0)
              obtain ⟨gp, op, rfl⟩ := HT.out.plc.sl.there (by simpa using hT0)
              have hT0I : (0 : Int) < T.length := by omega
              go_upto_if 119 with fail
              go_cut [22] (fun vk wx => ∃ k : Nat, k < T.length ∧ vk = .int .i64 k ∧ wx = wr)
              case first =>
                by_cases hki : U.length < kl.length
                · obtain ⟨gk, ok, rfl, hc⟩ := RowIs.cell1 (f := fun b : Nat => Value.int .u8 b) (HK.out.keep HT.out.own.below) U.length hki
                  have hb := HKB.out _ (List.getElem_mem hki)
                  have hkiI : (U.length : Int) < kl.length := by omega
                  generalize kl[U.length] = b at *
                  have hbI : (0 : Int) ≤ b ∧ (b : Int) < 256 := by omega
                  have hmodI : (b : Int).tmod (T.length : Int) = ((b % T.length : Nat) : Int) := by rw [Int.tmod_eq_emod_of_nonneg (by omega)]; rfl
                  have HM := Lib.hid (Nat.mod_lt b hT0)
                  clear hb hki
                  go_wp2
                  go_meet
                  exact ⟨b % T.length, HM.out, rfl, rfl⟩
                · have hkiI : (kl.length : Int) ≤ U.length := by omega
                  clear hki
                  go_wp2
                  go_meet
                  exact ⟨0, hT0, rfl, rfl⟩
              case rest =>
                obtain ⟨k, hk, rfl, hW⟩ := hcut
                subst hW
                have hkI : (0 : Int) ≤ k ∧ (k : Int) < T.length := by omega
                obtain ⟨c0, c1, c2, c3, c4, c5, c6⟩ := HT.out.seg.segAt k hk
                obtain ⟨A, hA⟩ : ∃ A, (if cs = k + 1 then some (⟨gs, os, none⟩ : Addr) else some ⟨gs, os + (k + 1) * 7, none⟩) = A := ⟨_, rfl⟩
                obtain ⟨B, hB⟩ : ∃ B, (if cp = k + 1 then some (⟨gp, op, none⟩ : Addr) else some ⟨gp, op + (k + 1), none⟩) = B := ⟨_, rfl⟩
                obtain ⟨la', cl', W1, wa', cw', W2, s1, d1, W3, s2, d2, W4, p1, q1, W5, p2, q2, W6, hr1, hcp, hr2, hr3, hr4, hr5, hr6, hT', hU', hX'⟩ := pick HT.out HU.out HX.out k hk (by have := HL.out; have := HLE.out; omega) A B hA hB
                have HT' := Lib.hid hT'
                have HU' := Lib.hid hU'
                have HX' := Lib.hid hX'
                have HPM' := Lib.hid (perm_step HPM.out k hk)
                have HK0 := Lib.hid hk
                have HCS : Hid (T.length ≤ cs ∧ T.length ≤ cp) := Lib.hid ⟨by simpa using HT.out.seg.sl.bound.1, by simpa using HT.out.plc.sl.bound.1⟩
                have HTL : Hid ((T.take k ++ T.drop (k + 1)).length = T.length - 1) := Lib.hid (by simp; omega)
                generalize hxx : T[k] = xx at *
                clear hxx hT' hU' hX' HT HU HX HPM hk hT0
                obtain ⟨x, n⟩ := xx
                simp only at c0 c1 c2 c3 c4 c5 c6 hr1 hcp hr2
                have hcsI : (T.length : Int) ≤ cs := by have := HCS.out.1; omega
                have hcpI : (T.length : Int) ≤ cp := by have := HCS.out.2; omega
                go_wp2_with fail
                go_region
                go_wp2_with fail
                go_region
                go_wp2_with fail
                go_roundw
                case rel => exact ⟨T.take k ++ T.drop (k + 1), U ++ [(x, n)], s2, p2, la', wa', d2, q2, cl', cw', HPM'.out, by rw [List.length_append]; go_num, by rw [HTL.out], by rw [HTL.out], by rw [List.length_append]; rfl, by rw [List.length_append]; rfl, HT'.out, HU'.out, HX'.out⟩
                case measure => have := HK0.out; simp only [rowLen]; omega
            · have hT00 : T = [] := by cases T with | nil => rfl | cons _ _ => simp at hT0
              subst hT00
              have hpm := HPM.out
              rw [List.append_nil] at hpm
              have hmx := mixed_here hpm HL.out.1 HL.out.2.1 (by have := HG.out; omega) HL.out.2.2.2.2 (fun i hi => (HOK.out i hi).2.1) HN.out
              have HF : Hid (∀ row er, Sg.RowOf (U.map Prod.fst) row er → er = 0 ∧ row.length = ps.length ∧ ∀ i (hi : i < row.length), ∃ hq : row[i] < U.length, (U[row[i]]).2 = (i : Int)) := Lib.hid (fun row er hr => Sg.order_found hpm hmx hr)
              have HIT : Hid (∀ x ∈ U.map Prod.fst, okI x) := Lib.hid (fun x hx => by
                obtain ⟨t, ht, rfl⟩ := List.mem_map.1 hx
                exact orig_ok HL.out.2.1 HL.out.2.2.2.2 (by have := HG.out; have := HL.out.2.2.2.1; omega) HOK.out HEOK.out t (hpm.mem_iff.1 ht))
              obtain ⟨s, c, w2, hr2, hrow2, hb2⟩ := copy_segs HU.out (by have := HLE.out; simp at this; have := HL.out; omega)
              have HRW := Lib.hid hrow2
              have HO2 := Lib.hid (HU.out.own.trans hb2)
              have HP2 := Lib.hid (HU.out.plc.keep hb2)
              have hll : (U.map Prod.fst).length = U.length := List.length_map ..
              have HRP := Lib.hid (fun wz aa cc (h : RowIs wz 7 aa ((U.map Prod.fst).map icells)) => seg_row wz aa cc (U.map Prod.fst) h (by have := HLE.out; simp at this; have := HL.out; simp; omega) HIT.out)
              rw [hll] at HRP
              clear hpm hmx hrow2 hb2 hll HT HU HX HPM hT0
              go_wp2_with fail
              refine (HRP.out _ _ _ HRW.out).mono ?_
              rintro e w3 ⟨ra, rc, row, er, rfl, hro, hrl, hrow, hb3⟩
              obtain ⟨rfl, hrn, hat⟩ := HF.out row er hro
              have HO3 := Lib.hid (HO2.out.trans hb3)
              have HP3 := Lib.hid (HP2.out.keep hb3)
              have HROW := Lib.hid hrow
              have HAT := Lib.hid hat
              have hrnB : ((row.length : Int) != (ps.length : Int)) = false := by rw [hrn]; simp
              have hrI : (0 : Int) ≤ row.length ∧ (row.length : Int) ≤ 1000 := by rw [hrn]; omega
              have e0 : ((0 : Nat) : Int) = 0 := rfl
              rw [e0]
              clear hb3 hrow hat hro hr2 HRW HO2 HP2 HRP hrn hrl HF HIT e0
              go_wp2_with fail
              go_loopw [25] (fun vi wx => ∃ i : Nat, i ≤ row.length ∧ vi = .int .i64 i ∧ wx = w3) (fun vi _ => row.length - (intOf vi).toNat)
              case atStart => exact ⟨0, Nat.zero_le _, rfl, rfl⟩
              case round =>
                obtain ⟨i, hi, rfl, hW⟩ := hrel
                subst hW
                by_cases hlt : i < row.length
                · obtain ⟨gr, orr, rfl, hc⟩ := RowIs.cell1 (f := fun n : Nat => Value.int .i64 n) HROW.out i hlt
                  obtain ⟨hq, hv⟩ := HAT.out i hlt
                  obtain ⟨gw, ow, rfl⟩ := HP3.out.sl.there (by rw [List.length_map]; omega)
                  have hd := HP3.out.intAt row[i] hq
                  rw [hv] at hd
                  have hiI : (0 : Int) ≤ i ∧ (i : Int) < row.length := by omega
                  generalize row[i] = q at *
                  have hqI : (0 : Int) ≤ q ∧ (q : Int) < U.length := by omega
                  clear hv
                  go_wp2_with fail
                  go_roundw
                  case rel => exact ⟨i + 1, by omega, by go_num, by first | rfl | trivial⟩
                  case measure => simp [intOf]; omega
                · obtain rfl : i = row.length := by omega
                  go_wp2_with fail
                  refine (alive11 _).mono ?_
                  rintro e w6 ⟨rfl, hb6⟩
                  have HO6 := Lib.hid (HO3.out.trans hb6)
                  clear hb6
                  go_wp2_with fail
                  go_ret
                  exact ⟨rfl, HO6.out.below⟩

end Go.Proofs.Ytboplbcfoooenaa
