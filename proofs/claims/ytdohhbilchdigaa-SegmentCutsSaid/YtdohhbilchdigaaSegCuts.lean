/-
  THE WALK of the statement SegmentCuts.
-/
import Derived.Test.YtdohhbilchdigaaSegAlive
import Derived.Test.YtdohhbilchdigaaSegCutsM
import Derived.Deep.RegionHeld3
import Derived.Deep.CutBlock
import Derived.Deep.DeepCutAuto
namespace Go.Proofs.Ytdohhbilchdigaa
open Go.RowKit

attribute [local go_sem ↓ high] appSem_eq

theorem smap_L (l : List ByteArray) : ((l.map L).map fun t => [Value.string (S t)]) = l.map tcell := by
  rw [List.map_map]
  refine List.map_congr_left fun t _ => ?_
  simp [tcell, S_L]
theorem RowIs.take {w : World} {size : Nat} {a : Option Addr} {xs : List (List Value)} (h : RowIs w size a xs) (n : Nat) : RowIs w size a (xs.take n) := fun i hi => by
  have hi' : i < xs.length := by simp at hi; omega
  obtain ⟨g, off, ha, hc⟩ := h i hi'
  exact ⟨g, off, ha, by simpa using hc⟩

set_option maxRecDepth 20000 in
set_option maxHeartbeats 4000000 in
theorem segmentCuts_any (w : World) (x : Sx) (a : Option Addr) (cap : Nat) (at0 : Nat) (ok : okH x) (hr : RowIs w 1 a (x.recs.map tcell)) (hat : at0 ≤ 65535) (hcap : x.recs.length ≤ cap) :
    Calls Try.prog 6 #[.agg #[.int .u8 x.kind, .int .u64 x.gen, .int .u64 x.first, .string x.t, .slice a x.recs.length cap, .int .i64 x.used, .bool x.whole], .int .u16 at0] w fun e w' => e = .returned (.bool true) ∧ Below w.heap.size w w' := by
  have hO := Own.refl w
  have HR := Lib.hid hr
  have HCAP := Lib.hid hcap
  clear hcap
  have hatI : (0 : Int) ≤ at0 ∧ (at0 : Int) ≤ 65535 := by omega
  have HHV := Lib.hid (fun wz (hb : Below w.heap.size w wz) => heavy11 wz x a cap ok (hr.keep hb))
  clear ok hr hat
  go_enter Try.func6, Try.ntmps6
  go_wp2_with fail
  have hB0 : SegBox (w.alloc (.cells #[.int .u8 x.kind, .int .u64 x.gen, .int .u64 x.first, .string x.t, .slice a x.recs.length cap, .int .i64 x.used, .bool x.whole] 28 (0, 0))) w.heap.size x a cap := heap_alloc_new w _
  replace hO := hO.alloc (.cells #[.int .u8 x.kind, .int .u64 x.gen, .int .u64 x.first, .string x.t, .slice a x.recs.length cap, .int .i64 x.used, .bool x.whole] 28 (0, 0))
  refine (HHV.out _ hO.below).mono ?_
  rintro e w1 ⟨⟨b, rfl, hbk⟩, hb1⟩
  have HB1 := Lib.hid (hB0.keep hb1)
  have HO1 := Lib.hid (hO.trans hb1)
  clear hb1 hB0 hO HHV
  cases b with
  | true =>
    go_wp2_with fail
    refine (alive11 _).mono ?_
    rintro e w9 ⟨rfl, hb⟩
    have HO9 := Lib.hid (HO1.out.trans hb)
    clear hb
    go_wp2_with fail
    go_ret
    exact ⟨rfl, HO9.out.below⟩
  | false =>
  have hok := hbk rfl
  have hsz := hok.sz
  have hnn := hok.n
  have HOK := Lib.hid hok
  have HH1 := Lib.hid (fun wz => seg_head wz x.kind x.gen x.first x.t hok.kind hok.gen hok.first (by omega))
  have HY1 := Lib.hid (fun wz (hb : Below w.heap.size w wz) => seg_bytes wz x a cap hok (HR.out.keep hb))
  have hnI : (0 : Int) ≤ x.recs.length ∧ (x.recs.length : Int) ≤ 60 := by omega
  clear hbk hok hsz hnn
  obtain ⟨c0, c1, c2, c3, c4, c5, c6, hl⟩ := HB1.out.facts
  go_wp2_with fail
  refine (HY1.out _ HO1.out.below).mono ?_
  rintro e w2 ⟨rfl, hb⟩
  have HB2 := Lib.hid (HB1.out.keep hb)
  have HO2 := Lib.hid (HO1.out.trans hb)
  clear hb HB1 HO1 HY1 c0 c1 c2 c3 c4 c5 c6 hl
  obtain ⟨c0, c1, c2, c3, c4, c5, c6, hl⟩ := HB2.out.facts
  go_wp2_with fail
  refine (HH1.out _).mono ?_
  rintro e w3 ⟨rfl, hb⟩
  have HB3 := Lib.hid (HB2.out.keep hb)
  have HO3 := Lib.hid (HO2.out.trans hb)
  clear hb HB2 HO2 HH1 c0 c1 c2 c3 c4 c5 c6 hl
  obtain ⟨c0, c1, c2, c3, c4, c5, c6, hl⟩ := HB3.out.facts
  by_cases he : (Sg.bytes x.seg).2 = 0
  case neg =>
    generalize (Sg.bytes x.seg).2 = er at *
    generalize S (Sg.bytes x.seg).1 = sb at *
    generalize S (Sg.head x.kind x.gen x.first (L x.t)).1 = sh at *
    generalize (Sg.head x.kind x.gen x.first (L x.t)).2 = eh at *
    have hE : ((er : Int) == 0) = false := by rw [beq_eq_false_iff_ne]; omega
    clear he
    go_wp2_with fail
    refine (alive11 _).mono ?_
    rintro e w9 ⟨rfl, hb⟩
    have HO9 := Lib.hid (HO3.out.trans hb)
    clear hb
    go_wp2_with fail
    go_ret
    exact ⟨rfl, HO9.out.below⟩
  case pos =>
  obtain ⟨hm, ht, hbs⟩ := bytes_ok HOK.out he
  rw [he, (head_yes HOK.out hm).1]
  simp only
  have hsL : L (S (Sg.bytes x.seg).1) = _ := (L_S _).trans hbs
  have hPA := parse_all HOK.out hm ht _ hsL
  have HPC := Lib.hid (fun k m => parse_at HOK.out hm ht _ hsL k m)
  have HPS := Lib.hid (fun k => parse_short HOK.out hm _ hsL k)
  have hsS : (S (Sg.bytes x.seg).1).size = mark x x.recs.length := by rw [← L_size, hsL, seg_long]
  have hhS : (S (Frm.enc x.first (Sg.hText x.kind x.gen (L x.t)))).size = mark x 0 := by rw [S_size, Frm.enc_length, mark_zero]
  have hml := mark_le x HOK.out x.recs.length
  have hm0 : mark x 0 ≤ mark x x.recs.length := by unfold mark; simp [Frm.lens]
  have HP1 : Hid (∀ wz, Calls Try.prog 16 #[.string (S (Sg.bytes x.seg).1)] wz fun e w' => ∃ a1 cap1, e = .returned (.tuple #[.agg #[.int .u8 x.kind, .int .u64 x.gen, .int .u64 x.first, .string x.t, .slice a1 x.recs.length cap1, .int .i64 (mark x x.recs.length), .bool true], .int .i64 0]) ∧ RowIs w' 1 a1 (x.recs.map tcell) ∧ Below wz.heap.size wz w') := Lib.hid (fun wz => by
    refine (seg_parse _ wz (by omega)).mono fun e w' h => ?_
    unfold ParseOut at h
    rw [hPA] at h
    obtain ⟨a1, cap1, he, hrow, hb, _⟩ := h
    rw [smap_L] at hrow
    simp only [S_L, List.length_map] at he
    exact ⟨a1, cap1, he, hrow, hb⟩)
  have HP2 : Hid (∀ wz k m, k ≤ mark x x.recs.length → m ≤ x.recs.length → mark x m ≤ k → (∀ h : m < x.recs.length, k < mark x m + 16 + x.recs[m].size) → Calls Try.prog 16 #[.string ((S (Sg.bytes x.seg).1).extract 0 k)] wz fun e w' => ∃ a1 cap1, e = .returned (.tuple #[.agg #[.int .u8 x.kind, .int .u64 x.gen, .int .u64 x.first, .string x.t, .slice a1 m cap1, .int .i64 (mark x m), .bool (decide (mark x m = k))], .int .i64 0]) ∧ RowIs w' 1 a1 ((x.recs.take m).map tcell) ∧ Below wz.heap.size wz w') := Lib.hid (fun wz k m h1 h2 h3 h4 => by
    refine (seg_parse _ wz (by rw [ByteArray.size_extract]; omega)).mono fun e w' h => ?_
    unfold ParseOut at h
    rw [HPC.out k m h1 h2 h3 h4] at h
    obtain ⟨a1, cap1, he, hrow, hb, _⟩ := h
    rw [smap_L] at hrow
    simp only [S_L, List.length_map, List.length_take, Nat.min_eq_left h2] at he
    exact ⟨a1, cap1, he, hrow, hb⟩)
  have HP3 : Hid (∀ wz k, k < mark x 0 → Calls Try.prog 16 #[.string ((S (Sg.bytes x.seg).1).extract 0 k)] wz fun e w' => ∃ a1 cap1, e = .returned (.tuple #[.agg #[.int .u8 0, .int .u64 0, .int .u64 0, .string ⟨#[]⟩, .slice a1 0 cap1, .int .i64 0, .bool false], .int .i64 100]) ∧ Below wz.heap.size wz w') := Lib.hid (fun wz k h1 => by
    refine (seg_parse _ wz (by rw [ByteArray.size_extract]; omega)).mono fun e w' h => ?_
    unfold ParseOut at h
    rw [HPS.out k h1] at h
    obtain ⟨a1, cap1, he, _, hb, _⟩ := h
    exact ⟨a1, cap1, he, hb⟩)
  have HNX := Lib.hid (fun k (hk : mark x 0 ≤ k) => mark_find x k hk)
  have HMM := Lib.hid (fun i j (h : i ≤ j) (hj : j ≤ x.recs.length) => mark_mono x i j h hj)
  have HMS := Lib.hid (fun i (h : i < x.recs.length) => mark_succ x i h)
  have HML := Lib.hid (fun i => mark_le x HOK.out i)
  rw [← hsS] at HP1 HP2 hml hm0
  rw [← hhS] at HP3 HNX hm0
  have HM0 := Lib.hid hhS
  clear he hm ht hbs hsL hPA HPC HPS hsS hhS HOK
  generalize S (Sg.bytes x.seg).1 = sb at *
  generalize S (Frm.enc x.first (Sg.hText x.kind x.gen (L x.t))) = sh at *
  have hsbI : (0 : Int) ≤ sb.size ∧ (sb.size : Int) ≤ 20000 ∧ (sh.size : Int) ≤ sb.size := by omega
  go_wp2_with fail
  refine (HP1.out _).mono ?_
  rintro e w4 ⟨a1, cap1, rfl, hrow1, hb⟩
  have HB4 := Lib.hid (HB3.out.keep hb)
  have HO4 := Lib.hid (HO3.out.trans hb)
  have HW4 := Lib.hid hrow1
  clear hb HB3 HO3 HP1 hrow1 c0 c1 c2 c3 c4 c5 c6 hl
  have hYB : SBox (w4.alloc (.cells #[.int .u8 x.kind, .int .u64 x.gen, .int .u64 x.first, .string x.t, .slice a1 x.recs.length cap1, .int .i64 sb.size, .bool true] 28 (0, 0))) w4.heap.size x.kind x.gen x.first x.t a1 x.recs.length cap1 sb.size true := heap_alloc_new w4 _
  have hb4 := ((Own.refl w4).alloc (.cells #[.int .u8 x.kind, .int .u64 x.gen, .int .u64 x.first, .string x.t, .slice a1 x.recs.length cap1, .int .i64 sb.size, .bool true] 28 (0, 0))).below
  have HY5 := Lib.hid hYB
  have hB5 := HB4.out.keep hb4
  have HW5 := Lib.hid (HW4.out.keep hb4)
  have HO5 := Lib.hid (HO4.out.trans hb4)
  have HSM1 : Hid (∀ wz, RowIs wz 1 a1 (x.recs.map tcell) → Below w.heap.size w wz → Calls Try.prog 21 #[.slice a1 x.recs.length cap1, .slice a x.recs.length cap] wz fun e w' => e = .returned (.bool true) ∧ Below wz.heap.size wz w') := Lib.hid (fun wz h1 hb => (rSame_any wz a1 a cap1 cap x.recs x.recs h1 (HR.out.keep hb) (by omega) (by omega)).mono fun e w' h => ⟨by rw [h.1]; simp, h.2⟩)
  clear hb4 hYB HB4 HO4 HW4
  go_upto_region 8 with (fail)
  generalize w4.alloc (.cells #[.int .u8 x.kind, .int .u64 x.gen, .int .u64 x.first, .string x.t, .slice a1 x.recs.length cap1, .int .i64 sb.size, .bool true] 28 (0, 0)) = w5 at *
  generalize w4.heap.size = b5 at *
  have HB5 := Lib.hid hB5
  clear hB5
  obtain ⟨c0, c1, c2, c3, c4, c5, c6, hl⟩ := HB5.out.facts
  obtain ⟨d0, d1, d2, d3, d4, d5, d6, f0, f1, f2, f3, f4, f5, f6⟩ := HY5.out.facts
  clear f0 f1 f2 f3 f4 f5 f6
  go_wp2_with fail
  refine (HSM1.out _ HW5.out HO5.out.below).mono ?_
  rintro e w6 ⟨rfl, hb⟩
  have HB6 := Lib.hid (HB5.out.keep hb)
  have HO6 := Lib.hid (HO5.out.trans hb)
  have hY6 := HY5.out.keep (hb.block _ (blk_lt HY5.out))
  clear hb HB5 HO5 HY5 HW5 HSM1 c0 c1 c2 c3 c4 c5 c6 hl d0 d1 d2 d3 d4 d5 d6
  obtain ⟨c0, c1, c2, c3, c4, c5, c6, hl⟩ := HB6.out.facts
  obtain ⟨d0, d1, d2, d3, d4, d5, d6, f0, f1, f2, f3, f4, f5, f6⟩ := hY6.facts
  have hw1 : IntKind.i64.wrap ((sb.size : Int) + 1) = (sb.size : Int) + 1 := IntWalk.i64_in _ (by omega)
  obtain ⟨k, hk⟩ : ∃ k, k = at0 % (sb.size + 1) := ⟨_, rfl⟩
  have hkm : (at0 : Int) % ((sb.size : Int) + 1) = (k : Int) := by rw [hk, Int.natCast_emod, Int.natCast_add]; rfl
  have hkl : k ≤ sb.size := by rw [hk]; have := Nat.mod_lt at0 (show 0 < sb.size + 1 by omega); omega
  have hkI : (0 : Int) ≤ k ∧ (k : Int) ≤ sb.size := by omega
  clear f0 f1 f2 f3 f4 f5 f6 hY6 hk
  by_cases hks : k < sh.size
  · have hksI : (k : Int) < sh.size := by omega
    have HPK := Lib.hid (fun wz => HP3.out wz k hks)
    clear hks
    go_wp2_with fail
    refine (HPK.out _).mono ?_
    rintro e w7 ⟨a2, cap2, rfl, hb⟩
    have HO7 := Lib.hid (HO6.out.trans hb)
    clear hb c0 c1 c2 c3 c4 c5 c6 hl d0 d1 d2 d3 d4 d5 d6
    go_wp2_with fail
    refine (alive11 _).mono ?_
    rintro e w8 ⟨rfl, hb⟩
    have HO8 := Lib.hid ((HO7.out.alloc (.cells #[.int .u8 0, .int .u64 0, .int .u64 0, .string ⟨#[]⟩, .slice a2 0 cap2, .int .i64 0, .bool false] 28 (0, 0))).trans hb)
    clear hb
    go_wp2_with fail
    go_ret
    exact ⟨rfl, HO8.out.below⟩
  · have hksI : (sh.size : Int) ≤ k := by omega
    obtain ⟨m, hml2, hmk, hmn⟩ := HNX.out k (by omega)
    have HPK := Lib.hid (fun wz => HP2.out wz k m hkl hml2 hmk hmn)
    have HMN := Lib.hid hmn
    have hmL := HML.out m
    have HMK := Lib.hid (And.intro hml2 hmk)
    clear hks hmn hml2
    go_wp2_with fail
    refine (HPK.out _).mono ?_
    rintro e w7 ⟨a2, cap2, rfl, hrow2, hb⟩
    have HB7 := Lib.hid (HB6.out.keep hb)
    have HO7 := Lib.hid (HO6.out.trans hb)
    have HW7 := Lib.hid hrow2
    clear hb HB6 HO6 HPK hrow2 c0 c1 c2 c3 c4 c5 c6 hl d0 d1 d2 d3 d4 d5 d6
    rw [hkm]
    generalize hwh : decide (mark x m = k) = wh at *
    have HWH := Lib.hid hwh
    clear hwh
    have hZB : SBox (w7.alloc (.cells #[.int .u8 x.kind, .int .u64 x.gen, .int .u64 x.first, .string x.t, .slice a2 m cap2, .int .i64 (mark x m), .bool wh] 28 (0, 0))) w7.heap.size x.kind x.gen x.first x.t a2 m cap2 (mark x m) wh := heap_alloc_new w7 _
    have hb7 := ((Own.refl w7).alloc (.cells #[.int .u8 x.kind, .int .u64 x.gen, .int .u64 x.first, .string x.t, .slice a2 m cap2, .int .i64 (mark x m), .bool wh] 28 (0, 0))).below
    have HZ8 := Lib.hid hZB
    have HB8 := Lib.hid (HB7.out.keep hb7)
    have HW8 := Lib.hid (HW7.out.keep hb7)
    have HO8 := Lib.hid (HO7.out.trans hb7)
    clear hb7 hZB HB7 HO7 HW7
    go_upto_region 12 with (fail)
    generalize w7.alloc (.cells #[.int .u8 x.kind, .int .u64 x.gen, .int .u64 x.first, .string x.t, .slice a2 m cap2, .int .i64 (mark x m), .bool wh] 28 (0, 0)) = W at *
    generalize w7.heap.size = b8 at *
    obtain ⟨c0, c1, c2, c3, c4, c5, c6, hl⟩ := HB8.out.facts
    go_wp2_with fail
    rw [HM0.out]
    go_loopw [14, 15] (fun vn ve wr => ∃ n, n ≤ m ∧ vn = .int .i64 n ∧ ve = .int .i64 (mark x n) ∧ wr = W) (fun vn _ _ => x.recs.length - (intOf vn).toNat)
    case atStart => exact ⟨0, Nat.zero_le _, rfl, rfl, rfl⟩
    case round =>
      clear hm0
      obtain ⟨n, hnm, rfl, rfl, rfl⟩ := hrel
      have hnl := HMK.out.1
      have hnL := HML.out n
      have heI : (0 : Int) ≤ mark x n ∧ (mark x n : Int) ≤ 20000 := by omega
      have hw1 : IntKind.i64.wrap ((mark x n : Int) + 16) = (mark x n : Int) + 16 := IntWalk.i64_in _ (by omega)
      by_cases hlt : n < x.recs.length
      · obtain ⟨g, off, rfl, hc⟩ := (HR.out.keep HO8.out.below).cell1 (f := fun x => .string x) n hlt
        have hnI2 : (0 : Int) ≤ n ∧ (n : Int) < x.recs.length := by omega
        have hS := HMS.out n hlt
        have hL1 := HML.out (n + 1)
        by_cases hn : n < m
        · have hM := HMM.out (n + 1) m (by omega) hnl
          have hK := HMK.out.2
          have HN : Hid (mark x (n + 1) = mark x n + 16 + x.recs[n].size) := Lib.hid hS
          generalize x.recs[n] = r at *
          have hw2 : IntKind.i64.wrap ((mark x n : Int) + 16 + (r.size : Int)) = (mark x n : Int) + 16 + (r.size : Int) := IntWalk.i64_in _ (by omega)
          have hle : (mark x n : Int) + 16 + (r.size : Int) ≤ k := by omega
          have HL1 := Lib.hid (show (mark x n : Int) + 16 + (r.size : Int) = ((mark x (n + 1) : Nat) : Int) by omega)
          have HNM := Lib.hid (show n + 1 ≤ m by omega)
          clear hS hL1 hM hK hn hnl hnL hlt
          generalize hen : mark x n = en at *
          clear hen
          go_wp2_with fail
          go_roundw
          case rel => exact ⟨n + 1, HNM.out, by go_num, by rw [HL1.out], by first | rfl | trivial⟩
          case measure => simp [intOf]; omega
        · have hen : m = n := by omega
          have hkn2 : k < mark x n + 16 + x.recs[n].size := by subst hen; exact HMN.out hlt
          generalize x.recs[n] = r at *
          have hw2 : IntKind.i64.wrap ((mark x n : Int) + 16 + (r.size : Int)) = (mark x n : Int) + 16 + (r.size : Int) := IntWalk.i64_in _ (by omega)
          have hle : (k : Int) < (mark x n : Int) + 16 + (r.size : Int) := by omega
          clear hS hL1 hkn2 hn
          subst hen
          have hwh := HWH.out
          have hEq : ((mark x m : Int) == (k : Int)) = wh := by
            rw [← hwh, Bool.eq_iff_iff, beq_iff_eq, decide_eq_true_iff]; omega
          have hbb : (wh == wh) = true := by simp
          have HCM := Lib.hid hmk
          clear hwh hmk
          generalize hmm : mark x m = en at *
          have HMEN := Lib.hid hmm
          clear hmm hw1 heI hnL hkm
          have hmI : (0 : Int) ≤ m ∧ (m : Int) ≤ x.recs.length ∧ (m : Int) ≤ cap := by have := HCAP.out; omega
          go_upto_region 18 with (fail)
          have HBW : Hid (Own wr.heap.size wr wr.drew) := Lib.hid (Own.refl wr).drew
          have HK : Hid (∀ w', Below wr.heap.size wr w' → w'.cell? ⟨w.heap.size, 3, none⟩ = some (.string x.t) ∧ w'.cell? ⟨w.heap.size, 4, none⟩ = some (.slice (some ⟨g, off, none⟩) x.recs.length cap) ∧ w'.cell? ⟨b8, 3, none⟩ = some (.string x.t) ∧ w'.cell? ⟨b8, 4, none⟩ = some (.slice a2 m cap2) ∧ w'.cell? ⟨b8, 5, none⟩ = some (.int .i64 en) ∧ w'.cell? ⟨b8, 6, none⟩ = some (.bool wh)) := Lib.hid (fun w' hb => by
            have g1 := (HB8.out.keep hb).facts
            have g3 := (HZ8.out.keep (hb.block _ (blk_lt HZ8.out))).facts
            exact ⟨g1.2.2.2.1, g1.2.2.2.2.1, g3.2.2.2.1, g3.2.2.2.2.1, g3.2.2.2.2.2.1, g3.2.2.2.2.2.2.1⟩)
          have hS := HK.out _ HBW.out.below
          have HSM : Hid (∀ wz, Below wr.heap.size wr wz → Calls Try.prog 21 #[.slice a2 m cap2, .slice (some ⟨g, off, none⟩) m cap] wz fun e w' => e = .returned (.bool true) ∧ Below wz.heap.size wz w') := Lib.hid (fun wz hb => by
            have hlm : (x.recs.take m).length = m := by rw [List.length_take]; exact Nat.min_eq_left (by omega)
            have h1 := (HR.out.keep (HO8.out.trans hb).below).take m
            rw [← List.map_take] at h1
            have h2 := rSame_any wz a2 (some ⟨g, off, none⟩) cap2 cap (x.recs.take m) (x.recs.take m) (HW8.out.keep hb) h1 (by omega) (by omega)
            rw [hlm] at h2
            exact h2.mono fun e w' h => ⟨by rw [h.1]; simp, h.2⟩)
          have HKK := Lib.hid hkI
          go_region_held3 (fun w' => w'.cell? ⟨w.heap.size, 3, none⟩ = some (.string x.t) ∧ w'.cell? ⟨w.heap.size, 4, none⟩ = some (.slice (some ⟨g, off, none⟩) x.recs.length cap) ∧ w'.cell? ⟨b8, 3, none⟩ = some (.string x.t) ∧ w'.cell? ⟨b8, 4, none⟩ = some (.slice a2 m cap2) ∧ w'.cell? ⟨b8, 5, none⟩ = some (.int .i64 en) ∧ w'.cell? ⟨b8, 6, none⟩ = some (.bool wh))
            (first | exact hS | assumption)
            (first
            | (go_at_call 21
               (with_reducible refine (HSM.out _ HBW.out.below).mono ?_)
               rintro e wz ⟨rfl, hb⟩
               replace HBW := Lib.hid (HBW.out.trans hb)
               have hS := HK.out _ HBW.out.below
               clear hb)
            | (go_at_call 7
               refine (alive11 _).mono ?_
               rintro e wz ⟨rfl, hb⟩
               replace HBW := Lib.hid (HBW.out.trans hb)
               have hS := HK.out _ HBW.out.below
               clear hb))
          all_goals
            go_wp2_with fail
            go_ret
            exact ⟨rfl, (HO8.out.trans HBW.out.below).below⟩
      · have hnm2 : m = n := by omega
        subst hnm2
        have hwh := HWH.out
        have hEq : ((mark x m : Int) == (k : Int)) = wh := by
          rw [← hwh, Bool.eq_iff_iff, beq_iff_eq, decide_eq_true_iff]; omega
        have hbb : (wh == wh) = true := by simp
        have HCM := Lib.hid hmk
        clear hwh hmk
        generalize hmm : mark x m = en at *
        have HMEN := Lib.hid hmm
        clear hmm hw1 heI hnL hkm
        have hmI : (0 : Int) ≤ m ∧ (m : Int) ≤ x.recs.length ∧ (m : Int) ≤ cap := by have := HCAP.out; omega
        go_upto_region 18 with (fail)
        have HBW : Hid (Own wr.heap.size wr wr.drew) := Lib.hid (Own.refl wr).drew
        have HK : Hid (∀ w', Below wr.heap.size wr w' → w'.cell? ⟨w.heap.size, 3, none⟩ = some (.string x.t) ∧ w'.cell? ⟨w.heap.size, 4, none⟩ = some (.slice a x.recs.length cap) ∧ w'.cell? ⟨b8, 3, none⟩ = some (.string x.t) ∧ w'.cell? ⟨b8, 4, none⟩ = some (.slice a2 m cap2) ∧ w'.cell? ⟨b8, 5, none⟩ = some (.int .i64 en) ∧ w'.cell? ⟨b8, 6, none⟩ = some (.bool wh)) := Lib.hid (fun w' hb => by
          have g1 := (HB8.out.keep hb).facts
          have g3 := (HZ8.out.keep (hb.block _ (blk_lt HZ8.out))).facts
          exact ⟨g1.2.2.2.1, g1.2.2.2.2.1, g3.2.2.2.1, g3.2.2.2.2.1, g3.2.2.2.2.2.1, g3.2.2.2.2.2.2.1⟩)
        have hS := HK.out _ HBW.out.below
        have HSM : Hid (∀ wz, Below wr.heap.size wr wz → Calls Try.prog 21 #[.slice a2 m cap2, .slice a m cap] wz fun e w' => e = .returned (.bool true) ∧ Below wz.heap.size wz w') := Lib.hid (fun wz hb => by
          have hlm : (x.recs.take m).length = m := by rw [List.length_take]; exact Nat.min_eq_left (by omega)
          have h1 := (HR.out.keep (HO8.out.trans hb).below).take m
          rw [← List.map_take] at h1
          have h2 := rSame_any wz a2 a cap2 cap (x.recs.take m) (x.recs.take m) (HW8.out.keep hb) h1 (by omega) (by omega)
          rw [hlm] at h2
          exact h2.mono fun e w' h => ⟨by rw [h.1]; simp, h.2⟩)
        have HKK := Lib.hid hkI
        go_region_held3 (fun w' => w'.cell? ⟨w.heap.size, 3, none⟩ = some (.string x.t) ∧ w'.cell? ⟨w.heap.size, 4, none⟩ = some (.slice a x.recs.length cap) ∧ w'.cell? ⟨b8, 3, none⟩ = some (.string x.t) ∧ w'.cell? ⟨b8, 4, none⟩ = some (.slice a2 m cap2) ∧ w'.cell? ⟨b8, 5, none⟩ = some (.int .i64 en) ∧ w'.cell? ⟨b8, 6, none⟩ = some (.bool wh))
          (first | exact hS | assumption)
          (first
          | (go_at_call 21
             (with_reducible refine (HSM.out _ HBW.out.below).mono ?_)
             rintro e wz ⟨rfl, hb⟩
             replace HBW := Lib.hid (HBW.out.trans hb)
             have hS := HK.out _ HBW.out.below
             clear hb)
          | (go_at_call 7
             refine (alive11 _).mono ?_
             rintro e wz ⟨rfl, hb⟩
             replace HBW := Lib.hid (HBW.out.trans hb)
             have hS := HK.out _ HBW.out.below
             clear hb))
        all_goals
          go_wp2_with fail
          go_ret
          exact ⟨rfl, (HO8.out.trans HBW.out.below).below⟩

end Go.Proofs.Ytdohhbilchdigaa
