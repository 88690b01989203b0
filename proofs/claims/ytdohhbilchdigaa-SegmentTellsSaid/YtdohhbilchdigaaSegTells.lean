/-
  THE WALK of the statement SegmentTells.
-/
import Derived.Test.YtdohhbilchdigaaSegAlive
import Derived.Test.YtdohhbilchdigaaSegParseR
import Derived.Test.YtdohhbilchdigaaSegBytesR
import Derived.Deep.RegionHeld3
import Derived.Deep.CutBlock
import Derived.Deep.DeepCutAuto
namespace Go.Proofs.Ytdohhbilchdigaa
open Go.RowKit

attribute [local go_sem ↓ high] appSem_eq

theorem parse_recs_le (s : List UInt8) : (Sg.parse s).1.recs.length ≤ s.length := by
  unfold Sg.parse
  split
  · simp [Sg.seg0]
  · split
    · simp [Sg.seg0]
    · split
      · simp [Sg.seg0]
      · simp only
        obtain ⟨_, z2⟩ := Sg.scan_sizes _ (s.drop (Frm.dec s).used) (Frm.dec s).r.num (Nat.le_refl _)
        have h1 := lens_ge ((Frm.scan (s.drop (Frm.dec s).used) (Frm.dec s).r.num).1.map (·.text))
        rw [List.length_map] at h1
        rw [List.length_drop] at z2
        have h2 : (Sg.kept (Frm.scan (s.drop (Frm.dec s).used) (Frm.dec s).r.num).1).length ≤ (Frm.scan (s.drop (Frm.dec s).used) (Frm.dec s).r.num).1.length := by
          unfold Sg.kept
          rw [List.length_map]
          exact (List.takeWhile_sublist _).length_le
        omega

set_option maxRecDepth 20000 in
set_option maxHeartbeats 4000000 in
theorem segmentTells_any (w : World) (x : Sx) (a : Option Addr) (cap : Nat) (s : ByteArray) (ok : okH x) (hr : RowIs w 1 a (x.recs.map tcell)) (hs : s.size ≤ 140737488351232) :
    Calls Try.prog 5 #[.agg #[.int .u8 x.kind, .int .u64 x.gen, .int .u64 x.first, .string x.t, .slice a x.recs.length cap, .int .i64 x.used, .bool x.whole], .string s] w fun e w' => e = .returned (.bool true) ∧ Below w.heap.size w w' := by
  have hO := Own.refl w
  have HR := Lib.hid hr
  have hsI : (0 : Int) ≤ s.size ∧ (s.size : Int) ≤ 140737488351232 := by omega
  have HHV := Lib.hid (fun wz (hb : Below w.heap.size w wz) => heavy11 wz x a cap ok (hr.keep hb))
  clear ok hr hs
  go_enter Try.func5, Try.ntmps5
  go_wp2_with fail
  have hB0 : SegBox (w.alloc (.cells #[.int .u8 x.kind, .int .u64 x.gen, .int .u64 x.first, .string x.t, .slice a x.recs.length cap, .int .i64 x.used, .bool x.whole] 28 (0, 0))) w.heap.size x a cap := heap_alloc_new w _
  replace hO := hO.alloc (.cells #[.int .u8 x.kind, .int .u64 x.gen, .int .u64 x.first, .string x.t, .slice a x.recs.length cap, .int .i64 x.used, .bool x.whole] 28 (0, 0))
  refine (HHV.out _ hO.below).mono ?_
  rintro e w1 ⟨⟨b, rfl, hbk⟩, hb1⟩
  have HB1 := Lib.hid (hB0.keep hb1)
  have HO1 := Lib.hid (hO.trans hb1)
  clear hb1 hB0 hO HHV
  cases b with
  | true =>
    go_wp2_with fail
    refine (alive11 _).mono ?_
    rintro e w2 ⟨rfl, hb⟩
    have HO2 := Lib.hid (HO1.out.trans hb)
    clear hb
    go_wp2_with fail
    go_ret
    exact ⟨rfl, HO2.out.below⟩
  | false =>
  by_cases hlong : 8192 < s.size
  · have hsI2 : (8192 : Int) < s.size := by omega
    clear hlong hbk
    go_wp2_with fail
    refine (alive11 _).mono ?_
    rintro e w2 ⟨rfl, hb⟩
    have HO2 := Lib.hid (HO1.out.trans hb)
    clear hb
    go_wp2_with fail
    go_ret
    exact ⟨rfl, HO2.out.below⟩
  have hsI2 : (s.size : Int) ≤ 8192 := by omega
  have hok := hbk rfl
  have hsz := hok.sz
  have HOK := Lib.hid hok
  have HH1 := Lib.hid (fun wz => seg_head wz x.kind x.gen x.first x.t hok.kind hok.gen hok.first (by omega))
  have HH2 := Lib.hid (fun wz => rseg_head wz x.kind x.gen x.first x.t hok.kind hok.gen hok.first (by omega))
  have HY1 := Lib.hid (fun wz (hb : Below w.heap.size w wz) => seg_bytes wz x a cap hok (HR.out.keep hb))
  have HY2 := Lib.hid (fun wz (hb : Below w.heap.size w wz) => rseg_bytes wz x a cap hok (HR.out.keep hb))
  have HP1 := Lib.hid (fun wz => seg_parse s wz (by omega))
  have HP2 := Lib.hid (fun wz => rseg_parse s wz (by omega))
  have hnn := hok.n
  have HN1 := Lib.hid (fun wz => seg_next wz x.kind x.gen x.first x.recs.length cap x.t a x.used x.whole (by omega))
  have HN2 := Lib.hid (fun wz => rseg_next wz x.kind x.gen x.first x.recs.length cap x.t a x.used x.whole (by omega))
  clear hlong hbk hok hsz hnn
  obtain ⟨c0, c1, c2, c3, c4, c5, c6, hl⟩ := HB1.out.facts
  go_wp2_with fail
  refine (HH1.out _).mono ?_
  rintro e w2 ⟨rfl, hb⟩
  have HB2 := Lib.hid (HB1.out.keep hb)
  have HO2 := Lib.hid (HO1.out.trans hb)
  clear hb HB1 HO1 HH1 c0 c1 c2 c3 c4 c5 c6 hl
  obtain ⟨c0, c1, c2, c3, c4, c5, c6, hl⟩ := HB2.out.facts
  go_wp2_with fail
  refine (HH2.out _).mono ?_
  rintro e w3 ⟨rfl, hb⟩
  have HB3 := Lib.hid (HB2.out.keep hb)
  have HO3 := Lib.hid (HO2.out.trans hb)
  clear hb HB2 HO2 HH2 c0 c1 c2 c3 c4 c5 c6 hl
  obtain ⟨c0, c1, c2, c3, c4, c5, c6, hl⟩ := HB3.out.facts
  generalize Sg.head x.kind x.gen x.first (L x.t) = hh at *
  go_wp2_with fail
  refine (HY1.out _ HO3.out.below).mono ?_
  rintro e w4 ⟨rfl, hb⟩
  have HB4 := Lib.hid (HB3.out.keep hb)
  have HO4 := Lib.hid (HO3.out.trans hb)
  clear hb HB3 HO3 HY1 c0 c1 c2 c3 c4 c5 c6 hl
  obtain ⟨c0, c1, c2, c3, c4, c5, c6, hl⟩ := HB4.out.facts
  go_wp2_with fail
  refine (HY2.out _ HO4.out.below).mono ?_
  rintro e w5 ⟨rfl, hb⟩
  have HB5 := Lib.hid (HB4.out.keep hb)
  have HO5 := Lib.hid (HO4.out.trans hb)
  clear hb HB4 HO4 HY2 c0 c1 c2 c3 c4 c5 c6 hl
  obtain ⟨c0, c1, c2, c3, c4, c5, c6, hl⟩ := HB5.out.facts
  generalize Sg.bytes x.seg = by_ at *
  go_wp2_with fail
  have hrl := parse_recs_le (L s)
  rw [L_size] at hrl
  generalize hq : Sg.parse (L s) = q at *
  unfold ParseOut at HP1 HP2
  rw [hq] at HP1 HP2
  clear hq
  obtain ⟨⟨k, g, f, T0, R0, u, wh⟩, er⟩ := q
  simp only at hrl HP1 HP2
  obtain ⟨R, hR⟩ : ∃ R, R = R0.map S := ⟨_, rfl⟩
  have hlen : R0.length = R.length := by rw [hR, List.length_map]
  have hmap : (R0.map fun t => [Value.string (S t)]) = R.map tcell := by rw [hR, List.map_map]; rfl
  rw [hlen, hmap] at HP1 HP2
  rw [hlen] at hrl
  generalize S T0 = T at *
  clear hR hlen hmap
  refine (HP1.out _).mono ?_
  rintro e w6 ⟨a1, cap1, rfl, hrow1, hb, _⟩
  have HB6 := Lib.hid (HB5.out.keep hb)
  have HO6 := Lib.hid (HO5.out.trans hb)
  have HW1 := Lib.hid hrow1
  clear hb HB5 HO5 HP1 hrow1 c0 c1 c2 c3 c4 c5 c6 hl
  go_wp2_with fail
  have hYB : SBox (w6.alloc (.cells #[.int .u8 k, .int .u64 g, .int .u64 f, .string T, .slice a1 R.length cap1, .int .i64 u, .bool wh] 28 (0, 0))) w6.heap.size k g f T a1 R.length cap1 u wh := heap_alloc_new w6 _
  have hb6 := ((Own.refl w6).alloc (.cells #[.int .u8 k, .int .u64 g, .int .u64 f, .string T, .slice a1 R.length cap1, .int .i64 u, .bool wh] 28 (0, 0))).below
  refine (HP2.out _).mono ?_
  rintro e w7 ⟨a2, cap2, rfl, hrow2, hb, _⟩
  have HY7 := Lib.hid (hYB.keep (hb.block _ (blk_lt hYB)))
  have HB7 := Lib.hid ((HB6.out.keep hb6).keep hb)
  have HO7 := Lib.hid ((HO6.out.trans hb6).trans hb)
  have HW7 := Lib.hid ((HW1.out.keep hb6).keep hb)
  have HV7 := Lib.hid hrow2
  clear hb hb6 hYB HB6 HO6 HW1 hrow2 HP2
  generalize w6.heap.size = by1 at *
  go_wp2_with fail
  have hZB : SBox (w7.alloc (.cells #[.int .u8 k, .int .u64 g, .int .u64 f, .string T, .slice a2 R.length cap2, .int .i64 u, .bool wh] 28 (0, 0))) w7.heap.size k g f T a2 R.length cap2 u wh := heap_alloc_new w7 _
  have hb7 := ((Own.refl w7).alloc (.cells #[.int .u8 k, .int .u64 g, .int .u64 f, .string T, .slice a2 R.length cap2, .int .i64 u, .bool wh] 28 (0, 0))).below
  have HY8 := Lib.hid (HY7.out.keep (hb7.block _ (blk_lt HY7.out)))
  have HB8 := Lib.hid (HB7.out.keep hb7)
  have HO8 := Lib.hid (HO7.out.trans hb7)
  have HW8 := Lib.hid (HW7.out.keep hb7)
  have HV8 := Lib.hid (HV7.out.keep hb7)
  have HZ8 := Lib.hid hZB
  clear hb7 hZB HY7 HB7 HO7 HW7 HV7
  generalize w7.alloc (.cells #[.int .u8 k, .int .u64 g, .int .u64 f, .string T, .slice a2 R.length cap2, .int .i64 u, .bool wh] 28 (0, 0)) = W at *
  generalize w7.heap.size = bz1 at *
  have HBW : Hid (Own W.heap.size W W.drew) := Lib.hid (Own.refl W).drew
  have HK : Hid (∀ w', Below W.heap.size W w' → w'.cell? ⟨w.heap.size, 0, none⟩ = some (.int .u8 x.kind) ∧ w'.cell? ⟨w.heap.size, 1, none⟩ = some (.int .u64 x.gen) ∧ w'.cell? ⟨w.heap.size, 2, none⟩ = some (.int .u64 x.first) ∧ w'.cell? ⟨w.heap.size, 3, none⟩ = some (.string x.t) ∧ w'.cell? ⟨w.heap.size, 4, none⟩ = some (.slice a x.recs.length cap) ∧ w'.cell? ⟨w.heap.size, 5, none⟩ = some (.int .i64 x.used) ∧ w'.cell? ⟨w.heap.size, 6, none⟩ = some (.bool x.whole) ∧ w'.cell? ⟨by1, 0, none⟩ = some (.int .u8 k) ∧ w'.cell? ⟨by1, 1, none⟩ = some (.int .u64 g) ∧ w'.cell? ⟨by1, 2, none⟩ = some (.int .u64 f) ∧ w'.cell? ⟨by1, 3, none⟩ = some (.string T) ∧ w'.cell? ⟨by1, 4, none⟩ = some (.slice a1 R.length cap1) ∧ w'.cell? ⟨by1, 5, none⟩ = some (.int .i64 u) ∧ w'.cell? ⟨by1, 6, none⟩ = some (.bool wh) ∧ w'.cell? ⟨bz1, 0, none⟩ = some (.int .u8 k) ∧ w'.cell? ⟨bz1, 1, none⟩ = some (.int .u64 g) ∧ w'.cell? ⟨bz1, 2, none⟩ = some (.int .u64 f) ∧ w'.cell? ⟨bz1, 3, none⟩ = some (.string T) ∧ w'.cell? ⟨bz1, 4, none⟩ = some (.slice a2 R.length cap2) ∧ w'.cell? ⟨bz1, 5, none⟩ = some (.int .i64 u) ∧ w'.cell? ⟨bz1, 6, none⟩ = some (.bool wh)) := Lib.hid (fun w' hb => by
    have g1 := (HB8.out.keep hb).facts
    have g2 := (HY8.out.keep (hb.block _ (blk_lt HY8.out))).facts
    have g3 := (HZ8.out.keep (hb.block _ (blk_lt HZ8.out))).facts
    exact ⟨g1.1, g1.2.1, g1.2.2.1, g1.2.2.2.1, g1.2.2.2.2.1, g1.2.2.2.2.2.1, g1.2.2.2.2.2.2.1, g2.1, g2.2.1, g2.2.2.1, g2.2.2.2.1, g2.2.2.2.2.1, g2.2.2.2.2.2.1, g2.2.2.2.2.2.2.1, g3.1, g3.2.1, g3.2.2.1, g3.2.2.2.1, g3.2.2.2.2.1, g3.2.2.2.2.2.1, g3.2.2.2.2.2.2.1⟩)
  have hS := HK.out _ HBW.out.below
  have HSM : Hid (∀ wz, Below W.heap.size W wz → Calls Try.prog 18 #[.agg #[.int .u8 k, .int .u64 g, .int .u64 f, .string T, .slice a1 R.length cap1, .int .i64 u, .bool wh], .agg #[.int .u8 k, .int .u64 g, .int .u64 f, .string T, .slice a2 R.length cap2, .int .i64 u, .bool wh]] wz fun e w' => e = .returned (.bool true) ∧ Below wz.heap.size wz w') := Lib.hid (fun wz hb => rseg_same wz k g f T u wh R a1 a2 cap1 cap2 (HW8.out.keep hb) (HV8.out.keep hb) (by omega))
  clear HB8 HY8 HZ8 HW8 HV8 HR HOK
  go_region_held3 (fun w' => w'.cell? ⟨w.heap.size, 0, none⟩ = some (.int .u8 x.kind) ∧ w'.cell? ⟨w.heap.size, 1, none⟩ = some (.int .u64 x.gen) ∧ w'.cell? ⟨w.heap.size, 2, none⟩ = some (.int .u64 x.first) ∧ w'.cell? ⟨w.heap.size, 3, none⟩ = some (.string x.t) ∧ w'.cell? ⟨w.heap.size, 4, none⟩ = some (.slice a x.recs.length cap) ∧ w'.cell? ⟨w.heap.size, 5, none⟩ = some (.int .i64 x.used) ∧ w'.cell? ⟨w.heap.size, 6, none⟩ = some (.bool x.whole) ∧ w'.cell? ⟨by1, 0, none⟩ = some (.int .u8 k) ∧ w'.cell? ⟨by1, 1, none⟩ = some (.int .u64 g) ∧ w'.cell? ⟨by1, 2, none⟩ = some (.int .u64 f) ∧ w'.cell? ⟨by1, 3, none⟩ = some (.string T) ∧ w'.cell? ⟨by1, 4, none⟩ = some (.slice a1 R.length cap1) ∧ w'.cell? ⟨by1, 5, none⟩ = some (.int .i64 u) ∧ w'.cell? ⟨by1, 6, none⟩ = some (.bool wh) ∧ w'.cell? ⟨bz1, 0, none⟩ = some (.int .u8 k) ∧ w'.cell? ⟨bz1, 1, none⟩ = some (.int .u64 g) ∧ w'.cell? ⟨bz1, 2, none⟩ = some (.int .u64 f) ∧ w'.cell? ⟨bz1, 3, none⟩ = some (.string T) ∧ w'.cell? ⟨bz1, 4, none⟩ = some (.slice a2 R.length cap2) ∧ w'.cell? ⟨bz1, 5, none⟩ = some (.int .i64 u) ∧ w'.cell? ⟨bz1, 6, none⟩ = some (.bool wh))
      (first | exact hS | assumption)
      (first
      | (go_at_call 18
         (with_reducible refine (HSM.out _ HBW.out.below).mono ?_)
         rintro e wz ⟨rfl, hb⟩
         replace HBW := Lib.hid (HBW.out.trans hb)
         have hS := HK.out _ HBW.out.below
         clear hb)
      | (go_at_call 19
         (with_reducible refine (HN1.out _).mono ?_)
         rintro e wz ⟨rfl, hb⟩
         replace HBW := Lib.hid (HBW.out.trans hb)
         have hS := HK.out _ HBW.out.below
         clear hb)
      | (go_at_call 20
         (with_reducible refine (HN2.out _).mono ?_)
         rintro e wz ⟨rfl, hb⟩
         replace HBW := Lib.hid (HBW.out.trans hb)
         have hS := HK.out _ HBW.out.below
         clear hb)
      | (go_at_call 7
         refine (alive11 _).mono ?_
         rintro e wz ⟨rfl, hb⟩
         replace HBW := Lib.hid (HBW.out.trans hb)
         have hS := HK.out _ HBW.out.below
         clear hb))
  all_goals
    go_wp2_with fail
    go_ret
    exact ⟨rfl, (HO8.out.trans HBW.out.below).below⟩

end Go.Proofs.Ytdohhbilchdigaa
