/-
  THE WALK of the document's answer for layer 11: Parse.
-/
import Derived.Test.YtdohhbilchdigaaSegParse
import Derived.Test.YtdohhbilchdigaaSegNum
namespace Go.Proofs.Ytdohhbilchdigaa
open Go.RowKit

attribute [local go_sem ↓ high] appSem_eq

theorem parse_fin2 {w wr W : World} {s T' : ByteArray} {k g N k1 cap1 Q : Nat} {a1 : Option Addr} {rl : List Frm.Rec} {b c : Nat} (HP : Sg.parse (L s) = (⟨k, g, N, L T', Sg.upTo rl k1, Q, decide (Q = s.size)⟩, 0)) (hk : k1 ≤ rl.length)
    (HS : SliceIs wr 9 1 a1 k1 cap1 ((Sg.upTo rl k1).map fun t => .string (S t))) (HF : ∀ x ∈ blks a1, b < x ∧ c < x) (hb : w.heap.size ≤ b) (hc : w.heap.size ≤ c) (HO : Own w.heap.size w wr) (hu : Upd wr W [b, c]) :
    ParseOut s w (.returned (.tuple #[.agg #[.int .u8 k, .int .u64 g, .int .u64 N, .string T', .slice a1 k1 cap1, .int .i64 Q, .bool (decide (Q = s.size))], .int .i64 0])) W := by
  have hS := HS.keep (w' := W) fun x hx => hu.keep x (HS.lt x hx) (by have := HF x hx; simp; omega)
  have hr := hS.rowIs1 (by rw [List.length_map, Sg.upTo_length rl k1 hk]; exact Nat.le_refl _)
  rw [List.map_map] at hr
  unfold ParseOut
  rw [HP]
  refine ⟨a1, cap1, ?_, hr, (HO.upd hu (by simp; omega)).below, fun x hx => by have := HF x hx; omega⟩
  simp only [S_L, Sg.upTo_length rl k1 hk]
  rfl
theorem extract_tail (k : UInt8) (t : List UInt8) (n : Nat) : (S (k :: t)).extract (1 + n) (S (k :: t)).size = S (t.drop n) := by
  rw [← S_L ((S (k :: t)).extract (1 + n) (S (k :: t)).size), L_from, L_S, Nat.add_comm 1 n]; rfl

set_option maxRecDepth 20000 in
set_option maxHeartbeats 8000000 in
theorem rseg_parse (s : ByteArray) (w : World) (hs : s.size ≤ 1073741824) :
    Calls Try.prog 17 #[.string s] w (ParseOut s w) := by
  obtain ⟨i0, hi, hz0, hz1, hz2⟩ := info_parts strInfo
  have HS := Lib.hid hs
  have hsI : (0 : Int) ≤ s.size ∧ (s.size : Int) ≤ 1073741824 := by omega
  have HD := Lib.hid (fun w => ref_dec s w (by omega))
  have hO := Own.refl w
  clear hs
  go_enter Try.func17, Try.ntmps17
  go_wp2_with fail
  have hX : SBox (w.alloc (.cells #[.int .u8 0, .int .u64 0, .int .u64 0, .string ⟨#[]⟩, .slice none 0 0, .int .i64 0, .bool false] 28 (0, 0))) w.heap.size 0 0 0 ⟨#[]⟩ none 0 0 0 false := heap_alloc_new w _
  replace hO := hO.alloc (.cells #[.int .u8 0, .int .u64 0, .int .u64 0, .string ⟨#[]⟩, .slice none 0 0, .int .i64 0, .bool false] 28 (0, 0))
  refine (HD.out _).mono ?_
  rintro e w1 hd
  unfold DecOut at hd
  obtain ⟨rfl, hb1⟩ := hd
  have HX1 := Lib.hid (hX.keep (hb1.block _ (blk_lt hX)))
  have HO1 := Lib.hid (hO.trans hb1)
  have hge1 : w.heap.size < w1.heap.size := by have := hb1.size; simp at this; omega
  clear hX hO hb1 HD
  obtain ⟨c0, c1, c2, c3, c4, c5, c6, f0, f1, f2, f3, f4, f5, f6⟩ := HX1.out.facts
  by_cases h0 : (Frm.dec (L s)).err = 0
  · obtain ⟨d1, d2, d3, d4, d5⟩ := Frm.dec_ok (L s) h0
    have HDE := Lib.hid h0
    rw [h0]
    cases ht : (Frm.dec (L s)).r.text with
    | nil =>
      have HP := Lib.hid (Sg.parse_none h0 ht)
      rw [show S [] = (⟨#[]⟩ : ByteArray) from rfl]
      clear d1 d2 d3 d4 d5 h0 ht
      generalize (Frm.dec (L s)).r.num = N at *
      generalize (Frm.dec (L s)).used = U at *
      go_wp2_with fail
      refine bodyPost_ret (v := .tuple #[.agg #[.int .u8 0, .int .u64 0, .int .u64 0, .string ⟨#[]⟩, .slice none 0 0, .int .i64 0, .bool false], .int .i64 7]) (by simp [results, Try.results17, go_sem, c0, c1, c2, c3, c4, c5, c6, hge1, Nat.ne_of_lt hge1]) rfl (parse_out0 HP.out _ _ ?_)
      exact ((((((((HO1.out.setCell (by simp) _).setCell (by simp) _).setCell (by simp) _).setCell (by simp) _).setCell (by simp) _).setCell (by simp) _).setCell (by simp) _).alloc _).below
    | cons k t =>
      have HT := Lib.hid ht
      have hne : ((S (k :: t)).size : Int) ≠ 0 := by rw [S_size, List.length_cons]; omega
      have hsz : 1 ≤ (S (k :: t)).size := by rw [S_size]; simp
      have hex := str_extract0 k t
      have hex2 := extract_tail k t
      have hget : ∀ hh : 0 < (S (k :: t)).size, (S (k :: t))[0]'hh = k := fun _ => rfl
      have dUI : (0 : Int) ≤ (Frm.dec (L s)).used ∧ ((Frm.dec (L s)).used : Int) ≤ s.size := by rw [L_size] at d3; omega
      have HD2 := Lib.hid d2
      have HD4 := Lib.hid d4
      have HD5 := Lib.hid d5
      have HDR : Hid (∀ V : ByteArray, L V = (L s).drop (Frm.dec (L s)).used → V.size ≤ 1073741824) := Lib.hid (fun V hV => by
        have := HS.out
        rw [← L_size, hV, List.length_drop, L_size]; omega)
      have HTS : Hid (t.length ≤ 65536) := Lib.hid (by rw [ht] at d4; simp at d4; omega)
      have hTI : (S (k :: t)).size = t.length + 1 := by rw [S_size]; simp
      clear d1 d2 d3 d4 d5 ht h0
      generalize hTT : S (k :: t) = T at hne hsz hex hex2 hget hTI ⊢
      replace hTI := Lib.hid hTI
      have HTT := Lib.hid hTT
      clear hTT
      generalize hN : (Frm.dec (L s)).r.num = N at *
      replace hN := Lib.hid hN
      generalize hU : (Frm.dec (L s)).used = U at *
      replace hU := Lib.hid hU
      go_wp2_with fail
      refine (rnum_any _ _ (by have := HTS.out; rw [S_size]; omega)).mono ?_
      rintro e w2 ⟨rfl, hw2⟩
      subst w2
      rw [L_S]
      unfold rdV
      obtain ⟨g, n, er, hrd⟩ : ∃ g n er, Wr.rd t = (g, n, er) := ⟨_, _, _, rfl⟩
      have HRD := Lib.hid hrd
      rw [hrd]
      simp only
      clear hrd
      by_cases her : er = 0
      · subst her
        obtain ⟨r1, r2, r3, r4, r5⟩ := Wr.rd_ok t (by rw [HRD.out])
        rw [HRD.out] at r3 r5
        simp only at r3 r5
        have hex3 := hex2 n
        obtain ⟨q, hq⟩ : ∃ q, q = 1 + n := ⟨_, rfl⟩
        obtain ⟨T', hT'⟩ : ∃ T', T' = S (t.drop n) := ⟨_, rfl⟩
        rw [← hq, ← hT'] at hex3
        have HT3 := Lib.hid hT'
        have hq1 : (1 : Int) + (n : Int) = (q : Int) := by omega
        have hqw : IntKind.i64.wrap (q : Int) = (q : Int) := IntWalk.i64_in _ (by have := HTS.out; omega)
        have hqI : (0 : Int) ≤ q ∧ (q : Int) ≤ T.size := by have := hTI.out; omega
        have hqN : q ≤ T.size := by have := hTI.out; omega
        have hgI : (0 : Int) ≤ g := by omega
        clear hq hT' r1 r2 r3 r4 hex2
        go_upto_region 10 with (fail)
        go_region
        go_upto_region 10 with (fail)
        have hX10 : SBox ((w1.alloc (.cells #[.int .u64 N, .string T] 63 (0, 0))).alloc (.cells #[.int .u8 k.toNat, .int .u64 g, .int .u64 N, .string T', .slice none 0 0, .int .i64 0, .bool false] 28 (0, 0))).drew (w1.heap.size + 1) k.toNat g N T' none 0 0 0 false := by
          have h := heap_alloc_new (w1.alloc (.cells #[.int .u64 N, .string T] 63 (0, 0))) (.cells #[.int .u8 k.toNat, .int .u64 g, .int .u64 N, .string T', .slice none 0 0, .int .i64 0, .bool false] 28 (0, 0))
          rw [World.size_alloc] at h
          exact h
        have hXr : SBox ((w1.alloc (.cells #[.int .u64 N, .string T] 63 (0, 0))).alloc (.cells #[.int .u8 k.toNat, .int .u64 g, .int .u64 N, .string T', .slice none 0 0, .int .i64 0, .bool false] 28 (0, 0))).drew w.heap.size 0 0 0 ⟨#[]⟩ none 0 0 0 false := HX1.out.keep ((Below.heap_alloc _ _ _ (by simp; omega)).trans (Below.heap_alloc _ _ _ (blk_lt HX1.out)))
        have hO2 := ((HO1.out.alloc (.cells #[.int .u64 N, .string T] 63 (0, 0))).alloc (.cells #[.int .u8 k.toNat, .int .u64 g, .int .u64 N, .string T', .slice none 0 0, .int .i64 0, .bool false] 28 (0, 0))).drew
        clear c0 c1 c2 c3 c4 c5 c6 f0 f1 f2 f3 f4 f5 f6 HX1 HO1 hne hsz hex hex3 hget hq1 hqw hqI hqN
        generalize ((w1.alloc (.cells #[.int .u64 N, .string T] 63 (0, 0))).alloc (.cells #[.int .u8 k.toNat, .int .u64 g, .int .u64 N, .string T', .slice none 0 0, .int .i64 0, .bool false] 28 (0, 0))).drew = w2 at *
        generalize w1.heap.size = h at *
        have HX10 := Lib.hid hX10
        have HXR := Lib.hid hXr
        have HO2 := Lib.hid hO2
        obtain ⟨c0, c1, c2, c3, c4, c5, c6, f0, f1, f2, f3, f4, f5, f6⟩ := HX10.out.facts
        have hD5 := HD5.out
        have HG := Lib.hid (fun wz => rseg_may wz g (by unfold Wr.M64 at r5; exact r5))
        have HN := Lib.hid (fun wz => rseg_may wz N (by unfold Frm.M64 at hD5; exact hD5))
        have hk255 := k.toNat_lt
        clear hX10 hXr hO2 hD5
        go_cut [78] (fun v wx => v = .bool (!Sg.may k.toNat g N (L T')) ∧ wx = w2)
        case first =>
          as_aux_lemma =>
            have HMO := Lib.hid (may_of k.toNat g N (L T'))
            generalize k.toNat = kk at *
            by_cases h1 : kk ≤ 1
            · have h1I : (0 : Int) ≤ kk ∧ (kk : Int) ≤ 1 := by omega
              cases hG : Sg.isNum g with
              | false =>
                rw [hG] at HG HMO
                clear hG h1
                go_wp2_with fail
                refine (HG.out _).mono ?_
                rintro e w3 ⟨rfl, hw3⟩
                subst w3
                go_wp2_with fail
                go_meet
                exact ⟨by rw [HMO.out]; simp, rfl⟩
              | true =>
                rw [hG] at HG HMO
                cases hF : Sg.isNum N with
                | false =>
                  rw [hF] at HN HMO
                  clear hG hF h1
                  go_wp2_with fail
                  refine (HG.out _).mono ?_
                  rintro e w3 ⟨rfl, hw3⟩
                  subst w3
                  go_wp2_with fail
                  refine (HN.out _).mono ?_
                  rintro e w3 ⟨rfl, hw3⟩
                  subst w3
                  go_wp2_with fail
                  go_meet
                  exact ⟨by rw [HMO.out]; simp, rfl⟩
                | true =>
                  rw [hF] at HN HMO
                  clear hG hF h1
                  by_cases hk0 : kk = 0
                  · subst hk0
                    by_cases ht0 : T' = ⟨#[]⟩
                    · subst ht0
                      go_wp2_with fail
                      refine (HG.out _).mono ?_
                      rintro e w3 ⟨rfl, hw3⟩
                      subst w3
                      go_wp2_with fail
                      refine (HN.out _).mono ?_
                      rintro e w3 ⟨rfl, hw3⟩
                      subst w3
                      go_wp2_with fail
                      go_meet
                      exact ⟨by rw [HMO.out]; simp [L_nil], rfl⟩
                    · obtain ⟨_, hE2⟩ := text_there ht0
                      have HNE := Lib.hid ht0
                      clear ht0
                      go_wp2_with fail
                      refine (HG.out _).mono ?_
                      rintro e w3 ⟨rfl, hw3⟩
                      subst w3
                      go_wp2_with fail
                      refine (HN.out _).mono ?_
                      rintro e w3 ⟨rfl, hw3⟩
                      subst w3
                      go_wp2_with fail
                      go_meet
                      have h9 : 0 < T'.size := by omega
                      have h10 : decide (L T' = []) = false := decide_eq_false (fun h => HNE.out (L_nil.1 h))
                      exact ⟨by rw [HMO.out, h10]; simp [h9], rfl⟩
                  · obtain rfl : kk = 1 := by omega
                    clear hk0
                    go_wp2_with fail
                    refine (HG.out _).mono ?_
                    rintro e w3 ⟨rfl, hw3⟩
                    subst w3
                    go_wp2_with fail
                    refine (HN.out _).mono ?_
                    rintro e w3 ⟨rfl, hw3⟩
                    subst w3
                    go_wp2_with fail
                    go_meet
                    exact ⟨by rw [HMO.out]; rfl, rfl⟩
            · have h1I : (1 : Int) < kk := by omega
              have HK1 := Lib.hid h1
              clear h1
              go_wp2_with fail
              go_meet
              exact ⟨by rw [HMO.out]; have := HK1.out; simp [this], rfl⟩
        case rest =>
          obtain ⟨rfl, hw⟩ := hcut
          subst hw
          clear HG HN r5
          cases hm : Sg.may k.toNat g N (L T') with
          | false =>
            have HP : Hid (Sg.parse (L s) = (Sg.seg0, 7)) := Lib.hid (Sg.parse_form HDE.out HT.out (.inr (by rw [HRD.out, hN.out]; rw [HT3.out, L_S] at hm; exact hm)))
            clear hm
            obtain ⟨z0, z1, z2, z3, z4, z5, z6, y0, y1, y2, y3, y4, y5, y6⟩ := HXR.out.facts
            go_wp2_with fail
            refine bodyPost_ret (v := .tuple #[.agg #[.int .u8 0, .int .u64 0, .int .u64 0, .string ⟨#[]⟩, .slice none 0 0, .int .i64 0, .bool false], .int .i64 7]) (by simp [results, Try.results17, go_sem, z0, z1, z2, z3, z4, z5, z6]) rfl (parse_out0 HP.out _ _ ?_)
            exact (((((((HO2.out.setCell (by simp) _).setCell (by simp) _).setCell (by simp) _).setCell (by simp) _).setCell (by simp) _).setCell (by simp) _).setCell (by simp) _).below
          | true =>
            have hV : L (s.extract U s.size) = (L s).drop U := L_from s U
            have hVz := HDR.out _ hV
            have HV := Lib.hid hV
            have hD5 := HD5.out
            have HSC := Lib.hid (fun wz => ref_scan (s.extract U s.size) N wz hVz (by unfold Frm.M64 at hD5; exact hD5))
            obtain ⟨z1, z2⟩ := Sg.scan_sizes _ (L (s.extract U s.size)) N (Nat.le_refl _)
            have HZ1 := Lib.hid z1
            have HZ2 := Lib.hid z2
            have hUN : U ≤ s.size := by omega
            have HVZ := Lib.hid hVz
            have HM := Lib.hid hm
            clear hm hV hVz hD5 z1 z2
            generalize hVV : s.extract U s.size = V at *
            replace hVV := Lib.hid hVV
            generalize hrs : Frm.scan (L V) N = rs at *
            replace hrs := Lib.hid hrs
            generalize hkk : k.toNat = kk at *
            have HKK := Lib.hid hkk
            clear hkk
            go_upto_region 12 with (fail)
            go_cut [11] (fun v wx => ∃ a cap, v = .slice a rs.1.length cap ∧ RowIs wx 2 a (rs.1.map rcells) ∧ SBox wx (h + 1) kk g N T' none 0 0 0 false ∧ SBox wx w.heap.size 0 0 0 ⟨#[]⟩ none 0 0 0 false ∧ Own w.heap.size w wx ∧ ∀ x ∈ blks a, h + 1 < x)
            case first =>
              have hvv := hVV.out
              go_region_held3 (fun w' => w'.cell? ⟨h + 1, 2, none⟩ = some (.int .u64 N)) (first | (with_reducible exact c2) | (with_reducible exact c2') | exact c2)
                (first
                | (go_at_call 37
                   (with_reducible refine (HSC.out _).mono ?_)
                   intro e w5 hsc
                   unfold ScanOut at hsc
                   rw [hrs.out] at hsc
                   obtain ⟨a, cap, rfl, hS5, hb5, hf5⟩ := hsc
                   have hX5 := HX10.out.keep (w' := w5) (hb5.block _ (blk_lt HX10.out))
                   have c2' := hX5.facts.2.2.1
                   have HX5 := Lib.hid hX5
                   have HXR5 := Lib.hid (HXR.out.keep (w' := w5) (hb5.block _ (blk_lt HXR.out)))
                   have HO5 := Lib.hid (HO2.out.drew.trans hb5)
                   have HS5 := Lib.hid (rrow_rows hS5)
                   have HF5 := Lib.hid hf5
                   clear hX5 hb5 hS5 hf5))
              all_goals
                go_wp2_with fail
                go_meet
                have hlx := blk_lt HX10.out
                exact ⟨a, cap, rfl, HS5.out, HX5.out, HXR5.out, HO5.out, fun x hx => by have := HF5.out x hx; simp at this; omega⟩
            case rest =>
              obtain ⟨a, cap, rfl, hrow, hX, hXr, hO, hfr⟩ := hcut
              obtain ⟨rl, ru, re⟩ := rs
              simp only at hrow HZ1 HZ2
              have HFIN : Hid (∀ k1, k1 ≤ rl.length → (∀ i (h : i < k1) (h2 : i < rl.length), rl[i].num ≤ Sg.Top) → (k1 = rl.length ∨ ∃ h : k1 < rl.length, Sg.Top < rl[k1].num) →
                  Sg.parse (L s) = (⟨kk, g, N, L T', Sg.upTo rl k1, U + Frm.lens (Sg.upTo rl k1), decide (U + Frm.lens (Sg.upTo rl k1) = s.size)⟩, 0)) := Lib.hid (by
                intro k1 h1 h2 h3
                have hm := HM.out
                rw [HT3.out, L_S, ← HKK.out] at hm
                rw [Sg.parse_ok HDE.out HT.out (by rw [HRD.out]) (by rw [HRD.out, hN.out]; exact hm), HRD.out, hN.out, hU.out, ← HV.out, hrs.out, Sg.kept_upTo rl k1 h1 (fun i hi => h2 i hi (by omega)) h3, HT3.out, L_S, L_size, HKK.out])
              have hlg := lens_ge (rl.map (·.text))
              rw [List.length_map] at hlg
              have hz2 := HZ2.out
              rw [L_size] at hz2
              have hlI : (0 : Int) ≤ rl.length ∧ (rl.length : Int) ≤ 67108864 := by have := HVZ.out; omega
              have HLN := Lib.hid (show rl.length ≤ 67108864 by omega)
              have HLU : Hid (∀ k1, U + Frm.lens (Sg.upTo rl k1) ≤ 2147483648) := Lib.hid (fun k1 => by have := Sg.lens_upTo_le rl k1; have := HVZ.out; have := HS.out; omega)
              have HROW := Lib.hid hrow
              have HX5 := Lib.hid hX
              have HXR5 := Lib.hid hXr
              have HO5 := Lib.hid hO
              have HFR := Lib.hid hfr
              have HWC := Lib.hid (blk_lt hX)
              have h00 : U = U + Frm.lens (Sg.upTo rl 0) := by rw [Sg.upTo_zero]; rfl
              clear hrow hX hXr hO hfr hlg hz2 HX10 HXR HO2 c0 c1 c2 c3 c4 c5 c6 f0 f1 f2 f3 f4 f5 f6 HSC hgI hUN
              go_wp2_with fail
              go_loopw [5, 14] (fun vu vi wr => ∃ (k1 : Nat) (a1 : Option Addr) (cap1 : Nat), k1 ≤ rl.length ∧ vu = .int .i64 ((U + Frm.lens (Sg.upTo rl k1) : Nat) : Int) ∧ vi = .int .i64 k1 ∧ (∀ i (h : i < k1) (h2 : i < rl.length), rl[i].num ≤ Sg.Top) ∧ SBox wr (h + 1) kk g N T' a1 k1 cap1 0 false ∧ SBox wr w.heap.size 0 0 0 ⟨#[]⟩ none 0 0 0 false ∧ SliceIs wr 9 1 a1 k1 cap1 ((Sg.upTo rl k1).map fun t => .string (S t)) ∧ (∀ x ∈ blks a1, wc.heap.size ≤ x) ∧ Own w.heap.size w wr ∧ Upd wc wr [h + 1]) (fun _ vi _ => rl.length - (intOf vi).toNat)
              case atStart => exact ⟨0, none, 0, Nat.zero_le _, by rw [← h00], rfl, (fun i h => by omega), HX5.out, HXR5.out, SliceIs.nil _ _ _, by simp [blks], HO5.out, Upd.refl _ _⟩
              case round =>
                clear HX5 HXR5 HO5 h00
                obtain ⟨k1, a1, cap1, hk1, rfl, rfl, hall, hX, hXr, hS, hf1, hO, hU1⟩ := hrel
                have HALL := Lib.hid hall
                have HX := Lib.hid hX
                have HXR := Lib.hid hXr
                have HSL := Lib.hid hS
                have HF1 := Lib.hid hf1
                have HO := Lib.hid hO
                have HU1 := Lib.hid hU1
                have hbw := blk_lt hX
                have hlu := HLU.out k1
                have hqI : (0 : Int) ≤ ((U + Frm.lens (Sg.upTo rl k1) : Nat) : Int) ∧ ((U + Frm.lens (Sg.upTo rl k1) : Nat) : Int) ≤ 2147483648 := by omega
                clear hall hX hXr hS hf1 hO hU1 hlu
                obtain ⟨c0, c1, c2, c3, c4, c5, c6, f0, f1, f2, f3, f4, f5, f6⟩ := HX.out.facts
                have hfin : (k1 = rl.length ∨ ∃ h : k1 < rl.length, Sg.Top < rl[k1].num) → True := fun _ => trivial
                by_cases hlt : k1 < rl.length
                · obtain ⟨ga, off, ha, r0, r1, rlt⟩ := (HROW.out.upd HU1.out HFR.out).recAt k1 hlt
                  obtain ⟨z1, z3⟩ := HZ1.out rl[k1] (List.getElem_mem hlt)
                  have hkI : (0 : Int) ≤ k1 ∧ (k1 : Int) < rl.length := by omega
                  subst ha
                  by_cases hbig : Sg.Top < rl[k1].num
                  · have HP := Lib.hid (HFIN.out k1 hk1 HALL.out (.inr ⟨hlt, hbig⟩))
                    have hbI : (281474976710656 : Int) < (rl[k1].num : Nat) := by unfold Sg.Top at hbig; omega
                    clear z1 z3 hbig
                    generalize rl[k1].num = yn at *
                    generalize S rl[k1].text = yt at *
                    generalize hQ : U + Frm.lens (Sg.upTo rl k1) = Q at *
                    have hEq : ((Q : Int) == (s.size : Int)) = decide (Q = s.size) := by rw [Bool.eq_iff_iff, beq_iff_eq, decide_eq_true_iff]; omega
                    obtain ⟨z0, z1, z2, z3, z4, z5, z6, y0, y1, y2, y3, y4, y5, y6⟩ := HXR.out.facts
                    have hneB : w.heap.size ≠ h + 1 := by omega
                    clear hQ
                    go_wp2_with fail
                    refine bodyPost_ret (v := .tuple #[.agg #[.int .u8 kk, .int .u64 g, .int .u64 N, .string T', .slice a1 k1 cap1, .int .i64 Q, .bool (decide (Q = s.size))], .int .i64 0]) (by simp [results, Try.results17, go_sem, z0, z1, z2, z3, z4, z5, z6, hneB, hneB.symm]) rfl (parse_fin2 HP.out (by omega) HSL.out (fun x hx => ⟨Nat.lt_of_lt_of_le HWC.out (HF1.out x hx), by have := HF1.out x hx; have := HWC.out; omega⟩) (by omega) (Nat.le_refl _) HO.out ?_)
                    exact (((((((((Upd.refl wr [h + 1, w.heap.size]).setCell (by simp) _).setCell (by simp) _).setCell (by simp) _).setCell (by simp) _).setCell (by simp) _).setCell (by simp) _).setCell (by simp) _).setCell (by simp) _).setCell (by simp) _
                  · have hbI : ((rl[k1].num : Nat) : Int) ≤ 281474976710656 := by unfold Sg.Top at hbig; omega
                    have HALL1 : Hid (∀ i (h : i < k1 + 1) (h2 : i < rl.length), rl[i].num ≤ Sg.Top) := Lib.hid (fun i h h2 => by
                      rcases Nat.lt_or_ge i k1 with h3 | h3
                      · exact HALL.out i h3 h2
                      · obtain rfl : i = k1 := by omega
                        omega)
                    have HRA := Lib.hid (fun (wz : World) (hu : Upd wc wz [h + 1]) => (HROW.out.upd hu HFR.out).recAt k1 hlt)
                    have HUP := Lib.hid (Sg.upTo_succ rl k1 hlt)
                    have HLP := Lib.hid (Sg.lens_upTo_succ rl k1 hlt)
                    have hys : (S rl[k1].text).size ≤ 65536 := by rw [S_size]; exact z1
                    have hln := HLN.out
                    have hsz : (S rl[k1].text).size = rl[k1].text.length := S_size _
                    generalize rl[k1].num = yn at *
                    generalize hyt : S rl[k1].text = yt at *
                    have HYT := Lib.hid hyt
                    have HYS := Lib.hid hsz
                    have hyI : (0 : Int) ≤ yt.size ∧ (yt.size : Int) ≤ 65536 := by omega
                    obtain ⟨b', cp', w3, hr, hS3, hU3, hbk3⟩ := run_append_slice (P := Try.prog) (wr.alloc (.cells #[.string yt] 9)).drew 26 26 9 i0 (.string ⟨#[]⟩) 1 16 Try.underlying26 hi hz0 hz1 hz2 rfl (by decide) a1 k1 cap1 _ (HSL.out.alloc _).drew ⟨wr.heap.size, 0, none⟩ 1 1 [.string yt] rfl (by
                        intro j u hj
                        match j, hj with
                        | 0, hj => simp at hj; subst hj; exact (show (wr.alloc (.cells #[.string yt] 9)).cell? _ = _ by simp [Addr.add]))
                      (by intro u hu; simp at hu; subst hu; rfl) (by unfold maxLen; omega) (by omega)
                    change (appSem _ _ _).run _ _ = _ at hr
                    have hXa : SBox (wr.alloc (.cells #[.string yt] 9)).drew (h + 1) kk g N T' a1 k1 cap1 0 false := HX.out.keep (Below.heap_alloc _ _ _ hbw)
                    have hX3 := hXa.keep (hU3.keep _ (blk_lt hXa) (fun hx => by have := HF1.out _ hx; have := HWC.out; omega))
                    have hRa : SBox (wr.alloc (.cells #[.string yt] 9)).drew w.heap.size 0 0 0 ⟨#[]⟩ none 0 0 0 false := HXR.out.keep (Below.heap_alloc _ _ _ (blk_lt HXR.out))
                    have hR3 := hRa.keep (hU3.keep _ (blk_lt hRa) (fun hx => by have := HF1.out _ hx; have := HWC.out; omega))
                    obtain ⟨x0, x1, x2, x3, x4, x5, x6, y0, y1, y2, y3, y4, y5, y6⟩ := hX3.facts
                    have HX3 := Lib.hid hX3
                    have HXR3 := Lib.hid hR3
                    have HS3 := Lib.hid hS3
                    have HU3 := Lib.hid hU3
                    have HB3 := Lib.hid hbk3
                    clear hyt hsz z1 z3 hbig hys hln hXa hX3 hRa hR3 hS3 hU3 hbk3
                    go_upto_region 16 with (fail)
                    go_region
                    all_goals
                      have hX4 := HX3.out.recs b' (k1 + 1) cp'
                      have hR4 : SBox (w3.setCell ⟨h + 1, 4, none⟩ (.slice b' (k1 + 1) cp')) w.heap.size 0 0 0 ⟨#[]⟩ none 0 0 0 false := HXR3.out.keep (Below.heap_setCell _ _ _ _ (by simp only; omega))
                      have hS4 := HS3.out.keep (w' := w3.setCell ⟨h + 1, 4, none⟩ (.slice b' (k1 + 1) cp')) fun x hx => Below.heap_setCell _ _ _ _ (by
                        rcases HB3.out x hx with h | h
                        · have := HF1.out _ h; have := HWC.out; simp only; omega
                        · simp at h; simp only; omega)
                      have hu4 := (((HU1.out.alloc (.cells #[.string yt] 9)).drew.trans HU3.out (fun x hx => .inr (HF1.out x hx)))).setCell (p := ⟨h + 1, 4, none⟩) (by simp) (.slice b' (k1 + 1) cp')
                      have ho4 := (((HO.out.alloc (.cells #[.string yt] 9)).drew.upd HU3.out (fun x hx => by have := HF1.out x hx; have := HWC.out; omega))).setCell (p := ⟨h + 1, 4, none⟩) (by simp only; omega) (.slice b' (k1 + 1) cp')
                      have hf4 : ∀ x ∈ blks b', wc.heap.size ≤ x := fun x hx => by
                        rcases HB3.out x hx with h | h
                        · exact HF1.out _ h
                        · have := HU1.out.size; simp at h; omega
                      obtain ⟨ga', off', ha', r0', r1', rlt'⟩ := HRA.out _ hu4
                      injection ha' with ha'
                      injection ha' with hga hoff hnn
                      subst hga hoff
                      clear x0 x1 x2 x3 x4 x5 x6 y0 y1 y2 y3 y4 y5 y6 hr HX3 HXR3 HS3 HU3 HB3 hnn r0 r1 rlt
                      generalize w3.setCell ⟨h + 1, 4, none⟩ (.slice b' (k1 + 1) cp') = w4 at *
                      have HX4 := Lib.hid hX4
                      have HR4 := Lib.hid hR4
                      have HS4 := Lib.hid hS4
                      have HU4 := Lib.hid hu4
                      have HO4 := Lib.hid ho4
                      have HF4 := Lib.hid hf4
                      have hle := HLU.out (k1 + 1)
                      have hq1 : IntKind.i64.wrap (((U + Frm.lens (Sg.upTo rl k1) : Nat) : Int) + 16) = ((U + Frm.lens (Sg.upTo rl k1) : Nat) : Int) + 16 := IntWalk.i64_in _ (by omega)
                      have hadd : ((U + Frm.lens (Sg.upTo rl k1) : Nat) : Int) + 16 + (yt.size : Int) = ((U + Frm.lens (Sg.upTo rl (k1 + 1)) : Nat) : Int) := by have := HLP.out; have := HYS.out; omega
                      have hwr : IntKind.i64.wrap (((U + Frm.lens (Sg.upTo rl k1) : Nat) : Int) + 16 + (yt.size : Int)) = ((U + Frm.lens (Sg.upTo rl (k1 + 1)) : Nat) : Int) := by rw [hadd]; exact IntWalk.i64_in _ (by omega)
                      clear hX4 hR4 hS4 hu4 ho4 hf4 hle hadd
                      generalize U + Frm.lens (Sg.upTo rl k1) = Q1 at *
                      generalize hQ2 : U + Frm.lens (Sg.upTo rl (k1 + 1)) = Q2 at *
                      have HQ2 := Lib.hid hQ2
                      clear hQ2
                      go_wp2_with fail
                      go_roundw
                      case rel =>
                        refine ⟨k1 + 1, b', cp', by omega, by rw [HQ2.out], by go_num, HALL1.out, HX4.out, HR4.out, ?_, HF4.out, HO4.out, HU4.out⟩
                        rw [HUP.out, List.map_append]
                        have h := HS4.out
                        rw [← HYT.out] at h
                        exact h
                      case measure => simp [intOf]; omega
                · obtain rfl : k1 = rl.length := by omega
                  have HP := Lib.hid (HFIN.out rl.length (Nat.le_refl _) HALL.out (.inl rfl))
                  generalize hQ : U + Frm.lens (Sg.upTo rl rl.length) = Q at *
                  have hEq : ((Q : Int) == (s.size : Int)) = decide (Q = s.size) := by rw [Bool.eq_iff_iff, beq_iff_eq, decide_eq_true_iff]; omega
                  obtain ⟨z0, z1, z2, z3, z4, z5, z6, y0, y1, y2, y3, y4, y5, y6⟩ := HXR.out.facts
                  have hneB : w.heap.size ≠ h + 1 := by omega
                  clear hQ
                  go_wp2_with fail
                  refine bodyPost_ret (v := .tuple #[.agg #[.int .u8 kk, .int .u64 g, .int .u64 N, .string T', .slice a1 rl.length cap1, .int .i64 Q, .bool (decide (Q = s.size))], .int .i64 0]) (by simp [results, Try.results17, go_sem, z0, z1, z2, z3, z4, z5, z6, hneB, hneB.symm]) rfl (parse_fin2 HP.out (by omega) HSL.out (fun x hx => ⟨Nat.lt_of_lt_of_le HWC.out (HF1.out x hx), by have := HF1.out x hx; have := HWC.out; omega⟩) (by omega) (Nat.le_refl _) HO.out ?_)
                  exact (((((((((Upd.refl wr [h + 1, w.heap.size]).setCell (by simp) _).setCell (by simp) _).setCell (by simp) _).setCell (by simp) _).setCell (by simp) _).setCell (by simp) _).setCell (by simp) _).setCell (by simp) _).setCell (by simp) _
      · have HP := Lib.hid (Sg.parse_form HDE.out HT.out (.inl (by rw [HRD.out]; exact her)))
        have hE : ((er : Int) == 0) = false := by rw [beq_eq_false_iff_ne]; omega
        clear her hex2
        go_wp2_with fail
        refine bodyPost_ret (v := .tuple #[.agg #[.int .u8 0, .int .u64 0, .int .u64 0, .string ⟨#[]⟩, .slice none 0 0, .int .i64 0, .bool false], .int .i64 7]) (by simp [results, Try.results17, go_sem, c0, c1, c2, c3, c4, c5, c6, hge1, Nat.ne_of_lt hge1]) rfl (parse_out0 HP.out _ _ ?_)
        exact ((((((((HO1.out.setCell (by simp) _).setCell (by simp) _).setCell (by simp) _).setCell (by simp) _).setCell (by simp) _).setCell (by simp) _).setCell (by simp) _).alloc _).below
  · have HP := Lib.hid (Sg.parse_err rfl h0)
    generalize (Frm.dec (L s)).err = E at *
    have hE : ((E : Int) == 0) = false := by rw [beq_eq_false_iff_ne]; omega
    generalize (Frm.dec (L s)).r.num = N at *
    generalize (Frm.dec (L s)).used = U at *
    generalize S (Frm.dec (L s)).r.text = T at *
    clear h0
    go_wp2_with fail
    refine bodyPost_ret (v := .tuple #[.agg #[.int .u8 0, .int .u64 0, .int .u64 0, .string ⟨#[]⟩, .slice none 0 0, .int .i64 0, .bool false], .int .i64 E]) (by simp [results, Try.results17, go_sem, c0, c1, c2, c3, c4, c5, c6, hge1, Nat.ne_of_lt hge1]) rfl (parse_out0 HP.out _ _ ?_)
    exact ((((((((HO1.out.setCell (by simp) _).setCell (by simp) _).setCell (by simp) _).setCell (by simp) _).setCell (by simp) _).setCell (by simp) _).setCell (by simp) _).alloc _).below

end Go.Proofs.Ytdohhbilchdigaa
