/-
  Joined out of the texts MsgGet7.
-/
import Derived.Test.YtjgnomjjphkfbaaGreatRGetA
namespace Go.Proofs.YtjgnomjjphkfbaaGreat
open Go.RowKit
attribute [local go_sem ↓ high] appSem_eq
attribute [local go_sem ↓ high] stTold_eq
attribute [local go_sem ↓ high] ldTold_eq

/-- What was told: its lists. -/
structure ToldO (w W : World) (s : MS) (a : Mg.Told) : Prop where
  got : OL w W 64 4 s.got.1 s.got.2 (a.got.map Mg.Got.cells)
  numbers : OL w W 22 1 s.numbers.1 s.numbers.2 (a.numbers.map (fun a : Nat => [Value.int .u64 a]))
  names : OL w W 9 1 s.names.1 s.names.2 (a.names.map (fun a : ByteArray => [Value.string a]))

set_option maxRecDepth 20000 in
set_option maxHeartbeats 4000000 in
theorem g_told (gb rb : Nat) (st : Option (List UInt8)) (w : World) (h : GtAt gb rb st w) :
    Calls Tryz.prog 50 #[.pointer (some ⟨gb, 0, none⟩)] w fun e w' => ∃ (x : Mg.Msg) (s : MS) (st' : Option (List UInt8)), e = .returned (.agg (toldV s x)) ∧ Step Mg.cTold.dec st x.told st' ∧ GtAt gb rb st' w' ∧ ToldO w w' s x.told ∧ Upd w w' [rb] := by
  obtain ⟨inf1, hin1, hz01, hz11, hz21⟩ := info_parts inf_got
  have HIN1 := Lib.hid (And.intro hin1 (And.intro hz01 (And.intro hz11 hz21)))
  clear hin1 hz01 hz11 hz21
  obtain ⟨inf2, hin2, hz02, hz12, hz22⟩ := info_parts inf_number
  have HIN2 := Lib.hid (And.intro hin2 (And.intro hz02 (And.intro hz12 hz22)))
  clear hin2 hz02 hz12 hz22
  obtain ⟨inf3, hin3, hz03, hz13, hz23⟩ := info_parts inf_name
  have HIN3 := Lib.hid (And.intro hin3 (And.intro hz03 (And.intro hz13 hz23)))
  clear hin3 hz03 hz13 hz23
  have HLT := Lib.hid h.lts
  obtain ⟨w0, hw0⟩ : ∃ y, y = w.alloc (.cells #[.int .u32 0, .slice none 0 0, .slice none 0 0, .slice none 0 0] 41 (0, 0)) := ⟨_, rfl⟩
  have HW0 := Lib.hid hw0
  have hg0 : GtAt gb rb st w0 := by rw [hw0]; exact h.keep ((Own.refl w).alloc _).below
  have hp0 : Lat w0 [rb] (Rst w rb #[.int .u32 0, .slice none 0 0, .slice none 0 0, .slice none 0 0] 41) := by rw [hw0]; exact Rst.start w rb _ _ h.lts.2
  have HG0 := Lib.hid hg0
  have HP0 := Lib.hid hp0
  clear hw0 hg0 hp0 h
  have ch := HG0.out.cell
  go_enter Tryz.func50, Tryz.ntmps50
  go_upto_region 1 with (fail)
  rw [← HW0.out]
  clear HW0
  clear ch
  have ch1 := (HG0.out).cell
  have HC1 := Lib.hid ((HG0.out).uint 4294967295 (by decide))
  go_wp2_with fail
  refine HC1.out.mono ?_
  rintro e w1 ⟨x1, s1, rfl, hx1, hs1, hg1, hu1⟩
  have HX1 := Lib.hid hx1
  have HS1 := Lib.hid hs1
  have hxI1 : (0 : Int) ≤ x1 ∧ (x1 : Int) ≤ 4294967295 := by omega
  clear HC1 ch1 hx1 hs1
  obtain ⟨v1, rv1, hb1, huv1, hsv1⟩ := GB.make hg1 (HP0.out.next hu1) #[.int .u32 0, .slice none 0 0, .slice none 0 0, .slice none 0 0] #[.int .u32 x1, .slice none 0 0, .slice none 0 0, .slice none 0 0] 41 (n := 4) rfl rfl (by kernel_rfl) (by exact List.all_eq_true.1 rfl)
  change (stTold _ _).run _ _ = _ at rv1
  have HB1 := Lib.hid hb1
  have HUV1 := Lib.hid huv1
  have HSV1 := Lib.hid hsv1
  clear hb1 huv1 hsv1 hg1 hu1
  go_upto_region 2 with (fail)
  clear rv1
  have HFX : Hid (∀ b ∈ [rb, w1.heap.size], b < v1.heap.size) := Lib.hid (fun b hb => by
    have h1 := HB1.out.g.lts
    have h2 := HB1.out.lt
    rcases List.mem_cons.1 hb with e | e
    · omega
    · have := List.mem_singleton.1 e; omega)
  have HVS : Hid (GB gb rb w1.heap.size s1 #[.int .u32 x1, .slice none 0 0, .slice none 0 0, .slice none 0 0] 41 (fun W => Rst w rb #[.int .u32 0, .slice none 0 0, .slice none 0 0, .slice none 0 0] 41 W ∧ v1.heap.size ≤ W.heap.size) v1) := Lib.hid (HB1.out.more (fun W2 h2 => h2.size))
  have HWL : Hid (w.heap.size < v1.heap.size) := Lib.hid (blk_lt HB1.out.p.now.1)
  have HWV : Hid (w.heap.size ≤ v1.heap.size) := Lib.hid (Nat.le_of_lt HWL.out)
  clear HB1 HG0 HP0
  have ch2 := (HVS.out.g).cell
  have HC2 := Lib.hid ((HVS.out.g).count)
  go_wp2_with fail
  refine HC2.out.mono ?_
  rintro e w2 ⟨n2, s2, rfl, hn2, hz2, hs2, hg2, hu2⟩
  have HN2 := Lib.hid hn2
  have HZ2 := Lib.hid hz2
  have HS2 := Lib.hid hs2
  have hnI2 : (0 : Int) ≤ n2 ∧ (n2 : Int) ≤ 512 := by omega
  clear HC2 ch2 hn2 hz2 hs2
  have HB2 := Lib.hid (HVS.out.read hg2 hu2)
  clear hg2 hu2
  go_wp2_with fail
  have HLWA : Hid (gb < w2.heap.size ∧ rb < w2.heap.size ∧ w1.heap.size < w2.heap.size) := Lib.hid ⟨HB2.out.g.lts.1, HB2.out.g.lts.2, HB2.out.lt⟩
  go_loopw [5] (fun vk wr => ∃ (i : Nat) (m : List Mg.Got) (a : Option Addr) (c : Nat) (sti : Option (List UInt8)), i ≤ n2 ∧ vk = .int .i64 i ∧ m.length = i ∧ Rou Mg.cGot s1 s2 n2 i m sti ∧ GB gb rb w1.heap.size sti #[.int .u32 x1, .slice a i c, .slice none 0 0, .slice none 0 0] 41 (fun W => Upd w2 W [rb, w1.heap.size]) wr ∧ OL w2 wr 64 4 a c (m.map Mg.Got.cells)) (fun vk _ => n2 - (intOf vk).toNat)
  case atStart => exact ⟨0, [], none, 0, s2, Nat.zero_le _, rfl, rfl, Rou.start HZ2.out, ⟨HB2.out.g, HB2.out.y, HB2.out.ny, Lat.upd _ _⟩, OL.nil _ _ _ _⟩
  case round =>
    obtain ⟨iA, mA, aA, cA, stiA, hi, rfl, hl, hro, hgb, hol⟩ := hrel
    have HLA := Lib.hid hl
    have HROA := Lib.hid hro
    have HGBA := Lib.hid hgb
    have HOLA := Lib.hid hol
    clear hl hro hgb hol
    have ch := (HGBA.out.g).cell
    obtain ⟨ec, hec, hez⟩ := (HGBA.out.g).rd.err
    obtain ⟨bA, hb⟩ : ∃ b, b = (decide (iA < n2) && stiA.isSome) := ⟨_, rfl⟩
    have HBQA := Lib.hid hb
    have HIA := Lib.hid hi
    clear hb
    go_upto_region 4 with (fail)
    go_cut [33] (fun v wx => v = .bool bA ∧ wx = wr)
    case first =>
      by_cases hlt : iA < n2
      · have hltI : (iA : Int) < n2 := by omega
        have hez2 : ((ec : Int) == 0) = bA := by rw [hez, HBQA.out, decide_eq_true hlt]; rfl
        clear hez hlt
        go_wp2_with fail
        go_meet
        exact ⟨rfl, rfl⟩
      · have hltI : ¬ (iA : Int) < n2 := by omega
        have hbf : bA = false := by rw [HBQA.out, decide_eq_false hlt]; rfl
        subst hbf
        clear hez hlt
        go_wp2_with fail
        go_meet
        exact ⟨rfl, rfl⟩
    case rest =>
    obtain ⟨rfl, hwc⟩ := hcut
    subst hwc
    clear hec hez ch
    cases bA with
    | true =>
      have hgo : iA < n2 ∧ stiA.isSome = true := by have := HBQA.out; simpa using this.symm
      have HGOA := Lib.hid hgo
      have hiIA : (0 : Int) ≤ iA ∧ (iA : Int) < n2 := by omega
      clear hgo
      have ch := HGBA.out.g.cell
      have HC3 := Lib.hid (g_version gb rb _ wc HGBA.out.g)
      go_wp2_with fail
      refine HC3.out.mono ?_
      rintro e w3 ⟨v3, s3, rfl, hs3, hg3, hu3⟩
      have HS3 := Lib.hid hs3
      clear HC3 ch hs3
      have hp2 := Lat.upd wc [rb]
      obtain ⟨y3, hy3⟩ : ∃ y, y = w3.alloc (.cells #[.int .u64 v3.n, .int .u8 v3.st, .string v3.t, .int .i64 0] 64 (0, 0)) := ⟨_, rfl⟩
      have HB3 : Hid (GB gb rb w3.heap.size s3 #[.int .u64 v3.n, .int .u8 v3.st, .string v3.t, .int .i64 0] 64 (fun W => Upd wc W [rb]) y3) := Lib.hid (by rw [hy3]; exact GB.fresh hg3 (hp2.next hu3) _ _)
      go_upto_region 7 with (fail)
      rw [← hy3]
      clear hy3 hg3 hu3 hp2
      have ch4 := (HB3.out.g).cell
      have HC4 := Lib.hid ((HB3.out.g).uint 9999 (by decide))
      go_wp2_with fail
      refine HC4.out.mono ?_
      rintro e w4 ⟨x4, s4, rfl, hx4, hs4, hg4, hu4⟩
      have HX4 := Lib.hid hx4
      have HS4 := Lib.hid hs4
      have hxI4 : (0 : Int) ≤ x4 ∧ (x4 : Int) ≤ 9999 := by omega
      clear HC4 ch4 hx4 hs4
      have hb4 := HB3.out.read hg4 hu4
      have q4 := hb4.cell 3 _ rfl
      have f4 := hb4.thaw 3
      have l4 := hb4.lt
      have HB4 := Lib.hid (hb4.put (cs' := #[.int .u64 v3.n, .int .u8 v3.st, .string v3.t, .int .i64 x4]) 3 (.int .i64 x4) rfl)
      clear hb4 hg4 hu4
      go_upto_region 8 with (fail)
      generalize w4.setCell ⟨w3.heap.size, 3, none⟩ (.int .i64 x4) = v4 at *
      clear q4 f4 l4
      have hup4 := HB4.out.p.now
      have HXA := Lib.hid (HGBA.out.read HB4.out.g hup4)
      have holA := HOLA.out.updB hup4 (fun b hb => by rw [List.mem_singleton.1 hb]; exact HLWA.out.2.1)
      have hszA : w2.heap.size ≤ v4.heap.size := HXA.out.p.now.size
      obtain ⟨sz4, cap4, wz4, hrun, hol4, hk4⟩ := ol_push2 (P := Tryz.prog) (T := 37) Tryz.underlying37 HIN1.out.1 HIN1.out.2.1 HIN1.out.2.2.1 HIN1.out.2.2.2 rfl (by decide) (by decide) (w := w2) (W := v4) hszA holA [.int .u64 v3.n, .int .u8 v3.st, .string v3.t, .int .i64 x4] rfl (fun u hu => List.all_eq_true.1 (show ([.int .u64 v3.n, .int .u8 v3.st, .string v3.t, .int .i64 x4] : List Value).all (fun v => v.oneCell') = true from rfl) u hu) (by have := HLA.out; have := HN2.out; have := HGOA.out.1; simp; omega)
      rw [List.length_map, HLA.out] at hrun
      have hrun2 : (appSem #[37, 37] 37 #[.slice aA iA cA, .slice (some ⟨v4.heap.size, 0, none⟩) 1 1]).run Tryz.prog (v4.alloc (.cells #[.int .u64 v3.n, .int .u8 v3.st, .string v3.t, .int .i64 x4] 64 (0, 0))) = .ok (.slice sz4 (iA + 1) cap4) wz4 := hrun
      have q0 := HB4.out.cell 0 _ rfl
      have q1 := HB4.out.cell 1 _ rfl
      have q2 := HB4.out.cell 2 _ rfl
      have q3 := HB4.out.cell 3 _ rfl
      clear hup4
      have p3 := HXA.out.cell 1 _ rfl
      have HYA := Lib.hid (HXA.out.app hk4.upd (fun b hb => HOLA.out.far b hb) HLWA.out)
      have p4 := HYA.out.cell 1 _ rfl
      have f4 := HYA.out.thaw 1
      have l4 := HYA.out.lt
      have HZA := Lib.hid (HYA.out.put (cs' := #[.int .u32 x1, .slice sz4 (iA + 1) cap4, .slice none 0 0, .slice none 0 0]) 1 (.slice sz4 (iA + 1) cap4) rfl)
      have HOXA : Hid (OL w2 (wz4.setCell ⟨w1.heap.size, 1, none⟩ (.slice sz4 (iA + 1) cap4)) 64 4 sz4 cap4 ((mA ++ [(⟨v3, (x4 : Int)⟩ : Mg.Got)]).map Mg.Got.cells)) := Lib.hid (by
        rw [List.map_append]
        exact hol4.updB ((Upd.refl wz4 [w1.heap.size]).setCell (.inl (by simp)) _) (fun b hb => by rw [List.mem_singleton.1 hb]; exact HLWA.out.2.2))
      clear holA hol4 hk4 hrun HYA
      go_wp2_with fail
      go_roundw
      case rel => exact ⟨iA + 1, mA ++ [(⟨v3, (x4 : Int)⟩ : Mg.Got)], sz4, cap4, _, HGOA.out.1, by go_num, by simp; exact HLA.out, HROA.out.go HS2.out HGOA.out.1 HGOA.out.2 ((show Step Mg.cGot.dec stiA (⟨v3, (x4 : Int)⟩ : Mg.Got) s4 from Step.isoD (Step.seqD HS3.out (Step.intD HS4.out)))), HZA.out, HOXA.out⟩
      case measure => simp [intOf]; omega
    | false =>
      have HFIA := Lib.hid (HROA.out.fin HS2.out HIA.out (fun h => by have h2 := HBQA.out; rw [decide_eq_true h.1, h.2] at h2; cases h2))
      obtain ⟨zA, hz⟩ : ∃ y, y = wc := ⟨_, rfl⟩
      subst hz
      have hlx := HLA.out
      subst hlx
      have HEA : Hid (GB gb rb w1.heap.size stiA #[.int .u32 x1, .slice aA mA.length cA, .slice none 0 0, .slice none 0 0] 41 _ zA) := Lib.hid (GB.more ⟨HGBA.out.g, HGBA.out.y, HGBA.out.ny, HB2.out.p.next HGBA.out.p.now⟩ (Lat.ol (HOLA.out.base (w0 := v1) (HB2.out.p.now.2)) HFX.out))
      clear HGBA HOLA HROA HBQA HIA HB2
      have ch6 := (HEA.out.g).cell
      have HC6 := Lib.hid ((HEA.out.g).count)
      go_wp2_with fail
      refine HC6.out.mono ?_
      rintro e w6 ⟨n6, s6, rfl, hn6, hz6, hs6, hg6, hu6⟩
      have HN6 := Lib.hid hn6
      have HZ6 := Lib.hid hz6
      have HS6 := Lib.hid hs6
      have hnI6 : (0 : Int) ≤ n6 ∧ (n6 : Int) ≤ 512 := by omega
      clear HC6 ch6 hn6 hz6 hs6
      have HB6 := Lib.hid (HEA.out.read hg6 hu6)
      clear hg6 hu6
      go_wp2_with fail
      have HLWB : Hid (gb < w6.heap.size ∧ rb < w6.heap.size ∧ w1.heap.size < w6.heap.size) := Lib.hid ⟨HB6.out.g.lts.1, HB6.out.g.lts.2, HB6.out.lt⟩
      go_loopw [7] (fun vk wr => ∃ (i : Nat) (m : List Nat) (a : Option Addr) (c : Nat) (sti : Option (List UInt8)), i ≤ n6 ∧ vk = .int .i64 i ∧ m.length = i ∧ Rou (Mg.num Mg.All) stiA s6 n6 i m sti ∧ GB gb rb w1.heap.size sti #[.int .u32 x1, .slice aA mA.length cA, .slice a i c, .slice none 0 0] 41 (fun W => Upd w6 W [rb, w1.heap.size]) wr ∧ OL w6 wr 22 1 a c (m.map (fun a : Nat => [Value.int .u64 a]))) (fun vk _ => n6 - (intOf vk).toNat)
      case atStart => exact ⟨0, [], none, 0, s6, Nat.zero_le _, rfl, rfl, Rou.start HZ6.out, ⟨HB6.out.g, HB6.out.y, HB6.out.ny, Lat.upd _ _⟩, OL.nil _ _ _ _⟩
      case round =>
        obtain ⟨iB, mB, aB, cB, stiB, hi, rfl, hl, hro, hgb, hol⟩ := hrel
        have HLB := Lib.hid hl
        have HROB := Lib.hid hro
        have HGBB := Lib.hid hgb
        have HOLB := Lib.hid hol
        clear hl hro hgb hol
        have ch := (HGBB.out.g).cell
        obtain ⟨ec, hec, hez⟩ := (HGBB.out.g).rd.err
        obtain ⟨bB, hb⟩ : ∃ b, b = (decide (iB < n6) && stiB.isSome) := ⟨_, rfl⟩
        have HBQB := Lib.hid hb
        have HIB := Lib.hid hi
        clear hb
        go_upto_region 11 with (fail)
        go_cut [69] (fun v wx => v = .bool bB ∧ wx = wr)
        case first =>
          by_cases hlt : iB < n6
          · have hltI : (iB : Int) < n6 := by omega
            have hez2 : ((ec : Int) == 0) = bB := by rw [hez, HBQB.out, decide_eq_true hlt]; rfl
            clear hez hlt
            go_wp2_with fail
            go_meet
            exact ⟨rfl, rfl⟩
          · have hltI : ¬ (iB : Int) < n6 := by omega
            have hbf : bB = false := by rw [HBQB.out, decide_eq_false hlt]; rfl
            subst hbf
            clear hez hlt
            go_wp2_with fail
            go_meet
            exact ⟨rfl, rfl⟩
        case rest =>
        obtain ⟨rfl, hwc⟩ := hcut
        subst hwc
        clear hec hez ch
        cases bB with
        | true =>
          have hgo : iB < n6 ∧ stiB.isSome = true := by have := HBQB.out; simpa using this.symm
          have HGOB := Lib.hid hgo
          have hiIB : (0 : Int) ≤ iB ∧ (iB : Int) < n6 := by omega
          clear hgo
          have HDB := Lib.hid HGBB.out.drew
          have c0 := HDB.out.cell 2 _ rfl
          have ch := HDB.out.g.cell
          have HC7 : Hid (Calls Tryz.prog 44 #[.pointer (some ⟨rb, 0, none⟩), .int .u64 18446744073709551615] wc.drew _) := Lib.hid (HDB.out.g.uint 18446744073709551615 (by decide))
          have hqB := HOLB.out.keep (Own.refl wc).drew.below
          have HQB := Lib.hid hqB
          clear hqB
          go_upto_region 13 with (fail)
          go_region_law (first
            | (go_simp
               go_at_call 44
               (with_reducible refine HC7.out.mono ?_)
               rintro e w7 ⟨x7, s7, rfl, hx7, hs7, hg7, hu7⟩
               have HX7 := Lib.hid hx7
               have HS7 := Lib.hid hs7
               have hxI7 : (0 : Int) ≤ x7 ∧ (x7 : Int) ≤ 18446744073709551615 := by omega
               have HXB := Lib.hid (HDB.out.read hg7 hu7)
               have holB := HQB.out.updB hu7 (fun b hb => by rw [List.mem_singleton.1 hb]; exact HLWB.out.2.1)
               have hszB : w6.heap.size ≤ w7.heap.size := HXB.out.p.now.size
               obtain ⟨sz4, cap4, wz4, hrun, hol4, hk4⟩ := ol_push2 (P := Tryz.prog) (T := 38) Tryz.underlying38 HIN2.out.1 HIN2.out.2.1 HIN2.out.2.2.1 HIN2.out.2.2.2 rfl (by decide) (by decide) (w := w6) (W := w7) hszB holB [.int .u64 x7] rfl (fun u hu => List.all_eq_true.1 (show ([.int .u64 x7] : List Value).all (fun v => v.oneCell') = true from rfl) u hu) (by have := HLB.out; have := HN6.out; have := HGOB.out.1; simp; omega)
               rw [List.length_map, HLB.out] at hrun
               have hrun2 : (appSem #[38, 38] 38 #[.slice aB iB cB, .slice (some ⟨w7.heap.size, 0, none⟩) 1 1]).run Tryz.prog (w7.alloc (.cells #[.int .u64 x7] 22 (0, 0))) = .ok (.slice sz4 (iB + 1) cap4) wz4 := hrun
               have p3 := HXB.out.cell 2 _ rfl
               have p3b := (HXB.out.alloc (.cells #[.int .u64 x7] 22 (0, 0))).cell 2 _ rfl
               have ch3 := HXB.out.g.cell
               have ch3b := (HXB.out.alloc (.cells #[.int .u64 x7] 22 (0, 0))).g.cell
               have HYB := Lib.hid (HXB.out.app hk4.upd (fun b hb => HOLB.out.far b hb) HLWB.out)
               have p4 := HYB.out.cell 2 _ rfl
               have f4 := HYB.out.thaw 2
               have l4 := HYB.out.lt
               have HZB := Lib.hid (HYB.out.put (cs' := #[.int .u32 x1, .slice aA mA.length cA, .slice sz4 (iB + 1) cap4, .slice none 0 0]) 2 (.slice sz4 (iB + 1) cap4) rfl)
               have HOXB : Hid (OL w6 (wz4.setCell ⟨w1.heap.size, 2, none⟩ (.slice sz4 (iB + 1) cap4)) 22 1 sz4 cap4 ((mB ++ [x7]).map (fun a : Nat => [Value.int .u64 a]))) := Lib.hid (by
                 rw [List.map_append]
                 exact hol4.updB ((Upd.refl wz4 [w1.heap.size]).setCell (.inl (by simp)) _) (fun b hb => by rw [List.mem_singleton.1 hb]; exact HLWB.out.2.2))
               clear holB hol4 hk4 hrun HYB hx7 hs7 hg7 hu7)
            | fail)
          all_goals
            go_wp2_with fail
            go_roundw
            case rel => exact ⟨iB + 1, mB ++ [x7], sz4, cap4, _, HGOB.out.1, by go_num, by simp; exact HLB.out, HROB.out.go HS6.out HGOB.out.1 HGOB.out.2 (HS7.out), HZB.out, HOXB.out⟩
            case measure => simp [intOf]; omega
        | false =>
          have HFIB := Lib.hid (HROB.out.fin HS6.out HIB.out (fun h => by have h2 := HBQB.out; rw [decide_eq_true h.1, h.2] at h2; cases h2))
          obtain ⟨zB, hz⟩ : ∃ y, y = wc := ⟨_, rfl⟩
          subst hz
          have hlx := HLB.out
          subst hlx
          have HEB : Hid (GB gb rb w1.heap.size stiB #[.int .u32 x1, .slice aA mA.length cA, .slice aB mB.length cB, .slice none 0 0] 41 _ zB) := Lib.hid (GB.more ⟨HGBB.out.g, HGBB.out.y, HGBB.out.ny, HB6.out.p.next HGBB.out.p.now⟩ (Lat.ol (HOLB.out.base (w0 := v1) (HB6.out.p.now.1.2)) HFX.out))
          clear HGBB HOLB HROB HBQB HIB HB6
          have ch8 := (HEB.out.g).cell
          have HC8 := Lib.hid ((HEB.out.g).count)
          go_wp2_with fail
          refine HC8.out.mono ?_
          rintro e w8 ⟨n8, s8, rfl, hn8, hz8, hs8, hg8, hu8⟩
          have HN8 := Lib.hid hn8
          have HZ8 := Lib.hid hz8
          have HS8 := Lib.hid hs8
          have hnI8 : (0 : Int) ≤ n8 ∧ (n8 : Int) ≤ 512 := by omega
          clear HC8 ch8 hn8 hz8 hs8
          have HB8 := Lib.hid (HEB.out.read hg8 hu8)
          clear hg8 hu8
          go_wp2_with fail
          have HLWC : Hid (gb < w8.heap.size ∧ rb < w8.heap.size ∧ w1.heap.size < w8.heap.size) := Lib.hid ⟨HB8.out.g.lts.1, HB8.out.g.lts.2, HB8.out.lt⟩
          go_loopw [8] (fun vk wr => ∃ (i : Nat) (m : List ByteArray) (a : Option Addr) (c : Nat) (sti : Option (List UInt8)), i ≤ n8 ∧ vk = .int .i64 i ∧ m.length = i ∧ Rou (Mg.text 129) stiB s8 n8 i m sti ∧ GB gb rb w1.heap.size sti #[.int .u32 x1, .slice aA mA.length cA, .slice aB mB.length cB, .slice a i c] 41 (fun W => Upd w8 W [rb, w1.heap.size]) wr ∧ OL w8 wr 9 1 a c (m.map (fun a : ByteArray => [Value.string a]))) (fun vk _ => n8 - (intOf vk).toNat)
          case atStart => exact ⟨0, [], none, 0, s8, Nat.zero_le _, rfl, rfl, Rou.start HZ8.out, ⟨HB8.out.g, HB8.out.y, HB8.out.ny, Lat.upd _ _⟩, OL.nil _ _ _ _⟩
          case round =>
            obtain ⟨iC, mC, aC, cC, stiC, hi, rfl, hl, hro, hgb, hol⟩ := hrel
            have HLC := Lib.hid hl
            have HROC := Lib.hid hro
            have HGBC := Lib.hid hgb
            have HOLC := Lib.hid hol
            clear hl hro hgb hol
            have ch := (HGBC.out.g).cell
            obtain ⟨ec, hec, hez⟩ := (HGBC.out.g).rd.err
            obtain ⟨bC, hb⟩ : ∃ b, b = (decide (iC < n8) && stiC.isSome) := ⟨_, rfl⟩
            have HBQC := Lib.hid hb
            have HIC := Lib.hid hi
            clear hb
            go_upto_region 16 with (fail)
            go_cut [99] (fun v wx => v = .bool bC ∧ wx = wr)
            case first =>
              by_cases hlt : iC < n8
              · have hltI : (iC : Int) < n8 := by omega
                have hez2 : ((ec : Int) == 0) = bC := by rw [hez, HBQC.out, decide_eq_true hlt]; rfl
                clear hez hlt
                go_wp2_with fail
                go_meet
                exact ⟨rfl, rfl⟩
              · have hltI : ¬ (iC : Int) < n8 := by omega
                have hbf : bC = false := by rw [HBQC.out, decide_eq_false hlt]; rfl
                subst hbf
                clear hez hlt
                go_wp2_with fail
                go_meet
                exact ⟨rfl, rfl⟩
            case rest =>
            obtain ⟨rfl, hwc⟩ := hcut
            subst hwc
            clear hec hez ch
            cases bC with
            | true =>
              have hgo : iC < n8 ∧ stiC.isSome = true := by have := HBQC.out; simpa using this.symm
              have HGOC := Lib.hid hgo
              have hiIC : (0 : Int) ≤ iC ∧ (iC : Int) < n8 := by omega
              clear hgo
              have HDC := Lib.hid HGBC.out.drew
              have c0 := HDC.out.cell 3 _ rfl
              have ch := HDC.out.g.cell
              have HC9 : Hid (Calls Tryz.prog 79 #[.pointer (some ⟨rb, 0, none⟩), .int .i64 129] wc.drew _) := Lib.hid (HDC.out.g.text 129 (by decide))
              have hqC := HOLC.out.keep (Own.refl wc).drew.below
              have HQC := Lib.hid hqC
              clear hqC
              go_upto_region 18 with (fail)
              go_region_law (first
                | (go_simp
                   go_at_call 79
                   (with_reducible refine HC9.out.mono ?_)
                   rintro e w9 ⟨x9, s9, rfl, hx9, hs9, hg9, hu9⟩
                   have HX9 := Lib.hid hx9
                   have HS9 := Lib.hid hs9
                   have HXC := Lib.hid (HDC.out.read hg9 hu9)
                   have holC := HQC.out.updB hu9 (fun b hb => by rw [List.mem_singleton.1 hb]; exact HLWC.out.2.1)
                   have hszC : w8.heap.size ≤ w9.heap.size := HXC.out.p.now.size
                   obtain ⟨sz4, cap4, wz4, hrun, hol4, hk4⟩ := ol_push2 (P := Tryz.prog) (T := 39) Tryz.underlying39 HIN3.out.1 HIN3.out.2.1 HIN3.out.2.2.1 HIN3.out.2.2.2 rfl (by decide) (by decide) (w := w8) (W := w9) hszC holC [.string x9] rfl (fun u hu => List.all_eq_true.1 (show ([.string x9] : List Value).all (fun v => v.oneCell') = true from rfl) u hu) (by have := HLC.out; have := HN8.out; have := HGOC.out.1; simp; omega)
                   rw [List.length_map, HLC.out] at hrun
                   have hrun2 : (appSem #[39, 39] 39 #[.slice aC iC cC, .slice (some ⟨w9.heap.size, 0, none⟩) 1 1]).run Tryz.prog (w9.alloc (.cells #[.string x9] 9 (0, 0))) = .ok (.slice sz4 (iC + 1) cap4) wz4 := hrun
                   have p3 := HXC.out.cell 3 _ rfl
                   have p3b := (HXC.out.alloc (.cells #[.string x9] 9 (0, 0))).cell 3 _ rfl
                   have ch3 := HXC.out.g.cell
                   have ch3b := (HXC.out.alloc (.cells #[.string x9] 9 (0, 0))).g.cell
                   have HYC := Lib.hid (HXC.out.app hk4.upd (fun b hb => HOLC.out.far b hb) HLWC.out)
                   have p4 := HYC.out.cell 3 _ rfl
                   have f4 := HYC.out.thaw 3
                   have l4 := HYC.out.lt
                   have HZC := Lib.hid (HYC.out.put (cs' := #[.int .u32 x1, .slice aA mA.length cA, .slice aB mB.length cB, .slice sz4 (iC + 1) cap4]) 3 (.slice sz4 (iC + 1) cap4) rfl)
                   have HOXC : Hid (OL w8 (wz4.setCell ⟨w1.heap.size, 3, none⟩ (.slice sz4 (iC + 1) cap4)) 9 1 sz4 cap4 ((mC ++ [x9]).map (fun a : ByteArray => [Value.string a]))) := Lib.hid (by
                     rw [List.map_append]
                     exact hol4.updB ((Upd.refl wz4 [w1.heap.size]).setCell (.inl (by simp)) _) (fun b hb => by rw [List.mem_singleton.1 hb]; exact HLWC.out.2.2))
                   clear holC hol4 hk4 hrun HYC hx9 hs9 hg9 hu9)
                | fail)
              all_goals
                go_wp2_with fail
                go_roundw
                case rel => exact ⟨iC + 1, mC ++ [x9], sz4, cap4, _, HGOC.out.1, by go_num, by simp; exact HLC.out, HROC.out.go HS8.out HGOC.out.1 HGOC.out.2 (HS9.out), HZC.out, HOXC.out⟩
                case measure => simp [intOf]; omega
            | false =>
              have HFIC := Lib.hid (HROC.out.fin HS8.out HIC.out (fun h => by have h2 := HBQC.out; rw [decide_eq_true h.1, h.2] at h2; cases h2))
              obtain ⟨zC, hz⟩ : ∃ y, y = wc := ⟨_, rfl⟩
              subst hz
              have hlx := HLC.out
              subst hlx
              have HEC : Hid (GB gb rb w1.heap.size stiC #[.int .u32 x1, .slice aA mA.length cA, .slice aB mB.length cB, .slice aC mC.length cC] 41 _ zC) := Lib.hid (GB.more ⟨HGBC.out.g, HGBC.out.y, HGBC.out.ny, HB8.out.p.next HGBC.out.p.now⟩ (Lat.ol (HOLC.out.base (w0 := v1) (HB8.out.p.now.1.1.2)) HFX.out))
              clear HGBC HOLC HROC HBQC HIC HB8
              have gl : (ldTold ⟨w1.heap.size, 0, none⟩).run Tryz.prog zC = .ok (.agg #[.int .u32 x1, .slice aA mA.length cA, .slice aB mB.length cB, .slice aC mC.length cC]) zC := run_loadVar_agg zC _ 0 4 _ 41 #[.int .u32 x1, .slice aA mA.length cA, .slice aB mB.length cB, .slice aC mC.length cC] (0, 0) _ HEC.out.y Tryz.underlying41 rfl (by kernel_rfl) (show 0 + 4 ≤ 4 by decide)
              obtain ⟨zz, rz, hz0, hgz, huz, hul⟩ := HEC.out.back (fun _ h => h.1.1.1.1) rfl rfl (by kernel_rfl) (by exact List.all_eq_true.1 rfl) HLT.out
              change (stTold _ _).run _ _ = _ at rz
              have HZ0 := Lib.hid hz0
              have HGZ := Lib.hid hgz
              have HUZ := Lib.hid huz
              have HUL := Lib.hid hul
              clear hz0 hgz huz hul
              have HLS : Hid (ToldO w zz { MS0 with got := (aA, cA), numbers := (aB, cB), names := (aC, cC) } ⟨x1, mA, mB, mC⟩) := Lib.hid (by
                obtain ⟨⟨⟨⟨hrst, _⟩, hq1⟩, hq2⟩, hq3⟩ := HEC.out.p.now
                have hwv : w.heap.size ≤ v1.heap.size := HWV.out
                have hf : ∀ b ∈ [w.heap.size], b < v1.heap.size := fun b hb => by rw [List.mem_singleton.1 hb]; exact HWL.out
                exact ⟨(hq1.updB HUL.out hf).base hwv, (hq2.updB HUL.out hf).base hwv, (hq3.updB HUL.out hf).base hwv⟩)
              go_wp2_with fail
              exact bodyPost_ret (results_cell_row rfl _ _ w.heap.size _ _ _ _ rfl HZ0.out Tryz.underlying41 rfl (by kernel_rfl)) rfl ⟨{ Mg.msg0 with told := ⟨x1, mA, mB, mC⟩ }, { MS0 with got := (aA, cA), numbers := (aB, cB), names := (aC, cC) }, rfl, stiC, Step.isoD (Step.seqD HS1.out (Step.seqD HFIA.out (Step.seqD HFIB.out HFIC.out))), HGZ.out, HLS.out, HUZ.out⟩

end Go.Proofs.YtjgnomjjphkfbaaGreat
