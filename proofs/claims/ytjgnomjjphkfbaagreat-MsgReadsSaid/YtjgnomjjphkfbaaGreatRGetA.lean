/-
  Joined out of the texts MsgGet6.
-/
import Derived.Test.YtjgnomjjphkfbaaGreatRGet
namespace Go.Proofs.YtjgnomjjphkfbaaGreat
open Go.RowKit
attribute [local go_sem ↓ high] appSem_eq
attribute [local go_sem ↓ high] stAsk_eq
attribute [local go_sem ↓ high] ldAsk_eq

/-- A question that was read: its lists. -/
structure AskO (w W : World) (s : MS) (a : Mg.Ask) : Prop where
  reads : OL w W 67 2 s.reads.1 s.reads.2 (a.reads.map Mg.Rd.cells)
  readAt : OL w W 3 1 s.readAt.1 s.readAt.2 (a.readAt.map (fun a : Int => [Value.int .i64 a]))
  edits : OL w W 59 6 s.edits.1 s.edits.2 (a.edits.map Mg.Ed.cells)
  editAt : OL w W 3 1 s.editAt.1 s.editAt.2 (a.editAt.map (fun a : Int => [Value.int .i64 a]))

set_option maxRecDepth 20000 in
set_option maxHeartbeats 4000000 in
theorem g_ask (gb rb : Nat) (st : Option (List UInt8)) (w : World) (h : GtAt gb rb st w) :
    Calls Tryz.prog 46 #[.pointer (some ⟨gb, 0, none⟩)] w fun e w' => ∃ (x : Mg.Msg) (s : MS) (st' : Option (List UInt8)), e = .returned (.agg (askV s x)) ∧ Step Mg.cAsk.dec st x.ask st' ∧ GtAt gb rb st' w' ∧ AskO w w' s x.ask ∧ Upd w w' [rb] := by
  obtain ⟨inf1, hin1, hz01, hz11, hz21⟩ := info_parts inf_read
  have HIN1 := Lib.hid (And.intro hin1 (And.intro hz01 (And.intro hz11 hz21)))
  clear hin1 hz01 hz11 hz21
  obtain ⟨inf2, hin2, hz02, hz12, hz22⟩ := info_parts inf_edit
  have HIN2 := Lib.hid (And.intro hin2 (And.intro hz02 (And.intro hz12 hz22)))
  clear hin2 hz02 hz12 hz22
  have HLT := Lib.hid h.lts
  obtain ⟨w0, hw0⟩ : ∃ y, y = w.alloc (.cells #[.int .u32 0, .slice none 0 0, .slice none 0 0, .slice none 0 0, .slice none 0 0, .bool false, .string ⟨#[]⟩, .bool false, .bool false, .int .u64 0, .int .u64 0] 33 (0, 0)) := ⟨_, rfl⟩
  have HW0 := Lib.hid hw0
  have hg0 : GtAt gb rb st w0 := by rw [hw0]; exact h.keep ((Own.refl w).alloc _).below
  have hp0 : Lat w0 [rb] (Rst w rb #[.int .u32 0, .slice none 0 0, .slice none 0 0, .slice none 0 0, .slice none 0 0, .bool false, .string ⟨#[]⟩, .bool false, .bool false, .int .u64 0, .int .u64 0] 33) := by rw [hw0]; exact Rst.start w rb _ _ h.lts.2
  have HG0 := Lib.hid hg0
  have HP0 := Lib.hid hp0
  clear hw0 hg0 hp0 h
  have ch := HG0.out.cell
  go_enter Tryz.func46, Tryz.ntmps46
  go_upto_region 1 with (fail)
  rw [← HW0.out]
  clear HW0
  clear ch
  have ch1 := (HG0.out).cell
  have HC1 := Lib.hid ((HG0.out).uint 4294967295 (by decide))
  go_wp2_with fail
  refine HC1.out.mono ?_
  rintro e w1 ⟨x1, s1, rfl, hx1, hs1, hg1, hu1⟩
  have HX1 := Lib.hid hx1
  have HS1 := Lib.hid hs1
  have hxI1 : (0 : Int) ≤ x1 ∧ (x1 : Int) ≤ 4294967295 := by omega
  clear HC1 ch1 hx1 hs1
  obtain ⟨v1, rv1, hb1, huv1, hsv1⟩ := GB.make hg1 (HP0.out.next hu1) #[.int .u32 0, .slice none 0 0, .slice none 0 0, .slice none 0 0, .slice none 0 0, .bool false, .string ⟨#[]⟩, .bool false, .bool false, .int .u64 0, .int .u64 0] #[.int .u32 x1, .slice none 0 0, .slice none 0 0, .slice none 0 0, .slice none 0 0, .bool false, .string ⟨#[]⟩, .bool false, .bool false, .int .u64 0, .int .u64 0] 33 (n := 11) rfl rfl (by kernel_rfl) (by exact List.all_eq_true.1 rfl)
  change (stAsk _ _).run _ _ = _ at rv1
  have HB1 := Lib.hid hb1
  have HUV1 := Lib.hid huv1
  have HSV1 := Lib.hid hsv1
  clear hb1 huv1 hsv1 hg1 hu1
  go_upto_region 2 with (fail)
  clear rv1
  have HFX : Hid (∀ b ∈ [rb, w1.heap.size], b < v1.heap.size) := Lib.hid (fun b hb => by
    have h1 := HB1.out.g.lts
    have h2 := HB1.out.lt
    rcases List.mem_cons.1 hb with e | e
    · omega
    · have := List.mem_singleton.1 e; omega)
  have HVS : Hid (GB gb rb w1.heap.size s1 #[.int .u32 x1, .slice none 0 0, .slice none 0 0, .slice none 0 0, .slice none 0 0, .bool false, .string ⟨#[]⟩, .bool false, .bool false, .int .u64 0, .int .u64 0] 33 (fun W => Rst w rb #[.int .u32 0, .slice none 0 0, .slice none 0 0, .slice none 0 0, .slice none 0 0, .bool false, .string ⟨#[]⟩, .bool false, .bool false, .int .u64 0, .int .u64 0] 33 W ∧ v1.heap.size ≤ W.heap.size) v1) := Lib.hid (HB1.out.more (fun W2 h2 => h2.size))
  have HWL : Hid (w.heap.size < v1.heap.size) := Lib.hid (blk_lt HB1.out.p.now.1)
  have HWV : Hid (w.heap.size ≤ v1.heap.size) := Lib.hid (Nat.le_of_lt HWL.out)
  clear HB1 HG0 HP0
  have ch2 := (HVS.out.g).cell
  have HC2 := Lib.hid ((HVS.out.g).count)
  go_wp2_with fail
  refine HC2.out.mono ?_
  rintro e w2 ⟨n2, s2, rfl, hn2, hz2, hs2, hg2, hu2⟩
  have HN2 := Lib.hid hn2
  have HZ2 := Lib.hid hz2
  have HS2 := Lib.hid hs2
  have hnI2 : (0 : Int) ≤ n2 ∧ (n2 : Int) ≤ 512 := by omega
  clear HC2 ch2 hn2 hz2 hs2
  have HB2 := Lib.hid (HVS.out.read hg2 hu2)
  clear hg2 hu2
  go_wp2_with fail
  have HLWA : Hid (gb < w2.heap.size ∧ rb < w2.heap.size ∧ w1.heap.size < w2.heap.size) := Lib.hid ⟨HB2.out.g.lts.1, HB2.out.g.lts.2, HB2.out.lt⟩
  go_loopw [5] (fun vk wr => ∃ (i : Nat) (m : List Mg.Rd) (a : Option Addr) (c : Nat) (sti : Option (List UInt8)), i ≤ n2 ∧ vk = .int .i64 i ∧ m.length = i ∧ Rou Mg.cRd s1 s2 n2 i m sti ∧ GB gb rb w1.heap.size sti #[.int .u32 x1, .slice a i c, .slice none 0 0, .slice none 0 0, .slice none 0 0, .bool false, .string ⟨#[]⟩, .bool false, .bool false, .int .u64 0, .int .u64 0] 33 (fun W => Upd w2 W [rb, w1.heap.size]) wr ∧ OL w2 wr 67 2 a c (m.map Mg.Rd.cells)) (fun vk _ => n2 - (intOf vk).toNat)
  case atStart => exact ⟨0, [], none, 0, s2, Nat.zero_le _, rfl, rfl, Rou.start HZ2.out, ⟨HB2.out.g, HB2.out.y, HB2.out.ny, Lat.upd _ _⟩, OL.nil _ _ _ _⟩
  case round =>
    obtain ⟨iA, mA, aA, cA, stiA, hi, rfl, hl, hro, hgb, hol⟩ := hrel
    have HLA := Lib.hid hl
    have HROA := Lib.hid hro
    have HGBA := Lib.hid hgb
    have HOLA := Lib.hid hol
    clear hl hro hgb hol
    have ch := (HGBA.out.g).cell
    obtain ⟨ec, hec, hez⟩ := (HGBA.out.g).rd.err
    obtain ⟨bA, hb⟩ : ∃ b, b = (decide (iA < n2) && stiA.isSome) := ⟨_, rfl⟩
    have HBQA := Lib.hid hb
    have HIA := Lib.hid hi
    clear hb
    go_upto_region 4 with (fail)
    go_cut [33] (fun v wx => v = .bool bA ∧ wx = wr)
    case first =>
      by_cases hlt : iA < n2
      · have hltI : (iA : Int) < n2 := by omega
        have hez2 : ((ec : Int) == 0) = bA := by rw [hez, HBQA.out, decide_eq_true hlt]; rfl
        clear hez hlt
        go_wp2_with fail
        go_meet
        exact ⟨rfl, rfl⟩
      · have hltI : ¬ (iA : Int) < n2 := by omega
        have hbf : bA = false := by rw [HBQA.out, decide_eq_false hlt]; rfl
        subst hbf
        clear hez hlt
        go_wp2_with fail
        go_meet
        exact ⟨rfl, rfl⟩
    case rest =>
    obtain ⟨rfl, hwc⟩ := hcut
    subst hwc
    clear hec hez ch
    cases bA with
    | true =>
      have hgo : iA < n2 ∧ stiA.isSome = true := by have := HBQA.out; simpa using this.symm
      have HGOA := Lib.hid hgo
      have hiIA : (0 : Int) ≤ iA ∧ (iA : Int) < n2 := by omega
      clear hgo
      have ch3 := (HGBA.out.g).cell
      have HC3 := Lib.hid ((HGBA.out.g).text 129 (by decide))
      go_wp2_with fail
      refine HC3.out.mono ?_
      rintro e w3 ⟨x3, s3, rfl, hx3, hs3, hg3, hu3⟩
      have HX3 := Lib.hid hx3
      have HS3 := Lib.hid hs3
      clear HC3 ch3 hx3 hs3
      have hp2 := Lat.upd wc [rb]
      obtain ⟨v3, hv3⟩ : ∃ y, y = w3.alloc (.cells #[.string x3, .int .u64 0] 67 (0, 0)) := ⟨_, rfl⟩
      have HB3 : Hid (GB gb rb w3.heap.size s3 #[.string x3, .int .u64 0] 67 (fun W => Upd wc W [rb]) v3) := Lib.hid (by rw [hv3]; exact GB.fresh hg3 (hp2.next hu3) _ _)
      go_upto_region 7 with (fail)
      rw [← hv3]
      clear hv3 hg3 hu3
      clear hp2
      have ch4 := (HB3.out.g).cell
      have HC4 := Lib.hid ((HB3.out.g).uint 18446744073709551615 (by decide))
      go_wp2_with fail
      refine HC4.out.mono ?_
      rintro e w4 ⟨x4, s4, rfl, hx4, hs4, hg4, hu4⟩
      have HX4 := Lib.hid hx4
      have HS4 := Lib.hid hs4
      have hxI4 : (0 : Int) ≤ x4 ∧ (x4 : Int) ≤ 18446744073709551615 := by omega
      clear HC4 ch4 hx4 hs4
      have hb4 := HB3.out.read hg4 hu4
      have q4 := hb4.cell 1 _ rfl
      have f4 := hb4.thaw 1
      have l4 := hb4.lt
      have HB4 := Lib.hid (hb4.put (cs' := #[.string x3, .int .u64 x4]) 1 (.int .u64 x4) rfl)
      clear hb4 hg4 hu4
      go_upto_region 8 with (fail)
      generalize w4.setCell ⟨w3.heap.size, 1, none⟩ (.int .u64 x4) = v4 at *
      clear q4 f4 l4
      have hup4 := HB4.out.p.now
      have HXA := Lib.hid (HGBA.out.read HB4.out.g hup4)
      have holA := HOLA.out.updB hup4 (fun b hb => by rw [List.mem_singleton.1 hb]; exact HLWA.out.2.1)
      have hszA : w2.heap.size ≤ v4.heap.size := HXA.out.p.now.size
      obtain ⟨sz4, cap4, wz4, hrun, hol4, hk4⟩ := ol_push2 (P := Tryz.prog) (T := 27) Tryz.underlying27 HIN1.out.1 HIN1.out.2.1 HIN1.out.2.2.1 HIN1.out.2.2.2 rfl (by decide) (by decide) (w := w2) (W := v4) hszA holA [.string x3, .int .u64 x4] rfl (fun u hu => List.all_eq_true.1 (show ([.string x3, .int .u64 x4] : List Value).all (fun v => v.oneCell') = true from rfl) u hu) (by have := HLA.out; have := HN2.out; have := HGOA.out.1; simp; omega)
      rw [List.length_map, HLA.out] at hrun
      have hrun2 : (appSem #[27, 27] 27 #[.slice aA iA cA, .slice (some ⟨v4.heap.size, 0, none⟩) 1 1]).run Tryz.prog (v4.alloc (.cells #[.string x3, .int .u64 x4] 67 (0, 0))) = .ok (.slice sz4 (iA + 1) cap4) wz4 := hrun
      have q0 := HB4.out.cell 0 _ rfl
      have q1 := HB4.out.cell 1 _ rfl
      clear hup4
      have p3 := HXA.out.cell 1 _ rfl
      have HYA := Lib.hid (HXA.out.app hk4.upd (fun b hb => HOLA.out.far b hb) HLWA.out)
      have p4 := HYA.out.cell 1 _ rfl
      have f4 := HYA.out.thaw 1
      have l4 := HYA.out.lt
      have HZA := Lib.hid (HYA.out.put (cs' := #[.int .u32 x1, .slice sz4 (iA + 1) cap4, .slice none 0 0, .slice none 0 0, .slice none 0 0, .bool false, .string ⟨#[]⟩, .bool false, .bool false, .int .u64 0, .int .u64 0]) 1 (.slice sz4 (iA + 1) cap4) rfl)
      have HOXA : Hid (OL w2 (wz4.setCell ⟨w1.heap.size, 1, none⟩ (.slice sz4 (iA + 1) cap4)) 67 2 sz4 cap4 ((mA ++ [(⟨x3, x4⟩ : Mg.Rd)]).map Mg.Rd.cells)) := Lib.hid (by
        rw [List.map_append]
        exact hol4.updB ((Upd.refl wz4 [w1.heap.size]).setCell (.inl (by simp)) _) (fun b hb => by rw [List.mem_singleton.1 hb]; exact HLWA.out.2.2))
      clear holA hol4 hk4 hrun HYA
      go_wp2_with fail
      go_roundw
      case rel => exact ⟨iA + 1, mA ++ [(⟨x3, x4⟩ : Mg.Rd)], sz4, cap4, _, HGOA.out.1, by go_num, by simp; exact HLA.out, HROA.out.go HS2.out HGOA.out.1 HGOA.out.2 ((show Step Mg.cRd.dec stiA (⟨x3, x4⟩ : Mg.Rd) s4 from Step.isoD (Step.seqD HS3.out HS4.out))), HZA.out, HOXA.out⟩
      case measure => simp [intOf]; omega
    | false =>
      have HFIA := Lib.hid (HROA.out.fin HS2.out HIA.out (fun h => by have h2 := HBQA.out; rw [decide_eq_true h.1, h.2] at h2; cases h2))
      obtain ⟨zA, hz⟩ : ∃ y, y = wc := ⟨_, rfl⟩
      subst hz
      have hlx := HLA.out
      subst hlx
      have HEA : Hid (GB gb rb w1.heap.size stiA #[.int .u32 x1, .slice aA mA.length cA, .slice none 0 0, .slice none 0 0, .slice none 0 0, .bool false, .string ⟨#[]⟩, .bool false, .bool false, .int .u64 0, .int .u64 0] 33 _ zA) := Lib.hid (GB.more ⟨HGBA.out.g, HGBA.out.y, HGBA.out.ny, HB2.out.p.next HGBA.out.p.now⟩ (Lat.ol (HOLA.out.base (w0 := v1) (HB2.out.p.now.2)) HFX.out))
      clear HGBA HOLA HROA HBQA HIA HB2
      have ch5 := HEA.out.g.cell
      have HC5 := Lib.hid (g_places gb rb _ _ HEA.out.g)
      go_wp2_with fail
      refine HC5.out.mono ?_
      rintro e w5 ⟨l5, a5, c5, s5, rfl, hs5, hn5, hg5, hol5, hu5⟩
      have HS5 := Lib.hid hs5
      clear ch5 HC5
      have HOL5 := Lib.hid (hol5.base (w0 := v1) (HEA.out.p.now.1.2))
      have hb5 := HEA.out.read hg5 hu5
      have q5 := hb5.cell 2 _ rfl
      have f5 := hb5.thaw 2
      have l_5 := hb5.lt
      have hc5 := (hb5.more (Lat.ol HOL5.out HFX.out)).put (cs' := #[.int .u32 x1, .slice aA mA.length cA, .slice a5 l5.length c5, .slice none 0 0, .slice none 0 0, .bool false, .string ⟨#[]⟩, .bool false, .bool false, .int .u64 0, .int .u64 0]) 2 (.slice a5 l5.length c5) rfl
      have HB5 := Lib.hid hc5
      clear hb5 hg5 hu5 hol5 hn5 hs5 hc5
      go_upto_region 10 with (fail)
      generalize w5.setCell ⟨w1.heap.size, 2, none⟩ (.slice a5 l5.length c5) = v5 at *
      clear q5 f5 l_5 HOL5
      have ch6 := (HB5.out.g).cell
      have HC6 := Lib.hid ((HB5.out.g).count)
      go_wp2_with fail
      refine HC6.out.mono ?_
      rintro e w6 ⟨n6, s6, rfl, hn6, hz6, hs6, hg6, hu6⟩
      have HN6 := Lib.hid hn6
      have HZ6 := Lib.hid hz6
      have HS6 := Lib.hid hs6
      have hnI6 : (0 : Int) ≤ n6 ∧ (n6 : Int) ≤ 512 := by omega
      clear HC6 ch6 hn6 hz6 hs6
      have HB6 := Lib.hid (HB5.out.read hg6 hu6)
      clear hg6 hu6
      go_wp2_with fail
      have HLWB : Hid (gb < w6.heap.size ∧ rb < w6.heap.size ∧ w1.heap.size < w6.heap.size) := Lib.hid ⟨HB6.out.g.lts.1, HB6.out.g.lts.2, HB6.out.lt⟩
      go_loopw [7] (fun vk wr => ∃ (i : Nat) (m : List Mg.Ed) (a : Option Addr) (c : Nat) (sti : Option (List UInt8)), i ≤ n6 ∧ vk = .int .i64 i ∧ m.length = i ∧ Rou Mg.cEd s5 s6 n6 i m sti ∧ GB gb rb w1.heap.size sti #[.int .u32 x1, .slice aA mA.length cA, .slice a5 l5.length c5, .slice a i c, .slice none 0 0, .bool false, .string ⟨#[]⟩, .bool false, .bool false, .int .u64 0, .int .u64 0] 33 (fun W => Upd w6 W [rb, w1.heap.size]) wr ∧ OL w6 wr 59 6 a c (m.map Mg.Ed.cells)) (fun vk _ => n6 - (intOf vk).toNat)
      case atStart => exact ⟨0, [], none, 0, s6, Nat.zero_le _, rfl, rfl, Rou.start HZ6.out, ⟨HB6.out.g, HB6.out.y, HB6.out.ny, Lat.upd _ _⟩, OL.nil _ _ _ _⟩
      case round =>
        obtain ⟨iB, mB, aB, cB, stiB, hi, rfl, hl, hro, hgb, hol⟩ := hrel
        have HLB := Lib.hid hl
        have HROB := Lib.hid hro
        have HGBB := Lib.hid hgb
        have HOLB := Lib.hid hol
        clear hl hro hgb hol
        have ch := (HGBB.out.g).cell
        obtain ⟨ec, hec, hez⟩ := (HGBB.out.g).rd.err
        obtain ⟨bB, hb⟩ : ∃ b, b = (decide (iB < n6) && stiB.isSome) := ⟨_, rfl⟩
        have HBQB := Lib.hid hb
        have HIB := Lib.hid hi
        clear hb
        go_upto_region 12 with (fail)
        go_cut [74] (fun v wx => v = .bool bB ∧ wx = wr)
        case first =>
          by_cases hlt : iB < n6
          · have hltI : (iB : Int) < n6 := by omega
            have hez2 : ((ec : Int) == 0) = bB := by rw [hez, HBQB.out, decide_eq_true hlt]; rfl
            clear hez hlt
            go_wp2_with fail
            go_meet
            exact ⟨rfl, rfl⟩
          · have hltI : ¬ (iB : Int) < n6 := by omega
            have hbf : bB = false := by rw [HBQB.out, decide_eq_false hlt]; rfl
            subst hbf
            clear hez hlt
            go_wp2_with fail
            go_meet
            exact ⟨rfl, rfl⟩
        case rest =>
        obtain ⟨rfl, hwc⟩ := hcut
        subst hwc
        clear hec hez ch
        cases bB with
        | true =>
          have hgo : iB < n6 ∧ stiB.isSome = true := by have := HBQB.out; simpa using this.symm
          have HGOB := Lib.hid hgo
          have hiIB : (0 : Int) ≤ iB ∧ (iB : Int) < n6 := by omega
          clear hgo
          have ch7 := (HGBB.out.g).cell
          have HC7 := Lib.hid ((HGBB.out.g).uint 255 (by decide))
          go_wp2_with fail
          refine HC7.out.mono ?_
          rintro e w7 ⟨x7, s7, rfl, hx7, hs7, hg7, hu7⟩
          have HX7 := Lib.hid hx7
          have HS7 := Lib.hid hs7
          have hxI7 : (0 : Int) ≤ x7 ∧ (x7 : Int) ≤ 255 := by omega
          clear HC7 ch7 hx7 hs7
          have hp2 := Lat.upd wc [rb]
          obtain ⟨v7, hv7⟩ : ∃ y, y = w7.alloc (.cells #[.int .u8 x7, .string ⟨#[]⟩, .bool false, .int .u64 0, .int .u64 0, .string ⟨#[]⟩] 59 (0, 0)) := ⟨_, rfl⟩
          have HB7 : Hid (GB gb rb w7.heap.size s7 #[.int .u8 x7, .string ⟨#[]⟩, .bool false, .int .u64 0, .int .u64 0, .string ⟨#[]⟩] 59 (fun W => Upd wc W [rb]) v7) := Lib.hid (by rw [hv7]; exact GB.fresh hg7 (hp2.next hu7) _ _)
          go_upto_region 15 with (fail)
          rw [← hv7]
          clear hv7 hg7 hu7
          clear hp2
          have ch8 := (HB7.out.g).cell
          have HC8 := Lib.hid ((HB7.out.g).text 129 (by decide))
          go_wp2_with fail
          refine HC8.out.mono ?_
          rintro e w8 ⟨x8, s8, rfl, hx8, hs8, hg8, hu8⟩
          have HX8 := Lib.hid hx8
          have HS8 := Lib.hid hs8
          clear HC8 ch8 hx8 hs8
          have hb8 := HB7.out.read hg8 hu8
          have q8 := hb8.cell 1 _ rfl
          have f8 := hb8.thaw 1
          have l8 := hb8.lt
          have HB8 := Lib.hid (hb8.put (cs' := #[.int .u8 x7, .string x8, .bool false, .int .u64 0, .int .u64 0, .string ⟨#[]⟩]) 1 (.string x8) rfl)
          clear hb8 hg8 hu8
          go_upto_region 16 with (fail)
          generalize w8.setCell ⟨w7.heap.size, 1, none⟩ (.string x8) = v8 at *
          clear q8 f8 l8
          have ch9 := (HB8.out.g).cell
          have HC9 := Lib.hid ((HB8.out.g).truth)
          go_wp2_with fail
          refine HC9.out.mono ?_
          rintro e w9 ⟨x9, s9, rfl, hs9, hg9, hu9⟩
          have HS9 := Lib.hid hs9
          clear HC9 ch9 hs9
          have hb9 := HB8.out.read hg9 hu9
          have q9 := hb9.cell 2 _ rfl
          have f9 := hb9.thaw 2
          have l9 := hb9.lt
          have HB9 := Lib.hid (hb9.put (cs' := #[.int .u8 x7, .string x8, .bool x9, .int .u64 0, .int .u64 0, .string ⟨#[]⟩]) 2 (.bool x9) rfl)
          clear hb9 hg9 hu9
          go_upto_region 17 with (fail)
          generalize w9.setCell ⟨w7.heap.size, 2, none⟩ (.bool x9) = v9 at *
          clear q9 f9 l9
          have ch10 := (HB9.out.g).cell
          have HC10 := Lib.hid ((HB9.out.g).uint 18446744073709551615 (by decide))
          go_wp2_with fail
          refine HC10.out.mono ?_
          rintro e w10 ⟨x10, s10, rfl, hx10, hs10, hg10, hu10⟩
          have HX10 := Lib.hid hx10
          have HS10 := Lib.hid hs10
          have hxI10 : (0 : Int) ≤ x10 ∧ (x10 : Int) ≤ 18446744073709551615 := by omega
          clear HC10 ch10 hx10 hs10
          have hb10 := HB9.out.read hg10 hu10
          have q10 := hb10.cell 3 _ rfl
          have f10 := hb10.thaw 3
          have l10 := hb10.lt
          have HB10 := Lib.hid (hb10.put (cs' := #[.int .u8 x7, .string x8, .bool x9, .int .u64 x10, .int .u64 0, .string ⟨#[]⟩]) 3 (.int .u64 x10) rfl)
          clear hb10 hg10 hu10
          go_upto_region 18 with (fail)
          generalize w10.setCell ⟨w7.heap.size, 3, none⟩ (.int .u64 x10) = v10 at *
          clear q10 f10 l10
          have ch11 := (HB10.out.g).cell
          have HC11 := Lib.hid ((HB10.out.g).uint 18446744073709551615 (by decide))
          go_wp2_with fail
          refine HC11.out.mono ?_
          rintro e w11 ⟨x11, s11, rfl, hx11, hs11, hg11, hu11⟩
          have HX11 := Lib.hid hx11
          have HS11 := Lib.hid hs11
          have hxI11 : (0 : Int) ≤ x11 ∧ (x11 : Int) ≤ 18446744073709551615 := by omega
          clear HC11 ch11 hx11 hs11
          have hb11 := HB10.out.read hg11 hu11
          have q11 := hb11.cell 4 _ rfl
          have f11 := hb11.thaw 4
          have l11 := hb11.lt
          have HB11 := Lib.hid (hb11.put (cs' := #[.int .u8 x7, .string x8, .bool x9, .int .u64 x10, .int .u64 x11, .string ⟨#[]⟩]) 4 (.int .u64 x11) rfl)
          clear hb11 hg11 hu11
          go_upto_region 19 with (fail)
          generalize w11.setCell ⟨w7.heap.size, 4, none⟩ (.int .u64 x11) = v11 at *
          clear q11 f11 l11
          have ch12 := (HB11.out.g).cell
          have HC12 := Lib.hid ((HB11.out.g).text 4096 (by decide))
          go_wp2_with fail
          refine HC12.out.mono ?_
          rintro e w12 ⟨x12, s12, rfl, hx12, hs12, hg12, hu12⟩
          have HX12 := Lib.hid hx12
          have HS12 := Lib.hid hs12
          clear HC12 ch12 hx12 hs12
          have hb12 := HB11.out.read hg12 hu12
          have q12 := hb12.cell 5 _ rfl
          have f12 := hb12.thaw 5
          have l12 := hb12.lt
          have HB12 := Lib.hid (hb12.put (cs' := #[.int .u8 x7, .string x8, .bool x9, .int .u64 x10, .int .u64 x11, .string x12]) 5 (.string x12) rfl)
          clear hb12 hg12 hu12
          go_upto_region 20 with (fail)
          generalize w12.setCell ⟨w7.heap.size, 5, none⟩ (.string x12) = v12 at *
          clear q12 f12 l12
          have hup4 := HB12.out.p.now
          have HXB := Lib.hid (HGBB.out.read HB12.out.g hup4)
          have holB := HOLB.out.updB hup4 (fun b hb => by rw [List.mem_singleton.1 hb]; exact HLWB.out.2.1)
          have hszB : w6.heap.size ≤ v12.heap.size := HXB.out.p.now.size
          obtain ⟨sz4, cap4, wz4, hrun, hol4, hk4⟩ := ol_push2 (P := Tryz.prog) (T := 29) Tryz.underlying29 HIN2.out.1 HIN2.out.2.1 HIN2.out.2.2.1 HIN2.out.2.2.2 rfl (by decide) (by decide) (w := w6) (W := v12) hszB holB [.int .u8 x7, .string x8, .bool x9, .int .u64 x10, .int .u64 x11, .string x12] rfl (fun u hu => List.all_eq_true.1 (show ([.int .u8 x7, .string x8, .bool x9, .int .u64 x10, .int .u64 x11, .string x12] : List Value).all (fun v => v.oneCell') = true from rfl) u hu) (by have := HLB.out; have := HN6.out; have := HGOB.out.1; simp; omega)
          rw [List.length_map, HLB.out] at hrun
          have hrun2 : (appSem #[29, 29] 29 #[.slice aB iB cB, .slice (some ⟨v12.heap.size, 0, none⟩) 1 1]).run Tryz.prog (v12.alloc (.cells #[.int .u8 x7, .string x8, .bool x9, .int .u64 x10, .int .u64 x11, .string x12] 59 (0, 0))) = .ok (.slice sz4 (iB + 1) cap4) wz4 := hrun
          have q0 := HB12.out.cell 0 _ rfl
          have q1 := HB12.out.cell 1 _ rfl
          have q2 := HB12.out.cell 2 _ rfl
          have q3 := HB12.out.cell 3 _ rfl
          have q4 := HB12.out.cell 4 _ rfl
          have q5 := HB12.out.cell 5 _ rfl
          clear hup4
          have p3 := HXB.out.cell 3 _ rfl
          have HYB := Lib.hid (HXB.out.app hk4.upd (fun b hb => HOLB.out.far b hb) HLWB.out)
          have p4 := HYB.out.cell 3 _ rfl
          have f4 := HYB.out.thaw 3
          have l4 := HYB.out.lt
          have HZB := Lib.hid (HYB.out.put (cs' := #[.int .u32 x1, .slice aA mA.length cA, .slice a5 l5.length c5, .slice sz4 (iB + 1) cap4, .slice none 0 0, .bool false, .string ⟨#[]⟩, .bool false, .bool false, .int .u64 0, .int .u64 0]) 3 (.slice sz4 (iB + 1) cap4) rfl)
          have HOXB : Hid (OL w6 (wz4.setCell ⟨w1.heap.size, 3, none⟩ (.slice sz4 (iB + 1) cap4)) 59 6 sz4 cap4 ((mB ++ [(⟨x7, x8, x9, x10, x11, x12⟩ : Mg.Ed)]).map Mg.Ed.cells)) := Lib.hid (by
            rw [List.map_append]
            exact hol4.updB ((Upd.refl wz4 [w1.heap.size]).setCell (.inl (by simp)) _) (fun b hb => by rw [List.mem_singleton.1 hb]; exact HLWB.out.2.2))
          clear holB hol4 hk4 hrun HYB
          go_wp2_with fail
          go_roundw
          case rel => exact ⟨iB + 1, mB ++ [(⟨x7, x8, x9, x10, x11, x12⟩ : Mg.Ed)], sz4, cap4, _, HGOB.out.1, by go_num, by simp; exact HLB.out, HROB.out.go HS6.out HGOB.out.1 HGOB.out.2 ((show Step Mg.cEd.dec stiB (⟨x7, x8, x9, x10, x11, x12⟩ : Mg.Ed) s12 from Step.isoD (Step.seqD HS7.out (Step.seqD HS8.out (Step.seqD HS9.out (Step.seqD HS10.out (Step.seqD HS11.out HS12.out))))))), HZB.out, HOXB.out⟩
          case measure => simp [intOf]; omega
        | false =>
          have HFIB := Lib.hid (HROB.out.fin HS6.out HIB.out (fun h => by have h2 := HBQB.out; rw [decide_eq_true h.1, h.2] at h2; cases h2))
          obtain ⟨zB, hz⟩ : ∃ y, y = wc := ⟨_, rfl⟩
          subst hz
          have hlx := HLB.out
          subst hlx
          have HEB : Hid (GB gb rb w1.heap.size stiB #[.int .u32 x1, .slice aA mA.length cA, .slice a5 l5.length c5, .slice aB mB.length cB, .slice none 0 0, .bool false, .string ⟨#[]⟩, .bool false, .bool false, .int .u64 0, .int .u64 0] 33 _ zB) := Lib.hid (GB.more ⟨HGBB.out.g, HGBB.out.y, HGBB.out.ny, HB6.out.p.next HGBB.out.p.now⟩ (Lat.ol (HOLB.out.base (w0 := v1) (HB6.out.p.now.1.1.2)) HFX.out))
          clear HGBB HOLB HROB HBQB HIB HB6
          have ch13 := HEB.out.g.cell
          have HC13 := Lib.hid (g_places gb rb _ _ HEB.out.g)
          go_wp2_with fail
          refine HC13.out.mono ?_
          rintro e w13 ⟨l13, a13, c13, s13, rfl, hs13, hn13, hg13, hol13, hu13⟩
          have HS13 := Lib.hid hs13
          clear ch13 HC13
          have HOL13 := Lib.hid (hol13.base (w0 := v1) (HEB.out.p.now.1.1.1.2))
          have hb13 := HEB.out.read hg13 hu13
          have q13 := hb13.cell 4 _ rfl
          have f13 := hb13.thaw 4
          have l_13 := hb13.lt
          have hc13 := (hb13.more (Lat.ol HOL13.out HFX.out)).put (cs' := #[.int .u32 x1, .slice aA mA.length cA, .slice a5 l5.length c5, .slice aB mB.length cB, .slice a13 l13.length c13, .bool false, .string ⟨#[]⟩, .bool false, .bool false, .int .u64 0, .int .u64 0]) 4 (.slice a13 l13.length c13) rfl
          have HB13 := Lib.hid hc13
          clear hb13 hg13 hu13 hol13 hn13 hs13 hc13
          go_upto_region 22 with (fail)
          generalize w13.setCell ⟨w1.heap.size, 4, none⟩ (.slice a13 l13.length c13) = v13 at *
          clear q13 f13 l_13 HOL13
          have ch14 := (HB13.out.g).cell
          have HC14 := Lib.hid ((HB13.out.g).truth)
          go_wp2_with fail
          refine HC14.out.mono ?_
          rintro e w14 ⟨x14, s14, rfl, hs14, hg14, hu14⟩
          have HS14 := Lib.hid hs14
          clear HC14 ch14 hs14
          have hb14 := HB13.out.read hg14 hu14
          have q14 := hb14.cell 5 _ rfl
          have f14 := hb14.thaw 5
          have l14 := hb14.lt
          have HB14 := Lib.hid (hb14.put (cs' := #[.int .u32 x1, .slice aA mA.length cA, .slice a5 l5.length c5, .slice aB mB.length cB, .slice a13 l13.length c13, .bool x14, .string ⟨#[]⟩, .bool false, .bool false, .int .u64 0, .int .u64 0]) 5 (.bool x14) rfl)
          clear hb14 hg14 hu14
          go_upto_region 23 with (fail)
          generalize w14.setCell ⟨w1.heap.size, 5, none⟩ (.bool x14) = v14 at *
          clear q14 f14 l14
          have ch15 := (HB14.out.g).cell
          have HC15 := Lib.hid ((HB14.out.g).text 129 (by decide))
          go_wp2_with fail
          refine HC15.out.mono ?_
          rintro e w15 ⟨x15, s15, rfl, hx15, hs15, hg15, hu15⟩
          have HX15 := Lib.hid hx15
          have HS15 := Lib.hid hs15
          clear HC15 ch15 hx15 hs15
          have hb15 := HB14.out.read hg15 hu15
          have q15 := hb15.cell 6 _ rfl
          have f15 := hb15.thaw 6
          have l15 := hb15.lt
          have HB15 := Lib.hid (hb15.put (cs' := #[.int .u32 x1, .slice aA mA.length cA, .slice a5 l5.length c5, .slice aB mB.length cB, .slice a13 l13.length c13, .bool x14, .string x15, .bool false, .bool false, .int .u64 0, .int .u64 0]) 6 (.string x15) rfl)
          clear hb15 hg15 hu15
          go_upto_region 24 with (fail)
          generalize w15.setCell ⟨w1.heap.size, 6, none⟩ (.string x15) = v15 at *
          clear q15 f15 l15
          have ch16 := (HB15.out.g).cell
          have HC16 := Lib.hid ((HB15.out.g).truth)
          go_wp2_with fail
          refine HC16.out.mono ?_
          rintro e w16 ⟨x16, s16, rfl, hs16, hg16, hu16⟩
          have HS16 := Lib.hid hs16
          clear HC16 ch16 hs16
          have hb16 := HB15.out.read hg16 hu16
          have q16 := hb16.cell 7 _ rfl
          have f16 := hb16.thaw 7
          have l16 := hb16.lt
          have HB16 := Lib.hid (hb16.put (cs' := #[.int .u32 x1, .slice aA mA.length cA, .slice a5 l5.length c5, .slice aB mB.length cB, .slice a13 l13.length c13, .bool x14, .string x15, .bool x16, .bool false, .int .u64 0, .int .u64 0]) 7 (.bool x16) rfl)
          clear hb16 hg16 hu16
          go_upto_region 25 with (fail)
          generalize w16.setCell ⟨w1.heap.size, 7, none⟩ (.bool x16) = v16 at *
          clear q16 f16 l16
          have ch17 := (HB16.out.g).cell
          have HC17 := Lib.hid ((HB16.out.g).truth)
          go_wp2_with fail
          refine HC17.out.mono ?_
          rintro e w17 ⟨x17, s17, rfl, hs17, hg17, hu17⟩
          have HS17 := Lib.hid hs17
          clear HC17 ch17 hs17
          have hb17 := HB16.out.read hg17 hu17
          have q17 := hb17.cell 8 _ rfl
          have f17 := hb17.thaw 8
          have l17 := hb17.lt
          have HB17 := Lib.hid (hb17.put (cs' := #[.int .u32 x1, .slice aA mA.length cA, .slice a5 l5.length c5, .slice aB mB.length cB, .slice a13 l13.length c13, .bool x14, .string x15, .bool x16, .bool x17, .int .u64 0, .int .u64 0]) 8 (.bool x17) rfl)
          clear hb17 hg17 hu17
          go_upto_region 26 with (fail)
          generalize w17.setCell ⟨w1.heap.size, 8, none⟩ (.bool x17) = v17 at *
          clear q17 f17 l17
          have ch18 := (HB17.out.g).cell
          have HC18 := Lib.hid ((HB17.out.g).uint 18446744073709551615 (by decide))
          go_wp2_with fail
          refine HC18.out.mono ?_
          rintro e w18 ⟨x18, s18, rfl, hx18, hs18, hg18, hu18⟩
          have HX18 := Lib.hid hx18
          have HS18 := Lib.hid hs18
          have hxI18 : (0 : Int) ≤ x18 ∧ (x18 : Int) ≤ 18446744073709551615 := by omega
          clear HC18 ch18 hx18 hs18
          have hb18 := HB17.out.read hg18 hu18
          have q18 := hb18.cell 9 _ rfl
          have f18 := hb18.thaw 9
          have l18 := hb18.lt
          have HB18 := Lib.hid (hb18.put (cs' := #[.int .u32 x1, .slice aA mA.length cA, .slice a5 l5.length c5, .slice aB mB.length cB, .slice a13 l13.length c13, .bool x14, .string x15, .bool x16, .bool x17, .int .u64 x18, .int .u64 0]) 9 (.int .u64 x18) rfl)
          clear hb18 hg18 hu18
          go_upto_region 27 with (fail)
          generalize w18.setCell ⟨w1.heap.size, 9, none⟩ (.int .u64 x18) = v18 at *
          clear q18 f18 l18
          have ch19 := (HB18.out.g).cell
          have HC19 := Lib.hid ((HB18.out.g).uint 18446744073709551615 (by decide))
          go_wp2_with fail
          refine HC19.out.mono ?_
          rintro e w19 ⟨x19, s19, rfl, hx19, hs19, hg19, hu19⟩
          have HX19 := Lib.hid hx19
          have HS19 := Lib.hid hs19
          have hxI19 : (0 : Int) ≤ x19 ∧ (x19 : Int) ≤ 18446744073709551615 := by omega
          clear HC19 ch19 hx19 hs19
          have hb19 := HB18.out.read hg19 hu19
          have q19 := hb19.cell 10 _ rfl
          have f19 := hb19.thaw 10
          have l19 := hb19.lt
          have HB19 := Lib.hid (hb19.put (cs' := #[.int .u32 x1, .slice aA mA.length cA, .slice a5 l5.length c5, .slice aB mB.length cB, .slice a13 l13.length c13, .bool x14, .string x15, .bool x16, .bool x17, .int .u64 x18, .int .u64 x19]) 10 (.int .u64 x19) rfl)
          clear hb19 hg19 hu19
          go_upto_region 28 with (fail)
          generalize w19.setCell ⟨w1.heap.size, 10, none⟩ (.int .u64 x19) = v19 at *
          clear q19 f19 l19
          have gl : (ldAsk ⟨w1.heap.size, 0, none⟩).run Tryz.prog v19 = .ok (.agg #[.int .u32 x1, .slice aA mA.length cA, .slice a5 l5.length c5, .slice aB mB.length cB, .slice a13 l13.length c13, .bool x14, .string x15, .bool x16, .bool x17, .int .u64 x18, .int .u64 x19]) v19 := run_loadVar_agg v19 _ 0 11 _ 33 #[.int .u32 x1, .slice aA mA.length cA, .slice a5 l5.length c5, .slice aB mB.length cB, .slice a13 l13.length c13, .bool x14, .string x15, .bool x16, .bool x17, .int .u64 x18, .int .u64 x19] (0, 0) _ HB19.out.y Tryz.underlying33 rfl (by kernel_rfl) (show 0 + 11 ≤ 11 by decide)
          obtain ⟨zz, rz, hz0, hgz, huz, hul⟩ := HB19.out.back (fun _ h => h.1.1.1.1.1) rfl rfl (by kernel_rfl) (by exact List.all_eq_true.1 rfl) HLT.out
          change (stAsk _ _).run _ _ = _ at rz
          have HZ0 := Lib.hid hz0
          have HGZ := Lib.hid hgz
          have HUZ := Lib.hid huz
          have HUL := Lib.hid hul
          clear hz0 hgz huz hul
          have HLS : Hid (AskO w zz { MS0 with reads := (aA, cA), readAt := (a5, c5), edits := (aB, cB), editAt := (a13, c13) } ⟨x1, mA, l5, mB, l13, x14, x15, x16, x17, ⟨x18, x19⟩⟩) := Lib.hid (by
            obtain ⟨⟨⟨⟨⟨hrst, _⟩, hq1⟩, hq2⟩, hq3⟩, hq4⟩ := HB19.out.p.now
            have hwv : w.heap.size ≤ v1.heap.size := HWV.out
            have hf : ∀ b ∈ [w.heap.size], b < v1.heap.size := fun b hb => by rw [List.mem_singleton.1 hb]; exact HWL.out
            exact ⟨(hq1.updB HUL.out hf).base hwv, (hq2.updB HUL.out hf).base hwv, (hq3.updB HUL.out hf).base hwv, (hq4.updB HUL.out hf).base hwv⟩)
          go_wp2_with fail
          exact bodyPost_ret (results_cell_row rfl _ _ w.heap.size _ _ _ _ rfl HZ0.out Tryz.underlying33 rfl (by kernel_rfl)) rfl ⟨{ Mg.msg0 with ask := ⟨x1, mA, l5, mB, l13, x14, x15, x16, x17, ⟨x18, x19⟩⟩ }, { MS0 with reads := (aA, cA), readAt := (a5, c5), edits := (aB, cB), editAt := (a13, c13) }, rfl, s19, Step.isoD (Step.seqD HS1.out (Step.seqD HFIA.out (Step.seqD HS5.out (Step.seqD HFIB.out (Step.seqD HS13.out (Step.seqD HS14.out (Step.seqD HS15.out (Step.seqD HS16.out (Step.seqD HS17.out (show Step Mg.cRng.dec s17 (⟨x18, x19⟩ : Mg.Rng) s19 from Step.isoD (Step.seqD HS18.out HS19.out))))))))))), HGZ.out, HLS.out, HUZ.out⟩

end Go.Proofs.YtjgnomjjphkfbaaGreat
