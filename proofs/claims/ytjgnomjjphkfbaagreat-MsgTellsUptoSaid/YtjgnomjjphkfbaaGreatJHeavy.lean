/-
  Joined out of the texts MsgHeavy.
-/
import Derived.Test.YtjgnomjjphkfbaaGreatJMsg
import Derived.Test.YtjgnomjjphkfbaaGreatJRq
/-
  HEAVY: more of a message than a statement looks at.
-/
namespace Go.Proofs.YtjgnomjjphkfbaaGreat
open Go.RowKit

set_option maxRecDepth 20000 in
set_option maxHeartbeats 16000000 in
theorem heavy_any (s : MS) (x : Mg.Msg) (w : World) (ha : MsgA w s x) (ok : x.Fine) :
    Calls Tryz.prog 7 #[.agg (MV s x)] w fun e w' => (∃ h, e = .returned (.bool h) ∧ (h = false → Mg.Light x)) ∧ Below w.heap.size w w' := by
  obtain ⟨w0, hw0⟩ : ∃ w0, w0 = w.alloc (.cells (MV s x) 43 (0, 0)) := ⟨_, rfl⟩
  have HW0 := Lib.hid hw0
  have HB1 : Hid (w0.heap[w.heap.size]? = some (.cells (MV s x) 43 (0, 0))) := Lib.hid (by rw [hw0]; exact heap_alloc_new w _)
  have HBW : Hid (Below w.heap.size w w0) := Lib.hid (by rw [hw0]; exact ((Own.refl w).alloc _).below)
  have HA := Lib.hid ha
  have HOK := Lib.hid ok
  obtain ⟨Q, hQ⟩ : ∃ Q, Q = Mg.Light x := ⟨_, rfl⟩
  have HQ : Hid (Mg.lists x ≤ 600 → Mg.weight x ≤ 16384 → Q) := Lib.hid (fun h1 h2 => by rw [hQ]; exact ⟨h1, h2⟩)
  rw [← hQ]
  have hpartsI : (0 : Int) ≤ x.parts.length ∧ (x.parts.length : Int) ≤ 1048576 := by have := ok.parts.2; omega
  have hreadsI : (0 : Int) ≤ x.ask.reads.length ∧ (x.ask.reads.length : Int) ≤ 1048576 := by have := ok.reads.2; omega
  have hreadAtI : (0 : Int) ≤ x.ask.readAt.length ∧ (x.ask.readAt.length : Int) ≤ 1048576 := by have := ok.readAt.2; omega
  have heditsI : (0 : Int) ≤ x.ask.edits.length ∧ (x.ask.edits.length : Int) ≤ 1048576 := by have := ok.edits.2; omega
  have heditAtI : (0 : Int) ≤ x.ask.editAt.length ∧ (x.ask.editAt.length : Int) ≤ 1048576 := by have := ok.editAt.2; omega
  have hrowsI : (0 : Int) ≤ x.rows.length ∧ (x.rows.length : Int) ≤ 1048576 := by have := ok.rows.2; omega
  have hownI : (0 : Int) ≤ x.own.length ∧ (x.own.length : Int) ≤ 1048576 := by have := ok.own.2; omega
  have hgotI : (0 : Int) ≤ x.told.got.length ∧ (x.told.got.length : Int) ≤ 1048576 := by have := ok.got.2; omega
  have hnumbersI : (0 : Int) ≤ x.told.numbers.length ∧ (x.told.numbers.length : Int) ≤ 1048576 := by have := ok.numbers.2; omega
  have hnamesI : (0 : Int) ≤ x.told.names.length ∧ (x.told.names.length : Int) ≤ 1048576 := by have := ok.names.2; omega
  have HBY0 : Hid (∀ wz, Below w0.heap.size w0 wz → wz.heap[w.heap.size]? = some (.cells (MV s x) 43 (0, 0))) := Lib.hid (fun wz hz => (hz.block _ (blk_lt HB1.out)).trans HB1.out)
  have HBO : Hid (∀ wz, Below w0.heap.size w0 wz → Below w.heap.size w wz) := Lib.hid (fun wz hz => HBW.out.trans (hz.mono HBW.out.size))
  have HROW : Hid (∀ wz, Below w0.heap.size w0 wz → wz.cell? ⟨w.heap.size, 18, none⟩ = some (.slice s.rows.1 x.rows.length s.rows.2)) := Lib.hid (fun wz hz => by rw [cell_of_row _ _ _ _ _ _ (HBY0.out _ hz)]; rfl)
  clear hw0 ha ok hQ
  by_cases hs : Mg.lists x ≤ 600
  · have HS := Lib.hid hs
    have hsI : ¬ (600 : Int) < (x.parts.length : Int) + (x.ask.reads.length : Int) + (x.ask.readAt.length : Int) + (x.ask.edits.length : Int) + (x.ask.editAt.length : Int) + (x.rows.length : Int) + (x.own.length : Int) + (x.told.got.length : Int) + (x.told.numbers.length : Int) + (x.told.names.length : Int) := by unfold Mg.lists at hs; omega
    clear hs
    go_enter Tryz.func7, Tryz.ntmps7
    go_upto_region 1 with (fail)
    rw [← HW0.out]
    clear HW0
    have c6 : w0.cell? ⟨w.heap.size, 6, none⟩ = some (.slice s.parts.1 x.parts.length s.parts.2) := by rw [cell_of_row _ _ _ _ _ _ (HB1.out)]; rfl
    have c8 : w0.cell? ⟨w.heap.size, 8, none⟩ = some (.slice s.reads.1 x.ask.reads.length s.reads.2) := by rw [cell_of_row _ _ _ _ _ _ (HB1.out)]; rfl
    have c9 : w0.cell? ⟨w.heap.size, 9, none⟩ = some (.slice s.readAt.1 x.ask.readAt.length s.readAt.2) := by rw [cell_of_row _ _ _ _ _ _ (HB1.out)]; rfl
    have c10 : w0.cell? ⟨w.heap.size, 10, none⟩ = some (.slice s.edits.1 x.ask.edits.length s.edits.2) := by rw [cell_of_row _ _ _ _ _ _ (HB1.out)]; rfl
    have c11 : w0.cell? ⟨w.heap.size, 11, none⟩ = some (.slice s.editAt.1 x.ask.editAt.length s.editAt.2) := by rw [cell_of_row _ _ _ _ _ _ (HB1.out)]; rfl
    have c18 : w0.cell? ⟨w.heap.size, 18, none⟩ = some (.slice s.rows.1 x.rows.length s.rows.2) := by rw [cell_of_row _ _ _ _ _ _ (HB1.out)]; rfl
    have c20 : w0.cell? ⟨w.heap.size, 20, none⟩ = some (.slice s.own.1 x.own.length s.own.2) := by rw [cell_of_row _ _ _ _ _ _ (HB1.out)]; rfl
    have c24 : w0.cell? ⟨w.heap.size, 24, none⟩ = some (.slice s.got.1 x.told.got.length s.got.2) := by rw [cell_of_row _ _ _ _ _ _ (HB1.out)]; rfl
    have c25 : w0.cell? ⟨w.heap.size, 25, none⟩ = some (.slice s.numbers.1 x.told.numbers.length s.numbers.2) := by rw [cell_of_row _ _ _ _ _ _ (HB1.out)]; rfl
    have c26 : w0.cell? ⟨w.heap.size, 26, none⟩ = some (.slice s.names.1 x.told.names.length s.names.2) := by rw [cell_of_row _ _ _ _ _ _ (HB1.out)]; rfl
    have c13 : w0.cell? ⟨w.heap.size, 13, none⟩ = some (.string x.ask.pre) := by rw [cell_of_row _ _ _ _ _ _ (HB1.out)]; rfl
    have hpreI : (0 : Int) ≤ x.ask.pre.size ∧ (x.ask.pre.size : Int) ≤ 1073741824 := by have := HOK.out.pre; omega
    have hreadI : x.ask.reads.length ≤ 600 ∧ x.ask.edits.length ≤ 600 ∧ x.rows.length ≤ 600 ∧ x.told.got.length ≤ 600 ∧ x.told.names.length ≤ 600 := by have := HS.out; unfold Mg.lists at this; omega
    have HN := Lib.hid hreadI
    clear hreadI
    go_wp2_with fail
    obtain ⟨k0, hk0⟩ : ∃ k : Nat, k = x.ask.pre.size := ⟨_, rfl⟩
    have HK0 := Lib.hid hk0
    rw [← hk0]
    have HBX0 := Lib.hid (Below.refl w0.heap.size w0)
    have HKB0 : Hid ((0 : Int) ≤ k0 ∧ (k0 : Int) ≤ 1073741824) := Lib.hid (by rw [hk0]; exact hpreI)
    clear hk0 hpreI c13
    go_loopw [3, 4] (fun vn vi wr => ∃ (i k : Nat), i ≤ x.ask.reads.length ∧ vi = .int .i64 i ∧ vn = .int .i64 k ∧ k = k0 + Mg.tot Mg.wRd (x.ask.reads.take i) ∧ Below w0.heap.size w0 wr) (fun _ vi _ => x.ask.reads.length - (intOf vi).toNat)
    case atStart => exact ⟨0, _, Nat.zero_le _, rfl, rfl, by simp [Mg.tot], HBX0.out⟩
    case round =>
      obtain ⟨i, k, hi, rfl, rfl, hk, hbr⟩ := hrel
      have HK := Lib.hid hk
      have HBX1 := Lib.hid hbr
      have hkI : (0 : Int) ≤ k ∧ (k : Int) ≤ 645318836224 := by
        have h1 := Mg.tot_take_le Mg.wRd 1073741824 600 x.ask.reads i (fun a ha => (by have := (HOK.out.reads.1 a ha).a; unfold Mg.wRd; omega)) HN.out.1
        have h2 := HKB0.out
        omega
      have c8 : wr.cell? ⟨w.heap.size, 8, none⟩ = some (.slice s.reads.1 x.ask.reads.length s.reads.2) := by rw [cell_of_row _ _ _ _ _ _ ((HBY0.out _ hbr))]; rfl
      clear hk
      by_cases hlt : i < x.ask.reads.length
      · have hiI : (0 : Int) ≤ i ∧ (i : Int) < x.ask.reads.length := by omega
        obtain ⟨g, o, hg, hc⟩ := (HA.out.reads.keep (HBO.out _ hbr)).row i (by simpa using hlt)
        rw [hg] at c8
        obtain ⟨u, hu⟩ : ∃ u, u = x.ask.reads[i]'hlt := ⟨_, rfl⟩
        have e1 : (x.ask.reads.map Mg.Rd.cells)[i]'(by simpa using hlt) = Mg.Rd.cells u := by rw [List.getElem_map, hu]
        rw [e1] at hc
        have p0 : wr.cell? ⟨g, o + i * 2, none⟩ = some (.string u.p) := hc.cell 0 (by simp)
        have hz0 : (0 : Int) ≤ u.p.size ∧ (u.p.size : Int) ≤ 1073741824 := by have := (HOK.out.reads.1 u (by rw [hu]; exact List.getElem_mem _)).a; omega
        have HY : Hid (x.ask.reads[i]? = some u) := Lib.hid (by rw [List.getElem?_eq_getElem hlt, hu])
        clear hc e1 hu hlt hg hbr
        go_wp2_with fail
        go_roundw
        case rel =>
          refine ⟨i + 1, k + (u.p.size), by omega, by go_num, by go_num, ?_, HBX1.out⟩
          rw [Mg.tot_take Mg.wRd HY.out, HK.out]
          unfold Mg.wRd
          omega
        case measure => simp [intOf]; omega
      · obtain rfl : i = x.ask.reads.length := by omega
        obtain ⟨k1, hk1⟩ : ∃ q : Nat, q = k := ⟨_, rfl⟩
        rw [← hk1] at hkI
        have HK1 : Hid (k1 = k0 + Mg.tot Mg.wRd x.ask.reads) := Lib.hid (by have h1 := HK.out; rw [List.take_length] at h1; rw [hk1]; exact h1)
        have HKB1 : Hid ((0 : Int) ≤ k1 ∧ (k1 : Int) ≤ 645318836224) := Lib.hid hkI
        clear hbr HK hlt hi
        subst hk1
        have c10 : wr.cell? ⟨w.heap.size, 10, none⟩ = some (.slice s.edits.1 x.ask.edits.length s.edits.2) := by rw [cell_of_row _ _ _ _ _ _ ((HBY0.out _ HBX1.out))]; rfl
        go_wp2_with fail
        go_loopw [3, 5] (fun vn vi wr => ∃ (i k : Nat), i ≤ x.ask.edits.length ∧ vi = .int .i64 i ∧ vn = .int .i64 k ∧ k = k1 + Mg.tot Mg.wEd (x.ask.edits.take i) ∧ Below w0.heap.size w0 wr) (fun _ vi _ => x.ask.edits.length - (intOf vi).toNat)
        case atStart => exact ⟨0, _, Nat.zero_le _, rfl, rfl, by simp [Mg.tot], HBX1.out⟩
        case round =>
          obtain ⟨i, k, hi, rfl, rfl, hk, hbr⟩ := hrel
          have HK := Lib.hid hk
          have HBX2 := Lib.hid hbr
          have hkI : (0 : Int) ≤ k ∧ (k : Int) ≤ 1933809025024 := by
            have h1 := Mg.tot_take_le Mg.wEd 2147483648 600 x.ask.edits i (fun a ha => (by have h1 := (HOK.out.edits.1 a ha).b; have h2 := (HOK.out.edits.1 a ha).f; unfold Mg.wEd; omega)) HN.out.2.1
            have h2 := HKB1.out
            omega
          have c10 : wr.cell? ⟨w.heap.size, 10, none⟩ = some (.slice s.edits.1 x.ask.edits.length s.edits.2) := by rw [cell_of_row _ _ _ _ _ _ ((HBY0.out _ hbr))]; rfl
          clear hk
          by_cases hlt : i < x.ask.edits.length
          · have hiI : (0 : Int) ≤ i ∧ (i : Int) < x.ask.edits.length := by omega
            have hbd : Below w0.heap.size w0 wr.drew := hbr.trans ((Own.refl wr).drew.below.mono hbr.size)
            have HBD := Lib.hid hbd
            have c10' : wr.drew.cell? ⟨w.heap.size, 10, none⟩ = some (.slice s.edits.1 x.ask.edits.length s.edits.2) := by rw [cell_of_row _ _ _ _ _ _ ((HBY0.out _ hbd))]; rfl
            obtain ⟨g, o, hg, hc⟩ := (HA.out.edits.keep (HBO.out _ hbd)).row i (by simpa using hlt)
            rw [hg] at c10 c10'
            obtain ⟨u, hu⟩ : ∃ u, u = x.ask.edits[i]'hlt := ⟨_, rfl⟩
            have e1 : (x.ask.edits.map Mg.Ed.cells)[i]'(by simpa using hlt) = Mg.Ed.cells u := by rw [List.getElem_map, hu]
            rw [e1] at hc
            have p0 : wr.drew.cell? ⟨g, o + i * 6 + 1, none⟩ = some (.string u.p) := hc.cell 1 (by simp)
            have hz0 : (0 : Int) ≤ u.p.size ∧ (u.p.size : Int) ≤ 1073741824 := by have := (HOK.out.edits.1 u (by rw [hu]; exact List.getElem_mem _)).b; omega
            have p1 : wr.drew.cell? ⟨g, o + i * 6 + 5, none⟩ = some (.string u.t) := hc.cell 5 (by simp)
            have hz1 : (0 : Int) ≤ u.t.size ∧ (u.t.size : Int) ≤ 1073741824 := by have := (HOK.out.edits.1 u (by rw [hu]; exact List.getElem_mem _)).f; omega
            have HY : Hid (x.ask.edits[i]? = some u) := Lib.hid (by rw [List.getElem?_eq_getElem hlt, hu])
            clear hc e1 hu hlt hg hbr hbd
            go_wp2_with fail
            go_region
            all_goals
              go_wp2_with fail
              go_roundw
              case rel =>
                refine ⟨i + 1, k + (u.p.size + u.t.size), by omega, by go_num, by go_num, ?_, HBD.out⟩
                rw [Mg.tot_take Mg.wEd HY.out, HK.out]
                unfold Mg.wEd
                omega
              case measure => simp [intOf]; omega
          · obtain rfl : i = x.ask.edits.length := by omega
            obtain ⟨k2, hk2⟩ : ∃ q : Nat, q = k := ⟨_, rfl⟩
            rw [← hk2] at hkI
            have HK2 : Hid (k2 = k1 + Mg.tot Mg.wEd x.ask.edits) := Lib.hid (by have h1 := HK.out; rw [List.take_length] at h1; rw [hk2]; exact h1)
            have HKB2 : Hid ((0 : Int) ≤ k2 ∧ (k2 : Int) ≤ 1933809025024) := Lib.hid hkI
            clear hbr HK hlt hi
            subst hk2
            have c18 : wr.cell? ⟨w.heap.size, 18, none⟩ = some (.slice s.rows.1 x.rows.length s.rows.2) := by rw [cell_of_row _ _ _ _ _ _ ((HBY0.out _ HBX2.out))]; rfl
            go_wp2_with fail
            go_loopw [3, 6, 7] (fun vn vi _ wr => ∃ (i k : Nat), i ≤ x.rows.length ∧ vi = .int .i64 i ∧ vn = .int .i64 k ∧ k = k2 + Mg.tot Mg.wRow (x.rows.take i) ∧ Below w0.heap.size w0 wr) (fun _ vi _ _ => x.rows.length - (intOf vi).toNat)
            case atStart => exact ⟨0, _, Nat.zero_le _, rfl, rfl, by simp [Mg.tot], HBX2.out⟩
            case round =>
              obtain ⟨i, k, hi, rfl, rfl, hk, hbr⟩ := hrel
              have HK := Lib.hid hk
              have HBX3 := Lib.hid hbr
              have hkI : (0 : Int) ≤ k ∧ (k : Int) ≤ 675542522788839424 := by
                have h1 := Mg.tot_take_le Mg.wRow 1125900981633024 600 x.rows i (fun a ha => (Mg.wRow_le a (HOK.out.rows.1 a ha))) HN.out.2.2.1
                have h2 := HKB2.out
                omega
              have c18 : wr.cell? ⟨w.heap.size, 18, none⟩ = some (.slice s.rows.1 x.rows.length s.rows.2) := by rw [cell_of_row _ _ _ _ _ _ ((HBY0.out _ hbr))]; rfl
              clear hk
              by_cases hlt : i < x.rows.length
              · have hiI : (0 : Int) ≤ i ∧ (i : Int) < x.rows.length := by omega
                obtain ⟨xs, hrl, hrr⟩ := HA.out.rows
                obtain ⟨g, o, hg, hc⟩ := (hrl.keep (HBO.out _ hbr)).row i (by rw [hrr.1]; exact hlt)
                rw [hg] at c18
                have HG := Lib.hid hg
                obtain ⟨sy, cy, e1, hay⟩ := hrr.2 i hlt
                obtain ⟨u, hu⟩ : ∃ u, u = x.rows[i]'hlt := ⟨_, rfl⟩
                rw [← hu] at e1 hay
                rw [List.getElem?_eq_getElem (by rw [hrr.1]; exact hlt)] at e1
                rw [Option.some.inj e1] at hc
                have hup : u.Fine := by rw [hu]; exact HOK.out.rows.1 _ (List.getElem_mem _)
                have p0 : wr.cell? ⟨g, o + i * 3, none⟩ = some (.string u.p) := hc.cell 0 (by simp)
                have hz0 : (0 : Int) ≤ u.p.size ∧ (u.p.size : Int) ≤ 1073741824 := by have := hup.p; omega
                have hzl : (0 : Int) ≤ u.l.length ∧ (u.l.length : Int) ≤ 1048576 := by have := hup.l.2; omega
                have HU := Lib.hid hup
                have HAY := Lib.hid hay
                have HC : Hid (∀ wz, Below wr.heap.size wr wz → wz.cell? ⟨g, o + i * 3 + 1 + 1, none⟩ = some (.slice sy u.l.length cy)) := Lib.hid (fun wz hz => (hc.keep (hz.block _ hc.lt)).cell 2 (by simp))
                have HY : Hid (x.rows[i]? = some u) := Lib.hid (by rw [List.getElem?_eq_getElem hlt, hu])
                clear hc e1 hu hg hbr hrl hrr hup hay hlt
                go_wp2_with fail
                go_loopw [3, 7] (fun vn vm wq => ∃ (m q : Nat), m ≤ u.l.length ∧ vm = .int .i64 m ∧ vn = .int .i64 q ∧ q = k + u.p.size + Mg.tot Mg.wVer (u.l.take m) ∧ Below wr.heap.size wr wq) (fun _ vm _ => u.l.length - (intOf vm).toNat)
                case atStart => exact ⟨0, k + u.p.size, Nat.zero_le _, rfl, by go_num, by simp [Mg.tot], Below.refl _ _⟩
                case round =>
                  clear c18 p0
                  obtain ⟨m, q, hm, rfl, rfl, hq, hb2⟩ := hrel
                  have HQ2 := Lib.hid hq
                  have HB2 := Lib.hid hb2
                  have hqI : (0 : Int) ≤ q ∧ (q : Int) ≤ 676668423770472448 := by
                    have h1 := Mg.tot_row_le u HU.out m
                    omega
                  have hbz := HBX3.out.trans (hb2.mono HBX3.out.size)
                  have c18 := HROW.out _ hbz
                  rw [HG.out] at c18
                  have q2 := HC.out _ hb2
                  clear hq
                  by_cases hmt : m < u.l.length
                  · have hmI : (0 : Int) ≤ m ∧ (m : Int) < u.l.length := by omega
                    obtain ⟨g3, o3, rfl, hd⟩ := (HAY.out.keep (HBO.out _ hbz)).row m (by simpa using hmt)
                    obtain ⟨v, hv⟩ : ∃ v, v = u.l[m]'hmt := ⟨_, rfl⟩
                    have e1 : (u.l.map Mg.Ver.cells)[m]'(by simpa using hmt) = Mg.Ver.cells v := by rw [List.getElem_map, hv]
                    rw [e1] at hd
                    have t2 := hd.cell 2 (by simp)
                    simp only [List.getElem_cons_succ, List.getElem_cons_zero] at t2
                    have hz2 : (0 : Int) ≤ v.t.size ∧ (v.t.size : Int) ≤ 1073741824 := by have := (HU.out.l.1 v (by rw [hv]; exact List.getElem_mem _)).c; omega
                    have HV : Hid (u.l[m]? = some v) := Lib.hid (by rw [List.getElem?_eq_getElem hmt, hv])
                    clear hd e1 hv hmt hb2 hbz
                    go_wp2_with fail
                    go_roundw
                    case rel =>
                      refine ⟨m + 1, q + 1 + v.t.size, by omega, by go_num, by go_num, ?_, HB2.out⟩
                      rw [Mg.tot_take Mg.wVer HV.out, HQ2.out]
                      unfold Mg.wVer
                      omega
                    case measure => simp [intOf]; omega
                  · obtain rfl : m = u.l.length := by omega
                    have HBE := Lib.hid hbz
                    clear hb2 hbz hmt
                    go_wp2_with fail
                    go_roundw
                    case rel =>
                      refine ⟨i + 1, q, by omega, by go_num, rfl, ?_, HBE.out⟩
                      have h1 := HQ2.out
                      rw [List.take_length] at h1
                      rw [Mg.tot_take Mg.wRow HY.out, h1, HK.out]
                      unfold Mg.wRow
                      omega
                    case measure => simp [intOf]; omega
              · obtain rfl : i = x.rows.length := by omega
                obtain ⟨k3, hk3⟩ : ∃ q : Nat, q = k := ⟨_, rfl⟩
                rw [← hk3] at hkI
                have HK3 : Hid (k3 = k2 + Mg.tot Mg.wRow x.rows) := Lib.hid (by have h1 := HK.out; rw [List.take_length] at h1; rw [hk3]; exact h1)
                have HKB3 : Hid ((0 : Int) ≤ k3 ∧ (k3 : Int) ≤ 675542522788839424) := Lib.hid hkI
                clear hbr HK hlt hi
                subst hk3
                have c24 : wr.cell? ⟨w.heap.size, 24, none⟩ = some (.slice s.got.1 x.told.got.length s.got.2) := by rw [cell_of_row _ _ _ _ _ _ ((HBY0.out _ HBX3.out))]; rfl
                go_wp2_with fail
                go_loopw [3, 8] (fun vn vi wr => ∃ (i k : Nat), i ≤ x.told.got.length ∧ vi = .int .i64 i ∧ vn = .int .i64 k ∧ k = k3 + Mg.tot Mg.wGot (x.told.got.take i) ∧ Below w0.heap.size w0 wr) (fun _ vi _ => x.told.got.length - (intOf vi).toNat)
                case atStart => exact ⟨0, _, Nat.zero_le _, rfl, rfl, by simp [Mg.tot], HBX3.out⟩
                case round =>
                  obtain ⟨i, k, hi, rfl, rfl, hk, hbr⟩ := hrel
                  have HK := Lib.hid hk
                  have HBX4 := Lib.hid hbr
                  have hkI : (0 : Int) ≤ k ∧ (k : Int) ≤ 675543167033933824 := by
                    have h1 := Mg.tot_take_le Mg.wGot 1073741824 600 x.told.got i (fun a ha => (by have := (HOK.out.got.1 a ha).a.c; unfold Mg.wGot; omega)) HN.out.2.2.2.1
                    have h2 := HKB3.out
                    omega
                  have c24 : wr.cell? ⟨w.heap.size, 24, none⟩ = some (.slice s.got.1 x.told.got.length s.got.2) := by rw [cell_of_row _ _ _ _ _ _ ((HBY0.out _ hbr))]; rfl
                  clear hk
                  by_cases hlt : i < x.told.got.length
                  · have hiI : (0 : Int) ≤ i ∧ (i : Int) < x.told.got.length := by omega
                    obtain ⟨g, o, hg, hc⟩ := (HA.out.got.keep (HBO.out _ hbr)).row i (by simpa using hlt)
                    rw [hg] at c24
                    obtain ⟨u, hu⟩ : ∃ u, u = x.told.got[i]'hlt := ⟨_, rfl⟩
                    have e1 : (x.told.got.map Mg.Got.cells)[i]'(by simpa using hlt) = Mg.Got.cells u := by rw [List.getElem_map, hu]
                    rw [e1] at hc
                    have p0 : wr.cell? ⟨g, o + i * 4 + 2, none⟩ = some (.string u.v.t) := hc.cell 2 (by simp)
                    have hz0 : (0 : Int) ≤ u.v.t.size ∧ (u.v.t.size : Int) ≤ 1073741824 := by have := (HOK.out.got.1 u (by rw [hu]; exact List.getElem_mem _)).a.c; omega
                    have HY : Hid (x.told.got[i]? = some u) := Lib.hid (by rw [List.getElem?_eq_getElem hlt, hu])
                    clear hc e1 hu hlt hg hbr
                    go_wp2_with fail
                    go_roundw
                    case rel =>
                      refine ⟨i + 1, k + (u.v.t.size), by omega, by go_num, by go_num, ?_, HBX4.out⟩
                      rw [Mg.tot_take Mg.wGot HY.out, HK.out]
                      unfold Mg.wGot
                      omega
                    case measure => simp [intOf]; omega
                  · obtain rfl : i = x.told.got.length := by omega
                    obtain ⟨k4, hk4⟩ : ∃ q : Nat, q = k := ⟨_, rfl⟩
                    rw [← hk4] at hkI
                    have HK4 : Hid (k4 = k3 + Mg.tot Mg.wGot x.told.got) := Lib.hid (by have h1 := HK.out; rw [List.take_length] at h1; rw [hk4]; exact h1)
                    have HKB4 : Hid ((0 : Int) ≤ k4 ∧ (k4 : Int) ≤ 675543167033933824) := Lib.hid hkI
                    clear hbr HK hlt hi
                    subst hk4
                    have c26 : wr.cell? ⟨w.heap.size, 26, none⟩ = some (.slice s.names.1 x.told.names.length s.names.2) := by rw [cell_of_row _ _ _ _ _ _ ((HBY0.out _ HBX4.out))]; rfl
                    go_wp2_with fail
                    go_loopw [3, 9] (fun vn vi wr => ∃ (i k : Nat), i ≤ x.told.names.length ∧ vi = .int .i64 i ∧ vn = .int .i64 k ∧ k = k4 + Mg.tot Mg.wName (x.told.names.take i) ∧ Below w0.heap.size w0 wr) (fun _ vi _ => x.told.names.length - (intOf vi).toNat)
                    case atStart => exact ⟨0, _, Nat.zero_le _, rfl, rfl, by simp [Mg.tot], HBX4.out⟩
                    case round =>
                      obtain ⟨i, k, hi, rfl, rfl, hk, hbr⟩ := hrel
                      have HK := Lib.hid hk
                      have HBX5 := Lib.hid hbr
                      have hkI : (0 : Int) ≤ k ∧ (k : Int) ≤ 675543811279028224 := by
                        have h1 := Mg.tot_take_le Mg.wName 1073741824 600 x.told.names i (fun a ha => (by have := HOK.out.names.1 a ha; unfold Mg.wName; omega)) HN.out.2.2.2.2
                        have h2 := HKB4.out
                        omega
                      have c26 : wr.cell? ⟨w.heap.size, 26, none⟩ = some (.slice s.names.1 x.told.names.length s.names.2) := by rw [cell_of_row _ _ _ _ _ _ ((HBY0.out _ hbr))]; rfl
                      clear hk
                      by_cases hlt : i < x.told.names.length
                      · have hiI : (0 : Int) ≤ i ∧ (i : Int) < x.told.names.length := by omega
                        obtain ⟨g, o, hg, hc⟩ := (HA.out.names.keep (HBO.out _ hbr)).row i (by simpa using hlt)
                        rw [hg] at c26
                        obtain ⟨u, hu⟩ : ∃ u, u = x.told.names[i]'hlt := ⟨_, rfl⟩
                        have e1 : (x.told.names.map (fun a : ByteArray => [Value.string a]))[i]'(by simpa using hlt) = [.string u] := by rw [List.getElem_map, hu]
                        rw [e1] at hc
                        have p0 : wr.cell? ⟨g, o + i, none⟩ = some (.string u) := by have := hc.cell 0 (by simp); simpa using this
                        have hz0 : (0 : Int) ≤ u.size ∧ (u.size : Int) ≤ 1073741824 := by have := HOK.out.names.1 u (by rw [hu]; exact List.getElem_mem _); omega
                        have HY : Hid (x.told.names[i]? = some u) := Lib.hid (by rw [List.getElem?_eq_getElem hlt, hu])
                        clear hc e1 hu hlt hg hbr
                        go_wp2_with fail
                        go_roundw
                        case rel =>
                          refine ⟨i + 1, k + (u.size), by omega, by go_num, by go_num, ?_, HBX5.out⟩
                          rw [Mg.tot_take Mg.wName HY.out, HK.out]
                          unfold Mg.wName
                          omega
                        case measure => simp [intOf]; omega
                      · obtain rfl : i = x.told.names.length := by omega
                        obtain ⟨k5, hk5⟩ : ∃ q : Nat, q = k := ⟨_, rfl⟩
                        rw [← hk5] at hkI
                        have HK5 : Hid (k5 = k4 + Mg.tot Mg.wName x.told.names) := Lib.hid (by have h1 := HK.out; rw [List.take_length] at h1; rw [hk5]; exact h1)
                        have HKB5 : Hid ((0 : Int) ≤ k5 ∧ (k5 : Int) ≤ 675543811279028224) := Lib.hid hkI
                        clear hbr HK hlt hi
                        subst hk5
                        go_wp2_with fail
                        refine bodyPost_ret (v := .bool (decide ((16384 : Int) < k5))) (by simp [results, Tryz.results7, go_sem]) rfl ⟨⟨_, rfl, fun h => ?_⟩, HBO.out _ HBX5.out⟩
                        refine HQ.out HS.out ?_
                        have h0 := HK0.out
                        have h1 := HK1.out
                        have h2 := HK2.out
                        have h3 := HK3.out
                        have h4 := HK4.out
                        have h5 := HK5.out
                        have h6 := of_decide_eq_false h
                        unfold Mg.weight
                        omega
  · have hsI : (600 : Int) < (x.parts.length : Int) + (x.ask.reads.length : Int) + (x.ask.readAt.length : Int) + (x.ask.edits.length : Int) + (x.ask.editAt.length : Int) + (x.rows.length : Int) + (x.own.length : Int) + (x.told.got.length : Int) + (x.told.numbers.length : Int) + (x.told.names.length : Int) := by unfold Mg.lists at hs; omega
    clear hs HQ
    go_enter Tryz.func7, Tryz.ntmps7
    go_upto_region 1 with (fail)
    rw [← HW0.out]
    clear HW0
    have c6 : w0.cell? ⟨w.heap.size, 6, none⟩ = some (.slice s.parts.1 x.parts.length s.parts.2) := by rw [cell_of_row _ _ _ _ _ _ (HB1.out)]; rfl
    have c8 : w0.cell? ⟨w.heap.size, 8, none⟩ = some (.slice s.reads.1 x.ask.reads.length s.reads.2) := by rw [cell_of_row _ _ _ _ _ _ (HB1.out)]; rfl
    have c9 : w0.cell? ⟨w.heap.size, 9, none⟩ = some (.slice s.readAt.1 x.ask.readAt.length s.readAt.2) := by rw [cell_of_row _ _ _ _ _ _ (HB1.out)]; rfl
    have c10 : w0.cell? ⟨w.heap.size, 10, none⟩ = some (.slice s.edits.1 x.ask.edits.length s.edits.2) := by rw [cell_of_row _ _ _ _ _ _ (HB1.out)]; rfl
    have c11 : w0.cell? ⟨w.heap.size, 11, none⟩ = some (.slice s.editAt.1 x.ask.editAt.length s.editAt.2) := by rw [cell_of_row _ _ _ _ _ _ (HB1.out)]; rfl
    have c18 : w0.cell? ⟨w.heap.size, 18, none⟩ = some (.slice s.rows.1 x.rows.length s.rows.2) := by rw [cell_of_row _ _ _ _ _ _ (HB1.out)]; rfl
    have c20 : w0.cell? ⟨w.heap.size, 20, none⟩ = some (.slice s.own.1 x.own.length s.own.2) := by rw [cell_of_row _ _ _ _ _ _ (HB1.out)]; rfl
    have c24 : w0.cell? ⟨w.heap.size, 24, none⟩ = some (.slice s.got.1 x.told.got.length s.got.2) := by rw [cell_of_row _ _ _ _ _ _ (HB1.out)]; rfl
    have c25 : w0.cell? ⟨w.heap.size, 25, none⟩ = some (.slice s.numbers.1 x.told.numbers.length s.numbers.2) := by rw [cell_of_row _ _ _ _ _ _ (HB1.out)]; rfl
    have c26 : w0.cell? ⟨w.heap.size, 26, none⟩ = some (.slice s.names.1 x.told.names.length s.names.2) := by rw [cell_of_row _ _ _ _ _ _ (HB1.out)]; rfl
    go_wp2_with fail
    exact bodyPost_ret (v := .bool true) (by simp [results, Tryz.results7, go_sem]) rfl ⟨⟨true, rfl, fun h => by cases h⟩, HBW.out⟩

end Go.Proofs.YtjgnomjjphkfbaaGreat
