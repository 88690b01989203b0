/-
  Joined out of the texts MsgHidden MsgRMask.
-/
import Derived.Test.YtjgnomjjphkfbaaGreatJTurned
import Derived.Test.YtjgnomjjphkfbaaGreatJPlain
import Derived.Test.YtjgnomjjphkfbaaGreatJMaskL
import Derived.Test.YtjgnomjjphkfbaaGreatJREnc
import Derived.Test.YtjgnomjjphkfbaaGreatJRdLx
/-
  THE DOCUMENT's ANSWER (scriniumref20): a text, masked.
-/
namespace Go.Proofs.YtjgnomjjphkfbaaGreat
open Go.RowKit

theorem hid_set (l : List UInt8) (i : Nat) (h : i < l.length) : (l.take i ++ List.replicate (l.length - i) 0).set i l[i] = l.take (i + 1) ++ List.replicate (l.length - (i + 1)) 0 := by
  have hl : (l.take i).length = i := by rw [List.length_take]; omega
  rw [List.set_append, if_neg (by omega), hl, Nat.sub_self, show l.length - i = (l.length - (i + 1)) + 1 by omega, List.replicate_succ, List.set_cons_zero, List.take_succ_eq_append_getElem h, List.append_assoc]
  rfl
set_option maxRecDepth 20000 in
set_option maxHeartbeats 4000000 in
theorem hidden_any (t : ByteArray) (w : World) (ht : t.size ≤ 1073741824) :
    Calls Tryz.prog 42 #[.string t] w fun e w' => e = .returned (.string (Mg.hide t)) ∧ Below w.heap.size w w' := by
  have hmk := run_make_bytes (P := Tryz.prog) w 76 5 t.size Tryz.underlying76 (by kernel_rfl) (by omega)
  have hmz : MarkIs (w.alloc (.cells (zeroCells t.size) 5)) w.heap.size 5 (some ⟨w.heap.size, 0, none⟩) t.size t.size ((L t).take 0 ++ List.replicate ((L t).length - 0) 0) := by
    refine ⟨by simp, .inr ⟨w.heap.size, _, _, rfl, Nat.le_refl _, heap_alloc_new w _, fun j _ h => by simp only at h; omega, Nat.le_refl _, by unfold maxLen; omega, ?_, ?_⟩⟩
    · simp [zeroCells]
    · simp [zeroCells, by8]
  have HMZ := Lib.hid hmz
  have HB0 : Hid (Below w.heap.size w (w.alloc (.cells (zeroCells t.size) 5))) := Lib.hid ((Own.refl w).alloc _).below
  have htI : (0 : Int) ≤ t.size ∧ (t.size : Int) ≤ 1073741824 := by omega
  clear hmz ht
  go_enter Tryz.func42, Tryz.ntmps42
  go_wp2_with fail
  go_loopw [4] (fun vi wr => ∃ i : Nat, i ≤ t.size ∧ i ≤ 5 ∧ vi = .int .i64 i ∧ MarkIs wr w.heap.size 5 (some ⟨w.heap.size, 0, none⟩) t.size t.size ((L t).take i ++ List.replicate ((L t).length - i) 0) ∧ Below w.heap.size w wr) (fun vi _ => 5 - (intOf vi).toNat)
  case atStart => exact ⟨0, Nat.zero_le _, by decide, rfl, HMZ.out, HB0.out⟩
  case round =>
    clear HMZ HB0 hmk
    obtain ⟨i, hi, h5, rfl, hm, hb⟩ := hrel
    have HM := Lib.hid hm
    have HB := Lib.hid hb
    have hiI : (0 : Int) ≤ i ∧ (i : Int) ≤ 5 := by omega
    have hii : (i : Int) ≤ t.size := by omega
    clear hm hb
    by_cases hlt : i < t.size
    · have hlI : (i : Int) < t.size := by omega
      by_cases hl5 : i < 5
      · have h5I : (i : Int) < 5 := by omega
        have hL : i < (L t).length := by rw [L_size]; exact hlt
        have hil : i < ((L t).take i ++ List.replicate ((L t).length - i) 0).length := by simp; omega
        obtain ⟨m1, m2, m3, m4⟩ := HM.out.byte i hil
        have hset := HM.out.set i hil ((L t)[i])
        obtain ⟨qq, hqq⟩ : ∃ qq, qq = ((L t).take i ++ List.replicate ((L t).length - i) 0)[i]'hil := ⟨_, rfl⟩
        rw [← hqq] at m1
        rw [hid_set _ _ hL] at hset
        have hbs : Below w.heap.size w (wr.setCell ⟨w.heap.size, i, none⟩ (.int .u8 (by8 (L t)[i]))) := ⟨HB.out.os, HB.out.tape, HB.out.output, by simp [World.setCell]; exact HB.out.size, fun k hk => by rw [heap_setCell_other _ _ _ _ (by show k ≠ w.heap.size; omega)]; exact HB.out.block k hk⟩
        have hg : (L t)[i] = t[i] := L_get t i hlt
        rw [hg] at hset hbs
        have HSET := Lib.hid hset
        have HBS := Lib.hid hbs
        clear hset hbs hg hqq hil
        go_wp2_with fail
        go_roundw
        case rel => exact ⟨i + 1, by omega, by omega, by go_num, HSET.out, HBS.out⟩
        case measure => simp [intOf]; omega
      · obtain rfl : i = 5 := by omega
        have hcv := HM.out.text0 (P := Tryz.prog) 76 9 Tryz.underlying76 Tryz.underlying5 Tryz.underlying9
        have h5I : ¬ ((5 : Nat) : Int) < 5 := by omega
        go_wp2_with fail
        exact bodyPost_ret (v := .string ⟨((L t).take 5 ++ List.replicate ((L t).length - 5) 0).toArray⟩) (by simp [results, Tryz.results42, go_sem]) rfl ⟨rfl, HB.out⟩
    · obtain rfl : i = t.size := by omega
      have hcv := HM.out.text0 (P := Tryz.prog) 76 9 Tryz.underlying76 Tryz.underlying5 Tryz.underlying9
      have HE : Hid (Mg.hide t = ⟨((L t).take t.size ++ List.replicate ((L t).length - t.size) 0).toArray⟩) := Lib.hid (by
        apply Mg.L_inj
        rw [Mg.L_hide]
        show _ = (L t).take t.size ++ List.replicate ((L t).length - t.size) 0
        rw [List.take_of_length_le (by rw [L_size]; omega), List.take_of_length_le (by rw [L_size]; omega), L_size, Nat.sub_self, show t.size - 5 = 0 by omega])
      go_wp2_with fail
      exact bodyPost_ret (v := .string ⟨((L t).take t.size ++ List.replicate ((L t).length - t.size) 0).toArray⟩) (by simp [results, Tryz.results42, go_sem]) rfl ⟨by rw [HE.out], HB.out⟩

end Go.Proofs.YtjgnomjjphkfbaaGreat

/-
  THE DOCUMENT's ANSWER (scriniumref20): a message, masked.
-/
namespace Go.Proofs.YtjgnomjjphkfbaaGreat
open Go.RowKit

attribute [local go_sem ↓ high] ldMsg_eq
attribute [local go_sem ↓ high] stMsg_eq
attribute [local go_sem ↓ high] appSem_eq
set_option maxRecDepth 20000 in
set_option maxHeartbeats 16000000 in
theorem ref_mask (s : MS) (x : Mg.Msg) (w : World) (ha : MsgA w s x) (ok : x.Good) :
    Calls Tryz.prog 16 #[.agg (MV s x)] w fun e w' => ∃ s' : MS, e = .returned (.agg (MV s' (Mg.mask x))) ∧ MsgA w' s' (Mg.mask x) ∧ Below w.heap.size w w' := by
  obtain ⟨w0, hw0⟩ : ∃ y, y = (w.alloc (.cells (MV s x) 43 (0, 0))).alloc (.cells Z28 43 (0, 0)) := ⟨_, rfl⟩
  have HW0 := Lib.hid hw0
  have HM0 : Hid (w0.heap[w.heap.size]? = some (.cells (MV s x) 43 (0, 0))) := Lib.hid (by rw [hw0, Below.heap_alloc _ _ _ (by simp)]; exact heap_alloc_new w _)
  have HR0 : Hid (w0.heap[w.heap.size + 1]? = some (.cells Z28 43 (0, 0))) := Lib.hid (by
    rw [hw0]
    have := heap_alloc_new (w.alloc (.cells (MV s x) 43 (0, 0))) (.cells Z28 43 (0, 0))
    rw [World.size_alloc] at this
    exact this)
  have HS0 : Hid (w0.heap.size = w.heap.size + 2) := Lib.hid (by rw [hw0, World.size_alloc, World.size_alloc])
  have HB0 : Hid (Below w.heap.size w w0) := Lib.hid (by rw [hw0]; exact (((Own.refl w).alloc _).alloc _).below)
  have HA : Hid (∀ wz, Below w.heap.size w wz → MsgA wz s x) := Lib.hid (fun wz hz => ha.keep hz)
  have HOK := Lib.hid ok
  have hedI : (0 : Int) ≤ x.ask.edits.length ∧ (x.ask.edits.length : Int) ≤ 100000 := by have := ok.edits.2; omega
  have hgoI : (0 : Int) ≤ x.told.got.length ∧ (x.told.got.length : Int) ≤ 100000 := by have := ok.got.2; omega
  have hroI : (0 : Int) ≤ x.rows.length ∧ (x.rows.length : Int) ≤ 100000 := by have := ok.rows.2; omega
  have c10 : w0.cell? ⟨w.heap.size, 10, none⟩ = some (.slice s.edits.1 x.ask.edits.length s.edits.2) := by rw [cell_of_row _ _ _ _ _ _ HM0.out]; rfl
  clear hw0 ha ok
  go_enter Tryz.func16, Tryz.ntmps16
  go_upto_region 1 with (fail)
  rw [← HW0.out]
  clear HW0
  go_wp2_with fail
  clear c10
  have HRZ0 := HR0
  obtain ⟨inf0, hin0, hz00, hz10, hz20⟩ := info_parts inf_edit
  have HIN0 := Lib.hid (And.intro hin0 (And.intro hz00 (And.intro hz10 hz20)))
  clear hin0 hz00 hz10 hz20
  have HC0 : Hid (∀ wz, Below w0.heap.size w0 wz → wz.cell? ⟨w.heap.size, 10, none⟩ = some (.slice s.edits.1 x.ask.edits.length s.edits.2)) := Lib.hid (fun wz hz => by rw [cell_of_row _ _ _ _ _ _ ((hz.block _ (blk_lt HM0.out)).trans HM0.out)]; rfl)
  go_loopw [3, 4] (fun vs vi wr => ∃ (i : Nat) (a : Option Addr) (cap : Nat), i ≤ x.ask.edits.length ∧ vi = .int .i64 i ∧ vs = .slice a i cap ∧ OL w0 wr 59 6 a cap (((x.ask.edits.take i).map Mg.hideE).map Mg.Ed.cells) ∧ Below w0.heap.size w0 wr) (fun _ vi _ => x.ask.edits.length - (intOf vi).toNat)
  case atStart => exact ⟨0, none, 0, Nat.zero_le _, rfl, rfl, OL.nil _ _ _ _, Below.refl _ _⟩
  case round =>
    obtain ⟨i, a0, cap0, hi, rfl, rfl, hol, hbr⟩ := hrel
    have HOL0 := Lib.hid hol
    have HBR0 := Lib.hid hbr
    have HBW0 := Lib.hid (HB0.out.trans (hbr.mono HB0.out.size))
    have ce := HC0.out _ hbr
    clear hol hbr
    by_cases hlt : i < x.ask.edits.length
    · have hiI : (0 : Int) ≤ i ∧ (i : Int) < x.ask.edits.length := by omega
      obtain ⟨g, o, hg, hc⟩ := (HA.out _ HBW0.out).edits.row i (by simpa using hlt)
      rw [hg] at ce
      obtain ⟨u, hu⟩ : ∃ u, u = x.ask.edits[i]'hlt := ⟨_, rfl⟩
      have e1 : (x.ask.edits.map Mg.Ed.cells)[i]'(by simpa using hlt) = Mg.Ed.cells u := by rw [List.getElem_map, hu]
      rw [e1] at hc
      have p0 : wr.cell? ⟨g, o + i * 6, none⟩ = some (.int .u8 u.kind) := hc.cell 0 (by simp)
      have p1 : wr.cell? ⟨g, o + i * 6 + 1, none⟩ = some (.string u.p) := hc.cell 1 (by simp)
      have p2 : wr.cell? ⟨g, o + i * 6 + 2, none⟩ = some (.bool u.any) := hc.cell 2 (by simp)
      have p3 : wr.cell? ⟨g, o + i * 6 + 3, none⟩ = some (.int .u64 u.want) := hc.cell 3 (by simp)
      have p4 : wr.cell? ⟨g, o + i * 6 + 4, none⟩ = some (.int .u64 u.n) := hc.cell 4 (by simp)
      have p5 : wr.cell? ⟨g, o + i * 6 + 5, none⟩ = some (.string u.t) := hc.cell 5 (by simp)
      have hug : u.Good := by rw [hu]; exact HOK.out.edits.1 _ (List.getElem_mem _)
      have HUG := Lib.hid hug
      have HY : Hid (x.ask.edits[i]? = some u) := Lib.hid (by rw [List.getElem?_eq_getElem hlt, hu])
      have HLEN : Hid ((((x.ask.edits.take i).map Mg.hideE).map Mg.Ed.cells).length = i) := Lib.hid (by rw [List.length_map, List.length_map, List.length_take]; omega)
      have hi6 : i ≤ 100000 := by omega
      have HI6 := Lib.hid hi6
      clear hc e1 hu hug hlt hg hi6
      have HW7 : Hid (w0.heap.size ≤ wr.heap.size) := Lib.hid HBR0.out.size
      go_wp2_with fail
      obtain ⟨w1, hw1⟩ : ∃ y, y = wr.alloc (.cells (Mg.Ed.cells u).toArray 59 (0, 0)) := ⟨_, rfl⟩
      have hblk : w1.heap[wr.heap.size]? = some (.cells (Mg.Ed.cells u).toArray 59 (0, 0)) := by rw [hw1]; exact heap_alloc_new wr _
      have hb1 : Below wr.heap.size wr w1 := by rw [hw1]; exact ((Own.refl wr).alloc _).below
      have hsz1 : w1.heap.size = wr.heap.size + 1 := by rw [hw1]; exact World.size_alloc _ _
      have htu := hidden_any u.t w1 HUG.out.f
      rw [hw1] at htu
      refine htu.mono ?_
      rw [← hw1]
      clear htu hw1
      rintro e w2 ⟨rfl, hv⟩
      have hbk2 := (hv.block _ (by rw [hsz1]; omega : wr.heap.size < w1.heap.size)).trans hblk
      have q5 : w2.cell? ⟨wr.heap.size, 5, none⟩ = some (.string u.t) := by rw [cell_of_row _ _ _ _ _ _ hbk2]; rfl
      have f5 : w2.frozen? ⟨wr.heap.size, 5, none⟩ = false := frozen_of_row w2 _ 5 _ _ hbk2
      obtain ⟨w3, hw3⟩ : ∃ y, y = w2.setCell ⟨wr.heap.size, 5, none⟩ (.string (Mg.hide u.t)) := ⟨_, rfl⟩
      have hbk3 : w3.heap[wr.heap.size]? = some (.cells (Mg.Ed.cells (Mg.hideE u)).toArray 59 (0, 0)) := by rw [hw3, heap_set _ hbk2]; rfl
      have hb3 : Below wr.heap.size wr w3 := by rw [hw3]; exact below_upd ((hb1.trans (hv.mono (by rw [hsz1]; omega)))) ((Upd.refl w2 [wr.heap.size]).setCell (.inl (by simp)) _) (by simp)
      have hs32 : w3.heap.size = w2.heap.size := by rw [hw3]; simp [World.setCell]
      have hol3 := HOL0.out.keep hb3
      obtain ⟨s4, cap4, w4, hrun, hol4, hk4⟩ := ol_push2 (P := Tryz.prog) (T := 29) Tryz.underlying29 HIN0.out.1 HIN0.out.2.1 HIN0.out.2.2.1 HIN0.out.2.2.2 rfl (by decide) (by decide) (w := w0) (W := w3) (Nat.le_trans HW7.out hb3.size) hol3 (Mg.Ed.cells (Mg.hideE u)) rfl (one_ed _) (by rw [HLEN.out]; exact HI6.out)
      rw [HLEN.out, hs32] at hrun
      have HBD : Hid (Below w0.heap.size w0 w4) := Lib.hid (below_upd (HBR0.out.trans (hb3.mono HBR0.out.size)) hk4.upd (fun b hb => HOL0.out.far b hb))
      have HOL4 : Hid (OL w0 w4 59 6 s4 cap4 (((x.ask.edits.take (i + 1)).map Mg.hideE).map Mg.Ed.cells)) := Lib.hid (by
        rw [List.take_add_one, HY.out, List.map_append, List.map_append]
        exact hol4)
      have hrun2 : (appSem #[29, 29] 29 #[.slice a0 i cap0, .slice (some ⟨w2.heap.size, 0, none⟩) 1 1]).run Tryz.prog ((w2.setCell ⟨wr.heap.size, 5, none⟩ (.string (Mg.hide u.t))).alloc (.cells #[.int .u8 u.kind, .string u.p, .bool u.any, .int .u64 u.want, .int .u64 u.n, .string (Mg.hide u.t)] 59 (0, 0))) = .ok (.slice s4 (i + 1) cap4) w4 := by
        rw [← hw3]
        exact hrun
      have x0 : (w2.setCell ⟨wr.heap.size, 5, none⟩ (.string (Mg.hide u.t))).cell? ⟨wr.heap.size, 0, none⟩ = some (.int .u8 u.kind) := by rw [← hw3, cell_of_row _ _ _ _ _ _ hbk3]; rfl
      have x1 : (w2.setCell ⟨wr.heap.size, 5, none⟩ (.string (Mg.hide u.t))).cell? ⟨wr.heap.size, 1, none⟩ = some (.string u.p) := by rw [← hw3, cell_of_row _ _ _ _ _ _ hbk3]; rfl
      have x2 : (w2.setCell ⟨wr.heap.size, 5, none⟩ (.string (Mg.hide u.t))).cell? ⟨wr.heap.size, 2, none⟩ = some (.bool u.any) := by rw [← hw3, cell_of_row _ _ _ _ _ _ hbk3]; rfl
      have x3 : (w2.setCell ⟨wr.heap.size, 5, none⟩ (.string (Mg.hide u.t))).cell? ⟨wr.heap.size, 3, none⟩ = some (.int .u64 u.want) := by rw [← hw3, cell_of_row _ _ _ _ _ _ hbk3]; rfl
      have x4 : (w2.setCell ⟨wr.heap.size, 5, none⟩ (.string (Mg.hide u.t))).cell? ⟨wr.heap.size, 4, none⟩ = some (.int .u64 u.n) := by rw [← hw3, cell_of_row _ _ _ _ _ _ hbk3]; rfl
      have x5 : (w2.setCell ⟨wr.heap.size, 5, none⟩ (.string (Mg.hide u.t))).cell? ⟨wr.heap.size, 5, none⟩ = some (.string (Mg.hide u.t)) := by rw [← hw3, cell_of_row _ _ _ _ _ _ hbk3]; rfl
      clear hb3 hb1 hbk2 hbk3 hblk hsz1 hs32 hol3 hol4 hk4 hrun hw3 hv
      go_wp2_with fail
      go_roundw
      case rel => exact ⟨i + 1, s4, cap4, by omega, by go_num, rfl, HOL4.out, HBD.out⟩
      case measure => simp [intOf]; omega
    · obtain rfl : i = x.ask.edits.length := by omega
      have HLZ0 : Hid ((x.ask.edits.map Mg.hideE).length = x.ask.edits.length) := Lib.hid (List.length_map _)
      have holz := HOL0.out
      rw [List.take_length] at holz
      have hm := (HBR0.out.block _ (blk_lt HM0.out)).trans HM0.out
      have q9 : wr.cell? ⟨w.heap.size, 10, none⟩ = some (.slice s.edits.1 x.ask.edits.length s.edits.2) := by rw [cell_of_row _ _ _ _ _ _ hm]; rfl
      have f9 : wr.frozen? ⟨w.heap.size, 10, none⟩ = false := frozen_of_row wr _ 10 _ _ hm
      obtain ⟨v1, hv8⟩ : ∃ y, y = wr.setCell ⟨w.heap.size, 10, none⟩ (.slice a0 x.ask.edits.length cap0) := ⟨_, rfl⟩
      have hup : Upd wr v1 [w.heap.size] := by rw [hv8]; exact (Upd.refl wr [w.heap.size]).setCell (.inl (by simp)) _
      have hm8 : v1.heap[w.heap.size]? = some (.cells (MV { s with edits := (a0, cap0) } { x with ask := { x.ask with edits := x.ask.edits.map Mg.hideE } }) 43 (0, 0)) := by
        rw [hv8, heap_set _ hm, ← HLZ0.out]
        rfl
      have HM1 := Lib.hid hm8
      have HWB1 : Hid (Below w.heap.size w v1) := Lib.hid (below_upd HBW0.out hup (fun b hb => by rw [List.mem_singleton.1 hb]; exact Nat.le_refl _))
      have HRZ1 : Hid (v1.heap[w.heap.size + 1]? = some (.cells Z28 43 (0, 0))) := Lib.hid ((hup.keep _ (blk_lt ((HBR0.out.block _ (blk_lt HRZ0.out)).trans HRZ0.out)) (by simp)).trans ((HBR0.out.block _ (blk_lt HRZ0.out)).trans HRZ0.out))
      have HSB1 : Hid (w0.heap.size ≤ v1.heap.size) := Lib.hid (Nat.le_trans (Nat.le_refl _) (Nat.le_trans HBR0.out.size hup.size))
      have hfar : ∀ b ∈ [w.heap.size], b < w0.heap.size := fun b hb => by have := List.mem_singleton.1 hb; have := HS0.out; omega
      have HOE1 := Lib.hid (holz.updB hup hfar)
      clear holz
      clear hm hup hm8 hlt hfar
      go_upto_region 9 with (fail)
      rw [← hv8]
      clear hv8 q9 f9 ce
      obtain ⟨inf2, hin2, hz02, hz12, hz22⟩ := info_parts inf_row
      have HIN2 := Lib.hid (And.intro hin2 (And.intro hz02 (And.intro hz12 hz22)))
      clear hin2 hz02 hz12 hz22
      obtain ⟨inf3, hin3, hz03, hz13, hz23⟩ := info_parts inf_version
      have HIN3 := Lib.hid (And.intro hin3 (And.intro hz03 (And.intro hz13 hz23)))
      clear hin3 hz03 hz13 hz23
      have HC2 : Hid (∀ wz, Below v1.heap.size v1 wz → wz.cell? ⟨w.heap.size, 18, none⟩ = some (.slice s.rows.1 x.rows.length s.rows.2)) := Lib.hid (fun wz hz => by rw [cell_of_row _ _ _ _ _ _ ((hz.block _ (blk_lt HM1.out)).trans HM1.out)]; rfl)
      have ce := HC2.out _ (Below.refl _ _)
      go_wp2_with fail
      clear ce
      go_loopw [6, 7, 9, 10] (fun vs vi _ _ wr => ∃ (i : Nat) (a : Option Addr) (cap : Nat) (xs : List (List Value)), i ≤ x.rows.length ∧ vi = .int .i64 i ∧ vs = .slice a i cap ∧ xs.length = i ∧ OL v1 wr 72 3 a cap xs ∧ RowsO v1 wr ((x.rows.take i).map Mg.hideR) xs ∧ Below v1.heap.size v1 wr) (fun _ vi _ _ _ => x.rows.length - (intOf vi).toNat)
      case atStart => exact ⟨0, none, 0, [], Nat.zero_le _, rfl, rfl, rfl, OL.nil _ _ _ _, RowsO.nil _ _, Below.refl _ _⟩
      case round =>
        obtain ⟨i, a2, cap2, xs2, hi, rfl, rfl, hxl, hol, hro, hbr⟩ := hrel
        have HXL := Lib.hid hxl
        have HOL2 := Lib.hid hol
        have HRO2 := Lib.hid hro
        have HBR2 := Lib.hid hbr
        have HBW2 := Lib.hid (HWB1.out.trans (hbr.mono HWB1.out.size))
        have ce := HC2.out _ hbr
        clear hxl hol hro hbr
        by_cases hlt : i < x.rows.length
        · have hiI : (0 : Int) ≤ i ∧ (i : Int) < x.rows.length := by omega
          obtain ⟨xs0, hra, hrr⟩ := (HA.out _ HBW2.out).rows
          obtain ⟨g, o, hg, hc⟩ := hra.row i (by rw [hrr.1]; exact hlt)
          rw [hg] at ce
          obtain ⟨sv, cv, e1, hav⟩ := hrr.2 i hlt
          obtain ⟨u, hu⟩ : ∃ u, u = x.rows[i]'hlt := ⟨_, rfl⟩
          rw [← hu] at e1 hav
          rw [List.getElem?_eq_getElem (by rw [hrr.1]; exact hlt)] at e1
          rw [Option.some.inj e1] at hc
          have p0 : wr.cell? ⟨g, o + i * 3, none⟩ = some (.string u.p) := hc.cell 0 (by simp)
          have p1 : wr.cell? ⟨g, o + i * 3 + 1, none⟩ = some (.int .u64 u.last) := hc.cell 1 (by simp)
          have p2 : wr.cell? ⟨g, o + i * 3 + 2, none⟩ = some (.slice sv u.l.length cv) := hc.cell 2 (by simp)
          have hug : u.Good := by rw [hu]; exact HOK.out.rows.1 _ (List.getElem_mem _)
          have HUG := Lib.hid hug
          have hulI : (0 : Int) ≤ u.l.length ∧ (u.l.length : Int) ≤ 100000 := by have := hug.d; omega
          have HY : Hid (x.rows[i]? = some u) := Lib.hid (by rw [List.getElem?_eq_getElem hlt, hu])
          have HAV := Lib.hid hav
          have hi6 : i ≤ 100000 := by omega
          have HI6 := Lib.hid hi6
          have HW7 : Hid (v1.heap.size ≤ wr.heap.size) := Lib.hid HBR2.out.size
          clear hc e1 hu hug hlt hg hi6 hav hra hrr
          obtain ⟨w1, hw1⟩ : ∃ y, y = wr.alloc (.cells #[.string u.p, .int .u64 u.last, .slice sv u.l.length cv] 72 (0, 0)) := ⟨_, rfl⟩
          have HBK : Hid (w1.heap[wr.heap.size]? = some (.cells #[.string u.p, .int .u64 u.last, .slice sv u.l.length cv] 72 (0, 0))) := Lib.hid (by rw [hw1]; exact heap_alloc_new wr _)
          have HB1 : Hid (Below wr.heap.size wr w1) := Lib.hid (by rw [hw1]; exact ((Own.refl wr).alloc _).below)
          have HSZ1 : Hid (w1.heap.size = wr.heap.size + 1) := Lib.hid (by rw [hw1]; exact World.size_alloc _ _)
          have y2 : w1.cell? ⟨wr.heap.size, 2, none⟩ = some (.slice sv u.l.length cv) := by rw [cell_of_row _ _ _ _ _ _ HBK.out]; rfl
          obtain ⟨wk, hwk⟩ : ∃ y, y = wr := ⟨_, rfl⟩
          subst hwk
          go_upto_region 14 with (fail)
          rw [← hw1]
          clear hw1 p0 p1 p2 ce
          go_wp2_with fail
          go_loopw [9, 10] (fun vs vm wq => ∃ (m : Nat) (a : Option Addr) (cap : Nat), m ≤ u.l.length ∧ vm = .int .i64 m ∧ vs = .slice a m cap ∧ OL w1 wq 62 3 a cap (((u.l.take m).map Mg.hideV).map Mg.Ver.cells) ∧ Below w1.heap.size w1 wq) (fun _ vm _ => u.l.length - (intOf vm).toNat)
          case atStart => exact ⟨0, none, 0, Nat.zero_le _, rfl, rfl, OL.nil _ _ _ _, Below.refl _ _⟩
          case round =>
            clear y2
            obtain ⟨m, a3, cap3, hm3, rfl, rfl, hol, hbq⟩ := hrel
            have HOL3 := Lib.hid hol
            have HBQ := Lib.hid hbq
            have HBRQ : Hid (Below wk.heap.size wk wr) := Lib.hid (HB1.out.trans (hbq.mono HB1.out.size))
            have y2 : wr.cell? ⟨wk.heap.size, 2, none⟩ = some (.slice sv u.l.length cv) := by rw [cell_of_row _ _ _ _ _ _ ((hbq.block _ (blk_lt HBK.out)).trans HBK.out)]; rfl
            clear hol hbq
            by_cases hmt : m < u.l.length
            · have hmI : (0 : Int) ≤ m ∧ (m : Int) < u.l.length := by omega
              obtain ⟨g3, o3, hg3, hc⟩ := (HAV.out.keep HBRQ.out).row m (by simpa using hmt)
              rw [hg3] at y2
              obtain ⟨v, hv⟩ : ∃ v, v = u.l[m]'hmt := ⟨_, rfl⟩
              have e1 : (u.l.map Mg.Ver.cells)[m]'(by simpa using hmt) = Mg.Ver.cells v := by rw [List.getElem_map, hv]
              rw [e1] at hc
              have p0 : wr.cell? ⟨g3, o3 + m * 3, none⟩ = some (.int .u64 v.n) := hc.cell 0 (by simp)
              have p1 : wr.cell? ⟨g3, o3 + m * 3 + 1, none⟩ = some (.int .u8 v.st) := hc.cell 1 (by simp)
              have p2 : wr.cell? ⟨g3, o3 + m * 3 + 2, none⟩ = some (.string v.t) := hc.cell 2 (by simp)
              have hvg : v.Good := by rw [hv]; exact HUG.out.c _ (List.getElem_mem _)
              have HVG := Lib.hid hvg
              have HV : Hid (u.l[m]? = some v) := Lib.hid (by rw [List.getElem?_eq_getElem hmt, hv])
              have HLEN3 : Hid ((((u.l.take m).map Mg.hideV).map Mg.Ver.cells).length = m) := Lib.hid (by rw [List.length_map, List.length_map, List.length_take]; omega)
              have hm6 : m ≤ 100000 := by omega
              have HM6 := Lib.hid hm6
              have Hwr : Hid (w1.heap.size ≤ wr.heap.size) := Lib.hid HBQ.out.size
              clear hc e1 hv hvg hmt hg3 hm6
              go_wp2_with fail
              obtain ⟨z1, hz1⟩ : ∃ y, y = wr.alloc (.cells (Mg.Ver.cells v).toArray 62 (0, 0)) := ⟨_, rfl⟩
              have hblk : z1.heap[wr.heap.size]? = some (.cells (Mg.Ver.cells v).toArray 62 (0, 0)) := by rw [hz1]; exact heap_alloc_new wr _
              have hb1 : Below wr.heap.size wr z1 := by rw [hz1]; exact ((Own.refl wr).alloc _).below
              have hsz1 : z1.heap.size = wr.heap.size + 1 := by rw [hz1]; exact World.size_alloc _ _
              have htu := hidden_any v.t z1 HVG.out.c
              rw [hz1] at htu
              refine htu.mono ?_
              rw [← hz1]
              clear htu hz1
              rintro e z2 ⟨rfl, hv⟩
              have hbk2 := (hv.block _ (by rw [hsz1]; omega : wr.heap.size < z1.heap.size)).trans hblk
              have q5 : z2.cell? ⟨wr.heap.size, 2, none⟩ = some (.string v.t) := by rw [cell_of_row _ _ _ _ _ _ hbk2]; rfl
              have f5 : z2.frozen? ⟨wr.heap.size, 2, none⟩ = false := frozen_of_row z2 _ 2 _ _ hbk2
              obtain ⟨z3, hz3⟩ : ∃ y, y = z2.setCell ⟨wr.heap.size, 2, none⟩ (.string (Mg.hide v.t)) := ⟨_, rfl⟩
              have hbk3 : z3.heap[wr.heap.size]? = some (.cells (Mg.Ver.cells (Mg.hideV v)).toArray 62 (0, 0)) := by rw [hz3, heap_set _ hbk2]; rfl
              have hb3 : Below wr.heap.size wr z3 := by rw [hz3]; exact below_upd ((hb1.trans (hv.mono (by rw [hsz1]; omega)))) ((Upd.refl z2 [wr.heap.size]).setCell (.inl (by simp)) _) (by simp)
              have hs32 : z3.heap.size = z2.heap.size := by rw [hz3]; simp [World.setCell]
              have hol3 := HOL3.out.keep hb3
              obtain ⟨s4, cap4, w4, hrun, hol4, hk4⟩ := ol_push2 (P := Tryz.prog) (T := 68) Tryz.underlying68 HIN3.out.1 HIN3.out.2.1 HIN3.out.2.2.1 HIN3.out.2.2.2 rfl (by decide) (by decide) (w := w1) (W := z3) (Nat.le_trans Hwr.out hb3.size) hol3 (Mg.Ver.cells (Mg.hideV v)) rfl (one_ver _) (by rw [HLEN3.out]; exact HM6.out)
              rw [HLEN3.out, hs32] at hrun
              have HBD : Hid (Below w1.heap.size w1 w4) := Lib.hid (below_upd (HBQ.out.trans (hb3.mono HBQ.out.size)) hk4.upd (fun b hb => HOL3.out.far b hb))
              have HOL4 : Hid (OL w1 w4 62 3 s4 cap4 (((u.l.take (m + 1)).map Mg.hideV).map Mg.Ver.cells)) := Lib.hid (by
                rw [List.take_add_one, HV.out, List.map_append, List.map_append]
                exact hol4)
              have hrun2 : (appSem #[68, 68] 68 #[.slice a3 m cap3, .slice (some ⟨z2.heap.size, 0, none⟩) 1 1]).run Tryz.prog ((z2.setCell ⟨wr.heap.size, 2, none⟩ (.string (Mg.hide v.t))).alloc (.cells #[.int .u64 v.n, .int .u8 v.st, .string (Mg.hide v.t)] 62 (0, 0))) = .ok (.slice s4 (m + 1) cap4) w4 := by
                rw [← hz3]
                exact hrun
              have x0 : (z2.setCell ⟨wr.heap.size, 2, none⟩ (.string (Mg.hide v.t))).cell? ⟨wr.heap.size, 0, none⟩ = some (.int .u64 v.n) := by rw [← hz3, cell_of_row _ _ _ _ _ _ hbk3]; rfl
              have x1 : (z2.setCell ⟨wr.heap.size, 2, none⟩ (.string (Mg.hide v.t))).cell? ⟨wr.heap.size, 1, none⟩ = some (.int .u8 v.st) := by rw [← hz3, cell_of_row _ _ _ _ _ _ hbk3]; rfl
              have x2 : (z2.setCell ⟨wr.heap.size, 2, none⟩ (.string (Mg.hide v.t))).cell? ⟨wr.heap.size, 2, none⟩ = some (.string (Mg.hide v.t)) := by rw [← hz3, cell_of_row _ _ _ _ _ _ hbk3]; rfl
              clear hb3 hb1 hbk2 hbk3 hblk hsz1 hs32 hol3 hol4 hk4 hrun hz3 hv y2
              go_wp2_with fail
              go_roundw
              case rel => exact ⟨m + 1, s4, cap4, by omega, by go_num, rfl, HOL4.out, HBD.out⟩
              case measure => simp [intOf]; omega
            · obtain rfl : m = u.l.length := by omega
              have holv := HOL3.out
              rw [List.take_length] at holv
              have holv := holv.base (w0 := v1) (Nat.le_trans HW7.out HB1.out.size)
              have hbk := (HBQ.out.block _ (blk_lt HBK.out)).trans HBK.out
              have f2 : wr.frozen? ⟨wk.heap.size, 2, none⟩ = false := frozen_of_row wr _ 2 _ _ hbk
              obtain ⟨z3, hz3⟩ : ∃ y, y = wr.setCell ⟨wk.heap.size, 2, none⟩ (.slice a3 u.l.length cap3) := ⟨_, rfl⟩
              have hup3 : Upd wr z3 [wk.heap.size] := by rw [hz3]; exact (Upd.refl wr [wk.heap.size]).setCell (.inl (by simp)) _
              have hbk3 : z3.heap[wk.heap.size]? = some (.cells #[.string u.p, .int .u64 u.last, .slice a3 u.l.length cap3] 72 (0, 0)) := by rw [hz3, heap_set _ hbk]; rfl
              have hb3 : Below wk.heap.size wk z3 := below_upd HBRQ.out hup3 (fun b hb => by rw [List.mem_singleton.1 hb]; exact Nat.le_refl _)
              have hs32 : z3.heap.size = wr.heap.size := by rw [hz3]; simp [World.setCell]
              have holv3 := holv.updF hup3 (fun b hb hf => (holv.sl.ne hbk (by decide)) (by rw [← List.mem_singleton.1 hf]; exact hb))
              have hol3 := HOL2.out.keep hb3
              have hro3 : RowsO v1 z3 ((x.rows.take i).map Mg.hideR) xs2 := HRO2.out.keep (fun s' n c' ys h1 h2 b hb => hb3.block b (h1.lt b hb))
              obtain ⟨s4, cap4, w4, hrun, hol4, hk4⟩ := ol_push2 (P := Tryz.prog) (T := 34) Tryz.underlying34 HIN2.out.1 HIN2.out.2.1 HIN2.out.2.2.1 HIN2.out.2.2.2 rfl (by decide) (by decide) (w := v1) (W := z3) (Nat.le_trans HW7.out hb3.size) hol3 ([.string u.p, .int .u64 u.last, .slice a3 u.l.length cap3]) rfl (by intro y hy; simp at hy; rcases hy with rfl | rfl | rfl <;> rfl) (by rw [HXL.out]; exact HI6.out)
              rw [HXL.out, hs32] at hrun
              have HBD : Hid (Below v1.heap.size v1 w4) := Lib.hid (below_upd (HBR2.out.trans (hb3.mono HBR2.out.size)) hk4.upd (fun b hb => HOL2.out.far b hb))
              have HOL4 : Hid (OL v1 w4 72 3 s4 cap4 (xs2 ++ [[.string u.p, .int .u64 u.last, .slice a3 u.l.length cap3]])) := Lib.hid hol4
              have hrw3 : RowsO v1 z3 ((x.rows.take i).map Mg.hideR ++ [Mg.hideR u]) (xs2 ++ [[.string u.p, .int .u64 u.last, .slice a3 u.l.length cap3]]) := by
                have h := hro3.push (Mg.hideR u) (s := a3) (cap := cap3) holv3
                have e : (Mg.hideR u).l.length = u.l.length := by unfold Mg.hideR; simp
                rw [e] at h
                exact h
              have HRO4 : Hid (RowsO v1 w4 ((x.rows.take (i + 1)).map Mg.hideR) (xs2 ++ [[.string u.p, .int .u64 u.last, .slice a3 u.l.length cap3]])) := Lib.hid (by
                rw [List.take_add_one, HY.out, List.map_append]
                exact hrw3.keep (fun s' n c' ys h1 h2 b hb => hk4.upd.keep b (h1.lt b hb) (h1.apart hol3.sl (by decide) b hb)))
              have hrun2 : (appSem #[34, 34] 34 #[.slice a2 i cap2, .slice (some ⟨wr.heap.size, 0, none⟩) 1 1]).run Tryz.prog ((wr.setCell ⟨wk.heap.size, 2, none⟩ (.slice a3 u.l.length cap3)).alloc (.cells #[.string u.p, .int .u64 u.last, .slice a3 u.l.length cap3] 72 (0, 0))) = .ok (.slice s4 (i + 1) cap4) w4 := by
                rw [← hz3]
                exact hrun
              have x0 : (wr.setCell ⟨wk.heap.size, 2, none⟩ (.slice a3 u.l.length cap3)).cell? ⟨wk.heap.size, 0, none⟩ = some (.string u.p) := by rw [← hz3, cell_of_row _ _ _ _ _ _ hbk3]; rfl
              have x1 : (wr.setCell ⟨wk.heap.size, 2, none⟩ (.slice a3 u.l.length cap3)).cell? ⟨wk.heap.size, 1, none⟩ = some (.int .u64 u.last) := by rw [← hz3, cell_of_row _ _ _ _ _ _ hbk3]; rfl
              have x2 : (wr.setCell ⟨wk.heap.size, 2, none⟩ (.slice a3 u.l.length cap3)).cell? ⟨wk.heap.size, 2, none⟩ = some (.slice a3 u.l.length cap3) := by rw [← hz3, cell_of_row _ _ _ _ _ _ hbk3]; rfl
              clear holv hbk hup3 hbk3 hb3 hs32 holv3 hol3 hro3 hol4 hk4 hrun hrw3 hz3 hmt
              go_wp2_with fail
              go_roundw
              case rel => exact ⟨i + 1, s4, cap4, _, by omega, by go_num, rfl, by rw [List.length_append, HXL.out]; rfl, HOL4.out, HRO4.out, HBD.out⟩
              case measure => simp [intOf]; omega
        · obtain rfl : i = x.rows.length := by omega
          have HLZ2 : Hid ((x.rows.map Mg.hideR).length = x.rows.length) := Lib.hid (List.length_map _)
          have holz := HOL2.out.base (w0 := w0) HSB1.out
          have hroz := HRO2.out.base (w0 := w0) HSB1.out
          rw [List.take_length] at hroz
          have hm := (HBR2.out.block _ (blk_lt HM1.out)).trans HM1.out
          have q9 : wr.cell? ⟨w.heap.size, 18, none⟩ = some (.slice s.rows.1 x.rows.length s.rows.2) := by rw [cell_of_row _ _ _ _ _ _ hm]; rfl
          have f9 : wr.frozen? ⟨w.heap.size, 18, none⟩ = false := frozen_of_row wr _ 18 _ _ hm
          obtain ⟨v2, hv8⟩ : ∃ y, y = wr.setCell ⟨w.heap.size, 18, none⟩ (.slice a2 x.rows.length cap2) := ⟨_, rfl⟩
          have hup : Upd wr v2 [w.heap.size] := by rw [hv8]; exact (Upd.refl wr [w.heap.size]).setCell (.inl (by simp)) _
          have hm8 : v2.heap[w.heap.size]? = some (.cells (MV { s with edits := (a0, cap0), rows := (a2, cap2) } { x with ask := { x.ask with edits := x.ask.edits.map Mg.hideE }, rows := x.rows.map Mg.hideR }) 43 (0, 0)) := by
            rw [hv8, heap_set _ hm, ← HLZ2.out]
            rfl
          have HM2 := Lib.hid hm8
          have HWB2 : Hid (Below w.heap.size w v2) := Lib.hid (below_upd HBW2.out hup (fun b hb => by rw [List.mem_singleton.1 hb]; exact Nat.le_refl _))
          have HRZ2 : Hid (v2.heap[w.heap.size + 1]? = some (.cells Z28 43 (0, 0))) := Lib.hid ((hup.keep _ (blk_lt ((HBR2.out.block _ (blk_lt HRZ1.out)).trans HRZ1.out)) (by simp)).trans ((HBR2.out.block _ (blk_lt HRZ1.out)).trans HRZ1.out))
          have HSB2 : Hid (w0.heap.size ≤ v2.heap.size) := Lib.hid (Nat.le_trans HSB1.out (Nat.le_trans HBR2.out.size hup.size))
          have hfar : ∀ b ∈ [w.heap.size], b < w0.heap.size := fun b hb => by have := List.mem_singleton.1 hb; have := HS0.out; omega
          have HOE2 := Lib.hid ((HOE1.out.keep HBR2.out).updB hup hfar)
          have HOR2 := Lib.hid (holz.updB hup hfar)
          have HRO := Lib.hid (hroz.updB hup (fun b hb => .inl (hfar b hb)))
          clear holz hroz
          clear hm hup hm8 hlt hfar
          go_upto_region 24 with (fail)
          rw [← hv8]
          clear hv8 q9 f9 ce
          obtain ⟨inf1, hin1, hz01, hz11, hz21⟩ := info_parts inf_got
          have HIN1 := Lib.hid (And.intro hin1 (And.intro hz01 (And.intro hz11 hz21)))
          clear hin1 hz01 hz11 hz21
          have HC1 : Hid (∀ wz, Below v2.heap.size v2 wz → wz.cell? ⟨w.heap.size, 24, none⟩ = some (.slice s.got.1 x.told.got.length s.got.2)) := Lib.hid (fun wz hz => by rw [cell_of_row _ _ _ _ _ _ ((hz.block _ (blk_lt HM2.out)).trans HM2.out)]; rfl)
          have ce := HC1.out _ (Below.refl _ _)
          go_wp2_with fail
          clear ce
          go_loopw [12, 13] (fun vs vi wr => ∃ (i : Nat) (a : Option Addr) (cap : Nat), i ≤ x.told.got.length ∧ vi = .int .i64 i ∧ vs = .slice a i cap ∧ OL v2 wr 64 4 a cap (((x.told.got.take i).map Mg.hideG).map Mg.Got.cells) ∧ Below v2.heap.size v2 wr) (fun _ vi _ => x.told.got.length - (intOf vi).toNat)
          case atStart => exact ⟨0, none, 0, Nat.zero_le _, rfl, rfl, OL.nil _ _ _ _, Below.refl _ _⟩
          case round =>
            obtain ⟨i, a1, cap1, hi, rfl, rfl, hol, hbr⟩ := hrel
            have HOL1 := Lib.hid hol
            have HBR1 := Lib.hid hbr
            have HBW1 := Lib.hid (HWB2.out.trans (hbr.mono HWB2.out.size))
            have ce := HC1.out _ hbr
            clear hol hbr
            by_cases hlt : i < x.told.got.length
            · have hiI : (0 : Int) ≤ i ∧ (i : Int) < x.told.got.length := by omega
              obtain ⟨g, o, hg, hc⟩ := (HA.out _ HBW1.out).got.row i (by simpa using hlt)
              rw [hg] at ce
              obtain ⟨u, hu⟩ : ∃ u, u = x.told.got[i]'hlt := ⟨_, rfl⟩
              have e1 : (x.told.got.map Mg.Got.cells)[i]'(by simpa using hlt) = Mg.Got.cells u := by rw [List.getElem_map, hu]
              rw [e1] at hc
              have p0 : wr.cell? ⟨g, o + i * 4, none⟩ = some (.int .u64 u.v.n) := hc.cell 0 (by simp)
              have p1 : wr.cell? ⟨g, o + i * 4 + 1, none⟩ = some (.int .u8 u.v.st) := hc.cell 1 (by simp)
              have p2 : wr.cell? ⟨g, o + i * 4 + 2, none⟩ = some (.string u.v.t) := hc.cell 2 (by simp)
              have p3 : wr.cell? ⟨g, o + i * 4 + 3, none⟩ = some (.int .i64 u.err) := hc.cell 3 (by simp)
              have hug : u.Good := by rw [hu]; exact HOK.out.got.1 _ (List.getElem_mem _)
              have HUG := Lib.hid hug
              have HY : Hid (x.told.got[i]? = some u) := Lib.hid (by rw [List.getElem?_eq_getElem hlt, hu])
              have HLEN : Hid ((((x.told.got.take i).map Mg.hideG).map Mg.Got.cells).length = i) := Lib.hid (by rw [List.length_map, List.length_map, List.length_take]; omega)
              have hi6 : i ≤ 100000 := by omega
              have HI6 := Lib.hid hi6
              clear hc e1 hu hug hlt hg hi6
              have HW7 : Hid (v2.heap.size ≤ wr.heap.size) := Lib.hid HBR1.out.size
              go_wp2_with fail
              obtain ⟨w1, hw1⟩ : ∃ y, y = wr.alloc (.cells (Mg.Got.cells u).toArray 64 (0, 0)) := ⟨_, rfl⟩
              have hblk : w1.heap[wr.heap.size]? = some (.cells (Mg.Got.cells u).toArray 64 (0, 0)) := by rw [hw1]; exact heap_alloc_new wr _
              have hb1 : Below wr.heap.size wr w1 := by rw [hw1]; exact ((Own.refl wr).alloc _).below
              have hsz1 : w1.heap.size = wr.heap.size + 1 := by rw [hw1]; exact World.size_alloc _ _
              have htu := hidden_any u.v.t w1 HUG.out.a.c
              rw [hw1] at htu
              refine htu.mono ?_
              rw [← hw1]
              clear htu hw1
              rintro e w2 ⟨rfl, hv⟩
              have hbk2 := (hv.block _ (by rw [hsz1]; omega : wr.heap.size < w1.heap.size)).trans hblk
              have q5 : w2.cell? ⟨wr.heap.size, 2, none⟩ = some (.string u.v.t) := by rw [cell_of_row _ _ _ _ _ _ hbk2]; rfl
              have f5 : w2.frozen? ⟨wr.heap.size, 2, none⟩ = false := frozen_of_row w2 _ 2 _ _ hbk2
              obtain ⟨w3, hw3⟩ : ∃ y, y = w2.setCell ⟨wr.heap.size, 2, none⟩ (.string (Mg.hide u.v.t)) := ⟨_, rfl⟩
              have hbk3 : w3.heap[wr.heap.size]? = some (.cells (Mg.Got.cells (Mg.hideG u)).toArray 64 (0, 0)) := by rw [hw3, heap_set _ hbk2]; rfl
              have hb3 : Below wr.heap.size wr w3 := by rw [hw3]; exact below_upd ((hb1.trans (hv.mono (by rw [hsz1]; omega)))) ((Upd.refl w2 [wr.heap.size]).setCell (.inl (by simp)) _) (by simp)
              have hs32 : w3.heap.size = w2.heap.size := by rw [hw3]; simp [World.setCell]
              have hol3 := HOL1.out.keep hb3
              obtain ⟨s4, cap4, w4, hrun, hol4, hk4⟩ := ol_push2 (P := Tryz.prog) (T := 37) Tryz.underlying37 HIN1.out.1 HIN1.out.2.1 HIN1.out.2.2.1 HIN1.out.2.2.2 rfl (by decide) (by decide) (w := v2) (W := w3) (Nat.le_trans HW7.out hb3.size) hol3 (Mg.Got.cells (Mg.hideG u)) rfl (one_got _) (by rw [HLEN.out]; exact HI6.out)
              rw [HLEN.out, hs32] at hrun
              have HBD : Hid (Below v2.heap.size v2 w4) := Lib.hid (below_upd (HBR1.out.trans (hb3.mono HBR1.out.size)) hk4.upd (fun b hb => HOL1.out.far b hb))
              have HOL4 : Hid (OL v2 w4 64 4 s4 cap4 (((x.told.got.take (i + 1)).map Mg.hideG).map Mg.Got.cells)) := Lib.hid (by
                rw [List.take_add_one, HY.out, List.map_append, List.map_append]
                exact hol4)
              have hrun2 : (appSem #[37, 37] 37 #[.slice a1 i cap1, .slice (some ⟨w2.heap.size, 0, none⟩) 1 1]).run Tryz.prog ((w2.setCell ⟨wr.heap.size, 2, none⟩ (.string (Mg.hide u.v.t))).alloc (.cells #[.int .u64 u.v.n, .int .u8 u.v.st, .string (Mg.hide u.v.t), .int .i64 u.err] 64 (0, 0))) = .ok (.slice s4 (i + 1) cap4) w4 := by
                rw [← hw3]
                exact hrun
              have x0 : (w2.setCell ⟨wr.heap.size, 2, none⟩ (.string (Mg.hide u.v.t))).cell? ⟨wr.heap.size, 0, none⟩ = some (.int .u64 u.v.n) := by rw [← hw3, cell_of_row _ _ _ _ _ _ hbk3]; rfl
              have x1 : (w2.setCell ⟨wr.heap.size, 2, none⟩ (.string (Mg.hide u.v.t))).cell? ⟨wr.heap.size, 1, none⟩ = some (.int .u8 u.v.st) := by rw [← hw3, cell_of_row _ _ _ _ _ _ hbk3]; rfl
              have x2 : (w2.setCell ⟨wr.heap.size, 2, none⟩ (.string (Mg.hide u.v.t))).cell? ⟨wr.heap.size, 2, none⟩ = some (.string (Mg.hide u.v.t)) := by rw [← hw3, cell_of_row _ _ _ _ _ _ hbk3]; rfl
              have x3 : (w2.setCell ⟨wr.heap.size, 2, none⟩ (.string (Mg.hide u.v.t))).cell? ⟨wr.heap.size, 3, none⟩ = some (.int .i64 u.err) := by rw [← hw3, cell_of_row _ _ _ _ _ _ hbk3]; rfl
              clear hb3 hb1 hbk2 hbk3 hblk hsz1 hs32 hol3 hol4 hk4 hrun hw3 hv
              go_wp2_with fail
              go_roundw
              case rel => exact ⟨i + 1, s4, cap4, by omega, by go_num, rfl, HOL4.out, HBD.out⟩
              case measure => simp [intOf]; omega
            · obtain rfl : i = x.told.got.length := by omega
              have HLZ1 : Hid ((x.told.got.map Mg.hideG).length = x.told.got.length) := Lib.hid (List.length_map _)
              have holz := HOL1.out.base (w0 := w0) HSB2.out
              rw [List.take_length] at holz
              have hm := (HBR1.out.block _ (blk_lt HM2.out)).trans HM2.out
              have q9 : wr.cell? ⟨w.heap.size, 24, none⟩ = some (.slice s.got.1 x.told.got.length s.got.2) := by rw [cell_of_row _ _ _ _ _ _ hm]; rfl
              have f9 : wr.frozen? ⟨w.heap.size, 24, none⟩ = false := frozen_of_row wr _ 24 _ _ hm
              obtain ⟨v3, hv8⟩ : ∃ y, y = wr.setCell ⟨w.heap.size, 24, none⟩ (.slice a1 x.told.got.length cap1) := ⟨_, rfl⟩
              have hup : Upd wr v3 [w.heap.size] := by rw [hv8]; exact (Upd.refl wr [w.heap.size]).setCell (.inl (by simp)) _
              have hm8 : v3.heap[w.heap.size]? = some (.cells (MV { s with edits := (a0, cap0), rows := (a2, cap2), got := (a1, cap1) } (Mg.mask x)) 43 (0, 0)) := by
                rw [hv8, heap_set _ hm, ← HLZ1.out]
                rfl
              have HM3 := Lib.hid hm8
              have HWB3 : Hid (Below w.heap.size w v3) := Lib.hid (below_upd HBW1.out hup (fun b hb => by rw [List.mem_singleton.1 hb]; exact Nat.le_refl _))
              have HRZ3 : Hid (v3.heap[w.heap.size + 1]? = some (.cells Z28 43 (0, 0))) := Lib.hid ((hup.keep _ (blk_lt ((HBR1.out.block _ (blk_lt HRZ2.out)).trans HRZ2.out)) (by simp)).trans ((HBR1.out.block _ (blk_lt HRZ2.out)).trans HRZ2.out))
              have HSB3 : Hid (w0.heap.size ≤ v3.heap.size) := Lib.hid (Nat.le_trans HSB2.out (Nat.le_trans HBR1.out.size hup.size))
              have hfar : ∀ b ∈ [w.heap.size], b < w0.heap.size := fun b hb => by have := List.mem_singleton.1 hb; have := HS0.out; omega
              have hoe := (HOE2.out.keep HBR1.out).updB hup hfar
              have hor := (HOR2.out.keep HBR1.out).updB hup hfar
              have hrr := ((HRO.out.keep (fun s' n c' ys h1 h2 b hb => HBR1.out.block b (h1.lt b hb))).updB hup (fun b hb => .inl (hfar b hb)))
              have hog := holz.updB hup hfar
              have HOX := Lib.hid (And.intro hoe (And.intro hor (And.intro hrr hog)))
              have HA3 := HWB3
              clear holz hoe hor hrr hog
              clear hm hup hm8 hlt hfar
              go_upto_region 32 with (fail)
              rw [← hv8]
              clear hv8 q9 f9 ce
              have gm := ldMsg_run v3 _ { s with edits := (a0, cap0), rows := (a2, cap2), got := (a1, cap1) } (Mg.mask x) HM3.out
              obtain ⟨zz, rz, qz⟩ := st_part (P := Tryz.prog) v3 43 (.agg (MV { s with edits := (a0, cap0), rows := (a2, cap2), got := (a1, cap1) } (Mg.mask x))) (w.heap.size + 1) 0 (MV { s with edits := (a0, cap0), rows := (a2, cap2), got := (a1, cap1) } (Mg.mask x)) rfl 43 Z28 (MV { s with edits := (a0, cap0), rows := (a2, cap2), got := (a1, cap1) } (Mg.mask x)) HRZ3.out 28 28 rfl rfl sizeMsg (by decide) (MV_one _ _) (whole_eq _ _ 28 rfl rfl)
              change (stMsg _ _).run _ _ = _ at rz
              have HRR := Lib.hid qz.here
              have HBB : Hid (Below w.heap.size w zz) := Lib.hid (below_put HWB3.out qz (by omega))
              have HAZ : Hid (MsgA zz { s with edits := (a0, cap0), rows := (a2, cap2), got := (a1, cap1) } (Mg.mask x)) := Lib.hid (by
                obtain ⟨hoe, hor, hrr, hog⟩ := HOX.out
                have hu : Upd v3 zz [w.heap.size + 1] := ⟨qz.os, qz.tape, qz.output, Nat.le_of_eq qz.size.symm, fun k hk hf => qz.other k (by simpa using hf)⟩
                have hfar : ∀ b ∈ [w.heap.size + 1], b < w0.heap.size := fun b hb => by have := List.mem_singleton.1 hb; have := HS0.out; omega
                have hoe := hoe.updB hu hfar
                have hor := hor.updB hu hfar
                have hrr := hrr.updB hu (fun b hb => .inl (hfar b hb))
                have hog := hog.updB hu hfar
                have hA3 := HA.out _ HBB.out
                exact ⟨hA3.parts, hA3.reads, hA3.readAt, hoe.arg (one_map _ one_ed _), hA3.editAt, ⟨xs2, hor.arg (rows_one hrr.1 (fun j hj => by obtain ⟨s', c', h1, _⟩ := hrr.2 j hj; exact ⟨s', c', h1⟩)), hrr.1, fun j hj => (by obtain ⟨s', c', h1, h2⟩ := hrr.2 j hj; exact ⟨s', c', h1, h2.arg (one_map _ one_ver _)⟩)⟩, hA3.own, hog.arg (one_map _ one_got _), hA3.numbers, hA3.names⟩)
              clear qz
              go_wp2_with fail
              exact bodyPost_ret (results_cell_row rfl _ _ (w.heap.size + 1) _ _ _ _ rfl HRR.out Tryz.underlying43 rfl (by kernel_rfl)) rfl ⟨_, rfl, HAZ.out, HBB.out⟩

end Go.Proofs.YtjgnomjjphkfbaaGreat
