/-
  THE WALK of the statement FrameCuts.
-/
import Derived.Test.YteipjgmbgkjjiaaFrameTexts
set_option linter.unusedVariables false
set_option linter.unusedSimpArgs false
namespace Go.Proofs.Yteipjgmbgkjjiaa
open Go.RowKit

theorem rec_same_n (w : World) (a a' : Option Addr) (cap cap' n : Nat) (l : List Frm.Rec) (hn : l.length = n) (hf : n ≤ 1073741824) (h : SliceIs w 24 2 a n cap (rrow l)) (h' : SliceIs w 24 2 a' n cap' (rrow l)) :
    Calls Try.prog 19 #[.slice a n cap, .slice a' n cap'] w fun e w' => e = .returned (.bool true) ∧ Below w.heap.size w w' := by
  subst hn; exact rec_same w a a' cap cap' l hf h h'
/-- What Scan hands back, its numbers by name. -/
def ScanNo (l : List Frm.Rec) (n : Nat) (u e : Int) (w : World) (x : Ending) (w' : World) : Prop :=
  ∃ a cap, x = .returned (.tuple #[.slice a n cap, .int .i64 u, .int .i64 e]) ∧ SliceIs w' 24 2 a n cap (rrow l) ∧ Below w.heap.size w w'
theorem scan_no {s : ByteArray} {first : Nat} {l : List Frm.Rec} {u0 e0 : Nat} {n : Nat} {u e : Int} (h : Frm.scan (L s) first = (l, u0, e0)) (hn : l.length = n) (hu : (u0 : Int) = u) (he : (e0 : Int) = e) (hs : s.size ≤ 1073741824) (hf : first < 18446744073709551616) (w : World) :
    Calls Try.prog 16 #[.string s, .int .u64 first] w (ScanNo l n u e w) := by
  subst hn hu he
  refine (frame_scan s first w hs hf).mono fun x w' h' => ?_
  obtain ⟨a, cap, e1, e2, e3, _⟩ := h'
  rw [h] at e1 e2
  exact ⟨a, cap, e1, e2, e3⟩
theorem rrow_take (rs : List Frm.Rec) (k : Nat) : (rrow rs).take (k * 2) = rrow (rs.take k) := by
  induction rs generalizing k with
  | nil => simp [rrow]
  | cons r rs ih =>
    cases k with
    | zero => simp [rrow]
    | succ k =>
      have e : ∀ rs', rrow (r :: rs') = .int .u64 r.num :: .string (S r.text) :: rrow rs' := fun _ => rfl
      rw [List.take_succ_cons, e, e, show (k + 1) * 2 = k * 2 + 1 + 1 from by omega, List.take_succ_cons, List.take_succ_cons, ih]
theorem map_size (l : List ByteArray) (i : Nat) (hi : i < l.length) : (l.map L)[i]'(by simpa using hi) = L l[i] := by simp
/-- Parts of lists of records. -/
theorem run_cut_recs (w : World) (a : Option Addr) (len cap h : Nat) (hh : h ≤ cap) :
    (Instr.slice 39 (.slice a len cap) none (some (.int .i64 (h : Int))) none).run Try.prog w = .ok (.slice a h cap) w :=
  run_cut_h (P := Try.prog) (size := 2) w Try.underlying39 (fun w => by kernel_rfl) a len cap h h rfl hh

set_option maxRecDepth 20000 in
set_option maxHeartbeats 4000000 in
theorem frameCuts_any (w : World) (a : Option Addr) (cap : Nat) (l : List ByteArray) (first at_ : Nat) (h : TextsAt w a l) (hc : l.length ≤ 9223372036854775807) (hz : ∀ t ∈ l, t.size ≤ 140737488351232) (hf : first < 18446744073709551616) (hat : at_ ≤ 65535) :
    Calls Try.prog 4 #[.slice a l.length cap, .int .u64 first, .int .u16 at_] w fun e w' => e = .returned (.bool true) ∧ Below w.heap.size w w' := by
  have H := Lib.hid h
  have HV := Lib.hid (heavy_any w a cap l h hc hz)
  have HF := Lib.hid hf
  have hatI : (0 : Int) ≤ at_ ∧ (at_ : Int) ≤ 65535 := by omega
  clear h hc hz hf hat
  go_enter Try.func4, Try.ntmps4
  go_wp2_with fail
  refine HV.out.mono ?_
  rintro e w' ⟨⟨b, rfl, hb⟩, rfl⟩
  cases b with
  | true =>
    go_wp2_with fail
    refine (alive10 _).mono ?_
    rintro e w' ⟨rfl, hb⟩
    go_wp2
    go_ret
    exact ⟨rfl, hb⟩
  | false =>
    obtain ⟨hl, hz⟩ := hb rfl
    have HL := Lib.hid hl
    have HZ := Lib.hid (show ∀ t ∈ l, t.size ≤ 4096 from fun t ht => by have := size_le_sizes l t ht; omega)
    have HROW := Lib.hid (row_any w a cap l first H.out hl hz HF.out)
    have HT6 : Hid (∀ t ∈ l.map L, t.length ≤ 65536) := Lib.hid (by
      intro t ht
      obtain ⟨x, hx, rfl⟩ := List.mem_map.1 ht
      rw [L_size]; have := HZ.out x hx; omega)
    have HRL : Hid ((Frm.recs (l.map L) first).length = l.length) := Lib.hid (by rw [Frm.recs_length, List.length_map])
    have HBL : Hid ((S (Frm.bytes (Frm.recs (l.map L) first))).size = Frm.lens (l.map L)) := Lib.hid (by rw [S_size, Frm.bytes_length])
    have hlens : Frm.lens (l.map L) ≤ 60 * 4112 := by
      have : ∀ m : List ByteArray, (∀ t ∈ m, t.size ≤ 4096) → Frm.lens (m.map L) ≤ m.length * 4112 := by
        intro m hm
        induction m with
        | nil => simp [Frm.lens]
        | cons x m ih =>
          have h1 := ih (fun t ht => hm t (by simp [ht]))
          have h2 := hm x (by simp)
          have e := L_size x
          simp only [List.map_cons, Frm.lens, List.length_cons]; omega
      have := this l HZ.out
      omega
    have hlI : (l.length : Int) ≤ 60 := by omega
    clear hb hl hz
    go_wp2_with fail
    refine HROW.out.mono ?_
    rintro e w1 ⟨aw, cw, rfl, hrow, hb1, _⟩
    have HR := Lib.hid hrow
    have HO : Hid (Own w.heap.size w w1) := Lib.hid ((Own.refl w).trans hb1)
    have H1 := Lib.hid (H.out.keep hb1)
    have HLB : Hid (L (S (Frm.bytes (Frm.recs (l.map L) first))) = Frm.bytes (Frm.recs (l.map L) first)) := Lib.hid rfl
    generalize S (Frm.bytes (Frm.recs (l.map L) first)) = s at *
    have hss : s.size ≤ 60 * 4112 := by rw [HBL.out]; exact hlens
    have hsI : (s.size : Int) ≤ 246720 := by omega
    obtain ⟨k, hk, hks⟩ : ∃ k : Nat, (at_ : Int) % ((s.size : Int) + 1) = k ∧ k ≤ s.size :=
      ⟨at_ % (s.size + 1), by rw [Int.natCast_emod]; rfl, by have := Nat.mod_lt at_ (show 0 < s.size + 1 by omega); omega⟩
    have hkI : (0 : Int) ≤ k ∧ (k : Int) ≤ s.size := by omega
    clear hrow hb1 hlens
    go_wp2_with fail
    rw [hk]
    clear hk
    go_loop [11, 12] (fun vn ve => ∃ n : Nat, n ≤ l.length ∧ vn = .int .i64 n ∧ ve = .int .i64 (Frm.lens ((l.map L).take n)) ∧ Frm.lens ((l.map L).take n) ≤ k) (fun vn _ => l.length - (intOf vn).toNat)
    case atStart => exact ⟨0, Nat.zero_le _, rfl, rfl, Nat.zero_le _⟩
    case round =>
      obtain ⟨n, hn, rfl, rfl, he⟩ := hrel
      have hnI : (0 : Int) ≤ n ∧ (n : Int) ≤ l.length := by omega
      have hkk : k ≤ 246720 := by omega
      have heI : (0 : Int) ≤ (Frm.lens ((l.map L).take n) : Int) ∧ (Frm.lens ((l.map L).take n) : Int) ≤ k := by omega
      by_cases hlt : n < l.length
      · obtain ⟨g, off, rfl, hcl⟩ := H1.out.at n hlt
        have hltI : (n : Int) < l.length := by omega
        have hti := HZ.out l[n] (List.getElem_mem hlt)
        have HLS : Hid (Frm.lens ((l.map L).take (n + 1)) = Frm.lens ((l.map L).take n) + (16 + l[n].size)) := Lib.hid (by
          rw [Frm.lens_take_succ _ _ (by simpa using hlt), map_size l n hlt, L_size])
        by_cases hfit : Frm.lens ((l.map L).take n) + 16 + l[n].size ≤ k
        · generalize Frm.lens ((l.map L).take n) = E at *
          generalize l[n] = tx at *
          have htI : (0 : Int) ≤ tx.size ∧ (tx.size : Int) ≤ 4096 := by omega
          have hfI : (E : Int) + 16 + tx.size ≤ k := by omega
          clear he hti hfit
          go_wp2_with fail
          go_round
          case rel => exact ⟨n + 1, by omega, by go_num, by rw [HLS.out]; go_num, by rw [HLS.out]; omega⟩
          case measure => simp [intOf]; omega
        · have HCUT := Lib.hid (Frm.scan_cut (l.map L) first k n HF.out HT6.out (by simpa using hn) he (fun _ => by rw [map_size l n hlt, L_size]; omega) (by have := HBL.out; omega))
          have hfI : ¬ (Frm.lens ((l.map L).take n) : Int) + 16 + (l[n].size : Int) ≤ k := by omega
          generalize l[n] = tx at *
          have htI : (0 : Int) ≤ tx.size ∧ (tx.size : Int) ≤ 4096 := by omega
          clear HLS hti hfit
          have HSC1 := Lib.hid (fun w => scan_no (s := s) (first := first) (by rw [HLB.out]; exact Frm.scan_row _ _ HF.out HT6.out) HRL.out rfl rfl (by omega) HF.out w)
          have hLx : L (s.extract 0 k) = (Frm.bytes (Frm.recs (l.map L) first)).take k := by rw [L_extract, HLB.out]
          have hnR : ((Frm.recs (l.map L) first).take n).length = n := by rw [List.length_take, HRL.out]; omega
          have HNR := Lib.hid hnR
          have HSL := Lib.hid (show ((Frm.lens (l.map L) : Nat) : Int) = (s.size : Int) by rw [HBL.out])
          have hmt : ∀ w, _ := fun w => run_cut_recs w aw l.length cw n (by have := HR.out.bound.1; omega)
          have HSC2 := Lib.hid (fun w => scan_no (s := s.extract 0 k) (first := first) (by rw [hLx]; exact HCUT.out) hnR rfl rfl (by rw [ByteArray.size_extract]; omega) HF.out w)
          have hb1 : ∃ (f : Int) (be : Bool), (((if k = Frm.lens ((l.map L).take n) then 0 else 100 : Nat) : Int) = f) ∧ ((f == 0) = be) ∧ (((Frm.lens ((l.map L).take n) : Nat) : Int) == (k : Int)) = be ∧ (be = false → (f == 100) = true) := by
            by_cases hkE : k = Frm.lens ((l.map L).take n)
            · exact ⟨0, true, by rw [if_pos hkE]; rfl, rfl, by rw [← hkE]; simp, by simp⟩
            · exact ⟨100, false, by rw [if_neg hkE]; rfl, rfl, beq_eq_false_iff_ne.2 (by omega), fun _ => rfl⟩
          obtain ⟨f, be, hf1, hf2, hf3, hf4⟩ := hb1
          rw [hf1] at HSC2
          have HF4 := Lib.hid hf4
          clear hf1 hf4 hLx hnR HCUT he
          rw [HSL.out] at HSC1
          generalize Frm.lens ((l.map L).take n) = E at *
          generalize Frm.recs (l.map L) first = R at *
          go_wp2_with fail
          refine (HSC1.out _).mono ?_
          rintro e w2 ⟨a1, cap1, rfl, hs1, hb2⟩
          have HS1 := Lib.hid hs1
          have HO2 := Lib.hid (HO.out.trans hb2)
          have HR2 := Lib.hid (HR.out.keep (w' := w2) fun k hk => hb2.block k (HR.out.lt k hk))
          clear hs1 hb2
          go_wp2_with fail
          refine (HSC2.out _).mono ?_
          rintro e w3 ⟨a2, cap2, rfl, hs2, hb2⟩
          have HS2 := Lib.hid hs2
          have HO3 := Lib.hid (HO2.out.trans hb2)
          have HR3 := Lib.hid (HR2.out.keep (w' := w3) fun k hk => hb2.block k (HR2.out.lt k hk))
          have HS13 := Lib.hid (HS1.out.keep (w' := w3) fun k hk => hb2.block k (HS1.out.lt k hk))
          clear hs2 hb2
          go_wp2_with fail
          refine (rec_same_n _ a1 aw cap1 cw l.length R HRL.out (by omega) HS13.out HR3.out).mono ?_
          rintro e w4 ⟨rfl, hb2⟩
          have HO4 := Lib.hid (HO3.out.trans hb2)
          have HR4 := Lib.hid (HR3.out.keep (w' := w4) fun k hk => hb2.block k (HR3.out.lt k hk))
          have HS24 := Lib.hid (HS2.out.keep (w' := w4) fun k hk => hb2.block k (HS2.out.lt k hk))
          clear hb2
          go_wp2_with fail
          have hst := HR4.out.take n (by omega)
          rw [rrow_take] at hst
          refine (rec_same_n _ a2 aw cap2 cw n (R.take n) HNR.out (by omega) HS24.out hst).mono ?_
          rintro e w5 ⟨rfl, hb2⟩
          have HO5 := Lib.hid (HO4.out.trans hb2)
          clear hb2 hst
          cases be with
          | true =>
            go_wp2_with fail
            refine (alive10 _).mono ?_
            rintro e w6 ⟨rfl, hb2⟩
            have HO6 := Lib.hid (HO5.out.trans hb2)
            clear hb2
            go_wp2_with fail
            go_ret
            exact ⟨rfl, HO6.out.below⟩
          | false =>
            have hf5 := HF4.out rfl
            go_wp2_with fail
            refine (alive10 _).mono ?_
            rintro e w6 ⟨rfl, hb2⟩
            have HO6 := Lib.hid (HO5.out.trans hb2)
            clear hb2
            go_wp2_with fail
            go_ret
            exact ⟨rfl, HO6.out.below⟩
      · have HCUT := Lib.hid (Frm.scan_cut (l.map L) first k n HF.out HT6.out (by simpa using hn) he (fun hlt' => absurd (by simpa using hlt') hlt) (by have := HBL.out; omega))
        have hge : ¬ (n : Int) < l.length := by omega
        have HSC1 := Lib.hid (fun w => scan_no (s := s) (first := first) (by rw [HLB.out]; exact Frm.scan_row _ _ HF.out HT6.out) HRL.out rfl rfl (by omega) HF.out w)
        have hLx : L (s.extract 0 k) = (Frm.bytes (Frm.recs (l.map L) first)).take k := by rw [L_extract, HLB.out]
        have hnR : ((Frm.recs (l.map L) first).take n).length = n := by rw [List.length_take, HRL.out]; omega
        have HNR := Lib.hid hnR
        have HSL := Lib.hid (show ((Frm.lens (l.map L) : Nat) : Int) = (s.size : Int) by rw [HBL.out])
        have hmt : ∀ w, _ := fun w => run_cut_recs w aw l.length cw n (by have := HR.out.bound.1; omega)
        have HSC2 := Lib.hid (fun w => scan_no (s := s.extract 0 k) (first := first) (by rw [hLx]; exact HCUT.out) hnR rfl rfl (by rw [ByteArray.size_extract]; omega) HF.out w)
        have hb1 : ∃ (f : Int) (be : Bool), (((if k = Frm.lens ((l.map L).take n) then 0 else 100 : Nat) : Int) = f) ∧ ((f == 0) = be) ∧ (((Frm.lens ((l.map L).take n) : Nat) : Int) == (k : Int)) = be ∧ (be = false → (f == 100) = true) := by
          by_cases hkE : k = Frm.lens ((l.map L).take n)
          · exact ⟨0, true, by rw [if_pos hkE]; rfl, rfl, by rw [← hkE]; simp, by simp⟩
          · exact ⟨100, false, by rw [if_neg hkE]; rfl, rfl, beq_eq_false_iff_ne.2 (by omega), fun _ => rfl⟩
        obtain ⟨f, be, hf1, hf2, hf3, hf4⟩ := hb1
        rw [hf1] at HSC2
        have HF4 := Lib.hid hf4
        clear hf1 hf4 hLx hnR HCUT he
        rw [HSL.out] at HSC1
        generalize Frm.lens ((l.map L).take n) = E at *
        generalize Frm.recs (l.map L) first = R at *
        go_wp2_with fail
        refine (HSC1.out _).mono ?_
        rintro e w2 ⟨a1, cap1, rfl, hs1, hb2⟩
        have HS1 := Lib.hid hs1
        have HO2 := Lib.hid (HO.out.trans hb2)
        have HR2 := Lib.hid (HR.out.keep (w' := w2) fun k hk => hb2.block k (HR.out.lt k hk))
        clear hs1 hb2
        go_wp2_with fail
        refine (HSC2.out _).mono ?_
        rintro e w3 ⟨a2, cap2, rfl, hs2, hb2⟩
        have HS2 := Lib.hid hs2
        have HO3 := Lib.hid (HO2.out.trans hb2)
        have HR3 := Lib.hid (HR2.out.keep (w' := w3) fun k hk => hb2.block k (HR2.out.lt k hk))
        have HS13 := Lib.hid (HS1.out.keep (w' := w3) fun k hk => hb2.block k (HS1.out.lt k hk))
        clear hs2 hb2
        go_wp2_with fail
        refine (rec_same_n _ a1 aw cap1 cw l.length R HRL.out (by omega) HS13.out HR3.out).mono ?_
        rintro e w4 ⟨rfl, hb2⟩
        have HO4 := Lib.hid (HO3.out.trans hb2)
        have HR4 := Lib.hid (HR3.out.keep (w' := w4) fun k hk => hb2.block k (HR3.out.lt k hk))
        have HS24 := Lib.hid (HS2.out.keep (w' := w4) fun k hk => hb2.block k (HS2.out.lt k hk))
        clear hb2
        go_wp2_with fail
        have hst := HR4.out.take n (by omega)
        rw [rrow_take] at hst
        refine (rec_same_n _ a2 aw cap2 cw n (R.take n) HNR.out (by omega) HS24.out hst).mono ?_
        rintro e w5 ⟨rfl, hb2⟩
        have HO5 := Lib.hid (HO4.out.trans hb2)
        clear hb2 hst
        cases be with
        | true =>
          go_wp2_with fail
          refine (alive10 _).mono ?_
          rintro e w6 ⟨rfl, hb2⟩
          have HO6 := Lib.hid (HO5.out.trans hb2)
          clear hb2
          go_wp2_with fail
          go_ret
          exact ⟨rfl, HO6.out.below⟩
        | false =>
          have hf5 := HF4.out rfl
          go_wp2_with fail
          refine (alive10 _).mono ?_
          rintro e w6 ⟨rfl, hb2⟩
          have HO6 := Lib.hid (HO5.out.trans hb2)
          clear hb2
          go_wp2_with fail
          go_ret
          exact ⟨rfl, HO6.out.below⟩

end Go.Proofs.Yteipjgmbgkjjiaa
