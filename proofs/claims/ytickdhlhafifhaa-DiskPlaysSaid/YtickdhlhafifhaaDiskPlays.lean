/-
  THE WALK of the statement DiskPlays: what each call answers, and what the files have.
-/
import Derived.Test.YtickdhlhafifhaaDiskBoth
namespace Go.Proofs.Ytickdhlhafifhaa
open Go.RowKit

attribute [local go_sem ↓ high] appSem_eq

/-- A step in a box. -/
def StepIn (w : World) (b : Nat) (s : Xst) : Prop := w.heap[b]? = some (.cells #[.int .u8 s.kind, .int .i64 s.file, .int .i64 s.n, .int .i64 s.m, .string s.s, .int .u8 (by8 s.b)] 32 (0, 0))
theorem StepIn.facts {w : World} {b : Nat} {s : Xst} (h : StepIn w b s) : w.cell? ⟨b, 0, none⟩ = some (.int .u8 s.kind) ∧ w.cell? ⟨b, 1, none⟩ = some (.int .i64 s.file) ∧ w.cell? ⟨b, 2, none⟩ = some (.int .i64 s.n) ∧ w.cell? ⟨b, 3, none⟩ = some (.int .i64 s.m) ∧ w.cell? ⟨b, 4, none⟩ = some (.string s.s) ∧ w.cell? ⟨b, 5, none⟩ = some (.int .u8 (by8 s.b)) := by
  refine ⟨?_, ?_, ?_, ?_, ?_, ?_⟩
  all_goals (rw [cell_of_row w b _ _ _ _ h]; rfl)
theorem StepIn.rstep {w w' : World} {b q : Nat} {s : Xst} {d x : Dk.D} {sa la : Option Addr} {sc lc : Nat} (h : StepIn w b s) (hr : RBox w q x sa sc la lc) (st : RStep w w' q d la) : StepIn w' b s := by
  obtain ⟨_, _, _, _, _, hu, _⟩ := st
  refine (hu.keep b (blk_lt h) (fun hx => ?_)).trans h
  obtain ⟨cs, t, fr, hc, ht⟩ := hr.typed b hx
  rw [h] at hc; cases hc; revert ht; decide
theorem StepIn.dstep {w w' : World} {b p : Nat} {s : Xst} {d d' : Dk.D} {F : List Nat} (h : StepIn w b s) (hd : DHas w p d F) (st : DStep w w' p d' F) : StepIn w' b s := by
  obtain ⟨_, _, hu, _⟩ := st
  refine (hu.keep b (blk_lt h) (fun hx => ?_)).trans h
  obtain ⟨cs, t, fr, hc, ht⟩ := hd.typed b hx
  rw [h] at hc; cases hc; revert ht; decide
theorem StepIn.keep {w w' : World} {b : Nat} {s : Xst} (h : StepIn w b s) (hb : Below w.heap.size w w') : StepIn w' b s := (hb.block b (blk_lt h)).trans h
/-- What a round of the play keeps. -/
structure Ply (w wr : World) (p q : Nat) (d : Dk.D) (k : Nat) : Prop where
  both : ∃ F sa sc la lc, Both w wr p d q d F sa sc la lc
  ok : d.ok
  cuts : cutsNone d.loose
  few : d.loose.length ≤ k

set_option maxRecDepth 20000 in
set_option maxHeartbeats 4000000 in
theorem diskPlays_any (w : World) (n room : Int) (a : Option Addr) (cap : Nat) (l : List Xst) (hb0 : -9223372036854775808 ≤ n ∧ n ≤ 9223372036854775807) (hb1 : -9223372036854775808 ≤ room ∧ room ≤ 9223372036854775807) (h : StepsAt w a l) (ok : ∀ x ∈ l, okX x) (hl : l.length ≤ 9223372036854775807) :
    Calls Try.prog 6 #[.int .i64 n, .int .i64 room, .slice a l.length cap] w fun e w' => e = .returned (.bool true) ∧ Below w.heap.size w w' := by
  have HH := Lib.hid (heavy_any w a cap l h ok hl)
  have HR := Lib.hid h
  have HOKX := Lib.hid ok
  have hlI : (0 : Int) ≤ l.length ∧ (l.length : Int) ≤ 9223372036854775807 := by omega
  clear h ok hl
  go_enter Try.func6, Try.ntmps6
  go_wp2_with fail
  refine HH.out.mono ?_
  rintro e w1 ⟨rfl, hw⟩
  subst w1
  cases hhv : heavyB l with
  | true =>
    clear hhv HH
    go_wp2_with fail
    refine (alive09 w).mono ?_
    rintro e w2 ⟨rfl, hb⟩
    have HB := Lib.hid hb
    clear hb
    go_wp2_with fail
    go_ret
    exact ⟨rfl, HB.out⟩
  | false =>
    have HHV := Lib.hid (heavy_no hhv)
    clear hhv HH
    by_cases hbad : n < 1 ∨ 16 < n ∨ room < 0 ∨ 4194304 < room
    · have HN := Lib.hid (new_no w n room hbad)
      have HN2 := Lib.hid (rnew_no w n room hbad)
      clear hbad
      go_wp2_with fail
      refine HN.out.mono ?_
      rintro e w1 ⟨rfl, hw⟩
      subst w1
      go_wp2_with fail
      refine HN2.out.mono ?_
      rintro e w1 ⟨rfl, hw⟩
      subst w1
      go_wp2_with fail
      refine (alive09 w).mono ?_
      rintro e w2 ⟨rfl, hb⟩
      have HB := Lib.hid hb
      clear hb
      go_wp2_with fail
      go_ret
      exact ⟨rfl, HB.out⟩
    · obtain ⟨nn, rfl⟩ := Int.eq_ofNat_of_zero_le (show 0 ≤ n by omega)
      obtain ⟨rr, rfl⟩ := Int.eq_ofNat_of_zero_le (show 0 ≤ room by omega)
      have hn1 : 1 ≤ nn := by omega
      have hn2 : nn ≤ 16 := by omega
      have hr1 : rr ≤ 4194304 := by omega
      have HN := Lib.hid (new_has w nn rr hn1 hn2 hr1)
      have HN2 := Lib.hid (fun wz => rnew_has wz nn rr hn1 hn2 hr1)
      have HOK0 := Lib.hid (Dk.new_ok nn rr hn1 hn2 (by unfold Dk.Most; exact hr1))
      clear hbad hn1 hn2 hr1
      go_wp2_with fail
      refine HN.out.mono ?_
      rintro e w1 ⟨rfl, hd, hb1, hlt1⟩
      have HD := Lib.hid hd
      have HB1 := Lib.hid hb1
      clear hd hb1 hlt1
      go_wp2_with fail
      refine (HN2.out w1).mono ?_
      rintro e w2 ⟨q, sa, sc, rfl, hx, hb2, hq2⟩
      have hP : Ply w w2 w.heap.size q (Dk.new nn rr) 0 := ⟨⟨[w.heap.size], sa, sc, none, 0, HD.out.own hb2, hx, by simp, by simp; exact Nat.le_trans HB1.out.size hq2, ((Own.refl w).trans HB1.out).trans hb2⟩, HOK0.out, (fun c hc => by cases hc), Nat.le_refl _⟩
      have HP := Lib.hid hP
      clear hx hb2 hq2 hP HD HB1 HN HN2 HOK0
      generalize w.heap.size = p at HP ⊢
      go_wp2_with fail
      go_loopw [7, 9, 10] (fun vd vx vi wr => ∃ (k p q : Nat) (d : Dk.D), k ≤ l.length ∧ vi = .int .i64 k ∧ vd = .pointer (some ⟨p, 0, none⟩) ∧ vx = .pointer (some ⟨q, 0, none⟩) ∧ Ply w wr p q d k) (fun _ _ vi _ => l.length - (intOf vi).toNat)
      case atStart => exact ⟨0, p, q, _, Nat.zero_le _, rfl, rfl, rfl, HP.out⟩
      case round =>
        clear HP
        obtain ⟨k, p, q, d, hk, rfl, rfl, rfl, hP⟩ := hrel
        obtain ⟨F, sa, sc, la, lc, hBo⟩ := hP.both
        have HBo := Lib.hid hBo
        have HPl := Lib.hid hP
        by_cases hlt : k < l.length
        · obtain ⟨g, off, rfl, hg, c0, c1, c2, c3, c4, c5⟩ := StepsAt.at (RowIs.keep HR.out hBo.own.below) k hlt
          have hkI : (0 : Int) ≤ k ∧ (k : Int) < l.length := by omega
          have hx := HOKX.out l[k] (List.getElem_mem hlt)
          have hsz := ssum_get HHV.out.1 l[k] (List.getElem_mem hlt)
          generalize l[k] = s at *
          have HX := Lib.hid hx
          have HSZ := Lib.hid hsz
          have HLE : Hid (d.loose.length ≤ 1000) := Lib.hid (by have := hP.few; have := HHV.out.2; omega)
          have hk8 := hx.kind
          obtain ⟨r, hr⟩ : ∃ r, r = s.kind % 8 := ⟨_, rfl⟩
          have hr8 : r < 8 := by omega
          have ht : (s.kind : Int).tmod 8 = r := by rw [Int.tmod_eq_emod_of_nonneg (by omega)]; omega
          have he : (s.kind : Int) % 8 = r := by omega
          have HE := Lib.hid (doX_at d s r hr)
          have HRK := Lib.hid hr
          clear hx hsz hk8 hr hP
          go_upto_region 13 with (fail)
          have hS1 : StepIn (wr.alloc (.cells #[.int .u8 s.kind, .int .i64 s.file, .int .i64 s.n, .int .i64 s.m, .string s.s, .int .u8 (by8 s.b)] 32 (0, 0))) wr.heap.size s := heap_alloc_new wr _
          have hB1 := hBo.keep ((Own.refl wr).alloc (.cells #[.int .u8 s.kind, .int .i64 s.file, .int .i64 s.n, .int .i64 s.m, .string s.s, .int .u8 (by8 s.b)] 32 (0, 0))).below
          have hbl : g < wr.heap.size := hg
          clear c0 c1 c2 c3 c4 c5 hg hBo hbl
          generalize wr.alloc (.cells #[.int .u8 s.kind, .int .i64 s.file, .int .i64 s.n, .int .i64 s.m, .string s.s, .int .u8 (by8 s.b)] 32 (0, 0)) = w3 at *
          generalize wr.heap.size = b at *
          obtain ⟨x0, x1, x2, x3, x4, x5⟩ := hS1.facts
          have HST := Lib.hid hS1
          have HB3 := Lib.hid hB1
          clear hS1 hB1
          go_upto_block 2 with (fail)
          go_cut [12] (fun v wx => v = .int .i64 (doX d s).2 ∧ StepIn wx b s ∧ ∃ sa' sc' la' lc', Both w wx p d q (doX d s).1 F sa' sc' la' lc')
          case first =>
            match r, hr8 with
            | 0, _ =>
              go_wp2_with fail
              refine (rwrite HB3.out.ans HPl.out.ok (by have := HLE.out; omega) HPl.out.cuts s.file s.s (by have := HSZ.out; omega)).mono ?_
              rintro e w4 ⟨rfl, hs4⟩
              have HS4 := Lib.hid hs4
              clear hs4
              go_wp2_with fail
              go_meet
              rw [HE.out]
              exact ⟨rfl, HST.out.rstep HB3.out.ans HS4.out, HB3.out.rstep HS4.out⟩
            | 1, _ =>
              go_wp2_with fail
              refine (rcut HB3.out.ans HPl.out.ok (by have := HLE.out; omega) HPl.out.cuts s.file s.n HX.out.n1 HX.out.n2).mono ?_
              rintro e w4 ⟨rfl, hs4⟩
              have HS4 := Lib.hid hs4
              clear hs4
              go_wp2_with fail
              go_meet
              rw [HE.out]
              exact ⟨rfl, HST.out.rstep HB3.out.ans HS4.out, HB3.out.rstep HS4.out⟩
            | 2, _ =>
              go_wp2_with fail
              refine (rsync HB3.out.ans HPl.out.ok (by have := HLE.out; omega) HPl.out.cuts).mono ?_
              rintro e w4 ⟨rfl, hs4⟩
              have HS4 := Lib.hid hs4
              clear hs4
              go_wp2_with fail
              go_meet
              rw [HE.out]
              exact ⟨rfl, HST.out.rstep HB3.out.ans HS4.out, HB3.out.rstep HS4.out⟩
            | 3, _ =>
              go_wp2_with fail
              refine (rfuse HB3.out.ans s.n).mono ?_
              rintro e w4 ⟨rfl, hs4⟩
              have HS4 := Lib.hid hs4
              clear hs4
              go_wp2_with fail
              go_meet
              rw [HE.out]
              exact ⟨rfl, HST.out.rstep HB3.out.ans HS4.out, HB3.out.rstep HS4.out⟩
            | 4, _ =>
              go_wp2_with fail
              refine (rcrash HB3.out.ans HPl.out.ok (by have := HLE.out; omega) HPl.out.cuts s.n s.m).mono ?_
              rintro e w4 ⟨rfl, hs4⟩
              have HS4 := Lib.hid hs4
              clear hs4
              go_wp2_with fail
              go_meet
              rw [HE.out]
              exact ⟨rfl, HST.out.rstep HB3.out.ans HS4.out, HB3.out.rstep HS4.out⟩
            | 5, _ =>
              go_wp2_with fail
              refine (rspoil HB3.out.ans HPl.out.ok (by have := HLE.out; omega) HPl.out.cuts s.file s.n HX.out.n1 HX.out.n2 s.b).mono ?_
              rintro e w4 ⟨rfl, hs4⟩
              have HS4 := Lib.hid hs4
              clear hs4
              go_wp2_with fail
              go_meet
              rw [HE.out]
              exact ⟨rfl, HST.out.rstep HB3.out.ans HS4.out, HB3.out.rstep HS4.out⟩
            | 6, _ =>
              go_wp2_with fail
              refine (rread HB3.out.ans HPl.out.ok (by have := HLE.out; omega) HPl.out.cuts s.file).mono ?_
              rintro e w4 ⟨rfl, hb4⟩
              have HB4 := Lib.hid hb4
              clear hb4
              go_wp2_with fail
              go_meet
              rw [HE.out]
              exact ⟨rfl, HST.out.keep HB4.out, _, _, _, _, HB3.out.keep HB4.out⟩
            | 7, _ =>
              go_wp2_with fail
              go_meet
              rw [HE.out]
              exact ⟨rfl, HST.out, _, _, _, _, HB3.out⟩
          case rest =>
            obtain ⟨rfl, hst, sa', sc', la', lc', hBo⟩ := hcut
            clear x0 x1 x2 x3 x4 x5 HST HB3
            obtain ⟨x0, x1, x2, x3, x4, x5⟩ := hst.facts
            have HDO := Lib.hid (does_has hBo.disk HPl.out.ok (by have := HLE.out; omega) s HX.out (by have := HSZ.out; omega))
            have HDF := Lib.hid (doX_facts d HPl.out.ok s HX.out)
            have HCN := Lib.hid (cutsNone_doX d HPl.out.ok s HPl.out.cuts)
            have HST := Lib.hid hst
            have HB4 := Lib.hid hBo
            clear hst hBo
            go_wp2_with fail
            refine HDO.out.mono ?_
            rintro e w5 ⟨rfl, hs5⟩
            have hst5 := HST.out.dstep HB4.out.disk hs5
            obtain ⟨F5, hB5⟩ := HB4.out.dstep hs5
            clear x0 x1 x2 x3 x4 x5 hs5 HST HB4 HDO
            obtain ⟨x0, x1, x2, x3, x4, x5⟩ := hst5.facts
            have HB5 := Lib.hid hB5
            have HST5 := Lib.hid hst5
            by_cases h7 : r = 7
            · subst h7
              have hdx : doX d s = (d, 0) := HE.out
              rw [hdx]
              have hB5 : Both w w5 p d q d F5 sa' sc' la' lc' := by have h := HB5.out; rw [hdx] at h; exact h
              have hco := copy_has hB5.disk HPl.out.ok (by have := HLE.out; omega)
              have HCO := Lib.hid hco
              have HB5 := Lib.hid hB5
              clear hB5 hst5 hco hdx HDF HCN
              go_wp2_with fail
              refine HCO.out.mono ?_
              rintro e w6 ⟨p2, F2, rfl, hD2, hb6, hf2⟩
              have hB6 : Both w w6 p2 d q d F2 sa' sc' la' lc' := ⟨hD2, HB5.out.ans.keep hb6, fun z hz => Nat.le_trans HB5.out.own.size (hf2 z hz), HB5.out.fx, HB5.out.own.trans hb6⟩
              have hold := HB5.out.disk.own hb6
              have hdis : ∀ z ∈ F5, z ∉ F2 := fun z hz h2 => by have h3 := HB5.out.disk.lt z hz; have h4 := hf2 z h2; omega
              have HW := Lib.hid (write_has hold HPl.out.ok (by have := HLE.out; omega) 0 ⟨#[108, 111, 115, 116]⟩ (by decide))
              have HWF := Lib.hid (write_facts d HPl.out.ok 0 ⟨#[108, 111, 115, 116]⟩)
              have HB6 := Lib.hid hB6
              have HOLD := Lib.hid (And.intro hold hdis)
              have hst6 := HST5.out.keep hb6
              clear x0 x1 x2 x3 x4 x5 hD2 hf2 hB6 hold hdis HCO hb6
              obtain ⟨x0, x1, x2, x3, x4, x5⟩ := hst6.facts
              have HST6 := Lib.hid hst6
              clear hst6
              go_wp2_with fail
              refine HW.out.mono ?_
              rintro e w7 ⟨rfl, hs7⟩
              have hst7 := HST6.out.dstep HOLD.out.1 hs7
              obtain ⟨hB7, F7, hD7, hf7, hdis7⟩ := HB6.out.beside HOLD.out.1 (fun z hz => HB5.out.fd z hz) HOLD.out.2 hs7
              have HCR := Lib.hid (crash_has hD7 (Dk.write_ok HPl.out.ok 0 ⟨#[108, 111, 115, 116]⟩) (by have := HLE.out; have := HWF.out.2.2.2.1; omega) s.n s.m)
              have HB7 := Lib.hid hB7
              have HD7 := Lib.hid (And.intro hD7 (And.intro hf7 hdis7))
              clear x0 x1 x2 x3 x4 x5 hB7 hD7 hf7 hdis7 hs7 HW HST6
              obtain ⟨x0, x1, x2, x3, x4, x5⟩ := hst7.facts
              clear hst7
              go_wp2_with fail
              refine HCR.out.mono ?_
              rintro e w8 ⟨rfl, hs8⟩
              obtain ⟨hB8, _⟩ := HB7.out.beside HD7.out.1 HD7.out.2.1 HD7.out.2.2 hs8
              have HRC := Lib.hid (rcopy hB8.ans HPl.out.ok (by have := HLE.out; omega))
              have HB8 := Lib.hid hB8
              clear hB8 hs8 HCR x0 x1 x2 x3 x4 x5
              go_wp2_with fail
              refine HRC.out.mono ?_
              rintro e w9 ⟨q2, sa2, sc2, la2, lc2, rfl, hR9, hb9, hq9, hk9⟩
              have hB9 : Both w w9 p2 d q2 d F2 sa2 sc2 la2 lc2 := ⟨HB8.out.disk.own hb9, hR9, HB8.out.fd, fun z hz => by rcases List.mem_cons.1 hz with rfl | hz; exact Nat.le_trans HB8.out.own.size hq9; exact Nat.le_trans HB8.out.own.size (hk9 z hz), HB8.out.own.trans hb9⟩
              have HSM := Lib.hid (same_any hB9 HPl.out.ok (by have := HLE.out; omega) HPl.out.cuts)
              have HB9 := Lib.hid hB9
              clear hB9 hR9 hb9 hq9 hk9 HRC
              go_wp2_with fail
              refine HSM.out.mono ?_
              rintro e w10 ⟨rfl, hb10⟩
              have HB10 := Lib.hid (HB9.out.keep hb10)
              clear hb10 HSM
              go_wp2_with fail
              go_roundw
              case rel => exact ⟨k + 1, p2, q2, d, by omega, by go_num, rfl, rfl, ⟨_, _, _, _, _, HB10.out⟩, HPl.out.ok, HPl.out.cuts, by have := HPl.out.few; omega⟩
              case measure => simp [intOf]; omega
            · have hr7 : ((r : Int) == 7) = false := by rw [beq_eq_false_iff_ne]; omega
              have HSM := Lib.hid (same_any hB5 HDF.out.1 (by have := HDF.out.2.2; have := HLE.out; omega) HCN.out)
              clear hB5 hst5
              go_wp2_with fail
              refine HSM.out.mono ?_
              rintro e w6 ⟨rfl, hb6⟩
              have HB6 := Lib.hid (HB5.out.keep hb6)
              clear hb6 HSM
              go_wp2_with fail
              go_roundw
              case rel => exact ⟨k + 1, p, q, (doX d s).1, by omega, by go_num, rfl, rfl, ⟨_, _, _, _, _, HB6.out⟩, HDF.out.1, HCN.out, by have := HDF.out.2.2; have := HPl.out.few; omega⟩
              case measure => simp [intOf]; omega
        · obtain rfl : k = l.length := by omega
          clear hBo hP
          go_wp2_with fail
          refine (alive09 wr).mono ?_
          rintro e w2 ⟨rfl, hb⟩
          have HB := Lib.hid (HBo.out.own.trans hb)
          clear hb
          go_wp2_with fail
          go_ret
          exact ⟨rfl, HB.out.below⟩

end Go.Proofs.Ytickdhlhafifhaa
