/-
  Joined out of the texts MsgList MsgList2 MsgRow MsgRow2 MsgList3 MsgList4.
-/
import Derived.Test.YtjgnomjjphkfbaaGreatRCd
namespace Go.Proofs.YtjgnomjjphkfbaaGreat
open Go.RowKit

/-- A list in memory that calls that write leave as it is; R: how an element lies at a place. -/
def ListT {α : Type} (R : World → Nat → Nat → α → Prop) (sz : Nat) (w : World) (s : Option Addr) (l : List α) : Prop := ∀ (i : Nat) (h : i < l.length), ∃ g o, s = some ⟨g, o, none⟩ ∧ R w g (o + i * sz) l[i]
theorem ListT.keep {α : Type} {R : World → Nat → Nat → α → Prop} {sz : Nat} {w w' : World} {s : Option Addr} {l : List α} (h : ListT R sz w s l) (hk : ∀ g o a, R w g o a → R w' g o a) : ListT R sz w' s l := fun i hi => by
  obtain ⟨g, o, h1, h2⟩ := h i hi
  exact ⟨g, o, h1, hk _ _ _ h2⟩
namespace Mg
theorem encs_snoc {α : Type} (c : Codec α) (l : List α) (a : α) : encs c (l ++ [a]) = encs c l ++ c.enc a := by simp [encs]
theorem encs_take_le {α : Type} (c : Codec α) (l : List α) (i : Nat) : (encs c (l.take i)).length ≤ (encs c l).length := by
  have e : encs c l = encs c (l.take i) ++ encs c (l.drop i) := by
    unfold encs
    rw [← List.flatMap_append, List.take_append_drop]
  rw [e, List.length_append]
  omega
end Mg

set_option maxRecDepth 20000 in
set_option maxHeartbeats 4000000 in
theorem listW_read (B k m : Nat) (bs : List UInt8) (bad : Bool) (g off : Nat) (s : Option Addr) (cap : Nat) (l : List Mg.Rd) (w : World) (h : CdAt B k bs bad m w) (hx : CellT w g off (.slice s l.length cap))
    (hl : ListT (fun w g o a => CellsT w g o (Mg.Rd.cells a)) 2 w s l) (ok : ∀ a ∈ l, a.Good) (hn : l.length ≤ 100000) (hlen : bs.length + ((Mg.list 512 Mg.cRd).enc l).length ≤ 1073741824) :
    Calls Tryz.prog 109 #[.pointer (some ⟨k, 0, none⟩), .pointer (some ⟨g, off, none⟩), .func (.func 110) #[.pointer (some ⟨k, 0, none⟩)] #[]] w fun e w' => e = .returned (.tuple #[]) ∧ CdAt B k (bs ++ (Mg.list 512 Mg.cRd).enc l) (bad || !(Mg.list 512 Mg.cRd).fit l) m w' ∧ FrW B w w' := by
  obtain ⟨b1, hb1⟩ : ∃ b : Bool, b = (bad || !decide (l.length ≤ 512)) := ⟨_, rfl⟩
  obtain ⟨hcd, hfr⟩ := h.bad b1
  obtain ⟨w1, hw1⟩ : ∃ w1, w1 = w.setCell ⟨k, 3, none⟩ (.bool b1) := ⟨_, rfl⟩
  rw [← hw1] at hcd hfr
  have hxI : (0 : Int) ≤ l.length ∧ (l.length : Int) ≤ 100000 := by omega
  obtain ⟨d0, d3, d4, dz⟩ := h.cells
  have e0 := hx.cell
  have hpre : decide ((512 : Int) < l.length) = !decide (l.length ≤ 512) := by
    by_cases hh : l.length ≤ 512
    · rw [decide_eq_true hh, decide_eq_false (by omega)]; rfl
    · rw [decide_eq_false hh, decide_eq_true (by omega)]; rfl
  have hcv : IntKind.u64.wrap (l.length : Int) = l.length := by rw [IntKind.wrap_u64]; omega
  have HX1 := Lib.hid (hx.keep hfr)
  have HX0 := Lib.hid hx
  have HCD := Lib.hid hcd
  have HFR := Lib.hid hfr
  clear h hx hcd hfr
  have HLN := Lib.hid hn
  have HEN := Lib.hid hlen
  have HLS := Lib.hid hl
  have HOK := Lib.hid ok
  have HB1 := Lib.hid hb1
  have HW1 := Lib.hid hw1
  clear hn hlen hl ok hb1 hw1
  go_enter Tryz.func109, Tryz.ntmps109
  go_upto_region 11 with (fail)
  go_cut [6] (fun v wx => v = .int .i64 l.length ∧ wx = w1)
  case first =>
    cases bad with
    | true =>
      have hb : b1 = true := by simpa using HB1.out
      subst hb
      clear hpre
      go_wp2_with fail
      go_meet
      exact ⟨rfl, HW1.out.symm⟩
    | false =>
      have hb2 : b1 = !decide (l.length ≤ 512) := by simpa using HB1.out
      rw [← hb2] at hpre
      clear hb2
      go_wp2_with fail
      go_meet
      exact ⟨rfl, HW1.out.symm⟩
  case rest =>
  obtain ⟨rfl, hwc⟩ := hcut
  subst hwc
  clear d0 d3 d4 dz e0 hpre HW1
  have HU := Lib.hid (fun wz => uints_dr wz l.length (by have := HLN.out; omega))
  have hel : (Mg.list 512 Mg.cRd).enc l = Wr.uv l.length ++ Mg.encs Mg.cRd l := rfl
  rw [hel, List.length_append] at HEN
  have HWS := Lib.hid (fun wz (hc : CdAt B k bs b1 m wz) => cd_string B k m bs b1 (S (Wr.uv l.length)) wz hc (by rw [S_size]; have := HEN.out; omega))
  have HZ0 : Hid (FrW B wc wc.drew) := Lib.hid (FrW.refl B wc).drew
  go_upto_region 12 with (fail)
  go_region_held3 (fun _ => True)
    (first | exact True.intro | fail)
    (first
    | (go_at_call 104
       (with_reducible refine (HU.out _).mono ?_)
       rintro e w2 ⟨rfl, hb2⟩
       have HB2 := Lib.hid (FrW.of_below B hb2)
       have HC2 := Lib.hid (HCD.out.keep hb2)
       clear hb2)
    | (go_at_call 99
       (with_reducible refine (HWS.out _ HC2.out).mono ?_)
       rintro e w3 ⟨rfl, hc3, hf3⟩
       have HC3 := Lib.hid hc3
       have HF3 := Lib.hid (HFR.out.trans (HB2.out.trans hf3))
       have hx3 := (HX1.out.keep (HB2.out.trans hf3)).cell
       have HX3 := Lib.hid (HX1.out.keep (HB2.out.trans hf3))
       clear hc3 hf3))
  go_wp2_with fail
  clear hx3
  go_loopw [68] (fun vi wr => ∃ i : Nat, i ≤ l.length ∧ vi = .int .i64 i ∧ CdAt B k (bs ++ Wr.uv l.length ++ Mg.encs Mg.cRd (l.take i)) (b1 || !(l.take i).all Mg.cRd.fit) m wr ∧ FrW B w wr) (fun vi _ => l.length - (intOf vi).toNat)
  case atStart => exact ⟨0, Nat.zero_le _, rfl, by have h3 := HC3.out; rw [L_S] at h3; simpa [Mg.encs] using h3, HF3.out⟩
  case round =>
    obtain ⟨i, hi, rfl, hc, hf⟩ := hrel
    have HC := Lib.hid hc
    have HF := Lib.hid hf
    clear hc hf
    have c0 := (HX0.out.keep HF.out).cell
    by_cases hlt : i < l.length
    · have hiI : (0 : Int) ≤ i ∧ (i : Int) < l.length := by omega
      obtain ⟨gs, os, hs, hce⟩ := HLS.out i hlt
      subst hs
      obtain ⟨y, hy⟩ : ∃ y, y = l[i]'hlt := ⟨_, rfl⟩
      have hmem : y ∈ l := by rw [hy]; exact List.getElem_mem _
      rw [← hy] at hce
      have HTK : Hid (l.take (i + 1) = l.take i ++ [y]) := Lib.hid (by rw [hy, List.take_append_getElem hlt])
      have HRD := Lib.hid (readW B k m (bs ++ Wr.uv l.length ++ Mg.encs Mg.cRd (l.take i)) (b1 || !(l.take i).all Mg.cRd.fit) gs (os + i * 2) y wr HC.out (hce.keep HF.out) (HOK.out y hmem) (by
        have h1 := HEN.out
        have h2 := Mg.encs_take_le Mg.cRd l (i + 1)
        rw [HTK.out, Mg.encs_snoc, List.length_append] at h2
        simp only [List.length_append]
        omega))
      clear hy hce hmem
      go_wp2_with fail
      refine HRD.out.mono ?_
      rintro e w4 ⟨rfl, hc4, hf4⟩
      have HC4 := Lib.hid hc4
      have HF4 := Lib.hid (HF.out.trans hf4)
      clear hc4 hf4 HRD c0
      go_wp2_with fail
      go_roundw
      case rel =>
        refine ⟨i + 1, by omega, by go_num, ?_, HF4.out⟩
        have h4 := HC4.out
        rw [HTK.out, Mg.encs_snoc]
        simpa only [List.append_assoc, List.all_append, List.all_cons, List.all_nil, Bool.and_true, Bool.not_and, Bool.or_assoc] using h4
      case measure => simp [intOf]; omega
    · obtain rfl : i = l.length := by omega
      clear c0
      go_wp2_with fail
      refine bodyPost_end (v := .tuple #[]) (by simp [results, Tryz.results109, go_sem]) rfl ⟨rfl, ?_, HF.out⟩
      have h4 := HC.out
      rw [List.take_length] at h4
      have hfl : (bad || !(Mg.list 512 Mg.cRd).fit l) = (b1 || !l.all Mg.cRd.fit) := by
        rw [HB1.out]
        simp only [Mg.list, Bool.not_and, Bool.or_assoc]
      rw [hel, hfl, ← List.append_assoc]
      exact h4

end Go.Proofs.YtjgnomjjphkfbaaGreat

namespace Go.Proofs.YtjgnomjjphkfbaaGreat
open Go.RowKit

set_option maxRecDepth 20000 in
set_option maxHeartbeats 4000000 in
theorem listW_edit (B k m : Nat) (bs : List UInt8) (bad : Bool) (g off : Nat) (s : Option Addr) (cap : Nat) (l : List Mg.Ed) (w : World) (h : CdAt B k bs bad m w) (hx : CellT w g off (.slice s l.length cap))
    (hl : ListT (fun w g o a => CellsT w g o (Mg.Ed.cells a)) 6 w s l) (ok : ∀ a ∈ l, a.Good) (hn : l.length ≤ 100000) (hlen : bs.length + ((Mg.list 512 Mg.cEd).enc l).length ≤ 1073741824) :
    Calls Tryz.prog 113 #[.pointer (some ⟨k, 0, none⟩), .pointer (some ⟨g, off, none⟩), .func (.func 114) #[.pointer (some ⟨k, 0, none⟩)] #[]] w fun e w' => e = .returned (.tuple #[]) ∧ CdAt B k (bs ++ (Mg.list 512 Mg.cEd).enc l) (bad || !(Mg.list 512 Mg.cEd).fit l) m w' ∧ FrW B w w' := by
  obtain ⟨b1, hb1⟩ : ∃ b : Bool, b = (bad || !decide (l.length ≤ 512)) := ⟨_, rfl⟩
  obtain ⟨hcd, hfr⟩ := h.bad b1
  obtain ⟨w1, hw1⟩ : ∃ w1, w1 = w.setCell ⟨k, 3, none⟩ (.bool b1) := ⟨_, rfl⟩
  rw [← hw1] at hcd hfr
  have hxI : (0 : Int) ≤ l.length ∧ (l.length : Int) ≤ 100000 := by omega
  obtain ⟨d0, d3, d4, dz⟩ := h.cells
  have e0 := hx.cell
  have hpre : decide ((512 : Int) < l.length) = !decide (l.length ≤ 512) := by
    by_cases hh : l.length ≤ 512
    · rw [decide_eq_true hh, decide_eq_false (by omega)]; rfl
    · rw [decide_eq_false hh, decide_eq_true (by omega)]; rfl
  have hcv : IntKind.u64.wrap (l.length : Int) = l.length := by rw [IntKind.wrap_u64]; omega
  have HX1 := Lib.hid (hx.keep hfr)
  have HX0 := Lib.hid hx
  have HCD := Lib.hid hcd
  have HFR := Lib.hid hfr
  clear h hx hcd hfr
  have HLN := Lib.hid hn
  have HEN := Lib.hid hlen
  have HLS := Lib.hid hl
  have HOK := Lib.hid ok
  have HB1 := Lib.hid hb1
  have HW1 := Lib.hid hw1
  clear hn hlen hl ok hb1 hw1
  go_enter Tryz.func113, Tryz.ntmps113
  go_upto_region 11 with (fail)
  go_cut [6] (fun v wx => v = .int .i64 l.length ∧ wx = w1)
  case first =>
    cases bad with
    | true =>
      have hb : b1 = true := by simpa using HB1.out
      subst hb
      clear hpre
      go_wp2_with fail
      go_meet
      exact ⟨rfl, HW1.out.symm⟩
    | false =>
      have hb2 : b1 = !decide (l.length ≤ 512) := by simpa using HB1.out
      rw [← hb2] at hpre
      clear hb2
      go_wp2_with fail
      go_meet
      exact ⟨rfl, HW1.out.symm⟩
  case rest =>
  obtain ⟨rfl, hwc⟩ := hcut
  subst hwc
  clear d0 d3 d4 dz e0 hpre HW1
  have HU := Lib.hid (fun wz => uints_dr wz l.length (by have := HLN.out; omega))
  have hel : (Mg.list 512 Mg.cEd).enc l = Wr.uv l.length ++ Mg.encs Mg.cEd l := rfl
  rw [hel, List.length_append] at HEN
  have HWS := Lib.hid (fun wz (hc : CdAt B k bs b1 m wz) => cd_string B k m bs b1 (S (Wr.uv l.length)) wz hc (by rw [S_size]; have := HEN.out; omega))
  have HZ0 : Hid (FrW B wc wc.drew) := Lib.hid (FrW.refl B wc).drew
  go_upto_region 12 with (fail)
  go_region_held3 (fun _ => True)
    (first | exact True.intro | fail)
    (first
    | (go_at_call 104
       (with_reducible refine (HU.out _).mono ?_)
       rintro e w2 ⟨rfl, hb2⟩
       have HB2 := Lib.hid (FrW.of_below B hb2)
       have HC2 := Lib.hid (HCD.out.keep hb2)
       clear hb2)
    | (go_at_call 99
       (with_reducible refine (HWS.out _ HC2.out).mono ?_)
       rintro e w3 ⟨rfl, hc3, hf3⟩
       have HC3 := Lib.hid hc3
       have HF3 := Lib.hid (HFR.out.trans (HB2.out.trans hf3))
       have hx3 := (HX1.out.keep (HB2.out.trans hf3)).cell
       have HX3 := Lib.hid (HX1.out.keep (HB2.out.trans hf3))
       clear hc3 hf3))
  go_wp2_with fail
  clear hx3
  go_loopw [68] (fun vi wr => ∃ i : Nat, i ≤ l.length ∧ vi = .int .i64 i ∧ CdAt B k (bs ++ Wr.uv l.length ++ Mg.encs Mg.cEd (l.take i)) (b1 || !(l.take i).all Mg.cEd.fit) m wr ∧ FrW B w wr) (fun vi _ => l.length - (intOf vi).toNat)
  case atStart => exact ⟨0, Nat.zero_le _, rfl, by have h3 := HC3.out; rw [L_S] at h3; simpa [Mg.encs] using h3, HF3.out⟩
  case round =>
    obtain ⟨i, hi, rfl, hc, hf⟩ := hrel
    have HC := Lib.hid hc
    have HF := Lib.hid hf
    clear hc hf
    have c0 := (HX0.out.keep HF.out).cell
    by_cases hlt : i < l.length
    · have hiI : (0 : Int) ≤ i ∧ (i : Int) < l.length := by omega
      obtain ⟨gs, os, hs, hce⟩ := HLS.out i hlt
      subst hs
      obtain ⟨y, hy⟩ : ∃ y, y = l[i]'hlt := ⟨_, rfl⟩
      have hmem : y ∈ l := by rw [hy]; exact List.getElem_mem _
      rw [← hy] at hce
      have HTK : Hid (l.take (i + 1) = l.take i ++ [y]) := Lib.hid (by rw [hy, List.take_append_getElem hlt])
      have HRD := Lib.hid (editW B k m (bs ++ Wr.uv l.length ++ Mg.encs Mg.cEd (l.take i)) (b1 || !(l.take i).all Mg.cEd.fit) gs (os + i * 6) y wr HC.out (hce.keep HF.out) (HOK.out y hmem) (by
        have h1 := HEN.out
        have h2 := Mg.encs_take_le Mg.cEd l (i + 1)
        rw [HTK.out, Mg.encs_snoc, List.length_append] at h2
        simp only [List.length_append]
        omega))
      clear hy hce hmem
      go_wp2_with fail
      refine HRD.out.mono ?_
      rintro e w4 ⟨rfl, hc4, hf4⟩
      have HC4 := Lib.hid hc4
      have HF4 := Lib.hid (HF.out.trans hf4)
      clear hc4 hf4 HRD c0
      go_wp2_with fail
      go_roundw
      case rel =>
        refine ⟨i + 1, by omega, by go_num, ?_, HF4.out⟩
        have h4 := HC4.out
        rw [HTK.out, Mg.encs_snoc]
        simpa only [List.append_assoc, List.all_append, List.all_cons, List.all_nil, Bool.and_true, Bool.not_and, Bool.or_assoc] using h4
      case measure => simp [intOf]; omega
    · obtain rfl : i = l.length := by omega
      clear c0
      go_wp2_with fail
      refine bodyPost_end (v := .tuple #[]) (by simp [results, Tryz.results113, go_sem]) rfl ⟨rfl, ?_, HF.out⟩
      have h4 := HC.out
      rw [List.take_length] at h4
      have hfl : (bad || !(Mg.list 512 Mg.cEd).fit l) = (b1 || !l.all Mg.cEd.fit) := by
        rw [HB1.out]
        simp only [Mg.list, Bool.not_and, Bool.or_assoc]
      rw [hel, hfl, ← List.append_assoc]
      exact h4

set_option maxRecDepth 20000 in
set_option maxHeartbeats 4000000 in
theorem listW_span (B k m : Nat) (bs : List UInt8) (bad : Bool) (g off : Nat) (s : Option Addr) (cap : Nat) (l : List Mg.Rng) (w : World) (h : CdAt B k bs bad m w) (hx : CellT w g off (.slice s l.length cap))
    (hl : ListT (fun w g o a => CellsT w g o (Mg.Rng.cells a)) 2 w s l) (ok : ∀ a ∈ l, a.Good) (hn : l.length ≤ 100000) (hlen : bs.length + ((Mg.list 512 Mg.cRng).enc l).length ≤ 1073741824) :
    Calls Tryz.prog 120 #[.pointer (some ⟨k, 0, none⟩), .pointer (some ⟨g, off, none⟩), .func (.func 117) #[.pointer (some ⟨k, 0, none⟩)] #[]] w fun e w' => e = .returned (.tuple #[]) ∧ CdAt B k (bs ++ (Mg.list 512 Mg.cRng).enc l) (bad || !(Mg.list 512 Mg.cRng).fit l) m w' ∧ FrW B w w' := by
  obtain ⟨b1, hb1⟩ : ∃ b : Bool, b = (bad || !decide (l.length ≤ 512)) := ⟨_, rfl⟩
  obtain ⟨hcd, hfr⟩ := h.bad b1
  obtain ⟨w1, hw1⟩ : ∃ w1, w1 = w.setCell ⟨k, 3, none⟩ (.bool b1) := ⟨_, rfl⟩
  rw [← hw1] at hcd hfr
  have hxI : (0 : Int) ≤ l.length ∧ (l.length : Int) ≤ 100000 := by omega
  obtain ⟨d0, d3, d4, dz⟩ := h.cells
  have e0 := hx.cell
  have hpre : decide ((512 : Int) < l.length) = !decide (l.length ≤ 512) := by
    by_cases hh : l.length ≤ 512
    · rw [decide_eq_true hh, decide_eq_false (by omega)]; rfl
    · rw [decide_eq_false hh, decide_eq_true (by omega)]; rfl
  have hcv : IntKind.u64.wrap (l.length : Int) = l.length := by rw [IntKind.wrap_u64]; omega
  have HX1 := Lib.hid (hx.keep hfr)
  have HX0 := Lib.hid hx
  have HCD := Lib.hid hcd
  have HFR := Lib.hid hfr
  clear h hx hcd hfr
  have HLN := Lib.hid hn
  have HEN := Lib.hid hlen
  have HLS := Lib.hid hl
  have HOK := Lib.hid ok
  have HB1 := Lib.hid hb1
  have HW1 := Lib.hid hw1
  clear hn hlen hl ok hb1 hw1
  go_enter Tryz.func120, Tryz.ntmps120
  go_upto_region 11 with (fail)
  go_cut [6] (fun v wx => v = .int .i64 l.length ∧ wx = w1)
  case first =>
    cases bad with
    | true =>
      have hb : b1 = true := by simpa using HB1.out
      subst hb
      clear hpre
      go_wp2_with fail
      go_meet
      exact ⟨rfl, HW1.out.symm⟩
    | false =>
      have hb2 : b1 = !decide (l.length ≤ 512) := by simpa using HB1.out
      rw [← hb2] at hpre
      clear hb2
      go_wp2_with fail
      go_meet
      exact ⟨rfl, HW1.out.symm⟩
  case rest =>
  obtain ⟨rfl, hwc⟩ := hcut
  subst hwc
  clear d0 d3 d4 dz e0 hpre HW1
  have HU := Lib.hid (fun wz => uints_dr wz l.length (by have := HLN.out; omega))
  have hel : (Mg.list 512 Mg.cRng).enc l = Wr.uv l.length ++ Mg.encs Mg.cRng l := rfl
  rw [hel, List.length_append] at HEN
  have HWS := Lib.hid (fun wz (hc : CdAt B k bs b1 m wz) => cd_string B k m bs b1 (S (Wr.uv l.length)) wz hc (by rw [S_size]; have := HEN.out; omega))
  have HZ0 : Hid (FrW B wc wc.drew) := Lib.hid (FrW.refl B wc).drew
  go_upto_region 12 with (fail)
  go_region_held3 (fun _ => True)
    (first | exact True.intro | fail)
    (first
    | (go_at_call 104
       (with_reducible refine (HU.out _).mono ?_)
       rintro e w2 ⟨rfl, hb2⟩
       have HB2 := Lib.hid (FrW.of_below B hb2)
       have HC2 := Lib.hid (HCD.out.keep hb2)
       clear hb2)
    | (go_at_call 99
       (with_reducible refine (HWS.out _ HC2.out).mono ?_)
       rintro e w3 ⟨rfl, hc3, hf3⟩
       have HC3 := Lib.hid hc3
       have HF3 := Lib.hid (HFR.out.trans (HB2.out.trans hf3))
       have hx3 := (HX1.out.keep (HB2.out.trans hf3)).cell
       have HX3 := Lib.hid (HX1.out.keep (HB2.out.trans hf3))
       clear hc3 hf3))
  go_wp2_with fail
  clear hx3
  go_loopw [68] (fun vi wr => ∃ i : Nat, i ≤ l.length ∧ vi = .int .i64 i ∧ CdAt B k (bs ++ Wr.uv l.length ++ Mg.encs Mg.cRng (l.take i)) (b1 || !(l.take i).all Mg.cRng.fit) m wr ∧ FrW B w wr) (fun vi _ => l.length - (intOf vi).toNat)
  case atStart => exact ⟨0, Nat.zero_le _, rfl, by have h3 := HC3.out; rw [L_S] at h3; simpa [Mg.encs] using h3, HF3.out⟩
  case round =>
    obtain ⟨i, hi, rfl, hc, hf⟩ := hrel
    have HC := Lib.hid hc
    have HF := Lib.hid hf
    clear hc hf
    have c0 := (HX0.out.keep HF.out).cell
    by_cases hlt : i < l.length
    · have hiI : (0 : Int) ≤ i ∧ (i : Int) < l.length := by omega
      obtain ⟨gs, os, hs, hce⟩ := HLS.out i hlt
      subst hs
      obtain ⟨y, hy⟩ : ∃ y, y = l[i]'hlt := ⟨_, rfl⟩
      have hmem : y ∈ l := by rw [hy]; exact List.getElem_mem _
      rw [← hy] at hce
      have HTK : Hid (l.take (i + 1) = l.take i ++ [y]) := Lib.hid (by rw [hy, List.take_append_getElem hlt])
      have HRD := Lib.hid (spanW B k m (bs ++ Wr.uv l.length ++ Mg.encs Mg.cRng (l.take i)) (b1 || !(l.take i).all Mg.cRng.fit) gs (os + i * 2) y wr HC.out (hce.keep HF.out) (HOK.out y hmem) (by
        have h1 := HEN.out
        have h2 := Mg.encs_take_le Mg.cRng l (i + 1)
        rw [HTK.out, Mg.encs_snoc, List.length_append] at h2
        simp only [List.length_append]
        omega))
      clear hy hce hmem
      go_wp2_with fail
      refine HRD.out.mono ?_
      rintro e w4 ⟨rfl, hc4, hf4⟩
      have HC4 := Lib.hid hc4
      have HF4 := Lib.hid (HF.out.trans hf4)
      clear hc4 hf4 HRD c0
      go_wp2_with fail
      go_roundw
      case rel =>
        refine ⟨i + 1, by omega, by go_num, ?_, HF4.out⟩
        have h4 := HC4.out
        rw [HTK.out, Mg.encs_snoc]
        simpa only [List.append_assoc, List.all_append, List.all_cons, List.all_nil, Bool.and_true, Bool.not_and, Bool.or_assoc] using h4
      case measure => simp [intOf]; omega
    · obtain rfl : i = l.length := by omega
      clear c0
      go_wp2_with fail
      refine bodyPost_end (v := .tuple #[]) (by simp [results, Tryz.results120, go_sem]) rfl ⟨rfl, ?_, HF.out⟩
      have h4 := HC.out
      rw [List.take_length] at h4
      have hfl : (bad || !(Mg.list 512 Mg.cRng).fit l) = (b1 || !l.all Mg.cRng.fit) := by
        rw [HB1.out]
        simp only [Mg.list, Bool.not_and, Bool.or_assoc]
      rw [hel, hfl, ← List.append_assoc]
      exact h4

set_option maxRecDepth 20000 in
set_option maxHeartbeats 4000000 in
theorem listW_version (B k m : Nat) (bs : List UInt8) (bad : Bool) (g off : Nat) (s : Option Addr) (cap : Nat) (l : List Mg.Ver) (w : World) (h : CdAt B k bs bad m w) (hx : CellT w g off (.slice s l.length cap))
    (hl : ListT (fun w g o a => CellsT w g o (Mg.Ver.cells a)) 3 w s l) (ok : ∀ a ∈ l, a.Good) (hn : l.length ≤ 100000) (hlen : bs.length + ((Mg.list 512 Mg.cVer).enc l).length ≤ 1073741824) :
    Calls Tryz.prog 142 #[.pointer (some ⟨k, 0, none⟩), .pointer (some ⟨g, off, none⟩), .func (.func 143) #[.pointer (some ⟨k, 0, none⟩)] #[]] w fun e w' => e = .returned (.tuple #[]) ∧ CdAt B k (bs ++ (Mg.list 512 Mg.cVer).enc l) (bad || !(Mg.list 512 Mg.cVer).fit l) m w' ∧ FrW B w w' := by
  obtain ⟨b1, hb1⟩ : ∃ b : Bool, b = (bad || !decide (l.length ≤ 512)) := ⟨_, rfl⟩
  obtain ⟨hcd, hfr⟩ := h.bad b1
  obtain ⟨w1, hw1⟩ : ∃ w1, w1 = w.setCell ⟨k, 3, none⟩ (.bool b1) := ⟨_, rfl⟩
  rw [← hw1] at hcd hfr
  have hxI : (0 : Int) ≤ l.length ∧ (l.length : Int) ≤ 100000 := by omega
  obtain ⟨d0, d3, d4, dz⟩ := h.cells
  have e0 := hx.cell
  have hpre : decide ((512 : Int) < l.length) = !decide (l.length ≤ 512) := by
    by_cases hh : l.length ≤ 512
    · rw [decide_eq_true hh, decide_eq_false (by omega)]; rfl
    · rw [decide_eq_false hh, decide_eq_true (by omega)]; rfl
  have hcv : IntKind.u64.wrap (l.length : Int) = l.length := by rw [IntKind.wrap_u64]; omega
  have HX1 := Lib.hid (hx.keep hfr)
  have HX0 := Lib.hid hx
  have HCD := Lib.hid hcd
  have HFR := Lib.hid hfr
  clear h hx hcd hfr
  have HLN := Lib.hid hn
  have HEN := Lib.hid hlen
  have HLS := Lib.hid hl
  have HOK := Lib.hid ok
  have HB1 := Lib.hid hb1
  have HW1 := Lib.hid hw1
  clear hn hlen hl ok hb1 hw1
  go_enter Tryz.func142, Tryz.ntmps142
  go_upto_region 11 with (fail)
  go_cut [6] (fun v wx => v = .int .i64 l.length ∧ wx = w1)
  case first =>
    cases bad with
    | true =>
      have hb : b1 = true := by simpa using HB1.out
      subst hb
      clear hpre
      go_wp2_with fail
      go_meet
      exact ⟨rfl, HW1.out.symm⟩
    | false =>
      have hb2 : b1 = !decide (l.length ≤ 512) := by simpa using HB1.out
      rw [← hb2] at hpre
      clear hb2
      go_wp2_with fail
      go_meet
      exact ⟨rfl, HW1.out.symm⟩
  case rest =>
  obtain ⟨rfl, hwc⟩ := hcut
  subst hwc
  clear d0 d3 d4 dz e0 hpre HW1
  have HU := Lib.hid (fun wz => uints_dr wz l.length (by have := HLN.out; omega))
  have hel : (Mg.list 512 Mg.cVer).enc l = Wr.uv l.length ++ Mg.encs Mg.cVer l := rfl
  rw [hel, List.length_append] at HEN
  have HWS := Lib.hid (fun wz (hc : CdAt B k bs b1 m wz) => cd_string B k m bs b1 (S (Wr.uv l.length)) wz hc (by rw [S_size]; have := HEN.out; omega))
  have HZ0 : Hid (FrW B wc wc.drew) := Lib.hid (FrW.refl B wc).drew
  go_upto_region 12 with (fail)
  go_region_held3 (fun _ => True)
    (first | exact True.intro | fail)
    (first
    | (go_at_call 104
       (with_reducible refine (HU.out _).mono ?_)
       rintro e w2 ⟨rfl, hb2⟩
       have HB2 := Lib.hid (FrW.of_below B hb2)
       have HC2 := Lib.hid (HCD.out.keep hb2)
       clear hb2)
    | (go_at_call 99
       (with_reducible refine (HWS.out _ HC2.out).mono ?_)
       rintro e w3 ⟨rfl, hc3, hf3⟩
       have HC3 := Lib.hid hc3
       have HF3 := Lib.hid (HFR.out.trans (HB2.out.trans hf3))
       have hx3 := (HX1.out.keep (HB2.out.trans hf3)).cell
       have HX3 := Lib.hid (HX1.out.keep (HB2.out.trans hf3))
       clear hc3 hf3))
  go_wp2_with fail
  clear hx3
  go_loopw [68] (fun vi wr => ∃ i : Nat, i ≤ l.length ∧ vi = .int .i64 i ∧ CdAt B k (bs ++ Wr.uv l.length ++ Mg.encs Mg.cVer (l.take i)) (b1 || !(l.take i).all Mg.cVer.fit) m wr ∧ FrW B w wr) (fun vi _ => l.length - (intOf vi).toNat)
  case atStart => exact ⟨0, Nat.zero_le _, rfl, by have h3 := HC3.out; rw [L_S] at h3; simpa [Mg.encs] using h3, HF3.out⟩
  case round =>
    obtain ⟨i, hi, rfl, hc, hf⟩ := hrel
    have HC := Lib.hid hc
    have HF := Lib.hid hf
    clear hc hf
    have c0 := (HX0.out.keep HF.out).cell
    by_cases hlt : i < l.length
    · have hiI : (0 : Int) ≤ i ∧ (i : Int) < l.length := by omega
      obtain ⟨gs, os, hs, hce⟩ := HLS.out i hlt
      subst hs
      obtain ⟨y, hy⟩ : ∃ y, y = l[i]'hlt := ⟨_, rfl⟩
      have hmem : y ∈ l := by rw [hy]; exact List.getElem_mem _
      rw [← hy] at hce
      have HTK : Hid (l.take (i + 1) = l.take i ++ [y]) := Lib.hid (by rw [hy, List.take_append_getElem hlt])
      have HRD := Lib.hid (versionW B k m (bs ++ Wr.uv l.length ++ Mg.encs Mg.cVer (l.take i)) (b1 || !(l.take i).all Mg.cVer.fit) gs (os + i * 3) y wr HC.out (hce.keep HF.out) (HOK.out y hmem) (by
        have h1 := HEN.out
        have h2 := Mg.encs_take_le Mg.cVer l (i + 1)
        rw [HTK.out, Mg.encs_snoc, List.length_append] at h2
        simp only [List.length_append]
        omega))
      clear hy hce hmem
      go_wp2_with fail
      refine HRD.out.mono ?_
      rintro e w4 ⟨rfl, hc4, hf4⟩
      have HC4 := Lib.hid hc4
      have HF4 := Lib.hid (HF.out.trans hf4)
      clear hc4 hf4 HRD c0
      go_wp2_with fail
      go_roundw
      case rel =>
        refine ⟨i + 1, by omega, by go_num, ?_, HF4.out⟩
        have h4 := HC4.out
        rw [HTK.out, Mg.encs_snoc]
        simpa only [List.append_assoc, List.all_append, List.all_cons, List.all_nil, Bool.and_true, Bool.not_and, Bool.or_assoc] using h4
      case measure => simp [intOf]; omega
    · obtain rfl : i = l.length := by omega
      clear c0
      go_wp2_with fail
      refine bodyPost_end (v := .tuple #[]) (by simp [results, Tryz.results142, go_sem]) rfl ⟨rfl, ?_, HF.out⟩
      have h4 := HC.out
      rw [List.take_length] at h4
      have hfl : (bad || !(Mg.list 512 Mg.cVer).fit l) = (b1 || !l.all Mg.cVer.fit) := by
        rw [HB1.out]
        simp only [Mg.list, Bool.not_and, Bool.or_assoc]
      rw [hel, hfl, ← List.append_assoc]
      exact h4

set_option maxRecDepth 20000 in
set_option maxHeartbeats 4000000 in
theorem listW_got (B k m : Nat) (bs : List UInt8) (bad : Bool) (g off : Nat) (s : Option Addr) (cap : Nat) (l : List Mg.Got) (w : World) (h : CdAt B k bs bad m w) (hx : CellT w g off (.slice s l.length cap))
    (hl : ListT (fun w g o a => CellsT w g o (Mg.Got.cells a)) 4 w s l) (ok : ∀ a ∈ l, a.Good) (hn : l.length ≤ 100000) (hlen : bs.length + ((Mg.list 512 Mg.cGot).enc l).length ≤ 1073741824) :
    Calls Tryz.prog 122 #[.pointer (some ⟨k, 0, none⟩), .pointer (some ⟨g, off, none⟩), .func (.func 123) #[.pointer (some ⟨k, 0, none⟩)] #[]] w fun e w' => e = .returned (.tuple #[]) ∧ CdAt B k (bs ++ (Mg.list 512 Mg.cGot).enc l) (bad || !(Mg.list 512 Mg.cGot).fit l) m w' ∧ FrW B w w' := by
  obtain ⟨b1, hb1⟩ : ∃ b : Bool, b = (bad || !decide (l.length ≤ 512)) := ⟨_, rfl⟩
  obtain ⟨hcd, hfr⟩ := h.bad b1
  obtain ⟨w1, hw1⟩ : ∃ w1, w1 = w.setCell ⟨k, 3, none⟩ (.bool b1) := ⟨_, rfl⟩
  rw [← hw1] at hcd hfr
  have hxI : (0 : Int) ≤ l.length ∧ (l.length : Int) ≤ 100000 := by omega
  obtain ⟨d0, d3, d4, dz⟩ := h.cells
  have e0 := hx.cell
  have hpre : decide ((512 : Int) < l.length) = !decide (l.length ≤ 512) := by
    by_cases hh : l.length ≤ 512
    · rw [decide_eq_true hh, decide_eq_false (by omega)]; rfl
    · rw [decide_eq_false hh, decide_eq_true (by omega)]; rfl
  have hcv : IntKind.u64.wrap (l.length : Int) = l.length := by rw [IntKind.wrap_u64]; omega
  have HX1 := Lib.hid (hx.keep hfr)
  have HX0 := Lib.hid hx
  have HCD := Lib.hid hcd
  have HFR := Lib.hid hfr
  clear h hx hcd hfr
  have HLN := Lib.hid hn
  have HEN := Lib.hid hlen
  have HLS := Lib.hid hl
  have HOK := Lib.hid ok
  have HB1 := Lib.hid hb1
  have HW1 := Lib.hid hw1
  clear hn hlen hl ok hb1 hw1
  go_enter Tryz.func122, Tryz.ntmps122
  go_upto_region 11 with (fail)
  go_cut [6] (fun v wx => v = .int .i64 l.length ∧ wx = w1)
  case first =>
    cases bad with
    | true =>
      have hb : b1 = true := by simpa using HB1.out
      subst hb
      clear hpre
      go_wp2_with fail
      go_meet
      exact ⟨rfl, HW1.out.symm⟩
    | false =>
      have hb2 : b1 = !decide (l.length ≤ 512) := by simpa using HB1.out
      rw [← hb2] at hpre
      clear hb2
      go_wp2_with fail
      go_meet
      exact ⟨rfl, HW1.out.symm⟩
  case rest =>
  obtain ⟨rfl, hwc⟩ := hcut
  subst hwc
  clear d0 d3 d4 dz e0 hpre HW1
  have HU := Lib.hid (fun wz => uints_dr wz l.length (by have := HLN.out; omega))
  have hel : (Mg.list 512 Mg.cGot).enc l = Wr.uv l.length ++ Mg.encs Mg.cGot l := rfl
  rw [hel, List.length_append] at HEN
  have HWS := Lib.hid (fun wz (hc : CdAt B k bs b1 m wz) => cd_string B k m bs b1 (S (Wr.uv l.length)) wz hc (by rw [S_size]; have := HEN.out; omega))
  have HZ0 : Hid (FrW B wc wc.drew) := Lib.hid (FrW.refl B wc).drew
  go_upto_region 12 with (fail)
  go_region_held3 (fun _ => True)
    (first | exact True.intro | fail)
    (first
    | (go_at_call 104
       (with_reducible refine (HU.out _).mono ?_)
       rintro e w2 ⟨rfl, hb2⟩
       have HB2 := Lib.hid (FrW.of_below B hb2)
       have HC2 := Lib.hid (HCD.out.keep hb2)
       clear hb2)
    | (go_at_call 99
       (with_reducible refine (HWS.out _ HC2.out).mono ?_)
       rintro e w3 ⟨rfl, hc3, hf3⟩
       have HC3 := Lib.hid hc3
       have HF3 := Lib.hid (HFR.out.trans (HB2.out.trans hf3))
       have hx3 := (HX1.out.keep (HB2.out.trans hf3)).cell
       have HX3 := Lib.hid (HX1.out.keep (HB2.out.trans hf3))
       clear hc3 hf3))
  go_wp2_with fail
  clear hx3
  go_loopw [68] (fun vi wr => ∃ i : Nat, i ≤ l.length ∧ vi = .int .i64 i ∧ CdAt B k (bs ++ Wr.uv l.length ++ Mg.encs Mg.cGot (l.take i)) (b1 || !(l.take i).all Mg.cGot.fit) m wr ∧ FrW B w wr) (fun vi _ => l.length - (intOf vi).toNat)
  case atStart => exact ⟨0, Nat.zero_le _, rfl, by have h3 := HC3.out; rw [L_S] at h3; simpa [Mg.encs] using h3, HF3.out⟩
  case round =>
    obtain ⟨i, hi, rfl, hc, hf⟩ := hrel
    have HC := Lib.hid hc
    have HF := Lib.hid hf
    clear hc hf
    have c0 := (HX0.out.keep HF.out).cell
    by_cases hlt : i < l.length
    · have hiI : (0 : Int) ≤ i ∧ (i : Int) < l.length := by omega
      obtain ⟨gs, os, hs, hce⟩ := HLS.out i hlt
      subst hs
      obtain ⟨y, hy⟩ : ∃ y, y = l[i]'hlt := ⟨_, rfl⟩
      have hmem : y ∈ l := by rw [hy]; exact List.getElem_mem _
      rw [← hy] at hce
      have HTK : Hid (l.take (i + 1) = l.take i ++ [y]) := Lib.hid (by rw [hy, List.take_append_getElem hlt])
      have HRD := Lib.hid (gotW B k m (bs ++ Wr.uv l.length ++ Mg.encs Mg.cGot (l.take i)) (b1 || !(l.take i).all Mg.cGot.fit) gs (os + i * 4) y wr HC.out (hce.keep HF.out) (HOK.out y hmem) (by
        have h1 := HEN.out
        have h2 := Mg.encs_take_le Mg.cGot l (i + 1)
        rw [HTK.out, Mg.encs_snoc, List.length_append] at h2
        simp only [List.length_append]
        omega))
      clear hy hce hmem
      go_wp2_with fail
      refine HRD.out.mono ?_
      rintro e w4 ⟨rfl, hc4, hf4⟩
      have HC4 := Lib.hid hc4
      have HF4 := Lib.hid (HF.out.trans hf4)
      clear hc4 hf4 HRD c0
      go_wp2_with fail
      go_roundw
      case rel =>
        refine ⟨i + 1, by omega, by go_num, ?_, HF4.out⟩
        have h4 := HC4.out
        rw [HTK.out, Mg.encs_snoc]
        simpa only [List.append_assoc, List.all_append, List.all_cons, List.all_nil, Bool.and_true, Bool.not_and, Bool.or_assoc] using h4
      case measure => simp [intOf]; omega
    · obtain rfl : i = l.length := by omega
      clear c0
      go_wp2_with fail
      refine bodyPost_end (v := .tuple #[]) (by simp [results, Tryz.results122, go_sem]) rfl ⟨rfl, ?_, HF.out⟩
      have h4 := HC.out
      rw [List.take_length] at h4
      have hfl : (bad || !(Mg.list 512 Mg.cGot).fit l) = (b1 || !l.all Mg.cGot.fit) := by
        rw [HB1.out]
        simp only [Mg.list, Bool.not_and, Bool.or_assoc]
      rw [hel, hfl, ← List.append_assoc]
      exact h4

end Go.Proofs.YtjgnomjjphkfbaaGreat

namespace Go.Proofs.YtjgnomjjphkfbaaGreat
open Go.RowKit

/-- A row at a place. -/
def RowT (w : World) (g o : Nat) (a : Mg.Row) : Prop := ∃ s cap, CellsT w g o [.string a.p, .int .u64 a.last, .slice s a.l.length cap] ∧ ListT (fun w g o v => CellsT w g o (Mg.Ver.cells v)) 3 w s a.l
theorem RowT.keep {B : Nat} {w w' : World} {g o : Nat} {a : Mg.Row} (h : RowT w g o a) (f : FrW B w w') : RowT w' g o a := by
  obtain ⟨s, cap, h1, h2⟩ := h
  exact ⟨s, cap, h1.keep f, h2.keep fun _ _ _ h => h.keep f⟩
structure Mg.Row.Good (x : Mg.Row) : Prop where
  a : okT x.p
  b : ok64 x.last
  c : ∀ v ∈ x.l, v.Good
  d : x.l.length ≤ 100000

set_option maxRecDepth 20000 in
set_option maxHeartbeats 2000000 in
theorem rowW (B k m : Nat) (bs : List UInt8) (bad : Bool) (g off : Nat) (x : Mg.Row) (w : World) (h : CdAt B k bs bad m w) (hx : RowT w g off x) (ok : x.Good) (hlen : bs.length + (Mg.cRow.enc x).length ≤ 1073741824) :
    Calls Tryz.prog 119 #[.pointer (some ⟨k, 0, none⟩), .pointer (some ⟨g, off, none⟩)] w fun e w' => e = .returned (.tuple #[]) ∧ CdAt B k (bs ++ Mg.cRow.enc x) (bad || !Mg.cRow.fit x) m w' ∧ FrW B w w' := by
  have he : Mg.cRow.enc x = Wr.txt (L x.p) ++ (Wr.uv x.last ++ (Mg.list 512 Mg.cVer).enc x.l) := rfl
  have hf : Mg.cRow.fit x = (decide (x.p.size ≤ 129) && (decide (x.last ≤ 18446744073709551615) && (Mg.list 512 Mg.cVer).fit x.l)) := rfl
  rw [he] at hlen
  simp only [List.length_append] at hlen
  have HL := Lib.hid hlen
  have HOK := Lib.hid ok
  obtain ⟨s, cap, hc0, hl0⟩ := hx
  have HX := Lib.hid hc0
  have HLS := Lib.hid hl0
  have H1 := Lib.hid (textW B k m bs bad g (off + 0) x.p 129 w h (hc0.at 0 rfl) ok.a (by decide) (by omega))
  clear h hc0 hl0 ok hlen
  go_enter Tryz.func119, Tryz.ntmps119
  go_wp2_with fail
  refine H1.out.mono ?_
  rintro e w1 ⟨rfl, hc1, hf1⟩
  have HF1 := Lib.hid hf1
  have H2 := Lib.hid (numW_u64 B k m _ _ g (off + 1) x.last 18446744073709551615 w1 hc1 ((HX.out.keep hf1).at 1 rfl) HOK.out.b (by decide) (by have := HL.out; simp only [List.length_append]; omega))
  clear hc1 hf1
  go_wp2_with fail
  refine H2.out.mono ?_
  rintro e w2 ⟨rfl, hc2, hf2⟩
  have HF2 := Lib.hid (HF1.out.trans hf2)
  have H3 := Lib.hid (listW_version B k m _ _ g (off + 2) s cap x.l w2 hc2 ((HX.out.keep HF2.out).at 2 rfl) (HLS.out.keep fun _ _ _ h => h.keep HF2.out) HOK.out.c HOK.out.d (by have := HL.out; simp only [List.length_append]; omega))
  clear hc2 hf2
  go_wp2_with fail
  refine H3.out.mono ?_
  rintro e w3 ⟨rfl, hc3, hf3⟩
  have HF3 := Lib.hid (HF2.out.trans hf3)
  have HC := Lib.hid hc3
  clear hc3 hf3
  go_wp2_with fail
  refine bodyPost_end (v := .tuple #[]) (by simp [results, Tryz.results119, go_sem]) rfl ⟨rfl, ?_, HF3.out⟩
  have hc := HC.out
  rw [he, hf]
  generalize (Mg.list 512 Mg.cVer).fit x.l = fl at *
  generalize (Mg.list 512 Mg.cVer).enc x.l = el at *
  simpa only [List.append_assoc, Bool.not_and, Bool.or_assoc] using hc

end Go.Proofs.YtjgnomjjphkfbaaGreat

namespace Go.Proofs.YtjgnomjjphkfbaaGreat
open Go.RowKit

set_option maxRecDepth 20000 in
set_option maxHeartbeats 4000000 in
theorem listW_row (B k m : Nat) (bs : List UInt8) (bad : Bool) (g off : Nat) (s : Option Addr) (cap : Nat) (l : List Mg.Row) (w : World) (h : CdAt B k bs bad m w) (hx : CellT w g off (.slice s l.length cap))
    (hl : ListT RowT 3 w s l) (ok : ∀ a ∈ l, a.Good) (hn : l.length ≤ 100000) (hlen : bs.length + ((Mg.list 512 Mg.cRow).enc l).length ≤ 1073741824) :
    Calls Tryz.prog 118 #[.pointer (some ⟨k, 0, none⟩), .pointer (some ⟨g, off, none⟩), .func (.func 119) #[.pointer (some ⟨k, 0, none⟩)] #[]] w fun e w' => e = .returned (.tuple #[]) ∧ CdAt B k (bs ++ (Mg.list 512 Mg.cRow).enc l) (bad || !(Mg.list 512 Mg.cRow).fit l) m w' ∧ FrW B w w' := by
  obtain ⟨b1, hb1⟩ : ∃ b : Bool, b = (bad || !decide (l.length ≤ 512)) := ⟨_, rfl⟩
  obtain ⟨hcd, hfr⟩ := h.bad b1
  obtain ⟨w1, hw1⟩ : ∃ w1, w1 = w.setCell ⟨k, 3, none⟩ (.bool b1) := ⟨_, rfl⟩
  rw [← hw1] at hcd hfr
  have hxI : (0 : Int) ≤ l.length ∧ (l.length : Int) ≤ 100000 := by omega
  obtain ⟨d0, d3, d4, dz⟩ := h.cells
  have e0 := hx.cell
  have hpre : decide ((512 : Int) < l.length) = !decide (l.length ≤ 512) := by
    by_cases hh : l.length ≤ 512
    · rw [decide_eq_true hh, decide_eq_false (by omega)]; rfl
    · rw [decide_eq_false hh, decide_eq_true (by omega)]; rfl
  have hcv : IntKind.u64.wrap (l.length : Int) = l.length := by rw [IntKind.wrap_u64]; omega
  have HX1 := Lib.hid (hx.keep hfr)
  have HX0 := Lib.hid hx
  have HCD := Lib.hid hcd
  have HFR := Lib.hid hfr
  clear h hx hcd hfr
  have HLN := Lib.hid hn
  have HEN := Lib.hid hlen
  have HLS := Lib.hid hl
  have HOK := Lib.hid ok
  have HB1 := Lib.hid hb1
  have HW1 := Lib.hid hw1
  clear hn hlen hl ok hb1 hw1
  go_enter Tryz.func118, Tryz.ntmps118
  go_upto_region 11 with (fail)
  go_cut [6] (fun v wx => v = .int .i64 l.length ∧ wx = w1)
  case first =>
    cases bad with
    | true =>
      have hb : b1 = true := by simpa using HB1.out
      subst hb
      clear hpre
      go_wp2_with fail
      go_meet
      exact ⟨rfl, HW1.out.symm⟩
    | false =>
      have hb2 : b1 = !decide (l.length ≤ 512) := by simpa using HB1.out
      rw [← hb2] at hpre
      clear hb2
      go_wp2_with fail
      go_meet
      exact ⟨rfl, HW1.out.symm⟩
  case rest =>
  obtain ⟨rfl, hwc⟩ := hcut
  subst hwc
  clear d0 d3 d4 dz e0 hpre HW1
  have HU := Lib.hid (fun wz => uints_dr wz l.length (by have := HLN.out; omega))
  have hel : (Mg.list 512 Mg.cRow).enc l = Wr.uv l.length ++ Mg.encs Mg.cRow l := rfl
  rw [hel, List.length_append] at HEN
  have HWS := Lib.hid (fun wz (hc : CdAt B k bs b1 m wz) => cd_string B k m bs b1 (S (Wr.uv l.length)) wz hc (by rw [S_size]; have := HEN.out; omega))
  have HZ0 : Hid (FrW B wc wc.drew) := Lib.hid (FrW.refl B wc).drew
  go_upto_region 12 with (fail)
  go_region_held3 (fun _ => True)
    (first | exact True.intro | fail)
    (first
    | (go_at_call 104
       (with_reducible refine (HU.out _).mono ?_)
       rintro e w2 ⟨rfl, hb2⟩
       have HB2 := Lib.hid (FrW.of_below B hb2)
       have HC2 := Lib.hid (HCD.out.keep hb2)
       clear hb2)
    | (go_at_call 99
       (with_reducible refine (HWS.out _ HC2.out).mono ?_)
       rintro e w3 ⟨rfl, hc3, hf3⟩
       have HC3 := Lib.hid hc3
       have HF3 := Lib.hid (HFR.out.trans (HB2.out.trans hf3))
       have hx3 := (HX1.out.keep (HB2.out.trans hf3)).cell
       have HX3 := Lib.hid (HX1.out.keep (HB2.out.trans hf3))
       clear hc3 hf3))
  go_wp2_with fail
  clear hx3
  go_loopw [68] (fun vi wr => ∃ i : Nat, i ≤ l.length ∧ vi = .int .i64 i ∧ CdAt B k (bs ++ Wr.uv l.length ++ Mg.encs Mg.cRow (l.take i)) (b1 || !(l.take i).all Mg.cRow.fit) m wr ∧ FrW B w wr) (fun vi _ => l.length - (intOf vi).toNat)
  case atStart => exact ⟨0, Nat.zero_le _, rfl, by have h3 := HC3.out; rw [L_S] at h3; simpa [Mg.encs] using h3, HF3.out⟩
  case round =>
    obtain ⟨i, hi, rfl, hc, hf⟩ := hrel
    have HC := Lib.hid hc
    have HF := Lib.hid hf
    clear hc hf
    have c0 := (HX0.out.keep HF.out).cell
    by_cases hlt : i < l.length
    · have hiI : (0 : Int) ≤ i ∧ (i : Int) < l.length := by omega
      obtain ⟨gs, os, hs, hce⟩ := HLS.out i hlt
      subst hs
      obtain ⟨y, hy⟩ : ∃ y, y = l[i]'hlt := ⟨_, rfl⟩
      have hmem : y ∈ l := by rw [hy]; exact List.getElem_mem _
      rw [← hy] at hce
      have HTK : Hid (l.take (i + 1) = l.take i ++ [y]) := Lib.hid (by rw [hy, List.take_append_getElem hlt])
      have HRD := Lib.hid (rowW B k m (bs ++ Wr.uv l.length ++ Mg.encs Mg.cRow (l.take i)) (b1 || !(l.take i).all Mg.cRow.fit) gs (os + i * 3) y wr HC.out (hce.keep HF.out) (HOK.out y hmem) (by
        have h1 := HEN.out
        have h2 := Mg.encs_take_le Mg.cRow l (i + 1)
        rw [HTK.out, Mg.encs_snoc, List.length_append] at h2
        simp only [List.length_append]
        omega))
      clear hy hce hmem
      go_wp2_with fail
      refine HRD.out.mono ?_
      rintro e w4 ⟨rfl, hc4, hf4⟩
      have HC4 := Lib.hid hc4
      have HF4 := Lib.hid (HF.out.trans hf4)
      clear hc4 hf4 HRD c0
      go_wp2_with fail
      go_roundw
      case rel =>
        refine ⟨i + 1, by omega, by go_num, ?_, HF4.out⟩
        have h4 := HC4.out
        rw [HTK.out, Mg.encs_snoc]
        simpa only [List.append_assoc, List.all_append, List.all_cons, List.all_nil, Bool.and_true, Bool.not_and, Bool.or_assoc] using h4
      case measure => simp [intOf]; omega
    · obtain rfl : i = l.length := by omega
      clear c0
      go_wp2_with fail
      refine bodyPost_end (v := .tuple #[]) (by simp [results, Tryz.results118, go_sem]) rfl ⟨rfl, ?_, HF.out⟩
      have h4 := HC.out
      rw [List.take_length] at h4
      have hfl : (bad || !(Mg.list 512 Mg.cRow).fit l) = (b1 || !l.all Mg.cRow.fit) := by
        rw [HB1.out]
        simp only [Mg.list, Bool.not_and, Bool.or_assoc]
      rw [hel, hfl, ← List.append_assoc]
      exact h4

end Go.Proofs.YtjgnomjjphkfbaaGreat

namespace Go.Proofs.YtjgnomjjphkfbaaGreat
open Go.RowKit

set_option maxRecDepth 20000 in
set_option maxHeartbeats 4000000 in
theorem listW_place (B k m : Nat) (bs : List UInt8) (bad : Bool) (g off : Nat) (s : Option Addr) (cap : Nat) (l : List Int) (w : World) (h : CdAt B k bs bad m w) (hx : CellT w g off (.slice s l.length cap))
    (hl : ListT (fun w g o (a : Int) => CellT w g o (.int .i64 a)) 1 w s l) (ok : ∀ a ∈ l, -9223372036854775808 ≤ a ∧ a ≤ 9223372036854775807) (hn : l.length ≤ 100000) (hlen : bs.length + ((Mg.list 512 (Mg.int 512)).enc l).length ≤ 1073741824) :
    Calls Tryz.prog 111 #[.pointer (some ⟨k, 0, none⟩), .pointer (some ⟨g, off, none⟩), .func (.func 112) #[.pointer (some ⟨k, 0, none⟩)] #[]] w fun e w' => e = .returned (.tuple #[]) ∧ CdAt B k (bs ++ (Mg.list 512 (Mg.int 512)).enc l) (bad || !(Mg.list 512 (Mg.int 512)).fit l) m w' ∧ FrW B w w' := by
  obtain ⟨b1, hb1⟩ : ∃ b : Bool, b = (bad || !decide (l.length ≤ 512)) := ⟨_, rfl⟩
  obtain ⟨hcd, hfr⟩ := h.bad b1
  obtain ⟨w1, hw1⟩ : ∃ w1, w1 = w.setCell ⟨k, 3, none⟩ (.bool b1) := ⟨_, rfl⟩
  rw [← hw1] at hcd hfr
  have hxI : (0 : Int) ≤ l.length ∧ (l.length : Int) ≤ 100000 := by omega
  obtain ⟨d0, d3, d4, dz⟩ := h.cells
  have e0 := hx.cell
  have hpre : decide ((512 : Int) < l.length) = !decide (l.length ≤ 512) := by
    by_cases hh : l.length ≤ 512
    · rw [decide_eq_true hh, decide_eq_false (by omega)]; rfl
    · rw [decide_eq_false hh, decide_eq_true (by omega)]; rfl
  have hcv : IntKind.u64.wrap (l.length : Int) = l.length := by rw [IntKind.wrap_u64]; omega
  have HX1 := Lib.hid (hx.keep hfr)
  have HX0 := Lib.hid hx
  have HCD := Lib.hid hcd
  have HFR := Lib.hid hfr
  clear h hx hcd hfr
  have HLN := Lib.hid hn
  have HEN := Lib.hid hlen
  have HLS := Lib.hid hl
  have HOK := Lib.hid ok
  have HB1 := Lib.hid hb1
  have HW1 := Lib.hid hw1
  clear hn hlen hl ok hb1 hw1
  go_enter Tryz.func111, Tryz.ntmps111
  go_upto_region 11 with (fail)
  go_cut [6] (fun v wx => v = .int .i64 l.length ∧ wx = w1)
  case first =>
    cases bad with
    | true =>
      have hb : b1 = true := by simpa using HB1.out
      subst hb
      clear hpre
      go_wp2_with fail
      go_meet
      exact ⟨rfl, HW1.out.symm⟩
    | false =>
      have hb2 : b1 = !decide (l.length ≤ 512) := by simpa using HB1.out
      rw [← hb2] at hpre
      clear hb2
      go_wp2_with fail
      go_meet
      exact ⟨rfl, HW1.out.symm⟩
  case rest =>
  obtain ⟨rfl, hwc⟩ := hcut
  subst hwc
  clear d0 d3 d4 dz e0 hpre HW1
  have HU := Lib.hid (fun wz => uints_dr wz l.length (by have := HLN.out; omega))
  have hel : (Mg.list 512 (Mg.int 512)).enc l = Wr.uv l.length ++ Mg.encs (Mg.int 512) l := rfl
  rw [hel, List.length_append] at HEN
  have HWS := Lib.hid (fun wz (hc : CdAt B k bs b1 m wz) => cd_string B k m bs b1 (S (Wr.uv l.length)) wz hc (by rw [S_size]; have := HEN.out; omega))
  have HZ0 : Hid (FrW B wc wc.drew) := Lib.hid (FrW.refl B wc).drew
  go_upto_region 12 with (fail)
  go_region_held3 (fun _ => True)
    (first | exact True.intro | fail)
    (first
    | (go_at_call 104
       (with_reducible refine (HU.out _).mono ?_)
       rintro e w2 ⟨rfl, hb2⟩
       have HB2 := Lib.hid (FrW.of_below B hb2)
       have HC2 := Lib.hid (HCD.out.keep hb2)
       clear hb2)
    | (go_at_call 99
       (with_reducible refine (HWS.out _ HC2.out).mono ?_)
       rintro e w3 ⟨rfl, hc3, hf3⟩
       have HC3 := Lib.hid hc3
       have HF3 := Lib.hid (HFR.out.trans (HB2.out.trans hf3))
       have hx3 := (HX1.out.keep (HB2.out.trans hf3)).cell
       have HX3 := Lib.hid (HX1.out.keep (HB2.out.trans hf3))
       clear hc3 hf3))
  go_wp2_with fail
  clear hx3
  go_loopw [68] (fun vi wr => ∃ i : Nat, i ≤ l.length ∧ vi = .int .i64 i ∧ CdAt B k (bs ++ Wr.uv l.length ++ Mg.encs (Mg.int 512) (l.take i)) (b1 || !(l.take i).all (Mg.int 512).fit) m wr ∧ FrW B w wr) (fun vi _ => l.length - (intOf vi).toNat)
  case atStart => exact ⟨0, Nat.zero_le _, rfl, by have h3 := HC3.out; rw [L_S] at h3; simpa [Mg.encs] using h3, HF3.out⟩
  case round =>
    obtain ⟨i, hi, rfl, hc, hf⟩ := hrel
    have HC := Lib.hid hc
    have HF := Lib.hid hf
    clear hc hf
    have c0 := (HX0.out.keep HF.out).cell
    by_cases hlt : i < l.length
    · have hiI : (0 : Int) ≤ i ∧ (i : Int) < l.length := by omega
      obtain ⟨gs, os, hs, hce⟩ := HLS.out i hlt
      subst hs
      rw [Nat.mul_one] at hce
      obtain ⟨y, hy⟩ : ∃ y, y = l[i]'hlt := ⟨_, rfl⟩
      have hmem : y ∈ l := by rw [hy]; exact List.getElem_mem _
      rw [← hy] at hce
      have HTK : Hid (l.take (i + 1) = l.take i ++ [y]) := Lib.hid (by rw [hy, List.take_append_getElem hlt])
      have HRD := Lib.hid (placeW B k m (bs ++ Wr.uv l.length ++ Mg.encs (Mg.int 512) (l.take i)) (b1 || !(l.take i).all (Mg.int 512).fit) gs (os + i) y wr HC.out (hce.keep HF.out) (HOK.out y hmem) (by
        have h1 := HEN.out
        have h2 := Mg.encs_take_le (Mg.int 512) l (i + 1)
        rw [HTK.out, Mg.encs_snoc, List.length_append] at h2
        simp only [List.length_append]
        omega))
      clear hy hce hmem
      go_wp2_with fail
      refine HRD.out.mono ?_
      rintro e w4 ⟨rfl, hc4, hf4⟩
      have HC4 := Lib.hid hc4
      have HF4 := Lib.hid (HF.out.trans hf4)
      clear hc4 hf4 HRD c0
      go_wp2_with fail
      go_roundw
      case rel =>
        refine ⟨i + 1, by omega, by go_num, ?_, HF4.out⟩
        have h4 := HC4.out
        rw [HTK.out, Mg.encs_snoc]
        simpa only [List.append_assoc, List.all_append, List.all_cons, List.all_nil, Bool.and_true, Bool.not_and, Bool.or_assoc] using h4
      case measure => simp [intOf]; omega
    · obtain rfl : i = l.length := by omega
      clear c0
      go_wp2_with fail
      refine bodyPost_end (v := .tuple #[]) (by simp [results, Tryz.results111, go_sem]) rfl ⟨rfl, ?_, HF.out⟩
      have h4 := HC.out
      rw [List.take_length] at h4
      have hfl : (bad || !(Mg.list 512 (Mg.int 512)).fit l) = (b1 || !l.all (Mg.int 512).fit) := by
        rw [HB1.out]
        simp only [Mg.list, Bool.not_and, Bool.or_assoc]
      rw [hel, hfl, ← List.append_assoc]
      exact h4

set_option maxRecDepth 20000 in
set_option maxHeartbeats 4000000 in
theorem listW_number (B k m : Nat) (bs : List UInt8) (bad : Bool) (g off : Nat) (s : Option Addr) (cap : Nat) (l : List Nat) (w : World) (h : CdAt B k bs bad m w) (hx : CellT w g off (.slice s l.length cap))
    (hl : ListT (fun w g o (a : Nat) => CellT w g o (.int .u64 a)) 1 w s l) (ok : ∀ a ∈ l, ok64 a) (hn : l.length ≤ 100000) (hlen : bs.length + ((Mg.list 512 (Mg.num Mg.All)).enc l).length ≤ 1073741824) :
    Calls Tryz.prog 124 #[.pointer (some ⟨k, 0, none⟩), .pointer (some ⟨g, off, none⟩), .func (.func 125) #[.pointer (some ⟨k, 0, none⟩)] #[]] w fun e w' => e = .returned (.tuple #[]) ∧ CdAt B k (bs ++ (Mg.list 512 (Mg.num Mg.All)).enc l) (bad || !(Mg.list 512 (Mg.num Mg.All)).fit l) m w' ∧ FrW B w w' := by
  obtain ⟨b1, hb1⟩ : ∃ b : Bool, b = (bad || !decide (l.length ≤ 512)) := ⟨_, rfl⟩
  obtain ⟨hcd, hfr⟩ := h.bad b1
  obtain ⟨w1, hw1⟩ : ∃ w1, w1 = w.setCell ⟨k, 3, none⟩ (.bool b1) := ⟨_, rfl⟩
  rw [← hw1] at hcd hfr
  have hxI : (0 : Int) ≤ l.length ∧ (l.length : Int) ≤ 100000 := by omega
  obtain ⟨d0, d3, d4, dz⟩ := h.cells
  have e0 := hx.cell
  have hpre : decide ((512 : Int) < l.length) = !decide (l.length ≤ 512) := by
    by_cases hh : l.length ≤ 512
    · rw [decide_eq_true hh, decide_eq_false (by omega)]; rfl
    · rw [decide_eq_false hh, decide_eq_true (by omega)]; rfl
  have hcv : IntKind.u64.wrap (l.length : Int) = l.length := by rw [IntKind.wrap_u64]; omega
  have HX1 := Lib.hid (hx.keep hfr)
  have HX0 := Lib.hid hx
  have HCD := Lib.hid hcd
  have HFR := Lib.hid hfr
  clear h hx hcd hfr
  have HLN := Lib.hid hn
  have HEN := Lib.hid hlen
  have HLS := Lib.hid hl
  have HOK := Lib.hid ok
  have HB1 := Lib.hid hb1
  have HW1 := Lib.hid hw1
  clear hn hlen hl ok hb1 hw1
  go_enter Tryz.func124, Tryz.ntmps124
  go_upto_region 11 with (fail)
  go_cut [6] (fun v wx => v = .int .i64 l.length ∧ wx = w1)
  case first =>
    cases bad with
    | true =>
      have hb : b1 = true := by simpa using HB1.out
      subst hb
      clear hpre
      go_wp2_with fail
      go_meet
      exact ⟨rfl, HW1.out.symm⟩
    | false =>
      have hb2 : b1 = !decide (l.length ≤ 512) := by simpa using HB1.out
      rw [← hb2] at hpre
      clear hb2
      go_wp2_with fail
      go_meet
      exact ⟨rfl, HW1.out.symm⟩
  case rest =>
  obtain ⟨rfl, hwc⟩ := hcut
  subst hwc
  clear d0 d3 d4 dz e0 hpre HW1
  have HU := Lib.hid (fun wz => uints_dr wz l.length (by have := HLN.out; omega))
  have hel : (Mg.list 512 (Mg.num Mg.All)).enc l = Wr.uv l.length ++ Mg.encs (Mg.num Mg.All) l := rfl
  rw [hel, List.length_append] at HEN
  have HWS := Lib.hid (fun wz (hc : CdAt B k bs b1 m wz) => cd_string B k m bs b1 (S (Wr.uv l.length)) wz hc (by rw [S_size]; have := HEN.out; omega))
  have HZ0 : Hid (FrW B wc wc.drew) := Lib.hid (FrW.refl B wc).drew
  go_upto_region 12 with (fail)
  go_region_held3 (fun _ => True)
    (first | exact True.intro | fail)
    (first
    | (go_at_call 104
       (with_reducible refine (HU.out _).mono ?_)
       rintro e w2 ⟨rfl, hb2⟩
       have HB2 := Lib.hid (FrW.of_below B hb2)
       have HC2 := Lib.hid (HCD.out.keep hb2)
       clear hb2)
    | (go_at_call 99
       (with_reducible refine (HWS.out _ HC2.out).mono ?_)
       rintro e w3 ⟨rfl, hc3, hf3⟩
       have HC3 := Lib.hid hc3
       have HF3 := Lib.hid (HFR.out.trans (HB2.out.trans hf3))
       have hx3 := (HX1.out.keep (HB2.out.trans hf3)).cell
       have HX3 := Lib.hid (HX1.out.keep (HB2.out.trans hf3))
       clear hc3 hf3))
  go_wp2_with fail
  clear hx3
  go_loopw [68] (fun vi wr => ∃ i : Nat, i ≤ l.length ∧ vi = .int .i64 i ∧ CdAt B k (bs ++ Wr.uv l.length ++ Mg.encs (Mg.num Mg.All) (l.take i)) (b1 || !(l.take i).all (Mg.num Mg.All).fit) m wr ∧ FrW B w wr) (fun vi _ => l.length - (intOf vi).toNat)
  case atStart => exact ⟨0, Nat.zero_le _, rfl, by have h3 := HC3.out; rw [L_S] at h3; simpa [Mg.encs] using h3, HF3.out⟩
  case round =>
    obtain ⟨i, hi, rfl, hc, hf⟩ := hrel
    have HC := Lib.hid hc
    have HF := Lib.hid hf
    clear hc hf
    have c0 := (HX0.out.keep HF.out).cell
    by_cases hlt : i < l.length
    · have hiI : (0 : Int) ≤ i ∧ (i : Int) < l.length := by omega
      obtain ⟨gs, os, hs, hce⟩ := HLS.out i hlt
      subst hs
      rw [Nat.mul_one] at hce
      obtain ⟨y, hy⟩ : ∃ y, y = l[i]'hlt := ⟨_, rfl⟩
      have hmem : y ∈ l := by rw [hy]; exact List.getElem_mem _
      rw [← hy] at hce
      have HTK : Hid (l.take (i + 1) = l.take i ++ [y]) := Lib.hid (by rw [hy, List.take_append_getElem hlt])
      have HRD := Lib.hid (numberW B k m (bs ++ Wr.uv l.length ++ Mg.encs (Mg.num Mg.All) (l.take i)) (b1 || !(l.take i).all (Mg.num Mg.All).fit) gs (os + i) y wr HC.out (hce.keep HF.out) (HOK.out y hmem) (by
        have h1 := HEN.out
        have h2 := Mg.encs_take_le (Mg.num Mg.All) l (i + 1)
        rw [HTK.out, Mg.encs_snoc, List.length_append] at h2
        simp only [List.length_append]
        omega))
      clear hy hce hmem
      go_wp2_with fail
      refine HRD.out.mono ?_
      rintro e w4 ⟨rfl, hc4, hf4⟩
      have HC4 := Lib.hid hc4
      have HF4 := Lib.hid (HF.out.trans hf4)
      clear hc4 hf4 HRD c0
      go_wp2_with fail
      go_roundw
      case rel =>
        refine ⟨i + 1, by omega, by go_num, ?_, HF4.out⟩
        have h4 := HC4.out
        rw [HTK.out, Mg.encs_snoc]
        simpa only [List.append_assoc, List.all_append, List.all_cons, List.all_nil, Bool.and_true, Bool.not_and, Bool.or_assoc] using h4
      case measure => simp [intOf]; omega
    · obtain rfl : i = l.length := by omega
      clear c0
      go_wp2_with fail
      refine bodyPost_end (v := .tuple #[]) (by simp [results, Tryz.results124, go_sem]) rfl ⟨rfl, ?_, HF.out⟩
      have h4 := HC.out
      rw [List.take_length] at h4
      have hfl : (bad || !(Mg.list 512 (Mg.num Mg.All)).fit l) = (b1 || !l.all (Mg.num Mg.All).fit) := by
        rw [HB1.out]
        simp only [Mg.list, Bool.not_and, Bool.or_assoc]
      rw [hel, hfl, ← List.append_assoc]
      exact h4

set_option maxRecDepth 20000 in
set_option maxHeartbeats 4000000 in
theorem listW_name (B k m : Nat) (bs : List UInt8) (bad : Bool) (g off : Nat) (s : Option Addr) (cap : Nat) (l : List ByteArray) (w : World) (h : CdAt B k bs bad m w) (hx : CellT w g off (.slice s l.length cap))
    (hl : ListT (fun w g o (a : ByteArray) => CellT w g o (.string a)) 1 w s l) (ok : ∀ a ∈ l, okT a) (hn : l.length ≤ 100000) (hlen : bs.length + ((Mg.list 512 (Mg.text 129)).enc l).length ≤ 1073741824) :
    Calls Tryz.prog 126 #[.pointer (some ⟨k, 0, none⟩), .pointer (some ⟨g, off, none⟩), .func (.func 116) #[.pointer (some ⟨k, 0, none⟩)] #[]] w fun e w' => e = .returned (.tuple #[]) ∧ CdAt B k (bs ++ (Mg.list 512 (Mg.text 129)).enc l) (bad || !(Mg.list 512 (Mg.text 129)).fit l) m w' ∧ FrW B w w' := by
  obtain ⟨b1, hb1⟩ : ∃ b : Bool, b = (bad || !decide (l.length ≤ 512)) := ⟨_, rfl⟩
  obtain ⟨hcd, hfr⟩ := h.bad b1
  obtain ⟨w1, hw1⟩ : ∃ w1, w1 = w.setCell ⟨k, 3, none⟩ (.bool b1) := ⟨_, rfl⟩
  rw [← hw1] at hcd hfr
  have hxI : (0 : Int) ≤ l.length ∧ (l.length : Int) ≤ 100000 := by omega
  obtain ⟨d0, d3, d4, dz⟩ := h.cells
  have e0 := hx.cell
  have hpre : decide ((512 : Int) < l.length) = !decide (l.length ≤ 512) := by
    by_cases hh : l.length ≤ 512
    · rw [decide_eq_true hh, decide_eq_false (by omega)]; rfl
    · rw [decide_eq_false hh, decide_eq_true (by omega)]; rfl
  have hcv : IntKind.u64.wrap (l.length : Int) = l.length := by rw [IntKind.wrap_u64]; omega
  have HX1 := Lib.hid (hx.keep hfr)
  have HX0 := Lib.hid hx
  have HCD := Lib.hid hcd
  have HFR := Lib.hid hfr
  clear h hx hcd hfr
  have HLN := Lib.hid hn
  have HEN := Lib.hid hlen
  have HLS := Lib.hid hl
  have HOK := Lib.hid ok
  have HB1 := Lib.hid hb1
  have HW1 := Lib.hid hw1
  clear hn hlen hl ok hb1 hw1
  go_enter Tryz.func126, Tryz.ntmps126
  go_upto_region 11 with (fail)
  go_cut [6] (fun v wx => v = .int .i64 l.length ∧ wx = w1)
  case first =>
    cases bad with
    | true =>
      have hb : b1 = true := by simpa using HB1.out
      subst hb
      clear hpre
      go_wp2_with fail
      go_meet
      exact ⟨rfl, HW1.out.symm⟩
    | false =>
      have hb2 : b1 = !decide (l.length ≤ 512) := by simpa using HB1.out
      rw [← hb2] at hpre
      clear hb2
      go_wp2_with fail
      go_meet
      exact ⟨rfl, HW1.out.symm⟩
  case rest =>
  obtain ⟨rfl, hwc⟩ := hcut
  subst hwc
  clear d0 d3 d4 dz e0 hpre HW1
  have HU := Lib.hid (fun wz => uints_dr wz l.length (by have := HLN.out; omega))
  have hel : (Mg.list 512 (Mg.text 129)).enc l = Wr.uv l.length ++ Mg.encs (Mg.text 129) l := rfl
  rw [hel, List.length_append] at HEN
  have HWS := Lib.hid (fun wz (hc : CdAt B k bs b1 m wz) => cd_string B k m bs b1 (S (Wr.uv l.length)) wz hc (by rw [S_size]; have := HEN.out; omega))
  have HZ0 : Hid (FrW B wc wc.drew) := Lib.hid (FrW.refl B wc).drew
  go_upto_region 12 with (fail)
  go_region_held3 (fun _ => True)
    (first | exact True.intro | fail)
    (first
    | (go_at_call 104
       (with_reducible refine (HU.out _).mono ?_)
       rintro e w2 ⟨rfl, hb2⟩
       have HB2 := Lib.hid (FrW.of_below B hb2)
       have HC2 := Lib.hid (HCD.out.keep hb2)
       clear hb2)
    | (go_at_call 99
       (with_reducible refine (HWS.out _ HC2.out).mono ?_)
       rintro e w3 ⟨rfl, hc3, hf3⟩
       have HC3 := Lib.hid hc3
       have HF3 := Lib.hid (HFR.out.trans (HB2.out.trans hf3))
       have hx3 := (HX1.out.keep (HB2.out.trans hf3)).cell
       have HX3 := Lib.hid (HX1.out.keep (HB2.out.trans hf3))
       clear hc3 hf3))
  go_wp2_with fail
  clear hx3
  go_loopw [68] (fun vi wr => ∃ i : Nat, i ≤ l.length ∧ vi = .int .i64 i ∧ CdAt B k (bs ++ Wr.uv l.length ++ Mg.encs (Mg.text 129) (l.take i)) (b1 || !(l.take i).all (Mg.text 129).fit) m wr ∧ FrW B w wr) (fun vi _ => l.length - (intOf vi).toNat)
  case atStart => exact ⟨0, Nat.zero_le _, rfl, by have h3 := HC3.out; rw [L_S] at h3; simpa [Mg.encs] using h3, HF3.out⟩
  case round =>
    obtain ⟨i, hi, rfl, hc, hf⟩ := hrel
    have HC := Lib.hid hc
    have HF := Lib.hid hf
    clear hc hf
    have c0 := (HX0.out.keep HF.out).cell
    by_cases hlt : i < l.length
    · have hiI : (0 : Int) ≤ i ∧ (i : Int) < l.length := by omega
      obtain ⟨gs, os, hs, hce⟩ := HLS.out i hlt
      subst hs
      rw [Nat.mul_one] at hce
      obtain ⟨y, hy⟩ : ∃ y, y = l[i]'hlt := ⟨_, rfl⟩
      have hmem : y ∈ l := by rw [hy]; exact List.getElem_mem _
      rw [← hy] at hce
      have HTK : Hid (l.take (i + 1) = l.take i ++ [y]) := Lib.hid (by rw [hy, List.take_append_getElem hlt])
      have HRD := Lib.hid (nameW B k m (bs ++ Wr.uv l.length ++ Mg.encs (Mg.text 129) (l.take i)) (b1 || !(l.take i).all (Mg.text 129).fit) gs (os + i) y wr HC.out (hce.keep HF.out) (HOK.out y hmem) (by
        have h1 := HEN.out
        have h2 := Mg.encs_take_le (Mg.text 129) l (i + 1)
        rw [HTK.out, Mg.encs_snoc, List.length_append] at h2
        simp only [List.length_append]
        omega))
      clear hy hce hmem
      go_wp2_with fail
      refine HRD.out.mono ?_
      rintro e w4 ⟨rfl, hc4, hf4⟩
      have HC4 := Lib.hid hc4
      have HF4 := Lib.hid (HF.out.trans hf4)
      clear hc4 hf4 HRD c0
      go_wp2_with fail
      go_roundw
      case rel =>
        refine ⟨i + 1, by omega, by go_num, ?_, HF4.out⟩
        have h4 := HC4.out
        rw [HTK.out, Mg.encs_snoc]
        simpa only [List.append_assoc, List.all_append, List.all_cons, List.all_nil, Bool.and_true, Bool.not_and, Bool.or_assoc] using h4
      case measure => simp [intOf]; omega
    · obtain rfl : i = l.length := by omega
      clear c0
      go_wp2_with fail
      refine bodyPost_end (v := .tuple #[]) (by simp [results, Tryz.results126, go_sem]) rfl ⟨rfl, ?_, HF.out⟩
      have h4 := HC.out
      rw [List.take_length] at h4
      have hfl : (bad || !(Mg.list 512 (Mg.text 129)).fit l) = (b1 || !l.all (Mg.text 129).fit) := by
        rw [HB1.out]
        simp only [Mg.list, Bool.not_and, Bool.or_assoc]
      rw [hel, hfl, ← List.append_assoc]
      exact h4

end Go.Proofs.YtjgnomjjphkfbaaGreat

namespace Go.Proofs.YtjgnomjjphkfbaaGreat
open Go.RowKit

set_option maxRecDepth 20000 in
set_option maxHeartbeats 2000000 in
theorem shardW (B k m : Nat) (bs : List UInt8) (bad : Bool) (g off bx : Nat) (x : Nat) (w : World) (h : CdAt B k bs bad m w) (hx : CellT w g off (.int .u32 x)) (hb : CellT w bx 0 (.pointer (some ⟨k, 0, none⟩))) (ok : x < 4294967296) (hlen : bs.length ≤ 1073741824) :
    Calls Tryz.prog 107 #[.pointer (some ⟨g, off, none⟩), .pointer (some ⟨bx, 0, none⟩)] w fun e w' => e = .returned (.tuple #[]) ∧ CdAt B k (bs ++ (Mg.num 4294967295).enc x) (bad || !(Mg.num 4294967295).fit x) m w' ∧ FrW B w w' := by
  have H1 := Lib.hid (numW_u32 B k m bs bad g off x 4294967295 w h hx ok (by decide) hlen)
  have c0 := hb.cell
  clear h hx ok hlen hb
  go_enter Tryz.func107, Tryz.ntmps107
  go_wp2_with fail
  refine H1.out.mono ?_
  rintro e w1 ⟨rfl, hc1, hf1⟩
  have HC := Lib.hid hc1
  have HF := Lib.hid hf1
  clear hc1 hf1 c0
  go_wp2_with fail
  exact bodyPost_end (v := .tuple #[]) (by simp [results, Tryz.results107, go_sem]) rfl ⟨rfl, HC.out, HF.out⟩

set_option maxRecDepth 20000 in
set_option maxHeartbeats 4000000 in
theorem listW_shard (B k m bx : Nat) (bs : List UInt8) (bad : Bool) (g off : Nat) (s : Option Addr) (cap : Nat) (l : List Nat) (w : World) (h : CdAt B k bs bad m w) (hx : CellT w g off (.slice s l.length cap))
    (hl : ListT (fun w g o (a : Nat) => CellT w g o (.int .u32 a)) 1 w s l) (ok : ∀ a ∈ l, a < 4294967296) (hbx : CellT w bx 0 (.pointer (some ⟨k, 0, none⟩))) (hn : l.length ≤ 100000) (hlen : bs.length + ((Mg.list 512 (Mg.num 4294967295)).enc l).length ≤ 1073741824) :
    Calls Tryz.prog 106 #[.pointer (some ⟨k, 0, none⟩), .pointer (some ⟨g, off, none⟩), .func (.func 107) #[] #[.pointer (some ⟨bx, 0, none⟩)]] w fun e w' => e = .returned (.tuple #[]) ∧ CdAt B k (bs ++ (Mg.list 512 (Mg.num 4294967295)).enc l) (bad || !(Mg.list 512 (Mg.num 4294967295)).fit l) m w' ∧ FrW B w w' := by
  obtain ⟨b1, hb1⟩ : ∃ b : Bool, b = (bad || !decide (l.length ≤ 512)) := ⟨_, rfl⟩
  obtain ⟨hcd, hfr⟩ := h.bad b1
  obtain ⟨w1, hw1⟩ : ∃ w1, w1 = w.setCell ⟨k, 3, none⟩ (.bool b1) := ⟨_, rfl⟩
  rw [← hw1] at hcd hfr
  have hxI : (0 : Int) ≤ l.length ∧ (l.length : Int) ≤ 100000 := by omega
  obtain ⟨d0, d3, d4, dz⟩ := h.cells
  have e0 := hx.cell
  have hpre : decide ((512 : Int) < l.length) = !decide (l.length ≤ 512) := by
    by_cases hh : l.length ≤ 512
    · rw [decide_eq_true hh, decide_eq_false (by omega)]; rfl
    · rw [decide_eq_false hh, decide_eq_true (by omega)]; rfl
  have hcv : IntKind.u64.wrap (l.length : Int) = l.length := by rw [IntKind.wrap_u64]; omega
  have HX1 := Lib.hid (hx.keep hfr)
  have HX0 := Lib.hid hx
  have HBX := Lib.hid hbx
  clear hbx
  have HCD := Lib.hid hcd
  have HFR := Lib.hid hfr
  clear h hx hcd hfr
  have HLN := Lib.hid hn
  have HEN := Lib.hid hlen
  have HLS := Lib.hid hl
  have HOK := Lib.hid ok
  have HB1 := Lib.hid hb1
  have HW1 := Lib.hid hw1
  clear hn hlen hl ok hb1 hw1
  go_enter Tryz.func106, Tryz.ntmps106
  go_upto_region 11 with (fail)
  go_cut [6] (fun v wx => v = .int .i64 l.length ∧ wx = w1)
  case first =>
    cases bad with
    | true =>
      have hb : b1 = true := by simpa using HB1.out
      subst hb
      clear hpre
      go_wp2_with fail
      go_meet
      exact ⟨rfl, HW1.out.symm⟩
    | false =>
      have hb2 : b1 = !decide (l.length ≤ 512) := by simpa using HB1.out
      rw [← hb2] at hpre
      clear hb2
      go_wp2_with fail
      go_meet
      exact ⟨rfl, HW1.out.symm⟩
  case rest =>
  obtain ⟨rfl, hwc⟩ := hcut
  subst hwc
  clear d0 d3 d4 dz e0 hpre HW1
  have HU := Lib.hid (fun wz => uints_dr wz l.length (by have := HLN.out; omega))
  have hel : (Mg.list 512 (Mg.num 4294967295)).enc l = Wr.uv l.length ++ Mg.encs (Mg.num 4294967295) l := rfl
  rw [hel, List.length_append] at HEN
  have HWS := Lib.hid (fun wz (hc : CdAt B k bs b1 m wz) => cd_string B k m bs b1 (S (Wr.uv l.length)) wz hc (by rw [S_size]; have := HEN.out; omega))
  have HZ0 : Hid (FrW B wc wc.drew) := Lib.hid (FrW.refl B wc).drew
  go_upto_region 12 with (fail)
  go_region_held3 (fun _ => True)
    (first | exact True.intro | fail)
    (first
    | (go_at_call 104
       (with_reducible refine (HU.out _).mono ?_)
       rintro e w2 ⟨rfl, hb2⟩
       have HB2 := Lib.hid (FrW.of_below B hb2)
       have HC2 := Lib.hid (HCD.out.keep hb2)
       clear hb2)
    | (go_at_call 99
       (with_reducible refine (HWS.out _ HC2.out).mono ?_)
       rintro e w3 ⟨rfl, hc3, hf3⟩
       have HC3 := Lib.hid hc3
       have HF3 := Lib.hid (HFR.out.trans (HB2.out.trans hf3))
       have hx3 := (HX1.out.keep (HB2.out.trans hf3)).cell
       have HX3 := Lib.hid (HX1.out.keep (HB2.out.trans hf3))
       clear hc3 hf3))
  go_wp2_with fail
  clear hx3
  go_loopw [68] (fun vi wr => ∃ i : Nat, i ≤ l.length ∧ vi = .int .i64 i ∧ CdAt B k (bs ++ Wr.uv l.length ++ Mg.encs (Mg.num 4294967295) (l.take i)) (b1 || !(l.take i).all (Mg.num 4294967295).fit) m wr ∧ FrW B w wr) (fun vi _ => l.length - (intOf vi).toNat)
  case atStart => exact ⟨0, Nat.zero_le _, rfl, by have h3 := HC3.out; rw [L_S] at h3; simpa [Mg.encs] using h3, HF3.out⟩
  case round =>
    obtain ⟨i, hi, rfl, hc, hf⟩ := hrel
    have HC := Lib.hid hc
    have HF := Lib.hid hf
    clear hc hf
    have c0 := (HX0.out.keep HF.out).cell
    by_cases hlt : i < l.length
    · have hiI : (0 : Int) ≤ i ∧ (i : Int) < l.length := by omega
      obtain ⟨gs, os, hs, hce⟩ := HLS.out i hlt
      subst hs
      rw [Nat.mul_one] at hce
      obtain ⟨y, hy⟩ : ∃ y, y = l[i]'hlt := ⟨_, rfl⟩
      have hmem : y ∈ l := by rw [hy]; exact List.getElem_mem _
      rw [← hy] at hce
      have HTK : Hid (l.take (i + 1) = l.take i ++ [y]) := Lib.hid (by rw [hy, List.take_append_getElem hlt])
      have HRD := Lib.hid (shardW B k m (bs ++ Wr.uv l.length ++ Mg.encs (Mg.num 4294967295) (l.take i)) (b1 || !(l.take i).all (Mg.num 4294967295).fit) gs (os + i) bx y wr HC.out (hce.keep HF.out) (HBX.out.keep HF.out) (HOK.out y hmem) (by
        have h1 := HEN.out
        have h2 := Mg.encs_take_le (Mg.num 4294967295) l (i + 1)
        rw [HTK.out, Mg.encs_snoc, List.length_append] at h2
        simp only [List.length_append]
        omega))
      clear hy hce hmem
      go_wp2_with fail
      refine HRD.out.mono ?_
      rintro e w4 ⟨rfl, hc4, hf4⟩
      have HC4 := Lib.hid hc4
      have HF4 := Lib.hid (HF.out.trans hf4)
      clear hc4 hf4 HRD c0
      go_wp2_with fail
      go_roundw
      case rel =>
        refine ⟨i + 1, by omega, by go_num, ?_, HF4.out⟩
        have h4 := HC4.out
        rw [HTK.out, Mg.encs_snoc]
        simpa only [List.append_assoc, List.all_append, List.all_cons, List.all_nil, Bool.and_true, Bool.not_and, Bool.or_assoc] using h4
      case measure => simp [intOf]; omega
    · obtain rfl : i = l.length := by omega
      clear c0
      go_wp2_with fail
      refine bodyPost_end (v := .tuple #[]) (by simp [results, Tryz.results106, go_sem]) rfl ⟨rfl, ?_, HF.out⟩
      have h4 := HC.out
      rw [List.take_length] at h4
      have hfl : (bad || !(Mg.list 512 (Mg.num 4294967295)).fit l) = (b1 || !l.all (Mg.num 4294967295).fit) := by
        rw [HB1.out]
        simp only [Mg.list, Bool.not_and, Bool.or_assoc]
      rw [hel, hfl, ← List.append_assoc]
      exact h4

end Go.Proofs.YtjgnomjjphkfbaaGreat
