/-
  Joined out of the texts MsgPut3 MsgPut4.
-/
import Derived.Test.YtjgnomjjphkfbaaGreatRPut
import Derived.Test.YtjgnomjjphkfbaaGreatREq
import Derived.Test.YtjgnomjjphkfbaaGreatRGo
namespace Go.Proofs.YtjgnomjjphkfbaaGreat
open Go.RowKit

set_option maxRecDepth 20000 in
set_option maxHeartbeats 8000000 in
theorem p_rows (wB : World) (k : Nat) (bs : List UInt8) (bad : Bool) (a : Option Addr) (cap : Nat) (l : List Mg.Row) (w0 : World) (h : PtAt wB.heap.size k bs bad w0) (hb : Below wB.heap.size wB w0) (hl : ∃ xs, RowIs wB 3 a xs ∧ RowsA wB l xs) (ok : ∀ x ∈ l, x.Good) (hn : l.length ≤ 1048576) (hlen : bs.length + ((Mg.list 512 Mg.cRow).enc l).length ≤ 2147483648) :
    Calls Tryz.prog 57 #[.pointer (some ⟨k, 0, none⟩), .slice a l.length cap] w0 (PutOut wB.heap.size k bs bad (Mg.list 512 Mg.cRow) l w0) := by
  obtain ⟨xs, hl, hr⟩ := hl
  have hlI : (0 : Int) ≤ l.length ∧ (l.length : Int) ≤ 1048576 := by omega
  have HN := Lib.hid hn
  have HLN := Lib.hid hlen
  have HL := Lib.hid hl
  have HLR := Lib.hid hr
  have HB := Lib.hid hb
  have HOK := Lib.hid ok
  have HP0 := Lib.hid h
  have HG0 := Lib.hid (FrP.refl wB.heap.size w0)
  clear h hb hl ok hn hlen hr
  go_enter Tryz.func57, Tryz.ntmps57
  have hll : ((Mg.list 512 (Mg.cRow)).enc l).length = ((Mg.num 512).enc l.length).length + (Mg.encs (Mg.cRow) l).length := by
    have h1 : (Mg.list 512 (Mg.cRow)).enc l = (Mg.num 512).enc l.length ++ Mg.encs (Mg.cRow) l := rfl
    rw [h1, List.length_append]
  have HLL1 := Lib.hid hll
  clear hll
  -- 
  go_wp2_with fail
  refine (p_count wB.heap.size k (bs) (bad) l.length w0 HP0.out HN.out (by have := HLN.out; have := HLL1.out; (try simp only [List.length_append] at *); omega)).mono ?_
  rintro e x1 ⟨rfl, ⟨t1, hw, hp⟩, hf⟩
  have HW1 := Lib.hid hw
  have HP1 := Lib.hid hp
  have HG1 := Lib.hid (HG0.out.trans hf)
  have HFE := Lib.hid hf
  clear hw hp hf 
  go_wp2_with fail
  go_loopw [4, 5] (fun vi _ wr => ∃ (i : Nat) (tt : List UInt8), i ≤ l.length ∧ vi = .int .i64 i ∧ Mg.WroteL (Mg.cRow) (l.take i) tt ∧ PtAt wB.heap.size k (((bs) ++ t1) ++ tt) (((bad) || !(Mg.num 512).fit (l.length)) || !(l.take i).all (Mg.cRow).fit) wr ∧ FrP wB.heap.size w0 wr) (fun vi _ _ => l.length - (intOf vi).toNat)
  case atStart => exact ⟨0, [], Nat.zero_le _, rfl, Mg.WroteL.nil _, HP1.out.cast (by simp) (by simp), HG1.out⟩
  case round =>
    obtain ⟨i1, tt1, hi1, rfl, htt, hp, hf⟩ := hrel
    have HTT1 := Lib.hid htt
    have HPL1 := Lib.hid hp
    have HFL1 := Lib.hid hf
    obtain ⟨y1, hy1⟩ : ∃ y, y = wr := ⟨_, rfl⟩
    subst hy1
    clear htt hp hf
    by_cases hlt : i1 < l.length
    · have hiI1 : (0 : Int) ≤ i1 ∧ (i1 : Int) < l.length := by omega
      have hbr : Below wB.heap.size wB y1 := HB.out.trans (HFL1.out.below HB.out.size)
      obtain ⟨g1, o1, rfl, hc⟩ := HL.out i1 (by rw [HLR.out.1]; exact hlt)
      obtain ⟨sv1, cv1, e1, hay⟩ := HLR.out.2 i1 hlt
      obtain ⟨u1, hu⟩ : ∃ u, u = l[i1]'hlt := ⟨_, rfl⟩
      rw [← hu] at e1 hay
      rw [List.getElem?_eq_getElem (by rw [HLR.out.1]; exact hlt)] at e1
      rw [Option.some.inj e1] at hc
      have HCC1 := Lib.hid hc
      have HY1 : Hid (l[i1]? = some u1) := Lib.hid (by rw [List.getElem?_eq_getElem hlt, hu])
      have hug : u1.Good := by rw [hu]; exact HOK.out _ (List.getElem_mem _)
      have HUG1 := Lib.hid hug
      have HAY1 := Lib.hid hay.row
      have huI1 : (0 : Int) ≤ u1.last ∧ (u1.last : Int) < 18446744073709551616 := by have := hug.b; omega
      have hulI1 : (0 : Int) ≤ u1.l.length ∧ (u1.l.length : Int) ≤ 100000 := by have := hug.d; omega
      clear hc e1 hu hug hay
      have hea := Mg.encs_at (Mg.cRow) HY1.out
      have HEA1 := Lib.hid hea
      have hsp : ((Mg.cRow).enc u1).length = ((Mg.text 129).enc (u1.p)).length + (((Mg.num 18446744073709551615).enc (u1.last)).length + (((Mg.list 512 Mg.cVer).enc (u1.l)).length)) := by
        have h1 : (Mg.cRow).enc u1 = (Mg.text 129).enc (u1.p) ++ ((Mg.num 18446744073709551615).enc (u1.last) ++ ((Mg.list 512 Mg.cVer).enc (u1.l))) := rfl
        rw [h1]; try simp only [List.length_append]
      have HSP1 := Lib.hid hsp
      clear hea hsp hlt hbr
      have c0 : y1.cell? ⟨g1, o1 + i1 * 3, none⟩ = some (.string u1.p) := (HCC1.out.keep ((HB.out.trans (HFL1.out.below HB.out.size)).block _ HCC1.out.lt)).cell 0 (by simp)
      go_wp2_with fail
      refine (pt wB.heap.size k (((bs) ++ t1) ++ tt1) (((bad) || !(Mg.num 512).fit (l.length)) || !(l.take i1).all (Mg.cRow).fit) u1.p 129 y1 HPL1.out HUG1.out.a (by decide) (by have := HLN.out; have := HLL1.out; have := HW1.out.1; have := HTT1.out.1; have := HEA1.out; have := HSP1.out; (try simp only [List.length_append] at *); omega)).mono ?_
      rintro e x2 ⟨rfl, ⟨t2, hw, hp⟩, hf⟩
      have HW2 := Lib.hid hw
      have HP2 := Lib.hid hp
      have HG2 := Lib.hid (HFL1.out.trans hf)
      have HFE := Lib.hid hf
      clear hw hp hf  c0
      have c0 : x2.cell? ⟨g1, o1 + i1 * 3 + 1, none⟩ = some (.int .u64 u1.last) := (HCC1.out.keep ((HB.out.trans (HG2.out.below HB.out.size)).block _ HCC1.out.lt)).cell 1 (by simp)
      go_wp2_with fail
      refine (pn wB.heap.size k ((((bs) ++ t1) ++ tt1) ++ t2) ((((bad) || !(Mg.num 512).fit (l.length)) || !(l.take i1).all (Mg.cRow).fit) || !(Mg.text 129).fit (u1.p)) u1.last 18446744073709551615 x2 HP2.out HUG1.out.b (by decide) (by have := HLN.out; have := HLL1.out; have := HW1.out.1; have := HTT1.out.1; have := HEA1.out; have := HSP1.out; have := HW2.out.1; (try simp only [List.length_append] at *); omega)).mono ?_
      rintro e x3 ⟨rfl, ⟨t3, hw, hp⟩, hf⟩
      have HW3 := Lib.hid hw
      have HP3 := Lib.hid hp
      have HG3 := Lib.hid (HG2.out.trans hf)
      have HFE := Lib.hid hf
      clear hw hp hf  c0
      have hll : ((Mg.list 512 (Mg.cVer)).enc u1.l).length = ((Mg.num 512).enc u1.l.length).length + (Mg.encs (Mg.cVer) u1.l).length := by
        have h1 : (Mg.list 512 (Mg.cVer)).enc u1.l = (Mg.num 512).enc u1.l.length ++ Mg.encs (Mg.cVer) u1.l := rfl
        rw [h1, List.length_append]
      have HLL2 := Lib.hid hll
      clear hll
      have cs : x3.cell? ⟨g1, o1 + i1 * 3 + 1 + 1, none⟩ = some (.slice sv1 u1.l.length cv1) := (HCC1.out.keep ((HB.out.trans (HG3.out.below HB.out.size)).block _ HCC1.out.lt)).cell 2 (by simp)
      go_wp2_with fail
      refine (p_count wB.heap.size k (((((bs) ++ t1) ++ tt1) ++ t2) ++ t3) (((((bad) || !(Mg.num 512).fit (l.length)) || !(l.take i1).all (Mg.cRow).fit) || !(Mg.text 129).fit (u1.p)) || !(Mg.num 18446744073709551615).fit (u1.last)) u1.l.length x3 HP3.out (by have := HUG1.out.d; omega) (by have := HLN.out; have := HLL1.out; have := HW1.out.1; have := HTT1.out.1; have := HEA1.out; have := HSP1.out; have := HW2.out.1; have := HW3.out.1; have := HLL2.out; (try simp only [List.length_append] at *); omega)).mono ?_
      rintro e x4 ⟨rfl, ⟨t4, hw, hp⟩, hf⟩
      have HW4 := Lib.hid hw
      have HP4 := Lib.hid hp
      have HG4 := Lib.hid (HG3.out.trans hf)
      have HFE := Lib.hid hf
      clear hw hp hf  cs
      go_wp2_with fail
      go_loopw [5] (fun vi wr => ∃ (i : Nat) (tt : List UInt8), i ≤ u1.l.length ∧ vi = .int .i64 i ∧ Mg.WroteL (Mg.cVer) (u1.l.take i) tt ∧ PtAt wB.heap.size k (((((((bs) ++ t1) ++ tt1) ++ t2) ++ t3) ++ t4) ++ tt) (((((((bad) || !(Mg.num 512).fit (l.length)) || !(l.take i1).all (Mg.cRow).fit) || !(Mg.text 129).fit (u1.p)) || !(Mg.num 18446744073709551615).fit (u1.last)) || !(Mg.num 512).fit (u1.l.length)) || !(u1.l.take i).all (Mg.cVer).fit) wr ∧ FrP wB.heap.size w0 wr) (fun vi _ => u1.l.length - (intOf vi).toNat)
      case atStart => exact ⟨0, [], Nat.zero_le _, rfl, Mg.WroteL.nil _, HP4.out.cast (by simp) (by simp), HG4.out⟩
      case round =>
        obtain ⟨i2, tt2, hi2, rfl, htt, hp, hf⟩ := hrel
        have HTT2 := Lib.hid htt
        have HPL2 := Lib.hid hp
        have HFL2 := Lib.hid hf
        obtain ⟨y2, hy2⟩ : ∃ y, y = wr := ⟨_, rfl⟩
        subst hy2
        clear htt hp hf
        have cs : y2.cell? ⟨g1, o1 + i1 * 3 + 1 + 1, none⟩ = some (.slice sv1 u1.l.length cv1) := (HCC1.out.keep ((HB.out.trans (HFL2.out.below HB.out.size)).block _ HCC1.out.lt)).cell 2 (by simp)
        by_cases hlt : i2 < u1.l.length
        · have hiI2 : (0 : Int) ≤ i2 ∧ (i2 : Int) < u1.l.length := by omega
          have hbr : Below wB.heap.size wB y2 := HB.out.trans (HFL2.out.below HB.out.size)
          obtain ⟨g2, o2, hg2, hc⟩ := HAY1.out i2 (by simpa using hlt)
          have HGA2 := Lib.hid hg2
          obtain ⟨u2, hu⟩ : ∃ u, u = u1.l[i2]'hlt := ⟨_, rfl⟩
          have e1 : (u1.l.map Mg.Ver.cells)[i2]'(by simpa using hlt) = Mg.Ver.cells u2 := by rw [List.getElem_map, hu]
          rw [e1] at hc
          have HCC2 := Lib.hid hc
          have HY2 : Hid (u1.l[i2]? = some u2) := Lib.hid (by rw [List.getElem?_eq_getElem hlt, hu])
          have hug : u2.Good := by rw [hu]; exact HUG1.out.c _ (List.getElem_mem _)
          have HUG2 := Lib.hid hug
          have huI2 : (0 : Int) ≤ u2.n ∧ (u2.n : Int) < 18446744073709551616 ∧ (0 : Int) ≤ u2.st ∧ (u2.st : Int) < 256 := by have := hug.a; have := hug.b; omega
          clear hc e1 hu
          have hce := HCC2.out.keep (hbr.block _ HCC2.out.lt)
          clear hce
          have hea := Mg.encs_at (Mg.cVer) HY2.out
          have HEA2 := Lib.hid hea
          have hsp : ((Mg.cVer).enc u2).length = ((Mg.cVer).enc (u2)).length := by
            have h1 : (Mg.cVer).enc u2 = (Mg.cVer).enc (u2) := rfl
            rw [h1]; try simp only [List.length_append, Nat.add_assoc]
          have HSP2 := Lib.hid hsp
          clear hea hsp hlt hbr hg2
          rw [HGA2.out] at cs
          have c0 : y2.cell? ⟨g2, o2 + i2 * 3, none⟩ = some (.int .u64 u2.n) := (HCC2.out.keep ((HB.out.trans (HFL2.out.below HB.out.size)).block _ HCC2.out.lt)).cell 0 (by simp)
          have c1 : y2.cell? ⟨g2, o2 + i2 * 3 + 1, none⟩ = some (.int .u8 u2.st) := (HCC2.out.keep ((HB.out.trans (HFL2.out.below HB.out.size)).block _ HCC2.out.lt)).cell 1 (by simp)
          have c2 : y2.cell? ⟨g2, o2 + i2 * 3 + 2, none⟩ = some (.string u2.t) := (HCC2.out.keep ((HB.out.trans (HFL2.out.below HB.out.size)).block _ HCC2.out.lt)).cell 2 (by simp)
          go_wp2_with fail
          refine (p_ver wB.heap.size k (((((((bs) ++ t1) ++ tt1) ++ t2) ++ t3) ++ t4) ++ tt2) (((((((bad) || !(Mg.num 512).fit (l.length)) || !(l.take i1).all (Mg.cRow).fit) || !(Mg.text 129).fit (u1.p)) || !(Mg.num 18446744073709551615).fit (u1.last)) || !(Mg.num 512).fit (u1.l.length)) || !(u1.l.take i2).all (Mg.cVer).fit) u2 y2 HPL2.out HUG2.out (by have := HLN.out; have := HLL1.out; have := HW1.out.1; have := HTT1.out.1; have := HEA1.out; have := HSP1.out; have := HW2.out.1; have := HW3.out.1; have := HLL2.out; have := HW4.out.1; have := HTT2.out.1; have := HEA2.out; have := HSP2.out; (try simp only [List.length_append] at *); omega)).mono ?_
          rintro e x5 ⟨rfl, ⟨t5, hw, hp⟩, hf⟩
          have HW5 := Lib.hid hw
          have HP5 := Lib.hid hp
          have HG5 := Lib.hid (HFL2.out.trans hf)
          have HFE := Lib.hid hf
          clear hw hp hf  c0 c1 c2
          clear cs
          go_wp2_with fail
          go_roundw
          case rel =>
            have hfin : ((((((((bad) || !(Mg.num 512).fit (l.length)) || !(l.take i1).all (Mg.cRow).fit) || !(Mg.text 129).fit (u1.p)) || !(Mg.num 18446744073709551615).fit (u1.last)) || !(Mg.num 512).fit (u1.l.length)) || !(u1.l.take i2).all (Mg.cVer).fit) || !(Mg.cVer).fit (u2)) = (((((((bad) || !(Mg.num 512).fit (l.length)) || !(l.take i1).all (Mg.cRow).fit) || !(Mg.text 129).fit (u1.p)) || !(Mg.num 18446744073709551615).fit (u1.last)) || !(Mg.num 512).fit (u1.l.length)) || !(u1.l.take (i2 + 1)).all (Mg.cVer).fit) := by
              rw [Mg.all_nextF (Mg.cVer).fit HY2.out]
              show _ = (((((((bad) || !(Mg.num 512).fit (l.length)) || !(l.take i1).all (Mg.cRow).fit) || !(Mg.text 129).fit (u1.p)) || !(Mg.num 18446744073709551615).fit (u1.last)) || !(Mg.num 512).fit (u1.l.length)) || !((u1.l.take i2).all (Mg.cVer).fit && ((Mg.cVer).fit (u2))))
              simp only [Bool.not_and, Bool.or_assoc]
            exact ⟨i2 + 1, tt2 ++ (t5), by omega, by go_num, HTT2.out.next HY2.out (HW5.out), HP5.out.cast (by simp only [List.append_assoc]) hfin, HG5.out⟩
          case measure => simp [intOf]; omega
        · obtain rfl : i2 = u1.l.length := by omega
          have htk := HTT2.out
          have hp := HPL2.out
          rw [List.take_length] at htk hp
          obtain ⟨t6, ht6⟩ : ∃ t, t = t4 ++ tt2 := ⟨_, rfl⟩
          have HW6 : Hid (Mg.Wrote (Mg.list 512 (Mg.cVer)) u1.l t6) := Lib.hid (by rw [ht6]; exact Mg.Wrote.list HW4.out htk)
          have HP6 : Hid (PtAt wB.heap.size k ((((((bs) ++ t1) ++ tt1) ++ t2) ++ t3) ++ t6) ((((((bad) || !(Mg.num 512).fit (l.length)) || !(l.take i1).all (Mg.cRow).fit) || !(Mg.text 129).fit (u1.p)) || !(Mg.num 18446744073709551615).fit (u1.last)) || !(Mg.list 512 (Mg.cVer)).fit u1.l) y2) := Lib.hid (hp.cast (by rw [ht6, List.append_assoc]) (by
            show _ = ((((((bad) || !(Mg.num 512).fit (l.length)) || !(l.take i1).all (Mg.cRow).fit) || !(Mg.text 129).fit (u1.p)) || !(Mg.num 18446744073709551615).fit (u1.last)) || !((Mg.num 512).fit u1.l.length && u1.l.all (Mg.cVer).fit))
            simp only [Bool.not_and, Bool.or_assoc]))
          have HG6 := Lib.hid HFL2.out
          clear htk hp ht6 hlt
          go_wp2_with fail
          go_roundw
          case rel =>
            have hfin : ((((((bad) || !(Mg.num 512).fit (l.length)) || !(l.take i1).all (Mg.cRow).fit) || !(Mg.text 129).fit (u1.p)) || !(Mg.num 18446744073709551615).fit (u1.last)) || !(Mg.list 512 (Mg.cVer)).fit (u1.l)) = (((bad) || !(Mg.num 512).fit (l.length)) || !(l.take (i1 + 1)).all (Mg.cRow).fit) := by
              rw [Mg.all_nextF (Mg.cRow).fit HY1.out]
              show _ = (((bad) || !(Mg.num 512).fit (l.length)) || !((l.take i1).all (Mg.cRow).fit && ((Mg.text 129).fit (u1.p) && ((Mg.num 18446744073709551615).fit (u1.last) && ((Mg.list 512 (Mg.cVer)).fit (u1.l))))))
              simp only [Bool.not_and, Bool.or_assoc]
            exact ⟨i1 + 1, tt1 ++ (t2 ++ (t3 ++ (t6))), by omega, by go_num, HTT1.out.next HY1.out (Mg.Wrote.seq HW2.out (Mg.Wrote.seq HW3.out (HW6.out))), HP6.out.cast (by simp only [List.append_assoc]) hfin, HG6.out⟩
          case measure => simp [intOf]; omega
    · obtain rfl : i1 = l.length := by omega
      have htk := HTT1.out
      have hp := HPL1.out
      rw [List.take_length] at htk hp
      obtain ⟨t7, ht7⟩ : ∃ t, t = t1 ++ tt1 := ⟨_, rfl⟩
      have HW7 : Hid (Mg.Wrote (Mg.list 512 (Mg.cRow)) l t7) := Lib.hid (by rw [ht7]; exact Mg.Wrote.list HW1.out htk)
      have HP7 : Hid (PtAt wB.heap.size k ((bs) ++ t7) ((bad) || !(Mg.list 512 (Mg.cRow)).fit l) y1) := Lib.hid (hp.cast (by rw [ht7, List.append_assoc]) (by
        show _ = ((bad) || !((Mg.num 512).fit l.length && l.all (Mg.cRow).fit))
        simp only [Bool.not_and, Bool.or_assoc]))
      have HG7 := Lib.hid HFL1.out
      clear htk hp ht7 hlt
      go_wp2_with fail
      exact bodyPost_end (v := .tuple #[]) (by simp [results, Tryz.results57, go_sem]) rfl ⟨rfl, ⟨t7, HW7.out, HP7.out⟩, HG7.out⟩

set_option maxRecDepth 20000 in
set_option maxHeartbeats 8000000 in
theorem p_ask (wB : World) (k : Nat) (bs : List UInt8) (bad : Bool) (s : MS) (x : Mg.Msg) (w : World) (h : PtAt wB.heap.size k bs bad w) (hb : Below wB.heap.size wB w) (ha : MsgA wB s x) (ok : x.Good) (hlen : bs.length + (Mg.cAsk.enc x.ask).length ≤ 2147483648) :
    Calls Tryz.prog 56 #[.pointer (some ⟨k, 0, none⟩), .agg (askV s x)] w (PutOut wB.heap.size k bs bad Mg.cAsk x.ask w) := by
  obtain ⟨w0, hw0⟩ : ∃ y, y = w.alloc (.cells (askV s x) 33 (0, 0)) := ⟨_, rfl⟩
  have hb0 : w0.heap[w.heap.size]? = some (.cells (askV s x) 33 (0, 0)) := by rw [hw0]; exact heap_alloc_new w _
  have HBX := Lib.hid hb0
  have HP0 : Hid (PtAt wB.heap.size k bs bad w0) := Lib.hid (by rw [hw0]; exact h.keep ((Own.refl w).alloc _).below)
  have HF0 : Hid (FrP wB.heap.size w w0) := Lib.hid (by rw [hw0]; exact (FrP.refl wB.heap.size w).alloc _)
  have HB : Hid (Below wB.heap.size wB w0) := Lib.hid (hb.trans (HF0.out.below hb.size))
  have HG0 := Lib.hid (FrP.refl wB.heap.size w0)
  have HW0 := Lib.hid hw0
  have HA := Lib.hid ha
  have HOK := Lib.hid ok
  have HLN := Lib.hid hlen
  have hxI : (0 : Int) ≤ x.ask.shard ∧ (x.ask.shard : Int) < 4294967296 := by have := ok.shard; omega
  have hrI : (0 : Int) ≤ x.ask.range.frm ∧ (x.ask.range.frm : Int) < 18446744073709551616 ∧ (0 : Int) ≤ x.ask.range.top ∧ (x.ask.range.top : Int) < 18446744073709551616 := by have := ok.range.a; have := ok.range.b; omega
  have hreI : (0 : Int) ≤ x.ask.reads.length ∧ (x.ask.reads.length : Int) ≤ 100000 := by have := ok.reads.2; omega
  have hedI : (0 : Int) ≤ x.ask.edits.length ∧ (x.ask.edits.length : Int) ≤ 100000 := by have := ok.edits.2; omega
  clear h hb ha ok hlen hb0 hw0
  go_enter Tryz.func56, Tryz.ntmps56
  go_upto_region 1 with (fail)
  rw [← HW0.out]
  clear HW0
  have HRR := Lib.hid HA.out.reads.row
  have HRE := Lib.hid HA.out.edits.row
  have hln : bs.length + (((Mg.num 4294967295).enc (x.ask.shard)).length + (((Mg.list 512 Mg.cRd).enc (x.ask.reads)).length + (((Mg.list 512 (Mg.int 512)).enc (x.ask.readAt)).length + (((Mg.list 512 Mg.cEd).enc (x.ask.edits)).length + (((Mg.list 512 (Mg.int 512)).enc (x.ask.editAt)).length + (((Mg.truth).enc (x.ask.list)).length + (((Mg.text 129).enc (x.ask.pre)).length + (((Mg.truth).enc (x.ask.give)).length + (((Mg.truth).enc (x.ask.take)).length + (((Mg.num 18446744073709551615).enc (x.ask.range.frm)).length + (((Mg.num 18446744073709551615).enc (x.ask.range.top)).length))))))))))) ≤ 2147483648 := by
    have h0 := HLN.out
    have h1 : Mg.cAsk.enc x.ask = (Mg.num 4294967295).enc (x.ask.shard) ++ ((Mg.list 512 Mg.cRd).enc (x.ask.reads) ++ ((Mg.list 512 (Mg.int 512)).enc (x.ask.readAt) ++ ((Mg.list 512 Mg.cEd).enc (x.ask.edits) ++ ((Mg.list 512 (Mg.int 512)).enc (x.ask.editAt) ++ ((Mg.truth).enc (x.ask.list) ++ ((Mg.text 129).enc (x.ask.pre) ++ ((Mg.truth).enc (x.ask.give) ++ ((Mg.truth).enc (x.ask.take) ++ ((Mg.num 18446744073709551615).enc (x.ask.range.frm) ++ ((Mg.num 18446744073709551615).enc (x.ask.range.top))))))))))) := rfl
    rw [h1] at h0
    simp only [List.length_append] at h0 ⊢
    exact h0
  have HLN2 := Lib.hid hln
  clear hln
  have c0 : w0.cell? ⟨w.heap.size, 0, none⟩ = some (.int .u32 x.ask.shard) := by rw [cell_of_row _ _ _ _ _ _ (HG0.out.keep HBX.out (by decide) (by decide))]; rfl
  go_wp2_with fail
  refine (pn wB.heap.size k (bs) (bad) x.ask.shard 4294967295 w0 HP0.out (by have := HOK.out.shard; omega) (by decide) (by have := HLN2.out; (try simp only [List.length_append] at *); omega)).mono ?_
  rintro e x1 ⟨rfl, ⟨t1, hw, hp⟩, hf⟩
  have HW1 := Lib.hid hw
  have HP1 := Lib.hid hp
  have HG1 := Lib.hid (HG0.out.trans hf)
  have HFE := Lib.hid hf
  clear hw hp hf  c0
  have hll : ((Mg.list 512 (Mg.cRd)).enc x.ask.reads).length = ((Mg.num 512).enc x.ask.reads.length).length + (Mg.encs (Mg.cRd) x.ask.reads).length := by
    have h1 : (Mg.list 512 (Mg.cRd)).enc x.ask.reads = (Mg.num 512).enc x.ask.reads.length ++ Mg.encs (Mg.cRd) x.ask.reads := rfl
    rw [h1, List.length_append]
  have HLL1 := Lib.hid hll
  clear hll
  have cs : x1.cell? ⟨w.heap.size, 1, none⟩ = some (.slice s.reads.1 x.ask.reads.length s.reads.2) := by rw [cell_of_row _ _ _ _ _ _ (HG1.out.keep HBX.out (by decide) (by decide))]; rfl
  go_wp2_with fail
  refine (p_count wB.heap.size k ((bs) ++ t1) ((bad) || !(Mg.num 4294967295).fit (x.ask.shard)) x.ask.reads.length x1 HP1.out (by have := HOK.out.reads.2; omega) (by have := HLN2.out; have := HW1.out.1; have := HLL1.out; (try simp only [List.length_append] at *); omega)).mono ?_
  rintro e x2 ⟨rfl, ⟨t2, hw, hp⟩, hf⟩
  have HW2 := Lib.hid hw
  have HP2 := Lib.hid hp
  have HG2 := Lib.hid (HG1.out.trans hf)
  have HFE := Lib.hid hf
  clear hw hp hf  cs
  go_wp2_with fail
  go_loopw [4] (fun vi wr => ∃ (i : Nat) (tt : List UInt8), i ≤ x.ask.reads.length ∧ vi = .int .i64 i ∧ Mg.WroteL (Mg.cRd) (x.ask.reads.take i) tt ∧ PtAt wB.heap.size k ((((bs) ++ t1) ++ t2) ++ tt) ((((bad) || !(Mg.num 4294967295).fit (x.ask.shard)) || !(Mg.num 512).fit (x.ask.reads.length)) || !(x.ask.reads.take i).all (Mg.cRd).fit) wr ∧ FrP wB.heap.size w0 wr) (fun vi _ => x.ask.reads.length - (intOf vi).toNat)
  case atStart => exact ⟨0, [], Nat.zero_le _, rfl, Mg.WroteL.nil _, HP2.out.cast (by simp) (by simp), HG2.out⟩
  case round =>
    obtain ⟨i1, tt1, hi1, rfl, htt, hp, hf⟩ := hrel
    have HTT1 := Lib.hid htt
    have HPL1 := Lib.hid hp
    have HFL1 := Lib.hid hf
    obtain ⟨y1, hy1⟩ : ∃ y, y = wr := ⟨_, rfl⟩
    subst hy1
    clear htt hp hf
    have cs : y1.cell? ⟨w.heap.size, 1, none⟩ = some (.slice s.reads.1 x.ask.reads.length s.reads.2) := by rw [cell_of_row _ _ _ _ _ _ (HFL1.out.keep HBX.out (by decide) (by decide))]; rfl
    by_cases hlt : i1 < x.ask.reads.length
    · have hiI1 : (0 : Int) ≤ i1 ∧ (i1 : Int) < x.ask.reads.length := by omega
      have hbr : Below wB.heap.size wB y1 := HB.out.trans (HFL1.out.below HB.out.size)
      obtain ⟨g1, o1, hg1, hc⟩ := HRR.out i1 (by simpa using hlt)
      have HGA1 := Lib.hid hg1
      obtain ⟨u1, hu⟩ : ∃ u, u = x.ask.reads[i1]'hlt := ⟨_, rfl⟩
      have e1 : (x.ask.reads.map Mg.Rd.cells)[i1]'(by simpa using hlt) = Mg.Rd.cells u1 := by rw [List.getElem_map, hu]
      rw [e1] at hc
      have HCC1 := Lib.hid hc
      have HY1 : Hid (x.ask.reads[i1]? = some u1) := Lib.hid (by rw [List.getElem?_eq_getElem hlt, hu])
      have hug : u1.Good := by rw [hu]; exact HOK.out.reads.1 _ (List.getElem_mem _)
      have HUG1 := Lib.hid hug
      have huI1 : (0 : Int) ≤ u1.n ∧ (u1.n : Int) < 18446744073709551616 := by have := hug.b; omega
      clear hc e1 hu
      have hce := HCC1.out.keep (hbr.block _ HCC1.out.lt)
      clear hce
      have hea := Mg.encs_at (Mg.cRd) HY1.out
      have HEA1 := Lib.hid hea
      have hsp : ((Mg.cRd).enc u1).length = ((Mg.text 129).enc (u1.p)).length + (((Mg.num 18446744073709551615).enc (u1.n)).length) := by
        have h1 : (Mg.cRd).enc u1 = (Mg.text 129).enc (u1.p) ++ ((Mg.num 18446744073709551615).enc (u1.n)) := rfl
        rw [h1]; try simp only [List.length_append]
      have HSP1 := Lib.hid hsp
      clear hea hsp hlt hbr hg1
      rw [HGA1.out] at cs
      have c0 : y1.cell? ⟨g1, o1 + i1 * 2, none⟩ = some (.string u1.p) := (HCC1.out.keep ((HB.out.trans (HFL1.out.below HB.out.size)).block _ HCC1.out.lt)).cell 0 (by simp)
      go_wp2_with fail
      refine (pt wB.heap.size k ((((bs) ++ t1) ++ t2) ++ tt1) ((((bad) || !(Mg.num 4294967295).fit (x.ask.shard)) || !(Mg.num 512).fit (x.ask.reads.length)) || !(x.ask.reads.take i1).all (Mg.cRd).fit) u1.p 129 y1 HPL1.out HUG1.out.a (by decide) (by have := HLN2.out; have := HW1.out.1; have := HLL1.out; have := HW2.out.1; have := HTT1.out.1; have := HEA1.out; have := HSP1.out; (try simp only [List.length_append] at *); omega)).mono ?_
      rintro e x3 ⟨rfl, ⟨t3, hw, hp⟩, hf⟩
      have HW3 := Lib.hid hw
      have HP3 := Lib.hid hp
      have HG3 := Lib.hid (HFL1.out.trans hf)
      have HFE := Lib.hid hf
      clear hw hp hf  c0
      clear cs
      have cs : x3.cell? ⟨w.heap.size, 1, none⟩ = some (.slice s.reads.1 x.ask.reads.length s.reads.2) := by rw [cell_of_row _ _ _ _ _ _ (HG3.out.keep HBX.out (by decide) (by decide))]; rfl
      rw [HGA1.out] at cs
      have c0 : x3.cell? ⟨g1, o1 + i1 * 2 + 1, none⟩ = some (.int .u64 u1.n) := (HCC1.out.keep ((HB.out.trans (HG3.out.below HB.out.size)).block _ HCC1.out.lt)).cell 1 (by simp)
      go_wp2_with fail
      refine (pn wB.heap.size k (((((bs) ++ t1) ++ t2) ++ tt1) ++ t3) (((((bad) || !(Mg.num 4294967295).fit (x.ask.shard)) || !(Mg.num 512).fit (x.ask.reads.length)) || !(x.ask.reads.take i1).all (Mg.cRd).fit) || !(Mg.text 129).fit (u1.p)) u1.n 18446744073709551615 x3 HP3.out HUG1.out.b (by decide) (by have := HLN2.out; have := HW1.out.1; have := HLL1.out; have := HW2.out.1; have := HTT1.out.1; have := HEA1.out; have := HSP1.out; have := HW3.out.1; (try simp only [List.length_append] at *); omega)).mono ?_
      rintro e x4 ⟨rfl, ⟨t4, hw, hp⟩, hf⟩
      have HW4 := Lib.hid hw
      have HP4 := Lib.hid hp
      have HG4 := Lib.hid (HG3.out.trans hf)
      have HFE := Lib.hid hf
      clear hw hp hf  cs c0
      go_wp2_with fail
      go_roundw
      case rel =>
        have hfin : ((((((bad) || !(Mg.num 4294967295).fit (x.ask.shard)) || !(Mg.num 512).fit (x.ask.reads.length)) || !(x.ask.reads.take i1).all (Mg.cRd).fit) || !(Mg.text 129).fit (u1.p)) || !(Mg.num 18446744073709551615).fit (u1.n)) = ((((bad) || !(Mg.num 4294967295).fit (x.ask.shard)) || !(Mg.num 512).fit (x.ask.reads.length)) || !(x.ask.reads.take (i1 + 1)).all (Mg.cRd).fit) := by
          rw [Mg.all_nextF (Mg.cRd).fit HY1.out]
          show _ = ((((bad) || !(Mg.num 4294967295).fit (x.ask.shard)) || !(Mg.num 512).fit (x.ask.reads.length)) || !((x.ask.reads.take i1).all (Mg.cRd).fit && ((Mg.text 129).fit (u1.p) && ((Mg.num 18446744073709551615).fit (u1.n)))))
          simp only [Bool.not_and, Bool.or_assoc]
        exact ⟨i1 + 1, tt1 ++ (t3 ++ (t4)), by omega, by go_num, HTT1.out.next HY1.out (Mg.Wrote.seq HW3.out (HW4.out)), HP4.out.cast (by simp only [List.append_assoc]) hfin, HG4.out⟩
      case measure => simp [intOf]; omega
    · obtain rfl : i1 = x.ask.reads.length := by omega
      have htk := HTT1.out
      have hp := HPL1.out
      rw [List.take_length] at htk hp
      obtain ⟨t5, ht5⟩ : ∃ t, t = t2 ++ tt1 := ⟨_, rfl⟩
      have HW5 : Hid (Mg.Wrote (Mg.list 512 (Mg.cRd)) x.ask.reads t5) := Lib.hid (by rw [ht5]; exact Mg.Wrote.list HW2.out htk)
      have HP5 : Hid (PtAt wB.heap.size k (((bs) ++ t1) ++ t5) (((bad) || !(Mg.num 4294967295).fit (x.ask.shard)) || !(Mg.list 512 (Mg.cRd)).fit x.ask.reads) y1) := Lib.hid (hp.cast (by rw [ht5, List.append_assoc]) (by
        show _ = (((bad) || !(Mg.num 4294967295).fit (x.ask.shard)) || !((Mg.num 512).fit x.ask.reads.length && x.ask.reads.all (Mg.cRd).fit))
        simp only [Bool.not_and, Bool.or_assoc]))
      have HG5 := Lib.hid HFL1.out
      clear htk hp ht5 hlt
      have c0 : y1.cell? ⟨w.heap.size, 2, none⟩ = some (.slice s.readAt.1 x.ask.readAt.length s.readAt.2) := by rw [cell_of_row _ _ _ _ _ _ (HG5.out.keep HBX.out (by decide) (by decide))]; rfl
      go_wp2_with fail
      refine (p_places wB k (((bs) ++ t1) ++ t5) (((bad) || !(Mg.num 4294967295).fit (x.ask.shard)) || !(Mg.list 512 (Mg.cRd)).fit (x.ask.reads)) s.readAt.1 s.readAt.2 x.ask.readAt y1 HP5.out (HB.out.trans (HG5.out.below HB.out.size)) HA.out.readAt.row HOK.out.readAt.1 (by have := HOK.out.readAt.2; omega) (by have := HLN2.out; have := HW1.out.1; have := HLL1.out; have := HW5.out.1; (try simp only [List.length_append] at *); omega)).mono ?_
      rintro e x6 ⟨rfl, ⟨t6, hw, hp⟩, hf⟩
      have HW6 := Lib.hid hw
      have HP6 := Lib.hid hp
      have HG6 := Lib.hid (HG5.out.trans hf)
      have HFE := Lib.hid hf
      clear hw hp hf cs c0
      have hll : ((Mg.list 512 (Mg.cEd)).enc x.ask.edits).length = ((Mg.num 512).enc x.ask.edits.length).length + (Mg.encs (Mg.cEd) x.ask.edits).length := by
        have h1 : (Mg.list 512 (Mg.cEd)).enc x.ask.edits = (Mg.num 512).enc x.ask.edits.length ++ Mg.encs (Mg.cEd) x.ask.edits := rfl
        rw [h1, List.length_append]
      have HLL2 := Lib.hid hll
      clear hll
      have cs : x6.cell? ⟨w.heap.size, 3, none⟩ = some (.slice s.edits.1 x.ask.edits.length s.edits.2) := by rw [cell_of_row _ _ _ _ _ _ (HG6.out.keep HBX.out (by decide) (by decide))]; rfl
      go_wp2_with fail
      refine (p_count wB.heap.size k ((((bs) ++ t1) ++ t5) ++ t6) ((((bad) || !(Mg.num 4294967295).fit (x.ask.shard)) || !(Mg.list 512 (Mg.cRd)).fit (x.ask.reads)) || !(Mg.list 512 (Mg.int 512)).fit (x.ask.readAt)) x.ask.edits.length x6 HP6.out (by have := HOK.out.edits.2; omega) (by have := HLN2.out; have := HW1.out.1; have := HLL1.out; have := HW5.out.1; have := HW6.out.1; have := HLL2.out; (try simp only [List.length_append] at *); omega)).mono ?_
      rintro e x7 ⟨rfl, ⟨t7, hw, hp⟩, hf⟩
      have HW7 := Lib.hid hw
      have HP7 := Lib.hid hp
      have HG7 := Lib.hid (HG6.out.trans hf)
      have HFE := Lib.hid hf
      clear hw hp hf  cs
      go_wp2_with fail
      go_loopw [5] (fun vi wr => ∃ (i : Nat) (tt : List UInt8), i ≤ x.ask.edits.length ∧ vi = .int .i64 i ∧ Mg.WroteL (Mg.cEd) (x.ask.edits.take i) tt ∧ PtAt wB.heap.size k ((((((bs) ++ t1) ++ t5) ++ t6) ++ t7) ++ tt) ((((((bad) || !(Mg.num 4294967295).fit (x.ask.shard)) || !(Mg.list 512 (Mg.cRd)).fit (x.ask.reads)) || !(Mg.list 512 (Mg.int 512)).fit (x.ask.readAt)) || !(Mg.num 512).fit (x.ask.edits.length)) || !(x.ask.edits.take i).all (Mg.cEd).fit) wr ∧ FrP wB.heap.size w0 wr) (fun vi _ => x.ask.edits.length - (intOf vi).toNat)
      case atStart => exact ⟨0, [], Nat.zero_le _, rfl, Mg.WroteL.nil _, HP7.out.cast (by simp) (by simp), HG7.out⟩
      case round =>
        obtain ⟨i2, tt2, hi2, rfl, htt, hp, hf⟩ := hrel
        have HTT2 := Lib.hid htt
        have HPL2 := Lib.hid hp
        have HFL2 := Lib.hid hf
        obtain ⟨y2, hy2⟩ : ∃ y, y = wr := ⟨_, rfl⟩
        subst hy2
        clear htt hp hf
        have cs : y2.cell? ⟨w.heap.size, 3, none⟩ = some (.slice s.edits.1 x.ask.edits.length s.edits.2) := by rw [cell_of_row _ _ _ _ _ _ (HFL2.out.keep HBX.out (by decide) (by decide))]; rfl
        by_cases hlt : i2 < x.ask.edits.length
        · have hiI2 : (0 : Int) ≤ i2 ∧ (i2 : Int) < x.ask.edits.length := by omega
          have hbr : Below wB.heap.size wB y2 := HB.out.trans (HFL2.out.below HB.out.size)
          obtain ⟨g2, o2, hg2, hc⟩ := HRE.out i2 (by simpa using hlt)
          have HGA2 := Lib.hid hg2
          obtain ⟨u2, hu⟩ : ∃ u, u = x.ask.edits[i2]'hlt := ⟨_, rfl⟩
          have e1 : (x.ask.edits.map Mg.Ed.cells)[i2]'(by simpa using hlt) = Mg.Ed.cells u2 := by rw [List.getElem_map, hu]
          rw [e1] at hc
          have HCC2 := Lib.hid hc
          have HY2 : Hid (x.ask.edits[i2]? = some u2) := Lib.hid (by rw [List.getElem?_eq_getElem hlt, hu])
          have hug : u2.Good := by rw [hu]; exact HOK.out.edits.1 _ (List.getElem_mem _)
          have HUG2 := Lib.hid hug
          have huI2 : (0 : Int) ≤ u2.n ∧ (u2.n : Int) < 18446744073709551616 ∧ (0 : Int) ≤ u2.want ∧ (u2.want : Int) < 18446744073709551616 ∧ (0 : Int) ≤ u2.kind ∧ (u2.kind : Int) < 256 := by have := hug.a; have := hug.d; have := hug.e; omega
          clear hc e1 hu
          have hce := HCC2.out.keep (hbr.block _ HCC2.out.lt)
          clear hce
          have hea := Mg.encs_at (Mg.cEd) HY2.out
          have HEA2 := Lib.hid hea
          have hsp : ((Mg.cEd).enc u2).length = ((Mg.num 255).enc (u2.kind)).length + (((Mg.text 129).enc (u2.p)).length + (((Mg.truth).enc (u2.any)).length + (((Mg.num 18446744073709551615).enc (u2.want)).length + (((Mg.num 18446744073709551615).enc (u2.n)).length + (((Mg.text 4096).enc (u2.t)).length))))) := by
            have h1 : (Mg.cEd).enc u2 = (Mg.num 255).enc (u2.kind) ++ ((Mg.text 129).enc (u2.p) ++ ((Mg.truth).enc (u2.any) ++ ((Mg.num 18446744073709551615).enc (u2.want) ++ ((Mg.num 18446744073709551615).enc (u2.n) ++ ((Mg.text 4096).enc (u2.t)))))) := rfl
            rw [h1]; try simp only [List.length_append]
          have HSP2 := Lib.hid hsp
          clear hea hsp hlt hbr hg2
          rw [HGA2.out] at cs
          have c0 : y2.cell? ⟨g2, o2 + i2 * 6, none⟩ = some (.int .u8 u2.kind) := (HCC2.out.keep ((HB.out.trans (HFL2.out.below HB.out.size)).block _ HCC2.out.lt)).cell 0 (by simp)
          have c1 : y2.cell? ⟨g2, o2 + i2 * 6 + 1, none⟩ = some (.string u2.p) := (HCC2.out.keep ((HB.out.trans (HFL2.out.below HB.out.size)).block _ HCC2.out.lt)).cell 1 (by simp)
          have c2 : y2.cell? ⟨g2, o2 + i2 * 6 + 2, none⟩ = some (.bool u2.any) := (HCC2.out.keep ((HB.out.trans (HFL2.out.below HB.out.size)).block _ HCC2.out.lt)).cell 2 (by simp)
          have c3 : y2.cell? ⟨g2, o2 + i2 * 6 + 3, none⟩ = some (.int .u64 u2.want) := (HCC2.out.keep ((HB.out.trans (HFL2.out.below HB.out.size)).block _ HCC2.out.lt)).cell 3 (by simp)
          have c4 : y2.cell? ⟨g2, o2 + i2 * 6 + 4, none⟩ = some (.int .u64 u2.n) := (HCC2.out.keep ((HB.out.trans (HFL2.out.below HB.out.size)).block _ HCC2.out.lt)).cell 4 (by simp)
          have c5 : y2.cell? ⟨g2, o2 + i2 * 6 + 5, none⟩ = some (.string u2.t) := (HCC2.out.keep ((HB.out.trans (HFL2.out.below HB.out.size)).block _ HCC2.out.lt)).cell 5 (by simp)
          have HPA2 := Lib.hid (HPL2.out.keep ((Own.refl y2).alloc (.cells #[.int .u8 u2.kind, .string u2.p, .bool u2.any, .int .u64 u2.want, .int .u64 u2.n, .string u2.t] 59 (0, 0))).below)
          have HGB2 := Lib.hid (HFL2.out.alloc (.cells #[.int .u8 u2.kind, .string u2.p, .bool u2.any, .int .u64 u2.want, .int .u64 u2.n, .string u2.t] 59 (0, 0)))
          have HEX2 := Lib.hid (heap_alloc_new y2 (.cells #[.int .u8 u2.kind, .string u2.p, .bool u2.any, .int .u64 u2.want, .int .u64 u2.n, .string u2.t] 59 (0, 0)))
          go_wp2_with fail
          refine (pn wB.heap.size k ((((((bs) ++ t1) ++ t5) ++ t6) ++ t7) ++ tt2) ((((((bad) || !(Mg.num 4294967295).fit (x.ask.shard)) || !(Mg.list 512 (Mg.cRd)).fit (x.ask.reads)) || !(Mg.list 512 (Mg.int 512)).fit (x.ask.readAt)) || !(Mg.num 512).fit (x.ask.edits.length)) || !(x.ask.edits.take i2).all (Mg.cEd).fit) u2.kind 255 (y2.alloc (.cells #[.int .u8 u2.kind, .string u2.p, .bool u2.any, .int .u64 u2.want, .int .u64 u2.n, .string u2.t] 59 (0, 0))) HPA2.out (by have := HUG2.out.a; omega) (by decide) (by have := HLN2.out; have := HW1.out.1; have := HLL1.out; have := HW5.out.1; have := HW6.out.1; have := HLL2.out; have := HW7.out.1; have := HTT2.out.1; have := HEA2.out; have := HSP2.out; (try simp only [List.length_append] at *); omega)).mono ?_
          rintro e x8 ⟨rfl, ⟨t8, hw, hp⟩, hf⟩
          have HW8 := Lib.hid hw
          have HP8 := Lib.hid hp
          have HG8 := Lib.hid (HGB2.out.trans hf)
          have HFE := Lib.hid hf
          clear hw hp hf 
          clear cs c0 c1 c2 c3 c4 c5
          have HEB8 : Hid (x8.heap[y2.heap.size]? = some (.cells #[.int .u8 u2.kind, .string u2.p, .bool u2.any, .int .u64 u2.want, .int .u64 u2.n, .string u2.t] 59 (0, 0))) := Lib.hid (HFE.out.keep HEX2.out (by decide) (by decide))
          have c0 : x8.cell? ⟨y2.heap.size, 1, none⟩ = some (.string u2.p) := by rw [cell_of_row _ _ _ _ _ _ HEB8.out]; rfl
          go_wp2_with fail
          refine (pt wB.heap.size k (((((((bs) ++ t1) ++ t5) ++ t6) ++ t7) ++ tt2) ++ t8) (((((((bad) || !(Mg.num 4294967295).fit (x.ask.shard)) || !(Mg.list 512 (Mg.cRd)).fit (x.ask.reads)) || !(Mg.list 512 (Mg.int 512)).fit (x.ask.readAt)) || !(Mg.num 512).fit (x.ask.edits.length)) || !(x.ask.edits.take i2).all (Mg.cEd).fit) || !(Mg.num 255).fit (u2.kind)) u2.p 129 x8 HP8.out HUG2.out.b (by decide) (by have := HLN2.out; have := HW1.out.1; have := HLL1.out; have := HW5.out.1; have := HW6.out.1; have := HLL2.out; have := HW7.out.1; have := HTT2.out.1; have := HEA2.out; have := HSP2.out; have := HW8.out.1; (try simp only [List.length_append] at *); omega)).mono ?_
          rintro e x9 ⟨rfl, ⟨t9, hw, hp⟩, hf⟩
          have HW9 := Lib.hid hw
          have HP9 := Lib.hid hp
          have HG9 := Lib.hid (HG8.out.trans hf)
          have HFE := Lib.hid hf
          clear hw hp hf  c0
          have HEB9 : Hid (x9.heap[y2.heap.size]? = some (.cells #[.int .u8 u2.kind, .string u2.p, .bool u2.any, .int .u64 u2.want, .int .u64 u2.n, .string u2.t] 59 (0, 0))) := Lib.hid (HFE.out.keep HEB8.out (by decide) (by decide))
          have c0 : x9.cell? ⟨y2.heap.size, 2, none⟩ = some (.bool u2.any) := by rw [cell_of_row _ _ _ _ _ _ HEB9.out]; rfl
          go_wp2_with fail
          refine (p_truth wB.heap.size k ((((((((bs) ++ t1) ++ t5) ++ t6) ++ t7) ++ tt2) ++ t8) ++ t9) ((((((((bad) || !(Mg.num 4294967295).fit (x.ask.shard)) || !(Mg.list 512 (Mg.cRd)).fit (x.ask.reads)) || !(Mg.list 512 (Mg.int 512)).fit (x.ask.readAt)) || !(Mg.num 512).fit (x.ask.edits.length)) || !(x.ask.edits.take i2).all (Mg.cEd).fit) || !(Mg.num 255).fit (u2.kind)) || !(Mg.text 129).fit (u2.p)) u2.any x9 HP9.out  (by have := HLN2.out; have := HW1.out.1; have := HLL1.out; have := HW5.out.1; have := HW6.out.1; have := HLL2.out; have := HW7.out.1; have := HTT2.out.1; have := HEA2.out; have := HSP2.out; have := HW8.out.1; have := HW9.out.1; (try simp only [List.length_append] at *); omega)).mono ?_
          rintro e x10 ⟨rfl, ⟨t10, hw, hp⟩, hf⟩
          have HW10 := Lib.hid hw
          have HP10 := Lib.hid hp
          have HG10 := Lib.hid (HG9.out.trans hf)
          have HFE := Lib.hid hf
          clear hw hp hf  c0
          have HEB10 : Hid (x10.heap[y2.heap.size]? = some (.cells #[.int .u8 u2.kind, .string u2.p, .bool u2.any, .int .u64 u2.want, .int .u64 u2.n, .string u2.t] 59 (0, 0))) := Lib.hid (HFE.out.keep HEB9.out (by decide) (by decide))
          have c0 : x10.cell? ⟨y2.heap.size, 3, none⟩ = some (.int .u64 u2.want) := by rw [cell_of_row _ _ _ _ _ _ HEB10.out]; rfl
          go_wp2_with fail
          refine (pn wB.heap.size k (((((((((bs) ++ t1) ++ t5) ++ t6) ++ t7) ++ tt2) ++ t8) ++ t9) ++ t10) (((((((((bad) || !(Mg.num 4294967295).fit (x.ask.shard)) || !(Mg.list 512 (Mg.cRd)).fit (x.ask.reads)) || !(Mg.list 512 (Mg.int 512)).fit (x.ask.readAt)) || !(Mg.num 512).fit (x.ask.edits.length)) || !(x.ask.edits.take i2).all (Mg.cEd).fit) || !(Mg.num 255).fit (u2.kind)) || !(Mg.text 129).fit (u2.p)) || !(Mg.truth).fit (u2.any)) u2.want 18446744073709551615 x10 HP10.out HUG2.out.d (by decide) (by have := HLN2.out; have := HW1.out.1; have := HLL1.out; have := HW5.out.1; have := HW6.out.1; have := HLL2.out; have := HW7.out.1; have := HTT2.out.1; have := HEA2.out; have := HSP2.out; have := HW8.out.1; have := HW9.out.1; have := HW10.out.1; (try simp only [List.length_append] at *); omega)).mono ?_
          rintro e x11 ⟨rfl, ⟨t11, hw, hp⟩, hf⟩
          have HW11 := Lib.hid hw
          have HP11 := Lib.hid hp
          have HG11 := Lib.hid (HG10.out.trans hf)
          have HFE := Lib.hid hf
          clear hw hp hf  c0
          have HEB11 : Hid (x11.heap[y2.heap.size]? = some (.cells #[.int .u8 u2.kind, .string u2.p, .bool u2.any, .int .u64 u2.want, .int .u64 u2.n, .string u2.t] 59 (0, 0))) := Lib.hid (HFE.out.keep HEB10.out (by decide) (by decide))
          have c0 : x11.cell? ⟨y2.heap.size, 4, none⟩ = some (.int .u64 u2.n) := by rw [cell_of_row _ _ _ _ _ _ HEB11.out]; rfl
          go_wp2_with fail
          refine (pn wB.heap.size k ((((((((((bs) ++ t1) ++ t5) ++ t6) ++ t7) ++ tt2) ++ t8) ++ t9) ++ t10) ++ t11) ((((((((((bad) || !(Mg.num 4294967295).fit (x.ask.shard)) || !(Mg.list 512 (Mg.cRd)).fit (x.ask.reads)) || !(Mg.list 512 (Mg.int 512)).fit (x.ask.readAt)) || !(Mg.num 512).fit (x.ask.edits.length)) || !(x.ask.edits.take i2).all (Mg.cEd).fit) || !(Mg.num 255).fit (u2.kind)) || !(Mg.text 129).fit (u2.p)) || !(Mg.truth).fit (u2.any)) || !(Mg.num 18446744073709551615).fit (u2.want)) u2.n 18446744073709551615 x11 HP11.out HUG2.out.e (by decide) (by have := HLN2.out; have := HW1.out.1; have := HLL1.out; have := HW5.out.1; have := HW6.out.1; have := HLL2.out; have := HW7.out.1; have := HTT2.out.1; have := HEA2.out; have := HSP2.out; have := HW8.out.1; have := HW9.out.1; have := HW10.out.1; have := HW11.out.1; (try simp only [List.length_append] at *); omega)).mono ?_
          rintro e x12 ⟨rfl, ⟨t12, hw, hp⟩, hf⟩
          have HW12 := Lib.hid hw
          have HP12 := Lib.hid hp
          have HG12 := Lib.hid (HG11.out.trans hf)
          have HFE := Lib.hid hf
          clear hw hp hf  c0
          have HEB12 : Hid (x12.heap[y2.heap.size]? = some (.cells #[.int .u8 u2.kind, .string u2.p, .bool u2.any, .int .u64 u2.want, .int .u64 u2.n, .string u2.t] 59 (0, 0))) := Lib.hid (HFE.out.keep HEB11.out (by decide) (by decide))
          have c0 : x12.cell? ⟨y2.heap.size, 5, none⟩ = some (.string u2.t) := by rw [cell_of_row _ _ _ _ _ _ HEB12.out]; rfl
          go_wp2_with fail
          refine (pt wB.heap.size k (((((((((((bs) ++ t1) ++ t5) ++ t6) ++ t7) ++ tt2) ++ t8) ++ t9) ++ t10) ++ t11) ++ t12) (((((((((((bad) || !(Mg.num 4294967295).fit (x.ask.shard)) || !(Mg.list 512 (Mg.cRd)).fit (x.ask.reads)) || !(Mg.list 512 (Mg.int 512)).fit (x.ask.readAt)) || !(Mg.num 512).fit (x.ask.edits.length)) || !(x.ask.edits.take i2).all (Mg.cEd).fit) || !(Mg.num 255).fit (u2.kind)) || !(Mg.text 129).fit (u2.p)) || !(Mg.truth).fit (u2.any)) || !(Mg.num 18446744073709551615).fit (u2.want)) || !(Mg.num 18446744073709551615).fit (u2.n)) u2.t 4096 x12 HP12.out HUG2.out.f (by decide) (by have := HLN2.out; have := HW1.out.1; have := HLL1.out; have := HW5.out.1; have := HW6.out.1; have := HLL2.out; have := HW7.out.1; have := HTT2.out.1; have := HEA2.out; have := HSP2.out; have := HW8.out.1; have := HW9.out.1; have := HW10.out.1; have := HW11.out.1; have := HW12.out.1; (try simp only [List.length_append] at *); omega)).mono ?_
          rintro e x13 ⟨rfl, ⟨t13, hw, hp⟩, hf⟩
          have HW13 := Lib.hid hw
          have HP13 := Lib.hid hp
          have HG13 := Lib.hid (HG12.out.trans hf)
          have HFE := Lib.hid hf
          clear hw hp hf  c0
          go_wp2_with fail
          go_roundw
          case rel =>
            have hfin : ((((((((((((bad) || !(Mg.num 4294967295).fit (x.ask.shard)) || !(Mg.list 512 (Mg.cRd)).fit (x.ask.reads)) || !(Mg.list 512 (Mg.int 512)).fit (x.ask.readAt)) || !(Mg.num 512).fit (x.ask.edits.length)) || !(x.ask.edits.take i2).all (Mg.cEd).fit) || !(Mg.num 255).fit (u2.kind)) || !(Mg.text 129).fit (u2.p)) || !(Mg.truth).fit (u2.any)) || !(Mg.num 18446744073709551615).fit (u2.want)) || !(Mg.num 18446744073709551615).fit (u2.n)) || !(Mg.text 4096).fit (u2.t)) = ((((((bad) || !(Mg.num 4294967295).fit (x.ask.shard)) || !(Mg.list 512 (Mg.cRd)).fit (x.ask.reads)) || !(Mg.list 512 (Mg.int 512)).fit (x.ask.readAt)) || !(Mg.num 512).fit (x.ask.edits.length)) || !(x.ask.edits.take (i2 + 1)).all (Mg.cEd).fit) := by
              rw [Mg.all_nextF (Mg.cEd).fit HY2.out]
              show _ = ((((((bad) || !(Mg.num 4294967295).fit (x.ask.shard)) || !(Mg.list 512 (Mg.cRd)).fit (x.ask.reads)) || !(Mg.list 512 (Mg.int 512)).fit (x.ask.readAt)) || !(Mg.num 512).fit (x.ask.edits.length)) || !((x.ask.edits.take i2).all (Mg.cEd).fit && ((Mg.num 255).fit (u2.kind) && ((Mg.text 129).fit (u2.p) && ((Mg.truth).fit (u2.any) && ((Mg.num 18446744073709551615).fit (u2.want) && ((Mg.num 18446744073709551615).fit (u2.n) && ((Mg.text 4096).fit (u2.t)))))))))
              simp only [Bool.not_and, Bool.or_assoc]
            exact ⟨i2 + 1, tt2 ++ (t8 ++ (t9 ++ (t10 ++ (t11 ++ (t12 ++ (t13)))))), by omega, by go_num, HTT2.out.next HY2.out (Mg.Wrote.seq HW8.out (Mg.Wrote.seq HW9.out (Mg.Wrote.seq HW10.out (Mg.Wrote.seq HW11.out (Mg.Wrote.seq HW12.out (HW13.out)))))), HP13.out.cast (by simp only [List.append_assoc]) hfin, HG13.out⟩
          case measure => simp [intOf]; omega
        · obtain rfl : i2 = x.ask.edits.length := by omega
          have htk := HTT2.out
          have hp := HPL2.out
          rw [List.take_length] at htk hp
          obtain ⟨t14, ht14⟩ : ∃ t, t = t7 ++ tt2 := ⟨_, rfl⟩
          have HW14 : Hid (Mg.Wrote (Mg.list 512 (Mg.cEd)) x.ask.edits t14) := Lib.hid (by rw [ht14]; exact Mg.Wrote.list HW7.out htk)
          have HP14 : Hid (PtAt wB.heap.size k (((((bs) ++ t1) ++ t5) ++ t6) ++ t14) (((((bad) || !(Mg.num 4294967295).fit (x.ask.shard)) || !(Mg.list 512 (Mg.cRd)).fit (x.ask.reads)) || !(Mg.list 512 (Mg.int 512)).fit (x.ask.readAt)) || !(Mg.list 512 (Mg.cEd)).fit x.ask.edits) y2) := Lib.hid (hp.cast (by rw [ht14, List.append_assoc]) (by
            show _ = (((((bad) || !(Mg.num 4294967295).fit (x.ask.shard)) || !(Mg.list 512 (Mg.cRd)).fit (x.ask.reads)) || !(Mg.list 512 (Mg.int 512)).fit (x.ask.readAt)) || !((Mg.num 512).fit x.ask.edits.length && x.ask.edits.all (Mg.cEd).fit))
            simp only [Bool.not_and, Bool.or_assoc]))
          have HG14 := Lib.hid HFL2.out
          clear htk hp ht14 hlt
          have c0 : y2.cell? ⟨w.heap.size, 4, none⟩ = some (.slice s.editAt.1 x.ask.editAt.length s.editAt.2) := by rw [cell_of_row _ _ _ _ _ _ (HG14.out.keep HBX.out (by decide) (by decide))]; rfl
          go_wp2_with fail
          refine (p_places wB k (((((bs) ++ t1) ++ t5) ++ t6) ++ t14) (((((bad) || !(Mg.num 4294967295).fit (x.ask.shard)) || !(Mg.list 512 (Mg.cRd)).fit (x.ask.reads)) || !(Mg.list 512 (Mg.int 512)).fit (x.ask.readAt)) || !(Mg.list 512 (Mg.cEd)).fit (x.ask.edits)) s.editAt.1 s.editAt.2 x.ask.editAt y2 HP14.out (HB.out.trans (HG14.out.below HB.out.size)) HA.out.editAt.row HOK.out.editAt.1 (by have := HOK.out.editAt.2; omega) (by have := HLN2.out; have := HW1.out.1; have := HLL1.out; have := HW5.out.1; have := HW6.out.1; have := HLL2.out; have := HW14.out.1; (try simp only [List.length_append] at *); omega)).mono ?_
          rintro e x15 ⟨rfl, ⟨t15, hw, hp⟩, hf⟩
          have HW15 := Lib.hid hw
          have HP15 := Lib.hid hp
          have HG15 := Lib.hid (HG14.out.trans hf)
          have HFE := Lib.hid hf
          clear hw hp hf cs c0
          have c0 : x15.cell? ⟨w.heap.size, 5, none⟩ = some (.bool x.ask.list) := by rw [cell_of_row _ _ _ _ _ _ (HG15.out.keep HBX.out (by decide) (by decide))]; rfl
          go_wp2_with fail
          refine (p_truth wB.heap.size k ((((((bs) ++ t1) ++ t5) ++ t6) ++ t14) ++ t15) ((((((bad) || !(Mg.num 4294967295).fit (x.ask.shard)) || !(Mg.list 512 (Mg.cRd)).fit (x.ask.reads)) || !(Mg.list 512 (Mg.int 512)).fit (x.ask.readAt)) || !(Mg.list 512 (Mg.cEd)).fit (x.ask.edits)) || !(Mg.list 512 (Mg.int 512)).fit (x.ask.editAt)) x.ask.list x15 HP15.out  (by have := HLN2.out; have := HW1.out.1; have := HLL1.out; have := HW5.out.1; have := HW6.out.1; have := HLL2.out; have := HW14.out.1; have := HW15.out.1; (try simp only [List.length_append] at *); omega)).mono ?_
          rintro e x16 ⟨rfl, ⟨t16, hw, hp⟩, hf⟩
          have HW16 := Lib.hid hw
          have HP16 := Lib.hid hp
          have HG16 := Lib.hid (HG15.out.trans hf)
          have HFE := Lib.hid hf
          clear hw hp hf  c0
          have c0 : x16.cell? ⟨w.heap.size, 6, none⟩ = some (.string x.ask.pre) := by rw [cell_of_row _ _ _ _ _ _ (HG16.out.keep HBX.out (by decide) (by decide))]; rfl
          go_wp2_with fail
          refine (pt wB.heap.size k (((((((bs) ++ t1) ++ t5) ++ t6) ++ t14) ++ t15) ++ t16) (((((((bad) || !(Mg.num 4294967295).fit (x.ask.shard)) || !(Mg.list 512 (Mg.cRd)).fit (x.ask.reads)) || !(Mg.list 512 (Mg.int 512)).fit (x.ask.readAt)) || !(Mg.list 512 (Mg.cEd)).fit (x.ask.edits)) || !(Mg.list 512 (Mg.int 512)).fit (x.ask.editAt)) || !(Mg.truth).fit (x.ask.list)) x.ask.pre 129 x16 HP16.out HOK.out.pre (by decide) (by have := HLN2.out; have := HW1.out.1; have := HLL1.out; have := HW5.out.1; have := HW6.out.1; have := HLL2.out; have := HW14.out.1; have := HW15.out.1; have := HW16.out.1; (try simp only [List.length_append] at *); omega)).mono ?_
          rintro e x17 ⟨rfl, ⟨t17, hw, hp⟩, hf⟩
          have HW17 := Lib.hid hw
          have HP17 := Lib.hid hp
          have HG17 := Lib.hid (HG16.out.trans hf)
          have HFE := Lib.hid hf
          clear hw hp hf  c0
          have c0 : x17.cell? ⟨w.heap.size, 7, none⟩ = some (.bool x.ask.give) := by rw [cell_of_row _ _ _ _ _ _ (HG17.out.keep HBX.out (by decide) (by decide))]; rfl
          go_wp2_with fail
          refine (p_truth wB.heap.size k ((((((((bs) ++ t1) ++ t5) ++ t6) ++ t14) ++ t15) ++ t16) ++ t17) ((((((((bad) || !(Mg.num 4294967295).fit (x.ask.shard)) || !(Mg.list 512 (Mg.cRd)).fit (x.ask.reads)) || !(Mg.list 512 (Mg.int 512)).fit (x.ask.readAt)) || !(Mg.list 512 (Mg.cEd)).fit (x.ask.edits)) || !(Mg.list 512 (Mg.int 512)).fit (x.ask.editAt)) || !(Mg.truth).fit (x.ask.list)) || !(Mg.text 129).fit (x.ask.pre)) x.ask.give x17 HP17.out  (by have := HLN2.out; have := HW1.out.1; have := HLL1.out; have := HW5.out.1; have := HW6.out.1; have := HLL2.out; have := HW14.out.1; have := HW15.out.1; have := HW16.out.1; have := HW17.out.1; (try simp only [List.length_append] at *); omega)).mono ?_
          rintro e x18 ⟨rfl, ⟨t18, hw, hp⟩, hf⟩
          have HW18 := Lib.hid hw
          have HP18 := Lib.hid hp
          have HG18 := Lib.hid (HG17.out.trans hf)
          have HFE := Lib.hid hf
          clear hw hp hf  c0
          have c0 : x18.cell? ⟨w.heap.size, 8, none⟩ = some (.bool x.ask.take) := by rw [cell_of_row _ _ _ _ _ _ (HG18.out.keep HBX.out (by decide) (by decide))]; rfl
          go_wp2_with fail
          refine (p_truth wB.heap.size k (((((((((bs) ++ t1) ++ t5) ++ t6) ++ t14) ++ t15) ++ t16) ++ t17) ++ t18) (((((((((bad) || !(Mg.num 4294967295).fit (x.ask.shard)) || !(Mg.list 512 (Mg.cRd)).fit (x.ask.reads)) || !(Mg.list 512 (Mg.int 512)).fit (x.ask.readAt)) || !(Mg.list 512 (Mg.cEd)).fit (x.ask.edits)) || !(Mg.list 512 (Mg.int 512)).fit (x.ask.editAt)) || !(Mg.truth).fit (x.ask.list)) || !(Mg.text 129).fit (x.ask.pre)) || !(Mg.truth).fit (x.ask.give)) x.ask.take x18 HP18.out  (by have := HLN2.out; have := HW1.out.1; have := HLL1.out; have := HW5.out.1; have := HW6.out.1; have := HLL2.out; have := HW14.out.1; have := HW15.out.1; have := HW16.out.1; have := HW17.out.1; have := HW18.out.1; (try simp only [List.length_append] at *); omega)).mono ?_
          rintro e x19 ⟨rfl, ⟨t19, hw, hp⟩, hf⟩
          have HW19 := Lib.hid hw
          have HP19 := Lib.hid hp
          have HG19 := Lib.hid (HG18.out.trans hf)
          have HFE := Lib.hid hf
          clear hw hp hf  c0
          have c0 : x19.cell? ⟨w.heap.size, 9, none⟩ = some (.int .u64 x.ask.range.frm) := by rw [cell_of_row _ _ _ _ _ _ (HG19.out.keep HBX.out (by decide) (by decide))]; rfl
          go_wp2_with fail
          refine (pn wB.heap.size k ((((((((((bs) ++ t1) ++ t5) ++ t6) ++ t14) ++ t15) ++ t16) ++ t17) ++ t18) ++ t19) ((((((((((bad) || !(Mg.num 4294967295).fit (x.ask.shard)) || !(Mg.list 512 (Mg.cRd)).fit (x.ask.reads)) || !(Mg.list 512 (Mg.int 512)).fit (x.ask.readAt)) || !(Mg.list 512 (Mg.cEd)).fit (x.ask.edits)) || !(Mg.list 512 (Mg.int 512)).fit (x.ask.editAt)) || !(Mg.truth).fit (x.ask.list)) || !(Mg.text 129).fit (x.ask.pre)) || !(Mg.truth).fit (x.ask.give)) || !(Mg.truth).fit (x.ask.take)) x.ask.range.frm 18446744073709551615 x19 HP19.out HOK.out.range.a (by decide) (by have := HLN2.out; have := HW1.out.1; have := HLL1.out; have := HW5.out.1; have := HW6.out.1; have := HLL2.out; have := HW14.out.1; have := HW15.out.1; have := HW16.out.1; have := HW17.out.1; have := HW18.out.1; have := HW19.out.1; (try simp only [List.length_append] at *); omega)).mono ?_
          rintro e x20 ⟨rfl, ⟨t20, hw, hp⟩, hf⟩
          have HW20 := Lib.hid hw
          have HP20 := Lib.hid hp
          have HG20 := Lib.hid (HG19.out.trans hf)
          have HFE := Lib.hid hf
          clear hw hp hf  c0
          have c0 : x20.cell? ⟨w.heap.size, 10, none⟩ = some (.int .u64 x.ask.range.top) := by rw [cell_of_row _ _ _ _ _ _ (HG20.out.keep HBX.out (by decide) (by decide))]; rfl
          go_wp2_with fail
          refine (pn wB.heap.size k (((((((((((bs) ++ t1) ++ t5) ++ t6) ++ t14) ++ t15) ++ t16) ++ t17) ++ t18) ++ t19) ++ t20) (((((((((((bad) || !(Mg.num 4294967295).fit (x.ask.shard)) || !(Mg.list 512 (Mg.cRd)).fit (x.ask.reads)) || !(Mg.list 512 (Mg.int 512)).fit (x.ask.readAt)) || !(Mg.list 512 (Mg.cEd)).fit (x.ask.edits)) || !(Mg.list 512 (Mg.int 512)).fit (x.ask.editAt)) || !(Mg.truth).fit (x.ask.list)) || !(Mg.text 129).fit (x.ask.pre)) || !(Mg.truth).fit (x.ask.give)) || !(Mg.truth).fit (x.ask.take)) || !(Mg.num 18446744073709551615).fit (x.ask.range.frm)) x.ask.range.top 18446744073709551615 x20 HP20.out HOK.out.range.b (by decide) (by have := HLN2.out; have := HW1.out.1; have := HLL1.out; have := HW5.out.1; have := HW6.out.1; have := HLL2.out; have := HW14.out.1; have := HW15.out.1; have := HW16.out.1; have := HW17.out.1; have := HW18.out.1; have := HW19.out.1; have := HW20.out.1; (try simp only [List.length_append] at *); omega)).mono ?_
          rintro e x21 ⟨rfl, ⟨t21, hw, hp⟩, hf⟩
          have HW21 := Lib.hid hw
          have HP21 := Lib.hid hp
          have HG21 := Lib.hid (HG20.out.trans hf)
          have HFE := Lib.hid hf
          clear hw hp hf  c0
          go_wp2_with fail
          have hfin : ((((((((((((bad) || !(Mg.num 4294967295).fit (x.ask.shard)) || !(Mg.list 512 (Mg.cRd)).fit (x.ask.reads)) || !(Mg.list 512 (Mg.int 512)).fit (x.ask.readAt)) || !(Mg.list 512 (Mg.cEd)).fit (x.ask.edits)) || !(Mg.list 512 (Mg.int 512)).fit (x.ask.editAt)) || !(Mg.truth).fit (x.ask.list)) || !(Mg.text 129).fit (x.ask.pre)) || !(Mg.truth).fit (x.ask.give)) || !(Mg.truth).fit (x.ask.take)) || !(Mg.num 18446744073709551615).fit (x.ask.range.frm)) || !(Mg.num 18446744073709551615).fit (x.ask.range.top)) = (bad || !Mg.cAsk.fit x.ask) := by
            show _ = (bad || !((Mg.num 4294967295).fit (x.ask.shard) && ((Mg.list 512 (Mg.cRd)).fit (x.ask.reads) && ((Mg.list 512 (Mg.int 512)).fit (x.ask.readAt) && ((Mg.list 512 (Mg.cEd)).fit (x.ask.edits) && ((Mg.list 512 (Mg.int 512)).fit (x.ask.editAt) && ((Mg.truth).fit (x.ask.list) && ((Mg.text 129).fit (x.ask.pre) && ((Mg.truth).fit (x.ask.give) && ((Mg.truth).fit (x.ask.take) && ((Mg.num 18446744073709551615).fit (x.ask.range.frm) && ((Mg.num 18446744073709551615).fit (x.ask.range.top)))))))))))))
            simp only [Bool.not_and, Bool.or_assoc]
          exact bodyPost_end (v := .tuple #[]) (by simp [results, Tryz.results56, go_sem]) rfl ⟨rfl, ⟨t1 ++ (t5 ++ (t6 ++ (t14 ++ (t15 ++ (t16 ++ (t17 ++ (t18 ++ (t19 ++ (t20 ++ (t21)))))))))), Mg.Wrote.seq HW1.out (Mg.Wrote.seq HW5.out (Mg.Wrote.seq HW6.out (Mg.Wrote.seq HW14.out (Mg.Wrote.seq HW15.out (Mg.Wrote.seq HW16.out (Mg.Wrote.seq HW17.out (Mg.Wrote.seq HW18.out (Mg.Wrote.seq HW19.out (Mg.Wrote.seq HW20.out (HW21.out)))))))))), HP21.out.cast (by simp only [List.append_assoc]) hfin⟩, HF0.out.trans HG21.out⟩

set_option maxRecDepth 20000 in
set_option maxHeartbeats 8000000 in
theorem p_told (wB : World) (k : Nat) (bs : List UInt8) (bad : Bool) (s : MS) (x : Mg.Msg) (w : World) (h : PtAt wB.heap.size k bs bad w) (hb : Below wB.heap.size wB w) (ha : MsgA wB s x) (ok : x.Good) (hlen : bs.length + (Mg.cTold.enc x.told).length ≤ 2147483648) :
    Calls Tryz.prog 61 #[.pointer (some ⟨k, 0, none⟩), .agg (toldV s x)] w (PutOut wB.heap.size k bs bad Mg.cTold x.told w) := by
  obtain ⟨w0, hw0⟩ : ∃ y, y = w.alloc (.cells (toldV s x) 41 (0, 0)) := ⟨_, rfl⟩
  have hb0 : w0.heap[w.heap.size]? = some (.cells (toldV s x) 41 (0, 0)) := by rw [hw0]; exact heap_alloc_new w _
  have HBX := Lib.hid hb0
  have HP0 : Hid (PtAt wB.heap.size k bs bad w0) := Lib.hid (by rw [hw0]; exact h.keep ((Own.refl w).alloc _).below)
  have HF0 : Hid (FrP wB.heap.size w w0) := Lib.hid (by rw [hw0]; exact (FrP.refl wB.heap.size w).alloc _)
  have HB : Hid (Below wB.heap.size wB w0) := Lib.hid (hb.trans (HF0.out.below hb.size))
  have HG0 := Lib.hid (FrP.refl wB.heap.size w0)
  have HW0 := Lib.hid hw0
  have HA := Lib.hid ha
  have HOK := Lib.hid ok
  have HLN := Lib.hid hlen
  have hxI : (0 : Int) ≤ x.told.shard ∧ (x.told.shard : Int) < 4294967296 := by have := ok.tshard; omega
  have hreI : (0 : Int) ≤ x.told.got.length ∧ (x.told.got.length : Int) ≤ 100000 := by have := ok.got.2; omega
  have hedI : (0 : Int) ≤ x.told.numbers.length ∧ (x.told.numbers.length : Int) ≤ 100000 := by have := ok.numbers.2; omega
  have hnaI : (0 : Int) ≤ x.told.names.length ∧ (x.told.names.length : Int) ≤ 100000 := by have := ok.names.2; omega
  clear h hb ha ok hlen hb0 hw0
  go_enter Tryz.func61, Tryz.ntmps61
  go_upto_region 1 with (fail)
  rw [← HW0.out]
  clear HW0
  have HRR := Lib.hid HA.out.got.row
  have HRN := Lib.hid HA.out.numbers.row
  have HRM := Lib.hid HA.out.names.row
  have hln : bs.length + (((Mg.num 4294967295).enc (x.told.shard)).length + (((Mg.list 512 Mg.cGot).enc (x.told.got)).length + (((Mg.list 512 (Mg.num 18446744073709551615)).enc (x.told.numbers)).length + (((Mg.list 512 (Mg.text 129)).enc (x.told.names)).length)))) ≤ 2147483648 := by
    have h0 := HLN.out
    have h1 : Mg.cTold.enc x.told = (Mg.num 4294967295).enc (x.told.shard) ++ ((Mg.list 512 Mg.cGot).enc (x.told.got) ++ ((Mg.list 512 (Mg.num 18446744073709551615)).enc (x.told.numbers) ++ ((Mg.list 512 (Mg.text 129)).enc (x.told.names)))) := rfl
    rw [h1] at h0
    simp only [List.length_append] at h0 ⊢
    exact h0
  have HLN2 := Lib.hid hln
  clear hln
  have c0 : w0.cell? ⟨w.heap.size, 0, none⟩ = some (.int .u32 x.told.shard) := by rw [cell_of_row _ _ _ _ _ _ (HG0.out.keep HBX.out (by decide) (by decide))]; rfl
  go_wp2_with fail
  refine (pn wB.heap.size k (bs) (bad) x.told.shard 4294967295 w0 HP0.out (by have := HOK.out.tshard; omega) (by decide) (by have := HLN2.out; (try simp only [List.length_append] at *); omega)).mono ?_
  rintro e x1 ⟨rfl, ⟨t1, hw, hp⟩, hf⟩
  have HW1 := Lib.hid hw
  have HP1 := Lib.hid hp
  have HG1 := Lib.hid (HG0.out.trans hf)
  have HFE := Lib.hid hf
  clear hw hp hf  c0
  have hll : ((Mg.list 512 (Mg.cGot)).enc x.told.got).length = ((Mg.num 512).enc x.told.got.length).length + (Mg.encs (Mg.cGot) x.told.got).length := by
    have h1 : (Mg.list 512 (Mg.cGot)).enc x.told.got = (Mg.num 512).enc x.told.got.length ++ Mg.encs (Mg.cGot) x.told.got := rfl
    rw [h1, List.length_append]
  have HLL1 := Lib.hid hll
  clear hll
  have cs : x1.cell? ⟨w.heap.size, 1, none⟩ = some (.slice s.got.1 x.told.got.length s.got.2) := by rw [cell_of_row _ _ _ _ _ _ (HG1.out.keep HBX.out (by decide) (by decide))]; rfl
  go_wp2_with fail
  refine (p_count wB.heap.size k ((bs) ++ t1) ((bad) || !(Mg.num 4294967295).fit (x.told.shard)) x.told.got.length x1 HP1.out (by have := HOK.out.got.2; omega) (by have := HLN2.out; have := HW1.out.1; have := HLL1.out; (try simp only [List.length_append] at *); omega)).mono ?_
  rintro e x2 ⟨rfl, ⟨t2, hw, hp⟩, hf⟩
  have HW2 := Lib.hid hw
  have HP2 := Lib.hid hp
  have HG2 := Lib.hid (HG1.out.trans hf)
  have HFE := Lib.hid hf
  clear hw hp hf  cs
  go_wp2_with fail
  go_loopw [4] (fun vi wr => ∃ (i : Nat) (tt : List UInt8), i ≤ x.told.got.length ∧ vi = .int .i64 i ∧ Mg.WroteL (Mg.cGot) (x.told.got.take i) tt ∧ PtAt wB.heap.size k ((((bs) ++ t1) ++ t2) ++ tt) ((((bad) || !(Mg.num 4294967295).fit (x.told.shard)) || !(Mg.num 512).fit (x.told.got.length)) || !(x.told.got.take i).all (Mg.cGot).fit) wr ∧ FrP wB.heap.size w0 wr) (fun vi _ => x.told.got.length - (intOf vi).toNat)
  case atStart => exact ⟨0, [], Nat.zero_le _, rfl, Mg.WroteL.nil _, HP2.out.cast (by simp) (by simp), HG2.out⟩
  case round =>
    obtain ⟨i1, tt1, hi1, rfl, htt, hp, hf⟩ := hrel
    have HTT1 := Lib.hid htt
    have HPL1 := Lib.hid hp
    have HFL1 := Lib.hid hf
    obtain ⟨y1, hy1⟩ : ∃ y, y = wr := ⟨_, rfl⟩
    subst hy1
    clear htt hp hf
    have cs : y1.cell? ⟨w.heap.size, 1, none⟩ = some (.slice s.got.1 x.told.got.length s.got.2) := by rw [cell_of_row _ _ _ _ _ _ (HFL1.out.keep HBX.out (by decide) (by decide))]; rfl
    by_cases hlt : i1 < x.told.got.length
    · have hiI1 : (0 : Int) ≤ i1 ∧ (i1 : Int) < x.told.got.length := by omega
      have hbr : Below wB.heap.size wB y1 := HB.out.trans (HFL1.out.below HB.out.size)
      obtain ⟨g1, o1, hg1, hc⟩ := HRR.out i1 (by simpa using hlt)
      have HGA1 := Lib.hid hg1
      obtain ⟨u1, hu⟩ : ∃ u, u = x.told.got[i1]'hlt := ⟨_, rfl⟩
      have e1 : (x.told.got.map Mg.Got.cells)[i1]'(by simpa using hlt) = Mg.Got.cells u1 := by rw [List.getElem_map, hu]
      rw [e1] at hc
      have HCC1 := Lib.hid hc
      have HY1 : Hid (x.told.got[i1]? = some u1) := Lib.hid (by rw [List.getElem?_eq_getElem hlt, hu])
      have hug : u1.Good := by rw [hu]; exact HOK.out.got.1 _ (List.getElem_mem _)
      have HUG1 := Lib.hid hug
      have huI1 : -9223372036854775808 ≤ u1.err ∧ u1.err ≤ 9223372036854775807 := hug.b
      clear hc e1 hu
      have hce := HCC1.out.keep (hbr.block _ HCC1.out.lt)
      clear hce
      have hea := Mg.encs_at (Mg.cGot) HY1.out
      have HEA1 := Lib.hid hea
      have hsp : ((Mg.cGot).enc u1).length = ((Mg.cVer).enc (u1.v)).length + (((Mg.int 9999).enc (u1.err)).length) := by
        have h1 : (Mg.cGot).enc u1 = (Mg.cVer).enc (u1.v) ++ ((Mg.int 9999).enc (u1.err)) := rfl
        rw [h1]; try simp only [List.length_append]
      have HSP1 := Lib.hid hsp
      clear hea hsp hlt hbr hg1
      rw [HGA1.out] at cs
      have c0 : y1.cell? ⟨g1, o1 + i1 * 4, none⟩ = some (.int .u64 u1.v.n) := (HCC1.out.keep ((HB.out.trans (HFL1.out.below HB.out.size)).block _ HCC1.out.lt)).cell 0 (by simp)
      have c1 : y1.cell? ⟨g1, o1 + i1 * 4 + 1, none⟩ = some (.int .u8 u1.v.st) := (HCC1.out.keep ((HB.out.trans (HFL1.out.below HB.out.size)).block _ HCC1.out.lt)).cell 1 (by simp)
      have c2 : y1.cell? ⟨g1, o1 + i1 * 4 + 2, none⟩ = some (.string u1.v.t) := (HCC1.out.keep ((HB.out.trans (HFL1.out.below HB.out.size)).block _ HCC1.out.lt)).cell 2 (by simp)
      go_wp2_with fail
      refine (p_ver wB.heap.size k ((((bs) ++ t1) ++ t2) ++ tt1) ((((bad) || !(Mg.num 4294967295).fit (x.told.shard)) || !(Mg.num 512).fit (x.told.got.length)) || !(x.told.got.take i1).all (Mg.cGot).fit) u1.v y1 HPL1.out HUG1.out.a (by have := HLN2.out; have := HW1.out.1; have := HLL1.out; have := HW2.out.1; have := HTT1.out.1; have := HEA1.out; have := HSP1.out; (try simp only [List.length_append] at *); omega)).mono ?_
      rintro e x3 ⟨rfl, ⟨t3, hw, hp⟩, hf⟩
      have HW3 := Lib.hid hw
      have HP3 := Lib.hid hp
      have HG3 := Lib.hid (HFL1.out.trans hf)
      have HFE := Lib.hid hf
      clear hw hp hf  c0 c1 c2
      clear cs
      have cs : x3.cell? ⟨w.heap.size, 1, none⟩ = some (.slice s.got.1 x.told.got.length s.got.2) := by rw [cell_of_row _ _ _ _ _ _ (HG3.out.keep HBX.out (by decide) (by decide))]; rfl
      rw [HGA1.out] at cs
      have c0 : x3.cell? ⟨g1, o1 + i1 * 4 + 3, none⟩ = some (.int .i64 u1.err) := (HCC1.out.keep ((HB.out.trans (HG3.out.below HB.out.size)).block _ HCC1.out.lt)).cell 3 (by simp)
      go_wp2_with fail
      refine (p_int wB.heap.size k (((((bs) ++ t1) ++ t2) ++ tt1) ++ t3) (((((bad) || !(Mg.num 4294967295).fit (x.told.shard)) || !(Mg.num 512).fit (x.told.got.length)) || !(x.told.got.take i1).all (Mg.cGot).fit) || !(Mg.cVer).fit (u1.v)) u1.err 9999 x3 HP3.out HUG1.out.b (by decide) (by have := HLN2.out; have := HW1.out.1; have := HLL1.out; have := HW2.out.1; have := HTT1.out.1; have := HEA1.out; have := HSP1.out; have := HW3.out.1; (try simp only [List.length_append] at *); omega)).mono ?_
      rintro e x4 ⟨rfl, ⟨t4, hw, hp⟩, hf⟩
      have HW4 := Lib.hid hw
      have HP4 := Lib.hid hp
      have HG4 := Lib.hid (HG3.out.trans hf)
      have HFE := Lib.hid hf
      clear hw hp hf  cs c0
      go_wp2_with fail
      go_roundw
      case rel =>
        have hfin : ((((((bad) || !(Mg.num 4294967295).fit (x.told.shard)) || !(Mg.num 512).fit (x.told.got.length)) || !(x.told.got.take i1).all (Mg.cGot).fit) || !(Mg.cVer).fit (u1.v)) || !(Mg.int 9999).fit (u1.err)) = ((((bad) || !(Mg.num 4294967295).fit (x.told.shard)) || !(Mg.num 512).fit (x.told.got.length)) || !(x.told.got.take (i1 + 1)).all (Mg.cGot).fit) := by
          rw [Mg.all_nextF (Mg.cGot).fit HY1.out]
          show _ = ((((bad) || !(Mg.num 4294967295).fit (x.told.shard)) || !(Mg.num 512).fit (x.told.got.length)) || !((x.told.got.take i1).all (Mg.cGot).fit && ((Mg.cVer).fit (u1.v) && ((Mg.int 9999).fit (u1.err)))))
          simp only [Bool.not_and, Bool.or_assoc]
        exact ⟨i1 + 1, tt1 ++ (t3 ++ (t4)), by omega, by go_num, HTT1.out.next HY1.out (Mg.Wrote.seq HW3.out (HW4.out)), HP4.out.cast (by simp only [List.append_assoc]) hfin, HG4.out⟩
      case measure => simp [intOf]; omega
    · obtain rfl : i1 = x.told.got.length := by omega
      have htk := HTT1.out
      have hp := HPL1.out
      rw [List.take_length] at htk hp
      obtain ⟨t5, ht5⟩ : ∃ t, t = t2 ++ tt1 := ⟨_, rfl⟩
      have HW5 : Hid (Mg.Wrote (Mg.list 512 (Mg.cGot)) x.told.got t5) := Lib.hid (by rw [ht5]; exact Mg.Wrote.list HW2.out htk)
      have HP5 : Hid (PtAt wB.heap.size k (((bs) ++ t1) ++ t5) (((bad) || !(Mg.num 4294967295).fit (x.told.shard)) || !(Mg.list 512 (Mg.cGot)).fit x.told.got) y1) := Lib.hid (hp.cast (by rw [ht5, List.append_assoc]) (by
        show _ = (((bad) || !(Mg.num 4294967295).fit (x.told.shard)) || !((Mg.num 512).fit x.told.got.length && x.told.got.all (Mg.cGot).fit))
        simp only [Bool.not_and, Bool.or_assoc]))
      have HG5 := Lib.hid HFL1.out
      clear htk hp ht5 hlt
      have hll : ((Mg.list 512 (Mg.num 18446744073709551615)).enc x.told.numbers).length = ((Mg.num 512).enc x.told.numbers.length).length + (Mg.encs (Mg.num 18446744073709551615) x.told.numbers).length := by
        have h1 : (Mg.list 512 (Mg.num 18446744073709551615)).enc x.told.numbers = (Mg.num 512).enc x.told.numbers.length ++ Mg.encs (Mg.num 18446744073709551615) x.told.numbers := rfl
        rw [h1, List.length_append]
      have HLL2 := Lib.hid hll
      clear hll
      have cs : y1.cell? ⟨w.heap.size, 2, none⟩ = some (.slice s.numbers.1 x.told.numbers.length s.numbers.2) := by rw [cell_of_row _ _ _ _ _ _ (HG5.out.keep HBX.out (by decide) (by decide))]; rfl
      go_wp2_with fail
      refine (p_count wB.heap.size k (((bs) ++ t1) ++ t5) (((bad) || !(Mg.num 4294967295).fit (x.told.shard)) || !(Mg.list 512 (Mg.cGot)).fit (x.told.got)) x.told.numbers.length y1 HP5.out (by have := HOK.out.numbers.2; omega) (by have := HLN2.out; have := HW1.out.1; have := HLL1.out; have := HW5.out.1; have := HLL2.out; (try simp only [List.length_append] at *); omega)).mono ?_
      rintro e x6 ⟨rfl, ⟨t6, hw, hp⟩, hf⟩
      have HW6 := Lib.hid hw
      have HP6 := Lib.hid hp
      have HG6 := Lib.hid (HG5.out.trans hf)
      have HFE := Lib.hid hf
      clear hw hp hf cs
      go_wp2_with fail
      go_loopw [5] (fun vi wr => ∃ (i : Nat) (tt : List UInt8), i ≤ x.told.numbers.length ∧ vi = .int .i64 i ∧ Mg.WroteL (Mg.num 18446744073709551615) (x.told.numbers.take i) tt ∧ PtAt wB.heap.size k (((((bs) ++ t1) ++ t5) ++ t6) ++ tt) (((((bad) || !(Mg.num 4294967295).fit (x.told.shard)) || !(Mg.list 512 (Mg.cGot)).fit (x.told.got)) || !(Mg.num 512).fit (x.told.numbers.length)) || !(x.told.numbers.take i).all (Mg.num 18446744073709551615).fit) wr ∧ FrP wB.heap.size w0 wr) (fun vi _ => x.told.numbers.length - (intOf vi).toNat)
      case atStart => exact ⟨0, [], Nat.zero_le _, rfl, Mg.WroteL.nil _, HP6.out.cast (by simp) (by simp), HG6.out⟩
      case round =>
        obtain ⟨i2, tt2, hi2, rfl, htt, hp, hf⟩ := hrel
        have HTT2 := Lib.hid htt
        have HPL2 := Lib.hid hp
        have HFL2 := Lib.hid hf
        obtain ⟨y2, hy2⟩ : ∃ y, y = wr := ⟨_, rfl⟩
        subst hy2
        clear htt hp hf
        have cs : y2.cell? ⟨w.heap.size, 2, none⟩ = some (.slice s.numbers.1 x.told.numbers.length s.numbers.2) := by rw [cell_of_row _ _ _ _ _ _ (HFL2.out.keep HBX.out (by decide) (by decide))]; rfl
        by_cases hlt : i2 < x.told.numbers.length
        · have hiI2 : (0 : Int) ≤ i2 ∧ (i2 : Int) < x.told.numbers.length := by omega
          have hbr : Below wB.heap.size wB y2 := HB.out.trans (HFL2.out.below HB.out.size)
          obtain ⟨g2, o2, hg2, hc⟩ := HRN.out i2 (by simpa using hlt)
          have HGA2 := Lib.hid hg2
          obtain ⟨u2, hu⟩ : ∃ u, u = x.told.numbers[i2]'hlt := ⟨_, rfl⟩
          have e1 : (x.told.numbers.map (fun a : Nat => [Value.int .u64 a]))[i2]'(by simpa using hlt) = [.int .u64 u2] := by rw [List.getElem_map, hu]
          rw [e1] at hc
          have HCC2 := Lib.hid hc
          have HY2 : Hid (x.told.numbers[i2]? = some u2) := Lib.hid (by rw [List.getElem?_eq_getElem hlt, hu])
          have hug : ok64 u2 := by rw [hu]; exact HOK.out.numbers.1 _ (List.getElem_mem _)
          have HUG2 := Lib.hid hug
          have huI2 : (0 : Int) ≤ u2 ∧ (u2 : Int) < 18446744073709551616 := by unfold ok64 at hug; omega
          clear hc e1 hu
          have hce := HCC2.out.keep (hbr.block _ HCC2.out.lt)
          clear hce
          have hea := Mg.encs_at (Mg.num 18446744073709551615) HY2.out
          have HEA2 := Lib.hid hea
          have hsp : ((Mg.num 18446744073709551615).enc u2).length = ((Mg.num 18446744073709551615).enc (u2)).length := by
            have h1 : (Mg.num 18446744073709551615).enc u2 = (Mg.num 18446744073709551615).enc (u2) := rfl
            rw [h1]; try simp only [List.length_append, Nat.add_assoc]
          have HSP2 := Lib.hid hsp
          clear hea hsp hlt hbr hg2
          rw [HGA2.out] at cs
          have c0 : y2.cell? ⟨g2, o2 + i2, none⟩ = some (.int .u64 u2) := by have := (HCC2.out.keep ((HB.out.trans (HFL2.out.below HB.out.size)).block _ HCC2.out.lt)).cell 0 (by simp); simpa using this
          go_wp2_with fail
          refine (pn wB.heap.size k (((((bs) ++ t1) ++ t5) ++ t6) ++ tt2) (((((bad) || !(Mg.num 4294967295).fit (x.told.shard)) || !(Mg.list 512 (Mg.cGot)).fit (x.told.got)) || !(Mg.num 512).fit (x.told.numbers.length)) || !(x.told.numbers.take i2).all (Mg.num 18446744073709551615).fit) u2 18446744073709551615 y2 HPL2.out HUG2.out (by decide) (by have := HLN2.out; have := HW1.out.1; have := HLL1.out; have := HW5.out.1; have := HLL2.out; have := HW6.out.1; have := HTT2.out.1; have := HEA2.out; have := HSP2.out; (try simp only [List.length_append] at *); omega)).mono ?_
          rintro e x7 ⟨rfl, ⟨t7, hw, hp⟩, hf⟩
          have HW7 := Lib.hid hw
          have HP7 := Lib.hid hp
          have HG7 := Lib.hid (HFL2.out.trans hf)
          have HFE := Lib.hid hf
          clear hw hp hf  c0
          clear cs
          go_wp2_with fail
          go_roundw
          case rel =>
            have hfin : ((((((bad) || !(Mg.num 4294967295).fit (x.told.shard)) || !(Mg.list 512 (Mg.cGot)).fit (x.told.got)) || !(Mg.num 512).fit (x.told.numbers.length)) || !(x.told.numbers.take i2).all (Mg.num 18446744073709551615).fit) || !(Mg.num 18446744073709551615).fit (u2)) = (((((bad) || !(Mg.num 4294967295).fit (x.told.shard)) || !(Mg.list 512 (Mg.cGot)).fit (x.told.got)) || !(Mg.num 512).fit (x.told.numbers.length)) || !(x.told.numbers.take (i2 + 1)).all (Mg.num 18446744073709551615).fit) := by
              rw [Mg.all_nextF (Mg.num 18446744073709551615).fit HY2.out]
              show _ = (((((bad) || !(Mg.num 4294967295).fit (x.told.shard)) || !(Mg.list 512 (Mg.cGot)).fit (x.told.got)) || !(Mg.num 512).fit (x.told.numbers.length)) || !((x.told.numbers.take i2).all (Mg.num 18446744073709551615).fit && ((Mg.num 18446744073709551615).fit (u2))))
              simp only [Bool.not_and, Bool.or_assoc]
            exact ⟨i2 + 1, tt2 ++ (t7), by omega, by go_num, HTT2.out.next HY2.out (HW7.out), HP7.out.cast (by simp only [List.append_assoc]) hfin, HG7.out⟩
          case measure => simp [intOf]; omega
        · obtain rfl : i2 = x.told.numbers.length := by omega
          have htk := HTT2.out
          have hp := HPL2.out
          rw [List.take_length] at htk hp
          obtain ⟨t8, ht8⟩ : ∃ t, t = t6 ++ tt2 := ⟨_, rfl⟩
          have HW8 : Hid (Mg.Wrote (Mg.list 512 (Mg.num 18446744073709551615)) x.told.numbers t8) := Lib.hid (by rw [ht8]; exact Mg.Wrote.list HW6.out htk)
          have HP8 : Hid (PtAt wB.heap.size k ((((bs) ++ t1) ++ t5) ++ t8) ((((bad) || !(Mg.num 4294967295).fit (x.told.shard)) || !(Mg.list 512 (Mg.cGot)).fit (x.told.got)) || !(Mg.list 512 (Mg.num 18446744073709551615)).fit x.told.numbers) y2) := Lib.hid (hp.cast (by rw [ht8, List.append_assoc]) (by
            show _ = ((((bad) || !(Mg.num 4294967295).fit (x.told.shard)) || !(Mg.list 512 (Mg.cGot)).fit (x.told.got)) || !((Mg.num 512).fit x.told.numbers.length && x.told.numbers.all (Mg.num 18446744073709551615).fit))
            simp only [Bool.not_and, Bool.or_assoc]))
          have HG8 := Lib.hid HFL2.out
          clear htk hp ht8 hlt
          have hll : ((Mg.list 512 (Mg.text 129)).enc x.told.names).length = ((Mg.num 512).enc x.told.names.length).length + (Mg.encs (Mg.text 129) x.told.names).length := by
            have h1 : (Mg.list 512 (Mg.text 129)).enc x.told.names = (Mg.num 512).enc x.told.names.length ++ Mg.encs (Mg.text 129) x.told.names := rfl
            rw [h1, List.length_append]
          have HLL3 := Lib.hid hll
          clear hll
          have cs : y2.cell? ⟨w.heap.size, 3, none⟩ = some (.slice s.names.1 x.told.names.length s.names.2) := by rw [cell_of_row _ _ _ _ _ _ (HG8.out.keep HBX.out (by decide) (by decide))]; rfl
          go_wp2_with fail
          refine (p_count wB.heap.size k ((((bs) ++ t1) ++ t5) ++ t8) ((((bad) || !(Mg.num 4294967295).fit (x.told.shard)) || !(Mg.list 512 (Mg.cGot)).fit (x.told.got)) || !(Mg.list 512 (Mg.num 18446744073709551615)).fit (x.told.numbers)) x.told.names.length y2 HP8.out (by have := HOK.out.names.2; omega) (by have := HLN2.out; have := HW1.out.1; have := HLL1.out; have := HW5.out.1; have := HLL2.out; have := HW8.out.1; have := HLL3.out; (try simp only [List.length_append] at *); omega)).mono ?_
          rintro e x9 ⟨rfl, ⟨t9, hw, hp⟩, hf⟩
          have HW9 := Lib.hid hw
          have HP9 := Lib.hid hp
          have HG9 := Lib.hid (HG8.out.trans hf)
          have HFE := Lib.hid hf
          clear hw hp hf cs
          go_wp2_with fail
          go_loopw [6] (fun vi wr => ∃ (i : Nat) (tt : List UInt8), i ≤ x.told.names.length ∧ vi = .int .i64 i ∧ Mg.WroteL (Mg.text 129) (x.told.names.take i) tt ∧ PtAt wB.heap.size k ((((((bs) ++ t1) ++ t5) ++ t8) ++ t9) ++ tt) ((((((bad) || !(Mg.num 4294967295).fit (x.told.shard)) || !(Mg.list 512 (Mg.cGot)).fit (x.told.got)) || !(Mg.list 512 (Mg.num 18446744073709551615)).fit (x.told.numbers)) || !(Mg.num 512).fit (x.told.names.length)) || !(x.told.names.take i).all (Mg.text 129).fit) wr ∧ FrP wB.heap.size w0 wr) (fun vi _ => x.told.names.length - (intOf vi).toNat)
          case atStart => exact ⟨0, [], Nat.zero_le _, rfl, Mg.WroteL.nil _, HP9.out.cast (by simp) (by simp), HG9.out⟩
          case round =>
            obtain ⟨i3, tt3, hi3, rfl, htt, hp, hf⟩ := hrel
            have HTT3 := Lib.hid htt
            have HPL3 := Lib.hid hp
            have HFL3 := Lib.hid hf
            obtain ⟨y3, hy3⟩ : ∃ y, y = wr := ⟨_, rfl⟩
            subst hy3
            clear htt hp hf
            have cs : y3.cell? ⟨w.heap.size, 3, none⟩ = some (.slice s.names.1 x.told.names.length s.names.2) := by rw [cell_of_row _ _ _ _ _ _ (HFL3.out.keep HBX.out (by decide) (by decide))]; rfl
            by_cases hlt : i3 < x.told.names.length
            · have hiI3 : (0 : Int) ≤ i3 ∧ (i3 : Int) < x.told.names.length := by omega
              have hbr : Below wB.heap.size wB y3 := HB.out.trans (HFL3.out.below HB.out.size)
              obtain ⟨g3, o3, hg3, hc⟩ := HRM.out i3 (by simpa using hlt)
              have HGA3 := Lib.hid hg3
              obtain ⟨u3, hu⟩ : ∃ u, u = x.told.names[i3]'hlt := ⟨_, rfl⟩
              have e1 : (x.told.names.map (fun a : ByteArray => [Value.string a]))[i3]'(by simpa using hlt) = [.string u3] := by rw [List.getElem_map, hu]
              rw [e1] at hc
              have HCC3 := Lib.hid hc
              have HY3 : Hid (x.told.names[i3]? = some u3) := Lib.hid (by rw [List.getElem?_eq_getElem hlt, hu])
              have hug : okT u3 := by rw [hu]; exact HOK.out.names.1 _ (List.getElem_mem _)
              have HUG3 := Lib.hid hug
              have huI3 := hug
              clear hc e1 hu
              have hce := HCC3.out.keep (hbr.block _ HCC3.out.lt)
              clear hce
              have hea := Mg.encs_at (Mg.text 129) HY3.out
              have HEA3 := Lib.hid hea
              have hsp : ((Mg.text 129).enc u3).length = ((Mg.text 129).enc (u3)).length := by
                have h1 : (Mg.text 129).enc u3 = (Mg.text 129).enc (u3) := rfl
                rw [h1]; try simp only [List.length_append, Nat.add_assoc]
              have HSP3 := Lib.hid hsp
              clear hea hsp hlt hbr hg3
              rw [HGA3.out] at cs
              have c0 : y3.cell? ⟨g3, o3 + i3, none⟩ = some (.string u3) := by have := (HCC3.out.keep ((HB.out.trans (HFL3.out.below HB.out.size)).block _ HCC3.out.lt)).cell 0 (by simp); simpa using this
              go_wp2_with fail
              refine (pt wB.heap.size k ((((((bs) ++ t1) ++ t5) ++ t8) ++ t9) ++ tt3) ((((((bad) || !(Mg.num 4294967295).fit (x.told.shard)) || !(Mg.list 512 (Mg.cGot)).fit (x.told.got)) || !(Mg.list 512 (Mg.num 18446744073709551615)).fit (x.told.numbers)) || !(Mg.num 512).fit (x.told.names.length)) || !(x.told.names.take i3).all (Mg.text 129).fit) u3 129 y3 HPL3.out HUG3.out (by decide) (by have := HLN2.out; have := HW1.out.1; have := HLL1.out; have := HW5.out.1; have := HLL2.out; have := HW8.out.1; have := HLL3.out; have := HW9.out.1; have := HTT3.out.1; have := HEA3.out; have := HSP3.out; (try simp only [List.length_append] at *); omega)).mono ?_
              rintro e x10 ⟨rfl, ⟨t10, hw, hp⟩, hf⟩
              have HW10 := Lib.hid hw
              have HP10 := Lib.hid hp
              have HG10 := Lib.hid (HFL3.out.trans hf)
              have HFE := Lib.hid hf
              clear hw hp hf  c0
              clear cs
              go_wp2_with fail
              go_roundw
              case rel =>
                have hfin : (((((((bad) || !(Mg.num 4294967295).fit (x.told.shard)) || !(Mg.list 512 (Mg.cGot)).fit (x.told.got)) || !(Mg.list 512 (Mg.num 18446744073709551615)).fit (x.told.numbers)) || !(Mg.num 512).fit (x.told.names.length)) || !(x.told.names.take i3).all (Mg.text 129).fit) || !(Mg.text 129).fit (u3)) = ((((((bad) || !(Mg.num 4294967295).fit (x.told.shard)) || !(Mg.list 512 (Mg.cGot)).fit (x.told.got)) || !(Mg.list 512 (Mg.num 18446744073709551615)).fit (x.told.numbers)) || !(Mg.num 512).fit (x.told.names.length)) || !(x.told.names.take (i3 + 1)).all (Mg.text 129).fit) := by
                  rw [Mg.all_nextF (Mg.text 129).fit HY3.out]
                  show _ = ((((((bad) || !(Mg.num 4294967295).fit (x.told.shard)) || !(Mg.list 512 (Mg.cGot)).fit (x.told.got)) || !(Mg.list 512 (Mg.num 18446744073709551615)).fit (x.told.numbers)) || !(Mg.num 512).fit (x.told.names.length)) || !((x.told.names.take i3).all (Mg.text 129).fit && ((Mg.text 129).fit (u3))))
                  simp only [Bool.not_and, Bool.or_assoc]
                exact ⟨i3 + 1, tt3 ++ (t10), by omega, by go_num, HTT3.out.next HY3.out (HW10.out), HP10.out.cast (by simp only [List.append_assoc]) hfin, HG10.out⟩
              case measure => simp [intOf]; omega
            · obtain rfl : i3 = x.told.names.length := by omega
              have htk := HTT3.out
              have hp := HPL3.out
              rw [List.take_length] at htk hp
              obtain ⟨t11, ht11⟩ : ∃ t, t = t9 ++ tt3 := ⟨_, rfl⟩
              have HW11 : Hid (Mg.Wrote (Mg.list 512 (Mg.text 129)) x.told.names t11) := Lib.hid (by rw [ht11]; exact Mg.Wrote.list HW9.out htk)
              have HP11 : Hid (PtAt wB.heap.size k (((((bs) ++ t1) ++ t5) ++ t8) ++ t11) (((((bad) || !(Mg.num 4294967295).fit (x.told.shard)) || !(Mg.list 512 (Mg.cGot)).fit (x.told.got)) || !(Mg.list 512 (Mg.num 18446744073709551615)).fit (x.told.numbers)) || !(Mg.list 512 (Mg.text 129)).fit x.told.names) y3) := Lib.hid (hp.cast (by rw [ht11, List.append_assoc]) (by
                show _ = (((((bad) || !(Mg.num 4294967295).fit (x.told.shard)) || !(Mg.list 512 (Mg.cGot)).fit (x.told.got)) || !(Mg.list 512 (Mg.num 18446744073709551615)).fit (x.told.numbers)) || !((Mg.num 512).fit x.told.names.length && x.told.names.all (Mg.text 129).fit))
                simp only [Bool.not_and, Bool.or_assoc]))
              have HG11 := Lib.hid HFL3.out
              clear htk hp ht11 hlt
              go_wp2_with fail
              have hfin : (((((bad) || !(Mg.num 4294967295).fit (x.told.shard)) || !(Mg.list 512 (Mg.cGot)).fit (x.told.got)) || !(Mg.list 512 (Mg.num 18446744073709551615)).fit (x.told.numbers)) || !(Mg.list 512 (Mg.text 129)).fit (x.told.names)) = (bad || !Mg.cTold.fit x.told) := by
                show _ = (bad || !((Mg.num 4294967295).fit (x.told.shard) && ((Mg.list 512 (Mg.cGot)).fit (x.told.got) && ((Mg.list 512 (Mg.num 18446744073709551615)).fit (x.told.numbers) && ((Mg.list 512 (Mg.text 129)).fit (x.told.names))))))
                simp only [Bool.not_and, Bool.or_assoc]
              exact bodyPost_end (v := .tuple #[]) (by simp [results, Tryz.results61, go_sem]) rfl ⟨rfl, ⟨t1 ++ (t5 ++ (t8 ++ (t11))), Mg.Wrote.seq HW1.out (Mg.Wrote.seq HW5.out (Mg.Wrote.seq HW8.out (HW11.out))), HP11.out.cast (by simp only [List.append_assoc]) hfin⟩, HF0.out.trans HG11.out⟩

end Go.Proofs.YtjgnomjjphkfbaaGreat

namespace Go.Proofs.YtjgnomjjphkfbaaGreat
open Go.RowKit

attribute [local go_sem ↓ high] ldAsk_eq
attribute [local go_sem ↓ high] ldTold_eq

set_option maxRecDepth 20000 in
set_option maxHeartbeats 8000000 in
theorem p_kind (wB : World) (k : Nat) (bs : List UInt8) (bad : Bool) (s : MS) (x : Mg.Msg) (w : World) (h : PtAt wB.heap.size k bs bad w) (hb : Below wB.heap.size wB w) (ha : MsgA wB s x) (ok : x.Good) (hlen : bs.length + (Mg.body x).length ≤ 2147483648) :
    Calls Tryz.prog 24 #[.pointer (some ⟨k, 0, none⟩), .agg (MV s x)] w fun e w' => e = .returned (.tuple #[]) ∧ (∃ t, (t.length ≤ (Mg.body x).length ∧ (Mg.bodyFit x = true → t = Mg.body x)) ∧ PtAt wB.heap.size k (bs ++ t) (bad || !Mg.bodyFit x) w') ∧ FrP wB.heap.size w w' := by
  obtain ⟨w0, hw0⟩ : ∃ y, y = w.alloc (.cells (MV s x) 43 (0, 0)) := ⟨_, rfl⟩
  have hb0 : w0.heap[w.heap.size]? = some (.cells (MV s x) 43 (0, 0)) := by rw [hw0]; exact heap_alloc_new w _
  have HBX := Lib.hid hb0
  have HP0 : Hid (PtAt wB.heap.size k bs bad w0) := Lib.hid (by rw [hw0]; exact h.keep ((Own.refl w).alloc _).below)
  have HF0 : Hid (FrP wB.heap.size w w0) := Lib.hid (by rw [hw0]; exact (FrP.refl wB.heap.size w).alloc _)
  have HB : Hid (Below wB.heap.size wB w0) := Lib.hid (hb.trans (HF0.out.below hb.size))
  have HG0 := Lib.hid (FrP.refl wB.heap.size w0)
  have HW0 := Lib.hid hw0
  have HA := Lib.hid ha
  have HOK := Lib.hid ok
  have HROWS : Hid (∃ xs, RowIs wB 3 s.rows.1 xs ∧ RowsA wB x.rows xs) := Lib.hid (by obtain ⟨xs, h1, h2⟩ := ha.rows; exact ⟨xs, h1.row, h2⟩)
  have HPR := Lib.hid ha.parts.row
  have c0 : w0.cell? ⟨w.heap.size, 0, none⟩ = some (.int .u8 x.kind) := by rw [cell_of_row _ _ _ _ _ _ hb0]; rfl
  have hkI : (0 : Int) ≤ x.kind ∧ (x.kind : Int) < 256 := by have := ok.kind; omega
  have hmI : (0 : Int) ≤ x.map ∧ (x.map : Int) < 18446744073709551616 ∧ (0 : Int) ≤ x.next ∧ (x.next : Int) < 18446744073709551616 := by have := ok.map; have := ok.next; omega
  have hlI : (0 : Int) ≤ x.low.life ∧ (x.low.life : Int) < 18446744073709551616 ∧ (0 : Int) ≤ x.low.n ∧ (x.low.n : Int) < 18446744073709551616 := by have := ok.low.a; have := ok.low.b; omega
  have hpaI : (0 : Int) ≤ x.parts.length ∧ (x.parts.length : Int) ≤ 100000 := by have := ok.parts.2; omega
  have hroI : (0 : Int) ≤ x.rows.length ∧ (x.rows.length : Int) ≤ 100000 := by have := ok.rows.2; omega
  have howI : (0 : Int) ≤ x.own.length ∧ (x.own.length : Int) ≤ 100000 := by have := ok.own.2; omega
  have herI : -9223372036854775808 ≤ x.err ∧ x.err ≤ 9223372036854775807 := ok.err
  have hstI : (0 : Int) ≤ x.state ∧ (x.state : Int) < 256 := by have := ok.state; omega
  have HLN := Lib.hid hlen
  clear h hb ha ok hlen hb0 hw0
  by_cases hk1 : x.kind = 1
  · have HBD : Hid (Mg.body x = Mg.c1.enc (x.low, (x.map, x.parts), x.ask, x.rows, (x.next, x.own))) := Lib.hid (by unfold Mg.body; rw [if_pos hk1])
    have HBF : Hid (Mg.bodyFit x = Mg.c1.fit (x.low, (x.map, x.parts), x.ask, x.rows, (x.next, x.own))) := Lib.hid (by unfold Mg.bodyFit; rw [if_pos hk1])
    have kk1 : ((x.kind : Int) == 1) = true := beq_iff_eq.2 (by omega)
    clear hk1
    go_enter Tryz.func24, Tryz.ntmps24
    go_upto_region 1 with (fail)
    rw [← HW0.out]
    clear HW0
    have HLN2 : Hid (bs.length + (((Mg.cTx).enc (x.low)).length + (((Mg.num 18446744073709551615).enc (x.map)).length + (((Mg.list 512 (Mg.num 4294967295)).enc (x.parts)).length + (((Mg.cAsk).enc (x.ask)).length + (((Mg.list 512 Mg.cRow).enc (x.rows)).length + (((Mg.num 18446744073709551615).enc (x.next)).length + (((Mg.list 512 Mg.cRng).enc (x.own)).length))))))) ≤ 2147483648) := Lib.hid (by
      have h0 := HLN.out
      have h1 : Mg.body x = Mg.cTx.enc x.low ++ (((Mg.num 18446744073709551615).enc x.map ++ (Mg.list 512 (Mg.num 4294967295)).enc x.parts) ++ (Mg.cAsk.enc x.ask ++ ((Mg.list 512 Mg.cRow).enc x.rows ++ ((Mg.num 18446744073709551615).enc x.next ++ (Mg.list 512 Mg.cRng).enc x.own)))) := by rw [HBD.out]; rfl
      rw [h1] at h0
      simp only [List.length_append, Nat.add_assoc] at h0 ⊢
      exact h0)
    have c0 : w0.cell? ⟨w.heap.size, 3, none⟩ = some (.int .u64 x.low.life) := by rw [cell_of_row _ _ _ _ _ _ (HG0.out.keep HBX.out (by decide) (by decide))]; rfl
    have c1 : w0.cell? ⟨w.heap.size, 4, none⟩ = some (.int .u64 x.low.n) := by rw [cell_of_row _ _ _ _ _ _ (HG0.out.keep HBX.out (by decide) (by decide))]; rfl
    go_wp2_with fail
    refine (p_tx wB.heap.size k (bs) (bad) x.low w0 HP0.out HOK.out.low (by have := HLN2.out; (try simp only [List.length_append] at *); omega)).mono ?_
    rintro e x1 ⟨rfl, ⟨t1, hw, hp⟩, hf⟩
    have HW1 := Lib.hid hw
    have HP1 := Lib.hid hp
    have HG1 := Lib.hid (HG0.out.trans hf)
    have HFE := Lib.hid hf
    clear hw hp hf  c0 c1
    clear kk1
    have c0 : x1.cell? ⟨w.heap.size, 5, none⟩ = some (.int .u64 x.map) := by rw [cell_of_row _ _ _ _ _ _ (HG1.out.keep HBX.out (by decide) (by decide))]; rfl
    go_wp2_with fail
    refine (pn wB.heap.size k ((bs) ++ t1) ((bad) || !(Mg.cTx).fit (x.low)) x.map 18446744073709551615 x1 HP1.out HOK.out.map (by decide) (by have := HLN2.out; have := HW1.out.1; (try simp only [List.length_append] at *); omega)).mono ?_
    rintro e x2 ⟨rfl, ⟨t2, hw, hp⟩, hf⟩
    have HW2 := Lib.hid hw
    have HP2 := Lib.hid hp
    have HG2 := Lib.hid (HG1.out.trans hf)
    have HFE := Lib.hid hf
    clear hw hp hf  c0
    have hll : ((Mg.list 512 (Mg.num 4294967295)).enc x.parts).length = ((Mg.num 512).enc x.parts.length).length + (Mg.encs (Mg.num 4294967295) x.parts).length := by
      have h1 : (Mg.list 512 (Mg.num 4294967295)).enc x.parts = (Mg.num 512).enc x.parts.length ++ Mg.encs (Mg.num 4294967295) x.parts := rfl
      rw [h1, List.length_append]
    have HLL1 := Lib.hid hll
    clear hll
    have cs : x2.cell? ⟨w.heap.size, 6, none⟩ = some (.slice s.parts.1 x.parts.length s.parts.2) := by rw [cell_of_row _ _ _ _ _ _ (HG2.out.keep HBX.out (by decide) (by decide))]; rfl
    go_wp2_with fail
    refine (p_count wB.heap.size k (((bs) ++ t1) ++ t2) (((bad) || !(Mg.cTx).fit (x.low)) || !(Mg.num 18446744073709551615).fit (x.map)) x.parts.length x2 HP2.out (by have := HOK.out.parts.2; omega) (by have := HLN2.out; have := HW1.out.1; have := HW2.out.1; have := HLL1.out; (try simp only [List.length_append] at *); omega)).mono ?_
    rintro e x3 ⟨rfl, ⟨t3, hw, hp⟩, hf⟩
    have HW3 := Lib.hid hw
    have HP3 := Lib.hid hp
    have HG3 := Lib.hid (HG2.out.trans hf)
    have HFE := Lib.hid hf
    clear hw hp hf  cs
    go_wp2_with fail
    go_loopw [4] (fun vi wr => ∃ (i : Nat) (tt : List UInt8), i ≤ x.parts.length ∧ vi = .int .i64 i ∧ Mg.WroteL (Mg.num 4294967295) (x.parts.take i) tt ∧ PtAt wB.heap.size k (((((bs) ++ t1) ++ t2) ++ t3) ++ tt) (((((bad) || !(Mg.cTx).fit (x.low)) || !(Mg.num 18446744073709551615).fit (x.map)) || !(Mg.num 512).fit (x.parts.length)) || !(x.parts.take i).all (Mg.num 4294967295).fit) wr ∧ FrP wB.heap.size w0 wr) (fun vi _ => x.parts.length - (intOf vi).toNat)
    case atStart => exact ⟨0, [], Nat.zero_le _, rfl, Mg.WroteL.nil _, HP3.out.cast (by simp) (by simp), HG3.out⟩
    case round =>
      obtain ⟨i1, tt1, hi1, rfl, htt, hp, hf⟩ := hrel
      have HTT1 := Lib.hid htt
      have HPL1 := Lib.hid hp
      have HFL1 := Lib.hid hf
      obtain ⟨y1, hy1⟩ : ∃ y, y = wr := ⟨_, rfl⟩
      subst hy1
      clear htt hp hf
      have cs : y1.cell? ⟨w.heap.size, 6, none⟩ = some (.slice s.parts.1 x.parts.length s.parts.2) := by rw [cell_of_row _ _ _ _ _ _ (HFL1.out.keep HBX.out (by decide) (by decide))]; rfl
      by_cases hlt : i1 < x.parts.length
      · have hiI1 : (0 : Int) ≤ i1 ∧ (i1 : Int) < x.parts.length := by omega
        have hbr : Below wB.heap.size wB y1 := HB.out.trans (HFL1.out.below HB.out.size)
        obtain ⟨g1, o1, hg1, hc⟩ := HPR.out i1 (by simpa using hlt)
        have HGA1 := Lib.hid hg1
        obtain ⟨u1, hu⟩ : ∃ u, u = x.parts[i1]'hlt := ⟨_, rfl⟩
        have e1 : (x.parts.map (fun a : Nat => [Value.int .u32 a]))[i1]'(by simpa using hlt) = [.int .u32 u1] := by rw [List.getElem_map, hu]
        rw [e1] at hc
        have HCC1 := Lib.hid hc
        have HY1 : Hid (x.parts[i1]? = some u1) := Lib.hid (by rw [List.getElem?_eq_getElem hlt, hu])
        have hug : u1 < 4294967296 := by rw [hu]; exact HOK.out.parts.1 _ (List.getElem_mem _)
        have HUG1 := Lib.hid hug
        have huI1 : (0 : Int) ≤ u1 ∧ (u1 : Int) < 4294967296 := by omega
        clear hc e1 hu
        have hce := HCC1.out.keep (hbr.block _ HCC1.out.lt)
        clear hce
        have hea := Mg.encs_at (Mg.num 4294967295) HY1.out
        have HEA1 := Lib.hid hea
        have hsp : ((Mg.num 4294967295).enc u1).length = ((Mg.num 4294967295).enc (u1)).length := by
          have h1 : (Mg.num 4294967295).enc u1 = (Mg.num 4294967295).enc (u1) := rfl
          rw [h1]; try simp only [List.length_append, Nat.add_assoc]
        have HSP1 := Lib.hid hsp
        clear hea hsp hlt hbr hg1
        rw [HGA1.out] at cs
        have c0 : y1.cell? ⟨g1, o1 + i1, none⟩ = some (.int .u32 u1) := by have := (HCC1.out.keep ((HB.out.trans (HFL1.out.below HB.out.size)).block _ HCC1.out.lt)).cell 0 (by simp); simpa using this
        go_wp2_with fail
        refine (pn wB.heap.size k (((((bs) ++ t1) ++ t2) ++ t3) ++ tt1) (((((bad) || !(Mg.cTx).fit (x.low)) || !(Mg.num 18446744073709551615).fit (x.map)) || !(Mg.num 512).fit (x.parts.length)) || !(x.parts.take i1).all (Mg.num 4294967295).fit) u1 4294967295 y1 HPL1.out (by have := HUG1.out; omega) (by decide) (by have := HLN2.out; have := HW1.out.1; have := HW2.out.1; have := HLL1.out; have := HW3.out.1; have := HTT1.out.1; have := HEA1.out; have := HSP1.out; (try simp only [List.length_append] at *); omega)).mono ?_
        rintro e x4 ⟨rfl, ⟨t4, hw, hp⟩, hf⟩
        have HW4 := Lib.hid hw
        have HP4 := Lib.hid hp
        have HG4 := Lib.hid (HFL1.out.trans hf)
        have HFE := Lib.hid hf
        clear hw hp hf  c0
        clear cs
        go_wp2_with fail
        go_roundw
        case rel =>
          have hfin : ((((((bad) || !(Mg.cTx).fit (x.low)) || !(Mg.num 18446744073709551615).fit (x.map)) || !(Mg.num 512).fit (x.parts.length)) || !(x.parts.take i1).all (Mg.num 4294967295).fit) || !(Mg.num 4294967295).fit (u1)) = (((((bad) || !(Mg.cTx).fit (x.low)) || !(Mg.num 18446744073709551615).fit (x.map)) || !(Mg.num 512).fit (x.parts.length)) || !(x.parts.take (i1 + 1)).all (Mg.num 4294967295).fit) := by
            rw [Mg.all_nextF (Mg.num 4294967295).fit HY1.out]
            show _ = (((((bad) || !(Mg.cTx).fit (x.low)) || !(Mg.num 18446744073709551615).fit (x.map)) || !(Mg.num 512).fit (x.parts.length)) || !((x.parts.take i1).all (Mg.num 4294967295).fit && ((Mg.num 4294967295).fit (u1))))
            simp only [Bool.not_and, Bool.or_assoc]
          exact ⟨i1 + 1, tt1 ++ (t4), by omega, by go_num, HTT1.out.next HY1.out (HW4.out), HP4.out.cast (by simp only [List.append_assoc]) hfin, HG4.out⟩
        case measure => simp [intOf]; omega
      · obtain rfl : i1 = x.parts.length := by omega
        have htk := HTT1.out
        have hp := HPL1.out
        rw [List.take_length] at htk hp
        obtain ⟨t5, ht5⟩ : ∃ t, t = t3 ++ tt1 := ⟨_, rfl⟩
        have HW5 : Hid (Mg.Wrote (Mg.list 512 (Mg.num 4294967295)) x.parts t5) := Lib.hid (by rw [ht5]; exact Mg.Wrote.list HW3.out htk)
        have HP5 : Hid (PtAt wB.heap.size k ((((bs) ++ t1) ++ t2) ++ t5) ((((bad) || !(Mg.cTx).fit (x.low)) || !(Mg.num 18446744073709551615).fit (x.map)) || !(Mg.list 512 (Mg.num 4294967295)).fit x.parts) y1) := Lib.hid (hp.cast (by rw [ht5, List.append_assoc]) (by
          show _ = ((((bad) || !(Mg.cTx).fit (x.low)) || !(Mg.num 18446744073709551615).fit (x.map)) || !((Mg.num 512).fit x.parts.length && x.parts.all (Mg.num 4294967295).fit))
          simp only [Bool.not_and, Bool.or_assoc]))
        have HG5 := Lib.hid HFL1.out
        clear htk hp ht5 hlt
        have c0 := ldAsk_run y1 _ s x (HG5.out.keep HBX.out (by decide) (by decide))
        go_wp2_with fail
        refine (p_ask wB k ((((bs) ++ t1) ++ t2) ++ t5) ((((bad) || !(Mg.cTx).fit (x.low)) || !(Mg.num 18446744073709551615).fit (x.map)) || !(Mg.list 512 (Mg.num 4294967295)).fit (x.parts)) s x y1 HP5.out (HB.out.trans (HG5.out.below HB.out.size)) HA.out HOK.out (by have := HLN2.out; have := HW1.out.1; have := HW2.out.1; have := HLL1.out; have := HW5.out.1; (try simp only [List.length_append] at *); omega)).mono ?_
        rintro e x6 ⟨rfl, ⟨t6, hw, hp⟩, hf⟩
        have HW6 := Lib.hid hw
        have HP6 := Lib.hid hp
        have HG6 := Lib.hid (HG5.out.trans hf)
        have HFE := Lib.hid hf
        clear hw hp hf cs c0
        have c0 : x6.cell? ⟨w.heap.size, 18, none⟩ = some (.slice s.rows.1 x.rows.length s.rows.2) := by rw [cell_of_row _ _ _ _ _ _ (HG6.out.keep HBX.out (by decide) (by decide))]; rfl
        go_wp2_with fail
        refine (p_rows wB k (((((bs) ++ t1) ++ t2) ++ t5) ++ t6) (((((bad) || !(Mg.cTx).fit (x.low)) || !(Mg.num 18446744073709551615).fit (x.map)) || !(Mg.list 512 (Mg.num 4294967295)).fit (x.parts)) || !(Mg.cAsk).fit (x.ask)) s.rows.1 s.rows.2 x.rows x6 HP6.out (HB.out.trans (HG6.out.below HB.out.size)) HROWS.out HOK.out.rows.1 (by have := HOK.out.rows.2; omega) (by have := HLN2.out; have := HW1.out.1; have := HW2.out.1; have := HLL1.out; have := HW5.out.1; have := HW6.out.1; (try simp only [List.length_append] at *); omega)).mono ?_
        rintro e x7 ⟨rfl, ⟨t7, hw, hp⟩, hf⟩
        have HW7 := Lib.hid hw
        have HP7 := Lib.hid hp
        have HG7 := Lib.hid (HG6.out.trans hf)
        have HFE := Lib.hid hf
        clear hw hp hf  c0
        have c0 : x7.cell? ⟨w.heap.size, 19, none⟩ = some (.int .u64 x.next) := by rw [cell_of_row _ _ _ _ _ _ (HG7.out.keep HBX.out (by decide) (by decide))]; rfl
        go_wp2_with fail
        refine (pn wB.heap.size k ((((((bs) ++ t1) ++ t2) ++ t5) ++ t6) ++ t7) ((((((bad) || !(Mg.cTx).fit (x.low)) || !(Mg.num 18446744073709551615).fit (x.map)) || !(Mg.list 512 (Mg.num 4294967295)).fit (x.parts)) || !(Mg.cAsk).fit (x.ask)) || !(Mg.list 512 Mg.cRow).fit (x.rows)) x.next 18446744073709551615 x7 HP7.out HOK.out.next (by decide) (by have := HLN2.out; have := HW1.out.1; have := HW2.out.1; have := HLL1.out; have := HW5.out.1; have := HW6.out.1; have := HW7.out.1; (try simp only [List.length_append] at *); omega)).mono ?_
        rintro e x8 ⟨rfl, ⟨t8, hw, hp⟩, hf⟩
        have HW8 := Lib.hid hw
        have HP8 := Lib.hid hp
        have HG8 := Lib.hid (HG7.out.trans hf)
        have HFE := Lib.hid hf
        clear hw hp hf  c0
        have c0 : x8.cell? ⟨w.heap.size, 20, none⟩ = some (.slice s.own.1 x.own.length s.own.2) := by rw [cell_of_row _ _ _ _ _ _ (HG8.out.keep HBX.out (by decide) (by decide))]; rfl
        go_wp2_with fail
        refine (p_spans wB k (((((((bs) ++ t1) ++ t2) ++ t5) ++ t6) ++ t7) ++ t8) (((((((bad) || !(Mg.cTx).fit (x.low)) || !(Mg.num 18446744073709551615).fit (x.map)) || !(Mg.list 512 (Mg.num 4294967295)).fit (x.parts)) || !(Mg.cAsk).fit (x.ask)) || !(Mg.list 512 Mg.cRow).fit (x.rows)) || !(Mg.num 18446744073709551615).fit (x.next)) s.own.1 s.own.2 x.own x8 HP8.out (HB.out.trans (HG8.out.below HB.out.size)) HA.out.own.row HOK.out.own.1 (by have := HOK.out.own.2; omega) (by have := HLN2.out; have := HW1.out.1; have := HW2.out.1; have := HLL1.out; have := HW5.out.1; have := HW6.out.1; have := HW7.out.1; have := HW8.out.1; (try simp only [List.length_append] at *); omega)).mono ?_
        rintro e x9 ⟨rfl, ⟨t9, hw, hp⟩, hf⟩
        have HW9 := Lib.hid hw
        have HP9 := Lib.hid hp
        have HG9 := Lib.hid (HG8.out.trans hf)
        have HFE := Lib.hid hf
        clear hw hp hf  c0
        go_wp2_with fail
        have hfin : ((((((((bad) || !(Mg.cTx).fit (x.low)) || !(Mg.num 18446744073709551615).fit (x.map)) || !(Mg.list 512 (Mg.num 4294967295)).fit (x.parts)) || !(Mg.cAsk).fit (x.ask)) || !(Mg.list 512 Mg.cRow).fit (x.rows)) || !(Mg.num 18446744073709551615).fit (x.next)) || !(Mg.list 512 Mg.cRng).fit (x.own)) = (bad || !Mg.bodyFit x) := by
          rw [HBF.out]
          show _ = (bad || !((Mg.cTx).fit (x.low) && (((Mg.num 18446744073709551615).fit x.map && (Mg.list 512 (Mg.num 4294967295)).fit x.parts) && ((Mg.cAsk).fit (x.ask) && ((Mg.list 512 Mg.cRow).fit (x.rows) && (((Mg.num 18446744073709551615).fit x.next && (Mg.list 512 Mg.cRng).fit x.own)))))))
          simp only [Bool.not_and, Bool.or_assoc]
        have hwr : Mg.Wrote Mg.c1 (x.low, (x.map, x.parts), x.ask, x.rows, (x.next, x.own)) (t1 ++ ((t2 ++ t5) ++ (t6 ++ (t7 ++ ((t8 ++ t9)))))) := Mg.Wrote.seq HW1.out (Mg.Wrote.seq ((Mg.Wrote.seq HW2.out HW5.out)) (Mg.Wrote.seq HW6.out (Mg.Wrote.seq HW7.out ((Mg.Wrote.seq HW8.out HW9.out)))))
        exact bodyPost_end (v := .tuple #[]) (by simp [results, Tryz.results24, go_sem]) rfl ⟨rfl, ⟨t1 ++ ((t2 ++ t5) ++ (t6 ++ (t7 ++ ((t8 ++ t9))))), ⟨by rw [HBD.out]; exact hwr.1, fun h => by rw [HBD.out]; exact hwr.2 (by rw [← HBF.out]; exact h)⟩, HP9.out.cast (by simp only [List.append_assoc]) hfin⟩, HF0.out.trans HG9.out⟩
  by_cases hk2 : x.kind = 2
  · have HBD : Hid (Mg.body x = Mg.c2.enc (x.rows, x.commit, x.err, x.told)) := Lib.hid (by unfold Mg.body; rw [if_neg hk1]; rw [if_pos hk2])
    have HBF : Hid (Mg.bodyFit x = Mg.c2.fit (x.rows, x.commit, x.err, x.told)) := Lib.hid (by unfold Mg.bodyFit; rw [if_neg hk1]; rw [if_pos hk2])
    have kk1 : ((x.kind : Int) == 1) = false := beq_eq_false_iff_ne.2 (by omega)
    have kk2 : ((x.kind : Int) == 2) = true := beq_iff_eq.2 (by omega)
    clear hk2
    go_enter Tryz.func24, Tryz.ntmps24
    go_upto_region 1 with (fail)
    rw [← HW0.out]
    clear HW0
    have HLN2 : Hid (bs.length + (((Mg.list 512 Mg.cRow).enc (x.rows)).length + (((Mg.truth).enc (x.commit)).length + (((Mg.int 9999).enc (x.err)).length + (((Mg.cTold).enc (x.told)).length)))) ≤ 2147483648) := Lib.hid (by
      have h0 := HLN.out
      have h1 : Mg.body x = (Mg.list 512 Mg.cRow).enc (x.rows) ++ ((Mg.truth).enc (x.commit) ++ ((Mg.int 9999).enc (x.err) ++ ((Mg.cTold).enc (x.told)))) := by rw [HBD.out]; rfl
      rw [h1] at h0
      simp only [List.length_append] at h0 ⊢
      exact h0)
    have c0 : w0.cell? ⟨w.heap.size, 18, none⟩ = some (.slice s.rows.1 x.rows.length s.rows.2) := by rw [cell_of_row _ _ _ _ _ _ (HG0.out.keep HBX.out (by decide) (by decide))]; rfl
    go_wp2_with fail
    refine (p_rows wB k (bs) (bad) s.rows.1 s.rows.2 x.rows w0 HP0.out (HB.out.trans (HG0.out.below HB.out.size)) HROWS.out HOK.out.rows.1 (by have := HOK.out.rows.2; omega) (by have := HLN2.out; (try simp only [List.length_append] at *); omega)).mono ?_
    rintro e x1 ⟨rfl, ⟨t1, hw, hp⟩, hf⟩
    have HW1 := Lib.hid hw
    have HP1 := Lib.hid hp
    have HG1 := Lib.hid (HG0.out.trans hf)
    have HFE := Lib.hid hf
    clear hw hp hf  c0
    clear kk1 kk2
    have c0 : x1.cell? ⟨w.heap.size, 21, none⟩ = some (.bool x.commit) := by rw [cell_of_row _ _ _ _ _ _ (HG1.out.keep HBX.out (by decide) (by decide))]; rfl
    go_wp2_with fail
    refine (p_truth wB.heap.size k ((bs) ++ t1) ((bad) || !(Mg.list 512 Mg.cRow).fit (x.rows)) x.commit x1 HP1.out  (by have := HLN2.out; have := HW1.out.1; (try simp only [List.length_append] at *); omega)).mono ?_
    rintro e x2 ⟨rfl, ⟨t2, hw, hp⟩, hf⟩
    have HW2 := Lib.hid hw
    have HP2 := Lib.hid hp
    have HG2 := Lib.hid (HG1.out.trans hf)
    have HFE := Lib.hid hf
    clear hw hp hf  c0
    have c0 : x2.cell? ⟨w.heap.size, 22, none⟩ = some (.int .i64 x.err) := by rw [cell_of_row _ _ _ _ _ _ (HG2.out.keep HBX.out (by decide) (by decide))]; rfl
    go_wp2_with fail
    refine (p_int wB.heap.size k (((bs) ++ t1) ++ t2) (((bad) || !(Mg.list 512 Mg.cRow).fit (x.rows)) || !(Mg.truth).fit (x.commit)) x.err 9999 x2 HP2.out HOK.out.err (by decide) (by have := HLN2.out; have := HW1.out.1; have := HW2.out.1; (try simp only [List.length_append] at *); omega)).mono ?_
    rintro e x3 ⟨rfl, ⟨t3, hw, hp⟩, hf⟩
    have HW3 := Lib.hid hw
    have HP3 := Lib.hid hp
    have HG3 := Lib.hid (HG2.out.trans hf)
    have HFE := Lib.hid hf
    clear hw hp hf  c0
    have c0 := ldTold_run x3 _ s x (HG3.out.keep HBX.out (by decide) (by decide))
    go_wp2_with fail
    refine (p_told wB k ((((bs) ++ t1) ++ t2) ++ t3) ((((bad) || !(Mg.list 512 Mg.cRow).fit (x.rows)) || !(Mg.truth).fit (x.commit)) || !(Mg.int 9999).fit (x.err)) s x x3 HP3.out (HB.out.trans (HG3.out.below HB.out.size)) HA.out HOK.out (by have := HLN2.out; have := HW1.out.1; have := HW2.out.1; have := HW3.out.1; (try simp only [List.length_append] at *); omega)).mono ?_
    rintro e x4 ⟨rfl, ⟨t4, hw, hp⟩, hf⟩
    have HW4 := Lib.hid hw
    have HP4 := Lib.hid hp
    have HG4 := Lib.hid (HG3.out.trans hf)
    have HFE := Lib.hid hf
    clear hw hp hf  c0
    go_wp2_with fail
    have hfin : (((((bad) || !(Mg.list 512 Mg.cRow).fit (x.rows)) || !(Mg.truth).fit (x.commit)) || !(Mg.int 9999).fit (x.err)) || !(Mg.cTold).fit (x.told)) = (bad || !Mg.bodyFit x) := by
      rw [HBF.out]
      show _ = (bad || !((Mg.list 512 Mg.cRow).fit (x.rows) && ((Mg.truth).fit (x.commit) && ((Mg.int 9999).fit (x.err) && ((Mg.cTold).fit (x.told))))))
      simp only [Bool.not_and, Bool.or_assoc]
    have hwr : Mg.Wrote Mg.c2 (x.rows, x.commit, x.err, x.told) (t1 ++ (t2 ++ (t3 ++ (t4)))) := Mg.Wrote.seq HW1.out (Mg.Wrote.seq HW2.out (Mg.Wrote.seq HW3.out (HW4.out)))
    exact bodyPost_end (v := .tuple #[]) (by simp [results, Tryz.results24, go_sem]) rfl ⟨rfl, ⟨t1 ++ (t2 ++ (t3 ++ (t4))), ⟨by rw [HBD.out]; exact hwr.1, fun h => by rw [HBD.out]; exact hwr.2 (by rw [← HBF.out]; exact h)⟩, HP4.out.cast (by simp only [List.append_assoc]) hfin⟩, HF0.out.trans HG4.out⟩
  by_cases hk3 : x.kind = 3
  · have HBD : Hid (Mg.body x = Mg.c3.enc (x.low, x.commit)) := Lib.hid (by unfold Mg.body; rw [if_neg hk1, if_neg hk2]; rw [if_pos hk3])
    have HBF : Hid (Mg.bodyFit x = Mg.c3.fit (x.low, x.commit)) := Lib.hid (by unfold Mg.bodyFit; rw [if_neg hk1, if_neg hk2]; rw [if_pos hk3])
    have kk1 : ((x.kind : Int) == 1) = false := beq_eq_false_iff_ne.2 (by omega)
    have kk2 : ((x.kind : Int) == 2) = false := beq_eq_false_iff_ne.2 (by omega)
    have kk3 : ((x.kind : Int) == 3) = true := beq_iff_eq.2 (by omega)
    clear hk3
    go_enter Tryz.func24, Tryz.ntmps24
    go_upto_region 1 with (fail)
    rw [← HW0.out]
    clear HW0
    have HLN2 : Hid (bs.length + (((Mg.cTx).enc (x.low)).length + (((Mg.truth).enc (x.commit)).length)) ≤ 2147483648) := Lib.hid (by
      have h0 := HLN.out
      have h1 : Mg.body x = (Mg.cTx).enc (x.low) ++ ((Mg.truth).enc (x.commit)) := by rw [HBD.out]; rfl
      rw [h1] at h0
      simp only [List.length_append] at h0 ⊢
      exact h0)
    have c0 : w0.cell? ⟨w.heap.size, 3, none⟩ = some (.int .u64 x.low.life) := by rw [cell_of_row _ _ _ _ _ _ (HG0.out.keep HBX.out (by decide) (by decide))]; rfl
    have c1 : w0.cell? ⟨w.heap.size, 4, none⟩ = some (.int .u64 x.low.n) := by rw [cell_of_row _ _ _ _ _ _ (HG0.out.keep HBX.out (by decide) (by decide))]; rfl
    go_wp2_with fail
    refine (p_tx wB.heap.size k (bs) (bad) x.low w0 HP0.out HOK.out.low (by have := HLN2.out; (try simp only [List.length_append] at *); omega)).mono ?_
    rintro e x1 ⟨rfl, ⟨t1, hw, hp⟩, hf⟩
    have HW1 := Lib.hid hw
    have HP1 := Lib.hid hp
    have HG1 := Lib.hid (HG0.out.trans hf)
    have HFE := Lib.hid hf
    clear hw hp hf  c0 c1
    clear kk1 kk2 kk3
    have c0 : x1.cell? ⟨w.heap.size, 21, none⟩ = some (.bool x.commit) := by rw [cell_of_row _ _ _ _ _ _ (HG1.out.keep HBX.out (by decide) (by decide))]; rfl
    go_wp2_with fail
    refine (p_truth wB.heap.size k ((bs) ++ t1) ((bad) || !(Mg.cTx).fit (x.low)) x.commit x1 HP1.out  (by have := HLN2.out; have := HW1.out.1; (try simp only [List.length_append] at *); omega)).mono ?_
    rintro e x2 ⟨rfl, ⟨t2, hw, hp⟩, hf⟩
    have HW2 := Lib.hid hw
    have HP2 := Lib.hid hp
    have HG2 := Lib.hid (HG1.out.trans hf)
    have HFE := Lib.hid hf
    clear hw hp hf  c0
    go_wp2_with fail
    have hfin : (((bad) || !(Mg.cTx).fit (x.low)) || !(Mg.truth).fit (x.commit)) = (bad || !Mg.bodyFit x) := by
      rw [HBF.out]
      show _ = (bad || !((Mg.cTx).fit (x.low) && ((Mg.truth).fit (x.commit))))
      simp only [Bool.not_and, Bool.or_assoc]
    have hwr : Mg.Wrote Mg.c3 (x.low, x.commit) (t1 ++ (t2)) := Mg.Wrote.seq HW1.out (HW2.out)
    exact bodyPost_end (v := .tuple #[]) (by simp [results, Tryz.results24, go_sem]) rfl ⟨rfl, ⟨t1 ++ (t2), ⟨by rw [HBD.out]; exact hwr.1, fun h => by rw [HBD.out]; exact hwr.2 (by rw [← HBF.out]; exact h)⟩, HP2.out.cast (by simp only [List.append_assoc]) hfin⟩, HF0.out.trans HG2.out⟩
  by_cases hk6 : x.kind = 6
  · have HBD : Hid (Mg.body x = Mg.c6.enc (x.low, x.state)) := Lib.hid (by unfold Mg.body; rw [if_neg hk1, if_neg hk2, if_neg hk3]; rw [if_pos hk6])
    have HBF : Hid (Mg.bodyFit x = (Mg.c6.fit (x.low, x.state) && decide (1 ≤ x.state))) := Lib.hid (by unfold Mg.bodyFit; rw [if_neg hk1, if_neg hk2, if_neg hk3]; rw [if_pos hk6])
    have kk1 : ((x.kind : Int) == 1) = false := beq_eq_false_iff_ne.2 (by omega)
    have kk2 : ((x.kind : Int) == 2) = false := beq_eq_false_iff_ne.2 (by omega)
    have kk3 : ((x.kind : Int) == 3) = false := beq_eq_false_iff_ne.2 (by omega)
    have kk6 : ((x.kind : Int) == 6) = true := beq_iff_eq.2 (by omega)
    clear hk6
    go_enter Tryz.func24, Tryz.ntmps24
    go_upto_region 1 with (fail)
    rw [← HW0.out]
    clear HW0
    have HLN2 : Hid (bs.length + (((Mg.cTx).enc (x.low)).length + (((Mg.num 3).enc (x.state)).length)) ≤ 2147483648) := Lib.hid (by
      have h0 := HLN.out
      have h1 : Mg.body x = (Mg.cTx).enc (x.low) ++ ((Mg.num 3).enc (x.state)) := by rw [HBD.out]; rfl
      rw [h1] at h0
      simp only [List.length_append] at h0 ⊢
      exact h0)
    have c0 : w0.cell? ⟨w.heap.size, 3, none⟩ = some (.int .u64 x.low.life) := by rw [cell_of_row _ _ _ _ _ _ (HG0.out.keep HBX.out (by decide) (by decide))]; rfl
    have c1 : w0.cell? ⟨w.heap.size, 4, none⟩ = some (.int .u64 x.low.n) := by rw [cell_of_row _ _ _ _ _ _ (HG0.out.keep HBX.out (by decide) (by decide))]; rfl
    go_wp2_with fail
    refine (p_tx wB.heap.size k (bs) (bad) x.low w0 HP0.out HOK.out.low (by have := HLN2.out; (try simp only [List.length_append] at *); omega)).mono ?_
    rintro e x1 ⟨rfl, ⟨t1, hw, hp⟩, hf⟩
    have HW1 := Lib.hid hw
    have HP1 := Lib.hid hp
    have HG1 := Lib.hid (HG0.out.trans hf)
    have HFE := Lib.hid hf
    clear hw hp hf  c0 c1
    clear kk1 kk2 kk3 kk6
    have c0 : x1.cell? ⟨w.heap.size, 27, none⟩ = some (.int .u8 x.state) := by rw [cell_of_row _ _ _ _ _ _ (HG1.out.keep HBX.out (by decide) (by decide))]; rfl
    go_wp2_with fail
    refine (pn wB.heap.size k ((bs) ++ t1) ((bad) || !(Mg.cTx).fit (x.low)) x.state 3 x1 HP1.out (by have := HOK.out.state; omega) (by decide) (by have := HLN2.out; have := HW1.out.1; (try simp only [List.length_append] at *); omega)).mono ?_
    rintro e x2 ⟨rfl, ⟨t2, hw, hp⟩, hf⟩
    have HW2 := Lib.hid hw
    have HP2 := Lib.hid hp
    have HG2 := Lib.hid (HG1.out.trans hf)
    have HFE := Lib.hid hf
    clear hw hp hf  c0
    obtain ⟨q, hq⟩ : ∃ q, q = (((bad) || !(Mg.cTx).fit (x.low)) || !(Mg.num 3).fit (x.state)) := ⟨_, rfl⟩
    have HQ := Lib.hid hq
    have hp := HP2.out
    rw [← hq] at hp
    have HPQ := Lib.hid hp
    obtain ⟨v, hk, _⟩ := hp.ex
    have d1 : x2.cell? ⟨k, 1, none⟩ = some (.bool q) := by rw [cell_of_row _ _ _ _ _ _ hk]; rfl
    have e1 : x2.frozen? ⟨k, 1, none⟩ = false := frozen_of_row x2 k 1 _ _ hk
    have hklt := blk_lt hk
    have c0 : x2.cell? ⟨w.heap.size, 27, none⟩ = some (.int .u8 x.state) := by rw [cell_of_row _ _ _ _ _ _ (HG2.out.keep HBX.out (by decide) (by decide))]; rfl
    have hfr : ∀ z, z = (q || decide (x.state < 1)) → PtAt wB.heap.size k (bs ++ (t1 ++ (t2))) (bad || !Mg.bodyFit x) (x2.setCell ⟨k, 1, none⟩ (.bool z)) ∧ FrP wB.heap.size w (x2.setCell ⟨k, 1, none⟩ (.bool z)) := fun z hz => by
      refine ⟨(HPQ.out.mark z).1.cast (by simp only [List.append_assoc]) ?_, HF0.out.trans (HG2.out.trans (HPQ.out.mark z).2)⟩
      rw [hz, HQ.out, HBF.out]
      show _ = (bad || !(((Mg.cTx).fit (x.low) && ((Mg.num 3).fit (x.state))) && decide (1 ≤ x.state)))
      have e : decide (x.state < 1) = !decide (1 ≤ x.state) := by rw [← decide_not]; exact decide_eq_decide.2 (by omega)
      rw [e]
      simp only [Bool.not_and, Bool.or_assoc]
    have HFR := Lib.hid hfr
    have hwr : Mg.Wrote Mg.c6 (x.low, x.state) (t1 ++ (t2)) := Mg.Wrote.seq HW1.out (HW2.out)
    have HWR := Lib.hid hwr
    clear hq hp hk hfr hwr
    cases q with
    | true =>
      go_wp2_with fail
      exact bodyPost_end (v := .tuple #[]) (by simp [results, Tryz.results24, go_sem]) rfl ⟨rfl, ⟨t1 ++ (t2), ⟨by rw [HBD.out]; exact HWR.out.1, fun h => by rw [HBD.out]; exact HWR.out.2 (by rw [HBF.out, Bool.and_eq_true] at h; exact h.1)⟩, (HFR.out _ (by simp)).1⟩, (HFR.out _ (by simp)).2⟩
    | false =>
      by_cases hs1 : x.state < 1
      · have hsI : (x.state : Int) < 1 := by omega
        go_wp2_with fail
        exact bodyPost_end (v := .tuple #[]) (by simp [results, Tryz.results24, go_sem]) rfl ⟨rfl, ⟨t1 ++ (t2), ⟨by rw [HBD.out]; exact HWR.out.1, fun h => by rw [HBD.out]; exact HWR.out.2 (by rw [HBF.out, Bool.and_eq_true] at h; exact h.1)⟩, (HFR.out _ (by rw [decide_eq_true hs1]; rfl)).1⟩, (HFR.out _ (by rw [decide_eq_true hs1]; rfl)).2⟩
      · have hsI : ¬ (x.state : Int) < 1 := by omega
        go_wp2_with fail
        exact bodyPost_end (v := .tuple #[]) (by simp [results, Tryz.results24, go_sem]) rfl ⟨rfl, ⟨t1 ++ (t2), ⟨by rw [HBD.out]; exact HWR.out.1, fun h => by rw [HBD.out]; exact HWR.out.2 (by rw [HBF.out, Bool.and_eq_true] at h; exact h.1)⟩, (HFR.out _ (by rw [Bool.false_or]; exact decide_eq_decide.2 (by omega))).1⟩, (HFR.out _ (by rw [Bool.false_or]; exact decide_eq_decide.2 (by omega))).2⟩
  · have HBD : Hid (Mg.body x = []) := Lib.hid (by unfold Mg.body; rw [if_neg hk1, if_neg hk2, if_neg hk3, if_neg hk6])
    have HBF : Hid (Mg.bodyFit x = true) := Lib.hid (by unfold Mg.bodyFit; rw [if_neg hk1, if_neg hk2, if_neg hk3, if_neg hk6])
    have kk1 : ((x.kind : Int) == 1) = false := beq_eq_false_iff_ne.2 (by omega)
    have kk2 : ((x.kind : Int) == 2) = false := beq_eq_false_iff_ne.2 (by omega)
    have kk3 : ((x.kind : Int) == 3) = false := beq_eq_false_iff_ne.2 (by omega)
    have kk6 : ((x.kind : Int) == 6) = false := beq_eq_false_iff_ne.2 (by omega)
    clear hk1 hk2 hk3 hk6
    go_enter Tryz.func24, Tryz.ntmps24
    go_upto_region 1 with (fail)
    rw [← HW0.out]
    clear HW0
    go_wp2_with fail
    exact bodyPost_end (v := .tuple #[]) (by simp [results, Tryz.results24, go_sem]) rfl ⟨rfl, ⟨[], ⟨by simp, fun _ => by rw [HBD.out]⟩, HP0.out.cast (by simp) (by rw [HBF.out]; simp)⟩, HF0.out⟩

end Go.Proofs.YtjgnomjjphkfbaaGreat
