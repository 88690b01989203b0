/-
  Joined out of the texts MsgRdL MsgRdL2.
-/
import Derived.Test.YtjgnomjjphkfbaaGreatRRd
import Derived.Test.YtjgnomjjphkfbaaGreatRBase
namespace Go.Proofs.YtjgnomjjphkfbaaGreat
open Go.RowKit
attribute [local go_sem ↓ high] appSem_eq

theorem inf_read : (Tryz.prog.info? 67).map (fun i => (i.zero, i.size, i.bytes)) = some (some (.agg #[.string ⟨#[]⟩, .int .u64 0]), 2, 24) := by kernel_rfl
set_option maxRecDepth 20000 in
set_option maxHeartbeats 8000000 in
theorem listR_read (k rb m g off : Nat) (st : Option (List UInt8)) (bad : Bool) (cs : List Value) (t : TypeId) (s0 : Option Addr) (n0 c0 : Nat) (w : World) (h : RcAt k rb m g st bad cs t w) (hoff : cs[off]? = some (.slice s0 n0 c0)) :
    Calls Tryz.prog 109 #[.pointer (some ⟨k, 0, none⟩), .pointer (some ⟨g, off, none⟩), .func (.func 110) #[.pointer (some ⟨k, 0, none⟩)] #[]] w fun e w' => e = .returned (.tuple #[]) ∧
      ∃ (l : List Mg.Rd) (s : Option Addr) (cap : Nat) (st' : Option (List UInt8)), Step (Mg.list 512 Mg.cRd).dec st l st' ∧ (∀ a ∈ l, a.Good) ∧ l.length ≤ 512 ∧ RcAt k rb m g st' bad (cs.set off (.slice s l.length cap)) t w' ∧ OL w w' 67 2 s cap (l.map Mg.Rd.cells) ∧ Upd w w' [rb, g] := by
  obtain ⟨inf, hin, hz0, hz1, hz2⟩ := info_parts inf_read
  obtain ⟨d0, d3, d4, dz⟩ := h.cells
  have HH := Lib.hid h
  have e0 := h.cell off _ hoff
  have HCN := Lib.hid (countR w rb st 512 (by decide) h.rd)
  have HOF : Hid (off < cs.length) := Lib.hid (List.getElem?_eq_some_iff.1 hoff).1
  clear h hoff
  go_enter Tryz.func109, Tryz.ntmps109
  go_wp2_with fail
  refine HCN.out.mono ?_
  rintro e w1 ⟨n, st1, rfl, hn, hn0, hst1, hrd1, hu1⟩
  have h1 := HH.out.read hrd1 hu1
  have HST1 := Lib.hid hst1
  have HN0 := Lib.hid hn0
  have hnI : (0 : Int) ≤ n ∧ (n : Int) ≤ 512 := by omega
  have HN := Lib.hid hn
  have hv1 := HH.out.cell off _ (List.getElem?_eq_getElem HOF.out)
  have c1 := h1.cell off _ (List.getElem?_eq_getElem HOF.out)
  have f1 := h1.thaw off
  have HR1 := Lib.hid (h1.set off (.slice none 0 0))
  have HU1 : Hid (Upd w (w1.setCell ⟨g, off, none⟩ (.slice none 0 0)) [rb, g]) := Lib.hid ((hu1.mono (by simp)).setCell (.inl (by simp)) _)
  clear hst1 hrd1 hu1 h1 hn0 hn hv1 d0 d3 d4 dz e0 HCN
  go_wp2_with fail
  generalize w1.setCell ⟨g, off, none⟩ (.slice none 0 0) = w2 at *
  clear c1 f1
  go_loopw [26] (fun vi wr => ∃ (i : Nat) (l : List Mg.Rd) (s : Option Addr) (cap : Nat) (sti : Option (List UInt8)), i ≤ n ∧ vi = .int .i64 i ∧ l.length = i ∧ Rounds Mg.cRd.dec st1 n i l sti ∧ (∀ a ∈ l, a.Good) ∧ RcAt k rb m g sti bad (cs.set off (.slice s i cap)) t wr ∧ OL w wr 67 2 s cap (l.map Mg.Rd.cells) ∧ Upd w wr [rb, g]) (fun vi _ => n - (intOf vi).toNat)
  case atStart => exact ⟨0, [], none, 0, st1, Nat.zero_le _, rfl, rfl, Rounds.start HN0.out, by simp, HR1.out, OL.nil _ _ _ _, HU1.out⟩
  case round =>
    clear HR1 HU1 HN0
    obtain ⟨i, l, s, cap, sti, hi, rfl, hl, hro, hgd, hr, hol, hu⟩ := hrel
    have HRO := Lib.hid hro
    have HGD := Lib.hid hgd
    have HR := Lib.hid hr
    have HOL := Lib.hid hol
    have HU := Lib.hid hu
    have HL := Lib.hid hl
    clear hro hgd hr hol hu hl
    by_cases hlt : i < n
    · have hiI : (0 : Int) ≤ i ∧ (i : Int) < n := by omega
      have hf := HR.out.fresh [.string ⟨#[]⟩, .int .u64 0] 67
      have HRD := Lib.hid (readR k rb m wr.heap.size 0 sti bad _ _ _ hf (by decide))
      have HLT := Lib.hid hlt
      clear hf
      go_wp2_with fail
      refine HRD.out.mono ?_
      rintro e w3 ⟨rfl, y, st2, hs2, hy2, hr2, hu2⟩
      have hg3 := hr2.back (HR.out.alloc _) hu2 (by have := HR.out.lts; omega)
      have HUX : Hid (Upd w w3 [rb, g]) := Lib.hid ((HU.out.alloc _).trans hu2 (fun b hb => by
        simp at hb
        rcases hb with rfl | rfl
        · exact .inl (by simp)
        · exact .inr HU.out.size))
      have hol3 : OL w w3 67 2 s cap (l.map Mg.Rd.cells) := HOL.out.updF ((((Upd.refl wr []).alloc _).mono (by simp)).trans hu2 (fun b hb => .inl hb)) (fun b hb hf => by
        have h5 := HOL.out.far b hb
        have h6 := HOL.out.sl.lt b hb
        have h7 := HH.out.lts
        simp at hf
        omega)
      obtain ⟨s4, cap4, w4, hrun, hol4, hk4⟩ := ol_push2 (P := Tryz.prog) (T := 27) Tryz.underlying27 hin hz0 hz1 hz2 rfl (by decide) (by decide) (w := w) (W := w3.drew) HUX.out.size (hol3.updF (Upd.refl w3 []).drew (by simp)) y.cells rfl (by intro u hu; simp at hu; rcases hu with rfl | rfl <;> rfl) (by have := HL.out; have := HN.out; simp; omega)
      rw [List.length_map, HL.out] at hrun
      have hrun2 : (appSem #[27, 27] 27 #[.slice s i cap, .slice (some ⟨w3.heap.size, 0, none⟩) 1 1]).run Tryz.prog ((w3.alloc (.cells #[.string y.p, .int .u64 y.n] 67 (0, 0))).drew) = .ok (.slice s4 (i + 1) cap4) w4 := hrun
      have q0 : w3.drew.cell? ⟨wr.heap.size, 0, none⟩ = some (.string y.p) := hr2.cell 0 _ rfl
      have q1 : w3.drew.cell? ⟨wr.heap.size, 1, none⟩ = some (.int .u64 y.n) := hr2.cell 1 _ rfl
      have qs : w3.drew.cell? ⟨g, off, none⟩ = some (.slice s i cap) := hg3.cell off _ (List.getElem?_set_self HOF.out)
      have qs2 : ((w3.alloc (.cells #[.string y.p, .int .u64 y.n] 67 (0, 0))).drew).cell? ⟨g, off, none⟩ = some (.slice s i cap) := (hg3.alloc _).cell off _ (List.getElem?_set_self HOF.out)
      have hg4 := (hg3.keep (Own.refl w3).drew.below).other hk4.upd (fun b hb => by
        have h5 := HOL.out.far b hb
        have h7 := HH.out.lts
        omega)
      have qz := hg4.cell off _ (List.getElem?_set_self HOF.out)
      have f4 := hg4.thaw off
      have hg5 := hg4.set off (.slice s4 (i + 1) cap4)
      rw [List.set_set] at hg5
      have HG5 := Lib.hid hg5
      have HU5 : Hid (Upd w (w4.setCell ⟨g, off, none⟩ (.slice s4 (i + 1) cap4)) [rb, g]) := Lib.hid ((HUX.out.drew.trans hk4.upd (fun b hb => .inr (HOL.out.far b hb))).setCell (.inl (by simp)) _)
      have HOL5 : Hid (OL w (w4.setCell ⟨g, off, none⟩ (.slice s4 (i + 1) cap4)) 67 2 s4 cap4 ((l ++ [y]).map Mg.Rd.cells)) := Lib.hid (by
        rw [List.map_append]
        exact hol4.updB ((Upd.refl w4 [g]).setCell (.inl (by simp)) _) (by simpa using HH.out.lts.2.2))
      have HS2 := Lib.hid hs2
      have HY2 := Lib.hid hy2
      clear hs2 hy2 hr2 hg3 hu2 hol3 HRD hg4 hg5 hol4 hk4
      go_wp2_with fail
      go_region
      generalize w4.setCell ⟨g, off, none⟩ (.slice s4 (i + 1) cap4) = w5 at *
      clear hrun hrun2 q0 q1 qs qs2 qz f4
      obtain ⟨d0, d3, d4, dz⟩ := HG5.out.cells
      have HER := Lib.hid (errR w5 rb st2 HG5.out.rd)
      go_wp2_with fail
      refine HER.out.mono ?_
      rintro e w6 ⟨ec, rfl, hec, rfl⟩
      clear d0 d3 d4 dz HER
      cases st2 with
      | none =>
        rw [Option.isNone_none] at hec
        go_wp2_with fail
        refine bodyPost_ret (v := .tuple #[]) (by simp [results, Tryz.results109, go_sem]) rfl ⟨rfl, l ++ [y], s4, cap4, none, HRO.out.fail HLT.out HS2.out HST1.out, ?_, ?_, ?_, HOL5.out, HU5.out⟩
        · intro a ha
          rcases List.mem_append.1 ha with h1 | h1
          · exact HGD.out a h1
          · simp at h1; rw [h1]; exact HY2.out
        · have := HL.out; have := HN.out; have := HLT.out; simp; omega
        · have h1 := HG5.out
          rw [show i + 1 = (l ++ [y]).length by simp; exact HL.out.symm] at h1
          exact h1
      | some r2 =>
        rw [Option.isNone_some] at hec
        go_wp2_with fail
        go_roundw
        case rel =>
          refine ⟨i + 1, l ++ [y], s4, cap4, some r2, by omega, by go_num, by simp; exact HL.out, HRO.out.next HS2.out, ?_, HG5.out, HOL5.out, HU5.out⟩
          intro a ha
          rcases List.mem_append.1 ha with h1 | h1
          · exact HGD.out a h1
          · simp at h1; rw [h1]; exact HY2.out
        case measure => simp [intOf]; omega
    · obtain rfl : i = n := by omega
      go_wp2_with fail
      refine bodyPost_ret (v := .tuple #[]) (by simp [results, Tryz.results109, go_sem]) rfl ⟨rfl, l, s, cap, sti, HRO.out.done HST1.out, HGD.out, by rw [HL.out]; exact HN.out, by rw [HL.out]; exact HR.out, HOL.out, HU.out⟩

end Go.Proofs.YtjgnomjjphkfbaaGreat

namespace Go.Proofs.YtjgnomjjphkfbaaGreat
open Go.RowKit
attribute [local go_sem ↓ high] appSem_eq

theorem inf_edit : (Tryz.prog.info? 59).map (fun i => (i.zero, i.size, i.bytes)) = some (some (.agg #[.int .u8 0, .string ⟨#[]⟩, .bool false, .int .u64 0, .int .u64 0, .string ⟨#[]⟩]), 6, 64) := by kernel_rfl
set_option maxRecDepth 20000 in
set_option maxHeartbeats 8000000 in
theorem listR_edit (k rb m g off : Nat) (st : Option (List UInt8)) (bad : Bool) (cs : List Value) (t : TypeId) (s0 : Option Addr) (n0 c0 : Nat) (w : World) (h : RcAt k rb m g st bad cs t w) (hoff : cs[off]? = some (.slice s0 n0 c0)) :
    Calls Tryz.prog 113 #[.pointer (some ⟨k, 0, none⟩), .pointer (some ⟨g, off, none⟩), .func (.func 114) #[.pointer (some ⟨k, 0, none⟩)] #[]] w fun e w' => e = .returned (.tuple #[]) ∧
      ∃ (l : List Mg.Ed) (s : Option Addr) (cap : Nat) (st' : Option (List UInt8)), Step (Mg.list 512 Mg.cEd).dec st l st' ∧ (∀ a ∈ l, a.Good) ∧ l.length ≤ 512 ∧ RcAt k rb m g st' bad (cs.set off (.slice s l.length cap)) t w' ∧ OL w w' 59 6 s cap (l.map Mg.Ed.cells) ∧ Upd w w' [rb, g] := by
  obtain ⟨inf, hin, hz0, hz1, hz2⟩ := info_parts inf_edit
  obtain ⟨d0, d3, d4, dz⟩ := h.cells
  have HH := Lib.hid h
  have e0 := h.cell off _ hoff
  have HCN := Lib.hid (countR w rb st 512 (by decide) h.rd)
  have HOF : Hid (off < cs.length) := Lib.hid (List.getElem?_eq_some_iff.1 hoff).1
  clear h hoff
  go_enter Tryz.func113, Tryz.ntmps113
  go_wp2_with fail
  refine HCN.out.mono ?_
  rintro e w1 ⟨n, st1, rfl, hn, hn0, hst1, hrd1, hu1⟩
  have h1 := HH.out.read hrd1 hu1
  have HST1 := Lib.hid hst1
  have HN0 := Lib.hid hn0
  have hnI : (0 : Int) ≤ n ∧ (n : Int) ≤ 512 := by omega
  have HN := Lib.hid hn
  have hv1 := HH.out.cell off _ (List.getElem?_eq_getElem HOF.out)
  have c1 := h1.cell off _ (List.getElem?_eq_getElem HOF.out)
  have f1 := h1.thaw off
  have HR1 := Lib.hid (h1.set off (.slice none 0 0))
  have HU1 : Hid (Upd w (w1.setCell ⟨g, off, none⟩ (.slice none 0 0)) [rb, g]) := Lib.hid ((hu1.mono (by simp)).setCell (.inl (by simp)) _)
  clear hst1 hrd1 hu1 h1 hn0 hn hv1 d0 d3 d4 dz e0 HCN
  go_wp2_with fail
  generalize w1.setCell ⟨g, off, none⟩ (.slice none 0 0) = w2 at *
  clear c1 f1
  go_loopw [26] (fun vi wr => ∃ (i : Nat) (l : List Mg.Ed) (s : Option Addr) (cap : Nat) (sti : Option (List UInt8)), i ≤ n ∧ vi = .int .i64 i ∧ l.length = i ∧ Rounds Mg.cEd.dec st1 n i l sti ∧ (∀ a ∈ l, a.Good) ∧ RcAt k rb m g sti bad (cs.set off (.slice s i cap)) t wr ∧ OL w wr 59 6 s cap (l.map Mg.Ed.cells) ∧ Upd w wr [rb, g]) (fun vi _ => n - (intOf vi).toNat)
  case atStart => exact ⟨0, [], none, 0, st1, Nat.zero_le _, rfl, rfl, Rounds.start HN0.out, by simp, HR1.out, OL.nil _ _ _ _, HU1.out⟩
  case round =>
    clear HR1 HU1 HN0
    obtain ⟨i, l, s, cap, sti, hi, rfl, hl, hro, hgd, hr, hol, hu⟩ := hrel
    have HRO := Lib.hid hro
    have HGD := Lib.hid hgd
    have HR := Lib.hid hr
    have HOL := Lib.hid hol
    have HU := Lib.hid hu
    have HL := Lib.hid hl
    clear hro hgd hr hol hu hl
    by_cases hlt : i < n
    · have hiI : (0 : Int) ≤ i ∧ (i : Int) < n := by omega
      have hf := HR.out.fresh [.int .u8 0, .string ⟨#[]⟩, .bool false, .int .u64 0, .int .u64 0, .string ⟨#[]⟩] 59
      have HRD := Lib.hid (editR k rb m wr.heap.size 0 sti bad _ _ _ hf (by decide))
      have HLT := Lib.hid hlt
      clear hf
      go_wp2_with fail
      refine HRD.out.mono ?_
      rintro e w3 ⟨rfl, y, st2, hs2, hy2, hr2, hu2⟩
      have hg3 := hr2.back (HR.out.alloc _) hu2 (by have := HR.out.lts; omega)
      have HUX : Hid (Upd w w3 [rb, g]) := Lib.hid ((HU.out.alloc _).trans hu2 (fun b hb => by
        simp at hb
        rcases hb with rfl | rfl
        · exact .inl (by simp)
        · exact .inr HU.out.size))
      have hol3 : OL w w3 59 6 s cap (l.map Mg.Ed.cells) := HOL.out.updF ((((Upd.refl wr []).alloc _).mono (by simp)).trans hu2 (fun b hb => .inl hb)) (fun b hb hf => by
        have h5 := HOL.out.far b hb
        have h6 := HOL.out.sl.lt b hb
        have h7 := HH.out.lts
        simp at hf
        omega)
      obtain ⟨s4, cap4, w4, hrun, hol4, hk4⟩ := ol_push2 (P := Tryz.prog) (T := 29) Tryz.underlying29 hin hz0 hz1 hz2 rfl (by decide) (by decide) (w := w) (W := w3.drew) HUX.out.size (hol3.updF (Upd.refl w3 []).drew (by simp)) y.cells rfl (by intro u hu; simp at hu; first | (subst hu; rfl) | (rcases hu with rfl | rfl | rfl | rfl | rfl | rfl <;> rfl)) (by have := HL.out; have := HN.out; simp; omega)
      rw [List.length_map, HL.out] at hrun
      have hrun2 : (appSem #[29, 29] 29 #[.slice s i cap, .slice (some ⟨w3.heap.size, 0, none⟩) 1 1]).run Tryz.prog ((w3.alloc (.cells #[.int .u8 y.kind, .string y.p, .bool y.any, .int .u64 y.want, .int .u64 y.n, .string y.t] 59 (0, 0))).drew) = .ok (.slice s4 (i + 1) cap4) w4 := hrun
      have q0 : w3.drew.cell? ⟨wr.heap.size, 0, none⟩ = some (.int .u8 y.kind) := hr2.cell 0 _ rfl
      have q1 : w3.drew.cell? ⟨wr.heap.size, 1, none⟩ = some (.string y.p) := hr2.cell 1 _ rfl
      have q2 : w3.drew.cell? ⟨wr.heap.size, 2, none⟩ = some (.bool y.any) := hr2.cell 2 _ rfl
      have q3 : w3.drew.cell? ⟨wr.heap.size, 3, none⟩ = some (.int .u64 y.want) := hr2.cell 3 _ rfl
      have q4 : w3.drew.cell? ⟨wr.heap.size, 4, none⟩ = some (.int .u64 y.n) := hr2.cell 4 _ rfl
      have q5 : w3.drew.cell? ⟨wr.heap.size, 5, none⟩ = some (.string y.t) := hr2.cell 5 _ rfl
      have qs : w3.drew.cell? ⟨g, off, none⟩ = some (.slice s i cap) := hg3.cell off _ (List.getElem?_set_self HOF.out)
      have qs2 : ((w3.alloc (.cells #[.int .u8 y.kind, .string y.p, .bool y.any, .int .u64 y.want, .int .u64 y.n, .string y.t] 59 (0, 0))).drew).cell? ⟨g, off, none⟩ = some (.slice s i cap) := (hg3.alloc _).cell off _ (List.getElem?_set_self HOF.out)
      have hg4 := (hg3.keep (Own.refl w3).drew.below).other hk4.upd (fun b hb => by
        have h5 := HOL.out.far b hb
        have h7 := HH.out.lts
        omega)
      have qz := hg4.cell off _ (List.getElem?_set_self HOF.out)
      have f4 := hg4.thaw off
      have hg5 := hg4.set off (.slice s4 (i + 1) cap4)
      rw [List.set_set] at hg5
      have HG5 := Lib.hid hg5
      have HU5 : Hid (Upd w (w4.setCell ⟨g, off, none⟩ (.slice s4 (i + 1) cap4)) [rb, g]) := Lib.hid ((HUX.out.drew.trans hk4.upd (fun b hb => .inr (HOL.out.far b hb))).setCell (.inl (by simp)) _)
      have HOL5 : Hid (OL w (w4.setCell ⟨g, off, none⟩ (.slice s4 (i + 1) cap4)) 59 6 s4 cap4 ((l ++ [y]).map Mg.Ed.cells)) := Lib.hid (by
        rw [List.map_append]
        exact hol4.updB ((Upd.refl w4 [g]).setCell (.inl (by simp)) _) (by simpa using HH.out.lts.2.2))
      have HS2 := Lib.hid hs2
      have HY2 := Lib.hid hy2
      clear hs2 hy2 hr2 hg3 hu2 hol3 HRD hg4 hg5 hol4 hk4
      go_wp2_with fail
      go_region
      generalize w4.setCell ⟨g, off, none⟩ (.slice s4 (i + 1) cap4) = w5 at *
      clear hrun hrun2 q0 q1 q2 q3 q4 q5 qs qs2 qz f4
      obtain ⟨d0, d3, d4, dz⟩ := HG5.out.cells
      have HER := Lib.hid (errR w5 rb st2 HG5.out.rd)
      go_wp2_with fail
      refine HER.out.mono ?_
      rintro e w6 ⟨ec, rfl, hec, rfl⟩
      clear d0 d3 d4 dz HER
      cases st2 with
      | none =>
        rw [Option.isNone_none] at hec
        go_wp2_with fail
        refine bodyPost_ret (v := .tuple #[]) (by simp [results, Tryz.results113, go_sem]) rfl ⟨rfl, l ++ [y], s4, cap4, none, HRO.out.fail HLT.out HS2.out HST1.out, ?_, ?_, ?_, HOL5.out, HU5.out⟩
        · intro a ha
          rcases List.mem_append.1 ha with h1 | h1
          · exact HGD.out a h1
          · simp at h1; rw [h1]; exact HY2.out
        · have := HL.out; have := HN.out; have := HLT.out; simp; omega
        · have h1 := HG5.out
          rw [show i + 1 = (l ++ [y]).length by simp; exact HL.out.symm] at h1
          exact h1
      | some r2 =>
        rw [Option.isNone_some] at hec
        go_wp2_with fail
        go_roundw
        case rel =>
          refine ⟨i + 1, l ++ [y], s4, cap4, some r2, by omega, by go_num, by simp; exact HL.out, HRO.out.next HS2.out, ?_, HG5.out, HOL5.out, HU5.out⟩
          intro a ha
          rcases List.mem_append.1 ha with h1 | h1
          · exact HGD.out a h1
          · simp at h1; rw [h1]; exact HY2.out
        case measure => simp [intOf]; omega
    · obtain rfl : i = n := by omega
      go_wp2_with fail
      refine bodyPost_ret (v := .tuple #[]) (by simp [results, Tryz.results113, go_sem]) rfl ⟨rfl, l, s, cap, sti, HRO.out.done HST1.out, HGD.out, by rw [HL.out]; exact HN.out, by rw [HL.out]; exact HR.out, HOL.out, HU.out⟩

theorem inf_span : (Tryz.prog.info? 31).map (fun i => (i.zero, i.size, i.bytes)) = some (some (.agg #[.int .u64 0, .int .u64 0]), 2, 16) := by kernel_rfl
set_option maxRecDepth 20000 in
set_option maxHeartbeats 8000000 in
theorem listR_span (k rb m g off : Nat) (st : Option (List UInt8)) (bad : Bool) (cs : List Value) (t : TypeId) (s0 : Option Addr) (n0 c0 : Nat) (w : World) (h : RcAt k rb m g st bad cs t w) (hoff : cs[off]? = some (.slice s0 n0 c0)) :
    Calls Tryz.prog 120 #[.pointer (some ⟨k, 0, none⟩), .pointer (some ⟨g, off, none⟩), .func (.func 117) #[.pointer (some ⟨k, 0, none⟩)] #[]] w fun e w' => e = .returned (.tuple #[]) ∧
      ∃ (l : List Mg.Rng) (s : Option Addr) (cap : Nat) (st' : Option (List UInt8)), Step (Mg.list 512 Mg.cRng).dec st l st' ∧ (∀ a ∈ l, a.Good) ∧ l.length ≤ 512 ∧ RcAt k rb m g st' bad (cs.set off (.slice s l.length cap)) t w' ∧ OL w w' 31 2 s cap (l.map Mg.Rng.cells) ∧ Upd w w' [rb, g] := by
  obtain ⟨inf, hin, hz0, hz1, hz2⟩ := info_parts inf_span
  obtain ⟨d0, d3, d4, dz⟩ := h.cells
  have HH := Lib.hid h
  have e0 := h.cell off _ hoff
  have HCN := Lib.hid (countR w rb st 512 (by decide) h.rd)
  have HOF : Hid (off < cs.length) := Lib.hid (List.getElem?_eq_some_iff.1 hoff).1
  clear h hoff
  go_enter Tryz.func120, Tryz.ntmps120
  go_wp2_with fail
  refine HCN.out.mono ?_
  rintro e w1 ⟨n, st1, rfl, hn, hn0, hst1, hrd1, hu1⟩
  have h1 := HH.out.read hrd1 hu1
  have HST1 := Lib.hid hst1
  have HN0 := Lib.hid hn0
  have hnI : (0 : Int) ≤ n ∧ (n : Int) ≤ 512 := by omega
  have HN := Lib.hid hn
  have hv1 := HH.out.cell off _ (List.getElem?_eq_getElem HOF.out)
  have c1 := h1.cell off _ (List.getElem?_eq_getElem HOF.out)
  have f1 := h1.thaw off
  have HR1 := Lib.hid (h1.set off (.slice none 0 0))
  have HU1 : Hid (Upd w (w1.setCell ⟨g, off, none⟩ (.slice none 0 0)) [rb, g]) := Lib.hid ((hu1.mono (by simp)).setCell (.inl (by simp)) _)
  clear hst1 hrd1 hu1 h1 hn0 hn hv1 d0 d3 d4 dz e0 HCN
  go_wp2_with fail
  generalize w1.setCell ⟨g, off, none⟩ (.slice none 0 0) = w2 at *
  clear c1 f1
  go_loopw [26] (fun vi wr => ∃ (i : Nat) (l : List Mg.Rng) (s : Option Addr) (cap : Nat) (sti : Option (List UInt8)), i ≤ n ∧ vi = .int .i64 i ∧ l.length = i ∧ Rounds Mg.cRng.dec st1 n i l sti ∧ (∀ a ∈ l, a.Good) ∧ RcAt k rb m g sti bad (cs.set off (.slice s i cap)) t wr ∧ OL w wr 31 2 s cap (l.map Mg.Rng.cells) ∧ Upd w wr [rb, g]) (fun vi _ => n - (intOf vi).toNat)
  case atStart => exact ⟨0, [], none, 0, st1, Nat.zero_le _, rfl, rfl, Rounds.start HN0.out, by simp, HR1.out, OL.nil _ _ _ _, HU1.out⟩
  case round =>
    clear HR1 HU1 HN0
    obtain ⟨i, l, s, cap, sti, hi, rfl, hl, hro, hgd, hr, hol, hu⟩ := hrel
    have HRO := Lib.hid hro
    have HGD := Lib.hid hgd
    have HR := Lib.hid hr
    have HOL := Lib.hid hol
    have HU := Lib.hid hu
    have HL := Lib.hid hl
    clear hro hgd hr hol hu hl
    by_cases hlt : i < n
    · have hiI : (0 : Int) ≤ i ∧ (i : Int) < n := by omega
      have hf := HR.out.fresh [.int .u64 0, .int .u64 0] 31
      have HRD := Lib.hid (spanR k rb m wr.heap.size 0 sti bad _ _ _ hf (by decide))
      have HLT := Lib.hid hlt
      clear hf
      go_wp2_with fail
      refine HRD.out.mono ?_
      rintro e w3 ⟨rfl, y, st2, hs2, hy2, hr2, hu2⟩
      have hg3 := hr2.back (HR.out.alloc _) hu2 (by have := HR.out.lts; omega)
      have HUX : Hid (Upd w w3 [rb, g]) := Lib.hid ((HU.out.alloc _).trans hu2 (fun b hb => by
        simp at hb
        rcases hb with rfl | rfl
        · exact .inl (by simp)
        · exact .inr HU.out.size))
      have hol3 : OL w w3 31 2 s cap (l.map Mg.Rng.cells) := HOL.out.updF ((((Upd.refl wr []).alloc _).mono (by simp)).trans hu2 (fun b hb => .inl hb)) (fun b hb hf => by
        have h5 := HOL.out.far b hb
        have h6 := HOL.out.sl.lt b hb
        have h7 := HH.out.lts
        simp at hf
        omega)
      obtain ⟨s4, cap4, w4, hrun, hol4, hk4⟩ := ol_push2 (P := Tryz.prog) (T := 35) Tryz.underlying35 hin hz0 hz1 hz2 rfl (by decide) (by decide) (w := w) (W := w3.drew) HUX.out.size (hol3.updF (Upd.refl w3 []).drew (by simp)) y.cells rfl (by intro u hu; simp at hu; first | (subst hu; rfl) | (rcases hu with rfl | rfl <;> rfl)) (by have := HL.out; have := HN.out; simp; omega)
      rw [List.length_map, HL.out] at hrun
      have hrun2 : (appSem #[35, 35] 35 #[.slice s i cap, .slice (some ⟨w3.heap.size, 0, none⟩) 1 1]).run Tryz.prog ((w3.alloc (.cells #[.int .u64 y.frm, .int .u64 y.top] 31 (0, 0))).drew) = .ok (.slice s4 (i + 1) cap4) w4 := hrun
      have q0 : w3.drew.cell? ⟨wr.heap.size, 0, none⟩ = some (.int .u64 y.frm) := hr2.cell 0 _ rfl
      have q1 : w3.drew.cell? ⟨wr.heap.size, 1, none⟩ = some (.int .u64 y.top) := hr2.cell 1 _ rfl
      have qs : w3.drew.cell? ⟨g, off, none⟩ = some (.slice s i cap) := hg3.cell off _ (List.getElem?_set_self HOF.out)
      have qs2 : ((w3.alloc (.cells #[.int .u64 y.frm, .int .u64 y.top] 31 (0, 0))).drew).cell? ⟨g, off, none⟩ = some (.slice s i cap) := (hg3.alloc _).cell off _ (List.getElem?_set_self HOF.out)
      have hg4 := (hg3.keep (Own.refl w3).drew.below).other hk4.upd (fun b hb => by
        have h5 := HOL.out.far b hb
        have h7 := HH.out.lts
        omega)
      have qz := hg4.cell off _ (List.getElem?_set_self HOF.out)
      have f4 := hg4.thaw off
      have hg5 := hg4.set off (.slice s4 (i + 1) cap4)
      rw [List.set_set] at hg5
      have HG5 := Lib.hid hg5
      have HU5 : Hid (Upd w (w4.setCell ⟨g, off, none⟩ (.slice s4 (i + 1) cap4)) [rb, g]) := Lib.hid ((HUX.out.drew.trans hk4.upd (fun b hb => .inr (HOL.out.far b hb))).setCell (.inl (by simp)) _)
      have HOL5 : Hid (OL w (w4.setCell ⟨g, off, none⟩ (.slice s4 (i + 1) cap4)) 31 2 s4 cap4 ((l ++ [y]).map Mg.Rng.cells)) := Lib.hid (by
        rw [List.map_append]
        exact hol4.updB ((Upd.refl w4 [g]).setCell (.inl (by simp)) _) (by simpa using HH.out.lts.2.2))
      have HS2 := Lib.hid hs2
      have HY2 := Lib.hid hy2
      clear hs2 hy2 hr2 hg3 hu2 hol3 HRD hg4 hg5 hol4 hk4
      go_wp2_with fail
      go_region
      generalize w4.setCell ⟨g, off, none⟩ (.slice s4 (i + 1) cap4) = w5 at *
      clear hrun hrun2 q0 q1 qs qs2 qz f4
      obtain ⟨d0, d3, d4, dz⟩ := HG5.out.cells
      have HER := Lib.hid (errR w5 rb st2 HG5.out.rd)
      go_wp2_with fail
      refine HER.out.mono ?_
      rintro e w6 ⟨ec, rfl, hec, rfl⟩
      clear d0 d3 d4 dz HER
      cases st2 with
      | none =>
        rw [Option.isNone_none] at hec
        go_wp2_with fail
        refine bodyPost_ret (v := .tuple #[]) (by simp [results, Tryz.results120, go_sem]) rfl ⟨rfl, l ++ [y], s4, cap4, none, HRO.out.fail HLT.out HS2.out HST1.out, ?_, ?_, ?_, HOL5.out, HU5.out⟩
        · intro a ha
          rcases List.mem_append.1 ha with h1 | h1
          · exact HGD.out a h1
          · simp at h1; rw [h1]; exact HY2.out
        · have := HL.out; have := HN.out; have := HLT.out; simp; omega
        · have h1 := HG5.out
          rw [show i + 1 = (l ++ [y]).length by simp; exact HL.out.symm] at h1
          exact h1
      | some r2 =>
        rw [Option.isNone_some] at hec
        go_wp2_with fail
        go_roundw
        case rel =>
          refine ⟨i + 1, l ++ [y], s4, cap4, some r2, by omega, by go_num, by simp; exact HL.out, HRO.out.next HS2.out, ?_, HG5.out, HOL5.out, HU5.out⟩
          intro a ha
          rcases List.mem_append.1 ha with h1 | h1
          · exact HGD.out a h1
          · simp at h1; rw [h1]; exact HY2.out
        case measure => simp [intOf]; omega
    · obtain rfl : i = n := by omega
      go_wp2_with fail
      refine bodyPost_ret (v := .tuple #[]) (by simp [results, Tryz.results120, go_sem]) rfl ⟨rfl, l, s, cap, sti, HRO.out.done HST1.out, HGD.out, by rw [HL.out]; exact HN.out, by rw [HL.out]; exact HR.out, HOL.out, HU.out⟩

theorem inf_version : (Tryz.prog.info? 62).map (fun i => (i.zero, i.size, i.bytes)) = some (some (.agg #[.int .u64 0, .int .u8 0, .string ⟨#[]⟩]), 3, 32) := by kernel_rfl
set_option maxRecDepth 20000 in
set_option maxHeartbeats 8000000 in
theorem listR_version (k rb m g off : Nat) (st : Option (List UInt8)) (bad : Bool) (cs : List Value) (t : TypeId) (s0 : Option Addr) (n0 c0 : Nat) (w : World) (h : RcAt k rb m g st bad cs t w) (hoff : cs[off]? = some (.slice s0 n0 c0)) :
    Calls Tryz.prog 142 #[.pointer (some ⟨k, 0, none⟩), .pointer (some ⟨g, off, none⟩), .func (.func 143) #[.pointer (some ⟨k, 0, none⟩)] #[]] w fun e w' => e = .returned (.tuple #[]) ∧
      ∃ (l : List Mg.Ver) (s : Option Addr) (cap : Nat) (st' : Option (List UInt8)), Step (Mg.list 512 Mg.cVer).dec st l st' ∧ (∀ a ∈ l, a.Good) ∧ l.length ≤ 512 ∧ RcAt k rb m g st' bad (cs.set off (.slice s l.length cap)) t w' ∧ OL w w' 62 3 s cap (l.map Mg.Ver.cells) ∧ Upd w w' [rb, g] := by
  obtain ⟨inf, hin, hz0, hz1, hz2⟩ := info_parts inf_version
  obtain ⟨d0, d3, d4, dz⟩ := h.cells
  have HH := Lib.hid h
  have e0 := h.cell off _ hoff
  have HCN := Lib.hid (countR w rb st 512 (by decide) h.rd)
  have HOF : Hid (off < cs.length) := Lib.hid (List.getElem?_eq_some_iff.1 hoff).1
  clear h hoff
  go_enter Tryz.func142, Tryz.ntmps142
  go_wp2_with fail
  refine HCN.out.mono ?_
  rintro e w1 ⟨n, st1, rfl, hn, hn0, hst1, hrd1, hu1⟩
  have h1 := HH.out.read hrd1 hu1
  have HST1 := Lib.hid hst1
  have HN0 := Lib.hid hn0
  have hnI : (0 : Int) ≤ n ∧ (n : Int) ≤ 512 := by omega
  have HN := Lib.hid hn
  have hv1 := HH.out.cell off _ (List.getElem?_eq_getElem HOF.out)
  have c1 := h1.cell off _ (List.getElem?_eq_getElem HOF.out)
  have f1 := h1.thaw off
  have HR1 := Lib.hid (h1.set off (.slice none 0 0))
  have HU1 : Hid (Upd w (w1.setCell ⟨g, off, none⟩ (.slice none 0 0)) [rb, g]) := Lib.hid ((hu1.mono (by simp)).setCell (.inl (by simp)) _)
  clear hst1 hrd1 hu1 h1 hn0 hn hv1 d0 d3 d4 dz e0 HCN
  go_wp2_with fail
  generalize w1.setCell ⟨g, off, none⟩ (.slice none 0 0) = w2 at *
  clear c1 f1
  go_loopw [26] (fun vi wr => ∃ (i : Nat) (l : List Mg.Ver) (s : Option Addr) (cap : Nat) (sti : Option (List UInt8)), i ≤ n ∧ vi = .int .i64 i ∧ l.length = i ∧ Rounds Mg.cVer.dec st1 n i l sti ∧ (∀ a ∈ l, a.Good) ∧ RcAt k rb m g sti bad (cs.set off (.slice s i cap)) t wr ∧ OL w wr 62 3 s cap (l.map Mg.Ver.cells) ∧ Upd w wr [rb, g]) (fun vi _ => n - (intOf vi).toNat)
  case atStart => exact ⟨0, [], none, 0, st1, Nat.zero_le _, rfl, rfl, Rounds.start HN0.out, by simp, HR1.out, OL.nil _ _ _ _, HU1.out⟩
  case round =>
    clear HR1 HU1 HN0
    obtain ⟨i, l, s, cap, sti, hi, rfl, hl, hro, hgd, hr, hol, hu⟩ := hrel
    have HRO := Lib.hid hro
    have HGD := Lib.hid hgd
    have HR := Lib.hid hr
    have HOL := Lib.hid hol
    have HU := Lib.hid hu
    have HL := Lib.hid hl
    clear hro hgd hr hol hu hl
    by_cases hlt : i < n
    · have hiI : (0 : Int) ≤ i ∧ (i : Int) < n := by omega
      have hf := HR.out.fresh [.int .u64 0, .int .u8 0, .string ⟨#[]⟩] 62
      have HRD := Lib.hid (versionR k rb m wr.heap.size 0 sti bad _ _ _ hf (by decide))
      have HLT := Lib.hid hlt
      clear hf
      go_wp2_with fail
      refine HRD.out.mono ?_
      rintro e w3 ⟨rfl, y, st2, hs2, hy2, hr2, hu2⟩
      have hg3 := hr2.back (HR.out.alloc _) hu2 (by have := HR.out.lts; omega)
      have HUX : Hid (Upd w w3 [rb, g]) := Lib.hid ((HU.out.alloc _).trans hu2 (fun b hb => by
        simp at hb
        rcases hb with rfl | rfl
        · exact .inl (by simp)
        · exact .inr HU.out.size))
      have hol3 : OL w w3 62 3 s cap (l.map Mg.Ver.cells) := HOL.out.updF ((((Upd.refl wr []).alloc _).mono (by simp)).trans hu2 (fun b hb => .inl hb)) (fun b hb hf => by
        have h5 := HOL.out.far b hb
        have h6 := HOL.out.sl.lt b hb
        have h7 := HH.out.lts
        simp at hf
        omega)
      obtain ⟨s4, cap4, w4, hrun, hol4, hk4⟩ := ol_push2 (P := Tryz.prog) (T := 68) Tryz.underlying68 hin hz0 hz1 hz2 rfl (by decide) (by decide) (w := w) (W := w3.drew) HUX.out.size (hol3.updF (Upd.refl w3 []).drew (by simp)) y.cells rfl (by intro u hu; simp at hu; first | (subst hu; rfl) | (rcases hu with rfl | rfl | rfl <;> rfl)) (by have := HL.out; have := HN.out; simp; omega)
      rw [List.length_map, HL.out] at hrun
      have hrun2 : (appSem #[68, 68] 68 #[.slice s i cap, .slice (some ⟨w3.heap.size, 0, none⟩) 1 1]).run Tryz.prog ((w3.alloc (.cells #[.int .u64 y.n, .int .u8 y.st, .string y.t] 62 (0, 0))).drew) = .ok (.slice s4 (i + 1) cap4) w4 := hrun
      have q0 : w3.drew.cell? ⟨wr.heap.size, 0, none⟩ = some (.int .u64 y.n) := hr2.cell 0 _ rfl
      have q1 : w3.drew.cell? ⟨wr.heap.size, 1, none⟩ = some (.int .u8 y.st) := hr2.cell 1 _ rfl
      have q2 : w3.drew.cell? ⟨wr.heap.size, 2, none⟩ = some (.string y.t) := hr2.cell 2 _ rfl
      have qs : w3.drew.cell? ⟨g, off, none⟩ = some (.slice s i cap) := hg3.cell off _ (List.getElem?_set_self HOF.out)
      have qs2 : ((w3.alloc (.cells #[.int .u64 y.n, .int .u8 y.st, .string y.t] 62 (0, 0))).drew).cell? ⟨g, off, none⟩ = some (.slice s i cap) := (hg3.alloc _).cell off _ (List.getElem?_set_self HOF.out)
      have hg4 := (hg3.keep (Own.refl w3).drew.below).other hk4.upd (fun b hb => by
        have h5 := HOL.out.far b hb
        have h7 := HH.out.lts
        omega)
      have qz := hg4.cell off _ (List.getElem?_set_self HOF.out)
      have f4 := hg4.thaw off
      have hg5 := hg4.set off (.slice s4 (i + 1) cap4)
      rw [List.set_set] at hg5
      have HG5 := Lib.hid hg5
      have HU5 : Hid (Upd w (w4.setCell ⟨g, off, none⟩ (.slice s4 (i + 1) cap4)) [rb, g]) := Lib.hid ((HUX.out.drew.trans hk4.upd (fun b hb => .inr (HOL.out.far b hb))).setCell (.inl (by simp)) _)
      have HOL5 : Hid (OL w (w4.setCell ⟨g, off, none⟩ (.slice s4 (i + 1) cap4)) 62 3 s4 cap4 ((l ++ [y]).map Mg.Ver.cells)) := Lib.hid (by
        rw [List.map_append]
        exact hol4.updB ((Upd.refl w4 [g]).setCell (.inl (by simp)) _) (by simpa using HH.out.lts.2.2))
      have HS2 := Lib.hid hs2
      have HY2 := Lib.hid hy2
      clear hs2 hy2 hr2 hg3 hu2 hol3 HRD hg4 hg5 hol4 hk4
      go_wp2_with fail
      go_region
      generalize w4.setCell ⟨g, off, none⟩ (.slice s4 (i + 1) cap4) = w5 at *
      clear hrun hrun2 q0 q1 q2 qs qs2 qz f4
      obtain ⟨d0, d3, d4, dz⟩ := HG5.out.cells
      have HER := Lib.hid (errR w5 rb st2 HG5.out.rd)
      go_wp2_with fail
      refine HER.out.mono ?_
      rintro e w6 ⟨ec, rfl, hec, rfl⟩
      clear d0 d3 d4 dz HER
      cases st2 with
      | none =>
        rw [Option.isNone_none] at hec
        go_wp2_with fail
        refine bodyPost_ret (v := .tuple #[]) (by simp [results, Tryz.results142, go_sem]) rfl ⟨rfl, l ++ [y], s4, cap4, none, HRO.out.fail HLT.out HS2.out HST1.out, ?_, ?_, ?_, HOL5.out, HU5.out⟩
        · intro a ha
          rcases List.mem_append.1 ha with h1 | h1
          · exact HGD.out a h1
          · simp at h1; rw [h1]; exact HY2.out
        · have := HL.out; have := HN.out; have := HLT.out; simp; omega
        · have h1 := HG5.out
          rw [show i + 1 = (l ++ [y]).length by simp; exact HL.out.symm] at h1
          exact h1
      | some r2 =>
        rw [Option.isNone_some] at hec
        go_wp2_with fail
        go_roundw
        case rel =>
          refine ⟨i + 1, l ++ [y], s4, cap4, some r2, by omega, by go_num, by simp; exact HL.out, HRO.out.next HS2.out, ?_, HG5.out, HOL5.out, HU5.out⟩
          intro a ha
          rcases List.mem_append.1 ha with h1 | h1
          · exact HGD.out a h1
          · simp at h1; rw [h1]; exact HY2.out
        case measure => simp [intOf]; omega
    · obtain rfl : i = n := by omega
      go_wp2_with fail
      refine bodyPost_ret (v := .tuple #[]) (by simp [results, Tryz.results142, go_sem]) rfl ⟨rfl, l, s, cap, sti, HRO.out.done HST1.out, HGD.out, by rw [HL.out]; exact HN.out, by rw [HL.out]; exact HR.out, HOL.out, HU.out⟩

theorem inf_got : (Tryz.prog.info? 64).map (fun i => (i.zero, i.size, i.bytes)) = some (some (.agg #[.int .u64 0, .int .u8 0, .string ⟨#[]⟩, .int .i64 0]), 4, 40) := by kernel_rfl
set_option maxRecDepth 20000 in
set_option maxHeartbeats 8000000 in
theorem listR_got (k rb m g off : Nat) (st : Option (List UInt8)) (bad : Bool) (cs : List Value) (t : TypeId) (s0 : Option Addr) (n0 c0 : Nat) (w : World) (h : RcAt k rb m g st bad cs t w) (hoff : cs[off]? = some (.slice s0 n0 c0)) :
    Calls Tryz.prog 122 #[.pointer (some ⟨k, 0, none⟩), .pointer (some ⟨g, off, none⟩), .func (.func 123) #[.pointer (some ⟨k, 0, none⟩)] #[]] w fun e w' => e = .returned (.tuple #[]) ∧
      ∃ (l : List Mg.Got) (s : Option Addr) (cap : Nat) (st' : Option (List UInt8)), Step (Mg.list 512 Mg.cGot).dec st l st' ∧ (∀ a ∈ l, a.Good) ∧ l.length ≤ 512 ∧ RcAt k rb m g st' bad (cs.set off (.slice s l.length cap)) t w' ∧ OL w w' 64 4 s cap (l.map Mg.Got.cells) ∧ Upd w w' [rb, g] := by
  obtain ⟨inf, hin, hz0, hz1, hz2⟩ := info_parts inf_got
  obtain ⟨d0, d3, d4, dz⟩ := h.cells
  have HH := Lib.hid h
  have e0 := h.cell off _ hoff
  have HCN := Lib.hid (countR w rb st 512 (by decide) h.rd)
  have HOF : Hid (off < cs.length) := Lib.hid (List.getElem?_eq_some_iff.1 hoff).1
  clear h hoff
  go_enter Tryz.func122, Tryz.ntmps122
  go_wp2_with fail
  refine HCN.out.mono ?_
  rintro e w1 ⟨n, st1, rfl, hn, hn0, hst1, hrd1, hu1⟩
  have h1 := HH.out.read hrd1 hu1
  have HST1 := Lib.hid hst1
  have HN0 := Lib.hid hn0
  have hnI : (0 : Int) ≤ n ∧ (n : Int) ≤ 512 := by omega
  have HN := Lib.hid hn
  have hv1 := HH.out.cell off _ (List.getElem?_eq_getElem HOF.out)
  have c1 := h1.cell off _ (List.getElem?_eq_getElem HOF.out)
  have f1 := h1.thaw off
  have HR1 := Lib.hid (h1.set off (.slice none 0 0))
  have HU1 : Hid (Upd w (w1.setCell ⟨g, off, none⟩ (.slice none 0 0)) [rb, g]) := Lib.hid ((hu1.mono (by simp)).setCell (.inl (by simp)) _)
  clear hst1 hrd1 hu1 h1 hn0 hn hv1 d0 d3 d4 dz e0 HCN
  go_wp2_with fail
  generalize w1.setCell ⟨g, off, none⟩ (.slice none 0 0) = w2 at *
  clear c1 f1
  go_loopw [26] (fun vi wr => ∃ (i : Nat) (l : List Mg.Got) (s : Option Addr) (cap : Nat) (sti : Option (List UInt8)), i ≤ n ∧ vi = .int .i64 i ∧ l.length = i ∧ Rounds Mg.cGot.dec st1 n i l sti ∧ (∀ a ∈ l, a.Good) ∧ RcAt k rb m g sti bad (cs.set off (.slice s i cap)) t wr ∧ OL w wr 64 4 s cap (l.map Mg.Got.cells) ∧ Upd w wr [rb, g]) (fun vi _ => n - (intOf vi).toNat)
  case atStart => exact ⟨0, [], none, 0, st1, Nat.zero_le _, rfl, rfl, Rounds.start HN0.out, by simp, HR1.out, OL.nil _ _ _ _, HU1.out⟩
  case round =>
    clear HR1 HU1 HN0
    obtain ⟨i, l, s, cap, sti, hi, rfl, hl, hro, hgd, hr, hol, hu⟩ := hrel
    have HRO := Lib.hid hro
    have HGD := Lib.hid hgd
    have HR := Lib.hid hr
    have HOL := Lib.hid hol
    have HU := Lib.hid hu
    have HL := Lib.hid hl
    clear hro hgd hr hol hu hl
    by_cases hlt : i < n
    · have hiI : (0 : Int) ≤ i ∧ (i : Int) < n := by omega
      have hf := HR.out.fresh [.int .u64 0, .int .u8 0, .string ⟨#[]⟩, .int .i64 0] 64
      have HRD := Lib.hid (gotR k rb m wr.heap.size 0 sti bad _ _ _ hf (by decide))
      have HLT := Lib.hid hlt
      clear hf
      go_wp2_with fail
      refine HRD.out.mono ?_
      rintro e w3 ⟨rfl, y, st2, hs2, hy2, hr2, hu2⟩
      have hg3 := hr2.back (HR.out.alloc _) hu2 (by have := HR.out.lts; omega)
      have HUX : Hid (Upd w w3 [rb, g]) := Lib.hid ((HU.out.alloc _).trans hu2 (fun b hb => by
        simp at hb
        rcases hb with rfl | rfl
        · exact .inl (by simp)
        · exact .inr HU.out.size))
      have hol3 : OL w w3 64 4 s cap (l.map Mg.Got.cells) := HOL.out.updF ((((Upd.refl wr []).alloc _).mono (by simp)).trans hu2 (fun b hb => .inl hb)) (fun b hb hf => by
        have h5 := HOL.out.far b hb
        have h6 := HOL.out.sl.lt b hb
        have h7 := HH.out.lts
        simp at hf
        omega)
      obtain ⟨s4, cap4, w4, hrun, hol4, hk4⟩ := ol_push2 (P := Tryz.prog) (T := 37) Tryz.underlying37 hin hz0 hz1 hz2 rfl (by decide) (by decide) (w := w) (W := w3.drew) HUX.out.size (hol3.updF (Upd.refl w3 []).drew (by simp)) y.cells rfl (by intro u hu; simp at hu; first | (subst hu; rfl) | (rcases hu with rfl | rfl | rfl | rfl <;> rfl)) (by have := HL.out; have := HN.out; simp; omega)
      rw [List.length_map, HL.out] at hrun
      have hrun2 : (appSem #[37, 37] 37 #[.slice s i cap, .slice (some ⟨w3.heap.size, 0, none⟩) 1 1]).run Tryz.prog ((w3.alloc (.cells #[.int .u64 y.v.n, .int .u8 y.v.st, .string y.v.t, .int .i64 y.err] 64 (0, 0))).drew) = .ok (.slice s4 (i + 1) cap4) w4 := hrun
      have q0 : w3.drew.cell? ⟨wr.heap.size, 0, none⟩ = some (.int .u64 y.v.n) := hr2.cell 0 _ rfl
      have q1 : w3.drew.cell? ⟨wr.heap.size, 1, none⟩ = some (.int .u8 y.v.st) := hr2.cell 1 _ rfl
      have q2 : w3.drew.cell? ⟨wr.heap.size, 2, none⟩ = some (.string y.v.t) := hr2.cell 2 _ rfl
      have q3 : w3.drew.cell? ⟨wr.heap.size, 3, none⟩ = some (.int .i64 y.err) := hr2.cell 3 _ rfl
      have qs : w3.drew.cell? ⟨g, off, none⟩ = some (.slice s i cap) := hg3.cell off _ (List.getElem?_set_self HOF.out)
      have qs2 : ((w3.alloc (.cells #[.int .u64 y.v.n, .int .u8 y.v.st, .string y.v.t, .int .i64 y.err] 64 (0, 0))).drew).cell? ⟨g, off, none⟩ = some (.slice s i cap) := (hg3.alloc _).cell off _ (List.getElem?_set_self HOF.out)
      have hg4 := (hg3.keep (Own.refl w3).drew.below).other hk4.upd (fun b hb => by
        have h5 := HOL.out.far b hb
        have h7 := HH.out.lts
        omega)
      have qz := hg4.cell off _ (List.getElem?_set_self HOF.out)
      have f4 := hg4.thaw off
      have hg5 := hg4.set off (.slice s4 (i + 1) cap4)
      rw [List.set_set] at hg5
      have HG5 := Lib.hid hg5
      have HU5 : Hid (Upd w (w4.setCell ⟨g, off, none⟩ (.slice s4 (i + 1) cap4)) [rb, g]) := Lib.hid ((HUX.out.drew.trans hk4.upd (fun b hb => .inr (HOL.out.far b hb))).setCell (.inl (by simp)) _)
      have HOL5 : Hid (OL w (w4.setCell ⟨g, off, none⟩ (.slice s4 (i + 1) cap4)) 64 4 s4 cap4 ((l ++ [y]).map Mg.Got.cells)) := Lib.hid (by
        rw [List.map_append]
        exact hol4.updB ((Upd.refl w4 [g]).setCell (.inl (by simp)) _) (by simpa using HH.out.lts.2.2))
      have HS2 := Lib.hid hs2
      have HY2 := Lib.hid hy2
      clear hs2 hy2 hr2 hg3 hu2 hol3 HRD hg4 hg5 hol4 hk4
      go_wp2_with fail
      go_region
      generalize w4.setCell ⟨g, off, none⟩ (.slice s4 (i + 1) cap4) = w5 at *
      clear hrun hrun2 q0 q1 q2 q3 qs qs2 qz f4
      obtain ⟨d0, d3, d4, dz⟩ := HG5.out.cells
      have HER := Lib.hid (errR w5 rb st2 HG5.out.rd)
      go_wp2_with fail
      refine HER.out.mono ?_
      rintro e w6 ⟨ec, rfl, hec, rfl⟩
      clear d0 d3 d4 dz HER
      cases st2 with
      | none =>
        rw [Option.isNone_none] at hec
        go_wp2_with fail
        refine bodyPost_ret (v := .tuple #[]) (by simp [results, Tryz.results122, go_sem]) rfl ⟨rfl, l ++ [y], s4, cap4, none, HRO.out.fail HLT.out HS2.out HST1.out, ?_, ?_, ?_, HOL5.out, HU5.out⟩
        · intro a ha
          rcases List.mem_append.1 ha with h1 | h1
          · exact HGD.out a h1
          · simp at h1; rw [h1]; exact HY2.out
        · have := HL.out; have := HN.out; have := HLT.out; simp; omega
        · have h1 := HG5.out
          rw [show i + 1 = (l ++ [y]).length by simp; exact HL.out.symm] at h1
          exact h1
      | some r2 =>
        rw [Option.isNone_some] at hec
        go_wp2_with fail
        go_roundw
        case rel =>
          refine ⟨i + 1, l ++ [y], s4, cap4, some r2, by omega, by go_num, by simp; exact HL.out, HRO.out.next HS2.out, ?_, HG5.out, HOL5.out, HU5.out⟩
          intro a ha
          rcases List.mem_append.1 ha with h1 | h1
          · exact HGD.out a h1
          · simp at h1; rw [h1]; exact HY2.out
        case measure => simp [intOf]; omega
    · obtain rfl : i = n := by omega
      go_wp2_with fail
      refine bodyPost_ret (v := .tuple #[]) (by simp [results, Tryz.results122, go_sem]) rfl ⟨rfl, l, s, cap, sti, HRO.out.done HST1.out, HGD.out, by rw [HL.out]; exact HN.out, by rw [HL.out]; exact HR.out, HOL.out, HU.out⟩

end Go.Proofs.YtjgnomjjphkfbaaGreat
