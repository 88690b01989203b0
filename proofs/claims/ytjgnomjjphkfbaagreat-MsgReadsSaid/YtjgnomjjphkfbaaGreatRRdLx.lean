/-
  Joined out of the texts MsgRdRow MsgRdL3.
-/
import Derived.Test.YtjgnomjjphkfbaaGreatRRdL
import Derived.Test.YtjgnomjjphkfbaaGreatRList
namespace Go.Proofs.YtjgnomjjphkfbaaGreat
open Go.RowKit
attribute [local go_sem ↓ high] appSem_eq

/-- Two slices of unlike elements share no block. -/
theorem SliceIs.apart {w : World} {e1 e2 : TypeId} {z1 z2 : Nat} {a b : Option Addr} {n1 n2 c1 c2 : Nat} {xs ys : List Value} (h1 : SliceIs w e1 z1 a n1 c1 xs) (h2 : SliceIs w e2 z2 b n2 c2 ys) (hne : e1 ≠ e2) : ∀ k ∈ blks a, k ∉ blks b := by
  rcases h1.2 with ⟨rfl, _⟩ | ⟨g, off, cur, rfl, hg, r⟩
  · simp
  · intro k hk
    simp at hk
    subst hk
    exact h2.ne hg hne
/-- Rows of a call's own: their cells, and their versions. -/
def RowsO (w W : World) (l : List Mg.Row) (xs : List (List Value)) : Prop :=
  xs.length = l.length ∧ ∀ (i : Nat) (h : i < l.length), ∃ (s : Option Addr) (cap : Nat), xs[i]? = some [.string l[i].p, .int .u64 l[i].last, .slice s l[i].l.length cap] ∧ OL w W 62 3 s cap (l[i].l.map Mg.Ver.cells)
theorem RowsO.nil (w W : World) : RowsO w W [] [] := ⟨rfl, fun i h => by simp at h⟩
theorem RowsO.keep {w W W2 : World} {l : List Mg.Row} {xs : List (List Value)} (h : RowsO w W l xs) (hk : ∀ s n cap ys, SliceIs W 62 3 s n cap ys → (∀ b ∈ blks s, w.heap.size ≤ b) → ∀ b ∈ blks s, W2.heap[b]? = W.heap[b]?) : RowsO w W2 l xs :=
  ⟨h.1, fun i hi => by
    obtain ⟨s, cap, h1, h2⟩ := h.2 i hi
    exact ⟨s, cap, h1, h2.sl.keep (hk _ _ _ _ h2.sl h2.far), h2.far, h2.all⟩⟩
theorem RowsO.updB {w W W2 : World} {l : List Mg.Row} {xs : List (List Value)} {F : List Nat} (h : RowsO w W l xs) (hu : Upd W W2 F) (hF : ∀ b ∈ F, b < w.heap.size ∨ W.heap.size ≤ b) : RowsO w W2 l xs :=
  h.keep fun s n cap ys h1 h2 b hb => hu.keep b (h1.lt b hb) (fun hf => by
    have h3 := h1.lt b hb
    have h4 := h2 b hb
    have h5 := hF b hf
    omega)
theorem RowsO.base {w w0 W : World} {l : List Mg.Row} {xs : List (List Value)} (h : RowsO w W l xs) (hw : w0.heap.size ≤ w.heap.size) : RowsO w0 W l xs :=
  ⟨h.1, fun i hi => by
    obtain ⟨s, cap, h1, h2⟩ := h.2 i hi
    exact ⟨s, cap, h1, h2.base hw⟩⟩
theorem RowsO.push {w W : World} {l : List Mg.Row} {xs : List (List Value)} (h : RowsO w W l xs) (y : Mg.Row) {s : Option Addr} {cap : Nat} (hy : OL w W 62 3 s cap (y.l.map Mg.Ver.cells)) : RowsO w W (l ++ [y]) (xs ++ [[.string y.p, .int .u64 y.last, .slice s y.l.length cap]]) := by
  refine ⟨by simp [h.1], fun i hi => ?_⟩
  by_cases e : i < l.length
  · obtain ⟨s', cap', h1, h2⟩ := h.2 i e
    refine ⟨s', cap', ?_, ?_⟩
    · rw [List.getElem?_append_left (by rw [h.1]; exact e), h1]; simp only [List.getElem_append_left e]
    · simp only [List.getElem_append_left e]; exact h2
  · obtain rfl : i = l.length := by simp at hi; omega
    refine ⟨s, cap, ?_, ?_⟩
    · rw [List.getElem?_append_right (by rw [h.1]; exact Nat.le_refl _), h.1]; simp
    · simpa using hy

set_option maxRecDepth 20000 in
set_option maxHeartbeats 2000000 in
theorem rowR (k rb m g off : Nat) (st : Option (List UInt8)) (bad : Bool) (cs : List Value) (t : TypeId) (s0 : Option Addr) (n0 c0 : Nat) (w : World) (h : RcAt k rb m g st bad cs t w) (hoff : cs[off + 2]? = some (.slice s0 n0 c0)) :
    Calls Tryz.prog 119 #[.pointer (some ⟨k, 0, none⟩), .pointer (some ⟨g, off, none⟩)] w fun e w' => e = .returned (.tuple #[]) ∧ ∃ (x : Mg.Row) (s : Option Addr) (cap : Nat) (st' : Option (List UInt8)), Step Mg.cRow.dec st x st' ∧ x.Good ∧ RcAt k rb m g st' bad (putV cs off [.string x.p, .int .u64 x.last, .slice s x.l.length cap]) t w' ∧ OL w w' 62 3 s cap (x.l.map Mg.Ver.cells) ∧ Upd w w' [rb, g] := by
  have HO := Lib.hid hoff
  have HOL := Lib.hid (List.getElem?_eq_some_iff.1 hoff).1
  have H1 := Lib.hid (textR k rb m g off st bad _ _ 129 w h (by have := HOL.out; omega) (by decide))
  clear h hoff
  go_enter Tryz.func119, Tryz.ntmps119
  go_wp2_with fail
  refine H1.out.mono ?_
  rintro e w1 ⟨rfl, x1, s1, hs1, hx1, hr1, hu1⟩
  have HU1 := Lib.hid hu1
  have HS1 := Lib.hid hs1
  have HX1 := Lib.hid hx1
  have H2 := Lib.hid (numR_u64 k rb m g (off + 1) s1 bad _ _ 18446744073709551615 w1 hr1 (by have := HOL.out; simp only [List.length_set]; omega) (by decide))
  clear hr1 hu1 hs1 hx1
  go_wp2_with fail
  refine H2.out.mono ?_
  rintro e w2 ⟨rfl, x2, s2, hs2, hx2, hr2, hu2⟩
  have HU2 := Lib.hid (HU1.out.two hu2)
  have HS2 := Lib.hid hs2
  have HX2 := Lib.hid hx2
  have H3 := Lib.hid (listR_version k rb m g (off + 2) s2 bad _ _ s0 n0 c0 w2 hr2 (by rw [List.getElem?_set_ne (by omega), List.getElem?_set_ne (by omega)]; exact HO.out))
  clear hr2 hu2 hs2 hx2
  go_wp2_with fail
  refine H3.out.mono ?_
  rintro e w3 ⟨rfl, l, s, cap, s3, hs3, hg3, hn3, hr3, ho3, hu3⟩
  have HU3 := Lib.hid (HU2.out.two hu3)
  have HS3 := Lib.hid hs3
  have HG3 := Lib.hid hg3
  have HN3 := Lib.hid hn3
  have HR := Lib.hid hr3
  have HB := Lib.hid (ho3.base HU2.out.size)
  clear hr3 hu3 hs3 hg3 hn3 ho3
  go_wp2_with fail
  refine bodyPost_end (v := .tuple #[]) (by simp [results, Tryz.results119, go_sem]) rfl ⟨rfl, ⟨x1, x2, l⟩, s, cap, s3, Step.isoD (Step.seqD HS1.out (Step.seqD HS2.out HS3.out)), ?_, HR.out, HB.out, HU3.out⟩
  have y1 := HX1.out
  have y2 := HX2.out
  have y3 := HN3.out
  exact ⟨by unfold okT; dsimp only; omega, by unfold ok64; dsimp only; omega, HG3.out, by dsimp only; omega⟩

theorem inf_row : (Tryz.prog.info? 72).map (fun i => (i.zero, i.size, i.bytes)) = some (some (.agg #[.string ⟨#[]⟩, .int .u64 0, .slice none 0 0]), 3, 48) := by kernel_rfl
set_option maxRecDepth 20000 in
set_option maxHeartbeats 8000000 in
theorem listR_row (k rb m g off : Nat) (st : Option (List UInt8)) (bad : Bool) (cs : List Value) (t : TypeId) (s0 : Option Addr) (n0 c0 : Nat) (w : World) (h : RcAt k rb m g st bad cs t w) (hoff : cs[off]? = some (.slice s0 n0 c0)) :
    Calls Tryz.prog 118 #[.pointer (some ⟨k, 0, none⟩), .pointer (some ⟨g, off, none⟩), .func (.func 119) #[.pointer (some ⟨k, 0, none⟩)] #[]] w fun e w' => e = .returned (.tuple #[]) ∧
      ∃ (l : List Mg.Row) (xs : List (List Value)) (s : Option Addr) (cap : Nat) (st' : Option (List UInt8)), Step (Mg.list 512 Mg.cRow).dec st l st' ∧ (∀ a ∈ l, a.Good) ∧ l.length ≤ 512 ∧ RcAt k rb m g st' bad (cs.set off (.slice s l.length cap)) t w' ∧ OL w w' 72 3 s cap xs ∧ RowsO w w' l xs ∧ Upd w w' [rb, g] := by
  obtain ⟨inf, hin, hz0, hz1, hz2⟩ := info_parts inf_row
  obtain ⟨d0, d3, d4, dz⟩ := h.cells
  have HH := Lib.hid h
  have e0 := h.cell off _ hoff
  have HCN := Lib.hid (countR w rb st 512 (by decide) h.rd)
  have HOF : Hid (off < cs.length) := Lib.hid (List.getElem?_eq_some_iff.1 hoff).1
  clear h hoff
  go_enter Tryz.func118, Tryz.ntmps118
  go_wp2_with fail
  refine HCN.out.mono ?_
  rintro e w1 ⟨n, st1, rfl, hn, hn0, hst1, hrd1, hu1⟩
  have h1 := HH.out.read hrd1 hu1
  have HST1 := Lib.hid hst1
  have HN0 := Lib.hid hn0
  have hnI : (0 : Int) ≤ n ∧ (n : Int) ≤ 512 := by omega
  have HN := Lib.hid hn
  have hv1 := HH.out.cell off _ (List.getElem?_eq_getElem HOF.out)
  have c1 := h1.cell off _ (List.getElem?_eq_getElem HOF.out)
  have f1 := h1.thaw off
  have HR1 := Lib.hid (h1.set off (.slice none 0 0))
  have HU1 : Hid (Upd w (w1.setCell ⟨g, off, none⟩ (.slice none 0 0)) [rb, g]) := Lib.hid ((hu1.mono (by simp)).setCell (.inl (by simp)) _)
  clear hst1 hrd1 hu1 h1 hn0 hn hv1 d0 d3 d4 dz e0 HCN
  go_wp2_with fail
  generalize w1.setCell ⟨g, off, none⟩ (.slice none 0 0) = w2 at *
  clear c1 f1
  go_loopw [26] (fun vi wr => ∃ (i : Nat) (l : List Mg.Row) (xs : List (List Value)) (s : Option Addr) (cap : Nat) (sti : Option (List UInt8)), i ≤ n ∧ vi = .int .i64 i ∧ l.length = i ∧ Rounds Mg.cRow.dec st1 n i l sti ∧ (∀ a ∈ l, a.Good) ∧ RcAt k rb m g sti bad (cs.set off (.slice s i cap)) t wr ∧ OL w wr 72 3 s cap xs ∧ RowsO w wr l xs ∧ Upd w wr [rb, g]) (fun vi _ => n - (intOf vi).toNat)
  case atStart => exact ⟨0, [], [], none, 0, st1, Nat.zero_le _, rfl, rfl, Rounds.start HN0.out, by simp, HR1.out, OL.nil _ _ _ _, RowsO.nil _ _, HU1.out⟩
  case round =>
    clear HR1 HU1 HN0
    obtain ⟨i, l, xs, s, cap, sti, hi, rfl, hl, hro, hgd, hr, hol, hrw, hu⟩ := hrel
    have HRW := Lib.hid hrw
    have HLX : Hid (xs.length = i) := Lib.hid (hrw.1.trans hl)
    have HRO := Lib.hid hro
    have HGD := Lib.hid hgd
    have HR := Lib.hid hr
    have HOL := Lib.hid hol
    have HU := Lib.hid hu
    have HL := Lib.hid hl
    clear hro hgd hr hol hu hl hrw
    by_cases hlt : i < n
    · have hiI : (0 : Int) ≤ i ∧ (i : Int) < n := by omega
      have hf := HR.out.fresh [.string ⟨#[]⟩, .int .u64 0, .slice none 0 0] 72
      have HRD := Lib.hid (rowR k rb m wr.heap.size 0 sti bad _ _ none 0 0 _ hf rfl)
      have HLT := Lib.hid hlt
      clear hf
      go_wp2_with fail
      refine HRD.out.mono ?_
      rintro e w3 ⟨rfl, y, ys, ycap, st2, hs2, hy2, hr2, hyl, hu2⟩
      have hg3 := hr2.back (HR.out.alloc _) hu2 (by have := HR.out.lts; omega)
      have HUX : Hid (Upd w w3 [rb, g]) := Lib.hid ((HU.out.alloc _).trans hu2 (fun b hb => by
        simp at hb
        rcases hb with rfl | rfl
        · exact .inl (by simp)
        · exact .inr HU.out.size))
      have hol3 : OL w w3 72 3 s cap xs := HOL.out.updF ((((Upd.refl wr []).alloc _).mono (by simp)).trans hu2 (fun b hb => .inl hb)) (fun b hb hf => by
        have h5 := HOL.out.far b hb
        have h6 := HOL.out.sl.lt b hb
        have h7 := HH.out.lts
        simp at hf
        omega)
      obtain ⟨s4, cap4, w4, hrun, hol4, hk4⟩ := ol_push2 (P := Tryz.prog) (T := 34) Tryz.underlying34 hin hz0 hz1 hz2 rfl (by decide) (by decide) (w := w) (W := w3.drew) HUX.out.size (hol3.updF (Upd.refl w3 []).drew (by simp)) [.string y.p, .int .u64 y.last, .slice ys y.l.length ycap] rfl (by intro u hu; simp at hu; rcases hu with rfl | rfl | rfl <;> rfl) (by have := HLX.out; have := HN.out; omega)
      rw [HLX.out] at hrun
      have hrun2 : (appSem #[34, 34] 34 #[.slice s i cap, .slice (some ⟨w3.heap.size, 0, none⟩) 1 1]).run Tryz.prog ((w3.alloc (.cells #[.string y.p, .int .u64 y.last, .slice ys y.l.length ycap] 72 (0, 0))).drew) = .ok (.slice s4 (i + 1) cap4) w4 := hrun
      have q0 : w3.drew.cell? ⟨wr.heap.size, 0, none⟩ = some (.string y.p) := hr2.cell 0 _ rfl
      have q1 : w3.drew.cell? ⟨wr.heap.size, 1, none⟩ = some (.int .u64 y.last) := hr2.cell 1 _ rfl
      have q2 : w3.drew.cell? ⟨wr.heap.size, 2, none⟩ = some (.slice ys y.l.length ycap) := hr2.cell 2 _ rfl
      have qs : w3.drew.cell? ⟨g, off, none⟩ = some (.slice s i cap) := hg3.cell off _ (List.getElem?_set_self HOF.out)
      have qs2 : ((w3.alloc (.cells #[.string y.p, .int .u64 y.last, .slice ys y.l.length ycap] 72 (0, 0))).drew).cell? ⟨g, off, none⟩ = some (.slice s i cap) := (hg3.alloc _).cell off _ (List.getElem?_set_self HOF.out)
      have hg4 := (hg3.keep (Own.refl w3).drew.below).other hk4.upd (fun b hb => by
        have h5 := HOL.out.far b hb
        have h7 := HH.out.lts
        omega)
      have qz := hg4.cell off _ (List.getElem?_set_self HOF.out)
      have f4 := hg4.thaw off
      have hg5 := hg4.set off (.slice s4 (i + 1) cap4)
      rw [List.set_set] at hg5
      have HG5 := Lib.hid hg5
      have HU5 : Hid (Upd w (w4.setCell ⟨g, off, none⟩ (.slice s4 (i + 1) cap4)) [rb, g]) := Lib.hid ((HUX.out.drew.trans hk4.upd (fun b hb => .inr (HOL.out.far b hb))).setCell (.inl (by simp)) _)
      have HOL5 : Hid (OL w (w4.setCell ⟨g, off, none⟩ (.slice s4 (i + 1) cap4)) 72 3 s4 cap4 (xs ++ [[.string y.p, .int .u64 y.last, .slice ys y.l.length ycap]])) := Lib.hid (hol4.updB ((Upd.refl w4 [g]).setCell (.inl (by simp)) _) (by simpa using HH.out.lts.2.2))
      have hrw3 : RowsO w w3 (l ++ [y]) (xs ++ [[.string y.p, .int .u64 y.last, .slice ys y.l.length ycap]]) := (HRW.out.updB ((((Upd.refl wr []).alloc _).mono (by simp)).trans hu2 (fun b hb => .inl hb)) (fun b hb => by
        simp at hb
        rcases hb with rfl | rfl
        · exact .inl HH.out.lts.2.1
        · exact .inr (Nat.le_refl _))).push y (hyl.base (by have := HU.out.size; simp; omega))
      have HRW5 : Hid (RowsO w (w4.setCell ⟨g, off, none⟩ (.slice s4 (i + 1) cap4)) (l ++ [y]) (xs ++ [[.string y.p, .int .u64 y.last, .slice ys y.l.length ycap]])) := Lib.hid ((hrw3.keep (fun s' n cap' ys' h1 h2 b hb => hk4.upd.keep b (h1.lt b hb) (h1.apart hol3.sl (by decide) b hb))).updB ((Upd.refl w4 [g]).setCell (.inl (by simp)) _) (fun b hb => .inl (by simp at hb; rw [hb]; exact HH.out.lts.2.2)))
      have HS2 := Lib.hid hs2
      have HY2 := Lib.hid hy2
      clear hs2 hy2 hr2 hg3 hu2 hol3 HRD hg4 hg5 hol4 hk4 hrw3 hyl
      go_wp2_with fail
      go_region
      generalize w4.setCell ⟨g, off, none⟩ (.slice s4 (i + 1) cap4) = w5 at *
      clear hrun hrun2 q0 q1 q2 qs qs2 qz f4
      obtain ⟨d0, d3, d4, dz⟩ := HG5.out.cells
      have HER := Lib.hid (errR w5 rb st2 HG5.out.rd)
      go_wp2_with fail
      refine HER.out.mono ?_
      rintro e w6 ⟨ec, rfl, hec, rfl⟩
      clear d0 d3 d4 dz HER
      cases st2 with
      | none =>
        rw [Option.isNone_none] at hec
        go_wp2_with fail
        refine bodyPost_ret (v := .tuple #[]) (by simp [results, Tryz.results118, go_sem]) rfl ⟨rfl, l ++ [y], _, s4, cap4, none, HRO.out.fail HLT.out HS2.out HST1.out, ?_, ?_, ?_, HOL5.out, HRW5.out, HU5.out⟩
        · intro a ha
          rcases List.mem_append.1 ha with h1 | h1
          · exact HGD.out a h1
          · simp at h1; rw [h1]; exact HY2.out
        · have := HL.out; have := HN.out; have := HLT.out; simp; omega
        · have h1 := HG5.out
          rw [show i + 1 = (l ++ [y]).length by simp; exact HL.out.symm] at h1
          exact h1
      | some r2 =>
        rw [Option.isNone_some] at hec
        go_wp2_with fail
        go_roundw
        case rel =>
          refine ⟨i + 1, l ++ [y], _, s4, cap4, some r2, by omega, by go_num, by simp; exact HL.out, HRO.out.next HS2.out, ?_, HG5.out, HOL5.out, HRW5.out, HU5.out⟩
          intro a ha
          rcases List.mem_append.1 ha with h1 | h1
          · exact HGD.out a h1
          · simp at h1; rw [h1]; exact HY2.out
        case measure => simp [intOf]; omega
    · obtain rfl : i = n := by omega
      go_wp2_with fail
      refine bodyPost_ret (v := .tuple #[]) (by simp [results, Tryz.results118, go_sem]) rfl ⟨rfl, l, xs, s, cap, sti, HRO.out.done HST1.out, HGD.out, by rw [HL.out]; exact HN.out, by rw [HL.out]; exact HR.out, HOL.out, HRW.out, HU.out⟩

end Go.Proofs.YtjgnomjjphkfbaaGreat

namespace Go.Proofs.YtjgnomjjphkfbaaGreat
open Go.RowKit
attribute [local go_sem ↓ high] appSem_eq

theorem CellT.updF {w w' : World} {g off : Nat} {v : Value} {F : List Nat} (h : CellT w g off v) (hu : Upd w w' F) (hF : g ∉ F) : CellT w' g off v := by
  obtain ⟨cs, t, fr, h1, h2⟩ := h
  exact ⟨cs, t, fr, (hu.keep g (blk_lt h1) hF).trans h1, h2⟩
theorem inf_place : (Tryz.prog.info? 3).map (fun i => (i.zero, i.size, i.bytes)) = some (some (.int .i64 0), 1, 8) := by kernel_rfl
set_option maxRecDepth 20000 in
set_option maxHeartbeats 8000000 in
theorem listR_place (k rb m g off : Nat) (st : Option (List UInt8)) (bad : Bool) (cs : List Value) (t : TypeId) (s0 : Option Addr) (n0 c0 : Nat) (w : World) (h : RcAt k rb m g st bad cs t w) (hoff : cs[off]? = some (.slice s0 n0 c0)) :
    Calls Tryz.prog 111 #[.pointer (some ⟨k, 0, none⟩), .pointer (some ⟨g, off, none⟩), .func (.func 112) #[.pointer (some ⟨k, 0, none⟩)] #[]] w fun e w' => e = .returned (.tuple #[]) ∧
      ∃ (l : List Int) (s : Option Addr) (cap : Nat) (st' : Option (List UInt8)), Step (Mg.list 512 (Mg.int 512)).dec st l st' ∧ (∀ a ∈ l, -9223372036854775808 ≤ a ∧ a ≤ 9223372036854775807) ∧ l.length ≤ 512 ∧ RcAt k rb m g st' bad (cs.set off (.slice s l.length cap)) t w' ∧ OL w w' 3 1 s cap (l.map (fun a : Int => [.int .i64 a])) ∧ Upd w w' [rb, g] := by
  obtain ⟨inf, hin, hz0, hz1, hz2⟩ := info_parts inf_place
  obtain ⟨d0, d3, d4, dz⟩ := h.cells
  have HH := Lib.hid h
  have e0 := h.cell off _ hoff
  have HCN := Lib.hid (countR w rb st 512 (by decide) h.rd)
  have HOF : Hid (off < cs.length) := Lib.hid (List.getElem?_eq_some_iff.1 hoff).1
  clear h hoff
  go_enter Tryz.func111, Tryz.ntmps111
  go_wp2_with fail
  refine HCN.out.mono ?_
  rintro e w1 ⟨n, st1, rfl, hn, hn0, hst1, hrd1, hu1⟩
  have h1 := HH.out.read hrd1 hu1
  have HST1 := Lib.hid hst1
  have HN0 := Lib.hid hn0
  have hnI : (0 : Int) ≤ n ∧ (n : Int) ≤ 512 := by omega
  have HN := Lib.hid hn
  have hv1 := HH.out.cell off _ (List.getElem?_eq_getElem HOF.out)
  have c1 := h1.cell off _ (List.getElem?_eq_getElem HOF.out)
  have f1 := h1.thaw off
  have HR1 := Lib.hid (h1.set off (.slice none 0 0))
  have HU1 : Hid (Upd w (w1.setCell ⟨g, off, none⟩ (.slice none 0 0)) [rb, g]) := Lib.hid ((hu1.mono (by simp)).setCell (.inl (by simp)) _)
  clear hst1 hrd1 hu1 h1 hn0 hn hv1 d0 d3 d4 dz e0 HCN
  go_wp2_with fail
  generalize w1.setCell ⟨g, off, none⟩ (.slice none 0 0) = w2 at *
  clear c1 f1
  go_loopw [26] (fun vi wr => ∃ (i : Nat) (l : List Int) (s : Option Addr) (cap : Nat) (sti : Option (List UInt8)), i ≤ n ∧ vi = .int .i64 i ∧ l.length = i ∧ Rounds (Mg.int 512).dec st1 n i l sti ∧ (∀ a ∈ l, -9223372036854775808 ≤ a ∧ a ≤ 9223372036854775807) ∧ RcAt k rb m g sti bad (cs.set off (.slice s i cap)) t wr ∧ OL w wr 3 1 s cap (l.map (fun a : Int => [.int .i64 a])) ∧ Upd w wr [rb, g]) (fun vi _ => n - (intOf vi).toNat)
  case atStart => exact ⟨0, [], none, 0, st1, Nat.zero_le _, rfl, rfl, Rounds.start HN0.out, by simp, HR1.out, OL.nil _ _ _ _, HU1.out⟩
  case round =>
    clear HR1 HU1 HN0
    obtain ⟨i, l, s, cap, sti, hi, rfl, hl, hro, hgd, hr, hol, hu⟩ := hrel
    have HRO := Lib.hid hro
    have HGD := Lib.hid hgd
    have HR := Lib.hid hr
    have HOL := Lib.hid hol
    have HU := Lib.hid hu
    have HL := Lib.hid hl
    clear hro hgd hr hol hu hl
    by_cases hlt : i < n
    · have hiI : (0 : Int) ≤ i ∧ (i : Int) < n := by omega
      have hf := HR.out.fresh [.int .i64 0] 3
      have HRD := Lib.hid (placeR k rb m wr.heap.size 0 sti bad _ _ _ hf (by decide))
      have HLT := Lib.hid hlt
      clear hf
      go_wp2_with fail
      refine HRD.out.mono ?_
      rintro e w3 ⟨rfl, y, st2, hs2, hy2, hr2, hu2⟩
      have hg3 := hr2.back (HR.out.alloc _) hu2 (by have := HR.out.lts; omega)
      have HUX : Hid (Upd w w3 [rb, g]) := Lib.hid ((HU.out.alloc _).trans hu2 (fun b hb => by
        simp at hb
        rcases hb with rfl | rfl
        · exact .inl (by simp)
        · exact .inr HU.out.size))
      have hol3 : OL w w3 3 1 s cap (l.map (fun a : Int => [.int .i64 a])) := HOL.out.updF ((((Upd.refl wr []).alloc _).mono (by simp)).trans hu2 (fun b hb => .inl hb)) (fun b hb hf => by
        have h5 := HOL.out.far b hb
        have h6 := HOL.out.sl.lt b hb
        have h7 := HH.out.lts
        simp at hf
        omega)
      obtain ⟨s4, cap4, w4, hrun, hol4, hk4⟩ := ol_push2 (P := Tryz.prog) (T := 28) Tryz.underlying28 hin hz0 hz1 hz2 rfl (by decide) (by decide) (w := w) (W := w3.drew) HUX.out.size (hol3.updF (Upd.refl w3 []).drew (by simp)) [.int .i64 y] rfl (by intro u hu; simp at hu; first | (subst hu; rfl) | (rcases hu with rfl <;> rfl)) (by have := HL.out; have := HN.out; simp; omega)
      rw [List.length_map, HL.out] at hrun
      have hrun2 : (appSem #[28, 28] 28 #[.slice s i cap, .slice (some ⟨w3.heap.size, 0, none⟩) 1 1]).run Tryz.prog ((w3.alloc (.cells #[.int .i64 y] 3 (0, 0))).drew) = .ok (.slice s4 (i + 1) cap4) w4 := hrun
      have q0 : w3.drew.cell? ⟨wr.heap.size, 0, none⟩ = some (.int .i64 y) := hr2.cell 0 _ rfl
      have qs : w3.drew.cell? ⟨g, off, none⟩ = some (.slice s i cap) := hg3.cell off _ (List.getElem?_set_self HOF.out)
      have qs2 : ((w3.alloc (.cells #[.int .i64 y] 3 (0, 0))).drew).cell? ⟨g, off, none⟩ = some (.slice s i cap) := (hg3.alloc _).cell off _ (List.getElem?_set_self HOF.out)
      have hg4 := (hg3.keep (Own.refl w3).drew.below).other hk4.upd (fun b hb => by
        have h5 := HOL.out.far b hb
        have h7 := HH.out.lts
        omega)
      have qz := hg4.cell off _ (List.getElem?_set_self HOF.out)
      have f4 := hg4.thaw off
      have hg5 := hg4.set off (.slice s4 (i + 1) cap4)
      rw [List.set_set] at hg5
      have HG5 := Lib.hid hg5
      have HU5 : Hid (Upd w (w4.setCell ⟨g, off, none⟩ (.slice s4 (i + 1) cap4)) [rb, g]) := Lib.hid ((HUX.out.drew.trans hk4.upd (fun b hb => .inr (HOL.out.far b hb))).setCell (.inl (by simp)) _)
      have HOL5 : Hid (OL w (w4.setCell ⟨g, off, none⟩ (.slice s4 (i + 1) cap4)) 3 1 s4 cap4 ((l ++ [y]).map (fun a : Int => [.int .i64 a]))) := Lib.hid (by
        rw [List.map_append]
        exact hol4.updB ((Upd.refl w4 [g]).setCell (.inl (by simp)) _) (by simpa using HH.out.lts.2.2))
      have HS2 := Lib.hid hs2
      have HY2 := Lib.hid hy2
      clear hs2 hy2 hr2 hg3 hu2 hol3 HRD hg4 hg5 hol4 hk4
      go_wp2_with fail
      go_region
      generalize w4.setCell ⟨g, off, none⟩ (.slice s4 (i + 1) cap4) = w5 at *
      clear hrun hrun2 q0 qs qs2 qz f4
      obtain ⟨d0, d3, d4, dz⟩ := HG5.out.cells
      have HER := Lib.hid (errR w5 rb st2 HG5.out.rd)
      go_wp2_with fail
      refine HER.out.mono ?_
      rintro e w6 ⟨ec, rfl, hec, rfl⟩
      clear d0 d3 d4 dz HER
      cases st2 with
      | none =>
        rw [Option.isNone_none] at hec
        go_wp2_with fail
        refine bodyPost_ret (v := .tuple #[]) (by simp [results, Tryz.results111, go_sem]) rfl ⟨rfl, l ++ [y], s4, cap4, none, HRO.out.fail HLT.out HS2.out HST1.out, ?_, ?_, ?_, HOL5.out, HU5.out⟩
        · intro a ha
          rcases List.mem_append.1 ha with h1 | h1
          · exact HGD.out a h1
          · simp at h1; rw [h1]; exact HY2.out
        · have := HL.out; have := HN.out; have := HLT.out; simp; omega
        · have h1 := HG5.out
          rw [show i + 1 = (l ++ [y]).length by simp; exact HL.out.symm] at h1
          exact h1
      | some r2 =>
        rw [Option.isNone_some] at hec
        go_wp2_with fail
        go_roundw
        case rel =>
          refine ⟨i + 1, l ++ [y], s4, cap4, some r2, by omega, by go_num, by simp; exact HL.out, HRO.out.next HS2.out, ?_, HG5.out, HOL5.out, HU5.out⟩
          intro a ha
          rcases List.mem_append.1 ha with h1 | h1
          · exact HGD.out a h1
          · simp at h1; rw [h1]; exact HY2.out
        case measure => simp [intOf]; omega
    · obtain rfl : i = n := by omega
      go_wp2_with fail
      refine bodyPost_ret (v := .tuple #[]) (by simp [results, Tryz.results111, go_sem]) rfl ⟨rfl, l, s, cap, sti, HRO.out.done HST1.out, HGD.out, by rw [HL.out]; exact HN.out, by rw [HL.out]; exact HR.out, HOL.out, HU.out⟩

theorem inf_number : (Tryz.prog.info? 22).map (fun i => (i.zero, i.size, i.bytes)) = some (some (.int .u64 0), 1, 8) := by kernel_rfl
set_option maxRecDepth 20000 in
set_option maxHeartbeats 8000000 in
theorem listR_number (k rb m g off : Nat) (st : Option (List UInt8)) (bad : Bool) (cs : List Value) (t : TypeId) (s0 : Option Addr) (n0 c0 : Nat) (w : World) (h : RcAt k rb m g st bad cs t w) (hoff : cs[off]? = some (.slice s0 n0 c0)) :
    Calls Tryz.prog 124 #[.pointer (some ⟨k, 0, none⟩), .pointer (some ⟨g, off, none⟩), .func (.func 125) #[.pointer (some ⟨k, 0, none⟩)] #[]] w fun e w' => e = .returned (.tuple #[]) ∧
      ∃ (l : List Nat) (s : Option Addr) (cap : Nat) (st' : Option (List UInt8)), Step (Mg.list 512 (Mg.num Mg.All)).dec st l st' ∧ (∀ a ∈ l, ok64 a) ∧ l.length ≤ 512 ∧ RcAt k rb m g st' bad (cs.set off (.slice s l.length cap)) t w' ∧ OL w w' 22 1 s cap (l.map (fun a : Nat => [.int .u64 a])) ∧ Upd w w' [rb, g] := by
  obtain ⟨inf, hin, hz0, hz1, hz2⟩ := info_parts inf_number
  obtain ⟨d0, d3, d4, dz⟩ := h.cells
  have HH := Lib.hid h
  have e0 := h.cell off _ hoff
  have HCN := Lib.hid (countR w rb st 512 (by decide) h.rd)
  have HOF : Hid (off < cs.length) := Lib.hid (List.getElem?_eq_some_iff.1 hoff).1
  clear h hoff
  go_enter Tryz.func124, Tryz.ntmps124
  go_wp2_with fail
  refine HCN.out.mono ?_
  rintro e w1 ⟨n, st1, rfl, hn, hn0, hst1, hrd1, hu1⟩
  have h1 := HH.out.read hrd1 hu1
  have HST1 := Lib.hid hst1
  have HN0 := Lib.hid hn0
  have hnI : (0 : Int) ≤ n ∧ (n : Int) ≤ 512 := by omega
  have HN := Lib.hid hn
  have hv1 := HH.out.cell off _ (List.getElem?_eq_getElem HOF.out)
  have c1 := h1.cell off _ (List.getElem?_eq_getElem HOF.out)
  have f1 := h1.thaw off
  have HR1 := Lib.hid (h1.set off (.slice none 0 0))
  have HU1 : Hid (Upd w (w1.setCell ⟨g, off, none⟩ (.slice none 0 0)) [rb, g]) := Lib.hid ((hu1.mono (by simp)).setCell (.inl (by simp)) _)
  clear hst1 hrd1 hu1 h1 hn0 hn hv1 d0 d3 d4 dz e0 HCN
  go_wp2_with fail
  generalize w1.setCell ⟨g, off, none⟩ (.slice none 0 0) = w2 at *
  clear c1 f1
  go_loopw [26] (fun vi wr => ∃ (i : Nat) (l : List Nat) (s : Option Addr) (cap : Nat) (sti : Option (List UInt8)), i ≤ n ∧ vi = .int .i64 i ∧ l.length = i ∧ Rounds (Mg.num Mg.All).dec st1 n i l sti ∧ (∀ a ∈ l, ok64 a) ∧ RcAt k rb m g sti bad (cs.set off (.slice s i cap)) t wr ∧ OL w wr 22 1 s cap (l.map (fun a : Nat => [.int .u64 a])) ∧ Upd w wr [rb, g]) (fun vi _ => n - (intOf vi).toNat)
  case atStart => exact ⟨0, [], none, 0, st1, Nat.zero_le _, rfl, rfl, Rounds.start HN0.out, by simp, HR1.out, OL.nil _ _ _ _, HU1.out⟩
  case round =>
    clear HR1 HU1 HN0
    obtain ⟨i, l, s, cap, sti, hi, rfl, hl, hro, hgd, hr, hol, hu⟩ := hrel
    have HRO := Lib.hid hro
    have HGD := Lib.hid hgd
    have HR := Lib.hid hr
    have HOL := Lib.hid hol
    have HU := Lib.hid hu
    have HL := Lib.hid hl
    clear hro hgd hr hol hu hl
    by_cases hlt : i < n
    · have hiI : (0 : Int) ≤ i ∧ (i : Int) < n := by omega
      have hf := HR.out.fresh [.int .u64 0] 22
      have HRD := Lib.hid (numberR k rb m wr.heap.size 0 sti bad _ _ _ hf (by decide))
      have HLT := Lib.hid hlt
      clear hf
      go_wp2_with fail
      refine HRD.out.mono ?_
      rintro e w3 ⟨rfl, y, st2, hs2, hy2, hr2, hu2⟩
      have hg3 := hr2.back (HR.out.alloc _) hu2 (by have := HR.out.lts; omega)
      have HUX : Hid (Upd w w3 [rb, g]) := Lib.hid ((HU.out.alloc _).trans hu2 (fun b hb => by
        simp at hb
        rcases hb with rfl | rfl
        · exact .inl (by simp)
        · exact .inr HU.out.size))
      have hol3 : OL w w3 22 1 s cap (l.map (fun a : Nat => [.int .u64 a])) := HOL.out.updF ((((Upd.refl wr []).alloc _).mono (by simp)).trans hu2 (fun b hb => .inl hb)) (fun b hb hf => by
        have h5 := HOL.out.far b hb
        have h6 := HOL.out.sl.lt b hb
        have h7 := HH.out.lts
        simp at hf
        omega)
      obtain ⟨s4, cap4, w4, hrun, hol4, hk4⟩ := ol_push2 (P := Tryz.prog) (T := 38) Tryz.underlying38 hin hz0 hz1 hz2 rfl (by decide) (by decide) (w := w) (W := w3.drew) HUX.out.size (hol3.updF (Upd.refl w3 []).drew (by simp)) [.int .u64 y] rfl (by intro u hu; simp at hu; first | (subst hu; rfl) | (rcases hu with rfl <;> rfl)) (by have := HL.out; have := HN.out; simp; omega)
      rw [List.length_map, HL.out] at hrun
      have hrun2 : (appSem #[38, 38] 38 #[.slice s i cap, .slice (some ⟨w3.heap.size, 0, none⟩) 1 1]).run Tryz.prog ((w3.alloc (.cells #[.int .u64 y] 22 (0, 0))).drew) = .ok (.slice s4 (i + 1) cap4) w4 := hrun
      have q0 : w3.drew.cell? ⟨wr.heap.size, 0, none⟩ = some (.int .u64 y) := hr2.cell 0 _ rfl
      have qs : w3.drew.cell? ⟨g, off, none⟩ = some (.slice s i cap) := hg3.cell off _ (List.getElem?_set_self HOF.out)
      have qs2 : ((w3.alloc (.cells #[.int .u64 y] 22 (0, 0))).drew).cell? ⟨g, off, none⟩ = some (.slice s i cap) := (hg3.alloc _).cell off _ (List.getElem?_set_self HOF.out)
      have hg4 := (hg3.keep (Own.refl w3).drew.below).other hk4.upd (fun b hb => by
        have h5 := HOL.out.far b hb
        have h7 := HH.out.lts
        omega)
      have qz := hg4.cell off _ (List.getElem?_set_self HOF.out)
      have f4 := hg4.thaw off
      have hg5 := hg4.set off (.slice s4 (i + 1) cap4)
      rw [List.set_set] at hg5
      have HG5 := Lib.hid hg5
      have HU5 : Hid (Upd w (w4.setCell ⟨g, off, none⟩ (.slice s4 (i + 1) cap4)) [rb, g]) := Lib.hid ((HUX.out.drew.trans hk4.upd (fun b hb => .inr (HOL.out.far b hb))).setCell (.inl (by simp)) _)
      have HOL5 : Hid (OL w (w4.setCell ⟨g, off, none⟩ (.slice s4 (i + 1) cap4)) 22 1 s4 cap4 ((l ++ [y]).map (fun a : Nat => [.int .u64 a]))) := Lib.hid (by
        rw [List.map_append]
        exact hol4.updB ((Upd.refl w4 [g]).setCell (.inl (by simp)) _) (by simpa using HH.out.lts.2.2))
      have HS2 := Lib.hid hs2
      have HY2 := Lib.hid hy2
      clear hs2 hy2 hr2 hg3 hu2 hol3 HRD hg4 hg5 hol4 hk4
      go_wp2_with fail
      go_region
      generalize w4.setCell ⟨g, off, none⟩ (.slice s4 (i + 1) cap4) = w5 at *
      clear hrun hrun2 q0 qs qs2 qz f4
      obtain ⟨d0, d3, d4, dz⟩ := HG5.out.cells
      have HER := Lib.hid (errR w5 rb st2 HG5.out.rd)
      go_wp2_with fail
      refine HER.out.mono ?_
      rintro e w6 ⟨ec, rfl, hec, rfl⟩
      clear d0 d3 d4 dz HER
      cases st2 with
      | none =>
        rw [Option.isNone_none] at hec
        go_wp2_with fail
        refine bodyPost_ret (v := .tuple #[]) (by simp [results, Tryz.results124, go_sem]) rfl ⟨rfl, l ++ [y], s4, cap4, none, HRO.out.fail HLT.out HS2.out HST1.out, ?_, ?_, ?_, HOL5.out, HU5.out⟩
        · intro a ha
          rcases List.mem_append.1 ha with h1 | h1
          · exact HGD.out a h1
          · simp at h1; rw [h1]; exact HY2.out
        · have := HL.out; have := HN.out; have := HLT.out; simp; omega
        · have h1 := HG5.out
          rw [show i + 1 = (l ++ [y]).length by simp; exact HL.out.symm] at h1
          exact h1
      | some r2 =>
        rw [Option.isNone_some] at hec
        go_wp2_with fail
        go_roundw
        case rel =>
          refine ⟨i + 1, l ++ [y], s4, cap4, some r2, by omega, by go_num, by simp; exact HL.out, HRO.out.next HS2.out, ?_, HG5.out, HOL5.out, HU5.out⟩
          intro a ha
          rcases List.mem_append.1 ha with h1 | h1
          · exact HGD.out a h1
          · simp at h1; rw [h1]; exact HY2.out
        case measure => simp [intOf]; omega
    · obtain rfl : i = n := by omega
      go_wp2_with fail
      refine bodyPost_ret (v := .tuple #[]) (by simp [results, Tryz.results124, go_sem]) rfl ⟨rfl, l, s, cap, sti, HRO.out.done HST1.out, HGD.out, by rw [HL.out]; exact HN.out, by rw [HL.out]; exact HR.out, HOL.out, HU.out⟩

theorem inf_name : (Tryz.prog.info? 9).map (fun i => (i.zero, i.size, i.bytes)) = some (some (.string ⟨#[]⟩), 1, 16) := by kernel_rfl
set_option maxRecDepth 20000 in
set_option maxHeartbeats 8000000 in
theorem listR_name (k rb m g off : Nat) (st : Option (List UInt8)) (bad : Bool) (cs : List Value) (t : TypeId) (s0 : Option Addr) (n0 c0 : Nat) (w : World) (h : RcAt k rb m g st bad cs t w) (hoff : cs[off]? = some (.slice s0 n0 c0)) :
    Calls Tryz.prog 126 #[.pointer (some ⟨k, 0, none⟩), .pointer (some ⟨g, off, none⟩), .func (.func 116) #[.pointer (some ⟨k, 0, none⟩)] #[]] w fun e w' => e = .returned (.tuple #[]) ∧
      ∃ (l : List ByteArray) (s : Option Addr) (cap : Nat) (st' : Option (List UInt8)), Step (Mg.list 512 (Mg.text 129)).dec st l st' ∧ (∀ a ∈ l, okT a) ∧ l.length ≤ 512 ∧ RcAt k rb m g st' bad (cs.set off (.slice s l.length cap)) t w' ∧ OL w w' 9 1 s cap (l.map (fun a : ByteArray => [.string a])) ∧ Upd w w' [rb, g] := by
  obtain ⟨inf, hin, hz0, hz1, hz2⟩ := info_parts inf_name
  obtain ⟨d0, d3, d4, dz⟩ := h.cells
  have HH := Lib.hid h
  have e0 := h.cell off _ hoff
  have HCN := Lib.hid (countR w rb st 512 (by decide) h.rd)
  have HOF : Hid (off < cs.length) := Lib.hid (List.getElem?_eq_some_iff.1 hoff).1
  clear h hoff
  go_enter Tryz.func126, Tryz.ntmps126
  go_wp2_with fail
  refine HCN.out.mono ?_
  rintro e w1 ⟨n, st1, rfl, hn, hn0, hst1, hrd1, hu1⟩
  have h1 := HH.out.read hrd1 hu1
  have HST1 := Lib.hid hst1
  have HN0 := Lib.hid hn0
  have hnI : (0 : Int) ≤ n ∧ (n : Int) ≤ 512 := by omega
  have HN := Lib.hid hn
  have hv1 := HH.out.cell off _ (List.getElem?_eq_getElem HOF.out)
  have c1 := h1.cell off _ (List.getElem?_eq_getElem HOF.out)
  have f1 := h1.thaw off
  have HR1 := Lib.hid (h1.set off (.slice none 0 0))
  have HU1 : Hid (Upd w (w1.setCell ⟨g, off, none⟩ (.slice none 0 0)) [rb, g]) := Lib.hid ((hu1.mono (by simp)).setCell (.inl (by simp)) _)
  clear hst1 hrd1 hu1 h1 hn0 hn hv1 d0 d3 d4 dz e0 HCN
  go_wp2_with fail
  generalize w1.setCell ⟨g, off, none⟩ (.slice none 0 0) = w2 at *
  clear c1 f1
  go_loopw [26] (fun vi wr => ∃ (i : Nat) (l : List ByteArray) (s : Option Addr) (cap : Nat) (sti : Option (List UInt8)), i ≤ n ∧ vi = .int .i64 i ∧ l.length = i ∧ Rounds (Mg.text 129).dec st1 n i l sti ∧ (∀ a ∈ l, okT a) ∧ RcAt k rb m g sti bad (cs.set off (.slice s i cap)) t wr ∧ OL w wr 9 1 s cap (l.map (fun a : ByteArray => [.string a])) ∧ Upd w wr [rb, g]) (fun vi _ => n - (intOf vi).toNat)
  case atStart => exact ⟨0, [], none, 0, st1, Nat.zero_le _, rfl, rfl, Rounds.start HN0.out, by simp, HR1.out, OL.nil _ _ _ _, HU1.out⟩
  case round =>
    clear HR1 HU1 HN0
    obtain ⟨i, l, s, cap, sti, hi, rfl, hl, hro, hgd, hr, hol, hu⟩ := hrel
    have HRO := Lib.hid hro
    have HGD := Lib.hid hgd
    have HR := Lib.hid hr
    have HOL := Lib.hid hol
    have HU := Lib.hid hu
    have HL := Lib.hid hl
    clear hro hgd hr hol hu hl
    by_cases hlt : i < n
    · have hiI : (0 : Int) ≤ i ∧ (i : Int) < n := by omega
      have hf := HR.out.fresh [.string ⟨#[]⟩] 9
      have HRD := Lib.hid (nameR k rb m wr.heap.size 0 sti bad _ _ _ hf (by decide))
      have HLT := Lib.hid hlt
      clear hf
      go_wp2_with fail
      refine HRD.out.mono ?_
      rintro e w3 ⟨rfl, y, st2, hs2, hy2, hr2, hu2⟩
      have hg3 := hr2.back (HR.out.alloc _) hu2 (by have := HR.out.lts; omega)
      have HUX : Hid (Upd w w3 [rb, g]) := Lib.hid ((HU.out.alloc _).trans hu2 (fun b hb => by
        simp at hb
        rcases hb with rfl | rfl
        · exact .inl (by simp)
        · exact .inr HU.out.size))
      have hol3 : OL w w3 9 1 s cap (l.map (fun a : ByteArray => [.string a])) := HOL.out.updF ((((Upd.refl wr []).alloc _).mono (by simp)).trans hu2 (fun b hb => .inl hb)) (fun b hb hf => by
        have h5 := HOL.out.far b hb
        have h6 := HOL.out.sl.lt b hb
        have h7 := HH.out.lts
        simp at hf
        omega)
      obtain ⟨s4, cap4, w4, hrun, hol4, hk4⟩ := ol_push2 (P := Tryz.prog) (T := 39) Tryz.underlying39 hin hz0 hz1 hz2 rfl (by decide) (by decide) (w := w) (W := w3.drew) HUX.out.size (hol3.updF (Upd.refl w3 []).drew (by simp)) [.string y] rfl (by intro u hu; simp at hu; first | (subst hu; rfl) | (rcases hu with rfl <;> rfl)) (by have := HL.out; have := HN.out; simp; omega)
      rw [List.length_map, HL.out] at hrun
      have hrun2 : (appSem #[39, 39] 39 #[.slice s i cap, .slice (some ⟨w3.heap.size, 0, none⟩) 1 1]).run Tryz.prog ((w3.alloc (.cells #[.string y] 9 (0, 0))).drew) = .ok (.slice s4 (i + 1) cap4) w4 := hrun
      have q0 : w3.drew.cell? ⟨wr.heap.size, 0, none⟩ = some (.string y) := hr2.cell 0 _ rfl
      have qs : w3.drew.cell? ⟨g, off, none⟩ = some (.slice s i cap) := hg3.cell off _ (List.getElem?_set_self HOF.out)
      have qs2 : ((w3.alloc (.cells #[.string y] 9 (0, 0))).drew).cell? ⟨g, off, none⟩ = some (.slice s i cap) := (hg3.alloc _).cell off _ (List.getElem?_set_self HOF.out)
      have hg4 := (hg3.keep (Own.refl w3).drew.below).other hk4.upd (fun b hb => by
        have h5 := HOL.out.far b hb
        have h7 := HH.out.lts
        omega)
      have qz := hg4.cell off _ (List.getElem?_set_self HOF.out)
      have f4 := hg4.thaw off
      have hg5 := hg4.set off (.slice s4 (i + 1) cap4)
      rw [List.set_set] at hg5
      have HG5 := Lib.hid hg5
      have HU5 : Hid (Upd w (w4.setCell ⟨g, off, none⟩ (.slice s4 (i + 1) cap4)) [rb, g]) := Lib.hid ((HUX.out.drew.trans hk4.upd (fun b hb => .inr (HOL.out.far b hb))).setCell (.inl (by simp)) _)
      have HOL5 : Hid (OL w (w4.setCell ⟨g, off, none⟩ (.slice s4 (i + 1) cap4)) 9 1 s4 cap4 ((l ++ [y]).map (fun a : ByteArray => [.string a]))) := Lib.hid (by
        rw [List.map_append]
        exact hol4.updB ((Upd.refl w4 [g]).setCell (.inl (by simp)) _) (by simpa using HH.out.lts.2.2))
      have HS2 := Lib.hid hs2
      have HY2 := Lib.hid hy2
      clear hs2 hy2 hr2 hg3 hu2 hol3 HRD hg4 hg5 hol4 hk4
      go_wp2_with fail
      go_region
      generalize w4.setCell ⟨g, off, none⟩ (.slice s4 (i + 1) cap4) = w5 at *
      clear hrun hrun2 q0 qs qs2 qz f4
      obtain ⟨d0, d3, d4, dz⟩ := HG5.out.cells
      have HER := Lib.hid (errR w5 rb st2 HG5.out.rd)
      go_wp2_with fail
      refine HER.out.mono ?_
      rintro e w6 ⟨ec, rfl, hec, rfl⟩
      clear d0 d3 d4 dz HER
      cases st2 with
      | none =>
        rw [Option.isNone_none] at hec
        go_wp2_with fail
        refine bodyPost_ret (v := .tuple #[]) (by simp [results, Tryz.results126, go_sem]) rfl ⟨rfl, l ++ [y], s4, cap4, none, HRO.out.fail HLT.out HS2.out HST1.out, ?_, ?_, ?_, HOL5.out, HU5.out⟩
        · intro a ha
          rcases List.mem_append.1 ha with h1 | h1
          · exact HGD.out a h1
          · simp at h1; rw [h1]; exact HY2.out
        · have := HL.out; have := HN.out; have := HLT.out; simp; omega
        · have h1 := HG5.out
          rw [show i + 1 = (l ++ [y]).length by simp; exact HL.out.symm] at h1
          exact h1
      | some r2 =>
        rw [Option.isNone_some] at hec
        go_wp2_with fail
        go_roundw
        case rel =>
          refine ⟨i + 1, l ++ [y], s4, cap4, some r2, by omega, by go_num, by simp; exact HL.out, HRO.out.next HS2.out, ?_, HG5.out, HOL5.out, HU5.out⟩
          intro a ha
          rcases List.mem_append.1 ha with h1 | h1
          · exact HGD.out a h1
          · simp at h1; rw [h1]; exact HY2.out
        case measure => simp [intOf]; omega
    · obtain rfl : i = n := by omega
      go_wp2_with fail
      refine bodyPost_ret (v := .tuple #[]) (by simp [results, Tryz.results126, go_sem]) rfl ⟨rfl, l, s, cap, sti, HRO.out.done HST1.out, HGD.out, by rw [HL.out]; exact HN.out, by rw [HL.out]; exact HR.out, HOL.out, HU.out⟩

theorem inf_shard : (Tryz.prog.info? 26).map (fun i => (i.zero, i.size, i.bytes)) = some (some (.int .u32 0), 1, 4) := by kernel_rfl
set_option maxRecDepth 20000 in
set_option maxHeartbeats 8000000 in
theorem listR_shard (k rb m g off bx : Nat) (st : Option (List UInt8)) (bad : Bool) (cs : List Value) (t : TypeId) (s0 : Option Addr) (n0 c0 : Nat) (w : World) (h : RcAt k rb m g st bad cs t w) (hbx : CellT w bx 0 (.pointer (some ⟨k, 0, none⟩))) (hb1 : bx ≠ rb) (hb2 : bx ≠ g) (hoff : cs[off]? = some (.slice s0 n0 c0)) :
    Calls Tryz.prog 106 #[.pointer (some ⟨k, 0, none⟩), .pointer (some ⟨g, off, none⟩), .func (.func 107) #[] #[.pointer (some ⟨bx, 0, none⟩)]] w fun e w' => e = .returned (.tuple #[]) ∧
      ∃ (l : List Nat) (s : Option Addr) (cap : Nat) (st' : Option (List UInt8)), Step (Mg.list 512 (Mg.num 4294967295)).dec st l st' ∧ (∀ a ∈ l, a < 4294967296) ∧ l.length ≤ 512 ∧ RcAt k rb m g st' bad (cs.set off (.slice s l.length cap)) t w' ∧ OL w w' 26 1 s cap (l.map (fun a : Nat => [.int .u32 a])) ∧ Upd w w' [rb, g] := by
  obtain ⟨inf, hin, hz0, hz1, hz2⟩ := info_parts inf_shard
  obtain ⟨d0, d3, d4, dz⟩ := h.cells
  have HH := Lib.hid h
  have e0 := h.cell off _ hoff
  have HCN := Lib.hid (countR w rb st 512 (by decide) h.rd)
  have HOF : Hid (off < cs.length) := Lib.hid (List.getElem?_eq_some_iff.1 hoff).1
  have HBX := Lib.hid hbx
  have HB2 : Hid (bx ∉ [rb, g]) := Lib.hid (by simp; exact ⟨hb1, hb2⟩)
  clear h hoff hbx hb1 hb2
  go_enter Tryz.func106, Tryz.ntmps106
  go_wp2_with fail
  refine HCN.out.mono ?_
  rintro e w1 ⟨n, st1, rfl, hn, hn0, hst1, hrd1, hu1⟩
  have h1 := HH.out.read hrd1 hu1
  have HST1 := Lib.hid hst1
  have HN0 := Lib.hid hn0
  have hnI : (0 : Int) ≤ n ∧ (n : Int) ≤ 512 := by omega
  have HN := Lib.hid hn
  have hv1 := HH.out.cell off _ (List.getElem?_eq_getElem HOF.out)
  have c1 := h1.cell off _ (List.getElem?_eq_getElem HOF.out)
  have f1 := h1.thaw off
  have HR1 := Lib.hid (h1.set off (.slice none 0 0))
  have HU1 : Hid (Upd w (w1.setCell ⟨g, off, none⟩ (.slice none 0 0)) [rb, g]) := Lib.hid ((hu1.mono (by simp)).setCell (.inl (by simp)) _)
  clear hst1 hrd1 hu1 h1 hn0 hn hv1 d0 d3 d4 dz e0 HCN
  go_wp2_with fail
  generalize w1.setCell ⟨g, off, none⟩ (.slice none 0 0) = w2 at *
  clear c1 f1
  go_loopw [26] (fun vi wr => ∃ (i : Nat) (l : List Nat) (s : Option Addr) (cap : Nat) (sti : Option (List UInt8)), i ≤ n ∧ vi = .int .i64 i ∧ l.length = i ∧ Rounds (Mg.num 4294967295).dec st1 n i l sti ∧ (∀ a ∈ l, a < 4294967296) ∧ RcAt k rb m g sti bad (cs.set off (.slice s i cap)) t wr ∧ OL w wr 26 1 s cap (l.map (fun a : Nat => [.int .u32 a])) ∧ Upd w wr [rb, g]) (fun vi _ => n - (intOf vi).toNat)
  case atStart => exact ⟨0, [], none, 0, st1, Nat.zero_le _, rfl, rfl, Rounds.start HN0.out, by simp, HR1.out, OL.nil _ _ _ _, HU1.out⟩
  case round =>
    clear HR1 HU1 HN0
    obtain ⟨i, l, s, cap, sti, hi, rfl, hl, hro, hgd, hr, hol, hu⟩ := hrel
    have HRO := Lib.hid hro
    have HGD := Lib.hid hgd
    have HR := Lib.hid hr
    have HOL := Lib.hid hol
    have HU := Lib.hid hu
    have HL := Lib.hid hl
    clear hro hgd hr hol hu hl
    by_cases hlt : i < n
    · have hiI : (0 : Int) ≤ i ∧ (i : Int) < n := by omega
      have hf := HR.out.fresh [.int .u32 0] 26
      have HRD := Lib.hid (shardR k rb m wr.heap.size 0 bx sti bad _ _ _ hf ((HBX.out.updF HU.out HB2.out).updF ((Upd.refl wr []).alloc _) (by simp)) (by decide))
      have HLT := Lib.hid hlt
      clear hf
      go_wp2_with fail
      refine HRD.out.mono ?_
      rintro e w3 ⟨rfl, y, st2, hs2, hy2, hr2, hu2⟩
      have hg3 := hr2.back (HR.out.alloc _) hu2 (by have := HR.out.lts; omega)
      have HUX : Hid (Upd w w3 [rb, g]) := Lib.hid ((HU.out.alloc _).trans hu2 (fun b hb => by
        simp at hb
        rcases hb with rfl | rfl
        · exact .inl (by simp)
        · exact .inr HU.out.size))
      have hol3 : OL w w3 26 1 s cap (l.map (fun a : Nat => [.int .u32 a])) := HOL.out.updF ((((Upd.refl wr []).alloc _).mono (by simp)).trans hu2 (fun b hb => .inl hb)) (fun b hb hf => by
        have h5 := HOL.out.far b hb
        have h6 := HOL.out.sl.lt b hb
        have h7 := HH.out.lts
        simp at hf
        omega)
      obtain ⟨s4, cap4, w4, hrun, hol4, hk4⟩ := ol_push2 (P := Tryz.prog) (T := 25) Tryz.underlying25 hin hz0 hz1 hz2 rfl (by decide) (by decide) (w := w) (W := w3.drew) HUX.out.size (hol3.updF (Upd.refl w3 []).drew (by simp)) [.int .u32 y] rfl (by intro u hu; simp at hu; first | (subst hu; rfl) | (rcases hu with rfl <;> rfl)) (by have := HL.out; have := HN.out; simp; omega)
      rw [List.length_map, HL.out] at hrun
      have hrun2 : (appSem #[25, 25] 25 #[.slice s i cap, .slice (some ⟨w3.heap.size, 0, none⟩) 1 1]).run Tryz.prog ((w3.alloc (.cells #[.int .u32 y] 26 (0, 0))).drew) = .ok (.slice s4 (i + 1) cap4) w4 := hrun
      have q0 : w3.drew.cell? ⟨wr.heap.size, 0, none⟩ = some (.int .u32 y) := hr2.cell 0 _ rfl
      have qs : w3.drew.cell? ⟨g, off, none⟩ = some (.slice s i cap) := hg3.cell off _ (List.getElem?_set_self HOF.out)
      have qs2 : ((w3.alloc (.cells #[.int .u32 y] 26 (0, 0))).drew).cell? ⟨g, off, none⟩ = some (.slice s i cap) := (hg3.alloc _).cell off _ (List.getElem?_set_self HOF.out)
      have hg4 := (hg3.keep (Own.refl w3).drew.below).other hk4.upd (fun b hb => by
        have h5 := HOL.out.far b hb
        have h7 := HH.out.lts
        omega)
      have qz := hg4.cell off _ (List.getElem?_set_self HOF.out)
      have f4 := hg4.thaw off
      have hg5 := hg4.set off (.slice s4 (i + 1) cap4)
      rw [List.set_set] at hg5
      have HG5 := Lib.hid hg5
      have HU5 : Hid (Upd w (w4.setCell ⟨g, off, none⟩ (.slice s4 (i + 1) cap4)) [rb, g]) := Lib.hid ((HUX.out.drew.trans hk4.upd (fun b hb => .inr (HOL.out.far b hb))).setCell (.inl (by simp)) _)
      have HOL5 : Hid (OL w (w4.setCell ⟨g, off, none⟩ (.slice s4 (i + 1) cap4)) 26 1 s4 cap4 ((l ++ [y]).map (fun a : Nat => [.int .u32 a]))) := Lib.hid (by
        rw [List.map_append]
        exact hol4.updB ((Upd.refl w4 [g]).setCell (.inl (by simp)) _) (by simpa using HH.out.lts.2.2))
      have HS2 := Lib.hid hs2
      have HY2 := Lib.hid hy2
      clear hs2 hy2 hr2 hg3 hu2 hol3 HRD hg4 hg5 hol4 hk4
      go_wp2_with fail
      go_region
      generalize w4.setCell ⟨g, off, none⟩ (.slice s4 (i + 1) cap4) = w5 at *
      clear hrun hrun2 q0 qs qs2 qz f4
      obtain ⟨d0, d3, d4, dz⟩ := HG5.out.cells
      have HER := Lib.hid (errR w5 rb st2 HG5.out.rd)
      go_wp2_with fail
      refine HER.out.mono ?_
      rintro e w6 ⟨ec, rfl, hec, rfl⟩
      clear d0 d3 d4 dz HER
      cases st2 with
      | none =>
        rw [Option.isNone_none] at hec
        go_wp2_with fail
        refine bodyPost_ret (v := .tuple #[]) (by simp [results, Tryz.results106, go_sem]) rfl ⟨rfl, l ++ [y], s4, cap4, none, HRO.out.fail HLT.out HS2.out HST1.out, ?_, ?_, ?_, HOL5.out, HU5.out⟩
        · intro a ha
          rcases List.mem_append.1 ha with h1 | h1
          · exact HGD.out a h1
          · simp at h1; rw [h1]; exact HY2.out
        · have := HL.out; have := HN.out; have := HLT.out; simp; omega
        · have h1 := HG5.out
          rw [show i + 1 = (l ++ [y]).length by simp; exact HL.out.symm] at h1
          exact h1
      | some r2 =>
        rw [Option.isNone_some] at hec
        go_wp2_with fail
        go_roundw
        case rel =>
          refine ⟨i + 1, l ++ [y], s4, cap4, some r2, by omega, by go_num, by simp; exact HL.out, HRO.out.next HS2.out, ?_, HG5.out, HOL5.out, HU5.out⟩
          intro a ha
          rcases List.mem_append.1 ha with h1 | h1
          · exact HGD.out a h1
          · simp at h1; rw [h1]; exact HY2.out
        case measure => simp [intOf]; omega
    · obtain rfl : i = n := by omega
      go_wp2_with fail
      refine bodyPost_ret (v := .tuple #[]) (by simp [results, Tryz.results106, go_sem]) rfl ⟨rfl, l, s, cap, sti, HRO.out.done HST1.out, HGD.out, by rw [HL.out]; exact HN.out, by rw [HL.out]; exact HR.out, HOL.out, HU.out⟩

end Go.Proofs.YtjgnomjjphkfbaaGreat
