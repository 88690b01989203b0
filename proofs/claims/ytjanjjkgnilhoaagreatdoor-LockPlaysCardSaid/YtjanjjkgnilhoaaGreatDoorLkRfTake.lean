/-
  THE WALK of the answer's Take.
-/
import Derived.Test.YtjanjjkgnilhoaaGreatDoorLkRf2
import Derived.Deep.DeepCutAuto
namespace Go.Proofs.YtjanjjkgnilhoaaGreatDoor
open Go.RowKit Go.Maps

namespace Lh
theorem put_snoc (X : St) (t : Tb.Tx) (l : List LV) (y : LV) : put X t (l ++ [y]) = if (t, y) ∈ put X t l then put X t l else put X t l ++ [(t, y)] := by
  have hm : (t, y) ∈ put X t l ↔ y ∈ add (row X t) l := by rw [← mem_row, row_put_same]
  have hn : news (row X t) (l ++ [y]) = if y ∈ add (row X t) l then news (row X t) l else news (row X t) l ++ [y] := by
    have h1 := add_news (row X t) (l ++ [y])
    rw [add_snoc] at h1
    split at h1
    · rename_i h; rw [if_pos h]
      rw [add_news (row X t) l] at h1
      exact (List.append_cancel_left h1).symm
    · rename_i h; rw [if_neg h]
      rw [add_news (row X t) l, List.append_assoc] at h1
      exact (List.append_cancel_left h1).symm
  unfold put at *
  rw [hn]
  by_cases h : y ∈ add (row X t) l
  · rw [if_pos h, if_pos (hm.2 h)]
  · rw [if_neg h, if_neg (fun h2 => h (hm.1 h2))]; simp
theorem put_nil (X : St) (t : Tb.Tx) : put X t [] = X := by unfold put news; simp [add_nil]
theorem put_le (X : St) (t : Tb.Tx) (l : List LV) : (put X t l).length ≤ X.length + l.length := by
  have := news_le (row X t) l
  unfold put; simp; omega
theorem busy_no {X : St} {t : Tb.Tx} {y : LV} (h : ∀ k (hk : k < X.length), X[k].1 ≠ t → Lk.conf y.l X[k].2.l = false) : busy X t y = false := by
  cases hb : busy X t y with
  | false => rfl
  | true =>
    obtain ⟨e, he, h1, h2⟩ := busy_iff.1 hb
    obtain ⟨k, hk, rfl⟩ := List.getElem_of_mem he
    rw [h k hk h1] at h2; cases h2
end Lh

/-- 'append([]api.LockOf{}, x...)' of a list. -/
theorem copy_lo (w : World) (a : Option Addr) (cap : Nat) (l : List (Tb.Tx × LV)) (hs : SliceIs w 59 6 a l.length cap (eflat l)) (hl : l.length ≤ 10000) :
    ∃ s' cap' w', (appSem #[31, 31] 31 #[.slice (some ⟨w.heap.size, 0, none⟩) 0 0, .slice a l.length cap]).run Tryz.prog (w.alloc (.cells #[] 59 (0, 0))) = .ok (.slice s' l.length cap') w' ∧ OL w w' 59 6 s' cap' (l.map ecells) ∧ Own w.heap.size w w' := by
  obtain ⟨i, hi, hz, hsize, hby⟩ := lo_info
  have hnil : SliceIs (w.alloc (.cells #[] 59 (0, 0))) 59 6 (some ⟨w.heap.size, 0, none⟩) 0 0 [] := SliceIs.new w 59 6 0 [] rfl (by decide)
  rcases hs.2 with ⟨rfl, h0, rfl⟩ | ⟨g, off, cur, rfl, hg⟩
  · have hl0 : l = [] := List.length_eq_zero_iff.1 h0
    subst hl0
    exact ⟨some ⟨w.heap.size, 0, none⟩, 0, _, run_append_slice_none _ _ _ _ i Tryz.underlying31 hi _ 0 0 (Nat.le_refl _), ⟨hnil, by simp, by simp⟩, (Own.refl w).alloc _⟩
  · have hrow := SliceIs.rowE hs
    obtain ⟨s', cap', w', hrun, hS, hU, hB⟩ := append_row (T := 31) Tryz.underlying31 hi hz hsize hby rfl (by decide) (w.alloc (.cells #[] 59 (0, 0))) (some ⟨w.heap.size, 0, none⟩) 0 0 [] hnil (some ⟨g, off, none⟩) cap (l.map ecells) (hrow.keep ((Below.refl _ w).alloc (Nat.le_refl _) _)) (ecells_len l) (ecells_one l) (by simp; omega) (by decide) (by simp)
    rw [List.length_map, Nat.zero_add] at hrun hS
    refine ⟨s', cap', w', hrun, ⟨by rw [List.length_map]; simpa using hS, fun k hk => ?_, ecells_len l⟩, ((Own.refl w).alloc _).upd hU (by simp)⟩
    rcases hB k hk with h | h
    · simp at h; omega
    · simp at h; omega
/-- The four cells of a row's lock. -/
theorem lrow_cells {w : World} {a : Option Addr} {l : List LV} (h : RowIs w 4 a (l.map LV.cells)) (i : Nat) (hi : i < l.length) : ∃ g off, a = some ⟨g, off, none⟩ ∧
    w.cell? ⟨g, off + i * 4, none⟩ = some (.int .u8 (l[i]'hi).kind) ∧ w.cell? ⟨g, off + i * 4 + 1, none⟩ = some (.string (l[i]'hi).p) ∧ w.cell? ⟨g, off + i * 4 + 2, none⟩ = some (.int .u64 (l[i]'hi).frm) ∧ w.cell? ⟨g, off + i * 4 + 3, none⟩ = some (.int .u64 (l[i]'hi).top) := by
  obtain ⟨g, off, ha, hc⟩ := h i (by simpa using hi)
  have hce : (l.map LV.cells)[i]'(by simpa using hi) = LV.cells (l[i]'hi) := by rw [List.getElem_map]
  rw [hce] at hc
  exact ⟨g, off, ha, hc.cell 0 (by simp [LV.cells]), hc.cell 1 (by simp [LV.cells]), hc.cell 2 (by simp [LV.cells]), hc.cell 3 (by simp [LV.cells])⟩

attribute [local go_sem ↓ high] appSem_eq
set_option maxRecDepth 20000 in
set_option maxHeartbeats 16000000 in
theorem rtake_any {w : World} {p : Nat} {X : Lh.St} (h : RfAt w p X) (hX : X.length ≤ 4096) (hokX : ∀ e ∈ X, okL e.2) (t : Tb.Tx) (s : Option Addr) (cap : Nat) (l : List LV) (hr : RowIs w 4 s (l.map LV.cells)) (hok : ∀ y ∈ l, okL y) (hlen : l.length ≤ 1000) :
    Calls Tryz.prog 10 #[.pointer (some ⟨p, 0, none⟩), .agg #[.int .u64 t.life, .int .u64 t.n], .slice s l.length cap] w fun e w' => e = .returned (.tuple #[.int .i64 (Lh.take X t l).1, .int .i64 (Lh.take X t l).2.1]) ∧ RfAt w' p (Lh.take X t l).2.2 ∧ Upd w w' [p] := by
  obtain ⟨w0, hw0⟩ : ∃ w0, w0 = w.alloc (.cells #[.int .u64 t.life, .int .u64 t.n] 35 (0, 0)) := ⟨_, rfl⟩
  have hb0 : Own w.heap.size w w0 := by rw [hw0]; exact (Own.refl w).alloc _
  have hx0 : w0.heap[w.heap.size]? = some (.cells #[.int .u64 t.life, .int .u64 t.n] 35 (0, 0)) := by rw [hw0]; exact heap_alloc_new w _
  have HR0 := Lib.hid (h.keep hb0.below)
  have HX0 := Lib.hid hx0
  have HB0 := Lib.hid hb0
  have HXL := Lib.hid hX
  have HRW : Hid (RowIs w0 4 s (l.map LV.cells)) := Lib.hid (hr.keep hb0.below)
  have HOK := Lib.hid hok
  have HOX := Lib.hid hokX
  have HLEN := Lib.hid hlen
  have hXI : (0 : Int) ≤ X.length ∧ (X.length : Int) ≤ 4096 := by omega
  have hlI : (0 : Int) ≤ l.length ∧ (l.length : Int) ≤ 1000 := by omega
  have hp : p < w.heap.size := by obtain ⟨s, cap, h1, _⟩ := h; exact blk_lt h1
  have HP := Lib.hid hp
  obtain ⟨T, hT⟩ : ∃ T, T = Lh.take X t l := ⟨_, rfl⟩
  rw [← hT]
  have HT := Lib.hid hT
  clear h hb0 hx0 hX hp hr hok hlen hT hokX
  go_enter Tryz.func10, Tryz.ntmps10
  go_wp2_with fail
  rw [← hw0]
  clear hw0
  obtain ⟨sx, capx, hbx, hrow⟩ := HR0.out.row
  have HBX := Lib.hid hbx
  have HROW := Lib.hid hrow
  clear hbx hrow
  go_loopw [8] (fun vi wr => ∃ i : Nat, i ≤ l.length ∧ vi = .int .i64 i ∧ (∀ k (hk : k < l.length), k < i → Lk.may l[k].l = true) ∧ Own w0.heap.size w0 wr) (fun vi _ => l.length - (intOf vi).toNat)
  case atStart => exact ⟨0, Nat.zero_le _, rfl, fun k _ h => by omega, Own.refl _⟩
  case round =>
    obtain ⟨i, hi, rfl, hk, hO⟩ := hrel
    have HO := Lib.hid hO
    have HK := Lib.hid hk
    clear hO hk
    by_cases hlt : i < l.length
    · obtain ⟨g, off, rfl, c0, c1, c2, c3⟩ := lrow_cells (HRW.out.keep HO.out.below) i hlt
      have hiI : (0 : Int) ≤ i ∧ (i : Int) < l.length := by omega
      have HLT := Lib.hid hlt
      obtain ⟨y, hy⟩ : ∃ y, y = l[i]'hlt := ⟨_, rfl⟩
      rw [← hy] at c0 c1 c2 c3
      have HY : Hid (y = l[i]'hlt) := Lib.hid hy
      have hoy : okL y := by rw [hy]; exact HOK.out _ (List.getElem_mem _)
      have HC := Lib.hid (rmay_any y hoy wr)
      clear hy hoy
      go_wp2_with fail
      refine HC.out.mono ?_
      rintro e w5 ⟨rfl, hb5⟩
      have HO5 := Lib.hid (HO.out.trans hb5)
      clear hb5 HC c0 c1 c2 c3
      cases hm : Lk.may y.l with
      | false =>
        have hTT : T = (i, 2, X) := HT.out.trans (take_may HLT.out (by rw [← HY.out]; exact hm) HK.out)
        have HTT := Lib.hid hTT
        clear hm hTT
        go_wp2_with fail
        refine bodyPost_ret (v := .tuple #[.int .i64 i, .int .i64 2]) (by simp [results, Tryz.results10, go_sem]) rfl ⟨by rw [HTT.out]; rfl, ?_, ?_⟩
        · rw [HTT.out]; exact HR0.out.keep HO5.out.below
        · exact Upd.of_below _ (HB0.out.below.trans (HO5.out.below.mono HB0.out.size))
      | true =>
        have HMM := Lib.hid hm
        clear hm
        go_wp2_with fail
        go_roundw
        case rel =>
          refine ⟨i + 1, by omega, by go_num, fun k h hk => ?_, HO5.out⟩
          by_cases e : k = i
          · subst e; rw [← HY.out]; exact HMM.out
          · exact HK.out k h (by omega)
        case measure => simp [intOf]; omega
    · obtain rfl : i = l.length := by omega
      have HM : Hid (∀ k (hk : k < l.length), Lk.may l[k].l = true) := Lib.hid (fun k hk => HK.out k hk hk)
      have HOL1 := Lib.hid HO.out
      clear HK hi hlt HO
      go_wp2_with fail
      go_loopw [9] (fun vi wr => ∃ i : Nat, i ≤ l.length ∧ vi = .int .i64 i ∧ (∀ k (hk : k < l.length), k < i → Lh.busy X t l[k] = false) ∧ Own w0.heap.size w0 wr) (fun vi _ => l.length - (intOf vi).toNat)
      case atStart => exact ⟨0, Nat.zero_le _, rfl, fun k _ h => by omega, HOL1.out⟩
      case round =>
        clear HOL1
        obtain ⟨i, hi, rfl, hk, hO⟩ := hrel
        have HO := Lib.hid hO
        have HK := Lib.hid hk
        clear hO hk
        by_cases hlt : i < l.length
        · have hiI : (0 : Int) ≤ i ∧ (i : Int) < l.length := by omega
          have HLT := Lib.hid hlt
          obtain ⟨g, off, hs0, _⟩ := lrow_cells HRW.out i hlt
          subst hs0
          go_wp2_with fail
          go_loopw [10] (fun vj wr => ∃ j : Nat, j ≤ X.length ∧ vj = .int .i64 j ∧ (∀ k (hk : k < X.length), k < j → X[k].1 ≠ t → Lk.conf (l[i]'hlt).l X[k].2.l = false) ∧ Own w0.heap.size w0 wr) (fun vj _ => X.length - (intOf vj).toNat)
          case atStart => exact ⟨0, Nat.zero_le _, rfl, fun k _ h => by omega, HO.out⟩
          case round =>
            clear HO
            obtain ⟨j, hj, rfl, hk, hO⟩ := hrel
            have HO := Lib.hid hO
            have HJ := Lib.hid hk
            clear hO hk
            have hbx := (HO.out.below.block _ (blk_lt HBX.out)).trans HBX.out
            have e0 : wr.cell? ⟨p, 0, none⟩ = some (.slice sx X.length capx) := by rw [cell_of_row _ _ _ _ _ _ hbx]; rfl
            by_cases hlj : j < X.length
            · obtain ⟨gx, ox, hsx, _⟩ := row_cells HROW.out j hlj
              subst hsx
              have hjI : (0 : Int) ≤ j ∧ (j : Int) < X.length := by omega
              obtain ⟨y, hy⟩ : ∃ y, y = l[i]'hlt := ⟨_, rfl⟩
              obtain ⟨z, hz⟩ : ∃ z, z = X[j]'hlj := ⟨_, rfl⟩
              have HY := Lib.hid hy
              have HZ := Lib.hid hz
              have HSC : Hid (∀ wz, Below w0.heap.size w0 wz → (wz.cell? ⟨p, 0, none⟩ = some (.slice (some ⟨gx, ox, none⟩) X.length capx) ∧ wz.cell? ⟨w.heap.size, 0, none⟩ = some (.int .u64 t.life) ∧ wz.cell? ⟨w.heap.size, 1, none⟩ = some (.int .u64 t.n)) ∧
                  (wz.cell? ⟨g, off + i * 4, none⟩ = some (.int .u8 y.kind) ∧ wz.cell? ⟨g, off + i * 4 + 1, none⟩ = some (.string y.p) ∧ wz.cell? ⟨g, off + i * 4 + 2, none⟩ = some (.int .u64 y.frm) ∧ wz.cell? ⟨g, off + i * 4 + 3, none⟩ = some (.int .u64 y.top)) ∧
                  wz.cell? ⟨gx, ox + j * 6, none⟩ = some (.int .u64 z.1.life) ∧ wz.cell? ⟨gx, ox + j * 6 + 1, none⟩ = some (.int .u64 z.1.n) ∧ wz.cell? ⟨gx, ox + j * 6 + 2, none⟩ = some (.int .u8 z.2.kind) ∧ wz.cell? ⟨gx, ox + j * 6 + 3, none⟩ = some (.string z.2.p) ∧ wz.cell? ⟨gx, ox + j * 6 + 4, none⟩ = some (.int .u64 z.2.frm) ∧ wz.cell? ⟨gx, ox + j * 6 + 5, none⟩ = some (.int .u64 z.2.top)) := Lib.hid (fun wz hb => by
                obtain ⟨g1, o1, e1, h1⟩ := row_cells (HROW.out.keep hb) j hlj
                obtain ⟨g2, o2, e2, h2⟩ := lrow_cells (HRW.out.keep hb) i hlt
                cases e1; cases e2
                rw [← hz] at h1
                rw [← hy] at h2
                have q1 := (hb.block _ (blk_lt HBX.out)).trans HBX.out
                have q2 := (hb.block _ (blk_lt HX0.out)).trans HX0.out
                refine ⟨⟨?_, ?_, ?_⟩, h2, h1⟩
                · rw [cell_of_row _ _ _ _ _ _ q1]; rfl
                · rw [cell_of_row _ _ _ _ _ _ q2]; rfl
                · rw [cell_of_row _ _ _ _ _ _ q2]; rfl)
              have hrun := run_neqT z.1 t
              have hoy : okL y := by rw [hy]; exact HOK.out _ (List.getElem_mem _)
              have hoz : okL z.2 := by rw [hz]; exact HOX.out _ (List.getElem_mem _)
              have HCC := Lib.hid (fun wz => rconf_any y z.2 hoy hoz wz)
              have hS0 := HSC.out wr.drew HO.out.drew.below
              clear hy hz hoy hoz hbx
              by_cases het : z.1 = t
              · rw [show decide (z.1 ≠ t) = false by simp [het]] at hrun
                have HET := Lib.hid het
                obtain ⟨⟨x0, x1, x2⟩, ⟨y0, y1, y2, y3⟩, z0, z1, z2, z3, z4, z5⟩ := hS0
                clear het
                go_wp2_with fail
                go_region
                clear hrun e0 x0 x1 x2 y0 y1 y2 y3 z0 z1 z2 z3 z4 z5
                go_wp2_with fail
                go_roundw
                case rel =>
                  refine ⟨j + 1, by omega, by go_num, fun k h hk hne => ?_, HO.out.drew⟩
                  by_cases e : k = j
                  · subst e; rw [← HZ.out] at hne; exact absurd HET.out hne
                  · exact HJ.out k h (by omega) hne
                case measure => simp [intOf]; omega
              · rw [show decide (z.1 ≠ t) = true by simp [het]] at hrun
                have HNE := Lib.hid het
                clear het
                go_wp2_with fail
                go_cut [65] (fun v wx => v = .bool (Lk.conf y.l z.2.l) ∧ Own w0.heap.size w0 wx)
                case first =>
                  go_region_held3 (fun wz => (wz.cell? ⟨p, 0, none⟩ = some (.slice (some ⟨gx, ox, none⟩) X.length capx) ∧ wz.cell? ⟨w.heap.size, 0, none⟩ = some (.int .u64 t.life) ∧ wz.cell? ⟨w.heap.size, 1, none⟩ = some (.int .u64 t.n)) ∧
                    (wz.cell? ⟨g, off + i * 4, none⟩ = some (.int .u8 y.kind) ∧ wz.cell? ⟨g, off + i * 4 + 1, none⟩ = some (.string y.p) ∧ wz.cell? ⟨g, off + i * 4 + 2, none⟩ = some (.int .u64 y.frm) ∧ wz.cell? ⟨g, off + i * 4 + 3, none⟩ = some (.int .u64 y.top)) ∧
                    wz.cell? ⟨gx, ox + j * 6, none⟩ = some (.int .u64 z.1.life) ∧ wz.cell? ⟨gx, ox + j * 6 + 1, none⟩ = some (.int .u64 z.1.n) ∧ wz.cell? ⟨gx, ox + j * 6 + 2, none⟩ = some (.int .u8 z.2.kind) ∧ wz.cell? ⟨gx, ox + j * 6 + 3, none⟩ = some (.string z.2.p) ∧ wz.cell? ⟨gx, ox + j * 6 + 4, none⟩ = some (.int .u64 z.2.frm) ∧ wz.cell? ⟨gx, ox + j * 6 + 5, none⟩ = some (.int .u64 z.2.top))
                    (first | exact hS0 | exact hS1 | fail)
                    (first
                    | (go_at_call 29
                       (with_reducible refine (HCC.out _).mono ?_)
                       rintro x w9 ⟨rfl, hb9⟩
                       have HO9 := Lib.hid (HO.out.drew.trans hb9)
                       have hS1 := HSC.out _ HO9.out.below
                       clear hb9))
                  all_goals
                    go_wp2_with fail
                    go_meet
                    exact ⟨rfl, HO9.out⟩
                case rest =>
                obtain ⟨rfl, hO9⟩ := hcut
                have HO9 := Lib.hid hO9
                clear hO9 hS0 hrun e0
                cases hcf : Lk.conf y.l z.2.l with
                | true =>
                  have hbusy : Lh.busy X t (l[i]'hlt) = true := Lh.busy_iff.2 ⟨z, by rw [HZ.out]; exact List.getElem_mem _, HNE.out, by rw [← HY.out]; exact hcf⟩
                  have hTT : T = (i, 9, X) := HT.out.trans (take_busy HM.out HLT.out hbusy HK.out)
                  have HTT := Lib.hid hTT
                  clear hcf hTT hbusy
                  go_wp2_with fail
                  refine bodyPost_ret (v := .tuple #[.int .i64 i, .int .i64 9]) (by simp [results, Tryz.results10, go_sem]) rfl ⟨by rw [HTT.out]; rfl, ?_, ?_⟩
                  · rw [HTT.out]; exact HR0.out.keep HO9.out.below
                  · exact Upd.of_below _ (HB0.out.below.trans (HO9.out.below.mono HB0.out.size))
                | false =>
                  have HCF := Lib.hid hcf
                  clear hcf
                  go_wp2_with fail
                  go_roundw
                  case rel =>
                    refine ⟨j + 1, by omega, by go_num, fun k h hk hne => ?_, HO9.out⟩
                    by_cases e : k = j
                    · subst e; rw [← HZ.out, ← HY.out]; exact HCF.out
                    · exact HJ.out k h (by omega) hne
                  case measure => simp [intOf]; omega
            · obtain rfl : j = X.length := by omega
              have hnb := Lh.busy_no (t := t) (y := l[i]'hlt) (fun k hk hne => HJ.out k hk hk hne)
              have HNB := Lib.hid hnb
              clear hnb hbx
              go_wp2_with fail
              go_roundw
              case rel =>
                refine ⟨i + 1, by omega, by go_num, fun k h hk => ?_, HO.out⟩
                by_cases e : k = i
                · subst e; exact HNB.out
                · exact HK.out k h (by omega)
              case measure => simp [intOf]; omega
        · obtain rfl : i = l.length := by omega
          have HNB : Hid (∀ k (hk : k < l.length), Lh.busy X t l[k] = false) := Lib.hid (fun k hk => HK.out k hk hk)
          have hTT := HT.out.trans (take_none HM.out HNB.out)
          have HTT := Lib.hid hTT
          have HOQ := Lib.hid HO.out
          clear HK hi hlt HO HNB hTT HT HM
          obtain ⟨sl, cl, hbq, hsl⟩ := HR0.out.keep HOQ.out.below
          obtain ⟨sc, cc, W1, hrun, hol1, hO1⟩ := copy_lo wr sl cl X hsl (by have := HXL.out; omega)
          have e0 : wr.cell? ⟨p, 0, none⟩ = some (.slice sl X.length cl) := by rw [cell_of_row _ _ _ _ _ _ hbq]; rfl
          have e1 : (wr.alloc (.cells #[] 59 (0, 0))).cell? ⟨p, 0, none⟩ = some (.slice sl X.length cl) := by
            rw [cell_of_row _ _ _ _ _ _ ((((Below.refl _ wr).alloc (Nat.le_refl _) _).block _ (blk_lt hbq)).trans hbq)]; rfl
          have hO1' := HOQ.out.trans hO1.below
          have hbW := (Below.refl W1.heap.size W1).alloc (Nat.le_refl _) (.cells #[.slice sc X.length cc] 33 (0, 0))
          have HOL1 : Hid (OL w0 (W1.alloc (.cells #[.slice sc X.length cc] 33 (0, 0))) 59 6 sc cc (X.map ecells)) := Lib.hid (OL.keep ⟨hol1.sl, fun k hk => Nat.le_trans HOQ.out.size (hol1.far k hk), hol1.all⟩ hbW)
          have HO1 := Lib.hid (hO1'.alloc (.cells #[.slice sc X.length cc] 33 (0, 0)))
          have HBY := Lib.hid (heap_alloc_new W1 (.cells #[.slice sc X.length cc] 33 (0, 0)))
          have HYB : Hid (w0.heap.size ≤ W1.heap.size) := Lib.hid hO1'.size
          clear hbq hsl hol1 hO1 hO1' hbW
          go_wp2_with fail
          clear hrun e0 e1 HOQ
          generalize W1.heap.size = yb at *
          go_loopw [12] (fun vi wz => ∃ (i : Nat) (sy : Option Addr) (cy : Nat), i ≤ l.length ∧ vi = .int .i64 i ∧ wz.heap[yb]? = some (.cells #[.slice sy (Lh.put X t (l.take i)).length cy] 33 (0, 0)) ∧ OL w0 wz 59 6 sy cy ((Lh.put X t (l.take i)).map ecells) ∧ Own w0.heap.size w0 wz) (fun vi _ => l.length - (intOf vi).toNat)
          case atStart => exact ⟨0, sc, cc, Nat.zero_le _, rfl, by rw [List.take_zero, Lh.put_nil]; exact HBY.out, by rw [List.take_zero, Lh.put_nil]; exact HOL1.out, HO1.out⟩
          case round =>
            clear HOL1 HO1 HBY
            obtain ⟨i, sy, cy, hi, rfl, hby, hOL, hO⟩ := hrel
            have HBY := Lib.hid hby
            have HOL := Lib.hid hOL
            have HO := Lib.hid hO
            have hZ : (Lh.put X t (l.take i)).length ≤ 5096 := by
              have h1 := Lh.put_le X t (l.take i)
              have h2 := HXL.out
              have h3 := HLEN.out
              simp at h1
              omega
            have HZL := Lib.hid hZ
            clear hby hOL hO hZ
            by_cases hlt : i < l.length
            · have hiI : (0 : Int) ≤ i ∧ (i : Int) < l.length := by omega
              obtain ⟨g, off, hs0, _⟩ := lrow_cells HRW.out i hlt
              subst hs0
              obtain ⟨y, hy⟩ : ∃ y, y = l[i]'hlt := ⟨_, rfl⟩
              have HPS : Hid (Lh.put X t (l.take (i + 1)) = if (t, y) ∈ Lh.put X t (l.take i) then Lh.put X t (l.take i) else Lh.put X t (l.take i) ++ [(t, y)]) := Lib.hid (by rw [← List.take_append_getElem hlt, Lh.put_snoc, ← hy])
              have HSC : Hid (∀ wz, Below w0.heap.size w0 wz → (wz.cell? ⟨w.heap.size, 0, none⟩ = some (.int .u64 t.life) ∧ wz.cell? ⟨w.heap.size, 1, none⟩ = some (.int .u64 t.n)) ∧
                  wz.cell? ⟨g, off + i * 4, none⟩ = some (.int .u8 y.kind) ∧ wz.cell? ⟨g, off + i * 4 + 1, none⟩ = some (.string y.p) ∧ wz.cell? ⟨g, off + i * 4 + 2, none⟩ = some (.int .u64 y.frm) ∧ wz.cell? ⟨g, off + i * 4 + 3, none⟩ = some (.int .u64 y.top)) := Lib.hid (fun wz hb => by
                obtain ⟨g2, o2, e2, h2⟩ := lrow_cells (HRW.out.keep hb) i hlt
                cases e2
                rw [← hy] at h2
                have q2 := (hb.block _ (blk_lt HX0.out)).trans HX0.out
                refine ⟨⟨?_, ?_⟩, h2⟩
                · rw [cell_of_row _ _ _ _ _ _ q2]; rfl
                · rw [cell_of_row _ _ _ _ _ _ q2]; rfl)
              generalize Lh.put X t (l.take i) = Z at *
              have hRZ : RfAt wr.drew yb Z := ⟨sy, cy, HBY.out, by have := HOL.out.sl; rw [List.length_map] at this; exact this.keep fun _ _ => rfl⟩
              have HHAS := Lib.hid (rhas_any hRZ (by have := HZL.out; omega) t y)
              have hS0 := HSC.out wr.drew HO.out.drew.below
              clear hy hRZ
              go_wp2_with fail
              go_cut [88] (fun v wx => v = .bool (!decide ((t, y) ∈ Z)) ∧ Below wr.heap.size wr wx)
              case first =>
                go_region_held3 (fun wz => (wz.cell? ⟨w.heap.size, 0, none⟩ = some (.int .u64 t.life) ∧ wz.cell? ⟨w.heap.size, 1, none⟩ = some (.int .u64 t.n)) ∧
                  wz.cell? ⟨g, off + i * 4, none⟩ = some (.int .u8 y.kind) ∧ wz.cell? ⟨g, off + i * 4 + 1, none⟩ = some (.string y.p) ∧ wz.cell? ⟨g, off + i * 4 + 2, none⟩ = some (.int .u64 y.frm) ∧ wz.cell? ⟨g, off + i * 4 + 3, none⟩ = some (.int .u64 y.top))
                  (first | exact hS0 | exact hS1 | fail)
                  (first
                  | (go_at_call 30
                     (with_reducible refine HHAS.out.mono ?_)
                     rintro x w9 ⟨rfl, hb9⟩
                     have HB9 : Hid (Below wr.heap.size wr w9) := Lib.hid ((Own.refl wr).drew.below.trans hb9)
                     have hS1 := HSC.out _ (HO.out.trans HB9.out).below
                     clear hb9))
                all_goals
                  go_wp2_with fail
                  go_meet
                  exact ⟨rfl, HB9.out⟩
              case rest =>
              obtain ⟨rfl, hb9⟩ := hcut
              have HO9 := Lib.hid (HO.out.trans hb9)
              have HOL9 := Lib.hid (HOL.out.keep hb9)
              have HBY9 := Lib.hid ((hb9.block _ (blk_lt HBY.out)).trans HBY.out)
              clear hb9 hS0 HHAS HO HOL HBY
              by_cases hm : (t, y) ∈ Z
              · have hps := HPS.out
                rw [if_pos hm] at hps
                have HPS2 := Lib.hid hps
                rw [decide_eq_true hm]
                clear hm hps HPS
                go_wp2_with fail
                go_roundw
                case rel => exact ⟨i + 1, sy, cy, by omega, by go_num, by rw [HPS2.out]; exact HBY9.out, by rw [HPS2.out]; exact HOL9.out, HO9.out⟩
                case measure => simp [intOf]; omega
              · have hps := HPS.out
                rw [if_neg hm] at hps
                have HPS2 := Lib.hid hps
                rw [decide_eq_false hm]
                obtain ⟨⟨t0, t1⟩, x0, x1, x2, x3⟩ := HSC.out wc.drew HO9.out.drew.below
                have b0 : wc.drew.cell? ⟨yb, 0, none⟩ = some (.slice sy Z.length cy) := by rw [cell_of_row _ _ _ _ _ _ (show wc.drew.heap[yb]? = _ from HBY9.out)]; rfl
                have hby2 : ((wc.alloc (.cells #[.int .u64 t.life, .int .u64 t.n, .int .u8 y.kind, .string y.p, .int .u64 y.frm, .int .u64 y.top] 59 (0, 0))).drew).heap[yb]? = some (.cells #[.slice sy Z.length cy] 33 (0, 0)) := (((Below.refl _ wc).alloc (Nat.le_refl _) _).block _ (blk_lt HBY9.out)).trans HBY9.out
                have b1 : ((wc.alloc (.cells #[.int .u64 t.life, .int .u64 t.n, .int .u8 y.kind, .string y.p, .int .u64 y.frm, .int .u64 y.top] 59 (0, 0))).drew).cell? ⟨yb, 0, none⟩ = some (.slice sy Z.length cy) := by rw [cell_of_row _ _ _ _ _ _ hby2]; rfl
                obtain ⟨s', cap2, W2, hrun2, hOL2, hO2, hkp⟩ := lo_push HO9.out.drew (HOL9.out.keep (Own.refl wc).drew.below) t y (by have := HZL.out; omega)
                have hrun3 : (appSem #[31, 31] 31 #[.slice sy Z.length cy, .slice (some ⟨wc.heap.size, 0, none⟩) 1 1]).run Tryz.prog ((wc.alloc (.cells #[.int .u64 t.life, .int .u64 t.n, .int .u8 y.kind, .string y.p, .int .u64 y.frm, .int .u64 y.top] 59 (0, 0))).drew) = .ok (.slice s' (Z.length + 1) cap2) W2 := hrun2
                have hk1 : W2.heap[yb]? = some (.cells #[.slice sy Z.length cy] 33 (0, 0)) := (hkp.upd.keep yb (blk_lt (show wc.drew.heap[yb]? = _ from HBY9.out)) ((HOL9.out.keep (Own.refl wc).drew.below).sl.ne (show wc.drew.heap[yb]? = _ from HBY9.out) (by decide))).trans HBY9.out
                have hf := frozen_zero (i := 0) hk1
                have b2 : W2.cell? ⟨yb, 0, none⟩ = some (.slice sy Z.length cy) := by rw [cell_of_row _ _ _ _ _ _ hk1]; rfl
                have HK1 := Lib.hid hk1
                have HOL2 := Lib.hid hOL2
                have HO2 := Lib.hid hO2
                clear hm hps HPS hby2 hrun2 hOL2 hO2 hkp hk1
                go_wp2_with fail
                go_region
                all_goals
                  clear t0 t1 x0 x1 x2 x3 b0 b1 b2 hf hrun3
                  go_wp2_with fail
                  go_roundw
                  case rel =>
                    refine ⟨i + 1, s', cap2, by omega, by go_num, ?_, ?_, HO2.out.setCell (p := ⟨yb, 0, none⟩) HYB.out _⟩
                    · rw [HPS2.out, heap_set _ HK1.out]; simp
                    · rw [HPS2.out]
                      have hne := HOL2.out.sl.ne HK1.out (by decide)
                      exact ⟨HOL2.out.sl.keep fun k hk => heap_setCell_other _ _ _ _ (fun e => hne (by have e2 : k = yb := e; rw [← e2]; exact hk)), HOL2.out.far, HOL2.out.all⟩
                  case measure => simp [intOf]; omega
            · obtain rfl : i = l.length := by omega
              rw [List.take_length] at HBY HOL HZL
              have b0 : wr.cell? ⟨yb, 0, none⟩ = some (.slice sy (Lh.put X t l).length cy) := by rw [cell_of_row _ _ _ _ _ _ HBY.out]; rfl
              have hzI : (0 : Int) ≤ (Lh.put X t l).length ∧ ((Lh.put X t l).length : Int) ≤ 5096 := by have := HZL.out; omega
              have hbq := (HO.out.below.block _ (blk_lt HBX.out)).trans HBX.out
              have b1 : wr.cell? ⟨p, 0, none⟩ = some (.slice sx X.length capx) := by rw [cell_of_row _ _ _ _ _ _ hbq]; rfl
              have hfp := frozen_zero (i := 0) hbq
              have HBQ := Lib.hid hbq
              clear hbq hi hlt
              by_cases hf : Lh.Most < (Lh.put X t l).length
              · have hfI : (4096 : Int) < (Lh.put X t l).length := by have : Lh.Most = 4096 := rfl; omega
                have hTT := HTT.out
                rw [if_pos hf] at hTT
                have HT2 := Lib.hid hTT
                clear hTT hf
                go_wp2_with fail
                refine bodyPost_ret (v := .tuple #[.int .i64 0, .int .i64 4]) (by simp [results, Tryz.results10, go_sem]) rfl ⟨by rw [HT2.out]; rfl, ?_, ?_⟩
                · rw [HT2.out]; exact HR0.out.keep HO.out.below
                · exact Upd.of_below _ (HB0.out.below.trans (HO.out.below.mono HB0.out.size))
              · have hfI : ¬ (4096 : Int) < (Lh.put X t l).length := by have : Lh.Most = 4096 := rfl; omega
                have hTT := HTT.out
                rw [if_neg hf] at hTT
                have HT2 := Lib.hid hTT
                clear hTT hf
                go_wp2_with fail
                refine bodyPost_ret (v := .tuple #[.int .i64 0, .int .i64 0]) (by simp [results, Tryz.results10, go_sem]) rfl ⟨by rw [HT2.out]; rfl, ?_, ?_⟩
                · rw [HT2.out]
                  refine ⟨sy, cy, ?_, ?_⟩
                  · rw [heap_set _ HBQ.out]; rfl
                  · have h2 := HOL.out.sl
                    rw [List.length_map] at h2
                    have hne := h2.ne HBQ.out (by decide)
                    exact h2.keep fun k hk => heap_setCell_other _ _ _ _ (fun e => hne (by have e2 : k = p := e; rw [← e2]; exact hk))
                · exact ((Upd.of_below [p] (HB0.out.below.trans (HO.out.below.mono HB0.out.size))).setCell (p := ⟨p, 0, none⟩) (.inl (by simp)) _)

end Go.Proofs.YtjanjjkgnilhoaaGreatDoor
