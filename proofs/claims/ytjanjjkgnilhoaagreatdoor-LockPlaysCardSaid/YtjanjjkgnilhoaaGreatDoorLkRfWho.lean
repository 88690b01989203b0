/-
  THE WALK of the answer's Who: through the list of all.
-/
import Derived.Test.YtjanjjkgnilhoaaGreatDoorLkRfAll
import Derived.Lib.QuietBelow
namespace Go.Proofs.YtjanjjkgnilhoaaGreatDoor
open Go.RowKit Go.Maps

theorem trow_cells {w : World} {a : Option Addr} {l : List Tb.Tx} (h : RowIs w 2 a (l.map tcells)) (i : Nat) (hi : i < l.length) : ∃ g off, a = some ⟨g, off, none⟩ ∧
    w.cell? ⟨g, off + i * 2, none⟩ = some (.int .u64 (l[i]'hi).life) ∧ w.cell? ⟨g, off + i * 2 + 1, none⟩ = some (.int .u64 (l[i]'hi).n) := by
  obtain ⟨g, off, ha, hc⟩ := h i (by simpa using hi)
  have hce : (l.map tcells)[i]'(by simpa using hi) = tcells (l[i]'hi) := by rw [List.getElem_map]
  rw [hce] at hc
  exact ⟨g, off, ha, hc.cell 0 (by simp [tcells]), hc.cell 1 (by simp [tcells])⟩

attribute [local go_sem ↓ high] appSem_eq
set_option maxRecDepth 20000 in
set_option maxHeartbeats 4000000 in
theorem rwho_any {w : World} {p : Nat} {X : Lh.St} (h : RfAt w p X) (hX : X.length ≤ 4096) (hok : ∀ e ∈ X, okL e.2) (x : LV) (hx : okL x) :
    Calls Tryz.prog 19 #[.pointer (some ⟨p, 0, none⟩), x.val] w fun e w' => (∃ s cap, e = .returned (.slice s (Lh.who X x).length cap) ∧ RowIs w' 2 s ((Lh.who X x).map tcells)) ∧ Below w.heap.size w w' := by
  obtain ⟨w0, hw0⟩ : ∃ w0, w0 = w.alloc (.cells #[.int .u8 x.kind, .string x.p, .int .u64 x.frm, .int .u64 x.top] 25 (0, 0)) := ⟨_, rfl⟩
  have hb0 : Own w.heap.size w w0 := by rw [hw0]; exact (Own.refl w).alloc _
  have hx0 : w0.heap[w.heap.size]? = some (.cells #[.int .u8 x.kind, .string x.p, .int .u64 x.frm, .int .u64 x.top] 25 (0, 0)) := by rw [hw0]; exact heap_alloc_new w _
  have HA := Lib.hid (rall_any (h.keep hb0.below) hX)
  have HX0 := Lib.hid hx0
  have HB0 := Lib.hid hb0
  have HXL := Lib.hid hX
  have HOK : Hid (∀ e ∈ Lh.all X, okL e.2) := Lib.hid (fun e he => hok e (Lh.mem_all.1 he))
  have HX := Lib.hid hx
  have HDN : Hid (∀ out, Lh.WhoUp (Lh.all X) x (Lh.all X).length out → out = Lh.who X x) := Lib.hid (fun out h => h.done)
  have HUP := Lib.hid (Lh.all_up X)
  have HAL : Hid ((Lh.all X).length ≤ 4096) := Lib.hid (Nat.le_trans (Lh.all_len X) hX)
  clear h hb0 hx0 hX hok hx
  go_enter Tryz.func19, Tryz.ntmps19
  go_wp2_with fail
  rw [← hw0]
  refine HA.out.mono ?_
  rintro e w1 ⟨⟨s1, c1, rfl, hol1⟩, hb1⟩
  have HR1 := Lib.hid hol1.row
  have HB1 : Hid (Own w.heap.size w w1) := Lib.hid (HB0.out.trans hb1)
  have HX1 := Lib.hid ((hb1.block _ (blk_lt HX0.out)).trans HX0.out)
  generalize Lh.all X = A at *
  have haI : (0 : Int) ≤ A.length ∧ (A.length : Int) ≤ 4096 := by have := HAL.out; omega
  clear hw0 hol1 hb1 HX0 HB0 HA
  go_wp2_with fail
  go_loopw [7, 5] (fun vi vo wr => ∃ (i : Nat) (out : List Tb.Tx) (s : Option Addr) (cap : Nat), i ≤ A.length ∧ vi = .int .i64 i ∧ vo = .slice s out.length cap ∧ Lh.WhoUp A x i out ∧ OL w1 wr 35 2 s cap (out.map tcells) ∧ Own w1.heap.size w1 wr) (fun vi _ _ => A.length - (intOf vi).toNat)
  case atStart => exact ⟨0, [], none, 0, Nat.zero_le _, rfl, rfl, Lh.WhoUp.nil _ _, OL.nil _ _ _ _, Own.refl _⟩
  case round =>
    obtain ⟨i, out, s, cap, hi, rfl, rfl, hW, hOL, hO⟩ := hrel
    have HW := Lib.hid hW
    have HOL := Lib.hid hOL
    have HO := Lib.hid hO
    clear hW hOL hO
    by_cases hlt : i < A.length
    · have hiI : (0 : Int) ≤ i ∧ (i : Int) < A.length := by omega
      obtain ⟨gx, ox, hsx, _⟩ := row_cells HR1.out i hlt
      subst hsx
      have hol0 : (out.length : Int) ≤ 4096 := by have := HW.out.len; omega
      have HLT := Lib.hid hlt
      obtain ⟨y, hy⟩ : ∃ y, y = A[i]'hlt := ⟨_, rfl⟩
      have HY := Lib.hid hy
      have HSC : Hid (∀ wz, Below w1.heap.size w1 wz → (wz.cell? ⟨w.heap.size, 0, none⟩ = some (.int .u8 x.kind) ∧ wz.cell? ⟨w.heap.size, 1, none⟩ = some (.string x.p) ∧ wz.cell? ⟨w.heap.size, 2, none⟩ = some (.int .u64 x.frm) ∧ wz.cell? ⟨w.heap.size, 3, none⟩ = some (.int .u64 x.top)) ∧
          wz.cell? ⟨gx, ox + i * 6, none⟩ = some (.int .u64 y.1.life) ∧ wz.cell? ⟨gx, ox + i * 6 + 1, none⟩ = some (.int .u64 y.1.n) ∧ wz.cell? ⟨gx, ox + i * 6 + 2, none⟩ = some (.int .u8 y.2.kind) ∧ wz.cell? ⟨gx, ox + i * 6 + 3, none⟩ = some (.string y.2.p) ∧ wz.cell? ⟨gx, ox + i * 6 + 4, none⟩ = some (.int .u64 y.2.frm) ∧ wz.cell? ⟨gx, ox + i * 6 + 5, none⟩ = some (.int .u64 y.2.top)) := Lib.hid (fun wz hb => by
        obtain ⟨g1, o1, e1, h1⟩ := row_cells (HR1.out.keep hb) i hlt
        cases e1
        rw [← hy] at h1
        have q1 := (hb.block _ (blk_lt HX1.out)).trans HX1.out
        refine ⟨⟨?_, ?_, ?_, ?_⟩, h1⟩
        · rw [cell_of_row _ _ _ _ _ _ q1]; rfl
        · rw [cell_of_row _ _ _ _ _ _ q1]; rfl
        · rw [cell_of_row _ _ _ _ _ _ q1]; rfl
        · rw [cell_of_row _ _ _ _ _ _ q1]; rfl)
      have hoy : okL y.2 := by rw [hy]; exact HOK.out _ (List.getElem_mem _)
      have HCC := Lib.hid (fun wz => rconf_any x y.2 HX.out hoy wz)
      have hS0 := HSC.out wr.drew HO.out.drew.below
      clear hy hoy
      -- what the test comes to
      obtain ⟨b, hbs⟩ : ∃ b : Bool, (Lk.conf x.l y.2.l = false → b = false) ∧ (Lk.conf x.l y.2.l = true → out = [] → b = true) ∧ (∀ (m : Nat) (hm : m < out.length), Lk.conf x.l y.2.l = true → out.length = m + 1 → b = decide (out[m] ≠ y.1)) := by
        cases hc : Lk.conf x.l y.2.l with
        | false => exact ⟨false, fun _ => rfl, fun h => (by cases h), fun _ _ h => (by cases h)⟩
        | true =>
          by_cases h0 : out = []
          · exact ⟨true, fun h => (by cases h), fun _ _ => rfl, fun m hm _ _ => by subst h0; simp at hm⟩
          · have hp := List.length_pos_iff.2 h0
            refine ⟨decide (out[out.length - 1]'(by omega) ≠ y.1), fun h => (by cases h), fun _ h => absurd h h0, fun m hm _ h => ?_⟩
            obtain rfl : m = out.length - 1 := by omega
            rfl
      have HBS := Lib.hid hbs
      clear hbs
      go_wp2_with fail
      go_cut [41] (fun v wx => v = .bool b ∧ Below wr.heap.size wr wx)
      case first =>
        cases hc : Lk.conf x.l y.2.l with
        | false =>
          have hbf := HBS.out.1 hc
          subst hbf
          rw [hc] at HCC
          clear HBS hc
          have hq := fun d os => HSC.out (Go.Sort.grow (redrawn wr d) os) (HO.out.trans (below_regrown wr d os)).below
          have q0 := fun d os => (hq d os).1.1
          have q1 := fun d os => (hq d os).1.2.1
          have q2 := fun d os => (hq d os).1.2.2.1
          have q3 := fun d os => (hq d os).1.2.2.2
          have q4 := fun d os => (hq d os).2.1
          have q5 := fun d os => (hq d os).2.2.1
          have q6 := fun d os => (hq d os).2.2.2.1
          have q7 := fun d os => (hq d os).2.2.2.2.1
          have q8 := fun d os => (hq d os).2.2.2.2.2.1
          have q9 := fun d os => (hq d os).2.2.2.2.2.2
          have C0 := Lib.hid (fun d os => Calls.regrown_of (w := wr) (d := d) (os := os) (HCC.out _))
          clear hq hS0 HCC
          refine wp_region_quiet_below (by kernel_rfl) (by kernel_rfl) ?_
          repeat (go_big_quiet_step (with_reducible exact C0.out _ _))
          refine wpQuiet_nil ?_
          intro _ hw'
          obtain ⟨⟨dq, osq⟩, hw''⟩ := hw'
          subst hw''
          go_wp2_with fail
          go_meet
          exact ⟨rfl, below_regrown wr dq osq⟩
        | true =>
          by_cases h0 : out = []
          · have hbt := HBS.out.2.1 hc h0
            subst hbt h0
            rw [hc] at HCC
            clear HBS hc
            have hq := fun d os => HSC.out (Go.Sort.grow (redrawn wr d) os) (HO.out.trans (below_regrown wr d os)).below
            have q0 := fun d os => (hq d os).1.1
            have q1 := fun d os => (hq d os).1.2.1
            have q2 := fun d os => (hq d os).1.2.2.1
            have q3 := fun d os => (hq d os).1.2.2.2
            have q4 := fun d os => (hq d os).2.1
            have q5 := fun d os => (hq d os).2.2.1
            have q6 := fun d os => (hq d os).2.2.2.1
            have q7 := fun d os => (hq d os).2.2.2.2.1
            have q8 := fun d os => (hq d os).2.2.2.2.2.1
            have q9 := fun d os => (hq d os).2.2.2.2.2.2
            have C0 := Lib.hid (fun d os => Calls.regrown_of (w := wr) (d := d) (os := os) (HCC.out _))
            clear hq hS0 HCC
            refine wp_region_quiet_below (by kernel_rfl) (by kernel_rfl) ?_
            repeat (go_big_quiet_step (with_reducible exact C0.out _ _))
            refine wpQuiet_nil ?_
            intro _ hw'
            obtain ⟨⟨dq, osq⟩, hw''⟩ := hw'
            subst hw''
            go_wp2_with fail
            go_meet
            exact ⟨rfl, below_regrown wr dq osq⟩
          · obtain ⟨m, hmk⟩ : ∃ m, out.length = m + 1 := ⟨out.length - 1, by have := List.length_pos_iff.2 h0; omega⟩
            have hm : m < out.length := by omega
            obtain ⟨z, hz⟩ : ∃ z, z = out[m]'hm := ⟨_, rfl⟩
            have hbz : b = decide (z ≠ y.1) := by rw [hz]; exact HBS.out.2.2 m hm hc hmk
            subst hbz
            rw [hc] at HCC
            have hmI : (0 : Int) ≤ m ∧ (m : Int) < out.length := by omega
            have hwr : IntKind.i64.wrap ((out.length : Int) - 1) = (m : Int) := by rw [IntKind.wrap_i64]; omega
            have hne : ((out.length : Int) == 0) = false := by rw [beq_eq_false_iff_ne]; omega
            have hne2 : ¬ out.length = 0 := by omega
            have hrun := run_neqT z y.1
            obtain ⟨g2, o2, hs2, _⟩ := trow_cells HOL.out.row m hm
            subst hs2
            have HSC2 : Hid (∀ wz, Below wr.heap.size wr wz → wz.cell? ⟨g2, o2 + m * 2, none⟩ = some (.int .u64 z.life) ∧ wz.cell? ⟨g2, o2 + m * 2 + 1, none⟩ = some (.int .u64 z.n)) := Lib.hid (fun wz hb => by
              obtain ⟨g1, o1, e1, c0, c1⟩ := trow_cells (HOL.out.row.keep hb) m hm
              cases e1
              rw [← hz] at c0 c1
              exact ⟨c0, c1⟩)
            have hT0 := HSC2.out wr.drew (Own.refl wr).drew.below
            clear HBS hc hz h0 hmk
            go_region_held3 (fun wz => ((wz.cell? ⟨w.heap.size, 0, none⟩ = some (.int .u8 x.kind) ∧ wz.cell? ⟨w.heap.size, 1, none⟩ = some (.string x.p) ∧ wz.cell? ⟨w.heap.size, 2, none⟩ = some (.int .u64 x.frm) ∧ wz.cell? ⟨w.heap.size, 3, none⟩ = some (.int .u64 x.top)) ∧
                wz.cell? ⟨gx, ox + i * 6, none⟩ = some (.int .u64 y.1.life) ∧ wz.cell? ⟨gx, ox + i * 6 + 1, none⟩ = some (.int .u64 y.1.n) ∧ wz.cell? ⟨gx, ox + i * 6 + 2, none⟩ = some (.int .u8 y.2.kind) ∧ wz.cell? ⟨gx, ox + i * 6 + 3, none⟩ = some (.string y.2.p) ∧ wz.cell? ⟨gx, ox + i * 6 + 4, none⟩ = some (.int .u64 y.2.frm) ∧ wz.cell? ⟨gx, ox + i * 6 + 5, none⟩ = some (.int .u64 y.2.top)) ∧
                wz.cell? ⟨g2, o2 + m * 2, none⟩ = some (.int .u64 z.life) ∧ wz.cell? ⟨g2, o2 + m * 2 + 1, none⟩ = some (.int .u64 z.n))
              (first | exact ⟨hS0, hT0⟩ | exact ⟨hS1, hT1⟩ | fail)
              (first
              | (go_at_call 29
                 (with_reducible refine (HCC.out _).mono ?_)
                 rintro x w9 ⟨rfl, hb9⟩
                 have HB9 : Hid (Below wr.heap.size wr w9) := Lib.hid ((Own.refl wr).drew.below.trans hb9)
                 have hS1 := HSC.out _ (HO.out.trans HB9.out).below
                 have hT1 := HSC2.out _ HB9.out
                 clear hb9))
            all_goals
              go_wp2_with fail
              go_meet
              exact ⟨by simp, HB9.out⟩
      case rest =>
      obtain ⟨rfl, hb9⟩ := hcut
      have HO9 := Lib.hid (HO.out.trans hb9)
      have HOL9 := Lib.hid (HOL.out.keep hb9)
      clear hb9 hS0 HCC HO HOL
      cases b with
      | false =>
        have hnx : Lh.WhoUp A x (i + 1) out := by
          cases hc : Lk.conf x.l y.2.l with
          | false => exact HW.out.skip HLT.out (by rw [← HY.out]; exact hc)
          | true =>
            by_cases h0 : out = []
            · have := HBS.out.2.1 hc h0
              cases this
            · have hp := List.length_pos_iff.2 h0
              have h1 := HBS.out.2.2 (out.length - 1) (by omega) hc (by omega)
              have h2 : out[out.length - 1]'(by omega) = y.1 := Classical.byContradiction fun hn => by rw [decide_eq_true hn] at h1; cases h1
              exact HW.out.same HLT.out (by rw [← HY.out, ← h2]; exact List.getElem_mem _)
        have HNX := Lib.hid hnx
        clear hnx HBS
        go_wp2_with fail
        go_roundw
        case rel => exact ⟨i + 1, out, s, cap, by omega, by go_num, rfl, HNX.out, HOL9.out, HO9.out⟩
        case measure => simp [intOf]; omega
      | true =>
        have hnx : Lh.WhoUp A x (i + 1) (out ++ [y.1]) := by
          cases hc : Lk.conf x.l y.2.l with
          | false => have := HBS.out.1 hc; cases this
          | true =>
            rw [HY.out]
            refine HW.out.push HUP.out HLT.out (by rw [← HY.out]; exact hc) ?_
            by_cases h0 : out = []
            · exact .inl h0
            · have hp := List.length_pos_iff.2 h0
              have h1 := HBS.out.2.2 (out.length - 1) (by omega) hc (by omega)
              exact .inr ⟨by omega, by rw [← HY.out]; exact of_decide_eq_true h1.symm⟩
        have HNX := Lib.hid hnx
        obtain ⟨_, y0, y1, _⟩ := HSC.out wc HO9.out.below
        obtain ⟨s', cap', W2, hrun, hOL2, hO2, _⟩ := tx_push HO9.out HOL9.out y.1 (by have := HW.out.len; have := HAL.out; omega)
        have HOL2 := Lib.hid hOL2
        have HO2 := Lib.hid hO2
        clear hnx HBS hOL2 hO2
        go_wp2_with fail
        go_roundw
        case rel => exact ⟨i + 1, out ++ [y.1], s', cap', by omega, by go_num, by simp, HNX.out, HOL2.out, HO2.out⟩
        case measure => simp [intOf]; omega
    · obtain rfl : i = A.length := by omega
      have HEQ : Hid (Lh.who X x = out) := Lib.hid (HDN.out _ HW.out).symm
      go_wp2_with fail
      go_ret
      rw [HEQ.out]
      exact ⟨⟨s, cap, rfl, HOL.out.row⟩, HB1.out.below.trans (HO.out.below.mono HB1.out.size)⟩

end Go.Proofs.YtjanjjkgnilhoaaGreatDoor
