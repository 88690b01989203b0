/-
  THE WALK of the statement SegmentRow.
-/
import Derived.Test.YtboplbcfoooenaaSegRowR
import Derived.Test.YtboplbcfoooenaaSegAlive
import Derived.Test.YtboplbcfoooenaaSegArgs
import Derived.Test.YtboplbcfoooenaaFlat
namespace Go.Proofs.Ytboplbcfoooenaa
open Go.RowKit

attribute [local go_sem ↓ high] appSem_eq

theorem segInfo : (Try.prog.info? 28).map (fun i => (i.zero, i.size, i.bytes)) = some (some (.agg #[.int .u8 0, .int .u64 0, .int .u64 0, .string ⟨#[]⟩, .slice none 0 0, .int .i64 0, .bool false]), 7, 80) := by kernel_rfl
def SegA.it (y : SegA) : It := ⟨y.x.kind, y.x.gen, y.x.first, y.x.t, y.a, y.x.recs.length, y.cap, y.x.used, y.x.whole⟩
theorem it_cells (l : List SegA) : (l.map SegA.it).map icells = l.map SegA.cells := by
  rw [List.map_map]; rfl
theorem it_ok {w : World} {y : SegA} (h : okSA w y) : okI y.it := ⟨h.1.kind, h.1.gen, h.1.first, h.1.n⟩
theorem segcells_one (y : SegA) : ∀ u ∈ y.cells, u.oneCell' = true := by
  intro u hu
  simp only [SegA.cells, Sx.cells, List.mem_cons, List.not_mem_nil, or_false] at hu
  rcases hu with rfl | rfl | rfl | rfl | rfl | rfl | rfl <;> rfl

set_option maxRecDepth 20000 in
set_option maxHeartbeats 4000000 in
theorem segmentRow_any (w : World) (a : Option Addr) (cap : Nat) (l : List SegA) (hr : RowIs w 7 a (l.map SegA.cells)) (hok : ∀ y ∈ l, okSA w y) (hl : l.length ≤ 9223372036854775807) (hnil : a = none → cap = 0) :
    Calls Try.prog 3 #[.slice a l.length cap] w fun e w' => e = .returned (.bool true) ∧ Below w.heap.size w w' := by
  have HR := Lib.hid hr
  have HOK := Lib.hid hok
  have HNIL := Lib.hid hnil
  have hlI : (0 : Int) ≤ l.length ∧ (l.length : Int) ≤ 9223372036854775807 := by omega
  have HO := Lib.hid (Own.refl w)
  clear hr hok hnil hl
  by_cases h40 : 40 < l.length
  · have h40I : (40 : Int) < l.length := by omega
    clear h40
    go_enter Try.func3, Try.ntmps3
    go_wp2_with fail
    refine (alive11 _).mono ?_
    rintro e w1 ⟨rfl, hb⟩
    go_wp2_with fail
    go_ret
    exact ⟨rfl, hb⟩
  have h40I : (l.length : Int) ≤ 40 := by omega
  have H40 : Hid (l.length ≤ 40) := Lib.hid (by omega)
  clear h40
  go_enter Try.func3, Try.ntmps3
  go_wp2_with fail
  go_loopw [3] (fun vi wr => ∃ i : Nat, i ≤ l.length ∧ vi = .int .i64 i ∧ Own w.heap.size w wr) (fun vi _ => l.length - (intOf vi).toNat)
  case atStart => exact ⟨0, Nat.zero_le _, rfl, HO.out⟩
  case round =>
    clear HO
    obtain ⟨i, hi, rfl, hO⟩ := hrel
    have HO := Lib.hid hO
    clear hO
    by_cases hlt : i < l.length
    · obtain ⟨g, off, ha, hc⟩ := (HR.out.keep HO.out.below) i (by simpa using hlt)
      rw [List.getElem_map] at hc
      have hoy := HOK.out l[i] (List.getElem_mem hlt)
      have HHV := Lib.hid (fun wz (hb : Below w.heap.size w wz) => heavy11 wz l[i].x l[i].a l[i].cap hoy.1 (hoy.2.1.keep hb))
      have hiI : (0 : Int) ≤ i ∧ (i : Int) < l.length := by omega
      subst ha
      generalize l[i] = y at *
      have c0 : wr.cell? ⟨g, off + i * 7, none⟩ = some (.int .u8 y.x.kind) := hc.cell 0 (by simp [SegA.cells, Sx.cells])
      have c1 : wr.cell? ⟨g, off + i * 7 + 1, none⟩ = some (.int .u64 y.x.gen) := hc.cell 1 (by simp [SegA.cells, Sx.cells])
      have c2 : wr.cell? ⟨g, off + i * 7 + 2, none⟩ = some (.int .u64 y.x.first) := hc.cell 2 (by simp [SegA.cells, Sx.cells])
      have c3 : wr.cell? ⟨g, off + i * 7 + 3, none⟩ = some (.string y.x.t) := hc.cell 3 (by simp [SegA.cells, Sx.cells])
      have c4 : wr.cell? ⟨g, off + i * 7 + 4, none⟩ = some (.slice y.a y.x.recs.length y.cap) := hc.cell 4 (by simp [SegA.cells, Sx.cells])
      have c5 : wr.cell? ⟨g, off + i * 7 + 5, none⟩ = some (.int .i64 y.x.used) := hc.cell 5 (by simp [SegA.cells, Sx.cells])
      have c6 : wr.cell? ⟨g, off + i * 7 + 6, none⟩ = some (.bool y.x.whole) := hc.cell 6 (by simp [SegA.cells, Sx.cells])
      clear hc hoy
      go_wp2_with fail
      refine (HHV.out _ HO.out.below).mono ?_
      rintro e w1 ⟨⟨b, rfl, _⟩, hb1⟩
      have HO1 := Lib.hid (HO.out.trans hb1)
      clear hb1 HHV c0 c1 c2 c3 c4 c5 c6
      cases b with
      | true =>
        go_wp2_with fail
        refine (alive11 _).mono ?_
        rintro e w2 ⟨rfl, hb⟩
        have HO2 := Lib.hid (HO1.out.trans hb)
        clear hb
        go_wp2_with fail
        go_ret
        exact ⟨rfl, HO2.out.below⟩
      | false =>
        go_wp2_with fail
        go_roundw
        case rel => exact ⟨i + 1, by omega, by go_num, HO1.out⟩
        case measure => simp [intOf]; omega
    · obtain rfl : i = l.length := by omega
      obtain ⟨i0, hin, hz0, hz1, hz2⟩ := info_parts segInfo
      have hSE : SliceIs (wr.alloc (.cells #[] 28 (0, 0))) 28 7 (some ⟨wr.heap.size, 0, none⟩) 0 0 [] := ⟨by simp, .inr ⟨wr.heap.size, 0, #[], rfl, heap_alloc_new wr _, Nat.le_refl _, by decide, by simp, by simp⟩⟩
      have hbw := ((Own.refl wr).alloc (.cells #[] 28 (0, 0))).below
      obtain ⟨s', cap', w2, hr2, hS2, hU2, hb2⟩ := append_row (P := Try.prog) Try.underlying22 hin hz0 hz1 hz2 rfl (by decide) (wr.alloc (.cells #[] 28 (0, 0))) (some ⟨wr.heap.size, 0, none⟩) 0 0 [] hSE a cap (l.map SegA.cells) ((HR.out.keep HO.out.below).keep hbw) (by intro x hx; obtain ⟨y, _, rfl⟩ := List.mem_map.1 hx; rfl) (by intro x hx; obtain ⟨y, _, rfl⟩ := List.mem_map.1 hx; exact segcells_one y) (by have := H40.out; rw [List.length_map]; omega) (by decide) HNIL.out
      rw [Nat.zero_add, List.length_map] at hr2 hS2
      rw [List.nil_append] at hS2
      have hrow2 := hS2.rowF (by intro x hx; obtain ⟨y, _, rfl⟩ := List.mem_map.1 hx; rfl) (by rw [List.length_map])
      rw [← it_cells] at hrow2
      have HO2 := Lib.hid (((HO.out.alloc (.cells #[] 28 (0, 0))).upd hU2 (by have := HO.out.size; simpa using this)))
      have HRW := Lib.hid hrow2
      have hll : (l.map SegA.it).length = l.length := List.length_map ..
      have HIT : Hid (∀ x ∈ l.map SegA.it, okI x) := Lib.hid (fun x hx => by
        obtain ⟨y, hy, rfl⟩ := List.mem_map.1 hx
        exact it_ok (HOK.out y hy))
      have HRP := Lib.hid (fun wz aa cc (h : RowIs wz 7 aa ((l.map SegA.it).map icells)) => seg_row wz aa cc (l.map SegA.it) h (by have := H40.out; omega) HIT.out)
      have HRR := Lib.hid (fun wz aa cc (h : RowIs wz 7 aa ((l.map SegA.it).map icells)) => rseg_row wz aa cc (l.map SegA.it) h (by have := H40.out; omega) HIT.out)
      rw [hll] at HRP HRR
      clear hS2 hU2 hb2 hSE hbw hrow2 hll hin hz0 hz1 hz2
      go_wp2_with fail
      refine (HRP.out _ _ _ HRW.out).mono ?_
      rintro e w3 ⟨ra, rc, row, er, rfl, hro, hrl, hrow, hb3⟩
      have HO3 := Lib.hid (HO2.out.trans hb3)
      have HW3 := Lib.hid hrow
      have HRO := Lib.hid hro
      clear hb3 hrow hro hr2 HRW HO2
      go_wp2_with fail
      refine (HRR.out _ _ _ (by rw [it_cells]; exact HR.out.keep HO3.out.below)).mono ?_
      rintro e w4 ⟨rb, rd, row2, er2, rfl, hro2, hrl2, hrow2, hb4⟩
      obtain ⟨rfl, rfl⟩ := HRO.out.uniq hro2
      have HO4 := Lib.hid (HO3.out.trans hb4)
      have HW4 := Lib.hid (HW3.out.keep hb4)
      have HV4 := Lib.hid hrow2
      clear hb4 hrow2 hro2 hrl2
      go_wp2_with fail
      refine (rseg_places _ row ra rb rc rd HW4.out HV4.out (by omega)).mono ?_
      rintro e w5 ⟨rfl, hb5⟩
      have HO5 := Lib.hid (HO4.out.trans hb5)
      clear hb5
      go_wp2_with fail
      refine (alive11 _).mono ?_
      rintro e w6 ⟨rfl, hb6⟩
      have HO6 := Lib.hid (HO5.out.trans hb6)
      clear hb6
      go_wp2_with fail
      go_ret
      exact ⟨rfl, HO6.out.below⟩

end Go.Proofs.Ytboplbcfoooenaa
