/-
  THE WALK of the statement WireFault.
-/
import Derived.Test.YtdceefbhkonndaaWireAlive
namespace Go.Proofs.Ytdceefbhkonndaa
open Go.RowKit

/-- A call of a reader. -/
structure Rcall where
  d : Int
  u : Nat
  lo : Int
  hi : Int
  n : Int
  m : Int
deriving Inhabited
def rcells (c : Rcall) : List Value := [.int .u8 c.d, .int .u64 c.u, .int .i64 c.lo, .int .i64 c.hi, .int .i64 c.n, .int .i64 c.m]
theorem cread {w : World} {B : Nat} {t : TypeId} {fr : Nat × Nat} {d : Int} {u : Nat} {lo hi n m : Int} (h : w.heap[B]? = some (.cells #[.int .u8 d, .int .u64 u, .int .i64 lo, .int .i64 hi, .int .i64 n, .int .i64 m] t fr)) :
    w.cell? ⟨B, 1, none⟩ = some (.int .u64 u) ∧ w.cell? ⟨B, 2, none⟩ = some (.int .i64 lo) ∧ w.cell? ⟨B, 3, none⟩ = some (.int .i64 hi) ∧ w.cell? ⟨B, 4, none⟩ = some (.int .i64 n) ∧ w.cell? ⟨B, 5, none⟩ = some (.int .i64 m) := by
  refine ⟨?_, ?_, ?_, ?_, ?_⟩
  all_goals rw [cell_of_row w B _ _ _ _ h]; rfl
theorem neg_text (s : ByteArray) : ∃ e : Nat, tRes s (-1) = (⟨#[]⟩, s, e) ∧ (e = 5 ∨ e = 6 ∨ e = 7) := by
  obtain ⟨x, n, e, hr, h⟩ := rd_cases s
  have hs : ∃ e : Nat, sRes s (-1) = (0, 0, e) ∧ (e = 5 ∨ e = 6 ∨ e = 7) := by
    unfold sRes
    rw [hr]
    rcases h with ⟨rfl, _⟩ | ⟨rfl, rfl, rfl | rfl⟩
    · exact ⟨5, by simp only [if_true]; rw [if_pos (by omega)], by simp⟩
    · exact ⟨6, by simp, by simp⟩
    · exact ⟨7, by simp, by simp⟩
  obtain ⟨e', h1, h2⟩ := hs
  refine ⟨e', ?_, h2⟩
  unfold tRes
  rw [h1]
  show (if e' = 0 then _ else _) = _
  rw [if_neg (by omega)]

set_option maxRecDepth 20000 in
set_option maxHeartbeats 4000000 in
theorem wireFault_any (w : World) (s : ByteArray) (a : Option Addr) (cap : Nat) (l : List Rcall) (h : RowIs w 6 a (l.map rcells)) (hc : l.length ≤ 9223372036854775807) (hs : s.size ≤ 140737488351232) :
    Calls Try.prog 6 #[.string s, .slice a l.length cap] w fun e w' => e = .returned (.bool true) ∧ Below w.heap.size w w' := by
  have H := Lib.hid h
  have hsI : (0 : Int) ≤ s.size ∧ (s.size : Int) ≤ 140737488351232 := by omega
  have hlI : (0 : Int) ≤ l.length ∧ (l.length : Int) ≤ 9223372036854775807 := by omega
  clear h hc hs
  by_cases hbig : 4096 < s.size ∨ 100 < l.length
  · go_enter Try.func6, Try.ntmps6
    by_cases hb1 : 4096 < s.size
    · have hb1I : (4096 : Int) < s.size := by omega
      clear hbig hb1
      go_wp2_with fail
      refine (alive08 _).mono ?_
      rintro e w' ⟨rfl, hb⟩
      go_wp2_with fail
      go_ret
      exact ⟨rfl, hb⟩
    · have hb1I : ¬ (4096 : Int) < s.size := by omega
      have hb2I : (100 : Int) < l.length := by omega
      clear hbig hb1
      go_wp2_with fail
      refine (alive08 _).mono ?_
      rintro e w' ⟨rfl, hb⟩
      go_wp2_with fail
      go_ret
      exact ⟨rfl, hb⟩
  have hb1I : ¬ (4096 : Int) < s.size := by omega
  have hb2I : ¬ (100 : Int) < l.length := by omega
  have HS : Hid (s.size ≤ 1073741824) := Lib.hid (by omega)
  obtain ⟨e0, ht, he⟩ := neg_text s
  have HT := Lib.hid ht
  have hne0 : ((e0 : Int) != 0) = true := by rcases he with rfl | rfl | rfl <;> rfl
  have heq0 : ((e0 : Int) == 0) = false := by rcases he with rfl | rfl | rfl <;> rfl
  have HNE := Lib.hid hne0
  have HEQ := Lib.hid heq0
  clear hbig ht he hne0
  go_enter Try.func6, Try.ntmps6
  go_wp2_with fail
  refine (new_any _ _).mono ?_
  rintro e w1 ⟨rfl, hr, hb, _⟩
  have HR := Lib.hid hr
  have HO := Lib.hid ((Own.refl w).trans hb)
  clear hr hb
  go_wp2_with fail
  refine (text_read _ _ _ (-1) HS.out (by decide) (by decide) HR.out).mono ?_
  rintro e w2 ⟨rfl, hr, hu⟩
  rw [HT.out] at hr ⊢
  have HR2 := Lib.hid hr
  have HO2 := Lib.hid (HO.out.upd1 hu (Nat.le_refl _))
  clear hr hu
  go_wp2_with fail
  refine (err_any _ _ _ _ HR2.out).mono ?_
  rintro e w3 ⟨rfl, rfl⟩
  go_wp2_with fail
  refine (left_any _ _ _ _ HR2.out).mono ?_
  rintro e w3 ⟨rfl, rfl⟩
  go_wp2_with fail
  go_loopw [9] (fun vi wr => ∃ i : Nat, i ≤ l.length ∧ vi = .int .i64 i ∧ RdIs wr w.heap.size s e0 ∧ Own w.heap.size w wr) (fun vi _ => l.length - (intOf vi).toNat)
  case atStart => exact ⟨0, Nat.zero_le _, rfl, HR2.out, HO2.out⟩
  case round =>
    clear HR HO HR2 HO2
    obtain ⟨i, hi, rfl, hR, hO⟩ := hrel
    have HR := Lib.hid hR
    have HO := Lib.hid hO
    clear hR hO
    by_cases hlt : i < l.length
    · have hiI : (0 : Int) ≤ i ∧ (i : Int) < l.length := by omega
      obtain ⟨g, off, rfl, hcl⟩ := (H.out.keep HO.out.below) i (by simpa using hlt)
      have hcl2 : CellsAt wr g (off + i * 6) (rcells l[i]) := by simpa using hcl
      have HCL := Lib.hid hcl2
      clear hcl hcl2
      generalize l[i] = c at *
      obtain ⟨d, u, lo, hi2, n, m⟩ := c
      have hold : ∀ k, k < 6 → wr.cell? ⟨g, off + i * 6 + k, none⟩ = (rcells ⟨d, u, lo, hi2, n, m⟩)[k]? := fun k hk => by
        rw [HCL.out.cell k (by simpa [rcells] using hk), List.getElem?_eq_getElem (by simpa [rcells] using hk)]
      have HB := Lib.hid (heap_alloc_new wr (.cells #[.int .u8 d, .int .u64 u, .int .i64 lo, .int .i64 hi2, .int .i64 n, .int .i64 m] 52 (0, 0)))
      obtain ⟨k1, k2, k3, k4, k5⟩ := cread HB.out
      replace HR := Lib.hid (HR.out.alloc (.cells #[.int .u8 d, .int .u64 u, .int .i64 lo, .int .i64 hi2, .int .i64 n, .int .i64 m] 52 (0, 0)))
      replace HO := Lib.hid (HO.out.alloc (.cells #[.int .u8 d, .int .u64 u, .int .i64 lo, .int .i64 hi2, .int .i64 n, .int .i64 m] 52 (0, 0)))
      have c0 := hold 0 (by decide); have c1 := hold 1 (by decide); have c2 := hold 2 (by decide); have c3 := hold 3 (by decide); have c4 := hold 4 (by decide); have c5 := hold 5 (by decide)
      simp only [rcells, Nat.add_zero, List.getElem?_cons_zero, List.getElem?_cons_succ] at c0 c1 c2 c3 c4 c5
      clear hold k1 k2 k3 k4 k5
      go_wp2_with fail
      refine (uint_fault _ _ _ _ u HR.out HNE.out).mono ?_
      rintro e w' ⟨rfl, hb⟩
      replace HR := Lib.hid (HR.out.keep (hb.block _ (blk_lt HR.out)))
      replace HB := Lib.hid ((hb.block _ (blk_lt HB.out)).trans HB.out)
      replace HO := Lib.hid (HO.out.trans hb)
      obtain ⟨k1, k2, k3, k4, k5⟩ := cread HB.out
      clear hb
      go_wp2_with fail
      refine (int_fault _ _ _ _ lo hi2 HR.out HNE.out).mono ?_
      rintro e w' ⟨rfl, hb⟩
      replace HR := Lib.hid (HR.out.keep (hb.block _ (blk_lt HR.out)))
      replace HB := Lib.hid ((hb.block _ (blk_lt HB.out)).trans HB.out)
      replace HO := Lib.hid (HO.out.trans hb)
      obtain ⟨k1, k2, k3, k4, k5⟩ := cread HB.out
      clear hb
      go_wp2_with fail
      refine (bool_fault _ _ _ _  HR.out HNE.out).mono ?_
      rintro e w' ⟨rfl, hb⟩
      replace HR := Lib.hid (HR.out.keep (hb.block _ (blk_lt HR.out)))
      replace HB := Lib.hid ((hb.block _ (blk_lt HB.out)).trans HB.out)
      replace HO := Lib.hid (HO.out.trans hb)
      obtain ⟨k1, k2, k3, k4, k5⟩ := cread HB.out
      clear hb
      go_wp2_with fail
      refine (text_fault _ _ _ _ n HR.out HNE.out).mono ?_
      rintro e w' ⟨rfl, hb⟩
      replace HR := Lib.hid (HR.out.keep (hb.block _ (blk_lt HR.out)))
      replace HB := Lib.hid ((hb.block _ (blk_lt HB.out)).trans HB.out)
      replace HO := Lib.hid (HO.out.trans hb)
      obtain ⟨k1, k2, k3, k4, k5⟩ := cread HB.out
      clear hb
      go_wp2_with fail
      refine (count_fault _ _ _ _ n HR.out HNE.out).mono ?_
      rintro e w' ⟨rfl, hb⟩
      replace HR := Lib.hid (HR.out.keep (hb.block _ (blk_lt HR.out)))
      replace HB := Lib.hid ((hb.block _ (blk_lt HB.out)).trans HB.out)
      replace HO := Lib.hid (HO.out.trans hb)
      obtain ⟨k1, k2, k3, k4, k5⟩ := cread HB.out
      clear hb
      go_wp2_with fail
      refine (list_fault _ _ _ _ n m HR.out HNE.out).mono ?_
      rintro e w' ⟨rfl, hb⟩
      replace HR := Lib.hid (HR.out.keep (hb.block _ (blk_lt HR.out)))
      replace HB := Lib.hid ((hb.block _ (blk_lt HB.out)).trans HB.out)
      replace HO := Lib.hid (HO.out.trans hb)
      obtain ⟨k1, k2, k3, k4, k5⟩ := cread HB.out
      clear hb
      go_wp2_with fail
      refine (end_fault _ _ _ _ HR.out HEQ.out).mono ?_
      rintro e w' ⟨rfl, rfl⟩
      go_wp2_with fail
      refine (err_any _ _ _ _ HR.out).mono ?_
      rintro e w' ⟨rfl, rfl⟩
      go_wp2_with fail
      refine (left_any _ _ _ _ HR.out).mono ?_
      rintro e w' ⟨rfl, rfl⟩
      go_wp2_with fail
      refine (uint_nil _ u).mono ?_
      rintro e w' ⟨rfl, hb⟩
      replace HR := Lib.hid (HR.out.keep (hb.block _ (blk_lt HR.out)))
      replace HB := Lib.hid ((hb.block _ (blk_lt HB.out)).trans HB.out)
      replace HO := Lib.hid (HO.out.trans hb)
      obtain ⟨k1, k2, k3, k4, k5⟩ := cread HB.out
      clear hb
      go_wp2_with fail
      refine (int_nil _ lo hi2).mono ?_
      rintro e w' ⟨rfl, hb⟩
      replace HR := Lib.hid (HR.out.keep (hb.block _ (blk_lt HR.out)))
      replace HB := Lib.hid ((hb.block _ (blk_lt HB.out)).trans HB.out)
      replace HO := Lib.hid (HO.out.trans hb)
      obtain ⟨k1, k2, k3, k4, k5⟩ := cread HB.out
      clear hb
      go_wp2_with fail
      refine (bool_nil _ ).mono ?_
      rintro e w' ⟨rfl, hb⟩
      replace HR := Lib.hid (HR.out.keep (hb.block _ (blk_lt HR.out)))
      replace HB := Lib.hid ((hb.block _ (blk_lt HB.out)).trans HB.out)
      replace HO := Lib.hid (HO.out.trans hb)
      obtain ⟨k1, k2, k3, k4, k5⟩ := cread HB.out
      clear hb
      go_wp2_with fail
      refine (text_nil _ n).mono ?_
      rintro e w' ⟨rfl, hb⟩
      replace HR := Lib.hid (HR.out.keep (hb.block _ (blk_lt HR.out)))
      replace HB := Lib.hid ((hb.block _ (blk_lt HB.out)).trans HB.out)
      replace HO := Lib.hid (HO.out.trans hb)
      obtain ⟨k1, k2, k3, k4, k5⟩ := cread HB.out
      clear hb
      go_wp2_with fail
      refine (count_nil _ n).mono ?_
      rintro e w' ⟨rfl, hb⟩
      replace HR := Lib.hid (HR.out.keep (hb.block _ (blk_lt HR.out)))
      replace HB := Lib.hid ((hb.block _ (blk_lt HB.out)).trans HB.out)
      replace HO := Lib.hid (HO.out.trans hb)
      obtain ⟨k1, k2, k3, k4, k5⟩ := cread HB.out
      clear hb
      go_wp2_with fail
      refine (list_nil _ n m).mono ?_
      rintro e w' ⟨rfl, hb⟩
      replace HR := Lib.hid (HR.out.keep (hb.block _ (blk_lt HR.out)))
      replace HB := Lib.hid ((hb.block _ (blk_lt HB.out)).trans HB.out)
      replace HO := Lib.hid (HO.out.trans hb)
      obtain ⟨k1, k2, k3, k4, k5⟩ := cread HB.out
      clear hb
      go_wp2_with fail
      refine (end_nil _).mono ?_
      rintro e w' ⟨rfl, rfl⟩
      go_wp2_with fail
      refine (err_nil _).mono ?_
      rintro e w' ⟨rfl, rfl⟩
      go_wp2_with fail
      refine (left_nil _).mono ?_
      rintro e w' ⟨rfl, rfl⟩
      go_wp2_with fail
      go_roundw
      case rel => exact ⟨i + 1, by omega, by go_num, HR.out, HO.out⟩
      case measure => simp [intOf]; omega
    · obtain rfl : i = l.length := by omega
      go_wp2_with fail
      refine (alive08 _).mono ?_
      rintro e w' ⟨rfl, hb⟩
      have HO2 := Lib.hid (HO.out.trans hb)
      clear hb
      go_wp2_with fail
      go_ret
      exact ⟨rfl, HO2.out.below⟩

end Go.Proofs.Ytdceefbhkonndaa
