/-
  THE WALK of the statement CrcParts.
-/
import Derived.Test.YtolkagkbbodnbaaCrcAlive
import Derived.Test.YtolkagkbbodnbaaBytes8
import Derived.Lib.QuietBelow
namespace Go.Proofs.Ytolkagkbbodnbaa
open Go.RowKit

def PartsRel (w : World) (D : List UInt8) (wr : World) (i : Nat) : Prop :=
  i ≤ D.length ∧ Own w.heap.size w wr ∧ w.heap.size < wr.heap.size ∧ wr.heap[w.heap.size]? = some (.cells (byteRow (D.take i ++ List.replicate (D.length - i) 0) D.length) 5 (0, 0))

set_option maxHeartbeats 2000000 in
theorem crcParts_any (s t u : ByteArray) (w : World) (hs : s.size ≤ 140737488351232) (ht : t.size ≤ 140737488351232) (hu : u.size ≤ 140737488351232) :
    Calls Try.prog 6 #[.string s, .string t, .string u] w fun e w' => e = .returned (.bool true) ∧ Below w.heap.size w w' := by
  have hO := Own.refl w
  obtain ⟨n, hn⟩ : ∃ n : Nat, n = min s.size (min t.size u.size) := ⟨_, rfl⟩
  have hs' : (n : Int) ≤ s.size := by omega
  have ht' : (n : Int) ≤ t.size := by omega
  have hu' : (n : Int) ≤ u.size := by omega
  have hmin : ∀ w, (Builtin.min_ #[3, 3, 3] 3 #[.int .i64 s.size, .int .i64 t.size, .int .i64 u.size]).run Try.prog w = .ok (.int .i64 n) w := by
    intro w
    have e : ((n : Nat) : Int) = min (min (s.size : Int) t.size) u.size := by omega
    rw [e]
    have m2 : ∀ a b : Int, Builtin.min2 (.int .i64 a) (.int .i64 b) = pure (.int .i64 (min a b)) := by
      intro a b
      simp only [Builtin.min2]
      congr 2
      split <;> omega
    simp [Builtin.min_, m2]
  have hlenS : n ≤ (L s).length := by rw [L_size]; omega
  have hlenT : n ≤ (L t).length := by rw [L_size]; omega
  have hlenU : n ≤ (L u).length := by rw [L_size]; omega
  clear hn
  by_cases hlong : 4096 < n
  · have hl : (4096 : Int) < n := by omega
    go_enter Try.func6, Try.ntmps6
    go_wp2_with fail
    refine (alive07 _).mono ?_
    rintro e w1 ⟨rfl, hb1⟩
    replace hO := hO.trans hb1
    clear hb1
    go_wp2_with fail
    go_ret
    exact ⟨rfl, hO.below⟩
  have hl : (n : Int) ≤ 4096 := by omega
  have hmk := run_make_bytes (P := Try.prog) w 32 5 n Try.und32 (by kernel_rfl) (by omega)
  obtain ⟨D, hD⟩ : ∃ D, D = Crc.xor3 ((L s).take n) ((L t).take n) ((L u).take n) := ⟨_, rfl⟩
  have hDl : D.length = n := by rw [hD, Crc.xor3_length _ _ _ (by simp; omega) (by simp; omega)]; simp; omega
  have hDget : ∀ (i : Nat) (h : i < n), D[i]'(by omega) = s[i]'(by omega) ^^^ t[i]'(by omega) ^^^ u[i]'(by omega) := by
    intro i h
    subst hD
    rw [Crc.xor3_get _ _ _ i _ (by simp; omega) (by simp; omega) (by simp; omega)]
    simp only [List.getElem_take]
    rw [L_get s i (by omega), L_get t i (by omega), L_get u i (by omega)]
  subst hDl
  have HD := Lib.hid hD
  have HG := Lib.hid hDget
  have hO1 := (Own.refl w).alloc (.cells (zeroCells D.length) 5)
  have hb1 := heap_alloc_new w (.cells (zeroCells D.length) 5)
  clear hD hDget
  go_enter Try.func6, Try.ntmps6
  go_wp2
  rw [zeroCells_row] at *
  have HB := Lib.hid hb1
  have hws : w.heap.size < (w.alloc (.cells (byteRow (List.replicate D.length 0) D.length) 5)).heap.size := by simp
  clear hb1 hO hmin hmk
  generalize w.alloc (.cells (byteRow (List.replicate D.length 0) D.length) 5) = W at *
  go_loopw [9] (fun vi wr => ∃ i, vi = .int .i64 (i : Nat) ∧ PartsRel w D wr i) (fun vi _ => D.length - (intOf vi).toNat)
  case atStart => exact ⟨0, rfl, by omega, hO1, hws, by rw [HB.out]; simp⟩
  case round =>
    clear hO1 hws HB
    obtain ⟨i, rfl, hi, hO, hws, hblk⟩ := hrel
    have HB := Lib.hid hblk
    clear hblk
    by_cases hlt : i < D.length
    · have hi' : (0 : Int) ≤ i ∧ (i : Int) < D.length := by omega
      have hcell : wr.cell? ⟨w.heap.size, i, none⟩ = some (.int .u8 (by8 ((D.take i ++ List.replicate (D.length - i) 0)[i]'(by simp; omega)))) := by rw [cell_of_row _ _ _ _ _ _ HB.out, byteRow_get _ _ _ (by simp; omega)]
      have hfr : wr.frozen? ⟨w.heap.size, i, none⟩ = false := frozen_of_row _ _ _ _ _ HB.out
      have h1 : (i : Int) < s.size := by omega
      have h2 : (i : Int) < t.size := by omega
      have h3 : (i : Int) < u.size := by omega
      go_wp2
      go_region
      go_wp2
      go_roundw
      case rel =>
        refine ⟨i + 1, by go_num, by omega, (hO.setCell (Nat.le_refl _) _).drew, by simpa using hws, ?_⟩
        rw [heap_drew, heap_set _ HB.out, byteRow_set _ _ _ _ (by simp; omega), ← HG.out i hlt, set_next _ _ hlt]
      case measure => simp [intOf]; omega
    · obtain rfl : i = D.length := by omega
      have HZ : Hid (wr.heap[w.heap.size]? = some (.cells (byteRow D D.length) 5 (0, 0))) := by
        have := HB.out
        rw [Nat.sub_self, List.take_length, List.replicate_zero, List.append_nil] at this
        exact this
      have HE := Lib.hid (Crc.sum_parts ((L s).take D.length) ((L t).take D.length) ((L u).take D.length) (by simp; omega) (by simp; omega))
      rw [← HD.out] at HE
      clear HB HG
      have hback : ∀ d os, (convert 32 9 (.slice (some ⟨w.heap.size, 0, none⟩) D.length D.length)).run Try.prog (Go.Sort.grow (redrawn wr d) os) = .ok (.string ⟨D.toArray⟩) (Go.Sort.grow (redrawn wr d) os) := fun d os =>
        run_string_of (P := Try.prog) _ 32 9 5 w.heap.size D.length D _ _ _ D.length rfl Try.und32 Try.und5 Try.und9 (((below_regrown wr d os).block _ hws).trans HZ.out) (fun j hj => byteRow_get _ _ _ hj)
      have hDsz : (⟨D.toArray⟩ : ByteArray).size ≤ 9223372036854775807 := by rw [size_mk]; omega
      have c0 : ∀ d os, Calls Try.prog 8 #[.string ⟨D.toArray⟩] (Go.Sort.grow (redrawn wr d) os) fun e w'' => e = .returned (.int .u32 (w32 (Crc.sum ((L s).take D.length) ^^^ Crc.sum ((L t).take D.length) ^^^ Crc.sum ((L u).take D.length)))) ∧ ∃ p : Regrown, w'' = Go.Sort.grow (redrawn wr p.d) p.os := fun d os => by
        rw [← HE.out]; exact Calls.regrown_of (crc_sum _ _ hDsz)
      have c1 : ∀ (z : ByteArray) (_ : z.size ≤ 140737488351232) d os, Calls Try.prog 8 #[.string (z.extract 0 D.length)] (Go.Sort.grow (redrawn wr d) os) fun e w'' => e = .returned (.int .u32 (w32 (Crc.sum ((L z).take D.length)))) ∧ ∃ p : Regrown, w'' = Go.Sort.grow (redrawn wr p.d) p.os := fun z hz d os => by
        rw [← L_extract]; exact Calls.regrown_of (crc_sum _ _ (by rw [ByteArray.size_extract]; omega))
      have c2 : ∀ d os, Calls Try.prog 7 #[] (Go.Sort.grow (redrawn wr d) os) fun e w'' => e = .returned (.bool true) ∧ ∃ p : Regrown, w'' = Go.Sort.grow (redrawn wr p.d) p.os := fun d os => Calls.regrown_of (alive07 _)
      have C0 := Lib.hid c0
      have C1 := Lib.hid c1
      have C2 := Lib.hid c2
      generalize (⟨D.toArray⟩ : ByteArray) = Z at *
      clear c0 c1 c2 HZ HE HD
      go_wp2
      refine wp_region_quiet_below (by kernel_rfl) (by kernel_rfl) ?_
      repeat (quiet_step (first | exact C0.out _ _ | exact C1.out s hs _ _ | exact C1.out t ht _ _ | exact C1.out u hu _ _ | exact C2.out _ _))
      refine wpQuiet_nil ?_
      intro _ hw'
      obtain ⟨⟨dq, osq⟩, hw''⟩ := hw'
      subst hw''
      go_wp2
      go_ret
      exact ⟨rfl, (hO.trans (below_regrown wr dq osq)).below⟩

end Go.Proofs.Ytolkagkbbodnbaa
