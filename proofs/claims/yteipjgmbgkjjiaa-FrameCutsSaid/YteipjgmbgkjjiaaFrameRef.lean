/-
  THE WALKS of the document's answer for layer 10: Number, Bytes, Encode, Decode.
-/
import Derived.Test.YteipjgmbgkjjiaaFrameDec
import Derived.Test.YteipjgmbgkjjiaaMem
set_option linter.unusedVariables false
set_option linter.unusedSimpArgs false
namespace Go.Proofs.Yteipjgmbgkjjiaa
open Go.RowKit

theorem same_below {P : Program} {f : FuncId} {args : Array Value} {w : World} {v : Value} (h : Calls P f args w fun e w' => e = .returned v ∧ w = w') : Calls P f args w fun e w' => e = .returned v ∧ Below w.heap.size w w' :=
  h.mono fun _ _ ⟨he, hw⟩ => ⟨he, by rw [← hw]; exact Below.refl _ _⟩

theorem num64 (m c : Nat) (hc : c < 256) : IntKind.u64.wrap (IntKind.u64.wrap (256 * (m : Int)) + IntKind.u64.wrap (c : Int)) = ((256 * m + c) % Frm.M64 : Nat) := by
  simp only [IntKind.wrap_u64]; unfold Frm.M64; omega

set_option maxHeartbeats 400000 in
theorem ref_number (s : ByteArray) (w : World) (hs : s.size ≤ 9223372036854775807) :
    Calls Try.prog 9 #[.string s] w fun e w' => e = .returned (.int .u64 (Frm.num (L s))) ∧ w = w' := by
  go_enter Try.func9, Try.ntmps9
  go_wp2
  go_loop [3, 4] (fun x i => ∃ k : Nat, k ≤ s.size ∧ i = .int .i64 k ∧ x = .int .u64 (Frm.num ((L s).take k))) (fun _ i => s.size - (intOf i).toNat)
  case atStart => exact ⟨0, Nat.zero_le _, rfl, rfl⟩
  case round =>
    obtain ⟨k, hk, rfl, rfl⟩ := hrel
    by_cases hlt : k < s.size
    · have hts := L_take_succ s k hlt
      have HA := Lib.hid (Frm.num_snoc ((L s).take k) s[k])
      rw [← hts] at HA
      clear hts
      generalize Frm.num ((L s).take k) = m at *
      have HO := Lib.hid (num64 m s[k].toNat s[k].toNat_lt)
      go_wp2
      go_round
      case rel => exact ⟨k + 1, by omega, by go_num, by rw [HA.out, ← HO.out]⟩
      case measure => simp [intOf]; omega
    · go_wp2
      go_ret
      refine ⟨ret_u ?_, rfl⟩
      rw [L_take_all s k (by omega)]

theorem back_set (D : List UInt8) (m : Nat) (hm : m < D.length) : (List.replicate (m + 1) 0 ++ D.drop (m + 1)).set m D[m] = List.replicate m 0 ++ D.drop m := by
  have e : List.replicate (m + 1) (0 : UInt8) = List.replicate m 0 ++ [0] := List.replicate_succ'
  rw [e, List.append_assoc, List.set_append_right _ _ (by simp)]
  congr 1
  rw [List.length_replicate, Nat.sub_self]
  exact (List.drop_eq_getElem_cons hm).symm

set_option maxHeartbeats 1000000 in
theorem ref_bytes (n k : Nat) (w : World) (hn : n < 18446744073709551616) (hk : k ≤ 8) (hk1 : 1 ≤ k) :
    Calls Try.prog 11 #[.int .u64 n, .int .i64 k] w fun e w' => e = .returned (.string (S (Frm.be k n))) ∧ Below w.heap.size w w' := by
  have hmk := run_make_bytes (P := Try.prog) w 53 5 k Try.und32 (by kernel_rfl) (by omega)
  have hD := Frm.be_length k n
  have hget : ∀ m (h : m < k), (n / 256 ^ (k - (m + 1))) % 256 = ((Frm.be k n)[m]'(by rw [hD]; exact h)).toNat := fun m h => by
    rw [Frm.be_get, UInt8.toNat_ofNat', show k - (m + 1) = k - 1 - m from by omega]
  generalize Frm.be k n = D at *
  subst hD
  have HG := Lib.hid hget
  have HN := Lib.hid hn
  clear hget hn
  have hkI : (1 : Int) ≤ D.length ∧ (D.length : Int) ≤ 8 := by omega
  have hO := (Own.refl w).alloc (.cells (zeroCells D.length) 5)
  have hb1 := heap_alloc_new w (.cells (zeroCells D.length) 5)
  go_enter Try.func11, Try.ntmps11
  go_wp2
  rw [zeroCells_row] at *
  have HB := Lib.hid hb1
  have hws : w.heap.size < (w.alloc (.cells (byteRow (List.replicate D.length 0) D.length) 5)).heap.size := by simp
  clear hb1 hmk
  generalize w.alloc (.cells (byteRow (List.replicate D.length 0) D.length) 5) = W at *
  go_loopw [0, 6] (fun vn vi wr => ∃ m : Nat, m ≤ D.length ∧ vi = .int .i64 ((m : Int) - 1) ∧ vn = .int .u64 ((n / 256 ^ (D.length - m) : Nat) : Int) ∧ Own w.heap.size w wr ∧ wr.heap[w.heap.size]? = some (.cells (byteRow (List.replicate m 0 ++ D.drop m) D.length) 5 (0, 0))) (fun _ vi _ => (intOf vi + 1).toNat)
  case atStart => exact ⟨D.length, Nat.le_refl _, rfl, by simp, hO, by rw [HB.out]; simp⟩
  case round =>
    clear hO hws HB
    obtain ⟨m, hm, rfl, rfl, hO, hblk⟩ := hrel
    have HB := Lib.hid hblk
    clear hblk
    by_cases h0 : m = 0
    · subst h0
      have hb := HB.out
      have e0 : List.replicate 0 0 ++ D.drop 0 = D := by simp
      rw [e0] at hb
      replace HB := Lib.hid hb
      clear hb e0
      have hback := run_string_of (P := Try.prog) _ 53 9 5 w.heap.size D.length D _ _ _ D.length rfl Try.und32 Try.und5 Try.und9 HB.out (fun j hj => byteRow_get _ _ _ hj)
      go_wp2
      go_ret
      exact ⟨rfl, hO.below⟩
    · obtain ⟨j, rfl⟩ : ∃ j, m = j + 1 := ⟨m - 1, by omega⟩
      have hjl : j < D.length := by omega
      have hin : j < (List.replicate (j + 1) 0 ++ D.drop (j + 1)).length := by simp; omega
      have hcell : wr.cell? ⟨w.heap.size, j, none⟩ = some (.int .u8 (by8 (List.replicate (j + 1) 0 ++ D.drop (j + 1))[j])) := by rw [cell_of_row _ _ _ _ _ _ HB.out, byteRow_get _ _ _ hin]
      have hfr : wr.frozen? ⟨w.heap.size, j, none⟩ = false := frozen_zero HB.out
      have HS := Lib.hid (back_set D j hjl)
      have HV : Hid ((((n / 256 ^ (D.length - (j + 1)) : Nat) : Int)) % 256 = by8 D[j]) := Lib.hid (by
        have := HG.out j hjl; unfold by8; omega)
      have HQ : Hid (((n / 256 ^ (D.length - (j + 1)) : Nat) : Int) / 256 = ((n / 256 ^ (D.length - j) : Nat) : Int)) := Lib.hid (by
        rw [show D.length - j = (D.length - (j + 1)) + 1 from by omega, Nat.pow_succ, ← Nat.div_div_eq_div_mul]; omega)
      have hle : ((n / 256 ^ (D.length - (j + 1)) : Nat) : Int) ≤ 18446744073709551615 := by
        have := Nat.div_le_self n (256 ^ (D.length - (j + 1))); have := HN.out; omega
      have hle0 : (0 : Int) ≤ ((n / 256 ^ (D.length - (j + 1)) : Nat) : Int) := Int.natCast_nonneg _
      have hj1 : (((j + 1 : Nat) : Int) - 1) = (j : Int) := by omega
      rw [hj1]
      have hjI : (0 : Int) ≤ j ∧ (j : Int) < D.length := by omega
      clear hj1
      generalize n / 256 ^ (D.length - (j + 1)) = X at *
      go_wp2
      go_roundw
      case rel => exact ⟨j, by omega, rfl, by rw [HQ.out], hO.setCell (Nat.le_refl _) _, by rw [heap_set _ HB.out, HV.out, byteRow_set _ _ _ _ hin, HS.out]⟩
      case measure => simp [intOf] <;> omega

theorem ref_bytes4 (n : Nat) (w : World) (hn : n < 18446744073709551616) :
    Calls Try.prog 11 #[.int .u64 n, .int .i64 4] w fun e w' => e = .returned (.string (S (Frm.be 4 n))) ∧ Below w.heap.size w w' := ref_bytes n 4 w hn (by decide) (by decide)
theorem ref_bytes8 (n : Nat) (w : World) (hn : n < 18446744073709551616) :
    Calls Try.prog 11 #[.int .u64 n, .int .i64 8] w fun e w' => e = .returned (.string (S (Frm.be 8 n))) ∧ Below w.heap.size w w' := ref_bytes n 8 w hn (by decide) (by decide)
theorem S_append (a b : List UInt8) : S a ++ S b = S (a ++ b) := by
  have e : L (S a ++ S b) = a ++ b := by rw [L_append, L_S, L_S]
  rw [← e, S_L]

set_option maxHeartbeats 400000 in
theorem ref_enc_long (n : Nat) (t : ByteArray) (w : World) (ht : 65536 < t.size) (ht2 : t.size ≤ 140737488351232) :
    Calls Try.prog 13 #[.agg #[.int .u64 n, .string t]] w fun e w' => e = .returned (.tuple #[.string (S []), .int .i64 5]) ∧ Below w.heap.size w w' := by
  have htI : (65536 : Int) < t.size := by omega
  go_enter Try.func13, Try.ntmps13
  go_wp2
  go_ret2
  exact ⟨rfl, ((Own.refl w).alloc _).below⟩

set_option maxHeartbeats 1000000 in
theorem ref_enc (n : Nat) (t : ByteArray) (w : World) (hn : n < 18446744073709551616) (ht : t.size ≤ 65536) :
    Calls Try.prog 13 #[.agg #[.int .u64 n, .string t]] w fun e w' => e = .returned (.tuple #[.string (S (Frm.enc n (L t))), .int .i64 0]) ∧ Below w.heap.size w w' := by
  have htI : (t.size : Int) ≤ 65536 := by omega
  have hO := (Own.refl w).alloc (.cells #[.int .u64 n, .string t] 24)
  have hg := heap_alloc_new w (.cells #[.int .u64 n, .string t] 24)
  go_enter Try.func13, Try.ntmps13
  go_wp2
  have HG := Lib.hid hg
  have hlt : w.heap.size < (w.alloc (.cells #[.int .u64 n, .string t] 24)).heap.size := by simp
  generalize w.alloc (.cells #[.int .u64 n, .string t] 24) = w1 at *
  clear hg
  have hc0 : ∀ d os, (Go.Sort.grow (redrawn w1 d) os).cell? ⟨w.heap.size, 0, none⟩ = some (.int .u64 n) := fun d os => by rw [(below_regrown w1 d os).cell hlt, cell_of_row _ _ _ _ _ _ HG.out]; rfl
  have hc1 : ∀ d os, (Go.Sort.grow (redrawn w1 d) os).cell? ⟨w.heap.size, 1, none⟩ = some (.string t) := fun d os => by rw [(below_regrown w1 d os).cell hlt, cell_of_row _ _ _ _ _ _ HG.out]; rfl
  have C0 := Lib.hid (show ∀ d os, Calls Try.prog 11 #[.int .u64 (IntKind.u64.wrap (t.size : Int)), .int .i64 4] (Go.Sort.grow (redrawn w1 d) os) fun e w'' => e = .returned (.string (S (Frm.be 4 t.size))) ∧ ∃ p : Regrown, w'' = Go.Sort.grow (redrawn w1 p.d) p.os from fun d os => by
    rw [show IntKind.u64.wrap (t.size : Int) = t.size from by rw [IntKind.wrap_u64]; omega]
    exact Calls.regrown_of (w := w1) (d := d) (os := os) (ref_bytes4 t.size _ (by omega)))
  have C1 := Lib.hid (fun d os => Calls.regrown_of (w := w1) (d := d) (os := os) (ref_bytes8 n _ hn))
  have hs1 : (S (Frm.be 4 t.size)).size ≤ 4 := by rw [S_size, Frm.be_length]; decide
  have hs2 : (S (Frm.be 8 n)).size ≤ 8 := by rw [S_size, Frm.be_length]; decide
  have hcat := S_append (Frm.be 4 t.size) (Frm.be 8 n)
  have hhd : Frm.be 4 t.size ++ Frm.be 8 n = Frm.hd n (L t) := by unfold Frm.hd; rw [L_size]
  rw [hhd] at hcat
  have HC := Lib.hid hcat
  clear hcat hhd
  have hcs : ¬ 9223372036854775807 < (S (Frm.be 4 t.size)).size + (S (Frm.be 8 n)).size := by omega
  refine wp_region_quiet_below (by kernel_rfl) (by kernel_rfl) ?_
  repeat (quiet_step (first | (with_reducible exact C0.out _ _) | (with_reducible exact C1.out _ _)))
  refine wpQuiet_nil ?_
  intro _ hw'
  obtain ⟨⟨dq, osq⟩, hw''⟩ := hw'
  subst hw''
  have hbq := below_regrown w1 dq osq
  generalize Go.Sort.grow (redrawn w1 dq) osq = wq at *
  replace hO := hO.trans hbq
  go_wp2
  have hlt2 : w.heap.size < wq.heap.size := Nat.lt_of_lt_of_le hlt hbq.size
  have hg2 := (hbq.block _ (blk_lt HG.out)).trans HG.out
  have HG2 := Lib.hid hg2
  clear hg2 C0 C1 hc0 hc1 hbq
  have hH : (S (Frm.be 4 t.size) ++ S (Frm.be 8 n)).size ≤ 12 := by rw [HC.out, S_size, Frm.hd_length]; decide
  generalize S (Frm.be 4 t.size) ++ S (Frm.be 8 n) = H at *
  clear hs1 hs2 hcs HG hlt
  have hc0 : ∀ d os, (Go.Sort.grow (redrawn wq d) os).cell? ⟨w.heap.size, 0, none⟩ = some (.int .u64 n) := fun d os => by rw [(below_regrown wq d os).cell hlt2, cell_of_row _ _ _ _ _ _ HG2.out]; rfl
  have hc1 : ∀ d os, (Go.Sort.grow (redrawn wq d) os).cell? ⟨w.heap.size, 1, none⟩ = some (.string t) := fun d os => by rw [(below_regrown wq d os).cell hlt2, cell_of_row _ _ _ _ _ _ HG2.out]; rfl
  have hcs1 : ¬ 9223372036854775807 < H.size + t.size := by omega
  have hsz : (H ++ t).size = H.size + t.size := ByteArray.size_append
  have C0 := Lib.hid (fun d os => Calls.regrown_of (w := wq) (d := d) (os := os) (same_below (ref_sum (H ++ t) _ (by omega))))
  have hX : Crc.sum (L (H ++ t)) = Crc.sum (Frm.hd n (L t) ++ L t) := by rw [HC.out, L_append, L_S]
  have HX := Lib.hid hX
  clear hX hsz
  generalize Crc.sum (L (H ++ t)) = X at *
  have C1 := Lib.hid (show ∀ d os, Calls Try.prog 11 #[.int .u64 (IntKind.u64.wrap (w32 X)), .int .i64 4] (Go.Sort.grow (redrawn wq d) os) fun e w'' => e = .returned (.string (S (Frm.be 4 X.toNat))) ∧ ∃ p : Regrown, w'' = Go.Sort.grow (redrawn wq p.d) p.os from fun d os => by
    rw [show IntKind.u64.wrap (w32 X) = X.toNat from by rw [IntKind.wrap_u64]; unfold w32; omega]
    exact Calls.regrown_of (w := wq) (d := d) (os := os) (ref_bytes4 X.toNat _ (by omega)))
  have hs2 : (S (Frm.be 4 X.toNat)).size ≤ 4 := by rw [S_size, Frm.be_length]; decide
  have HF := Lib.hid (show S (Frm.enc n (L t)) = H ++ S (Frm.be 4 X.toNat) ++ t from by
    have e : L (H ++ S (Frm.be 4 X.toNat) ++ t) = Frm.enc n (L t) := by
      rw [L_append, L_append, HC.out, L_S, L_S, HX.out]; rfl
    rw [← e, S_L])
  generalize S (Frm.be 4 X.toNat) = H2 at *
  have hcs2 : ¬ 9223372036854775807 < H.size + H2.size := by omega
  have hcs3 : ¬ 9223372036854775807 < H.size + H2.size + t.size := by omega
  refine wp_region_quiet_below (by kernel_rfl) (by kernel_rfl) ?_
  repeat (quiet_step (first | (with_reducible exact C0.out _ _) | (with_reducible exact C1.out _ _)))
  refine wpQuiet_nil ?_
  intro _ hw'
  obtain ⟨⟨dq, osq⟩, hw''⟩ := hw'
  subst hw''
  have hbq := below_regrown wq dq osq
  generalize Go.Sort.grow (redrawn wq dq) osq = wq at *
  replace hO := hO.trans hbq
  go_wp2
  go_ret2
  exact ⟨by rw [HF.out]; rfl, hO.below⟩

end Go.Proofs.Yteipjgmbgkjjiaa
