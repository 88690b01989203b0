/-
  THE WALK of frame.Encode.
-/
import Derived.Test.YteipjgmbgkjjiaaFrameWalks
import Derived.Lib.QuietBelow
set_option linter.unusedVariables false
set_option linter.unusedSimpArgs false
namespace Go.Proofs.Yteipjgmbgkjjiaa
open Go.RowKit

set_option maxHeartbeats 400000 in
theorem frame_enc_long (n : Nat) (t : ByteArray) (w : World) (ht : 65536 < t.size) (ht2 : t.size ≤ 140737488351232) :
    Calls Try.prog 12 #[.agg #[.int .u64 n, .string t]] w fun e w' => e = .returned (.tuple #[.string (S []), .int .i64 5]) ∧ Below w.heap.size w w' := by
  have htI : (65536 : Int) < t.size := by omega
  go_enter Try.func12, Try.ntmps12
  go_wp2
  go_ret2
  exact ⟨rfl, ((Own.refl w).alloc _).below⟩

/-- A sum's four bytes, made a text. -/
theorem conv_sum (x : BitVec 32) (w : World) :
    (convert 53 9 (.slice (some ⟨w.heap.size, 0, none⟩) 4 4)).run Try.prog (w.alloc (.cells #[.int .u8 (w32 x / 16777216 % 256), .int .u8 (w32 x / 65536 % 256), .int .u8 (w32 x / 256 % 256), .int .u8 (w32 x % 256)] 5))
      = .ok (.string (S (Frm.be 4 x.toNat))) (w.alloc (.cells #[.int .u8 (w32 x / 16777216 % 256), .int .u8 (w32 x / 65536 % 256), .int .u8 (w32 x / 256 % 256), .int .u8 (w32 x % 256)] 5)) := by
  have hb : Frm.be 4 x.toNat = [UInt8.ofNat (x.toNat / 16777216), UInt8.ofNat (x.toNat / 65536), UInt8.ofNat (x.toNat / 256), UInt8.ofNat x.toNat] := by
    simp [Frm.be, Nat.div_div_eq_div_mul]
  have hv : ∀ k : Nat, w32 x / (k : Int) % 256 = by8 (UInt8.ofNat (x.toNat / k)) := by
    intro k; rw [by8_ofNat]; unfold w32; omega
  have hv0 : w32 x % 256 = by8 (UInt8.ofNat x.toNat) := by rw [by8_ofNat]; unfold w32; omega
  have h1 := hv 16777216
  have h2 := hv 65536
  have h3 := hv 256
  have e1 : ((16777216 : Nat) : Int) = 16777216 := rfl
  have e2 : ((65536 : Nat) : Int) = 65536 := rfl
  have e3 : ((256 : Nat) : Int) = 256 := rfl
  rw [e1] at h1
  rw [e2] at h2
  rw [e3] at h3
  rw [h1, h2, h3, hv0]
  refine run_string_of (P := Try.prog) _ 53 9 5 w.heap.size 4 (Frm.be 4 x.toNat) _ _ _ 4 (Frm.be_length _ _).symm Try.und32 Try.und5 Try.und9 (heap_alloc_new w _) ?_
  rw [hb]
  intro j hj
  obtain rfl | rfl | rfl | rfl : j = 0 ∨ j = 1 ∨ j = 2 ∨ j = 3 := by simp at hj; omega
  all_goals rfl

set_option maxHeartbeats 400000 in
theorem frame_enc (n : Nat) (t : ByteArray) (w : World) (hn : n < 18446744073709551616) (ht : t.size ≤ 65536) :
    Calls Try.prog 12 #[.agg #[.int .u64 n, .string t]] w fun e w' => e = .returned (.tuple #[.string (S (Frm.enc n (L t))), .int .i64 0]) ∧ Below w.heap.size w w' := by
  have hnI : (0 : Int) ≤ n ∧ (n : Int) ≤ 18446744073709551615 := by omega
  have htI : (t.size : Int) ≤ 65536 := by omega
  have hO := Own.refl w
  go_enter Try.func12, Try.ntmps12
  go_wp2_with fail
  replace hO := hO.alloc (.cells #[.int .u64 n, .string t] 24)
  refine (frame_head n t _ hn ht).mono ?_
  rintro e w1 ⟨rfl, hb1⟩
  have hc : w1.cell? ⟨w.heap.size, 1, none⟩ = some (.string t) := by rw [hb1.cell (by simp)]; go_simp
  have hlt1 : w.heap.size < w1.heap.size := by have := hb1.size; simp at this; omega
  replace hO := hO.trans hb1
  clear hb1
  go_wp2
  have hcr : ∀ d os, (Go.Sort.grow (redrawn w1 d) os).cell? ⟨w.heap.size, 1, none⟩ = some (.string t) := fun d os => by rw [(below_regrown w1 d os).cell hlt1, hc]
  have C0 := Lib.hid (fun d os => Calls.regrown_of (w := w1) (d := d) (os := os) (crc_sum (S (Frm.hd n (L t))) _ (by rw [S_size, Frm.hd_length]; decide)))
  have C1 := Lib.hid (fun d os => Calls.regrown_of (w := w1) (d := d) (os := os) (crc_more (Crc.sum (L (S (Frm.hd n (L t))))) t _ (by omega)))
  refine wp_region_quiet_below (by kernel_rfl) (by kernel_rfl) ?_
  repeat (quiet_step (first | exact C0.out _ _ | exact C1.out _ _))
  refine wpQuiet_nil ?_
  intro _ hw'
  obtain ⟨⟨dq, osq⟩, hw''⟩ := hw'
  subst hw''
  have hbq := below_regrown w1 dq osq
  generalize Go.Sort.grow (redrawn w1 dq) osq = wq at *
  replace hO := hO.trans hbq
  replace hc := (hbq.cell hlt1).trans hc
  clear hbq hcr C0 C1
  have hX : Crc.more (Crc.sum (L (S (Frm.hd n (L t))))) (L t) = Crc.sum (Frm.hd n (L t) ++ L t) := Crc.sum_append _ _
  have HX := Lib.hid hX
  clear hX
  generalize Crc.more (Crc.sum (L (S (Frm.hd n (L t))))) (L t) = X at *
  have hcv := conv_sum X
  have hc2 : (wq.alloc (.cells #[.int .u8 (w32 X / 16777216 % 256), .int .u8 (w32 X / 65536 % 256), .int .u8 (w32 X / 256 % 256), .int .u8 (w32 X % 256)] 5)).cell? ⟨w.heap.size, 1, none⟩ = some (.string t) := by
    rw [((Below.refl wq.heap.size wq).alloc (Nat.le_refl _) _).cell (block_lt_of_cell hc)]; exact hc
  have HF := Lib.hid (show S (Frm.enc n (L t)) = S (Frm.hd n (L t)) ++ S (Frm.be 4 X.toNat) ++ t from by
    have e : L (S (Frm.hd n (L t)) ++ S (Frm.be 4 X.toNat) ++ t) = Frm.enc n (L t) := by
      rw [L_append, L_append, L_S, L_S, HX.out]; rfl
    rw [← e, S_L])
  have hs1 : (S (Frm.hd n (L t))).size ≤ 12 := by rw [S_size, Frm.hd_length]; decide
  have hs2 : (S (Frm.be 4 X.toNat)).size ≤ 4 := by rw [S_size, Frm.be_length]; decide
  generalize S (Frm.hd n (L t)) = H1 at *
  generalize S (Frm.be 4 X.toNat) = H2 at *
  clear hc HX
  go_wp2
  go_ret2
  exact ⟨by rw [HF.out]; rfl, (hO.alloc _).below⟩

end Go.Proofs.Yteipjgmbgkjjiaa
