/-
  THE WALK of the document's answer for layer 10: Decode.
-/
import Derived.Test.YteipjgmbgkjjiaaFrameRef
import Derived.Deep.RegionWith
set_option linter.unusedVariables false
set_option linter.unusedSimpArgs false
namespace Go.Proofs.Yteipjgmbgkjjiaa
open Go.RowKit

theorem rnumber_same (s : ByteArray) (a b : Nat) (w : World) (hs : s.size ≤ 140737488351232) (n : Nat) (hn : Frm.num (((L s).drop a).take (b - a)) = n) :
    Calls Try.prog 9 #[.string (s.extract a b)] w fun e w' => e = .returned (.int .u64 n) ∧ w = w' := by
  have := ref_number (s.extract a b) w (by rw [ByteArray.size_extract]; omega)
  rwa [L_cut, hn] at this
theorem rnumber_cut (s : ByteArray) (a b : Nat) (w : World) (hs : s.size ≤ 140737488351232) (n : Nat) (hn : Frm.num (((L s).drop a).take (b - a)) = n) :
    Calls Try.prog 9 #[.string (s.extract a b)] w fun e w' => e = .returned (.int .u64 n) ∧ Below w.heap.size w w' := by
  have := same_below (ref_number (s.extract a b) w (by rw [ByteArray.size_extract]; omega))
  rwa [L_cut, hn] at this

set_option maxHeartbeats 400000 in
theorem ref_dec_short (s : ByteArray) (w : World) (hs : s.size < 16) :
    Calls Try.prog 15 #[.string s] w (DecOut s w) := by
  have hsI : (s.size : Int) < 16 := by omega
  have HQ := dec_out s w 0 ⟨#[]⟩ 0 100 ⟨Frm.rec0, 0, 100⟩ (by unfold Frm.dec; rw [L_size, if_pos hs]) rfl rfl rfl rfl
  refine Calls.mono ?_ HQ.out
  go_enter Try.func15, Try.ntmps15
  go_wp2
  refine bodyPost_ret (v := .tuple #[.agg #[.int .u64 0, .string ⟨#[]⟩], .int .i64 0, .int .i64 100]) (by simp [results, Try.results15, go_sem]) rfl ⟨rfl, ((Own.refl w).alloc _).below⟩

set_option maxHeartbeats 400000 in
theorem ref_dec_long (s : ByteArray) (w : World) (hs : 16 ≤ s.size) (hs2 : s.size ≤ 140737488351232) (hn : 65536 < Frm.num ((L s).take 4)) :
    Calls Try.prog 15 #[.string s] w (DecOut s w) := by
  have hsI : 16 ≤ (s.size : Int) ∧ (s.size : Int) ≤ 140737488351232 := by omega
  have HQ := dec_out s w 0 ⟨#[]⟩ 0 5 ⟨Frm.rec0, 0, 5⟩ (by unfold Frm.dec; rw [L_size, if_neg (by omega), if_pos hn]) rfl rfl rfl rfl
  have C0 := fun w => rnumber_cut s 0 4 w hs2 (Frm.num ((L s).take 4)) rfl
  have hm := Frm.num_lt ((L s).take 4)
  unfold Frm.M64 at hm
  generalize Frm.num ((L s).take 4) = N at *
  have hnI : (65536 : Int) < N ∧ (N : Int) ≤ 18446744073709551615 := by omega
  have HC0 := Lib.hid C0
  clear C0 hm
  refine Calls.mono ?_ HQ.out
  have hO := Own.refl w
  go_enter Try.func15, Try.ntmps15
  go_wp2_with fail
  replace hO := hO.alloc (.cells #[.int .u64 0, .string ⟨#[]⟩] 24)
  refine (HC0.out _).mono ?_
  rintro e w1 ⟨rfl, hb1⟩
  have hg : w1.heap[w.heap.size]? = some (.cells #[.int .u64 0, .string ⟨#[]⟩] 24 (0, 0)) := by exact (hb1.block _ (by simp)).trans (heap_alloc_new w _)
  obtain ⟨hc0, hc1, hf0, hf1⟩ := rec_cells hg
  have HG := Lib.hid hg
  replace hO := hO.trans hb1
  clear hb1 hg
  go_wp2
  refine bodyPost_ret (v := .tuple #[.agg #[.int .u64 0, .string ⟨#[]⟩], .int .i64 0, .int .i64 5]) (by simp [results, Try.results15, go_sem, hc0, hc1]) rfl ⟨rfl, ?_⟩
  exact ((hO.setCell (by simp) _).setCell (by simp) _).below

set_option maxHeartbeats 400000 in
theorem ref_dec_torn (s : ByteArray) (w : World) (hs : 16 ≤ s.size) (hs2 : s.size ≤ 140737488351232) (hn : Frm.num ((L s).take 4) ≤ 65536) (hn2 : s.size - 16 < Frm.num ((L s).take 4)) :
    Calls Try.prog 15 #[.string s] w (DecOut s w) := by
  have HQ := dec_out s w 0 ⟨#[]⟩ 0 100 ⟨Frm.rec0, 0, 100⟩ (by unfold Frm.dec; rw [L_size, if_neg (by omega), if_neg (by omega), if_pos hn2]) rfl rfl rfl rfl
  have C0 := fun w => rnumber_cut s 0 4 w hs2 (Frm.num ((L s).take 4)) rfl
  generalize Frm.num ((L s).take 4) = N at *
  have hnI : (0 : Int) ≤ N ∧ (N : Int) ≤ 65536 ∧ (s.size : Int) - 16 < N ∧ 16 ≤ (s.size : Int) ∧ (s.size : Int) ≤ 140737488351232 := by omega
  have HC0 := Lib.hid C0
  clear C0
  refine Calls.mono ?_ HQ.out
  have hO := Own.refl w
  go_enter Try.func15, Try.ntmps15
  go_wp2_with fail
  replace hO := hO.alloc (.cells #[.int .u64 0, .string ⟨#[]⟩] 24)
  refine (HC0.out _).mono ?_
  rintro e w1 ⟨rfl, hb1⟩
  have hg : w1.heap[w.heap.size]? = some (.cells #[.int .u64 0, .string ⟨#[]⟩] 24 (0, 0)) := by exact (hb1.block _ (by simp)).trans (heap_alloc_new w _)
  obtain ⟨hc0, hc1, hf0, hf1⟩ := rec_cells hg
  have HG := Lib.hid hg
  replace hO := hO.trans hb1
  clear hb1 hg
  go_wp2
  refine bodyPost_ret (v := .tuple #[.agg #[.int .u64 0, .string ⟨#[]⟩], .int .i64 0, .int .i64 100]) (by simp [results, Try.results15, go_sem, hc0, hc1]) rfl ⟨rfl, ?_⟩
  exact ((hO.setCell (by simp) _).setCell (by simp) _).below

theorem rdec_sum_lo (s : ByteArray) (N : Nat) : Crc.sum (L (s.extract 0 12 ++ s.extract 16 (16 + N))) = Crc.sum ((L s).take 12 ++ ((L s).drop 16).take N) := by
  rw [L_append, L_cut, L_cut]; congr 3; omega

set_option maxHeartbeats 1000000 in
theorem ref_dec_full (s : ByteArray) (w : World) (hs : 16 ≤ s.size) (hs2 : s.size ≤ 140737488351232) (hn : Frm.num ((L s).take 4) ≤ 65536) (hn2 : Frm.num ((L s).take 4) ≤ s.size - 16) :
    Calls Try.prog 15 #[.string s] w (DecOut s w) := by
  have C0 := fun w => rnumber_cut s 0 4 w hs2 (Frm.num ((L s).take 4)) rfl
  have C1 := fun w => rnumber_same s 4 12 w hs2 (Frm.num (((L s).drop 4).take 8)) rfl
  have C2 := fun w => rnumber_cut s 12 16 w hs2 (Frm.num (((L s).drop 12).take 4)) rfl
  have hm := Frm.num_lt (((L s).drop 4).take 8)
  have hs4 := Frm.num_small 4 (((L s).drop 12).take 4) (by simp [L_size]; omega) (by decide)
  rw [show 256 ^ 4 = 4294967296 from by decide] at hs4
  have HQ1 : Crc.sum (L (s.extract 0 12 ++ s.extract 16 (16 + Frm.num ((L s).take 4)))) = Crc.sum ((L s).take 12 ++ ((L s).drop 16).take (Frm.num ((L s).take 4))) := rdec_sum_lo s _
  have hdec : Frm.dec (L s) = if Frm.crc ((L s).take 12 ++ ((L s).drop 16).take (Frm.num ((L s).take 4))) ≠ Frm.num (((L s).drop 12).take 4) then ⟨Frm.rec0, 0, 101⟩ else ⟨⟨Frm.num (((L s).drop 4).take 8), ((L s).drop 16).take (Frm.num ((L s).take 4))⟩, 16 + Frm.num ((L s).take 4), 0⟩ := by
    unfold Frm.dec; rw [L_size, if_neg (by omega), if_neg (by omega), if_neg (by omega)]
  have hcut := L_cut s 16 (16 + Frm.num ((L s).take 4))
  rw [show 16 + Frm.num ((L s).take 4) - 16 = Frm.num ((L s).take 4) from by omega] at hcut
  unfold Frm.crc at hdec
  rw [← HQ1, ← hcut] at hdec
  clear hcut HQ1
  generalize Frm.num ((L s).take 4) = N at *
  generalize Frm.num (((L s).drop 12).take 4) = M at *
  generalize Frm.num (((L s).drop 4).take 8) = K at *
  have htx : (s.extract 16 (16 + N)).size ≤ 65536 := by rw [ByteArray.size_extract]; omega
  have hnI : (0 : Int) ≤ N ∧ (N : Int) ≤ 65536 ∧ (N : Int) ≤ (s.size : Int) - 16 ∧ 16 ≤ (s.size : Int) ∧ (s.size : Int) ≤ 140737488351232 := by omega
  have hMI : (0 : Int) ≤ M ∧ (M : Int) ≤ 4294967295 := by omega
  have hKI : (0 : Int) ≤ K ∧ (K : Int) ≤ 18446744073709551615 := by unfold Frm.M64 at hm; omega
  have hcmp : (w32 (Crc.sum (L (s.extract 0 12 ++ s.extract 16 (16 + N)))) != IntKind.u32.wrap (M : Int)) = decide ((Crc.sum (L (s.extract 0 12 ++ s.extract 16 (16 + N)))).toNat ≠ M) := by
    rw [wrap32_nat M (by omega), Bool.eq_iff_iff, bne_iff_ne, decide_eq_true_iff]; unfold w32; omega
  have HC0 := Lib.hid C0
  have HC1 := Lib.hid C1
  have HC2 := Lib.hid C2
  have HD := Lib.hid hdec
  have HCM := Lib.hid hcmp
  clear C0 C1 C2 hm hs4 hdec hcmp
  have hO := Own.refl w
  have hsl : (16 : Int) + N = ((16 + N : Nat) : Int) := by omega
  have HSL := Lib.hid hsl
  clear hsl
  go_enter Try.func15, Try.ntmps15
  go_wp2_with fail
  replace hO := hO.alloc (.cells #[.int .u64 0, .string ⟨#[]⟩] 24)
  refine (HC0.out _).mono ?_
  rintro e w1 ⟨rfl, hb1⟩
  have hg : w1.heap[w.heap.size]? = some (.cells #[.int .u64 0, .string ⟨#[]⟩] 24 (0, 0)) := by exact (hb1.block _ (by simp)).trans (heap_alloc_new w _)
  have HG := Lib.hid hg
  replace hO := hO.trans hb1
  clear hb1 hg
  go_wp2_with fail
  have hcs : ¬ 9223372036854775807 < min 12 s.size + (min (16 + N) s.size - 16) := by omega
  have D0 := Lib.hid (fun d os => Calls.regrown_of (w := w1) (d := d) (os := os) (same_below (ref_sum (s.extract 0 12 ++ s.extract 16 (16 + N)) _ (by rw [ByteArray.size_append, ByteArray.size_extract, ByteArray.size_extract]; omega))))
  have D2 := Lib.hid (fun d os => Calls.regrown_of (w := w1) (d := d) (os := os) (HC2.out _))
  generalize Crc.sum (L (s.extract 0 12 ++ s.extract 16 (16 + N))) = X at *
  have h12 : (12 : Int) ≤ s.size := by omega
  have h0 : (16 : Int) ≤ 16 + (N : Int) := by omega
  have h1 : (16 : Int) + (N : Int) ≤ s.size := by omega
  have hT : ((16 : Int) + (N : Int)).toNat = 16 + N := by omega
  refine wp_region_quiet_below (by kernel_rfl) (by kernel_rfl) ?_
  repeat (quiet_step (first | (with_reducible exact D0.out _ _) | (with_reducible exact D2.out _ _)))
  refine wpQuiet_nil ?_
  intro _ hw'
  obtain ⟨⟨dq, osq⟩, hw''⟩ := hw'
  subst hw''
  have hbq := below_regrown w1 dq osq
  generalize Go.Sort.grow (redrawn w1 dq) osq = wq at *
  replace hO := hO.trans hbq
  have hg := (hbq.block _ (blk_lt HG.out)).trans HG.out
  replace HG := Lib.hid hg
  clear D0 D2 hbq hg hcs
  have hcm := HCM.out
  obtain ⟨hc0, hc1, hf0, hf1⟩ := rec_cells HG.out
  by_cases hX : X.toNat ≠ M
  · have hd := HD.out
    rw [if_pos hX] at hd
    rw [decide_eq_true hX] at hcm
    have HQ := dec_out s w 0 ⟨#[]⟩ 0 101 _ hd rfl rfl rfl rfl
    clear hd HCM
    go_wp2
    refine bodyPost_ret (v := .tuple #[.agg #[.int .u64 0, .string ⟨#[]⟩], .int .i64 0, .int .i64 101]) (by simp [results, Try.results15, go_sem, hc0, hc1]) rfl (HQ.out _ _ ⟨rfl, ?_⟩)
    exact ((hO.setCell (by simp) _).setCell (by simp) _).below
  · have hd := HD.out
    rw [if_neg hX] at hd
    rw [decide_eq_false hX] at hcm
    have HQ := dec_out s w K (s.extract 16 (16 + N)) ((16 + N : Nat) : Int) 0 _ hd rfl rfl rfl rfl
    clear hd HCM
    go_wp2_with fail
    go_region_with (go_at_call 9; refine (HC1.out _).mono ?_; rintro e w2 ⟨rfl, rfl⟩)
    all_goals
      go_wp2
      refine bodyPost_ret (v := .tuple #[.agg #[.int .u64 K, .string (s.extract 16 (16 + N))], .int .i64 (16 + (N : Int)), .int .i64 0]) (by simp [results, Try.results15, go_sem, hc0, hc1]) rfl (HQ.out _ _ ⟨by rw [← HSL.out], ?_⟩)
      exact ((hO.setCell (by simp) _).setCell (by simp) _).drew.below

theorem ref_dec (s : ByteArray) (w : World) (hs2 : s.size ≤ 140737488351232) :
    Calls Try.prog 15 #[.string s] w (DecOut s w) := by
  by_cases h1 : s.size < 16
  · exact ref_dec_short s w h1
  by_cases h2 : 65536 < Frm.num ((L s).take 4)
  · exact ref_dec_long s w (by omega) hs2 h2
  by_cases h3 : s.size - 16 < Frm.num ((L s).take 4)
  · exact ref_dec_torn s w (by omega) hs2 (by omega) h3
  · exact ref_dec_full s w (by omega) hs2 (by omega) (by omega)

end Go.Proofs.Yteipjgmbgkjjiaa
