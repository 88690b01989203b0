/-
  THE WALK of the statement FrameTells.
-/
import Derived.Test.YteipjgmbgkjjiaaFrameAlive
import Derived.Deep.DeepCutAuto
import Derived.BigQuiet
set_option linter.unusedVariables false
set_option linter.unusedSimpArgs false
namespace Go.Proofs.Yteipjgmbgkjjiaa
open Go.RowKit

theorem scanF_le : ∀ (f : Nat) (s : List UInt8) (n : Nat), (Frm.scanF f s n).1.length ≤ f
  | 0, s, n => by simp [Frm.scanF]
  | f + 1, s, n => by
    rw [Frm.scanF]
    split
    · simp
    · split
      · simp
      · split
        · simp
        · simp only [List.length_cons]
          have := scanF_le f (s.drop (Frm.dec s).used) ((n + 1) % Frm.M64)
          omega
theorem scan_le (s : List UInt8) (n : Nat) : (Frm.scan s n).1.length ≤ s.length := scanF_le _ _ _
theorem ref_dec_s {s : ByteArray} {d : Frm.Dec} (w : World) (hs : s.size ≤ 140737488351232) (hd : Frm.dec (L s) = d) (n u e : Int) (t : ByteArray) (h1 : n = d.r.num) (h2 : t = S d.r.text) (h3 : u = d.used) (h4 : e = d.err) :
    Calls Try.prog 15 #[.string s] w fun x w' => x = .returned (.tuple #[.agg #[.int .u64 n, .string t], .int .i64 u, .int .i64 e]) ∧ Below w.heap.size w w' := by
  subst h1 h2 h3 h4 hd
  exact ref_dec s w hs
/-- What Scan hands back, its numbers by name. -/
def ScanTo (l : List Frm.Rec) (u e : Int) (w : World) (x : Ending) (w' : World) : Prop :=
  ∃ a cap, x = .returned (.tuple #[.slice a l.length cap, .int .i64 u, .int .i64 e]) ∧ SliceIs w' 24 2 a l.length cap (rrow l) ∧ Below w.heap.size w w'
theorem scan_to {s : ByteArray} {first : Nat} {l : List Frm.Rec} {u e : Int} (h1 : (Frm.scan (L s) first).1 = l) (h2 : ((Frm.scan (L s) first).2.1 : Int) = u) (h3 : ((Frm.scan (L s) first).2.2 : Int) = e) {w : World} {x : Ending} {w' : World} (h : ScanOut s first w x w') : ScanTo l u e w x w' := by
  obtain ⟨a, cap, e1, e2, e3, _⟩ := h
  rw [h1] at e2
  rw [h1, h2, h3] at e1
  exact ⟨a, cap, e1, e2, e3⟩

/-- The bytes, with the sum that they should have. -/
theorem tells_fixed (s : ByteArray) (x : Nat) (h : 16 ≤ s.size) : (s.extract 0 12 ++ S (Frm.be 4 x) ++ s.extract 16 s.size).size = s.size := by
  rw [ByteArray.size_append, ByteArray.size_append, ByteArray.size_extract, ByteArray.size_extract, S_size, Frm.be_length]; omega

set_option maxRecDepth 20000 in
set_option maxHeartbeats 4000000 in
theorem frameTells_any (n1 : Nat) (t1 s : ByteArray) (first : Nat) (right : Bool) (w : World) (hn1 : n1 < 18446744073709551616) (hf : first < 18446744073709551616) (ht1 : t1.size ≤ 140737488351232) (hs : s.size ≤ 140737488351232) :
    Calls Try.prog 3 #[.agg #[.int .u64 n1, .string t1], .string s, .int .u64 first, .bool right] w fun e w' => e = .returned (.bool true) ∧ Below w.heap.size w w' := by
  have hO := (Own.refl w).alloc (.cells #[.int .u64 n1, .string t1] 24)
  by_cases hlong : 4096 < t1.size
  · have hl : (4096 : Int) < t1.size := by omega
    go_enter Try.func3, Try.ntmps3
    go_wp2_with fail
    refine (alive10 _).mono ?_
    rintro e w1 ⟨rfl, hb1⟩
    replace hO := hO.trans hb1
    clear hb1
    go_wp2_with fail
    go_ret
    exact ⟨rfl, hO.below⟩
  by_cases hlong2 : 4096 < s.size
  · have hl : ¬ (4096 : Int) < t1.size := by omega
    have hl2 : (4096 : Int) < s.size := by omega
    go_enter Try.func3, Try.ntmps3
    go_wp2_with fail
    refine (alive10 _).mono ?_
    rintro e w1 ⟨rfl, hb1⟩
    replace hO := hO.trans hb1
    clear hb1
    go_wp2_with fail
    go_ret
    exact ⟨rfl, hO.below⟩
  have hl : (t1.size : Int) ≤ 4096 := by omega
  have hl2 : (s.size : Int) ≤ 4096 := by omega
  have HH : Hid (n1 < 18446744073709551616 ∧ first < 18446744073709551616 ∧ t1.size ≤ 4096 ∧ s.size ≤ 4096) := Lib.hid (by omega)
  clear hn1 hf ht1 hs hlong hlong2
  have hg := heap_alloc_new w (.cells #[.int .u64 n1, .string t1] 24)
  have HG := Lib.hid hg
  clear hg
  go_enter Try.func3, Try.ntmps3
  cases right with
  | false =>
    go_upto_if 42 with fail
    generalize w.alloc (.cells #[.int .u64 n1, .string t1] 24) = w1 at *
    go_cut [1] (fun vs wx => ∃ s2 : ByteArray, vs = .string s2 ∧ s2.size ≤ 4096 ∧ Own w.heap.size w wx ∧ wx.heap[w.heap.size]? = some (.cells #[.int .u64 n1, .string t1] 24 (0, 0)))
    case first =>
      go_wp2
      go_meet
      exact ⟨s, rfl, HH.out.2.2.2, hO, HG.out⟩
    case rest =>
      obtain ⟨s2, rfl, h2, hO2, hg2⟩ := hcut
      have HG2 := Lib.hid hg2
      have H2 := Lib.hid h2
      obtain ⟨c0, c1, _, _⟩ := rec_cells hg2
      have HE1 := Lib.hid (fun w => frame_enc n1 t1 w HH.out.1 (by have := HH.out.2.2.1; omega))
      have HE2 := Lib.hid (fun w => ref_enc n1 t1 w HH.out.1 (by have := HH.out.2.2.1; omega))
      generalize S (Frm.enc n1 (L t1)) = E at *
      have HD1 := Lib.hid (fun w => dec_s (s := s2) w (by omega) rfl _ _ _ _ rfl rfl rfl rfl)
      have HD2 := Lib.hid (fun w => ref_dec_s (s := s2) w (by omega) rfl _ _ _ _ rfl rfl rfl rfl)
      generalize ((Frm.dec (L s2)).r.num : Int) = K at *
      generalize ((Frm.dec (L s2)).used : Int) = u at *
      generalize ((Frm.dec (L s2)).err : Int) = er at *
      generalize S (Frm.dec (L s2)).r.text = T at *
      have HS1 := Lib.hid (fun w => (frame_scan s2 first w (by omega) HH.out.2.1).mono fun x w' h => scan_to rfl rfl rfl h)
      have HS2 := Lib.hid (fun w => (ref_scan s2 first w (by omega) HH.out.2.1).mono fun x w' h => scan_to rfl rfl rfl h)
      have hsl := scan_le (L s2) first
      rw [L_size] at hsl
      generalize ((Frm.scan (L s2) first).2.1 : Int) = us at *
      generalize ((Frm.scan (L s2) first).2.2 : Int) = es at *
      generalize (Frm.scan (L s2) first).1 = l at *
      have HSL := Lib.hid (show l.length ≤ 1073741824 by omega)
      have hO := hO2
      clear hg2 h2 hsl hO2
      go_wp2_with fail
      refine (HE1.out _).mono ?_
      rintro e w2 ⟨rfl, hb1⟩
      replace hO := hO.trans hb1
      have hg2 := (hb1.block _ (blk_lt HG2.out)).trans HG2.out
      clear c0 c1
      obtain ⟨c0, c1, _, _⟩ := rec_cells hg2
      replace HG2 := Lib.hid hg2
      clear hb1 hg2
      go_wp2_with fail
      refine (HE2.out _).mono ?_
      rintro e w3 ⟨rfl, hb1⟩
      replace hO := hO.trans hb1
      have hg2 := (hb1.block _ (blk_lt HG2.out)).trans HG2.out
      replace HG2 := Lib.hid hg2
      clear hb1 hg2 c0 c1
      go_wp2_with fail
      refine (HD1.out _).mono ?_
      rintro e w4 ⟨rfl, hb1⟩
      have hg2 := (hb1.block _ (blk_lt HG2.out)).trans HG2.out
      have hgx := heap_alloc_new w4 (.cells #[.int .u64 K, .string T] 24)
      replace hO := (hO.trans hb1).alloc (.cells #[.int .u64 K, .string T] 24)
      have hg2' := (Below.heap_alloc w4 (.cells #[.int .u64 K, .string T] 24) _ (blk_lt hg2)).trans hg2
      replace HG2 := Lib.hid hg2'
      have HGX := Lib.hid hgx
      clear hb1 hg2 hgx hg2'
      go_wp2_with fail
      refine (HD2.out _).mono ?_
      rintro e w5 ⟨rfl, hb1⟩
      have hg2 := (hb1.block _ (blk_lt HG2.out)).trans HG2.out
      have hgx := (hb1.block _ (blk_lt HGX.out)).trans HGX.out
      have hgy := heap_alloc_new w5 (.cells #[.int .u64 K, .string T] 24)
      replace hO := (hO.trans hb1).alloc (.cells #[.int .u64 K, .string T] 24)
      have hg2' := (Below.heap_alloc w5 (.cells #[.int .u64 K, .string T] 24) _ (blk_lt hg2)).trans hg2
      have hgx' := (Below.heap_alloc w5 (.cells #[.int .u64 K, .string T] 24) _ (blk_lt hgx)).trans hgx
      replace HG2 := Lib.hid hg2'
      replace HGX := Lib.hid hgx'
      have HGY := Lib.hid hgy
      clear hb1 hg2 hgx hgy hg2' hgx'
      go_wp2_with fail
      refine (HS1.out _).mono ?_
      rintro e w6 ⟨a1, cap1, rfl, hs1, hb1⟩
      replace hO := hO.trans hb1
      replace HG2 := Lib.hid ((hb1.block _ (blk_lt HG2.out)).trans HG2.out)
      replace HGX := Lib.hid ((hb1.block _ (blk_lt HGX.out)).trans HGX.out)
      replace HGY := Lib.hid ((hb1.block _ (blk_lt HGY.out)).trans HGY.out)
      have HSS1 := Lib.hid hs1
      clear hb1 hs1
      go_wp2_with fail
      refine (HS2.out _).mono ?_
      rintro e w7 ⟨a2, cap2, rfl, hs2, hb1⟩
      replace hO := hO.trans hb1
      replace HG2 := Lib.hid ((hb1.block _ (blk_lt HG2.out)).trans HG2.out)
      replace HGX := Lib.hid ((hb1.block _ (blk_lt HGX.out)).trans HGX.out)
      replace HGY := Lib.hid ((hb1.block _ (blk_lt HGY.out)).trans HGY.out)
      replace HSS1 := Lib.hid (HSS1.out.keep (w' := w7) fun k hk => hb1.block k (HSS1.out.lt k hk))
      have HSS2 := Lib.hid hs2
      clear hb1 hs2
      go_wp2_with fail
      have q0 : ∀ d os, (Go.Sort.grow (redrawn w7 d) os).cell? ⟨w.heap.size, 1, none⟩ = some (.string t1) := fun d os => by rw [(below_regrown w7 d os).cell (blk_lt HG2.out), cell_of_row _ _ _ _ _ _ HG2.out]; rfl
      have q1 : ∀ d os, (Go.Sort.grow (redrawn w7 d) os).cell? ⟨w4.heap.size, 0, none⟩ = some (.int .u64 K) := fun d os => by rw [(below_regrown w7 d os).cell (blk_lt HGX.out), cell_of_row _ _ _ _ _ _ HGX.out]; rfl
      have q2 : ∀ d os, (Go.Sort.grow (redrawn w7 d) os).cell? ⟨w4.heap.size, 1, none⟩ = some (.string T) := fun d os => by rw [(below_regrown w7 d os).cell (blk_lt HGX.out), cell_of_row _ _ _ _ _ _ HGX.out]; rfl
      have q3 : ∀ d os, (Go.Sort.grow (redrawn w7 d) os).cell? ⟨w5.heap.size, 0, none⟩ = some (.int .u64 K) := fun d os => by rw [(below_regrown w7 d os).cell (blk_lt HGY.out), cell_of_row _ _ _ _ _ _ HGY.out]; rfl
      have q4 : ∀ d os, (Go.Sort.grow (redrawn w7 d) os).cell? ⟨w5.heap.size, 1, none⟩ = some (.string T) := fun d os => by rw [(below_regrown w7 d os).cell (blk_lt HGY.out), cell_of_row _ _ _ _ _ _ HGY.out]; rfl
      have hfs := frame_size t1
      have hwr : IntKind.i64.wrap ((t1.size : Int) + 16) = (t1.size : Int) + 16 := by rw [IntKind.wrap_i64]; omega
      have hue : (((16 + t1.size : Nat) : Int) == (t1.size : Int) + 16) = true := by rw [beq_iff_eq]; omega
      generalize ((16 + t1.size : Nat) : Int) = U at *
      have D0 := Lib.hid (fun d os => Calls.regrown_of (w := w7) (d := d) (os := os) (same_below (hfs _ (by have := HH.out.2.2.1; omega))))
      have D1 := Lib.hid (fun d os => Calls.regrown_of (w := w7) (d := d) (os := os) (rec_same _ a1 a2 cap1 cap2 l HSL.out (HSS1.out.keep fun k hk => (below_regrown w7 d os).block k (HSS1.out.lt k hk)) (HSS2.out.keep fun k hk => (below_regrown w7 d os).block k (HSS2.out.lt k hk))))
      have D2 := Lib.hid (fun d os => Calls.regrown_of (w := w7) (d := d) (os := os) (alive10 _))
      clear hfs
      refine wp_region_quiet_below (by kernel_rfl) (by kernel_rfl) ?_
      repeat (quiet_step (first | (with_reducible exact D0.out _ _) | (with_reducible exact D1.out _ _) | (with_reducible exact D2.out _ _)))
      refine wpQuiet_nil ?_
      intro _ hw'
      obtain ⟨⟨dq, osq⟩, hw''⟩ := hw'
      subst hw''
      have hbq := below_regrown w7 dq osq
      generalize Go.Sort.grow (redrawn w7 dq) osq = wq at *
      replace hO := hO.trans hbq
      go_wp2
      go_ret
      exact ⟨rfl, hO.below⟩

  | true =>
    go_upto_if 42 with fail
    generalize w.alloc (.cells #[.int .u64 n1, .string t1] 24) = w1 at *
    go_cut [1] (fun vs wx => ∃ s2 : ByteArray, vs = .string s2 ∧ s2.size ≤ 4096 ∧ Own w.heap.size w wx ∧ wx.heap[w.heap.size]? = some (.cells #[.int .u64 n1, .string t1] 24 (0, 0)))
    case first =>
      by_cases h16 : 16 ≤ s.size
      · have h16I : (16 : Int) ≤ s.size := by omega
        have HN := Lib.hid (fun w => rnumber_same s 0 4 w (by omega) (Frm.num ((L s).take 4)) rfl)
        have hN64 := Frm.num_lt ((L s).take 4)
        unfold Frm.M64 at hN64
        generalize Frm.num ((L s).take 4) = N at *
        have hNI : (0 : Int) ≤ N ∧ (N : Int) ≤ 18446744073709551615 := by omega
        clear hN64
        go_wp2_with fail
        refine (HN.out _).mono ?_
        rintro e w2 ⟨rfl, rfl⟩
        by_cases hle : N ≤ s.size - 16
        · have hleI : (N : Int) ≤ (s.size : Int) - 16 := by omega
          have hHO := Lib.hid hO
          have HX := Lib.hid (fun w => crc_sum (s.extract 0 12 ++ s.extract 16 (16 + N)) w (by rw [ByteArray.size_append, ByteArray.size_extract, ByteArray.size_extract]; omega))
          generalize Crc.sum (L (s.extract 0 12 ++ s.extract 16 (16 + N))) = X at *
          have HBy := Lib.hid (show ∀ w, Calls Try.prog 11 #[.int .u64 (IntKind.u64.wrap (w32 X)), .int .i64 4] w fun e w' => e = .returned (.string (S (Frm.be 4 X.toNat))) ∧ Below w.heap.size w w' from fun w => by
            rw [show IntKind.u64.wrap (w32 X) = X.toNat from by rw [IntKind.wrap_u64]; unfold w32; omega]
            exact ref_bytes4 X.toNat w (by omega))
          have HF := Lib.hid (tells_fixed s X.toNat h16)
          have hs4 : (S (Frm.be 4 X.toNat)).size ≤ 4 := by rw [S_size, Frm.be_length]; decide
          generalize S (Frm.be 4 X.toNat) = N4 at *
          go_wp2_with fail
          have h12 : (12 : Int) ≤ s.size := by omega
          have h0 : (16 : Int) ≤ 16 + (N : Int) := by omega
          have h1 : (16 : Int) + (N : Int) ≤ s.size := by omega
          have hT : ((16 : Int) + (N : Int)).toNat = 16 + N := by omega
          have hT2 : IntKind.i64.wrap ((16 : Int) + (N : Int)) = 16 + (N : Int) := by rw [IntKind.wrap_i64]; omega
          have hT3 : IntKind.i64.wrap (N : Int) = (N : Int) := by rw [IntKind.wrap_i64]; omega
          have hcs : ¬ 9223372036854775807 < min 12 s.size + (min (16 + N) s.size - 16) := by omega
          have C0 := Lib.hid (fun d os => Calls.regrown_of (w := w1) (d := d) (os := os) (HX.out _))
          refine wp_region_quiet_below (by kernel_rfl) (by kernel_rfl) ?_
          repeat (quiet_step (first | (with_reducible exact C0.out _ _)))
          refine wpQuiet_nil ?_
          intro _ hw'
          obtain ⟨⟨dq, osq⟩, hw''⟩ := hw'
          subst hw''
          have hbq := below_regrown w1 dq osq
          generalize Go.Sort.grow (redrawn w1 dq) osq = wq at *
          replace hO := hO.trans hbq
          go_wp2
          clear hT hT2 hT3 hcs C0 h0 h1
          have hcs2 : ¬ 9223372036854775807 < min 12 s.size + N4.size := by omega
          have hcs3 : ¬ 9223372036854775807 < min 12 s.size + N4.size + (s.size - 16) := by omega
          have C1 := Lib.hid (fun d os => Calls.regrown_of (w := wq) (d := d) (os := os) (HBy.out _))
          have HGq := Lib.hid ((hbq.block _ (blk_lt HG.out)).trans HG.out)
          refine wp_region_quiet_below (by kernel_rfl) (by kernel_rfl) ?_
          repeat (quiet_step (first | (with_reducible exact C1.out _ _)))
          refine wpQuiet_nil ?_
          intro _ hw'
          obtain ⟨⟨dq, osq⟩, hw''⟩ := hw'
          subst hw''
          have hbq := below_regrown wq dq osq
          generalize Go.Sort.grow (redrawn wq dq) osq = wq at *
          replace hO := hO.trans hbq
          go_wp2
          go_meet
          exact ⟨_, rfl, by rw [HF.out]; exact HH.out.2.2.2, hO, (hbq.block _ (blk_lt HGq.out)).trans HGq.out⟩
        · have hleI : ¬ (N : Int) ≤ (s.size : Int) - 16 := by omega
          go_wp2
          go_meet
          exact ⟨s, rfl, HH.out.2.2.2, hO, HG.out⟩
      · have h16I : ¬ (16 : Int) ≤ s.size := by omega
        go_wp2
        go_meet
        exact ⟨s, rfl, HH.out.2.2.2, hO, HG.out⟩
    case rest =>
      obtain ⟨s2, rfl, h2, hO2, hg2⟩ := hcut
      have HG2 := Lib.hid hg2
      have H2 := Lib.hid h2
      obtain ⟨c0, c1, _, _⟩ := rec_cells hg2
      have HE1 := Lib.hid (fun w => frame_enc n1 t1 w HH.out.1 (by have := HH.out.2.2.1; omega))
      have HE2 := Lib.hid (fun w => ref_enc n1 t1 w HH.out.1 (by have := HH.out.2.2.1; omega))
      generalize S (Frm.enc n1 (L t1)) = E at *
      have HD1 := Lib.hid (fun w => dec_s (s := s2) w (by omega) rfl _ _ _ _ rfl rfl rfl rfl)
      have HD2 := Lib.hid (fun w => ref_dec_s (s := s2) w (by omega) rfl _ _ _ _ rfl rfl rfl rfl)
      generalize ((Frm.dec (L s2)).r.num : Int) = K at *
      generalize ((Frm.dec (L s2)).used : Int) = u at *
      generalize ((Frm.dec (L s2)).err : Int) = er at *
      generalize S (Frm.dec (L s2)).r.text = T at *
      have HS1 := Lib.hid (fun w => (frame_scan s2 first w (by omega) HH.out.2.1).mono fun x w' h => scan_to rfl rfl rfl h)
      have HS2 := Lib.hid (fun w => (ref_scan s2 first w (by omega) HH.out.2.1).mono fun x w' h => scan_to rfl rfl rfl h)
      have hsl := scan_le (L s2) first
      rw [L_size] at hsl
      generalize ((Frm.scan (L s2) first).2.1 : Int) = us at *
      generalize ((Frm.scan (L s2) first).2.2 : Int) = es at *
      generalize (Frm.scan (L s2) first).1 = l at *
      have HSL := Lib.hid (show l.length ≤ 1073741824 by omega)
      have hO := hO2
      clear hg2 h2 hsl hO2
      go_wp2_with fail
      refine (HE1.out _).mono ?_
      rintro e w2 ⟨rfl, hb1⟩
      replace hO := hO.trans hb1
      have hg2 := (hb1.block _ (blk_lt HG2.out)).trans HG2.out
      clear c0 c1
      obtain ⟨c0, c1, _, _⟩ := rec_cells hg2
      replace HG2 := Lib.hid hg2
      clear hb1 hg2
      go_wp2_with fail
      refine (HE2.out _).mono ?_
      rintro e w3 ⟨rfl, hb1⟩
      replace hO := hO.trans hb1
      have hg2 := (hb1.block _ (blk_lt HG2.out)).trans HG2.out
      replace HG2 := Lib.hid hg2
      clear hb1 hg2 c0 c1
      go_wp2_with fail
      refine (HD1.out _).mono ?_
      rintro e w4 ⟨rfl, hb1⟩
      have hg2 := (hb1.block _ (blk_lt HG2.out)).trans HG2.out
      have hgx := heap_alloc_new w4 (.cells #[.int .u64 K, .string T] 24)
      replace hO := (hO.trans hb1).alloc (.cells #[.int .u64 K, .string T] 24)
      have hg2' := (Below.heap_alloc w4 (.cells #[.int .u64 K, .string T] 24) _ (blk_lt hg2)).trans hg2
      replace HG2 := Lib.hid hg2'
      have HGX := Lib.hid hgx
      clear hb1 hg2 hgx hg2'
      go_wp2_with fail
      refine (HD2.out _).mono ?_
      rintro e w5 ⟨rfl, hb1⟩
      have hg2 := (hb1.block _ (blk_lt HG2.out)).trans HG2.out
      have hgx := (hb1.block _ (blk_lt HGX.out)).trans HGX.out
      have hgy := heap_alloc_new w5 (.cells #[.int .u64 K, .string T] 24)
      replace hO := (hO.trans hb1).alloc (.cells #[.int .u64 K, .string T] 24)
      have hg2' := (Below.heap_alloc w5 (.cells #[.int .u64 K, .string T] 24) _ (blk_lt hg2)).trans hg2
      have hgx' := (Below.heap_alloc w5 (.cells #[.int .u64 K, .string T] 24) _ (blk_lt hgx)).trans hgx
      replace HG2 := Lib.hid hg2'
      replace HGX := Lib.hid hgx'
      have HGY := Lib.hid hgy
      clear hb1 hg2 hgx hgy hg2' hgx'
      go_wp2_with fail
      refine (HS1.out _).mono ?_
      rintro e w6 ⟨a1, cap1, rfl, hs1, hb1⟩
      replace hO := hO.trans hb1
      replace HG2 := Lib.hid ((hb1.block _ (blk_lt HG2.out)).trans HG2.out)
      replace HGX := Lib.hid ((hb1.block _ (blk_lt HGX.out)).trans HGX.out)
      replace HGY := Lib.hid ((hb1.block _ (blk_lt HGY.out)).trans HGY.out)
      have HSS1 := Lib.hid hs1
      clear hb1 hs1
      go_wp2_with fail
      refine (HS2.out _).mono ?_
      rintro e w7 ⟨a2, cap2, rfl, hs2, hb1⟩
      replace hO := hO.trans hb1
      replace HG2 := Lib.hid ((hb1.block _ (blk_lt HG2.out)).trans HG2.out)
      replace HGX := Lib.hid ((hb1.block _ (blk_lt HGX.out)).trans HGX.out)
      replace HGY := Lib.hid ((hb1.block _ (blk_lt HGY.out)).trans HGY.out)
      replace HSS1 := Lib.hid (HSS1.out.keep (w' := w7) fun k hk => hb1.block k (HSS1.out.lt k hk))
      have HSS2 := Lib.hid hs2
      clear hb1 hs2
      go_wp2_with fail
      have q0 : ∀ d os, (Go.Sort.grow (redrawn w7 d) os).cell? ⟨w.heap.size, 1, none⟩ = some (.string t1) := fun d os => by rw [(below_regrown w7 d os).cell (blk_lt HG2.out), cell_of_row _ _ _ _ _ _ HG2.out]; rfl
      have q1 : ∀ d os, (Go.Sort.grow (redrawn w7 d) os).cell? ⟨w4.heap.size, 0, none⟩ = some (.int .u64 K) := fun d os => by rw [(below_regrown w7 d os).cell (blk_lt HGX.out), cell_of_row _ _ _ _ _ _ HGX.out]; rfl
      have q2 : ∀ d os, (Go.Sort.grow (redrawn w7 d) os).cell? ⟨w4.heap.size, 1, none⟩ = some (.string T) := fun d os => by rw [(below_regrown w7 d os).cell (blk_lt HGX.out), cell_of_row _ _ _ _ _ _ HGX.out]; rfl
      have q3 : ∀ d os, (Go.Sort.grow (redrawn w7 d) os).cell? ⟨w5.heap.size, 0, none⟩ = some (.int .u64 K) := fun d os => by rw [(below_regrown w7 d os).cell (blk_lt HGY.out), cell_of_row _ _ _ _ _ _ HGY.out]; rfl
      have q4 : ∀ d os, (Go.Sort.grow (redrawn w7 d) os).cell? ⟨w5.heap.size, 1, none⟩ = some (.string T) := fun d os => by rw [(below_regrown w7 d os).cell (blk_lt HGY.out), cell_of_row _ _ _ _ _ _ HGY.out]; rfl
      have hfs := frame_size t1
      have hwr : IntKind.i64.wrap ((t1.size : Int) + 16) = (t1.size : Int) + 16 := by rw [IntKind.wrap_i64]; omega
      have hue : (((16 + t1.size : Nat) : Int) == (t1.size : Int) + 16) = true := by rw [beq_iff_eq]; omega
      generalize ((16 + t1.size : Nat) : Int) = U at *
      have D0 := Lib.hid (fun d os => Calls.regrown_of (w := w7) (d := d) (os := os) (same_below (hfs _ (by have := HH.out.2.2.1; omega))))
      have D1 := Lib.hid (fun d os => Calls.regrown_of (w := w7) (d := d) (os := os) (rec_same _ a1 a2 cap1 cap2 l HSL.out (HSS1.out.keep fun k hk => (below_regrown w7 d os).block k (HSS1.out.lt k hk)) (HSS2.out.keep fun k hk => (below_regrown w7 d os).block k (HSS2.out.lt k hk))))
      have D2 := Lib.hid (fun d os => Calls.regrown_of (w := w7) (d := d) (os := os) (alive10 _))
      clear hfs
      refine wp_region_quiet_below (by kernel_rfl) (by kernel_rfl) ?_
      repeat (quiet_step (first | (with_reducible exact D0.out _ _) | (with_reducible exact D1.out _ _) | (with_reducible exact D2.out _ _)))
      refine wpQuiet_nil ?_
      intro _ hw'
      obtain ⟨⟨dq, osq⟩, hw''⟩ := hw'
      subst hw''
      have hbq := below_regrown w7 dq osq
      generalize Go.Sort.grow (redrawn w7 dq) osq = wq at *
      replace hO := hO.trans hbq
      go_wp2
      go_ret
      exact ⟨rfl, hO.below⟩


end Go.Proofs.Yteipjgmbgkjjiaa
