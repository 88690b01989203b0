/-
  THE WALKS of the document's answer for layer 10: Scan, Same.
-/
import Derived.Test.YteipjgmbgkjjiaaFrameRefDec
import Derived.Test.YteipjgmbgkjjiaaFrameScan
import Derived.Test.YteipjgmbgkjjiaaQuietLoad
set_option linter.unusedVariables false
set_option linter.unusedSimpArgs false
namespace Go.Proofs.Yteipjgmbgkjjiaa
open Go.RowKit

attribute [local go_sem ↓ high] appSem_eq

def rcells (r : Frm.Rec) : List Value := [.int .u64 r.num, .string (S r.text)]
theorem rrow_length (rs : List Frm.Rec) : (rrow rs).length = rs.length * 2 := by
  induction rs with
  | nil => rfl
  | cons y ys ih => simp only [rrow, List.flatMap_cons, List.length_append, List.length_cons] at ih ⊢; rw [ih]; simp; omega
theorem rrow_at : ∀ (rs : List Frm.Rec) (k : Nat) (h : k < rs.length), ((rrow rs).drop (k * 2)).take 2 = rcells rs[k]
  | r :: rs, 0, _ => by simp [rrow, rcells]
  | r :: rs, k + 1, h => by
    have ih := rrow_at rs k (by simpa using h)
    have e : rrow (r :: rs) = rcells r ++ rrow rs := by simp [rrow, rcells]
    rw [e, show (k + 1) * 2 = 2 + k * 2 from by omega, ← List.drop_drop]
    simpa [rcells] using ih
theorem rec_elem {w : World} {g off cap : Nat} {l : List Frm.Rec} (h : SliceIs w 24 2 (some ⟨g, off, none⟩) l.length cap (rrow l)) (k : Nat) (hk : k < l.length) : CellsAt w g (off + k * 2) (rcells l[k]) := by
  have hc := h.cells.sub (k * 2) 2 (by rw [rrow_length]; omega)
  rwa [rrow_at l k hk] at hc

set_option maxRecDepth 20000 in
set_option maxHeartbeats 1000000 in
theorem rec_same (w : World) (a a' : Option Addr) (cap cap' : Nat) (l : List Frm.Rec) (hf : l.length ≤ 1073741824) (h : SliceIs w 24 2 a l.length cap (rrow l)) (h' : SliceIs w 24 2 a' l.length cap' (rrow l)) :
    Calls Try.prog 19 #[.slice a l.length cap, .slice a' l.length cap'] w fun e w' => e = .returned (.bool true) ∧ Below w.heap.size w w' := by
  have hfI : (l.length : Int) ≤ 1073741824 := by omega
  have H := Lib.hid h
  have H' := Lib.hid h'
  clear h h'
  go_enter Try.func19, Try.ntmps19
  go_wp2_with fail
  go_loopw [5] (fun vi wr => ∃ (i m : Nat), i ≤ l.length ∧ vi = .int .i64 i ∧ wr = w.drewN m) (fun vi _ => l.length - (intOf vi).toNat)
  case atStart => exact ⟨0, 0, Nat.zero_le _, rfl, rfl⟩
  case round =>
    obtain ⟨i, m0, hi, rfl, rfl⟩ := hrel
    by_cases hlt : i < l.length
    · obtain ⟨g, off, rfl⟩ := H.out.there (by omega)
      obtain ⟨g', off', rfl⟩ := H'.out.there (by omega)
      have hI : (0 : Int) ≤ i ∧ (i : Int) < l.length := by omega
      have hC := rec_elem H.out i hlt
      have hC' := rec_elem H'.out i hlt
      generalize l[i] = gr at hC hC'
      have HC : Hid (CellsAt w g (off + i * 2) [.int .u64 gr.num, .string (S gr.text)]) := Lib.hid hC
      have HC' : Hid (CellsAt w g' (off' + i * 2) [.int .u64 gr.num, .string (S gr.text)]) := Lib.hid hC'
      clear hC hC'
      go_wp2_with fail
      refine wp_region_quiet_lit (by kernel_rfl) (by kernel_rfl) ?_
      repeat (first
        | (refine wpQuiet_load_at rfl 24 (.tmp 19) rfl g (off + i * 2) rfl [.int .u64 gr.num, .string (S gr.text)] _ (by rintro _ ⟨m, rfl⟩; exact HC.out) Try.underlying24 rfl (by kernel_rfl) ?_)
        | (refine wpQuiet_load_at rfl 24 (.tmp 23) rfl g' (off' + i * 2) rfl [.int .u64 gr.num, .string (S gr.text)] _ (by rintro _ ⟨m, rfl⟩; exact HC'.out) Try.underlying24 rfl (by kernel_rfl) ?_)
        | (quiet_step (fail)))
      refine wpQuiet_nil ?_
      intro _ hw'
      obtain ⟨nq, hw''⟩ := hw'
      subst hw''
      rw [World.drewN_drewN]
      go_wp2
      go_roundw
      case rel => exact ⟨i + 1, _, by omega, by go_num, rfl⟩
      case measure => simp [intOf]; omega
    · obtain rfl : i = l.length := by omega
      go_wp2
      go_ret
      exact ⟨rfl, (Own.refl w).drewN _ |>.below⟩

/-- What the loop over bytes keeps. -/
structure RScan (w : World) (s : ByteArray) (first : Nat) (acc : List Frm.Rec) (p nx : Nat) (a : Option Addr) (cap : Nat) (wr : World) : Prop where
  sc : Frm.Scanning (L s) first acc p nx
  nx : nx < 18446744073709551616
  len : acc.length ≤ p
  row : SliceIs wr 24 2 a acc.length cap (rrow acc)
  fresh : ∀ k ∈ blks a, w.heap.size ≤ k
  own : Own w.heap.size w wr

theorem ref_dec_at (s : ByteArray) (p : Nat) (hs : s.size ≤ 140737488351232) (hp : p < s.size) (d : Frm.Dec) (hd : Frm.dec ((L s).drop p) = d) (w : World) :
    Calls Try.prog 15 #[.string (s.extract p s.size)] w fun e w' => e = .returned (.tuple #[.agg #[.int .u64 d.r.num, .string (S d.r.text)], .int .i64 d.used, .int .i64 d.err]) ∧ Below w.heap.size w w' := by
  refine (ref_dec (s.extract p s.size) w (by rw [ByteArray.size_extract]; omega)).mono fun e w' h => ?_
  unfold DecOut at h
  have e1 : L (s.extract p s.size) = (L s).drop p := by rw [L_cut, List.take_of_length_le (by simp [L_size])]
  rw [e1, hd] at h
  exact h

set_option maxRecDepth 20000 in
set_option maxHeartbeats 2000000 in
theorem ref_scan (s : ByteArray) (first : Nat) (w : World) (hs : s.size ≤ 1073741824) (hf : first < 18446744073709551616) :
    Calls Try.prog 17 #[.string s, .int .u64 first] w (ScanOut s first w) := by
  obtain ⟨i0, hi, hz0, hz1, hz2⟩ := info_parts recInfo
  have hsI : (s.size : Int) ≤ 1073741824 := by omega
  have H0 : Hid (RScan w s first [] 0 first none 0 w) := Lib.hid ⟨Frm.Scanning.start _ _ hf, hf, Nat.le_refl _, SliceIs.nil _ _ _, by simp, Own.refl w⟩
  have HS := Lib.hid hs
  clear hs hf
  go_enter Try.func17, Try.ntmps17
  go_wp2_with fail
  go_loopw [7, 8, 9] (fun vl vp vn wr => ∃ (acc : List Frm.Rec) (p nx : Nat) (a : Option Addr) (cap : Nat), vl = .slice a acc.length cap ∧ vp = .int .i64 p ∧ vn = .int .u64 nx ∧ RScan w s first acc p nx a cap wr) (fun _ vp _ _ => s.size - (intOf vp).toNat)
  case atStart => exact ⟨[], 0, first, none, 0, rfl, rfl, rfl, H0.out⟩
  case round =>
    clear H0
    obtain ⟨acc, p, nx, a, cap, rfl, rfl, rfl, hR⟩ := hrel
    have HR := Lib.hid hR
    have hple := hR.sc.hpos
    rw [L_size] at hple
    clear hR
    by_cases hlt : p < s.size
    · have hpI : (0 : Int) ≤ p ∧ (p : Int) < s.size := by omega
      have hdb := dec_bounds ((L s).drop p)
      rw [List.length_drop, L_size] at hdb
      have HRD := Lib.hid (fun w => ref_dec_at s p (by have := HS.out; omega) hlt (Frm.dec ((L s).drop p)) rfl w)
      have HE := Lib.hid (HR.out.sc.step (by rw [L_size]; exact hlt))
      have HFa := Lib.hid (HR.out.sc.fault (by rw [L_size]; exact hlt))
      have HFo := Lib.hid (HR.out.sc.form (by rw [L_size]; exact hlt))
      have HOK := Lib.hid (Frm.dec_ok ((L s).drop p))
      generalize Frm.dec ((L s).drop p) = d at *
      have hdI : (0 : Int) ≤ d.used ∧ (d.used : Int) ≤ (s.size : Int) - p := by omega
      have hnI : (d.r.num : Int) ≤ 18446744073709551615 := by omega
      have hxI : (nx : Int) ≤ 18446744073709551615 := by have := HR.out.nx; omega
      clear hdb
      go_wp2_with fail
      refine (HRD.out _).mono ?_
      rintro e w1 ⟨rfl, hb1⟩
      have hO := HR.out.own.trans hb1
      have hrow := HR.out.row.keep (w' := w1) fun k hk => hb1.block k (HR.out.row.lt k hk)
      have HB := Lib.hid hb1
      have HO := Lib.hid hO
      have HROW := Lib.hid hrow
      clear hb1 hO hrow HRD
      by_cases he : d.err = 0
      · have he1 : ((d.err : Int) != 0) = false := by rw [he]; rfl
        have HEE := Lib.hid he
        clear he
        by_cases hn : d.r.num = nx
        · have hn1 : ((d.r.num : Int) != (nx : Int)) = false := by rw [hn]; simp
          have HN := Lib.hid hn
          clear hn
          have hlen := HR.out.len
          obtain ⟨a', cap', w2, hr, hS, hU, hbk⟩ := run_append_slice (P := Try.prog) ((w1.alloc (.cells #[.int .u64 d.r.num, .string (S d.r.text)] 24)).alloc (.cells #[.int .u64 d.r.num, .string (S d.r.text)] 24)) 39 39 24 i0 (.agg #[.int .u64 0, .string ⟨#[]⟩]) 2 24 Try.underlying39 hi hz0 hz1 hz2 rfl (by decide) a acc.length cap (rrow acc) ((HROW.out.alloc _).alloc _) ⟨w1.heap.size + 1, 0, none⟩ 1 1 (rcells d.r) rfl (by
            have := news_of (CellsAt.new (w1.alloc (.cells #[.int .u64 d.r.num, .string (S d.r.text)] 24)) (rcells d.r) 24 (0, 0)); rwa [World.size_alloc] at this) (by intro u hu; simp [rcells] at hu; rcases hu with rfl | rfl <;> rfl) (by unfold maxLen; omega) (by omega)
          change (appSem _ _ _).run _ _ = _ at hr
          have HSL := Lib.hid hS
          have HU := Lib.hid hU
          have HBK := Lib.hid hbk
          clear hS hU hbk hlen
          have HNX : Hid (IntKind.u64.wrap ((nx : Int) + 1) = (((nx + 1) % Frm.M64 : Nat) : Int)) := Lib.hid (by rw [IntKind.wrap_u64]; unfold Frm.M64; omega)
          go_wp2
          go_roundw
          case rel =>
            refine ⟨acc ++ [d.r], p + d.used, (nx + 1) % Frm.M64, a', cap', by simp, by go_num, by rw [HNX.out], ?_⟩
            have hk := HOK.out HEE.out
            refine ⟨HE.out HEE.out HN.out, Nat.mod_lt _ (by decide), by have := HR.out.len; have := hk.2.1; simp; omega, ?_, ?_, ?_⟩
            · have e1 : rrow (acc ++ [d.r]) = rrow acc ++ rcells d.r := by simp [rrow, rcells]
              rw [e1, List.length_append]; exact HSL.out
            · intro k hk
              rcases HBK.out k hk with h | h
              · exact HR.out.fresh k h
              · have := HO.out.size; simp at h; omega
            · exact ((HO.out.alloc _).alloc _).upd HU.out HR.out.fresh
          case measure => have := (HOK.out HEE.out).2.1; simp [intOf]; omega
        · have hn1 : ((d.r.num : Int) != (nx : Int)) = true := by rw [bne_iff_ne]; omega
          have HN := Lib.hid hn
          clear hn
          go_wp2
          go_ret3
          have hsc := HFo.out HEE.out HN.out
          refine ⟨a, cap, by rw [hsc]; rfl, ?_, (HO.out.alloc _).below, HR.out.fresh⟩
          rw [hsc]; exact HROW.out.alloc _
      · have he1 : ((d.err : Int) != 0) = true := by rw [bne_iff_ne]; omega
        have HEE := Lib.hid he
        clear he
        go_wp2
        go_ret3
        have hsc := HFa.out HEE.out
        refine ⟨a, cap, by rw [hsc]; rfl, ?_, (HO.out.alloc _).below, HR.out.fresh⟩
        rw [hsc]; exact HROW.out.alloc _
    · go_wp2
      go_ret3
      have hsc := HR.out.sc.done (by rw [L_size]; exact hlt)
      refine ⟨a, cap, by rw [hsc]; rfl, ?_, HR.out.own.below, HR.out.fresh⟩
      rw [hsc]; exact HR.out.row

end Go.Proofs.Yteipjgmbgkjjiaa
