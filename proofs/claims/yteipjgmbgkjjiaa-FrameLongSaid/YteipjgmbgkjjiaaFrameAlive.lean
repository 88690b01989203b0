/-
  THE WALK of the statements' small known answers for layer 10.
-/
import Derived.Test.YteipjgmbgkjjiaaFrameRefScan
set_option linter.unusedVariables false
set_option linter.unusedSimpArgs false
namespace Go.Proofs.Yteipjgmbgkjjiaa
open Go.RowKit

theorem dec_s {s : ByteArray} {d : Frm.Dec} (w : World) (hs : s.size ≤ 140737488351232) (hd : Frm.dec (L s) = d) (n u e : Int) (t : ByteArray) (h1 : n = d.r.num) (h2 : t = S d.r.text) (h3 : u = d.used) (h4 : e = d.err) :
    Calls Try.prog 14 #[.string s] w fun x w' => x = .returned (.tuple #[.agg #[.int .u64 n, .string t], .int .i64 u, .int .i64 e]) ∧ Below w.heap.size w w' := by
  subst h1 h2 h3 h4 hd
  exact frame_dec s w hs
theorem alive_scan (E : ByteArray) (hE : L E = Frm.enc 1 [97]) (w : World) :
    Calls Try.prog 16 #[.string (E ++ E), .int .u64 1] w fun x w' => (∃ a cap, x = .returned (.tuple #[.slice a 1 cap, .int .i64 17, .int .i64 7])) ∧ Below w.heap.size w w' := by
  have hl : E.size = 17 := by rw [← L_size, hE, Frm.enc_length]; rfl
  have hs : Frm.scan (L (E ++ E)) 1 = ([⟨1, [97]⟩], 17, 7) := by
    have hd := Frm.dec_enc 1 [97] (Frm.enc 1 [97]) (by decide) (by decide)
    have hd2 := Frm.dec_enc 1 [97] [] (by decide) (by decide)
    rw [List.append_nil] at hd2
    have hne : Frm.enc 1 [97] ++ Frm.enc 1 [97] ≠ [] := by intro h; have := congrArg List.length h; rw [List.length_append, Frm.enc_length] at this; simp at this
    have hne2 : Frm.enc 1 [97] ≠ [] := by intro h; have := congrArg List.length h; rw [Frm.enc_length] at this; simp at this
    rw [L_append, hE, Frm.scan_cons _ _ hne (by rw [hd]) (by rw [hd]), hd]
    simp only
    rw [Frm.drop_app _ _ _ (Frm.enc_length 1 [97]), Frm.scan_form _ _ hne2 (by rw [hd2]) (by rw [hd2]; decide)]
    rfl
  refine (frame_scan (E ++ E) 1 w (by rw [ByteArray.size_append, hl]; decide) (by decide)).mono fun x w' h => ?_
  obtain ⟨a, cap, h1, _, h3, _⟩ := h
  rw [hs] at h1
  exact ⟨⟨a, cap, h1⟩, h3⟩

set_option maxHeartbeats 2000000 in
theorem alive10 (w : World) :
    Calls Try.prog 8 #[] w fun e w' => e = .returned (.bool true) ∧ Below w.heap.size w w' := by
  have hO := Own.refl w
  have HEnc := Lib.hid (fun w => frame_enc 1 (S [97]) w (by decide) (by decide))
  have hE : L (S (Frm.enc 1 (L (S [97])))) = Frm.enc 1 [97] := rfl
  have hsz : (S (Frm.enc 1 (L (S [97])))).size = 17 := by rw [S_size, Frm.enc_length]; rfl
  generalize S (Frm.enc 1 (L (S [97]))) = E at *
  have HSZ := Lib.hid hsz
  have HE := Lib.hid hE
  have hszI : (E.size : Int) = 17 := by omega
  have H17 := Lib.hid hszI
  clear hE hsz hszI
  have hn17 : ((E.size : Int) != 17) = false := by rw [H17.out]; rfl
  have hs17 : (17 : Int) ≤ E.size ∧ (E.size : Int) ≤ 17 := by rw [H17.out]; omega
  have hcs : ¬ 9223372036854775807 < E.size + 1 := by rw [HSZ.out]; decide
  have hcs2 : ¬ 9223372036854775807 < E.size + E.size := by rw [HSZ.out]; decide
  have HD1 := Lib.hid (fun w => dec_s (s := E ++ ⟨#[120]⟩) w (by rw [ByteArray.size_append, HSZ.out]; decide) (d := ⟨⟨1, [97]⟩, 17, 0⟩) (by rw [L_append, HE.out]; exact Frm.dec_enc 1 [97] [120] (by decide) (by decide)) 1 17 0 ⟨#[97]⟩ rfl rfl rfl rfl)
  have HD2 := Lib.hid (fun w => dec_s (s := E.extract 0 16) w (by rw [ByteArray.size_extract, HSZ.out]; decide) (d := ⟨Frm.rec0, 0, 100⟩) (by rw [L_extract, HE.out]; exact Frm.dec_cut 1 [97] 16 (by decide) (by decide)) 0 0 100 ⟨#[]⟩ rfl rfl rfl rfl)
  have HSC := Lib.hid (fun w => alive_scan E HE.out w)
  have h12 : E.extract 0 12 = ⟨#[0, 0, 0, 1, 0, 0, 0, 0, 0, 0, 0, 1]⟩ := by
    rw [← S_L (E.extract 0 12), L_extract, HE.out]
    have : (Frm.enc 1 [97]).take 12 = [0, 0, 0, 1, 0, 0, 0, 0, 0, 0, 0, 1] := by
      rw [show Frm.enc 1 [97] = Frm.hd 1 [97] ++ (Frm.be 4 (Frm.crc (Frm.hd 1 [97] ++ [97])) ++ [97]) from by simp [Frm.enc], Frm.take_app _ _ _ (Frm.hd_length _ _)]; decide
    rw [this]; rfl
  have H12 := Lib.hid h12
  clear h12
  go_enter Try.func8, Try.ntmps8
  go_wp2_with fail
  refine (HEnc.out _).mono ?_
  rintro e w1 ⟨rfl, hb1⟩
  replace hO := hO.trans hb1
  clear hb1
  go_wp2_with fail
  refine (HD1.out _).mono ?_
  rintro e w2 ⟨rfl, hb1⟩
  replace hO := (hO.trans hb1).alloc (.cells #[.int .u64 1, .string ⟨#[97]⟩] 24)
  have hg := heap_alloc_new w2 (.cells #[.int .u64 1, .string ⟨#[97]⟩] 24)
  have HG := Lib.hid hg
  clear hg hb1
  go_wp2_with fail
  refine (HSC.out _).mono ?_
  rintro e w3 ⟨⟨a, cap, rfl⟩, hb1⟩
  replace hO := hO.trans hb1
  have hg := (hb1.block _ (blk_lt HG.out)).trans HG.out
  replace HG := Lib.hid hg
  clear hg hb1
  go_wp2_with fail
  refine (HD2.out _).mono ?_
  rintro e w4 ⟨rfl, hb1⟩
  replace hO := (hO.trans hb1).alloc (.cells #[.int .u64 0, .string ⟨#[]⟩] 24)
  have hg := (hb1.block _ (blk_lt HG.out)).trans HG.out
  have hg2 := (Below.heap_alloc w4 (.cells #[.int .u64 0, .string ⟨#[]⟩] 24) _ (blk_lt hg)).trans hg
  obtain ⟨hc0, hc1, hf0, hf1⟩ := rec_cells hg2
  clear hg hg2 hb1
  have he12 := H12.out
  have hsize : ∀ w : World, Calls Try.prog 18 #[.string ⟨#[97]⟩] w fun e w' => e = .returned (.int .i64 17) ∧ w = w' := fun w => frame_size ⟨#[97]⟩ w (by decide)
  have HSI := Lib.hid hsize
  clear hsize
  go_wp2_with fail
  refine (HSI.out _).mono ?_
  rintro e w5 ⟨rfl, rfl⟩
  go_wp2_with fail
  go_ret
  exact ⟨rfl, hO.below⟩

end Go.Proofs.Yteipjgmbgkjjiaa
