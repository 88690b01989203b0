/-
  THE WALK of layer 9: Crash.
-/
import Derived.Test.YtickdhlhafifhaaDiskOps2
namespace Go.Proofs.Ytickdhlhafifhaa
open Go.RowKit

attribute [local go_sem ↓ high] appSem_eq

namespace Dk
theorem crashed_zero (f : List ByteArray) (x y : Int) : crashed f [] x y = f := by unfold crashed; simp [runs]
theorem crashed_all (f : List ByteArray) (l : List Call) (x y : Int) (k : Nat) (hk : k ≤ l.length) (h : (k : Int) ≤ x) : crashed f (l.take k) x y = runs f (l.take k) := by
  unfold crashed
  rw [dif_neg (by simp; omega), List.take_take, Nat.min_eq_right (by omega)]
theorem crashed_run (f : List ByteArray) (l : List Call) (x y : Int) (k : Nat) (hk : k < l.length) (h : (k : Int) < x) : crashed f (l.take (k + 1)) x y = run (crashed f (l.take k) x y) l[k] ∧ crashed f (l.take k) x y = runs f (l.take k) := by
  rw [crashed_all f l x y (k + 1) (by omega) (by omega), crashed_all f l x y k (by omega) (by omega), runs_take_succ f l k hk]; exact ⟨rfl, rfl⟩
theorem crashed_part (f : List ByteArray) (l : List Call) (x y : Int) (k : Nat) (hk : k < l.length) (h : (k : Int) = x) : crashed f (l.take (k + 1)) x y = part (crashed f (l.take k) x y) l[k] y ∧ crashed f (l.take k) x y = runs f (l.take k) := by
  subst h
  rw [crashed_all f l _ y k (by omega) (Int.le_refl _)]
  refine ⟨?_, rfl⟩
  unfold crashed
  rw [dif_pos (by simp; omega)]
  simp only [Int.toNat_natCast, List.take_take, List.getElem_take]
  rw [Nat.min_eq_left (by omega)]
theorem crashed_skip (f : List ByteArray) (l : List Call) (x y : Int) (k : Nat) (hk : k < l.length) (h : x < (k : Int)) : crashed f (l.take (k + 1)) x y = crashed f (l.take k) x y := by
  unfold crashed
  by_cases h0 : 0 ≤ x
  · have e1 : min x.toNat (k + 1) = x.toNat := by omega
    have e2 : min x.toNat k = x.toNat := by omega
    rw [dif_pos (by rw [List.length_take]; omega), dif_pos (by rw [List.length_take]; omega)]
    simp only [List.take_take, List.getElem_take, e1, e2]
  · rw [dif_neg (by omega), dif_neg (by omega)]
    rw [show x.toNat = 0 by omega]; simp
end Dk

theorem piece_min (s : ByteArray) (b : Int) (hs : s.size ≤ 1073741824) : Dk.piece s (min b 4611686018427387903) = Dk.piece s b := by
  unfold Dk.piece
  congr 1
  omega

section
variable {w : World} {p n room : Nat} {cf sr : List ByteArray} {a : Option Addr} {len cap : Nat} {fuse : Int} {b0 b1 : Nat} {c : Dk.Call}
theorem whole_w (hB : DBox w p n room cf sr a len cap fuse) (hf : c.file < n) (h0 : w.heap[b0]? = some (.cells #[.int .i64 c.file] 3 (0, 0))) (h1 : w.heap[b1]? = some (.cells #[.string c.s] 9 (0, 0))) (hc : c.cut = false) (hs : (Dk.txt cf c.file).size + c.s.size ≤ 1073741824) :
    Calls Try.prog 36 #[.pointer (some ⟨p, 2, none⟩), .int .i64 4611686018427387904, .pointer (some ⟨b0, 0, none⟩), .pointer (some ⟨b1, 0, none⟩)] w fun e w' => e = .returned (.tuple #[]) ∧ DBox w' p n room (Dk.run cf c) sr a len cap fuse ∧ Upd w w' [p] := by
  refine (wr_clo hB hf h0 h1 _ hs).mono ?_
  rintro e w' ⟨rfl, rfl⟩
  rw [piece_all c.s (by omega), Dk.run_wr hc]
  exact ⟨rfl, (hB.setNow c.file hf _).keep rfl, ((Upd.refl _ _).setCell (by simp) _).drew⟩
theorem whole_c (hB : DBox w p n room cf sr a len cap fuse) (hf : c.file < n) (h0 : w.heap[b0]? = some (.cells #[.int .i64 c.file] 3 (0, 0))) (h1 : w.heap[b1]? = some (.cells #[.int .i64 c.n] 3 (0, 0))) (hc : c.cut = true) (hs : c.n ≤ (Dk.txt cf c.file).size) :
    Calls Try.prog 46 #[.pointer (some ⟨p, 2, none⟩), .int .i64 4611686018427387904, .pointer (some ⟨b0, 0, none⟩), .pointer (some ⟨b1, 0, none⟩)] w fun e w' => e = .returned (.tuple #[]) ∧ DBox w' p n room (Dk.run cf c) sr a len cap fuse ∧ Upd w w' [p] := by
  refine (ct_clo hB hf h0 h1 hs).mono ?_
  rintro e w' ⟨rfl, rfl⟩
  rw [Dk.run_ct hc]
  exact ⟨rfl, (hB.setNow c.file hf _).keep rfl, ((Upd.refl _ _).setCell (by simp) _).drew⟩
theorem part_w (hB : DBox w p n room cf sr a len cap fuse) (hf : c.file < n) (h0 : w.heap[b0]? = some (.cells #[.int .i64 c.file] 3 (0, 0))) (h1 : w.heap[b1]? = some (.cells #[.string c.s] 9 (0, 0))) (hc : c.cut = false) (hs : (Dk.txt cf c.file).size + c.s.size ≤ 1073741824) (y : Int) :
    Calls Try.prog 36 #[.pointer (some ⟨p, 2, none⟩), .int .i64 (min y 4611686018427387903), .pointer (some ⟨b0, 0, none⟩), .pointer (some ⟨b1, 0, none⟩)] w fun e w' => e = .returned (.tuple #[]) ∧ DBox w' p n room (Dk.part cf c y) sr a len cap fuse ∧ Upd w w' [p] := by
  refine (wr_clo hB hf h0 h1 _ hs).mono ?_
  rintro e w' ⟨rfl, rfl⟩
  have e : Dk.part cf c y = cf.set c.file (Dk.txt cf c.file ++ Dk.piece c.s y) := by unfold Dk.part; rw [hc]; rfl
  rw [piece_min c.s y (by omega), e]
  exact ⟨rfl, (hB.setNow c.file hf _).keep rfl, ((Upd.refl _ _).setCell (by simp) _).drew⟩
theorem part_c (hB : DBox w p n room cf sr a len cap fuse) (hc : c.cut = true) (y : Int) :
    Calls Try.prog 46 #[.pointer (some ⟨p, 2, none⟩), .int .i64 (min y 4611686018427387903), .pointer (some ⟨b0, 0, none⟩), .pointer (some ⟨b1, 0, none⟩)] w fun e w' => e = .returned (.tuple #[]) ∧ DBox w' p n room (Dk.part cf c y) sr a len cap fuse ∧ Upd w w' [p] := by
  refine (ct_clo_no w p b0 b1 _ (by omega)).mono ?_
  rintro e w' ⟨rfl, rfl⟩
  have e : Dk.part cf c y = cf := by unfold Dk.part; rw [hc]; rfl
  rw [e]
  exact ⟨rfl, hB, Upd.refl _ _⟩
end

set_option maxRecDepth 20000 in
set_option maxHeartbeats 2000000 in
theorem crash_has {w : World} {p : Nat} {d : Dk.D} {F : List Nat} (h : DHas w p d F) (ok : d.ok) (hl : d.loose.length ≤ 100000) (x y : Int) :
    Calls Try.prog 12 #[.pointer (some ⟨p, 0, none⟩), .int .i64 x, .int .i64 y] w fun e w' => e = .returned (.int .i64 0) ∧ DStep w w' p (Dk.crash d x y) F := by
  obtain ⟨a, cap, vs, rfl, hB, hS, hC⟩ := h
  have HN := Lib.hid (none_no hB ok.n1)
  have HOK := Lib.hid ok
  have hlI : (0 : Int) ≤ d.loose.length ∧ (d.loose.length : Int) ≤ 100000 := by omega
  have HB := Lib.hid hB
  have HS := Lib.hid hS
  have HC := Lib.hid hC
  have hmin := fun w => run_min2 Try.prog w 3 y 4611686018427387903
  clear hB hS hC ok hl
  go_enter Try.func12, Try.ntmps12
  go_wp2_with fail
  refine HN.out.mono ?_
  rintro e w2 ⟨rfl, hw⟩
  subst w2
  go_wp2_with (first | (refine wp_load_sure HB.out rfl (.tmp 15) rfl rfl ?_) | (refine wp_store_now HB.out _ HB.out.ls rfl (.tmp 18) (.tmp 16) rfl rfl rfl ?_; intro w4 hB4 hU4; have z35 := hB4.frozen 35; have z34' := (hB4.setFuse (-1)).facts.2.2.1; obtain ⟨z0, z1, z2, z3⟩ := hB4.facts; have HB4 := Lib.hid hB4; have HU4 := Lib.hid hU4; clear hB4 hU4))
  have hB5 := HB4.out.setFuse (-1)
  have hU5 := HU4.out.setCell (p := ⟨p, 35, none⟩) (.inl (by simp)) (.int .i64 (-1))
  have HB5 := Lib.hid hB5
  have HU5 := Lib.hid hU5
  clear hB5 hU5 z0 z1 z2 z3 z34' z35 HB4 HU4
  go_loopw [26] (fun vi wr => ∃ k : Nat, k ≤ d.loose.length ∧ vi = .int .i64 k ∧ DBox wr p d.n d.room (Dk.crashed d.sure (d.loose.take k) x y) d.sure a d.loose.length cap (-1) ∧ Upd w wr [p]) (fun vi _ => d.loose.length - (intOf vi).toNat)
  case atStart => exact ⟨0, Nat.zero_le _, rfl, by rw [List.take_zero, Dk.crashed_zero]; exact HB5.out, HU5.out⟩
  case round =>
    clear HB5 HU5
    obtain ⟨k, hk, rfl, hB, hU⟩ := hrel
    have HBr := Lib.hid hB
    have HUr := Lib.hid hU
    by_cases hlt : k < d.loose.length
    · have hkI : (0 : Int) ≤ k ∧ (k : Int) < d.loose.length := by omega
      have hpa : p ∉ blks a := HS.out.ne HB.out.box (by decide)
      have hvl : vs.length = d.loose.length := HC.out.1
      have hSr := HS.out.keep fun q hq => hU.keep q (HS.out.lt q hq) (by simp; intro e; subst e; exact hpa hq)
      obtain ⟨g, off, rfl, hc⟩ := (hSr.rowIs1 (by omega)).cell1 (f := fun v => v) k (by omega)
      have hclo := (HC.out.keep hU (noBox1 HB.out)).2 k hlt (by omega)
      obtain ⟨o1, o2, o3⟩ := Dk.okRow_at HOK.out.row k hlt
      have hto := Dk.total_runs HOK.out.row HOK.out.tot k (by omega)
      generalize vs[k] = v at *
      clear hpa hvl hSr
      rcases Int.lt_trichotomy (k : Int) x with hx | hx | hx
      · obtain ⟨r1, r2⟩ := Dk.crashed_run d.sure d.loose x y k hlt hx
        rw [← r2] at o2 o3 hto
        have HR1 := Lib.hid r1
        clear r1 r2
        generalize Dk.crashed d.sure (d.loose.take k) x y = cf at *
        generalize d.loose[k] = c at *
        obtain ⟨b0, b1, h0, ⟨hcut, rfl, h1⟩ | ⟨hcut, rfl, h1⟩⟩ := hclo
        · have hsz : (Dk.txt cf c.file).size + c.s.size ≤ 1073741824 := by
            have t1 := Dk.total_wr hcut (show c.file < cf.length by rw [hB.ln]; exact o1)
            have t2 := Dk.txt_le cf c.file
            unfold Dk.Most at o3; omega
          have HCL := Lib.hid (whole_w hB o1 h0 h1 hcut hsz)
          clear h0 h1 hcut hB o1 o2 o3 hto hsz HBr
          go_wp2_with fail
          refine HCL.out.mono ?_
          rintro e w5 ⟨rfl, hB5, hU5⟩
          have HB5 := Lib.hid hB5
          have HU5 := Lib.hid hU5
          clear hB5 hU5
          go_wp2_with fail
          go_roundw
          case rel => exact ⟨k + 1, by omega, by go_num, by rw [HR1.out]; exact HB5.out, HUr.out.trans HU5.out (fun x hx => .inl hx)⟩
          case measure => simp [intOf]; omega
        · have HCL := Lib.hid (whole_c hB o1 h0 h1 hcut (o2 hcut))
          clear h0 h1 hcut hB o1 o2 o3 hto HBr
          go_wp2_with fail
          refine HCL.out.mono ?_
          rintro e w5 ⟨rfl, hB5, hU5⟩
          have HB5 := Lib.hid hB5
          have HU5 := Lib.hid hU5
          clear hB5 hU5
          go_wp2_with fail
          go_roundw
          case rel => exact ⟨k + 1, by omega, by go_num, by rw [HR1.out]; exact HB5.out, HUr.out.trans HU5.out (fun x hx => .inl hx)⟩
          case measure => simp [intOf]; omega
      · obtain ⟨r1, r2⟩ := Dk.crashed_part d.sure d.loose x y k hlt hx
        rw [← r2] at o2 o3 hto
        have HR1 := Lib.hid r1
        clear r1 r2
        generalize Dk.crashed d.sure (d.loose.take k) x y = cf at *
        generalize d.loose[k] = c at *
        subst hx
        obtain ⟨b0, b1, h0, ⟨hcut, rfl, h1⟩ | ⟨hcut, rfl, h1⟩⟩ := hclo
        · have hsz : (Dk.txt cf c.file).size + c.s.size ≤ 1073741824 := by
            have t1 := Dk.total_wr hcut (show c.file < cf.length by rw [hB.ln]; exact o1)
            have t2 := Dk.txt_le cf c.file
            unfold Dk.Most at o3; omega
          have HCL := Lib.hid (part_w hB o1 h0 h1 hcut hsz y)
          clear h0 h1 hcut hB o1 o2 o3 hto hsz HBr
          go_wp2_with fail
          refine HCL.out.mono ?_
          rintro e w5 ⟨rfl, hB5, hU5⟩
          have HB5 := Lib.hid hB5
          have HU5 := Lib.hid hU5
          clear hB5 hU5
          go_wp2_with fail
          go_roundw
          case rel => exact ⟨k + 1, by omega, by go_num, by rw [HR1.out]; exact HB5.out, HUr.out.trans HU5.out (fun x hx => .inl hx)⟩
          case measure => simp [intOf]; omega
        · have HCL := Lib.hid (part_c (b0 := b0) (b1 := b1) hB hcut y)
          clear h0 h1 hcut hB o1 o2 o3 hto HBr
          go_wp2_with fail
          refine HCL.out.mono ?_
          rintro e w5 ⟨rfl, hB5, hU5⟩
          have HB5 := Lib.hid hB5
          have HU5 := Lib.hid hU5
          clear hB5 hU5
          go_wp2_with fail
          go_roundw
          case rel => exact ⟨k + 1, by omega, by go_num, by rw [HR1.out]; exact HB5.out, HUr.out.trans HU5.out (fun x hx => .inl hx)⟩
          case measure => simp [intOf]; omega
      · have r1 := Dk.crashed_skip d.sure d.loose x y k hlt hx
        have HR1 := Lib.hid r1
        have hxI : ((k : Int) == x) = false := by rw [beq_eq_false_iff_ne]; omega
        have hxL : ¬ (k : Int) < x := by omega
        clear r1 o1 o2 o3 hto hclo hB
        generalize Dk.crashed d.sure (d.loose.take k) x y = cf at *
        generalize d.loose[k] = c at *
        go_wp2_with fail
        go_roundw
        case rel => exact ⟨k + 1, by omega, by go_num, by rw [HR1.out]; exact HBr.out, HUr.out⟩
        case measure => simp [intOf]; omega
    · obtain rfl : k = d.loose.length := by omega
      rw [List.take_length] at HBr
      have HUr := Lib.hid hU
      clear hB hU
      go_wp2_with (first | (refine wp_load_now HBr.out rfl (.tmp 56) rfl rfl ?_) | (refine wp_store_sure HBr.out _ HBr.out.ln rfl (.tmp 59) (.tmp 57) rfl rfl rfl ?_; intro w4 hB4 hU4; have z34 := hB4.frozen 34; obtain ⟨z0, z1, z2, z3⟩ := hB4.facts; have HB4 := Lib.hid hB4; have HU4 := Lib.hid hU4; clear hB4 hU4))
      go_ret
      refine ⟨rfl, [p], ⟨none, 0, [], rfl, ?_, SliceIs.nil _ _ _, CloRow.nil _⟩, ?_, fun k hk => .inl (by simp at hk; simp [hk])⟩
      · have h := HB4.out.setLoose none 0 0
        have e : (Dk.crash d x y).n = d.n := by show (Dk.crashed d.sure d.loose x y).length = _; rw [Dk.crashed_length]; rfl
        rw [e]
        exact h
      · exact ((HUr.out.trans HU4.out (fun x hx => .inl hx)).setCell (.inl (by simp)) _).mono (by simp)

end Go.Proofs.Ytickdhlhafifhaa
