/-
  THE WALKS of layer 9: New, Sync, Fuse, Crash; and what none answers.
-/
import Derived.Test.YtickdhlhafifhaaDiskOps
namespace Go.Proofs.Ytickdhlhafifhaa
open Go.RowKit

attribute [local go_sem ↓ high] appSem_eq

/-! ### What none answers -/
theorem write_nil (w : World) (file : Int) (s : ByteArray) : Calls Try.prog 11 #[.pointer none, .int .i64 file, .string s] w fun e w' => e = .returned (.int .i64 1) ∧ Below w.heap.size w w' := by
  have hO := (((Own.refl w).alloc (.cells #[.int .i64 file] 3 (0, 0))).alloc (.cells #[.string s] 9 (0, 0))).below
  go_enter Try.func11, Try.ntmps11
  go_wp2_with fail
  refine (burns_nil _).mono ?_
  rintro e w2 ⟨rfl, hw⟩
  subst w2
  go_wp2_with fail
  go_ret
  exact ⟨rfl, hO⟩
theorem cut_nil (w : World) (file n : Int) : Calls Try.prog 38 #[.pointer none, .int .i64 file, .int .i64 n] w fun e w' => e = .returned (.int .i64 1) ∧ Below w.heap.size w w' := by
  have hO := (((Own.refl w).alloc (.cells #[.int .i64 file] 3 (0, 0))).alloc (.cells #[.int .i64 n] 3 (0, 0))).below
  go_enter Try.func38, Try.ntmps38
  go_wp2_with fail
  refine (burns_nil _).mono ?_
  rintro e w2 ⟨rfl, hw⟩
  subst w2
  go_wp2_with fail
  go_ret
  exact ⟨rfl, hO⟩
theorem sync_nil (w : World) : Calls Try.prog 16 #[.pointer none] w fun e w' => e = .returned (.int .i64 1) ∧ w' = w := by
  go_enter Try.func16, Try.ntmps16
  go_wp2_with fail
  refine (burns_nil _).mono ?_
  rintro e w2 ⟨rfl, hw⟩
  subst w2
  go_wp2_with fail
  go_ret
  exact ⟨rfl, rfl⟩
theorem fuse_nil (w : World) (n : Int) : Calls Try.prog 15 #[.pointer none, .int .i64 n] w fun e w' => e = .returned (.int .i64 1) ∧ w' = w := by
  go_enter Try.func15, Try.ntmps15
  go_wp2_with fail
  refine (none_nil _).mono ?_
  rintro e w2 ⟨rfl, hw⟩
  subst w2
  go_wp2_with fail
  go_ret
  exact ⟨rfl, rfl⟩
theorem crash_nil (w : World) (x y : Int) : Calls Try.prog 12 #[.pointer none, .int .i64 x, .int .i64 y] w fun e w' => e = .returned (.int .i64 1) ∧ w' = w := by
  go_enter Try.func12, Try.ntmps12
  go_wp2_with fail
  refine (none_nil _).mono ?_
  rintro e w2 ⟨rfl, hw⟩
  subst w2
  go_wp2_with fail
  go_ret
  exact ⟨rfl, rfl⟩
theorem spoil_nil (w : World) (x y b : Int) : Calls Try.prog 39 #[.pointer none, .int .i64 x, .int .i64 y, .int .u8 b] w fun e w' => e = .returned (.int .i64 1) ∧ w' = w := by
  go_enter Try.func39, Try.ntmps39
  go_wp2_with fail
  refine (none_nil _).mono ?_
  rintro e w2 ⟨rfl, hw⟩
  subst w2
  go_wp2_with fail
  go_ret
  exact ⟨rfl, rfl⟩
theorem copy_nil (w : World) : Calls Try.prog 29 #[.pointer none] w fun e w' => e = .returned (.pointer none) ∧ w' = w := by
  go_enter Try.func29, Try.ntmps29
  go_wp2_with fail
  refine (none_nil _).mono ?_
  rintro e w2 ⟨rfl, hw⟩
  subst w2
  go_wp2_with fail
  go_ret
  exact ⟨rfl, rfl⟩

/-! ### New -/
theorem new_no (w : World) (n room : Int) (h : n < 1 ∨ 16 < n ∨ room < 0 ∨ 4194304 < room) :
    Calls Try.prog 10 #[.int .i64 n, .int .i64 room] w fun e w' => e = .returned (.tuple #[.pointer none, .int .i64 2]) ∧ w' = w := by
  by_cases h1 : n < 1
  · clear h
    go_enter Try.func10, Try.ntmps10
    go_wp2_with fail
    go_ret2
    exact ⟨rfl, rfl⟩
  have h1' : 1 ≤ n := by omega
  by_cases h2 : 16 < n
  · clear h h1
    go_enter Try.func10, Try.ntmps10
    go_wp2_with fail
    go_ret2
    exact ⟨rfl, rfl⟩
  have h2' : n ≤ 16 := by omega
  by_cases h3 : room < 0
  · clear h h1 h2
    go_enter Try.func10, Try.ntmps10
    go_wp2_with fail
    go_ret2
    exact ⟨rfl, rfl⟩
  have h3' : 0 ≤ room := by omega
  have h4 : 4194304 < room := by omega
  clear h h1 h2 h3
  go_enter Try.func10, Try.ntmps10
  go_wp2_with fail
  go_ret2
  exact ⟨rfl, rfl⟩
theorem padd_rep (n : Nat) (h : n ≤ 16) : padd (List.replicate n Dk.none) = List.replicate 16 Dk.none := by
  unfold padd; rw [List.length_replicate, List.replicate_append_replicate]; congr 1; omega
theorem new_has (w : World) (n room : Nat) (h1 : 1 ≤ n) (h2 : n ≤ 16) (h3 : room ≤ 4194304) :
    Calls Try.prog 10 #[.int .i64 n, .int .i64 room] w fun e w' => e = .returned (.tuple #[.pointer (some ⟨w.heap.size, 0, none⟩), .int .i64 0]) ∧ DHas w' w.heap.size (Dk.new n room) [w.heap.size] ∧ Below w.heap.size w w' ∧ w.heap.size < w'.heap.size := by
  have hI : (1 : Int) ≤ n ∧ (n : Int) ≤ 16 ∧ (0 : Int) ≤ room ∧ (room : Int) ≤ 4194304 := by omega
  have HN := Lib.hid (And.intro h1 h2)
  clear h1 h2 h3
  go_enter Try.func10, Try.ntmps10
  go_wp2_with fail
  go_ret2
  refine ⟨rfl, ⟨none, 0, [], rfl, ⟨?_, ?_, ?_, ?_⟩, SliceIs.nil _ _ _, CloRow.nil _⟩, ((Own.refl w).alloc _).below, by simp⟩
  · have e : (Dk.new n room).n = n := by simp [Dk.new, Dk.D.n]
    rw [e]
    have e2 : strs (List.replicate n Dk.none) = [.string ⟨#[]⟩, .string ⟨#[]⟩, .string ⟨#[]⟩, .string ⟨#[]⟩, .string ⟨#[]⟩, .string ⟨#[]⟩, .string ⟨#[]⟩, .string ⟨#[]⟩, .string ⟨#[]⟩, .string ⟨#[]⟩, .string ⟨#[]⟩, .string ⟨#[]⟩, .string ⟨#[]⟩, .string ⟨#[]⟩, .string ⟨#[]⟩, .string ⟨#[]⟩] := by
      unfold strs; rw [padd_rep n HN.out.2]; rfl
    have e3 : dcs (n : Int) (room : Int) (Dk.new n room).now (Dk.new n room).sure none 0 0 (-1) = [.int .i64 n, .int .i64 room] ++ (strs (List.replicate n Dk.none) ++ (strs (List.replicate n Dk.none) ++ [.slice none 0 0, .int .i64 (-1)])) := rfl
    refine Eq.trans (heap_alloc_new w _) ?_
    show _ = some (Obj.cells (dcs (n : Int) (room : Int) (Dk.new n room).now (Dk.new n room).sure none 0 0 (-1)).toArray _ _)
    rw [e3, e2]; rfl
  · simp [Dk.new, Dk.D.now, Dk.runs, Dk.D.n]
  · rfl
  · simp [Dk.new, Dk.D.n]; exact HN.out.2

/-! ### Sync, Fuse -/
theorem now_sync (d : Dk.D) (f : List ByteArray) (r : Int) : ({ d with sure := f, loose := [], fuse := r } : Dk.D).now = f := rfl
set_option maxRecDepth 20000 in
set_option maxHeartbeats 1000000 in
theorem sync_has {w : World} {p : Nat} {d : Dk.D} {F : List Nat} (h : DHas w p d F) (ok : d.ok) :
    Calls Try.prog 16 #[.pointer (some ⟨p, 0, none⟩)] w fun e w' => e = .returned (.int .i64 (Dk.sync d).2) ∧ DStep w w' p (Dk.sync d).1 F := by
  have HBU := Lib.hid (burns_has h ok)
  have hpF : p ∈ F := by obtain ⟨a, cap, vs, rfl, _⟩ := h; simp
  have HPF := Lib.hid hpF
  have HOK := Lib.hid ok
  clear h ok hpF
  go_enter Try.func16, Try.ntmps16
  go_wp2_with fail
  refine HBU.out.mono ?_
  rintro e w2 ⟨rfl, hH, hU⟩
  obtain ⟨b1, b2, b3, b4, b5, b6⟩ := Dk.burn_ok HOK.out
  by_cases hb : (Dk.burn d).2 = 0
  · rw [hb]
    have HW : Hid (Dk.sync d = ({ (Dk.burn d).1 with sure := d.now, loose := [] }, 0)) := Lib.hid (by unfold Dk.sync; rw [if_neg (by simp [hb])])
    obtain ⟨a, cap, vs, rfl, hB, hS, hC⟩ := hH
    have HB := Lib.hid hB
    have HU := Lib.hid hU
    have HE := Lib.hid (And.intro b2 b3)
    clear hb b1 b2 b3 b4 b5 b6 hB hS hC hU HBU
    go_wp2_with (first | (refine wp_load_now HB.out rfl (.tmp 13) rfl rfl ?_) | (refine wp_store_sure HB.out _ HB.out.ln rfl (.tmp 16) (.tmp 14) rfl rfl rfl ?_; intro w4 hB4 hU4; have z34 := hB4.frozen 34; obtain ⟨z0, z1, z2, z3⟩ := hB4.facts; have HB4 := Lib.hid hB4; have HU4 := Lib.hid hU4; clear hB4 hU4))
    go_ret
    rw [HW.out]
    refine ⟨rfl, [p], ⟨none, 0, [], rfl, ?_, SliceIs.nil _ _ _, CloRow.nil _⟩, ?_, fun k hk => .inl (by simp at hk; simp [hk])⟩
    · have h := HB4.out.setLoose none 0 0
      have e : ({ (Dk.burn d).1 with sure := d.now, loose := [] } : Dk.D).n = (Dk.burn d).1.n := by show d.now.length = _; rw [Dk.D.now_length, HE.out.2]
      rw [HE.out.1] at h
      rw [e]
      exact h
    · exact ((HU.out.trans HU4.out (fun x hx => .inl hx)).setCell (.inl (by simp)) _).mono (by simp)
  · have h90 : (Dk.burn d).2 = 90 := by have := (burn_fuse d).2; split at this <;> simp_all
    have HW : Hid (Dk.sync d = ((Dk.burn d).1, 90)) := Lib.hid (by unfold Dk.sync; rw [if_pos hb])
    rw [h90]
    have HH := Lib.hid hH
    have HU := Lib.hid hU
    clear b1 b2 b3 b4 b5 b6 hb h90 hH hU
    go_wp2_with fail
    go_ret
    rw [HW.out]
    exact ⟨rfl, F, HH.out, HU.out.mono (by simpa using HPF.out), fun k hk => .inl hk⟩
theorem fuse_has {w : World} {p : Nat} {d : Dk.D} {F : List Nat} (h : DHas w p d F) (ok : d.ok) (n : Int) :
    Calls Try.prog 15 #[.pointer (some ⟨p, 0, none⟩), .int .i64 n] w fun e w' => e = .returned (.int .i64 0) ∧ DStep w w' p (Dk.fused d n) F := by
  obtain ⟨a, cap, vs, rfl, hB, hS, hC⟩ := h
  have HN := Lib.hid (none_no hB ok.n1)
  have hmax := fun w => run_max2 Try.prog w 3 n (-1)
  have z35 := hB.frozen 35
  obtain ⟨z0, z1, z2, z3⟩ := hB.facts
  have HB := Lib.hid hB
  have HS := Lib.hid hS
  have HC := Lib.hid hC
  clear hB hS hC ok
  go_enter Try.func15, Try.ntmps15
  go_wp2_with fail
  refine HN.out.mono ?_
  rintro e w2 ⟨rfl, hw⟩
  subst w2
  go_wp2_with fail
  go_ret
  have hu : Upd w (w.setCell ⟨p, 35, none⟩ (.int .i64 (max n (-1)))) [p] := (Upd.refl _ _).setCell (by simp) _
  have hpa : p ∉ blks a := HS.out.ne HB.out.box (by decide)
  exact ⟨rfl, _, ⟨a, cap, vs, rfl, HB.out.setFuse _, HS.out.keep fun k hk => hu.keep k (HS.out.lt k hk) (by simp; intro e; subst e; exact hpa hk), HC.out.keep hu (noBox1 HB.out)⟩, hu.mono (by simp), fun k hk => .inl hk⟩

end Go.Proofs.Ytickdhlhafifhaa
