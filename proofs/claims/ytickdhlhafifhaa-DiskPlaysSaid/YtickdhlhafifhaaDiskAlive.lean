/-
  THE WALK of the statements' small known answers for layer 9; and of Does, of no disk.
-/
import Derived.Test.YtickdhlhafifhaaDiskActs
namespace Go.Proofs.Ytickdhlhafifhaa
open Go.RowKit

attribute [local go_sem ↓ high] appSem_eq

namespace Dk
def a0 : D := ⟨100, [⟨#[]⟩, ⟨#[]⟩], [], -1⟩
def a1 : D := ⟨100, [⟨#[]⟩, ⟨#[]⟩], [⟨0, false, 0, ⟨#[120, 121]⟩⟩], -1⟩
def a2 : D := ⟨100, [⟨#[120, 121]⟩, ⟨#[]⟩], [], -1⟩
def a3 : D := ⟨100, [⟨#[120, 121]⟩, ⟨#[]⟩], [⟨0, false, 0, ⟨#[122]⟩⟩], -1⟩
def a4 : D := ⟨100, [⟨#[120, 121]⟩, ⟨#[]⟩], [⟨0, false, 0, ⟨#[122]⟩⟩, ⟨1, false, 0, ⟨#[119]⟩⟩], -1⟩
def a5 : D := ⟨100, [⟨#[120, 121, 122]⟩, ⟨#[]⟩], [], -1⟩
theorem al0 : new 2 100 = a0 := rfl
theorem al1 : write a0 0 ⟨#[120, 121]⟩ = (a1, 0) := rfl
theorem al2 : sync a1 = (a2, 0) := rfl
theorem al3 : write a2 0 ⟨#[122]⟩ = (a3, 0) := rfl
theorem al4 : write a3 1 ⟨#[119]⟩ = (a4, 0) := rfl
theorem al5 : crash a4 1 0 = a5 := rfl
theorem al6 : read a5 0 = (⟨#[120, 121, 122]⟩, 0) := rfl
theorem al7 : read a5 1 = (⟨#[]⟩, 0) := rfl
theorem al8 : a5.left = 97 := rfl
theorem ok0 : a0.ok := by rw [← al0]; exact new_ok 2 100 (by decide) (by decide) (by decide)
theorem ok1 : a1.ok := by have := write_ok ok0 0 ⟨#[120, 121]⟩; rwa [al1] at this
theorem ok2 : a2.ok := by have := sync_ok ok1; rwa [al2] at this
theorem ok3 : a3.ok := by have := write_ok ok2 0 ⟨#[122]⟩; rwa [al3] at this
theorem ok4 : a4.ok := by have := write_ok ok3 1 ⟨#[119]⟩; rwa [al4] at this
theorem ok5 : a5.ok := by have := crash_ok ok4 1 0; rwa [al5] at this
end Dk
section
variable {w0 w : World} {p : Nat}
theorem s_new (w : World) : Calls Try.prog 10 #[.int .i64 2, .int .i64 100] w fun e w' => e = .returned (.tuple #[.pointer (some ⟨w.heap.size, 0, none⟩), .int .i64 0]) ∧ Mine w w' w.heap.size Dk.a0 := by
  refine (new_has w 2 100 (by decide) (by decide) (by decide)).mono ?_
  rintro e w' ⟨rfl, h, hb, hlt⟩
  rw [Dk.al0] at h
  exact ⟨rfl, Mine.new (Own.refl w) h (Nat.le_refl _) hb⟩
theorem s_no (w : World) : Calls Try.prog 10 #[.int .i64 0, .int .i64 1] w fun e w' => e = .returned (.tuple #[.pointer none, .int .i64 2]) ∧ w' = w := new_no w 0 1 (.inl (by decide))
theorem s_w1 (h : Mine w0 w p Dk.a0) : Calls Try.prog 11 #[.pointer (some ⟨p, 0, none⟩), .int .i64 0, .string ⟨#[120, 121]⟩] w fun e w' => e = .returned (.int .i64 0) ∧ Mine w0 w' p Dk.a1 := by
  have := h.write Dk.ok0 (by decide) 0 ⟨#[120, 121]⟩ (by decide); rw [Dk.al1] at this; exact this
theorem s_w2 (h : Mine w0 w p Dk.a1) : Calls Try.prog 16 #[.pointer (some ⟨p, 0, none⟩)] w fun e w' => e = .returned (.int .i64 0) ∧ Mine w0 w' p Dk.a2 := by
  have := h.sync Dk.ok1; rw [Dk.al2] at this; exact this
theorem s_w3 (h : Mine w0 w p Dk.a2) : Calls Try.prog 11 #[.pointer (some ⟨p, 0, none⟩), .int .i64 0, .string ⟨#[122]⟩] w fun e w' => e = .returned (.int .i64 0) ∧ Mine w0 w' p Dk.a3 := by
  have := h.write Dk.ok2 (by decide) 0 ⟨#[122]⟩ (by decide); rw [Dk.al3] at this; exact this
theorem s_w4 (h : Mine w0 w p Dk.a3) : Calls Try.prog 11 #[.pointer (some ⟨p, 0, none⟩), .int .i64 1, .string ⟨#[119]⟩] w fun e w' => e = .returned (.int .i64 0) ∧ Mine w0 w' p Dk.a4 := by
  have := h.write Dk.ok3 (by decide) 1 ⟨#[119]⟩ (by decide); rw [Dk.al4] at this; exact this
theorem s_l (h : Mine w0 w p Dk.a4) : Calls Try.prog 18 #[.pointer (some ⟨p, 0, none⟩)] w fun e w' => e = .returned (.int .i64 2) ∧ w' = w := by
  obtain ⟨F, hd⟩ := h.has; exact loose_has hd Dk.ok4
theorem s_c (h : Mine w0 w p Dk.a4) : Calls Try.prog 12 #[.pointer (some ⟨p, 0, none⟩), .int .i64 1, .int .i64 0] w fun e w' => e = .returned (.int .i64 0) ∧ Mine w0 w' p Dk.a5 := by
  have := h.crash Dk.ok4 (by decide) 1 0; rw [Dk.al5] at this; exact this
theorem s_r0 (h : Mine w0 w p Dk.a5) : Calls Try.prog 19 #[.pointer (some ⟨p, 0, none⟩), .int .i64 0] w fun e w' => e = .returned (.tuple #[.string ⟨#[120, 121, 122]⟩, .int .i64 0]) ∧ w' = w := by
  obtain ⟨F, hd⟩ := h.has; have := read_has hd Dk.ok5 0; rw [Dk.al6] at this; exact this
theorem s_r1 (h : Mine w0 w p Dk.a5) : Calls Try.prog 19 #[.pointer (some ⟨p, 0, none⟩), .int .i64 1] w fun e w' => e = .returned (.tuple #[.string ⟨#[]⟩, .int .i64 0]) ∧ w' = w := by
  obtain ⟨F, hd⟩ := h.has; have := read_has hd Dk.ok5 1; rw [Dk.al7] at this; exact this
theorem s_room (h : Mine w0 w p Dk.a5) : Calls Try.prog 20 #[.pointer (some ⟨p, 0, none⟩)] w fun e w' => e = .returned (.int .i64 97) ∧ w' = w := by
  obtain ⟨F, hd⟩ := h.has; have := room_has hd Dk.ok5; rw [Dk.al8] at this; exact this
theorem s_n (h : Mine w0 w p Dk.a5) : Calls Try.prog 32 #[.pointer (some ⟨p, 0, none⟩)] w fun e w' => e = .returned (.int .i64 2) ∧ w' = w := by
  obtain ⟨F, hd⟩ := h.has; exact files_has hd Dk.ok5
end

set_option maxRecDepth 20000 in
set_option maxHeartbeats 1000000 in
theorem alive09 (w : World) :
    Calls Try.prog 9 #[] w fun e w' => e = .returned (.bool true) ∧ Below w.heap.size w w' := by
  go_enter Try.func9, Try.ntmps9
  go_wp2_with fail
  refine (s_new w).mono ?_
  rintro e w1 ⟨rfl, h⟩
  have H1 := Lib.hid h
  clear h
  go_wp2_with fail
  refine (s_w1 H1.out).mono ?_
  rintro e w2 ⟨rfl, h⟩
  have H2 := Lib.hid h
  clear h
  go_wp2_with fail
  refine (s_w2 H2.out).mono ?_
  rintro e w3 ⟨rfl, h⟩
  have H3 := Lib.hid h
  clear h
  go_wp2_with fail
  refine (s_w3 H3.out).mono ?_
  rintro e w4 ⟨rfl, h⟩
  have H4 := Lib.hid h
  clear h
  go_wp2_with fail
  refine (s_w4 H4.out).mono ?_
  rintro e w5 ⟨rfl, h⟩
  have H5 := Lib.hid h
  clear h
  go_wp2_with fail
  refine (s_l H5.out).mono ?_
  rintro e w6 ⟨rfl, hw⟩
  subst w6
  go_wp2_with fail
  refine (s_c H5.out).mono ?_
  rintro e w7 ⟨rfl, h⟩
  have H7 := Lib.hid h
  clear h
  go_wp2_with fail
  refine (s_r0 H7.out).mono ?_
  rintro e w6 ⟨rfl, hw⟩
  subst w6
  go_wp2_with fail
  refine (s_r1 H7.out).mono ?_
  rintro e w6 ⟨rfl, hw⟩
  subst w6
  go_wp2_with fail
  refine (s_no w7).mono ?_
  rintro e w6 ⟨rfl, hw⟩
  subst w6
  go_wp2_with fail
  refine (s_room H7.out).mono ?_
  rintro e w6 ⟨rfl, hw⟩
  subst w6
  go_wp2_with fail
  refine (s_n H7.out).mono ?_
  rintro e w6 ⟨rfl, hw⟩
  subst w6
  go_wp2_with fail
  go_ret
  exact ⟨rfl, H7.out.own.below⟩

/-! ### Does, of none -/
set_option maxRecDepth 20000 in
set_option maxHeartbeats 1000000 in
theorem does_nil (w : World) (x : Xst) (hk : x.kind < 256) (h7 : x.kind % 8 ≠ 7) :
    Calls Try.prog 14 #[.pointer none, .agg (scells x).toArray] w fun e w' => e = .returned (.int .i64 1) ∧ Below w.heap.size w w' := by
  have hO := (Own.refl w).alloc (.cells (scells x).toArray 32 (0, 0))
  have HO := Lib.hid hO
  clear hO
  show Calls _ _ #[.pointer none, .agg #[.int .u8 x.kind, .int .i64 x.file, .int .i64 x.n, .int .i64 x.m, .string x.s, .int .u8 (by8 x.b)]] _ _
  obtain ⟨r, hr⟩ : ∃ r, r = x.kind % 8 := ⟨_, rfl⟩
  have hr8 : r < 7 := by omega
  have ht : (x.kind : Int).tmod 8 = r := by rw [Int.tmod_eq_emod_of_nonneg (by omega)]; omega
  have he : (x.kind : Int) % 8 = r := by omega
  rw [← hr] at h7
  clear h7 hr
  go_enter Try.func14, Try.ntmps14
  match r, hr8 with
  | 0, _ =>
    go_wp2_with fail
    refine (write_nil _ x.file x.s).mono ?_
    rintro e w2 ⟨rfl, hb⟩
    have HB := Lib.hid (HO.out.trans hb)
    clear hb
    go_wp2_with fail
    go_ret
    exact ⟨rfl, HB.out.below⟩
  | 1, _ =>
    go_wp2_with fail
    refine (cut_nil _ x.file x.n).mono ?_
    rintro e w2 ⟨rfl, hb⟩
    have HB := Lib.hid (HO.out.trans hb)
    clear hb
    go_wp2_with fail
    go_ret
    exact ⟨rfl, HB.out.below⟩
  | 2, _ =>
    go_wp2_with fail
    refine (sync_nil _).mono ?_
    rintro e w2 ⟨rfl, hw⟩
    subst w2
    go_wp2_with fail
    go_ret
    exact ⟨rfl, HO.out.below⟩
  | 3, _ =>
    go_wp2_with fail
    refine (fuse_nil _ x.n).mono ?_
    rintro e w2 ⟨rfl, hw⟩
    subst w2
    go_wp2_with fail
    go_ret
    exact ⟨rfl, HO.out.below⟩
  | 4, _ =>
    go_wp2_with fail
    refine (crash_nil _ x.n x.m).mono ?_
    rintro e w2 ⟨rfl, hw⟩
    subst w2
    go_wp2_with fail
    go_ret
    exact ⟨rfl, HO.out.below⟩
  | 5, _ =>
    go_wp2_with fail
    refine (spoil_nil _ x.file x.n (by8 x.b)).mono ?_
    rintro e w2 ⟨rfl, hw⟩
    subst w2
    go_wp2_with fail
    go_ret
    exact ⟨rfl, HO.out.below⟩
  | 6, _ =>
    go_wp2_with fail
    refine (read_nil _ x.file).mono ?_
    rintro e w2 ⟨rfl, hw⟩
    subst w2
    go_wp2_with fail
    go_ret
    exact ⟨rfl, HO.out.below⟩

end Go.Proofs.Ytickdhlhafifhaa
