/-
  THE WALKS of layer 9, the small ones: none, is, burns, Files, Loose, Room, Read, Fuse, on a disk in memory and on none.
-/
import Derived.Test.YtickdhlhafifhaaDiskBox
namespace Go.Proofs.Ytickdhlhafifhaa
open Go.RowKit

attribute [local go_sem ↓ high] appSem_eq

section
variable {w : World} {p n room : Nat} {nw sr : List ByteArray} {a : Option Addr} {len cap : Nat} {fuse : Int}
theorem none_nil (w : World) : Calls Try.prog 37 #[.pointer none] w fun e w' => e = .returned (.bool true) ∧ w' = w := by
  go_enter Try.func37, Try.ntmps37
  go_wp2_with fail
  go_ret
  exact ⟨rfl, rfl⟩
theorem none_no (h : DBox w p n room nw sr a len cap fuse) (h1 : 1 ≤ n) : Calls Try.prog 37 #[.pointer (some ⟨p, 0, none⟩)] w fun e w' => e = .returned (.bool false) ∧ w' = w := by
  obtain ⟨c0, c1, c34, c35⟩ := h.facts
  have hn : ((n : Int) == 0) = false := by rw [beq_eq_false_iff_ne]; omega
  clear h
  go_enter Try.func37, Try.ntmps37
  go_wp2_with fail
  go_ret
  exact ⟨rfl, rfl⟩
theorem is_any (h : DBox w p n room nw sr a len cap fuse) (file : Int) : Calls Try.prog 34 #[.pointer (some ⟨p, 0, none⟩), .int .i64 file] w fun e w' => e = .returned (.bool (decide (0 ≤ file) && decide (file < n))) ∧ w' = w := by
  obtain ⟨c0, c1, c34, c35⟩ := h.facts
  clear h
  go_enter Try.func34, Try.ntmps34
  by_cases hf : 0 ≤ file
  · go_wp2_with fail
    go_ret
    refine ⟨?_, rfl⟩
    simp [hf]
  · have hf' : file < 0 := by omega
    go_wp2_with fail
    go_ret
    refine ⟨?_, rfl⟩
    simp [hf]
    intro h; omega
theorem files_any (h : DBox w p n room nw sr a len cap fuse) (h1 : 1 ≤ n) : Calls Try.prog 32 #[.pointer (some ⟨p, 0, none⟩)] w fun e w' => e = .returned (.int .i64 n) ∧ w' = w := by
  obtain ⟨c0, c1, c34, c35⟩ := h.facts
  have HN := Lib.hid (none_no h h1)
  clear h
  go_enter Try.func32, Try.ntmps32
  go_wp2_with fail
  refine HN.out.mono ?_
  rintro e w2 ⟨rfl, hw⟩
  subst w2
  go_wp2_with fail
  go_ret
  exact ⟨rfl, rfl⟩
theorem files_nil (w : World) : Calls Try.prog 32 #[.pointer none] w fun e w' => e = .returned (.int .i64 0) ∧ w' = w := by
  go_enter Try.func32, Try.ntmps32
  go_wp2_with fail
  refine (none_nil w).mono ?_
  rintro e w2 ⟨rfl, hw⟩
  subst w2
  go_wp2_with fail
  go_ret
  exact ⟨rfl, rfl⟩
theorem loose_any (h : DBox w p n room nw sr a len cap fuse) (h1 : 1 ≤ n) : Calls Try.prog 18 #[.pointer (some ⟨p, 0, none⟩)] w fun e w' => e = .returned (.int .i64 len) ∧ w' = w := by
  obtain ⟨c0, c1, c34, c35⟩ := h.facts
  have HN := Lib.hid (none_no h h1)
  clear h
  go_enter Try.func18, Try.ntmps18
  go_wp2_with fail
  refine HN.out.mono ?_
  rintro e w2 ⟨rfl, hw⟩
  subst w2
  go_wp2_with fail
  go_ret
  exact ⟨rfl, rfl⟩
theorem loose_nil (w : World) : Calls Try.prog 18 #[.pointer none] w fun e w' => e = .returned (.int .i64 0) ∧ w' = w := by
  go_enter Try.func18, Try.ntmps18
  go_wp2_with fail
  refine (none_nil w).mono ?_
  rintro e w2 ⟨rfl, hw⟩
  subst w2
  go_wp2_with fail
  go_ret
  exact ⟨rfl, rfl⟩
theorem room_nil (w : World) : Calls Try.prog 20 #[.pointer none] w fun e w' => e = .returned (.int .i64 0) ∧ w' = w := by
  go_enter Try.func20, Try.ntmps20
  go_wp2_with fail
  refine (none_nil w).mono ?_
  rintro e w2 ⟨rfl, hw⟩
  subst w2
  go_wp2_with fail
  go_ret
  exact ⟨rfl, rfl⟩
theorem read_nil (w : World) (file : Int) : Calls Try.prog 19 #[.pointer none, .int .i64 file] w fun e w' => e = .returned (.tuple #[.string ⟨#[]⟩, .int .i64 1]) ∧ w' = w := by
  go_enter Try.func19, Try.ntmps19
  go_wp2_with fail
  refine (none_nil w).mono ?_
  rintro e w2 ⟨rfl, hw⟩
  subst w2
  go_wp2_with fail
  go_ret2
  exact ⟨rfl, rfl⟩
theorem read_any (h : DBox w p n room nw sr a len cap fuse) (h1 : 1 ≤ n) (file : Int) : Calls Try.prog 19 #[.pointer (some ⟨p, 0, none⟩), .int .i64 file] w fun e w' =>
    e = .returned (if fuse = 0 then .tuple #[.string ⟨#[]⟩, .int .i64 90] else if (decide (0 ≤ file) && decide (file < n)) = false then .tuple #[.string ⟨#[]⟩, .int .i64 3] else .tuple #[.string (Dk.txt nw file.toNat), .int .i64 0]) ∧ w' = w := by
  obtain ⟨c0, c1, c34, c35⟩ := h.facts
  have HN := Lib.hid (none_no h h1)
  have HI := Lib.hid (is_any h file)
  have HB := Lib.hid h
  clear h
  by_cases hf : fuse = 0
  · subst hf
    rw [if_pos rfl]
    go_enter Try.func19, Try.ntmps19
    go_wp2_with fail
    refine HN.out.mono ?_
    rintro e w2 ⟨rfl, hw⟩
    subst w2
    go_wp2_with fail
    go_ret2
    exact ⟨rfl, rfl⟩
  · rw [if_neg hf]
    have hfu : ((fuse : Int) == 0) = false := by rw [beq_eq_false_iff_ne]; exact hf
    clear hf
    cases hi : (decide (0 ≤ file) && decide (file < (n : Int))) with
    | false =>
      rw [hi] at HI
      simp only [if_true]
      clear hi
      go_enter Try.func19, Try.ntmps19
      go_wp2_with fail
      refine HN.out.mono ?_
      rintro e w2 ⟨rfl, hw⟩
      subst w2
      go_wp2_with fail
      refine HI.out.mono ?_
      rintro e w2 ⟨rfl, hw⟩
      subst w2
      go_wp2_with fail
      go_ret2
      exact ⟨rfl, rfl⟩
    | true =>
      rw [hi] at HI
      simp only [Bool.true_eq_false, if_false]
      simp only [Bool.and_eq_true, decide_eq_true_eq] at hi
      obtain ⟨f, rfl⟩ := Int.eq_ofNat_of_zero_le hi.1
      have hn := HB.out.n16
      have hc := HB.out.nowAt f (by omega)
      have hfI : (0 : Int) ≤ f ∧ (f : Int) < 16 := by omega
      have hft : ((f : Nat) : Int).toNat = f := rfl
      clear hi hn HB
      go_enter Try.func19, Try.ntmps19
      go_wp2_with fail
      refine HN.out.mono ?_
      rintro e w2 ⟨rfl, hw⟩
      subst w2
      go_wp2_with fail
      refine HI.out.mono ?_
      rintro e w2 ⟨rfl, hw⟩
      subst w2
      go_wp2_with fail
      go_ret2
      exact ⟨rfl, rfl⟩
theorem burns_nil (w : World) : Calls Try.prog 33 #[.pointer none] w fun e w' => e = .returned (.int .i64 1) ∧ w' = w := by
  go_enter Try.func33, Try.ntmps33
  go_wp2_with fail
  refine (none_nil w).mono ?_
  rintro e w2 ⟨rfl, hw⟩
  subst w2
  go_wp2_with fail
  go_ret
  exact ⟨rfl, rfl⟩
theorem burns_any (h : DBox w p n room nw sr a len cap fuse) (h1 : 1 ≤ n) (hf1 : -1 ≤ fuse) (hf2 : fuse ≤ 9223372036854775807) : Calls Try.prog 33 #[.pointer (some ⟨p, 0, none⟩)] w fun e w' =>
    e = .returned (.int .i64 (if fuse = 0 then 90 else 0 : Nat)) ∧ DBox w' p n room nw sr a len cap (if 0 < fuse then fuse - 1 else fuse) ∧ Upd w w' [p] := by
  obtain ⟨c0, c1, c34, c35⟩ := h.facts
  have HN := Lib.hid (none_no h h1)
  have f35 := h.frozen 35
  have HB := Lib.hid h
  clear h
  by_cases hf : fuse = 0
  · subst hf
    rw [if_pos rfl, if_neg (by omega)]
    clear hf1 hf2
    go_enter Try.func33, Try.ntmps33
    go_wp2_with fail
    refine HN.out.mono ?_
    rintro e w2 ⟨rfl, hw⟩
    subst w2
    go_wp2_with fail
    go_ret
    exact ⟨rfl, HB.out, Upd.refl _ _⟩
  · rw [if_neg hf]
    by_cases hp : 0 < fuse
    · rw [if_pos hp]
      clear hf
      go_enter Try.func33, Try.ntmps33
      go_wp2_with fail
      refine HN.out.mono ?_
      rintro e w2 ⟨rfl, hw⟩
      subst w2
      go_wp2_with fail
      go_ret
      exact ⟨rfl, HB.out.setFuse _, (Upd.refl _ _).setCell (by simp) _⟩
    · rw [if_neg hp]
      obtain rfl : fuse = -1 := by omega
      clear hf hp hf1 hf2
      go_enter Try.func33, Try.ntmps33
      go_wp2_with fail
      refine HN.out.mono ?_
      rintro e w2 ⟨rfl, hw⟩
      subst w2
      go_wp2_with fail
      go_ret
      exact ⟨rfl, HB.out, Upd.refl _ _⟩
end

end Go.Proofs.Ytickdhlhafifhaa
