/-
  THE WALK of the statement FrameLong.
-/
import Derived.Test.YteipjgmbgkjjiaaFrameAlive
set_option linter.unusedVariables false
set_option linter.unusedSimpArgs false
namespace Go.Proofs.Yteipjgmbgkjjiaa
open Go.RowKit

/-- Zeros, as a text. -/
def Zs (n : Nat) : ByteArray := S (List.replicate n 0)
theorem Zs_size (n : Nat) : (Zs n).size = n := by unfold Zs; rw [S_size, List.length_replicate]
theorem conv_zeros (w : World) (n : Nat) :
    (convert 53 9 (.slice (some ⟨w.heap.size, 0, none⟩) n n)).run Try.prog (w.alloc (.cells (zeroCells n) 5)) = .ok (.string (Zs n)) (w.alloc (.cells (zeroCells n) 5)) := by
  refine run_string_of (P := Try.prog) _ 53 9 5 w.heap.size n (List.replicate n 0) _ _ _ n (by simp) Try.und32 Try.und5 Try.und9 (heap_alloc_new w _) ?_
  intro j hj
  rw [zeroCells_row, byteRow_get _ _ _ hj]

theorem conv_kept {W w2 : World} (n g : Nat) (hb : Below W.heap.size W w2) (hg : W.heap[g]? = some (.cells (zeroCells n) 5 (0, 0))) :
    (convert 53 9 (.slice (some ⟨g, 0, none⟩) n n)).run Try.prog w2 = .ok (.string (Zs n)) w2 := by
  refine run_string_of (P := Try.prog) _ 53 9 5 g n (List.replicate n 0) _ _ _ n (by simp) Try.und32 Try.und5 Try.und9 ((hb.block g (blk_lt hg)).trans hg) ?_
  intro j hj
  rw [zeroCells_row, byteRow_get _ _ _ hj]
theorem make20 (w : World) : (Instr.makeSlice 53 (.int .i64 20) (.int .i64 20)).run Try.prog w = .ok (.slice (some ⟨w.heap.size, 0, none⟩) 20 20) (w.alloc (.cells (zeroCells 20) 5)) :=
  run_make_bytes (P := Try.prog) w 53 5 20 Try.und32 (by kernel_rfl) (by omega)
theorem dec_too_long (n : Nat) (h1 : 65536 < n) (h2 : n < 4294967296) : Frm.dec (L (S (Frm.be 4 n) ++ Zs 20)) = ⟨Frm.rec0, 0, 5⟩ := by
  have e : (L (S (Frm.be 4 n) ++ Zs 20)).take 4 = Frm.be 4 n := by
    rw [L_append, L_S]; exact Frm.take_app _ _ _ (Frm.be_length _ _)
  have hn := Frm.num_be 4 n (by decide) (by rw [show 256 ^ 4 = 4294967296 from by decide]; exact h2)
  have hl : (L (S (Frm.be 4 n) ++ Zs 20)).length = 24 := by rw [L_size, ByteArray.size_append, S_size, Frm.be_length, Zs_size]
  unfold Frm.dec
  rw [hl, e, hn, if_neg (by decide), if_pos h1]

theorem bcell {W w1 : World} (hb : Below W.heap.size W w1) : (∀ b o, b < W.heap.size → w1.cell? ⟨b, o, none⟩ = W.cell? ⟨b, o, none⟩) ∧ (∀ b o, b < W.heap.size → w1.frozen? ⟨b, o, none⟩ = W.frozen? ⟨b, o, none⟩) ∧ (∀ b : Nat, b < W.heap.size → ¬ b = w1.heap.size) ∧ W.heap.size ≤ w1.heap.size :=
  ⟨fun b o h => hb.cell (p := ⟨b, o, none⟩) h, fun b o h => hb.frozen (p := ⟨b, o, none⟩) h, fun b h => by have := hb.size; omega, hb.size⟩
/-- In block g lie twenty zeros. -/
def IsZ (W : World) (g : Nat) : Prop := W.heap[g]? = some (.cells (zeroCells 20) 5 (0, 0))
theorem isZ_new (W : World) (g : Nat) (h : g = W.heap.size) : IsZ (W.alloc (.cells (zeroCells 20) 5)) g = True := by
  subst h; unfold IsZ; rw [heap_alloc_new]; simp
theorem isZ_drew (W : World) (g : Nat) : IsZ W.drew g = IsZ W g := rfl
theorem isZ_old (W : World) (o : Obj) (k : Nat) (h : k ≠ W.heap.size) : IsZ (W.alloc o) k = IsZ W k := by
  unfold IsZ
  rcases Nat.lt_or_ge k W.heap.size with h1 | h1
  · rw [Below.heap_alloc W o k h1]
  · rw [Array.getElem?_eq_none (by simp; omega), Array.getElem?_eq_none h1]
theorem isZ_below {W w1 : World} (hb : Below W.heap.size W w1) : ∀ b, b < W.heap.size → IsZ w1 b = IsZ W b := fun b h => by unfold IsZ; rw [hb.block b h]
noncomputable def badRun (W : World) (g : Nat) : Result Value := (convert 53 9 (.slice (some ⟨g, 0, none⟩) 20 20)).run Try.prog W
open Classical in
theorem conv20 (W : World) (g : Nat) :
    (convert 53 9 (.slice (some ⟨g, 0, none⟩) 20 20)).run Try.prog W = if IsZ W g then .ok (.string (Zs 20)) W else badRun W g := by
  by_cases hg : IsZ W g
  · rw [if_pos hg]; exact conv_kept 20 g (Below.refl _ _) hg
  · rw [if_neg hg]; rfl
section
attribute [local go_sem] isZ_new isZ_old isZ_drew conv20
set_option maxHeartbeats 4000000 in
theorem frameLong_any (a : Int) (w : World) (ha : -128 ≤ a ∧ a ≤ 127) :
    Calls Try.prog 7 #[.int .i8 a] w fun e w' => e = .returned (.bool true) ∧ Below w.heap.size w w' := by
  obtain ⟨n, hn⟩ : ∃ n : Nat, (65536 : Int) + a = n := ⟨(65536 + a).toNat, by omega⟩
  have hnI : 65408 ≤ (n : Int) ∧ (n : Int) ≤ 65663 := by omega
  have hmk := run_make_bytes (P := Try.prog) w 53 5 n Try.und32 (by kernel_rfl) (by omega)
  have hcv := conv_zeros w n
  have hO := (Own.refl w).alloc (.cells (zeroCells n) 5)
  go_enter Try.func7, Try.ntmps7
  go_wp2_with fail
  have hz := Zs_size n
  by_cases hp : 0 < a
  · have HE := Lib.hid (fun w => frame_enc_long 1 (Zs n) w (by omega) (by omega))
    have HD := Lib.hid (fun w => dec_s (s := S (Frm.be 4 n) ++ Zs 20) w (by rw [ByteArray.size_append, S_size, Frm.be_length, Zs_size]; decide) (dec_too_long n (by omega) (by omega)) 0 0 5 ⟨#[]⟩ rfl rfl rfl rfl)
    have hnil : (S []).toList.isEmpty = true := by rw [ByteArray.toList_eq]; rfl
    have HB := Lib.hid (show ∀ w, Calls Try.prog 11 #[.int .u64 (IntKind.u64.wrap (n : Int)), .int .i64 4] w fun e w' => e = .returned (.string (S (Frm.be 4 n))) ∧ Below w.heap.size w w' from fun w => by
      rw [show IntKind.u64.wrap (n : Int) = n from by rw [IntKind.wrap_u64]; omega]
      exact ref_bytes4 n w (by omega))
    have hcs : ¬ 9223372036854775807 < (S (Frm.be 4 n)).size + (Zs 20).size := by rw [S_size, Frm.be_length, Zs_size]; decide
    have hm20 := make20
    have hap : ¬ a ≤ 0 := by omega
    clear hz hmk hcv
    generalize Zs n = Z at *
    refine (HE.out _).mono ?_
    rintro e w1 ⟨rfl, hb1⟩
    replace hO := hO.trans hb1
    clear hb1
    go_wp2_with fail
    generalize S (Frm.be 4 n) = N4 at *
    go_region_with (first
      | (go_at_call 11; (with_reducible refine (HB.out _).mono ?_); rintro e w2 ⟨rfl, hb2⟩; have HO2 : Hid (Own w.heap.size w w2) := Lib.hid (Own.trans (by first | exact hO.drew | exact (hO.alloc _).drew | exact ((hO.alloc _).alloc _).drew) hb2); obtain ⟨hc2, hf2, hh2, hs2⟩ := bcell hb2; have hz2 := isZ_below hb2; (try simp at hs2); (try replace hs2 := Nat.lt_of_succ_le hs2); (try (have hq2 := Nat.lt_of_succ_lt hs2)); clear hb2)
      | (go_at_call 14; (with_reducible refine (HD.out _).mono ?_); rintro e w3 ⟨rfl, hb3⟩; have HO3 : Hid (Own w.heap.size w w3) := Lib.hid (Own.trans (by first | exact HO2.out | exact HO2.out.alloc _ | exact (HO2.out.alloc _).alloc _) hb3); obtain ⟨hc3, hf3, hh3, hs3⟩ := bcell hb3; have hz3 := isZ_below hb3; (try simp at hs3); (try replace hs3 := Nat.lt_of_succ_le hs3); (try (have hq3 := Nat.lt_of_succ_lt hs3)); clear hb3))
    all_goals
      clear hc2 hf2 hh2 hz2 hc3 hf3 hh3 hz3
      go_wp2_with fail
      refine (alive10 _).mono ?_
      rintro e w4 ⟨rfl, hb4⟩
      have HB4 := Lib.hid hb4
      clear hb4
      go_wp2_with fail
      go_ret
      refine ⟨rfl, (Own.trans ?_ HB4.out).below⟩
      have z1 := hO.size
      have z2 := HO2.out.size
      have z3 := HO3.out.size
      repeat (first | exact HO3.out | exact HO3.out.alloc _ | refine Own.drew ?_ | refine Own.setCell ?_ (by simp <;> omega) _ | refine Own.alloc ?_ _)
  · have hE : L (S (Frm.enc 1 (L (Zs n)))) = Frm.enc 1 (L (Zs n)) := rfl
    have hzl : (L (Zs n)).length = n := by rw [L_size, hz]
    have hez : (S (Frm.enc 1 (L (Zs n)))).size = 16 + n := by rw [S_size, Frm.enc_length, hzl]
    have HE := Lib.hid (fun w => frame_enc 1 (Zs n) w (by decide) (by omega))
    have hde : Frm.dec (L (S (Frm.enc 1 (L (Zs n))))) = ⟨⟨1, L (Zs n)⟩, 16 + n, 0⟩ := by
      have := Frm.dec_enc 1 (L (Zs n)) [] (by decide) (by omega)
      rw [List.append_nil, hzl] at this; exact this
    generalize S (Frm.enc 1 (L (Zs n))) = E at *
    have HD := Lib.hid (fun w => dec_s (s := E) w (by rw [hez]; omega) hde 1 ((16 + n : Nat) : Int) 0 (Zs n) rfl rfl rfl rfl)
    have h1 : ((E.size : Int) == (n : Int) + 16) = true := by rw [hez]; simp; omega
    have h2 : (((16 + n : Nat) : Int) == (E.size : Int)) = true := by rw [hez]; simp
    have h3 : (((Zs n).size : Int) == (n : Int)) = true := by rw [hz]; simp
    have hap : a ≤ 0 := by omega
    clear hE hzl hez hde hz hmk hcv
    refine (HE.out _).mono ?_
    rintro e w1 ⟨rfl, hb1⟩
    replace hO := hO.trans hb1
    clear hb1
    generalize ((16 + n : Nat) : Int) = U at *
    generalize Zs n = Z at *
    go_wp2_with fail
    refine (HD.out _).mono ?_
    rintro e w2 ⟨rfl, hb1⟩
    replace hO := (hO.trans hb1).alloc (.cells #[.int .u64 1, .string Z] 24)
    clear hb1
    go_wp2_with fail
    refine (alive10 _).mono ?_
    rintro e w3 ⟨rfl, hb1⟩
    replace hO := hO.trans hb1
    clear hb1
    go_wp2_with fail
    go_ret
    exact ⟨rfl, hO.below⟩
end

end Go.Proofs.Yteipjgmbgkjjiaa
