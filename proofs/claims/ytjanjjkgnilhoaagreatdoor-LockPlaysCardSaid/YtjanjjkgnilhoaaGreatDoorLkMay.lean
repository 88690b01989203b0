/-
  THE WALKS of path.Prefix, path.Under, lock.May.
-/
import Derived.Test.YtjanjjkgnilhoaaGreatDoorLkPath3
namespace Go.Proofs.YtjanjjkgnilhoaaGreatDoor
open Go.RowKit

theorem empty_L {s : ByteArray} : (s = ⟨#[]⟩) ↔ L s = [] := by
  constructor
  · rintro rfl; rfl
  · intro h
    obtain ⟨d⟩ := s
    have : d = #[] := Array.toList_eq_nil_iff.1 h
    rw [this]
theorem noE {s : ByteArray} (h : ¬ s = ⟨#[]⟩) : s.toList.isEmpty = false := by
  cases k : s.toList with
  | nil => exact absurd (empty_L.2 (by unfold L; rw [← ByteArray.toList_eq]; exact k)) h
  | cons a l => rfl
theorem noE2 {s : ByteArray} (h : ¬ s = ⟨#[]⟩) : (s.toList = []) = False := by
  have := noE h
  apply eq_false
  intro e; rw [e] at this; cases this
theorem pref_eq (s : ByteArray) : Lk.prefB (L s) = (decide (s = ⟨#[]⟩) || Lk.pathB (L s)) := by
  unfold Lk.prefB
  congr 1
  exact decide_eq_decide.2 empty_L.symm

set_option maxHeartbeats 1000000 in
theorem ppref_any (s : ByteArray) (w : World) (hl : Lay w) : Calls Tryz.prog 40 #[.string s] w fun e w' => e = .returned (.bool (Lk.prefB (L s))) ∧ Below w.heap.size w w' := by
  have HC := Lib.hid (pmay_any s w hl)
  have HP := Lib.hid (pref_eq s)
  by_cases h : s = ⟨#[]⟩
  · subst h
    have hp : Lk.prefB (L ⟨#[]⟩) = true := rfl
    rw [hp]
    clear HC HP
    go_enter Tryz.func40, Tryz.ntmps40
    go_wp2_with fail
    go_ret
    exact ⟨rfl, Below.refl _ _⟩
  · have HR : Hid (Lk.prefB (L s) = Lk.pathB (L s)) := Lib.hid (by rw [HP.out, decide_eq_false h]; rfl)
    rw [HR.out]
    generalize Lk.pathB (L s) = b at *
    have hE := noE h
    have hE2 := noE2 h
    clear HP HR h
    go_enter Tryz.func40, Tryz.ntmps40
    go_wp2_with fail
    refine HC.out.mono ?_
    rintro e w1 ⟨rfl, hb⟩
    go_wp2_with fail
    go_ret
    exact ⟨rfl, hb⟩

set_option maxRecDepth 20000 in
set_option maxHeartbeats 1000000 in
theorem under_any (p s : ByteArray) (w : World) (hl : Lay w) : Calls Tryz.prog 56 #[.string p, .string s] w fun e w' => e = .returned (.bool (Lk.under (L p) (L s))) ∧ Below w.heap.size w w' := by
  have HC := Lib.hid (ppref_any p w hl)
  have HL := Lib.hid hl
  clear hl
  cases hp : Lk.prefB (L p) with
  | false =>
    have HR : Hid (Lk.under (L p) (L s) = false) := Lib.hid (by unfold Lk.under; rw [hp]; rfl)
    rw [hp] at HC
    rw [HR.out]
    clear hp HR
    go_enter Tryz.func56, Tryz.ntmps56
    go_wp2_with fail
    refine HC.out.mono ?_
    rintro e w1 ⟨rfl, hb⟩
    go_wp2_with fail
    go_ret
    exact ⟨rfl, hb⟩
  | true =>
    rw [hp] at HC
    have HM : Hid (∀ wz, Below w.heap.size w wz → Calls Tryz.prog 39 #[.string s] wz fun e w' => e = .returned (.bool (Lk.pathB (L s))) ∧ Below wz.heap.size wz w') := Lib.hid (fun wz hb => pmay_any s wz (HL.out.keep hb))
    cases hs : Lk.pathB (L s) with
    | false =>
      have HR : Hid (Lk.under (L p) (L s) = false) := Lib.hid (by unfold Lk.under; rw [hs]; simp)
      rw [hs] at HM
      rw [HR.out]
      clear hp hs HR
      go_enter Tryz.func56, Tryz.ntmps56
      go_wp2_with fail
      refine HC.out.mono ?_
      rintro e w1 ⟨rfl, hb⟩
      go_wp2_with fail
      refine (HM.out _ hb).mono ?_
      rintro e w2 ⟨rfl, hb2⟩
      go_wp2_with fail
      go_ret
      exact ⟨rfl, hb.trans (hb2.mono hb.size)⟩
    | true =>
      rw [hs] at HM
      by_cases h : p = ⟨#[]⟩
      · subst h
        have HR : Hid (Lk.under (L ⟨#[]⟩) (L s) = true) := Lib.hid (by unfold Lk.under; rw [hp, hs]; rfl)
        rw [HR.out]
        clear hp hs HR
        go_enter Tryz.func56, Tryz.ntmps56
        go_wp2_with fail
        refine HC.out.mono ?_
        rintro e w1 ⟨rfl, hb⟩
        go_wp2_with fail
        refine (HM.out _ hb).mono ?_
        rintro e w2 ⟨rfl, hb2⟩
        go_wp2_with fail
        go_ret
        exact ⟨rfl, hb.trans (hb2.mono hb.size)⟩
      · have hpb : Lk.pathB (L p) = true := by rw [pref_eq, decide_eq_false h] at hp; exact hp
        have hsz : p.size ≤ 128 := by
          unfold Lk.pathB at hpb
          simp only [Bool.and_eq_true, decide_eq_true_eq] at hpb
          rw [L_size] at hpb; exact hpb.1.1
        have hszI : (p.size : Int) ≤ 128 := by omega
        have HR : Hid (Lk.under (L p) (L s) = Lib.hasPrefix s.data.toList (p ++ ⟨#[47]⟩ : ByteArray).data.toList) := Lib.hid (by
          unfold Lk.under
          rw [hp, hs, decide_eq_false (fun e => h (empty_L.2 e))]
          simp [Lib.hasPrefix, L])
        have HH := Lib.hid (fun wz => Tryz.strings_HasPrefix s (p ++ ⟨#[47]⟩ : ByteArray) wz)
        rw [HR.out]
        have hE := noE h
        have hE2 := noE2 h
        generalize Lib.hasPrefix s.data.toList (p ++ ⟨#[47]⟩ : ByteArray).data.toList = b at *
        clear hp hs hpb HR h
        go_enter Tryz.func56, Tryz.ntmps56
        go_wp2_with fail
        refine HC.out.mono ?_
        rintro e w1 ⟨rfl, hb⟩
        go_wp2_with fail
        refine (HM.out _ hb).mono ?_
        rintro e w2 ⟨rfl, hb2⟩
        go_wp2_with fail
        refine (HH.out _).mono ?_
        rintro e w3 ⟨rfl, rfl⟩
        go_wp2_with fail
        go_ret
        exact ⟨rfl, hb.trans (hb2.mono hb.size)⟩

/-- A lock, as a machine holds it. -/
structure LV where
  kind : Nat
  p : ByteArray
  frm : Nat
  top : Nat
instance : Inhabited LV := ⟨⟨0, ⟨#[]⟩, 0, 0⟩⟩
def LV.l (x : LV) : Lk.L := ⟨x.kind, L x.p, x.frm, x.top⟩
def LV.cells (x : LV) : List Value := [.int .u8 x.kind, .string x.p, .int .u64 x.frm, .int .u64 x.top]
abbrev LV.val (x : LV) : Value := .agg #[.int .u8 x.kind, .string x.p, .int .u64 x.frm, .int .u64 x.top]
structure okL (x : LV) : Prop where
  kind : x.kind < 256
  frm : x.frm < 18446744073709551616
  top : x.top < 18446744073709551616

set_option maxRecDepth 20000 in
set_option maxHeartbeats 1000000 in
theorem lmay_any (x : LV) (ok : okL x) (w : World) (hl : Lay w) : Calls Tryz.prog 23 #[x.val] w fun e w' => e = .returned (.bool (Lk.may x.l)) ∧ Below w.heap.size w w' := by
  obtain ⟨k, p, f, t⟩ := x
  have hk := ok.kind
  have hf := ok.frm
  have ht := ok.top
  simp only at hk hf ht
  have hkI : (0 : Int) ≤ k ∧ (k : Int) < 256 := by omega
  have hfI : (0 : Int) ≤ f ∧ (f : Int) < 18446744073709551616 := by omega
  have htI : (0 : Int) ≤ t ∧ (t : Int) < 18446744073709551616 := by omega
  have HM : Hid (∀ wz, Below w.heap.size w wz → Calls Tryz.prog 39 #[.string p] wz fun e w' => e = .returned (.bool (Lk.pathB (L p))) ∧ Below wz.heap.size wz w') := Lib.hid (fun wz hb => pmay_any p wz (hl.keep hb))
  have HP : Hid (∀ wz, Below w.heap.size w wz → Calls Tryz.prog 40 #[.string p] wz fun e w' => e = .returned (.bool (Lk.prefB (L p))) ∧ Below wz.heap.size wz w') := Lib.hid (fun wz hb => ppref_any p wz (hl.keep hb))
  have HO := Lib.hid ((Own.refl w).alloc (.cells #[.int .u8 k, .string p, .int .u64 f, .int .u64 t] 25 (0, 0)))
  have hmay : Lk.may (LV.l ⟨k, p, f, t⟩) = (decide (f ≤ t) && ((decide (k = 1) || decide (k = 2)) && (Lk.pathB (L p) && decide (f = t)) || decide (k = 3) && (Lk.prefB (L p) && decide (f = 0) && decide (t = 0)) || decide (k = 4) && decide (L p = []))) := rfl
  have HMY := Lib.hid hmay
  clear ok hl hmay hf ht
  by_cases hft : f ≤ t
  · have hftI : (f : Int) ≤ t := by omega
    have HQ : Hid (Lk.may (LV.l ⟨k, p, f, t⟩) = ((decide (k = 1) || decide (k = 2)) && (Lk.pathB (L p) && decide (f = t)) || decide (k = 3) && (Lk.prefB (L p) && decide (f = 0) && decide (t = 0)) || decide (k = 4) && decide (L p = []))) := Lib.hid (by rw [HMY.out, decide_eq_true hft, Bool.true_and])
    clear hft HMY
    by_cases h12 : k = 1 ∨ k = 2
    · have HR : Hid (Lk.may (LV.l ⟨k, p, f, t⟩) = (Lk.pathB (L p) && decide (f = t))) := Lib.hid (by rw [HQ.out]; rcases h12 with rfl | rfl <;> simp)
      rw [HR.out]
      have h1I : ((k : Int) == 1) = true ∨ ((k : Int) == 1) = false ∧ ((k : Int) == 2) = true := by rcases h12 with rfl | rfl; exact .inl rfl; exact .inr ⟨rfl, rfl⟩
      generalize Lk.pathB (L p) = b at *
      have hee : decide (f = t) = ((f : Int) == t) := by rw [Bool.eq_iff_iff, decide_eq_true_eq, beq_iff_eq]; omega
      rw [hee]
      clear HQ HR h12 hee HP
      rcases h1I with h1 | ⟨h1, h2⟩
      all_goals
        go_enter Tryz.func23, Tryz.ntmps23
        go_wp2_with fail
        refine (HM.out _ HO.out.below).mono ?_
        rintro e w1 ⟨rfl, hb⟩
        have HO1 := Lib.hid (HO.out.trans hb)
        have hX := hb.block w.heap.size (by simp)
        rw [heap_alloc_new] at hX
        have c2 : w1.cell? ⟨w.heap.size, 2, none⟩ = some (.int .u64 f) := by rw [cell_of_row _ _ _ _ _ _ hX]; rfl
        have c3 : w1.cell? ⟨w.heap.size, 3, none⟩ = some (.int .u64 t) := by rw [cell_of_row _ _ _ _ _ _ hX]; rfl
        clear hb hX
        cases b with
        | true =>
          go_wp2_with fail
          go_ret
          exact ⟨rfl, HO1.out.below⟩
        | false =>
          go_wp2_with fail
          go_ret
          exact ⟨rfl, HO1.out.below⟩
    by_cases h3 : k = 3
    · subst h3
      have HR : Hid (Lk.may (LV.l ⟨3, p, f, t⟩) = (Lk.prefB (L p) && decide (f = 0) && decide (t = 0))) := Lib.hid (by rw [HQ.out]; simp)
      rw [HR.out]
      generalize Lk.prefB (L p) = b at *
      have he1 : decide (f = 0) = ((f : Int) == 0) := by rw [Bool.eq_iff_iff, decide_eq_true_eq, beq_iff_eq]; omega
      have he2 : decide (t = 0) = ((t : Int) == 0) := by rw [Bool.eq_iff_iff, decide_eq_true_eq, beq_iff_eq]; omega
      rw [he1, he2]
      have e3 : ((3 : Nat) : Int) = 3 := rfl
      rw [e3] at *
      clear HQ HR he1 he2 h12 e3 HM
      go_enter Tryz.func23, Tryz.ntmps23
      go_wp2_with fail
      refine (HP.out _ HO.out.below).mono ?_
      rintro e w1 ⟨rfl, hb⟩
      have HO1 := Lib.hid (HO.out.trans hb)
      have hX := hb.block w.heap.size (by simp)
      rw [heap_alloc_new] at hX
      have c2 : w1.cell? ⟨w.heap.size, 2, none⟩ = some (.int .u64 f) := by rw [cell_of_row _ _ _ _ _ _ hX]; rfl
      have c3 : w1.cell? ⟨w.heap.size, 3, none⟩ = some (.int .u64 t) := by rw [cell_of_row _ _ _ _ _ _ hX]; rfl
      clear hb hX
      cases b with
      | true =>
        go_wp2_with fail
        all_goals
          go_ret
          refine ⟨?_, HO1.out.below⟩
          congr 1
          show Value.bool _ = Value.bool _
          congr 1
          simp_all
      | false =>
        go_wp2_with fail
        go_ret
        exact ⟨rfl, HO1.out.below⟩
    by_cases h4 : k = 4
    · subst h4
      have HR : Hid (Lk.may (LV.l ⟨4, p, f, t⟩) = decide (L p = [])) := Lib.hid (by rw [HQ.out]; simp)
      rw [HR.out]
      have e4 : ((4 : Nat) : Int) = 4 := rfl
      rw [e4] at *
      clear HQ HR h12 h3 e4 HM HP
      by_cases h : p = ⟨#[]⟩
      · subst h
        go_enter Tryz.func23, Tryz.ntmps23
        go_wp2_with fail
        go_ret
        exact ⟨rfl, HO.out.below⟩
      · have hE := noE h
        have hE2 := noE2 h
        rw [decide_eq_false (fun e => h (empty_L.2 e))]
        clear h
        go_enter Tryz.func23, Tryz.ntmps23
        go_wp2_with fail
        go_ret
        exact ⟨by rw [← hE]; rfl, HO.out.below⟩
    · have HR : Hid (Lk.may (LV.l ⟨k, p, f, t⟩) = false) := Lib.hid (by rw [HQ.out, decide_eq_false (fun e => h12 (.inl e)), decide_eq_false (fun e => h12 (.inr e)), decide_eq_false h3, decide_eq_false h4]; rfl)
      rw [HR.out]
      have n1 : ((k : Int) == 1) = false := by rw [beq_eq_false_iff_ne]; omega
      have n2 : ((k : Int) == 2) = false := by rw [beq_eq_false_iff_ne]; omega
      have n3 : ((k : Int) == 3) = false := by rw [beq_eq_false_iff_ne]; omega
      have n4 : ((k : Int) == 4) = false := by rw [beq_eq_false_iff_ne]; omega
      clear HQ HR h12 h3 h4 HM HP
      go_enter Tryz.func23, Tryz.ntmps23
      go_wp2_with fail
      go_ret
      exact ⟨rfl, HO.out.below⟩
  · have hftI : (t : Int) < f := by omega
    have HR : Hid (Lk.may (LV.l ⟨k, p, f, t⟩) = false) := Lib.hid (by rw [HMY.out, decide_eq_false hft]; rfl)
    rw [HR.out]
    clear HR HMY hft
    go_enter Tryz.func23, Tryz.ntmps23
    go_wp2_with fail
    go_ret
    exact ⟨rfl, HO.out.below⟩

end Go.Proofs.YtjanjjkgnilhoaaGreatDoor
