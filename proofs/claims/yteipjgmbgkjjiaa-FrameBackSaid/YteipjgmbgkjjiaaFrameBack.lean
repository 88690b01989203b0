/-
  THE WALK of the statement FrameBack.
-/
import Derived.Test.YteipjgmbgkjjiaaFrameAlive
import Derived.Laws.StructEq
set_option linter.unusedVariables false
set_option linter.unusedSimpArgs false
namespace Go.Proofs.Yteipjgmbgkjjiaa
open Go.RowKit

theorem str_ne {a b : ByteArray} (h : L a ≠ L b) : ¬ a.toList = b.toList := by rw [ByteArray.toList_eq, ByteArray.toList_eq]; exact h
theorem str_beq {a b : ByteArray} (h : L a ≠ L b) : (a.toList == b.toList) = false := beq_eq_false_iff_ne.2 (str_ne h)
theorem str_inj {a b : ByteArray} (h : L a = L b) : a = b := Go.WideShapes.bytes_inj h
/-- No frame begins with another one's. -/
theorem enc_apart (n1 n2 : Nat) (t1 t2 : List UInt8) (hn1 : n1 < Frm.M64) (hn2 : n2 < Frm.M64) (h1 : t1.length ≤ 65536) (h2 : t2.length ≤ 65536) (h : (Frm.enc n2 t2).take (Frm.enc n1 t1).length = Frm.enc n1 t1) : n1 = n2 ∧ t1 = t2 := by
  have e : Frm.enc n2 t2 = Frm.enc n1 t1 ++ (Frm.enc n2 t2).drop (Frm.enc n1 t1).length := by
    conv => lhs; rw [← List.take_append_drop (Frm.enc n1 t1).length (Frm.enc n2 t2), h]
  have d1 := Frm.dec_enc n1 t1 ((Frm.enc n2 t2).drop (Frm.enc n1 t1).length) hn1 h1
  have d2 := Frm.dec_enc n2 t2 [] hn2 h2
  rw [List.append_nil] at d2
  rw [← e, d2] at d1
  simp only [Frm.Dec.mk.injEq, Frm.Rec.mk.injEq] at d1
  exact ⟨d1.1.1.symm, d1.1.2.symm⟩

set_option maxHeartbeats 4000000 in
theorem frameBack_any (n1 n2 : Nat) (t1 t2 s : ByteArray) (w : World) (hn1 : n1 < 18446744073709551616) (hn2 : n2 < 18446744073709551616) (ht1 : t1.size ≤ 140737488351232) (ht2 : t2.size ≤ 140737488351232) (hs : s.size ≤ 140737488351232) :
    Calls Try.prog 6 #[.agg #[.int .u64 n1, .string t1], .agg #[.int .u64 n2, .string t2], .string s] w fun e w' => e = .returned (.bool true) ∧ Below w.heap.size w w' := by
  have hO := ((Own.refl w).alloc (.cells #[.int .u64 n1, .string t1] 24)).alloc (.cells #[.int .u64 n2, .string t2] 24)
  by_cases hlong : 4096 < t1.size + t2.size
  · have hl : (4096 : Int) < t1.size + t2.size := by omega
    go_enter Try.func6, Try.ntmps6
    go_wp2_with fail
    refine (alive10 _).mono ?_
    rintro e w1 ⟨rfl, hb1⟩
    replace hO := hO.trans hb1
    clear hb1
    go_wp2_with fail
    go_ret
    exact ⟨rfl, hO.below⟩
  by_cases hlong2 : 4096 < s.size
  · have hl : ¬ (4096 : Int) < t1.size + t2.size := by omega
    have hl2 : (4096 : Int) < s.size := by omega
    go_enter Try.func6, Try.ntmps6
    go_wp2_with fail
    refine (alive10 _).mono ?_
    rintro e w1 ⟨rfl, hb1⟩
    replace hO := hO.trans hb1
    clear hb1
    go_wp2_with fail
    go_ret
    exact ⟨rfl, hO.below⟩
  have hl : (t1.size : Int) + t2.size ≤ 4096 := by omega
  have hl2 : (s.size : Int) ≤ 4096 := by omega
  have HE1 := Lib.hid (fun w => frame_enc n1 t1 w hn1 (by omega))
  have HE2 := Lib.hid (fun w => frame_enc n2 t2 w hn2 (by omega))
  have hz1 : (S (Frm.enc n1 (L t1))).size = 16 + t1.size := by rw [S_size, Frm.enc_length, L_size]
  have hz2 : (S (Frm.enc n2 (L t2))).size = 16 + t2.size := by rw [S_size, Frm.enc_length, L_size]
  have hL1 : L (S (Frm.enc n1 (L t1))) = Frm.enc n1 (L t1) := rfl
  have hL2 : L (S (Frm.enc n2 (L t2))) = Frm.enc n2 (L t2) := rfl
  generalize S (Frm.enc n1 (L t1)) = E1 at *
  generalize S (Frm.enc n2 (L t2)) = E2 at *
  have HZ1 := Lib.hid hz1
  have HZ2 := Lib.hid hz2
  have HL1 := Lib.hid hL1
  have HL2 := Lib.hid hL2
  clear hz1 hz2 hL1 hL2
  have HH : Hid (n1 < 18446744073709551616 ∧ n2 < 18446744073709551616 ∧ t1.size ≤ 65536 ∧ t2.size ≤ 65536 ∧ s.size ≤ 4096) := Lib.hid (by omega)
  clear hn1 hn2 ht1 ht2 hs hlong hlong2
  go_enter Try.func6, Try.ntmps6
  go_wp2_with fail
  have hg1 := Below.heap_alloc (w.alloc (.cells #[.int .u64 n1, .string t1] 24)) (.cells #[.int .u64 n2, .string t2] 24) w.heap.size (by simp)
  have hg2 := heap_alloc_new (w.alloc (.cells #[.int .u64 n1, .string t1] 24)) (.cells #[.int .u64 n2, .string t2] 24)
  rw [heap_alloc_new] at hg1
  rw [World.size_alloc] at hg2
  refine (HE1.out _).mono ?_
  rintro e w1 ⟨rfl, hb1⟩
  replace hO := hO.trans hb1
  replace hg1 := (hb1.block _ (by simp; omega)).trans hg1
  replace hg2 := (hb1.block _ (by simp)).trans hg2
  have HG1 := Lib.hid hg1
  have HG2 := Lib.hid hg2
  obtain ⟨c0, c1, _, _⟩ := rec_cells hg2
  clear hg1 hg2 hb1
  go_wp2_with fail
  refine (HE2.out _).mono ?_
  rintro e w2 ⟨rfl, hb1⟩
  replace hO := hO.trans hb1
  have hg1 := (hb1.block _ (blk_lt HG1.out)).trans HG1.out
  have hg2 := (hb1.block _ (blk_lt HG2.out)).trans HG2.out
  clear HG1 HG2 c0 c1
  obtain ⟨c0, c1, _, _⟩ := rec_cells hg1
  obtain ⟨d0, d1, _, _⟩ := rec_cells hg2
  clear hg1 hg2 hb1
  have hsame : n1 = n2 ∧ t1 = t2 ∨ ¬ (n1 = n2 ∧ t1 = t2) := Decidable.em _
  rcases hsame with ⟨rfl, rfl⟩ | hne
  · obtain rfl : E1 = E2 := str_inj (by rw [HL1.out, HL2.out])
    clear HL2 HZ2 HE2
    go_wp2_with fail
    by_cases he : (Frm.dec (L s)).err = 0
    · have hok := Frm.dec_ok (L s) he
      have HD := Lib.hid (fun w => dec_s (s := s) w (by have := HH.out.2.2.2.2; omega) (d := Frm.dec (L s)) rfl ((Frm.dec (L s)).r.num : Int) ((Frm.dec (L s)).used : Int) 0 (S (Frm.dec (L s)).r.text) rfl rfl rfl (by rw [he]; rfl))
      generalize Frm.dec (L s) = d at *
      have hE3 : L (S (Frm.enc d.r.num (L (S d.r.text)))) = (L s).take d.used := hok.1
      have HE3 := Lib.hid (fun w => frame_enc d.r.num (S d.r.text) w hok.2.2.2.2 hok.2.2.2.1)
      generalize S (Frm.enc d.r.num (L (S d.r.text))) = E3 at *
      have hul : d.used ≤ s.size := by have := hok.2.2.1; rwa [L_size] at this
      have hz3 : E3.size = d.used := by rw [← L_size, hE3, List.length_take, L_size]; omega
      have hx3 : s.extract 0 E3.size = E3 := str_inj (by rw [L_extract, hE3, hz3])
      have HX3 := Lib.hid hx3
      have HZ3 := Lib.hid hz3
      have hu1 : ((d.used : Int) == (E3.size : Int)) = true := by rw [hz3]; simp
      have hu2 : (d.used : Int) ≤ s.size := by omega
      have hu3 : E3.size ≤ s.size := by omega
      have hu4 : d.used = E3.size := hz3.symm
      have HU4 := Lib.hid hu4
      clear hok hE3 hz3 hx3 hul hu4 he
      refine (HD.out _).mono ?_
      rintro e w3 ⟨rfl, hb1⟩
      replace hO := (hO.trans hb1).alloc (.cells #[.int .u64 d.r.num, .string (S d.r.text)] 24)
      clear hb1
      go_wp2_with fail
      refine (HE3.out _).mono ?_
      rintro e w4 ⟨rfl, hb1⟩
      replace hO := hO.trans hb1
      clear hb1
      have hx3 := HX3.out
      go_wp2_with fail
      refine (alive10 _).mono ?_
      rintro e w5 ⟨rfl, hb1⟩
      replace hO := hO.trans hb1
      clear hb1
      go_wp2_with fail
      go_ret
      exact ⟨rfl, hO.below⟩
    · obtain ⟨hr0, hu0⟩ := Frm.dec_err (L s) he
      have HD := Lib.hid (fun w => dec_s (s := s) w (by have := HH.out.2.2.2.2; omega) (d := Frm.dec (L s)) rfl 0 0 ((Frm.dec (L s)).err : Int) ⟨#[]⟩ (by rw [hr0]; rfl) (by rw [hr0]; rfl) (by rw [hu0]; rfl) rfl)
      have he1 : (((Frm.dec (L s)).err : Int) != 0) = true := by rw [bne_iff_ne]; omega
      generalize (Frm.dec (L s)).err = er at *
      clear hr0 hu0 he
      refine (HD.out _).mono ?_
      rintro e w3 ⟨rfl, hb1⟩
      replace hO := (hO.trans hb1).alloc (.cells #[.int .u64 0, .string ⟨#[]⟩] 24)
      clear hb1
      go_wp2_with fail
      refine (alive10 _).mono ?_
      rintro e w5 ⟨rfl, hb1⟩
      replace hO := hO.trans hb1
      clear hb1
      go_wp2_with fail
      go_ret
      exact ⟨rfl, hO.below⟩
  · have hpre : L (E2.extract 0 E1.size) ≠ L E1 := fun h => by
      rw [L_extract, ← L_size, HL1.out, HL2.out] at h
      obtain ⟨h1, h2⟩ := enc_apart n1 n2 (L t1) (L t2) HH.out.1 HH.out.2.1 (by rw [L_size]; exact HH.out.2.2.1) (by rw [L_size]; exact HH.out.2.2.2.1) h
      exact hne ⟨h1, str_inj h2⟩
    have hee : L E1 ≠ L E2 := fun h => by
      rw [HL1.out, HL2.out] at h
      obtain ⟨h1, h2⟩ := enc_apart n1 n2 (L t1) (L t2) HH.out.1 HH.out.2.1 (by rw [L_size]; exact HH.out.2.2.1) (by rw [L_size]; exact HH.out.2.2.2.1) (by rw [h, List.take_length])
      exact hne ⟨h1, str_inj h2⟩
    have p1 := str_ne hpre
    have p2 := str_beq hpre
    have p3 := str_ne hee
    have p4 := str_beq hee
    clear hpre hee
    by_cases hn : n1 = n2
    · subst hn
      have ht : ¬ t1.toList = t2.toList := str_ne fun h => hne ⟨rfl, str_inj h⟩
      clear hne
      by_cases hle : E1.size ≤ E2.size
      all_goals
        go_wp2_with fail
        by_cases he : (Frm.dec (L s)).err = 0
        · have hok := Frm.dec_ok (L s) he
          have HD := Lib.hid (fun w => dec_s (s := s) w (by have := HH.out.2.2.2.2; omega) (d := Frm.dec (L s)) rfl ((Frm.dec (L s)).r.num : Int) ((Frm.dec (L s)).used : Int) 0 (S (Frm.dec (L s)).r.text) rfl rfl rfl (by rw [he]; rfl))
          generalize Frm.dec (L s) = d at *
          have hE3 : L (S (Frm.enc d.r.num (L (S d.r.text)))) = (L s).take d.used := hok.1
          have HE3 := Lib.hid (fun w => frame_enc d.r.num (S d.r.text) w hok.2.2.2.2 hok.2.2.2.1)
          generalize S (Frm.enc d.r.num (L (S d.r.text))) = E3 at *
          have hul : d.used ≤ s.size := by have := hok.2.2.1; rwa [L_size] at this
          have hz3 : E3.size = d.used := by rw [← L_size, hE3, List.length_take, L_size]; omega
          have hx3 : s.extract 0 E3.size = E3 := str_inj (by rw [L_extract, hE3, hz3])
          have HX3 := Lib.hid hx3
          have HZ3 := Lib.hid hz3
          have hu1 : ((d.used : Int) == (E3.size : Int)) = true := by rw [hz3]; simp
          have hu2 : (d.used : Int) ≤ s.size := by omega
          have hu3 : E3.size ≤ s.size := by omega
          have hu4 : d.used = E3.size := hz3.symm
          have HU4 := Lib.hid hu4
          clear hok hE3 hz3 hx3 hul hu4 he
          refine (HD.out _).mono ?_
          rintro e w3 ⟨rfl, hb1⟩
          replace hO := (hO.trans hb1).alloc (.cells #[.int .u64 d.r.num, .string (S d.r.text)] 24)
          clear hb1
          go_wp2_with fail
          refine (HE3.out _).mono ?_
          rintro e w4 ⟨rfl, hb1⟩
          replace hO := hO.trans hb1
          clear hb1
          have hx3 := HX3.out
          go_wp2_with fail
          refine (alive10 _).mono ?_
          rintro e w5 ⟨rfl, hb1⟩
          replace hO := hO.trans hb1
          clear hb1
          go_wp2_with fail
          go_ret
          exact ⟨rfl, hO.below⟩
        · obtain ⟨hr0, hu0⟩ := Frm.dec_err (L s) he
          have HD := Lib.hid (fun w => dec_s (s := s) w (by have := HH.out.2.2.2.2; omega) (d := Frm.dec (L s)) rfl 0 0 ((Frm.dec (L s)).err : Int) ⟨#[]⟩ (by rw [hr0]; rfl) (by rw [hr0]; rfl) (by rw [hu0]; rfl) rfl)
          have he1 : (((Frm.dec (L s)).err : Int) != 0) = true := by rw [bne_iff_ne]; omega
          generalize (Frm.dec (L s)).err = er at *
          clear hr0 hu0 he
          refine (HD.out _).mono ?_
          rintro e w3 ⟨rfl, hb1⟩
          replace hO := (hO.trans hb1).alloc (.cells #[.int .u64 0, .string ⟨#[]⟩] 24)
          clear hb1
          go_wp2_with fail
          refine (alive10 _).mono ?_
          rintro e w5 ⟨rfl, hb1⟩
          replace hO := hO.trans hb1
          clear hb1
          go_wp2_with fail
          go_ret
          exact ⟨rfl, hO.below⟩
    · have hn : ¬ (n1 : Int) = (n2 : Int) := by omega
      clear hne
      by_cases hle : E1.size ≤ E2.size
      all_goals
        go_wp2_with fail
        by_cases he : (Frm.dec (L s)).err = 0
        · have hok := Frm.dec_ok (L s) he
          have HD := Lib.hid (fun w => dec_s (s := s) w (by have := HH.out.2.2.2.2; omega) (d := Frm.dec (L s)) rfl ((Frm.dec (L s)).r.num : Int) ((Frm.dec (L s)).used : Int) 0 (S (Frm.dec (L s)).r.text) rfl rfl rfl (by rw [he]; rfl))
          generalize Frm.dec (L s) = d at *
          have hE3 : L (S (Frm.enc d.r.num (L (S d.r.text)))) = (L s).take d.used := hok.1
          have HE3 := Lib.hid (fun w => frame_enc d.r.num (S d.r.text) w hok.2.2.2.2 hok.2.2.2.1)
          generalize S (Frm.enc d.r.num (L (S d.r.text))) = E3 at *
          have hul : d.used ≤ s.size := by have := hok.2.2.1; rwa [L_size] at this
          have hz3 : E3.size = d.used := by rw [← L_size, hE3, List.length_take, L_size]; omega
          have hx3 : s.extract 0 E3.size = E3 := str_inj (by rw [L_extract, hE3, hz3])
          have HX3 := Lib.hid hx3
          have HZ3 := Lib.hid hz3
          have hu1 : ((d.used : Int) == (E3.size : Int)) = true := by rw [hz3]; simp
          have hu2 : (d.used : Int) ≤ s.size := by omega
          have hu3 : E3.size ≤ s.size := by omega
          have hu4 : d.used = E3.size := hz3.symm
          have HU4 := Lib.hid hu4
          clear hok hE3 hz3 hx3 hul hu4 he
          refine (HD.out _).mono ?_
          rintro e w3 ⟨rfl, hb1⟩
          replace hO := (hO.trans hb1).alloc (.cells #[.int .u64 d.r.num, .string (S d.r.text)] 24)
          clear hb1
          go_wp2_with fail
          refine (HE3.out _).mono ?_
          rintro e w4 ⟨rfl, hb1⟩
          replace hO := hO.trans hb1
          clear hb1
          have hx3 := HX3.out
          go_wp2_with fail
          refine (alive10 _).mono ?_
          rintro e w5 ⟨rfl, hb1⟩
          replace hO := hO.trans hb1
          clear hb1
          go_wp2_with fail
          go_ret
          exact ⟨rfl, hO.below⟩
        · obtain ⟨hr0, hu0⟩ := Frm.dec_err (L s) he
          have HD := Lib.hid (fun w => dec_s (s := s) w (by have := HH.out.2.2.2.2; omega) (d := Frm.dec (L s)) rfl 0 0 ((Frm.dec (L s)).err : Int) ⟨#[]⟩ (by rw [hr0]; rfl) (by rw [hr0]; rfl) (by rw [hu0]; rfl) rfl)
          have he1 : (((Frm.dec (L s)).err : Int) != 0) = true := by rw [bne_iff_ne]; omega
          generalize (Frm.dec (L s)).err = er at *
          clear hr0 hu0 he
          refine (HD.out _).mono ?_
          rintro e w3 ⟨rfl, hb1⟩
          replace hO := (hO.trans hb1).alloc (.cells #[.int .u64 0, .string ⟨#[]⟩] 24)
          clear hb1
          go_wp2_with fail
          refine (alive10 _).mono ?_
          rintro e w5 ⟨rfl, hb1⟩
          replace hO := hO.trans hb1
          clear hb1
          go_wp2_with fail
          go_ret
          exact ⟨rfl, hO.below⟩

end Go.Proofs.Yteipjgmbgkjjiaa
