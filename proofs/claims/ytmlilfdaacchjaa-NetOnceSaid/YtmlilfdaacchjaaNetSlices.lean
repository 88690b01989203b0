/-
  THE WALKS of slices.Clone and slices.Delete at a message.
-/
import Derived.Test.YtmlilfdaacchjaaNetWalks
import Derived.Deep.RegionLaw
namespace Go.Proofs.Ytmlilfdaacchjaa
open Go.RowKit

theorem Try.gramSl : Try.prog.underlying 29 = some (.slice 33) := by kernel_rfl
theorem Try.gramInfo : (Try.prog.info? 33).map (fun i => (i.zero, i.size, i.bytes)) = some (some (.agg #[.int .u32 0, .int .u32 0, .string ByteArray.empty]), 3, 24) := by kernel_rfl

set_option maxRecDepth 20000 in
set_option maxHeartbeats 1000000 in
theorem gram_clone (w : World) (a : Option Addr) (n cap : Nat) (xs : List Value) (h : SliceIs w 33 3 a n cap xs) (h1 : ∀ u ∈ xs, u.oneCell' = true) (hn : n * 24 ≤ 140737488355328) :
    Calls Try.prog 26 #[.slice a n cap] w fun e w' => SliceOut w 33 3 n xs e w' := by
  rcases h.2 with ⟨rfl, rfl, rfl⟩ | ⟨g, off, cur, rfl, hr⟩
  · have hx : xs = [] := List.eq_nil_of_length_eq_zero (by simpa using h.1)
    subst hx
    clear h h1 hn
    have heq := Lib.run_eql_slice_nil (P := Try.prog) w 29 33 none 0 0 0 0 Try.gramSl
    go_enter Try.func26, Try.ntmps26
    go_wp2
    go_ret
    exact ⟨none, 0, rfl, SliceIs.nil _ _ _, Below.refl _ _, by simp⟩
  · obtain ⟨i0, hi0, hz0, hz1, hz2⟩ := info_parts Try.gramInfo
    have H := Lib.hid h
    have HN := Lib.hid hn
    have H1 := Lib.hid h1
    have HM := Lib.hid h.bound
    have hs0 : SliceIs (w.alloc (.cells #[] 33)) 33 3 (some ⟨w.heap.size, 0, none⟩) 0 0 [] :=
      ⟨by simp, .inr ⟨_, _, _, rfl, heap_alloc_new _ _, by omega, by decide, by simp, by simp⟩⟩
    have HS := Lib.hid hs0
    have heq := Lib.run_eql_slice_nil (P := Try.prog) w 29 33 (some ⟨g, off, none⟩) n cap 0 0 Try.gramSl
    have hB := (Below.refl w.heap.size w).alloc (Nat.le_refl _) (.cells #[] 33)
    have HC : Hid (∀ j u, xs[j]? = some u → (w.alloc (.cells #[] 33)).cell? ((⟨g, off, none⟩ : Addr).add j) = some u) := news_at (h.alloc _).cells
    clear h h1 hn hr hs0
    go_enter Try.func26, Try.ntmps26
    go_wp2_with (at_builtin; (refine wpList_append_slice rfl (.tmp 5) (.tmp 6) 29 rfl 33 i0 _ 3 24 Try.gramSl hi0 hz0 hz1 hz2 rfl (by decide) (some ⟨w.heap.size, 0, none⟩) 0 0 [] rfl HS.out ⟨g, off, none⟩ n cap xs rfl H.out.1 HC.out H1.out (by have := HM.out; omega) (by have := HN.out; omega) ?_; intro s' cap' w1 hs hu hb))
    simp only [Nat.zero_add, List.nil_append] at hs
    have HS1 := Lib.hid hs
    have HU := Lib.hid hu
    have HB := Lib.hid hb
    clear hs hu hb
    go_ret
    refine ⟨s', cap', rfl, HS1.out, ?_, ?_⟩
    · have u1 := Upd.of_below [] hB
      exact (u1.trans HU.out (fun x hx => by simp at hx; omega)).below
    · intro k hk
      rcases HB.out k hk with h | h
      · simp at h; omega
      · simp at h; omega

set_option maxRecDepth 20000 in
set_option maxHeartbeats 2000000 in
theorem gram_delete (w : World) (a : Option Addr) (n cap i : Nat) (xs : List Value) (h : SliceIs w 33 3 a n cap xs) (h1 : ∀ u ∈ xs, u.oneCell' = true) (hi : i < n) (hlen : n ≤ 4611686018427387904) :
    Calls Try.prog 22 #[.slice a n cap, .int .i64 i, .int .i64 ((i : Int) + 1)] w fun e w' => SliceCut w 33 3 a (n - 1) cap (xs.take (i * 3) ++ xs.drop ((i + 1) * 3)) e w' := by
  obtain ⟨g, off, rfl⟩ := h.there (by omega)
  obtain ⟨i0, hi0, hz0, hz1, hz2⟩ := info_parts Try.gramInfo
  have hb := h.bound
  have hsize : ∀ w, (sizeOf 33).run Try.prog w = .ok 3 w := fun w => by kernel_rfl
  -- where the second part begins
  obtain ⟨src, hsrc, hnews⟩ : ∃ src : Addr, cutAddr (some ⟨g, off, none⟩) cap (i + 1) 3 = some src ∧ (∀ j u, (xs.drop ((i + 1) * 3))[j]? = some u → w.cell? (src.add j) = some u) := by
    have hc := h.cells.sub ((i + 1) * 3) (xs.length - (i + 1) * 3) (by rw [h.1]; omega)
    rw [List.take_of_length_le (by simp)] at hc
    by_cases hcap : cap = i + 1
    · refine ⟨⟨g, off, none⟩, by unfold cutAddr; rw [if_pos hcap], ?_⟩
      intro j u hj
      have : xs.drop ((i + 1) * 3) = [] := List.drop_eq_nil_of_le (by rw [h.1]; omega)
      rw [this] at hj; cases hj
    · exact ⟨⟨g, off + (i + 1) * 3, none⟩, cutAddr_ne _ _ _ _ _ hcap, news_at hc⟩
  have hs2 := fun w => run_cut_l (P := Try.prog) w Try.gramSl hsize (some ⟨g, off, none⟩) n cap (i + 1) ((i : Int) + 1) (by omega) (by omega)
  rw [hsrc] at hs2
  have hs1 := fun w => run_cut_h (P := Try.prog) w Try.gramSl hsize (some ⟨g, off, none⟩) n cap i (i : Int) rfl (by omega)
  have hs0 := fun w => run_cut_lhm (P := Try.prog) w Try.gramSl hsize (some ⟨g, off, none⟩) n cap i (i + 1) n (i : Int) ((i : Int) + 1) (n : Int) rfl (by omega) rfl (by omega) (by omega) (by omega)
  have hs3 := fun w => run_cut_lh (P := Try.prog) w Try.gramSl hsize (some ⟨g, off, none⟩) (n - 1) cap (n - 1) n ((n - 1 : Nat) : Int) (n : Int) rfl rfl (by omega) (by omega)
  rw [cutAddr_ne _ _ _ _ _ (by omega)] at hs3
  have hne : ((i : Int) == (i : Int) + 1) = false := beq_eq_false_iff_ne.2 (by omega)
  have HT := Lib.hid (h.take i (by omega))
  have HL : Hid ((xs.drop ((i + 1) * 3)).length = (n - (i + 1)) * 3) := Lib.hid (by rw [List.length_drop, h.1]; omega)
  have HN := Lib.hid hnews
  have H1 : Hid (∀ u ∈ xs.drop ((i + 1) * 3), u.oneCell' = true) := Lib.hid fun u hu => h1 u (List.mem_of_mem_drop hu)
  have HB := Lib.hid hb
  have HI := Lib.hid hi
  clear h h1 hnews hb hi hlen hsrc hsize
  go_enter Try.func22, Try.ntmps22
  go_wp2
  go_region_law
    ((refine step_append_fits (by rfl) (.tmp 22) (.tmp 25) 29 (by rfl) 33 i0 3 Try.gramSl hi0 hz1 g off i cap (xs.take (i * 3)) (by rfl) (HT.out.drew) src (n - (i + 1)) (cap - (i + 1)) (xs.drop ((i + 1) * 3)) (by rfl) HL.out (fun j u hj => HN.out j u hj) H1.out (by have := HB.out; have := HI.out; omega) (n - 1) (by have := HI.out; omega) ?_
      intro w1 hs hu
      have HS := Lib.hid hs
      have HU := Lib.hid hu
      clear hs hu))
  all_goals go_wp2_with ((refine wpList_clear_spare rfl (.tmp 31) 29 rfl 33 i0 _ 3 Try.gramSl hi0 hz0 hz1 rfl (by intro v hv; simp [Value.cells] at hv; rcases hv with rfl | rfl | rfl <;> rfl) g off (n - 1) cap (n - (n - 1)) (cap - (n - 1)) _ _ rfl rfl HS.out (by have := HB.out; have := HI.out; omega) ?_; intro w2 hs2 hu2; have HS2 := Lib.hid hs2; have HU2 := Lib.hid hu2; clear hs2 hu2))
  all_goals go_ret
  all_goals exact ⟨rfl, HS2.out, ((Upd.refl w _).drew.trans HU.out (by simp)).trans HU2.out (by simp)⟩

end Go.Proofs.Ytmlilfdaacchjaa
