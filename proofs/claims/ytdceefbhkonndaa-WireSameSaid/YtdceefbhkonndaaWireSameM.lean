/-
  PLAIN LAW of WireSame: what is read is written as itself; unlike lists have unlike bytes. And the walks of 'rest', and of single elements.
-/
import Derived.Test.YtdceefbhkonndaaWireList
namespace Go.Proofs.Ytdceefbhkonndaa
open Go.RowKit

theorem L_ext {a b : ByteArray} (h : L a = L b) : a = b := by rw [← S_L a, ← S_L b, h]
theorem back_eq (s s' : ByteArray) (bs : List UInt8) (n : Nat) (hn : n ≤ s.size) (h : (L s).take n = bs) (hs : s' = s.extract n s.size) : s'.size ≤ s.size ∧ S bs ++ s.extract (s.size - s'.size) s.size = s := by
  have hl : s'.size = s.size - n := by rw [hs, ByteArray.size_extract]; omega
  refine ⟨by omega, L_ext ?_⟩
  rw [L_append, L_S, hl, show s.size - (s.size - n) = n by omega, L_drop, ← h, List.take_append_drop]
theorem uFacts (s : ByteArray) : ∃ (x : Nat) (s' : ByteArray) (e : Nat), uRes s 18446744073709551615 = (x, s', e) ∧ s'.size ≤ s.size ∧ x < 18446744073709551616 ∧ ((e = 0 ∧ S (Wr.uv x) ++ s.extract (s.size - s'.size) s.size = s) ∨ ((e : Int) == 0) = false) := by
  obtain ⟨x, n, e, hr, h⟩ := rd_cases s
  unfold uRes
  rw [hr]
  rcases h with ⟨rfl, h1, h2, h3, h4, h5⟩ | ⟨rfl, rfl, h⟩
  · obtain ⟨h6, h7⟩ := back_eq s _ _ n h2 h5 rfl
    exact ⟨x, s.extract n s.size, 0, by simp only [if_true]; rw [if_neg (by omega)], h6, h4, .inl ⟨rfl, h7⟩⟩
  · refine ⟨0, s, e, ?_, Nat.le_refl _, by decide, .inr (beq_eq_false_iff_ne.2 (by omega))⟩
    simp only []
    rw [if_neg (by omega)]
theorem iFacts (s : ByteArray) : ∃ (v : Int) (s' : ByteArray) (e : Nat), iRes s (-9223372036854775808) 9223372036854775807 = (v, s', e) ∧ s'.size ≤ s.size ∧ (-9223372036854775808 ≤ v ∧ v ≤ 9223372036854775807) ∧ ((e = 0 ∧ S (Wr.uv (Wr.zig v)) ++ s.extract (s.size - s'.size) s.size = s) ∨ ((e : Int) == 0) = false) := by
  obtain ⟨x, n, e, hr, h⟩ := rd_cases s
  unfold iRes
  rw [hr]
  rcases h with ⟨rfl, h1, h2, h3, h4, h5⟩ | ⟨rfl, rfl, h⟩
  · obtain ⟨h6, h7⟩ := back_eq s _ _ n h2 h5 rfl
    have hz := Wr.zag_bd x h4
    exact ⟨Wr.zag x, s.extract n s.size, 0, by simp only [if_true]; rw [if_neg (by omega)], h6, hz, .inl ⟨rfl, by rw [Wr.zig_zag]; exact h7⟩⟩
  · refine ⟨0, s, e, ?_, Nat.le_refl _, by decide, .inr (beq_eq_false_iff_ne.2 (by omega))⟩
    simp only []
    rw [if_neg (by omega)]
theorem tFacts (s : ByteArray) : ∃ (t : ByteArray) (s' : ByteArray) (e : Nat), tRes s 4096 = (t, s', e) ∧ s'.size ≤ s.size ∧ t.size ≤ s.size ∧ ((e = 0 ∧ S (Wr.txt (L t)) ++ s.extract (s.size - s'.size) s.size = s) ∨ ((e : Int) == 0) = false) := by
  obtain ⟨x, n, e, hr, h⟩ := rd_cases s
  have hs : (∃ x n : Nat, sRes s 4096 = (x, n, 0) ∧ n + x ≤ s.size ∧ (L s).take n = Wr.uv x) ∨ ∃ e : Nat, sRes s 4096 = (0, 0, e) ∧ e ≠ 0 := by
    unfold sRes
    rw [hr]
    rcases h with ⟨rfl, h1, h2, h3, h4, h5⟩ | ⟨rfl, rfl, h⟩
    · simp only [if_true]
      split
      · exact .inr ⟨5, rfl, by decide⟩
      · split
        · exact .inr ⟨6, rfl, by decide⟩
        · exact .inl ⟨x, n, rfl, by omega, h5⟩
    · refine .inr ⟨e, ?_, by omega⟩
      simp only []
      rw [if_neg (by omega)]
  unfold tRes
  rcases hs with ⟨x, n, e1, h1, h2⟩ | ⟨e, e1, h1⟩
  · rw [e1]
    simp only [if_true]
    have hl : L (s.extract n (n + x)) = ((L s).drop n).take x := by
      unfold L
      rw [ByteArray.data_extract, Array.toList_extract]
      simp [List.extract]
    have hlen : (L (s.extract n (n + x))).length = x := by
      rw [hl, List.length_take, List.length_drop, L_size]; omega
    obtain ⟨h6, h7⟩ := back_eq s (s.extract (n + x) s.size) (Wr.txt (L (s.extract n (n + x)))) (n + x) h1 (by
      unfold Wr.txt; rw [hlen, hl, ← h2, List.take_add]) rfl
    exact ⟨_, _, 0, rfl, h6, by rw [← L_size (s.extract n (n + x)), hlen]; omega, .inl ⟨rfl, h7⟩⟩
  · rw [e1]
    simp only []
    rw [if_neg h1]
    exact ⟨_, _, e, rfl, Nat.le_refl _, Nat.zero_le _, .inr (beq_eq_false_iff_ne.2 (by omega))⟩

theorem tvs_inj : ∀ (l m : List ByteArray), l.length = m.length → (∀ t ∈ l, t.size ≤ 4096) → (∀ t ∈ m, t.size ≤ 4096) → tvs l = tvs m → l = m
  | [], [], _, _, _, _ => rfl
  | [], _ :: _, h, _, _, _ => by simp at h
  | _ :: _, [], h, _, _, _ => by simp at h
  | a :: l, b :: m, h, h1, h2, e => by
    rw [tvs_cons, tvs_cons] at e
    unfold Wr.txt at e
    rw [List.append_assoc, List.append_assoc] at e
    have ha := h1 a (by simp)
    have hb := h2 b (by simp)
    have sa := L_size a
    have sb := L_size b
    obtain ⟨e1, e2⟩ := Wr.uv_inj (by unfold Wr.M64; omega) (by unfold Wr.M64; omega) _ _ e
    obtain ⟨e3, e4⟩ := List.append_inj e2 e1
    rw [L_ext e3, tvs_inj l m (by simpa using h) (fun t ht => h1 t (by simp [ht])) (fun t ht => h2 t (by simp [ht])) e4]
theorem lvs_inj (l m : List ByteArray) (hl : l.length ≤ 4096) (hm : m.length ≤ 4096) (h1 : ∀ t ∈ l, t.size ≤ 4096) (h2 : ∀ t ∈ m, t.size ≤ 4096) : ((S (lvs l)).toList == (S (lvs m)).toList) = decide (l = m) := by
  by_cases h : l = m
  · subst h; simp
  · rw [decide_eq_false h, beq_eq_false_iff_ne]
    intro e
    rw [same_str] at e
    have e' : lvs l = lvs m := by rw [← L_S (lvs l), e, L_S]
    unfold lvs at e'
    obtain ⟨e1, e2⟩ := Wr.uv_inj (by unfold Wr.M64; omega) (by unfold Wr.M64; omega) _ _ e'
    exact h (tvs_inj l m e1 h1 h2 e2)
theorem uv_front (x y : Nat) (hx : x < 18446744073709551616) (hy : y < 18446744073709551616) (hne : x ≠ y) : (((S (Wr.uv y)).extract 0 (S (Wr.uv x)).size).toList == (S (Wr.uv x)).toList) = false := by
  rw [beq_eq_false_iff_ne]
  intro e
  rw [same_str] at e
  have e' : (Wr.uv y).take (Wr.uv x).length = Wr.uv x := by
    have := congrArg L e
    rw [L_extract, L_S, L_S, S_size] at this
    exact this
  have e2 : Wr.uv x ++ (Wr.uv y).drop (Wr.uv x).length = Wr.uv y ++ [] := by
    conv => lhs; rw [← e']
    rw [e']
    conv => lhs; rw [← e']
    rw [e', List.append_nil]
    conv => rhs; rw [← List.take_append_drop (Wr.uv x).length (Wr.uv y), e']
  exact hne (Wr.uv_inj hx hy _ _ e2).1

theorem rest_any (w : World) (s : ByteArray) (k : Nat) (hs : s.size ≤ 1073741824) (hk : k ≤ s.size) :
    Calls Try.prog 22 #[.string s, .int .i64 k] w fun e w' => e = .returned (.string (s.extract (s.size - k) s.size)) ∧ w' = w := by
  have hkI : (0 : Int) ≤ k ∧ (k : Int) ≤ s.size ∧ (s.size : Int) ≤ 1073741824 := by omega
  have hsub : (s.size : Int) - k = ((s.size - k : Nat) : Int) := by omega
  have HS := Lib.hid hsub
  have hle : s.size - k ≤ s.size := by omega
  clear hs hk
  go_enter Try.func22, Try.ntmps22
  go_wp2_with fail
  go_ret
  exact ⟨rfl, rfl⟩
theorem ints_one (w : World) (v : Int) (h : -9223372036854775808 ≤ v ∧ v ≤ 9223372036854775807) :
    Calls Try.prog 13 #[.slice (some ⟨w.heap.size, 0, none⟩) 1 1] (w.alloc (.cells #[.int .i64 v] 2)) fun e w' => e = .returned (.string (S (Wr.uv (Wr.zig v)))) ∧ Below w.heap.size w w' := by
  refine (ints_any _ (some ⟨w.heap.size, 0, none⟩) 1 [v] (RowIs.new w [.int .i64 v] _ _) (by simpa using h) (by simp)).mono ?_
  rintro e w' ⟨rfl, hb⟩
  exact ⟨by simp [ivs], below_alloc hb⟩
theorem texts_one (w : World) (t : ByteArray) (h : t.size ≤ 1073741824) :
    Calls Try.prog 14 #[.slice (some ⟨w.heap.size, 0, none⟩) 1 1] (w.alloc (.cells #[.string t] 9)) fun e w' => e = .returned (.string (S (Wr.txt (L t)))) ∧ Below w.heap.size w w' := by
  refine (texts_any _ (some ⟨w.heap.size, 0, none⟩) 1 [t] (RowIs.new w [.string t] _ _) (by simpa [sizes] using h) (by simp)).mono ?_
  rintro e w' ⟨rfl, hb⟩
  exact ⟨by simp [tvs], below_alloc hb⟩

end Go.Proofs.Ytdceefbhkonndaa
