/-
  WHAT IS READ OF A SEGMENT'S BYTES THAT WERE CUT OFF, in terms of its records. No program is in sight here.
-/
import Derived.Test.YtdohhbilchdigaaSegParse
namespace Go.Proofs.Ytdohhbilchdigaa
open Go.RowKit

/-- Where the records end, of so many. -/
def mark (x : Sx) (i : Nat) : Nat := 16 + (Sg.hText x.kind x.gen (L x.t)).length + Frm.lens ((x.recs.take i).map L)
theorem mark_zero (x : Sx) : mark x 0 = 16 + (Sg.hText x.kind x.gen (L x.t)).length := by simp [mark, Frm.lens]
theorem mark_succ (x : Sx) (i : Nat) (h : i < x.recs.length) : mark x (i + 1) = mark x i + 16 + x.recs[i].size := by
  unfold mark
  rw [List.take_succ_eq_append_getElem h, List.map_append, Frm.lens_append]
  simp only [List.map_cons, List.map_nil, Frm.lens, L_size]
  omega
theorem mark_mono (x : Sx) (i j : Nat) (h : i ≤ j) (hj : j ≤ x.recs.length) : mark x i ≤ mark x j := by
  induction j with
  | zero => obtain rfl : i = 0 := by omega
            exact Nat.le_refl _
  | succ j ih =>
    by_cases e : i = j + 1
    · rw [e]; exact Nat.le_refl _
    · have h1 := ih (by omega) (by omega)
      have h2 := mark_succ x j (by omega)
      omega
theorem mark_find (x : Sx) (k : Nat) (h : mark x 0 ≤ k) : ∃ m, m ≤ x.recs.length ∧ mark x m ≤ k ∧ ∀ h : m < x.recs.length, k < mark x m + 16 + x.recs[m].size := by
  have key : ∀ j, j ≤ x.recs.length → ∃ m, m ≤ j ∧ mark x m ≤ k ∧ (m < j → ∀ h : m < x.recs.length, k < mark x m + 16 + x.recs[m].size) := by
    intro j
    induction j with
    | zero => exact fun _ => ⟨0, Nat.le_refl _, h, fun h => by omega⟩
    | succ j ih =>
      intro hj
      obtain ⟨m, h1, h2, h3⟩ := ih (by omega)
      by_cases e : m < j
      · exact ⟨m, by omega, h2, fun _ => h3 e⟩
      · obtain rfl : m = j := by omega
        have hs := mark_succ x m (by omega)
        by_cases hk : k < mark x m + 16 + (x.recs[m]'(by omega)).size
        · exact ⟨m, by omega, h2, fun _ _ => hk⟩
        · exact ⟨m + 1, by omega, by omega, fun h => by omega⟩
  obtain ⟨m, h1, h2, h3⟩ := key x.recs.length (Nat.le_refl _)
  exact ⟨m, h1, h2, fun h => h3 h h⟩
theorem mark_le (x : Sx) (ok : okS x) (i : Nat) : mark x i ≤ 20000 := by
  have hu : (Wr.uv x.gen).length ≤ 10 := Wr.uvF_length 10 _
  have h1 := ok.sz
  have h2 := ok.n
  have h3 := sizes_take_le x.recs i
  unfold mark
  rw [lens_sizes, List.length_take]
  simp only [Sg.hText, List.length_cons, List.length_append, L_size]
  omega
theorem L_upto (s : ByteArray) (k : Nat) : L (s.extract 0 k) = (L s).take k := by
  unfold L
  rw [ByteArray.data_extract, Array.toList_extract]
  simp [List.extract]
/-- What is written without a fault. -/
theorem bytes_ok {x : Sx} (ok : okS x) (h : (Sg.bytes x.seg).2 = 0) : Sg.may x.kind x.gen x.first (L x.t) = true ∧ x.first + x.recs.length ≤ Sg.Top + 1 ∧
    (Sg.bytes x.seg).1 = Frm.enc x.first (Sg.hText x.kind x.gen (L x.t)) ++ Frm.bytes (Frm.recs (x.recs.map L) x.first) := by
  cases hm : Sg.may x.kind x.gen x.first (L x.t) with
  | false => rw [bytes_no hm] at h; cases h
  | true =>
    by_cases hb : Sg.Top < x.first + x.recs.length - 1
    · rw [bytes_big ok hm hb] at h; cases h
    · rw [bytes_yes ok hm hb]
      obtain ⟨_, _, h3⟩ := Sg.may_parts hm
      exact ⟨rfl, by omega, rfl⟩
theorem seg_long {x : Sx} : (Frm.enc x.first (Sg.hText x.kind x.gen (L x.t)) ++ Frm.bytes (Frm.recs (x.recs.map L) x.first)).length = mark x x.recs.length := by
  unfold mark
  rw [List.take_length, List.length_append, Frm.enc_length, Frm.bytes_length]
theorem shorts {x : Sx} (ok : okS x) : ∀ t ∈ x.recs.map L, t.length ≤ 65536 := fun t ht => by
  obtain ⟨r, hr, rfl⟩ := List.mem_map.1 ht
  have h1 := size_le_sizes x.recs r hr
  have := ok.sz
  rw [L_size]; omega
/-- Cut off behind m whole records. -/
theorem parse_at {x : Sx} (ok : okS x) (hm : Sg.may x.kind x.gen x.first (L x.t) = true) (ht : x.first + x.recs.length ≤ Sg.Top + 1) (s : ByteArray) (hs : L s = Frm.enc x.first (Sg.hText x.kind x.gen (L x.t)) ++ Frm.bytes (Frm.recs (x.recs.map L) x.first))
    (k m : Nat) (hk : k ≤ mark x x.recs.length) (hmr : m ≤ x.recs.length) (h1 : mark x m ≤ k) (h2 : ∀ h : m < x.recs.length, k < mark x m + 16 + x.recs[m].size) :
    Sg.parse (L (s.extract 0 k)) = (⟨x.kind, x.gen, x.first, L x.t, (x.recs.take m).map L, mark x m, decide (mark x m = k)⟩, 0) := by
  have hl := (head_yes ok hm).2
  unfold mark at hk h1 h2
  rw [List.take_length] at hk
  have hkh : 16 + (Sg.hText x.kind x.gen (L x.t)).length ≤ k := by omega
  have hcut := Sg.parse_cut x.kind x.gen x.first (L x.t) (x.recs.map L) hm (by omega) (shorts ok) (by rw [List.length_map]; exact ht) (k - (16 + (Sg.hText x.kind x.gen (L x.t)).length)) m (by omega) (by rw [List.length_map]; exact hmr) (by rw [← List.map_take]; omega) (fun h => by
    have h' : m < x.recs.length := by simpa using h
    have := h2 h'
    rw [← List.map_take, List.getElem_map, L_size]
    omega)
  rw [L_upto, hs, List.take_append, List.take_of_length_le (by rw [Frm.enc_length]; exact hkh), Frm.enc_length, hcut, ← List.map_take]
  unfold mark
  congr 2
  simp only [decide_eq_decide]
  omega
theorem parse_all {x : Sx} (ok : okS x) (hm : Sg.may x.kind x.gen x.first (L x.t) = true) (ht : x.first + x.recs.length ≤ Sg.Top + 1) (s : ByteArray) (hs : L s = Frm.enc x.first (Sg.hText x.kind x.gen (L x.t)) ++ Frm.bytes (Frm.recs (x.recs.map L) x.first)) :
    Sg.parse (L s) = (⟨x.kind, x.gen, x.first, L x.t, x.recs.map L, mark x x.recs.length, true⟩, 0) := by
  have h := parse_at ok hm ht s hs (mark x x.recs.length) x.recs.length (Nat.le_refl _) (Nat.le_refl _) (Nat.le_refl _) (fun h => by omega)
  have hz : s.size = mark x x.recs.length := by rw [← L_size, hs, seg_long]
  rw [L_upto, List.take_of_length_le (by rw [L_size]; omega), List.take_length] at h
  rw [h]; simp
theorem parse_short {x : Sx} (ok : okS x) (hm : Sg.may x.kind x.gen x.first (L x.t) = true) (s : ByteArray) (hs : L s = Frm.enc x.first (Sg.hText x.kind x.gen (L x.t)) ++ Frm.bytes (Frm.recs (x.recs.map L) x.first)) (k : Nat) (hk : k < mark x 0) :
    Sg.parse (L (s.extract 0 k)) = (Sg.seg0, 100) := by
  have hl := (head_yes ok hm).2
  rw [mark_zero] at hk
  rw [L_upto, hs]
  exact Sg.parse_torn x.kind x.gen x.first (L x.t) _ (by omega) k hk

end Go.Proofs.Ytdohhbilchdigaa
