/-
  PLAIN MATHEMATICS OF SEGMENTS, more of it: what the records that are read take, one by one. No program is in sight here.
-/
import Derived.Test.YtboplbcfoooenaaSegMath
namespace Go.Proofs.Ytboplbcfoooenaa.Sg
open Go.Proofs.Ytboplbcfoooenaa

/-- What was read is no longer than the bytes, and each text is short. -/
theorem scan_sizes : ∀ (n : Nat) (s : List UInt8) (next : Nat), s.length ≤ n → (∀ r ∈ (Frm.scan s next).1, r.text.length ≤ 65536 ∧ r.num < Frm.M64) ∧ Frm.lens ((Frm.scan s next).1.map (·.text)) ≤ s.length := by
  intro n
  induction n with
  | zero =>
    intro s next h
    have : s = [] := List.eq_nil_of_length_eq_zero (by omega)
    subst this
    rw [Frm.scan_nil]
    exact ⟨by simp, by simp [Frm.lens]⟩
  | succ n ih =>
    intro s next h
    by_cases h0 : s = []
    · subst h0
      rw [Frm.scan_nil]
      exact ⟨by simp, by simp [Frm.lens]⟩
    by_cases h1 : (Frm.dec s).err = 0
    · by_cases h2 : (Frm.dec s).r.num = next
      · rw [Frm.scan_cons s next h0 h1 h2]
        obtain ⟨d1, d2, d3, d4, d5⟩ := Frm.dec_ok s h1
        obtain ⟨i1, i2⟩ := ih (s.drop (Frm.dec s).used) ((next + 1) % Frm.M64) (by rw [List.length_drop]; omega)
        rw [List.length_drop] at i2
        refine ⟨?_, ?_⟩
        · intro r hr
          simp only [List.mem_cons] at hr
          rcases hr with rfl | hr
          · exact ⟨d4, d5⟩
          · exact i1 r hr
        · simp only [List.map_cons, Frm.lens]
          omega
      · rw [Frm.scan_form s next h0 h1 h2]
        exact ⟨by simp, by simp [Frm.lens]⟩
    · rw [Frm.scan_err s next h0 h1]
      exact ⟨by simp, by simp [Frm.lens]⟩

theorem kept_all (l : List Frm.Rec) (k : Nat) (hk : k ≤ l.length) (h : ∀ i (hi : i < k), (l[i]'(by omega)).num ≤ Top) (he : ∀ h : k < l.length, Top < l[k].num) : kept l = (l.take k).map (·.text) := by
  induction l generalizing k with
  | nil => simp [kept]
  | cons r t ih =>
    unfold kept at ih ⊢
    cases k with
    | zero =>
      have h1 := he (by simp)
      simp only [List.getElem_cons_zero] at h1
      have e : decide (r.num ≤ Top) = false := by rw [decide_eq_false_iff_not]; omega
      simp [e]
    | succ k =>
      have h1 := h 0 (by omega)
      simp only [List.getElem_cons_zero] at h1
      have e : decide (r.num ≤ Top) = true := by rw [decide_eq_true_eq]; omega
      simp only [List.length_cons] at hk
      simp only [List.takeWhile_cons, e, if_true, List.map_cons, List.take_succ_cons]
      rw [ih k (by omega) (fun i hi => by have := h (i + 1) (by omega); simpa using this) (fun hl => by have := he (by simp; omega); simpa using this)]
/-- What has been read of so many records. -/
def upTo (l : List Frm.Rec) (k : Nat) : List (List UInt8) := (l.take k).map (·.text)
theorem upTo_zero (l : List Frm.Rec) : upTo l 0 = [] := by simp [upTo]
theorem upTo_length (l : List Frm.Rec) (k : Nat) (h : k ≤ l.length) : (upTo l k).length = k := by simp [upTo]; omega
theorem upTo_succ (l : List Frm.Rec) (k : Nat) (h : k < l.length) : upTo l (k + 1) = upTo l k ++ [l[k].text] := by
  unfold upTo; rw [List.take_succ_eq_append_getElem h, List.map_append]; rfl
theorem lens_upTo_succ (l : List Frm.Rec) (k : Nat) (h : k < l.length) : Frm.lens (upTo l (k + 1)) = Frm.lens (upTo l k) + (16 + l[k].text.length) := by
  rw [upTo_succ l k h, Frm.lens_append]; simp [Frm.lens]
theorem lens_upTo_le (l : List Frm.Rec) (k : Nat) : Frm.lens (upTo l k) ≤ Frm.lens (l.map (·.text)) := by
  unfold upTo; rw [List.map_take]; exact Frm.lens_take_le _ _
theorem kept_upTo (l : List Frm.Rec) (k : Nat) (hk : k ≤ l.length) (h : ∀ i (hi : i < k), (l[i]'(by omega)).num ≤ Top) (he : k = l.length ∨ ∃ h : k < l.length, Top < l[k].num) : kept l = upTo l k :=
  kept_all l k hk h (fun hl => by rcases he with rfl | ⟨h1, h2⟩; · omega
                                  exact h2)

/-! ### Parse, case by case -/
theorem parse_err {s : List UInt8} {n : Nat} (h : (Frm.dec s).err = n) (hn : n ≠ 0) : parse s = (seg0, n) := by
  unfold parse; rw [h, if_pos hn]
theorem parse_none {s : List UInt8} (h : (Frm.dec s).err = 0) (ht : (Frm.dec s).r.text = []) : parse s = (seg0, 7) := by
  unfold parse; rw [h, if_neg (by simp), ht]
theorem parse_form {s : List UInt8} {k : UInt8} {t : List UInt8} (h : (Frm.dec s).err = 0) (ht : (Frm.dec s).r.text = k :: t) (hf : (Wr.rd t).2.2 ≠ 0 ∨ may k.toNat (Wr.rd t).1 (Frm.dec s).r.num (t.drop (Wr.rd t).2.1) = false) : parse s = (seg0, 7) := by
  unfold parse; rw [h, if_neg (by simp), ht]; simp only; rw [if_pos hf]
theorem parse_ok {s : List UInt8} {k : UInt8} {t : List UInt8} (h : (Frm.dec s).err = 0) (ht : (Frm.dec s).r.text = k :: t) (h1 : (Wr.rd t).2.2 = 0) (h2 : may k.toNat (Wr.rd t).1 (Frm.dec s).r.num (t.drop (Wr.rd t).2.1) = true) :
    parse s = (⟨k.toNat, (Wr.rd t).1, (Frm.dec s).r.num, t.drop (Wr.rd t).2.1, kept (Frm.scan (s.drop (Frm.dec s).used) (Frm.dec s).r.num).1, (Frm.dec s).used + Frm.lens (kept (Frm.scan (s.drop (Frm.dec s).used) (Frm.dec s).r.num).1),
      decide ((Frm.dec s).used + Frm.lens (kept (Frm.scan (s.drop (Frm.dec s).used) (Frm.dec s).r.num).1) = s.length)⟩, 0) := by
  unfold parse; rw [h, if_neg (by simp), ht]; simp only; rw [if_neg (by rw [h1, h2]; simp)]

end Go.Proofs.Ytboplbcfoooenaa.Sg
