/-
  PLAIN MATHEMATICS OF FRAMES: numbers as bytes, the highest first; a record's frame; which record stands at the front of bytes; which ones stand one behind the other. No program is in sight here.
-/
import Derived.Test.YteipjgmbgkjjiaaCrcMath
set_option linter.unusedVariables false
set_option linter.unusedSimpArgs false
namespace Go.Proofs.Yteipjgmbgkjjiaa.Frm
set_option linter.unusedSectionVars false

abbrev M64 : Nat := 18446744073709551616

/-! ### Numbers as bytes -/
def be : Nat → Nat → List UInt8
  | 0, _ => []
  | k + 1, n => be k (n / 256) ++ [UInt8.ofNat n]
theorem be_length (k : Nat) : ∀ n, (be k n).length = k := by
  induction k with
  | zero => intro n; rfl
  | succ k ih => intro n; simp [be, ih]
theorem be_get (k : Nat) : ∀ (n i : Nat) (h : i < (be k n).length), (be k n)[i] = UInt8.ofNat (n / 256 ^ (k - 1 - i)) := by
  induction k with
  | zero => intro n i h; simp [be] at h
  | succ k ih =>
    intro n i h
    rw [be_length] at h
    simp only [be]
    by_cases hi : i < k
    · rw [List.getElem_append_left (by rw [be_length]; exact hi), ih, Nat.div_div_eq_div_mul]
      congr 2
      rw [show k + 1 - 1 - i = (k - 1 - i) + 1 from by omega, Nat.pow_succ, Nat.mul_comm]
    · obtain rfl : i = k := by omega
      rw [List.getElem_append_right (by rw [be_length]; exact Nat.le_refl _)]
      simp

def num (l : List UInt8) : Nat := l.foldl (fun n c => (256 * n + c.toNat) % M64) 0
theorem num_nil : num [] = 0 := rfl
theorem num_snoc (l : List UInt8) (c : UInt8) : num (l ++ [c]) = (256 * num l + c.toNat) % M64 := by simp [num]
theorem snoc_cases (l : List UInt8) : l = [] ∨ ∃ m c, l = m ++ [c] := by
  rcases List.eq_nil_or_concat l with h | ⟨m, c, h⟩
  · exact .inl h
  · exact .inr ⟨m, c, by simpa using h⟩
theorem num_lt (l : List UInt8) : num l < M64 := by
  rcases snoc_cases l with rfl | ⟨m, c, rfl⟩
  · decide
  · rw [num_snoc]; exact Nat.mod_lt _ (by decide)
theorem pow_le8 (k : Nat) (h : k ≤ 8) : 256 ^ k ≤ M64 := by
  have : 256 ^ k ≤ 256 ^ 8 := Nat.pow_le_pow_right (by decide) h
  have e : 256 ^ 8 = M64 := by decide
  omega
theorem num_small : ∀ (k : Nat) (l : List UInt8), l.length = k → k ≤ 8 → num l < 256 ^ k := by
  intro k
  induction k with
  | zero => intro l hl _; rw [List.eq_nil_of_length_eq_zero hl]; decide
  | succ k ih =>
    intro l hl hk
    rcases snoc_cases l with rfl | ⟨m, c, rfl⟩
    · simp at hl
    · have hm := ih m (by simpa using hl) (by omega)
      have h8 := pow_le8 (k + 1) hk
      have hc := c.toNat_lt
      rw [num_snoc]
      rw [Nat.pow_succ] at h8 ⊢
      have hlt : 256 * num m + c.toNat < 256 ^ k * 256 := by omega
      rw [Nat.mod_eq_of_lt (by omega)]
      exact hlt
theorem num_snoc_small (l : List UInt8) (c : UInt8) (h : l.length ≤ 7) : num (l ++ [c]) = 256 * num l + c.toNat := by
  rw [num_snoc, Nat.mod_eq_of_lt]
  have h1 := num_small l.length l rfl (by omega)
  have h2 := pow_le8 (l.length + 1) (by omega)
  have hc := c.toNat_lt
  rw [Nat.pow_succ] at h2
  omega
theorem num_be (k : Nat) : ∀ n, k ≤ 8 → n < 256 ^ k → num (be k n) = n := by
  induction k with
  | zero => intro n _ h; simp at h; subst h; rfl
  | succ k ih =>
    intro n hk hn
    rw [Nat.pow_succ] at hn
    rw [be, num_snoc_small _ _ (by rw [be_length]; omega), ih _ (by omega) (by omega)]
    have : (UInt8.ofNat n).toNat = n % 256 := by simp
    omega
theorem be_num : ∀ (k : Nat) (l : List UInt8), l.length = k → k ≤ 8 → be k (num l) = l := by
  intro k
  induction k with
  | zero => intro l hl _; rw [List.eq_nil_of_length_eq_zero hl]; rfl
  | succ k ih =>
    intro l hl hk
    rcases snoc_cases l with rfl | ⟨m, c, rfl⟩
    · simp at hl
    · have hml : m.length = k := by simpa using hl
      have hc := c.toNat_lt
      rw [num_snoc_small _ _ (by omega), be]
      have e1 : (256 * num m + c.toNat) / 256 = num m := by omega
      have e2 : UInt8.ofNat (256 * num m + c.toNat) = c := by
        apply UInt8.toNat_inj.1
        rw [UInt8.toNat_ofNat']; omega
      rw [e1, e2, ih m hml (by omega)]

/-! ### Frames -/
def hd (n : Nat) (t : List UInt8) : List UInt8 := be 4 t.length ++ be 8 n
theorem hd_length (n : Nat) (t : List UInt8) : (hd n t).length = 12 := by simp [hd, be_length]
def crc (l : List UInt8) : Nat := (Crc.sum l).toNat
theorem crc_lt (l : List UInt8) : crc l < 4294967296 := (Crc.sum l).isLt
def enc (n : Nat) (t : List UInt8) : List UInt8 := hd n t ++ be 4 (crc (hd n t ++ t)) ++ t
theorem enc_length (n : Nat) (t : List UInt8) : (enc n t).length = 16 + t.length := by
  simp [enc, hd_length, be_length]; omega

structure Rec where
  num : Nat
  text : List UInt8
instance : Inhabited Rec := ⟨⟨0, []⟩⟩
def rec0 : Rec := ⟨0, []⟩
structure Dec where
  r : Rec
  used : Nat
  err : Nat
/-- Which record stands at the front of bytes. -/
def dec (s : List UInt8) : Dec :=
  if s.length < 16 then ⟨rec0, 0, 100⟩
  else if 65536 < num (s.take 4) then ⟨rec0, 0, 5⟩
  else if s.length - 16 < num (s.take 4) then ⟨rec0, 0, 100⟩
  else if crc (s.take 12 ++ (s.drop 16).take (num (s.take 4))) ≠ num ((s.drop 12).take 4) then ⟨rec0, 0, 101⟩
  else ⟨⟨num ((s.drop 4).take 8), (s.drop 16).take (num (s.take 4))⟩, 16 + num (s.take 4), 0⟩
theorem dec_err (s : List UInt8) (h : (dec s).err ≠ 0) : (dec s).r = rec0 ∧ (dec s).used = 0 := by
  unfold dec at h ⊢
  split
  · exact ⟨rfl, rfl⟩
  split
  · exact ⟨rfl, rfl⟩
  split
  · exact ⟨rfl, rfl⟩
  split
  · exact ⟨rfl, rfl⟩
  · simp_all

theorem take_app {α} (l m : List α) (n : Nat) (h : l.length = n) : (l ++ m).take n = l := by subst h; simp
theorem drop_app {α} (l m : List α) (n : Nat) (h : l.length = n) : (l ++ m).drop n = m := by subst h; simp

section
variable (a b c t r : List UInt8) (ha : a.length = 4) (hb : b.length = 8) (hc : c.length = 4)
include ha hb hc
theorem parts4 : (a ++ b ++ c ++ t ++ r).take 4 = a := by
  rw [List.append_assoc, List.append_assoc, List.append_assoc]; exact take_app _ _ _ ha
theorem parts12 : (a ++ b ++ c ++ t ++ r).take 12 = a ++ b := by
  rw [List.append_assoc, List.append_assoc]; exact take_app _ _ _ (by simp [ha, hb])
theorem parts48 : ((a ++ b ++ c ++ t ++ r).drop 4).take 8 = b := by
  rw [List.append_assoc, List.append_assoc, List.append_assoc, drop_app _ _ _ ha]; exact take_app _ _ _ hb
theorem parts124 : ((a ++ b ++ c ++ t ++ r).drop 12).take 4 = c := by
  rw [List.append_assoc, List.append_assoc, drop_app _ _ _ (by simp [ha, hb])]; exact take_app _ _ _ hc
theorem parts16 : ((a ++ b ++ c ++ t ++ r).drop 16).take t.length = t := by
  rw [List.append_assoc, drop_app _ _ _ (by simp [ha, hb, hc])]; exact take_app _ _ _ rfl
end
/-- What is read of four parts and a rest. -/
theorem dec_parts (a b c t r : List UInt8) (ha : a.length = 4) (hb : b.length = 8) (hc : c.length = 4) (hn : num a = t.length) (ht : t.length ≤ 65536) :
    dec (a ++ b ++ c ++ t ++ r) = if crc (a ++ b ++ t) ≠ num c then ⟨rec0, 0, 101⟩ else ⟨⟨num b, t⟩, 16 + t.length, 0⟩ := by
  unfold dec
  have hl : (a ++ b ++ c ++ t ++ r).length = 16 + t.length + r.length := by simp [ha, hb, hc]; omega
  rw [hl, parts4 a b c t r ha hb hc, hn, parts12 a b c t r ha hb hc, parts48 a b c t r ha hb hc, parts124 a b c t r ha hb hc, parts16 a b c t r ha hb hc, if_neg (by omega), if_neg (by omega), if_neg (by omega)]
theorem dec_enc (n : Nat) (t r : List UInt8) (hn : n < M64) (ht : t.length ≤ 65536) : dec (enc n t ++ r) = ⟨⟨n, t⟩, 16 + t.length, 0⟩ := by
  have e : enc n t ++ r = be 4 t.length ++ be 8 n ++ be 4 (crc (be 4 t.length ++ be 8 n ++ t)) ++ t ++ r := rfl
  have h1 := num_be 4 t.length (by decide) (by rw [show 256 ^ 4 = 4294967296 from by decide]; omega)
  have h2 := num_be 8 n (by decide) (by rw [show 256 ^ 8 = M64 from by decide]; exact hn)
  have h3 := num_be 4 (crc (be 4 t.length ++ be 8 n ++ t)) (by decide) (by rw [show 256 ^ 4 = 4294967296 from by decide]; exact crc_lt _)
  rw [e, dec_parts _ _ _ _ _ (be_length _ _) (be_length _ _) (be_length _ _) h1 ht, h2, h3, if_neg (by simp)]
/-- What was cut off within a frame. -/
theorem dec_cut (n : Nat) (t : List UInt8) (j : Nat) (ht : t.length ≤ 65536) (hj : j < 16 + t.length) : dec ((enc n t).take j) = ⟨rec0, 0, 100⟩ := by
  have hl : ((enc n t).take j).length = j := by rw [List.length_take, enc_length]; omega
  unfold dec
  rw [hl]
  by_cases h16 : j < 16
  · rw [if_pos h16]
  · have e : ((enc n t).take j).take 4 = be 4 t.length := by
      rw [List.take_take, Nat.min_eq_left (by omega)]
      have e : enc n t = be 4 t.length ++ (be 8 n ++ be 4 (crc (hd n t ++ t)) ++ t) := by simp [enc, hd]
      rw [e]; exact take_app _ _ _ (be_length _ _)
    have h1 := num_be 4 t.length (by decide) (by rw [show 256 ^ 4 = 4294967296 from by decide]; omega)
    rw [if_neg h16, e, h1, if_neg (by omega), if_pos (by omega)]
/-- What was read: the bytes are its frame, and what is left. -/
theorem dec_ok (s : List UInt8) (h : (dec s).err = 0) :
    enc (dec s).r.num (dec s).r.text = s.take (dec s).used ∧ (dec s).used = 16 + (dec s).r.text.length ∧ (dec s).used ≤ s.length ∧ (dec s).r.text.length ≤ 65536 ∧ (dec s).r.num < M64 := by
  unfold dec at h ⊢
  by_cases h1 : s.length < 16
  · rw [if_pos h1] at h; cases h
  rw [if_neg h1] at h ⊢
  by_cases h2 : 65536 < num (s.take 4)
  · rw [if_pos h2] at h; cases h
  rw [if_neg h2] at h ⊢
  by_cases h3 : s.length - 16 < num (s.take 4)
  · rw [if_pos h3] at h; cases h
  rw [if_neg h3] at h ⊢
  by_cases h4 : crc (s.take 12 ++ (s.drop 16).take (num (s.take 4))) ≠ num ((s.drop 12).take 4)
  · rw [if_pos h4] at h; cases h
  rw [if_neg h4]
  have h4' : crc (s.take 12 ++ (s.drop 16).take (num (s.take 4))) = num ((s.drop 12).take 4) := Decidable.not_not.1 h4
  have htl : ((s.drop 16).take (num (s.take 4))).length = num (s.take 4) := by simp; omega
  refine ⟨?_, by simp only [htl], by simp only; omega, by rw [htl]; omega, num_lt _⟩
  have e12 : hd (num ((s.drop 4).take 8)) ((s.drop 16).take (num (s.take 4))) = s.take 12 := by
    unfold hd
    rw [htl, be_num 4 (s.take 4) (by simp; omega) (by decide), be_num 8 ((s.drop 4).take 8) (by simp; omega) (by decide)]
    rw [← List.take_add]
  unfold enc
  simp only
  rw [e12, h4', be_num 4 ((s.drop 12).take 4) (by simp; omega) (by decide), ← List.take_add, ← List.take_add]

/-! ### Rows of frames -/
/-- Which records stand one behind the other: they, how far they go, and with what it ends. -/
def scanF : Nat → List UInt8 → Nat → List Rec × Nat × Nat
  | 0, _, _ => ([], 0, 0)
  | f + 1, s, next =>
    if s = [] then ([], 0, 0)
    else if (dec s).err ≠ 0 then ([], 0, (dec s).err)
    else if (dec s).r.num ≠ next then ([], 0, 7)
    else ((dec s).r :: (scanF f (s.drop (dec s).used) ((next + 1) % M64)).1, (dec s).used + (scanF f (s.drop (dec s).used) ((next + 1) % M64)).2.1, (scanF f (s.drop (dec s).used) ((next + 1) % M64)).2.2)
theorem scanF_more : ∀ (f g : Nat) (s : List UInt8) (next : Nat), s.length ≤ f → s.length ≤ g → scanF f s next = scanF g s next := by
  intro f
  induction f with
  | zero =>
    intro g s next hf hg
    have : s = [] := List.eq_nil_of_length_eq_zero (by omega)
    subst this
    cases g <;> simp [scanF]
  | succ f ih =>
    intro g s next hf hg
    cases g with
    | zero =>
      have : s = [] := List.eq_nil_of_length_eq_zero (by omega)
      subst this
      simp [scanF]
    | succ g =>
      simp only [scanF]
      by_cases h0 : s = []
      · rw [if_pos h0, if_pos h0]
      rw [if_neg h0, if_neg h0]
      by_cases h1 : (dec s).err ≠ 0
      · rw [if_pos h1, if_pos h1]
      rw [if_neg h1, if_neg h1]
      have hu := dec_ok s (Decidable.not_not.1 h1)
      rw [ih g (s.drop (dec s).used) ((next + 1) % M64) (by rw [List.length_drop]; omega) (by rw [List.length_drop]; omega)]
def scan (s : List UInt8) (next : Nat) : List Rec × Nat × Nat := scanF s.length s next
theorem scan_nil (next : Nat) : scan [] next = ([], 0, 0) := rfl
theorem scan_err (s : List UInt8) (next : Nat) (h0 : s ≠ []) (h : (dec s).err ≠ 0) : scan s next = ([], 0, (dec s).err) := by
  unfold scan
  cases hl : s.length with
  | zero => exact absurd (List.eq_nil_of_length_eq_zero hl) h0
  | succ n => rw [scanF, if_neg h0, if_pos h]
theorem scan_form (s : List UInt8) (next : Nat) (h0 : s ≠ []) (h : (dec s).err = 0) (hn : (dec s).r.num ≠ next) : scan s next = ([], 0, 7) := by
  unfold scan
  cases hl : s.length with
  | zero => exact absurd (List.eq_nil_of_length_eq_zero hl) h0
  | succ n => rw [scanF, if_neg h0, if_neg (by simp [h]), if_pos hn]
theorem scan_cons (s : List UInt8) (next : Nat) (h0 : s ≠ []) (h : (dec s).err = 0) (hn : (dec s).r.num = next) :
    scan s next = ((dec s).r :: (scan (s.drop (dec s).used) ((next + 1) % M64)).1, (dec s).used + (scan (s.drop (dec s).used) ((next + 1) % M64)).2.1, (scan (s.drop (dec s).used) ((next + 1) % M64)).2.2) := by
  have hu := dec_ok s h
  unfold scan
  cases hl : s.length with
  | zero => exact absurd (List.eq_nil_of_length_eq_zero hl) h0
  | succ n =>
    rw [scanF, if_neg h0, if_neg (by simp [h]), if_neg (by simp [hn]), scanF_more n (s.drop (dec s).used).length _ _ (by rw [List.length_drop]; omega) (Nat.le_refl _)]

/-- What a loop over bytes keeps: at the place 'at' it has the records of acc. -/
structure Scanning (s : List UInt8) (first : Nat) (acc : List Rec) (pos next : Nat) : Prop where
  hpos : pos ≤ s.length
  hnext : next = (first + acc.length) % M64
  all : scan s first = (acc ++ (scan (s.drop pos) next).1, pos + (scan (s.drop pos) next).2.1, (scan (s.drop pos) next).2.2)
theorem Scanning.start (s : List UInt8) (first : Nat) (h : first < M64) : Scanning s first [] 0 first :=
  ⟨Nat.zero_le _, by simp [Nat.mod_eq_of_lt h], by simp⟩
theorem Scanning.step {s : List UInt8} {first : Nat} {acc : List Rec} {pos next : Nat} (h : Scanning s first acc pos next) (h0 : pos < s.length) (he : (dec (s.drop pos)).err = 0) (hn : (dec (s.drop pos)).r.num = next) :
    Scanning s first (acc ++ [(dec (s.drop pos)).r]) (pos + (dec (s.drop pos)).used) ((next + 1) % M64) := by
  have h1 := dec_ok _ he
  have hne : s.drop pos ≠ [] := by intro e; have := congrArg List.length e; simp at this; omega
  refine ⟨by have := h1.2.2.1; rw [List.length_drop] at this; omega, ?_, ?_⟩
  · rw [h.hnext, List.length_append, Nat.mod_add_mod]; rfl
  · rw [h.all, scan_cons _ _ hne he hn, List.drop_drop]
    simp [Nat.add_assoc]
theorem Scanning.done {s : List UInt8} {first : Nat} {acc : List Rec} {pos next : Nat} (h : Scanning s first acc pos next) (h0 : ¬ pos < s.length) : scan s first = (acc, pos, 0) := by
  have e : s.drop pos = [] := List.drop_eq_nil_of_le (by omega)
  rw [h.all, e, scan_nil]; simp
theorem Scanning.fault {s : List UInt8} {first : Nat} {acc : List Rec} {pos next : Nat} (h : Scanning s first acc pos next) (h0 : pos < s.length) (he : (dec (s.drop pos)).err ≠ 0) : scan s first = (acc, pos, (dec (s.drop pos)).err) := by
  have hne : s.drop pos ≠ [] := by intro e; have := congrArg List.length e; simp at this; omega
  rw [h.all, scan_err _ _ hne he]; simp
theorem Scanning.form {s : List UInt8} {first : Nat} {acc : List Rec} {pos next : Nat} (h : Scanning s first acc pos next) (h0 : pos < s.length) (he : (dec (s.drop pos)).err = 0) (hn : (dec (s.drop pos)).r.num ≠ next) : scan s first = (acc, pos, 7) := by
  have hne : s.drop pos ≠ [] := by intro e; have := congrArg List.length e; simp at this; omega
  rw [h.all, scan_form _ _ hne he hn]; simp

end Go.Proofs.Yteipjgmbgkjjiaa.Frm
