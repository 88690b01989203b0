/-
  PLAIN MATHEMATICS OF ROWS OF FRAMES: what is read of frames one behind the other, of such that were cut off, and of such of which bits were turned. No program is in sight here.
-/
import Derived.Test.YteipjgmbgkjjiaaFrameMath
set_option linter.unusedVariables false
set_option linter.unusedSimpArgs false
namespace Go.Proofs.Yteipjgmbgkjjiaa.Frm

def recs : List (List UInt8) → Nat → List Rec
  | [], _ => []
  | t :: l, n => ⟨n, t⟩ :: recs l ((n + 1) % M64)
def bytes : List Rec → List UInt8
  | [] => []
  | r :: rs => enc r.num r.text ++ bytes rs
def lens : List (List UInt8) → Nat
  | [] => 0
  | t :: l => 16 + t.length + lens l
theorem recs_length : ∀ (l : List (List UInt8)) (n : Nat), (recs l n).length = l.length
  | [], _ => rfl
  | t :: l, n => by simp [recs, recs_length l]
theorem bytes_append : ∀ (a b : List Rec), bytes (a ++ b) = bytes a ++ bytes b
  | [], b => rfl
  | r :: a, b => by simp [bytes, bytes_append a b]
theorem bytes_length : ∀ (l : List (List UInt8)) (n : Nat), (bytes (recs l n)).length = lens l
  | [], _ => rfl
  | t :: l, n => by simp [bytes, recs, lens, enc_length, bytes_length l]
theorem lens_append : ∀ (a b : List (List UInt8)), lens (a ++ b) = lens a + lens b
  | [], b => by simp [lens]
  | t :: a, b => by simp [lens, lens_append a b]; omega
theorem recs_append : ∀ (a b : List (List UInt8)) (n : Nat), n < M64 → recs (a ++ b) n = recs a n ++ recs b ((n + a.length) % M64)
  | [], b, n, h => by simp [recs, Nat.mod_eq_of_lt h]
  | t :: a, b, n, h => by
    have ih := recs_append a b ((n + 1) % M64) (Nat.mod_lt _ (by decide))
    simp only [List.cons_append, recs, ih, List.length_cons]
    congr 3
    rw [Nat.mod_add_mod, Nat.add_assoc, Nat.add_comm 1]
theorem recs_snoc (a : List (List UInt8)) (t : List UInt8) (n : Nat) (h : n < M64) : recs (a ++ [t]) n = recs a n ++ [⟨(n + a.length) % M64, t⟩] := recs_append a [t] n h
theorem bytes_snoc (a : List (List UInt8)) (t : List UInt8) (n : Nat) (h : n < M64) : bytes (recs (a ++ [t]) n) = bytes (recs a n) ++ enc ((n + a.length) % M64) t := by
  rw [recs_snoc a t n h, bytes_append]; simp [bytes]
theorem take_snoc {α} (l : List α) (i : Nat) (h : i < l.length) : l.take (i + 1) = l.take i ++ [l[i]] := List.take_succ_eq_append_getElem h
theorem recs_take (l : List (List UInt8)) (n : Nat) (hn : n < M64) (k : Nat) (hk : k ≤ l.length) : recs (l.take k) n = (recs l n).take k := by
  have e : l = l.take k ++ l.drop k := (List.take_append_drop k l).symm
  conv => rhs; rw [e, recs_append _ _ _ hn]
  rw [take_app _ _ _ (by rw [recs_length, List.length_take]; omega)]
theorem lens_take_succ (l : List (List UInt8)) (k : Nat) (hk : k < l.length) : lens (l.take (k + 1)) = lens (l.take k) + (16 + l[k].length) := by
  rw [take_snoc l k hk, lens_append]; simp [lens]
theorem lens_take_le (l : List (List UInt8)) (k : Nat) : lens (l.take k) ≤ lens l := by
  conv => rhs; rw [← List.take_append_drop k l, lens_append]
  omega

theorem scan_app : ∀ (l : List (List UInt8)) (n : Nat) (rest : List UInt8), n < M64 → (∀ t ∈ l, t.length ≤ 65536) →
    scan (bytes (recs l n) ++ rest) n = (recs l n ++ (scan rest ((n + l.length) % M64)).1, lens l + (scan rest ((n + l.length) % M64)).2.1, (scan rest ((n + l.length) % M64)).2.2)
  | [], n, rest, h, _ => by simp [bytes, recs, lens, Nat.mod_eq_of_lt h]
  | t :: l, n, rest, h, ht => by
    have ih := scan_app l ((n + 1) % M64) rest (Nat.mod_lt _ (by decide)) (fun x hx => ht x (by simp [hx]))
    have hd := dec_enc n t (bytes (recs l ((n + 1) % M64)) ++ rest) h (ht t (by simp))
    have e : bytes (recs (t :: l) n) ++ rest = enc n t ++ (bytes (recs l ((n + 1) % M64)) ++ rest) := by simp [recs, bytes]
    have hne : enc n t ++ (bytes (recs l ((n + 1) % M64)) ++ rest) ≠ [] := by
      intro h0; have := congrArg List.length h0; rw [List.length_append, enc_length] at this; simp at this
    rw [e, scan_cons _ _ hne (by rw [hd]) (by rw [hd]), hd]
    simp only
    rw [drop_app _ _ _ (enc_length n t), ih]
    have e2 : ((n + 1) % M64 + l.length) % M64 = (n + (t :: l).length) % M64 := by rw [Nat.mod_add_mod, List.length_cons, Nat.add_assoc, Nat.add_comm 1]
    rw [e2]
    simp [recs, lens, Nat.add_assoc]
theorem scan_row (l : List (List UInt8)) (n : Nat) (h : n < M64) (ht : ∀ t ∈ l, t.length ≤ 65536) : scan (bytes (recs l n)) n = (recs l n, lens l, 0) := by
  have := scan_app l n [] h ht
  rw [List.append_nil, scan_nil] at this
  simpa using this

/-- Frames that were cut off at k: m whole ones are ahead of k. -/
theorem scan_cut (l : List (List UInt8)) (n k m : Nat) (h : n < M64) (ht : ∀ t ∈ l, t.length ≤ 65536) (hm : m ≤ l.length) (h1 : lens (l.take m) ≤ k) (h2 : ∀ hm : m < l.length, k < lens (l.take m) + (16 + l[m].length)) (hk : k ≤ lens l) :
    scan ((bytes (recs l n)).take k) n = ((recs l n).take m, lens (l.take m), if k = lens (l.take m) then 0 else 100) := by
  have htk : ∀ t ∈ l.take m, t.length ≤ 65536 := fun t hx => ht t (List.mem_of_mem_take hx)
  by_cases hlt : m < l.length
  · have h3 := h2 hlt
    have e : l = l.take m ++ l[m] :: l.drop (m + 1) := by simp
    have eb : bytes (recs l n) = bytes (recs (l.take m) n) ++ (enc ((n + (l.take m).length) % M64) l[m] ++ bytes (recs (l.drop (m + 1)) (((n + (l.take m).length) % M64 + 1) % M64))) := by
      conv => lhs; rw [e, recs_append _ _ _ h, bytes_append]
      simp only [recs, bytes]
    have et : (bytes (recs l n)).take k = bytes (recs (l.take m) n) ++ (enc ((n + (l.take m).length) % M64) l[m]).take (k - lens (l.take m)) := by
      rw [eb, List.take_append, List.take_of_length_le (by rw [bytes_length]; exact h1), bytes_length, List.take_append_of_le_length (by rw [enc_length]; omega)]
    rw [et, scan_app _ _ _ h htk]
    have hd := dec_cut ((n + (l.take m).length) % M64) l[m] (k - lens (l.take m)) (ht _ (List.getElem_mem hlt)) (by omega)
    by_cases h0 : k = lens (l.take m)
    · have : k - lens (l.take m) = 0 := by omega
      rw [this, List.take_zero, scan_nil, if_pos h0, recs_take l n h m hm]; simp
    · have hne : (enc ((n + (l.take m).length) % M64) l[m]).take (k - lens (l.take m)) ≠ [] := by
        intro e0; have := congrArg List.length e0; rw [List.length_take, enc_length] at this; simp at this; omega
      rw [scan_err _ _ hne (by rw [hd]; decide), hd, if_neg h0, recs_take l n h m hm]; simp
  · obtain rfl : m = l.length := by omega
    rw [List.take_of_length_le (Nat.le_refl _)] at h1 ⊢
    have hkl : k = lens l := by omega
    rw [List.take_of_length_le (by rw [bytes_length]; omega), scan_row l n h ht, if_pos hkl, List.take_of_length_le (by rw [recs_length]; exact Nat.le_refl _)]

/-! ### Bits that are turned -/
def flipAt (l : List UInt8) (p : Nat) : List UInt8 := if h : p / 8 < l.length then l.set (p / 8) (l[p / 8] ^^^ (1 <<< UInt8.ofNat (p % 8))) else l
def flips (l : List UInt8) (p : Nat) (t : BitVec 32) : Nat → List UInt8
  | 0 => l
  | i + 1 => if t.getLsbD i then flipAt (flips l p t i) (p + i) else flips l p t i
def cnt (t : BitVec 32) : Nat → Nat
  | 0 => 0
  | i + 1 => cnt t i + if t.getLsbD i then 1 else 0
theorem flipAt_length (l : List UInt8) (p : Nat) : (flipAt l p).length = l.length := by unfold flipAt; split <;> simp
theorem flips_length (l : List UInt8) (p : Nat) (t : BitVec 32) (i : Nat) : (flips l p t i).length = l.length := by
  induction i with
  | zero => rfl
  | succ i ih => rw [flips]; split <;> simp [flipAt_length, ih]
theorem flips_none (l : List UInt8) (p : Nat) (t : BitVec 32) (i : Nat) (h : cnt t i = 0) : flips l p t i = l := by
  induction i with
  | zero => rfl
  | succ i ih =>
    rw [cnt] at h
    rw [flips]
    by_cases hb : t.getLsbD i = true
    · rw [if_pos hb] at h; omega
    · rw [if_neg hb, ih (by omega)]
theorem flipAt_append (A B C : List UInt8) (p : Nat) (h : p < 8 * B.length) : flipAt (A ++ B ++ C) (8 * A.length + p) = A ++ flipAt B p ++ C := by
  have e1 : (8 * A.length + p) / 8 = A.length + p / 8 := by omega
  have e2 : (8 * A.length + p) % 8 = p % 8 := by omega
  have hp : p / 8 < B.length := by omega
  unfold flipAt
  rw [dif_pos (by simp; omega), dif_pos hp]
  simp only [e1, e2]
  have eg : (A ++ B ++ C)[A.length + p / 8]'(by simp; omega) = B[p / 8] := by
    rw [List.getElem_append_left (by simp; omega), List.getElem_append_right (by omega)]
    simp
  rw [eg, List.append_assoc, List.set_append_right _ _ (by omega), List.append_assoc]
  congr 1
  rw [show A.length + p / 8 - A.length = p / 8 from by omega, List.set_append_left _ _ hp]
theorem flips_append (A B C : List UInt8) (p : Nat) (t : BitVec 32) (i : Nat) (h : i = 0 ∨ p + i ≤ 8 * B.length) : flips (A ++ B ++ C) (8 * A.length + p) t i = A ++ flips B p t i ++ C := by
  induction i with
  | zero => rfl
  | succ i ih =>
    rw [flips, flips, ih (by omega)]
    by_cases hb : t.getLsbD i = true
    · rw [if_pos hb, if_pos hb, Nat.add_assoc]
      exact flipAt_append A _ C (p + i) (by rw [flips_length]; omega)
    · rw [if_neg hb, if_neg hb]
theorem raw_flips (l : List UInt8) (p : Nat) (t : BitVec 32) (c : BitVec 32) (i : Nat) (hi : i ≤ 32) (h : i = 0 ∨ p + i ≤ 8 * l.length) :
    Crc.raw c (flips l p t i) = Crc.raw c l ^^^ Crc.itN (8 * l.length - p) (Crc.low i t) := by
  induction i with
  | zero => rw [Crc.low_zero, Crc.itN_zero]; simp [flips]
  | succ i ih =>
    have hp : p + i + 1 ≤ 8 * l.length := by omega
    rw [flips, Crc.low_succ i t (by omega), Crc.itN_xor, ← BitVec.xor_assoc, ← ih (by omega) (by omega)]
    by_cases hb : t.getLsbD i = true
    · rw [if_pos hb, if_pos hb]
      have hlt : (p + i) / 8 < (flips l p t i).length := by rw [flips_length]; omega
      unfold flipAt
      rw [dif_pos hlt, Crc.raw_turn _ _ _ _ (Nat.mod_lt _ (by decide)) hlt, flips_length]
      congr 1
      rw [← Crc.itN_one i (by omega), ← Crc.itN_add]
      congr 1
      omega
    · rw [if_neg hb, if_neg hb, Crc.itN_zero]; simp
theorem cnt_low (t : BitVec 32) (i : Nat) (hi : i ≤ 32) (h : Crc.low i t = 0#32) : cnt t i = 0 := by
  have hz : ∀ k, k < i → t.getLsbD k = false := by
    intro k hk
    have := Crc.low_bit i t k (by omega)
    rw [h] at this
    simpa [hk] using this.symm
  clear h
  induction i with
  | zero => rfl
  | succ i ih => rw [cnt, ih (by omega) (fun k hk => hz k (by omega)), hz i (by omega)]; rfl
/-- Of bytes of which bits were turned the sum is another one. -/
theorem crc_flips (A B C : List UInt8) (p : Nat) (t : BitVec 32) (i : Nat) (hi : i ≤ 32) (h : i = 0 ∨ p + i ≤ 8 * B.length) (hc : cnt t i ≠ 0) : crc (A ++ flips B p t i ++ C) ≠ crc (A ++ B ++ C) := by
  intro e
  have e' : Crc.sum (A ++ flips B p t i ++ C) = Crc.sum (A ++ B ++ C) := BitVec.eq_of_toNat_eq e
  rw [← flips_append A B C p t i h] at e'
  unfold Crc.sum Crc.more at e'
  have e2 : Crc.raw (~~~ 0#32) (flips (A ++ B ++ C) (8 * A.length + p) t i) = Crc.raw (~~~ 0#32) (A ++ B ++ C) := by
    have := congrArg (fun x : BitVec 32 => ~~~ x) e'
    simpa using this
  rw [raw_flips _ _ _ _ _ hi (by simp; omega)] at e2
  have e3 : Crc.itN (8 * (A ++ B ++ C).length - (8 * A.length + p)) (Crc.low i t) = 0#32 := by
    have := congrArg (fun x : BitVec 32 => Crc.raw (~~~ 0#32) (A ++ B ++ C) ^^^ x) e2
    simpa [← BitVec.xor_assoc] using this
  rw [← Crc.itN_zero (8 * (A ++ B ++ C).length - (8 * A.length + p))] at e3
  exact hc (cnt_low t i hi (Crc.itN_inj _ e3))
theorem flips_ne (B : List UInt8) (p : Nat) (t : BitVec 32) (i : Nat) (hi : i ≤ 32) (h : i = 0 ∨ p + i ≤ 8 * B.length) (hc : cnt t i ≠ 0) : flips B p t i ≠ B := by
  intro e
  have := crc_flips [] B [] p t i hi h hc
  rw [e] at this
  exact this rfl
theorem num_inj (a b : List UInt8) (k : Nat) (ha : a.length = k) (hb : b.length = k) (hk : k ≤ 8) (h : num a = num b) : a = b := by
  rw [← be_num k a ha hk, ← be_num k b hb hk, h]

/-- The part's place within a frame, and how many bits it has. -/
def lowOf (part : Nat) : Nat := if part = 0 then 4 else if part = 1 then 12 else 16
def bitsOf (part : Nat) (t : List UInt8) : Nat := if part = 0 then 64 else if part = 1 then 32 else 8 * t.length
theorem dec_flips (n : Nat) (t r : List UInt8) (part j i : Nat) (turns : BitVec 32) (hn : n < M64) (ht : t.length ≤ 65536) (hp : part < 3) (hi : i ≤ 32) (h : i = 0 ∨ j + i ≤ bitsOf part t) (hc : cnt turns i ≠ 0) :
    dec (flips (enc n t ++ r) (8 * lowOf part + j) turns i) = ⟨rec0, 0, 101⟩ := by
  have h1 := num_be 4 t.length (by decide) (by rw [show 256 ^ 4 = 4294967296 from by decide]; omega)
  have h3 := num_be 4 (crc (be 4 t.length ++ be 8 n ++ t)) (by decide) (by rw [show 256 ^ 4 = 4294967296 from by decide]; exact crc_lt _)
  have e : enc n t = be 4 t.length ++ be 8 n ++ be 4 (crc (be 4 t.length ++ be 8 n ++ t)) ++ t := rfl
  rw [e]
  have la := be_length 4 t.length
  have lb := be_length 8 n
  have lc := be_length 4 (crc (be 4 t.length ++ be 8 n ++ t))
  generalize hcc : be 4 (crc (be 4 t.length ++ be 8 n ++ t)) = c at *
  generalize be 4 t.length = a at *
  generalize be 8 n = b at *
  obtain rfl | rfl | rfl : part = 0 ∨ part = 1 ∨ part = 2 := by omega
  · have hb : i = 0 ∨ j + i ≤ 8 * b.length := by rw [lb]; exact h
    have ef : flips (a ++ b ++ c ++ t ++ r) (8 * lowOf 0 + j) turns i = a ++ flips b j turns i ++ c ++ t ++ r := by
      have := flips_append a b (c ++ t ++ r) j turns i hb
      rw [la] at this
      simpa [lowOf] using this
    rw [ef, dec_parts _ _ _ _ _ la (by rw [flips_length]; exact lb) lc h1 ht, if_pos]
    rw [h3]
    exact crc_flips a b t j turns i hi hb hc
  · have hb : i = 0 ∨ j + i ≤ 8 * c.length := by rw [lc]; exact h
    have ef : flips (a ++ b ++ c ++ t ++ r) (8 * lowOf 1 + j) turns i = a ++ b ++ flips c j turns i ++ t ++ r := by
      have := flips_append (a ++ b) c (t ++ r) j turns i hb
      rw [List.length_append, la, lb] at this
      simpa [lowOf] using this
    rw [ef, dec_parts _ _ _ _ _ la lb (by rw [flips_length]; exact lc) h1 ht, if_pos]
    rw [← h3]
    intro e
    exact flips_ne c j turns i hi hb hc (num_inj _ _ 4 (by rw [flips_length]; exact lc) lc (by decide) e.symm)
  · have hb : i = 0 ∨ j + i ≤ 8 * t.length := h
    have ef : flips (a ++ b ++ c ++ t ++ r) (8 * lowOf 2 + j) turns i = a ++ b ++ c ++ flips t j turns i ++ r := by
      have := flips_append (a ++ b ++ c) t r j turns i hb
      rw [List.length_append, List.length_append, la, lb, lc] at this
      simpa [lowOf] using this
    rw [ef, dec_parts _ _ _ _ _ la lb lc (by rw [flips_length]; exact h1) (by rw [flips_length]; exact ht), if_pos]
    rw [h3]
    have := crc_flips (a ++ b) t [] j turns i hi hb hc
    simpa using this
/-- Rows of frames of which bits were turned in the frame k. -/
theorem scan_flips (l : List (List UInt8)) (n : Nat) (k part j i : Nat) (turns : BitVec 32) (hn : n < M64) (ht : ∀ t ∈ l, t.length ≤ 65536) (hk : k < l.length) (hp : part < 3) (hi : i ≤ 32) (h : i = 0 ∨ j + i ≤ bitsOf part l[k]) (hc : cnt turns i ≠ 0) :
    scan (flips (bytes (recs l n)) (8 * (lens (l.take k) + lowOf part) + j) turns i) n = ((recs l n).take k, lens (l.take k), 101) := by
  have htk : ∀ t ∈ l.take k, t.length ≤ 65536 := fun t hx => ht t (List.mem_of_mem_take hx)
  have e : l = l.take k ++ l[k] :: l.drop (k + 1) := by simp
  have eb : bytes (recs l n) = bytes (recs (l.take k) n) ++ (enc ((n + (l.take k).length) % M64) l[k] ++ bytes (recs (l.drop (k + 1)) (((n + (l.take k).length) % M64 + 1) % M64))) := by
    conv => lhs; rw [e, recs_append _ _ _ hn, bytes_append]
    simp only [recs, bytes]
  have htl := ht _ (List.getElem_mem hk)
  have hnn : (n + (l.take k).length) % M64 < M64 := Nat.mod_lt _ (by decide)
  generalize (n + (l.take k).length) % M64 = N at *
  generalize bytes (recs (l.drop (k + 1)) ((N + 1) % M64)) = R at *
  have hbits : bitsOf part l[k] ≤ 8 * (16 + l[k].length - lowOf part) := by
    unfold bitsOf lowOf; split
    · omega
    · split <;> omega
  have hlow : lowOf part ≤ 16 := by unfold lowOf; split; omega; split <;> omega
  have hf := flips_append (bytes (recs (l.take k) n)) (enc N l[k] ++ R) [] (8 * lowOf part + j) turns i (by rw [List.length_append, enc_length]; omega)
  rw [bytes_length, List.append_nil, List.append_nil] at hf
  rw [eb, show 8 * (lens (l.take k) + lowOf part) + j = 8 * lens (l.take k) + (8 * lowOf part + j) from by omega, hf, scan_app _ _ _ hn htk]
  have hd := dec_flips N l[k] R part j i turns hnn htl hp hi h hc
  have hne : flips (enc N l[k] ++ R) (8 * lowOf part + j) turns i ≠ [] := by
    intro e0; have := congrArg List.length e0; rw [flips_length, List.length_append, enc_length] at this; simp at this
  rw [scan_err _ _ hne (by rw [hd]; decide), hd, recs_take l n hn k (by omega)]
  simp

end Go.Proofs.Yteipjgmbgkjjiaa.Frm
