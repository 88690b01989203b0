/-
  PLAIN MATHEMATICS OF THE BRICKS: numbers as rows of seven bits, the lowest first; whole numbers, zig-zag; texts; lists; and what bytes are read as. No program is in sight here.
-/
namespace Go.Proofs.Ytboplbcfoooenaa.Wr

abbrev M64 : Nat := 18446744073709551616

/-! ### Writing -/
def uvF : Nat → Nat → List UInt8
  | 0, _ => []
  | f + 1, x => if x < 128 then [UInt8.ofNat x] else UInt8.ofNat (x % 128 + 128) :: uvF f (x / 128)
/-- A number's bytes. -/
def uv (x : Nat) : List UInt8 := uvF 10 x
theorem uvF_small (f x : Nat) (h : x < 128) : uvF (f + 1) x = [UInt8.ofNat x] := by rw [uvF, if_pos h]
theorem uvF_big (f x : Nat) (h : ¬ x < 128) : uvF (f + 1) x = UInt8.ofNat (x % 128 + 128) :: uvF f (x / 128) := by rw [uvF, if_neg h]
theorem uvF_length (f : Nat) : ∀ x, (uvF f x).length ≤ f := by
  induction f with
  | zero => intro x; simp [uvF]
  | succ f ih =>
    intro x
    rw [uvF]
    split
    · simp
    · have := ih (x / 128); simp; omega
theorem uvF_pos (f x : Nat) : 1 ≤ (uvF (f + 1) x).length := by rw [uvF]; split <;> simp
/-- Zig-zag. -/
def zig (x : Int) : Nat := if 0 ≤ x then (2 * x).toNat else (-(2 * x) - 1).toNat
def zag (n : Nat) : Int := if n % 2 = 0 then (n / 2 : Nat) else -((n / 2 : Nat) : Int) - 1
theorem zag_zig (x : Int) : zag (zig x) = x := by
  unfold zag zig
  split <;> split <;> omega
theorem zig_zag (n : Nat) : zig (zag n) = n := by
  unfold zag zig
  split <;> split <;> omega
theorem zig_lt (x : Int) (h1 : -9223372036854775808 ≤ x) (h2 : x ≤ 9223372036854775807) : zig x < M64 := by
  unfold zig M64; split <;> omega
theorem zag_bd (n : Nat) (h : n < M64) : -9223372036854775808 ≤ zag n ∧ zag n ≤ 9223372036854775807 := by
  unfold zag; unfold M64 at h; split <;> omega
def txt (t : List UInt8) : List UInt8 := uv t.length ++ t
def bool (b : Bool) : UInt8 := if b then 1 else 0

/-! ### Reading -/
/-- What is read from place i on, where the value of what was read is acc: the number, how many bytes it has, and with which error. -/
def rdG : List UInt8 → Nat → Nat → Nat × Nat × Nat
  | [], _, _ => (0, 0, 6)
  | c :: s, i, acc =>
    if (i = 9 ∧ 1 < c.toNat) ∨ (0 < i ∧ c.toNat = 0) then (0, 0, 7)
    else if c.toNat < 128 then ((acc + c.toNat % 128 * 128 ^ i) % M64, i + 1, 0)
    else rdG s (i + 1) ((acc + c.toNat % 128 * 128 ^ i) % M64)
def rd (s : List UInt8) : Nat × Nat × Nat := rdG s 0 0

theorem pow128 (i : Nat) (h : i ≤ 9) : 128 ^ i ≤ 9223372036854775808 := by
  have : 128 ^ i ≤ 128 ^ 9 := Nat.pow_le_pow_right (by decide) h
  have e : 128 ^ 9 = 9223372036854775808 := by decide
  omega
/-- What is written is read: from place i on. -/
theorem rdG_uv : ∀ (f i acc x : Nat) (r : List UInt8), i + f = 10 → x * 128 ^ i + acc < M64 → acc < 128 ^ i → (0 < i → 0 < x) → rdG (uvF f x ++ r) i acc = (acc + x * 128 ^ i, i + (uvF f x).length, 0)
  | 0, i, acc, x, r, hi, hx, ha, hp => by
    obtain rfl : i = 10 := by omega
    exfalso
    have := hp (by decide)
    have e : 128 ^ 10 = 1180591620717411303424 := by decide
    rw [e] at hx
    unfold M64 at hx; omega
  | f + 1, i, acc, x, r, hi, hx, ha, hp => by
    have hpw := pow128 i (by omega)
    have hpos : 0 < 128 ^ i := Nat.pow_pos (by decide)
    by_cases h : x < 128
    · have hc : (UInt8.ofNat x).toNat = x := by rw [UInt8.toNat_ofNat']; omega
      rw [uvF_small _ _ h]
      have hno : ¬ ((i = 9 ∧ 1 < x) ∨ (0 < i ∧ x = 0)) := by
        rintro (⟨rfl, h1⟩ | ⟨h1, h2⟩)
        · have e : 128 ^ 9 = 9223372036854775808 := by decide
          rw [e] at hx
          unfold M64 at hx; omega
        · have := hp h1; omega
      simp only [List.cons_append, List.nil_append, rdG, hc]
      rw [if_neg hno, if_pos h, Nat.mod_eq_of_lt h, Nat.mod_eq_of_lt (by omega)]
      rfl
    · have hc : (UInt8.ofNat (x % 128 + 128)).toNat = x % 128 + 128 := by rw [UInt8.toNat_ofNat']; omega
      rw [uvF_big _ _ h]
      have hi9 : i ≠ 9 := by
        rintro rfl
        have e : 128 ^ 9 = 9223372036854775808 := by decide
        rw [e] at hx
        unfold M64 at hx; omega
      have hno : ¬ ((i = 9 ∧ 1 < x % 128 + 128) ∨ (0 < i ∧ x % 128 + 128 = 0)) := by omega
      have hxm : x % 128 * 128 ^ i ≤ x * 128 ^ i := Nat.mul_le_mul_right _ (Nat.mod_le _ _)
      have hm : (x % 128 + 128) % 128 = x % 128 := by omega
      have hsplit : x * 128 ^ i = x % 128 * 128 ^ i + x / 128 * 128 ^ (i + 1) := by
        rw [Nat.pow_succ, Nat.mul_comm (128 ^ i) 128, ← Nat.mul_assoc, ← Nat.add_mul]
        congr 1
        omega
      have hlow : acc + x % 128 * 128 ^ i < 128 ^ (i + 1) := by
        have : x % 128 * 128 ^ i ≤ 127 * 128 ^ i := Nat.mul_le_mul_right _ (by omega)
        rw [Nat.pow_succ]; omega
      simp only [List.cons_append, rdG, hc]
      rw [if_neg hno, if_neg (by omega), hm, Nat.mod_eq_of_lt (by omega)]
      rw [rdG_uv f (i + 1) _ (x / 128) r (by omega) (by omega) hlow (fun _ => by omega)]
      simp only [List.length_cons]
      rw [hsplit, Nat.add_assoc, Nat.add_assoc, Nat.add_comm 1]
theorem rd_uv (x : Nat) (r : List UInt8) (h : x < M64) : rd (uv x ++ r) = (x, (uv x).length, 0) := by
  have := rdG_uv 10 0 0 x r rfl (by simpa using h) (by decide) (by omega)
  simpa [rd, uv] using this
/-- What is read without a fault is written as itself. -/
theorem rdG_ok : ∀ (s : List UInt8) (i acc : Nat), i ≤ 9 → acc < 128 ^ i → (rdG s i acc).2.2 = 0 →
    ∃ k x, (rdG s i acc) = (acc + x * 128 ^ i, i + k, 0) ∧ 1 ≤ k ∧ k ≤ s.length ∧ i + k ≤ 10 ∧ s.take k = uvF (10 - i) x ∧ (0 < i → 0 < x) ∧ acc + x * 128 ^ i < M64
  | [], i, acc, hi, ha, h => by simp [rdG] at h
  | c :: s, i, acc, hi, ha, h => by
    have hpw := pow128 i hi
    have hpos : 0 < 128 ^ i := Nat.pow_pos (by decide)
    have hcl := c.toNat_lt
    rw [rdG] at h ⊢
    by_cases h1 : (i = 9 ∧ 1 < c.toNat) ∨ (0 < i ∧ c.toNat = 0)
    · rw [if_pos h1] at h; cases h
    rw [if_neg h1] at h ⊢
    obtain ⟨f, hf⟩ : ∃ f, 10 - i = f + 1 := ⟨9 - i, by omega⟩
    have hbd : acc + c.toNat % 128 * 128 ^ i < 128 ^ (i + 1) := by
      have : c.toNat % 128 * 128 ^ i ≤ 127 * 128 ^ i := Nat.mul_le_mul_right _ (by omega)
      rw [Nat.pow_succ]; omega
    have h64 : acc + c.toNat % 128 * 128 ^ i < M64 := by
      by_cases h9 : i = 9
      · subst h9
        have e : 128 ^ 9 = 9223372036854775808 := by decide
        rw [e] at ha ⊢
        unfold M64; omega
      · have := Nat.pow_le_pow_right (n := 128) (by decide) (show i + 1 ≤ 9 from by omega)
        have e : 128 ^ 9 = 9223372036854775808 := by decide
        unfold M64; omega
    rw [Nat.mod_eq_of_lt h64] at h ⊢
    by_cases h2 : c.toNat < 128
    · rw [if_pos h2]
      refine ⟨1, c.toNat, by rw [Nat.mod_eq_of_lt h2], by omega, by simp, by omega, ?_, by omega, by rwa [Nat.mod_eq_of_lt h2] at h64⟩
      rw [hf, uvF_small _ _ h2]
      simp
    · rw [if_neg h2] at h ⊢
      by_cases h9 : i = 9
      · omega
      obtain ⟨k, x, e, k1, k2, k3, k4, k5, k6⟩ := rdG_ok s (i + 1) _ (by omega) hbd h
      have hx := k5 (by omega)
      have e1 : acc + c.toNat % 128 * 128 ^ i + x * 128 ^ (i + 1) = acc + (c.toNat % 128 + 128 * x) * 128 ^ i := by
        rw [Nat.pow_succ, Nat.add_mul, Nat.add_assoc]
        congr 2
        rw [Nat.mul_comm (128 ^ i) 128, ← Nat.mul_assoc, Nat.mul_comm x 128]
      refine ⟨k + 1, c.toNat % 128 + 128 * x, ?_, by omega, by simp; omega, by omega, ?_, by omega, by rw [← e1]; exact k6⟩
      · rw [e, e1, Nat.add_assoc, Nat.add_comm 1]
      · have hf2 : 10 - (i + 1) = f := by omega
        rw [hf2] at k4
        rw [hf, uvF_big _ _ (by omega), List.take_succ_cons, k4]
        congr 1
        · apply UInt8.toNat_inj.1; rw [UInt8.toNat_ofNat']; omega
        · congr 1; omega
theorem rd_ok (s : List UInt8) (h : (rd s).2.2 = 0) : s.take (rd s).2.1 = uv (rd s).1 ∧ 1 ≤ (rd s).2.1 ∧ (rd s).2.1 ≤ s.length ∧ (rd s).2.1 ≤ 10 ∧ (rd s).1 < M64 := by
  obtain ⟨k, x, e, k1, k2, k3, k4, k5, k6⟩ := rdG_ok s 0 0 (by decide) (by decide) h
  have e' : rd s = (x, k, 0) := by unfold rd; rw [e]; simp
  rw [e']
  simp only [Nat.pow_zero, Nat.mul_one, Nat.zero_add] at k6 k4 k3
  exact ⟨k4, k1, k2, k3, k6⟩
/-- A fault hands back zeros. -/
theorem rdG_err : ∀ (s : List UInt8) (i acc : Nat), (rdG s i acc).2.2 ≠ 0 → (rdG s i acc).1 = 0 ∧ (rdG s i acc).2.1 = 0 ∧ ((rdG s i acc).2.2 = 6 ∨ (rdG s i acc).2.2 = 7)
  | [], i, acc, _ => by simp [rdG]
  | c :: s, i, acc, h => by
    rw [rdG] at h ⊢
    split
    · simp
    · split
      · rename_i h1 h2; rw [if_neg h1, if_pos h2] at h; simp at h
      · rename_i h1 h2; rw [if_neg h1, if_neg h2] at h; exact rdG_err s _ _ h
theorem uv_inj {x y : Nat} (hx : x < M64) (hy : y < M64) (r r' : List UInt8) (h : uv x ++ r = uv y ++ r') : x = y ∧ r = r' := by
  have h1 := rd_uv x r hx
  have h2 := rd_uv y r' hy
  rw [h, h2] at h1
  simp only [Prod.mk.injEq] at h1
  obtain ⟨rfl, _, _⟩ := h1
  exact ⟨rfl, List.append_cancel_left h⟩
end Go.Proofs.Ytboplbcfoooenaa.Wr
