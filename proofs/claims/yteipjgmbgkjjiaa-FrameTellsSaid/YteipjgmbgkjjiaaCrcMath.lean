/-
  PLAIN MATHEMATICS OF CRC-32: one step 'half' of a row of bits is linear and one-to-one; sums of texts; joins; bits that are turned. No program is in sight here.
-/
set_option linter.unusedVariables false
set_option linter.unusedSimpArgs false
namespace Go.Proofs.Yteipjgmbgkjjiaa.Crc

abbrev W32 := BitVec 32

def poly : W32 := 0xEDB88320#32
def half (c : W32) : W32 := (c >>> 1) ^^^ (poly * (c &&& 1#32))

def bit0 (c : W32) : Bool := c.getLsbD 0
theorem bit0_xor (a b : W32) : bit0 (a ^^^ b) = (bit0 a ^^ bit0 b) := by unfold bit0; simp only [BitVec.getLsbD_xor]

theorem and_one (c : W32) : c &&& 1#32 = if bit0 c then 1#32 else 0#32 := by
  apply BitVec.eq_of_getLsbD_eq
  intro i hi
  rw [BitVec.getLsbD_and, BitVec.getLsbD_one]
  by_cases h0 : i = 0
  · subst h0
    show (bit0 c && _) = _
    cases bit0 c <;> decide
  · have h1 : (decide (0 < 32) && decide (i = 0)) = false := by simp [h0]
    rw [h1, Bool.and_false]
    cases bit0 c
    · simp
    · rw [if_pos rfl, BitVec.getLsbD_one, h1]

theorem half_eq (c : W32) : half c = (c >>> 1) ^^^ (if bit0 c then poly else 0#32) := by
  unfold half
  rw [and_one]
  cases bit0 c
  · simp
  · simp

theorem shift_xor (a b : W32) (k : Nat) : (a ^^^ b) >>> k = (a >>> k) ^^^ (b >>> k) := by
  apply BitVec.eq_of_getLsbD_eq
  intro i hi
  simp only [BitVec.getLsbD_xor, BitVec.getLsbD_ushiftRight]

theorem half_xor (a b : W32) : half (a ^^^ b) = half a ^^^ half b := by
  simp only [half_eq, shift_xor, bit0_xor]
  generalize a >>> 1 = x
  generalize b >>> 1 = y
  generalize poly = p
  cases bit0 a <;> cases bit0 b
  · simp
  · simp; ac_rfl
  · simp; ac_rfl
  · simp
    have : x ^^^ p ^^^ (y ^^^ p) = x ^^^ y ^^^ (p ^^^ p) := by ac_rfl
    rw [this]; simp

theorem half_zero : half 0#32 = 0#32 := by decide

theorem half_inj0 (c : W32) (h : half c = 0#32) : c = 0#32 := by
  rw [half_eq] at h
  have hb : ∀ i, (c.getLsbD (1 + i) ^^ (if bit0 c then poly else 0#32).getLsbD i) = false := by
    intro i
    have := congrArg (fun x : W32 => x.getLsbD i) h
    simp only [BitVec.getLsbD_xor, BitVec.getLsbD_ushiftRight] at this
    rw [this]; simp
  cases h0 : bit0 c with
  | true =>
    have h31 := hb 31
    rw [h0, if_pos rfl, show poly.getLsbD 31 = true from by decide, BitVec.getLsbD_of_ge _ _ (by decide)] at h31
    cases h31
  | false =>
    apply BitVec.eq_of_getLsbD_eq
    intro i hi
    cases i with
    | zero => show bit0 c = _; rw [h0]; simp
    | succ i =>
      have h3 := hb i
      rw [h0, Nat.add_comm] at h3
      simpa using h3

theorem half_inj {a b : W32} (h : half a = half b) : a = b := by
  have h2 : half (a ^^^ b) = 0#32 := by rw [half_xor, h, BitVec.xor_self]
  have := half_inj0 _ h2
  calc a = a ^^^ (b ^^^ b) := by simp
    _ = (a ^^^ b) ^^^ b := by rw [BitVec.xor_assoc]
    _ = b := by rw [this]; simp

/-- 'half', n times. -/
def itN : Nat → W32 → W32
  | 0, c => c
  | n + 1, c => half (itN n c)

theorem itN_zero (n : Nat) : itN n 0#32 = 0#32 := by
  induction n with
  | zero => rfl
  | succ n ih => simp [itN, ih, half_zero]
theorem itN_xor (n : Nat) (a b : W32) : itN n (a ^^^ b) = itN n a ^^^ itN n b := by
  induction n with
  | zero => rfl
  | succ n ih => simp [itN, ih, half_xor]
theorem itN_inj (n : Nat) {a b : W32} (h : itN n a = itN n b) : a = b := by
  induction n with
  | zero => exact h
  | succ n ih => exact ih (half_inj h)
theorem itN_add (m n : Nat) (c : W32) : itN (m + n) c = itN m (itN n c) := by
  induction m with
  | zero => simp [itN]
  | succ m ih => rw [Nat.succ_add]; simp [itN, ih]
theorem itN_half (n : Nat) (c : W32) : itN n (half c) = half (itN n c) := by
  have h1 : itN (n + 1) c = itN n (half c) := itN_add n 1 c
  rw [← h1]; rfl

def byte (b : UInt8) : W32 := BitVec.ofNat 32 b.toNat
def stepB (c : W32) (b : UInt8) : W32 := itN 8 (c ^^^ byte b)
def raw (c : W32) (l : List UInt8) : W32 := l.foldl stepB c
def more (c : W32) (l : List UInt8) : W32 := ~~~ (raw (~~~ c) l)
def sum (l : List UInt8) : W32 := more 0#32 l
def join (a b : W32) (n : Nat) : W32 := itN (8 * n) a ^^^ b

theorem raw_nil (c : W32) : raw c [] = c := rfl
theorem raw_cons (c : W32) (b : UInt8) (l : List UInt8) : raw c (b :: l) = raw (stepB c b) l := rfl
theorem raw_append (c : W32) (l m : List UInt8) : raw c (l ++ m) = raw (raw c l) m := by simp [raw]
theorem raw_snoc (c : W32) (l : List UInt8) (b : UInt8) : raw c (l ++ [b]) = stepB (raw c l) b := by simp [raw]

theorem raw_shift (l : List UInt8) : ∀ (c d : W32), raw (c ^^^ d) l = raw c l ^^^ itN (8 * l.length) d := by
  induction l with
  | nil => intro c d; simp [raw, itN]
  | cons b l ih =>
    intro c d
    have e : stepB (c ^^^ d) b = stepB c b ^^^ itN 8 d := by
      unfold stepB
      rw [show c ^^^ d ^^^ byte b = (c ^^^ byte b) ^^^ d from by rw [BitVec.xor_assoc, BitVec.xor_comm d, ← BitVec.xor_assoc], itN_xor]
    rw [raw_cons, raw_cons, e, ih, List.length_cons, ← itN_add]; rfl

theorem byte_xor (a b : UInt8) : byte (a ^^^ b) = byte a ^^^ byte b := by
  unfold byte
  rw [UInt8.toNat_xor]
  apply BitVec.eq_of_toNat_eq
  simp

theorem raw_xor2 : ∀ (l m : List UInt8) (c d : W32), l.length = m.length → raw (c ^^^ d) (List.zipWith (· ^^^ ·) l m) = raw c l ^^^ raw d m
  | [], [], c, d, _ => by simp [raw]
  | [], b :: m, c, d, h => by simp at h
  | a :: l, [], c, d, h => by simp at h
  | a :: l, b :: m, c, d, h => by
    rw [List.zipWith_cons_cons, raw_cons, raw_cons, raw_cons]
    have e : stepB (c ^^^ d) (a ^^^ b) = stepB c a ^^^ stepB d b := by
      unfold stepB
      rw [← itN_xor, byte_xor]
      congr 1
      ac_rfl
    rw [e]
    exact raw_xor2 l m _ _ (by simpa using h)

theorem not_eq (c : W32) : ~~~ c = c ^^^ 0xFFFFFFFF#32 := by
  rw [show (0xFFFFFFFF#32 : W32) = BitVec.allOnes 32 from by decide, BitVec.xor_allOnes]

theorem more_append (a : W32) (l m : List UInt8) : more (more a l) m = more a (l ++ m) := by
  unfold more; rw [raw_append, BitVec.not_not]
theorem more_nil (a : W32) : more a [] = a := by simp [more, raw]
theorem sum_append (l m : List UInt8) : more (sum l) m = sum (l ++ m) := more_append _ _ _

theorem join_sum (l m : List UInt8) : join (sum l) (sum m) m.length = sum (l ++ m) := by
  have h1 : sum (l ++ m) = ~~~ raw (raw (~~~ 0#32) l) m := by unfold sum more; rw [raw_append]
  generalize hA : raw (~~~ 0#32) l = A at h1
  have h2 : sum l = ~~~ A := by unfold sum more; rw [hA]
  have h3 : raw A m = raw (~~~ 0#32) m ^^^ itN (8 * m.length) (~~~ A) := by
    rw [← raw_shift]
    congr 1
    rw [not_eq A, not_eq 0#32]
    simp
    rw [BitVec.xor_comm A, ← BitVec.xor_assoc]; simp
  rw [h1, h2, h3]
  unfold join sum more
  rw [not_eq (raw (~~~ 0#32) m), not_eq (raw (~~~ 0#32) m ^^^ itN (8 * m.length) (~~~ A))]
  ac_rfl

theorem join_assoc (x y z : W32) (n m : Nat) : join (join x y n) z m = join x (join y z m) (n + m) := by
  unfold join
  rw [itN_xor, ← itN_add, Nat.mul_add, Nat.add_comm (8 * n)]
  ac_rfl
theorem join_apart (x y : W32) (n : Nat) : join x y n ^^^ join 0#32 y n = join x 0#32 n := by
  unfold join
  rw [itN_zero]
  have : itN (8 * n) x ^^^ y ^^^ (0#32 ^^^ y) = itN (8 * n) x ^^^ (y ^^^ y) ^^^ 0#32 := by ac_rfl
  rw [this]; simp

/-- The exclusive or of three texts. -/
def xor3 (l m k : List UInt8) : List UInt8 := List.zipWith (· ^^^ ·) (List.zipWith (· ^^^ ·) l m) k
theorem xor3_length (l m k : List UInt8) (h1 : l.length = m.length) (h2 : l.length = k.length) : (xor3 l m k).length = l.length := by
  simp [xor3]; omega
theorem xor3_get (l m k : List UInt8) (i : Nat) (h : i < (xor3 l m k).length) (h0 : i < l.length) (h1 : i < m.length) (h2 : i < k.length) : (xor3 l m k)[i] = l[i] ^^^ m[i] ^^^ k[i] := by
  simp [xor3]
theorem sum_parts (l m k : List UInt8) (h1 : l.length = m.length) (h2 : l.length = k.length) : sum (xor3 l m k) = sum l ^^^ sum m ^^^ sum k := by
  have e : raw (~~~ 0#32) (xor3 l m k) = raw (~~~ 0#32) l ^^^ raw (~~~ 0#32) m ^^^ raw (~~~ 0#32) k := by
    have e0 : (~~~ 0#32 : W32) = (~~~ 0#32 ^^^ ~~~ 0#32) ^^^ ~~~ 0#32 := by decide
    conv => lhs; rw [e0]
    unfold xor3
    rw [raw_xor2 _ _ _ _ (by simp; omega), raw_xor2 _ _ _ _ h1]
  unfold sum more
  rw [e]
  rw [not_eq (raw _ l), not_eq (raw _ m), not_eq (raw _ k)]
  generalize raw (~~~ 0#32) l = A
  generalize raw (~~~ 0#32) m = B
  generalize raw (~~~ 0#32) k = C
  rw [not_eq (A ^^^ B ^^^ C)]
  generalize hO : (0xFFFFFFFF#32 : W32) = O
  have : A ^^^ O ^^^ (B ^^^ O) ^^^ (C ^^^ O) = A ^^^ B ^^^ C ^^^ O ^^^ (O ^^^ O) := by ac_rfl
  rw [this]; simp

theorem byte_zero : byte 0 = 0#32 := rfl
theorem raw_zeros (n : Nat) (c : W32) : raw c (List.replicate n 0) = itN (8 * n) c := by
  induction n generalizing c with
  | zero => simp [raw, itN]
  | succ n ih =>
    rw [List.replicate_succ, raw_cons, ih]
    unfold stepB
    rw [byte_zero, BitVec.xor_zero, ← itN_add]
    congr 1
/-- The document's own word: many bytes 0. -/
theorem slow_eq (a b : W32) (n : Nat) : more a (List.replicate n 0) ^^^ b ^^^ more 0#32 (List.replicate n 0) = join a b n := by
  unfold more join
  rw [raw_zeros, raw_zeros, not_eq (itN _ _), not_eq (itN _ (~~~ 0#32)), not_eq a, itN_xor]
  have h0 : ~~~ (0#32 : W32) = 0xFFFFFFFF#32 := by decide
  rw [h0]
  generalize itN (8 * n) a = A
  generalize itN (8 * n) 0xFFFFFFFF#32 = O
  have : A ^^^ O ^^^ 0xFFFFFFFF#32 ^^^ b ^^^ (O ^^^ 0xFFFFFFFF#32) = A ^^^ b ^^^ (O ^^^ O) ^^^ (0xFFFFFFFF#32 ^^^ 0xFFFFFFFF#32) := by ac_rfl
  rw [this]; simp

/-! ### Low bits; a linear step is the sum of what it makes of each bit -/
def low (n : Nat) (c : W32) : W32 := (c.setWidth n).setWidth 32
theorem low_bit (n : Nat) (c : W32) (i : Nat) (hi : i < 32) : (low n c).getLsbD i = (decide (i < n) && c.getLsbD i) := by
  simp [low, hi]
theorem low_zero (c : W32) : low 0 c = 0#32 := by
  apply BitVec.eq_of_getLsbD_eq; intro i hi; rw [low_bit _ _ _ hi]; simp
theorem low_all (c : W32) : low 32 c = c := by
  apply BitVec.eq_of_getLsbD_eq; intro i hi; rw [low_bit _ _ _ hi]; simp [hi]
def one (i : Nat) : W32 := 1#32 <<< i
theorem one_bit (n i : Nat) (hi : i < 32) (hn : n < 32) : (one n).getLsbD i = decide (i = n) := by
  unfold one
  simp [hi]
  by_cases h : i = n
  · subst h; simp
  · by_cases h2 : i < n
    · simp [h2, h]
    · simp [h, h2]
      omega
theorem low_succ (n : Nat) (c : W32) (hn : n < 32) : low (n + 1) c = low n c ^^^ (if c.getLsbD n then one n else 0#32) := by
  apply BitVec.eq_of_getLsbD_eq
  intro i hi
  rw [BitVec.getLsbD_xor, low_bit _ _ _ hi, low_bit _ _ _ hi]
  by_cases h : i = n
  · subst h
    by_cases hc : c.getLsbD i = true
    · simp [hc, one_bit i i hi hi]
    · simp [hc]
  · have e : decide (i < n + 1) = decide (i < n) := by rw [decide_eq_decide]; omega
    rw [e]
    by_cases hc : c.getLsbD n = true
    · rw [if_pos hc, one_bit n i hi hn, decide_eq_false h, Bool.xor_false]
    · rw [if_neg hc]; simp

theorem half_one (i : Nat) (hi : i + 1 < 32) : half (one (i + 1)) = one i := by
  have : ∀ i, i < 31 → half (one (i + 1)) = one i := by decide
  exact this i (by omega)
theorem half_one0 : half (one 0) = poly := by decide
theorem itN_one (i : Nat) (hi : i < 32) : itN i (one i) = one 0 := by
  induction i with
  | zero => rfl
  | succ i ih =>
    show half (itN i (one (i + 1))) = _
    rw [← itN_half, half_one i hi, ih (by omega)]

/-- The bit n of c, as the program takes it. -/
theorem bit_take (c : W32) (n : Nat) : (c >>> n) &&& 1#32 = if c.getLsbD n then 1#32 else 0#32 := by
  rw [and_one]; unfold bit0; rw [BitVec.getLsbD_ushiftRight, Nat.add_zero]

/-- What the rows of n halvings make of a row of bits, up to the bit k. -/
def rowsTo (M : Nat → W32) (c : W32) : Nat → W32
  | 0 => 0#32
  | k + 1 => rowsTo M c k ^^^ (M k * ((c >>> k) &&& 1#32))
theorem rowsTo_it (n : Nat) (c : W32) (k : Nat) (hk : k ≤ 32) (M : Nat → W32) (hM : ∀ i, i < 32 → M i = itN n (one i)) : rowsTo M c k = itN n (low k c) := by
  induction k with
  | zero => rw [low_zero, itN_zero]; rfl
  | succ k ih =>
    rw [rowsTo, ih (by omega), low_succ k c (by omega), itN_xor, bit_take, hM k (by omega)]
    congr 1
    by_cases h : c.getLsbD k = true <;> simp [h, itN_zero]
theorem rows_it (n : Nat) (c : W32) (M : Nat → W32) (hM : ∀ i, i < 32 → M i = itN n (one i)) : rowsTo M c 32 = itN n c := by
  rw [rowsTo_it n c 32 (Nat.le_refl _) M hM, low_all]

/-! ### The reference's product of polynomials -/
/-- After k steps: what was added up, from the number 31 - k on down. -/
def prodTo (a b : W32) : Nat → W32
  | 0 => 0#32
  | k + 1 => prodTo a b k ^^^ (if a.getLsbD (31 - k) then itN k b else 0#32)
def prod (a b : W32) : W32 := prodTo a b 32
theorem prodTo_xor_left (a a' b : W32) (k : Nat) : prodTo (a ^^^ a') b k = prodTo a b k ^^^ prodTo a' b k := by
  induction k with
  | zero => simp [prodTo]
  | succ k ih =>
    simp only [prodTo, ih, BitVec.getLsbD_xor]
    generalize prodTo a b k = x
    generalize prodTo a' b k = y
    generalize itN k b = z
    cases a.getLsbD (31 - k) <;> cases a'.getLsbD (31 - k) <;> simp
    · ac_rfl
    · ac_rfl
    · have : x ^^^ z ^^^ (y ^^^ z) = x ^^^ y ^^^ (z ^^^ z) := by ac_rfl
      rw [this]; simp
theorem prodTo_xor_right (a b b' : W32) (k : Nat) : prodTo a (b ^^^ b') k = prodTo a b k ^^^ prodTo a b' k := by
  induction k with
  | zero => simp [prodTo]
  | succ k ih =>
    simp only [prodTo, ih]
    by_cases h : a.getLsbD (31 - k) = true
    · simp [h, itN_xor]; ac_rfl
    · simp [h]
theorem prodTo_zero_left (b : W32) (k : Nat) : prodTo 0#32 b k = 0#32 := by
  induction k with
  | zero => rfl
  | succ k ih => simp [prodTo, ih]
theorem prodTo_zero_right (a : W32) (k : Nat) : prodTo a 0#32 k = 0#32 := by
  induction k with
  | zero => rfl
  | succ k ih => simp [prodTo, ih, itN_zero]
/-- A law that holds of each bit, and of sums, holds of all. -/
theorem by_bits (f g : W32 → W32) (f0 : f 0#32 = 0#32) (g0 : g 0#32 = 0#32) (fx : ∀ a b, f (a ^^^ b) = f a ^^^ f b) (gx : ∀ a b, g (a ^^^ b) = g a ^^^ g b)
    (h : ∀ i, i < 32 → f (one i) = g (one i)) (c : W32) : f c = g c := by
  have : ∀ k, k ≤ 32 → f (low k c) = g (low k c) := by
    intro k
    induction k with
    | zero => intro _; rw [low_zero, f0, g0]
    | succ k ih =>
      intro hk
      rw [low_succ k c (by omega), fx, gx, ih (by omega)]
      congr 1
      by_cases hc : c.getLsbD k = true
      · simp [hc, h k (by omega)]
      · simp [hc, f0, g0]
  have := this 32 (Nat.le_refl _)
  rwa [low_all] at this
theorem prodTo_one (j : Nat) (hj : j < 32) (b : W32) : ∀ k, k ≤ 32 → prodTo (one j) b k = if 31 - j < k then itN (31 - j) b else 0#32 := by
  intro k
  induction k with
  | zero => intro _; simp [prodTo]
  | succ k ih =>
    intro hk
    rw [prodTo, ih (by omega), one_bit j (31 - k) (by omega) hj]
    by_cases h : k = 31 - j
    · subst h
      have e : 31 - (31 - j) = j := by omega
      simp [e]
    · have e : ¬ (31 - k = j) := by omega
      simp only [decide_eq_false e]
      by_cases h2 : 31 - j < k
      · simp [h2, show 31 - j < k + 1 from by omega]
      · simp [h2, show ¬ 31 - j < k + 1 from by omega]
theorem prod_one (j : Nat) (hj : j < 32) (b : W32) : prod (one j) b = itN (31 - j) b := by
  unfold prod
  rw [prodTo_one j hj b 32 (Nat.le_refl _), if_pos (by omega)]
theorem prod_poly (b : W32) : prod poly b = itN 32 b := by
  refine by_bits (fun b => prod poly b) (itN 32) (prodTo_zero_right _ _) (itN_zero _) (fun a b => prodTo_xor_right _ _ _ _) (itN_xor 32) ?_ b
  decide +kernel
theorem prod_half (a b : W32) : prod (half a) b = half (prod a b) := by
  refine by_bits (fun a => prod (half a) b) (fun a => half (prod a b)) ?_ ?_ ?_ ?_ ?_ a
  · simp only [half_zero]; exact prodTo_zero_left _ _
  · show half (prodTo _ _ _) = _
    rw [prodTo_zero_left, half_zero]
  · intro a a'; simp only [half_xor]; exact prodTo_xor_left _ _ _ _
  · intro a a'
    show half (prodTo _ _ _) = _
    rw [prodTo_xor_left, half_xor]; rfl
  · intro i hi
    cases i with
    | zero => simp only [half_one0, prod_poly, prod_one 0 (by omega)]; rfl
    | succ i =>
      simp only [half_one i hi, prod_one i (by omega), prod_one (i + 1) hi]
      rw [show 31 - i = (31 - (i + 1)) + 1 from by omega]; rfl
theorem prod_it (n : Nat) (b : W32) : prod (itN n (one 31)) b = itN n b := by
  induction n with
  | zero => exact prod_one 31 (by omega) b
  | succ n ih => rw [itN, prod_half, ih]; rfl

/-! ### Bits of a text that are turned -/
theorem byte_bit (r : Nat) (hr : r < 8) : byte (1 <<< UInt8.ofNat r) = one r := by
  have : ∀ r, r < 8 → byte (1 <<< UInt8.ofNat r) = one r := by decide
  exact this r hr
theorem raw_turn (l : List UInt8) (c : W32) (j r : Nat) (hr : r < 8) (hj : j < l.length) :
    raw c (l.set j (l[j] ^^^ (1 <<< UInt8.ofNat r))) = raw c l ^^^ itN (8 * l.length - (8 * j + r)) (one 0) := by
  have hsplit : l = l.take j ++ l[j] :: l.drop (j + 1) := by simp
  have hset : l.set j (l[j] ^^^ (1 <<< UInt8.ofNat r)) = l.take j ++ (l[j] ^^^ (1 <<< UInt8.ofNat r)) :: l.drop (j + 1) := by
    rw [List.set_eq_take_append_cons_drop, if_pos hj]
  generalize hb : l[j] = b at *
  generalize htk : l.take j = t at *
  generalize hdr : l.drop (j + 1) = d at *
  have hlen : t.length + d.length + 1 = l.length := by
    rw [← htk, ← hdr]; simp; omega
  have htl : t.length = j := by rw [← htk]; simp; omega
  rw [hset, raw_append, raw_cons]
  conv => rhs; rw [hsplit, raw_append, raw_cons]
  have e : stepB (raw c t) (b ^^^ (1 <<< UInt8.ofNat r)) = stepB (raw c t) b ^^^ itN 8 (one r) := by
    unfold stepB
    rw [byte_xor, byte_bit r hr, ← BitVec.xor_assoc, itN_xor]
  rw [e, raw_shift]
  congr 1
  rw [← itN_add]
  have e2 : itN 8 (one r) = itN (8 - r) (one 0) := by
    rw [← itN_one r (by omega), ← itN_add]; congr 1; omega
  rw [itN_add, e2, ← itN_add]
  congr 1
  simp; omega
/-- The bits of 'turns' up to i, turned from the place k on: what becomes of the row. -/
theorem turns_step (N i : Nat) (t : W32) (hi : i < 32) (hN : 32 ≤ N) : itN N (low i t) ^^^ (if t.getLsbD i then itN (N - i) (one 0) else 0#32) = itN N (low (i + 1) t) := by
  rw [low_succ i t hi, itN_xor]
  congr 1
  by_cases h : t.getLsbD i = true
  · simp only [h, if_true]
    rw [← itN_one i hi, ← itN_add]; congr 1; omega
  · simp [h, itN_zero]

end Go.Proofs.Yteipjgmbgkjjiaa.Crc
