/-
  THE WALKS of package wire: Ints, Texts, Bools, List; and of the document's answer: Uint, Zig, Text.
-/
import Derived.Test.YtdceefbhkonndaaWireWrite
namespace Go.Proofs.Ytdceefbhkonndaa
open Go.RowKit

theorem RowIs.one {w : World} {g : Nat} {v : Value} {t : TypeId} {fr : Nat × Nat} (h : w.heap[g]? = some (.cells #[v] t fr)) : RowIs w 1 (some ⟨g, 0, none⟩) [[v]] := fun i hi => by
  obtain rfl : i = 0 := by simpa using hi
  exact ⟨g, 0, rfl, ⟨_, _, _, h, by simp, by simp⟩⟩
/-- One number, in a row that the caller has made. -/
theorem uints_one (w : World) (v : Int) (x : Nat) (hv : v = x) (hx : x < 18446744073709551616) :
    Calls Try.prog 12 #[.slice (some ⟨w.heap.size, 0, none⟩) 1 1] (w.alloc (.cells #[.int .u64 v] 29)) fun e w' => e = .returned (.string (S (Wr.uv x))) ∧ Below w.heap.size w w' := by
  subst hv
  refine (uints_any (w.alloc (.cells #[.int .u64 x] 29)) (some ⟨w.heap.size, 0, none⟩) 1 [x] (RowIs.one (heap_alloc_new w _)) (by simpa using hx) (by simp)).mono ?_
  rintro e w' ⟨rfl, hb⟩
  refine ⟨by simp [uvs], ?_⟩
  exact ((Own.refl w).alloc _).below.trans (hb.mono (by simp))

def icell (x : Int) : List Value := [.int .i64 x]
def tcell (t : ByteArray) : List Value := [.string t]
def bcell (b : Bool) : List Value := [.bool b]
/-- The bytes of whole numbers, texts, truths. -/
def ivs (xs : List Int) : List UInt8 := xs.flatMap fun x => Wr.uv (Wr.zig x)
def tvs (ts : List ByteArray) : List UInt8 := ts.flatMap fun t => Wr.txt (L t)
def bvs (bs : List Bool) : List UInt8 := bs.map Wr.bool
/-- How many bytes texts have. -/
def sizes (l : List ByteArray) : Nat := (l.map (·.size)).sum
theorem ivs_le (xs : List Int) : (ivs xs).length ≤ 10 * xs.length := by
  induction xs with
  | nil => simp [ivs]
  | cons x xs ih =>
    have h1 : (Wr.uv (Wr.zig x)).length ≤ 10 := Wr.uvF_length 10 (Wr.zig x)
    show (Wr.uv (Wr.zig x) ++ ivs xs).length ≤ _
    rw [List.length_append, List.length_cons]; omega
theorem tvs_le (ts : List ByteArray) : (tvs ts).length ≤ 10 * ts.length + sizes ts := by
  induction ts with
  | nil => simp [tvs]
  | cons x xs ih =>
    have h1 : (Wr.uv (L x).length).length ≤ 10 := Wr.uvF_length 10 _
    have e := L_size x
    have e2 : sizes (x :: xs) = x.size + sizes xs := by simp [sizes]
    show ((Wr.uv (L x).length ++ L x) ++ tvs xs).length ≤ _
    rw [List.length_append, List.length_append, List.length_cons, e2]; omega
theorem sizes_take_le (l : List ByteArray) (k : Nat) : sizes (l.take k) ≤ sizes l := by
  conv => rhs; rw [← List.take_append_drop k l]
  unfold sizes
  rw [List.map_append, List.sum_append]; omega
theorem sizes_append (a b : List ByteArray) : sizes (a ++ b) = sizes a + sizes b := by unfold sizes; rw [List.map_append, List.sum_append]
theorem sizes_take_succ (l : List ByteArray) (i : Nat) (h : i < l.length) : sizes (l.take (i + 1)) = sizes (l.take i) + l[i].size := by
  rw [List.take_succ_eq_append_getElem h, sizes_append]; simp [sizes]
theorem size_le_sizes (l : List ByteArray) (t : ByteArray) (h : t ∈ l) : t.size ≤ sizes l := by
  induction l with
  | nil => cases h
  | cons x l ih =>
    unfold sizes at ih ⊢
    rcases List.mem_cons.1 h with rfl | h
    · simp
    · have := ih h; simp; omega

theorem zig_bits (x : Int) (h1 : -9223372036854775808 ≤ x) (h2 : x ≤ 9223372036854775807) :
    Go.bits .xor .u64 (IntKind.u64.wrap (x * 2)) (IntKind.u64.wrap (x / 9223372036854775808)) = (Wr.zig x : Nat) := by
  have e : ∀ a b : Int, Go.bits .xor .u64 a b = IntKind.u64.wrap ((BitVec.ofInt 64 a ^^^ BitVec.ofInt 64 b).toNat : Int) := fun _ _ => rfl
  rw [e, BitVec.toNat_xor, BitVec.toNat_ofInt, BitVec.toNat_ofInt, IntKind.wrap_u64]
  unfold Wr.zig
  by_cases h : 0 ≤ x
  · have e0 : (IntKind.u64.wrap (x / 9223372036854775808) % ((2 ^ 64 : Nat) : Int)).toNat = 0 := by
      rw [show x / 9223372036854775808 = 0 by omega]; decide
    rw [if_pos h, e0, Nat.xor_zero, IntKind.wrap_u64]
    omega
  · have e3 : (IntKind.u64.wrap (x / 9223372036854775808) % ((2 ^ 64 : Nat) : Int)).toNat = 18446744073709551615 := by
      rw [show x / 9223372036854775808 = -1 by omega]; decide
    have hk : ∀ n : Nat, n < 18446744073709551616 → n ^^^ 18446744073709551615 = 18446744073709551615 - n := by
      intro n hn
      have := BitVec.toNat_not (x := BitVec.ofNat 64 n)
      have e2 : (~~~ BitVec.ofNat 64 n) = BitVec.ofNat 64 n ^^^ BitVec.allOnes 64 := by rw [BitVec.xor_allOnes]
      rw [e2, BitVec.toNat_xor, BitVec.toNat_ofNat, Nat.mod_eq_of_lt hn] at this
      simpa using this
    rw [if_neg h, e3, hk _ (by omega), IntKind.wrap_u64]
    omega

set_option maxHeartbeats 1000000 in
theorem ints_any (w : World) (a : Option Addr) (cap : Nat) (xs : List Int) (h : RowIs w 1 a (xs.map icell)) (h64 : ∀ x ∈ xs, -9223372036854775808 ≤ x ∧ x ≤ 9223372036854775807) (hlen : xs.length ≤ 1073741824) :
    Calls Try.prog 13 #[.slice a xs.length cap] w fun e w' => e = .returned (.string (S (ivs xs))) ∧ Below w.heap.size w w' := by
  have hlI : (xs.length : Int) ≤ 1073741824 := by omega
  have H := Lib.hid h
  have H64 := Lib.hid h64
  have HLn := Lib.hid hlen
  clear h h64 hlen
  go_enter Try.func13, Try.ntmps13
  go_wp2_with fail
  go_loopw [2, 7] (fun vs vi wr => ∃ k : Nat, k ≤ xs.length ∧ vi = .int .i64 k ∧ vs = .string (S (ivs (xs.take k))) ∧ Own w.heap.size w wr) (fun _ vi _ => xs.length - (intOf vi).toNat)
  case atStart => exact ⟨0, Nat.zero_le _, rfl, rfl, Own.refl w⟩
  case round =>
    obtain ⟨k, hk, rfl, rfl, hO⟩ := hrel
    have HO := Lib.hid hO
    clear hO
    by_cases hlt : k < xs.length
    · obtain ⟨g, off, rfl, hc⟩ := (H.out.keep HO.out.below).cell1 (f := fun x => .int .i64 x) k hlt
      obtain ⟨hx1, hx2⟩ := H64.out xs[k] (List.getElem_mem hlt)
      have HT : Hid (S (ivs (xs.take (k + 1))) = S (ivs (xs.take k)) ++ S (Wr.uv (Wr.zig xs[k]))) := Lib.hid (by
        rw [S_append, List.take_succ_eq_append_getElem hlt, ivs, List.flatMap_append]; simp [ivs])
      have hle := ivs_le (xs.take k)
      have hkI : (0 : Int) ≤ k ∧ (k : Int) < xs.length := by omega
      have hcat : ¬ 9223372036854775807 < (S (ivs (xs.take k))).size + (S (Wr.uv (Wr.zig xs[k]))).size := by
        have := HLn.out; have h2 := Wr.uvF_length 10 (Wr.zig xs[k]); rw [List.length_take] at hle; rw [S_size, S_size]; unfold Wr.uv; omega
      clear hle
      generalize xs[k] = x at *
      have HZB := Lib.hid (zig_bits x hx1 hx2)
      have HU := Lib.hid (fun w v hv => uints_one w v (Wr.zig x) hv (Wr.zig_lt x hx1 hx2))
      generalize S (ivs (xs.take k)) = b0 at *
      generalize S (Wr.uv (Wr.zig x)) = b1 at *
      go_wp2_with fail
      refine (HU.out _ _ ?_).mono ?_
      · rw [show IntKind.u64.wrap (IntKind.u64.wrap x * 2) = IntKind.u64.wrap (x * 2) by rw [IntKind.wrap_u64, IntKind.wrap_u64, IntKind.wrap_u64]; omega]
        exact HZB.out
      rintro e w2 ⟨rfl, hb2⟩
      have HO2 := Lib.hid (HO.out.trans hb2)
      clear hb2
      go_wp2_with fail
      go_roundw
      case rel => exact ⟨k + 1, by omega, by go_num, by rw [HT.out], HO2.out⟩
      case measure => simp [intOf]; omega
    · obtain rfl : k = xs.length := by omega
      go_wp2_with fail
      go_ret
      exact ⟨by rw [List.take_length]; rfl, HO.out.below⟩

set_option maxHeartbeats 1000000 in
theorem texts_any (w : World) (a : Option Addr) (cap : Nat) (xs : List ByteArray) (h : RowIs w 1 a (xs.map tcell)) (hz : sizes xs ≤ 1073741824) (hlen : xs.length ≤ 1073741824) :
    Calls Try.prog 14 #[.slice a xs.length cap] w fun e w' => e = .returned (.string (S (tvs xs))) ∧ Below w.heap.size w w' := by
  have hlI : (xs.length : Int) ≤ 1073741824 := by omega
  have H := Lib.hid h
  have HZ := Lib.hid hz
  have HLn := Lib.hid hlen
  clear h hz hlen
  go_enter Try.func14, Try.ntmps14
  go_wp2_with fail
  go_loopw [2, 7] (fun vs vi wr => ∃ k : Nat, k ≤ xs.length ∧ vi = .int .i64 k ∧ vs = .string (S (tvs (xs.take k))) ∧ Own w.heap.size w wr) (fun _ vi _ => xs.length - (intOf vi).toNat)
  case atStart => exact ⟨0, Nat.zero_le _, rfl, rfl, Own.refl w⟩
  case round =>
    obtain ⟨k, hk, rfl, rfl, hO⟩ := hrel
    have HO := Lib.hid hO
    clear hO
    by_cases hlt : k < xs.length
    · obtain ⟨g, off, rfl, hc⟩ := (H.out.keep HO.out.below).cell1 (f := fun x => .string x) k hlt
      have hxs := size_le_sizes xs xs[k] (List.getElem_mem hlt)
      have hx1 : xs[k].size ≤ 1073741824 := Nat.le_trans hxs HZ.out
      have HT : Hid (S (tvs (xs.take (k + 1))) = S (tvs (xs.take k)) ++ (S (Wr.uv xs[k].size) ++ xs[k])) := Lib.hid (by
        rw [← S_L xs[k], S_append, S_L, S_append, List.take_succ_eq_append_getElem hlt, tvs, List.flatMap_append]; simp [tvs, Wr.txt, L_size])
      have hle := tvs_le (xs.take k)
      have hle2 := sizes_take_le xs k
      have hkI : (0 : Int) ≤ k ∧ (k : Int) < xs.length := by omega
      have h2 : (Wr.uv xs[k].size).length ≤ 10 := Wr.uvF_length 10 _
      have hcat1 : ¬ 9223372036854775807 < (S (Wr.uv xs[k].size)).size + xs[k].size := by rw [S_size]; omega
      have hcat : ¬ 9223372036854775807 < (S (tvs (xs.take k))).size + (S (Wr.uv xs[k].size) ++ xs[k]).size := by
        have := HLn.out; have := HZ.out; rw [List.length_take] at hle; rw [ByteArray.size_append, S_size, S_size]; omega
      clear hle hxs hle2 h2
      generalize xs[k] = x at *
      have hxI : (0 : Int) ≤ x.size ∧ (x.size : Int) ≤ 1073741824 := by omega
      have HU := Lib.hid (fun w => uints_one w x.size x.size rfl (by omega))
      clear hx1
      generalize S (tvs (xs.take k)) = b0 at *
      generalize S (Wr.uv x.size) = b1 at *
      go_wp2_with fail
      refine (HU.out _).mono ?_
      rintro e w2 ⟨rfl, hb2⟩
      have HO2 := Lib.hid (HO.out.trans hb2)
      clear hb2
      go_wp2_with fail
      go_roundw
      case rel => exact ⟨k + 1, by omega, by go_num, by rw [HT.out], HO2.out⟩
      case measure => simp [intOf]; omega
    · obtain rfl : k = xs.length := by omega
      go_wp2_with fail
      go_ret
      exact ⟨by rw [List.take_length]; rfl, HO.out.below⟩

set_option maxHeartbeats 1000000 in
theorem bools_any (w : World) (a : Option Addr) (cap : Nat) (xs : List Bool) (h : RowIs w 1 a (xs.map bcell)) (hlen : xs.length ≤ 1073741824) :
    Calls Try.prog 15 #[.slice a xs.length cap] w fun e w' => e = .returned (.string (S (bvs xs))) ∧ Below w.heap.size w w' := by
  have hlI : (xs.length : Int) ≤ 1073741824 := by omega
  have H := Lib.hid h
  have HLn := Lib.hid hlen
  clear h hlen
  go_enter Try.func15, Try.ntmps15
  go_wp2_with fail
  go_loopw [2, 8] (fun vs vi wr => ∃ k : Nat, k ≤ xs.length ∧ vi = .int .i64 k ∧ vs = .string (S (bvs (xs.take k))) ∧ Own w.heap.size w wr) (fun _ vi _ => xs.length - (intOf vi).toNat)
  case atStart => exact ⟨0, Nat.zero_le _, rfl, rfl, Own.refl w⟩
  case round =>
    obtain ⟨k, hk, rfl, rfl, hO⟩ := hrel
    have HO := Lib.hid hO
    clear hO
    by_cases hlt : k < xs.length
    · obtain ⟨g, off, rfl, hc⟩ := (H.out.keep HO.out.below).cell1 (f := fun x => .bool x) k hlt
      have HT : Hid (S (bvs (xs.take (k + 1))) = S (bvs (xs.take k)) ++ S (Wr.uv (if xs[k] then 1 else 0))) := Lib.hid (by
        rw [S_append, List.take_succ_eq_append_getElem hlt, bvs, List.map_append]; cases xs[k] <;> rfl)
      have hkI : (0 : Int) ≤ k ∧ (k : Int) < xs.length := by omega
      have hl : (bvs (xs.take k)).length ≤ xs.length := by simp [bvs]; omega
      generalize xs[k] = x at *
      have hl2 : (Wr.uv (if x then 1 else 0)).length ≤ 10 := Wr.uvF_length 10 _
      have hcat : ¬ 9223372036854775807 < (S (bvs (xs.take k))).size + (S (Wr.uv (if x then 1 else 0))).size := by
        have := HLn.out; rw [S_size, S_size]; omega
      clear hl hl2
      generalize S (bvs (xs.take k)) = b0 at *
      cases x with
      | true =>
        have HU := Lib.hid (fun w => uints_one w 1 1 rfl (by decide))
        rw [show (if true = true then 1 else 0) = 1 from rfl] at HT hcat
        generalize S (Wr.uv 1) = b1 at *
        go_wp2_with fail
        refine (HU.out _).mono ?_
        rintro e w2 ⟨rfl, hb2⟩
        have HO2 := Lib.hid (HO.out.trans hb2)
        clear hb2
        go_wp2_with fail
        go_roundw
        case rel => exact ⟨k + 1, by omega, by go_num, by rw [HT.out], HO2.out⟩
        case measure => simp [intOf]; omega
      | false =>
        have HU := Lib.hid (fun w => uints_one w 0 0 rfl (by decide))
        rw [show (if false = true then 1 else 0) = 0 from rfl] at HT hcat
        generalize S (Wr.uv 0) = b1 at *
        go_wp2_with fail
        refine (HU.out _).mono ?_
        rintro e w2 ⟨rfl, hb2⟩
        have HO2 := Lib.hid (HO.out.trans hb2)
        clear hb2
        go_wp2_with fail
        go_roundw
        case rel => exact ⟨k + 1, by omega, by go_num, by rw [HT.out], HO2.out⟩
        case measure => simp [intOf]; omega
    · obtain rfl : k = xs.length := by omega
      go_wp2_with fail
      go_ret
      exact ⟨by rw [List.take_length]; rfl, HO.out.below⟩

/-- A list's bytes. -/
def lvs (ts : List ByteArray) : List UInt8 := Wr.uv ts.length ++ tvs ts
theorem list_any (w : World) (a : Option Addr) (cap : Nat) (xs : List ByteArray) (h : RowIs w 1 a (xs.map tcell)) (hz : sizes xs ≤ 1073741824) (hlen : xs.length ≤ 1073741824) :
    Calls Try.prog 16 #[.slice a xs.length cap] w fun e w' => e = .returned (.string (S (lvs xs))) ∧ Below w.heap.size w w' := by
  have hlI : (xs.length : Int) ≤ 1073741824 := by omega
  have H := Lib.hid h
  have HU := Lib.hid (fun w => uints_one w xs.length xs.length rfl (by omega))
  have HT := Lib.hid (fun w h => texts_any w a cap xs h hz hlen)
  have hcat : ¬ 9223372036854775807 < (S (Wr.uv xs.length)).size + (S (tvs xs)).size := by
    have h1 := tvs_le xs
    have h2 : (Wr.uv xs.length).length ≤ 10 := Wr.uvF_length 10 _
    rw [S_size, S_size]; omega
  have HE : Hid (S (Wr.uv xs.length) ++ S (tvs xs) = S (lvs xs)) := Lib.hid (by rw [S_append]; rfl)
  clear h hz hlen
  generalize S (tvs xs) = b0 at *
  generalize S (Wr.uv xs.length) = b1 at *
  go_enter Try.func16, Try.ntmps16
  go_wp2_with fail
  refine (HU.out _).mono ?_
  rintro e w2 ⟨rfl, hb2⟩
  have HO2 := Lib.hid ((Own.refl w).trans hb2)
  clear hb2
  go_wp2_with fail
  refine (HT.out _ (H.out.keep HO2.out.below)).mono ?_
  rintro e w3 ⟨rfl, hb3⟩
  have HO3 := Lib.hid (HO2.out.trans hb3)
  clear hb3
  go_wp2_with fail
  go_ret
  exact ⟨by rw [HE.out]; rfl, HO3.out.below⟩

theorem total_any (w : World) (a : Option Addr) (cap : Nat) (l : List ByteArray) (h : RowIs w 1 a (l.map tcell)) (hc : l.length ≤ 9223372036854775807) (hz : ∀ t ∈ l, t.size ≤ 140737488351232) :
    Calls Try.prog 7 #[.slice a l.length cap] w fun e w' => (∃ n : Nat, e = .returned (.int .i64 n) ∧ n ≤ 140737488367616 ∧ (n ≤ 4096 → n = sizes l) ∧ (sizes l ≤ 4096 → n = sizes l)) ∧ w' = w := by
  have H := Lib.hid h
  have HZ := Lib.hid hz
  have hlI : (l.length : Int) ≤ 9223372036854775807 := by omega
  clear h hz hc
  go_enter Try.func7, Try.ntmps7
  go_wp2_with fail
  go_loop [3, 4] (fun vn vi => ∃ i n : Nat, i ≤ l.length ∧ vi = .int .i64 i ∧ vn = .int .i64 n ∧ n = sizes (l.take i) ∧ n ≤ 140737488367616) (fun _ vi => l.length - (intOf vi).toNat)
  case atStart => exact ⟨0, 0, Nat.zero_le _, rfl, rfl, rfl, by decide⟩
  case round =>
    obtain ⟨i, n, hi, rfl, rfl, hs, hn⟩ := hrel
    have hnI : (0 : Int) ≤ n ∧ (n : Int) ≤ 140737488367616 := by omega
    have hle := sizes_take_le l i
    have HN := Lib.hid (show n = sizes (l.take i) ∧ n ≤ sizes l ∧ n ≤ 140737488367616 from ⟨hs, by omega, hn⟩)
    clear hs hle hn
    by_cases hlt : i < l.length
    · obtain ⟨g, off, rfl, hc⟩ := H.out.cell1 (f := fun x => .string x) i hlt
      have hx := HZ.out l[i] (List.getElem_mem hlt)
      have hiI : (0 : Int) ≤ i ∧ (i : Int) < l.length := by omega
      have HT : Hid (sizes (l.take (i + 1)) = sizes (l.take i) + l[i].size) := Lib.hid (sizes_take_succ l i hlt)
      generalize l[i] = x at *
      have hxI : (0 : Int) ≤ x.size ∧ (x.size : Int) ≤ 140737488351232 := by omega
      clear hx
      by_cases hgo : n ≤ 16384
      · have hgI : (n : Int) ≤ 16384 := by omega
        clear hgo
        go_wp2_with fail
        go_round
        case rel => exact ⟨i + 1, n + x.size, by omega, by go_num, by go_num, by rw [HT.out]; have := HN.out; omega, by omega⟩
        case measure => simp [intOf]; omega
      · have hgI : ¬ (n : Int) ≤ 16384 := by omega
        clear hgo
        go_wp2_with fail
        go_ret
        exact ⟨⟨n, rfl, by omega, by omega, fun h => by have := HN.out; omega⟩, rfl⟩
    · obtain rfl : i = l.length := by omega
      go_wp2_with fail
      go_ret
      exact ⟨⟨n, rfl, by omega, fun _ => by have := HN.out; rw [List.take_length] at this; omega, fun _ => by have := HN.out; rw [List.take_length] at this; omega⟩, rfl⟩

end Go.Proofs.Ytdceefbhkonndaa
