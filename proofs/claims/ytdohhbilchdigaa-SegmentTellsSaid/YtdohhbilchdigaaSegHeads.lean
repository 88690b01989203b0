/-
  THE WALKS of the document's answer for layer 11: Head, Next; and segment.Next.
-/
import Derived.Test.YtdohhbilchdigaaSegWalks
import Derived.Test.YtdohhbilchdigaaWireRef
namespace Go.Proofs.Ytdohhbilchdigaa
open Go.RowKit

attribute [local go_sem ↓ high] appSem_eq

/-- What Encode makes of a head's record. -/
theorem renc_head (kind gen first : Nat) (t : ByteArray) (ht : t.size ≤ 1073741824) (h : Sg.may kind gen first (L t) = true) (w : World) :
    Calls Try.prog 26 #[.agg #[.int .u64 first, .string (S [UInt8.ofNat kind] ++ S (Wr.uv gen) ++ t)]] w fun e w' => e = .returned (.tuple #[.string (S (Sg.head kind gen first (L t)).1), .int .i64 (Sg.head kind gen first (L t)).2]) ∧ Below w.heap.size w w' := by
  obtain ⟨h1, h2, h3⟩ := Sg.may_parts h
  have e : L (S [UInt8.ofNat kind] ++ S (Wr.uv gen) ++ t) = Sg.hText kind gen (L t) := by rw [L_append, L_append, L_S, L_S]; simp [Sg.hText]
  have hz : (S [UInt8.ofNat kind] ++ S (Wr.uv gen) ++ t).size = (Sg.hText kind gen (L t)).length := by rw [← e, L_size]
  have hu : (Wr.uv gen).length ≤ 10 := Wr.uvF_length 10 _
  have hl : (Sg.hText kind gen (L t)).length ≤ 11 + t.size := by simp [Sg.hText, L_size]; omega
  unfold Sg.head
  rw [if_neg (by rw [h]; simp)]
  by_cases hb : 65536 < (Sg.hText kind gen (L t)).length
  · rw [if_pos hb]
    exact ref_enc_long first _ w (by omega) (by omega)
  · rw [if_neg hb, ← e]
    exact ref_enc first _ w (by unfold Sg.Top at h3; omega) (by omega)

set_option maxRecDepth 20000 in
set_option maxHeartbeats 8000000 in
theorem rseg_head_yes (w : World) (kind gen first : Nat) (t : ByteArray) (hg : gen < 18446744073709551616) (hf : first < 18446744073709551616) (ht : t.size ≤ 1073741824) (h : Sg.may kind gen first (L t) = true) :
    Calls Try.prog 13 #[.int .u8 kind, .int .u64 gen, .int .u64 first, .string t] w fun e w' => e = .returned (.tuple #[.string (S (Sg.head kind gen first (L t)).1), .int .i64 (Sg.head kind gen first (L t)).2]) ∧ Below w.heap.size w w' := by
  obtain ⟨h1, h2, h3⟩ := Sg.may_parts h
  have G := fun w => rseg_may w gen hg
  have F := fun w => rseg_may w first hf
  rw [show Sg.isNum gen = true by unfold Sg.isNum; simp [h2]] at G
  rw [show Sg.isNum first = true by unfold Sg.isNum; simp [h3]] at F
  have hu : (Wr.uv gen).length ≤ 10 := Wr.uvF_length 10 _
  have hc1 : ¬ 9223372036854775807 < (S [UInt8.ofNat kind]).size + (S (Wr.uv gen)).size := by rw [S_size, S_size]; simp; omega
  have hc2 : ¬ 9223372036854775807 < (S [UInt8.ofNat kind]).size + (S (Wr.uv gen)).size + t.size := by rw [S_size, S_size]; simp; omega
  have HEN := Lib.hid (renc_head kind gen first t ht h)
  have HU := Lib.hid (fun w => rUint_any w gen hg)
  have HW := Lib.hid (fun (W : World) (g : Nat) => conv_at W g (UInt8.ofNat kind))
  generalize S [UInt8.ofNat kind] = K at *
  generalize S (Wr.uv gen) = U at *
  generalize hhd : Sg.head kind gen first (L t) = hd at *
  have hor : kind = 0 ∧ t = ⟨#[]⟩ ∨ kind = 1 := by
    unfold Sg.may at h
    simp only [Bool.and_eq_true, Bool.or_eq_true, decide_eq_true_eq, ne_eq, L_nil] at h
    rcases h.2 with h5 | h5
    · have := h.1.1.1; exact .inr (by omega)
    · by_cases h6 : kind = 0
      · exact .inl ⟨h6, h5⟩
      · have := h.1.1.1; exact .inr (by omega)
  clear h h2 h3 hu hhd
  have HKV := Lib.hid hor
  have hkb : by8 (UInt8.ofNat kind) = kind := by rw [by8_ofNat]; omega
  rw [hkb] at HW
  have c1 := fun w : World => HW.out (w.alloc (.cells #[.int .u8 kind] 5 (0, 0))).drew w.heap.size (heap_alloc_new w (.cells #[.int .u8 kind] 5 (0, 0)))
  have c6 := fun w : World => HW.out (w.alloc (.cells #[.int .u8 kind] 5 (0, 0))) w.heap.size (heap_alloc_new w (.cells #[.int .u8 kind] 5 (0, 0)))
  clear hor hkb h1
  go_enter Try.func13, Try.ntmps13
  go_upto_region 1 with (fail)
  go_cut [30] (fun v wx => v = .bool false ∧ wx = w)
  case first =>
    rcases HKV.out with ⟨rfl, rfl⟩ | rfl
    · go_wp2_with fail
      refine (G _).mono ?_
      rintro e w1 ⟨rfl, rfl⟩
      go_wp2_with fail
      refine (F _).mono ?_
      rintro e w1 ⟨rfl, rfl⟩
      go_wp2_with fail
      go_meet
      exact ⟨rfl, rfl⟩
    · go_wp2_with fail
      refine (G _).mono ?_
      rintro e w1 ⟨rfl, rfl⟩
      go_wp2_with fail
      refine (F _).mono ?_
      rintro e w1 ⟨rfl, rfl⟩
      go_wp2_with fail
      go_meet
      exact ⟨rfl, rfl⟩
  case rest =>
    obtain ⟨rfl, rfl⟩ := hcut
    clear G F HKV
    go_wp2_with fail
    have hO := Own.refl wc
    go_region_with (first
      | (go_at_call 27; (with_reducible refine (HU.out _).mono ?_)
         rintro e w2 ⟨rfl, hb2⟩; (try have c4 := HW.out w2 wc.heap.size ((hb2.block _ (by simp)).trans (heap_alloc_new wc _))); have HO2 : Hid (Own wc.heap.size wc w2) := Lib.hid (Own.trans (by first | exact hO | exact hO.drew | exact (hO.alloc _).drew) hb2); clear hb2)
      | (go_at_call 26; (with_reducible refine (HEN.out _).mono ?_); rintro e w3 ⟨rfl, hb3⟩; have HO3 : Hid (Own wc.heap.size wc w3) := Lib.hid (Own.trans (by first | exact HO2.out | exact HO2.out.alloc _ | exact HO2.out.drew | exact (HO2.out.alloc _).drew) hb3); clear hb3))
    all_goals
      go_wp2_with fail
      go_ret2
      exact ⟨rfl, HO3.out.below⟩

/-- A head, whatever it is of. -/
theorem seg_head (w : World) (kind gen first : Nat) (t : ByteArray) (hk : kind < 256) (hg : gen < 18446744073709551616) (hf : first < 18446744073709551616) (ht : t.size ≤ 1073741824) :
    Calls Try.prog 12 #[.int .u8 kind, .int .u64 gen, .int .u64 first, .string t] w fun e w' => e = .returned (.tuple #[.string (S (Sg.head kind gen first (L t)).1), .int .i64 (Sg.head kind gen first (L t)).2]) ∧ Below w.heap.size w w' := by
  cases h : Sg.may kind gen first (L t) with
  | true => exact seg_head_yes w kind gen first t hk hg hf ht h
  | false =>
    rw [head_no h]
    exact (seg_head_no w kind gen first t hk hg hf h).mono fun e w' ⟨h1, h2⟩ => ⟨h1, by rw [h2]; exact Below.refl _ _⟩
theorem rseg_head (w : World) (kind gen first : Nat) (t : ByteArray) (hk : kind < 256) (hg : gen < 18446744073709551616) (hf : first < 18446744073709551616) (ht : t.size ≤ 1073741824) :
    Calls Try.prog 13 #[.int .u8 kind, .int .u64 gen, .int .u64 first, .string t] w fun e w' => e = .returned (.tuple #[.string (S (Sg.head kind gen first (L t)).1), .int .i64 (Sg.head kind gen first (L t)).2]) ∧ Below w.heap.size w w' := by
  cases h : Sg.may kind gen first (L t) with
  | true => exact rseg_head_yes w kind gen first t hg hf ht h
  | false =>
    rw [head_no h]
    exact (rseg_head_no w kind gen first t hk hg hf h).mono fun e w' ⟨h1, h2⟩ => ⟨h1, by rw [h2]; exact Below.refl _ _⟩

end Go.Proofs.Ytdohhbilchdigaa
