/-
  THE WALKS of the small functions of layer 11: number, Next, Head; and the document's answer's own.
-/
import Derived.Test.YtboplbcfoooenaaFrameRef
import Derived.Test.YtboplbcfoooenaaWireMore
import Derived.Test.YtboplbcfoooenaaSegMath
import Derived.Deep.DeepCutAuto
namespace Go.Proofs.Ytboplbcfoooenaa
open Go.RowKit

attribute [local go_sem ↓ high] appSem_eq

theorem seg_number (w : World) (n : Nat) (hn : n < 18446744073709551616) :
    Calls Try.prog 14 #[.int .u64 n] w fun e w' => e = .returned (.bool (Sg.isNum n)) ∧ w' = w := by
  go_enter Try.func14, Try.ntmps14
  by_cases h1 : 1 ≤ n
  · by_cases h2 : n ≤ Sg.Top
    · have hI : (1 : Int) ≤ n ∧ (n : Int) ≤ 281474976710656 := by unfold Sg.Top at h2; omega
      have HB := Lib.hid (show Sg.isNum n = true by unfold Sg.isNum; simp [h1, h2])
      clear h1 h2
      go_wp2_with fail
      go_ret
      exact ⟨by rw [HB.out]; first | rfl | exact congrArg (fun b => Ending.returned (.bool b)) (decide_eq_false (by omega)), rfl⟩
    · have hI : (281474976710656 : Int) < n := by unfold Sg.Top at h2; omega
      have HB := Lib.hid (show Sg.isNum n = false by unfold Sg.isNum; simp [h2])
      clear h1 h2
      go_wp2_with fail
      go_ret
      exact ⟨by rw [HB.out]; first | rfl | exact congrArg (fun b => Ending.returned (.bool b)) (decide_eq_false (by omega)), rfl⟩
  · have hI : (n : Int) = 0 := by omega
    have HB := Lib.hid (show Sg.isNum n = false by unfold Sg.isNum; simp [h1])
    clear h1
    go_wp2_with fail
    go_ret
    exact ⟨by rw [HB.out]; first | rfl | exact congrArg (fun b => Ending.returned (.bool b)) (decide_eq_false (by omega)), rfl⟩
/-- What a head is refused for: nothing of it may be. -/
theorem head_no {kind gen first : Nat} {t : List UInt8} (h : Sg.may kind gen first t = false) : Sg.head kind gen first t = ([], 2) := by
  unfold Sg.head; rw [if_pos h]
theorem may_of (kind gen first : Nat) (t : List UInt8) : Sg.may kind gen first t = (decide (kind ≤ 1) && Sg.isNum gen && Sg.isNum first && (decide (kind ≠ 0) || decide (t = []))) := rfl
theorem L_nil {t : ByteArray} : L t = [] ↔ t = ⟨#[]⟩ := by
  constructor
  · intro h; rw [← S_L t, h]; rfl
  · rintro rfl; rfl

theorem text_there {t : ByteArray} (h : ¬ t = ⟨#[]⟩) : t.toList.isEmpty = false ∧ (0 : Int) < t.size := by
  have h2 : L t ≠ [] := fun h' => h (L_nil.1 h')
  have h3 : 0 < (L t).length := List.length_pos_iff.2 h2
  rw [L_size] at h3
  refine ⟨?_, by omega⟩
  rw [ByteArray.toList_eq]
  cases hd : t.data.toList with
  | nil => exact absurd hd h2
  | cons a r => rfl

set_option maxHeartbeats 400000 in
theorem seg_head_no (w : World) (kind gen first : Nat) (t : ByteArray) (hk : kind < 256) (hg : gen < 18446744073709551616) (hf : first < 18446744073709551616) (h : Sg.may kind gen first (L t) = false) :
    Calls Try.prog 10 #[.int .u8 kind, .int .u64 gen, .int .u64 first, .string t] w fun e w' => e = .returned (.tuple #[.string (S []), .int .i64 2]) ∧ w' = w := by
  rw [may_of] at h
  have G := fun w => seg_number w gen hg
  have F := fun w => seg_number w first hf
  go_enter Try.func10, Try.ntmps10
  by_cases h1 : kind ≤ 1
  · have h1I : (0 : Int) ≤ kind ∧ (kind : Int) ≤ 1 := by omega
    cases hG : Sg.isNum gen with
    | false =>
      rw [hG] at G
      clear h hG h1
      go_wp2_with fail
      refine (G _).mono ?_
      rintro e w1 ⟨rfl, rfl⟩
      go_wp2_with fail
      go_ret2
      exact ⟨rfl, rfl⟩
    | true =>
      rw [hG] at G
      cases hF : Sg.isNum first with
      | false =>
        rw [hF] at F
        clear h hG hF h1
        go_wp2_with fail
        refine (G _).mono ?_
        rintro e w1 ⟨rfl, rfl⟩
        go_wp2_with fail
        refine (F _).mono ?_
        rintro e w1 ⟨rfl, rfl⟩
        go_wp2_with fail
        go_ret2
        exact ⟨rfl, rfl⟩
      | true =>
        rw [hF] at F
        simp only [h1, hG, hF, decide_true, Bool.true_and, Bool.or_eq_false_iff, decide_eq_false_iff_not, ne_eq, Classical.not_not, L_nil] at h
        obtain ⟨rfl, ht⟩ := h
        obtain ⟨hE, hE2⟩ := text_there ht
        clear hG hF h1 h1I ht
        go_wp2_with fail
        refine (G _).mono ?_
        rintro e w1 ⟨rfl, rfl⟩
        go_wp2_with fail
        refine (F _).mono ?_
        rintro e w1 ⟨rfl, rfl⟩
        go_wp2_with fail
        go_ret2
        exact ⟨rfl, rfl⟩
  · have h1I : (1 : Int) < kind := by omega
    clear h h1
    go_wp2_with fail
    go_ret2
    exact ⟨rfl, rfl⟩

/-- One byte's text. -/
theorem conv_at (W : World) (g : Nat) (c : UInt8) (h : W.heap[g]? = some (.cells #[.int .u8 (by8 c)] 5 (0, 0))) :
    (convert 39 9 (.slice (some ⟨g, 0, none⟩) 1 1)).run Try.prog W = .ok (.string (S [c])) W := by
  refine run_string_of (P := Try.prog) _ 39 9 5 g 1 [c] _ _ _ 1 rfl Try.underlying39 Try.underlying5 Try.underlying9 h ?_
  intro j hj
  obtain rfl : j = 0 := by simp at hj; omega
  rfl
/-- What Encode makes of a head's record. -/
theorem enc_head (kind gen first : Nat) (t : ByteArray) (_ : kind < 256) (ht : t.size ≤ 1073741824) (h : Sg.may kind gen first (L t) = true) (w : World) :
    Calls Try.prog 15 #[.agg #[.int .u64 first, .string (S [UInt8.ofNat kind] ++ S (Wr.uv gen) ++ t)]] w fun e w' => e = .returned (.tuple #[.string (S (Sg.head kind gen first (L t)).1), .int .i64 (Sg.head kind gen first (L t)).2]) ∧ Below w.heap.size w w' := by
  obtain ⟨h1, h2, h3⟩ := Sg.may_parts h
  have e : L (S [UInt8.ofNat kind] ++ S (Wr.uv gen) ++ t) = Sg.hText kind gen (L t) := by rw [L_append, L_append, L_S, L_S]; simp [Sg.hText]
  have hz : (S [UInt8.ofNat kind] ++ S (Wr.uv gen) ++ t).size = (Sg.hText kind gen (L t)).length := by rw [← e, L_size]
  have hu : (Wr.uv gen).length ≤ 10 := Wr.uvF_length 10 _
  have hl : (Sg.hText kind gen (L t)).length ≤ 11 + t.size := by simp [Sg.hText]; omega
  unfold Sg.head
  rw [if_neg (by rw [h]; simp)]
  by_cases hb : 65536 < (Sg.hText kind gen (L t)).length
  · rw [if_pos hb]
    exact frame_enc_long first _ w (by omega) (by omega)
  · rw [if_neg hb, ← e]
    exact frame_enc first _ w (by unfold Sg.Top at h3; omega) (by omega)

set_option maxRecDepth 20000 in
set_option maxHeartbeats 8000000 in
theorem seg_head_yes (w : World) (kind gen first : Nat) (t : ByteArray) (hk : kind < 256) (hg : gen < 18446744073709551616) (hf : first < 18446744073709551616) (ht : t.size ≤ 1073741824) (h : Sg.may kind gen first (L t) = true) :
    Calls Try.prog 10 #[.int .u8 kind, .int .u64 gen, .int .u64 first, .string t] w fun e w' => e = .returned (.tuple #[.string (S (Sg.head kind gen first (L t)).1), .int .i64 (Sg.head kind gen first (L t)).2]) ∧ Below w.heap.size w w' := by
  obtain ⟨h1, h2, h3⟩ := Sg.may_parts h
  have G := fun w => seg_number w gen hg
  have F := fun w => seg_number w first hf
  rw [show Sg.isNum gen = true by unfold Sg.isNum; simp [h2]] at G
  rw [show Sg.isNum first = true by unfold Sg.isNum; simp [h3]] at F
  have hu : (Wr.uv gen).length ≤ 10 := Wr.uvF_length 10 _
  have hc1 : ¬ 9223372036854775807 < (S [UInt8.ofNat kind]).size + (S (Wr.uv gen)).size := by rw [S_size, S_size]; simp; omega
  have hc2 : ¬ 9223372036854775807 < (S [UInt8.ofNat kind]).size + (S (Wr.uv gen)).size + t.size := by rw [S_size, S_size]; simp; omega
  have HEN := Lib.hid (enc_head kind gen first t hk ht h)
  have HU : Hid (∀ (W : World) (a : Option Addr), RowIs W 1 a ([gen].map fun x : Nat => [Value.int .u64 x]) → Calls Try.prog 16 #[.slice a 1 1] W fun e w' => e = .returned (.string (S (Wr.uv gen))) ∧ Below W.heap.size W w') := Lib.hid (fun w a h => by
    have := uints_any w a 1 [gen] h (by simpa using hg) (by simp)
    simpa [uvs] using this)
  have HW := Lib.hid (fun (W : World) (g : Nat) => conv_at W g (UInt8.ofNat kind))
  generalize S [UInt8.ofNat kind] = K at *
  generalize S (Wr.uv gen) = U at *
  generalize hhd : Sg.head kind gen first (L t) = hd at *
  have hor : kind = 0 ∧ t = ⟨#[]⟩ ∨ kind = 1 := by
    unfold Sg.may at h
    simp only [Bool.and_eq_true, Bool.or_eq_true, decide_eq_true_eq, ne_eq, L_nil] at h
    rcases h.2 with h5 | h5
    · have := h.1.1.1; exact .inr (by omega)
    · by_cases h6 : kind = 0
      · exact .inl ⟨h6, h5⟩
      · have := h.1.1.1; exact .inr (by omega)
  clear h h1 h2 h3 hu hhd
  have HKV := Lib.hid hor
  have hkb : by8 (UInt8.ofNat kind) = kind := by rw [by8_ofNat]; omega
  rw [hkb] at HW
  have c1 := fun w : World => HW.out (w.alloc (.cells #[.int .u8 kind] 5 (0, 0))).drew w.heap.size (heap_alloc_new w (.cells #[.int .u8 kind] 5 (0, 0)))
  have c6 := fun w : World => HW.out (w.alloc (.cells #[.int .u8 kind] 5 (0, 0))) w.heap.size (heap_alloc_new w (.cells #[.int .u8 kind] 5 (0, 0)))
  have c2 := fun (w : World) o => HW.out ((w.alloc (.cells #[.int .u8 kind] 5 (0, 0))).alloc o).drew w.heap.size (heap_alloc2_old w (.cells #[.int .u8 kind] 5 (0, 0)) o)
  have c3 := fun (w : World) o => HW.out ((w.alloc o).alloc (.cells #[.int .u8 kind] 5 (0, 0))).drew (w.heap.size + 1) (heap_alloc2_new w o (.cells #[.int .u8 kind] 5 (0, 0)))
  clear hor hkb hk
  go_enter Try.func10, Try.ntmps10
  go_upto_region 1 with (fail)
  go_cut [29] (fun v wx => v = .bool false ∧ wx = w)
  case first =>
    rcases HKV.out with ⟨rfl, rfl⟩ | rfl
    · go_wp2_with fail
      refine (G _).mono ?_
      rintro e w1 ⟨rfl, rfl⟩
      go_wp2_with fail
      refine (F _).mono ?_
      rintro e w1 ⟨rfl, rfl⟩
      go_wp2_with fail
      go_meet
      exact ⟨rfl, rfl⟩
    · go_wp2_with fail
      refine (G _).mono ?_
      rintro e w1 ⟨rfl, rfl⟩
      go_wp2_with fail
      refine (F _).mono ?_
      rintro e w1 ⟨rfl, rfl⟩
      go_wp2_with fail
      go_meet
      exact ⟨rfl, rfl⟩
  case rest =>
    obtain ⟨rfl, rfl⟩ := hcut
    clear G F HKV
    go_wp2_with fail
    have hO := Own.refl wc
    go_region_with (first
      | (go_at_call 16; (with_reducible refine (HU.out _ _ ?_).mono ?_); · (first | exact RowIs.one (heap_alloc_new wc _) | exact RowIs.one (heap_alloc2_new wc _ _) | exact RowIs.one (heap_alloc2_old wc _ _))
         rintro e w2 ⟨rfl, hb2⟩; (try have c4 := HW.out w2 wc.heap.size ((hb2.block _ (by simp <;> omega)).trans (heap_alloc2_old wc _ _))); (try have c5 := HW.out w2 (wc.heap.size + 1) ((hb2.block _ (by simp <;> omega)).trans (heap_alloc2_new wc _ _))); have HO2 : Hid (Own wc.heap.size wc w2) := Lib.hid (Own.trans (by first | exact (hO.alloc _).drew | exact ((hO.alloc _).alloc _).drew) hb2); clear hb2)
      | (go_at_call 15; (with_reducible refine (HEN.out _).mono ?_); rintro e w3 ⟨rfl, hb3⟩; have HO3 : Hid (Own wc.heap.size wc w3) := Lib.hid (Own.trans (by first | exact HO2.out | exact HO2.out.alloc _ | exact HO2.out.drew | exact (HO2.out.alloc _).drew) hb3); clear hb3))
    all_goals
      go_wp2_with fail
      go_ret2
      exact ⟨rfl, HO3.out.below⟩

end Go.Proofs.Ytboplbcfoooenaa
