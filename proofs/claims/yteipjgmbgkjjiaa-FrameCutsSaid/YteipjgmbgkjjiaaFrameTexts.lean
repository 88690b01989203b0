/-
  LISTS OF TEXTS: heavy, row: what the statements on rows of frames begin with.
-/
import Derived.Test.YteipjgmbgkjjiaaFrameAlive
import Derived.Test.YteipjgmbgkjjiaaRowArgs
set_option linter.unusedVariables false
set_option linter.unusedSimpArgs false
namespace Go.Proofs.Yteipjgmbgkjjiaa
open Go.RowKit

attribute [local go_sem ↓ high] appSem_eq

def tcell (t : ByteArray) : List Value := [.string t]
/-- A list of texts that was handed in. -/
def TextsAt (w : World) (a : Option Addr) (l : List ByteArray) : Prop := RowIs w 1 a (l.map tcell)
theorem TextsAt.keep {w w' : World} {a : Option Addr} {l : List ByteArray} (h : TextsAt w a l) (hb : Below w.heap.size w w') : TextsAt w' a l := RowIs.keep h hb
theorem TextsAt.at {w : World} {a : Option Addr} {l : List ByteArray} (h : TextsAt w a l) (i : Nat) (hi : i < l.length) : ∃ g off, a = some ⟨g, off, none⟩ ∧ w.cell? ⟨g, off + i, none⟩ = some (.string l[i]) :=
  RowIs.cell1 (f := Value.string) h i hi
def sizes (l : List ByteArray) : Nat := (l.map ByteArray.size).sum
theorem sizes_take (l : List ByteArray) (i : Nat) (hi : i < l.length) : sizes (l.take (i + 1)) = sizes (l.take i) + l[i].size := by
  unfold sizes
  rw [List.take_succ_eq_append_getElem hi, List.map_append, List.sum_append]; simp
theorem size_le_sizes (l : List ByteArray) : ∀ t ∈ l, t.size ≤ sizes l := by
  intro t ht
  unfold sizes
  induction l with
  | nil => cases ht
  | cons x l ih =>
    rcases List.mem_cons.1 ht with rfl | h
    · simp
    · have := ih h; simp; omega

def HeavyOut (l : List ByteArray) (e : Ending) : Prop := ∃ b, e = .returned (.bool b) ∧ (b = false → l.length ≤ 60 ∧ sizes l ≤ 4096)
set_option maxRecDepth 20000 in
set_option maxHeartbeats 1000000 in
theorem heavy_any (w : World) (a : Option Addr) (cap : Nat) (l : List ByteArray) (h : TextsAt w a l) (hc : l.length ≤ 9223372036854775807) (hz : ∀ t ∈ l, t.size ≤ 140737488351232) :
    Calls Try.prog 20 #[.slice a l.length cap] w fun e w' => HeavyOut l e ∧ w = w' := by
  have hmax : (l.length : Int) ≤ 9223372036854775807 := by omega
  have H := Lib.hid h
  have HZ := Lib.hid hz
  clear h hz hc
  go_enter Try.func20, Try.ntmps20
  go_wp2_with fail
  go_loop [3, 4] (fun vn vi => ∃ i : Nat, i ≤ l.length ∧ vn = .int .i64 (sizes (l.take i)) ∧ vi = .int .i64 i ∧ sizes (l.take i) ≤ 4096) (fun _ vi => l.length - (intOf vi).toNat)
  case atStart => exact ⟨0, Nat.zero_le _, rfl, rfl, by simp [sizes]⟩
  case round =>
    obtain ⟨i, hi, rfl, rfl, hs⟩ := hrel
    by_cases hlt : i < l.length
    · obtain ⟨g, off, rfl, hcl⟩ := H.out.at i hlt
      have hI : (0 : Int) ≤ i ∧ (i : Int) < l.length := by omega
      have HT := Lib.hid (sizes_take l i hlt)
      have hzi := HZ.out l[i] (List.getElem_mem hlt)
      have hsI : (0 : Int) ≤ (sizes (l.take i) : Int) ∧ (sizes (l.take i) : Int) ≤ 4096 := by omega
      generalize l[i] = tx at *
      have hzI : (tx.size : Int) ≤ 140737488351232 := by omega
      clear hs hzi
      generalize sizes (l.take i) = n at *
      by_cases hbig : 4096 < n + tx.size
      · have hbI : (4096 : Int) < n + tx.size := by omega
        go_wp2_with fail
        go_ret
        exact ⟨⟨true, rfl, fun h => by cases h⟩, rfl⟩
      · have hbI : (n : Int) + tx.size ≤ 4096 := by omega
        go_wp2_with fail
        go_round
        case rel => exact ⟨i + 1, by omega, by rw [HT.out]; go_num, by go_num, by rw [HT.out]; omega⟩
        case measure => simp [intOf]; omega
    · obtain rfl : i = l.length := by omega
      rw [List.take_length] at hs
      have HS := Lib.hid hs
      clear hs
      go_wp2
      go_ret
      exact ⟨⟨decide ((60 : Int) < l.length), rfl, fun h => ⟨by simp at h; omega, HS.out⟩⟩, rfl⟩

/-- What 'row' hands back. -/
def RowOut (l : List ByteArray) (first : Nat) (w : World) (e : Ending) (w' : World) : Prop :=
  ∃ a cap, e = .returned (.tuple #[.string (S (Frm.bytes (Frm.recs (l.map L) first))), .slice a l.length cap, .bool true]) ∧
    SliceIs w' 24 2 a l.length cap (rrow (Frm.recs (l.map L) first)) ∧ Below w.heap.size w w' ∧ ∀ k ∈ blks a, w.heap.size ≤ k

set_option maxRecDepth 20000 in
set_option maxHeartbeats 2000000 in
theorem row_any (w : World) (a : Option Addr) (cap : Nat) (l : List ByteArray) (first : Nat) (h : TextsAt w a l) (hl : l.length ≤ 60) (hz : sizes l ≤ 4096) (hf : first < 18446744073709551616) :
    Calls Try.prog 21 #[.slice a l.length cap, .int .u64 first] w (RowOut l first w) := by
  obtain ⟨i0, hi, hz0, hz1, hz2⟩ := info_parts recInfo
  have H := Lib.hid h
  have HZ := Lib.hid (show ∀ t ∈ l, t.size ≤ 4096 from fun t ht => by have := size_le_sizes l t ht; omega)
  have hlI : (l.length : Int) ≤ 60 := by omega
  have HF := Lib.hid hf
  have HL := Lib.hid hl
  have hfI : (0 : Int) ≤ first ∧ (first : Int) ≤ 18446744073709551615 := by omega
  clear h hz hf hl
  go_enter Try.func21, Try.ntmps21
  go_wp2_with fail
  go_loopw [7, 8, 9] (fun vs vl vi wr => ∃ (i : Nat) (b : Option Addr) (cp : Nat), i ≤ l.length ∧ vi = .int .i64 i ∧ vs = .string (S (Frm.bytes (Frm.recs ((l.take i).map L) first))) ∧ vl = .slice b i cp ∧
    SliceIs wr 24 2 b i cp (rrow (Frm.recs ((l.take i).map L) first)) ∧ (∀ k ∈ blks b, w.heap.size ≤ k) ∧ Own w.heap.size w wr) (fun _ _ vi _ => l.length - (intOf vi).toNat)
  case atStart => exact ⟨0, none, 0, Nat.zero_le _, rfl, rfl, rfl, SliceIs.nil _ _ _, by simp, Own.refl w⟩
  case round =>
    obtain ⟨i, b, cp, hi', rfl, rfl, rfl, hrow, hfr, hO⟩ := hrel
    have HR := Lib.hid hrow
    have HFR := Lib.hid hfr
    have HO := Lib.hid hO
    clear hrow hfr hO
    by_cases hlt : i < l.length
    · obtain ⟨g, off, rfl, hcl⟩ := (H.out.keep HO.out.below).at i hlt
      have hI : (0 : Int) ≤ i ∧ (i : Int) < l.length := by omega
      have hti := HZ.out l[i] (List.getElem_mem hlt)
      have hsn : Frm.recs ((l.take (i + 1)).map L) first = Frm.recs ((l.take i).map L) first ++ [⟨(first + i) % Frm.M64, L l[i]⟩] := by
        rw [List.take_succ_eq_append_getElem hlt, List.map_append, List.map_singleton, Frm.recs_snoc _ _ _ HF.out]
        congr 4; simp; omega
      have HSN := Lib.hid hsn
      have hbl : (Frm.bytes (Frm.recs ((l.take i).map L) first)).length ≤ 60 * 4112 := by
        rw [Frm.bytes_length]
        have : ∀ m : List ByteArray, (∀ t ∈ m, t.size ≤ 4096) → Frm.lens (m.map L) ≤ m.length * 4112 := by
          intro m hm
          induction m with
          | nil => simp [Frm.lens]
          | cons x m ih =>
            have h1 := ih (fun t ht => hm t (by simp [ht]))
            have h2 := hm x (by simp)
            have e := L_size x
            simp only [List.map_cons, Frm.lens, List.length_cons]; omega
        have h3 := this (l.take i) (fun t ht => HZ.out t (List.mem_of_mem_take ht))
        have h4 := HL.out
        rw [List.length_take] at h3
        omega
      clear hsn
      generalize l[i] = tx at *
      have hcat : ¬ 9223372036854775807 < (S (Frm.bytes (Frm.recs ((l.take i).map L) first))).size + (S (Frm.enc ((first + i) % Frm.M64) (L tx))).size := by
        rw [S_size, S_size, Frm.enc_length, L_size]; omega
      have HNB : Hid (S (Frm.bytes (Frm.recs ((l.take (i + 1)).map L) first)) = S (Frm.bytes (Frm.recs ((l.take i).map L) first)) ++ S (Frm.enc ((first + i) % Frm.M64) (L tx))) := Lib.hid (by
        rw [HSN.out, Frm.bytes_append, S_append]; simp [Frm.bytes])
      have HNR : Hid (rrow (Frm.recs ((l.take (i + 1)).map L) first) = rrow (Frm.recs ((l.take i).map L) first) ++ [.int .u64 ((first + i) % Frm.M64 : Nat), .string tx]) := Lib.hid (by
        rw [HSN.out]; simp [rrow, S_L])
      have hsum : IntKind.u64.wrap ((first : Int) + (i : Int)) = (((first + i) % Frm.M64 : Nat) : Int) := by
        rw [IntKind.wrap_u64]; unfold Frm.M64; omega
      have HE := Lib.hid (show ∀ w, Calls Try.prog 12 #[.agg #[.int .u64 (IntKind.u64.wrap ((first : Int) + (i : Int))), .string tx]] w fun e w' => e = .returned (.tuple #[.string (S (Frm.enc ((first + i) % Frm.M64) (L tx))), .int .i64 0]) ∧ Below w.heap.size w w' from fun w => by
        rw [hsum]; exact frame_enc _ tx w (Nat.mod_lt _ (by decide)) (by omega))
      have HSUM := Lib.hid hsum
      generalize S (Frm.bytes (Frm.recs ((l.take i).map L) first)) = B1 at *
      generalize S (Frm.enc ((first + i) % Frm.M64) (L tx)) = E1 at *
      clear hti hbl hsum HSN
      go_wp2_with fail
      generalize IntKind.u64.wrap ((first : Int) + (i : Int)) = Nn at *
      refine (HE.out _).mono ?_
      rintro e w1 ⟨rfl, hb1⟩
      have hg := (hb1.block _ (by simp)).trans (heap_alloc_new wr (.cells #[.int .u64 Nn, .string tx] 24))
      obtain ⟨c0, c1, _, _⟩ := rec_cells hg
      have hO1 := (HO.out.alloc (.cells #[.int .u64 Nn, .string tx] 24)).trans hb1
      have hrow := (HR.out.alloc (.cells #[.int .u64 Nn, .string tx] 24)).keep (w' := w1) fun k hk => hb1.block k ((HR.out.alloc (.cells #[.int .u64 Nn, .string tx] 24)).lt k hk)
      obtain ⟨b', cp', w2, hr, hS, hU, hbk⟩ := run_append_slice (P := Try.prog) (w1.alloc (.cells #[.int .u64 Nn, .string tx] 24)) 39 39 24 i0 (.agg #[.int .u64 0, .string ⟨#[]⟩]) 2 24 Try.underlying39 hi hz0 hz1 hz2 rfl (by decide) b i cp _ (hrow.alloc _) ⟨w1.heap.size, 0, none⟩ 1 1 [.int .u64 Nn, .string tx] rfl (news_of (CellsAt.new w1 [.int .u64 Nn, .string tx] 24 (0, 0)))
        (by intro u hu; simp at hu; rcases hu with rfl | rfl <;> rfl) (by have := HL.out; unfold maxLen; omega) (by have := HL.out; omega)
      change (appSem _ _ _).run _ _ = _ at hr
      have HS := Lib.hid hS
      have HU := Lib.hid hU
      have HBK := Lib.hid hbk
      have HO1 := Lib.hid hO1
      clear hS hU hbk hO1 hrow hg hb1
      go_wp2_with fail
      go_roundw
      case rel =>
        refine ⟨i + 1, b', cp', by omega, by go_num, by rw [HNB.out], rfl, ?_, ?_, ?_⟩
        · rw [HNR.out, ← HSUM.out]; exact HS.out
        · intro k hk
          rcases HBK.out k hk with h | h
          · exact HFR.out k h
          · have := HO1.out.size; simp at h; omega
        · exact (HO1.out.alloc _).upd HU.out HFR.out
      case measure => simp [intOf]; omega
    · obtain rfl : i = l.length := by omega
      have hrow := HR.out
      rw [List.take_length] at *
      replace HR := Lib.hid hrow
      clear hrow
      go_wp2_with fail
      go_ret3
      exact ⟨b, cp, rfl, HR.out, HO.out.below, HFR.out⟩

end Go.Proofs.Yteipjgmbgkjjiaa
