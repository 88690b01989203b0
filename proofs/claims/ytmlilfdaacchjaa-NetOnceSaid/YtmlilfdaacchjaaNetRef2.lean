/-
  THE WALKS of the document's answer for layer 21: Take, Double, Same.
-/
import Derived.Test.YtmlilfdaacchjaaNetRef
namespace Go.Proofs.Ytmlilfdaacchjaa
open Go.RowKit

theorem erase_ne (l : List Gram) (k i : Nat) (hi : i < l.length) (h : i ≠ k) : (l.take (i + 1)).eraseIdx k = (l.take i).eraseIdx k ++ [l[i]] := by
  rw [List.take_succ_eq_append_getElem hi]
  by_cases hk : k < i
  · rw [List.eraseIdx_append_of_lt_length (by simp; omega)]
  · rw [List.eraseIdx_of_length_le (by simp; omega), List.eraseIdx_of_length_le (by simp; omega)]
theorem erase_eq (l : List Gram) (k : Nat) (hk : k < l.length) : (l.take (k + 1)).eraseIdx k = (l.take k).eraseIdx k := by
  have hl : (l.take k).length = k := by simp; omega
  have h1 : (l.take k ++ [l[k]]).eraseIdx k = l.take k ++ [l[k]].eraseIdx (k - (l.take k).length) := List.eraseIdx_append_of_length_le (by omega) _
  have h2 : (l.take k).eraseIdx k = l.take k := List.eraseIdx_of_length_le (by omega)
  rw [List.take_succ_eq_append_getElem hk, h1, h2, hl, Nat.sub_self]; simp
theorem erase_len (l : List Gram) (k i : Nat) (h : i ≤ l.length) : ((l.take i).eraseIdx k).length ≤ l.length := by
  have := List.length_eraseIdx_le (l := l.take i) (i := k)
  simp at this
  omega

def RefTakeOut (w : World) (b : Nat) (a : Option Addr) (l : List Gram) (k : Nat) (hk : k < l.length) (e : Ending) (w' : World) : Prop :=
  e = .returned (.tuple #[.agg (gcells l[k]).toArray, .int .i64 0]) ∧ RefStep w w' b a (l.eraseIdx k)

/-- What the loop keeps: what lay there when it began, and a list of its own. -/
def RefLoop (W : World) (l : List Gram) (k : Nat) (vl : Value) (wr : World) (i : Nat) : Prop :=
  ∃ s cap, vl = .slice s ((l.take i).eraseIdx k).length cap ∧ Own W.heap.size W wr ∧ SliceIs wr 33 3 s ((l.take i).eraseIdx k).length cap (gall ((l.take i).eraseIdx k)) ∧ ∀ x ∈ blks s, W.heap.size ≤ x

set_option maxRecDepth 20000 in
set_option maxHeartbeats 2000000 in
theorem ref_take (w : World) (b : Nat) (a : Option Addr) (cap : Nat) (l : List Gram) (p : Int) (hp : -9223372036854775808 ≤ p ∧ p ≤ 9223372036854775807) (h : RefAt w b a cap l) (hl : 0 < l.length) (k : Nat) (hkk : pickOf p l.length = k) (hk : k < l.length) :
    Calls Try.prog 10 #[.pointer (some ⟨b, 0, none⟩), .int .i64 p] w fun e w' => RefTakeOut w b a l k hk e w' := by
  obtain ⟨i0, hi0, hz0, hz1, hz2⟩ := info_parts Try.infoGram
  obtain ⟨g, off, rfl⟩ := h.row.there (by omega)
  have hW := h.alloc (.cells #[.int .u32 0, .int .u32 0, .string ⟨#[]⟩] 33)
  have HP := Lib.hid (ref_place _ b _ cap l p hp hW hl)
  rw [hkk] at HP
  have hkI : (0 : Int) ≤ k ∧ (k : Int) < l.length := by omega
  have hfw : (l.length : Int) ≤ 1024 := by have := h.few; omega
  have HC := Lib.hid (SliceIs.elem hW.row k hk)
  have HWd := Lib.hid hW
  have hf := hW.field
  have hB4 := heap_alloc_new w (.cells #[.int .u32 0, .int .u32 0, .string ⟨#[]⟩] 33)
  have HB4 := Lib.hid hB4
  have HU : Hid (Upd w (w.alloc (.cells #[.int .u32 0, .int .u32 0, .string ⟨#[]⟩] 33)) []) := Lib.hid ((Upd.refl _ _).alloc _)
  have hsz : w.heap.size + 1 = (w.alloc (.cells #[.int .u32 0, .int .u32 0, .string ⟨#[]⟩] 33)).heap.size := by simp
  have HSZ := Lib.hid hsz
  have hblt : b < w.heap.size := h.lt b (by simp)
  have HBA : Hid (∀ x ∈ b :: blks (some ⟨g, off, none⟩), x < w.heap.size) := Lib.hid h.lt
  clear h hl hkk hp hW hB4 hsz
  go_enter Try.func10, Try.ntmps10
  go_wp2_with fail
  refine HP.out.mono ?_
  rintro e w' ⟨rfl, rfl⟩
  generalize w.alloc (.cells #[.int .u32 0, .int .u32 0, .string ⟨#[]⟩] 33) = W at *
  clear HP
  go_wp2_with (first
    | (refine wpList_load_at rfl 33 (.tmp 21) rfl g (off + k * 3) rfl (gcells l[k]) _ HC.out Try.underlying33 rfl (by kernel_rfl) ?_)
    | (refine wpList_store_all rfl 33 (.tmp 7) (.tmp 22) rfl W.heap.size _ rfl rfl 33 _ (heap_alloc_new _ _) (by kernel_rfl) rfl (by intro v hv; exact gcells_one _ v (by simpa using hv)) ?_; intro w2 hp2))
  have hW2 : RefAt w2 b (some ⟨g, off, none⟩) cap l := (HWd.out.alloc _).keep fun x hx => hp2.other x (by have := HWd.out.lt x hx; omega)
  have HW2 := Lib.hid hW2
  have H7 := Lib.hid hp2.here
  have h4 : w2.heap[w.heap.size]? = _ := (hp2.other _ (by have := blk_lt HB4.out; omega)).trans ((Below.heap_alloc _ _ _ (blk_lt HB4.out)).trans HB4.out)
  have H4 := Lib.hid h4
  have HU2 : Hid (Upd w w2 []) := Lib.hid ((HU.out.alloc _).put hp2 (.inr (by have := HSZ.out; omega)))
  have h2sz : w2.heap.size = W.heap.size + 1 := by rw [hp2.size]; simp
  have H2SZ := Lib.hid h2sz
  have hf2 := hW2.field
  clear hp2 HC HWd HB4 hf hW2 h4 h2sz
  go_loopw [8, 9] (fun vl vi wr => ∃ i : Nat, i ≤ l.length ∧ vi = .int .i64 i ∧ RefLoop w2 l k vl wr i) (fun _ vi _ => l.length - (intOf vi).toNat)
  case atStart => exact ⟨0, Nat.zero_le _, rfl, none, 0, rfl, Own.refl _, SliceIs.nil _ _ _, by simp⟩
  case round =>
    obtain ⟨i, hi, rfl, s, cap', rfl, hO, hs, hb⟩ := hrel
    have hfr : wr.cell? ⟨b, 0, none⟩ = some (.slice (some ⟨g, off, none⟩) l.length cap) := by
      rw [hO.below.cell (p := ⟨b, 0, none⟩) (HW2.out.lt b (by simp))]; exact hf2
    by_cases hlt : i < l.length
    · have hiI : (0 : Int) ≤ i ∧ (i : Int) < l.length := by omega
      have hEl := erase_len l k i hi
      have HEl := Lib.hid hEl
      by_cases hik : i = k
      · subst hik
        have hne : ((i : Int) != (i : Int)) = false := by simp
        have HE := Lib.hid (erase_eq l i hlt)
        have HS := Lib.hid hs
        have HB := Lib.hid hb
        clear hs hb hEl
        go_wp2
        go_roundw
        case rel => exact ⟨i + 1, by omega, by go_num, s, cap', by rw [HE.out], hO, by rw [HE.out]; exact HS.out, HB.out⟩
        case measure => simp [intOf]; omega
      · have hne : ((i : Int) != (k : Int)) = true := by rw [bne_iff_ne]; omega
        have HE := Lib.hid (erase_ne l k i hlt hik)
        have HC2 : Hid (CellsAt wr g (off + i * 3) (gcells l[i])) := Lib.hid ((SliceIs.elem HW2.out.row i hlt).keep (hO.below.block g (HW2.out.row.lt g (by simp))))
        have HS := Lib.hid hs
        have HB := Lib.hid hb
        generalize hE : (l.take i).eraseIdx k = E at *
        have HEE := Lib.hid hE
        clear hs hb hEl hik hE
        go_wp2_with (first
          | (refine wpList_load_at rfl 33 (.tmp 41) rfl g (off + i * 3) rfl (gcells l[i]) _ HC2.out Try.underlying33 rfl (by kernel_rfl) ?_; rw [show (gcells l[i]).toArray = #[.int .u32 (w32 l[i].frm), .int .u32 (w32 l[i].to), .string l[i].text] from rfl])
          | (at_builtin; (refine wpList_append_slice rfl (.tmp 35) (.tmp 43) 29 rfl 33 i0 _ 3 24 Try.undSl hi0 hz0 hz1 hz2 rfl (by decide) s E.length cap' (gall E) rfl (HS.out.alloc _) ⟨wr.heap.size, 0, none⟩ 1 1 (gcells l[i]) rfl rfl (news_of ⟨_, _, _, heap_alloc_new _ _, by simp [gcells], by simp [gcells]⟩) (gcells_one _) (by have := HEl.out; simp only [maxLen]; omega) (by have := HEl.out; omega) ?_; intro s' cap2 w3 hs3 hu3 hb3)))
        have HS3 := Lib.hid hs3
        have HB3 := Lib.hid hb3
        have HU3 := Lib.hid hu3
        clear hs3 hb3 hu3
        go_roundw
        case rel =>
          have hlen : E.length + 1 = (E ++ [l[i]]).length := by simp
          refine ⟨i + 1, by omega, by go_num, s', cap2, by rw [HE.out, hlen], (hO.alloc _).upd HU3.out (fun x hx => HB.out x hx), ?_, ?_⟩
          · rw [HE.out, ← hlen, gall_append, show gall [l[i]] = gcells l[i] from by simp [gall]]; exact HS3.out
          · intro x hx
            rcases HB3.out x hx with h | h
            · exact HB.out x h
            · have := hO.size; simp at h; omega
        case measure => simp [intOf]; omega
    · obtain rfl : i = l.length := by omega
      rw [List.take_length] at hs
      have HS := Lib.hid hs
      have HB := Lib.hid hb
      have hfz : wr.frozen? ⟨b, 0, none⟩ = false := by rw [hO.below.frozen (p := ⟨b, 0, none⟩) (HW2.out.lt b (by simp))]; exact frozen_of_row _ _ _ _ _ HW2.out.here
      have K7 : Hid ((wr.setCell ⟨b, 0, none⟩ (.slice s (l.eraseIdx k).length cap')).heap[W.heap.size]? = _) := Lib.hid ((heap_setCell_other _ _ _ _ (by have := HBA.out b (by simp); have := HSZ.out; simp; omega)).trans ((hO.below.block _ (blk_lt H7.out)).trans H7.out))
      have K4 : Hid ((wr.setCell ⟨b, 0, none⟩ (.slice s (l.eraseIdx k).length cap')).heap[w.heap.size]? = _) := Lib.hid ((heap_setCell_other _ _ _ _ (by have := HBA.out b (by simp); simp; omega)).trans ((hO.below.block _ (blk_lt H4.out)).trans H4.out))
      clear hs hb H7 H4
      simp only [List.take_length]
      go_wp2_with (first
        | (refine wpList_load_row rfl 33 (.tmp 7) rfl W.heap.size rfl 33 _ (0, 0) _ K7.out Try.underlying33 rfl (by kernel_rfl) ?_)
        | (refine wpList_store_all rfl 33 (.tmp 4) (.tmp 49) rfl w.heap.size _ rfl rfl 33 _ K4.out (by kernel_rfl) rfl (by intro v hv; exact gcells_one _ v (by simpa using hv)) ?_; intro w5 hp5))
      have HP5 := Lib.hid hp5
      clear hp5
      refine bodyPost_ret (results_cell_tmp_row rfl _ _ w.heap.size _ _ _ _ rfl HP5.out.here Try.underlying33 rfl (by kernel_rfl)) rfl ⟨rfl, s, cap', ⟨?_, ?_, ?_⟩, ?_, ?_⟩
      · rw [HP5.out.other b (by omega), heap_set _ ((hO.below.block _ (blk_lt HW2.out.here)).trans HW2.out.here)]; rfl
      · refine HS.out.keep fun x hx => ?_
        have := HB.out x hx
        have := HSZ.out
        have := H2SZ.out
        rw [HP5.out.other x (by omega), heap_setCell_other _ _ _ _ (by simp; omega)]
      · have := erase_len l k l.length (Nat.le_refl _); rw [List.take_length] at this; omega
      · have u1 : Upd w wr (b :: blks (some ⟨g, off, none⟩)) := ((HU2.out.trans (Upd.of_below [] hO.below) (by simp)).mono (by simp))
        exact ((u1.setCell (.inl (by simp)) _).put HP5.out (.inr (Nat.le_refl _)))
      · intro x hx
        have := HB.out x hx
        have := HSZ.out
        have := H2SZ.out
        exact .inr (by omega)

set_option maxRecDepth 20000 in
set_option maxHeartbeats 600000 in
theorem ref_take_none (w : World) (b : Nat) (a : Option Addr) (cap : Nat) (p : Int) (h : RefAt w b a cap []) :
    Calls Try.prog 10 #[.pointer (some ⟨b, 0, none⟩), .int .i64 p] w fun e w' => e = .returned (.tuple #[.agg #[.int .u32 0, .int .u32 0, .string ⟨#[]⟩], .int .i64 3]) ∧ Below w.heap.size w w' := by
  have hW := h.alloc (.cells #[.int .u32 0, .int .u32 0, .string ⟨#[]⟩] 33)
  have HP := Lib.hid (ref_place_none _ b _ cap p hW)
  have HB4 := Lib.hid (heap_alloc_new w (.cells #[.int .u32 0, .int .u32 0, .string ⟨#[]⟩] 33))
  clear h hW
  go_enter Try.func10, Try.ntmps10
  go_wp2_with fail
  refine HP.out.mono ?_
  rintro e w' ⟨rfl, rfl⟩
  go_wp2_with (refine wpList_store_same rfl 33 (.tmp 4) (.tmp 15) rfl w.heap.size _ rfl rfl 33 HB4.out (by kernel_rfl) (by intro v hv; simp at hv; rcases hv with rfl | rfl | rfl <;> rfl) ?_)
  refine bodyPost_ret (results_cell_tmp_row rfl _ _ w.heap.size _ _ _ _ rfl HB4.out Try.underlying33 rfl (by kernel_rfl)) rfl ⟨rfl, ?_⟩
  exact (Below.refl _ _).alloc (Nat.le_refl _) _

def RefDoubleOut (w : World) (b : Nat) (a : Option Addr) (l : List Gram) (p : Int) (e : Ending) (w' : World) : Prop :=
  e = .returned (.int .i64 (doubleCode l.length)) ∧ RefStep w w' b a (if 1024 ≤ l.length then l else l ++ (l[pickOf p l.length]?).toList)

set_option maxRecDepth 20000 in
set_option maxHeartbeats 600000 in
theorem ref_double (w : World) (b : Nat) (a : Option Addr) (cap : Nat) (l : List Gram) (p : Int) (hp : -9223372036854775808 ≤ p ∧ p ≤ 9223372036854775807) (h : RefAt w b a cap l) :
    Calls Try.prog 13 #[.pointer (some ⟨b, 0, none⟩), .int .i64 p] w fun e w' => RefDoubleOut w b a l p e w' := by
  rcases Nat.eq_zero_or_pos l.length with h0 | h0
  · have hl : l = [] := List.eq_nil_of_length_eq_zero h0
    subst hl
    have HP := Lib.hid (ref_place_none _ b _ cap p h)
    have H := Lib.hid h
    clear h h0 hp
    go_enter Try.func13, Try.ntmps13
    go_wp2_with fail
    refine HP.out.mono ?_
    rintro e w' ⟨rfl, rfl⟩
    go_wp2
    go_ret
    exact ⟨rfl, RefStep.of_below H.out (Below.refl _ _)⟩
  · obtain ⟨k, hkk⟩ : ∃ k, k = pickOf p l.length := ⟨_, rfl⟩
    have hk : k < l.length := by rw [hkk]; exact pickOf_lt _ _ h0
    have HP := Lib.hid (ref_place _ b _ cap l p hp h h0)
    rw [← hkk] at HP
    have HS := Lib.hid (ref_send_any w b a cap l l[k] h)
    have HE : Hid (l[pickOf p l.length]? = some l[k]) := Lib.hid (by rw [← hkk]; exact List.getElem?_eq_getElem hk)
    obtain ⟨g, off, rfl⟩ := h.row.there (by omega)
    have HC := Lib.hid (SliceIs.elem h.row k hk)
    have hf := h.field
    have hkI : (0 : Int) ≤ k ∧ (k : Int) < l.length := by omega
    have hn0 : Hid (¬ l.length = 0) := Lib.hid (by omega)
    clear hkk h h0 hp
    go_enter Try.func13, Try.ntmps13
    go_wp2_with fail
    refine HP.out.mono ?_
    rintro e w' ⟨rfl, rfl⟩
    go_wp2_with (refine wpList_load_at rfl 33 (.tmp 17) rfl g (off + k * 3) rfl (gcells l[k]) _ HC.out Try.underlying33 rfl (by kernel_rfl) ?_)
    refine HS.out.mono ?_
    rintro e w3 ⟨rfl, hs2⟩
    have HO := Lib.hid hs2
    clear hs2
    go_wp2
    go_ret
    refine ⟨ret_u (by unfold doubleCode; rw [if_neg hn0.out]), ?_⟩
    rw [HE.out]
    exact HO.out

end Go.Proofs.Ytmlilfdaacchjaa
