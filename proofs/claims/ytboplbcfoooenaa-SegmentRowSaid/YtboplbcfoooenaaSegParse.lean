/-
  THE WALK of segment.Parse.
-/
import Derived.Test.YtboplbcfoooenaaSegBytes
import Derived.Test.YtboplbcfoooenaaSegParseM
import Derived.Test.YtboplbcfoooenaaFrameScan
import Derived.Test.YtboplbcfoooenaaWireAlive
import Derived.Test.YtboplbcfoooenaaFrameRefScan
import Derived.Deep.RegionHeld3
import Derived.Deep.CutBlock
import Derived.Deep.DeepCutAuto
namespace Go.Proofs.Ytboplbcfoooenaa
open Go.RowKit

attribute [local go_sem ↓ high] appSem_eq

theorem strInfo : (Try.prog.info? 9).map (fun i => (i.zero, i.size, i.bytes)) = some (some (.string ⟨#[]⟩), 1, 16) := by kernel_rfl
theorem L_from (s : ByteArray) (n : Nat) : L (s.extract n s.size) = (L s).drop n := by
  unfold L
  rw [ByteArray.data_extract, Array.toList_extract]
  simp [List.extract]
  have : s.data.size = s.size := rfl
  rw [List.take_of_length_le (by simp [this])]
/-- What Parse hands back. -/
def ParseOut (s : ByteArray) (w : World) (e : Ending) (w' : World) : Prop :=
  ∃ a cap, e = .returned (.tuple #[.agg #[.int .u8 (Sg.parse (L s)).1.kind, .int .u64 (Sg.parse (L s)).1.gen, .int .u64 (Sg.parse (L s)).1.first, .string (S (Sg.parse (L s)).1.text), .slice a (Sg.parse (L s)).1.recs.length cap, .int .i64 (Sg.parse (L s)).1.used, .bool (Sg.parse (L s)).1.whole], .int .i64 (Sg.parse (L s)).2]) ∧
    RowIs w' 1 a ((Sg.parse (L s)).1.recs.map fun t => [.string (S t)]) ∧ Below w.heap.size w w' ∧ ∀ k ∈ blks a, w.heap.size ≤ k
theorem parse_out0 {s : ByteArray} {n : Nat} (h : Sg.parse (L s) = (Sg.seg0, n)) (w w' : World) (hb : Below w.heap.size w w') :
    ParseOut s w (.returned (.tuple #[.agg #[.int .u8 0, .int .u64 0, .int .u64 0, .string ⟨#[]⟩, .slice none 0 0, .int .i64 0, .bool false], .int .i64 n])) w' := by
  unfold ParseOut
  rw [h]
  exact ⟨none, 0, rfl, RowIs.nil _ _ _, hb, by simp [blks]⟩
/-- A segment in a box, in parts. -/
def SBox (w : World) (b : Nat) (k g f : Int) (t : ByteArray) (a : Option Addr) (n cap : Nat) (u : Int) (wh : Bool) : Prop :=
  w.heap[b]? = some (.cells #[.int .u8 k, .int .u64 g, .int .u64 f, .string t, .slice a n cap, .int .i64 u, .bool wh] 28 (0, 0))
section
variable {w w' : World} {b n cap : Nat} {k g f u : Int} {t : ByteArray} {a : Option Addr} {wh : Bool}
theorem SBox.keep (h : SBox w b k g f t a n cap u wh) (hb : w'.heap[b]? = w.heap[b]?) : SBox w' b k g f t a n cap u wh := hb.trans h
theorem SBox.facts (h : SBox w b k g f t a n cap u wh) :
    w.cell? ⟨b, 0, none⟩ = some (.int .u8 k) ∧ w.cell? ⟨b, 1, none⟩ = some (.int .u64 g) ∧ w.cell? ⟨b, 2, none⟩ = some (.int .u64 f) ∧ w.cell? ⟨b, 3, none⟩ = some (.string t) ∧
    w.cell? ⟨b, 4, none⟩ = some (.slice a n cap) ∧ w.cell? ⟨b, 5, none⟩ = some (.int .i64 u) ∧ w.cell? ⟨b, 6, none⟩ = some (.bool wh) ∧
    w.frozen? ⟨b, 0, none⟩ = false ∧ w.frozen? ⟨b, 1, none⟩ = false ∧ w.frozen? ⟨b, 2, none⟩ = false ∧ w.frozen? ⟨b, 3, none⟩ = false ∧ w.frozen? ⟨b, 4, none⟩ = false ∧ w.frozen? ⟨b, 5, none⟩ = false ∧ w.frozen? ⟨b, 6, none⟩ = false := by
  refine ⟨?_, ?_, ?_, ?_, ?_, ?_, ?_, frozen_zero h, frozen_zero h, frozen_zero h, frozen_zero h, frozen_zero h, frozen_zero h, frozen_zero h⟩
  all_goals rw [cell_of_row w b _ _ _ _ h]; rfl
theorem SBox.text (h : SBox w b k g f t a n cap u wh) (t' : ByteArray) : SBox (w.setCell ⟨b, 3, none⟩ (.string t')) b k g f t' a n cap u wh := by
  unfold SBox; rw [heap_set _ h]; rfl
theorem SBox.recs (h : SBox w b k g f t a n cap u wh) (a' : Option Addr) (n' cap' : Nat) : SBox (w.setCell ⟨b, 4, none⟩ (.slice a' n' cap')) b k g f t a' n' cap' u wh := by
  unfold SBox; rw [heap_set _ h]; rfl
theorem SBox.used (h : SBox w b k g f t a n cap u wh) (u' : Int) : SBox (w.setCell ⟨b, 5, none⟩ (.int .i64 u')) b k g f t a n cap u' wh := by
  unfold SBox; rw [heap_set _ h]; rfl
theorem SBox.whole (h : SBox w b k g f t a n cap u wh) (x : Bool) : SBox (w.setCell ⟨b, 6, none⟩ (.bool x)) b k g f t a n cap u x := by
  unfold SBox; rw [heap_set _ h]; rfl
end
/-- All seven cells written over. -/
def set7 (w : World) (b : Nat) (v0 v1 v2 v3 v4 v5 v6 : Value) : World :=
  ((((((w.setCell ⟨b, 0, none⟩ v0).setCell ⟨b, 1, none⟩ v1).setCell ⟨b, 2, none⟩ v2).setCell ⟨b, 3, none⟩ v3).setCell ⟨b, 4, none⟩ v4).setCell ⟨b, 5, none⟩ v5).setCell ⟨b, 6, none⟩ v6
theorem SBox.all {w : World} {b n cap : Nat} {k g f u : Int} {t : ByteArray} {a : Option Addr} {wh : Bool} (h : SBox w b k g f t a n cap u wh) (k' g' f' : Int) (t' : ByteArray) (a' : Option Addr) (n' cap' : Nat) (u' : Int) (wh' : Bool) :
    SBox (set7 w b (.int .u8 k') (.int .u64 g') (.int .u64 f') (.string t') (.slice a' n' cap') (.int .i64 u') (.bool wh')) b k' g' f' t' a' n' cap' u' wh' := by
  unfold SBox set7
  rw [heap_set _ (heap_set _ (heap_set _ (heap_set _ (heap_set _ (heap_set _ (heap_set _ h))))))]; rfl
theorem upd_set7 (w : World) (b : Nat) (v0 v1 v2 v3 v4 v5 v6 : Value) : Upd w (set7 w b v0 v1 v2 v3 v4 v5 v6) [b] := by
  unfold set7
  exact (((((((Upd.refl w [b]).setCell (by simp) v0).setCell (by simp) v1).setCell (by simp) v2).setCell (by simp) v3).setCell (by simp) v4).setCell (by simp) v5).setCell (by simp) v6

theorem cell_set7 {w : World} {b k p : Nat} {v v0 v1 v2 v3 v4 v5 v6 : Value} (h : w.cell? ⟨b, k, none⟩ = some v) (hb : b ≠ p) :
    (((((((w.setCell ⟨p, 0, none⟩ v0).setCell ⟨p, 1, none⟩ v1).setCell ⟨p, 2, none⟩ v2).setCell ⟨p, 3, none⟩ v3).setCell ⟨p, 4, none⟩ v4).setCell ⟨p, 5, none⟩ v5).setCell ⟨p, 6, none⟩ v6).cell? ⟨b, k, none⟩ = some v := by
  have e : ∀ (w : World) (i : Nat) (u : Value), (w.setCell ⟨p, i, none⟩ u).cell? ⟨b, k, none⟩ = w.cell? ⟨b, k, none⟩ := fun w i u => World.cell?_setCell_far w _ _ u (Ne.symm hb)
  rw [e, e, e, e, e, e, e]
  exact h
theorem str_extract0 (k : UInt8) (t : List UInt8) : (S (k :: t)).extract 1 (S (k :: t)).size = S t := by
  rw [← S_L ((S (k :: t)).extract 1 (S (k :: t)).size), L_from, L_S]; rfl

theorem parse_bad {s : List UInt8} {k : UInt8} {t : List UInt8} (h : (Frm.dec s).err = 0) (ht : (Frm.dec s).r.text = k :: t) (hb : (Wr.rd t).2.2 ≠ 0 ∨ Sg.Top < (Wr.rd t).1) : Sg.parse s = (Sg.seg0, 7) := by
  refine Sg.parse_form h ht ?_
  rcases hb with hb | hb
  · exact .inl hb
  · refine .inr ?_
    cases hm : Sg.may k.toNat (Wr.rd t).1 (Frm.dec s).r.num (t.drop (Wr.rd t).2.1) with
    | false => rfl
    | true => obtain ⟨_, h2, _⟩ := Sg.may_parts hm; omega
/-- A head that was read is short. -/
theorem head_read {k : UInt8} {t : List UInt8} {g N : Nat} (h0 : (Wr.rd t).2.2 = 0) (h1 : (Wr.rd t).1 = g) (hl : (k :: t).length ≤ 65536) (hm : Sg.may k.toNat g N (t.drop (Wr.rd t).2.1) = true) : (Sg.head k.toNat g N (t.drop (Wr.rd t).2.1)).2 = 0 := by
  obtain ⟨r1, r2, r3, r4, r5⟩ := Wr.rd_ok t h0
  have e : (Sg.hText k.toNat g (t.drop (Wr.rd t).2.1)).length = (k :: t).length := by
    unfold Sg.hText
    rw [← h1, ← r1, List.take_append_drop]; rfl
  unfold Sg.head
  rw [if_neg (by rw [hm]; simp), if_neg (by omega)]
theorem lens_ge (l : List (List UInt8)) : 16 * l.length ≤ Frm.lens l := by
  induction l with
  | nil => simp
  | cons t r ih => simp only [Frm.lens, List.length_cons]; omega
theorem rrow_rows {w : World} {a : Option Addr} {cap : Nat} {rs : List Frm.Rec} (h : SliceIs w 52 2 a rs.length cap (rrow rs)) : RowIs w 2 a (rs.map rcells) := by
  refine h.rowIs _ ?_ (by simp)
  intro i hi
  have hi' : i < rs.length := by simpa using hi
  rw [List.getElem_map]
  exact rrow_at rs i hi'
theorem RowIs.upd {w w' : World} {size b : Nat} {a : Option Addr} {xs : List (List Value)} (h : RowIs w size a xs) (u : Upd w w' [b]) (hb : ∀ x ∈ blks a, b < x) : RowIs w' size a xs := fun i hi => by
  obtain ⟨g, off, rfl, hc⟩ := h i hi
  have := hb g (by simp [blks])
  exact ⟨g, off, rfl, hc.keep (u.keep g hc.lt (by simp; omega))⟩
theorem RowIs.recAt {w : World} {a : Option Addr} {l : List Frm.Rec} (h : RowIs w 2 a (l.map rcells)) (k : Nat) (hk : k < l.length) :
    ∃ g off, a = some ⟨g, off, none⟩ ∧ w.cell? ⟨g, off + k * 2, none⟩ = some (.int .u64 l[k].num) ∧ w.cell? ⟨g, off + k * 2 + 1, none⟩ = some (.string (S l[k].text)) ∧ g < w.heap.size := by
  obtain ⟨g, off, ha, hc⟩ := h k (by simpa using hk)
  rw [List.getElem_map] at hc
  exact ⟨g, off, ha, hc.cell 0 (by simp [rcells]), hc.cell 1 (by simp [rcells]), hc.lt⟩
/-- What Parse hands back of a segment. -/
theorem parse_fin {w wr W : World} {s T' : ByteArray} {k g N k1 cap1 Q : Nat} {a1 : Option Addr} {rl : List Frm.Rec} {b : Nat} (HP : Sg.parse (L s) = (⟨k, g, N, L T', Sg.upTo rl k1, Q, decide (Q = s.size)⟩, 0)) (hk : k1 ≤ rl.length)
    (HS : SliceIs wr 9 1 a1 k1 cap1 ((Sg.upTo rl k1).map fun t => .string (S t))) (HF : ∀ x ∈ blks a1, b < x) (hb : w.heap.size ≤ b) (HO : Own w.heap.size w wr) (hu : Upd wr W [b]) :
    ParseOut s w (.returned (.tuple #[.agg #[.int .u8 k, .int .u64 g, .int .u64 N, .string T', .slice a1 k1 cap1, .int .i64 Q, .bool (decide (Q = s.size))], .int .i64 0])) W := by
  have hS := HS.keep (w' := W) fun x hx => hu.keep x (HS.lt x hx) (by have := HF x hx; simp; omega)
  have hr := hS.rowIs1 (by rw [List.length_map, Sg.upTo_length rl k1 hk]; exact Nat.le_refl _)
  rw [List.map_map] at hr
  unfold ParseOut
  rw [HP]
  refine ⟨a1, cap1, ?_, hr, (HO.upd1 hu hb).below, fun x hx => by have := HF x hx; omega⟩
  simp only [S_L, Sg.upTo_length rl k1 hk]
  rfl
/-- What is behind the number: the text's end. -/
theorem tail_facts (k : UInt8) (t : List UInt8) (n : Nat) : (S (t.drop n)).size ≤ (S (k :: t)).size ∧ (n ≤ t.length → (S (k :: t)).extract ((S (k :: t)).size - (S (t.drop n)).size) (S (k :: t)).size = S (t.drop n)) := by
  rw [S_size, S_size, List.length_drop, List.length_cons]
  refine ⟨by omega, fun hn => ?_⟩
  have e : t.length + 1 = (S (k :: t)).size := by rw [S_size, List.length_cons]
  have e2 : t.length + 1 - (t.length - n) = n + 1 := by omega
  rw [e2, e, ← S_L ((S (k :: t)).extract (n + 1) (S (k :: t)).size), L_from, L_S]; rfl
theorem uRes_cases (t : List UInt8) : ∃ (g : Nat) (T' : ByteArray) (er : Nat), uRes (S t) Sg.Top = (g, T', er) ∧ g ≤ Sg.Top ∧ ((er ≠ 0 ∧ ((Wr.rd t).2.2 ≠ 0 ∨ Sg.Top < (Wr.rd t).1)) ∨ (er = 0 ∧ (Wr.rd t).2.2 = 0 ∧ (Wr.rd t).1 = g ∧ T' = S (t.drop (Wr.rd t).2.1))) := by
  unfold uRes
  rw [L_S]
  by_cases h : (Wr.rd t).2.2 = 0
  · rw [if_pos h]
    by_cases h1 : Sg.Top < (Wr.rd t).1
    · rw [if_pos h1]; exact ⟨0, _, 80, rfl, Nat.zero_le _, .inl ⟨by decide, .inr h1⟩⟩
    · rw [if_neg h1]
      exact ⟨_, _, 0, rfl, by omega, .inr ⟨rfl, h, rfl, by rw [← S_L ((S t).extract _ _), L_from, L_S]⟩⟩
  · rw [if_neg h]; exact ⟨0, _, _, rfl, Nat.zero_le _, .inl ⟨h, .inl h⟩⟩

set_option maxRecDepth 20000 in
set_option maxHeartbeats 8000000 in
theorem seg_parse (s : ByteArray) (w : World) (hs : s.size ≤ 1073741824) :
    Calls Try.prog 11 #[.string s] w (ParseOut s w) := by
  obtain ⟨i0, hi, hz0, hz1, hz2⟩ := info_parts strInfo
  have HS := Lib.hid hs
  have hsI : (0 : Int) ≤ s.size ∧ (s.size : Int) ≤ 1073741824 := by omega
  have HD := Lib.hid (fun w => frame_dec s w (by omega))
  have hO := Own.refl w
  clear hs
  go_enter Try.func11, Try.ntmps11
  go_wp2_with fail
  have hX : SBox (w.alloc (.cells #[.int .u8 0, .int .u64 0, .int .u64 0, .string ⟨#[]⟩, .slice none 0 0, .int .i64 0, .bool false] 28 (0, 0))) w.heap.size 0 0 0 ⟨#[]⟩ none 0 0 0 false := heap_alloc_new w _
  replace hO := hO.alloc (.cells #[.int .u8 0, .int .u64 0, .int .u64 0, .string ⟨#[]⟩, .slice none 0 0, .int .i64 0, .bool false] 28 (0, 0))
  refine (HD.out _).mono ?_
  rintro e w1 hd
  unfold DecOut at hd
  obtain ⟨rfl, hb1⟩ := hd
  have HX1 := Lib.hid (hX.keep (hb1.block _ (blk_lt hX)))
  have HO1 := Lib.hid (hO.trans hb1)
  have hge1 : w.heap.size < w1.heap.size := by have := hb1.size; simp at this; omega
  clear hX hO hb1 HD
  obtain ⟨c0, c1, c2, c3, c4, c5, c6, f0, f1, f2, f3, f4, f5, f6⟩ := HX1.out.facts
  by_cases h0 : (Frm.dec (L s)).err = 0
  · obtain ⟨d1, d2, d3, d4, d5⟩ := Frm.dec_ok (L s) h0
    have HDE := Lib.hid h0
    rw [h0]
    cases ht : (Frm.dec (L s)).r.text with
    | nil =>
      have HP := Lib.hid (Sg.parse_none h0 ht)
      rw [show S [] = (⟨#[]⟩ : ByteArray) from rfl]
      clear d1 d2 d3 d4 d5 h0 ht
      generalize (Frm.dec (L s)).r.num = N at *
      generalize (Frm.dec (L s)).used = U at *
      go_wp2_with fail
      refine bodyPost_ret (v := .tuple #[.agg #[.int .u8 0, .int .u64 0, .int .u64 0, .string ⟨#[]⟩, .slice none 0 0, .int .i64 0, .bool false], .int .i64 7]) (by simp [results, Try.results11, go_sem, c0, c1, c2, c3, c4, c5, c6, hge1]) rfl (parse_out0 HP.out _ _ ?_)
      exact ((((((((HO1.out.setCell (by simp) _).setCell (by simp) _).setCell (by simp) _).setCell (by simp) _).setCell (by simp) _).setCell (by simp) _).setCell (by simp) _).alloc _).below
    | cons k t =>
      have HT := Lib.hid ht
      have hne : (S (k :: t)).toList.isEmpty = false := by rw [ByteArray.toList_eq]; rfl
      have hsz : 1 ≤ (S (k :: t)).size := by rw [S_size]; simp
      have hex := str_extract0 k t
      have hget : ∀ hh : 0 < (S (k :: t)).size, (S (k :: t))[0]'hh = k := fun _ => rfl
      have dUI : (0 : Int) ≤ (Frm.dec (L s)).used ∧ ((Frm.dec (L s)).used : Int) ≤ s.size := by rw [L_size] at d3; omega
      have HD2 := Lib.hid d2
      have HD4 := Lib.hid d4
      have HD5 := Lib.hid d5
      have HDR : Hid (∀ V : ByteArray, L V = (L s).drop (Frm.dec (L s)).used → V.size ≤ 1073741824) := Lib.hid (fun V hV => by
        have := HS.out
        rw [← L_size, hV, List.length_drop, L_size]; omega)
      have HTS : Hid (t.length ≤ 65536) := Lib.hid (by rw [ht] at d4; simp at d4; omega)
      clear d1 d2 d3 d4 d5 ht h0
      have HTT := Lib.hid (rfl : S (k :: t) = S (k :: t))
      generalize hTT : S (k :: t) = T at hne hsz hex hget ⊢
      replace HTT := Lib.hid hTT
      clear hTT
      generalize hN : (Frm.dec (L s)).r.num = N at *
      replace hN := Lib.hid hN
      generalize hU : (Frm.dec (L s)).used = U at *
      replace hU := Lib.hid hU
      go_wp2_with fail
      refine (new_any _ _).mono ?_
      rintro e w2 ⟨rfl, hR, hb2, hlt2⟩
      have hX2 := HX1.out.keep (w' := w2) ((hb2.block _ (by simp; omega)).trans (Below.heap_alloc _ _ _ (blk_lt HX1.out)))
      have hH2 : w2.heap[w1.heap.size]? = some (.cells #[.int .u64 N, .string T] 52 (0, 0)) := by rw [hb2.block _ (by simp)]; exact heap_alloc_new w1 _
      have hO2 := (HO1.out.alloc _).trans hb2
      rw [World.size_alloc] at hR ⊢
      clear c0 c1 c2 c3 c4 c5 c6 f0 f1 f2 f3 f4 f5 f6 hb2 hlt2 HX1 HO1
      generalize w1.heap.size = h at *
      have HX2 := Lib.hid hX2
      have HH2 := Lib.hid hH2
      have HO2 := Lib.hid hO2
      obtain ⟨g, T', er, hur, hgt, hcase⟩ := uRes_cases t
      have hUR := fun wz (hz : RdIs wz (h + 1) (S t) 0) => uint_read wz (h + 1) (S t) Sg.Top (by have := HS.out; rw [S_size]; have := HTS.out; omega) hz
      rw [hur] at hUR
      have hTop : ((Sg.Top : Nat) : Int) = 281474976710656 := rfl
      rw [hTop] at hUR
      clear hTop
      have HUR := Lib.hid hUR
      have HCASE := Lib.hid hcase
      have HR2 : Hid (RdIs w2.drew (h + 1) (S t) 0) := Lib.hid hR
      obtain ⟨c0, c1, c2, c3, c4, c5, c6, f0, f1, f2, f3, f4, f5, f6⟩ := HX2.out.facts
      obtain ⟨e0, e1, g0, g1⟩ := rec_cells HH2.out
      have hgI : (0 : Int) ≤ g ∧ (g : Int) ≤ 281474976710656 := by unfold Sg.Top at hgt; omega
      clear hX2 hH2 hO2 hR hUR hur hcase hgt
      go_upto_region 7 with (fail)
      go_cut [40] (fun _ wx => SBox wx w.heap.size k.toNat g N ⟨#[]⟩ none 0 0 U false ∧ wx.heap[h]? = some (.cells #[.int .u64 N, .string T] 52 (0, 0)) ∧ RdIs wx (h + 1) T' er ∧ Own w.heap.size w wx)
      case first =>
        have hneX : h ≠ w.heap.size := by omega
        go_region_held3 (fun w' => w'.cell? ⟨h, 0, none⟩ = some (.int .u64 N) ∧ w'.cell? ⟨h, 1, none⟩ = some (.string T)) (first | (with_reducible exact ⟨e0, e1⟩) | (with_reducible exact ⟨e0', e1'⟩) | (with_reducible exact ⟨cell_set7 e0' hneX, cell_set7 e1' hneX⟩) | exact ⟨e0, e1⟩)
          (first
          | (go_at_call 19
             (with_reducible refine (HUR.out _ HR2.out).mono ?_)
             rintro e w3 ⟨rfl, hR3, hU3⟩
             have hX3 := HX2.out.keep (hU3.keep _ (blk_lt HX2.out) (by simp; omega))
             have hH3 := (hU3.keep _ (blk_lt HH2.out) (by simp)).trans HH2.out
             obtain ⟨e0', e1', g0', g1'⟩ := rec_cells hH3
             obtain ⟨c0', c1', c2', c3', c4', c5', c6', f0', f1', f2', f3', f4', f5', f6'⟩ := hX3.facts
             have HX3 := Lib.hid hX3
             have HH3 := Lib.hid hH3
             have HR3 := Lib.hid hR3
             have HO3 := Lib.hid (HO2.out.drew.upd1 hU3 (by omega))
             clear hX3 hH3 hR3 hU3))
        all_goals
          go_wp2_with fail
          go_meet
          have hu := upd_set7 w3 w.heap.size (.int .u8 k.toNat) (.int .u64 g) (.int .u64 N) (.string ⟨#[]⟩) (.slice none 0 0) (.int .i64 U) (.bool false)
          exact ⟨HX3.out.all _ _ _ _ _ _ _ _ _, (hu.keep _ (blk_lt HH3.out) (by simpa using hneX)).trans HH3.out, HR3.out.keep (hu.keep _ (blk_lt HR3.out) (by simp; omega)), HO3.out.upd1 hu (Nat.le_refl _)⟩
      case rest =>
        obtain ⟨hX, hH, hR, hO⟩ := hcut
        clear HX2 HH2 HO2 HR2 HUR c0 c1 c2 c3 c4 c5 c6 f0 f1 f2 f3 f4 f5 f6 e0 e1 g0 g1
        obtain ⟨c0, c1, c2, c3, c4, c5, c6, f0, f1, f2, f3, f4, f5, f6⟩ := hX.facts
        obtain ⟨e0, e1, g0, g1⟩ := rec_cells hH
        have HX := Lib.hid hX
        have HH := Lib.hid hH
        have HR := Lib.hid hR
        have HO := Lib.hid hO
        clear hX hH hR hO
        go_wp2_with fail
        refine (err_any _ _ _ _ HR.out).mono ?_
        rintro e w3 ⟨rfl, hw3⟩
        subst w3
        rcases HCASE.out with ⟨hne0, hbad⟩ | ⟨rfl, h1, h2, h3⟩
        · have HP := Lib.hid (parse_bad HDE.out HT.out hbad)
          have hE : ((er : Int) == 0) = false := by rw [beq_eq_false_iff_ne]; omega
          clear hne0 hbad
          go_wp2_with fail
          refine bodyPost_ret (v := .tuple #[.agg #[.int .u8 0, .int .u64 0, .int .u64 0, .string ⟨#[]⟩, .slice none 0 0, .int .i64 0, .bool false], .int .i64 7]) (by simp [results, Try.results11, go_sem, c0, c1, c2, c3, c4, c5, c6]) rfl (parse_out0 HP.out _ _ ?_)
          exact (((((((HO.out.setCell (by simp) _).setCell (by simp) _).setCell (by simp) _).setCell (by simp) _).setCell (by simp) _).setCell (by simp) _).setCell (by simp) _).below
        · have HRD1 := Lib.hid h1
          have HRD2 := Lib.hid h2
          obtain ⟨r1, r2, r3, r4, r5⟩ := Wr.rd_ok t h1
          obtain ⟨tf1, tf2⟩ := tail_facts k t (Wr.rd t).2.1
          have tf3 := tf2 r3
          rw [← h3, HTT.out] at tf1 tf3
          have HT3 := Lib.hid h3
          have hTsz : T.size ≤ 65537 := by have := HTS.out; rw [← HTT.out, S_size, List.length_cons]; omega
          have htI : (0 : Int) ≤ T'.size ∧ (T'.size : Int) ≤ T.size ∧ (T.size : Int) ≤ 65537 := by omega
          obtain ⟨q, hq⟩ : ∃ q, q = T.size - T'.size := ⟨_, rfl⟩
          rw [← hq] at tf3
          have hsub : (T.size : Int) - (T'.size : Int) = (q : Int) := by omega
          have hqw : IntKind.i64.wrap (q : Int) = (q : Int) := IntWalk.i64_in _ (by omega)
          have hqI : (0 : Int) ≤ q ∧ (q : Int) ≤ T.size := by omega
          have hqN : q ≤ T.size := by omega
          clear hq
          clear h1 h2 h3 r1 r2 r3 r4 r5 tf1 tf2 hTsz HCASE
          go_upto_region 10 with (fail)
          go_cut [53] (fun _ wx => SBox wx w.heap.size k.toNat g N T' none 0 0 U false ∧ wx.heap[h]? = some (.cells #[.int .u64 N, .string T] 52 (0, 0)) ∧ Own w.heap.size w wx)
          case first =>
            have hneX : h ≠ w.heap.size := by omega
            have HRW : Hid (RdIs wc.drew (h + 1) T' 0) := Lib.hid HR.out
            go_region_held3 (fun w' => w'.cell? ⟨h, 1, none⟩ = some (.string T)) (first | (with_reducible exact e1) | (exact (World.cell?_setCell_far _ _ _ _ (Ne.symm hneX)).trans e1) | exact e1)
              (first
              | (go_at_call 21
                 (with_reducible refine (left_any _ _ _ _ HRW.out).mono ?_)
                 rintro e w3 ⟨rfl, hw3⟩
                 subst w3))
            all_goals
              go_wp2_with fail
              go_meet
              exact ⟨SBox.text (w := wc.drew) HX.out T', (Below.heap_setCell _ _ _ _ (by simpa using hneX)).trans HH.out, HO.out.drew.setCell (Nat.le_refl _) _⟩
          case rest =>
            obtain ⟨hX, hH, hO⟩ := hcut
            clear HX HH HR HO c0 c1 c2 c3 c4 c5 c6 f0 f1 f2 f3 f4 f5 f6 e0 e1 g0 g1 tf3 hsub hqw hqI hqN
            obtain ⟨c0, c1, c2, c3, c4, c5, c6, f0, f1, f2, f3, f4, f5, f6⟩ := hX.facts
            have HX := Lib.hid hX
            have HO := Lib.hid hO
            have HD5 := HD5.out
            have HHD := Lib.hid (fun wz => seg_head wz k.toNat g N T' (by have := k.toNat_lt; omega) (by omega) (by unfold Frm.M64 at HD5; omega) (by omega))
            clear hX hH hO HD5
            go_wp2_with fail
            refine (HHD.out _).mono ?_
            rintro e w4 ⟨rfl, hb4⟩
            have HX4 := Lib.hid (HX.out.keep (hb4.block _ (blk_lt HX.out)))
            have HO4 := Lib.hid (HO.out.trans hb4)
            clear c0 c1 c2 c3 c4 c5 c6 f0 f1 f2 f3 f4 f5 f6 HX HO hb4
            obtain ⟨c0, c1, c2, c3, c4, c5, c6, f0, f1, f2, f3, f4, f5, f6⟩ := HX4.out.facts
            cases hm : Sg.may k.toNat g N (L T') with
            | false =>
              rw [head_no hm]
              have HP : Hid (Sg.parse (L s) = (Sg.seg0, 7)) := Lib.hid (Sg.parse_form HDE.out HT.out (.inr (by rw [HRD2.out, hN.out]; rw [HT3.out, L_S] at hm; exact hm)))
              clear hm
              go_wp2_with fail
              refine bodyPost_ret (v := .tuple #[.agg #[.int .u8 0, .int .u64 0, .int .u64 0, .string ⟨#[]⟩, .slice none 0 0, .int .i64 0, .bool false], .int .i64 7]) (by simp [results, Try.results11, go_sem, c0, c1, c2, c3, c4, c5, c6]) rfl (parse_out0 HP.out _ _ ?_)
              exact (((((((HO4.out.setCell (by simp) _).setCell (by simp) _).setCell (by simp) _).setCell (by simp) _).setCell (by simp) _).setCell (by simp) _).setCell (by simp) _).below
            | true =>
              have hz : (Sg.head k.toNat g N (L T')).2 = 0 := by
                rw [HT3.out, L_S] at hm ⊢
                exact head_read HRD1.out HRD2.out (by rw [← HT.out]; exact HD4.out) hm
              rw [hz]
              generalize (Sg.head k.toNat g N (L T')).1 = hb
              have HM := Lib.hid hm
              have hV : L (s.extract U s.size) = (L s).drop U := L_from s U
              have hVz := HDR.out _ hV
              have HV := Lib.hid hV
              have hD5 := HD5.out
              have HSC := Lib.hid (fun wz => frame_scan (s.extract U s.size) N wz hVz (by unfold Frm.M64 at hD5; exact hD5))
              obtain ⟨z1, z2⟩ := Sg.scan_sizes _ (L (s.extract U s.size)) N (Nat.le_refl _)
              have HZ1 := Lib.hid z1
              have HZ2 := Lib.hid z2
              have hUN : U ≤ s.size := by omega
              have HVZ := Lib.hid hVz
              clear hm hz hV hVz hD5 z1 z2
              generalize hVV : s.extract U s.size = V at *
              replace hVV := Lib.hid hVV
              generalize hrs : Frm.scan (L V) N = rs at *
              replace hrs := Lib.hid hrs
              go_upto_region 14 with (fail)
              go_cut [9] (fun v wx => ∃ a cap, v = .slice a rs.1.length cap ∧ RowIs wx 2 a (rs.1.map rcells) ∧ SBox wx w.heap.size k.toNat g N T' none 0 0 U false ∧ Own w.heap.size w wx ∧ ∀ x ∈ blks a, w.heap.size < x)
              case first =>
                have hvv := hVV.out
                go_region_held3 (fun w' => w'.cell? ⟨w.heap.size, 2, none⟩ = some (.int .u64 N)) (first | (with_reducible exact c2) | (with_reducible exact c2') | exact c2)
                  (first
                  | (go_at_call 22
                     (with_reducible refine (HSC.out _).mono ?_)
                     intro e w5 hsc
                     unfold ScanOut at hsc
                     rw [hrs.out] at hsc
                     obtain ⟨a, cap, rfl, hS5, hb5, hf5⟩ := hsc
                     have hX5 := HX4.out.keep (w' := w5) (hb5.block _ (blk_lt HX4.out))
                     have c2' := hX5.facts.2.2.1
                     have HX5 := Lib.hid hX5
                     have HO5 := Lib.hid (HO4.out.drew.trans hb5)
                     have HS5 := Lib.hid (rrow_rows hS5)
                     have HF5 := Lib.hid hf5
                     clear hX5 hb5 hS5 hf5))
                all_goals
                  go_wp2_with fail
                  go_meet
                  have hlx := blk_lt HX4.out
                  exact ⟨a, cap, rfl, HS5.out, HX5.out, HO5.out, fun x hx => by have := HF5.out x hx; simp at this; omega⟩
              case rest =>
                obtain ⟨a, cap, rfl, hrow, hX, hO, hfr⟩ := hcut
                obtain ⟨rl, ru, re⟩ := rs
                simp only at hrow HZ1 HZ2
                have HFIN : Hid (∀ k1, k1 ≤ rl.length → (∀ i (h : i < k1) (h2 : i < rl.length), rl[i].num ≤ Sg.Top) → (k1 = rl.length ∨ ∃ h : k1 < rl.length, Sg.Top < rl[k1].num) →
                    Sg.parse (L s) = (⟨k.toNat, g, N, L T', Sg.upTo rl k1, U + Frm.lens (Sg.upTo rl k1), decide (U + Frm.lens (Sg.upTo rl k1) = s.size)⟩, 0)) := Lib.hid (by
                  intro k1 h1 h2 h3
                  have hm := HM.out
                  rw [HT3.out, L_S] at hm
                  rw [Sg.parse_ok HDE.out HT.out HRD1.out (by rw [HRD2.out, hN.out]; exact hm), HRD2.out, hN.out, hU.out, ← HV.out, hrs.out, Sg.kept_upTo rl k1 h1 (fun i hi => h2 i hi (by omega)) h3, HT3.out, L_S, L_size])
                have hlg := lens_ge (rl.map (·.text))
                rw [List.length_map] at hlg
                have hz2 := HZ2.out
                rw [L_size] at hz2
                have hlI : (0 : Int) ≤ rl.length ∧ (rl.length : Int) ≤ 67108864 := by have := HVZ.out; omega
                have HLN := Lib.hid (show rl.length ≤ 67108864 by omega)
                have HLU : Hid (∀ k1, U + Frm.lens (Sg.upTo rl k1) ≤ 2147483648) := Lib.hid (fun k1 => by have := Sg.lens_upTo_le rl k1; have := HVZ.out; have := HS.out; omega)
                have HROW := Lib.hid hrow
                have HX5 := Lib.hid hX
                have HO5 := Lib.hid hO
                have HFR := Lib.hid hfr
                have HWC := Lib.hid (blk_lt hX)
                clear hrow hX hO hfr hlg hz2 HX4 HO4 c0 c1 c2 c3 c4 c5 c6 f0 f1 f2 f3 f4 f5 f6 HSC HHD htI hgI hge1 hne hsz hex hget hUN
                go_wp2_with fail
                go_loopw [82] (fun vi wr => ∃ (k1 : Nat) (a1 : Option Addr) (cap1 : Nat), k1 ≤ rl.length ∧ vi = .int .i64 k1 ∧ (∀ i (h : i < k1) (h2 : i < rl.length), rl[i].num ≤ Sg.Top) ∧ SBox wr w.heap.size k.toNat g N T' a1 k1 cap1 ((U + Frm.lens (Sg.upTo rl k1) : Nat) : Int) false ∧ SliceIs wr 9 1 a1 k1 cap1 ((Sg.upTo rl k1).map fun t => .string (S t)) ∧ (∀ x ∈ blks a1, wc.heap.size ≤ x) ∧ Own w.heap.size w wr ∧ Upd wc wr [w.heap.size]) (fun vi _ => rl.length - (intOf vi).toNat)
                case atStart => exact ⟨0, none, 0, Nat.zero_le _, rfl, (fun i h => by omega), HX5.out, SliceIs.nil _ _ _, by simp [blks], HO5.out, Upd.refl _ _⟩
                case round =>
                  clear HX5 HO5
                  obtain ⟨k1, a1, cap1, hk1, rfl, hall, hX, hS, hf1, hO, hU1⟩ := hrel
                  have HALL := Lib.hid hall
                  have HX := Lib.hid hX
                  have HSL := Lib.hid hS
                  have HF1 := Lib.hid hf1
                  have HO := Lib.hid hO
                  have HU1 := Lib.hid hU1
                  have hbw := blk_lt hX
                  have hlu := HLU.out k1
                  have hqI : (0 : Int) ≤ ((U + Frm.lens (Sg.upTo rl k1) : Nat) : Int) ∧ ((U + Frm.lens (Sg.upTo rl k1) : Nat) : Int) ≤ 2147483648 := by omega
                  clear hall hX hS hf1 hO hU1 hlu
                  obtain ⟨c0, c1, c2, c3, c4, c5, c6, f0, f1, f2, f3, f4, f5, f6⟩ := HX.out.facts
                  by_cases hlt : k1 < rl.length
                  · obtain ⟨ga, off, ha, r0, r1, rlt⟩ := (HROW.out.upd HU1.out HFR.out).recAt k1 hlt
                    obtain ⟨z1, z3⟩ := HZ1.out rl[k1] (List.getElem_mem hlt)
                    have hkI : (0 : Int) ≤ k1 ∧ (k1 : Int) < rl.length := by omega
                    subst ha
                    by_cases hbig : Sg.Top < rl[k1].num
                    · have HP := Lib.hid (HFIN.out k1 hk1 HALL.out (.inr ⟨hlt, hbig⟩))
                      have hbI : (281474976710656 : Int) < (rl[k1].num : Nat) := by unfold Sg.Top at hbig; omega
                      generalize hQ : U + Frm.lens (Sg.upTo rl k1) = Q at *
                      have hEq : ((Q : Int) == (s.size : Int)) = decide (Q = s.size) := by rw [Bool.eq_iff_iff, beq_iff_eq, decide_eq_true_iff]; omega
                      clear hQ z1 z3 hbig
                      generalize rl[k1].num = yn at *
                      generalize S rl[k1].text = yt at *
                      go_wp2_with fail
                      refine bodyPost_ret (v := .tuple #[.agg #[.int .u8 k.toNat, .int .u64 g, .int .u64 N, .string T', .slice a1 k1 cap1, .int .i64 Q, .bool (decide (Q = s.size))], .int .i64 0]) (by simp [results, Try.results11, go_sem, c0, c1, c2, c3, c4, c5, c6, hbw]) rfl (parse_fin HP.out (by omega) HSL.out (fun x hx => Nat.lt_of_lt_of_le HWC.out (HF1.out x hx)) (Nat.le_refl _) HO.out (Upd.alloc (((((((((Upd.refl wr [w.heap.size]).setCell (by simp) _).setCell (by simp) _).setCell (by simp) _).setCell (by simp) _).setCell (by simp) _).setCell (by simp) _).setCell (by simp) _).setCell (by simp) _) _))
                    · have hbI : ((rl[k1].num : Nat) : Int) ≤ 281474976710656 := by unfold Sg.Top at hbig; omega
                      have HALL1 : Hid (∀ i (h : i < k1 + 1) (h2 : i < rl.length), rl[i].num ≤ Sg.Top) := Lib.hid (fun i h h2 => by
                        rcases Nat.lt_or_ge i k1 with h3 | h3
                        · exact HALL.out i h3 h2
                        · obtain rfl : i = k1 := by omega
                          omega)
                      have HUP := Lib.hid (Sg.upTo_succ rl k1 hlt)
                      have HLP := Lib.hid (Sg.lens_upTo_succ rl k1 hlt)
                      have hys : (S rl[k1].text).size ≤ 65536 := by rw [S_size]; exact z1
                      have HSZ := Lib.hid (fun wz => frame_size (S rl[k1].text) wz hys)
                      have hln := HLN.out
                      have hsz : (S rl[k1].text).size = rl[k1].text.length := S_size _
                      generalize rl[k1].num = yn at *
                      generalize hyt : S rl[k1].text = yt at *
                      have HYT := Lib.hid hyt
                      have HYS := Lib.hid hsz
                      have hyI : (0 : Int) ≤ yt.size ∧ (yt.size : Int) ≤ 65536 := by omega
                      obtain ⟨b', cp', w3, hr, hS3, hU3, hbk3⟩ := run_append_slice (P := Try.prog) ((wr.alloc (.cells #[.int .u64 yn, .string yt] 52)).alloc (.cells #[.string yt] 9)) 26 26 9 i0 (.string ⟨#[]⟩) 1 16 Try.underlying26 hi hz0 hz1 hz2 rfl (by decide) a1 k1 cap1 _ ((HSL.out.alloc _).alloc _) ⟨wr.heap.size + 1, 0, none⟩ 1 1 [.string yt] rfl (by
                          intro j u hj
                          match j, hj with
                          | 0, hj => simp at hj; subst hj; simp [Addr.add])
                        (by intro u hu; simp at hu; subst hu; rfl) (by unfold maxLen; omega) (by omega)
                      change (appSem _ _ _).run _ _ = _ at hr
                      have hXa : SBox ((wr.alloc (.cells #[.int .u64 yn, .string yt] 52)).alloc (.cells #[.string yt] 9)) w.heap.size k.toNat g N T' a1 k1 cap1 ((U + Frm.lens (Sg.upTo rl k1) : Nat) : Int) false := HX.out.keep ((Below.heap_alloc _ _ _ (by simp; omega)).trans (Below.heap_alloc _ _ _ hbw))
                      have hX3 := hXa.keep (hU3.keep _ (blk_lt hXa) (fun hx => by have := HF1.out _ hx; have := HWC.out; omega))
                      have hYa : ((wr.alloc (.cells #[.int .u64 yn, .string yt] 52)).alloc (.cells #[.string yt] 9)).heap[wr.heap.size]? = some (.cells #[.int .u64 yn, .string yt] 52 (0, 0)) := (Below.heap_alloc _ _ _ (by simp)).trans (heap_alloc_new wr _)
                      have hY3 := (hU3.keep _ (blk_lt hYa) (fun hx => by have := HSL.out.lt _ hx; omega)).trans hYa
                      obtain ⟨x0, x1, x2, x3, x4, x5, x6, y0, y1, y2, y3, y4, y5, y6⟩ := hX3.facts
                      obtain ⟨p0, p1, q0, q1⟩ := rec_cells hY3
                      have HX3 := Lib.hid hX3
                      have HS3 := Lib.hid hS3
                      have HU3 := Lib.hid hU3
                      have HB3 := Lib.hid hbk3
                      have hne3 : wr.heap.size ≠ w.heap.size := by omega
                      clear hyt hsz z1 z3 hbig hys hln hXa hX3 hYa hY3 hS3 hU3 hbk3
                      go_upto_region 20 with fail
                      have hX4 := HX3.out.recs b' (k1 + 1) cp'
                      have hS4 := HS3.out.keep (w' := w3.setCell ⟨w.heap.size, 4, none⟩ (.slice b' (k1 + 1) cp')) fun x hx => Below.heap_setCell _ _ _ _ (by
                        rcases HB3.out x hx with h | h
                        · have := HF1.out _ h; have := HWC.out; simp only; omega
                        · simp at h; simp only; omega)
                      have hu4 := ((((HU1.out.alloc (.cells #[.int .u64 yn, .string yt] 52)).alloc (.cells #[.string yt] 9)).trans HU3.out (fun x hx => .inr (HF1.out x hx)))).setCell (p := ⟨w.heap.size, 4, none⟩) (by simp) (.slice b' (k1 + 1) cp')
                      have ho4 := ((((HO.out.alloc (.cells #[.int .u64 yn, .string yt] 52)).alloc (.cells #[.string yt] 9)).upd HU3.out (fun x hx => by have := HF1.out x hx; have := HWC.out; omega))).setCell (p := ⟨w.heap.size, 4, none⟩) (Nat.le_refl _) (.slice b' (k1 + 1) cp')
                      have hf4 : ∀ x ∈ blks b', wc.heap.size ≤ x := fun x hx => by
                        rcases HB3.out x hx with h | h
                        · exact HF1.out _ h
                        · have := HU1.out.size; simp at h; omega
                      have hp1 : (w3.setCell ⟨w.heap.size, 4, none⟩ (.slice b' (k1 + 1) cp')).cell? ⟨wr.heap.size, 1, none⟩ = some (.string yt) := (World.cell?_setCell_far _ _ _ _ (Ne.symm hne3)).trans p1
                      clear x0 x1 x2 x3 x4 x5 x6 y0 y1 y2 y3 y4 y5 y6 p0 p1 q0 q1 hr HX3 HS3 HU3 HB3
                      generalize w3.setCell ⟨w.heap.size, 4, none⟩ (.slice b' (k1 + 1) cp') = w4 at *
                      obtain ⟨x0, x1, x2, x3, x4, x5, x6, y0, y1, y2, y3, y4, y5, y6⟩ := hX4.facts
                      have HX4 := Lib.hid hX4
                      have HS4 := Lib.hid hS4
                      have HU4 := Lib.hid hu4
                      have HO4 := Lib.hid ho4
                      have HF4 := Lib.hid hf4
                      have hadd : ((U + Frm.lens (Sg.upTo rl k1) : Nat) : Int) + ((16 + yt.size : Nat) : Int) = ((U + Frm.lens (Sg.upTo rl (k1 + 1)) : Nat) : Int) := by have := HLP.out; have := HYS.out; omega
                      have hle := HLU.out (k1 + 1)
                      have hqI2 : (0 : Int) ≤ ((U + Frm.lens (Sg.upTo rl (k1 + 1)) : Nat) : Int) ∧ ((U + Frm.lens (Sg.upTo rl (k1 + 1)) : Nat) : Int) ≤ 2147483648 := by omega
                      have hwr : IntKind.i64.wrap ((U + Frm.lens (Sg.upTo rl (k1 + 1)) : Nat) : Int) = ((U + Frm.lens (Sg.upTo rl (k1 + 1)) : Nat) : Int) := IntWalk.i64_in _ (by omega)
                      clear hX4 hS4 hu4 ho4 hf4 hle
                      generalize hQ1 : U + Frm.lens (Sg.upTo rl k1) = Q1 at *
                      generalize hQ2 : U + Frm.lens (Sg.upTo rl (k1 + 1)) = Q2 at *
                      have HQ2 := Lib.hid hQ2
                      generalize hZ : 16 + yt.size = Z at *
                      clear hQ1 hQ2 hZ
                      go_region_with (go_at_call 23; (with_reducible refine (HSZ.out _).mono ?_); rintro e w5 ⟨rfl, hw5⟩; subst w5)
                      all_goals
                        go_wp2_with fail
                        go_roundw
                        case rel =>
                          refine ⟨k1 + 1, b', cp', by omega, by go_num, HALL1.out, ?_, ?_, HF4.out, (HO4.out.setCell (Nat.le_refl _) _).drew, (HU4.out.setCell (by simp) _).drew⟩
                          · rw [HQ2.out]; exact HX4.out.used _
                          · rw [HUP.out, List.map_append]
                            have h := HS4.out.keep (w' := (w4.setCell ⟨w.heap.size, 5, none⟩ (.int .i64 Q2)).drew) fun x hx => Below.heap_setCell _ _ _ _ (by have := HF4.out x hx; have := HWC.out; simp only; omega)
                            rw [← HYT.out] at h
                            exact h
                        case measure => simp [intOf]; omega
                  · obtain rfl : k1 = rl.length := by omega
                    have HP := Lib.hid (HFIN.out rl.length (Nat.le_refl _) HALL.out (.inl rfl))
                    generalize hQ : U + Frm.lens (Sg.upTo rl rl.length) = Q at *
                    have hEq : ((Q : Int) == (s.size : Int)) = decide (Q = s.size) := by rw [Bool.eq_iff_iff, beq_iff_eq, decide_eq_true_iff]; omega
                    clear hQ
                    go_wp2_with fail
                    refine bodyPost_ret (v := .tuple #[.agg #[.int .u8 k.toNat, .int .u64 g, .int .u64 N, .string T', .slice a1 rl.length cap1, .int .i64 Q, .bool (decide (Q = s.size))], .int .i64 0]) (by simp [results, Try.results11, go_sem, c0, c1, c2, c3, c4, c5, c6]) rfl (parse_fin HP.out (by omega) HSL.out (fun x hx => Nat.lt_of_lt_of_le HWC.out (HF1.out x hx)) (Nat.le_refl _) HO.out (((((((((Upd.refl wr [w.heap.size]).setCell (by simp) _).setCell (by simp) _).setCell (by simp) _).setCell (by simp) _).setCell (by simp) _).setCell (by simp) _).setCell (by simp) _).setCell (by simp) _))
  · have HP := Lib.hid (Sg.parse_err rfl h0)
    generalize (Frm.dec (L s)).err = E at *
    have hE : ((E : Int) == 0) = false := by rw [beq_eq_false_iff_ne]; omega
    generalize (Frm.dec (L s)).r.num = N at *
    generalize (Frm.dec (L s)).used = U at *
    generalize S (Frm.dec (L s)).r.text = T at *
    clear h0
    go_wp2_with fail
    refine bodyPost_ret (v := .tuple #[.agg #[.int .u8 0, .int .u64 0, .int .u64 0, .string ⟨#[]⟩, .slice none 0 0, .int .i64 0, .bool false], .int .i64 E]) (by simp [results, Try.results11, go_sem, c0, c1, c2, c3, c4, c5, c6, hge1]) rfl (parse_out0 HP.out _ _ ?_)
    exact ((((((((HO1.out.setCell (by simp) _).setCell (by simp) _).setCell (by simp) _).setCell (by simp) _).setCell (by simp) _).setCell (by simp) _).setCell (by simp) _).alloc _).below

end Go.Proofs.Ytboplbcfoooenaa
