/-
  THE WALK of segment.Bytes.
-/
import Derived.Test.YtdohhbilchdigaaSegNext
namespace Go.Proofs.Ytdohhbilchdigaa
open Go.RowKit

attribute [local go_sem ↓ high] appSem_eq

theorem keep_cell {w w' : World} {B b k : Nat} {v : Value} (hb : Below B w w') (h : w.cell? ⟨b, k, none⟩ = some v) (hl : b < B) : w'.cell? ⟨b, k, none⟩ = some v := by
  rw [hb.cell hl]; exact h
/-- What may be of a segment that a statement looks at. -/
structure okS (x : Sx) : Prop where
  kind : x.kind < 256
  gen : x.gen < 18446744073709551616
  first : x.first < 18446744073709551616
  n : x.recs.length ≤ 60
  sz : x.t.size + sizes x.recs ≤ 8192
/-- A segment in a box. -/
def SegBox (w : World) (b : Nat) (x : Sx) (a : Option Addr) (cap : Nat) : Prop := w.heap[b]? = some (.cells #[.int .u8 x.kind, .int .u64 x.gen, .int .u64 x.first, .string x.t, .slice a x.recs.length cap, .int .i64 x.used, .bool x.whole] 28 (0, 0))
theorem SegBox.keep {w w' : World} {b : Nat} {x : Sx} {a : Option Addr} {cap : Nat} (h : SegBox w b x a cap) (hb : Below w.heap.size w w') : SegBox w' b x a cap := (hb.block b (blk_lt h)).trans h
theorem SegBox.facts {w : World} {b : Nat} {x : Sx} {a : Option Addr} {cap : Nat} (h : SegBox w b x a cap) :
    w.cell? ⟨b, 0, none⟩ = some (.int .u8 x.kind) ∧ w.cell? ⟨b, 1, none⟩ = some (.int .u64 x.gen) ∧ w.cell? ⟨b, 2, none⟩ = some (.int .u64 x.first) ∧ w.cell? ⟨b, 3, none⟩ = some (.string x.t) ∧
    w.cell? ⟨b, 4, none⟩ = some (.slice a x.recs.length cap) ∧ w.cell? ⟨b, 5, none⟩ = some (.int .i64 x.used) ∧ w.cell? ⟨b, 6, none⟩ = some (.bool x.whole) ∧ b < w.heap.size := by
  refine ⟨?_, ?_, ?_, ?_, ?_, ?_, ?_, blk_lt h⟩
  all_goals rw [cell_of_row w b _ _ _ _ h]; rfl

theorem bytes_no {x : Sx} (h : Sg.may x.kind x.gen x.first (L x.t) = false) : Sg.bytes x.seg = ([], 2) := by
  unfold Sg.bytes
  have e : Sg.head x.seg.kind x.seg.gen x.seg.first x.seg.text = ([], 2) := head_no h
  rw [e]; rfl
theorem head_yes {x : Sx} (ok : okS x) (h : Sg.may x.kind x.gen x.first (L x.t) = true) : Sg.head x.kind x.gen x.first (L x.t) = (Frm.enc x.first (Sg.hText x.kind x.gen (L x.t)), 0) ∧ (Sg.hText x.kind x.gen (L x.t)).length ≤ 9000 := by
  have hu : (Wr.uv x.gen).length ≤ 10 := Wr.uvF_length 10 _
  have hl : (Sg.hText x.kind x.gen (L x.t)).length ≤ 9000 := by have := ok.sz; simp [Sg.hText, L_size]; omega
  refine ⟨?_, hl⟩
  unfold Sg.head
  rw [if_neg (by rw [h]; simp), if_neg (by omega)]
theorem bytes_big {x : Sx} (ok : okS x) (h : Sg.may x.kind x.gen x.first (L x.t) = true) (hb : Sg.Top < x.first + x.recs.length - 1) : Sg.bytes x.seg = ([], 2) := by
  unfold Sg.bytes
  have e : Sg.head x.seg.kind x.seg.gen x.seg.first x.seg.text = _ := (head_yes ok h).1
  rw [e, if_neg (by simp), if_pos (by simpa [Sx.seg] using hb)]
theorem short_ok {x : Sx} (ok : okS x) : Sg.short (x.recs.map L) = true := by
  unfold Sg.short
  simp only [List.all_map, List.all_eq_true, Function.comp, decide_eq_true_eq]
  intro t ht
  have h1 := size_le_sizes x.recs t ht
  have := ok.sz
  rw [L_size]; omega
theorem bytes_yes {x : Sx} (ok : okS x) (h : Sg.may x.kind x.gen x.first (L x.t) = true) (hb : ¬ Sg.Top < x.first + x.recs.length - 1) :
    Sg.bytes x.seg = (Frm.enc x.first (Sg.hText x.kind x.gen (L x.t)) ++ Frm.bytes (Frm.recs (x.recs.map L) x.first), 0) := by
  unfold Sg.bytes
  have e : Sg.head x.seg.kind x.seg.gen x.seg.first x.seg.text = _ := (head_yes ok h).1
  have e2 : Sg.short x.seg.recs = true := short_ok ok
  rw [e, if_neg (by simp), if_neg (by simpa [Sx.seg] using hb), if_neg (by rw [e2]; simp)]
  rfl
theorem lens_sizes (l : List ByteArray) : Frm.lens (l.map L) = 16 * l.length + sizes l := by
  induction l with
  | nil => rfl
  | cons t r ih => simp only [List.map_cons, Frm.lens, sizes, List.sum_cons, List.length_cons, ih, L_size]; omega
/-- What has been written, of so many records. -/
def segUp (x : Sx) (k : Nat) : List UInt8 := Frm.enc x.first (Sg.hText x.kind x.gen (L x.t)) ++ Frm.bytes (Frm.recs ((x.recs.take k).map L) x.first)
theorem segUp_length {x : Sx} (ok : okS x) (h : Sg.may x.kind x.gen x.first (L x.t) = true) (k : Nat) : (segUp x k).length ≤ 100000 := by
  unfold segUp
  have h1 := (head_yes ok h).2
  have h2 := sizes_take_le x.recs k
  have := ok.n
  have := ok.sz
  rw [List.length_append, Frm.enc_length, Frm.bytes_length, lens_sizes, List.length_take]; omega
theorem segUp_succ {x : Sx} (hf : x.first < Frm.M64) (k : Nat) (hk : k < x.recs.length) : segUp x (k + 1) = segUp x k ++ Frm.enc ((x.first + k) % Frm.M64) (L x.recs[k]) := by
  unfold segUp
  rw [List.take_succ_eq_append_getElem hk, List.map_append, List.map_cons, List.map_nil, Frm.bytes_snoc _ _ _ hf, List.length_map, List.length_take, Nat.min_eq_left (by omega), List.append_assoc]

set_option maxRecDepth 20000 in
set_option maxHeartbeats 1000000 in
theorem seg_bytes (w : World) (x : Sx) (a : Option Addr) (cap : Nat) (ok : okS x) (hr : RowIs w 1 a (x.recs.map tcell)) :
    Calls Try.prog 14 #[.agg #[.int .u8 x.kind, .int .u64 x.gen, .int .u64 x.first, .string x.t, .slice a x.recs.length cap, .int .i64 x.used, .bool x.whole]] w fun e w' => e = .returned (.tuple #[.string (S (Sg.bytes x.seg).1), .int .i64 (Sg.bytes x.seg).2]) ∧ Below w.heap.size w w' := by
  have hO := Own.refl w
  have HOK := Lib.hid ok
  have HR := Lib.hid hr
  have hn60 := ok.n
  have hnI : (0 : Int) ≤ x.recs.length ∧ (x.recs.length : Int) ≤ 60 := by omega
  have hsz := ok.sz
  have HHD := Lib.hid (fun w => seg_head w x.kind x.gen x.first x.t ok.kind ok.gen ok.first (by omega))
  clear ok hr hsz
  go_enter Try.func14, Try.ntmps14
  go_wp2_with fail
  have hB0 : SegBox (w.alloc (.cells #[.int .u8 x.kind, .int .u64 x.gen, .int .u64 x.first, .string x.t, .slice a x.recs.length cap, .int .i64 x.used, .bool x.whole] 28 (0, 0))) w.heap.size x a cap := heap_alloc_new w _
  have HB0 := Lib.hid hB0
  replace hO := hO.alloc (.cells #[.int .u8 x.kind, .int .u64 x.gen, .int .u64 x.first, .string x.t, .slice a x.recs.length cap, .int .i64 x.used, .bool x.whole] 28 (0, 0))
  clear hB0
  refine (HHD.out _).mono ?_
  rintro e w1 ⟨rfl, hb1⟩
  have HO1 := Lib.hid (hO.trans hb1)
  have HB1 := Lib.hid (HB0.out.keep hb1)
  clear hb1 hO HB0 HHD
  cases hm : Sg.may x.kind x.gen x.first (L x.t) with
  | false =>
    rw [head_no hm]
    have HE := Lib.hid (bytes_no hm)
    clear hm
    go_wp2_with fail
    go_ret2
    exact ⟨by rw [HE.out]; rfl, HO1.out.below⟩
  | true =>
    rw [(head_yes HOK.out hm).1]
    obtain ⟨m1, m2, m3⟩ := Sg.may_parts hm
    obtain ⟨c0, c1, c2, c3, c4, c5, c6, hl⟩ := HB1.out.facts
    have hN := Lib.hid (fun w => seg_next w x.kind x.gen x.first x.recs.length cap x.t a x.used x.whole (by omega))
    have hmod : (x.first + x.recs.length) % 18446744073709551616 = x.first + x.recs.length := Nat.mod_eq_of_lt (by unfold Sg.Top at m3; omega)
    rw [hmod] at hN
    have hfI : (1 : Int) ≤ x.first ∧ (x.first : Int) ≤ 281474976710656 := by unfold Sg.Top at m3; omega
    have hsub : IntKind.u64.wrap (((x.first + x.recs.length : Nat) : Int) - 1) = (x.first : Int) + x.recs.length - 1 := by rw [IntKind.wrap_u64]; omega
    have HM := Lib.hid hm
    clear hm m1 m2 hmod
    go_wp2_with fail
    refine (hN.out _).mono ?_
    rintro e w2 ⟨rfl, hb2⟩
    have HO2 := Lib.hid (HO1.out.trans hb2)
    have HB2 := Lib.hid (HB1.out.keep hb2)
    clear hb2 HO1 HB1 c0 c1 c2 c3 c4 c5 c6 hl hN
    by_cases hbig : Sg.Top < x.first + x.recs.length - 1
    · have HE := Lib.hid (bytes_big HOK.out HM.out hbig)
      have hbI : (281474976710656 : Int) < (x.first : Int) + x.recs.length - 1 := by unfold Sg.Top at hbig m3; omega
      clear hbig m3
      go_wp2_with fail
      go_ret2
      exact ⟨by rw [HE.out]; rfl, HO2.out.below⟩
    · have HE := Lib.hid (bytes_yes HOK.out HM.out hbig)
      have hbI : (x.first : Int) + x.recs.length - 1 ≤ 281474976710656 := by unfold Sg.Top at hbig m3; omega
      clear hbig m3
      obtain ⟨c0, c1, c2, c3, c4, c5, c6, hl⟩ := HB2.out.facts
      have hs0 : S (Frm.enc x.first (Sg.hText x.kind x.gen (L x.t))) = S (segUp x 0) := by unfold segUp; simp [Frm.recs, Frm.bytes]
      rw [hs0]
      clear hs0
      go_wp2_with fail
      go_loopw [4, 32] (fun vs vi wr => ∃ k : Nat, k ≤ x.recs.length ∧ vi = .int .i64 k ∧ vs = .string (S (segUp x k)) ∧ Own w.heap.size w wr ∧ SegBox wr w.heap.size x a cap) (fun _ vi _ => x.recs.length - (intOf vi).toNat)
      case atStart => exact ⟨0, Nat.zero_le _, rfl, rfl, HO2.out, HB2.out⟩
      case round =>
        clear c0 c1 c2 c3 c4 c5 c6 hl HO2 HB2
        obtain ⟨k, hk, rfl, rfl, hO, hB⟩ := hrel
        have HO := Lib.hid hO
        have HB := Lib.hid hB
        clear hO hB
        by_cases hlt : k < x.recs.length
        · obtain ⟨g, off, rfl, hc⟩ := (HR.out.keep HO.out.below).cell1 (f := fun x => .string x) k hlt
          have hxs := size_le_sizes x.recs x.recs[k] (List.getElem_mem hlt)
          have hoks := HOK.out.sz
          have hkI : (0 : Int) ≤ k ∧ (k : Int) < x.recs.length := by omega
          have hw : IntKind.u64.wrap (k : Int) = k := IntWalk.u64_in _ (by omega)
          have hfk : x.first + k < 18446744073709551616 := by omega
          have hadd : IntKind.u64.wrap ((x.first : Int) + k) = ((x.first + k : Nat) : Int) := by rw [IntKind.wrap_u64]; omega
          have HT : Hid (S (segUp x (k + 1)) = S (segUp x k) ++ S (Frm.enc (x.first + k) (L x.recs[k]))) := Lib.hid (by
            rw [S_append, segUp_succ (by have := HOK.out.first; unfold Frm.M64; omega) k hlt, Nat.mod_eq_of_lt (by unfold Frm.M64; exact hfk)])
          have HEN := Lib.hid (fun w => frame_enc (x.first + k) x.recs[k] w hfk (by omega))
          have hcat : ¬ 9223372036854775807 < (S (segUp x k)).size + (S (Frm.enc (x.first + k) (L x.recs[k]))).size := by
            have := segUp_length HOK.out HM.out k
            rw [S_size, S_size, Frm.enc_length, L_size]; omega
          obtain ⟨c0, c1, c2, c3, c4, c5, c6, hl⟩ := HB.out.facts
          clear hxs hoks hfk
          generalize S (segUp x k) = b0 at *
          generalize S (Frm.enc (x.first + k) (L x.recs[k])) = b1 at *
          generalize x.recs[k] = tk at *
          go_wp2_with fail
          refine (HEN.out _).mono ?_
          rintro e w3 ⟨rfl, hb3⟩
          have HO3 := Lib.hid (HO.out.trans hb3)
          have HB3 := Lib.hid (HB.out.keep hb3)
          clear hb3 c0 c1 c2 c3 c4 c5 c6 hl
          go_wp2_with fail
          go_roundw
          case rel => exact ⟨k + 1, by omega, by go_num, by rw [HT.out], HO3.out, HB3.out⟩
          case measure => simp [intOf]; omega
        · obtain rfl : k = x.recs.length := by omega
          go_wp2_with fail
          go_ret2
          exact ⟨by rw [HE.out]; unfold segUp; rw [List.take_length]; rfl, HO.out.below⟩

end Go.Proofs.Ytdohhbilchdigaa
