/-
  THE WALK of segment.Bytes.
-/
import Derived.Test.YtboplbcfoooenaaSegNext
namespace Go.Proofs.Ytboplbcfoooenaa
open Go.RowKit

attribute [local go_sem ↓ high] appSem_eq

theorem keep_cell {w w' : World} {B b k : Nat} {v : Value} (hb : Below B w w') (h : w.cell? ⟨b, k, none⟩ = some v) (hl : b < B) : w'.cell? ⟨b, k, none⟩ = some v := by
  rw [hb.cell hl]; exact h
/-- What may be of a segment that a statement looks at. -/
structure okS (x : Sx) : Prop where
  kind : x.kind < 256
  gen : x.gen < 18446744073709551616
  first : x.first < 18446744073709551616
  n : x.recs.length ≤ 60
  sz : x.t.size + sizes x.recs ≤ 8192
/-- A segment in a box. -/
def SegBox (w : World) (b : Nat) (x : Sx) (a : Option Addr) (cap : Nat) : Prop := w.heap[b]? = some (.cells #[.int .u8 x.kind, .int .u64 x.gen, .int .u64 x.first, .string x.t, .slice a x.recs.length cap, .int .i64 x.used, .bool x.whole] 28 (0, 0))
theorem SegBox.keep {w w' : World} {b : Nat} {x : Sx} {a : Option Addr} {cap : Nat} (h : SegBox w b x a cap) (hb : Below w.heap.size w w') : SegBox w' b x a cap := (hb.block b (blk_lt h)).trans h
theorem SegBox.facts {w : World} {b : Nat} {x : Sx} {a : Option Addr} {cap : Nat} (h : SegBox w b x a cap) :
    w.cell? ⟨b, 0, none⟩ = some (.int .u8 x.kind) ∧ w.cell? ⟨b, 1, none⟩ = some (.int .u64 x.gen) ∧ w.cell? ⟨b, 2, none⟩ = some (.int .u64 x.first) ∧ w.cell? ⟨b, 3, none⟩ = some (.string x.t) ∧
    w.cell? ⟨b, 4, none⟩ = some (.slice a x.recs.length cap) ∧ w.cell? ⟨b, 5, none⟩ = some (.int .i64 x.used) ∧ w.cell? ⟨b, 6, none⟩ = some (.bool x.whole) ∧ b < w.heap.size := by
  refine ⟨?_, ?_, ?_, ?_, ?_, ?_, ?_, blk_lt h⟩
  all_goals rw [cell_of_row w b _ _ _ _ h]; rfl

theorem bytes_no {x : Sx} (h : Sg.may x.kind x.gen x.first (L x.t) = false) : Sg.bytes x.seg = ([], 2) := by
  unfold Sg.bytes
  have e : Sg.head x.seg.kind x.seg.gen x.seg.first x.seg.text = ([], 2) := head_no h
  rw [e]; rfl
theorem head_yes {x : Sx} (ok : okS x) (h : Sg.may x.kind x.gen x.first (L x.t) = true) : Sg.head x.kind x.gen x.first (L x.t) = (Frm.enc x.first (Sg.hText x.kind x.gen (L x.t)), 0) ∧ (Sg.hText x.kind x.gen (L x.t)).length ≤ 9000 := by
  have hu : (Wr.uv x.gen).length ≤ 10 := Wr.uvF_length 10 _
  have hl : (Sg.hText x.kind x.gen (L x.t)).length ≤ 9000 := by have := ok.sz; simp [Sg.hText]; omega
  refine ⟨?_, hl⟩
  unfold Sg.head
  rw [if_neg (by rw [h]; simp), if_neg (by omega)]
theorem bytes_big {x : Sx} (ok : okS x) (h : Sg.may x.kind x.gen x.first (L x.t) = true) (hb : Sg.Top < x.first + x.recs.length - 1) : Sg.bytes x.seg = ([], 2) := by
  unfold Sg.bytes
  have e : Sg.head x.seg.kind x.seg.gen x.seg.first x.seg.text = _ := (head_yes ok h).1
  rw [e, if_neg (by simp), if_pos (by simpa [Sx.seg] using hb)]
theorem short_ok {x : Sx} (ok : okS x) : Sg.short (x.recs.map L) = true := by
  unfold Sg.short
  simp only [List.all_map, List.all_eq_true, Function.comp, decide_eq_true_eq]
  intro t ht
  have h1 := size_le_sizes x.recs t ht
  have := ok.sz
  rw [L_size]; omega
theorem bytes_yes {x : Sx} (ok : okS x) (h : Sg.may x.kind x.gen x.first (L x.t) = true) (hb : ¬ Sg.Top < x.first + x.recs.length - 1) :
    Sg.bytes x.seg = (Frm.enc x.first (Sg.hText x.kind x.gen (L x.t)) ++ Frm.bytes (Frm.recs (x.recs.map L) x.first), 0) := by
  unfold Sg.bytes
  have e : Sg.head x.seg.kind x.seg.gen x.seg.first x.seg.text = _ := (head_yes ok h).1
  have e2 : Sg.short x.seg.recs = true := short_ok ok
  rw [e, if_neg (by simp), if_neg (by simpa [Sx.seg] using hb), if_neg (by rw [e2]; simp)]
  rfl
theorem lens_sizes (l : List ByteArray) : Frm.lens (l.map L) = 16 * l.length + sizes l := by
  induction l with
  | nil => rfl
  | cons t r ih => simp only [List.map_cons, Frm.lens, sizes, List.sum_cons, List.length_cons, ih, L_size]; omega
/-- What has been written, of so many records. -/
def segUp (x : Sx) (k : Nat) : List UInt8 := Frm.enc x.first (Sg.hText x.kind x.gen (L x.t)) ++ Frm.bytes (Frm.recs ((x.recs.take k).map L) x.first)
theorem segUp_length {x : Sx} (ok : okS x) (h : Sg.may x.kind x.gen x.first (L x.t) = true) (k : Nat) : (segUp x k).length ≤ 100000 := by
  unfold segUp
  have h1 := (head_yes ok h).2
  have h2 := sizes_take_le x.recs k
  have := ok.n
  have := ok.sz
  rw [List.length_append, Frm.enc_length, Frm.bytes_length, lens_sizes, List.length_take]; omega
theorem segUp_succ {x : Sx} (hf : x.first < Frm.M64) (k : Nat) (hk : k < x.recs.length) : segUp x (k + 1) = segUp x k ++ Frm.enc ((x.first + k) % Frm.M64) (L x.recs[k]) := by
  unfold segUp
  rw [List.take_succ_eq_append_getElem hk, List.map_append, List.map_cons, List.map_nil, Frm.bytes_snoc _ _ _ hf, List.length_map, List.length_take, Nat.min_eq_left (by omega), List.append_assoc]

end Go.Proofs.Ytboplbcfoooenaa
