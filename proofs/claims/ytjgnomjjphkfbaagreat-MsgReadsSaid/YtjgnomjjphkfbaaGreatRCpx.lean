/-
  Joined out of the texts MsgCp0 MsgCp1.
-/
import Derived.Test.YtjgnomjjphkfbaaGreatRGo
namespace Go.Proofs.YtjgnomjjphkfbaaGreat
open Go.RowKit

theorem OL.setM {w W : World} {E : TypeId} {size : Nat} {s : Option Addr} {cap : Nat} {xs : List (List Value)} (h : OL w W E size s cap xs) {b i : Nat} {cs : Array Value} {t : TypeId} {fr : Nat × Nat} (hb : W.heap[b]? = some (.cells cs t fr)) (ht : t ≠ E) (v : Value) : OL w (W.setCell ⟨b, i, none⟩ v) E size s cap xs :=
  h.updF ((Upd.refl W [b]).setCell (.inl (by simp)) v) (fun k hk hf => by
    simp at hf
    subst hf
    exact h.sl.ne hb ht hk)
/-- What has been copied: the first n of the ten lists (rows: xs are their cells). -/
structure CP (w W : World) (b : Nat) (s : MS) (x : Mg.Msg) (xs : List (List Value)) (n : Nat) : Prop where
  blk : W.heap[b]? = some (.cells (MV s x) 43 (0, 0))
  bel : Below w.heap.size w W
  new : w.heap.size ≤ b
  two : W.heap[b + 1]? = some (.cells (MV MS0 Mg.msg0) 43 (0, 0))
  parts : 1 ≤ n → OL w W 26 1 s.parts.1 s.parts.2 (x.parts.map (fun a : Nat => [Value.int .u32 a]))
  reads : 2 ≤ n → OL w W 67 2 s.reads.1 s.reads.2 (x.ask.reads.map Mg.Rd.cells)
  readAt : 3 ≤ n → OL w W 3 1 s.readAt.1 s.readAt.2 (x.ask.readAt.map (fun a : Int => [Value.int .i64 a]))
  edits : 4 ≤ n → OL w W 59 6 s.edits.1 s.edits.2 (x.ask.edits.map Mg.Ed.cells)
  editAt : 5 ≤ n → OL w W 3 1 s.editAt.1 s.editAt.2 (x.ask.editAt.map (fun a : Int => [Value.int .i64 a]))
  rows : 6 ≤ n → OL w W 72 3 s.rows.1 s.rows.2 xs
  own : 7 ≤ n → OL w W 31 2 s.own.1 s.own.2 (x.own.map Mg.Rng.cells)
  got : 8 ≤ n → OL w W 64 4 s.got.1 s.got.2 (x.told.got.map Mg.Got.cells)
  numbers : 9 ≤ n → OL w W 22 1 s.numbers.1 s.numbers.2 (x.told.numbers.map (fun a : Nat => [Value.int .u64 a]))
  names : 10 ≤ n → OL w W 9 1 s.names.1 s.names.2 (x.told.names.map (fun a : ByteArray => [Value.string a]))
section
variable {w W W' : World} {b n : Nat} {s : MS} {x : Mg.Msg} {xs : List (List Value)}
theorem CP.keep (h : CP w W b s x xs n) (hb : Below W.heap.size W W') : CP w W' b s x xs n :=
  ⟨(hb.block b (blk_lt h.blk)).trans h.blk, h.bel.trans (hb.mono h.bel.size), h.new, (hb.block _ (blk_lt h.two)).trans h.two, fun k => (h.parts k).keep hb, fun k => (h.reads k).keep hb, fun k => (h.readAt k).keep hb, fun k => (h.edits k).keep hb, fun k => (h.editAt k).keep hb, fun k => (h.rows k).keep hb, fun k => (h.own k).keep hb, fun k => (h.got k).keep hb, fun k => (h.numbers k).keep hb, fun k => (h.names k).keep hb⟩
theorem CP.cell (h : CP w W b s x xs n) (i : Nat) {v : Value} (hv : (s.cells x)[i]? = some v) : W.cell? ⟨b, i, none⟩ = some v := by
  rw [cell_of_row _ _ _ _ _ _ h.blk]
  unfold MV
  simpa using hv
theorem CP.thaw (h : CP w W b s x xs n) (i : Nat) : W.frozen? ⟨b, i, none⟩ = false := frozen_of_row W b i _ _ h.blk
theorem CP.put_parts (h : CP w W b s x xs 0) {a : Option Addr} {c : Nat} (ho : OL w W 26 1 a c (x.parts.map (fun a : Nat => [Value.int .u32 a]))) : CP w (W.setCell ⟨b, 6, none⟩ (.slice a x.parts.length c)) b { s with parts := (a, c) } x xs 1 :=
  ⟨by rw [heap_set _ h.blk]; rfl, h.bel.trans ⟨rfl, rfl, rfl, by simp [World.setCell], fun k hk => heap_setCell_other _ _ _ _ (by have := h.new; show k ≠ b; omega)⟩, h.new, (heap_setCell_other _ _ _ _ (by show b + 1 ≠ b; omega)).trans h.two, fun _ => ho.setM h.blk (by decide) _, fun k => absurd k (by decide), fun k => absurd k (by decide), fun k => absurd k (by decide), fun k => absurd k (by decide), fun k => absurd k (by decide), fun k => absurd k (by decide), fun k => absurd k (by decide), fun k => absurd k (by decide), fun k => absurd k (by decide)⟩
theorem CP.put_reads (h : CP w W b s x xs 1) {a : Option Addr} {c : Nat} (ho : OL w W 67 2 a c (x.ask.reads.map Mg.Rd.cells)) : CP w (W.setCell ⟨b, 8, none⟩ (.slice a x.ask.reads.length c)) b { s with reads := (a, c) } x xs 2 :=
  ⟨by rw [heap_set _ h.blk]; rfl, h.bel.trans ⟨rfl, rfl, rfl, by simp [World.setCell], fun k hk => heap_setCell_other _ _ _ _ (by have := h.new; show k ≠ b; omega)⟩, h.new, (heap_setCell_other _ _ _ _ (by show b + 1 ≠ b; omega)).trans h.two, fun _ => (h.parts (by decide)).setM h.blk (by decide) _, fun _ => ho.setM h.blk (by decide) _, fun k => absurd k (by decide), fun k => absurd k (by decide), fun k => absurd k (by decide), fun k => absurd k (by decide), fun k => absurd k (by decide), fun k => absurd k (by decide), fun k => absurd k (by decide), fun k => absurd k (by decide)⟩
theorem CP.put_readAt (h : CP w W b s x xs 2) {a : Option Addr} {c : Nat} (ho : OL w W 3 1 a c (x.ask.readAt.map (fun a : Int => [Value.int .i64 a]))) : CP w (W.setCell ⟨b, 9, none⟩ (.slice a x.ask.readAt.length c)) b { s with readAt := (a, c) } x xs 3 :=
  ⟨by rw [heap_set _ h.blk]; rfl, h.bel.trans ⟨rfl, rfl, rfl, by simp [World.setCell], fun k hk => heap_setCell_other _ _ _ _ (by have := h.new; show k ≠ b; omega)⟩, h.new, (heap_setCell_other _ _ _ _ (by show b + 1 ≠ b; omega)).trans h.two, fun _ => (h.parts (by decide)).setM h.blk (by decide) _, fun _ => (h.reads (by decide)).setM h.blk (by decide) _, fun _ => ho.setM h.blk (by decide) _, fun k => absurd k (by decide), fun k => absurd k (by decide), fun k => absurd k (by decide), fun k => absurd k (by decide), fun k => absurd k (by decide), fun k => absurd k (by decide), fun k => absurd k (by decide)⟩
theorem CP.put_edits (h : CP w W b s x xs 3) {a : Option Addr} {c : Nat} (ho : OL w W 59 6 a c (x.ask.edits.map Mg.Ed.cells)) : CP w (W.setCell ⟨b, 10, none⟩ (.slice a x.ask.edits.length c)) b { s with edits := (a, c) } x xs 4 :=
  ⟨by rw [heap_set _ h.blk]; rfl, h.bel.trans ⟨rfl, rfl, rfl, by simp [World.setCell], fun k hk => heap_setCell_other _ _ _ _ (by have := h.new; show k ≠ b; omega)⟩, h.new, (heap_setCell_other _ _ _ _ (by show b + 1 ≠ b; omega)).trans h.two, fun _ => (h.parts (by decide)).setM h.blk (by decide) _, fun _ => (h.reads (by decide)).setM h.blk (by decide) _, fun _ => (h.readAt (by decide)).setM h.blk (by decide) _, fun _ => ho.setM h.blk (by decide) _, fun k => absurd k (by decide), fun k => absurd k (by decide), fun k => absurd k (by decide), fun k => absurd k (by decide), fun k => absurd k (by decide), fun k => absurd k (by decide)⟩
theorem CP.put_editAt (h : CP w W b s x xs 4) {a : Option Addr} {c : Nat} (ho : OL w W 3 1 a c (x.ask.editAt.map (fun a : Int => [Value.int .i64 a]))) : CP w (W.setCell ⟨b, 11, none⟩ (.slice a x.ask.editAt.length c)) b { s with editAt := (a, c) } x xs 5 :=
  ⟨by rw [heap_set _ h.blk]; rfl, h.bel.trans ⟨rfl, rfl, rfl, by simp [World.setCell], fun k hk => heap_setCell_other _ _ _ _ (by have := h.new; show k ≠ b; omega)⟩, h.new, (heap_setCell_other _ _ _ _ (by show b + 1 ≠ b; omega)).trans h.two, fun _ => (h.parts (by decide)).setM h.blk (by decide) _, fun _ => (h.reads (by decide)).setM h.blk (by decide) _, fun _ => (h.readAt (by decide)).setM h.blk (by decide) _, fun _ => (h.edits (by decide)).setM h.blk (by decide) _, fun _ => ho.setM h.blk (by decide) _, fun k => absurd k (by decide), fun k => absurd k (by decide), fun k => absurd k (by decide), fun k => absurd k (by decide), fun k => absurd k (by decide)⟩
theorem CP.put_rows (h : CP w W b s x xs 5) {a : Option Addr} {c : Nat} (ho : OL w W 72 3 a c xs) : CP w (W.setCell ⟨b, 18, none⟩ (.slice a x.rows.length c)) b { s with rows := (a, c) } x xs 6 :=
  ⟨by rw [heap_set _ h.blk]; rfl, h.bel.trans ⟨rfl, rfl, rfl, by simp [World.setCell], fun k hk => heap_setCell_other _ _ _ _ (by have := h.new; show k ≠ b; omega)⟩, h.new, (heap_setCell_other _ _ _ _ (by show b + 1 ≠ b; omega)).trans h.two, fun _ => (h.parts (by decide)).setM h.blk (by decide) _, fun _ => (h.reads (by decide)).setM h.blk (by decide) _, fun _ => (h.readAt (by decide)).setM h.blk (by decide) _, fun _ => (h.edits (by decide)).setM h.blk (by decide) _, fun _ => (h.editAt (by decide)).setM h.blk (by decide) _, fun _ => ho.setM h.blk (by decide) _, fun k => absurd k (by decide), fun k => absurd k (by decide), fun k => absurd k (by decide), fun k => absurd k (by decide)⟩
theorem CP.put_own (h : CP w W b s x xs 6) {a : Option Addr} {c : Nat} (ho : OL w W 31 2 a c (x.own.map Mg.Rng.cells)) : CP w (W.setCell ⟨b, 20, none⟩ (.slice a x.own.length c)) b { s with own := (a, c) } x xs 7 :=
  ⟨by rw [heap_set _ h.blk]; rfl, h.bel.trans ⟨rfl, rfl, rfl, by simp [World.setCell], fun k hk => heap_setCell_other _ _ _ _ (by have := h.new; show k ≠ b; omega)⟩, h.new, (heap_setCell_other _ _ _ _ (by show b + 1 ≠ b; omega)).trans h.two, fun _ => (h.parts (by decide)).setM h.blk (by decide) _, fun _ => (h.reads (by decide)).setM h.blk (by decide) _, fun _ => (h.readAt (by decide)).setM h.blk (by decide) _, fun _ => (h.edits (by decide)).setM h.blk (by decide) _, fun _ => (h.editAt (by decide)).setM h.blk (by decide) _, fun _ => (h.rows (by decide)).setM h.blk (by decide) _, fun _ => ho.setM h.blk (by decide) _, fun k => absurd k (by decide), fun k => absurd k (by decide), fun k => absurd k (by decide)⟩
theorem CP.put_got (h : CP w W b s x xs 7) {a : Option Addr} {c : Nat} (ho : OL w W 64 4 a c (x.told.got.map Mg.Got.cells)) : CP w (W.setCell ⟨b, 24, none⟩ (.slice a x.told.got.length c)) b { s with got := (a, c) } x xs 8 :=
  ⟨by rw [heap_set _ h.blk]; rfl, h.bel.trans ⟨rfl, rfl, rfl, by simp [World.setCell], fun k hk => heap_setCell_other _ _ _ _ (by have := h.new; show k ≠ b; omega)⟩, h.new, (heap_setCell_other _ _ _ _ (by show b + 1 ≠ b; omega)).trans h.two, fun _ => (h.parts (by decide)).setM h.blk (by decide) _, fun _ => (h.reads (by decide)).setM h.blk (by decide) _, fun _ => (h.readAt (by decide)).setM h.blk (by decide) _, fun _ => (h.edits (by decide)).setM h.blk (by decide) _, fun _ => (h.editAt (by decide)).setM h.blk (by decide) _, fun _ => (h.rows (by decide)).setM h.blk (by decide) _, fun _ => (h.own (by decide)).setM h.blk (by decide) _, fun _ => ho.setM h.blk (by decide) _, fun k => absurd k (by decide), fun k => absurd k (by decide)⟩
theorem CP.put_numbers (h : CP w W b s x xs 8) {a : Option Addr} {c : Nat} (ho : OL w W 22 1 a c (x.told.numbers.map (fun a : Nat => [Value.int .u64 a]))) : CP w (W.setCell ⟨b, 25, none⟩ (.slice a x.told.numbers.length c)) b { s with numbers := (a, c) } x xs 9 :=
  ⟨by rw [heap_set _ h.blk]; rfl, h.bel.trans ⟨rfl, rfl, rfl, by simp [World.setCell], fun k hk => heap_setCell_other _ _ _ _ (by have := h.new; show k ≠ b; omega)⟩, h.new, (heap_setCell_other _ _ _ _ (by show b + 1 ≠ b; omega)).trans h.two, fun _ => (h.parts (by decide)).setM h.blk (by decide) _, fun _ => (h.reads (by decide)).setM h.blk (by decide) _, fun _ => (h.readAt (by decide)).setM h.blk (by decide) _, fun _ => (h.edits (by decide)).setM h.blk (by decide) _, fun _ => (h.editAt (by decide)).setM h.blk (by decide) _, fun _ => (h.rows (by decide)).setM h.blk (by decide) _, fun _ => (h.own (by decide)).setM h.blk (by decide) _, fun _ => (h.got (by decide)).setM h.blk (by decide) _, fun _ => ho.setM h.blk (by decide) _, fun k => absurd k (by decide)⟩
theorem CP.put_names (h : CP w W b s x xs 9) {a : Option Addr} {c : Nat} (ho : OL w W 9 1 a c (x.told.names.map (fun a : ByteArray => [Value.string a]))) : CP w (W.setCell ⟨b, 26, none⟩ (.slice a x.told.names.length c)) b { s with names := (a, c) } x xs 10 :=
  ⟨by rw [heap_set _ h.blk]; rfl, h.bel.trans ⟨rfl, rfl, rfl, by simp [World.setCell], fun k hk => heap_setCell_other _ _ _ _ (by have := h.new; show k ≠ b; omega)⟩, h.new, (heap_setCell_other _ _ _ _ (by show b + 1 ≠ b; omega)).trans h.two, fun _ => (h.parts (by decide)).setM h.blk (by decide) _, fun _ => (h.reads (by decide)).setM h.blk (by decide) _, fun _ => (h.readAt (by decide)).setM h.blk (by decide) _, fun _ => (h.edits (by decide)).setM h.blk (by decide) _, fun _ => (h.editAt (by decide)).setM h.blk (by decide) _, fun _ => (h.rows (by decide)).setM h.blk (by decide) _, fun _ => (h.own (by decide)).setM h.blk (by decide) _, fun _ => (h.got (by decide)).setM h.blk (by decide) _, fun _ => (h.numbers (by decide)).setM h.blk (by decide) _, fun _ => ho.setM h.blk (by decide) _⟩
end
theorem cl_parts {w wz : World} {s : MS} {x : Mg.Msg} (h : MsgA w s x) (ok : x.Good) (hz : Below w.heap.size w wz) : Calls Tryz.prog 65 #[.slice s.parts.1 x.parts.length s.parts.2] wz fun e w' => ∃ a c, e = .returned (.slice a x.parts.length c) ∧ OL wz w' 26 1 a c (x.parts.map (fun a : Nat => [Value.int .u32 a])) ∧ Below wz.heap.size wz w' := by
  have := clone_parts s.parts.1 s.parts.2 _ wz (h.parts.keep hz) (by rw [List.length_map]; exact ok.parts.2)
  rw [List.length_map] at this
  exact this
theorem cl_reads {w wz : World} {s : MS} {x : Mg.Msg} (h : MsgA w s x) (ok : x.Good) (hz : Below w.heap.size w wz) : Calls Tryz.prog 66 #[.slice s.reads.1 x.ask.reads.length s.reads.2] wz fun e w' => ∃ a c, e = .returned (.slice a x.ask.reads.length c) ∧ OL wz w' 67 2 a c (x.ask.reads.map Mg.Rd.cells) ∧ Below wz.heap.size wz w' := by
  have := clone_reads s.reads.1 s.reads.2 _ wz (h.reads.keep hz) (by rw [List.length_map]; exact ok.reads.2)
  rw [List.length_map] at this
  exact this
theorem cl_readAt {w wz : World} {s : MS} {x : Mg.Msg} (h : MsgA w s x) (ok : x.Good) (hz : Below w.heap.size w wz) : Calls Tryz.prog 67 #[.slice s.readAt.1 x.ask.readAt.length s.readAt.2] wz fun e w' => ∃ a c, e = .returned (.slice a x.ask.readAt.length c) ∧ OL wz w' 3 1 a c (x.ask.readAt.map (fun a : Int => [Value.int .i64 a])) ∧ Below wz.heap.size wz w' := by
  have := clone_ints s.readAt.1 s.readAt.2 _ wz (h.readAt.keep hz) (by rw [List.length_map]; exact ok.readAt.2)
  rw [List.length_map] at this
  exact this
theorem cl_edits {w wz : World} {s : MS} {x : Mg.Msg} (h : MsgA w s x) (ok : x.Good) (hz : Below w.heap.size w wz) : Calls Tryz.prog 68 #[.slice s.edits.1 x.ask.edits.length s.edits.2] wz fun e w' => ∃ a c, e = .returned (.slice a x.ask.edits.length c) ∧ OL wz w' 59 6 a c (x.ask.edits.map Mg.Ed.cells) ∧ Below wz.heap.size wz w' := by
  have := clone_edits s.edits.1 s.edits.2 _ wz (h.edits.keep hz) (by rw [List.length_map]; exact ok.edits.2)
  rw [List.length_map] at this
  exact this
theorem cl_editAt {w wz : World} {s : MS} {x : Mg.Msg} (h : MsgA w s x) (ok : x.Good) (hz : Below w.heap.size w wz) : Calls Tryz.prog 67 #[.slice s.editAt.1 x.ask.editAt.length s.editAt.2] wz fun e w' => ∃ a c, e = .returned (.slice a x.ask.editAt.length c) ∧ OL wz w' 3 1 a c (x.ask.editAt.map (fun a : Int => [Value.int .i64 a])) ∧ Below wz.heap.size wz w' := by
  have := clone_ints s.editAt.1 s.editAt.2 _ wz (h.editAt.keep hz) (by rw [List.length_map]; exact ok.editAt.2)
  rw [List.length_map] at this
  exact this
theorem cl_own {w wz : World} {s : MS} {x : Mg.Msg} (h : MsgA w s x) (ok : x.Good) (hz : Below w.heap.size w wz) : Calls Tryz.prog 70 #[.slice s.own.1 x.own.length s.own.2] wz fun e w' => ∃ a c, e = .returned (.slice a x.own.length c) ∧ OL wz w' 31 2 a c (x.own.map Mg.Rng.cells) ∧ Below wz.heap.size wz w' := by
  have := clone_own s.own.1 s.own.2 _ wz (h.own.keep hz) (by rw [List.length_map]; exact ok.own.2)
  rw [List.length_map] at this
  exact this
theorem cl_got {w wz : World} {s : MS} {x : Mg.Msg} (h : MsgA w s x) (ok : x.Good) (hz : Below w.heap.size w wz) : Calls Tryz.prog 72 #[.slice s.got.1 x.told.got.length s.got.2] wz fun e w' => ∃ a c, e = .returned (.slice a x.told.got.length c) ∧ OL wz w' 64 4 a c (x.told.got.map Mg.Got.cells) ∧ Below wz.heap.size wz w' := by
  have := clone_got s.got.1 s.got.2 _ wz (h.got.keep hz) (by rw [List.length_map]; exact ok.got.2)
  rw [List.length_map] at this
  exact this
theorem cl_numbers {w wz : World} {s : MS} {x : Mg.Msg} (h : MsgA w s x) (ok : x.Good) (hz : Below w.heap.size w wz) : Calls Tryz.prog 73 #[.slice s.numbers.1 x.told.numbers.length s.numbers.2] wz fun e w' => ∃ a c, e = .returned (.slice a x.told.numbers.length c) ∧ OL wz w' 22 1 a c (x.told.numbers.map (fun a : Nat => [Value.int .u64 a])) ∧ Below wz.heap.size wz w' := by
  have := clone_numbers s.numbers.1 s.numbers.2 _ wz (h.numbers.keep hz) (by rw [List.length_map]; exact ok.numbers.2)
  rw [List.length_map] at this
  exact this
theorem cl_names {w wz : World} {s : MS} {x : Mg.Msg} (h : MsgA w s x) (ok : x.Good) (hz : Below w.heap.size w wz) : Calls Tryz.prog 74 #[.slice s.names.1 x.told.names.length s.names.2] wz fun e w' => ∃ a c, e = .returned (.slice a x.told.names.length c) ∧ OL wz w' 9 1 a c (x.told.names.map (fun a : ByteArray => [Value.string a])) ∧ Below wz.heap.size wz w' := by
  have := clone_names s.names.1 s.names.2 _ wz (h.names.keep hz) (by rw [List.length_map]; exact ok.names.2)
  rw [List.length_map] at this
  exact this
theorem cl_rows {w wz : World} {s : MS} {x : Mg.Msg} {xs : List (List Value)} (h : ArgL w 3 s.rows.1 s.rows.2 xs) (hl : xs.length = x.rows.length) (ok : x.Good) (hz : Below w.heap.size w wz) : Calls Tryz.prog 69 #[.slice s.rows.1 x.rows.length s.rows.2] wz fun e w' => ∃ a c, e = .returned (.slice a x.rows.length c) ∧ OL wz w' 72 3 a c xs ∧ Below wz.heap.size wz w' := by
  have := clone_rows s.rows.1 s.rows.2 _ wz (h.keep hz) (by rw [hl]; exact ok.rows.2)
  rw [hl] at this
  exact this

end Go.Proofs.YtjgnomjjphkfbaaGreat

namespace Go.Proofs.YtjgnomjjphkfbaaGreat
open Go.RowKit

theorem flat_set_at (size : Nat) : ∀ (xs : List (List Value)) (_ : ∀ x ∈ xs, x.length = size) (i j : Nat) (hi : i < xs.length) (_ : j < size) (v : Value), (xs.set i (xs[i].set j v)).flatten = xs.flatten.set (i * size + j) v
  | x :: r, hs, 0, j, _, hj, v => by
    have hx := hs x (by simp)
    simp only [List.set_cons_zero, List.getElem_cons_zero, List.flatten_cons, Nat.zero_mul, Nat.zero_add]
    rw [List.set_append_left _ _ (by omega)]
  | x :: r, hs, i + 1, j, hi, hj, v => by
    have hx := hs x (by simp)
    simp only [List.set_cons_succ, List.getElem_cons_succ, List.flatten_cons]
    rw [flat_set_at size r (fun y hy => hs y (by simp [hy])) i j (by simpa using hi) hj v, Nat.succ_mul, List.set_append_right _ _ (by omega), hx]
    congr 2
    omega
theorem SliceIs.setAt {w : World} {e : TypeId} {size g off n cap : Nat} {xs : List Value} (h : SliceIs w e size (some ⟨g, off, none⟩) n cap xs) (k : Nat) (_ : k < n * size) (v : Value) : SliceIs (w.setCell ⟨g, off + k, none⟩ v) e size (some ⟨g, off, none⟩) n cap (xs.set k v) := by
  rcases h.2 with ⟨h', _⟩ | ⟨g', off', cur, h', hg, r1, r2, r3, r4⟩
  · cases h'
  · cases h'
    refine ⟨by rw [List.length_set]; exact h.1, .inr ⟨g, off, _, rfl, heap_set _ hg, r1, r2, by simpa using r3, ?_⟩⟩
    rw [← r4]
    simp only [Array.toList_setIfInBounds]
    rw [List.drop_set, if_neg (by omega), Nat.add_sub_cancel_left, List.take_set]
/-- A cell of an element is stored. -/
theorem OL.store {w W : World} {E : TypeId} {size g off cap : Nat} {xs : List (List Value)} (h : OL w W E size (some ⟨g, off, none⟩) cap xs) (i j : Nat) (hi : i < xs.length) (hj : j < size) (v : Value) :
    OL w (W.setCell ⟨g, off + i * size + j, none⟩ v) E size (some ⟨g, off, none⟩) cap (xs.set i (xs[i].set j v)) := by
  refine ⟨?_, h.far, fun x hx => ?_⟩
  · rw [List.length_set, flat_set_at size xs h.all i j hi hj v, Nat.add_assoc]
    refine h.sl.setAt (i * size + j) ?_ v
    have : (i + 1) * size ≤ xs.length * size := Nat.mul_le_mul_right _ hi
    rw [Nat.succ_mul] at this
    omega
  · rcases List.mem_or_eq_of_mem_set hx with h1 | h1
    · exact h.all x h1
    · rw [h1, List.length_set]; exact h.all _ (List.getElem_mem _)
theorem OL.otherT {w W : World} {E E2 : TypeId} {size z2 : Nat} {s : Option Addr} {cap g off n2 c2 : Nat} {xs : List (List Value)} {ys : List Value} (h : OL w W E size s cap xs) (h2 : SliceIs W E2 z2 (some ⟨g, off, none⟩) n2 c2 ys) (hne : E ≠ E2) (i : Nat) (v : Value) : OL w (W.setCell ⟨g, i, none⟩ v) E size s cap xs :=
  h.updF ((Upd.refl W [g]).setCell (.inl (by simp)) v) (fun k hk hf => by
    simp at hf
    subst hf
    exact h.sl.apart h2 hne k hk (by simp))
/-- A cell of a row is stored: all else stays. -/
theorem CP.store {w W : World} {b n : Nat} {s : MS} {x : Mg.Msg} {xs : List (List Value)} (h : CP w W b s x xs n) (hn : 6 ≤ n) {g off : Nat} (hs : s.rows.1 = some ⟨g, off, none⟩) (i j : Nat) (hi : i < xs.length) (hj : j < 3) (v : Value) :
    CP w (W.setCell ⟨g, off + i * 3 + j, none⟩ v) b s x (xs.set i (xs[i].set j v)) n := by
  have ho := h.rows hn
  rw [hs] at ho
  have hb : b ≠ g := fun e => by
    have := ho.sl.ne h.blk (by decide)
    simp at this
    exact this e
  have hb2 : b + 1 ≠ g := fun e => by
    have := ho.sl.ne h.two (by decide)
    simp at this
    exact this e
  refine ⟨(heap_setCell_other _ _ _ _ hb).trans h.blk, h.bel.trans ⟨rfl, rfl, rfl, by simp [World.setCell], fun k hk => heap_setCell_other _ _ _ _ ?_⟩, h.new, (heap_setCell_other _ _ _ _ hb2).trans h.two,
    fun k => (h.parts k).otherT ho.sl (by decide) _ v, fun k => (h.reads k).otherT ho.sl (by decide) _ v, fun k => (h.readAt k).otherT ho.sl (by decide) _ v, fun k => (h.edits k).otherT ho.sl (by decide) _ v, fun k => (h.editAt k).otherT ho.sl (by decide) _ v,
    fun _ => by rw [hs]; exact ho.store i j hi hj v,
    fun k => (h.own k).otherT ho.sl (by decide) _ v, fun k => (h.got k).otherT ho.sl (by decide) _ v, fun k => (h.numbers k).otherT ho.sl (by decide) _ v, fun k => (h.names k).otherT ho.sl (by decide) _ v⟩
  have := ho.far g (by simp)
  show k ≠ g
  omega
/-- The slice that a row's cells hold. -/
def rowS (xs : List (List Value)) (j : Nat) : Option Addr := match xs[j]? with
  | some [_, _, .slice s _ _] => s
  | _ => none
/-- The first i rows' versions stand apart. -/
def RowsAp (xs : List (List Value)) (i : Nat) : Prop := ∀ j k, j < k → k < i → Apart (rowS xs j) (rowS xs k)
/-- Rows of which the first i have versions of their own. -/
def RowsH (w W : World) (l : List Mg.Row) (xs : List (List Value)) (i : Nat) : Prop :=
  (xs.length = l.length ∧ ∀ (j : Nat) (h : j < l.length), ∃ (s : Option Addr) (cap : Nat), xs[j]? = some [.string l[j].p, .int .u64 l[j].last, .slice s l[j].l.length cap] ∧ (j < i → OL w W 62 3 s cap (l[j].l.map Mg.Ver.cells)) ∧ (i ≤ j → ArgL w 3 s cap (l[j].l.map Mg.Ver.cells))) ∧ RowsAp xs i
theorem RowsH.start {w W : World} {l : List Mg.Row} {xs : List (List Value)} (h : RowsA w l xs) : RowsH w W l xs 0 :=
  ⟨⟨h.1, fun j hj => by
    obtain ⟨s, cap, h1, h2⟩ := h.2 j hj
    exact ⟨s, cap, h1, fun k => by omega, fun _ => h2⟩⟩, fun j k _ h => by omega⟩
theorem RowsH.done {w W : World} {l : List Mg.Row} {xs : List (List Value)} (h : RowsH w W l xs l.length) : RowsO w W l xs ∧ RowsAp xs l.length :=
  ⟨⟨h.1.1, fun j hj => by
    obtain ⟨s, cap, h1, h2, _⟩ := h.1.2 j hj
    exact ⟨s, cap, h1, h2 hj⟩⟩, h.2⟩
theorem RowsH.keep {w W W2 : World} {l : List Mg.Row} {xs : List (List Value)} {i : Nat} (h : RowsH w W l xs i) (hb : Below W.heap.size W W2) : RowsH w W2 l xs i :=
  ⟨⟨h.1.1, fun j hj => by
    obtain ⟨s, cap, h1, h2, h3⟩ := h.1.2 j hj
    exact ⟨s, cap, h1, fun k => (h2 k).keep hb, h3⟩⟩, h.2⟩
theorem RowsH.setM {w W : World} {l : List Mg.Row} {xs : List (List Value)} {i : Nat} (h : RowsH w W l xs i) {b k : Nat} {cs : Array Value} {t : TypeId} {fr : Nat × Nat} (hb : W.heap[b]? = some (.cells cs t fr)) (ht : t ≠ 62) (v : Value) : RowsH w (W.setCell ⟨b, k, none⟩ v) l xs i :=
  ⟨⟨h.1.1, fun j hj => by
    obtain ⟨s, cap, h1, h2, h3⟩ := h.1.2 j hj
    exact ⟨s, cap, h1, fun k => (h2 k).setM hb ht v, h3⟩⟩, h.2⟩
theorem RowsH.old {w W : World} {l : List Mg.Row} {xs : List (List Value)} {i : Nat} (h : RowsH w W l xs i) (hi : i ≤ l.length) : ∀ j, j < i → ∀ b ∈ blks (rowS xs j), b < W.heap.size := fun j hj b hb => by
  obtain ⟨s, cap, h1, h2, _⟩ := h.1.2 j (by omega)
  have e : rowS xs j = s := by unfold rowS; rw [h1]
  rw [e] at hb
  exact (h2 hj).sl.lt b hb
theorem RowsH.next {w W : World} {l : List Mg.Row} {xs : List (List Value)} {i : Nat} (h : RowsH w W l xs i) (hi : i < l.length) {s : Option Addr} {cap : Nat} (hol : OL w W 62 3 s cap (l[i].l.map Mg.Ver.cells)) {g off n2 c2 k : Nat} {ys : List Value} (h2 : SliceIs W 72 3 (some ⟨g, off, none⟩) n2 c2 ys) (hx : i < xs.length) {N : Nat} (hnew : ∀ b ∈ blks s, N ≤ b) (hold : ∀ j, j < i → ∀ b ∈ blks (rowS xs j), b < N) :
    RowsH w (W.setCell ⟨g, k, none⟩ (.slice s l[i].l.length cap)) l (xs.set i (xs[i].set 2 (.slice s l[i].l.length cap))) (i + 1) := by
  obtain ⟨s0, cap0, q1, _, _⟩ := h.1.2 i hi
  rw [List.getElem?_eq_getElem hx] at q1
  have q2 := Option.some.inj q1
  have hself : rowS (xs.set i (xs[i].set 2 (.slice s l[i].l.length cap))) i = s := by
    unfold rowS
    rw [List.getElem?_set_self hx, q2]
    rfl
  have hoth : ∀ j, j ≠ i → rowS (xs.set i (xs[i].set 2 (.slice s l[i].l.length cap))) j = rowS xs j := fun j hj => by
    unfold rowS
    rw [List.getElem?_set_ne (fun h => hj h.symm)]
  refine ⟨⟨by rw [List.length_set]; exact h.1.1, fun j hj => ?_⟩, fun j m hjm hm => ?_⟩
  · obtain ⟨s', cap', h1, h3, h4⟩ := h.1.2 j hj
    by_cases e : j = i
    · subst e
      refine ⟨s, cap, ?_, fun _ => hol.otherT h2 (by decide) _ _, fun hk => by omega⟩
      rw [List.getElem?_set_self hx, q2]
      rfl
    · exact ⟨s', cap', by rw [List.getElem?_set_ne (fun h => e h.symm)]; exact h1, fun hk => (h3 (by omega)).otherT h2 (by decide) _ _, fun hk => h4 (by omega)⟩
  · rw [hoth j (by omega)]
    by_cases e : m = i
    · subst e
      rw [hself]
      intro b hb hb2
      have := hnew b hb2
      have := hold j hjm b hb
      omega
    · rw [hoth m e]
      exact h.2 j m hjm (by omega)

theorem OL.putM {w W W2 : World} {E : TypeId} {size : Nat} {s : Option Addr} {cap : Nat} {xs : List (List Value)} (h : OL w W E size s cap xs) {b : Nat} {cs vs : Array Value} {t t2 : TypeId} {fr : Nat × Nat} (hb : W.heap[b]? = some (.cells cs t fr)) (ht : t ≠ E) (hp : PutAt W W2 b vs t2) : OL w W2 E size s cap xs :=
  h.updF ((Upd.refl W [b]).put hp (.inl (by simp))) (fun k hk hf => by
    simp at hf
    subst hf
    exact h.sl.ne hb ht hk)
/-- All is copied, and stands in the result. -/
theorem CP.done {w W W2 : World} {b : Nat} {s : MS} {x : Mg.Msg} {xs : List (List Value)} {vs : Array Value} {t2 : TypeId} (h : CP w W b s x xs 10) (hr : RowsO w W x.rows xs) (hp : PutAt W W2 (b + 1) vs t2) : MsgO w W2 s x ∧ Below w.heap.size w W2 := by
  refine ⟨⟨(h.parts (by decide)).putM h.two (by decide) hp, (h.reads (by decide)).putM h.two (by decide) hp, (h.readAt (by decide)).putM h.two (by decide) hp, (h.edits (by decide)).putM h.two (by decide) hp, (h.editAt (by decide)).putM h.two (by decide) hp, ⟨xs, (h.rows (by decide)).putM h.two (by decide) hp, hr.keep fun s' n cap ys h1 _ k hk => hp.other k ?_⟩,
    (h.own (by decide)).putM h.two (by decide) hp, (h.got (by decide)).putM h.two (by decide) hp, (h.numbers (by decide)).putM h.two (by decide) hp, (h.names (by decide)).putM h.two (by decide) hp⟩,
    h.bel.trans ⟨hp.os, hp.tape, hp.output, by rw [hp.size]; exact Nat.le_refl _, fun k hk => hp.other k (by have := h.new; omega)⟩⟩
  rintro rfl
  exact h1.ne h.two (by decide) hk

theorem CP.doneR {w W W2 : World} {b : Nat} {s : MS} {x : Mg.Msg} {xs : List (List Value)} {vs : Array Value} {t2 : TypeId} (h : CP w W b s x xs 10) (hr : RowsO w W x.rows xs) (hp : PutAt W W2 (b + 1) vs t2) : OL w W2 72 3 s.rows.1 s.rows.2 xs ∧ RowsO w W2 x.rows xs := by
  refine ⟨(h.rows (by decide)).putM h.two (by decide) hp, hr.keep fun s' n cap ys h1 _ k hk => hp.other k ?_⟩
  rintro rfl
  exact h1.ne h.two (by decide) hk

end Go.Proofs.YtjgnomjjphkfbaaGreat
