/-
  THE WALK of the statements' small known answer for layer 17.
-/
import Derived.Test.YtllepgdebjfbdaaCellLaw
namespace Go.Proofs.Ytllepgdebjfbdaa
open Go.RowKit

theorem al_put1 (w : World) : Calls Try.prog 19 #[.agg #[.int .u64 0, .slice none 0 0], .bool true, .int .u64 0, .string ⟨#[97]⟩] w fun e w' =>
    ∃ a cap, e = .returned (.tuple #[.agg #[.int .u64 1, .slice a 1 cap], .int .i64 0]) ∧ VFresh w w' a cap [⟨1, 1, ⟨#[97]⟩⟩] := by
  have h := put_any w ⟨0, []⟩ none 0 true 0 ⟨#[97]⟩ (by decide) (RowIs.nil _ _ _) (by simp) (by simp) (fun _ => rfl) (by decide) (by decide)
  exact h
theorem al_put2 (w : World) (a : Option Addr) (cap : Nat) (h : VersAt w a [⟨1, 1, ⟨#[97]⟩⟩]) (hnil : a = none → cap = 0) : Calls Try.prog 19 #[.agg #[.int .u64 1, .slice a 1 cap], .bool false, .int .u64 1, .string ⟨#[98]⟩] w fun e w' =>
    ∃ a cap, e = .returned (.tuple #[.agg #[.int .u64 2, .slice a 2 cap], .int .i64 0]) ∧ VFresh w w' a cap [⟨1, 1, ⟨#[97]⟩⟩, ⟨2, 1, ⟨#[98]⟩⟩] :=
  put_any w ⟨1, [⟨1, 1, ⟨#[97]⟩⟩]⟩ a cap false 1 ⟨#[98]⟩ (by decide) h (by intro v hv; simp at hv; subst hv; exact ⟨by decide, by decide, by decide⟩) (by simp) hnil (by decide) (by decide)
theorem al_del (w : World) (a : Option Addr) (cap : Nat) (h : VersAt w a [⟨1, 1, ⟨#[97]⟩⟩, ⟨2, 1, ⟨#[98]⟩⟩]) (hnil : a = none → cap = 0) : Calls Try.prog 20 #[.agg #[.int .u64 2, .slice a 2 cap], .bool true, .int .u64 0] w fun e w' =>
    ∃ a cap, e = .returned (.tuple #[.agg #[.int .u64 3, .slice a 3 cap], .int .i64 0]) ∧ VFresh w w' a cap [⟨1, 1, ⟨#[97]⟩⟩, ⟨2, 1, ⟨#[98]⟩⟩, ⟨3, 2, ⟨#[]⟩⟩] :=
  delete_any w ⟨2, [⟨1, 1, ⟨#[97]⟩⟩, ⟨2, 1, ⟨#[98]⟩⟩]⟩ a cap true 0 h (by intro v hv; simp at hv; rcases hv with rfl | rfl <;> exact ⟨by decide, by decide, by decide⟩) (by simp) hnil (by decide) (by decide)
abbrev wl : List Cl.Ver := [⟨1, 1, ⟨#[97]⟩⟩, ⟨2, 1, ⟨#[98]⟩⟩, ⟨3, 2, ⟨#[]⟩⟩]
theorem wl_ok : ∀ v ∈ wl, okV v := by intro v hv; simp [wl] at hv; rcases hv with rfl | rfl | rfl <;> exact ⟨by decide, by decide, by decide⟩
theorem al_read0 (w : World) (a : Option Addr) (cap : Nat) (h : VersAt w a wl) : Calls Try.prog 8 #[.agg #[.int .u64 3, .slice a 3 cap], .int .u64 0] w fun e w' =>
    e = .returned (.tuple #[.agg #[.int .u64 0, .int .u8 0, .string ⟨#[]⟩], .int .i64 3]) ∧ Below w.heap.size w w' :=
  read_any w ⟨3, wl⟩ a cap 0 h wl_ok (by simp) (by decide) (by decide)
theorem al_read1 (w : World) (a : Option Addr) (cap : Nat) (h : VersAt w a wl) : Calls Try.prog 8 #[.agg #[.int .u64 3, .slice a 3 cap], .int .u64 1] w fun e w' =>
    e = .returned (.tuple #[.agg #[.int .u64 1, .int .u8 1, .string ⟨#[97]⟩], .int .i64 0]) ∧ Below w.heap.size w w' :=
  read_any w ⟨3, wl⟩ a cap 1 h wl_ok (by simp) (by decide) (by decide)
theorem al_now (w : World) (a : Option Addr) (cap : Nat) (h : VersAt w a wl) : Calls Try.prog 14 #[.agg #[.int .u64 3, .slice a 3 cap]] w fun e w' => e = .returned (.int .u64 0) ∧ Below w.heap.size w w' :=
  now_any w ⟨3, wl⟩ a cap h (by simp)
theorem al_size (w : World) (a : Option Addr) (cap : Nat) (h : VersAt w a wl) : Calls Try.prog 16 #[.agg #[.int .u64 3, .slice a 3 cap]] w fun e w' => e = .returned (.int .i64 2) ∧ Below w.heap.size w w' :=
  size_any w ⟨3, wl⟩ a cap h wl_ok (by simp)

/-- A box of a cell. -/
theorem celBox {w : World} {b : Nat} {n : Int} {a : Option Addr} {k cap : Nat} (h : w.heap[b]? = some (.cells #[.int .u64 n, .slice a k cap] 25 (0, 0))) :
    w.cell? ⟨b, 0, none⟩ = some (.int .u64 n) ∧ w.cell? ⟨b, 1, none⟩ = some (.slice a k cap) ∧ w.frozen? ⟨b, 0, none⟩ = false ∧ w.frozen? ⟨b, 1, none⟩ = false ∧ b < w.heap.size :=
  ⟨(cell_cells h).1, (cell_cells h).2, frozen_of_row w b 0 _ _ h, frozen_of_row w b 1 _ _ h, blk_lt h⟩
theorem setCel {w : World} {b : Nat} {n : Int} {a : Option Addr} {k cap : Nat} (h : w.heap[b]? = some (.cells #[.int .u64 n, .slice a k cap] 25 (0, 0))) (n' : Int) (a' : Option Addr) (k' cap' : Nat) :
    ((w.setCell ⟨b, 0, none⟩ (.int .u64 n')).setCell ⟨b, 1, none⟩ (.slice a' k' cap')).heap[b]? = some (.cells #[.int .u64 n', .slice a' k' cap'] 25 (0, 0)) := setCell_row (setCell_row h _) _
/-- A result stored over a box: what the result's versions and the memory are. -/
theorem VFresh.over {w W w1 : World} {b : Nat} {a : Option Addr} {cap : Nat} {l : List Cl.Ver} (h : VFresh W w1 a cap l) (hO : Own w.heap.size w W) (hb : w.heap.size ≤ b) (hlt : b < W.heap.size) (u v : Value) :
    VFresh w ((w1.setCell ⟨b, 0, none⟩ u).setCell ⟨b, 1, none⟩ v) a cap l :=
  h.sets hO (F := [b]) (((Upd.refl _ _).setCell (.inl (by simp)) _).setCell (.inl (by simp)) _) (by simp; omega)

set_option maxRecDepth 20000 in
set_option maxHeartbeats 4000000 in
theorem works_any (w : World) :
    Calls Try.prog 6 #[] w fun e w' => e = .returned (.bool true) ∧ Below w.heap.size w w' := by
  go_enter Try.func6, Try.ntmps6
  go_wp2_with fail
  refine (al_put1 _).mono ?_
  rintro e w1 ⟨a1, c1, rfl, hf⟩
  have hO1 := hf.own.alloc (.cells #[.int .u64 1, .slice a1 1 c1] 25 (0, 0))
  have HB1 := Lib.hid (heap_alloc_new w1 (.cells #[.int .u64 1, .slice a1 1 c1] 25 (0, 0)))
  have HF1 := Lib.hid (hf.keep ((Own.refl w1).alloc (.cells #[.int .u64 1, .slice a1 1 c1] 25 (0, 0))).below)
  have hw1 : w.heap.size ≤ w1.heap.size := hf.own.size
  clear hf hO1
  go_wp2_with fail
  refine (al_put2 _ a1 c1 HF1.out.vers HF1.out.nil).mono ?_
  rintro e w2 ⟨a2, c2, rfl, hf⟩
  have hb2 := (hf.own.below.block _ (blk_lt HB1.out)).trans HB1.out
  obtain ⟨k0, k1, f0, f1, l1⟩ := celBox hb2
  have HF2 := Lib.hid (hf.over HF1.out.own hw1 (blk_lt HB1.out) (.int .u64 2) (.slice a2 2 c2))
  have HB2 := Lib.hid (setCel hb2 2 a2 2 c2)
  clear hf hb2 HF1 HB1
  go_wp2_with fail
  clear k0 k1 f0 f1 l1
  generalize (w2.setCell ⟨w1.heap.size, 0, none⟩ (.int .u64 2)).setCell ⟨w1.heap.size, 1, none⟩ (.slice a2 2 c2) = W2 at *
  refine (al_del _ a2 c2 HF2.out.vers HF2.out.nil).mono ?_
  rintro e w3 ⟨a3, c3, rfl, hf⟩
  have hb3 := (hf.own.below.block _ (blk_lt HB2.out)).trans HB2.out
  obtain ⟨k0, k1, f0, f1, l1⟩ := celBox hb3
  have HF3 := Lib.hid (hf.over HF2.out.own hw1 (blk_lt HB2.out) (.int .u64 3) (.slice a3 3 c3))
  have HB3 := Lib.hid (setCel hb3 3 a3 3 c3)
  clear hf hb3 HF2 HB2
  go_wp2_with fail
  clear k0 k1 f0 f1 l1
  generalize (w3.setCell ⟨w1.heap.size, 0, none⟩ (.int .u64 3)).setCell ⟨w1.heap.size, 1, none⟩ (.slice a3 3 c3) = W3 at *
  refine (al_read0 _ a3 c3 HF3.out.vers).mono ?_
  rintro e w4 ⟨rfl, hb⟩
  have HB4 := Lib.hid ((hb.block _ (blk_lt HB3.out)).trans HB3.out)
  have HF4 := Lib.hid (HF3.out.keep hb)
  clear hb HB3 HF3
  obtain ⟨k0, k1, f0, f1, l1⟩ := celBox HB4.out
  go_wp2_with fail
  refine (al_read1 _ a3 c3 (HF4.out.vers.keep ((Own.refl w4).alloc _).below)).mono ?_
  rintro e w5 ⟨rfl, hb⟩
  have hb2 := (Own.refl w4).alloc (.cells #[.int .u64 0, .int .u8 0, .string ⟨#[]⟩] 35 (0, 0))
  have HB5 := Lib.hid (((hb2.trans hb).below.block _ (blk_lt HB4.out)).trans HB4.out)
  have HF5 := Lib.hid (HF4.out.keep (hb2.trans hb).below)
  clear hb hb2 HB4 HF4 k0 k1 f0 f1 l1
  obtain ⟨k0, k1, f0, f1, l1⟩ := celBox HB5.out
  go_wp2_with fail
  have hb2 := (Own.refl w5).alloc (.cells #[.int .u64 1, .int .u8 1, .string ⟨#[97]⟩] 35 (0, 0))
  refine (al_now _ a3 c3 (HF5.out.vers.keep hb2.below)).mono ?_
  rintro e w6 ⟨rfl, hb⟩
  have HB6 := Lib.hid (((hb2.trans hb).below.block _ (blk_lt HB5.out)).trans HB5.out)
  have HF6 := Lib.hid (HF5.out.keep (hb2.trans hb).below)
  clear hb hb2 HB5 HF5 k0 k1 f0 f1 l1
  obtain ⟨k0, k1, f0, f1, l1⟩ := celBox HB6.out
  go_wp2_with fail
  refine (al_size _ a3 c3 HF6.out.vers).mono ?_
  rintro e w7 ⟨rfl, hb⟩
  have HO := Lib.hid (HF6.out.own.trans hb)
  clear hb
  go_wp2_with fail
  go_ret
  exact ⟨rfl, HO.out.below⟩

end Go.Proofs.Ytllepgdebjfbdaa
