/-
  THE WALKS of the document's answer for layer 9: done; rows copied.
-/
import Derived.Test.YtickdhlhafifhaaDiskKeeps
namespace Go.Proofs.Ytickdhlhafifhaa
open Go.RowKit

attribute [local go_sem ↓ high] appSem_eq

/-- 'append([]T{}, x...)' of a row of the call's own. -/
theorem copy_own {T E : TypeId} {z : Value} {size bytes : Nat} (hI : (Try.prog.info? E).map (fun i => (i.zero, i.size, i.bytes)) = some (some z, size, bytes)) (ht : Try.prog.underlying T = some (.slice E)) (hzs : z.cells.size = size) (hsz : 0 < size) (hb : bytes ≤ 256)
    (w : World) (a : Option Addr) (n cap : Nat) (xs : List (List Value)) (hS : SliceIs w E size a n cap xs.flatten) (hn : n = xs.length) (hl : ∀ x ∈ xs, x.length = size) (h1 : ∀ x ∈ xs, ∀ u ∈ x, u.oneCell' = true) (hm : n ≤ 1000000) :
    ∃ s' cap' w', (appSem #[T, T] T #[.slice (some ⟨w.heap.size, 0, none⟩) 0 0, .slice a n cap]).run Try.prog (w.alloc (.cells #[] E (0, 0))) = .ok (.slice s' n cap') w' ∧ SliceIs w' E size s' n cap' xs.flatten ∧ Own w.heap.size w w' ∧ ∀ k ∈ blks s', w.heap.size ≤ k := by
  obtain ⟨i0, hi, hz0, hz1, hz2⟩ := info_parts hI
  have hE : SliceIs (w.alloc (.cells #[] E (0, 0))) E size (some ⟨w.heap.size, 0, none⟩) 0 0 [] := ⟨by simp, .inr ⟨w.heap.size, 0, #[], rfl, heap_alloc_new w _, Nat.le_refl _, by decide, by simp, by simp⟩⟩
  have hrow : RowIs (w.alloc (.cells #[] E (0, 0))) size a xs := (hS.alloc _).rowF hl hn
  have hnil : a = none → cap = 0 := by
    intro h; rcases hS.2 with ⟨_, _, h⟩ | ⟨g, off, cur, h', _⟩
    · exact h
    · rw [h] at h'; cases h'
  subst hn
  obtain ⟨s', cap', w', hr, hs, hu, hk⟩ := append_row (P := Try.prog) ht hi hz0 hz1 hz2 hzs hsz (w.alloc (.cells #[] E (0, 0))) (some ⟨w.heap.size, 0, none⟩) 0 0 [] hE a cap xs hrow hl h1 (by omega) hb hnil
  rw [Nat.zero_add] at hr hs
  rw [List.nil_append] at hs
  exact ⟨s', cap', w', hr, hs, ((Own.refl w).alloc _).upd hu (by simp), fun k hk' => (hk k hk').elim (by simp; omega) (fun h => by simp at h; omega)⟩
theorem flat_map1 {α : Type} (f : α → Value) (l : List α) : (l.map fun x => [f x]).flatten = l.map f := by induction l <;> simp_all
theorem copy_s (w : World) (a : Option Addr) (n cap : Nat) (f : List ByteArray) (hS : SliceIs w 9 1 a n cap (f.map Value.string)) (hn : n = f.length) (hm : n ≤ 1000000) :
    ∃ s' cap' w', (appSem #[34, 34] 34 #[.slice (some ⟨w.heap.size, 0, none⟩) 0 0, .slice a n cap]).run Try.prog (w.alloc (.cells #[] 9 (0, 0))) = .ok (.slice s' n cap') w' ∧ SliceIs w' 9 1 s' n cap' (f.map Value.string) ∧ Own w.heap.size w w' ∧ ∀ k ∈ blks s', w.heap.size ≤ k := by
  have := copy_own strInfo Try.underlying34 rfl (by decide) (by decide) w a n cap (f.map fun x => [Value.string x]) (by rw [flat_map1]; exact hS) (by simpa using hn) (by simp) (by simp; intro x _; rfl) hm
  rw [flat_map1] at this
  exact this
/-- A cell of a row of the call's own, stored. -/
theorem SliceIs.set1 {w : World} {e : TypeId} {g off n cap : Nat} {xs : List Value} (h : SliceIs w e 1 (some ⟨g, off, none⟩) n cap xs) (i : Nat) (hi : i < n) (v : Value) : SliceIs (w.setCell ⟨g, off + i, none⟩ v) e 1 (some ⟨g, off, none⟩) n cap (xs.set i v) := by
  rcases h.2 with ⟨h0, _⟩ | ⟨g', off', cur, he, hg, r1, r2, r3, r4⟩
  · cases h0
  · cases he
    refine ⟨by rw [List.length_set]; exact h.1, .inr ⟨g, off, cur.setIfInBounds (off + i) v, rfl, heap_set _ hg, r1, r2, by simpa using r3, ?_⟩⟩
    rw [Array.toList_setIfInBounds, ← r4, ← List.take_set]
    congr 1
    rw [List.drop_set, if_neg (by omega), Nat.add_sub_cancel_left]
theorem SliceIs.at1 {w : World} {e : TypeId} {a : Option Addr} {n cap : Nat} {f : List ByteArray} (h : SliceIs w e 1 a n cap (f.map Value.string)) (i : Nat) (hi : i < f.length) :
    ∃ g off, a = some ⟨g, off, none⟩ ∧ g < w.heap.size ∧ w.cell? ⟨g, off + i, none⟩ = some (.string (Dk.txt f i)) ∧ w.frozen? ⟨g, off + i, none⟩ = false := by
  have hl := h.1
  rw [List.length_map] at hl
  rcases h.2 with ⟨_, h0, _⟩ | ⟨g, off, cur, rfl, hg, _⟩
  · omega
  · have hc := h.cells.cell i (by simpa using hi)
    rw [List.getElem_map] at hc
    exact ⟨g, off, rfl, blk_lt hg, by rw [Dk.txt_get f i hi]; exact hc, by simp [World.frozen?, hg]⟩

def ccells (c : Dk.Call) : List Value := [.int .i64 c.file, .bool c.cut, .int .i64 c.n, .string c.s]
/-- Files behind a call, as the document's answer does it. -/
def doneF (f : List ByteArray) (c : Dk.Call) (y : Int) : List ByteArray := if c.cut = true then f.set c.file ((Dk.txt f c.file).extract 0 c.n) else f.set c.file (Dk.txt f c.file ++ Dk.piece c.s y)
theorem piece_size_all (s : ByteArray) : Dk.piece s (s.size : Int) = s := by
  unfold Dk.piece
  rw [show min (max (s.size : Int) 0).toNat s.size = s.size by omega]
  exact ByteArray.extract_zero_size
theorem done_run (f : List ByteArray) (c : Dk.Call) : doneF f c c.s.size = Dk.run f c := by unfold doneF Dk.run; rw [piece_size_all]
theorem done_part (f : List ByteArray) (c : Dk.Call) (y : Int) (h : c.cut = false) : doneF f c y = Dk.part f c y := by unfold doneF Dk.part; rw [h]; rfl
theorem map_set_str (f : List ByteArray) (i : Nat) (s : ByteArray) : (f.map Value.string).set i (.string s) = (f.set i s).map Value.string := by rw [List.map_set]

set_option maxRecDepth 20000 in
set_option maxHeartbeats 1000000 in
theorem done_any (w : World) (a : Option Addr) (n cap : Nat) (f : List ByteArray) (c : Dk.Call) (y : Int) (hS : SliceIs w 9 1 a n cap (f.map Value.string)) (hn : n = f.length) (hn2 : n ≤ 16) (hf : c.file < n) (hc : c.cut = true → c.n ≤ (Dk.txt f c.file).size) (hs : (Dk.txt f c.file).size + c.s.size ≤ 1073741824) :
    Calls Try.prog 44 #[.slice a n cap, .agg #[.int .i64 c.file, .bool c.cut, .int .i64 c.n, .string c.s], .int .i64 y] w fun e w' => ∃ a' cap', e = .returned (.slice a' n cap') ∧ SliceIs w' 9 1 a' n cap' ((doneF f c y).map Value.string) ∧ Below w.heap.size w w' ∧ ∀ k ∈ blks a', w.heap.size ≤ k := by
  have hO0 := (Own.refl w).alloc (.cells #[.int .i64 c.file, .bool c.cut, .int .i64 c.n, .string c.s] 73 (0, 0))
  have hb0 : (w.alloc (.cells #[.int .i64 c.file, .bool c.cut, .int .i64 c.n, .string c.s] 73 (0, 0))).heap[w.heap.size]? = some (.cells #[.int .i64 c.file, .bool c.cut, .int .i64 c.n, .string c.s] 73 (0, 0)) := heap_alloc_new w _
  obtain ⟨s', cap', w2, hr, hS2, hO2, hfr⟩ := copy_s (w.alloc (.cells #[.int .i64 c.file, .bool c.cut, .int .i64 c.n, .string c.s] 73 (0, 0))) a n cap f (hS.alloc _) hn (by omega)
  rw [World.size_alloc] at hr
  have hb2 := (hO2.below.block _ (blk_lt hb0)).trans hb0
  obtain ⟨g, off, rfl, hg, hcell, hfz⟩ := hS2.at1 c.file (by omega)
  have q0 : w2.cell? ⟨w.heap.size, 0, none⟩ = some (.int .i64 c.file) := by rw [cell_of_row w2 _ _ _ _ _ hb2]; rfl
  have q1 : w2.cell? ⟨w.heap.size, 1, none⟩ = some (.bool c.cut) := by rw [cell_of_row w2 _ _ _ _ _ hb2]; rfl
  have q2 : w2.cell? ⟨w.heap.size, 2, none⟩ = some (.int .i64 c.n) := by rw [cell_of_row w2 _ _ _ _ _ hb2]; rfl
  have q3 : w2.cell? ⟨w.heap.size, 3, none⟩ = some (.string c.s) := by rw [cell_of_row w2 _ _ _ _ _ hb2]; rfl
  have HS2 := Lib.hid hS2
  have HOW := Lib.hid (hO0.trans (hO2.below.mono (by simp)))
  have HFR : Hid (∀ k ∈ blks (some ⟨g, off, none⟩), w.heap.size ≤ k) := Lib.hid (fun k hk => by have := hfr k hk; simp at this; omega)
  have hfI : (0 : Int) ≤ c.file ∧ (c.file : Int) < n := by omega
  have HFN := Lib.hid hf
  cases hcut : c.cut with
  | true =>
    have hk := hc hcut
    have hkI : (0 : Int) ≤ c.n ∧ (c.n : Int) ≤ (Dk.txt f c.file).size := by omega
    have HE : Hid (doneF f c y = f.set c.file ((Dk.txt f c.file).extract 0 c.n)) := Lib.hid (by unfold doneF; rw [if_pos hcut])
    rw [hcut] at hr q1
    clear hO0 hb0 hS2 hO2 hfr hb2 hS hn hn2 hf hc hs hk hcut
    generalize Dk.txt f c.file = tf at *
    go_enter Try.func44, Try.ntmps44
    go_wp2_with fail
    go_region
    go_wp2_with fail
    go_ret
    refine ⟨some ⟨g, off, none⟩, cap', rfl, ?_, ((HOW.out.setCell (p := ⟨g, off + c.file, none⟩) (HFR.out g (by simp)) _).drew).below, HFR.out⟩
    rw [HE.out, ← map_set_str]
    exact (HS2.out.set1 c.file HFN.out _).keep fun _ _ => rfl
  | false =>
    have HE : Hid (doneF f c y = f.set c.file (Dk.txt f c.file ++ Dk.piece c.s y)) := Lib.hid (by unfold doneF; rw [if_neg (by simp [hcut])])
    have hmax := fun w => run_max2 Try.prog w 3 y 0
    have hmin := fun w => run_min2 Try.prog w 3 (max y 0) c.s.size
    have hps : 0 ≤ min (max y 0) (c.s.size : Int) ∧ min (max y 0) (c.s.size : Int) ≤ c.s.size ∧ c.s.extract 0 (min (max y 0) (c.s.size : Int)).toNat = Dk.piece c.s y := by
      refine ⟨by omega, by omega, ?_⟩
      unfold Dk.piece; congr 1; omega
    obtain ⟨pc1, pc2, pc3⟩ := hps
    have hcat : ¬ 9223372036854775807 < (Dk.txt f c.file).size + (Dk.piece c.s y).size := by have := Dk.piece_size c.s y; omega
    rw [hcut] at hr q1
    clear hO0 hb0 hS2 hO2 hfr hb2 hS hn hn2 hf hc hs hcut
    generalize Dk.txt f c.file = tf at *
    generalize Dk.piece c.s y = pc at *
    generalize max y 0 = m1 at *
    generalize min m1 (c.s.size : Int) = m2 at *
    go_enter Try.func44, Try.ntmps44
    go_wp2_with fail
    go_region
    go_wp2_with fail
    go_ret
    refine ⟨some ⟨g, off, none⟩, cap', rfl, ?_, ((HOW.out.setCell (p := ⟨g, off + c.file, none⟩) (HFR.out g (by simp)) _).drew).below, HFR.out⟩
    rw [HE.out, ← map_set_str]
    exact (HS2.out.set1 c.file HFN.out _).keep fun _ _ => rfl

end Go.Proofs.Ytickdhlhafifhaa
