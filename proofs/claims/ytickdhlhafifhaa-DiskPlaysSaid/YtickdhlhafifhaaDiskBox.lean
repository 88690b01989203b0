/-
  DISKS IN MEMORY: what a disk's block holds, cell by cell, and what stores make of it; calls that are loose.
-/
import Derived.Test.YtickdhlhafifhaaDiskMath
import Derived.Test.YtickdhlhafifhaaRowMore
import Derived.Test.YtickdhlhafifhaaQuietLoad
namespace Go.Proofs.Ytickdhlhafifhaa
open Go.RowKit

abbrev padd (f : List ByteArray) : List ByteArray := f ++ List.replicate (16 - f.length) Dk.none
theorem padd_length {f : List ByteArray} (h : f.length ≤ 16) : (padd f).length = 16 := by simp; omega
theorem padd_get (f : List ByteArray) (i : Nat) (hi : i < 16) : (padd f)[i]? = some (Dk.txt f i) := by
  unfold padd Dk.txt
  rw [List.getD_eq_getElem?_getD]
  rcases Nat.lt_or_ge i f.length with h | h
  · rw [List.getElem?_append_left h, List.getElem?_eq_getElem h]; rfl
  · rw [List.getElem?_append_right h, List.getElem?_eq_none h, List.getElem?_replicate, if_pos (by omega)]; rfl
theorem padd_set (f : List ByteArray) (i : Nat) (s : ByteArray) (h : i < f.length) : (padd f).set i s = padd (f.set i s) := by
  unfold padd; rw [List.set_append_left _ _ h, List.length_set]
def strs (f : List ByteArray) : List Value := (padd f).map Value.string
theorem strs_length {f : List ByteArray} (h : f.length ≤ 16) : (strs f).length = 16 := by unfold strs; rw [List.length_map, padd_length h]
theorem strs_get (f : List ByteArray) (i : Nat) (hi : i < 16) : (strs f)[i]? = some (.string (Dk.txt f i)) := by
  unfold strs; rw [List.getElem?_map, padd_get f i hi]; rfl
theorem strs_set (f : List ByteArray) (i : Nat) (s : ByteArray) (h : i < f.length) : (strs f).set i (.string s) = strs (f.set i s) := by
  unfold strs; rw [← padd_set f i s h, List.map_set]
theorem strs_one (f : List ByteArray) : ∀ v ∈ strs f, v.oneCell' = true := by
  intro v hv; unfold strs at hv; simp only [List.mem_map] at hv; obtain ⟨x, _, rfl⟩ := hv; rfl
/-- A disk's cells. -/
def dcs (n room : Int) (nw sr : List ByteArray) (a : Option Addr) (len cap : Nat) (fuse : Int) : List Value := [.int .i64 n, .int .i64 room] ++ (strs nw ++ (strs sr ++ [.slice a len cap, .int .i64 fuse]))
structure DBox (w : World) (p : Nat) (n room : Nat) (nw sr : List ByteArray) (a : Option Addr) (len cap : Nat) (fuse : Int) : Prop where
  box : w.heap[p]? = some (.cells (dcs n room nw sr a len cap fuse).toArray 63 (0, 0))
  ln : nw.length = n
  ls : sr.length = n
  n16 : n ≤ 16
section
variable {n room : Int} {nw sr : List ByteArray} {a : Option Addr} {len cap : Nat} {fuse : Int}
theorem dcs_length (h1 : nw.length ≤ 16) (h2 : sr.length ≤ 16) : (dcs n room nw sr a len cap fuse).length = 36 := by
  unfold dcs; simp only [List.length_append, strs_length h1, strs_length h2, List.length_cons, List.length_nil]
theorem dcs_now (h1 : nw.length ≤ 16) (i : Nat) (hi : i < 16) : (dcs n room nw sr a len cap fuse)[2 + i]? = some (.string (Dk.txt nw i)) := by
  unfold dcs
  rw [List.getElem?_append_right (by simp), List.getElem?_append_left (by rw [strs_length h1]; simp; omega)]
  simp only [List.length_cons, List.length_nil, Nat.zero_add, Nat.reduceAdd, Nat.add_sub_cancel_left]
  exact strs_get nw i hi
theorem dcs_tail (h1 : nw.length ≤ 16) (h2 : sr.length ≤ 16) (i : Nat) : (dcs n room nw sr a len cap fuse)[34 + i]? = [.slice a len cap, .int .i64 fuse][i]? := by
  have h1' := strs_length h1
  have h2' := strs_length h2
  unfold dcs
  rw [List.getElem?_append_right (by simp; omega), List.getElem?_append_right (by simp only [List.length_cons, List.length_nil]; omega), List.getElem?_append_right (by simp only [List.length_cons, List.length_nil]; omega)]
  congr 1
  simp only [List.length_cons, List.length_nil]; omega
theorem dcs_set_now (h1 : nw.length ≤ 16) (i : Nat) (hi : i < nw.length) (s : ByteArray) : (dcs n room nw sr a len cap fuse).set (2 + i) (.string s) = dcs n room (nw.set i s) sr a len cap fuse := by
  unfold dcs
  rw [List.set_append_right _ _ (by simp), List.set_append_left _ _ (by rw [strs_length h1]; simp; omega)]
  simp only [List.length_cons, List.length_nil, Nat.zero_add, Nat.reduceAdd, Nat.add_sub_cancel_left]
  rw [strs_set nw i s hi]
theorem dcs_set_tail (h1 : nw.length ≤ 16) (h2 : sr.length ≤ 16) (i : Nat) (v : Value) : (dcs n room nw sr a len cap fuse).set (34 + i) v = [.int .i64 n, .int .i64 room] ++ (strs nw ++ (strs sr ++ [Value.slice a len cap, .int .i64 fuse].set i v)) := by
  have h1' := strs_length h1
  have h2' := strs_length h2
  unfold dcs
  rw [List.set_append_right _ _ (by simp; omega), List.set_append_right _ _ (by simp only [List.length_cons, List.length_nil]; omega), List.set_append_right _ _ (by simp only [List.length_cons, List.length_nil]; omega)]
  congr 4
  simp only [List.length_cons, List.length_nil]; omega
theorem dcs_take_now (h1 : nw.length ≤ 16) : ((dcs n room nw sr a len cap fuse).drop 2).take 16 = strs nw := by
  unfold dcs
  have h1' := strs_length h1
  show ((strs nw ++ (strs sr ++ [Value.slice a len cap, .int .i64 fuse])).take 16) = strs nw
  rw [← h1', List.take_left']; rfl
theorem dcs_take_sure (h1 : nw.length ≤ 16) (h2 : sr.length ≤ 16) : ((dcs n room nw sr a len cap fuse).drop 18).take 16 = strs sr := by
  have h1' := strs_length h1
  have h2' := strs_length h2
  have e : (dcs n room nw sr a len cap fuse).drop 18 = strs sr ++ [Value.slice a len cap, .int .i64 fuse] := by
    unfold dcs
    show ((strs nw ++ (strs sr ++ [Value.slice a len cap, .int .i64 fuse])).drop 16) = _
    rw [← h1', List.drop_left']; rfl
  rw [e, ← h2', List.take_left']; rfl
theorem dcs_put_sure (h1 : nw.length ≤ 16) (h2 : sr.length ≤ 16) (f : List ByteArray) : (dcs n room nw sr a len cap fuse).take 18 ++ strs f ++ (dcs n room nw sr a len cap fuse).drop 34 = dcs n room nw f a len cap fuse := by
  have h1' := strs_length h1
  have h2' := strs_length h2
  have e1 : (dcs n room nw sr a len cap fuse).take 18 = [.int .i64 n, .int .i64 room] ++ strs nw := by
    unfold dcs
    rw [← List.append_assoc, List.take_left' (by simp; omega)]
  have e2 : (dcs n room nw sr a len cap fuse).drop 34 = [Value.slice a len cap, .int .i64 fuse] := by
    unfold dcs
    rw [← List.append_assoc, ← List.append_assoc, List.drop_left' (by simp; omega)]
  rw [e1, e2]; unfold dcs; simp [List.append_assoc]
theorem dcs_put_now (h1 : nw.length ≤ 16) (f : List ByteArray) : (dcs n room nw sr a len cap fuse).take 2 ++ strs f ++ (dcs n room nw sr a len cap fuse).drop 18 = dcs n room f sr a len cap fuse := by
  have h1' := strs_length h1
  have e1 : (dcs n room nw sr a len cap fuse).take 2 = [.int .i64 n, .int .i64 room] := by unfold dcs; rfl
  have e2 : (dcs n room nw sr a len cap fuse).drop 18 = strs sr ++ [Value.slice a len cap, .int .i64 fuse] := by
    unfold dcs
    rw [← List.append_assoc, List.drop_left' (by simp; omega)]
  rw [e1, e2]; unfold dcs; simp [List.append_assoc]
end
section
variable {w w' : World} {p n room : Nat} {nw sr : List ByteArray} {a : Option Addr} {len cap : Nat} {fuse : Int}
theorem DBox.keep (h : DBox w p n room nw sr a len cap fuse) (hb : w'.heap[p]? = w.heap[p]?) : DBox w' p n room nw sr a len cap fuse := ⟨hb.trans h.box, h.ln, h.ls, h.n16⟩
theorem DBox.lt (h : DBox w p n room nw sr a len cap fuse) : p < w.heap.size := blk_lt h.box
theorem DBox.l1 (h : DBox w p n room nw sr a len cap fuse) : nw.length ≤ 16 := by rw [h.ln]; exact h.n16
theorem DBox.l2 (h : DBox w p n room nw sr a len cap fuse) : sr.length ≤ 16 := by rw [h.ls]; exact h.n16
theorem DBox.facts (h : DBox w p n room nw sr a len cap fuse) :
    w.cell? ⟨p, 0, none⟩ = some (.int .i64 n) ∧ w.cell? ⟨p, 1, none⟩ = some (.int .i64 room) ∧ w.cell? ⟨p, 34, none⟩ = some (.slice a len cap) ∧ w.cell? ⟨p, 35, none⟩ = some (.int .i64 fuse) := by
  have h2 := fun i => dcs_tail (n := n) (room := room) (a := a) (len := len) (cap := cap) (fuse := fuse) h.l1 h.l2 i
  refine ⟨?_, ?_, ?_, ?_⟩
  · rw [cell_of_row w p _ _ _ _ h.box]; rfl
  · rw [cell_of_row w p _ _ _ _ h.box]; rfl
  · rw [cell_of_row w p _ _ _ _ h.box, List.getElem?_toArray]; exact h2 0
  · rw [cell_of_row w p _ _ _ _ h.box, List.getElem?_toArray]; exact h2 1
theorem DBox.nowAt (h : DBox w p n room nw sr a len cap fuse) (i : Nat) (hi : i < 16) : w.cell? ⟨p, 2 + i, none⟩ = some (.string (Dk.txt nw i)) := by
  rw [cell_of_row w p _ _ _ _ h.box, List.getElem?_toArray]; exact dcs_now h.l1 i hi
theorem DBox.frozen (h : DBox w p n room nw sr a len cap fuse) (i : Nat) : w.frozen? ⟨p, i, none⟩ = false := by
  simp [World.frozen?, h.box]
theorem DBox.setNow (h : DBox w p n room nw sr a len cap fuse) (i : Nat) (hi : i < n) (s : ByteArray) : DBox (w.setCell ⟨p, 2 + i, none⟩ (.string s)) p n room (nw.set i s) sr a len cap fuse := by
  refine ⟨?_, by rw [List.length_set]; exact h.ln, h.ls, h.n16⟩
  rw [heap_set _ h.box, List.setIfInBounds_toArray, dcs_set_now h.l1 i (by rw [h.ln]; exact hi)]
theorem DBox.setLoose (h : DBox w p n room nw sr a len cap fuse) (a' : Option Addr) (len' cap' : Nat) : DBox (w.setCell ⟨p, 34, none⟩ (.slice a' len' cap')) p n room nw sr a' len' cap' fuse := by
  refine ⟨?_, h.ln, h.ls, h.n16⟩
  rw [heap_set _ h.box, List.setIfInBounds_toArray, show (34 : Nat) = 34 + 0 from rfl, dcs_set_tail h.l1 h.l2 0]; rfl
theorem DBox.setFuse (h : DBox w p n room nw sr a len cap fuse) (f : Int) : DBox (w.setCell ⟨p, 35, none⟩ (.int .i64 f)) p n room nw sr a len cap f := by
  refine ⟨?_, h.ln, h.ls, h.n16⟩
  rw [heap_set _ h.box, List.setIfInBounds_toArray, show (35 : Nat) = 34 + 1 from rfl, dcs_set_tail h.l1 h.l2 1]; rfl
end

end Go.Proofs.Ytickdhlhafifhaa
