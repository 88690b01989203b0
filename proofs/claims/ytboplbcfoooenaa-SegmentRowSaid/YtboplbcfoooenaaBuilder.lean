/-
  THE WALKS of strings.Builder: copyCheck, WriteByte, String.
-/
import Derived.Test.YtboplbcfoooenaaQuietLoad
import Derived.Test.YtboplbcfoooenaaShelf
import Derived.Laws.AppendOwn
import Derived.Lib.Builder
import Derived.Laws.Externs
import Derived.Test.YtboplbcfoooenaaBytes8
namespace Go.Proofs.Ytboplbcfoooenaa
open Go.RowKit

attribute [local go_sem ↓ high] appSem_eq

/-- A builder in block b that holds the bytes l. -/
def Bld (B b : Nat) (l : List UInt8) (w : World) : Prop := Lib.IsBuilder 71 5 B b (Lib.byteCells l) w
theorem Bld.new (w : World) : Bld w.heap.size w.heap.size [] (w.alloc (.cells #[.pointer none, .slice none 0 0] 71)) :=
  .inl ⟨Nat.le_refl _, .slice none 0 0, heap_alloc_new _ _, World.ownsRow_nil _ _ _ _, by simp [Value.ownBlock]⟩

theorem bldInfo : (Try.prog.info? 71).map (·.size) = some 2 := by kernel_rfl
theorem bldLies : liesAt Try.prog Try.prog.depth 71 (2 / Try.prog.cellsOf 71) 0 71 1 = true := by kernel_rfl
theorem byteInfo : (Try.prog.info? 5).map (fun i => (i.zero, i.size, i.bytes)) = some (some (.int .u8 0), 1, 1) := by kernel_rfl
set_option maxHeartbeats 400000 in
theorem bld_check (B b : Nat) (bs : List Value) (w : World) (h : Lib.IsBuilder 71 5 B b bs w) :
    Calls Try.prog 34 #[.pointer (some ⟨b, 0, none⟩)] w fun e w' => e = .returned (.tuple #[]) ∧ Lib.BuilderAt 71 5 B b (.pointer (some ⟨b, 0, none⟩)) bs w' ∧ Below B w w' := by
  obtain ⟨j, hj, hjs⟩ := Option.map_eq_some_iff.1 bldInfo
  rcases h with h | h
  · have h0 := h.cell0
    have hsh := h.shape
    have hfz := h.frozen0
    have H := Lib.hid h
    have r1 := Lib.run_to_unsafe w ⟨b, 0, none⟩ Try.underlying69 Try.underlying91 hj (by rw [hjs]; decide) hsh (Nat.zero_lt_succ 1)
    have r2 := Lib.run_from_unsafe w ⟨b, 0, none⟩ Try.underlying91 Try.underlying69 hj hsh bldLies
    clear h
    go_enter Try.func34, Try.ntmps34
    go_wp2
    rw [run_callFunc_extern Try.func36 (by kernel_rfl) (by kernel_rfl) (by kernel_rfl) (e := Extern.AbiNoEscape.same) (by kernel_rfl)]
    rw [Lib.run_noEscape]
    simp only [Result.andThen]
    rw [Oper.upon_value]
    go_wp2
    go_end0
    exact ⟨rfl, H.out.used _, (Below.refl B w).setCell (p := ⟨b, 0, none⟩) H.out.1 _⟩
  · have h0 := h.cell0
    have H := Lib.hid h
    have r1 := Lib.run_neq_ptr_same w ⟨b, 0, none⟩ Try.underlying69 hj
    clear h
    go_enter Try.func34, Try.ntmps34
    go_wp2
    go_end0
    exact ⟨rfl, H.out, Below.refl B _⟩

set_option maxHeartbeats 1000000 in
theorem bld_byte (B b : Nat) (l : List UInt8) (c : UInt8) (w : World) (h : Bld B b l w) (hlen : l.length + 1 ≤ 140737488355328) (hBw : B ≤ w.heap.size) :
    Calls Try.prog 27 #[.pointer (some ⟨b, 0, none⟩), .int .u8 (by8 c)] w fun e w' => e = .returned .nilIface ∧ Bld B b (l ++ [c]) w' ∧ Below B w w' := by
  obtain ⟨i0, hi, hz0, hz1, hz2⟩ := info_parts byteInfo
  have HC := Lib.hid (bld_check B b _ w h)
  have HL := Lib.hid hlen
  clear hlen h
  go_enter Try.func27, Try.ntmps27
  go_wp2_with fail
  refine HC.out.mono ?_
  rintro e w1 ⟨rfl, h1, hb1⟩
  obtain ⟨hB, v, hbk, hown, hne⟩ := h1
  have c0 : w1.cell? ⟨b, 0, none⟩ = some (.pointer (some ⟨b, 0, none⟩)) := by rw [cell_of_row _ _ _ _ _ _ hbk]; rfl
  have c1 : w1.cell? ⟨b, 1, none⟩ = some v := by rw [cell_of_row _ _ _ _ _ _ hbk]; rfl
  obtain ⟨v', w2, hr, hown', hgrow, _⟩ := run_append_own (P := Try.prog) (w1.alloc (.cells #[.int .u8 (by8 c)] 5)) B 39 39 5 i0 (.int .u8 0) 1 1 Try.underlying39 hi hz0 hz1 hz2 rfl (by decide) v (Lib.byteCells l).length (Lib.byteCells l) (hown.alloc _) ⟨w1.heap.size, 0, none⟩ 1 1 [.int .u8 (by8 c)] rfl
    (by intro j u hj; match j, hj with | 0, hj => simp at hj; subst hj; simp [Addr.add]) (by intro u hu; simp at hu; subst hu; rfl) (by have := HL.out; rw [Lib.byteCells_length]; unfold maxLen; omega) (by have := HL.out; rw [Lib.byteCells_length]; omega) (by have := hb1.size; simp; omega)
  change (appSem _ _ _).run _ _ = _ at hr
  have hlt := blk_lt hbk
  have hb2 : w2.heap[b]? = some (.cells #[.pointer (some ⟨b, 0, none⟩), v] 71 (0, 0)) := by
    rw [hgrow.block b (by simp; omega) (fun e => hne e.symm), Below.heap_alloc w1 _ b hlt]; exact hbk
  have d1 : w2.cell? ⟨b, 1, none⟩ = some v := by rw [cell_of_row _ _ _ _ _ _ hb2]; rfl
  have d2 : w2.frozen? ⟨b, 1, none⟩ = false := by simp [World.frozen?, hb2]
  have HB2 := Lib.hid hb2
  have HO := Lib.hid hown'
  have HN := Lib.hid hne
  have HG := Lib.hid hgrow
  have HB1 := Lib.hid hb1
  have HLt := Lib.hid (fun k hk => (hown.lt k hk).1)
  obtain ⟨a', cap', rfl, _, _⟩ := SliceIs.of_own hown'
  clear hb2 hown' hne hgrow hb1 hown hbk
  go_wp2
  go_ret
  refine ⟨rfl, .inr ?_, ?_⟩
  · exact Lib.BuilderAt.put (T := 71) (e := 5) hB HB2.out (bs' := Lib.byteCells (l ++ [c])) (by have := HO.out; rw [Lib.byteCells_append, List.length_append]; exact this) (by decide)
  · exact ((HB1.out.alloc (by have := HB1.out.size; omega) _).grown HG.out (by have := HB1.out.size; simp; omega) HLt.out).setCell (p := ⟨b, 1, none⟩) hB _

theorem bld_string (B b : Nat) (l : List UInt8) (w : World) (h : Bld B b l w) (hBw : B ≤ w.heap.size) :
    Calls Try.prog 28 #[.pointer (some ⟨b, 0, none⟩)] w fun e w' => e = .returned (.string ⟨l.toArray⟩) ∧ Below B w w' :=
  Try.Builder_String_any B b l w h hBw

end Go.Proofs.Ytboplbcfoooenaa
