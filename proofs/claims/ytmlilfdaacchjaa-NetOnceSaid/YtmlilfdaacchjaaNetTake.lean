/-
  THE WALKS of Take, Drop and Double.
-/
import Derived.Test.YtmlilfdaacchjaaNetSlices
import Derived.Deep.RegionWith
namespace Go.Proofs.Ytmlilfdaacchjaa
open Go.RowKit

theorem gall_one (l : List Gram) : ∀ u ∈ gall l, u.oneCell' = true := by
  intro u hu
  simp only [gall, List.mem_flatMap] at hu
  obtain ⟨g, _, hu⟩ := hu
  exact gcells_one g u hu
theorem gall_erase (l : List Gram) (k : Nat) (h : k < l.length) : (gall l).take (k * 3) ++ (gall l).drop ((k + 1) * 3) = gall (l.eraseIdx k) := by
  rw [List.eraseIdx_eq_take_drop_succ, gall_append]
  have e : l = l.take k ++ l.drop k := by simp
  have e2 : l = l.take (k + 1) ++ l.drop (k + 1) := by simp
  have h1 : (gall l).take (k * 3) = gall (l.take k) := by
    conv => lhs; rw [e, gall_append]
    rw [List.take_append_of_le_length (by rw [gall_length]; simp; omega), List.take_of_length_le (by rw [gall_length]; simp; omega)]
  have h2 : (gall l).drop ((k + 1) * 3) = gall (l.drop (k + 1)) := by
    conv => lhs; rw [e2, gall_append]
    rw [List.drop_append_of_le_length (by rw [gall_length]; simp; omega), List.drop_eq_nil_of_le (by rw [gall_length]; simp; omega), List.nil_append]
  rw [h1, h2]

/-- What the closure of Take leaves. -/
def TakeDone (w : World) (B1 b : Nat) (a : Option Addr) (cap : Nat) (l : List Gram) (k : Nat) (hk : k < l.length) (e : Ending) (w' : World) : Prop :=
  e = .returned (.int .i64 0) ∧ w'.heap[B1]? = some (.cells (gcells l[k]).toArray 33 (0, 0)) ∧ NetAt w' b a cap (l.eraseIdx k) ∧ Upd w w' (B1 :: b :: blks a)

theorem take_close {w w1 w2 : World} {B1 b : Nat} {a : Option Addr} {cap : Nat} {l : List Gram} {k : Nat} {hk : k < l.length} (n1 : B1 ∉ b :: blks a) (ne : b ∉ blks a) (hsz : B1 < w.heap.size) (hp : PutAt w w1 B1 (gcells l[k]).toArray 33)
    (hs : SliceIs w2 33 3 a (l.length - 1) cap (gall (l.eraseIdx k))) (hu : Upd w1.drew w2 (blks a)) (hb : w2.heap[b]? = some (.cells #[.slice a l.length cap, .bool true] 54 (0, 0))) (hf : l.length ≤ 1024) :
    TakeDone w B1 b a cap l k hk (.returned (.int .i64 0)) (w2.setCell ⟨b, 0, none⟩ (.slice a (l.length - 1) cap)) := by
  have hlen : (l.eraseIdx k).length = l.length - 1 := List.length_eraseIdx_of_lt hk
  have n1b : B1 ≠ b := fun e => n1 (by simp [e])
  have n1a : B1 ∉ blks a := fun e => n1 (by simp [e])
  refine ⟨rfl, ?_, ⟨?_, ?_, by rw [hlen]; omega⟩, ?_⟩
  · rw [heap_setCell_other _ _ _ _ n1b, hu.keep B1 (by simp [hp.size]; omega) n1a]
    exact hp.here
  · rw [heap_set _ hb, hlen]; rfl
  · rw [hlen]
    exact hs.keep fun x hx => heap_setCell_other _ _ _ _ (by intro e; subst e; exact ne hx)
  · have u0 : Upd w w1 (B1 :: b :: blks a) := (Upd.refl _ _).put hp (.inl (by simp))
    exact ((u0.drew.trans hu (fun x hx => .inl (by simp [hx]))).setCell (.inl (by simp)) _)

set_option maxRecDepth 20000 in
set_option maxHeartbeats 600000 in
theorem take_closure (w : World) (B0 B1 b : Nat) (a : Option Addr) (cap : Nat) (l : List Gram) (k : Nat) (hk : k < l.length) (h : NetAt w b a cap l) (h0 : w.cell? ⟨B0, 0, none⟩ = some (.pointer (some ⟨b, 0, none⟩)))
    (cs : Array Value) (hcs : cs.size = 3) (h1 : w.heap[B1]? = some (.cells cs 33 (0, 0))) (n1 : B1 ∉ b :: blks a) (n0 : B0 ∉ b :: blks a) (n01 : B0 ≠ B1) :
    Calls Try.prog 21 #[.int .i64 k, .pointer (some ⟨B0, 0, none⟩), .pointer (some ⟨B1, 0, none⟩)] w fun e w' => TakeDone w B1 b a cap l k hk e w' := by
  obtain ⟨g, off, rfl⟩ := h.row.there (by omega)
  have hf := h.field
  have hkI : (0 : Int) ≤ k ∧ (k : Int) < l.length := by omega
  have hfw : (l.length : Int) ≤ 1024 := by have := h.few; omega
  have hc := h.row.cells.sub (k * 3) 3 (by rw [gall_length]; omega)
  rw [gall_at l k hk] at hc
  have HC := Lib.hid hc
  have hsz := blk_lt h1
  have H := Lib.hid h
  have H0 := Lib.hid h0
  have H1 := Lib.hid h1
  have HN1 := Lib.hid n1
  have HN0 := Lib.hid n0
  have HN01 := Lib.hid n01
  clear h hc h1 n1 n0 n01
  go_enter Try.func21, Try.ntmps21
  go_wp2_with (first
    | (refine wpList_load_at rfl 33 (.tmp 10) rfl g (off + k * 3) rfl (gcells l[k]) _ HC.out Try.underlying33 rfl (by kernel_rfl) ?_)
    | (refine wpList_store_all rfl 33 (.tmp 2) (.tmp 11) rfl B1 _ rfl rfl 33 cs H1.out (by kernel_rfl) hcs.symm (by intro v hv; exact gcells_one _ v (by simpa using hv)) ?_; intro w1 hp))
  simp only [Act.put, List.setIfInBounds_toArray, List.set_cons_succ, List.set_cons_zero]
  have N1 : NetAt w1 b (some ⟨g, off, none⟩) cap l := H.out.keep fun x hx => hp.other x (by intro e; subst e; exact HN1.out hx)
  have c0 : w1.cell? ⟨B0, 0, none⟩ = some (.pointer (some ⟨b, 0, none⟩)) := by rw [World.cell?_of_block (w := w) (hp.other B0 HN01.out)]; exact H0.out
  have cb := N1.field
  have R1 := Lib.hid N1.row.drew
  have B1' := Lib.hid N1.here
  have E1 := Lib.hid N1.ne
  have L1 := Lib.hid N1.lt
  have HP := Lib.hid hp
  have HL : Hid (l.length ≤ 4611686018427387904) := Lib.hid (by have := N1.few; omega)
  have HB0 : Hid (B0 < w1.heap.size) := Lib.hid (World.block_lt_of_cell? w1 _ c0)
  have HF := Lib.hid N1.few
  clear hp h0 hf N1 H0
  have hwr : IntKind.i64.wrap ((k : Int) + 1) = (k : Int) + 1 := IntWalk.i64_in _ (by omega)
  go_region_with
    ((go_at_call 22
      with_reducible refine (gram_delete w1.drew (some ⟨g, off, none⟩) l.length cap k (gall l) R1.out (gall_one l) hk HL.out).mono ?_
      rintro e w2 ⟨rfl, hs, hu⟩
      rw [gall_erase l k hk] at hs
      have hb : w2.heap[b]? = _ := (hu.keep b (L1.out b (by simp)) E1.out).trans B1'.out
      have cb2 := cell_of_row w2 b 0 _ _ _ hb
      simp only [List.getElem?_toArray, List.getElem?_cons_zero] at cb2
      have fb2 := frozen_of_row w2 b 0 _ _ hb
      have c2 : w2.cell? ⟨B0, 0, none⟩ = some (.pointer (some ⟨b, 0, none⟩)) := by rw [World.cell?_of_block (w := w1.drew) (hu.keep B0 HB0.out (fun hx => HN0.out (by simp at hx; simp [hx])))]; exact c0
      have HS := Lib.hid hs
      have HU := Lib.hid hu
      have HB := Lib.hid hb
      clear hs hu hb))
  all_goals go_wp2
  all_goals go_ret
  all_goals exact take_close HN1.out E1.out hsz HP.out HS.out HU.out HB.out HF.out

end Go.Proofs.Ytmlilfdaacchjaa
