/-
  THE WALKS of To, and of the document's answer for layer 21.
-/
import Derived.Test.YtmlilfdaacchjaaNetRest
namespace Go.Proofs.Ytmlilfdaacchjaa
open Go.RowKit

def toCount (node : BitVec 32) (l : List Gram) : Nat := (l.filter fun g => g.to == node).length
theorem toCount_le (node : BitVec 32) (l : List Gram) : toCount node l ≤ l.length := List.length_filter_le _ _
theorem toCount_succ (node : BitVec 32) (l : List Gram) (k : Nat) (h : k < l.length) : toCount node (l.take (k + 1)) = toCount node (l.take k) + if l[k].to == node then 1 else 0 := by
  rw [List.take_succ_eq_append_getElem h]
  unfold toCount
  rw [List.filter_append, List.length_append]
  by_cases hb : (l[k].to == node) = true <;> simp [hb]

theorem SliceIs.elem {w : World} {g off cap : Nat} {l : List Gram} (h : SliceIs w 33 3 (some ⟨g, off, none⟩) l.length cap (gall l)) (k : Nat) (hk : k < l.length) : CellsAt w g (off + k * 3) (gcells l[k]) := by
  have hc := h.cells.sub (k * 3) 3 (by rw [gall_length]; omega)
  rwa [gall_at l k hk] at hc

set_option maxRecDepth 20000 in
set_option maxHeartbeats 1000000 in
theorem net_to (w : World) (b : Nat) (a : Option Addr) (cap : Nat) (l : List Gram) (node : BitVec 32) (h : NetAt w b a cap l) :
    Calls Try.prog 19 #[.pointer (some ⟨b, 0, none⟩), .int .u32 (w32 node)] w fun e w' => e = .returned (.int .i64 (toCount node l)) ∧ Below w.heap.size w w' := by
  have hfw : (l.length : Int) ≤ 1024 := by have := h.few; omega
  have HA := Lib.hid (net_all w b a cap l h)
  clear h
  go_enter Try.func19, Try.ntmps19
  go_wp2_with fail
  refine HA.out.mono ?_
  rintro e w1 ⟨a', cap', rfl, hs, hb, hn⟩
  have HS := Lib.hid hs
  have hO := (Own.refl w).trans hb
  have HN : Hid (∀ k ∈ blks a', k < w1.heap.size) := Lib.hid hs.lt
  clear hs hb hn HA
  go_wp2_with fail
  go_loopw [4, 10] (fun vm vi wr => ∃ k : Nat, k ≤ l.length ∧ vi = .int .i64 k ∧ vm = .int .i64 (toCount node (l.take k)) ∧ Own w.heap.size w wr ∧ SliceIs wr 33 3 a' l.length cap' (gall l)) (fun _ vi _ => l.length - (intOf vi).toNat)
  case atStart => exact ⟨0, Nat.zero_le _, rfl, rfl, hO, HS.out⟩
  case round =>
    clear hO HS HN
    obtain ⟨k, hk, rfl, rfl, hO, hs⟩ := hrel
    by_cases hlt : k < l.length
    · obtain ⟨g, off, rfl⟩ := hs.there (by omega)
      have hi : (0 : Int) ≤ k ∧ (k : Int) < l.length := by omega
      have HC := Lib.hid (hs.elem k hlt)
      have HS := Lib.hid hs
      have hcnt : (toCount node (l.take k) : Int) ≤ 1024 := by have := toCount_le node (l.take k); simp at this; omega
      have HT := Lib.hid (toCount_succ node l k hlt)
      have he : (w32 l[k].to == w32 node) = (l[k].to == node) := eq32 _ _
      clear hs
      cases hb : (l[k].to == node) with
      | true =>
        rw [hb] at he HT
        go_wp2_with (first
          | (refine wpList_load_at rfl 33 (.tmp 12) rfl g (off + k * 3) rfl (gcells l[k]) _ HC.out Try.underlying33 rfl (by kernel_rfl) ?_)
          | (refine wpList_store_all rfl 33 (.tmp 6) (.tmp 13) rfl wr.heap.size _ rfl rfl 33 _ (heap_alloc_new _ _) (by kernel_rfl) rfl (by intro v hv; exact gcells_one _ v (by simpa using hv)) ?_; intro w2 hp
             have hO2 := (hO.alloc _).put hp hO.size
             have hS2 := (HS.out.alloc _).keep (fun x hx => hp.other x (by have := HS.out.lt x hx; omega))
             have HS2 := Lib.hid hS2
             have hc2 := cell_of_row w2 wr.heap.size 1 _ _ _ hp.here
             simp only [gcells, List.getElem?_toArray, List.getElem?_cons_succ, List.getElem?_cons_zero] at hc2
             clear hS2 hp))
        go_roundw
        case rel => exact ⟨k + 1, by omega, by go_num, by rw [HT.out]; go_num, hO2, HS2.out⟩
        case measure => simp [intOf]; omega
      | false =>
        rw [hb] at he HT
        go_wp2_with (first
          | (refine wpList_load_at rfl 33 (.tmp 12) rfl g (off + k * 3) rfl (gcells l[k]) _ HC.out Try.underlying33 rfl (by kernel_rfl) ?_)
          | (refine wpList_store_all rfl 33 (.tmp 6) (.tmp 13) rfl wr.heap.size _ rfl rfl 33 _ (heap_alloc_new _ _) (by kernel_rfl) rfl (by intro v hv; exact gcells_one _ v (by simpa using hv)) ?_; intro w2 hp
             have hO2 := (hO.alloc _).put hp hO.size
             have hS2 := (HS.out.alloc _).keep (fun x hx => hp.other x (by have := HS.out.lt x hx; omega))
             have HS2 := Lib.hid hS2
             have hc2 := cell_of_row w2 wr.heap.size 1 _ _ _ hp.here
             simp only [gcells, List.getElem?_toArray, List.getElem?_cons_succ, List.getElem?_cons_zero] at hc2
             clear hS2 hp))
        go_roundw
        case rel => exact ⟨k + 1, by omega, by go_num, by rw [HT.out]; simp, hO2, HS2.out⟩
        case measure => simp [intOf]; omega
    · obtain rfl : k = l.length := by omega
      go_wp2
      go_ret
      exact ⟨ret_u (by rw [List.take_length]), hO.below⟩

end Go.Proofs.Ytmlilfdaacchjaa
