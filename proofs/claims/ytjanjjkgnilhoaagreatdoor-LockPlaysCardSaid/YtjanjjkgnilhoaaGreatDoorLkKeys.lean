/-
  THE WALKS: maps.Keys at the locks' map, slices.AppendSeq, Collect, SortedFunc at transactions' numbers.
-/
import Derived.RangeFuncNested
import Derived.RangeFuncBound
import Derived.RangeFuncCalls
import Derived.RangeFuncLeaves
import Derived.RangeFuncKeeps
import Derived.Shelf.Abstract
import Derived.Shelf.RegionOpen
import Derived.OwnWalkIn
import Derived.Sort.MapsRangeIn
import Derived.TacticsInMore
import Derived.RegionIn
import Derived.LoopNIn
import Derived.LoopIn
import Derived.Test.YtjanjjkgnilhoaaGreatDoorLkWho
import Derived.Test.YtjanjjkgnilhoaaGreatDoorQuietLoad
namespace Go.Proofs.YtjanjjkgnilhoaaGreatDoor
open Go.RowKit Go.Maps Go.Shelf

attribute [local go_sem] Oper.semAt_some

/-- What comes of the keys. -/
def KeyS (X : Lh.St) (ss : List Tb.Tx) : Prop := ss.Nodup ∧ (∀ t ∈ ss, In t ∧ Lh.row X t ≠ []) ∧ ∀ t, In t → Lh.row X t ≠ [] → t ∈ ss
def held (X : Lh.St) (t : Tb.Tx) : Bool := decide (Lh.row X t ≠ [])
theorem below_owns {W W' : World} {b n : Nat} {D : DataW Unit} (h : W.ownsMap Tryz.prog 35 RS b n D) (hb : Below W.heap.size W W') : W'.ownsMap Tryz.prog 35 RS b n D := by
  have hl := h.lt
  obtain ⟨es, c, e1, F, e2, e3⟩ := h
  exact ⟨es, c, (hb.block b hl).trans e1, F, e2, e3⟩

set_option maxRecDepth 100000 in
set_option maxHeartbeats 2000000 in
theorem keys_stops (m : Nat) (Bm b n : Nat) (D : DataW Unit) (X : Lh.St) (hX : X.length ≤ 4096) (w : World) (hS : SaysR w D X) (hm : w.heap[Bm]? = some (.cells #[.map (some b)] 55 (0, 0))) (hown : w.ownsMap Tryz.prog 35 RS b n D) :
    SeqStopsK Fence.wide m Tryz.prog 47 #[.pointer (some ⟨Bm, 0, none⟩)] (fun t => #[tval t]) KeepsWalks (KeyS X) (fun _ => True) 4096 w := fun l J Jx W hW hJ hJx hY h0 => by
  refine callsIn_of_wp Tryz.func47 rfl trivial ?_ rfl
  simp only [Tryz.ntmps47, List.size_toArray, List.length_cons, List.length_nil, Nat.reduceAdd, Nat.reduceSub, Array.replicate_succ, Array.replicate_zero, List.push_toArray, List.append_toArray, List.nil_append, List.cons_append]
  have hownW := below_owns hown (hW.mono (Nat.le_refl _))
  have hcm : W.cell? ⟨Bm, 0, none⟩ = some (.map (some b)) := by rw [cell_of_row _ _ _ _ _ _ ((hW.block Bm (blk_lt hm)).trans hm)]; rfl
  have HONLY := Lib.hid hS.only
  have HALL := Lib.hid hS.all
  have HX := Lib.hid hX
  clear hS hown hm hX
  gi_wp2_with (first
    | (gi_at_range; refine wpListIn_range_own _ rfl _ 55 rfl 35 36 tx_keyed Tryz.underlying55 RS b n D rfl hownW ?_; intro w0 hrg0 hg0 hs0)
    | gi_in)
  try go_frame
  have hK0 : Keys (held X) D (Maps.has D) [] := Keys.start (fun t ht h0 => HALL.out t ht (of_decide_eq_true h0))
  have HK0 := Lib.hid hK0
  clear hK0
  gi_loopw [3] (fun _ wr => ∃ (left : Lit → Bool) (cnt : Nat) (ss : List Tb.Tx), wr.ranges Tryz.prog 35 RS b W.heap.size n D left cnt ∧ Keys (held X) D left ss ∧ J ss wr)
    (fun _ wr => wr.rangeLeft b W.heap.size)
  case atStart =>
    exact ⟨_, _, [], hrg0, HK0.out, hJ [] W w0 none h0 hg0 (fun r e => by cases e)⟩
  case round =>
    clear HK0 hrg0 hg0 hs0 hcm
    obtain ⟨left, cnt, ss, hrg, hK, hJs⟩ := hrel
    have HK := Lib.hid hK
    clear hK
    gi_wp2_with (first
      | (gi_at_next; refine wpListIn_next_ranges _ rfl _ rfl 35 tx_keyed RS id id (fun key _ _ => ⟨key, rfl⟩) (fun v y _ => ⟨v, rfl⟩) b W.heap.size n D left cnt rfl hrg ?_ ?_)
      | gi_in)
    · intro hc0 hl0
      have hd := HK.out.done hl0
      gi_wp2
      go_end0
      refine ⟨⟨_, rfl⟩, .inl ⟨ss, ⟨hd.1, fun t ht => ⟨(hd.2.1 t ht).1, of_decide_eq_true (hd.2.1 t ht).2⟩, fun t h1 h2 => hd.2.2 t h1 (decide_eq_true h2)⟩, hJs⟩⟩
    · intro key v kl y1 y2 w2 cnt2 hkey hlk hv hat hrg2 hlt hg2 hs2 hen
      obtain ⟨t, rfl, hin, hne⟩ := HONLY.out kl (HK.out.sub kl hlk)
      have ek : key = tval t := tx_keyed.inj hkey (tkey t hin)
      subst ek
      have hK2 := HK.out.snoc t hin (decide_eq_true hne) hlk
      have hlen : ss.length < 4096 := by
        have h1 := nodup_le (m := Lh.keys X) hK2.nodup (fun s hs => Lh.keys_row.2 (of_decide_eq_true (hK2.ok s hs).2.1))
        have h2 := keys_len X
        have := HX.out
        simp at h1
        omega
      have hJ2 : J ss w2 := hJ ss wr w2 (some W.heap.size) hJs hg2 (fun r e => by cases e; exact ⟨Nat.le_refl _, hrg.iter_walk⟩)
      have hJ3 : J ss (w2.alloc (.cells #[.int .u64 t.life, .int .u64 t.n] 35 (0, 0))) := hJ ss w2 _ none hJ2 (grown_of ((Below.refl _ w2).alloc (Nat.le_refl _) _)) (fun r e => by cases e)
      have hrg3 := hrg2.kept (grown_of ((Below.refl _ w2).alloc (Nat.le_refl _) (.cells #[.int .u64 t.life, .int .u64 t.n] 35 (0, 0)))) (by simp) (by simp)
      obtain ⟨fn, tmps, assign, body, hy, hR⟩ := hY ss t _ hJ3 hlen
      have HK2 := Lib.hid hK2
      have HRG3 := Lib.hid hrg3
      have HRG := Lib.hid hrg
      have HR := Lib.hid hR
      have HLT := Lib.hid hlt
      clear hs2 hK2 hrg3 hrg2 hg2 hrg hlen hJ2 hJ3 hR hlt hJs HK hkey hlk hv hat hin hne
      simp only [tval] at hy hen
      simp only [tval]
      gi_wp2
      refine ⟨fun h => (by cases h), HR.out.mono ?_⟩
      rintro e W3 (⟨rfl, hJ4, hk3⟩ | ⟨rfl, hJx3⟩)
      · have hrg4 := HRG3.out.of_walks hk3
        have HRG4 := Lib.hid hrg4
        clear hrg4 hk3 hy hen
        gi_wp2
        go_roundw
        case rel => exact ⟨_, cnt2, ss ++ [t], HRG4.out, HK2.out, hJ4⟩
        case measure => rw [HRG4.out.left_eq, HRG.out.left_eq]; exact HLT.out
      · clear hy hen
        gi_wp2
        refine bodyPost_ret (results_none rfl _ _ _) rfl ?_
        exact ⟨⟨_, rfl⟩, .inr ⟨_, trivial, hJx3⟩⟩

set_option maxHeartbeats 400000 in
theorem keys_any (mb : Option Nat) (w : World) :
    Calls Tryz.prog 32 #[.map mb] w fun e w' => e = .returned (.func (.func 47) #[] #[.pointer (some ⟨w.heap.size, 0, none⟩)]) ∧ w' = w.alloc (.cells #[.map mb] 55) := by
  go_enter Tryz.func32, Tryz.ntmps32
  go_wp2
  go_ret
  exact ⟨rfl, rfl⟩

end Go.Proofs.YtjanjjkgnilhoaaGreatDoor
