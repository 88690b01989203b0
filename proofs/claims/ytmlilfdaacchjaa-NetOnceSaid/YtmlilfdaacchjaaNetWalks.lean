/-
  THE WALKS of package net.
-/
import Derived.Test.YtmlilfdaacchjaaMem
import Derived.Deep.QuietTactic
import Derived.BigQuiet
import Derived.Deep.RegionHeld3
import Derived.Deep.RegionLaw
namespace Go.Proofs.Ytmlilfdaacchjaa
open Go.RowKit

structure Gram where
  frm : BitVec 32
  to : BitVec 32
  text : ByteArray
def gcells (g : Gram) : List Value := [.int .u32 (w32 g.frm), .int .u32 (w32 g.to), .string g.text]
def gall (l : List Gram) : List Value := l.flatMap gcells
theorem gall_length (l : List Gram) : (gall l).length = l.length * 3 := by
  induction l with
  | nil => rfl
  | cons g l ih => simp only [gall, List.flatMap_cons, List.length_append] at *; rw [ih]; simp [gcells]; omega
theorem gall_append (l m : List Gram) : gall (l ++ m) = gall l ++ gall m := by simp [gall]
theorem gcells_one (g : Gram) : ∀ u ∈ gcells g, u.oneCell' = true := by
  intro u hu; simp [gcells] at hu; rcases hu with rfl | rfl | rfl <;> rfl
theorem gall_at (l : List Gram) (i : Nat) (h : i < l.length) : ((gall l).drop (i * 3)).take 3 = gcells l[i] := by
  induction l generalizing i with
  | nil => simp at h
  | cons g l ih =>
    cases i with
    | zero => simp [gall, gcells]
    | succ i =>
      have := ih i (by simpa using h)
      have e : gall (g :: l) = gcells g ++ gall l := by simp [gall]
      rw [e, show (i + 1) * 3 = i * 3 + 3 from by omega, ← List.drop_drop, List.getElem_cons_succ]
      have e2 : (gcells g ++ gall l).drop 3 = gall l := by simp [gcells]
      rw [List.drop_drop, Nat.add_comm, ← List.drop_drop, e2]
      exact this

theorem Try.undSl : Try.prog.underlying 29 = some (.slice 33) := by kernel_rfl
theorem Try.infoGram : (Try.prog.info? 33).map (fun i => (i.zero, i.size, i.bytes)) = some (some (.agg #[.int .u32 0, .int .u32 0, .string ByteArray.empty]), 3, 24) := by kernel_rfl

/-- The net at block b: the messages l. -/
structure NetAt (w : World) (b : Nat) (a : Option Addr) (cap : Nat) (l : List Gram) : Prop where
  here : w.heap[b]? = some (.cells #[.slice a l.length cap, .bool true] 54 (0, 0))
  row : SliceIs w 33 3 a l.length cap (gall l)
  few : l.length ≤ 1024
theorem NetAt.lt {w : World} {b : Nat} {a : Option Addr} {cap : Nat} {l : List Gram} (h : NetAt w b a cap l) : ∀ k ∈ b :: blks a, k < w.heap.size := by
  intro k hk
  rcases List.mem_cons.1 hk with rfl | hk
  · exact blk_lt h.here
  · exact h.row.lt k hk
theorem NetAt.keep {w w' : World} {b : Nat} {a : Option Addr} {cap : Nat} {l : List Gram} (h : NetAt w b a cap l) (hk : ∀ k ∈ b :: blks a, w'.heap[k]? = w.heap[k]?) : NetAt w' b a cap l :=
  ⟨(hk b (by simp)).trans h.here, h.row.keep fun k hk' => hk k (by simp [hk']), h.few⟩
theorem NetAt.alloc {w : World} {b : Nat} {a : Option Addr} {cap : Nat} {l : List Gram} (h : NetAt w b a cap l) (o : Obj) : NetAt (w.alloc o) b a cap l :=
  h.keep fun k hk => Below.heap_alloc _ _ _ (h.lt k hk)
theorem NetAt.ne {w : World} {b : Nat} {a : Option Addr} {cap : Nat} {l : List Gram} (h : NetAt w b a cap l) : b ∉ blks a := h.row.ne h.here (by decide)
theorem NetAt.field {w : World} {b : Nat} {a : Option Addr} {cap : Nat} {l : List Gram} (h : NetAt w b a cap l) : w.cell? ⟨b, 0, none⟩ = some (.slice a l.length cap) := by
  rw [cell_of_row _ _ _ _ _ _ h.here]; rfl
/-- A step of a net: what it may have turned is the net's own. -/
def NetStep (w w' : World) (b : Nat) (a : Option Addr) (l : List Gram) : Prop :=
  ∃ a' cap', NetAt w' b a' cap' l ∧ Upd w w' (b :: blks a) ∧ ∀ k ∈ blks a', k ∈ blks a ∨ w.heap.size ≤ k

set_option maxHeartbeats 400000 in
theorem net_new (w : World) :
    Calls Try.prog 8 #[] w fun e w' => e = .returned (.pointer (some ⟨w.heap.size, 0, none⟩)) ∧ NetAt w' w.heap.size none 0 [] ∧ Below w.heap.size w w' := by
  go_enter Try.func8, Try.ntmps8
  go_wp2
  go_ret
  exact ⟨rfl, ⟨heap_alloc_new _ _, SliceIs.nil _ _ _, by simp⟩, (Below.refl _ _).alloc (Nat.le_refl _) _⟩

set_option maxHeartbeats 400000 in
theorem net_none (w : World) (b : Nat) (a : Option Addr) (cap : Nat) (l : List Gram) (h : NetAt w b a cap l) :
    Calls Try.prog 25 #[.pointer (some ⟨b, 0, none⟩)] w fun e w' => e = .returned (.bool false) ∧ w = w' := by
  have hc : w.cell? ⟨b, 1, none⟩ = some (.bool true) := by rw [cell_of_row _ _ _ _ _ _ h.here]; rfl
  go_enter Try.func25, Try.ntmps25
  go_wp2
  go_ret
  exact ⟨rfl, rfl⟩
theorem net_none_nil (w : World) :
    Calls Try.prog 25 #[.pointer none] w fun e w' => e = .returned (.bool true) ∧ w = w' := by
  go_enter Try.func25, Try.ntmps25
  go_wp2
  go_ret
  exact ⟨rfl, rfl⟩

theorem send_close {w W w1 : World} {b : Nat} {a s' : Option Addr} {cap cap' : Nat} {l : List Gram} {g : Gram} {o : Obj} (ha : ∀ k ∈ blks a, k < W.heap.size) (hne : b ∉ blks a) (hl : l.length < 1024) (hbw : b < W.heap.size)
    (h1 : w1.heap[b]? = some (.cells #[.slice a l.length cap, .bool true] 54 (0, 0))) (hs : SliceIs w1 33 3 s' (l.length + 1) cap' (gall l ++ gcells g))
    (hW : Upd w W []) (hu : Upd (W.alloc o).drew w1 (blks a)) (hv : ∀ k ∈ blks s', k ∈ blks a ∨ (W.alloc o).drew.heap.size ≤ k) :
    NetStep w (w1.setCell ⟨b, 0, none⟩ (.slice s' (l.length + 1) cap')) b a (l ++ [g]) := by
  have hsz : (W.alloc o).drew.heap.size = W.heap.size + 1 := by simp
  have hne' : b ∉ blks s' := by
    intro hk
    rcases hv b hk with h | h
    · exact hne h
    · omega
  have hlen : (l ++ [g]).length = l.length + 1 := by simp
  refine ⟨s', cap', ⟨?_, ?_, by rw [hlen]; omega⟩, ?_, ?_⟩
  · rw [heap_set _ h1, hlen]; rfl
  · rw [hlen, gall_append, show gall [g] = gcells g from by simp [gall]]
    exact hs.keep fun k hk => heap_setCell_other _ _ _ _ (by intro e; subst e; exact hne' hk)
  · have u1 : Upd w (W.alloc o).drew [] := (hW.alloc o).drew
    have u2 : Upd w w1 (b :: blks a) := (u1.mono (by simp)).trans hu (fun x hx => .inl (by simp [hx]))
    exact u2.setCell (.inl (by simp)) _
  · intro k hk
    have := hW.size
    rcases hv k hk with h | h
    · exact .inl h
    · exact .inr (by omega)

set_option maxRecDepth 20000 in
set_option maxHeartbeats 1000000 in
theorem net_send_full (w : World) (b : Nat) (a : Option Addr) (cap : Nat) (l : List Gram) (g : Gram) (h : NetAt w b a cap l) (hf : 1024 ≤ l.length) :
    Calls Try.prog 14 #[.pointer (some ⟨b, 0, none⟩), .agg (gcells g).toArray] w fun e w' => e = .returned (.int .i64 4) ∧ Below w.heap.size w w' := by
  have HN := Lib.hid (net_none _ b a cap l (h.alloc (.cells (gcells g).toArray 33)))
  have hc := (h.alloc (.cells (gcells g).toArray 33)).field
  have hl : 1024 ≤ (l.length : Int) := by omega
  clear h hf
  go_enter Try.func14, Try.ntmps14
  go_wp2_with fail
  refine HN.out.mono ?_
  rintro e w' ⟨rfl, rfl⟩
  clear HN
  go_wp2_with fail
  go_ret
  exact ⟨rfl, (Below.refl _ _).alloc (Nat.le_refl _) _⟩

set_option maxRecDepth 20000 in
set_option maxHeartbeats 1000000 in
theorem net_send (w : World) (b : Nat) (a : Option Addr) (cap : Nat) (l : List Gram) (g : Gram) (h : NetAt w b a cap l) (hf : l.length < 1024) :
    Calls Try.prog 14 #[.pointer (some ⟨b, 0, none⟩), .agg (gcells g).toArray] w fun e w' => e = .returned (.int .i64 0) ∧ NetStep w w' b a (l ++ [g]) := by
  obtain ⟨i0, hi0, hz0, hz1, hz2⟩ := info_parts Try.infoGram
  have HN := Lib.hid (net_none _ b a cap l (h.alloc (.cells (gcells g).toArray 33)))
  have hc := (h.alloc (.cells (gcells g).toArray 33)).field
  have hg := CellsAt.new w (gcells g) 33 (0, 0)
  have hg0 : (w.alloc (.cells (gcells g).toArray 33)).cell? ⟨w.heap.size, 0, none⟩ = some (.int .u32 (w32 g.frm)) := hg.cell 0 (by simp [gcells])
  have hg1 : (w.alloc (.cells (gcells g).toArray 33)).cell? ⟨w.heap.size, 1, none⟩ = some (.int .u32 (w32 g.to)) := hg.cell 1 (by simp [gcells])
  have hg2 : (w.alloc (.cells (gcells g).toArray 33)).cell? ⟨w.heap.size, 2, none⟩ = some (.string g.text) := hg.cell 2 (by simp [gcells])
  have hl : (l.length : Int) < 1024 := by omega
  have HB : Hid ((w.alloc (.cells (gcells g).toArray 33)).heap[b]? = _) := Lib.hid (h.alloc (.cells (gcells g).toArray 33)).here
  have HE := Lib.hid h.ne
  have HA : Hid (∀ k ∈ blks a, k < (w.alloc (.cells (gcells g).toArray 33)).heap.size) := fun k hk => (h.row.alloc _).lt k hk
  have HR := Lib.hid (h.row.alloc (.cells (gcells g).toArray 33))
  have H := Lib.hid h
  have HF := Lib.hid hf
  have HW : Hid (Upd w (w.alloc (.cells (gcells g).toArray 33)) []) := Lib.hid ((Upd.refl _ _).alloc _)
  clear h hf hg
  go_enter Try.func14, Try.ntmps14
  go_wp2_with fail
  refine HN.out.mono ?_
  rintro e w' ⟨rfl, rfl⟩
  have hWs : w.heap.size < (w.alloc (.cells (gcells g).toArray 33)).heap.size := by simp
  generalize w.alloc (.cells (gcells g).toArray 33) = W at *
  clear HN
  have hbW := blk_lt HB.out
  go_wp2_with fail
  go_region_law
    ((refine step_append_slice (by rfl) (.tmp 19) (.tmp 21) 29 (by rfl) 33 i0 _ 3 24 Try.undSl hi0 hz0 hz1 hz2 rfl (by decide) a l.length cap (gall l) (by rfl) (HR.out.alloc _).drew
        ⟨W.heap.size, 0, none⟩ 1 1 (gcells g) (by rfl) (by rfl) (news_of ⟨_, _, _, heap_alloc_new _ _, by simp [gcells], by simp [gcells]⟩) (gcells_one g) (by simp only [maxLen]; omega) (by omega) ?_; intro s' cap' w1 hs hu hb
      have hk : w1.heap[b]? = _ := (hu.keep b (by have := blk_lt HB.out; simp; omega) HE.out).trans ((Below.heap_alloc _ _ _ (blk_lt HB.out)).trans HB.out)
      have hc1 := cell_of_row w1 b 0 _ _ _ hk
      simp only [List.getElem?_toArray, List.getElem?_cons_zero] at hc1
      have hf1 := frozen_of_row w1 b 0 _ _ hk
      have HK := Lib.hid hk
      have HS := Lib.hid hs
      have HU := Lib.hid hu
      have HV := Lib.hid hb
      clear hk hs hu hb))
  all_goals go_wp2
  all_goals go_ret
  all_goals exact ⟨rfl, send_close HA.out HE.out HF.out hbW HK.out HS.out HW.out HU.out HV.out⟩

end Go.Proofs.Ytmlilfdaacchjaa
