/-
  THE WALKS of the document's answer for layer 21.
-/
import Derived.Test.YtmlilfdaacchjaaNetTo
namespace Go.Proofs.Ytmlilfdaacchjaa
open Go.RowKit

structure RefAt (w : World) (b : Nat) (a : Option Addr) (cap : Nat) (l : List Gram) : Prop where
  here : w.heap[b]? = some (.cells #[.slice a l.length cap] 31 (0, 0))
  row : SliceIs w 33 3 a l.length cap (gall l)
  few : l.length ≤ 1024
theorem RefAt.lt {w : World} {b : Nat} {a : Option Addr} {cap : Nat} {l : List Gram} (h : RefAt w b a cap l) : ∀ k ∈ b :: blks a, k < w.heap.size := by
  intro k hk
  rcases List.mem_cons.1 hk with rfl | hk
  · exact blk_lt h.here
  · exact h.row.lt k hk
theorem RefAt.keep {w w' : World} {b : Nat} {a : Option Addr} {cap : Nat} {l : List Gram} (h : RefAt w b a cap l) (hk : ∀ k ∈ b :: blks a, w'.heap[k]? = w.heap[k]?) : RefAt w' b a cap l :=
  ⟨(hk b (by simp)).trans h.here, h.row.keep fun k hk' => hk k (by simp [hk']), h.few⟩
theorem RefAt.alloc {w : World} {b : Nat} {a : Option Addr} {cap : Nat} {l : List Gram} (h : RefAt w b a cap l) (o : Obj) : RefAt (w.alloc o) b a cap l :=
  h.keep fun k hk => Below.heap_alloc _ _ _ (h.lt k hk)
theorem RefAt.ne {w : World} {b : Nat} {a : Option Addr} {cap : Nat} {l : List Gram} (h : RefAt w b a cap l) : b ∉ blks a := h.row.ne h.here (by decide)
theorem RefAt.field {w : World} {b : Nat} {a : Option Addr} {cap : Nat} {l : List Gram} (h : RefAt w b a cap l) : w.cell? ⟨b, 0, none⟩ = some (.slice a l.length cap) := by
  rw [cell_of_row _ _ _ _ _ _ h.here]; rfl
def RefStep (w w' : World) (b : Nat) (a : Option Addr) (l : List Gram) : Prop :=
  ∃ a' cap', RefAt w' b a' cap' l ∧ Upd w w' (b :: blks a) ∧ ∀ k ∈ blks a', k ∈ blks a ∨ w.heap.size ≤ k
theorem RefStep.of_below {w w' : World} {b : Nat} {a : Option Addr} {cap : Nat} {l : List Gram} (h : RefAt w b a cap l) (hb : Below w.heap.size w w') : RefStep w w' b a l :=
  ⟨a, cap, h.keep fun k hk => hb.block k (h.lt k hk), Upd.of_below _ hb, fun k hk => .inl hk⟩

set_option maxRecDepth 20000 in
theorem ref_place_none (w : World) (b : Nat) (a : Option Addr) (cap : Nat) (p : Int) (h : RefAt w b a cap []) :
    Calls Try.prog 23 #[.pointer (some ⟨b, 0, none⟩), .int .i64 p] w fun e w' => e = .returned (.int .i64 (-1)) ∧ w = w' := by
  have hf := h.field
  clear h
  go_enter Try.func23, Try.ntmps23
  go_wp2
  go_ret
  exact ⟨rfl, rfl⟩
set_option maxRecDepth 20000 in
theorem ref_place (w : World) (b : Nat) (a : Option Addr) (cap : Nat) (l : List Gram) (p : Int) (hp : -9223372036854775808 ≤ p ∧ p ≤ 9223372036854775807) (h : RefAt w b a cap l) (hl : 0 < l.length) :
    Calls Try.prog 23 #[.pointer (some ⟨b, 0, none⟩), .int .i64 p] w fun e w' => e = .returned (.int .i64 (pickOf p l.length : Nat)) ∧ w = w' := by
  have hf := h.field
  have hfw : (l.length : Int) ≤ 1024 := by have := h.few; omega
  have hl0 : (0 : Int) < l.length := by omega
  have hne : ((l.length : Int) == 0) = false := beq_eq_false_iff_ne.2 (by omega)
  clear h
  by_cases hneg : p < 0
  · have HK : Hid (((pickOf p l.length : Nat) : Int) = 0) := Lib.hid (by unfold pickOf; rw [show (max p 0).toNat = 0 from by omega, Nat.zero_mod]; rfl)
    go_enter Try.func23, Try.ntmps23
    go_wp2
    go_ret
    exact ⟨ret_u HK.out.symm, rfl⟩
  · have hp0 : 0 ≤ p := by omega
    have HK : Hid (((pickOf p l.length : Nat) : Int) = p % (l.length : Int)) := Lib.hid (by unfold pickOf; rw [Int.natCast_emod, show (((max p 0).toNat : Nat) : Int) = p from by omega])
    clear hneg
    go_enter Try.func23, Try.ntmps23
    go_wp2
    go_ret
    exact ⟨ret_u HK.out.symm, rfl⟩

set_option maxRecDepth 20000 in
set_option maxHeartbeats 600000 in
theorem ref_send_full (w : World) (b : Nat) (a : Option Addr) (cap : Nat) (l : List Gram) (g : Gram) (h : RefAt w b a cap l) (hf : 1024 ≤ l.length) :
    Calls Try.prog 15 #[.pointer (some ⟨b, 0, none⟩), .agg (gcells g).toArray] w fun e w' => e = .returned (.int .i64 4) ∧ Below w.heap.size w w' := by
  have hc := (h.alloc (.cells (gcells g).toArray 33)).field
  have hl : 1024 ≤ (l.length : Int) := by omega
  clear h hf
  go_enter Try.func15, Try.ntmps15
  go_wp2
  go_ret
  exact ⟨rfl, (Below.refl _ _).alloc (Nat.le_refl _) _⟩

theorem ref_send_close {w W w1 : World} {b : Nat} {a s' : Option Addr} {cap cap' : Nat} {l : List Gram} {g : Gram} {o : Obj} (hne : b ∉ blks a) (hl : l.length < 1024) (hbw : b < W.heap.size)
    (h1 : w1.heap[b]? = some (.cells #[.slice a l.length cap] 31 (0, 0))) (hs : SliceIs w1 33 3 s' (l.length + 1) cap' (gall l ++ gcells g))
    (hW : Upd w W []) (hu : Upd (W.alloc o).drew w1 (blks a)) (hv : ∀ k ∈ blks s', k ∈ blks a ∨ (W.alloc o).drew.heap.size ≤ k) :
    RefStep w (w1.setCell ⟨b, 0, none⟩ (.slice s' (l.length + 1) cap')) b a (l ++ [g]) := by
  have hsz : (W.alloc o).drew.heap.size = W.heap.size + 1 := by simp
  have hne' : b ∉ blks s' := by
    intro hk
    rcases hv b hk with h | h
    · exact hne h
    · omega
  have hlen : (l ++ [g]).length = l.length + 1 := by simp
  refine ⟨s', cap', ⟨?_, ?_, by rw [hlen]; omega⟩, ?_, ?_⟩
  · rw [heap_set _ h1, hlen]; rfl
  · rw [hlen, gall_append, show gall [g] = gcells g from by simp [gall]]
    exact hs.keep fun k hk => heap_setCell_other _ _ _ _ (by intro e; subst e; exact hne' hk)
  · have u1 : Upd w (W.alloc o).drew [] := (hW.alloc o).drew
    have u2 : Upd w w1 (b :: blks a) := (u1.mono (by simp)).trans hu (fun x hx => .inl (by simp [hx]))
    exact u2.setCell (.inl (by simp)) _
  · intro k hk
    have := hW.size
    rcases hv k hk with h | h
    · exact .inl h
    · exact .inr (by omega)

set_option maxRecDepth 20000 in
set_option maxHeartbeats 1000000 in
theorem ref_send (w : World) (b : Nat) (a : Option Addr) (cap : Nat) (l : List Gram) (g : Gram) (h : RefAt w b a cap l) (hf : l.length < 1024) :
    Calls Try.prog 15 #[.pointer (some ⟨b, 0, none⟩), .agg (gcells g).toArray] w fun e w' => e = .returned (.int .i64 0) ∧ RefStep w w' b a (l ++ [g]) := by
  obtain ⟨i0, hi0, hz0, hz1, hz2⟩ := info_parts Try.infoGram
  have hc := (h.alloc (.cells (gcells g).toArray 33)).field
  have hg := CellsAt.new w (gcells g) 33 (0, 0)
  have hg0 : (w.alloc (.cells (gcells g).toArray 33)).cell? ⟨w.heap.size, 0, none⟩ = some (.int .u32 (w32 g.frm)) := hg.cell 0 (by simp [gcells])
  have hg1 : (w.alloc (.cells (gcells g).toArray 33)).cell? ⟨w.heap.size, 1, none⟩ = some (.int .u32 (w32 g.to)) := hg.cell 1 (by simp [gcells])
  have hg2 : (w.alloc (.cells (gcells g).toArray 33)).cell? ⟨w.heap.size, 2, none⟩ = some (.string g.text) := hg.cell 2 (by simp [gcells])
  have hl : (l.length : Int) < 1024 := by omega
  have HB : Hid ((w.alloc (.cells (gcells g).toArray 33)).heap[b]? = _) := Lib.hid (h.alloc (.cells (gcells g).toArray 33)).here
  have HE := Lib.hid h.ne
  have HR := Lib.hid (h.row.alloc (.cells (gcells g).toArray 33))
  have HF := Lib.hid hf
  have HW : Hid (Upd w (w.alloc (.cells (gcells g).toArray 33)) []) := Lib.hid ((Upd.refl _ _).alloc _)
  clear h hf hg
  go_enter Try.func15, Try.ntmps15
  go_wp2_with fail
  have hWs : w.heap.size < (w.alloc (.cells (gcells g).toArray 33)).heap.size := by simp
  generalize w.alloc (.cells (gcells g).toArray 33) = W at *
  have hbW := blk_lt HB.out
  go_region_law
    ((refine step_append_slice (by rfl) (.tmp 15) (.tmp 17) 29 (by rfl) 33 i0 _ 3 24 Try.undSl hi0 hz0 hz1 hz2 rfl (by decide) a l.length cap (gall l) (by rfl) (HR.out.alloc _).drew
        ⟨W.heap.size, 0, none⟩ 1 1 (gcells g) (by rfl) (by rfl) (news_of ⟨_, _, _, heap_alloc_new _ _, by simp [gcells], by simp [gcells]⟩) (gcells_one g) (by simp only [maxLen]; omega) (by omega) ?_; intro s' cap' w1 hs hu hb
      have hk : w1.heap[b]? = _ := (hu.keep b (by have := blk_lt HB.out; simp; omega) HE.out).trans ((Below.heap_alloc _ _ _ (blk_lt HB.out)).trans HB.out)
      have hc1 := cell_of_row w1 b 0 _ _ _ hk
      simp only [List.getElem?_toArray, List.getElem?_cons_zero] at hc1
      have hf1 := frozen_of_row w1 b 0 _ _ hk
      have HK := Lib.hid hk
      have HS := Lib.hid hs
      have HU := Lib.hid hu
      have HV := Lib.hid hb
      clear hk hs hu hb))
  all_goals go_wp2
  all_goals go_ret
  all_goals exact ⟨rfl, ref_send_close HE.out HF.out hbW HK.out HS.out HW.out HU.out HV.out⟩

def RefSendOut (w : World) (b : Nat) (a : Option Addr) (l : List Gram) (g : Gram) (e : Ending) (w' : World) : Prop :=
  e = .returned (.int .i64 (sendCode l.length)) ∧ RefStep w w' b a (if 1024 ≤ l.length then l else l ++ [g])
theorem ref_send_any (w : World) (b : Nat) (a : Option Addr) (cap : Nat) (l : List Gram) (g : Gram) (h : RefAt w b a cap l) :
    Calls Try.prog 15 #[.pointer (some ⟨b, 0, none⟩), .agg (gcells g).toArray] w fun e w' => RefSendOut w b a l g e w' := by
  unfold RefSendOut sendCode
  by_cases hf : 1024 ≤ l.length
  · rw [if_pos hf, if_pos hf]
    exact (ref_send_full w b a cap l g h hf).mono fun e w' ⟨he, hb⟩ => ⟨he, RefStep.of_below h hb⟩
  · rw [if_neg hf, if_neg hf]
    exact ref_send w b a cap l g h (by omega)

end Go.Proofs.Ytmlilfdaacchjaa
