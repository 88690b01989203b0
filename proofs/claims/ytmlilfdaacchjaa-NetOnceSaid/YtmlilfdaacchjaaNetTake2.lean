/-
  THE WALKS of Take, Drop and Double.
-/
import Derived.Test.YtmlilfdaacchjaaNetTake
namespace Go.Proofs.Ytmlilfdaacchjaa
open Go.RowKit

/-- Which message a pick is. -/
def pickOf (p : Int) (n : Nat) : Nat := (max p 0).toNat % n
theorem pickOf_lt (p : Int) (n : Nat) (h : 0 < n) : pickOf p n < n := Nat.mod_lt _ h
theorem run_max0 (P : Program) (w : World) (t : TypeId) (p : Int) : (Builtin.max_ #[t, t] t #[.int .i64 p, .int .i64 0]).run P w = .ok (.int .i64 ((max p 0).toNat : Int)) w := by
  have e : Builtin.max2 (.int .i64 p) (.int .i64 0) = pure (.int .i64 ((max p 0).toNat : Int)) := by
    simp only [Builtin.max2]
    congr 2
    split <;> omega
  simp [Builtin.max_, e]

def TakeOut (w : World) (b : Nat) (a : Option Addr) (l : List Gram) (k : Nat) (hk : k < l.length) (e : Ending) (w' : World) : Prop :=
  e = .returned (.tuple #[.agg (gcells l[k]).toArray, .int .i64 0]) ∧ NetStep w w' b a (l.eraseIdx k)

set_option maxRecDepth 20000 in
set_option maxHeartbeats 600000 in
theorem net_take (w : World) (b : Nat) (a : Option Addr) (cap : Nat) (l : List Gram) (p : Int) (hp : -9223372036854775808 ≤ p ∧ p ≤ 9223372036854775807) (h : NetAt w b a cap l) (hl : 0 < l.length) (k : Nat) (hkk : pickOf p l.length = k) (hk : k < l.length) :
    Calls Try.prog 9 #[.pointer (some ⟨b, 0, none⟩), .int .i64 p] w fun e w' => TakeOut w b a l k hk e w' := by
  have hmax := fun w => run_max0 Try.prog w 3 p
  have hm : ((max p 0).toNat : Int) ≤ 9223372036854775807 := by omega
  obtain ⟨m, hmm⟩ : ∃ m, m = (max p 0).toNat := ⟨_, rfl⟩
  have HK : Hid ((m : Int) % (l.length : Int) = (k : Int)) := Lib.hid (by rw [hmm, ← hkk]; rfl)
  clear hkk
  rw [← hmm] at hm hmax
  clear hmm
  have hW := ((h.alloc (.cells #[.pointer (some ⟨b, 0, none⟩)] 26)).alloc (.cells #[.int .u32 0, .int .u32 0, .string ⟨#[]⟩] 33))
  have HW := Lib.hid hW
  have hf := hW.field
  have hl0 : (0 : Int) < l.length := by omega
  have hne : ((l.length : Int) == 0) = false := beq_eq_false_iff_ne.2 (by omega)
  have hfw : (l.length : Int) ≤ 1024 := by have := h.few; omega
  have hb0 := heap_alloc2_old w (.cells #[.pointer (some ⟨b, 0, none⟩)] 26) (.cells #[.int .u32 0, .int .u32 0, .string ⟨#[]⟩] 33)
  have hb1 := heap_alloc2_new w (.cells #[.pointer (some ⟨b, 0, none⟩)] 26) (.cells #[.int .u32 0, .int .u32 0, .string ⟨#[]⟩] 33)
  have n1 : w.heap.size + 1 ∉ b :: blks a := fun hx => by have := h.lt _ hx; omega
  have n0 : w.heap.size ∉ b :: blks a := fun hx => by have := h.lt _ hx; omega
  have HC := fun c0 => take_closure _ w.heap.size (w.heap.size + 1) b a cap l k hk hW c0 _ rfl hb1 n1 n0 (by omega)
  have HC' := Lib.hid (HC (by rw [cell_of_row _ _ _ _ _ _ hb0]; rfl))
  have HB1 := Lib.hid hb1
  have HU : Hid (Upd w ((w.alloc (.cells #[.pointer (some ⟨b, 0, none⟩)] 26)).alloc (.cells #[.int .u32 0, .int .u32 0, .string ⟨#[]⟩] 33)) []) := Lib.hid (((Upd.refl _ _).alloc _).alloc _)
  have hlt : w.heap.size + 2 ≤ ((w.alloc (.cells #[.pointer (some ⟨b, 0, none⟩)] 26)).alloc (.cells #[.int .u32 0, .int .u32 0, .string ⟨#[]⟩] 33)).heap.size := by simp
  clear hb0 hb1 n1 n0 HC hW h
  go_enter Try.func9, Try.ntmps9
  go_wp2_with (first | (go_at_call 20; go_in) | (go_at_call 25; with_reducible refine (net_none _ b a cap l HW.out).mono ?_; rintro e w' ⟨rfl, rfl⟩))
  rw [HK.out]
  with_reducible refine HC'.out.mono ?_
  rintro e w3 ⟨rfl, h1, hN, hu⟩
  have H1 := Lib.hid h1
  have HN := Lib.hid hN
  have HU3 := Lib.hid hu
  clear h1 hN hu
  go_wp2_with (first
    | (refine wpList_load_row rfl 33 (.tmp 4) rfl (w.heap.size + 1) rfl 33 _ (0, 0) _ H1.out Try.underlying33 rfl (by kernel_rfl) ?_)
    | (refine wpList_store_same rfl 33 (.tmp 4) (.tmp 10) rfl (w.heap.size + 1) _ rfl rfl 33 H1.out (by kernel_rfl) (by intro v hv; exact gcells_one _ v (by simpa using hv)) ?_))
  refine bodyPost_ret (results_cell_tmp_row rfl _ _ (w.heap.size + 1) _ _ _ _ rfl H1.out Try.underlying33 rfl (by kernel_rfl)) rfl ⟨rfl, a, cap, HN.out, ?_, fun x hx => .inl hx⟩
  refine (HU.out.mono (by simp)).trans HU3.out (fun x hx => ?_)
  rcases List.mem_cons.1 hx with rfl | hx
  · exact .inr (by omega)
  · exact .inl hx

set_option maxRecDepth 20000 in
set_option maxHeartbeats 600000 in
theorem net_take_none (w : World) (b : Nat) (a : Option Addr) (cap : Nat) (p : Int) (h : NetAt w b a cap []) :
    Calls Try.prog 9 #[.pointer (some ⟨b, 0, none⟩), .int .i64 p] w fun e w' => e = .returned (.tuple #[.agg #[.int .u32 0, .int .u32 0, .string ⟨#[]⟩], .int .i64 3]) ∧ Below w.heap.size w w' := by
  have hW := ((h.alloc (.cells #[.pointer (some ⟨b, 0, none⟩)] 26)).alloc (.cells #[.int .u32 0, .int .u32 0, .string ⟨#[]⟩] 33))
  have HW := Lib.hid hW
  have hf := hW.field
  have hb1 := heap_alloc2_new w (.cells #[.pointer (some ⟨b, 0, none⟩)] 26) (.cells #[.int .u32 0, .int .u32 0, .string ⟨#[]⟩] 33)
  have HB1 := Lib.hid hb1
  clear hb1 hW h
  go_enter Try.func9, Try.ntmps9
  go_wp2_with (first
    | (go_at_call 20; go_in)
    | (go_at_call 25; with_reducible refine (net_none _ b a cap [] HW.out).mono ?_; rintro e w' ⟨rfl, rfl⟩)
    | (refine wpList_load_row rfl 33 (.tmp 4) rfl (w.heap.size + 1) rfl 33 _ (0, 0) _ HB1.out Try.underlying33 rfl (by kernel_rfl) ?_)
    | (refine wpList_store_same rfl 33 (.tmp 4) (.tmp 10) rfl (w.heap.size + 1) _ rfl rfl 33 HB1.out (by kernel_rfl) (by intro v hv; simp at hv; rcases hv with rfl | rfl | rfl <;> rfl) ?_))
  refine bodyPost_ret (results_cell_tmp_row rfl _ _ (w.heap.size + 1) _ _ _ _ rfl HB1.out Try.underlying33 rfl (by kernel_rfl)) rfl ⟨rfl, ?_⟩
  exact ((Below.refl _ _).alloc (Nat.le_refl _) _).alloc (by simp) _

theorem NetStep.of_below {w w' : World} {b : Nat} {a : Option Addr} {cap : Nat} {l : List Gram} (h : NetAt w b a cap l) (hb : Below w.heap.size w w') : NetStep w w' b a l :=
  ⟨a, cap, h.keep fun k hk => hb.block k (h.lt k hk), Upd.of_below _ hb, fun k hk => .inl hk⟩

def dropCode (n : Nat) : Int := if n = 0 then 3 else 0
/-- Drop: an answer, and what is left. -/
def DropOut (w : World) (b : Nat) (a : Option Addr) (l : List Gram) (p : Int) (e : Ending) (w' : World) : Prop :=
  e = .returned (.int .i64 (dropCode l.length)) ∧ NetStep w w' b a (l.eraseIdx (pickOf p l.length))

set_option maxRecDepth 20000 in
set_option maxHeartbeats 600000 in
theorem net_drop (w : World) (b : Nat) (a : Option Addr) (cap : Nat) (l : List Gram) (p : Int) (hp : -9223372036854775808 ≤ p ∧ p ≤ 9223372036854775807) (h : NetAt w b a cap l) :
    Calls Try.prog 11 #[.pointer (some ⟨b, 0, none⟩), .int .i64 p] w fun e w' => DropOut w b a l p e w' := by
  rcases Nat.eq_zero_or_pos l.length with h0 | h0
  · have hl : l = [] := List.eq_nil_of_length_eq_zero h0
    subst hl
    have HT := Lib.hid (net_take_none w b a cap p h)
    have H := Lib.hid h
    clear h h0 hp
    go_enter Try.func11, Try.ntmps11
    go_wp2_with fail
    refine HT.out.mono ?_
    rintro e w1 ⟨rfl, hb⟩
    go_wp2
    go_ret
    exact ⟨rfl, NetStep.of_below H.out (hb.trans (((Below.refl _ _).alloc (Nat.le_refl _) _).mono hb.size))⟩
  · have HT := Lib.hid (net_take w b a cap l p hp h h0 _ rfl (pickOf_lt p _ h0))
    have hne : dropCode l.length = 0 := if_neg (by omega)
    unfold DropOut
    rw [hne]
    clear hne
    have HX : Hid (l.eraseIdx (pickOf p l.length) = l.eraseIdx (pickOf p l.length)) := rfl
    generalize hk : l.eraseIdx (pickOf p l.length) = l' at HX ⊢
    have HK := Lib.hid hk
    clear h hp hk HX
    go_enter Try.func11, Try.ntmps11
    go_wp2_with fail
    refine HT.out.mono ?_
    rintro e w1 ⟨rfl, hs⟩
    have HS := Lib.hid hs
    clear hs HT
    go_wp2_with (refine wpList_store_all rfl 33 (.tmp 5) (.tmp 11) rfl w1.heap.size _ rfl rfl 33 _ (heap_alloc_new _ _) (by kernel_rfl) rfl (by intro v hv; exact gcells_one _ v (by simpa using hv)) ?_; intro w2 hp2)
    have HP := Lib.hid hp2
    clear hp2
    go_wp2
    go_ret
    refine ⟨rfl, ?_⟩
    rw [← HK.out]
    obtain ⟨a', cap', hN, hu, hv⟩ := HS.out
    refine ⟨a', cap', hN.keep fun k hk => ?_, ?_, hv⟩
    · have := hN.lt k hk
      rw [HP.out.other k (by omega), Below.heap_alloc _ _ _ this]
    · exact (hu.alloc _).put HP.out (.inr hu.size)

end Go.Proofs.Ytmlilfdaacchjaa
