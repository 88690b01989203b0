/-
  THE WALKS of Double, All, Len and To.
-/
import Derived.Test.YtmlilfdaacchjaaNetTake2
namespace Go.Proofs.Ytmlilfdaacchjaa
open Go.RowKit

/-- The answers' numbers, by how many messages are under way. -/
def sendCode (n : Nat) : Int := if 1024 ≤ n then 4 else 0
def doubleCode (n : Nat) : Int := if n = 0 then 3 else sendCode n
/-- Send, whether there is room or not. -/
def SendOut (w : World) (b : Nat) (a : Option Addr) (l : List Gram) (g : Gram) (e : Ending) (w' : World) : Prop :=
  e = .returned (.int .i64 (sendCode l.length)) ∧ NetStep w w' b a (if 1024 ≤ l.length then l else l ++ [g])
theorem net_send_any (w : World) (b : Nat) (a : Option Addr) (cap : Nat) (l : List Gram) (g : Gram) (h : NetAt w b a cap l) :
    Calls Try.prog 14 #[.pointer (some ⟨b, 0, none⟩), .agg (gcells g).toArray] w fun e w' => SendOut w b a l g e w' := by
  unfold SendOut sendCode
  by_cases hf : 1024 ≤ l.length
  · rw [if_pos hf, if_pos hf]
    exact (net_send_full w b a cap l g h hf).mono fun e w' ⟨he, hb⟩ => ⟨he, NetStep.of_below h hb⟩
  · rw [if_neg hf, if_neg hf]
    exact net_send w b a cap l g h (by omega)

theorem SendOut.of_drew {w w' : World} {b : Nat} {a : Option Addr} {l : List Gram} {g : Gram} {e : Ending} (h : SendOut w.drew b a l g e w') : SendOut w b a l g e w' := by
  obtain ⟨he, a', cap', hN, hu, hv⟩ := h
  exact ⟨he, a', cap', hN, ⟨hu.os, hu.tape, hu.output, hu.size, hu.keep⟩, hv⟩

set_option maxRecDepth 20000 in
set_option maxHeartbeats 600000 in
theorem double_closure (w : World) (B0 b : Nat) (a : Option Addr) (cap : Nat) (l : List Gram) (k : Nat) (hk : k < l.length) (h : NetAt w b a cap l) (h0 : w.cell? ⟨B0, 0, none⟩ = some (.pointer (some ⟨b, 0, none⟩))) :
    Calls Try.prog 24 #[.int .i64 k, .pointer (some ⟨B0, 0, none⟩)] w fun e w' => SendOut w b a l l[k] e w' := by
  obtain ⟨g, off, rfl⟩ := h.row.there (by omega)
  have hf := h.field
  have hkI : (0 : Int) ≤ k ∧ (k : Int) < l.length := by omega
  have hc := h.row.cells.sub (k * 3) 3 (by rw [gall_length]; omega)
  rw [gall_at l k hk] at hc
  have c0 : w.cell? ⟨g, off + k * 3, none⟩ = some (.int .u32 (w32 l[k].frm)) := hc.cell 0 (by simp [gcells])
  have c1 : w.cell? ⟨g, off + k * 3 + 1, none⟩ = some (.int .u32 (w32 l[k].to)) := hc.cell 1 (by simp [gcells])
  have c2 : w.cell? ⟨g, off + k * 3 + 2, none⟩ = some (.string l[k].text) := hc.cell 2 (by simp [gcells])
  have HS : Hid (Calls Try.prog 14 #[.pointer (some ⟨b, 0, none⟩), .agg #[.int .u32 (w32 l[k].frm), .int .u32 (w32 l[k].to), .string l[k].text]] w.drew fun e w' => SendOut w.drew b (some ⟨g, off, none⟩) l l[k] e w') :=
    net_send_any w.drew b _ cap l l[k] (h.keep fun _ _ => rfl)
  clear h hc
  go_enter Try.func24, Try.ntmps24
  go_wp2_with fail
  go_region_with
    ((go_at_call 14
      with_reducible refine HS.out.mono ?_
      rintro e w1 hs
      obtain ⟨rfl, hs2⟩ := hs.of_drew
      have HO := Lib.hid hs2
      clear hs hs2))
  all_goals go_wp2
  all_goals go_ret
  all_goals exact ⟨rfl, HO.out⟩

def DoubleOut (w : World) (b : Nat) (a : Option Addr) (l : List Gram) (p : Int) (e : Ending) (w' : World) : Prop :=
  e = .returned (.int .i64 (doubleCode l.length)) ∧ NetStep w w' b a (if 1024 ≤ l.length then l else l ++ (l[pickOf p l.length]?).toList)

set_option maxRecDepth 20000 in
set_option maxHeartbeats 600000 in
theorem net_double (w : World) (b : Nat) (a : Option Addr) (cap : Nat) (l : List Gram) (p : Int) (hp : -9223372036854775808 ≤ p ∧ p ≤ 9223372036854775807) (h : NetAt w b a cap l) :
    Calls Try.prog 12 #[.pointer (some ⟨b, 0, none⟩), .int .i64 p] w fun e w' => DoubleOut w b a l p e w' := by
  have hW := h.alloc (.cells #[.pointer (some ⟨b, 0, none⟩)] 26)
  have HW := Lib.hid hW
  have hf := hW.field
  have hB := (Below.refl w.heap.size w).alloc (Nat.le_refl _) (.cells #[.pointer (some ⟨b, 0, none⟩)] 26)
  have HB := Lib.hid hB
  rcases Nat.eq_zero_or_pos l.length with h0 | h0
  · have hl : l = [] := List.eq_nil_of_length_eq_zero h0
    subst hl
    have H := Lib.hid h
    clear h h0 hp hW hB
    go_enter Try.func12, Try.ntmps12
    go_wp2_with (first
      | (go_at_call 20; go_in)
      | (go_at_call 25; with_reducible refine (net_none _ b a cap [] HW.out).mono ?_; rintro e w' ⟨rfl, rfl⟩))
    go_ret
    exact ⟨rfl, NetStep.of_below H.out HB.out⟩
  · obtain ⟨k, hkk⟩ : ∃ k, k = pickOf p l.length := ⟨_, rfl⟩
    have hk : k < l.length := by rw [hkk]; exact pickOf_lt _ _ h0
    have hmax := fun w => run_max0 Try.prog w 3 p
    have hm : ((max p 0).toNat : Int) ≤ 9223372036854775807 := by omega
    obtain ⟨m, hmm⟩ : ∃ m, m = (max p 0).toNat := ⟨_, rfl⟩
    have HK : Hid ((m : Int) % (l.length : Int) = (k : Int)) := Lib.hid (by rw [hmm, hkk]; rfl)
    have HC := Lib.hid (double_closure _ w.heap.size b a cap l k hk hW (by rw [cell_of_row _ _ _ _ _ _ (heap_alloc_new _ _)]; rfl))
    have HE : Hid (l[pickOf p l.length]? = some l[k]) := Lib.hid (by rw [← hkk]; exact List.getElem?_eq_getElem hk)
    have hl0 : (0 : Int) < l.length := by omega
    have hne : ((l.length : Int) == 0) = false := beq_eq_false_iff_ne.2 (by omega)
    have hn0 : Hid (¬ l.length = 0) := Lib.hid (by omega)
    have hfw : (l.length : Int) ≤ 1024 := by have := h.few; omega
    rw [← hmm] at hm hmax
    clear hmm hkk h hW hB h0 hp
    go_enter Try.func12, Try.ntmps12
    go_wp2_with (first
      | (go_at_call 20; go_in)
      | (go_at_call 25; with_reducible refine (net_none _ b a cap l HW.out).mono ?_; rintro e w' ⟨rfl, rfl⟩))
    rw [HK.out]
    with_reducible refine HC.out.mono ?_
    rintro e w3 ⟨rfl, hs2⟩
    have HO := Lib.hid hs2
    clear hs2
    go_wp2
    go_ret
    refine ⟨ret_u (by unfold doubleCode; rw [if_neg hn0.out]), ?_⟩
    rw [HE.out]
    obtain ⟨a', cap', hN, hu, hv⟩ := HO.out
    exact ⟨a', cap', hN, ((Upd.of_below [] HB.out).mono (by simp)).trans hu (fun x hx => .inl hx), fun x hx => (hv x hx).imp id fun h => by have := HB.out.size; omega⟩

set_option maxRecDepth 20000 in
set_option maxHeartbeats 600000 in
theorem net_all (w : World) (b : Nat) (a : Option Addr) (cap : Nat) (l : List Gram) (h : NetAt w b a cap l) :
    Calls Try.prog 17 #[.pointer (some ⟨b, 0, none⟩)] w fun e w' => SliceOut w 33 3 l.length (gall l) e w' := by
  have hf := h.field
  have HC := Lib.hid (gram_clone w a l.length cap (gall l) h.row (gall_one l) (by have := h.few; omega))
  clear h
  go_enter Try.func17, Try.ntmps17
  go_wp2_with fail
  refine HC.out.mono ?_
  rintro e w1 ⟨a', cap', rfl, hs, hb, hn⟩
  have HS := Lib.hid hs
  have HN := Lib.hid hn
  clear hs hn
  go_wp2
  go_ret
  exact ⟨a', cap', rfl, HS.out, hb, HN.out⟩

set_option maxRecDepth 20000 in
theorem net_len (w : World) (b : Nat) (a : Option Addr) (cap : Nat) (l : List Gram) (h : NetAt w b a cap l) :
    Calls Try.prog 18 #[.pointer (some ⟨b, 0, none⟩)] w fun e w' => e = .returned (.int .i64 l.length) ∧ w = w' := by
  have hf := h.field
  clear h
  go_enter Try.func18, Try.ntmps18
  go_wp2
  go_ret
  exact ⟨rfl, rfl⟩

end Go.Proofs.Ytmlilfdaacchjaa
