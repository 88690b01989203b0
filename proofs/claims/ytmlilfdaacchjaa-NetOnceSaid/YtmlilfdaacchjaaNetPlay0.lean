/-
  WHAT THE STATEMENTS NetPlays AND NetOnce SHARE: Take in one contract; blocks of the law's own.
-/
import Derived.Test.YtmlilfdaacchjaaNetHeavy
namespace Go.Proofs.Ytmlilfdaacchjaa
open Go.RowKit

theorem RefAt.start (w : World) : RefAt (w.alloc (.cells #[.slice none 0 0] 31)) w.heap.size none 0 [] :=
  ⟨heap_alloc_new w _, SliceIs.nil _ _ _, by simp⟩
theorem Two.ref {w0 w : World} {S : World → List Nat → Prop} {K : List (Nat × Obj)} (lS : Loc S) (h : Two w0 w NoR S K) : Two w0 (w.alloc (.cells #[.slice none 0 0] 31)) (RefR w.heap.size []) S K :=
  h.make lS ((Below.refl _ _).alloc (Nat.le_refl _) _) ⟨none, 0, rfl, RefAt.start w⟩ (by simp)

theorem Two.more {w0 w w' : World} {R S : World → List Nat → Prop} {K : List (Nat × Obj)} (lR : Loc R) (lS : Loc S) (h : Two w0 w R S K) (hb : Below w.heap.size w w') {k : Nat} {o : Obj} (hk : w.heap.size ≤ k) (hg : w'.heap[k]? = some o) : Two w0 w' R S ((k, o) :: K) := by
  have h2 := h.below lR lS hb
  obtain ⟨F, G, hR, hS, hO, hF, hG, hFG, hK⟩ := h
  refine ⟨F, G, lR.keep _ _ _ hR fun k hk => hb.block k (lR.lt _ _ hR k hk), lS.keep _ _ _ hS fun k hk => hb.block k (lS.lt _ _ hS k hk), hO.trans hb, hF, hG, hFG, ?_⟩
  intro p hp
  rcases List.mem_cons.1 hp with rfl | hp
  · exact ⟨hg, fun hf => by have := lR.lt _ _ hR _ hf; omega, fun hf => by have := lS.lt _ _ hS _ hf; omega⟩
  · exact ⟨(hb.block _ (blk_lt (hK p hp).1)).trans (hK p hp).1, (hK p hp).2⟩
theorem PutAt.below {w w' : World} {o : Obj} {vs : Array Value} {t : TypeId} (hp : PutAt (w.alloc o) w' w.heap.size vs t) : Below w.heap.size w w' :=
  ⟨hp.os, hp.tape, hp.output, by rw [hp.size]; simp, fun k hk => (hp.other k (by omega)).trans (Below.heap_alloc _ _ _ hk)⟩
theorem Two.laid {w0 w w' : World} {R S : World → List Nat → Prop} {K : List (Nat × Obj)} (lR : Loc R) (lS : Loc S) (h : Two w0 w R S K) {o : Obj} {vs : Array Value} {t : TypeId} (hp : PutAt (w.alloc o) w' w.heap.size vs t) :
    Two w0 w' R S ((w.heap.size, .cells vs t (0, 0)) :: K) := h.more lR lS hp.below (Nat.le_refl _) hp.here
theorem Two.cell {w0 w : World} {R S : World → List Nat → Prop} {K : List (Nat × Obj)} (h : Two w0 w R S K) {k : Nat} {vs : Array Value} {t : TypeId} {fr : Nat × Nat} (hk : (k, Obj.cells vs t fr) ∈ K) (j : Nat) {v : Value} (hv : vs[j]? = some v) : w.cell? ⟨k, j, none⟩ = some v := by
  rw [cell_of_row _ _ _ _ _ _ (h.got hk)]; exact hv

theorem ccells_one (c : Cmd) (v : Value) (h : v ∈ ccells c) : v.oneCell' = true := by
  simp [ccells] at h
  rcases h with rfl | rfl | rfl | rfl | rfl <;> rfl

theorem Two.cmd0 {w0 w : World} {R S : World → List Nat → Prop} {K : List (Nat × Obj)} {k : Nat} {c : Cmd} {t : TypeId} {fr : Nat × Nat} (h : Two w0 w R S ((k, .cells (ccells c).toArray t fr) :: K)) : w.cell? ⟨k, 0, none⟩ = some (.int .u8 c.dodo) := h.cell (List.mem_cons_self ..) 0 rfl
theorem Two.cmd4 {w0 w : World} {R S : World → List Nat → Prop} {K : List (Nat × Obj)} {k : Nat} {c : Cmd} {t : TypeId} {fr : Nat × Nat} (h : Two w0 w R S ((k, .cells (ccells c).toArray t fr) :: K)) : w.cell? ⟨k, 4, none⟩ = some (.int .i64 c.pick) := h.cell (List.mem_cons_self ..) 4 rfl
theorem Two.cmd1 {w0 w : World} {R S : World → List Nat → Prop} {K : List (Nat × Obj)} {k : Nat} {c : Cmd} {t : TypeId} {fr : Nat × Nat} (h : Two w0 w R S ((k, .cells (ccells c).toArray t fr) :: K)) : w.cell? ⟨k, 1, none⟩ = some (.int .u32 (w32 c.g.frm)) := h.cell (List.mem_cons_self ..) 1 rfl
theorem Two.cmd2 {w0 w : World} {R S : World → List Nat → Prop} {K : List (Nat × Obj)} {k : Nat} {c : Cmd} {t : TypeId} {fr : Nat × Nat} (h : Two w0 w R S ((k, .cells (ccells c).toArray t fr) :: K)) : w.cell? ⟨k, 2, none⟩ = some (.int .u32 (w32 c.g.to)) := h.cell (List.mem_cons_self ..) 2 rfl
theorem Two.cmd3 {w0 w : World} {R S : World → List Nat → Prop} {K : List (Nat × Obj)} {k : Nat} {c : Cmd} {t : TypeId} {fr : Nat × Nat} (h : Two w0 w R S ((k, .cells (ccells c).toArray t fr) :: K)) : w.cell? ⟨k, 3, none⟩ = some (.string c.g.text) := h.cell (List.mem_cons_self ..) 3 rfl
theorem below_drewN (w : World) (n : Nat) : Below w.heap.size w (w.drewN n) := ⟨rfl, rfl, rfl, Nat.le_refl _, fun _ _ => rfl⟩
theorem dblLen (l : List Gram) (o : Option Gram) (h : l.length ≤ 1024) : (if 1024 ≤ l.length then l else l ++ o.toList).length ≤ 1024 := by
  split
  · exact h
  · cases o <;> simp <;> omega
theorem Two.cmdg {w0 w : World} {R S : World → List Nat → Prop} {K : List (Nat × Obj)} {k : Nat} {c : Cmd} {t : TypeId} {fr : Nat × Nat} (h : Two w0 w R S ((k, .cells (ccells c).toArray t fr) :: K)) : CellsAt w k 1 (gcells c.g) := ⟨_, _, _, h.got (List.mem_cons_self ..), by simp [ccells, gcells], rfl⟩

/-- What Take hands out, and says. -/
def tOut (p : Int) (l : List Gram) : Gram := (l[pickOf p l.length]?).getD ⟨0, 0, ⟨#[]⟩⟩
theorem w32_zero : w32 0 = 0 := u32_lit 0 (by decide)
theorem tOut_at (p : Int) (l : List Gram) (h : pickOf p l.length < l.length) : tOut p l = l[pickOf p l.length] := by unfold tOut; rw [List.getElem?_eq_getElem h]; rfl
section
variable {w0 w : World} {S : World → List Nat → Prop} {K : List (Nat × Obj)} (lS : Loc S) {b : Nat} {l : List Gram}
include lS
theorem two_send3 (g : Gram) (h : Two w0 w (NetR b l) S K) : Calls Try.prog 14 #[.pointer (some ⟨b, 0, none⟩), .agg #[.int .u32 (w32 g.frm), .int .u32 (w32 g.to), .string g.text]] w fun e w' => e = .returned (.int .i64 (sendCode l.length)) ∧ Two w0 w' (NetR b (if 1024 ≤ l.length then l else l ++ [g])) S K := two_send lS g h
theorem two_rsend3 (g : Gram) (h : Two w0 w (RefR b l) S K) : Calls Try.prog 15 #[.pointer (some ⟨b, 0, none⟩), .agg #[.int .u32 (w32 g.frm), .int .u32 (w32 g.to), .string g.text]] w fun e w' => e = .returned (.int .i64 (sendCode l.length)) ∧ Two w0 w' (RefR b (if 1024 ≤ l.length then l else l ++ [g])) S K := two_rsend lS g h
theorem two_take_any (p : Int) (hp : -9223372036854775808 ≤ p ∧ p ≤ 9223372036854775807) (h : Two w0 w (NetR b l) S K) :
    Calls Try.prog 9 #[.pointer (some ⟨b, 0, none⟩), .int .i64 p] w fun e w' => e = .returned (.tuple #[.agg #[.int .u32 (w32 (tOut p l).frm), .int .u32 (w32 (tOut p l).to), .string (tOut p l).text], .int .i64 (dropCode l.length)]) ∧ Two w0 w' (NetR b (l.eraseIdx (pickOf p l.length))) S K := by
  rcases Nat.eq_zero_or_pos l.length with h0 | h0
  · obtain rfl : l = [] := List.eq_nil_of_length_eq_zero h0
    have := two_take_none lS p h
    rw [← w32_zero] at this
    exact this
  · have hk := pickOf_lt p l.length h0
    have := two_take lS p hp _ rfl hk h
    rw [← tOut_at p l hk] at this
    rw [show dropCode l.length = 0 from if_neg (by omega)]
    exact this
theorem two_rtake_any (p : Int) (hp : -9223372036854775808 ≤ p ∧ p ≤ 9223372036854775807) (h : Two w0 w (RefR b l) S K) :
    Calls Try.prog 10 #[.pointer (some ⟨b, 0, none⟩), .int .i64 p] w fun e w' => e = .returned (.tuple #[.agg #[.int .u32 (w32 (tOut p l).frm), .int .u32 (w32 (tOut p l).to), .string (tOut p l).text], .int .i64 (dropCode l.length)]) ∧ Two w0 w' (RefR b (l.eraseIdx (pickOf p l.length))) S K := by
  rcases Nat.eq_zero_or_pos l.length with h0 | h0
  · obtain rfl : l = [] := List.eq_nil_of_length_eq_zero h0
    have := two_rtake_none lS p h
    rw [← w32_zero] at this
    exact this
  · have hk := pickOf_lt p l.length h0
    have := two_rtake lS p hp _ rfl hk h
    rw [← tOut_at p l hk] at this
    rw [show dropCode l.length = 0 from if_neg (by omega)]
    exact this
end
theorem Two.at3 {w0 w : World} {R S : World → List Nat → Prop} {K : List (Nat × Obj)} {k : Nat} {x y z : Value} {t : TypeId} {fr : Nat × Nat} (h : Two w0 w R S K) (hm : (k, Obj.cells #[x, y, z] t fr) ∈ K) : CellsAt w k 0 [x, y, z] := ⟨_, _, _, h.got hm, by simp, rfl⟩

end Go.Proofs.Ytmlilfdaacchjaa
