/-
  THE CONTRACTS OF A NET, AND OF THE DOCUMENT'S ANSWER, in a company of other things.
-/
import Derived.Test.YtmlilfdaacchjaaNetRef2
import Derived.Test.YtmlilfdaacchjaaSys
namespace Go.Proofs.Ytmlilfdaacchjaa
open Go.RowKit

def NetR (b : Nat) (l : List Gram) : World → List Nat → Prop := fun w F => ∃ a cap, F = b :: blks a ∧ NetAt w b a cap l
def RefR (b : Nat) (l : List Gram) : World → List Nat → Prop := fun w F => ∃ a cap, F = b :: blks a ∧ RefAt w b a cap l
theorem NetR.loc (b : Nat) (l : List Gram) : Loc (NetR b l) :=
  ⟨fun _ _ _ ⟨a, cap, hF, h⟩ hk => ⟨a, cap, hF, h.keep (by subst hF; exact hk)⟩, fun _ _ ⟨a, cap, hF, h⟩ => by subst hF; exact h.lt⟩
theorem RefR.loc (b : Nat) (l : List Gram) : Loc (RefR b l) :=
  ⟨fun _ _ _ ⟨a, cap, hF, h⟩ hk => ⟨a, cap, hF, h.keep (by subst hF; exact hk)⟩, fun _ _ ⟨a, cap, hF, h⟩ => by subst hF; exact h.lt⟩
theorem NetStep.r {w w' : World} {b : Nat} {a : Option Addr} {l : List Gram} (h : NetStep w w' b a l) : RStep w w' (b :: blks a) (NetR b l) := by
  obtain ⟨a', cap', hN, hu, hv⟩ := h
  refine ⟨b :: blks a', ⟨a', cap', rfl, hN⟩, hu, fun k hk => ?_⟩
  rcases List.mem_cons.1 hk with rfl | hk
  · exact .inl (by simp)
  · exact (hv k hk).imp (fun h => by simp [h]) id
theorem RefStep.r {w w' : World} {b : Nat} {a : Option Addr} {l : List Gram} (h : RefStep w w' b a l) : RStep w w' (b :: blks a) (RefR b l) := by
  obtain ⟨a', cap', hN, hu, hv⟩ := h
  refine ⟨b :: blks a', ⟨a', cap', rfl, hN⟩, hu, fun k hk => ?_⟩
  rcases List.mem_cons.1 hk with rfl | hk
  · exact .inl (by simp)
  · exact (hv k hk).imp (fun h => by simp [h]) id

section
variable {w0 w : World} {S : World → List Nat → Prop} {K : List (Nat × Obj)} (lS : Loc S)
include lS
/-- A step that is known from whatever blocks the thing has. -/
theorem two_of {f : Nat} {args : Array Value} {v : Value} {R R' : World → List Nat → Prop} (h : Two w0 w R S K) (hc : ∀ F, R w F → Calls Try.prog f args w fun e w' => e = .returned v ∧ RStep w w' F R') :
    Calls Try.prog f args w fun e w' => e = .returned v ∧ Two w0 w' R' S K := by
  obtain ⟨F, G, hR, hS, hO, hF, hG, hFG, hK⟩ := h
  refine (hc F hR).mono fun e w' ⟨he, F', hR', hu, hn⟩ => ⟨he, ?_⟩
  refine ⟨F', G, hR', lS.keep _ _ _ hS fun k hk => hu.keep k (lS.lt _ _ hS k hk) (fun hf => hFG k hf hk), hO.upd hu hF, ?_, hG, ?_, ?_⟩
  · intro k hk
    rcases hn k hk with h | h
    · exact hF k h
    · exact Nat.le_trans hO.size h
  · intro k hk hg
    rcases hn k hk with h | h
    · exact hFG k h hg
    · have := lS.lt _ _ hS k hg; omega
  · intro p hp
    obtain ⟨h1, h2, h3⟩ := hK p hp
    have hlt := blk_lt h1
    refine ⟨(hu.keep _ hlt h2).trans h1, fun hf => ?_, h3⟩
    rcases hn _ hf with h | h
    · exact h2 h
    · omega
variable {b : Nat} {l : List Gram}
theorem two_new (h : Two w0 w NoR S K) : Calls Try.prog 8 #[] w fun e w' => e = .returned (.pointer (some ⟨w.heap.size, 0, none⟩)) ∧ Two w0 w' (NetR w.heap.size []) S K :=
  (net_new w).mono fun _ _ ⟨he, hN, hb⟩ => ⟨he, h.make lS hb ⟨none, 0, rfl, hN⟩ (by simp)⟩
theorem two_send (g : Gram) (h : Two w0 w (NetR b l) S K) : Calls Try.prog 14 #[.pointer (some ⟨b, 0, none⟩), .agg (gcells g).toArray] w fun e w' => e = .returned (.int .i64 (sendCode l.length)) ∧ Two w0 w' (NetR b (if 1024 ≤ l.length then l else l ++ [g])) S K :=
  two_of lS h fun F ⟨a, cap, hF, hN⟩ => (net_send_any w b a cap l g hN).mono fun _ _ ⟨he, hs⟩ => ⟨he, by subst hF; exact hs.r⟩
theorem two_take (p : Int) (hp : -9223372036854775808 ≤ p ∧ p ≤ 9223372036854775807) (k : Nat) (hkk : pickOf p l.length = k) (hk : k < l.length) (h : Two w0 w (NetR b l) S K) :
    Calls Try.prog 9 #[.pointer (some ⟨b, 0, none⟩), .int .i64 p] w fun e w' => e = .returned (.tuple #[.agg (gcells l[k]).toArray, .int .i64 0]) ∧ Two w0 w' (NetR b (l.eraseIdx k)) S K :=
  two_of lS h fun F ⟨a, cap, hF, hN⟩ => (net_take w b a cap l p hp hN (by omega) k hkk hk).mono fun _ _ ⟨he, hs⟩ => ⟨he, by subst hF; exact hs.r⟩
theorem two_take_none (p : Int) (h : Two w0 w (NetR b []) S K) :
    Calls Try.prog 9 #[.pointer (some ⟨b, 0, none⟩), .int .i64 p] w fun e w' => e = .returned (.tuple #[.agg #[.int .u32 0, .int .u32 0, .string ⟨#[]⟩], .int .i64 3]) ∧ Two w0 w' (NetR b []) S K := by
  obtain ⟨F, a, cap, hF, hN⟩ := h.first
  exact (net_take_none w b a cap p hN).mono fun _ _ ⟨he, hb⟩ => ⟨he, h.below (NetR.loc _ _) lS hb⟩
theorem two_drop (p : Int) (hp : -9223372036854775808 ≤ p ∧ p ≤ 9223372036854775807) (h : Two w0 w (NetR b l) S K) :
    Calls Try.prog 11 #[.pointer (some ⟨b, 0, none⟩), .int .i64 p] w fun e w' => e = .returned (.int .i64 (dropCode l.length)) ∧ Two w0 w' (NetR b (l.eraseIdx (pickOf p l.length))) S K :=
  two_of lS h fun F ⟨a, cap, hF, hN⟩ => (net_drop w b a cap l p hp hN).mono fun _ _ ⟨he, hs⟩ => ⟨he, by subst hF; exact hs.r⟩
theorem two_double (p : Int) (hp : -9223372036854775808 ≤ p ∧ p ≤ 9223372036854775807) (h : Two w0 w (NetR b l) S K) :
    Calls Try.prog 12 #[.pointer (some ⟨b, 0, none⟩), .int .i64 p] w fun e w' => e = .returned (.int .i64 (doubleCode l.length)) ∧ Two w0 w' (NetR b (if 1024 ≤ l.length then l else l ++ (l[pickOf p l.length]?).toList)) S K :=
  two_of lS h fun F ⟨a, cap, hF, hN⟩ => (net_double w b a cap l p hp hN).mono fun _ _ ⟨he, hs⟩ => ⟨he, by subst hF; exact hs.r⟩
/-- All: a list of the call's own. -/
def AllOut (w : World) (l : List Gram) (e : Ending) (w' : World) : Prop :=
  ∃ a cap, e = .returned (.slice a l.length cap) ∧ SliceIs w' 33 3 a l.length cap (gall l) ∧ Below w.heap.size w w' ∧ ∀ k ∈ blks a, w.heap.size ≤ k
omit lS in
theorem two_all (h : Two w0 w (NetR b l) S K) : Calls Try.prog 17 #[.pointer (some ⟨b, 0, none⟩)] w fun e w' => AllOut w l e w' := by
  obtain ⟨F, a, cap, hF, hN⟩ := h.first
  exact net_all w b a cap l hN
omit lS in
theorem two_len (h : Two w0 w (NetR b l) S K) : Calls Try.prog 18 #[.pointer (some ⟨b, 0, none⟩)] w fun e w' => e = .returned (.int .i64 l.length) ∧ w = w' := by
  obtain ⟨F, a, cap, hF, hN⟩ := h.first
  exact net_len w b a cap l hN
omit lS in
theorem two_to (node : BitVec 32) (h : Two w0 w (NetR b l) S K) : Calls Try.prog 19 #[.pointer (some ⟨b, 0, none⟩), .int .u32 (w32 node)] w fun e w' => e = .returned (.int .i64 (toCount node l)) ∧ Below w.heap.size w w' := by
  obtain ⟨F, a, cap, hF, hN⟩ := h.first
  exact net_to w b a cap l node hN
/-! The document's answer -/
theorem two_rsend (g : Gram) (h : Two w0 w (RefR b l) S K) : Calls Try.prog 15 #[.pointer (some ⟨b, 0, none⟩), .agg (gcells g).toArray] w fun e w' => e = .returned (.int .i64 (sendCode l.length)) ∧ Two w0 w' (RefR b (if 1024 ≤ l.length then l else l ++ [g])) S K :=
  two_of lS h fun F ⟨a, cap, hF, hN⟩ => (ref_send_any w b a cap l g hN).mono fun _ _ ⟨he, hs⟩ => ⟨he, by subst hF; exact hs.r⟩
theorem two_rtake (p : Int) (hp : -9223372036854775808 ≤ p ∧ p ≤ 9223372036854775807) (k : Nat) (hkk : pickOf p l.length = k) (hk : k < l.length) (h : Two w0 w (RefR b l) S K) :
    Calls Try.prog 10 #[.pointer (some ⟨b, 0, none⟩), .int .i64 p] w fun e w' => e = .returned (.tuple #[.agg (gcells l[k]).toArray, .int .i64 0]) ∧ Two w0 w' (RefR b (l.eraseIdx k)) S K :=
  two_of lS h fun F ⟨a, cap, hF, hN⟩ => (ref_take w b a cap l p hp hN (by omega) k hkk hk).mono fun _ _ ⟨he, hs⟩ => ⟨he, by subst hF; exact hs.r⟩
theorem two_rtake_none (p : Int) (h : Two w0 w (RefR b []) S K) :
    Calls Try.prog 10 #[.pointer (some ⟨b, 0, none⟩), .int .i64 p] w fun e w' => e = .returned (.tuple #[.agg #[.int .u32 0, .int .u32 0, .string ⟨#[]⟩], .int .i64 3]) ∧ Two w0 w' (RefR b []) S K := by
  obtain ⟨F, a, cap, hF, hN⟩ := h.first
  exact (ref_take_none w b a cap p hN).mono fun _ _ ⟨he, hb⟩ => ⟨he, h.below (RefR.loc _ _) lS hb⟩
theorem two_rdouble (p : Int) (hp : -9223372036854775808 ≤ p ∧ p ≤ 9223372036854775807) (h : Two w0 w (RefR b l) S K) :
    Calls Try.prog 13 #[.pointer (some ⟨b, 0, none⟩), .int .i64 p] w fun e w' => e = .returned (.int .i64 (doubleCode l.length)) ∧ Two w0 w' (RefR b (if 1024 ≤ l.length then l else l ++ (l[pickOf p l.length]?).toList)) S K :=
  two_of lS h fun F ⟨a, cap, hF, hN⟩ => (ref_double w b a cap l p hp hN).mono fun _ _ ⟨he, hs⟩ => ⟨he, by subst hF; exact hs.r⟩
end

end Go.Proofs.Ytmlilfdaacchjaa
