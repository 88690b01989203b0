/-
  A MAP KEYED BY MESSAGES BESIDE A NET: what a store leaves of both; how often each message is under way.
-/
import Derived.Test.YtmlilfdaacchjaaNetMap
import Derived.Test.YtmlilfdaacchjaaMapEntry
namespace Go.Proofs.Ytmlilfdaacchjaa
open Go.RowKit Go.Maps Go.WideMaps

theorem gram_law : KeyLaw Try.prog 33 := deep_law_laid (by kernel_rfl) (m := 4) (by decide) (by decide +kernel) (by kernel_rfl) (by kernel_rfl)
theorem zeroI (w : World) : (zeroValue 3).run Try.prog w = .ok (.int .i64 0) w := by kernel_rfl

theorem grown_upd {w w' : World} {b : Nat} (h : w.grownBy w' (some b)) : Upd w w' [b] :=
  ⟨h.os, h.tape, h.output, h.size, fun k hk hF => h.block k hk (fun e => hF (by cases e; simp))⟩
theorem grown_none {w w' : World} (h : w.grownBy w' none) : Below w.heap.size w w' := ⟨h.os, h.tape, h.output, h.size, fun k hk => h.block k hk (by simp)⟩
theorem grown_at {w w' : World} {b n : Nat} (h : w.grownBy w' (some b)) (hn : n ≤ w.heap.size) (hb : n ≤ b) : Below n w w' := ⟨h.os, h.tape, h.output, h.size, fun k hk => h.block k (by omega) (fun e => by cases e; omega)⟩
/-- The map as a thing of its own block. -/
def MapR (b n : Nat) (L : List Gram) : World → List Nat → Prop := fun w F => F = [b] ∧ OnceMap w b n L
theorem MapR.loc (b n : Nat) (L : List Gram) : Loc (MapR b n L) :=
  ⟨fun _ _ _ ⟨hF, h⟩ hk => ⟨hF, h.kept (hk b (by rw [hF]; simp))⟩, fun _ _ ⟨hF, h⟩ k hk => by
    obtain ⟨D, ho, _⟩ := h
    rw [hF] at hk; simp at hk; subst hk; exact ho.lt⟩
theorem Two.turned {w0 w w' : World} {R : World → List Nat → Prop} {K : List (Nat × Obj)} {b n n' : Nat} {L L' : List Gram} (lR : Loc R) (h : Two w0 w R (MapR b n L) K) (hu : Upd w w' [b]) (ho : OnceMap w' b n' L') : Two w0 w' R (MapR b n' L') K :=
  (h.swap.step lR (fun F hF => by obtain ⟨rfl, _⟩ := hF; exact ⟨[b], ⟨rfl, ho⟩, hu, fun k hk => .inl hk⟩)).swap
theorem Two.map {w0 w : World} {R : World → List Nat → Prop} {K : List (Nat × Obj)} {b n : Nat} {L : List Gram} (h : Two w0 w R (MapR b n L) K) : OnceMap w b n L := by
  obtain ⟨F, _, ho⟩ := h.swap.first; exact ho
theorem OnceMap.mono {w : World} {b n n' : Nat} {L : List Gram} (h : OnceMap w b n L) (hn : n ≤ n') : OnceMap w b n' L := by
  obtain ⟨D, ho, hr⟩ := h; exact ⟨D, ho.mono hn, hr⟩
theorem Two.mapMono {w0 w : World} {R : World → List Nat → Prop} {K : List (Nat × Obj)} {b n n' : Nat} {L : List Gram} (lR : Loc R) (h : Two w0 w R (MapR b n L) K) (hn : n ≤ n') : Two w0 w R (MapR b n' L) K :=
  h.turned lR (Upd.refl _ _) (h.map.mono hn) (w' := w)
/-- What a map says of each key. -/
def Says (D : DataW Unit) (L : List Gram) : Prop := ∀ key kl, keyOf Try.prog 33 key = some kl → D.atKey kl (.lit (.int .i64 0)) = .lit (.int .i64 (cnt key L))
theorem OnceMap.out {w : World} {b n : Nat} {L : List Gram} (h : OnceMap w b n L) : ∃ D : DataW Unit, w.ownsMap Try.prog 33 (plainElem Try.prog 3) b n D ∧ IsMap D ∧ Says D L := h
theorem Says.count {D : DataW Unit} {L : List Gram} (h : Says D L) {key : Value} {kl : Lit} (hk : keyOf Try.prog 33 key = some kl) {c : Int} (hat : D.atKey kl (.lit (.int .i64 0)) = .lit (.int .i64 c)) : c = cnt key L := by
  have := hat.symm.trans (h key kl hk)
  injection this with h1
  injection h1
theorem Says.same {D D1 : DataW Unit} {L : List Gram} (h : Says D L) (hat : ∀ kl', D1.atKey kl' (.lit (.int .i64 0)) = D.atKey kl' (.lit (.int .i64 0))) : Says D1 L := fun key kl hk => (hat kl).trans (h key kl hk)
/-- A store at one key. -/
theorem Says.put {w' : World} {b n : Nat} {D : DataW Unit} {L L' : List Gram} (h : Says D L) (hM : IsMap D) {g : Gram} {kl : Lit} (hg : keyOf Try.prog 33 (gval g) = some kl) {c : Int} (ho : w'.ownsMap Try.prog 33 (plainElem Try.prog 3) b n (D.put kl (.lit (.int .i64 c))))
    (hc : c = cnt (gval g) L') (hL : ∀ key, key ≠ gval g → cnt key L' = cnt key L) : OnceMap w' b n L' := OnceMap.put (w := w') hM h hg ho hc hL

open Classical in
theorem cnt_le (key : Value) (L : List Gram) : cnt key L ≤ L.length := List.length_filter_le _ _
open Classical in
theorem cnt_snoc_same (L : List Gram) (g : Gram) : cnt (gval g) (L ++ [g]) = cnt (gval g) L + 1 := by rw [cnt_snoc, if_pos rfl]
open Classical in
theorem cnt_snoc_other (L : List Gram) (g : Gram) (key : Value) (h : key ≠ gval g) : cnt key (L ++ [g]) = cnt key L := by rw [cnt_snoc, if_neg (fun e => h e.symm)]; rfl
open Classical in
theorem cnt_erase_same (L : List Gram) (k : Nat) (hk : k < L.length) : cnt (gval L[k]) (L.eraseIdx k) + 1 = cnt (gval L[k]) L := by
  have := cnt_erase (gval L[k]) L k hk; rwa [if_pos rfl] at this
open Classical in
theorem cnt_erase_other (L : List Gram) (k : Nat) (hk : k < L.length) (key : Value) (h : key ≠ gval L[k]) : cnt key (L.eraseIdx k) = cnt key L := by
  have := cnt_erase key L k hk; rw [if_neg (fun e => h e.symm)] at this; simpa using this
open Classical in
theorem cnt_drop (L : List Gram) (k : Nat) (hk : k < L.length) (key : Value) : cnt key (L.drop k) = cnt key (L.drop (k + 1)) + if gval L[k] = key then 1 else 0 := by
  have e : cnt key (L.drop k) = cnt key (L[k] :: L.drop (k + 1)) := by rw [List.drop_eq_getElem_cons hk]
  rw [e]
  generalize L.drop (k + 1) = M
  unfold cnt
  by_cases h : gval L[k] = key <;> simp [List.filter_cons, h]
theorem cnt_drop_same (L : List Gram) (k : Nat) (hk : k < L.length) : cnt (gval L[k]) (L.drop k) = cnt (gval L[k]) (L.drop (k + 1)) + 1 := by rw [cnt_drop L k hk, if_pos rfl]
theorem cnt_drop_other (L : List Gram) (k : Nat) (hk : k < L.length) (key : Value) (h : key ≠ gval L[k]) : cnt key (L.drop (k + 1)) = cnt key (L.drop k) := by rw [cnt_drop L k hk, if_neg (fun e => h e.symm)]; rfl

/-- All, and what is left of its answer later on. -/
theorem two_all_k {w0 w : World} {S : World → List Nat → Prop} {K : List (Nat × Obj)} (lS : Loc S) {b : Nat} {l : List Gram} (h : Two w0 w (NetR b l) S K) :
    Calls Try.prog 17 #[.pointer (some ⟨b, 0, none⟩)] w fun e w' => ∃ a cap K1, e = .returned (.slice a l.length cap) ∧ Two w0 w' (NetR b l) S (K ++ K1) ∧
      ∀ w'', (∀ p ∈ K1, w''.heap[p.1]? = some p.2) → SliceIs w'' 33 3 a l.length cap (gall l) := by
  refine (two_all h).mono ?_
  rintro e w' ⟨a, cap, rfl, hs, hb, hf⟩
  cases a with
  | none => exact ⟨none, cap, [], rfl, by simpa using h.below (NetR.loc _ _) lS hb, fun w'' _ => hs.keep (by simp [blks])⟩
  | some q =>
    have hlt := hs.lt q.block (by simp [blks])
    have hq := hf q.block (by simp [blks])
    refine ⟨some q, cap, [(q.block, w'.heap[q.block])], rfl, ?_, fun w'' hk => hs.keep fun k hk2 => ?_⟩
    · have h2 := h.more (NetR.loc _ _) lS hb hq (Array.getElem?_eq_getElem hlt)
      exact h2.forget (fun p hp => by simp at hp ⊢; rcases hp with h | h; · exact .inr h
                                      · exact .inl h)
    · simp [blks] at hk2; subst hk2
      have := hk _ (List.mem_singleton.2 rfl)
      rw [this]; exact (Array.getElem?_eq_getElem hlt).symm

abbrev gk (g : Gram) : Value := .agg #[.int .u32 (w32 g.frm), .int .u32 (w32 g.to), .string g.text]
theorem plain_int {c : Int} (h : -9223372036854775808 ≤ c ∧ c ≤ 9223372036854775807) : plainElem (H := Unit) Try.prog 3 (.int .i64 c) = some (.lit (.int .i64 c), []) :=
  plainElem_int Try.underlying3 (by simp only [Lit.wf, Bool.and_eq_true, decide_eq_true_eq]; rw [show IntKind.i64.min = -9223372036854775808 from by decide, show IntKind.i64.max = 9223372036854775807 from by decide]; exact h)

theorem OnceMap.look {w : World} {b n : Nat} {L : List Gram} (h : OnceMap w b n L) (g : Gram) (hg : g.text.size ≤ maxLen) :
    (Instr.lookup 50 (.map (some b)) (gk g) false).run Try.prog w = .ok (.int .i64 (cnt (gval g) L)) w := by
  obtain ⟨D, hown, hM, hS⟩ := h.out
  obtain ⟨kl, hkl⟩ := gkey_of g hg
  obtain ⟨cc, hr, hat, _⟩ := hown.lookup_int gram_keyed Try.underlying50 Try.underlying3 (zeroI _) hkl
  have := hS.count hkl hat
  subst this
  exact hr
/-- One store into the map: what each operation of 'm[g] op= x' does, and what the map is then. -/
theorem OnceMap.step {w : World} {b n : Nat} {L : List Gram} (h : OnceMap w b n L) (hn : n < 100000) (g : Gram) (hg : g.text.size ≤ maxLen) (L' : List Gram) (c : Int) (hc : c = cnt (gval g) L') (hb : c ≤ 100000) (hL : ∀ key, key ≠ gval g → cnt key L' = cnt key L) :
    ∃ (v0 : Value) (st : Nat) (w5 w6 : World), (Instr.lookup 50 (.map (some b)) (gk g) false).run Try.prog w = .ok (.int .i64 (cnt (gval g) L)) w ∧
      (Instr.mapEntry 50 (.map (some b)) (gk g)).run Try.prog w = .ok (.tuple #[v0, .int .i64 st]) w5 ∧
      (Instr.lookup 50 (.map (some b)) (gk g) false).run Try.prog w5 = .ok (.int .i64 (cnt (gval g) L)) w5 ∧
      (Instr.entryStore 50 (.map (some b)) (.int .i64 st) (.int .i64 c)).run Try.prog w5 = .ok () w6 ∧ OnceMap w6 b (n + 1) L' ∧ Upd w w6 [b] := by
  obtain ⟨D, hown, hM, hS⟩ := h.out
  obtain ⟨kl, hkl⟩ := gkey_of g hg
  obtain ⟨cc, hr, hat, _⟩ := hown.lookup_int gram_keyed Try.underlying50 Try.underlying3 (zeroI _) hkl
  have := hS.count hkl hat
  subst this
  obtain ⟨v0, st, w5, hrE, hgE, hp, D1, hown1, hat1⟩ := World.ownsMap.entry hown gram_law Try.underlying50 (by unfold maxLen; omega) zeroI (plain_int (by omega)) hkl
  obtain ⟨cc, hr1, hat2, _⟩ := hown1.lookup_int gram_keyed Try.underlying50 Try.underlying3 (zeroI _) hkl
  have := (hS.same hat1).count hkl hat2
  subst this
  obtain ⟨w6, hrS, ho6, hg6⟩ := hp w5 (.int .i64 c) _ _ rfl (plain_int (by omega))
  exact ⟨v0, st, w5, w6, hr, hrE, hr1, hrS, hS.put hM hkl ho6 hc hL, (grown_upd hgE).trans (grown_upd hg6) (fun x hx => .inl hx)⟩
theorem OnceMap.update {w : World} {b n : Nat} {L : List Gram} (h : OnceMap w b n L) (hn : n < 100000) (g : Gram) (hg : g.text.size ≤ maxLen) (L' : List Gram) (c : Int) (hc : c = cnt (gval g) L') (hb : c ≤ 100000) (hL : ∀ key, key ≠ gval g → cnt key L' = cnt key L) :
    ∃ (w6 : World), (Instr.lookup 50 (.map (some b)) (gk g) false).run Try.prog w = .ok (.int .i64 (cnt (gval g) L)) w ∧
      (Instr.mapUpdate 50 (.map (some b)) (gk g) (.int .i64 c)).run Try.prog w = .ok () w6 ∧ OnceMap w6 b (n + 1) L' ∧ Upd w w6 [b] := by
  obtain ⟨D, hown, hM, hS⟩ := h.out
  obtain ⟨kl, hkl⟩ := gkey_of g hg
  obtain ⟨cc, hr, hat, _⟩ := hown.lookup_int gram_keyed Try.underlying50 Try.underlying3 (zeroI _) hkl
  have := hS.count hkl hat
  subst this
  obtain ⟨w6, hrS, ho6, hg6⟩ := World.ownsMap.update hown gram_keyed Try.underlying50 (by unfold maxLen; omega) hkl (plain_int (c := c) (by omega))
  exact ⟨w6, hr, hrS, hS.put hM hkl ho6 hc hL, grown_upd hg6⟩

/-- What Drop and Double bring about. -/
def Ways (p : Int) (L : List Gram) (q : Int) (L2 : List Gram) : Prop :=
  (L.length = 0 ∧ q = 3 ∧ L = L2) ∨ (0 < L.length ∧ q = 4 ∧ L = L2) ∨
    (0 < L.length ∧ q = 0 ∧ L2.length ≤ 1024 ∧ (∀ x ∈ L2, x.text.size ≤ maxLen) ∧ (cnt (gval (tOut p L)) L : Int) + L2.length - L.length = cnt (gval (tOut p L)) L2 ∧ ∀ key, key ≠ gval (tOut p L) → cnt key L2 = cnt key L)
theorem drop_ways (p : Int) (L : List Gram) (hL : L.length ≤ 1024) (hs : ∀ g ∈ L, g.text.size ≤ maxLen) : Ways p L (dropCode L.length) (L.eraseIdx (pickOf p L.length)) := by
  rcases Nat.eq_zero_or_pos L.length with h0 | h0
  · obtain rfl : L = [] := List.eq_nil_of_length_eq_zero h0
    exact .inl ⟨rfl, rfl, rfl⟩
  · have hk := pickOf_lt p L.length h0
    have e := tOut_at p L hk
    refine .inr (.inr ⟨h0, if_neg (by omega), ?_, fun x hx => hs x ((List.eraseIdx_sublist ..).subset hx), ?_, ?_⟩)
    · rw [List.length_eraseIdx]; split <;> omega
    · rw [e]
      have := cnt_erase_same L _ hk
      rw [List.length_eraseIdx, if_pos hk]
      omega
    · rw [e]; exact cnt_erase_other L _ hk
theorem double_ways (p : Int) (L : List Gram) (hL : L.length ≤ 1024) (hs : ∀ g ∈ L, g.text.size ≤ maxLen) : Ways p L (doubleCode L.length) (if 1024 ≤ L.length then L else L ++ (L[pickOf p L.length]?).toList) := by
  rcases Nat.eq_zero_or_pos L.length with h0 | h0
  · obtain rfl : L = [] := List.eq_nil_of_length_eq_zero h0
    exact .inl ⟨rfl, rfl, rfl⟩
  · have hk := pickOf_lt p L.length h0
    have e := tOut_at p L hk
    by_cases hf : 1024 ≤ L.length
    · refine .inr (.inl ⟨h0, ?_, ?_⟩)
      · unfold doubleCode sendCode; rw [if_neg (by omega), if_pos hf]
      · rw [if_pos hf]
    · refine .inr (.inr ⟨h0, ?_, ?_, ?_, ?_, ?_⟩)
      · unfold doubleCode sendCode; rw [if_neg (by omega), if_neg hf]
      all_goals rw [if_neg hf, List.getElem?_eq_getElem hk]
      · simp; omega
      · intro x hx
        simp at hx
        rcases hx with h | rfl
        · exact hs x h
        · exact hs _ (List.getElem_mem hk)
      · rw [e]
        have := cnt_snoc_same L L[pickOf p L.length]
        simp only [Option.toList_some, List.length_append, List.length_singleton]
        omega
      · rw [e]; exact cnt_snoc_other L _
theorem two_drop_w {w0 w : World} {S : World → List Nat → Prop} {K : List (Nat × Obj)} (lS : Loc S) {b : Nat} {l : List Gram} (p : Int) (hp : -9223372036854775808 ≤ p ∧ p ≤ 9223372036854775807) (hL : l.length ≤ 1024) (hs : ∀ g ∈ l, g.text.size ≤ maxLen) (h : Two w0 w (NetR b l) S K) :
    Calls Try.prog 11 #[.pointer (some ⟨b, 0, none⟩), .int .i64 p] w fun e w' => ∃ q L2, e = .returned (.int .i64 q) ∧ Ways p l q L2 ∧ Two w0 w' (NetR b L2) S K :=
  (two_drop lS p hp h).mono fun _ _ ⟨he, hT⟩ => ⟨_, _, he, drop_ways p l hL hs, hT⟩
theorem two_double_w {w0 w : World} {S : World → List Nat → Prop} {K : List (Nat × Obj)} (lS : Loc S) {b : Nat} {l : List Gram} (p : Int) (hp : -9223372036854775808 ≤ p ∧ p ≤ 9223372036854775807) (hL : l.length ≤ 1024) (hs : ∀ g ∈ l, g.text.size ≤ maxLen) (h : Two w0 w (NetR b l) S K) :
    Calls Try.prog 12 #[.pointer (some ⟨b, 0, none⟩), .int .i64 p] w fun e w' => ∃ q L2, e = .returned (.int .i64 q) ∧ Ways p l q L2 ∧ Two w0 w' (NetR b L2) S K :=
  (two_double lS p hp h).mono fun _ _ ⟨he, hT⟩ => ⟨_, _, he, double_ways p l hL hs, hT⟩

end Go.Proofs.Ytmlilfdaacchjaa
