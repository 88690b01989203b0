/-
  THE LOCKS THAT ARE HELD, AS A MACHINE HOLDS THEM: a map from transactions' numbers to slices of locks, and their number.
-/
import Derived.Test.YtjanjjkgnilhoaaGreatDoorLkTx
import Derived.Test.YtjanjjkgnilhoaaGreatDoorFlat
import Derived.Maps.Own
import Derived.Maps.OwnOps
import Derived.Maps.OwnSet
import Derived.Maps.Views
import Derived.Maps.RangeWalk
import Derived.DeepKeys4
namespace Go.Proofs.YtjanjjkgnilhoaaGreatDoor
open Go.RowKit Go.Maps

theorem tx_keyed : Keyed Tryz.prog 35 := Keyed.of_law (deep_law_laid (by kernel_rfl) (m := 4) (by decide) (by decide +kernel) (by kernel_rfl) (by kernel_rfl))
def tval (t : Tb.Tx) : Value := .agg #[.int .u64 t.life, .int .u64 t.n]
def tcells (t : Tb.Tx) : List Value := [.int .u64 t.life, .int .u64 t.n]
def tlit (t : Tb.Tx) : Lit := .string (keyBytes [.int .u64 t.life, .int .u64 t.n])
/-- A number that a machine can hold. -/
def In (t : Tb.Tx) : Prop := t.life < 18446744073709551616 ∧ t.n < 18446744073709551616
theorem u64_wf (c : Nat) (h : c < 18446744073709551616) : (Lit.int .u64 (c : Int)).wf = true := by
  simp only [Lit.wf, Bool.and_eq_true, decide_eq_true_eq]
  rw [show IntKind.u64.min = 0 from by decide, show IntKind.u64.max = 18446744073709551615 from by decide]
  omega
theorem tx_lits (a b : Int) (ha : (Lit.int .u64 a).wf = true) (hb : (Lit.int .u64 b).wf = true) (d : Nat) : Tryz.prog.keyLits (d + 2) 35 [.int .u64 a, .int .u64 b] = some [.int .u64 a, .int .u64 b] := by
  have k3 : Tryz.prog.cellsOf 35 = 2 := by kernel_rfl
  have k1 : Tryz.prog.cellsOf 23 = 1 := by kernel_rfl
  have hu : ∀ x : Int, (Lit.int .u64 x).wf = true → Tryz.prog.keyLits (d + 1) 23 [.int .u64 x] = some [.int .u64 x] := fun x hx => by
    unfold Program.keyLits
    rw [Tryz.underlying23]
    simp [hx]
  have hu1 := hu _ ha
  have hu2 := hu _ hb
  unfold Program.keyLits
  rw [Tryz.underlying35]
  simp [k3, k1, hu1, hu2]
theorem tkey (t : Tb.Tx) (h : In t) : keyOf Tryz.prog 35 (tval t) = some (tlit t) := by
  have hk : Tryz.prog.keyType 35 = true := by kernel_rfl
  have k3 : Tryz.prog.cellsOf 35 = 2 := by kernel_rfl
  obtain ⟨d, hd⟩ : ∃ d, Tryz.prog.types.size + 1 = d + 2 := ⟨Tryz.prog.types.size - 1, by kernel_rfl⟩
  have hf : (tval t).formed Tryz.prog 35 = true := by
    unfold tval Value.formed
    rw [Tryz.underlying35]
    simp [k3]
  unfold keyOf
  rw [Tryz.underlying35]
  simp only [hk, hf, hd]
  have e : (tval t).cells.toList = [.int .u64 t.life, .int .u64 t.n] := rfl
  rw [e, tx_lits _ _ (u64_wf _ h.1) (u64_wf _ h.2) d]
  rfl
theorem tval_inj {a b : Tb.Tx} (h : tval a = tval b) : a = b := by
  obtain ⟨a1, a2⟩ := a
  obtain ⟨b1, b2⟩ := b
  unfold tval at h
  simp only [Value.agg.injEq] at h
  have h1 := congrArg Array.toList h
  simp only [List.cons.injEq, Value.int.injEq, and_true, true_and] at h1
  rw [show a1 = b1 by omega, show a2 = b2 by omega]
theorem tlit_inj {a b : Tb.Tx} (ha : In a) (hb : In b) (h : tlit a = tlit b) : a = b :=
  tval_inj (tx_keyed.inj (tkey a ha) (by rw [h]; exact tkey b hb))


theorem grown_upd {w w' : World} {b : Nat} (h : w.grownBy w' (some b)) : Upd w w' [b] :=
  ⟨h.os, h.tape, h.output, h.size, fun k hk hF => h.block k hk (fun e => hF (by cases e; simp))⟩
/-- A slice's head, as a map's element. -/
def hd : Option Addr → Nat → Nat → DataW Unit
  | some a, n, c => .agg [.lit (.int .i64 a.block), .lit (.int .i64 a.off), .lit (.int .i64 n), .lit (.int .i64 c)]
  | none, _, _ => .nil
def RS : Value → Option (DataW Unit × List MemPlace)
  | .slice (some ⟨b, o, none⟩) n c => some (hd (some ⟨b, o, none⟩) n c, [])
  | .slice none 0 0 => some (.nil, [])
  | _ => none
def lflat (l : List LV) : List Value := (l.map LV.cells).flatten
theorem lcells_len (l : List LV) : ∀ x ∈ l.map LV.cells, x.length = 4 := by intro x hx; obtain ⟨y, _, rfl⟩ := List.mem_map.1 hx; rfl
theorem lcells_one (l : List LV) : ∀ x ∈ l.map LV.cells, ∀ u ∈ x, u.oneCell' = true := by
  intro x hx u hu; obtain ⟨y, _, rfl⟩ := List.mem_map.1 hx
  unfold LV.cells at hu
  simp at hu
  rcases hu with rfl | rfl | rfl | rfl <;> rfl
theorem RS_of {w : World} {a : Option Addr} {n c : Nat} {xs : List Value} {e : TypeId} {k : Nat} (h : SliceIs w e k a n c xs) : RS (.slice a n c) = some (hd a n c, []) := by
  rcases h.2 with ⟨rfl, rfl, rfl⟩ | ⟨g, off, cur, rfl, _⟩ <;> rfl
theorem RS_inv {w : World} {a : Option Addr} {n c : Nat} {xs : List Value} {e : TypeId} {k : Nat} (h : SliceIs w e k a n c xs) {v : Value} {ps : List MemPlace} (hv : RS v = some (hd a n c, ps)) : v = .slice a n c := by
  rcases h.2 with ⟨rfl, rfl, rfl⟩ | ⟨g, off, cur, rfl, _⟩
  · unfold RS at hv
    split at hv
    · simp [hd] at hv
    · rfl
    · cases hv
  · unfold RS at hv
    split at hv
    · simp only [hd, Option.some.injEq, Prod.mk.injEq, DataW.agg.injEq, List.cons.injEq, DataW.lit.injEq, Lit.int.injEq, true_and, and_true] at hv
      obtain ⟨⟨h1, h2, h3, h4⟩, _⟩ := hv
      rw [Int.ofNat_inj.1 h1, Int.ofNat_inj.1 h2, Int.ofNat_inj.1 h3, Int.ofNat_inj.1 h4]
    · simp [hd] at hv
    · cases hv
/-- What the map says. -/
structure SaysR (W : World) (D : DataW Unit) (X : Lh.St) : Prop where
  only : ∀ kl, Maps.has D kl = true → ∃ t, kl = tlit t ∧ In t ∧ Lh.row X t ≠ []
  all : ∀ t, In t → Lh.row X t ≠ [] → Maps.has D (tlit t) = true
  val : ∀ t, In t → ∃ a cap, D.atKey (tlit t) .nil = hd a (Lh.row X t).length cap ∧ SliceIs W 25 4 a (Lh.row X t).length cap (lflat (Lh.row X t))
/-- The locks that are held, at block q; the map at block b. -/
structure LkAt (W : World) (q b : Nat) (X : Lh.St) (n : Nat) : Prop where
  box : W.heap[q]? = some (.cells #[.map (some b), .int .i64 X.length] 57 (0, 0))
  map : ∃ D, W.ownsMap Tryz.prog 35 RS b n D ∧ IsMap D ∧ SaysR W D X
  ok : ∀ e ∈ X, In e.1 ∧ okL e.2
  most : X.length ≤ 4096
theorem owns_map {W : World} {b n : Nat} {D : DataW Unit} (h : W.ownsMap Tryz.prog 35 RS b n D) : ∃ es c, W.heap[b]? = some (.map es c) := by
  obtain ⟨es, c, hb, _⟩ := h; exact ⟨es, c, hb⟩
theorem slice_ne_map {W : World} {e : TypeId} {k : Nat} {a : Option Addr} {n c : Nat} {xs : List Value} (h : SliceIs W e k a n c xs) {b : Nat} {es : Array MapEntry} {cl : Nat} (hb : W.heap[b]? = some (.map es cl)) : b ∉ blks a := by
  rcases h.2 with ⟨rfl, _⟩ | ⟨g, off, cur, rfl, hg, _⟩
  · simp
  · intro hk; simp at hk; subst hk; rw [hb] at hg; cases hg
theorem SaysR.keep {W W' : World} {D : DataW Unit} {X : Lh.St} (h : SaysR W D X) (hk : ∀ k, k < W.heap.size → (∃ cs, W.heap[k]? = some (.cells cs 25 (0, 0))) → W'.heap[k]? = W.heap[k]?) : SaysR W' D X := by
  refine ⟨h.only, h.all, fun t ht => ?_⟩
  obtain ⟨a, cap, h1, h2⟩ := h.val t ht
  refine ⟨a, cap, h1, h2.keep fun k hkb => ?_⟩
  refine hk k (h2.lt k hkb) ?_
  rcases h2.2 with ⟨rfl, _⟩ | ⟨g, off, cur, rfl, hg, _⟩
  · simp at hkb
  · simp at hkb; subst hkb; exact ⟨cur, hg⟩
theorem LkAt.keep {W W' : World} {q b n : Nat} {X : Lh.St} (h : LkAt W q b X n) (hb : Below W.heap.size W W') : LkAt W' q b X n := by
  obtain ⟨D, h1, h2, h3⟩ := h.map
  refine ⟨(hb.block q (blk_lt h.box)).trans h.box, ⟨D, ?_, h2, h3.keep fun k hk _ => hb.block k hk⟩, h.ok, h.most⟩
  have hl := h1.lt
  obtain ⟨es, c, e1, F, e2, e3⟩ := h1
  exact ⟨es, c, (hb.block b hl).trans e1, F, e2, e3⟩
theorem LkAt.lt {W : World} {q b n : Nat} {X : Lh.St} (h : LkAt W q b X n) : q < W.heap.size ∧ b < W.heap.size := by
  obtain ⟨D, h1, _⟩ := h.map
  exact ⟨blk_lt h.box, h1.lt⟩
theorem LkAt.ne {W : World} {q b n : Nat} {X : Lh.St} (h : LkAt W q b X n) : q ≠ b := by
  obtain ⟨D, h1, _⟩ := h.map
  obtain ⟨es, c, hb⟩ := owns_map h1
  intro e; subst e
  have := h.box
  rw [hb] at this; cases this
theorem LkAt.mono {W : World} {q b n n' : Nat} {X : Lh.St} (h : LkAt W q b X n) (hn : n ≤ n') : LkAt W q b X n' := by
  obtain ⟨D, h1, h2, h3⟩ := h.map
  exact ⟨h.box, ⟨D, h1.mono hn, h2, h3⟩, h.ok, h.most⟩
theorem row_okL {X : Lh.St} (h : ∀ e ∈ X, In e.1 ∧ okL e.2) (t : Tb.Tx) : ∀ y ∈ Lh.row X t, okL y := fun _ hy => (h _ (Lh.mem_row.1 hy)).2
theorem zero_row (W : World) : (zeroValue 36).run Tryz.prog W = .ok (.slice none 0 0) W := by kernel_rfl
/-- One's locks, looked up. -/
theorem LkAt.look {W : World} {q b n : Nat} {X : Lh.St} (h : LkAt W q b X n) {t : Tb.Tx} (ht : In t) : ∃ a cap, (Instr.lookup 55 (.map (some b)) (.agg #[.int .u64 t.life, .int .u64 t.n]) false).run Tryz.prog W = .ok (.slice a (Lh.row X t).length cap) W ∧ SliceIs W 25 4 a (Lh.row X t).length cap (lflat (Lh.row X t)) := by
  obtain ⟨D, h1, h2, h3⟩ := h.map
  obtain ⟨v, ps, hrun, hv⟩ := h1.lookup tx_keyed Tryz.underlying55 (zero_row W) (show RS (.slice none 0 0) = some (.nil, []) from rfl) (tkey t ht)
  obtain ⟨a, cap, e1, e2⟩ := h3.val t ht
  rw [e1] at hv
  have := RS_inv e2 hv
  subst this
  exact ⟨a, cap, hrun, e2⟩
/-- One's locks, laid down anew. -/
theorem LkAt.store {W : World} {q b n : Nat} {X : Lh.St} (h : LkAt W q b X n) (hn : n < 1000000) {t : Tb.Tx} (ht : In t) {a : Option Addr} {cap : Nat} {l : List LV} (hl : l ≠ []) (hs : SliceIs W 25 4 a l.length cap (lflat l)) :
    ∃ W', (Instr.mapUpdate 55 (.map (some b)) (.agg #[.int .u64 t.life, .int .u64 t.n]) (.slice a l.length cap)).run Tryz.prog W = .ok () W' ∧ Upd W W' [b] ∧ W'.heap.size = W.heap.size ∧
      ∀ W2 X', Lh.row X' t = l → (∀ s, s ≠ t → Lh.row X' s = Lh.row X s) → (∀ e ∈ X', In e.1 ∧ okL e.2) → X'.length ≤ 4096 → W2.heap[q]? = some (.cells #[.map (some b), .int .i64 X'.length] 57 (0, 0)) → Upd W' W2 [q] → LkAt W2 q b X' (n + 1) := by
  obtain ⟨D, h1, h2, h3⟩ := h.map
  obtain ⟨W', hrun, ho, hg⟩ := h1.store tx_keyed Tryz.underlying55 (by unfold maxLen; omega) (tkey t ht) (RS_of hs)
  have hU := grown_upd hg.grown
  obtain ⟨es, c, hb⟩ := owns_map h1
  have hsz : W'.heap.size = W.heap.size := by
    obtain ⟨_, _, _, _, _, rfl⟩ := hg; simp [Go.ChangeMaps.setBlock]
  refine ⟨W', hrun, hU, hsz, fun W2 X' r1 r2 hok hm hbx hU2 => ?_⟩
  have hbox' : W'.heap[q]? = W.heap[q]? := hU.keep q h.lt.1 (by simp; exact h.ne)
  have hkeep : ∀ k, k < W.heap.size → (∃ cs, W.heap[k]? = some (.cells cs 25 (0, 0))) → W2.heap[k]? = W.heap[k]? := fun k hk ⟨cs, hc⟩ => by
    have e1 : k ≠ b := fun e => by subst e; rw [hb] at hc; cases hc
    have e2 : k ≠ q := fun e => by subst e; rw [h.box] at hc; cases hc
    exact (hU2.keep k (by omega) (by simpa using e2)).trans (hU.keep k hk (by simpa using e1))
  have hkk := tx_keyed.key (tkey t ht)
  refine ⟨hbx, ⟨D.put (tlit t) (hd a l.length cap), ?_, h2.put _ _, ⟨fun kl hx => ?_, fun s hs' h0 => ?_, fun s hs' => ?_⟩⟩, hok, hm⟩
  · have hl2 := ho.lt
    obtain ⟨es', c', e1, F, e2, e3⟩ := ho
    exact ⟨es', c', (hU2.keep b hl2 (by simp; exact Ne.symm h.ne)).trans e1, F, e2, e3⟩
  · by_cases e : kl = tlit t
    · exact ⟨t, e, ht, by rw [r1]; exact hl⟩
    · rw [has_put_other e] at hx
      obtain ⟨s, rfl, q1, q2⟩ := h3.only kl hx
      exact ⟨s, rfl, q1, by rw [r2 s (fun e2 => e (by rw [e2]))]; exact q2⟩
  · by_cases e : s = t
    · rw [e]; exact has_put_same h2 hkk _
    · rw [has_put_other (fun e2 => e (tlit_inj hs' ht e2))]
      rw [r2 s e] at h0
      exact h3.all s hs' h0
  · by_cases e : s = t
    · subst e
      rw [r1]
      refine ⟨a, cap, atKey_put_same h2 hkk _ _, hs.keep fun k hk => hkeep k (hs.lt k hk) ?_⟩
      rcases hs.2 with ⟨rfl, _⟩ | ⟨g, off, cur, rfl, hg', _⟩
      · simp at hk
      · simp at hk; subst hk; exact ⟨cur, hg'⟩
    · rw [r2 s e]
      obtain ⟨a', cap', q1, q2⟩ := h3.val s hs'
      refine ⟨a', cap', by rw [atKey_put_other (fun e2 => e (tlit_inj hs' ht e2))]; exact q1, q2.keep fun k hk => hkeep k (q2.lt k hk) ?_⟩
      rcases q2.2 with ⟨rfl, _⟩ | ⟨g, off, cur, rfl, hg', _⟩
      · simp at hk
      · simp at hk; subst hk; exact ⟨cur, hg'⟩
/-- One's locks, struck. -/
theorem LkAt.strike {W : World} {q b n : Nat} {X : Lh.St} (h : LkAt W q b X n) {t : Tb.Tx} (ht : In t) (ty : TypeId) :
    ∃ W', (Builtin.delete_ #[55, 35] ty #[.map (some b), .agg #[.int .u64 t.life, .int .u64 t.n]]).run Tryz.prog W = .ok (.tuple #[]) W' ∧ Upd W W' [b] ∧ W'.heap.size = W.heap.size ∧
      ∀ W2, W2.heap[q]? = some (.cells #[.map (some b), .int .i64 (Lh.drop X t).length] 57 (0, 0)) → Upd W' W2 [q] → LkAt W2 q b (Lh.drop X t) n := by
  obtain ⟨D, h1, h2, h3⟩ := h.map
  obtain ⟨W', hrun, ho, hg⟩ := h1.drop tx_keyed Tryz.underlying55 (tkey t ht) ty
  have hU := grown_upd hg.grown
  obtain ⟨es, c, hb⟩ := owns_map h1
  have hsz : W'.heap.size = W.heap.size := by
    obtain ⟨_, _, _, _, _, rfl⟩ := hg; simp [Go.ChangeMaps.setBlock]
  refine ⟨W', hrun, hU, hsz, fun W2 hbx hU2 => ?_⟩
  have hkeep : ∀ k, k < W.heap.size → (∃ cs, W.heap[k]? = some (.cells cs 25 (0, 0))) → W2.heap[k]? = W.heap[k]? := fun k hk ⟨cs, hc⟩ => by
    have e1 : k ≠ b := fun e => by subst e; rw [hb] at hc; cases hc
    have e2 : k ≠ q := fun e => by subst e; rw [h.box] at hc; cases hc
    exact (hU2.keep k (by omega) (by simpa using e2)).trans (hU.keep k hk (by simpa using e1))
  refine ⟨hbx, ⟨D.del (tlit t), ?_, h2.del _, ⟨fun kl hx => ?_, fun s hs' h0 => ?_, fun s hs' => ?_⟩⟩, fun e he => h.ok e (List.mem_filter.1 he).1, Nat.le_trans (List.length_filter_le _ _) h.most⟩
  · have hl2 := ho.lt
    obtain ⟨es', c', e1, F, e2, e3⟩ := ho
    exact ⟨es', c', (hU2.keep b hl2 (by simp; exact Ne.symm h.ne)).trans e1, F, e2, e3⟩
  · by_cases e : kl = tlit t
    · rw [e, has_del_same] at hx; cases hx
    · rw [has_del_other e] at hx
      obtain ⟨s, rfl, q1, q2⟩ := h3.only kl hx
      exact ⟨s, rfl, q1, by rw [Lh.row_drop_other X (fun e2 => e (by rw [e2]))]; exact q2⟩
  · by_cases e : s = t
    · subst e; rw [Lh.row_drop_same] at h0; exact absurd rfl h0
    · rw [has_del_other (fun e2 => e (tlit_inj hs' ht e2))]
      rw [Lh.row_drop_other X e] at h0
      exact h3.all s hs' h0
  · by_cases e : s = t
    · subst e
      rw [Lh.row_drop_same]
      exact ⟨none, 0, atKey_del_same _, SliceIs.nil _ _ _⟩
    · rw [Lh.row_drop_other X e]
      obtain ⟨a', cap', q1, q2⟩ := h3.val s hs'
      refine ⟨a', cap', by rw [atKey_del_other (fun e2 => e (tlit_inj hs' ht e2))]; exact q1, q2.keep fun k hk => hkeep k (q2.lt k hk) ?_⟩
      rcases q2.2 with ⟨rfl, _⟩ | ⟨g, off, cur, rfl, hg', _⟩
      · simp at hk
      · simp at hk; subst hk; exact ⟨cur, hg'⟩

/-- Which numbers a walk through the map has found so far. -/
structure Keys (F : Tb.Tx → Bool) (D : DataW Unit) (left : Lit → Bool) (acc : List Tb.Tx) : Prop where
  sub : ∀ kl, left kl = true → Maps.has D kl = true
  nodup : acc.Nodup
  ok : ∀ t ∈ acc, In t ∧ F t = true ∧ left (tlit t) = false
  all : ∀ t, In t → F t = true → left (tlit t) = true ∨ t ∈ acc
theorem Keys.start {F : Tb.Tx → Bool} {D : DataW Unit} (hS : ∀ t, In t → F t = true → Maps.has D (tlit t) = true) : Keys F D (Maps.has D) [] :=
  ⟨fun _ h => h, List.nodup_nil, by simp, fun t ht h0 => .inl (hS t ht h0)⟩
theorem Keys.snoc {F : Tb.Tx → Bool} {D : DataW Unit} {left : Lit → Bool} {acc : List Tb.Tx} (h : Keys F D left acc) (t : Tb.Tx) (ht : In t) (h0 : F t = true) (hl : left (tlit t) = true) : Keys F D (fun z => left z && !z.sameKey (tlit t)) (acc ++ [t]) := by
  refine ⟨fun kl hk => h.sub kl (by simp at hk; exact hk.1), ?_, fun x hx => ?_, fun x hx hx0 => ?_⟩
  · rw [List.nodup_append]
    refine ⟨h.nodup, by simp, fun a ha b hb => ?_⟩
    simp at hb
    rw [hb]
    intro e
    have := (h.ok a ha).2.2
    rw [e, hl] at this; cases this
  · rcases List.mem_append.1 hx with hx | hx
    · obtain ⟨h1, h2, h3⟩ := h.ok x hx
      exact ⟨h1, h2, by rw [h3]; rfl⟩
    · simp at hx
      rw [hx]
      refine ⟨ht, h0, ?_⟩
      try simp only
      rw [Go.WideAt.sameKey_self (tx_keyed.key (tkey t ht))]; simp
  · by_cases e : x = t
    · exact .inr (by rw [e]; simp)
    · rcases h.all x hx hx0 with h1 | h1
      · refine .inl ?_
        try simp only
        rw [h1, sameKey_ne (fun e2 => e (tlit_inj hx ht e2))]; rfl
      · exact .inr (List.mem_append_left _ h1)
/-- What the walk has found, behind it all. -/
theorem Keys.done {F : Tb.Tx → Bool} {D : DataW Unit} {left : Lit → Bool} {acc : List Tb.Tx} (h : Keys F D left acc) (hl : ∀ kl, left kl = false) : acc.Nodup ∧ (∀ t ∈ acc, In t ∧ F t = true) ∧ ∀ t, In t → F t = true → t ∈ acc :=
  ⟨h.nodup, fun t ht => ⟨(h.ok t ht).1, (h.ok t ht).2.1⟩, fun t ht h0 => by
    rcases h.all t ht h0 with h1 | h1
    · rw [hl] at h1; cases h1
    · exact h1⟩

end Go.Proofs.YtjanjjkgnilhoaaGreatDoor
