/-
  Joined out of the texts MsgDecR MsgGet8.
-/
import Derived.Test.YtjgnomjjphkfbaaGreatRGo
import Derived.Test.YtjgnomjjphkfbaaGreatRWr
import Derived.Test.YtjgnomjjphkfbaaGreatRMay
import Derived.Test.YtjgnomjjphkfbaaGreatRGetT
import Derived.Test.YtjgnomjjphkfbaaGreatRREnc
namespace Go.Proofs.YtjgnomjjphkfbaaGreat
open Go.RowKit

namespace Mg
def bodyFitW (m : Msg) : Bool :=
  if m.kind = 1 then c1.fit (m.low, (m.map, m.parts), m.ask, m.rows, (m.next, m.own))
  else if m.kind = 2 then c2.fit (m.rows, m.commit, m.err, m.told)
  else if m.kind = 3 then c3.fit (m.low, m.commit)
  else if m.kind = 6 then c6.fit (m.low, m.state)
  else true
def decRB (k : Nat) (t : Tx) (r : List UInt8) : Option (Msg × List UInt8) :=
  if k = 1 then (c1.dec r).map fun p => ({ msg0 with kind := k, tx := t, low := p.1.1, map := p.1.2.1.1, parts := p.1.2.1.2, ask := p.1.2.2.1, rows := p.1.2.2.2.1, next := p.1.2.2.2.2.1, own := p.1.2.2.2.2.2 }, p.2)
  else if k = 2 then (c2.dec r).map fun p => ({ msg0 with kind := k, tx := t, rows := p.1.1, commit := p.1.2.1, err := p.1.2.2.1, told := p.1.2.2.2 }, p.2)
  else if k = 3 then (c3.dec r).map fun p => ({ msg0 with kind := k, tx := t, low := p.1.1, commit := p.1.2 }, p.2)
  else if k = 6 then (c6.dec r).map fun p => ({ msg0 with kind := k, tx := t, low := p.1.1, state := p.1.2 }, p.2)
  else some ({ msg0 with kind := k, tx := t }, r)
/-- What the document reads ahead of asking whether it may be. -/
def decR (s : List UInt8) : Option (Msg × List UInt8) :=
  match (num 255).dec s with
  | none => none
  | some (k, r) => match cTx.dec r with
    | none => none
    | some (t, r) => decRB k t r
theorem decRB_only (k : Nat) (t : Tx) (s : List UInt8) (m : Msg) (r : List UInt8) (h : decRB k t s = some (m, r)) : m.kind = k ∧ m.tx = t ∧ s = body m ++ r ∧ bodyFitW m = true ∧ m = only m := by
  unfold decRB at h
  unfold body bodyFitW only
  by_cases h1 : k = 1
  · subst h1
    simp only [if_true, Option.map_eq_some_iff] at h
    obtain ⟨⟨p, r'⟩, e, e2⟩ := h
    simp only [Prod.mk.injEq] at e2
    obtain ⟨rfl, rfl⟩ := e2
    obtain ⟨a1, a2⟩ := c1_ok.only _ _ _ e
    exact ⟨rfl, rfl, by simpa using a1, by simpa using a2, rfl⟩
  by_cases h2 : k = 2
  · subst h2
    simp only [show ¬ (2 = 1) by decide, if_false, if_true, Option.map_eq_some_iff] at h
    obtain ⟨⟨p, r'⟩, e, e2⟩ := h
    simp only [Prod.mk.injEq] at e2
    obtain ⟨rfl, rfl⟩ := e2
    obtain ⟨a1, a2⟩ := c2_ok.only _ _ _ e
    exact ⟨rfl, rfl, by simpa using a1, by simpa using a2, rfl⟩
  by_cases h3 : k = 3
  · subst h3
    simp only [show ¬ (3 = 1) by decide, show ¬ (3 = 2) by decide, if_false, if_true, Option.map_eq_some_iff] at h
    obtain ⟨⟨p, r'⟩, e, e2⟩ := h
    simp only [Prod.mk.injEq] at e2
    obtain ⟨rfl, rfl⟩ := e2
    obtain ⟨a1, a2⟩ := c3_ok.only _ _ _ e
    exact ⟨rfl, rfl, by simpa using a1, by simpa using a2, rfl⟩
  by_cases h6 : k = 6
  · subst h6
    simp only [show ¬ (6 = 1) by decide, show ¬ (6 = 2) by decide, show ¬ (6 = 3) by decide, if_false, if_true, Option.map_eq_some_iff] at h
    obtain ⟨⟨p, r'⟩, e, e2⟩ := h
    simp only [Prod.mk.injEq] at e2
    obtain ⟨rfl, rfl⟩ := e2
    obtain ⟨a1, a2⟩ := c6_ok.only _ _ _ e
    exact ⟨rfl, rfl, by simpa using a1, by simpa using a2, rfl⟩
  · simp only [if_neg h1, if_neg h2, if_neg h3, if_neg h6, Option.some.injEq, Prod.mk.injEq] at h
    obtain ⟨rfl, rfl⟩ := h
    simp only [if_neg h1, if_neg h2, if_neg h3, if_neg h6]
    simp
theorem weak_good {x : Msg} (hk : x.kind ≤ 255) (ht : cTx.fit x.tx = true) (hb : bodyFitW x = true) (ho : x = only x) : x.Good := by
  unfold bodyFitW at hb
  unfold only at ho
  by_cases h1 : x.kind = 1
  · rw [if_pos h1] at hb ho
    obtain ⟨a1, hb⟩ := seq_fit hb
    obtain ⟨a2, hb⟩ := seq_fit hb
    obtain ⟨a3, hb⟩ := seq_fit hb
    obtain ⟨a4, a5⟩ := seq_fit hb
    obtain ⟨b1, b2⟩ := seq_fit a2
    obtain ⟨b3, b4⟩ := seq_fit a5
    exact good_of (by omega) ht a1 (num_fit b1) b2 (.inl a3) a4 (num_fit b3) b4 (by have e := congrArg Msg.err ho; have e : x.err = msg0.err := e; rw [e]; decide) (.inr (congrArg Msg.told ho)) (by have e := congrArg Msg.state ho; have e : x.state = msg0.state := e; rw [e]; decide)
  rw [if_neg h1] at hb ho
  by_cases h2 : x.kind = 2
  · rw [if_pos h2] at hb ho
    obtain ⟨a1, hb⟩ := seq_fit hb
    obtain ⟨_, hb⟩ := seq_fit hb
    obtain ⟨a2, a3⟩ := seq_fit hb
    exact good_of (by omega) ht (by have e := congrArg Msg.low ho; have e : x.low = msg0.low := e; rw [e]; decide) (by have e := congrArg Msg.map ho; have e : x.map = msg0.map := e; rw [e]; decide) (by have e := congrArg Msg.parts ho; have e : x.parts = msg0.parts := e; rw [e]; decide) (.inr (congrArg Msg.ask ho)) a1 (by have e := congrArg Msg.next ho; have e : x.next = msg0.next := e; rw [e]; decide) (by have e := congrArg Msg.own ho; have e : x.own = msg0.own := e; rw [e]; decide) a2 (.inl a3) (by have e := congrArg Msg.state ho; have e : x.state = msg0.state := e; rw [e]; decide)
  rw [if_neg h2] at hb ho
  by_cases h3 : x.kind = 3
  · rw [if_pos h3] at hb ho
    obtain ⟨a1, _⟩ := seq_fit hb
    exact good_of (by omega) ht a1 (by have e := congrArg Msg.map ho; have e : x.map = msg0.map := e; rw [e]; decide) (by have e := congrArg Msg.parts ho; have e : x.parts = msg0.parts := e; rw [e]; decide) (.inr (congrArg Msg.ask ho)) (by have e := congrArg Msg.rows ho; have e : x.rows = msg0.rows := e; rw [e]; decide) (by have e := congrArg Msg.next ho; have e : x.next = msg0.next := e; rw [e]; decide) (by have e := congrArg Msg.own ho; have e : x.own = msg0.own := e; rw [e]; decide) (by have e := congrArg Msg.err ho; have e : x.err = msg0.err := e; rw [e]; decide) (.inr (congrArg Msg.told ho)) (by have e := congrArg Msg.state ho; have e : x.state = msg0.state := e; rw [e]; decide)
  rw [if_neg h3] at hb ho
  by_cases h6 : x.kind = 6
  · rw [if_pos h6] at hb ho
    obtain ⟨a1, a2⟩ := seq_fit hb
    have a2 := num_fit a2
    simp only at a2
    exact good_of (by omega) ht a1 (by have e := congrArg Msg.map ho; have e : x.map = msg0.map := e; rw [e]; decide) (by have e := congrArg Msg.parts ho; have e : x.parts = msg0.parts := e; rw [e]; decide) (.inr (congrArg Msg.ask ho)) (by have e := congrArg Msg.rows ho; have e : x.rows = msg0.rows := e; rw [e]; decide) (by have e := congrArg Msg.next ho; have e : x.next = msg0.next := e; rw [e]; decide) (by have e := congrArg Msg.own ho; have e : x.own = msg0.own := e; rw [e]; decide) (by have e := congrArg Msg.err ho; have e : x.err = msg0.err := e; rw [e]; decide) (.inr (congrArg Msg.told ho)) (by omega)
  rw [if_neg h6] at ho
  exact good_of (by omega) ht (by have e := congrArg Msg.low ho; have e : x.low = msg0.low := e; rw [e]; decide) (by have e := congrArg Msg.map ho; have e : x.map = msg0.map := e; rw [e]; decide) (by have e := congrArg Msg.parts ho; have e : x.parts = msg0.parts := e; rw [e]; decide) (.inr (congrArg Msg.ask ho)) (by have e := congrArg Msg.rows ho; have e : x.rows = msg0.rows := e; rw [e]; decide) (by have e := congrArg Msg.next ho; have e : x.next = msg0.next := e; rw [e]; decide) (by have e := congrArg Msg.own ho; have e : x.own = msg0.own := e; rw [e]; decide) (by have e := congrArg Msg.err ho; have e : x.err = msg0.err := e; rw [e]; decide) (.inr (congrArg Msg.told ho)) (by have e := congrArg Msg.state ho; have e : x.state = msg0.state := e; rw [e]; decide)
theorem decR_only {s : List UInt8} {m : Msg} {r : List UInt8} (h : decR s = some (m, r)) : s = enc m ++ r ∧ m.Good := by
  unfold decR at h
  cases hn : (num 255).dec s with
  | none => rw [hn] at h; cases h
  | some p =>
    obtain ⟨k, r1⟩ := p
    rw [hn] at h
    simp only at h
    cases ht : cTx.dec r1 with
    | none => rw [ht] at h; cases h
    | some q =>
      obtain ⟨t, r2⟩ := q
      rw [ht] at h
      simp only at h
      obtain ⟨e1, e2, e3, e4, e5⟩ := decRB_only _ _ _ _ _ h
      obtain ⟨n1, n2⟩ := (num_ok (by decide)).only _ _ _ hn
      obtain ⟨t1, t2⟩ := cTx_ok.only _ _ _ ht
      subst e1 e2
      refine ⟨?_, weak_good (num_fit n2) t2 e4 e5⟩
      unfold enc
      rw [List.append_assoc, List.append_assoc, ← e3, ← t1]; exact n1
theorem decR_back {m : Msg} (h : fit m = true) : decR (enc m) = some (m, []) := by
  have hb := decP_back m [] h
  rw [List.append_nil] at hb
  unfold decP at hb
  unfold decR
  cases hn : (num 255).dec (enc m) with
  | none => rw [hn] at hb; cases hb
  | some p =>
    obtain ⟨k, r1⟩ := p
    rw [hn] at hb
    simp only at hb ⊢
    split at hb
    · cases ht : cTx.dec r1 with
      | none => rw [ht] at hb; cases hb
      | some q =>
        obtain ⟨t, r2⟩ := q
        rw [ht] at hb
        simp only at hb ⊢
        split at hb
        · unfold decB at hb
          unfold decRB
          split
          · rename_i e; rw [if_pos e] at hb; exact hb
          · rename_i e; rw [if_neg e] at hb
            split
            · rename_i e; rw [if_pos e] at hb; exact hb
            · rename_i e; rw [if_neg e] at hb
              split
              · rename_i e; rw [if_pos e] at hb; exact hb
              · rename_i e; rw [if_neg e] at hb
                split
                · rename_i e; rw [if_pos e] at hb
                  cases hq : c6.dec r2 with
                  | none => rw [hq] at hb; cases hb
                  | some z =>
                    rw [hq] at hb
                    simp only [Option.bind_some] at hb
                    split at hb
                    · exact hb
                    · cases hb
                · rename_i e; rw [if_neg e] at hb; exact hb
        · cases hb
    · cases hb
/-- Reading all, and asking whether it may be, is what Decode answers. -/
theorem decF_yes {s : List UInt8} {m : Msg} (h : decR s = some (m, [])) (hm : may m = true) : decF s = some m := by
  obtain ⟨e, _⟩ := decR_only h
  rw [List.append_nil] at e
  unfold may at hm
  rw [Bool.and_eq_true, decide_eq_true_eq] at hm
  unfold decF
  rw [e, if_pos hm.2]
  exact dec_enc m hm.1
theorem decF_no {s : List UInt8} (h : ∀ m, decR s = some (m, []) → may m = false) : decF s = none := by
  cases hd : decF s with
  | none => rfl
  | some m =>
    unfold decF at hd
    split at hd
    · rename_i hl
      obtain ⟨e, hf⟩ := dec_some hd
      have hb := decR_back hf
      rw [← e] at hb
      have := h m hb
      unfold may at this
      rw [hf, ← e, decide_eq_true hl] at this
      cases this
    · cases hd
end Mg
theorem Step.mapD {α β : Type} {d : List UInt8 → Option (α × List UInt8)} (f : α → β) {st st1 : Option (List UInt8)} {a : α} (h1 : Step d st a st1) : Step (fun s => (d s).map fun p => (f p.1, p.2)) st (f a) st1 := by
  cases st with
  | none => exact h1
  | some r =>
    cases st1 with
    | none => exact Step.bad (by simp [h1.fails])
    | some r1 =>
      obtain ⟨r', e1, h3⟩ := h1.got
      cases e1
      exact Step.ok (by simp [h3])
theorem Step.decR {st s1 s2 s3 : Option (List UInt8)} {k : Nat} {t : Mg.Tx} {m : Mg.Msg} (h1 : Step (Mg.num 255).dec st k s1) (h2 : Step Mg.cTx.dec s1 t s2) (h3 : Step (Mg.decRB k t) s2 m s3) : Step Mg.decR st m s3 := by
  cases st with
  | none => cases h1.off; cases h2.off; exact h3.off
  | some r =>
    cases s1 with
    | none => cases h2.off; cases h3.off; exact Step.bad (by unfold Mg.decR; rw [h1.fails])
    | some r1 =>
      obtain ⟨r', e1, h4⟩ := h1.got
      cases e1
      cases s2 with
      | none => cases h3.off; exact Step.bad (by unfold Mg.decR; rw [h4]; simp only; rw [h2.fails])
      | some r2 =>
        obtain ⟨r', e1, h5⟩ := h2.got
        cases e1
        cases s3 with
        | none => exact Step.bad (by unfold Mg.decR; rw [h4]; simp only; rw [h5]; simp only; exact h3.fails)
        | some r3 =>
          obtain ⟨r', e1, h6⟩ := h3.got
          cases e1
          exact Step.ok (by unfold Mg.decR; rw [h4]; simp only; rw [h5]; simp only; exact h6)
/-- All was read. -/
theorem Step.all {s : List UInt8} {m : Mg.Msg} (h : Step Mg.decR (some s) m (some [])) : Mg.decR s = some (m, []) := by
  obtain ⟨r, e, h⟩ := h.got
  cases e
  exact h
/-- Not all was read. -/
theorem Step.part {s : List UInt8} {m : Mg.Msg} {s3 : Option (List UInt8)} (h : Step Mg.decR (some s) m s3) (hn : s3 ≠ some []) : Mg.decF s = none := by
  refine Mg.decF_no fun m2 h2 => ?_
  cases s3 with
  | none => rw [h.fails] at h2; cases h2
  | some r =>
    obtain ⟨r', e, h3⟩ := h.got
    cases e
    rw [h3] at h2
    cases h2
    exact absurd rfl hn

end Go.Proofs.YtjgnomjjphkfbaaGreat

namespace Go.Proofs.YtjgnomjjphkfbaaGreat
open Go.RowKit

namespace Mg
def f1 (k : Nat) (t : Tx) (p : Tx × (Nat × List Nat) × Ask × List Row × (Nat × List Rng)) : Msg := { msg0 with kind := k, tx := t, low := p.1, map := p.2.1.1, parts := p.2.1.2, ask := p.2.2.1, rows := p.2.2.2.1, next := p.2.2.2.2.1, own := p.2.2.2.2.2 }
theorem decRB_1 {k : Nat} (h : k = 1) (t : Tx) : decRB k t = fun r => (c1.dec r).map fun p => (f1 k t p.1, p.2) := by
  funext r; unfold decRB; rw [if_pos h]; rfl
def f2 (k : Nat) (t : Tx) (p : List Row × Bool × Int × Told) : Msg := { msg0 with kind := k, tx := t, rows := p.1, commit := p.2.1, err := p.2.2.1, told := p.2.2.2 }
theorem decRB_2 {k : Nat} (h : k = 2) (t : Tx) : decRB k t = fun r => (c2.dec r).map fun p => (f2 k t p.1, p.2) := by
  funext r; unfold decRB; rw [if_neg (by omega), if_pos h]; rfl
def f3 (k : Nat) (t : Tx) (p : Tx × Bool) : Msg := { msg0 with kind := k, tx := t, low := p.1, commit := p.2 }
theorem decRB_3 {k : Nat} (h : k = 3) (t : Tx) : decRB k t = fun r => (c3.dec r).map fun p => (f3 k t p.1, p.2) := by
  funext r; unfold decRB; rw [if_neg (by omega), if_neg (by omega), if_pos h]; rfl
def f6 (k : Nat) (t : Tx) (p : Tx × Nat) : Msg := { msg0 with kind := k, tx := t, low := p.1, state := p.2 }
theorem decRB_6 {k : Nat} (h : k = 6) (t : Tx) : decRB k t = fun r => (c6.dec r).map fun p => (f6 k t p.1, p.2) := by
  funext r; unfold decRB; rw [if_neg (by omega), if_neg (by omega), if_neg (by omega), if_pos h]; rfl
theorem decRB_0 {k : Nat} (h : ¬ k = 1 ∧ ¬ k = 2 ∧ ¬ k = 3 ∧ ¬ k = 6) (t : Tx) (st : Option (List UInt8)) : Step (decRB k t) st { msg0 with kind := k, tx := t } st := by
  cases st with
  | none => exact Step.fault _
  | some r =>
    refine Step.ok ?_
    unfold decRB
    rw [if_neg h.1, if_neg h.2.1, if_neg h.2.2.1, if_neg h.2.2.2]
end Mg
theorem AskO.lat {w W : World} {F : List Nat} {s : MS} {a : Mg.Ask} (h : AskO w W s a) (hF : ∀ b ∈ F, b < w.heap.size) : Lat W F (fun W2 => AskO w W2 s a) := fun _ h2 => ⟨h.reads.updB h2 hF, h.readAt.updB h2 hF, h.edits.updB h2 hF, h.editAt.updB h2 hF⟩
theorem AskO.base {w w0 W : World} {s : MS} {a : Mg.Ask} (h : AskO w W s a) (hw : w0.heap.size ≤ w.heap.size) : AskO w0 W s a := ⟨h.reads.base hw, h.readAt.base hw, h.edits.base hw, h.editAt.base hw⟩
theorem ToldO.lat {w W : World} {F : List Nat} {s : MS} {a : Mg.Told} (h : ToldO w W s a) (hF : ∀ b ∈ F, b < w.heap.size) : Lat W F (fun W2 => ToldO w W2 s a) := fun _ h2 => ⟨h.got.updB h2 hF, h.numbers.updB h2 hF, h.names.updB h2 hF⟩
theorem ToldO.base {w w0 W : World} {s : MS} {a : Mg.Told} (h : ToldO w W s a) (hw : w0.heap.size ≤ w.heap.size) : ToldO w0 W s a := ⟨h.got.base hw, h.numbers.base hw, h.names.base hw⟩
/-- A part of the struct, stored whole. -/
theorem GB.part {W : World} {gb rb yb n N : Nat} {st : Option (List UInt8)} {cs : Array Value} {T : TypeId} {P : World → Prop} (h : GB gb rb yb st cs T P W) (ty : TypeId) (off : Nat) (vs cs' : Array Value) (hvs : vs.size = n) (hcs : cs.size = N) (hi : (Tryz.prog.info? ty).map (·.size) = some n) (hn : off + n ≤ N) (h1 : ∀ v ∈ vs.toList, v.oneCell' = true) (he : (cs.toList.take off ++ vs.toList ++ cs.toList.drop (off + n)).toArray = cs') :
    ∃ v, (storeVar ty ⟨yb, off, none⟩ (.agg vs)).run Tryz.prog W = .ok () v ∧ GB gb rb yb st cs' T P v := by
  obtain ⟨v, e, q⟩ := st_part (P := Tryz.prog) W ty (.agg vs) yb off vs rfl T cs cs' h.y n N hvs hcs hi hn h1 he
  have hu : Upd W v [yb] := ⟨q.os, q.tape, q.output, Nat.le_of_eq q.size.symm, fun k _ hf => q.other k (by simpa using hf)⟩
  exact ⟨v, e, ⟨h.g.upd hu (by simp; exact h.ny), q.here, h.ny, h.p.next (hu.mono (by simp))⟩⟩
theorem below_up3 {w W W2 : World} {F : List Nat} (h : Below w.heap.size w W) (u : Upd W W2 F) (hF : ∀ b ∈ F, w.heap.size ≤ b) : Below w.heap.size w W2 :=
  ⟨u.os.trans h.os, u.tape.trans h.tape, u.output.trans h.output, Nat.le_trans h.size u.size, fun i hi => (u.keep i (by have := h.size; omega) (fun hb => by have := hF i hb; omega)).trans (h.block i hi)⟩
/-- The result's block, what is left alone. -/
def Dres (w W : World) : Prop := W.heap[w.heap.size]? = some (.cells Z28 43 (0, 0)) ∧ Below w.heap.size w W
theorem Dres.start (s : ByteArray) (w : World) : GtAt (w.heap.size + 1 + 1) (w.heap.size + 1) (some (L s)) (((w.alloc (.cells Z28 43 (0, 0))).alloc (.cells #[.string s, .int .i64 0] 101 (0, 0))).alloc (.cells #[.pointer (some ⟨w.heap.size + 1, 0, none⟩)] 103 (0, 0))) ∨ 1073741824 < s.size := by
  by_cases hs : s.size ≤ 1073741824
  · refine .inl ⟨?_, ⟨s, 0, ?_, hs, by decide, .inl ⟨rfl, rfl⟩⟩, by omega⟩
    · have := heap_alloc_new ((w.alloc (.cells Z28 43 (0, 0))).alloc (.cells #[.string s, .int .i64 0] 101 (0, 0))) (.cells #[.pointer (some ⟨w.heap.size + 1, 0, none⟩)] 103 (0, 0))
      rw [World.size_alloc, World.size_alloc] at this
      exact this
    · rw [Below.heap_alloc _ _ _ (by rw [World.size_alloc, World.size_alloc]; omega)]
      have := heap_alloc_new (w.alloc (.cells Z28 43 (0, 0))) (.cells #[.string s, .int .i64 0] 101 (0, 0))
      rw [World.size_alloc] at this
      exact this
  · exact .inr (by omega)
theorem Dres.lat (w : World) (a b : Obj) : Lat (((w.alloc (.cells Z28 43 (0, 0))).alloc a).alloc b) [w.heap.size + 1] (Dres w) := by
  intro W2 h2
  have hb : Below w.heap.size w (((w.alloc (.cells Z28 43 (0, 0))).alloc a).alloc b) := ((((Own.refl w).alloc _).alloc _).alloc _).below
  refine ⟨(h2.keep w.heap.size (by rw [World.size_alloc, World.size_alloc, World.size_alloc]; omega) (by simp)).trans ?_, below_up3 hb h2 (fun b hb => by have := List.mem_singleton.1 hb; omega)⟩
  rw [Below.heap_alloc _ _ _ (by rw [World.size_alloc, World.size_alloc]; omega), Below.heap_alloc _ _ _ (by rw [World.size_alloc]; omega)]
  exact heap_alloc_new w _

attribute [local go_sem ↓ high] appSem_eq
attribute [local go_sem ↓ high] stMsg_eq
attribute [local go_sem ↓ high] ldMsg_eq
attribute [local go_sem ↓ high] stAsk_eq
attribute [local go_sem ↓ high] stTold_eq
set_option maxRecDepth 20000 in
set_option maxHeartbeats 16000000 in
theorem ref_decode (s : ByteArray) (hs : s.size ≤ 65536) (w : World) :
    Calls Tryz.prog 18 #[.string s] w fun e w' => ∃ sl : MS, e = .returned (.tuple #[.agg (MV sl ((Mg.decF (L s)).getD Mg.msg0)), .int .i64 (Mg.decE (Mg.decF (L s)))]) ∧ MsgA w' sl ((Mg.decF (L s)).getD Mg.msg0) ∧ Below w.heap.size w w' := by
  obtain ⟨inf1, hin1, hz01, hz11, hz21⟩ := info_parts inf_shard
  have HIN1 := Lib.hid (And.intro hin1 (And.intro hz01 (And.intro hz11 hz21)))
  clear hin1 hz01 hz11 hz21
  have HSZ := Lib.hid hs
  obtain ⟨R, hR⟩ : ∃ R, R = Mg.decF (L s) := ⟨_, rfl⟩
  rw [← hR]
  have HR := Lib.hid hR
  clear hR
  obtain ⟨rb, hrb⟩ : ∃ y, y = w.heap.size + 1 := ⟨_, rfl⟩
  obtain ⟨gb, hgb⟩ : ∃ y, y = w.heap.size + 1 + 1 := ⟨_, rfl⟩
  obtain ⟨wi, hwi⟩ : ∃ y, y = ((w.alloc (.cells Z28 43 (0, 0))).alloc (.cells #[.string s, .int .i64 0] 101 (0, 0))).alloc (.cells #[.pointer (some ⟨w.heap.size + 1, 0, none⟩)] 103 (0, 0)) := ⟨_, rfl⟩
  have HWI := Lib.hid hwi
  have HRB := Lib.hid hrb
  have HGBQ := Lib.hid hgb
  have hg0 : GtAt gb rb (some (L s)) wi := by
    rcases Dres.start s w with h | h
    · rw [hwi, hrb, hgb]; exact h
    · omega
  have hp0 : Lat wi [rb] (Dres w) := by rw [hwi, hrb]; exact Dres.lat w _ _
  have HG0 := Lib.hid hg0
  have HP0 := Lib.hid hp0
  clear hwi hrb hgb hg0 hp0 hs
  go_enter Tryz.func18, Tryz.ntmps18
  go_upto_region 2 with (fail)
  rw [← HWI.out]
  rw [← HGBQ.out, ← HRB.out]
  clear HWI
  have ch1 := (HG0.out).cell
  have HC1 := Lib.hid ((HG0.out).uint 255 (by decide))
  go_wp2_with fail
  refine HC1.out.mono ?_
  rintro e w1 ⟨x1, s1, rfl, hx1, hs1, hg1, hu1⟩
  have HX1 := Lib.hid hx1
  have HS1 := Lib.hid hs1
  have hxI1 : (0 : Int) ≤ x1 ∧ (x1 : Int) ≤ 255 := by omega
  clear HC1 ch1 hx1 hs1
  obtain ⟨v1, rv1, hb1, huv1, hsv1⟩ := GB.make hg1 (HP0.out.next hu1) Z28 #[.int .u8 x1, .int .u64 0, .int .u64 0, .int .u64 0, .int .u64 0, .int .u64 0, .slice none 0 0, .int .u32 0, .slice none 0 0, .slice none 0 0, .slice none 0 0, .slice none 0 0, .bool false, .string ⟨#[]⟩, .bool false, .bool false, .int .u64 0, .int .u64 0, .slice none 0 0, .int .u64 0, .slice none 0 0, .bool false, .int .i64 0, .int .u32 0, .slice none 0 0, .slice none 0 0, .slice none 0 0, .int .u8 0] 43 (n := 28) rfl rfl (by kernel_rfl) (by exact List.all_eq_true.1 rfl)
  change (stMsg _ _).run _ _ = _ at rv1
  have HB1 := Lib.hid hb1
  have HUV1 := Lib.hid huv1
  have HSV1 := Lib.hid hsv1
  clear hb1 huv1 hsv1 hg1 hu1
  go_upto_region 3 with (fail)
  clear rv1
  have HFX : Hid (∀ b ∈ [rb, w1.heap.size], b < v1.heap.size) := Lib.hid (fun b hb => by
    have h1 := HB1.out.g.lts
    have h2 := HB1.out.lt
    rcases List.mem_cons.1 hb with e | e
    · omega
    · have := List.mem_singleton.1 e; omega)
  have HWL : Hid (w.heap.size < v1.heap.size) := Lib.hid (blk_lt HB1.out.p.now.1)
  have HVS : Hid (GB gb rb w1.heap.size s1 #[.int .u8 x1, .int .u64 0, .int .u64 0, .int .u64 0, .int .u64 0, .int .u64 0, .slice none 0 0, .int .u32 0, .slice none 0 0, .slice none 0 0, .slice none 0 0, .slice none 0 0, .bool false, .string ⟨#[]⟩, .bool false, .bool false, .int .u64 0, .int .u64 0, .slice none 0 0, .int .u64 0, .slice none 0 0, .bool false, .int .i64 0, .int .u32 0, .slice none 0 0, .slice none 0 0, .slice none 0 0, .int .u8 0] 43 (fun W => Dres w W ∧ v1.heap.size ≤ W.heap.size) v1) := Lib.hid (HB1.out.more (fun W2 h2 => h2.size))
  clear HB1 HG0 HP0
  have ch2 := (HVS.out.g).cell
  have HC2 := Lib.hid ((HVS.out.g).uint 4611686018427387904 (by decide))
  go_wp2_with fail
  refine HC2.out.mono ?_
  rintro e w2 ⟨x2, s2, rfl, hx2, hs2, hg2, hu2⟩
  have HX2 := Lib.hid hx2
  have HS2 := Lib.hid hs2
  have hxI2 : (0 : Int) ≤ x2 ∧ (x2 : Int) ≤ 4611686018427387904 := by omega
  clear HC2 ch2 hx2 hs2
  have hb2 := HVS.out.read hg2 hu2
  have q2 := hb2.cell 1 _ rfl
  have f2 := hb2.thaw 1
  have l2 := hb2.lt
  have HB2 := Lib.hid (hb2.put (cs' := #[.int .u8 x1, .int .u64 x2, .int .u64 0, .int .u64 0, .int .u64 0, .int .u64 0, .slice none 0 0, .int .u32 0, .slice none 0 0, .slice none 0 0, .slice none 0 0, .slice none 0 0, .bool false, .string ⟨#[]⟩, .bool false, .bool false, .int .u64 0, .int .u64 0, .slice none 0 0, .int .u64 0, .slice none 0 0, .bool false, .int .i64 0, .int .u32 0, .slice none 0 0, .slice none 0 0, .slice none 0 0, .int .u8 0]) 1 (.int .u64 x2) rfl)
  clear hb2 hg2 hu2
  go_upto_region 4 with (fail)
  generalize w2.setCell ⟨w1.heap.size, 1, none⟩ (.int .u64 x2) = v2 at *
  clear q2 f2 l2
  have ch3 := (HB2.out.g).cell
  have HC3 := Lib.hid ((HB2.out.g).uint 4611686018427387904 (by decide))
  go_wp2_with fail
  refine HC3.out.mono ?_
  rintro e w3 ⟨x3, s3, rfl, hx3, hs3, hg3, hu3⟩
  have HX3 := Lib.hid hx3
  have HS3 := Lib.hid hs3
  have hxI3 : (0 : Int) ≤ x3 ∧ (x3 : Int) ≤ 4611686018427387904 := by omega
  clear HC3 ch3 hx3 hs3
  have hb3 := HB2.out.read hg3 hu3
  have q3 := hb3.cell 2 _ rfl
  have f3 := hb3.thaw 2
  have l3 := hb3.lt
  have HB3 := Lib.hid (hb3.put (cs' := #[.int .u8 x1, .int .u64 x2, .int .u64 x3, .int .u64 0, .int .u64 0, .int .u64 0, .slice none 0 0, .int .u32 0, .slice none 0 0, .slice none 0 0, .slice none 0 0, .slice none 0 0, .bool false, .string ⟨#[]⟩, .bool false, .bool false, .int .u64 0, .int .u64 0, .slice none 0 0, .int .u64 0, .slice none 0 0, .bool false, .int .i64 0, .int .u32 0, .slice none 0 0, .slice none 0 0, .slice none 0 0, .int .u8 0]) 2 (.int .u64 x3) rfl)
  clear hb3 hg3 hu3
  go_upto_region 5 with (fail)
  generalize w3.setCell ⟨w1.heap.size, 2, none⟩ (.int .u64 x3) = v3 at *
  clear q3 f3 l3
  have k0 := HB3.out.cell 0 _ rfl
  by_cases hk1 : x1 = 1
  · have HK := Lib.hid hk1
    have kk1 : ((x1 : Int) == 1) = true := beq_iff_eq.2 (by omega)
    clear hk1
    have ch4 := (HB3.out.g).cell
    have HC4 := Lib.hid ((HB3.out.g).uint 4611686018427387904 (by decide))
    go_wp2_with fail
    refine HC4.out.mono ?_
    rintro e w4 ⟨x4, s4, rfl, hx4, hs4, hg4, hu4⟩
    have HX4 := Lib.hid hx4
    have HS4 := Lib.hid hs4
    have hxI4 : (0 : Int) ≤ x4 ∧ (x4 : Int) ≤ 4611686018427387904 := by omega
    clear HC4 ch4 hx4 hs4
    have hb4 := HB3.out.read hg4 hu4
    have q4 := hb4.cell 3 _ rfl
    have f4 := hb4.thaw 3
    have l4 := hb4.lt
    have HB4 := Lib.hid (hb4.put (cs' := #[.int .u8 x1, .int .u64 x2, .int .u64 x3, .int .u64 x4, .int .u64 0, .int .u64 0, .slice none 0 0, .int .u32 0, .slice none 0 0, .slice none 0 0, .slice none 0 0, .slice none 0 0, .bool false, .string ⟨#[]⟩, .bool false, .bool false, .int .u64 0, .int .u64 0, .slice none 0 0, .int .u64 0, .slice none 0 0, .bool false, .int .i64 0, .int .u32 0, .slice none 0 0, .slice none 0 0, .slice none 0 0, .int .u8 0]) 3 (.int .u64 x4) rfl)
    clear hb4 hg4 hu4
    go_upto_region 8 with (fail)
    generalize w4.setCell ⟨w1.heap.size, 3, none⟩ (.int .u64 x4) = v4 at *
    clear q4 f4 l4
    have ch5 := (HB4.out.g).cell
    have HC5 := Lib.hid ((HB4.out.g).uint 4611686018427387904 (by decide))
    go_wp2_with fail
    refine HC5.out.mono ?_
    rintro e w5 ⟨x5, s5, rfl, hx5, hs5, hg5, hu5⟩
    have HX5 := Lib.hid hx5
    have HS5 := Lib.hid hs5
    have hxI5 : (0 : Int) ≤ x5 ∧ (x5 : Int) ≤ 4611686018427387904 := by omega
    clear HC5 ch5 hx5 hs5
    have hb5 := HB4.out.read hg5 hu5
    have q5 := hb5.cell 4 _ rfl
    have f5 := hb5.thaw 4
    have l5 := hb5.lt
    have HB5 := Lib.hid (hb5.put (cs' := #[.int .u8 x1, .int .u64 x2, .int .u64 x3, .int .u64 x4, .int .u64 x5, .int .u64 0, .slice none 0 0, .int .u32 0, .slice none 0 0, .slice none 0 0, .slice none 0 0, .slice none 0 0, .bool false, .string ⟨#[]⟩, .bool false, .bool false, .int .u64 0, .int .u64 0, .slice none 0 0, .int .u64 0, .slice none 0 0, .bool false, .int .i64 0, .int .u32 0, .slice none 0 0, .slice none 0 0, .slice none 0 0, .int .u8 0]) 4 (.int .u64 x5) rfl)
    clear hb5 hg5 hu5
    go_upto_region 9 with (fail)
    generalize w5.setCell ⟨w1.heap.size, 4, none⟩ (.int .u64 x5) = v5 at *
    clear q5 f5 l5
    have ch6 := (HB5.out.g).cell
    have HC6 := Lib.hid ((HB5.out.g).uint 18446744073709551615 (by decide))
    go_wp2_with fail
    refine HC6.out.mono ?_
    rintro e w6 ⟨x6, s6, rfl, hx6, hs6, hg6, hu6⟩
    have HX6 := Lib.hid hx6
    have HS6 := Lib.hid hs6
    have hxI6 : (0 : Int) ≤ x6 ∧ (x6 : Int) ≤ 18446744073709551615 := by omega
    clear HC6 ch6 hx6 hs6
    have hb6 := HB5.out.read hg6 hu6
    have q6 := hb6.cell 5 _ rfl
    have f6 := hb6.thaw 5
    have l6 := hb6.lt
    have HB6 := Lib.hid (hb6.put (cs' := #[.int .u8 x1, .int .u64 x2, .int .u64 x3, .int .u64 x4, .int .u64 x5, .int .u64 x6, .slice none 0 0, .int .u32 0, .slice none 0 0, .slice none 0 0, .slice none 0 0, .slice none 0 0, .bool false, .string ⟨#[]⟩, .bool false, .bool false, .int .u64 0, .int .u64 0, .slice none 0 0, .int .u64 0, .slice none 0 0, .bool false, .int .i64 0, .int .u32 0, .slice none 0 0, .slice none 0 0, .slice none 0 0, .int .u8 0]) 5 (.int .u64 x6) rfl)
    clear hb6 hg6 hu6
    go_upto_region 10 with (fail)
    generalize w6.setCell ⟨w1.heap.size, 5, none⟩ (.int .u64 x6) = v6 at *
    clear q6 f6 l6
    have ch7 := (HB6.out.g).cell
    have HC7 := Lib.hid ((HB6.out.g).count)
    go_wp2_with fail
    refine HC7.out.mono ?_
    rintro e w7 ⟨n7, s7, rfl, hn7, hz7, hs7, hg7, hu7⟩
    have HN7 := Lib.hid hn7
    have HZ7 := Lib.hid hz7
    have HS7 := Lib.hid hs7
    have hnI7 : (0 : Int) ≤ n7 ∧ (n7 : Int) ≤ 512 := by omega
    clear HC7 ch7 hn7 hz7 hs7
    have HB7 := Lib.hid (HB6.out.read hg7 hu7)
    clear hg7 hu7
    go_wp2_with fail
    have HLWA : Hid (gb < w7.heap.size ∧ rb < w7.heap.size ∧ w1.heap.size < w7.heap.size) := Lib.hid ⟨HB7.out.g.lts.1, HB7.out.g.lts.2, HB7.out.lt⟩
    go_loopw [7] (fun vk wr => ∃ (i : Nat) (m : List Nat) (a : Option Addr) (c : Nat) (sti : Option (List UInt8)), i ≤ n7 ∧ vk = .int .i64 i ∧ m.length = i ∧ Rou (Mg.num 4294967295) s6 s7 n7 i m sti ∧ GB gb rb w1.heap.size sti #[.int .u8 x1, .int .u64 x2, .int .u64 x3, .int .u64 x4, .int .u64 x5, .int .u64 x6, .slice a i c, .int .u32 0, .slice none 0 0, .slice none 0 0, .slice none 0 0, .slice none 0 0, .bool false, .string ⟨#[]⟩, .bool false, .bool false, .int .u64 0, .int .u64 0, .slice none 0 0, .int .u64 0, .slice none 0 0, .bool false, .int .i64 0, .int .u32 0, .slice none 0 0, .slice none 0 0, .slice none 0 0, .int .u8 0] 43 (fun W => Upd w7 W [rb, w1.heap.size]) wr ∧ OL w7 wr 26 1 a c (m.map (fun a : Nat => [Value.int .u32 a]))) (fun vk _ => n7 - (intOf vk).toNat)
    case atStart => exact ⟨0, [], none, 0, s7, Nat.zero_le _, rfl, rfl, Rou.start HZ7.out, ⟨HB7.out.g, HB7.out.y, HB7.out.ny, Lat.upd _ _⟩, OL.nil _ _ _ _⟩
    case round =>
      obtain ⟨iA, mA, aA, cA, stiA, hi, rfl, hl, hro, hgb, hol⟩ := hrel
      have HLA := Lib.hid hl
      have HROA := Lib.hid hro
      have HGBA := Lib.hid hgb
      have HOLA := Lib.hid hol
      clear hl hro hgb hol
      have ch := (HGBA.out.g).cell
      obtain ⟨ec, hec, hez⟩ := (HGBA.out.g).rd.err
      obtain ⟨bA, hb⟩ : ∃ b, b = (decide (iA < n7) && stiA.isSome) := ⟨_, rfl⟩
      have HBQA := Lib.hid hb
      have HIA := Lib.hid hi
      clear hb
      go_upto_region 12 with (fail)
      go_cut [75] (fun v wx => v = .bool bA ∧ wx = wr)
      case first =>
        by_cases hlt : iA < n7
        · have hltI : (iA : Int) < n7 := by omega
          have hez2 : ((ec : Int) == 0) = bA := by rw [hez, HBQA.out, decide_eq_true hlt]; rfl
          clear hez hlt
          go_wp2_with fail
          go_meet
          exact ⟨rfl, rfl⟩
        · have hltI : ¬ (iA : Int) < n7 := by omega
          have hbf : bA = false := by rw [HBQA.out, decide_eq_false hlt]; rfl
          subst hbf
          clear hez hlt
          go_wp2_with fail
          go_meet
          exact ⟨rfl, rfl⟩
      case rest =>
      obtain ⟨rfl, hwc⟩ := hcut
      subst hwc
      clear hec hez ch
      cases bA with
      | true =>
        have hgo : iA < n7 ∧ stiA.isSome = true := by have := HBQA.out; simpa using this.symm
        have HGOA := Lib.hid hgo
        have hiIA : (0 : Int) ≤ iA ∧ (iA : Int) < n7 := by omega
        clear hgo
        have HDA := Lib.hid HGBA.out.drew
        have c0 := HDA.out.cell 6 _ rfl
        have ch := HDA.out.g.cell
        have HC8 : Hid (Calls Tryz.prog 44 #[.pointer (some ⟨rb, 0, none⟩), .int .u64 4294967295] wc.drew _) := Lib.hid (HDA.out.g.uint 4294967295 (by decide))
        have hqA := HOLA.out.keep (Own.refl wc).drew.below
        have HQA := Lib.hid hqA
        clear hqA
        go_upto_region 14 with (fail)
        go_region_law (first
          | (go_simp
             go_at_call 44
             (with_reducible refine HC8.out.mono ?_)
             rintro e w8 ⟨x8, s8, rfl, hx8, hs8, hg8, hu8⟩
             have HX8 := Lib.hid hx8
             have HS8 := Lib.hid hs8
             have hxI8 : (0 : Int) ≤ x8 ∧ (x8 : Int) ≤ 4294967295 := by omega
             have hwr8 : IntKind.u32.wrap (x8 : Int) = x8 := by rw [IntKind.wrap_u32']; omega
             have HXA := Lib.hid (HDA.out.read hg8 hu8)
             have holA := HQA.out.updB hu8 (fun b hb => by rw [List.mem_singleton.1 hb]; exact HLWA.out.2.1)
             have hszA : w7.heap.size ≤ w8.heap.size := HXA.out.p.now.size
             obtain ⟨sz4, cap4, wz4, hrun, hol4, hk4⟩ := ol_push2 (P := Tryz.prog) (T := 25) Tryz.underlying25 HIN1.out.1 HIN1.out.2.1 HIN1.out.2.2.1 HIN1.out.2.2.2 rfl (by decide) (by decide) (w := w7) (W := w8) hszA holA [.int .u32 x8] rfl (fun u hu => List.all_eq_true.1 (show ([.int .u32 x8] : List Value).all (fun v => v.oneCell') = true from rfl) u hu) (by have := HLA.out; have := HN7.out; have := HGOA.out.1; simp; omega)
             rw [List.length_map, HLA.out] at hrun
             have hrun2 : (appSem #[25, 25] 25 #[.slice aA iA cA, .slice (some ⟨w8.heap.size, 0, none⟩) 1 1]).run Tryz.prog (w8.alloc (.cells #[.int .u32 x8] 26 (0, 0))) = .ok (.slice sz4 (iA + 1) cap4) wz4 := hrun
             have p3 := HXA.out.cell 6 _ rfl
             have p3b := (HXA.out.alloc (.cells #[.int .u32 x8] 26 (0, 0))).cell 6 _ rfl
             have ch3 := HXA.out.g.cell
             have ch3b := (HXA.out.alloc (.cells #[.int .u32 x8] 26 (0, 0))).g.cell
             have HYA := Lib.hid (HXA.out.app hk4.upd (fun b hb => HOLA.out.far b hb) HLWA.out)
             have p4 := HYA.out.cell 6 _ rfl
             have f4 := HYA.out.thaw 6
             have l4 := HYA.out.lt
             have HZA := Lib.hid (HYA.out.put (cs' := #[.int .u8 x1, .int .u64 x2, .int .u64 x3, .int .u64 x4, .int .u64 x5, .int .u64 x6, .slice sz4 (iA + 1) cap4, .int .u32 0, .slice none 0 0, .slice none 0 0, .slice none 0 0, .slice none 0 0, .bool false, .string ⟨#[]⟩, .bool false, .bool false, .int .u64 0, .int .u64 0, .slice none 0 0, .int .u64 0, .slice none 0 0, .bool false, .int .i64 0, .int .u32 0, .slice none 0 0, .slice none 0 0, .slice none 0 0, .int .u8 0]) 6 (.slice sz4 (iA + 1) cap4) rfl)
             have HOXA : Hid (OL w7 (wz4.setCell ⟨w1.heap.size, 6, none⟩ (.slice sz4 (iA + 1) cap4)) 26 1 sz4 cap4 ((mA ++ [x8]).map (fun a : Nat => [Value.int .u32 a]))) := Lib.hid (by
               rw [List.map_append]
               exact hol4.updB ((Upd.refl wz4 [w1.heap.size]).setCell (.inl (by simp)) _) (fun b hb => by rw [List.mem_singleton.1 hb]; exact HLWA.out.2.2))
             clear holA hol4 hk4 hrun HYA hx8 hs8 hg8 hu8)
          | fail)
        all_goals
          go_wp2_with fail
          go_roundw
          case rel => exact ⟨iA + 1, mA ++ [x8], sz4, cap4, _, HGOA.out.1, by go_num, by simp; exact HLA.out, HROA.out.go HS7.out HGOA.out.1 HGOA.out.2 (HS8.out), HZA.out, HOXA.out⟩
          case measure => simp [intOf]; omega
      | false =>
        have HFIA := Lib.hid (HROA.out.fin HS7.out HIA.out (fun h => by have h2 := HBQA.out; rw [decide_eq_true h.1, h.2] at h2; cases h2))
        obtain ⟨zA, hz⟩ : ∃ y, y = wc := ⟨_, rfl⟩
        subst hz
        have hlx := HLA.out
        subst hlx
        have HEA : Hid (GB gb rb w1.heap.size stiA #[.int .u8 x1, .int .u64 x2, .int .u64 x3, .int .u64 x4, .int .u64 x5, .int .u64 x6, .slice aA mA.length cA, .int .u32 0, .slice none 0 0, .slice none 0 0, .slice none 0 0, .slice none 0 0, .bool false, .string ⟨#[]⟩, .bool false, .bool false, .int .u64 0, .int .u64 0, .slice none 0 0, .int .u64 0, .slice none 0 0, .bool false, .int .i64 0, .int .u32 0, .slice none 0 0, .slice none 0 0, .slice none 0 0, .int .u8 0] 43 _ zA) := Lib.hid (GB.more ⟨HGBA.out.g, HGBA.out.y, HGBA.out.ny, HB7.out.p.next HGBA.out.p.now⟩ (Lat.ol (HOLA.out.base (w0 := v1) (HB7.out.p.now.2)) HFX.out))
        clear HGBA HOLA HROA HBQA HIA HB7
        have ch9 := HEA.out.g.cell
        have HC9 := Lib.hid (g_ask gb rb _ _ HEA.out.g)
        go_wp2_with fail
        refine HC9.out.mono ?_
        rintro e w9 ⟨x9, sl9, s9, rfl, hs9, hg9, hol9, hu9⟩
        have HS9 := Lib.hid hs9
        clear ch9 HC9
        have HOL9 := Lib.hid (hol9.base (w0 := v1) (HEA.out.p.now.1.2))
        have hb9 := (HEA.out.read hg9 hu9).more (HOL9.out.lat HFX.out)
        obtain ⟨v9, rv9, hq9⟩ := hb9.part 33 7 (askV sl9 x9) #[.int .u8 x1, .int .u64 x2, .int .u64 x3, .int .u64 x4, .int .u64 x5, .int .u64 x6, .slice aA mA.length cA, .int .u32 x9.ask.shard, .slice sl9.reads.1 x9.ask.reads.length sl9.reads.2, .slice sl9.readAt.1 x9.ask.readAt.length sl9.readAt.2, .slice sl9.edits.1 x9.ask.edits.length sl9.edits.2, .slice sl9.editAt.1 x9.ask.editAt.length sl9.editAt.2, .bool x9.ask.list, .string x9.ask.pre, .bool x9.ask.give, .bool x9.ask.take, .int .u64 x9.ask.range.frm, .int .u64 x9.ask.range.top, .slice none 0 0, .int .u64 0, .slice none 0 0, .bool false, .int .i64 0, .int .u32 0, .slice none 0 0, .slice none 0 0, .slice none 0 0, .int .u8 0] (n := 11) (N := 28) rfl rfl (by kernel_rfl) (by decide) (askV_one _ _) rfl
        change (stAsk _ _).run _ _ = _ at rv9
        have HB9 := Lib.hid hq9
        clear hb9 hq9 hg9 hol9 hu9 hs9
        go_upto_region 16 with (fail)
        clear rv9
        have ch10 := HB9.out.g.cell
        have HC10 := Lib.hid (g_rows gb rb _ _ HB9.out.g)
        go_wp2_with fail
        refine HC10.out.mono ?_
        rintro e w10 ⟨l10, xs10, a10, c10, s10, rfl, hs10, hn10, hg10, hol10, hrw10, hu10⟩
        have HS10 := Lib.hid hs10
        clear ch10 HC10
        have HOL10 := Lib.hid (hol10.base (w0 := v1) (HB9.out.p.now.1.1.2))
        have HRW10 := Lib.hid (hrw10.base (w0 := v1) (HB9.out.p.now.1.1.2))
        clear hrw10
        have hb10 := HB9.out.read hg10 hu10
        have q10 := hb10.cell 18 _ rfl
        have f10 := hb10.thaw 18
        have l_10 := hb10.lt
        have hc10 := (hb10.more (Lat.two (Lat.ol HOL10.out HFX.out) (Lat.ro HRW10.out HFX.out))).put (cs' := #[.int .u8 x1, .int .u64 x2, .int .u64 x3, .int .u64 x4, .int .u64 x5, .int .u64 x6, .slice aA mA.length cA, .int .u32 x9.ask.shard, .slice sl9.reads.1 x9.ask.reads.length sl9.reads.2, .slice sl9.readAt.1 x9.ask.readAt.length sl9.readAt.2, .slice sl9.edits.1 x9.ask.edits.length sl9.edits.2, .slice sl9.editAt.1 x9.ask.editAt.length sl9.editAt.2, .bool x9.ask.list, .string x9.ask.pre, .bool x9.ask.give, .bool x9.ask.take, .int .u64 x9.ask.range.frm, .int .u64 x9.ask.range.top, .slice a10 l10.length c10, .int .u64 0, .slice none 0 0, .bool false, .int .i64 0, .int .u32 0, .slice none 0 0, .slice none 0 0, .slice none 0 0, .int .u8 0]) 18 (.slice a10 l10.length c10) rfl
        have HB10 := Lib.hid hc10
        clear hb10 hg10 hu10 hol10 hn10 hs10 hc10
        go_upto_region 17 with (fail)
        generalize w10.setCell ⟨w1.heap.size, 18, none⟩ (.slice a10 l10.length c10) = v10 at *
        clear q10 f10 l_10 HOL10
        have ch11 := (HB10.out.g).cell
        have HC11 := Lib.hid ((HB10.out.g).uint 18446744073709551615 (by decide))
        go_wp2_with fail
        refine HC11.out.mono ?_
        rintro e w11 ⟨x11, s11, rfl, hx11, hs11, hg11, hu11⟩
        have HX11 := Lib.hid hx11
        have HS11 := Lib.hid hs11
        have hxI11 : (0 : Int) ≤ x11 ∧ (x11 : Int) ≤ 18446744073709551615 := by omega
        clear HC11 ch11 hx11 hs11
        have hb11 := HB10.out.read hg11 hu11
        have q11 := hb11.cell 19 _ rfl
        have f11 := hb11.thaw 19
        have l11 := hb11.lt
        have HB11 := Lib.hid (hb11.put (cs' := #[.int .u8 x1, .int .u64 x2, .int .u64 x3, .int .u64 x4, .int .u64 x5, .int .u64 x6, .slice aA mA.length cA, .int .u32 x9.ask.shard, .slice sl9.reads.1 x9.ask.reads.length sl9.reads.2, .slice sl9.readAt.1 x9.ask.readAt.length sl9.readAt.2, .slice sl9.edits.1 x9.ask.edits.length sl9.edits.2, .slice sl9.editAt.1 x9.ask.editAt.length sl9.editAt.2, .bool x9.ask.list, .string x9.ask.pre, .bool x9.ask.give, .bool x9.ask.take, .int .u64 x9.ask.range.frm, .int .u64 x9.ask.range.top, .slice a10 l10.length c10, .int .u64 x11, .slice none 0 0, .bool false, .int .i64 0, .int .u32 0, .slice none 0 0, .slice none 0 0, .slice none 0 0, .int .u8 0]) 19 (.int .u64 x11) rfl)
        clear hb11 hg11 hu11
        go_upto_region 18 with (fail)
        generalize w11.setCell ⟨w1.heap.size, 19, none⟩ (.int .u64 x11) = v11 at *
        clear q11 f11 l11
        have ch12 := HB11.out.g.cell
        have HC12 := Lib.hid (g_spans gb rb _ _ HB11.out.g)
        go_wp2_with fail
        refine HC12.out.mono ?_
        rintro e w12 ⟨l12, a12, c12, s12, rfl, hs12, hn12, hg12, hol12, hu12⟩
        have HS12 := Lib.hid hs12
        clear ch12 HC12
        have HOL12 := Lib.hid (hol12.base (w0 := v1) (HB11.out.p.now.1.1.1.2))
        have hb12 := HB11.out.read hg12 hu12
        have q12 := hb12.cell 20 _ rfl
        have f12 := hb12.thaw 20
        have l_12 := hb12.lt
        have hc12 := (hb12.more (Lat.ol HOL12.out HFX.out)).put (cs' := #[.int .u8 x1, .int .u64 x2, .int .u64 x3, .int .u64 x4, .int .u64 x5, .int .u64 x6, .slice aA mA.length cA, .int .u32 x9.ask.shard, .slice sl9.reads.1 x9.ask.reads.length sl9.reads.2, .slice sl9.readAt.1 x9.ask.readAt.length sl9.readAt.2, .slice sl9.edits.1 x9.ask.edits.length sl9.edits.2, .slice sl9.editAt.1 x9.ask.editAt.length sl9.editAt.2, .bool x9.ask.list, .string x9.ask.pre, .bool x9.ask.give, .bool x9.ask.take, .int .u64 x9.ask.range.frm, .int .u64 x9.ask.range.top, .slice a10 l10.length c10, .int .u64 x11, .slice a12 l12.length c12, .bool false, .int .i64 0, .int .u32 0, .slice none 0 0, .slice none 0 0, .slice none 0 0, .int .u8 0]) 20 (.slice a12 l12.length c12) rfl
        have HB12 := Lib.hid hc12
        clear hb12 hg12 hu12 hol12 hn12 hs12 hc12
        go_upto_region 32 with (fail)
        generalize w12.setCell ⟨w1.heap.size, 20, none⟩ (.slice a12 l12.length c12) = v12 at *
        clear q12 f12 l_12 HOL12
        obtain ⟨M, SL, HY, HLQ, HST⟩ : ∃ (M : Mg.Msg) (SL : MS), Hid (v12.heap[w1.heap.size]? = some (.cells (MV SL M) 43 (0, 0))) ∧ Hid (Lat v12 [rb, w1.heap.size] (fun W2 => Dres w W2 ∧ MsgO v1 W2 SL M)) ∧ Hid (Step Mg.decR (some (L s)) M s12) := by
          refine ⟨{ Mg.msg0 with kind := x1, tx := ⟨x2, x3⟩, low := ⟨x4, x5⟩, map := x6, parts := mA, ask := x9.ask, rows := l10, next := x11, own := l12 }, { MS0 with parts := (aA, cA), reads := sl9.reads, readAt := sl9.readAt, edits := sl9.edits, editAt := sl9.editAt, rows := (a10, c10), own := (a12, c12) }, Lib.hid HB12.out.y, Lib.hid (HB12.out.p.turn (fun W h => ⟨h.1.1.1.1.1, ?_⟩)), Lib.hid (Step.decR HS1.out (show Step Mg.cTx.dec s1 (⟨x2, x3⟩ : Mg.Tx) s3 from Step.isoD (Step.seqD HS2.out HS3.out)) ?_)⟩
          · exact ⟨h.1.1.1.2, h.1.1.2.reads, h.1.1.2.readAt, h.1.1.2.edits, h.1.1.2.editAt, ⟨xs10, h.1.2.1, h.1.2.2⟩, h.2, OL.nil _ _ _ _, OL.nil _ _ _ _, OL.nil _ _ _ _⟩
          · rw [Mg.decRB_1 HK.out]; exact Step.mapD (Mg.f1 x1 ⟨x2, x3⟩) (Step.seqD (show Step Mg.cTx.dec s3 (⟨x4, x5⟩ : Mg.Tx) s5 from Step.isoD (Step.seqD HS4.out HS5.out)) (Step.seqD (show Step Mg.cHead.dec s5 (x6, mA) stiA from Step.seqD HS6.out HFIA.out) (Step.seqD HS9.out (Step.seqD HS10.out (show Step Mg.cNext.dec s10 (x11, l12) s12 from Step.seqD HS11.out HS12.out)))))
        have HRD := Lib.hid HB12.out.g.rd
        have HNE : Hid (w1.heap.size ≠ rb ∧ w1.heap.size < v12.heap.size) := Lib.hid ⟨fun e => HB12.out.ny.2 e.symm, HB12.out.lt⟩
        have ch := HB12.out.g.cell
        have HCE := Lib.hid (gend v12 rb s12 HRD.out)
        go_wp2_with fail
        refine HCE.out.mono ?_
        rintro v wE ⟨eE, rfl, heE, huE⟩
        have HLE := Lib.hid (HLQ.out.next (huE.mono (by simp)))
        have HYE : Hid (wE.heap[w1.heap.size]? = some (.cells (MV SL M) 43 (0, 0))) := Lib.hid ((huE.keep _ HNE.out.2 (by simp; exact HNE.out.1)).trans HY.out)
        have HEE := Lib.hid heE
        clear heE huE HCE ch HLQ HY
        by_cases hall : s12 = some []
        · have hz : ((eE : Int) != 0) = false := by rw [HEE.out, decide_eq_true hall]; rfl
          have hd : Mg.decR (L s) = some (M, []) := Step.all (by have := HST.out; rw [hall] at this; exact this)
          obtain ⟨henc, hgood⟩ := Mg.decR_only hd
          rw [List.append_nil] at henc
          have hlen : (Mg.enc M).length ≤ 1073741824 := by rw [← henc, L_size]; have := HSZ.out; omega
          have gm := ldMsg_run wE _ SL M HYE.out
          obtain ⟨bm, hbm⟩ : ∃ y, y = Mg.may M := ⟨_, rfl⟩
          have hcm := ref_may SL M wE HLE.out.now.2.arg hgood hlen
          rw [← hbm] at hcm
          have HCM := Lib.hid hcm
          have HBM := Lib.hid hbm
          have HD := Lib.hid hd
          clear hcm hbm hd henc hgood hlen hall
          go_wp2_with fail
          refine HCM.out.mono ?_
          rintro v wM ⟨rfl, hbM⟩
          have HMK : Hid (MsgO v1 wM SL M) := Lib.hid (HLE.out.now.2.upd (Upd.of_below [] hbM) (by simp))
          have HYM : Hid (wM.heap[w1.heap.size]? = some (.cells (MV SL M) 43 (0, 0))) := Lib.hid ((hbM.block _ (blk_lt HYE.out)).trans HYE.out)
          have HRM : Hid (wM.heap[w.heap.size]? = some (.cells Z28 43 (0, 0))) := Lib.hid ((hbM.block _ (blk_lt HLE.out.now.1.1)).trans HLE.out.now.1.1)
          have HBW : Hid (Below w.heap.size w wM) := Lib.hid (HLE.out.now.1.2.trans (hbM.mono HLE.out.now.1.2.size))
          clear hbM gm HCM
          cases bm with
          | true =>
            have gm := ldMsg_run wM _ SL M HYM.out
            obtain ⟨zz, rz, qz⟩ := st_part (P := Tryz.prog) wM 43 (.agg (MV SL M)) w.heap.size 0 (MV SL M) rfl 43 Z28 (MV SL M) HRM.out 28 28 rfl rfl sizeMsg (by decide) (MV_one _ _) (whole_eq _ _ 28 rfl rfl)
            change (stMsg _ _).run _ _ = _ at rz
            have HRR := Lib.hid qz.here
            have hul : Upd wM zz [w.heap.size] := ⟨qz.os, qz.tape, qz.output, Nat.le_of_eq qz.size.symm, fun k _ hf => qz.other k (by simpa using hf)⟩
            have hmo : MsgO v1 wM SL M := HMK.out
            have HAZ := Lib.hid (hmo.upd hul (fun b hb => by rw [List.mem_singleton.1 hb]; exact HWL.out)).arg
            have HBZ := Lib.hid (below_put HBW.out qz (Nat.le_refl _))
            have HRE : Hid (R = some M) := Lib.hid (by rw [HR.out]; exact Mg.decF_yes HD.out HBM.out.symm)
            clear qz hul hmo
            go_wp2_with fail
            exact bodyPost_ret (results_cell_tmp_row rfl _ _ w.heap.size _ _ _ _ rfl HRR.out Tryz.underlying43 rfl (by kernel_rfl)) rfl ⟨SL, by rw [HRE.out]; rfl, by rw [HRE.out]; exact HAZ.out, HBZ.out⟩
          | false =>
            have HRE : Hid (R = none) := Lib.hid (by rw [HR.out]; exact Mg.decF_no (fun m hm => by rw [HD.out] at hm; cases hm; exact HBM.out.symm))
            obtain ⟨zz, rz, qz⟩ := st_part (P := Tryz.prog) wM 43 (.agg #[.int .u8 0, .int .u64 0, .int .u64 0, .int .u64 0, .int .u64 0, .int .u64 0, .slice none 0 0, .int .u32 0, .slice none 0 0, .slice none 0 0, .slice none 0 0, .slice none 0 0, .bool false, .string ⟨#[]⟩, .bool false, .bool false, .int .u64 0, .int .u64 0, .slice none 0 0, .int .u64 0, .slice none 0 0, .bool false, .int .i64 0, .int .u32 0, .slice none 0 0, .slice none 0 0, .slice none 0 0, .int .u8 0]) w.heap.size 0 #[.int .u8 0, .int .u64 0, .int .u64 0, .int .u64 0, .int .u64 0, .int .u64 0, .slice none 0 0, .int .u32 0, .slice none 0 0, .slice none 0 0, .slice none 0 0, .slice none 0 0, .bool false, .string ⟨#[]⟩, .bool false, .bool false, .int .u64 0, .int .u64 0, .slice none 0 0, .int .u64 0, .slice none 0 0, .bool false, .int .i64 0, .int .u32 0, .slice none 0 0, .slice none 0 0, .slice none 0 0, .int .u8 0] rfl 43 Z28 (MV MS0 Mg.msg0) HRM.out 28 28 rfl rfl sizeMsg (by decide) (MV_one MS0 Mg.msg0) (whole_eq _ _ 28 rfl rfl)
            change (stMsg _ _).run _ _ = _ at rz
            have HRR := Lib.hid qz.here
            have HBZ := Lib.hid (below_put HBW.out qz (Nat.le_refl _))
            clear qz
            go_wp2_with fail
            exact bodyPost_ret (results_cell_tmp_row rfl _ _ w.heap.size _ _ _ _ rfl HRR.out Tryz.underlying43 rfl (by kernel_rfl)) rfl ⟨MS0, by rw [HRE.out]; rfl, by rw [HRE.out]; exact (show MsgA zz MS0 Mg.msg0 from (MsgO.nil w zz Mg.msg0 rfl).arg), HBZ.out⟩
        · have hz : ((eE : Int) != 0) = true := by rw [HEE.out, decide_eq_false hall]; rfl
          have HRE : Hid (R = none) := Lib.hid (by rw [HR.out]; exact HST.out.part hall)
          obtain ⟨zz, rz, qz⟩ := st_part (P := Tryz.prog) wE 43 (.agg #[.int .u8 0, .int .u64 0, .int .u64 0, .int .u64 0, .int .u64 0, .int .u64 0, .slice none 0 0, .int .u32 0, .slice none 0 0, .slice none 0 0, .slice none 0 0, .slice none 0 0, .bool false, .string ⟨#[]⟩, .bool false, .bool false, .int .u64 0, .int .u64 0, .slice none 0 0, .int .u64 0, .slice none 0 0, .bool false, .int .i64 0, .int .u32 0, .slice none 0 0, .slice none 0 0, .slice none 0 0, .int .u8 0]) w.heap.size 0 #[.int .u8 0, .int .u64 0, .int .u64 0, .int .u64 0, .int .u64 0, .int .u64 0, .slice none 0 0, .int .u32 0, .slice none 0 0, .slice none 0 0, .slice none 0 0, .slice none 0 0, .bool false, .string ⟨#[]⟩, .bool false, .bool false, .int .u64 0, .int .u64 0, .slice none 0 0, .int .u64 0, .slice none 0 0, .bool false, .int .i64 0, .int .u32 0, .slice none 0 0, .slice none 0 0, .slice none 0 0, .int .u8 0] rfl 43 Z28 (MV MS0 Mg.msg0) HLE.out.now.1.1 28 28 rfl rfl sizeMsg (by decide) (MV_one MS0 Mg.msg0) (whole_eq _ _ 28 rfl rfl)
          change (stMsg _ _).run _ _ = _ at rz
          have HRR := Lib.hid qz.here
          have HBZ := Lib.hid (below_put HLE.out.now.1.2 qz (Nat.le_refl _))
          clear qz hall
          go_wp2_with fail
          exact bodyPost_ret (results_cell_tmp_row rfl _ _ w.heap.size _ _ _ _ rfl HRR.out Tryz.underlying43 rfl (by kernel_rfl)) rfl ⟨MS0, by rw [HRE.out]; rfl, by rw [HRE.out]; exact (show MsgA zz MS0 Mg.msg0 from (MsgO.nil w zz Mg.msg0 rfl).arg), HBZ.out⟩
  · have hn1 := Lib.hid hk1
    have kk1 : ((x1 : Int) == 1) = false := beq_eq_false_iff_ne.2 (by omega)
    by_cases hk2 : x1 = 2
    · have HK := Lib.hid hk2
      have kk2 : ((x1 : Int) == 2) = true := beq_iff_eq.2 (by omega)
      clear hk1 hk2
      have ch4 := HB3.out.g.cell
      have HC4 := Lib.hid (g_rows gb rb _ _ HB3.out.g)
      go_wp2_with fail
      refine HC4.out.mono ?_
      rintro e w4 ⟨l4, xs4, a4, c4, s4, rfl, hs4, hn4, hg4, hol4, hrw4, hu4⟩
      have HS4 := Lib.hid hs4
      clear ch4 HC4
      have HOL4 := Lib.hid (hol4.base (w0 := v1) (HB3.out.p.now.2))
      have HRW4 := Lib.hid (hrw4.base (w0 := v1) (HB3.out.p.now.2))
      clear hrw4
      have hb4 := HB3.out.read hg4 hu4
      have q4 := hb4.cell 18 _ rfl
      have f4 := hb4.thaw 18
      have l_4 := hb4.lt
      have hc4 := (hb4.more (Lat.two (Lat.ol HOL4.out HFX.out) (Lat.ro HRW4.out HFX.out))).put (cs' := #[.int .u8 x1, .int .u64 x2, .int .u64 x3, .int .u64 0, .int .u64 0, .int .u64 0, .slice none 0 0, .int .u32 0, .slice none 0 0, .slice none 0 0, .slice none 0 0, .slice none 0 0, .bool false, .string ⟨#[]⟩, .bool false, .bool false, .int .u64 0, .int .u64 0, .slice a4 l4.length c4, .int .u64 0, .slice none 0 0, .bool false, .int .i64 0, .int .u32 0, .slice none 0 0, .slice none 0 0, .slice none 0 0, .int .u8 0]) 18 (.slice a4 l4.length c4) rfl
      have HB4 := Lib.hid hc4
      clear hb4 hg4 hu4 hol4 hn4 hs4 hc4
      go_upto_region 21 with (fail)
      generalize w4.setCell ⟨w1.heap.size, 18, none⟩ (.slice a4 l4.length c4) = v4 at *
      clear q4 f4 l_4 HOL4
      have ch5 := (HB4.out.g).cell
      have HC5 := Lib.hid ((HB4.out.g).truth)
      go_wp2_with fail
      refine HC5.out.mono ?_
      rintro e w5 ⟨x5, s5, rfl, hs5, hg5, hu5⟩
      have HS5 := Lib.hid hs5
      clear HC5 ch5 hs5
      have hb5 := HB4.out.read hg5 hu5
      have q5 := hb5.cell 21 _ rfl
      have f5 := hb5.thaw 21
      have l5 := hb5.lt
      have HB5 := Lib.hid (hb5.put (cs' := #[.int .u8 x1, .int .u64 x2, .int .u64 x3, .int .u64 0, .int .u64 0, .int .u64 0, .slice none 0 0, .int .u32 0, .slice none 0 0, .slice none 0 0, .slice none 0 0, .slice none 0 0, .bool false, .string ⟨#[]⟩, .bool false, .bool false, .int .u64 0, .int .u64 0, .slice a4 l4.length c4, .int .u64 0, .slice none 0 0, .bool x5, .int .i64 0, .int .u32 0, .slice none 0 0, .slice none 0 0, .slice none 0 0, .int .u8 0]) 21 (.bool x5) rfl)
      clear hb5 hg5 hu5
      go_upto_region 22 with (fail)
      generalize w5.setCell ⟨w1.heap.size, 21, none⟩ (.bool x5) = v5 at *
      clear q5 f5 l5
      have ch6 := (HB5.out.g).cell
      have HC6 := Lib.hid ((HB5.out.g).uint 9999 (by decide))
      go_wp2_with fail
      refine HC6.out.mono ?_
      rintro e w6 ⟨x6, s6, rfl, hx6, hs6, hg6, hu6⟩
      have HX6 := Lib.hid hx6
      have HS6 := Lib.hid hs6
      have hxI6 : (0 : Int) ≤ x6 ∧ (x6 : Int) ≤ 9999 := by omega
      clear HC6 ch6 hx6 hs6
      have hb6 := HB5.out.read hg6 hu6
      have q6 := hb6.cell 22 _ rfl
      have f6 := hb6.thaw 22
      have l6 := hb6.lt
      have HB6 := Lib.hid (hb6.put (cs' := #[.int .u8 x1, .int .u64 x2, .int .u64 x3, .int .u64 0, .int .u64 0, .int .u64 0, .slice none 0 0, .int .u32 0, .slice none 0 0, .slice none 0 0, .slice none 0 0, .slice none 0 0, .bool false, .string ⟨#[]⟩, .bool false, .bool false, .int .u64 0, .int .u64 0, .slice a4 l4.length c4, .int .u64 0, .slice none 0 0, .bool x5, .int .i64 x6, .int .u32 0, .slice none 0 0, .slice none 0 0, .slice none 0 0, .int .u8 0]) 22 (.int .i64 x6) rfl)
      clear hb6 hg6 hu6
      go_upto_region 23 with (fail)
      generalize w6.setCell ⟨w1.heap.size, 22, none⟩ (.int .i64 x6) = v6 at *
      clear q6 f6 l6
      have ch7 := HB6.out.g.cell
      have HC7 := Lib.hid (g_told gb rb _ _ HB6.out.g)
      go_wp2_with fail
      refine HC7.out.mono ?_
      rintro e w7 ⟨x7, sl7, s7, rfl, hs7, hg7, hol7, hu7⟩
      have HS7 := Lib.hid hs7
      clear ch7 HC7
      have HOL7 := Lib.hid (hol7.base (w0 := v1) (HB6.out.p.now.1.2))
      have hb7 := (HB6.out.read hg7 hu7).more (HOL7.out.lat HFX.out)
      obtain ⟨v7, rv7, hq7⟩ := hb7.part 41 23 (toldV sl7 x7) #[.int .u8 x1, .int .u64 x2, .int .u64 x3, .int .u64 0, .int .u64 0, .int .u64 0, .slice none 0 0, .int .u32 0, .slice none 0 0, .slice none 0 0, .slice none 0 0, .slice none 0 0, .bool false, .string ⟨#[]⟩, .bool false, .bool false, .int .u64 0, .int .u64 0, .slice a4 l4.length c4, .int .u64 0, .slice none 0 0, .bool x5, .int .i64 x6, .int .u32 x7.told.shard, .slice sl7.got.1 x7.told.got.length sl7.got.2, .slice sl7.numbers.1 x7.told.numbers.length sl7.numbers.2, .slice sl7.names.1 x7.told.names.length sl7.names.2, .int .u8 0] (n := 4) (N := 28) rfl rfl (by kernel_rfl) (by decide) (toldV_one _ _) rfl
      change (stTold _ _).run _ _ = _ at rv7
      have HB7 := Lib.hid hq7
      clear hb7 hq7 hg7 hol7 hu7 hs7
      go_upto_region 32 with (fail)
      clear rv7
      obtain ⟨M, SL, HY, HLQ, HST⟩ : ∃ (M : Mg.Msg) (SL : MS), Hid (v7.heap[w1.heap.size]? = some (.cells (MV SL M) 43 (0, 0))) ∧ Hid (Lat v7 [rb, w1.heap.size] (fun W2 => Dres w W2 ∧ MsgO v1 W2 SL M)) ∧ Hid (Step Mg.decR (some (L s)) M s7) := by
        refine ⟨{ Mg.msg0 with kind := x1, tx := ⟨x2, x3⟩, rows := l4, commit := x5, err := (x6 : Int), told := x7.told }, { MS0 with rows := (a4, c4), got := sl7.got, numbers := sl7.numbers, names := sl7.names }, Lib.hid HB7.out.y, Lib.hid (HB7.out.p.turn (fun W h => ⟨h.1.1.1, ?_⟩)), Lib.hid (Step.decR HS1.out (show Step Mg.cTx.dec s1 (⟨x2, x3⟩ : Mg.Tx) s3 from Step.isoD (Step.seqD HS2.out HS3.out)) ?_)⟩
        · exact ⟨OL.nil _ _ _ _, OL.nil _ _ _ _, OL.nil _ _ _ _, OL.nil _ _ _ _, OL.nil _ _ _ _, ⟨xs4, h.1.2.1, h.1.2.2⟩, OL.nil _ _ _ _, h.2.got, h.2.numbers, h.2.names⟩
        · rw [Mg.decRB_2 HK.out]; exact Step.mapD (Mg.f2 x1 ⟨x2, x3⟩) (Step.seqD HS4.out (Step.seqD HS5.out (Step.seqD (Step.intD HS6.out) HS7.out)))
      have HRD := Lib.hid HB7.out.g.rd
      have HNE : Hid (w1.heap.size ≠ rb ∧ w1.heap.size < v7.heap.size) := Lib.hid ⟨fun e => HB7.out.ny.2 e.symm, HB7.out.lt⟩
      have ch := HB7.out.g.cell
      have HCE := Lib.hid (gend v7 rb s7 HRD.out)
      go_wp2_with fail
      refine HCE.out.mono ?_
      rintro v wE ⟨eE, rfl, heE, huE⟩
      have HLE := Lib.hid (HLQ.out.next (huE.mono (by simp)))
      have HYE : Hid (wE.heap[w1.heap.size]? = some (.cells (MV SL M) 43 (0, 0))) := Lib.hid ((huE.keep _ HNE.out.2 (by simp; exact HNE.out.1)).trans HY.out)
      have HEE := Lib.hid heE
      clear heE huE HCE ch HLQ HY
      by_cases hall : s7 = some []
      · have hz : ((eE : Int) != 0) = false := by rw [HEE.out, decide_eq_true hall]; rfl
        have hd : Mg.decR (L s) = some (M, []) := Step.all (by have := HST.out; rw [hall] at this; exact this)
        obtain ⟨henc, hgood⟩ := Mg.decR_only hd
        rw [List.append_nil] at henc
        have hlen : (Mg.enc M).length ≤ 1073741824 := by rw [← henc, L_size]; have := HSZ.out; omega
        have gm := ldMsg_run wE _ SL M HYE.out
        obtain ⟨bm, hbm⟩ : ∃ y, y = Mg.may M := ⟨_, rfl⟩
        have hcm := ref_may SL M wE HLE.out.now.2.arg hgood hlen
        rw [← hbm] at hcm
        have HCM := Lib.hid hcm
        have HBM := Lib.hid hbm
        have HD := Lib.hid hd
        clear hcm hbm hd henc hgood hlen hall
        go_wp2_with fail
        refine HCM.out.mono ?_
        rintro v wM ⟨rfl, hbM⟩
        have HMK : Hid (MsgO v1 wM SL M) := Lib.hid (HLE.out.now.2.upd (Upd.of_below [] hbM) (by simp))
        have HYM : Hid (wM.heap[w1.heap.size]? = some (.cells (MV SL M) 43 (0, 0))) := Lib.hid ((hbM.block _ (blk_lt HYE.out)).trans HYE.out)
        have HRM : Hid (wM.heap[w.heap.size]? = some (.cells Z28 43 (0, 0))) := Lib.hid ((hbM.block _ (blk_lt HLE.out.now.1.1)).trans HLE.out.now.1.1)
        have HBW : Hid (Below w.heap.size w wM) := Lib.hid (HLE.out.now.1.2.trans (hbM.mono HLE.out.now.1.2.size))
        clear hbM gm HCM
        cases bm with
        | true =>
          have gm := ldMsg_run wM _ SL M HYM.out
          obtain ⟨zz, rz, qz⟩ := st_part (P := Tryz.prog) wM 43 (.agg (MV SL M)) w.heap.size 0 (MV SL M) rfl 43 Z28 (MV SL M) HRM.out 28 28 rfl rfl sizeMsg (by decide) (MV_one _ _) (whole_eq _ _ 28 rfl rfl)
          change (stMsg _ _).run _ _ = _ at rz
          have HRR := Lib.hid qz.here
          have hul : Upd wM zz [w.heap.size] := ⟨qz.os, qz.tape, qz.output, Nat.le_of_eq qz.size.symm, fun k _ hf => qz.other k (by simpa using hf)⟩
          have hmo : MsgO v1 wM SL M := HMK.out
          have HAZ := Lib.hid (hmo.upd hul (fun b hb => by rw [List.mem_singleton.1 hb]; exact HWL.out)).arg
          have HBZ := Lib.hid (below_put HBW.out qz (Nat.le_refl _))
          have HRE : Hid (R = some M) := Lib.hid (by rw [HR.out]; exact Mg.decF_yes HD.out HBM.out.symm)
          clear qz hul hmo
          go_wp2_with fail
          exact bodyPost_ret (results_cell_tmp_row rfl _ _ w.heap.size _ _ _ _ rfl HRR.out Tryz.underlying43 rfl (by kernel_rfl)) rfl ⟨SL, by rw [HRE.out]; rfl, by rw [HRE.out]; exact HAZ.out, HBZ.out⟩
        | false =>
          have HRE : Hid (R = none) := Lib.hid (by rw [HR.out]; exact Mg.decF_no (fun m hm => by rw [HD.out] at hm; cases hm; exact HBM.out.symm))
          obtain ⟨zz, rz, qz⟩ := st_part (P := Tryz.prog) wM 43 (.agg #[.int .u8 0, .int .u64 0, .int .u64 0, .int .u64 0, .int .u64 0, .int .u64 0, .slice none 0 0, .int .u32 0, .slice none 0 0, .slice none 0 0, .slice none 0 0, .slice none 0 0, .bool false, .string ⟨#[]⟩, .bool false, .bool false, .int .u64 0, .int .u64 0, .slice none 0 0, .int .u64 0, .slice none 0 0, .bool false, .int .i64 0, .int .u32 0, .slice none 0 0, .slice none 0 0, .slice none 0 0, .int .u8 0]) w.heap.size 0 #[.int .u8 0, .int .u64 0, .int .u64 0, .int .u64 0, .int .u64 0, .int .u64 0, .slice none 0 0, .int .u32 0, .slice none 0 0, .slice none 0 0, .slice none 0 0, .slice none 0 0, .bool false, .string ⟨#[]⟩, .bool false, .bool false, .int .u64 0, .int .u64 0, .slice none 0 0, .int .u64 0, .slice none 0 0, .bool false, .int .i64 0, .int .u32 0, .slice none 0 0, .slice none 0 0, .slice none 0 0, .int .u8 0] rfl 43 Z28 (MV MS0 Mg.msg0) HRM.out 28 28 rfl rfl sizeMsg (by decide) (MV_one MS0 Mg.msg0) (whole_eq _ _ 28 rfl rfl)
          change (stMsg _ _).run _ _ = _ at rz
          have HRR := Lib.hid qz.here
          have HBZ := Lib.hid (below_put HBW.out qz (Nat.le_refl _))
          clear qz
          go_wp2_with fail
          exact bodyPost_ret (results_cell_tmp_row rfl _ _ w.heap.size _ _ _ _ rfl HRR.out Tryz.underlying43 rfl (by kernel_rfl)) rfl ⟨MS0, by rw [HRE.out]; rfl, by rw [HRE.out]; exact (show MsgA zz MS0 Mg.msg0 from (MsgO.nil w zz Mg.msg0 rfl).arg), HBZ.out⟩
      · have hz : ((eE : Int) != 0) = true := by rw [HEE.out, decide_eq_false hall]; rfl
        have HRE : Hid (R = none) := Lib.hid (by rw [HR.out]; exact HST.out.part hall)
        obtain ⟨zz, rz, qz⟩ := st_part (P := Tryz.prog) wE 43 (.agg #[.int .u8 0, .int .u64 0, .int .u64 0, .int .u64 0, .int .u64 0, .int .u64 0, .slice none 0 0, .int .u32 0, .slice none 0 0, .slice none 0 0, .slice none 0 0, .slice none 0 0, .bool false, .string ⟨#[]⟩, .bool false, .bool false, .int .u64 0, .int .u64 0, .slice none 0 0, .int .u64 0, .slice none 0 0, .bool false, .int .i64 0, .int .u32 0, .slice none 0 0, .slice none 0 0, .slice none 0 0, .int .u8 0]) w.heap.size 0 #[.int .u8 0, .int .u64 0, .int .u64 0, .int .u64 0, .int .u64 0, .int .u64 0, .slice none 0 0, .int .u32 0, .slice none 0 0, .slice none 0 0, .slice none 0 0, .slice none 0 0, .bool false, .string ⟨#[]⟩, .bool false, .bool false, .int .u64 0, .int .u64 0, .slice none 0 0, .int .u64 0, .slice none 0 0, .bool false, .int .i64 0, .int .u32 0, .slice none 0 0, .slice none 0 0, .slice none 0 0, .int .u8 0] rfl 43 Z28 (MV MS0 Mg.msg0) HLE.out.now.1.1 28 28 rfl rfl sizeMsg (by decide) (MV_one MS0 Mg.msg0) (whole_eq _ _ 28 rfl rfl)
        change (stMsg _ _).run _ _ = _ at rz
        have HRR := Lib.hid qz.here
        have HBZ := Lib.hid (below_put HLE.out.now.1.2 qz (Nat.le_refl _))
        clear qz hall
        go_wp2_with fail
        exact bodyPost_ret (results_cell_tmp_row rfl _ _ w.heap.size _ _ _ _ rfl HRR.out Tryz.underlying43 rfl (by kernel_rfl)) rfl ⟨MS0, by rw [HRE.out]; rfl, by rw [HRE.out]; exact (show MsgA zz MS0 Mg.msg0 from (MsgO.nil w zz Mg.msg0 rfl).arg), HBZ.out⟩
    · have hn2 := Lib.hid hk2
      have kk2 : ((x1 : Int) == 2) = false := beq_eq_false_iff_ne.2 (by omega)
      by_cases hk3 : x1 = 3
      · have HK := Lib.hid hk3
        have kk3 : ((x1 : Int) == 3) = true := beq_iff_eq.2 (by omega)
        clear hk1 hk2 hk3
        have ch4 := (HB3.out.g).cell
        have HC4 := Lib.hid ((HB3.out.g).uint 4611686018427387904 (by decide))
        go_wp2_with fail
        refine HC4.out.mono ?_
        rintro e w4 ⟨x4, s4, rfl, hx4, hs4, hg4, hu4⟩
        have HX4 := Lib.hid hx4
        have HS4 := Lib.hid hs4
        have hxI4 : (0 : Int) ≤ x4 ∧ (x4 : Int) ≤ 4611686018427387904 := by omega
        clear HC4 ch4 hx4 hs4
        have hb4 := HB3.out.read hg4 hu4
        have q4 := hb4.cell 3 _ rfl
        have f4 := hb4.thaw 3
        have l4 := hb4.lt
        have HB4 := Lib.hid (hb4.put (cs' := #[.int .u8 x1, .int .u64 x2, .int .u64 x3, .int .u64 x4, .int .u64 0, .int .u64 0, .slice none 0 0, .int .u32 0, .slice none 0 0, .slice none 0 0, .slice none 0 0, .slice none 0 0, .bool false, .string ⟨#[]⟩, .bool false, .bool false, .int .u64 0, .int .u64 0, .slice none 0 0, .int .u64 0, .slice none 0 0, .bool false, .int .i64 0, .int .u32 0, .slice none 0 0, .slice none 0 0, .slice none 0 0, .int .u8 0]) 3 (.int .u64 x4) rfl)
        clear hb4 hg4 hu4
        go_upto_region 26 with (fail)
        generalize w4.setCell ⟨w1.heap.size, 3, none⟩ (.int .u64 x4) = v4 at *
        clear q4 f4 l4
        have ch5 := (HB4.out.g).cell
        have HC5 := Lib.hid ((HB4.out.g).uint 4611686018427387904 (by decide))
        go_wp2_with fail
        refine HC5.out.mono ?_
        rintro e w5 ⟨x5, s5, rfl, hx5, hs5, hg5, hu5⟩
        have HX5 := Lib.hid hx5
        have HS5 := Lib.hid hs5
        have hxI5 : (0 : Int) ≤ x5 ∧ (x5 : Int) ≤ 4611686018427387904 := by omega
        clear HC5 ch5 hx5 hs5
        have hb5 := HB4.out.read hg5 hu5
        have q5 := hb5.cell 4 _ rfl
        have f5 := hb5.thaw 4
        have l5 := hb5.lt
        have HB5 := Lib.hid (hb5.put (cs' := #[.int .u8 x1, .int .u64 x2, .int .u64 x3, .int .u64 x4, .int .u64 x5, .int .u64 0, .slice none 0 0, .int .u32 0, .slice none 0 0, .slice none 0 0, .slice none 0 0, .slice none 0 0, .bool false, .string ⟨#[]⟩, .bool false, .bool false, .int .u64 0, .int .u64 0, .slice none 0 0, .int .u64 0, .slice none 0 0, .bool false, .int .i64 0, .int .u32 0, .slice none 0 0, .slice none 0 0, .slice none 0 0, .int .u8 0]) 4 (.int .u64 x5) rfl)
        clear hb5 hg5 hu5
        go_upto_region 27 with (fail)
        generalize w5.setCell ⟨w1.heap.size, 4, none⟩ (.int .u64 x5) = v5 at *
        clear q5 f5 l5
        have ch6 := (HB5.out.g).cell
        have HC6 := Lib.hid ((HB5.out.g).truth)
        go_wp2_with fail
        refine HC6.out.mono ?_
        rintro e w6 ⟨x6, s6, rfl, hs6, hg6, hu6⟩
        have HS6 := Lib.hid hs6
        clear HC6 ch6 hs6
        have hb6 := HB5.out.read hg6 hu6
        have q6 := hb6.cell 21 _ rfl
        have f6 := hb6.thaw 21
        have l6 := hb6.lt
        have HB6 := Lib.hid (hb6.put (cs' := #[.int .u8 x1, .int .u64 x2, .int .u64 x3, .int .u64 x4, .int .u64 x5, .int .u64 0, .slice none 0 0, .int .u32 0, .slice none 0 0, .slice none 0 0, .slice none 0 0, .slice none 0 0, .bool false, .string ⟨#[]⟩, .bool false, .bool false, .int .u64 0, .int .u64 0, .slice none 0 0, .int .u64 0, .slice none 0 0, .bool x6, .int .i64 0, .int .u32 0, .slice none 0 0, .slice none 0 0, .slice none 0 0, .int .u8 0]) 21 (.bool x6) rfl)
        clear hb6 hg6 hu6
        go_upto_region 32 with (fail)
        generalize w6.setCell ⟨w1.heap.size, 21, none⟩ (.bool x6) = v6 at *
        clear q6 f6 l6
        obtain ⟨M, SL, HY, HLQ, HST⟩ : ∃ (M : Mg.Msg) (SL : MS), Hid (v6.heap[w1.heap.size]? = some (.cells (MV SL M) 43 (0, 0))) ∧ Hid (Lat v6 [rb, w1.heap.size] (fun W2 => Dres w W2 ∧ MsgO v1 W2 SL M)) ∧ Hid (Step Mg.decR (some (L s)) M s6) := by
          refine ⟨{ Mg.msg0 with kind := x1, tx := ⟨x2, x3⟩, low := ⟨x4, x5⟩, commit := x6 }, MS0, Lib.hid HB6.out.y, Lib.hid (HB6.out.p.turn (fun W h => ⟨h.1, ?_⟩)), Lib.hid (Step.decR HS1.out (show Step Mg.cTx.dec s1 (⟨x2, x3⟩ : Mg.Tx) s3 from Step.isoD (Step.seqD HS2.out HS3.out)) ?_)⟩
          · exact ⟨OL.nil _ _ _ _, OL.nil _ _ _ _, OL.nil _ _ _ _, OL.nil _ _ _ _, OL.nil _ _ _ _, ⟨[], OL.nil _ _ _ _, RowsO.nil _ _⟩, OL.nil _ _ _ _, OL.nil _ _ _ _, OL.nil _ _ _ _, OL.nil _ _ _ _⟩
          · rw [Mg.decRB_3 HK.out]; exact Step.mapD (Mg.f3 x1 ⟨x2, x3⟩) (Step.seqD (show Step Mg.cTx.dec s3 (⟨x4, x5⟩ : Mg.Tx) s5 from Step.isoD (Step.seqD HS4.out HS5.out)) HS6.out)
        have HRD := Lib.hid HB6.out.g.rd
        have HNE : Hid (w1.heap.size ≠ rb ∧ w1.heap.size < v6.heap.size) := Lib.hid ⟨fun e => HB6.out.ny.2 e.symm, HB6.out.lt⟩
        have ch := HB6.out.g.cell
        have HCE := Lib.hid (gend v6 rb s6 HRD.out)
        go_wp2_with fail
        refine HCE.out.mono ?_
        rintro v wE ⟨eE, rfl, heE, huE⟩
        have HLE := Lib.hid (HLQ.out.next (huE.mono (by simp)))
        have HYE : Hid (wE.heap[w1.heap.size]? = some (.cells (MV SL M) 43 (0, 0))) := Lib.hid ((huE.keep _ HNE.out.2 (by simp; exact HNE.out.1)).trans HY.out)
        have HEE := Lib.hid heE
        clear heE huE HCE ch HLQ HY
        by_cases hall : s6 = some []
        · have hz : ((eE : Int) != 0) = false := by rw [HEE.out, decide_eq_true hall]; rfl
          have hd : Mg.decR (L s) = some (M, []) := Step.all (by have := HST.out; rw [hall] at this; exact this)
          obtain ⟨henc, hgood⟩ := Mg.decR_only hd
          rw [List.append_nil] at henc
          have hlen : (Mg.enc M).length ≤ 1073741824 := by rw [← henc, L_size]; have := HSZ.out; omega
          have gm := ldMsg_run wE _ SL M HYE.out
          obtain ⟨bm, hbm⟩ : ∃ y, y = Mg.may M := ⟨_, rfl⟩
          have hcm := ref_may SL M wE HLE.out.now.2.arg hgood hlen
          rw [← hbm] at hcm
          have HCM := Lib.hid hcm
          have HBM := Lib.hid hbm
          have HD := Lib.hid hd
          clear hcm hbm hd henc hgood hlen hall
          go_wp2_with fail
          refine HCM.out.mono ?_
          rintro v wM ⟨rfl, hbM⟩
          have HMK : Hid (MsgO v1 wM SL M) := Lib.hid (HLE.out.now.2.upd (Upd.of_below [] hbM) (by simp))
          have HYM : Hid (wM.heap[w1.heap.size]? = some (.cells (MV SL M) 43 (0, 0))) := Lib.hid ((hbM.block _ (blk_lt HYE.out)).trans HYE.out)
          have HRM : Hid (wM.heap[w.heap.size]? = some (.cells Z28 43 (0, 0))) := Lib.hid ((hbM.block _ (blk_lt HLE.out.now.1.1)).trans HLE.out.now.1.1)
          have HBW : Hid (Below w.heap.size w wM) := Lib.hid (HLE.out.now.1.2.trans (hbM.mono HLE.out.now.1.2.size))
          clear hbM gm HCM
          cases bm with
          | true =>
            have gm := ldMsg_run wM _ SL M HYM.out
            obtain ⟨zz, rz, qz⟩ := st_part (P := Tryz.prog) wM 43 (.agg (MV SL M)) w.heap.size 0 (MV SL M) rfl 43 Z28 (MV SL M) HRM.out 28 28 rfl rfl sizeMsg (by decide) (MV_one _ _) (whole_eq _ _ 28 rfl rfl)
            change (stMsg _ _).run _ _ = _ at rz
            have HRR := Lib.hid qz.here
            have hul : Upd wM zz [w.heap.size] := ⟨qz.os, qz.tape, qz.output, Nat.le_of_eq qz.size.symm, fun k _ hf => qz.other k (by simpa using hf)⟩
            have hmo : MsgO v1 wM SL M := HMK.out
            have HAZ := Lib.hid (hmo.upd hul (fun b hb => by rw [List.mem_singleton.1 hb]; exact HWL.out)).arg
            have HBZ := Lib.hid (below_put HBW.out qz (Nat.le_refl _))
            have HRE : Hid (R = some M) := Lib.hid (by rw [HR.out]; exact Mg.decF_yes HD.out HBM.out.symm)
            clear qz hul hmo
            go_wp2_with fail
            exact bodyPost_ret (results_cell_tmp_row rfl _ _ w.heap.size _ _ _ _ rfl HRR.out Tryz.underlying43 rfl (by kernel_rfl)) rfl ⟨SL, by rw [HRE.out]; rfl, by rw [HRE.out]; exact HAZ.out, HBZ.out⟩
          | false =>
            have HRE : Hid (R = none) := Lib.hid (by rw [HR.out]; exact Mg.decF_no (fun m hm => by rw [HD.out] at hm; cases hm; exact HBM.out.symm))
            obtain ⟨zz, rz, qz⟩ := st_part (P := Tryz.prog) wM 43 (.agg #[.int .u8 0, .int .u64 0, .int .u64 0, .int .u64 0, .int .u64 0, .int .u64 0, .slice none 0 0, .int .u32 0, .slice none 0 0, .slice none 0 0, .slice none 0 0, .slice none 0 0, .bool false, .string ⟨#[]⟩, .bool false, .bool false, .int .u64 0, .int .u64 0, .slice none 0 0, .int .u64 0, .slice none 0 0, .bool false, .int .i64 0, .int .u32 0, .slice none 0 0, .slice none 0 0, .slice none 0 0, .int .u8 0]) w.heap.size 0 #[.int .u8 0, .int .u64 0, .int .u64 0, .int .u64 0, .int .u64 0, .int .u64 0, .slice none 0 0, .int .u32 0, .slice none 0 0, .slice none 0 0, .slice none 0 0, .slice none 0 0, .bool false, .string ⟨#[]⟩, .bool false, .bool false, .int .u64 0, .int .u64 0, .slice none 0 0, .int .u64 0, .slice none 0 0, .bool false, .int .i64 0, .int .u32 0, .slice none 0 0, .slice none 0 0, .slice none 0 0, .int .u8 0] rfl 43 Z28 (MV MS0 Mg.msg0) HRM.out 28 28 rfl rfl sizeMsg (by decide) (MV_one MS0 Mg.msg0) (whole_eq _ _ 28 rfl rfl)
            change (stMsg _ _).run _ _ = _ at rz
            have HRR := Lib.hid qz.here
            have HBZ := Lib.hid (below_put HBW.out qz (Nat.le_refl _))
            clear qz
            go_wp2_with fail
            exact bodyPost_ret (results_cell_tmp_row rfl _ _ w.heap.size _ _ _ _ rfl HRR.out Tryz.underlying43 rfl (by kernel_rfl)) rfl ⟨MS0, by rw [HRE.out]; rfl, by rw [HRE.out]; exact (show MsgA zz MS0 Mg.msg0 from (MsgO.nil w zz Mg.msg0 rfl).arg), HBZ.out⟩
        · have hz : ((eE : Int) != 0) = true := by rw [HEE.out, decide_eq_false hall]; rfl
          have HRE : Hid (R = none) := Lib.hid (by rw [HR.out]; exact HST.out.part hall)
          obtain ⟨zz, rz, qz⟩ := st_part (P := Tryz.prog) wE 43 (.agg #[.int .u8 0, .int .u64 0, .int .u64 0, .int .u64 0, .int .u64 0, .int .u64 0, .slice none 0 0, .int .u32 0, .slice none 0 0, .slice none 0 0, .slice none 0 0, .slice none 0 0, .bool false, .string ⟨#[]⟩, .bool false, .bool false, .int .u64 0, .int .u64 0, .slice none 0 0, .int .u64 0, .slice none 0 0, .bool false, .int .i64 0, .int .u32 0, .slice none 0 0, .slice none 0 0, .slice none 0 0, .int .u8 0]) w.heap.size 0 #[.int .u8 0, .int .u64 0, .int .u64 0, .int .u64 0, .int .u64 0, .int .u64 0, .slice none 0 0, .int .u32 0, .slice none 0 0, .slice none 0 0, .slice none 0 0, .slice none 0 0, .bool false, .string ⟨#[]⟩, .bool false, .bool false, .int .u64 0, .int .u64 0, .slice none 0 0, .int .u64 0, .slice none 0 0, .bool false, .int .i64 0, .int .u32 0, .slice none 0 0, .slice none 0 0, .slice none 0 0, .int .u8 0] rfl 43 Z28 (MV MS0 Mg.msg0) HLE.out.now.1.1 28 28 rfl rfl sizeMsg (by decide) (MV_one MS0 Mg.msg0) (whole_eq _ _ 28 rfl rfl)
          change (stMsg _ _).run _ _ = _ at rz
          have HRR := Lib.hid qz.here
          have HBZ := Lib.hid (below_put HLE.out.now.1.2 qz (Nat.le_refl _))
          clear qz hall
          go_wp2_with fail
          exact bodyPost_ret (results_cell_tmp_row rfl _ _ w.heap.size _ _ _ _ rfl HRR.out Tryz.underlying43 rfl (by kernel_rfl)) rfl ⟨MS0, by rw [HRE.out]; rfl, by rw [HRE.out]; exact (show MsgA zz MS0 Mg.msg0 from (MsgO.nil w zz Mg.msg0 rfl).arg), HBZ.out⟩
      · have hn3 := Lib.hid hk3
        have kk3 : ((x1 : Int) == 3) = false := beq_eq_false_iff_ne.2 (by omega)
        by_cases hk6 : x1 = 6
        · have HK := Lib.hid hk6
          have kk6 : ((x1 : Int) == 6) = true := beq_iff_eq.2 (by omega)
          clear hk1 hk2 hk3 hk6
          have ch4 := (HB3.out.g).cell
          have HC4 := Lib.hid ((HB3.out.g).uint 4611686018427387904 (by decide))
          go_wp2_with fail
          refine HC4.out.mono ?_
          rintro e w4 ⟨x4, s4, rfl, hx4, hs4, hg4, hu4⟩
          have HX4 := Lib.hid hx4
          have HS4 := Lib.hid hs4
          have hxI4 : (0 : Int) ≤ x4 ∧ (x4 : Int) ≤ 4611686018427387904 := by omega
          clear HC4 ch4 hx4 hs4
          have hb4 := HB3.out.read hg4 hu4
          have q4 := hb4.cell 3 _ rfl
          have f4 := hb4.thaw 3
          have l4 := hb4.lt
          have HB4 := Lib.hid (hb4.put (cs' := #[.int .u8 x1, .int .u64 x2, .int .u64 x3, .int .u64 x4, .int .u64 0, .int .u64 0, .slice none 0 0, .int .u32 0, .slice none 0 0, .slice none 0 0, .slice none 0 0, .slice none 0 0, .bool false, .string ⟨#[]⟩, .bool false, .bool false, .int .u64 0, .int .u64 0, .slice none 0 0, .int .u64 0, .slice none 0 0, .bool false, .int .i64 0, .int .u32 0, .slice none 0 0, .slice none 0 0, .slice none 0 0, .int .u8 0]) 3 (.int .u64 x4) rfl)
          clear hb4 hg4 hu4
          go_upto_region 30 with (fail)
          generalize w4.setCell ⟨w1.heap.size, 3, none⟩ (.int .u64 x4) = v4 at *
          clear q4 f4 l4
          have ch5 := (HB4.out.g).cell
          have HC5 := Lib.hid ((HB4.out.g).uint 4611686018427387904 (by decide))
          go_wp2_with fail
          refine HC5.out.mono ?_
          rintro e w5 ⟨x5, s5, rfl, hx5, hs5, hg5, hu5⟩
          have HX5 := Lib.hid hx5
          have HS5 := Lib.hid hs5
          have hxI5 : (0 : Int) ≤ x5 ∧ (x5 : Int) ≤ 4611686018427387904 := by omega
          clear HC5 ch5 hx5 hs5
          have hb5 := HB4.out.read hg5 hu5
          have q5 := hb5.cell 4 _ rfl
          have f5 := hb5.thaw 4
          have l5 := hb5.lt
          have HB5 := Lib.hid (hb5.put (cs' := #[.int .u8 x1, .int .u64 x2, .int .u64 x3, .int .u64 x4, .int .u64 x5, .int .u64 0, .slice none 0 0, .int .u32 0, .slice none 0 0, .slice none 0 0, .slice none 0 0, .slice none 0 0, .bool false, .string ⟨#[]⟩, .bool false, .bool false, .int .u64 0, .int .u64 0, .slice none 0 0, .int .u64 0, .slice none 0 0, .bool false, .int .i64 0, .int .u32 0, .slice none 0 0, .slice none 0 0, .slice none 0 0, .int .u8 0]) 4 (.int .u64 x5) rfl)
          clear hb5 hg5 hu5
          go_upto_region 31 with (fail)
          generalize w5.setCell ⟨w1.heap.size, 4, none⟩ (.int .u64 x5) = v5 at *
          clear q5 f5 l5
          have ch6 := (HB5.out.g).cell
          have HC6 := Lib.hid ((HB5.out.g).uint 3 (by decide))
          go_wp2_with fail
          refine HC6.out.mono ?_
          rintro e w6 ⟨x6, s6, rfl, hx6, hs6, hg6, hu6⟩
          have HX6 := Lib.hid hx6
          have HS6 := Lib.hid hs6
          have hxI6 : (0 : Int) ≤ x6 ∧ (x6 : Int) ≤ 3 := by omega
          clear HC6 ch6 hx6 hs6
          have hb6 := HB5.out.read hg6 hu6
          have q6 := hb6.cell 27 _ rfl
          have f6 := hb6.thaw 27
          have l6 := hb6.lt
          have HB6 := Lib.hid (hb6.put (cs' := #[.int .u8 x1, .int .u64 x2, .int .u64 x3, .int .u64 x4, .int .u64 x5, .int .u64 0, .slice none 0 0, .int .u32 0, .slice none 0 0, .slice none 0 0, .slice none 0 0, .slice none 0 0, .bool false, .string ⟨#[]⟩, .bool false, .bool false, .int .u64 0, .int .u64 0, .slice none 0 0, .int .u64 0, .slice none 0 0, .bool false, .int .i64 0, .int .u32 0, .slice none 0 0, .slice none 0 0, .slice none 0 0, .int .u8 x6]) 27 (.int .u8 x6) rfl)
          clear hb6 hg6 hu6
          go_upto_region 32 with (fail)
          generalize w6.setCell ⟨w1.heap.size, 27, none⟩ (.int .u8 x6) = v6 at *
          clear q6 f6 l6
          obtain ⟨M, SL, HY, HLQ, HST⟩ : ∃ (M : Mg.Msg) (SL : MS), Hid (v6.heap[w1.heap.size]? = some (.cells (MV SL M) 43 (0, 0))) ∧ Hid (Lat v6 [rb, w1.heap.size] (fun W2 => Dres w W2 ∧ MsgO v1 W2 SL M)) ∧ Hid (Step Mg.decR (some (L s)) M s6) := by
            refine ⟨{ Mg.msg0 with kind := x1, tx := ⟨x2, x3⟩, low := ⟨x4, x5⟩, state := x6 }, MS0, Lib.hid HB6.out.y, Lib.hid (HB6.out.p.turn (fun W h => ⟨h.1, ?_⟩)), Lib.hid (Step.decR HS1.out (show Step Mg.cTx.dec s1 (⟨x2, x3⟩ : Mg.Tx) s3 from Step.isoD (Step.seqD HS2.out HS3.out)) ?_)⟩
            · exact ⟨OL.nil _ _ _ _, OL.nil _ _ _ _, OL.nil _ _ _ _, OL.nil _ _ _ _, OL.nil _ _ _ _, ⟨[], OL.nil _ _ _ _, RowsO.nil _ _⟩, OL.nil _ _ _ _, OL.nil _ _ _ _, OL.nil _ _ _ _, OL.nil _ _ _ _⟩
            · rw [Mg.decRB_6 HK.out]; exact Step.mapD (Mg.f6 x1 ⟨x2, x3⟩) (Step.seqD (show Step Mg.cTx.dec s3 (⟨x4, x5⟩ : Mg.Tx) s5 from Step.isoD (Step.seqD HS4.out HS5.out)) HS6.out)
          have HRD := Lib.hid HB6.out.g.rd
          have HNE : Hid (w1.heap.size ≠ rb ∧ w1.heap.size < v6.heap.size) := Lib.hid ⟨fun e => HB6.out.ny.2 e.symm, HB6.out.lt⟩
          have ch := HB6.out.g.cell
          have HCE := Lib.hid (gend v6 rb s6 HRD.out)
          go_wp2_with fail
          refine HCE.out.mono ?_
          rintro v wE ⟨eE, rfl, heE, huE⟩
          have HLE := Lib.hid (HLQ.out.next (huE.mono (by simp)))
          have HYE : Hid (wE.heap[w1.heap.size]? = some (.cells (MV SL M) 43 (0, 0))) := Lib.hid ((huE.keep _ HNE.out.2 (by simp; exact HNE.out.1)).trans HY.out)
          have HEE := Lib.hid heE
          clear heE huE HCE ch HLQ HY
          by_cases hall : s6 = some []
          · have hz : ((eE : Int) != 0) = false := by rw [HEE.out, decide_eq_true hall]; rfl
            have hd : Mg.decR (L s) = some (M, []) := Step.all (by have := HST.out; rw [hall] at this; exact this)
            obtain ⟨henc, hgood⟩ := Mg.decR_only hd
            rw [List.append_nil] at henc
            have hlen : (Mg.enc M).length ≤ 1073741824 := by rw [← henc, L_size]; have := HSZ.out; omega
            have gm := ldMsg_run wE _ SL M HYE.out
            obtain ⟨bm, hbm⟩ : ∃ y, y = Mg.may M := ⟨_, rfl⟩
            have hcm := ref_may SL M wE HLE.out.now.2.arg hgood hlen
            rw [← hbm] at hcm
            have HCM := Lib.hid hcm
            have HBM := Lib.hid hbm
            have HD := Lib.hid hd
            clear hcm hbm hd henc hgood hlen hall
            go_wp2_with fail
            refine HCM.out.mono ?_
            rintro v wM ⟨rfl, hbM⟩
            have HMK : Hid (MsgO v1 wM SL M) := Lib.hid (HLE.out.now.2.upd (Upd.of_below [] hbM) (by simp))
            have HYM : Hid (wM.heap[w1.heap.size]? = some (.cells (MV SL M) 43 (0, 0))) := Lib.hid ((hbM.block _ (blk_lt HYE.out)).trans HYE.out)
            have HRM : Hid (wM.heap[w.heap.size]? = some (.cells Z28 43 (0, 0))) := Lib.hid ((hbM.block _ (blk_lt HLE.out.now.1.1)).trans HLE.out.now.1.1)
            have HBW : Hid (Below w.heap.size w wM) := Lib.hid (HLE.out.now.1.2.trans (hbM.mono HLE.out.now.1.2.size))
            clear hbM gm HCM
            cases bm with
            | true =>
              have gm := ldMsg_run wM _ SL M HYM.out
              obtain ⟨zz, rz, qz⟩ := st_part (P := Tryz.prog) wM 43 (.agg (MV SL M)) w.heap.size 0 (MV SL M) rfl 43 Z28 (MV SL M) HRM.out 28 28 rfl rfl sizeMsg (by decide) (MV_one _ _) (whole_eq _ _ 28 rfl rfl)
              change (stMsg _ _).run _ _ = _ at rz
              have HRR := Lib.hid qz.here
              have hul : Upd wM zz [w.heap.size] := ⟨qz.os, qz.tape, qz.output, Nat.le_of_eq qz.size.symm, fun k _ hf => qz.other k (by simpa using hf)⟩
              have hmo : MsgO v1 wM SL M := HMK.out
              have HAZ := Lib.hid (hmo.upd hul (fun b hb => by rw [List.mem_singleton.1 hb]; exact HWL.out)).arg
              have HBZ := Lib.hid (below_put HBW.out qz (Nat.le_refl _))
              have HRE : Hid (R = some M) := Lib.hid (by rw [HR.out]; exact Mg.decF_yes HD.out HBM.out.symm)
              clear qz hul hmo
              go_wp2_with fail
              exact bodyPost_ret (results_cell_tmp_row rfl _ _ w.heap.size _ _ _ _ rfl HRR.out Tryz.underlying43 rfl (by kernel_rfl)) rfl ⟨SL, by rw [HRE.out]; rfl, by rw [HRE.out]; exact HAZ.out, HBZ.out⟩
            | false =>
              have HRE : Hid (R = none) := Lib.hid (by rw [HR.out]; exact Mg.decF_no (fun m hm => by rw [HD.out] at hm; cases hm; exact HBM.out.symm))
              obtain ⟨zz, rz, qz⟩ := st_part (P := Tryz.prog) wM 43 (.agg #[.int .u8 0, .int .u64 0, .int .u64 0, .int .u64 0, .int .u64 0, .int .u64 0, .slice none 0 0, .int .u32 0, .slice none 0 0, .slice none 0 0, .slice none 0 0, .slice none 0 0, .bool false, .string ⟨#[]⟩, .bool false, .bool false, .int .u64 0, .int .u64 0, .slice none 0 0, .int .u64 0, .slice none 0 0, .bool false, .int .i64 0, .int .u32 0, .slice none 0 0, .slice none 0 0, .slice none 0 0, .int .u8 0]) w.heap.size 0 #[.int .u8 0, .int .u64 0, .int .u64 0, .int .u64 0, .int .u64 0, .int .u64 0, .slice none 0 0, .int .u32 0, .slice none 0 0, .slice none 0 0, .slice none 0 0, .slice none 0 0, .bool false, .string ⟨#[]⟩, .bool false, .bool false, .int .u64 0, .int .u64 0, .slice none 0 0, .int .u64 0, .slice none 0 0, .bool false, .int .i64 0, .int .u32 0, .slice none 0 0, .slice none 0 0, .slice none 0 0, .int .u8 0] rfl 43 Z28 (MV MS0 Mg.msg0) HRM.out 28 28 rfl rfl sizeMsg (by decide) (MV_one MS0 Mg.msg0) (whole_eq _ _ 28 rfl rfl)
              change (stMsg _ _).run _ _ = _ at rz
              have HRR := Lib.hid qz.here
              have HBZ := Lib.hid (below_put HBW.out qz (Nat.le_refl _))
              clear qz
              go_wp2_with fail
              exact bodyPost_ret (results_cell_tmp_row rfl _ _ w.heap.size _ _ _ _ rfl HRR.out Tryz.underlying43 rfl (by kernel_rfl)) rfl ⟨MS0, by rw [HRE.out]; rfl, by rw [HRE.out]; exact (show MsgA zz MS0 Mg.msg0 from (MsgO.nil w zz Mg.msg0 rfl).arg), HBZ.out⟩
          · have hz : ((eE : Int) != 0) = true := by rw [HEE.out, decide_eq_false hall]; rfl
            have HRE : Hid (R = none) := Lib.hid (by rw [HR.out]; exact HST.out.part hall)
            obtain ⟨zz, rz, qz⟩ := st_part (P := Tryz.prog) wE 43 (.agg #[.int .u8 0, .int .u64 0, .int .u64 0, .int .u64 0, .int .u64 0, .int .u64 0, .slice none 0 0, .int .u32 0, .slice none 0 0, .slice none 0 0, .slice none 0 0, .slice none 0 0, .bool false, .string ⟨#[]⟩, .bool false, .bool false, .int .u64 0, .int .u64 0, .slice none 0 0, .int .u64 0, .slice none 0 0, .bool false, .int .i64 0, .int .u32 0, .slice none 0 0, .slice none 0 0, .slice none 0 0, .int .u8 0]) w.heap.size 0 #[.int .u8 0, .int .u64 0, .int .u64 0, .int .u64 0, .int .u64 0, .int .u64 0, .slice none 0 0, .int .u32 0, .slice none 0 0, .slice none 0 0, .slice none 0 0, .slice none 0 0, .bool false, .string ⟨#[]⟩, .bool false, .bool false, .int .u64 0, .int .u64 0, .slice none 0 0, .int .u64 0, .slice none 0 0, .bool false, .int .i64 0, .int .u32 0, .slice none 0 0, .slice none 0 0, .slice none 0 0, .int .u8 0] rfl 43 Z28 (MV MS0 Mg.msg0) HLE.out.now.1.1 28 28 rfl rfl sizeMsg (by decide) (MV_one MS0 Mg.msg0) (whole_eq _ _ 28 rfl rfl)
            change (stMsg _ _).run _ _ = _ at rz
            have HRR := Lib.hid qz.here
            have HBZ := Lib.hid (below_put HLE.out.now.1.2 qz (Nat.le_refl _))
            clear qz hall
            go_wp2_with fail
            exact bodyPost_ret (results_cell_tmp_row rfl _ _ w.heap.size _ _ _ _ rfl HRR.out Tryz.underlying43 rfl (by kernel_rfl)) rfl ⟨MS0, by rw [HRE.out]; rfl, by rw [HRE.out]; exact (show MsgA zz MS0 Mg.msg0 from (MsgO.nil w zz Mg.msg0 rfl).arg), HBZ.out⟩
        · have HN6 := Lib.hid hk6
          have kk6 : ((x1 : Int) == 6) = false := beq_eq_false_iff_ne.2 (by omega)
          clear hk1 hk2 hk3 hk6
          go_upto_region 32 with (fail)
          obtain ⟨M, SL, HY, HLQ, HST⟩ : ∃ (M : Mg.Msg) (SL : MS), Hid (v3.heap[w1.heap.size]? = some (.cells (MV SL M) 43 (0, 0))) ∧ Hid (Lat v3 [rb, w1.heap.size] (fun W2 => Dres w W2 ∧ MsgO v1 W2 SL M)) ∧ Hid (Step Mg.decR (some (L s)) M s3) := by
            refine ⟨{ Mg.msg0 with kind := x1, tx := ⟨x2, x3⟩ }, MS0, Lib.hid HB3.out.y, Lib.hid (HB3.out.p.turn (fun W h => ⟨h.1, ?_⟩)), Lib.hid (Step.decR HS1.out (show Step Mg.cTx.dec s1 (⟨x2, x3⟩ : Mg.Tx) s3 from Step.isoD (Step.seqD HS2.out HS3.out)) ?_)⟩
            · exact ⟨OL.nil _ _ _ _, OL.nil _ _ _ _, OL.nil _ _ _ _, OL.nil _ _ _ _, OL.nil _ _ _ _, ⟨[], OL.nil _ _ _ _, RowsO.nil _ _⟩, OL.nil _ _ _ _, OL.nil _ _ _ _, OL.nil _ _ _ _, OL.nil _ _ _ _⟩
            · exact Mg.decRB_0 ⟨hn1.out, hn2.out, hn3.out, HN6.out⟩ _ _
          have HRD := Lib.hid HB3.out.g.rd
          have HNE : Hid (w1.heap.size ≠ rb ∧ w1.heap.size < v3.heap.size) := Lib.hid ⟨fun e => HB3.out.ny.2 e.symm, HB3.out.lt⟩
          have ch := HB3.out.g.cell
          have HCE := Lib.hid (gend v3 rb s3 HRD.out)
          go_wp2_with fail
          refine HCE.out.mono ?_
          rintro v wE ⟨eE, rfl, heE, huE⟩
          have HLE := Lib.hid (HLQ.out.next (huE.mono (by simp)))
          have HYE : Hid (wE.heap[w1.heap.size]? = some (.cells (MV SL M) 43 (0, 0))) := Lib.hid ((huE.keep _ HNE.out.2 (by simp; exact HNE.out.1)).trans HY.out)
          have HEE := Lib.hid heE
          clear heE huE HCE ch HLQ HY
          by_cases hall : s3 = some []
          · have hz : ((eE : Int) != 0) = false := by rw [HEE.out, decide_eq_true hall]; rfl
            have hd : Mg.decR (L s) = some (M, []) := Step.all (by have := HST.out; rw [hall] at this; exact this)
            obtain ⟨henc, hgood⟩ := Mg.decR_only hd
            rw [List.append_nil] at henc
            have hlen : (Mg.enc M).length ≤ 1073741824 := by rw [← henc, L_size]; have := HSZ.out; omega
            have gm := ldMsg_run wE _ SL M HYE.out
            obtain ⟨bm, hbm⟩ : ∃ y, y = Mg.may M := ⟨_, rfl⟩
            have hcm := ref_may SL M wE HLE.out.now.2.arg hgood hlen
            rw [← hbm] at hcm
            have HCM := Lib.hid hcm
            have HBM := Lib.hid hbm
            have HD := Lib.hid hd
            clear hcm hbm hd henc hgood hlen hall
            go_wp2_with fail
            refine HCM.out.mono ?_
            rintro v wM ⟨rfl, hbM⟩
            have HMK : Hid (MsgO v1 wM SL M) := Lib.hid (HLE.out.now.2.upd (Upd.of_below [] hbM) (by simp))
            have HYM : Hid (wM.heap[w1.heap.size]? = some (.cells (MV SL M) 43 (0, 0))) := Lib.hid ((hbM.block _ (blk_lt HYE.out)).trans HYE.out)
            have HRM : Hid (wM.heap[w.heap.size]? = some (.cells Z28 43 (0, 0))) := Lib.hid ((hbM.block _ (blk_lt HLE.out.now.1.1)).trans HLE.out.now.1.1)
            have HBW : Hid (Below w.heap.size w wM) := Lib.hid (HLE.out.now.1.2.trans (hbM.mono HLE.out.now.1.2.size))
            clear hbM gm HCM
            cases bm with
            | true =>
              have gm := ldMsg_run wM _ SL M HYM.out
              obtain ⟨zz, rz, qz⟩ := st_part (P := Tryz.prog) wM 43 (.agg (MV SL M)) w.heap.size 0 (MV SL M) rfl 43 Z28 (MV SL M) HRM.out 28 28 rfl rfl sizeMsg (by decide) (MV_one _ _) (whole_eq _ _ 28 rfl rfl)
              change (stMsg _ _).run _ _ = _ at rz
              have HRR := Lib.hid qz.here
              have hul : Upd wM zz [w.heap.size] := ⟨qz.os, qz.tape, qz.output, Nat.le_of_eq qz.size.symm, fun k _ hf => qz.other k (by simpa using hf)⟩
              have hmo : MsgO v1 wM SL M := HMK.out
              have HAZ := Lib.hid (hmo.upd hul (fun b hb => by rw [List.mem_singleton.1 hb]; exact HWL.out)).arg
              have HBZ := Lib.hid (below_put HBW.out qz (Nat.le_refl _))
              have HRE : Hid (R = some M) := Lib.hid (by rw [HR.out]; exact Mg.decF_yes HD.out HBM.out.symm)
              clear qz hul hmo
              go_wp2_with fail
              exact bodyPost_ret (results_cell_tmp_row rfl _ _ w.heap.size _ _ _ _ rfl HRR.out Tryz.underlying43 rfl (by kernel_rfl)) rfl ⟨SL, by rw [HRE.out]; rfl, by rw [HRE.out]; exact HAZ.out, HBZ.out⟩
            | false =>
              have HRE : Hid (R = none) := Lib.hid (by rw [HR.out]; exact Mg.decF_no (fun m hm => by rw [HD.out] at hm; cases hm; exact HBM.out.symm))
              obtain ⟨zz, rz, qz⟩ := st_part (P := Tryz.prog) wM 43 (.agg #[.int .u8 0, .int .u64 0, .int .u64 0, .int .u64 0, .int .u64 0, .int .u64 0, .slice none 0 0, .int .u32 0, .slice none 0 0, .slice none 0 0, .slice none 0 0, .slice none 0 0, .bool false, .string ⟨#[]⟩, .bool false, .bool false, .int .u64 0, .int .u64 0, .slice none 0 0, .int .u64 0, .slice none 0 0, .bool false, .int .i64 0, .int .u32 0, .slice none 0 0, .slice none 0 0, .slice none 0 0, .int .u8 0]) w.heap.size 0 #[.int .u8 0, .int .u64 0, .int .u64 0, .int .u64 0, .int .u64 0, .int .u64 0, .slice none 0 0, .int .u32 0, .slice none 0 0, .slice none 0 0, .slice none 0 0, .slice none 0 0, .bool false, .string ⟨#[]⟩, .bool false, .bool false, .int .u64 0, .int .u64 0, .slice none 0 0, .int .u64 0, .slice none 0 0, .bool false, .int .i64 0, .int .u32 0, .slice none 0 0, .slice none 0 0, .slice none 0 0, .int .u8 0] rfl 43 Z28 (MV MS0 Mg.msg0) HRM.out 28 28 rfl rfl sizeMsg (by decide) (MV_one MS0 Mg.msg0) (whole_eq _ _ 28 rfl rfl)
              change (stMsg _ _).run _ _ = _ at rz
              have HRR := Lib.hid qz.here
              have HBZ := Lib.hid (below_put HBW.out qz (Nat.le_refl _))
              clear qz
              go_wp2_with fail
              exact bodyPost_ret (results_cell_tmp_row rfl _ _ w.heap.size _ _ _ _ rfl HRR.out Tryz.underlying43 rfl (by kernel_rfl)) rfl ⟨MS0, by rw [HRE.out]; rfl, by rw [HRE.out]; exact (show MsgA zz MS0 Mg.msg0 from (MsgO.nil w zz Mg.msg0 rfl).arg), HBZ.out⟩
          · have hz : ((eE : Int) != 0) = true := by rw [HEE.out, decide_eq_false hall]; rfl
            have HRE : Hid (R = none) := Lib.hid (by rw [HR.out]; exact HST.out.part hall)
            obtain ⟨zz, rz, qz⟩ := st_part (P := Tryz.prog) wE 43 (.agg #[.int .u8 0, .int .u64 0, .int .u64 0, .int .u64 0, .int .u64 0, .int .u64 0, .slice none 0 0, .int .u32 0, .slice none 0 0, .slice none 0 0, .slice none 0 0, .slice none 0 0, .bool false, .string ⟨#[]⟩, .bool false, .bool false, .int .u64 0, .int .u64 0, .slice none 0 0, .int .u64 0, .slice none 0 0, .bool false, .int .i64 0, .int .u32 0, .slice none 0 0, .slice none 0 0, .slice none 0 0, .int .u8 0]) w.heap.size 0 #[.int .u8 0, .int .u64 0, .int .u64 0, .int .u64 0, .int .u64 0, .int .u64 0, .slice none 0 0, .int .u32 0, .slice none 0 0, .slice none 0 0, .slice none 0 0, .slice none 0 0, .bool false, .string ⟨#[]⟩, .bool false, .bool false, .int .u64 0, .int .u64 0, .slice none 0 0, .int .u64 0, .slice none 0 0, .bool false, .int .i64 0, .int .u32 0, .slice none 0 0, .slice none 0 0, .slice none 0 0, .int .u8 0] rfl 43 Z28 (MV MS0 Mg.msg0) HLE.out.now.1.1 28 28 rfl rfl sizeMsg (by decide) (MV_one MS0 Mg.msg0) (whole_eq _ _ 28 rfl rfl)
            change (stMsg _ _).run _ _ = _ at rz
            have HRR := Lib.hid qz.here
            have HBZ := Lib.hid (below_put HLE.out.now.1.2 qz (Nat.le_refl _))
            clear qz hall
            go_wp2_with fail
            exact bodyPost_ret (results_cell_tmp_row rfl _ _ w.heap.size _ _ _ _ rfl HRR.out Tryz.underlying43 rfl (by kernel_rfl)) rfl ⟨MS0, by rw [HRE.out]; rfl, by rw [HRE.out]; exact (show MsgA zz MS0 Mg.msg0 from (MsgO.nil w zz Mg.msg0 rfl).arg), HBZ.out⟩

end Go.Proofs.YtjgnomjjphkfbaaGreat
