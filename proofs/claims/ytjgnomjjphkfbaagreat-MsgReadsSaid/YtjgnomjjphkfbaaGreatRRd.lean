/-
  Joined out of the texts MsgRd MsgRdN MsgRdS MsgRdL0.
-/
import Derived.Test.YtjgnomjjphkfbaaGreatRPlain
import Derived.Test.YtjgnomjjphkfbaaGreatRCd
import Derived.Deep.DeepCutAuto
import Derived.Deep.RegionHeld3
import Derived.Test.YtjgnomjjphkfbaaGreatRBase
namespace Go.Proofs.YtjgnomjjphkfbaaGreat
open Go.RowKit

/-- What reading comes to: from st (none: a fault) by d. -/
def Step {α : Type} (d : List UInt8 → Option (α × List UInt8)) (st : Option (List UInt8)) (a : α) (st' : Option (List UInt8)) : Prop :=
  match st.bind d with
  | none => st' = none
  | some p => a = p.1 ∧ st' = some p.2
theorem Step.fault {α : Type} {d : List UInt8 → Option (α × List UInt8)} (a : α) : Step d none a none := rfl
theorem Step.off {α : Type} {d : List UInt8 → Option (α × List UInt8)} {a : α} {st' : Option (List UInt8)} (h : Step d none a st') : st' = none := h
theorem Step.ok {α : Type} {d : List UInt8 → Option (α × List UInt8)} {r r' : List UInt8} {a : α} (h : d r = some (a, r')) : Step d (some r) a (some r') := by
  unfold Step; simp [h]
theorem Step.bad {α : Type} {d : List UInt8 → Option (α × List UInt8)} {r : List UInt8} {a : α} (h : d r = none) : Step d (some r) a none := by
  unfold Step; simp [h]
theorem Step.got {α : Type} {d : List UInt8 → Option (α × List UInt8)} {st : Option (List UInt8)} {a : α} {r' : List UInt8} (h : Step d st a (some r')) : ∃ r, st = some r ∧ d r = some (a, r') := by
  unfold Step at h
  cases st with
  | none => cases h
  | some r =>
    refine ⟨r, rfl, ?_⟩
    simp only [Option.bind_some] at h
    cases hd : d r with
    | none => rw [hd] at h; cases h
    | some p => rw [hd] at h; obtain ⟨rfl, h2⟩ := h; cases h2; rfl
theorem Step.fails {α : Type} {d : List UInt8 → Option (α × List UInt8)} {r : List UInt8} {a : α} (h : Step d (some r) a none) : d r = none := by
  unfold Step at h
  simp only [Option.bind_some] at h
  cases hd : d r with
  | none => rfl
  | some p => rw [hd] at h; cases h.2
theorem Step.seqD {α β : Type} {c : Mg.Codec α} {e : Mg.Codec β} {st st1 st2 : Option (List UInt8)} {a : α} {b : β} (h1 : Step c.dec st a st1) (h2 : Step e.dec st1 b st2) : Step (Mg.seq c e).dec st (a, b) st2 := by
  cases st with
  | none => cases h1.off; exact h2
  | some r =>
    cases st1 with
    | none =>
      have := h1.fails
      have h2 := h2.off
      subst h2
      exact Step.bad (by simp [Mg.seq, this])
    | some r1 =>
      obtain ⟨r', e1, h3⟩ := h1.got
      cases e1
      cases st2 with
      | none => exact Step.bad (by simp [Mg.seq, h3, h2.fails])
      | some r2 =>
        obtain ⟨r', e1, h4⟩ := h2.got
        cases e1
        exact Step.ok (by simp [Mg.seq, h3, h4])
theorem Step.isoD {α β : Type} {c : Mg.Codec α} {f : α → β} {g : β → α} {st st1 : Option (List UInt8)} {a : α} (h1 : Step c.dec st a st1) : Step (Mg.iso c f g).dec st (f a) st1 := by
  cases st with
  | none => exact h1
  | some r =>
    cases st1 with
    | none => exact Step.bad (by simp [Mg.iso, h1.fails])
    | some r1 =>
      obtain ⟨r', e1, h3⟩ := h1.got
      cases e1
      exact Step.ok (by simp [Mg.iso, h3])
theorem Step.intD {most : Nat} {st st1 : Option (List UInt8)} {a : Nat} (h1 : Step (Mg.num most).dec st a st1) : Step (Mg.int most).dec st (a : Int) st1 := by
  cases st with
  | none => exact h1
  | some r =>
    cases st1 with
    | none => exact Step.bad (by simp [Mg.int, h1.fails])
    | some r1 =>
      obtain ⟨r', e1, h3⟩ := h1.got
      cases e1
      exact Step.ok (by simp [Mg.int, h3])

def RdSt (w : World) (rb : Nat) (st : Option (List UInt8)) : Prop :=
  ∃ (s : ByteArray) (e : Nat), RdIs w rb s e ∧ s.size ≤ 1073741824 ∧ ((st = some (L s) ∧ e = 0) ∨ (st = none ∧ ((e : Int) != 0) = true))
theorem RdSt.keep {w w' : World} {rb : Nat} {st : Option (List UInt8)} (h : RdSt w rb st) (hb : w'.heap[rb]? = w.heap[rb]?) : RdSt w' rb st := by
  obtain ⟨s, e, h1, h2⟩ := h
  exact ⟨s, e, h1.keep hb, h2⟩
theorem RdSt.lt {w : World} {rb : Nat} {st : Option (List UInt8)} (h : RdSt w rb st) : rb < w.heap.size := by
  obtain ⟨s, e, h1, h2⟩ := h
  exact blk_lt h1
theorem L_part (s : ByteArray) (n m : Nat) : L (s.extract n m) = ((L s).drop n).take (m - n) := by
  unfold L
  rw [ByteArray.data_extract, Array.toList_extract]
theorem L_from (s : ByteArray) (n : Nat) : L (s.extract n s.size) = (L s).drop n := by
  rw [L_part]
  apply List.take_of_length_le
  simp
theorem from_size (s : ByteArray) (n : Nat) : (s.extract n s.size).size ≤ s.size := by
  rw [← L_size, L_from, ← L_size]; simp
theorem ne0 {e : Nat} (h : e ≠ 0) : ((e : Int) != 0) = true := by simp; omega

theorem uintR (w : World) (rb : Nat) (st : Option (List UInt8)) (most : Nat) (h : RdSt w rb st) :
    Calls Tryz.prog 103 #[.pointer (some ⟨rb, 0, none⟩), .int .u64 most] w fun e w' => ∃ (x : Nat) (st' : Option (List UInt8)), e = .returned (.int .u64 x) ∧ x ≤ most ∧ Step (Mg.num most).dec st x st' ∧ RdSt w' rb st' ∧ Upd w w' [rb] := by
  obtain ⟨s, e, h1, hs, ⟨rfl, rfl⟩ | ⟨rfl, he⟩⟩ := h
  · refine (uint_read w rb s most hs h1).mono ?_
    rintro e w' ⟨rfl, h2, h3⟩
    obtain ⟨x, n, er, hr, hc⟩ := rd_cases s
    unfold uRes at h2 ⊢
    rw [hr] at h2 ⊢
    rcases hc with ⟨rfl, _, hn, _⟩ | ⟨rfl, rfl, he⟩
    · simp only [if_true] at h2 ⊢
      by_cases hm : most < x
      · rw [if_pos hm] at h2 ⊢
        refine ⟨0, none, rfl, Nat.zero_le _, Step.bad ?_, ⟨_, _, h2, hs, .inr ⟨rfl, rfl⟩⟩, h3⟩
        simp only [Mg.num, hr]
        rw [if_neg (by omega)]
      · rw [if_neg hm] at h2 ⊢
        refine ⟨x, _, rfl, by omega, Step.ok (r' := (L s).drop n) ?_, ⟨_, _, h2, ?_, .inl ⟨by rw [L_from], rfl⟩⟩, h3⟩
        · simp only [Mg.num, hr]
          rw [if_pos ⟨True.intro, Nat.le_of_not_lt hm⟩]
        · exact Nat.le_trans (from_size _ _) hs
    · have h0 : ¬ er = 0 := by omega
      simp only [h0, if_false] at h2 ⊢
      refine ⟨0, none, rfl, Nat.zero_le _, Step.bad ?_, ⟨_, _, h2, hs, .inr ⟨rfl, ne0 h0⟩⟩, h3⟩
      simp only [Mg.num, hr]
      rw [if_neg (by omega)]
  · refine (uint_fault w rb s e most h1 he).mono ?_
    rintro x w' ⟨rfl, hb⟩
    exact ⟨0, none, rfl, Nat.zero_le _, rfl, ⟨s, e, h1.keep (hb.block rb (blk_lt h1)), hs, .inr ⟨rfl, he⟩⟩, Upd.of_below _ hb⟩

theorem boolR (w : World) (rb : Nat) (st : Option (List UInt8)) (h : RdSt w rb st) :
    Calls Tryz.prog 140 #[.pointer (some ⟨rb, 0, none⟩)] w fun e w' => ∃ (x : Bool) (st' : Option (List UInt8)), e = .returned (.bool x) ∧ Step Mg.truth.dec st x st' ∧ RdSt w' rb st' ∧ Upd w w' [rb] := by
  obtain ⟨s, e, h1, hs, ⟨rfl, rfl⟩ | ⟨rfl, he⟩⟩ := h
  · refine (bool_read w rb s hs h1).mono ?_
    rintro e w' ⟨rfl, h2, h3⟩
    unfold bRes at h2 ⊢
    cases hl : L s with
    | nil =>
      rw [hl] at h2
      exact ⟨false, none, rfl, Step.bad rfl, ⟨_, _, h2, hs, .inr ⟨rfl, rfl⟩⟩, h3⟩
    | cons c r =>
      rw [hl] at h2
      by_cases hc : 1 < c.toNat
      · simp only [hc, if_true] at h2 ⊢
        exact ⟨false, none, rfl, Step.bad (by simp only [Mg.truth]; rw [if_neg (by omega)]), ⟨_, _, h2, hs, .inr ⟨rfl, rfl⟩⟩, h3⟩
      · simp only [hc, if_false] at h2 ⊢
        refine ⟨c.toNat == 1, some r, rfl, Step.ok ?_, ⟨_, _, h2, Nat.le_trans (from_size _ _) hs, .inl ⟨by rw [L_from, hl]; rfl, rfl⟩⟩, h3⟩
        simp only [Mg.truth]
        rw [if_pos (by omega)]
        have : (c.toNat == 1) = decide (c = 1) := by
          by_cases h1 : c = 1
          · subst h1; rfl
          · have h2 : ¬ c.toNat = 1 := fun h => h1 (UInt8.toNat_inj.1 h)
            simp [h1, h2]
        rw [this]
  · refine (bool_fault w rb s e h1 he).mono ?_
    rintro x w' ⟨rfl, hb⟩
    exact ⟨false, none, rfl, rfl, ⟨s, e, h1.keep (hb.block rb (blk_lt h1)), hs, .inr ⟨rfl, he⟩⟩, Upd.of_below _ hb⟩

/-- A size that is read. -/
def Mg.cnt (most : Nat) (s : List UInt8) : Option (Nat × List UInt8) := match (Mg.num most).dec s with
  | none => none
  | some (n, r) => if n ≤ r.length then some (n, r) else none
theorem cnt_of (s : ByteArray) (most : Nat) : Mg.cnt most (L s) = if (sRes s most).2.2 = 0 then some ((sRes s most).1, (L s).drop (sRes s most).2.1) else none := by
  obtain ⟨x, n, er, hr, hc⟩ := rd_cases s
  unfold sRes Mg.cnt
  simp only [Mg.num]
  rw [hr]
  rcases hc with ⟨rfl, _, hn, _⟩ | ⟨rfl, rfl, he⟩
  · simp only [if_true, true_and]
    by_cases hm : most < x
    · rw [if_pos (by omega : (most : Int) < x), if_neg (by omega)]; rfl
    · rw [if_neg (by omega : ¬ (most : Int) < x), if_pos (by omega)]
      simp only
      rw [List.length_drop, L_size]
      by_cases hx : s.size - n < x
      · rw [if_pos hx, if_neg (by omega)]; rfl
      · rw [if_neg hx, if_pos (by omega)]; rfl
  · have h0 : ¬ er = 0 := by omega
    simp only [h0, if_false, false_and]
theorem countR (w : World) (rb : Nat) (st : Option (List UInt8)) (most : Nat) (hm : most ≤ 1073741824) (h : RdSt w rb st) :
    Calls Tryz.prog 137 #[.pointer (some ⟨rb, 0, none⟩), .int .i64 most] w fun e w' => ∃ (x : Nat) (st' : Option (List UInt8)), e = .returned (.int .i64 x) ∧ x ≤ most ∧ (st' = none → x = 0) ∧ Step (Mg.cnt most) st x st' ∧ RdSt w' rb st' ∧ Upd w w' [rb] := by
  obtain ⟨s, e, h1, hs, ⟨rfl, rfl⟩ | ⟨rfl, he⟩⟩ := h
  · refine (count_read w rb s most hs (by omega) (by omega) h1).mono ?_
    rintro e w' ⟨rfl, h2, h3⟩
    have hcn := cnt_of s most
    obtain ⟨x, n, er, hr, hc⟩ := sRes_cases s most
    unfold cRes at h2 ⊢
    rw [hr] at h2 hcn ⊢
    rcases hc with ⟨rfl, hn⟩ | ⟨rfl, rfl, he⟩
    · simp only [if_true] at h2 hcn ⊢
      refine ⟨x, _, rfl, ?_, (fun h => by cases h), Step.ok hcn, ⟨_, _, h2, Nat.le_trans (from_size _ _) hs, .inl ⟨by rw [L_from], rfl⟩⟩, h3⟩
      unfold Mg.cnt at hcn
      simp only [Mg.num] at hcn
      split at hcn
      · cases hcn
      · rename_i n' r' h4
        split at hcn
        · simp only [Option.some.injEq, Prod.mk.injEq] at hcn
          obtain ⟨rfl, _⟩ := hcn
          split at h4
          · rename_i h5
            simp only [Option.some.injEq, Prod.mk.injEq] at h4
            rw [← h4.1]; exact h5.2
          · cases h4
        · cases hcn
    · have h0 : ¬ er = 0 := by omega
      simp only [h0, if_false] at h2 hcn ⊢
      exact ⟨0, none, rfl, Nat.zero_le _, fun _ => rfl, Step.bad hcn, ⟨_, _, h2, hs, .inr ⟨rfl, ne0 h0⟩⟩, h3⟩
  · refine (count_fault w rb s e most h1 he).mono ?_
    rintro x w' ⟨rfl, hb⟩
    exact ⟨0, none, rfl, Nat.zero_le _, fun _ => rfl, rfl, ⟨s, e, h1.keep (hb.block rb (blk_lt h1)), hs, .inr ⟨rfl, he⟩⟩, Upd.of_below _ hb⟩
theorem textR0 (w : World) (rb : Nat) (st : Option (List UInt8)) (most : Nat) (hm : most ≤ 1073741824) (h : RdSt w rb st) :
    Calls Tryz.prog 148 #[.pointer (some ⟨rb, 0, none⟩), .int .i64 most] w fun e w' => ∃ (x : ByteArray) (st' : Option (List UInt8)), e = .returned (.string x) ∧ x.size ≤ most ∧ Step (Mg.text most).dec st x st' ∧ RdSt w' rb st' ∧ Upd w w' [rb] := by
  obtain ⟨s, e, h1, hs, ⟨rfl, rfl⟩ | ⟨rfl, he⟩⟩ := h
  · refine (text_read w rb s most hs (by omega) (by omega) h1).mono ?_
    rintro e w' ⟨rfl, h2, h3⟩
    have hcn := cnt_of s most
    obtain ⟨x, n, er, hr, hc⟩ := sRes_cases s most
    unfold tRes at h2 ⊢
    rw [hr] at h2 hcn ⊢
    rcases hc with ⟨rfl, hn⟩ | ⟨rfl, rfl, he⟩
    · simp only [if_true] at h2 hcn ⊢
      unfold Mg.cnt at hcn
      cases hd : (Mg.num most).dec (L s) with
      | none => rw [hd] at hcn; cases hcn
      | some p =>
        obtain ⟨x', r'⟩ := p
        rw [hd] at hcn
        simp only at hcn
        split at hcn
        · rename_i hle
          cases hcn
          have hxm : x ≤ most := by
            have := (Mg.num_ok (by omega : most < 18446744073709551616)).only _ _ _ hd
            simpa [Mg.num] using this.2
          have hex : s.extract n (n + x) = ⟨(((L s).drop n).take x).toArray⟩ := by
            apply Mg.L_inj
            rw [L_part]
            show _ = ((L s).drop n).take x
            congr 1
            omega
          refine ⟨_, _, rfl, ?_, Step.ok (r' := (L s).drop (n + x)) ?_, ⟨_, _, h2, Nat.le_trans (from_size _ _) hs, .inl ⟨by rw [L_from], rfl⟩⟩, h3⟩
          · rw [← L_size, L_part, List.length_take]; omega
          · simp only [Mg.text, hd]
            rw [if_pos hle, hex, List.drop_drop]
        · cases hcn
    · have h0 : ¬ er = 0 := by omega
      simp only [h0, if_false] at h2 hcn ⊢
      refine ⟨_, none, rfl, Nat.zero_le _, Step.bad ?_, ⟨_, _, h2, hs, .inr ⟨rfl, ne0 h0⟩⟩, h3⟩
      unfold Mg.cnt at hcn
      simp only [Mg.text]
      cases hd : (Mg.num most).dec (L s) with
      | none => rfl
      | some p =>
        rw [hd] at hcn
        simp only at hcn ⊢
        split at hcn
        · cases hcn
        · rename_i h5; rw [if_neg h5]
  · refine (text_fault w rb s e most h1 he).mono ?_
    rintro x w' ⟨rfl, hb⟩
    exact ⟨_, none, rfl, Nat.zero_le _, rfl, ⟨s, e, h1.keep (hb.block rb (blk_lt h1)), hs, .inr ⟨rfl, he⟩⟩, Upd.of_below _ hb⟩
theorem errR (w : World) (rb : Nat) (st : Option (List UInt8)) (h : RdSt w rb st) :
    Calls Tryz.prog 101 #[.pointer (some ⟨rb, 0, none⟩)] w fun x w' => ∃ e : Nat, x = .returned (.int .i64 e) ∧ ((e : Int) != 0) = st.isNone ∧ w' = w := by
  obtain ⟨s, e, h1, hs, ⟨rfl, rfl⟩ | ⟨rfl, he⟩⟩ := h
  · refine (err_any w rb s 0 h1).mono ?_
    rintro x w' ⟨rfl, rfl⟩
    exact ⟨0, rfl, rfl, rfl⟩
  · refine (err_any w rb s e h1).mono ?_
    rintro x w' ⟨rfl, rfl⟩
    exact ⟨e, rfl, he, rfl⟩

/-- Cells, put one behind the other from place off on. -/
def putV : List Value → Nat → List Value → List Value
  | cs, _, [] => cs
  | cs, off, v :: vs => putV (cs.set off v) (off + 1) vs
theorem putV_length : ∀ (vs cs : List Value) (off : Nat), (putV cs off vs).length = cs.length
  | [], _, _ => rfl
  | v :: vs, cs, off => by rw [putV, putV_length vs]; simp
/-- The coder at block k with the reader rb; the block g that is filled. -/
structure RcAt (k rb m g : Nat) (st : Option (List UInt8)) (bad : Bool) (cs : List Value) (t : TypeId) (w : World) : Prop where
  cd : w.heap[k]? = some (.cells #[.pointer (some ⟨rb, 0, none⟩), .pointer none, .slice none 0 0, .bool bad, .pointer (some ⟨m, 0, none⟩)] 118 (0, 0))
  rd : RdSt w rb st
  blk : w.heap[g]? = some (.cells cs.toArray t (0, 0))
  gk : g ≠ k
  gr : g ≠ rb
  kr : k ≠ rb
section
variable {k rb m g : Nat} {st : Option (List UInt8)} {bad : Bool} {cs : List Value} {t : TypeId} {w w' : World}
theorem RcAt.cells (h : RcAt k rb m g st bad cs t w) : w.cell? ⟨k, 0, none⟩ = some (.pointer (some ⟨rb, 0, none⟩)) ∧ w.cell? ⟨k, 3, none⟩ = some (.bool bad) ∧ w.cell? ⟨k, 4, none⟩ = some (.pointer (some ⟨m, 0, none⟩)) ∧ w.frozen? ⟨k, 3, none⟩ = false := by
  refine ⟨?_, ?_, ?_, frozen_of_row w k 3 _ _ h.cd⟩ <;> (rw [cell_of_row _ _ _ _ _ _ h.cd]; rfl)
theorem RcAt.cell (h : RcAt k rb m g st bad cs t w) (off : Nat) (v : Value) (hv : cs[off]? = some v) : w.cell? ⟨g, off, none⟩ = some v := by
  rw [cell_of_row _ _ _ _ _ _ h.blk]; simpa using hv
theorem RcAt.thaw (h : RcAt k rb m g st bad cs t w) (off : Nat) : w.frozen? ⟨g, off, none⟩ = false := frozen_of_row w g off _ _ h.blk
theorem RcAt.keep (h : RcAt k rb m g st bad cs t w) (hb : Below w.heap.size w w') : RcAt k rb m g st bad cs t w' :=
  ⟨(hb.block k (blk_lt h.cd)).trans h.cd, h.rd.keep (hb.block rb h.rd.lt), (hb.block g (blk_lt h.blk)).trans h.blk, h.gk, h.gr, h.kr⟩
/-- The reader has gone on. -/
theorem RcAt.read (h : RcAt k rb m g st bad cs t w) {st' : Option (List UInt8)} (hr : RdSt w' rb st') (hu : Upd w w' [rb]) : RcAt k rb m g st' bad cs t w' :=
  ⟨(hu.keep k (blk_lt h.cd) (by simpa using h.kr)).trans h.cd, hr, (hu.keep g (blk_lt h.blk) (by simpa using h.gr)).trans h.blk, h.gk, h.gr, h.kr⟩
/-- A cell of the block is filled. -/
theorem RcAt.set (h : RcAt k rb m g st bad cs t w) (off : Nat) (v : Value) : RcAt k rb m g st bad (cs.set off v) t (w.setCell ⟨g, off, none⟩ v) :=
  ⟨(heap_setCell_other _ _ _ _ (by have := h.gk; exact fun e => this e.symm)).trans h.cd, h.rd.keep (heap_setCell_other _ _ _ _ (by have := h.gr; exact fun e => this e.symm)), by rw [heap_set _ h.blk]; simp, h.gk, h.gr, h.kr⟩
end

end Go.Proofs.YtjgnomjjphkfbaaGreat

namespace Go.Proofs.YtjgnomjjphkfbaaGreat
open Go.RowKit

section
variable {k rb m g : Nat} {st : Option (List UInt8)} {bad : Bool} {cs : List Value} {t : TypeId} {w w' : World}
/-- What a call that fills cells leaves. -/
theorem RcAt.upd (_ : RcAt k rb m g st bad cs t w) (hu : Upd w w' [rb]) (off : Nat) (v : Value) : Upd w (w'.setCell ⟨g, off, none⟩ v) [rb, g] :=
  (hu.mono (by simp)).setCell (.inl (by simp)) v
theorem Upd.two {w w1 w2 : World} {F : List Nat} (h : Upd w w1 F) (k : Upd w1 w2 F) : Upd w w2 F := h.trans k (fun _ hx => .inl hx)
end

set_option maxRecDepth 20000 in
set_option maxHeartbeats 2000000 in
theorem numR_u64 (k rb m g off : Nat) (st : Option (List UInt8)) (bad : Bool) (cs : List Value) (t : TypeId) (most : Nat) (w : World) (h : RcAt k rb m g st bad cs t w) (hoff : off < cs.length) (hm : most < 18446744073709551616) :
    Calls Tryz.prog 105 #[.pointer (some ⟨k, 0, none⟩), .pointer (some ⟨g, off, none⟩), .int .u64 most] w fun e w' => e = .returned (.tuple #[]) ∧ ∃ (x : Nat) (st' : Option (List UInt8)), Step (Mg.num most).dec st x st' ∧ x ≤ most ∧ RcAt k rb m g st' bad (cs.set off (.int .u64 x)) t w' ∧ Upd w w' [rb, g] := by
  obtain ⟨d0, d3, d4, dz⟩ := h.cells
  have HH := Lib.hid h
  have HM := Lib.hid hm
  have HU := Lib.hid (uintR w rb st most h.rd)
  obtain ⟨v0, hv0⟩ : ∃ v0, cs[off]? = some v0 := ⟨_, List.getElem?_eq_getElem hoff⟩
  have HV := Lib.hid hv0
  clear h hm hoff hv0
  go_enter Tryz.func105, Tryz.ntmps105
  go_wp2_with fail
  refine HU.out.mono ?_
  rintro e w1 ⟨x, st', rfl, hx, hst, hrd, hu⟩
  have h1 := HH.out.read hrd hu
  have c1 := h1.cell off v0 HV.out
  have f1 := h1.thaw off
  have HR := Lib.hid (h1.set off (.int .u64 x))
  have HF := Lib.hid (HH.out.upd hu off (.int .u64 x))
  have HS := Lib.hid hst
  have HX := Lib.hid hx
  have hxm := HM.out
  clear hst hrd hu h1 hx hxm d0 d3 d4 dz
  go_wp2_with fail
  exact bodyPost_ret (v := .tuple #[]) (by simp [results, Tryz.results105, go_sem]) rfl ⟨rfl, x, st', HS.out, HX.out, HR.out, HF.out⟩

set_option maxRecDepth 20000 in
set_option maxHeartbeats 2000000 in
theorem numR_u32 (k rb m g off : Nat) (st : Option (List UInt8)) (bad : Bool) (cs : List Value) (t : TypeId) (most : Nat) (w : World) (h : RcAt k rb m g st bad cs t w) (hoff : off < cs.length) (hm : most < 4294967296) :
    Calls Tryz.prog 108 #[.pointer (some ⟨k, 0, none⟩), .pointer (some ⟨g, off, none⟩), .int .u64 most] w fun e w' => e = .returned (.tuple #[]) ∧ ∃ (x : Nat) (st' : Option (List UInt8)), Step (Mg.num most).dec st x st' ∧ x ≤ most ∧ RcAt k rb m g st' bad (cs.set off (.int .u32 x)) t w' ∧ Upd w w' [rb, g] := by
  obtain ⟨d0, d3, d4, dz⟩ := h.cells
  have HH := Lib.hid h
  have HM := Lib.hid hm
  have HU := Lib.hid (uintR w rb st most h.rd)
  obtain ⟨v0, hv0⟩ : ∃ v0, cs[off]? = some v0 := ⟨_, List.getElem?_eq_getElem hoff⟩
  have HV := Lib.hid hv0
  clear h hm hoff hv0
  go_enter Tryz.func108, Tryz.ntmps108
  go_wp2_with fail
  refine HU.out.mono ?_
  rintro e w1 ⟨x, st', rfl, hx, hst, hrd, hu⟩
  have h1 := HH.out.read hrd hu
  have c1 := h1.cell off v0 HV.out
  have f1 := h1.thaw off
  have HR := Lib.hid (h1.set off (.int .u32 x))
  have HF := Lib.hid (HH.out.upd hu off (.int .u32 x))
  have HS := Lib.hid hst
  have HX := Lib.hid hx
  have hxm := HM.out
  have hcv : IntKind.u32.wrap (x : Int) = x := by rw [IntKind.wrap_u32]; omega
  clear hst hrd hu h1 hx hxm d0 d3 d4 dz
  go_wp2_with fail
  exact bodyPost_ret (v := .tuple #[]) (by simp [results, Tryz.results108, go_sem]) rfl ⟨rfl, x, st', HS.out, HX.out, HR.out, HF.out⟩

set_option maxRecDepth 20000 in
set_option maxHeartbeats 2000000 in
theorem numR_u8 (k rb m g off : Nat) (st : Option (List UInt8)) (bad : Bool) (cs : List Value) (t : TypeId) (most : Nat) (w : World) (h : RcAt k rb m g st bad cs t w) (hoff : off < cs.length) (hm : most < 256) :
    Calls Tryz.prog 82 #[.pointer (some ⟨k, 0, none⟩), .pointer (some ⟨g, off, none⟩), .int .u64 most] w fun e w' => e = .returned (.tuple #[]) ∧ ∃ (x : Nat) (st' : Option (List UInt8)), Step (Mg.num most).dec st x st' ∧ x ≤ most ∧ RcAt k rb m g st' bad (cs.set off (.int .u8 x)) t w' ∧ Upd w w' [rb, g] := by
  obtain ⟨d0, d3, d4, dz⟩ := h.cells
  have HH := Lib.hid h
  have HM := Lib.hid hm
  have HU := Lib.hid (uintR w rb st most h.rd)
  obtain ⟨v0, hv0⟩ : ∃ v0, cs[off]? = some v0 := ⟨_, List.getElem?_eq_getElem hoff⟩
  have HV := Lib.hid hv0
  clear h hm hoff hv0
  go_enter Tryz.func82, Tryz.ntmps82
  go_wp2_with fail
  refine HU.out.mono ?_
  rintro e w1 ⟨x, st', rfl, hx, hst, hrd, hu⟩
  have h1 := HH.out.read hrd hu
  have c1 := h1.cell off v0 HV.out
  have f1 := h1.thaw off
  have HR := Lib.hid (h1.set off (.int .u8 x))
  have HF := Lib.hid (HH.out.upd hu off (.int .u8 x))
  have HS := Lib.hid hst
  have HX := Lib.hid hx
  have hxm := HM.out
  have hcv : IntKind.u8.wrap (x : Int) = x := by rw [IntKind.wrap_u8]; omega
  clear hst hrd hu h1 hx hxm d0 d3 d4 dz
  go_wp2_with fail
  exact bodyPost_ret (v := .tuple #[]) (by simp [results, Tryz.results82, go_sem]) rfl ⟨rfl, x, st', HS.out, HX.out, HR.out, HF.out⟩

set_option maxRecDepth 20000 in
set_option maxHeartbeats 2000000 in
theorem numR_int (k rb m g off : Nat) (st : Option (List UInt8)) (bad : Bool) (cs : List Value) (t : TypeId) (most : Nat) (w : World) (h : RcAt k rb m g st bad cs t w) (hoff : off < cs.length) (hm : most < 9223372036854775808) :
    Calls Tryz.prog 139 #[.pointer (some ⟨k, 0, none⟩), .pointer (some ⟨g, off, none⟩), .int .u64 most] w fun e w' => e = .returned (.tuple #[]) ∧ ∃ (x : Nat) (st' : Option (List UInt8)), Step (Mg.num most).dec st x st' ∧ x ≤ most ∧ RcAt k rb m g st' bad (cs.set off (.int .i64 x)) t w' ∧ Upd w w' [rb, g] := by
  obtain ⟨d0, d3, d4, dz⟩ := h.cells
  have HH := Lib.hid h
  have HM := Lib.hid hm
  have HU := Lib.hid (uintR w rb st most h.rd)
  obtain ⟨v0, hv0⟩ : ∃ v0, cs[off]? = some v0 := ⟨_, List.getElem?_eq_getElem hoff⟩
  have HV := Lib.hid hv0
  clear h hm hoff hv0
  go_enter Tryz.func139, Tryz.ntmps139
  go_wp2_with fail
  refine HU.out.mono ?_
  rintro e w1 ⟨x, st', rfl, hx, hst, hrd, hu⟩
  have h1 := HH.out.read hrd hu
  have c1 := h1.cell off v0 HV.out
  have f1 := h1.thaw off
  have HR := Lib.hid (h1.set off (.int .i64 x))
  have HF := Lib.hid (HH.out.upd hu off (.int .i64 x))
  have HS := Lib.hid hst
  have HX := Lib.hid hx
  have hxm := HM.out
  have hcv : IntKind.i64.wrap (x : Int) = x := by rw [IntKind.wrap_i64]; omega
  clear hst hrd hu h1 hx hxm d0 d3 d4 dz
  go_wp2_with fail
  exact bodyPost_ret (v := .tuple #[]) (by simp [results, Tryz.results139, go_sem]) rfl ⟨rfl, x, st', HS.out, HX.out, HR.out, HF.out⟩

set_option maxRecDepth 20000 in
set_option maxHeartbeats 2000000 in
theorem numR_errno (k rb m g off : Nat) (st : Option (List UInt8)) (bad : Bool) (cs : List Value) (t : TypeId) (most : Nat) (w : World) (h : RcAt k rb m g st bad cs t w) (hoff : off < cs.length) (hm : most < 9223372036854775808) :
    Calls Tryz.prog 121 #[.pointer (some ⟨k, 0, none⟩), .pointer (some ⟨g, off, none⟩), .int .u64 most] w fun e w' => e = .returned (.tuple #[]) ∧ ∃ (x : Nat) (st' : Option (List UInt8)), Step (Mg.num most).dec st x st' ∧ x ≤ most ∧ RcAt k rb m g st' bad (cs.set off (.int .i64 x)) t w' ∧ Upd w w' [rb, g] := by
  obtain ⟨d0, d3, d4, dz⟩ := h.cells
  have HH := Lib.hid h
  have HM := Lib.hid hm
  have HU := Lib.hid (uintR w rb st most h.rd)
  obtain ⟨v0, hv0⟩ : ∃ v0, cs[off]? = some v0 := ⟨_, List.getElem?_eq_getElem hoff⟩
  have HV := Lib.hid hv0
  clear h hm hoff hv0
  go_enter Tryz.func121, Tryz.ntmps121
  go_wp2_with fail
  refine HU.out.mono ?_
  rintro e w1 ⟨x, st', rfl, hx, hst, hrd, hu⟩
  have h1 := HH.out.read hrd hu
  have c1 := h1.cell off v0 HV.out
  have f1 := h1.thaw off
  have HR := Lib.hid (h1.set off (.int .i64 x))
  have HF := Lib.hid (HH.out.upd hu off (.int .i64 x))
  have HS := Lib.hid hst
  have HX := Lib.hid hx
  have hxm := HM.out
  have hcv : IntKind.i64.wrap (x : Int) = x := by rw [IntKind.wrap_i64]; omega
  clear hst hrd hu h1 hx hxm d0 d3 d4 dz
  go_wp2_with fail
  exact bodyPost_ret (v := .tuple #[]) (by simp [results, Tryz.results121, go_sem]) rfl ⟨rfl, x, st', HS.out, HX.out, HR.out, HF.out⟩

set_option maxRecDepth 20000 in
set_option maxHeartbeats 2000000 in
theorem textR (k rb m g off : Nat) (st : Option (List UInt8)) (bad : Bool) (cs : List Value) (t : TypeId) (most : Nat) (w : World) (h : RcAt k rb m g st bad cs t w) (hoff : off < cs.length) (hm : most ≤ 1073741824) :
    Calls Tryz.prog 138 #[.pointer (some ⟨k, 0, none⟩), .pointer (some ⟨g, off, none⟩), .int .i64 most] w fun e w' => e = .returned (.tuple #[]) ∧ ∃ (x : ByteArray) (st' : Option (List UInt8)), Step (Mg.text most).dec st x st' ∧ x.size ≤ most ∧ RcAt k rb m g st' bad (cs.set off (.string x)) t w' ∧ Upd w w' [rb, g] := by
  obtain ⟨d0, d3, d4, dz⟩ := h.cells
  have HH := Lib.hid h
  have HU := Lib.hid (textR0 w rb st most hm h.rd)
  obtain ⟨v0, hv0⟩ : ∃ v0, cs[off]? = some v0 := ⟨_, List.getElem?_eq_getElem hoff⟩
  have HV := Lib.hid hv0
  clear h hm hoff hv0
  go_enter Tryz.func138, Tryz.ntmps138
  go_wp2_with fail
  refine HU.out.mono ?_
  rintro e w1 ⟨x, st', rfl, hx, hst, hrd, hu⟩
  have h1 := HH.out.read hrd hu
  have c1 := h1.cell off v0 HV.out
  have f1 := h1.thaw off
  have HR := Lib.hid (h1.set off (.string x))
  have HF := Lib.hid (HH.out.upd hu off (.string x))
  have HS := Lib.hid hst
  have HX := Lib.hid hx
  clear hst hrd hu h1 hx d0 d3 d4 dz
  go_wp2_with fail
  exact bodyPost_ret (v := .tuple #[]) (by simp [results, Tryz.results138, go_sem]) rfl ⟨rfl, x, st', HS.out, HX.out, HR.out, HF.out⟩

set_option maxRecDepth 20000 in
set_option maxHeartbeats 2000000 in
theorem truthR (k rb m g off : Nat) (st : Option (List UInt8)) (bad : Bool) (cs : List Value) (t : TypeId) (w : World) (h : RcAt k rb m g st bad cs t w) (hoff : off < cs.length) :
    Calls Tryz.prog 115 #[.pointer (some ⟨k, 0, none⟩), .pointer (some ⟨g, off, none⟩)] w fun e w' => e = .returned (.tuple #[]) ∧ ∃ (x : Bool) (st' : Option (List UInt8)), Step Mg.truth.dec st x st' ∧ RcAt k rb m g st' bad (cs.set off (.bool x)) t w' ∧ Upd w w' [rb, g] := by
  obtain ⟨d0, d3, d4, dz⟩ := h.cells
  have HH := Lib.hid h
  have HU := Lib.hid (boolR w rb st h.rd)
  obtain ⟨v0, hv0⟩ : ∃ v0, cs[off]? = some v0 := ⟨_, List.getElem?_eq_getElem hoff⟩
  have HV := Lib.hid hv0
  clear h hoff hv0
  go_enter Tryz.func115, Tryz.ntmps115
  go_wp2_with fail
  refine HU.out.mono ?_
  rintro e w1 ⟨x, st', rfl, hst, hrd, hu⟩
  have h1 := HH.out.read hrd hu
  have c1 := h1.cell off v0 HV.out
  have f1 := h1.thaw off
  have HR := Lib.hid (h1.set off (.bool x))
  have HF := Lib.hid (HH.out.upd hu off (.bool x))
  have HS := Lib.hid hst
  clear hst hrd hu h1 d0 d3 d4 dz
  go_wp2_with fail
  exact bodyPost_ret (v := .tuple #[]) (by simp [results, Tryz.results115, go_sem]) rfl ⟨rfl, x, st', HS.out, HR.out, HF.out⟩

end Go.Proofs.YtjgnomjjphkfbaaGreat

namespace Go.Proofs.YtjgnomjjphkfbaaGreat
open Go.RowKit

set_option maxRecDepth 20000 in
set_option maxHeartbeats 2000000 in
theorem txidR (k rb m g off : Nat) (st : Option (List UInt8)) (bad : Bool) (cs : List Value) (t : TypeId) (w : World) (h : RcAt k rb m g st bad cs t w) (hoff : off + 1 < cs.length) :
    Calls Tryz.prog 92 #[.pointer (some ⟨k, 0, none⟩), .pointer (some ⟨g, off, none⟩)] w fun e w' => e = .returned (.tuple #[]) ∧ ∃ (x : Mg.Tx) (st' : Option (List UInt8)), Step Mg.cTx.dec st x st' ∧ x.Good ∧ RcAt k rb m g st' bad (putV cs off x.cells) t w' ∧ Upd w w' [rb, g] := by
  have HO := Lib.hid hoff
  have H1 := Lib.hid (numR_u64 k rb m g off st bad _ _ 4611686018427387904 w h (by have := HO.out; first | omega | (simp only [List.length_set, putV_length]; omega)) (by decide))
  clear h hoff
  go_enter Tryz.func92, Tryz.ntmps92
  go_wp2_with fail
  refine H1.out.mono ?_
  rintro e w1 ⟨rfl, x1, s1, hs1, hx1, hr1, hu1⟩
  have HU1 := Lib.hid hu1
  have HS1 := Lib.hid hs1
  have HX1 := Lib.hid hx1
  clear hx1
  clear hu1 hs1
  have H2 := Lib.hid (numR_u64 k rb m g (off + 1) s1 bad _ _ 4611686018427387904 w1 hr1 (by have := HO.out; first | omega | (simp only [List.length_set]; omega)) (by decide))
  clear hr1
  go_wp2_with fail
  refine H2.out.mono ?_
  rintro e w2 ⟨rfl, x2, s2, hs2, hx2, hr2, hu2⟩
  have HU2 := Lib.hid (HU1.out.two hu2)
  have HS2 := Lib.hid hs2
  have HX2 := Lib.hid hx2
  clear hx2
  clear hu2 hs2
  have HR := Lib.hid hr2
  clear hr2
  go_wp2_with fail
  refine bodyPost_end (v := .tuple #[]) (by simp [results, Tryz.results92, go_sem]) rfl ⟨rfl, ⟨x1, x2⟩, s2, Step.isoD (Step.seqD HS1.out (HS2.out)), ?_, HR.out, HU2.out⟩
  have y1 := HX1.out
  have y2 := HX2.out
  exact ⟨by unfold ok64; dsimp only; omega, by unfold ok64; dsimp only; omega⟩

set_option maxRecDepth 20000 in
set_option maxHeartbeats 2000000 in
theorem spanR (k rb m g off : Nat) (st : Option (List UInt8)) (bad : Bool) (cs : List Value) (t : TypeId) (w : World) (h : RcAt k rb m g st bad cs t w) (hoff : off + 1 < cs.length) :
    Calls Tryz.prog 117 #[.pointer (some ⟨k, 0, none⟩), .pointer (some ⟨g, off, none⟩)] w fun e w' => e = .returned (.tuple #[]) ∧ ∃ (x : Mg.Rng) (st' : Option (List UInt8)), Step Mg.cRng.dec st x st' ∧ x.Good ∧ RcAt k rb m g st' bad (putV cs off x.cells) t w' ∧ Upd w w' [rb, g] := by
  have HO := Lib.hid hoff
  have H1 := Lib.hid (numR_u64 k rb m g off st bad _ _ 18446744073709551615 w h (by have := HO.out; first | omega | (simp only [List.length_set, putV_length]; omega)) (by decide))
  clear h hoff
  go_enter Tryz.func117, Tryz.ntmps117
  go_wp2_with fail
  refine H1.out.mono ?_
  rintro e w1 ⟨rfl, x1, s1, hs1, hx1, hr1, hu1⟩
  have HU1 := Lib.hid hu1
  have HS1 := Lib.hid hs1
  have HX1 := Lib.hid hx1
  clear hx1
  clear hu1 hs1
  have H2 := Lib.hid (numR_u64 k rb m g (off + 1) s1 bad _ _ 18446744073709551615 w1 hr1 (by have := HO.out; first | omega | (simp only [List.length_set]; omega)) (by decide))
  clear hr1
  go_wp2_with fail
  refine H2.out.mono ?_
  rintro e w2 ⟨rfl, x2, s2, hs2, hx2, hr2, hu2⟩
  have HU2 := Lib.hid (HU1.out.two hu2)
  have HS2 := Lib.hid hs2
  have HX2 := Lib.hid hx2
  clear hx2
  clear hu2 hs2
  have HR := Lib.hid hr2
  clear hr2
  go_wp2_with fail
  refine bodyPost_end (v := .tuple #[]) (by simp [results, Tryz.results117, go_sem]) rfl ⟨rfl, ⟨x1, x2⟩, s2, Step.isoD (Step.seqD HS1.out (HS2.out)), ?_, HR.out, HU2.out⟩
  have y1 := HX1.out
  have y2 := HX2.out
  exact ⟨by unfold ok64; dsimp only; omega, by unfold ok64; dsimp only; omega⟩

set_option maxRecDepth 20000 in
set_option maxHeartbeats 2000000 in
theorem readR (k rb m g off : Nat) (st : Option (List UInt8)) (bad : Bool) (cs : List Value) (t : TypeId) (w : World) (h : RcAt k rb m g st bad cs t w) (hoff : off + 1 < cs.length) :
    Calls Tryz.prog 110 #[.pointer (some ⟨k, 0, none⟩), .pointer (some ⟨g, off, none⟩)] w fun e w' => e = .returned (.tuple #[]) ∧ ∃ (x : Mg.Rd) (st' : Option (List UInt8)), Step Mg.cRd.dec st x st' ∧ x.Good ∧ RcAt k rb m g st' bad (putV cs off x.cells) t w' ∧ Upd w w' [rb, g] := by
  have HO := Lib.hid hoff
  have H1 := Lib.hid (textR k rb m g off st bad _ _ 129 w h (by have := HO.out; first | omega | (simp only [List.length_set, putV_length]; omega)) (by decide))
  clear h hoff
  go_enter Tryz.func110, Tryz.ntmps110
  go_wp2_with fail
  refine H1.out.mono ?_
  rintro e w1 ⟨rfl, x1, s1, hs1, hx1, hr1, hu1⟩
  have HU1 := Lib.hid hu1
  have HS1 := Lib.hid hs1
  have HX1 := Lib.hid hx1
  clear hx1
  clear hu1 hs1
  have H2 := Lib.hid (numR_u64 k rb m g (off + 1) s1 bad _ _ 18446744073709551615 w1 hr1 (by have := HO.out; first | omega | (simp only [List.length_set]; omega)) (by decide))
  clear hr1
  go_wp2_with fail
  refine H2.out.mono ?_
  rintro e w2 ⟨rfl, x2, s2, hs2, hx2, hr2, hu2⟩
  have HU2 := Lib.hid (HU1.out.two hu2)
  have HS2 := Lib.hid hs2
  have HX2 := Lib.hid hx2
  clear hx2
  clear hu2 hs2
  have HR := Lib.hid hr2
  clear hr2
  go_wp2_with fail
  refine bodyPost_end (v := .tuple #[]) (by simp [results, Tryz.results110, go_sem]) rfl ⟨rfl, ⟨x1, x2⟩, s2, Step.isoD (Step.seqD HS1.out (HS2.out)), ?_, HR.out, HU2.out⟩
  have y1 := HX1.out
  have y2 := HX2.out
  exact ⟨by unfold okT; dsimp only; omega, by unfold ok64; dsimp only; omega⟩

set_option maxRecDepth 20000 in
set_option maxHeartbeats 2000000 in
theorem versionR (k rb m g off : Nat) (st : Option (List UInt8)) (bad : Bool) (cs : List Value) (t : TypeId) (w : World) (h : RcAt k rb m g st bad cs t w) (hoff : off + 2 < cs.length) :
    Calls Tryz.prog 143 #[.pointer (some ⟨k, 0, none⟩), .pointer (some ⟨g, off, none⟩)] w fun e w' => e = .returned (.tuple #[]) ∧ ∃ (x : Mg.Ver) (st' : Option (List UInt8)), Step Mg.cVer.dec st x st' ∧ x.Good ∧ RcAt k rb m g st' bad (putV cs off x.cells) t w' ∧ Upd w w' [rb, g] := by
  have HO := Lib.hid hoff
  have H1 := Lib.hid (numR_u64 k rb m g off st bad _ _ 18446744073709551615 w h (by have := HO.out; first | omega | (simp only [List.length_set, putV_length]; omega)) (by decide))
  clear h hoff
  go_enter Tryz.func143, Tryz.ntmps143
  go_wp2_with fail
  refine H1.out.mono ?_
  rintro e w1 ⟨rfl, x1, s1, hs1, hx1, hr1, hu1⟩
  have HU1 := Lib.hid hu1
  have HS1 := Lib.hid hs1
  have HX1 := Lib.hid hx1
  clear hx1
  clear hu1 hs1
  have H2 := Lib.hid (numR_u8 k rb m g (off + 1) s1 bad _ _ 255 w1 hr1 (by have := HO.out; first | omega | (simp only [List.length_set]; omega)) (by decide))
  clear hr1
  go_wp2_with fail
  refine H2.out.mono ?_
  rintro e w2 ⟨rfl, x2, s2, hs2, hx2, hr2, hu2⟩
  have HU2 := Lib.hid (HU1.out.two hu2)
  have HS2 := Lib.hid hs2
  have HX2 := Lib.hid hx2
  clear hx2
  clear hu2 hs2
  have H3 := Lib.hid (textR k rb m g (off + 2) s2 bad _ _ 4096 w2 hr2 (by have := HO.out; first | omega | (simp only [List.length_set]; omega)) (by decide))
  clear hr2
  go_wp2_with fail
  refine H3.out.mono ?_
  rintro e w3 ⟨rfl, x3, s3, hs3, hx3, hr3, hu3⟩
  have HU3 := Lib.hid (HU2.out.two hu3)
  have HS3 := Lib.hid hs3
  have HX3 := Lib.hid hx3
  clear hx3
  clear hu3 hs3
  have HR := Lib.hid hr3
  clear hr3
  go_wp2_with fail
  refine bodyPost_end (v := .tuple #[]) (by simp [results, Tryz.results143, go_sem]) rfl ⟨rfl, ⟨x1, x2, x3⟩, s3, Step.isoD (Step.seqD HS1.out (Step.seqD HS2.out (HS3.out))), ?_, HR.out, HU3.out⟩
  have y1 := HX1.out
  have y2 := HX2.out
  have y3 := HX3.out
  exact ⟨by unfold ok64; dsimp only; omega, by show x2 < 256; omega, by unfold okT; dsimp only; omega⟩

set_option maxRecDepth 20000 in
set_option maxHeartbeats 2000000 in
theorem editR (k rb m g off : Nat) (st : Option (List UInt8)) (bad : Bool) (cs : List Value) (t : TypeId) (w : World) (h : RcAt k rb m g st bad cs t w) (hoff : off + 5 < cs.length) :
    Calls Tryz.prog 114 #[.pointer (some ⟨k, 0, none⟩), .pointer (some ⟨g, off, none⟩)] w fun e w' => e = .returned (.tuple #[]) ∧ ∃ (x : Mg.Ed) (st' : Option (List UInt8)), Step Mg.cEd.dec st x st' ∧ x.Good ∧ RcAt k rb m g st' bad (putV cs off x.cells) t w' ∧ Upd w w' [rb, g] := by
  have HO := Lib.hid hoff
  have H1 := Lib.hid (numR_u8 k rb m g off st bad _ _ 255 w h (by have := HO.out; first | omega | (simp only [List.length_set, putV_length]; omega)) (by decide))
  clear h hoff
  go_enter Tryz.func114, Tryz.ntmps114
  go_wp2_with fail
  refine H1.out.mono ?_
  rintro e w1 ⟨rfl, x1, s1, hs1, hx1, hr1, hu1⟩
  have HU1 := Lib.hid hu1
  have HS1 := Lib.hid hs1
  have HX1 := Lib.hid hx1
  clear hx1
  clear hu1 hs1
  have H2 := Lib.hid (textR k rb m g (off + 1) s1 bad _ _ 129 w1 hr1 (by have := HO.out; first | omega | (simp only [List.length_set]; omega)) (by decide))
  clear hr1
  go_wp2_with fail
  refine H2.out.mono ?_
  rintro e w2 ⟨rfl, x2, s2, hs2, hx2, hr2, hu2⟩
  have HU2 := Lib.hid (HU1.out.two hu2)
  have HS2 := Lib.hid hs2
  have HX2 := Lib.hid hx2
  clear hx2
  clear hu2 hs2
  have H3 := Lib.hid (truthR k rb m g (off + 2) s2 bad _ _ w2 hr2 (by have := HO.out; first | omega | (simp only [List.length_set]; omega)))
  clear hr2
  go_wp2_with fail
  refine H3.out.mono ?_
  rintro e w3 ⟨rfl, x3, s3, hs3, hr3, hu3⟩
  have HU3 := Lib.hid (HU2.out.two hu3)
  have HS3 := Lib.hid hs3
  clear hu3 hs3
  have H4 := Lib.hid (numR_u64 k rb m g (off + 3) s3 bad _ _ 18446744073709551615 w3 hr3 (by have := HO.out; first | omega | (simp only [List.length_set]; omega)) (by decide))
  clear hr3
  go_wp2_with fail
  refine H4.out.mono ?_
  rintro e w4 ⟨rfl, x4, s4, hs4, hx4, hr4, hu4⟩
  have HU4 := Lib.hid (HU3.out.two hu4)
  have HS4 := Lib.hid hs4
  have HX4 := Lib.hid hx4
  clear hx4
  clear hu4 hs4
  have H5 := Lib.hid (numR_u64 k rb m g (off + 4) s4 bad _ _ 18446744073709551615 w4 hr4 (by have := HO.out; first | omega | (simp only [List.length_set]; omega)) (by decide))
  clear hr4
  go_wp2_with fail
  refine H5.out.mono ?_
  rintro e w5 ⟨rfl, x5, s5, hs5, hx5, hr5, hu5⟩
  have HU5 := Lib.hid (HU4.out.two hu5)
  have HS5 := Lib.hid hs5
  have HX5 := Lib.hid hx5
  clear hx5
  clear hu5 hs5
  have H6 := Lib.hid (textR k rb m g (off + 5) s5 bad _ _ 4096 w5 hr5 (by have := HO.out; first | omega | (simp only [List.length_set]; omega)) (by decide))
  clear hr5
  go_wp2_with fail
  refine H6.out.mono ?_
  rintro e w6 ⟨rfl, x6, s6, hs6, hx6, hr6, hu6⟩
  have HU6 := Lib.hid (HU5.out.two hu6)
  have HS6 := Lib.hid hs6
  have HX6 := Lib.hid hx6
  clear hx6
  clear hu6 hs6
  have HR := Lib.hid hr6
  clear hr6
  go_wp2_with fail
  refine bodyPost_end (v := .tuple #[]) (by simp [results, Tryz.results114, go_sem]) rfl ⟨rfl, ⟨x1, x2, x3, x4, x5, x6⟩, s6, Step.isoD (Step.seqD HS1.out (Step.seqD HS2.out (Step.seqD HS3.out (Step.seqD HS4.out (Step.seqD HS5.out (HS6.out)))))), ?_, HR.out, HU6.out⟩
  have y1 := HX1.out
  have y2 := HX2.out
  have y4 := HX4.out
  have y5 := HX5.out
  have y6 := HX6.out
  exact ⟨by show x1 < 256; omega, by unfold okT; dsimp only; omega, by unfold ok64; dsimp only; omega, by unfold ok64; dsimp only; omega, by unfold okT; dsimp only; omega⟩

set_option maxRecDepth 20000 in
set_option maxHeartbeats 2000000 in
theorem gotR (k rb m g off : Nat) (st : Option (List UInt8)) (bad : Bool) (cs : List Value) (t : TypeId) (w : World) (h : RcAt k rb m g st bad cs t w) (hoff : off + 3 < cs.length) :
    Calls Tryz.prog 123 #[.pointer (some ⟨k, 0, none⟩), .pointer (some ⟨g, off, none⟩)] w fun e w' => e = .returned (.tuple #[]) ∧ ∃ (x : Mg.Got) (st' : Option (List UInt8)), Step Mg.cGot.dec st x st' ∧ x.Good ∧ RcAt k rb m g st' bad (putV cs off x.cells) t w' ∧ Upd w w' [rb, g] := by
  have HO := Lib.hid hoff
  have H1 := Lib.hid (versionR k rb m g off st bad _ _ w h (by have := HO.out; first | omega | (simp only [List.length_set, putV_length]; omega)))
  clear h hoff
  go_enter Tryz.func123, Tryz.ntmps123
  go_wp2_with fail
  refine H1.out.mono ?_
  rintro e w1 ⟨rfl, x1, s1, hs1, hx1, hr1, hu1⟩
  have HU1 := Lib.hid hu1
  have HS1 := Lib.hid hs1
  have HX1 := Lib.hid hx1
  clear hx1
  clear hu1 hs1
  have H2 := Lib.hid (numR_errno k rb m g (off + 3) s1 bad _ _ 9999 w1 hr1 (by have := HO.out; first | omega | (simp only [putV_length]; omega)) (by decide))
  clear hr1
  go_wp2_with fail
  refine H2.out.mono ?_
  rintro e w2 ⟨rfl, x2, s2, hs2, hx2, hr2, hu2⟩
  have HU2 := Lib.hid (HU1.out.two hu2)
  have HS2 := Lib.hid hs2
  have HX2 := Lib.hid hx2
  clear hx2
  clear hu2 hs2
  have HR := Lib.hid hr2
  clear hr2
  go_wp2_with fail
  refine bodyPost_end (v := .tuple #[]) (by simp [results, Tryz.results123, go_sem]) rfl ⟨rfl, ⟨x1, ((x2 : Nat) : Int)⟩, s2, Step.isoD (Step.seqD HS1.out ((HS2.out.intD))), ?_, HR.out, HU2.out⟩
  have y1 := HX1.out
  have y2 := HX2.out
  exact ⟨y1, by show -9223372036854775808 ≤ ((x2 : Nat) : Int) ∧ ((x2 : Nat) : Int) ≤ 9223372036854775807; omega⟩

set_option maxRecDepth 20000 in
set_option maxHeartbeats 2000000 in
theorem placeR (k rb m g off : Nat) (st : Option (List UInt8)) (bad : Bool) (cs : List Value) (t : TypeId) (w : World) (h : RcAt k rb m g st bad cs t w) (hoff : off < cs.length) :
    Calls Tryz.prog 112 #[.pointer (some ⟨k, 0, none⟩), .pointer (some ⟨g, off, none⟩)] w fun e w' => e = .returned (.tuple #[]) ∧ ∃ (x : Int) (st' : Option (List UInt8)), Step (Mg.int 512).dec st x st' ∧ (-9223372036854775808 ≤ x ∧ x ≤ 9223372036854775807) ∧ RcAt k rb m g st' bad (putV cs off [.int .i64 x]) t w' ∧ Upd w w' [rb, g] := by
  have H1 := Lib.hid (numR_int k rb m g off st bad _ _ 512 w h hoff (by decide))
  clear h hoff
  go_enter Tryz.func112, Tryz.ntmps112
  go_wp2_with fail
  refine H1.out.mono ?_
  rintro e w1 ⟨rfl, y, s1, hs1, hx1, hr1, hu1⟩
  have HS := Lib.hid hs1
  have HX := Lib.hid hx1
  have HR := Lib.hid hr1
  have HU := Lib.hid hu1
  clear hs1 hx1 hr1 hu1
  go_wp2_with fail
  refine bodyPost_end (v := .tuple #[]) (by simp [results, Tryz.results112, go_sem]) rfl ⟨rfl, ((y : Nat) : Int), s1, HS.out.intD, ?_, HR.out, HU.out⟩
  have y1 := HX.out
  omega

set_option maxRecDepth 20000 in
set_option maxHeartbeats 2000000 in
theorem nameR (k rb m g off : Nat) (st : Option (List UInt8)) (bad : Bool) (cs : List Value) (t : TypeId) (w : World) (h : RcAt k rb m g st bad cs t w) (hoff : off < cs.length) :
    Calls Tryz.prog 116 #[.pointer (some ⟨k, 0, none⟩), .pointer (some ⟨g, off, none⟩)] w fun e w' => e = .returned (.tuple #[]) ∧ ∃ (x : ByteArray) (st' : Option (List UInt8)), Step (Mg.text 129).dec st x st' ∧ okT x ∧ RcAt k rb m g st' bad (putV cs off [.string x]) t w' ∧ Upd w w' [rb, g] := by
  have H1 := Lib.hid (textR k rb m g off st bad _ _ 129 w h hoff (by decide))
  clear h hoff
  go_enter Tryz.func116, Tryz.ntmps116
  go_wp2_with fail
  refine H1.out.mono ?_
  rintro e w1 ⟨rfl, y, s1, hs1, hx1, hr1, hu1⟩
  have HS := Lib.hid hs1
  have HX := Lib.hid hx1
  have HR := Lib.hid hr1
  have HU := Lib.hid hu1
  clear hs1 hx1 hr1 hu1
  go_wp2_with fail
  refine bodyPost_end (v := .tuple #[]) (by simp [results, Tryz.results116, go_sem]) rfl ⟨rfl, y, s1, HS.out, ?_, HR.out, HU.out⟩
  have y1 := HX.out
  unfold okT; omega

set_option maxRecDepth 20000 in
set_option maxHeartbeats 2000000 in
theorem numberR (k rb m g off : Nat) (st : Option (List UInt8)) (bad : Bool) (cs : List Value) (t : TypeId) (w : World) (h : RcAt k rb m g st bad cs t w) (hoff : off < cs.length) :
    Calls Tryz.prog 125 #[.pointer (some ⟨k, 0, none⟩), .pointer (some ⟨g, off, none⟩)] w fun e w' => e = .returned (.tuple #[]) ∧ ∃ (x : Nat) (st' : Option (List UInt8)), Step (Mg.num Mg.All).dec st x st' ∧ ok64 x ∧ RcAt k rb m g st' bad (putV cs off [.int .u64 x]) t w' ∧ Upd w w' [rb, g] := by
  have H1 := Lib.hid (numR_u64 k rb m g off st bad _ _ 18446744073709551615 w h hoff (by decide))
  clear h hoff
  go_enter Tryz.func125, Tryz.ntmps125
  go_wp2_with fail
  refine H1.out.mono ?_
  rintro e w1 ⟨rfl, y, s1, hs1, hx1, hr1, hu1⟩
  have HS := Lib.hid hs1
  have HX := Lib.hid hx1
  have HR := Lib.hid hr1
  have HU := Lib.hid hu1
  clear hs1 hx1 hr1 hu1
  go_wp2_with fail
  refine bodyPost_end (v := .tuple #[]) (by simp [results, Tryz.results125, go_sem]) rfl ⟨rfl, y, s1, HS.out, ?_, HR.out, HU.out⟩
  have y1 := HX.out
  unfold ok64; omega

set_option maxRecDepth 20000 in
set_option maxHeartbeats 2000000 in
theorem shardR (k rb m g off bx : Nat) (st : Option (List UInt8)) (bad : Bool) (cs : List Value) (t : TypeId) (w : World) (h : RcAt k rb m g st bad cs t w) (hb : CellT w bx 0 (.pointer (some ⟨k, 0, none⟩))) (hoff : off < cs.length) :
    Calls Tryz.prog 107 #[.pointer (some ⟨g, off, none⟩), .pointer (some ⟨bx, 0, none⟩)] w fun e w' => e = .returned (.tuple #[]) ∧ ∃ (x : Nat) (st' : Option (List UInt8)), Step (Mg.num 4294967295).dec st x st' ∧ x < 4294967296 ∧ RcAt k rb m g st' bad (putV cs off [.int .u32 x]) t w' ∧ Upd w w' [rb, g] := by
  have H1 := Lib.hid (numR_u32 k rb m g off st bad _ _ 4294967295 w h hoff (by decide))
  have c0 := hb.cell
  clear h hoff hb
  go_enter Tryz.func107, Tryz.ntmps107
  go_wp2_with fail
  refine H1.out.mono ?_
  rintro e w1 ⟨rfl, y, s1, hs1, hx1, hr1, hu1⟩
  have HS := Lib.hid hs1
  have HX := Lib.hid hx1
  have HR := Lib.hid hr1
  have HU := Lib.hid hu1
  clear hs1 hx1 hr1 hu1 c0
  go_wp2_with fail
  refine bodyPost_end (v := .tuple #[]) (by simp [results, Tryz.results107, go_sem]) rfl ⟨rfl, y, s1, HS.out, ?_, HR.out, HU.out⟩
  have y1 := HX.out
  omega

end Go.Proofs.YtjgnomjjphkfbaaGreat

namespace Go.Proofs.YtjgnomjjphkfbaaGreat
open Go.RowKit

namespace Mg
theorem many_none {α : Type} {d : List UInt8 → Option (α × List UInt8)} {s : List UInt8} : ∀ (n i : Nat), i ≤ n → many d i s = none → many d n s = none
  | 0, i, hi, h => by obtain rfl : i = 0 := by omega
                      exact h
  | n + 1, i, hi, h => by
    by_cases e : i = n + 1
    · subst e; exact h
    · rw [many_snoc, many_none n i (by omega) h]
end Mg
/-- What i rounds of reading come to. -/
def Rounds {α : Type} (d : List UInt8 → Option (α × List UInt8)) (st1 : Option (List UInt8)) (n i : Nat) (l : List α) (sti : Option (List UInt8)) : Prop :=
  match st1 with
  | none => sti = none ∧ n = 0 ∧ l = []
  | some r1 => ∃ ri, sti = some ri ∧ Mg.many d i r1 = some (l, ri)
section
variable {α : Type} {c : Mg.Codec α} {most n i : Nat} {st st1 sti : Option (List UInt8)} {l : List α} {a : α}
theorem Rounds.start (h : st1 = none → n = 0) : Rounds c.dec st1 n 0 [] st1 := by
  cases st1 with
  | none => exact ⟨rfl, h rfl, rfl⟩
  | some r => exact ⟨r, rfl, rfl⟩
theorem Rounds.next {r2 : List UInt8} (h : Rounds c.dec st1 n i l sti) (hs : Step c.dec sti a (some r2)) : Rounds c.dec st1 n (i + 1) (l ++ [a]) (some r2) := by
  cases st1 with
  | none => obtain ⟨rfl, _⟩ := h; cases hs.off
  | some r1 =>
    obtain ⟨ri, rfl, hm⟩ := h
    obtain ⟨r, e, hd⟩ := hs.got
    cases e
    exact ⟨r2, rfl, by rw [Mg.many_snoc, hm]; simp only; rw [hd]⟩
theorem list_dec_cnt (r : List UInt8) : (Mg.list most c).dec r = match Mg.cnt most r with
    | none => none
    | some (n, r) => Mg.many c.dec n r := by
  unfold Mg.cnt Mg.list
  simp only
  cases (Mg.num most).dec r with
  | none => rfl
  | some p =>
    obtain ⟨x, r'⟩ := p
    simp only
    by_cases h : x ≤ r'.length
    · rw [if_pos h, if_pos h]
    · rw [if_neg h, if_neg h]
theorem Rounds.fail (h : Rounds c.dec st1 n i l sti) (hi : i < n) (hs : Step c.dec sti a none) (hc : Step (Mg.cnt most) st n st1) : Step (Mg.list most c).dec st (l ++ [a]) none := by
  cases st1 with
  | none => have := h.2.1; omega
  | some r1 =>
    obtain ⟨r, rfl, hd⟩ := hc.got
    obtain ⟨ri, rfl, hm⟩ := h
    refine Step.bad ?_
    rw [list_dec_cnt, hd]
    simp only
    refine Mg.many_none n (i + 1) (by omega) ?_
    rw [Mg.many_snoc, hm]
    simp only
    rw [hs.fails]
theorem Rounds.done (h : Rounds c.dec st1 n n l sti) (hc : Step (Mg.cnt most) st n st1) : Step (Mg.list most c).dec st l sti := by
  cases st1 with
  | none =>
    obtain ⟨rfl, rfl, rfl⟩ := h
    cases st with
    | none => rfl
    | some r =>
      refine Step.bad ?_
      rw [list_dec_cnt, hc.fails]
  | some r1 =>
    obtain ⟨r, rfl, hd⟩ := hc.got
    obtain ⟨ri, rfl, hm⟩ := h
    refine Step.ok ?_
    rw [list_dec_cnt, hd]
    exact hm
end

section
variable {k rb m g x : Nat} {st st2 : Option (List UInt8)} {bad bad2 : Bool} {cs cs2 : List Value} {t t2 : TypeId} {w w' w2 : World}
theorem RcAt.lts (h : RcAt k rb m g st bad cs t w) : k < w.heap.size ∧ rb < w.heap.size ∧ g < w.heap.size := ⟨blk_lt h.cd, h.rd.lt, blk_lt h.blk⟩
theorem RcAt.alloc (h : RcAt k rb m g st bad cs t w) (o : Obj) : RcAt k rb m g st bad cs t (w.alloc o) := h.keep ((Below.refl _ w).alloc (Nat.le_refl _) o)
/-- A new block. -/
theorem RcAt.fresh (h : RcAt k rb m g st bad cs t w) (zs : List Value) (t' : TypeId) : RcAt k rb m w.heap.size st bad zs t' (w.alloc (.cells zs.toArray t' (0, 0))) := by
  have h2 := h.alloc (.cells zs.toArray t' (0, 0))
  obtain ⟨a1, a2, a3⟩ := h.lts
  exact ⟨h2.cd, h2.rd, heap_alloc_new w _, by omega, by omega, h.kr⟩
/-- Back to the block that was filled ahead. -/
theorem RcAt.back (hx : RcAt k rb m x st2 bad2 cs2 t2 w2) (hg : RcAt k rb m g st bad cs t w) (hu : Upd w w2 [rb, x]) (hne : g ≠ x) : RcAt k rb m g st2 bad2 cs t w2 :=
  ⟨hx.cd, hx.rd, (hu.keep g (blk_lt hg.blk) (by simp; exact ⟨hg.gr, hne⟩)).trans hg.blk, hg.gk, hg.gr, hg.kr⟩
theorem RcAt.other (h : RcAt k rb m g st bad cs t w) {F : List Nat} (hu : Upd w w' F) (hF : ∀ b ∈ F, b ≠ k ∧ b ≠ rb ∧ b ≠ g) : RcAt k rb m g st bad cs t w' :=
  ⟨(hu.keep k (blk_lt h.cd) (fun hb => (hF k hb).1 rfl)).trans h.cd, h.rd.keep (hu.keep rb h.rd.lt (fun hb => (hF rb hb).2.1 rfl)), (hu.keep g (blk_lt h.blk) (fun hb => (hF g hb).2.2 rfl)).trans h.blk, h.gk, h.gr, h.kr⟩
end
theorem OL.updF {w W W2 : World} {E : TypeId} {size : Nat} {s : Option Addr} {cap : Nat} {xs : List (List Value)} {F : List Nat} (h : OL w W E size s cap xs) (hu : Upd W W2 F) (hF : ∀ b ∈ blks s, b ∉ F) : OL w W2 E size s cap xs :=
  ⟨h.sl.keep fun k hk => hu.keep k (h.sl.lt k hk) (hF k hk), h.far, h.all⟩
/-- Blocks that were there when the call began are not the list's. -/
theorem OL.updB {w W W2 : World} {E : TypeId} {size : Nat} {s : Option Addr} {cap : Nat} {xs : List (List Value)} {F : List Nat} (h : OL w W E size s cap xs) (hu : Upd W W2 F) (hF : ∀ b ∈ F, b < w.heap.size) : OL w W2 E size s cap xs :=
  h.updF hu fun b hb hf => by have := h.far b hb; have := hF b hf; omega
theorem OL.base {w w0 W : World} {E : TypeId} {size : Nat} {s : Option Addr} {cap : Nat} {xs : List (List Value)} (h : OL w W E size s cap xs) (hw : w0.heap.size ≤ w.heap.size) : OL w0 W E size s cap xs :=
  ⟨h.sl, fun k hk => Nat.le_trans hw (h.far k hk), h.all⟩
section
variable {P : Program}
/-- 'append(s, x)': x lies in a new row of its own. -/
theorem ol_push2 {T E : TypeId} {i : TypeInfo} {z : Value} {size bytes : Nat} (ht : P.underlying T = some (.slice E)) (hi : P.info? E = some i) (hz : i.zero = some z) (hsize : i.size = size) (hby : i.bytes = bytes) (hzs : z.cells.size = size) (hsz : 0 < size) (hb : bytes ≤ 256)
    {w W : World} (hw : w.heap.size ≤ W.heap.size) {s : Option Addr} {cap : Nat} {xs : List (List Value)} (h : OL w W E size s cap xs) (x : List Value) (hx : x.length = size) (h1 : ∀ u ∈ x, u.oneCell' = true) (hn : xs.length ≤ 100000) :
    ∃ s' cap' W2, (appSem #[T, T] T #[.slice s xs.length cap, .slice (some ⟨W.heap.size, 0, none⟩) 1 1]).run P (W.alloc (.cells x.toArray E (0, 0))) = .ok (.slice s' (xs.length + 1) cap') W2 ∧
      OL w W2 E size s' cap' (xs ++ [x]) ∧ Keeps W W2 s s' := by
  have hfl : [x].flatten = x := by simp
  have hrow : RowIs (W.alloc (.cells x.toArray E (0, 0))) size (some ⟨W.heap.size, 0, none⟩) [x] := by
    have hS := SliceIs.new W E size 1 x (by omega) (by decide)
    rw [← hfl] at hS
    rw [hfl] at hS
    exact SliceIs.rowF (xs := [x]) (by rw [hfl]; exact hS) (by simpa using hx) rfl
  obtain ⟨s', cap', W2, hr, hS, hU, hB⟩ := append_row (P := P) ht hi hz hsize hby hzs hsz (W.alloc (.cells x.toArray E (0, 0))) s xs.length cap xs.flatten (h.sl.alloc _) (some ⟨W.heap.size, 0, none⟩) 1 [x] hrow (by simpa using hx) (by simpa using h1) (by simp; omega) hb (by simp)
  have K : Keeps W W2 s s' := ⟨(((Upd.refl W (blks s)).alloc _).trans hU (fun x hx => .inl hx)), fun k hk => by
    rcases hB k hk with h2 | h2
    · exact .inl h2
    · simp at h2; exact .inr (by omega)⟩
  refine ⟨s', cap', W2, hr, ⟨?_, K.far h.far hw, ?_⟩, K⟩
  · rw [List.length_append, List.flatten_append]; exact hS
  · intro y hy
    rcases List.mem_append.1 hy with hy | hy
    · exact h.all y hy
    · simp at hy; rw [hy]; exact hx
end

end Go.Proofs.YtjgnomjjphkfbaaGreat
