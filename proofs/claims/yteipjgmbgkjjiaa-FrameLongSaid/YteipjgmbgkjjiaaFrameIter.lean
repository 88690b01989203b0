/-
  THE WALK of frame.frames: the iterator over the frames of a text.
-/
import Derived.RangeFuncNested
import Derived.RangeFuncBound
import Derived.RangeFuncCalls
import Derived.RangeFuncLeaves
import Derived.Shelf.Abstract
import Derived.Shelf.RegionOpen
import Derived.OwnWalkIn
import Derived.TacticsInMore
import Derived.LoopNIn
import Derived.LoopIn
import Derived.Test.YteipjgmbgkjjiaaFrameDec
set_option linter.unusedVariables false
set_option linter.unusedSimpArgs false
namespace Go.Proofs.Yteipjgmbgkjjiaa
open Go.RowKit Go.Shelf

attribute [local go_sem] Oper.semAt_some

/-- What a round is handed: a record, how far it goes, and with which error. -/
structure Yv where
  num : Nat
  text : ByteArray
  pos : Nat
  err : Nat
  hnum : num < 18446744073709551616
  hpos : pos ≤ 140737488351232
  herr : err ≤ 255
abbrev encY (y : Yv) : Array Value := #[.agg #[.int .u64 y.num, .string y.text], .agg #[.int .i64 y.pos, .int .i64 y.err]]

/-- The frame at the place p. -/
def Yv.At (s : ByteArray) (p : Nat) (y : Yv) : Prop :=
  y.num = (Frm.dec ((L s).drop p)).r.num ∧ y.text = S (Frm.dec ((L s).drop p)).r.text ∧ y.pos = p + (Frm.dec ((L s).drop p)).used ∧ y.err = (Frm.dec ((L s).drop p)).err
/-- The frames of a text up to p, none with an error. -/
def Path (s : ByteArray) : List Yv → Nat → Nat → Prop
  | [], p, q => p = q
  | y :: ys, p, q => p < s.size ∧ y.At s p ∧ y.err = 0 ∧ Path s ys y.pos q
theorem Path.snoc {s : ByteArray} : ∀ {ys : List Yv} {p q : Nat} {y : Yv}, Path s ys p q → q < s.size → y.At s q → y.err = 0 → Path s (ys ++ [y]) p y.pos
  | [], p, q, y, h, hq, hy, he => by cases h; exact ⟨hq, hy, he, rfl⟩
  | x :: ys, p, q, y, ⟨h1, h2, h3, h4⟩, hq, hy, he => ⟨h1, h2, h3, Path.snoc h4 hq hy he⟩
theorem Yv.At.ok {s : ByteArray} {p : Nat} {y : Yv} (h : y.At s p) (he : y.err = 0) : p + 16 ≤ y.pos ∧ (p ≤ s.size → y.pos ≤ s.size) := by
  have := Frm.dec_ok ((L s).drop p) (by rw [← h.2.2.2]; exact he)
  rw [List.length_drop, L_size] at this
  have h3 := h.2.2.1
  omega
theorem Path.le {s : ByteArray} : ∀ {ys : List Yv} {p q : Nat}, Path s ys p q → p ≤ s.size → p + 16 * ys.length ≤ q ∧ q ≤ s.size
  | [], p, q, h, hp => by cases h; exact ⟨by simp, hp⟩
  | x :: ys, p, q, ⟨h1, h2, h3, h4⟩, hp => by
    have := h2.ok h3
    have := Path.le h4 (this.2 hp)
    simp; omega
theorem dec_bounds (l : List UInt8) : (Frm.dec l).r.num < 18446744073709551616 ∧ (Frm.dec l).used ≤ l.length ∧ (Frm.dec l).err ≤ 255 := by
  by_cases h : (Frm.dec l).err = 0
  · have := Frm.dec_ok l h
    exact ⟨this.2.2.2.2, this.2.2.1, by omega⟩
  · obtain ⟨h1, h2⟩ := Frm.dec_err l h
    refine ⟨by rw [h1]; decide, by omega, ?_⟩
    unfold Frm.dec
    repeat (split; show _ ≤ 255; simp only []; omega)
    simp only []; omega
/-- What Decode hands back of the rest, as a round has it. -/
def mkY (s : ByteArray) (p : Nat) (hs : s.size ≤ 140737488351232) (hp : p ≤ s.size) : Yv :=
  ⟨(Frm.dec ((L s).drop p)).r.num, S (Frm.dec ((L s).drop p)).r.text, p + (Frm.dec ((L s).drop p)).used, (Frm.dec ((L s).drop p)).err, (dec_bounds _).1,
    by have := (dec_bounds ((L s).drop p)).2.1; rw [List.length_drop, L_size] at this; omega, (dec_bounds _).2.2⟩
theorem mkY_at (s : ByteArray) (p : Nat) (hs : s.size ≤ 140737488351232) (hp : p ≤ s.size) : (mkY s p hs hp).At s p := ⟨rfl, rfl, rfl, rfl⟩
theorem frame_dec_at (s : ByteArray) (p : Nat) (hs : s.size ≤ 140737488351232) (hp : p < s.size) (y : Yv) (hy : y.At s p) (u : Int) (hu : (p : Int) + u = y.pos) (w : World) :
    Calls Try.prog 14 #[.string (s.extract p s.size)] w fun e w' => e = .returned (.tuple #[.agg #[.int .u64 y.num, .string y.text], .int .i64 u, .int .i64 y.err]) ∧ Below w.heap.size w w' := by
  refine (frame_dec (s.extract p s.size) w (by rw [ByteArray.size_extract]; omega)).mono fun e w' h => ?_
  unfold DecOut at h
  have e1 : L (s.extract p s.size) = (L s).drop p := by rw [L_cut, List.take_of_length_le (by simp [L_size])]
  rw [e1, ← hy.1, ← hy.2.1, ← hy.2.2.2] at h
  have e2 : u = ((Frm.dec ((L s).drop p)).used : Int) := by have := hy.2.2.1; omega
  rw [e2]; exact h
theorem abides_below {β : Type} {B : Nat} {J : β → World → Prop} (h : AbidesFrom B J) {s : β} {w w' : World} (hJ : J s w) (hb : Below w.heap.size w w') : J s w' :=
  h s w w' none hJ ⟨hb.os, hb.tape, hb.output, hb.size, fun k hk _ => hb.block k hk⟩ (fun r e => by cases e)

def KpS (Bs : Nat) (W W' : World) : Prop := W'.heap[Bs]? = W.heap[Bs]?
/-- All frames came; the last one may have an error. -/
def AllY (s : ByteArray) (xs : List Yv) : Prop := Path s xs 0 s.size ∨ ∃ pre y q, xs = pre ++ [y] ∧ Path s pre 0 q ∧ q < s.size ∧ y.At s q ∧ y.err ≠ 0
/-- Some frames came, and the round said that it wants no more. -/
def SomeY (s : ByteArray) (xs : List Yv) : Prop := ∃ pre y q, xs = pre ++ [y] ∧ Path s pre 0 q ∧ q < s.size ∧ y.At s q

set_option maxRecDepth 100000 in
set_option maxHeartbeats 2000000 in
theorem frames_stops (n : Nat) (Bs : Nat) (s : ByteArray) (hs : s.size ≤ 140737488351232) (w : World) (hb : w.heap[Bs]? = some (.cells #[.string s] 9 (0, 0))) :
    SeqStopsK Fence.wide n Try.prog 28 #[.pointer (some ⟨Bs, 0, none⟩)] encY (KpS Bs) (AllY s) (SomeY s) s.size w := fun l J Jx W hW hJ hJx hY h0 => by
  refine callsIn_of_wp Try.func28 rfl trivial ?_ rfl
  simp only [Try.ntmps28, List.size_toArray, List.length_cons, List.length_nil, Nat.reduceAdd, Nat.reduceSub, Array.replicate_succ, Array.replicate_zero, List.push_toArray, List.append_toArray, List.nil_append, List.cons_append]
  have hsI : (s.size : Int) ≤ 140737488351232 := by omega
  have HS := Lib.hid hs
  have HB := Lib.hid ((hW.block Bs (blk_lt hb)).trans hb)
  have HJ0 := Lib.hid h0
  clear hs hb h0
  gi_wp2
  gi_loopw [3] (fun p wr => ∃ (pre : List Yv) (q : Nat), p = .int .i64 q ∧ Path s pre 0 q ∧ q ≤ s.size ∧ wr.heap[Bs]? = some (.cells #[.string s] 9 (0, 0)) ∧ J pre wr) (fun p wr => s.size - (intOf p).toNat)
  case atStart => exact ⟨[], 0, rfl, rfl, Nat.zero_le _, HB.out, HJ0.out⟩
  case round =>
    clear HB HJ0
    obtain ⟨pre, q, rfl, hP, hq, hbs, hJp⟩ := hrel
    have HBS := Lib.hid hbs
    have hcs : wr.cell? ⟨Bs, 0, none⟩ = some (.string s) := by rw [cell_of_row _ _ _ _ _ _ hbs]; rfl
    have HP := Lib.hid hP
    have HJp := Lib.hid hJp
    clear hbs hP hJp
    by_cases hlt : q < s.size
    · have hqI : (0 : Int) ≤ q ∧ (q : Int) < s.size := by omega
      have hya := mkY_at s q HS.out hq
      generalize mkY s q HS.out hq = y at hya
      have HYA := Lib.hid hya
      obtain ⟨u, hu⟩ : ∃ u : Nat, q + u = y.pos := ⟨_, hya.2.2.1.symm⟩
      have hdc := fun w => frame_dec_at s q HS.out hlt y hya u (by omega) w
      have HDC := Lib.hid hdc
      clear hya hdc
      have HU : Hid ((y.pos : Int) = (q : Int) + (u : Int)) := Lib.hid (by omega)
      have huI : (0 : Int) ≤ u ∧ (q : Int) + u ≤ 140737488351232 := by have := y.hpos; omega
      have hqI2 : (q : Int) ≤ 140737488351232 := by omega
      clear hu
      gi_wp2
      refine ⟨trivial, fun h => (by cases h), ?_⟩
      refine (callsIn_wide.2 (HDC.out _)).mono ?_
      rintro e w1 ⟨rfl, hb1⟩
      have hbs1 := (hb1.block Bs (blk_lt HBS.out)).trans HBS.out
      have hJ1 := abides_below hJ HJp.out hb1
      have hplt : pre.length < s.size := by have := HP.out.le (Nat.zero_le _); omega
      have hJ2 := abides_below hJ hJ1 ((Below.refl w1.heap.size w1).alloc (Nat.le_refl _) (.cells #[.int .u64 y.num, .string y.text] 24))
      have hbs2 := (((Below.refl w1.heap.size w1).alloc (Nat.le_refl _) (.cells #[.int .u64 y.num, .string y.text] 24)).block Bs (blk_lt hbs1)).trans hbs1
      have HBS2 := Lib.hid hbs2
      obtain ⟨fn, tmps, assign, body, hy, hR⟩ := hY pre y _ hJ2 hplt
      dsimp only [encY] at hy
      rw [HU.out] at hy
      clear hbs1 hJ1 hbs2 hJ2 hb1 hcs HBS HDC HJp
      have HR := Lib.hid hR
      clear hR
      gi_wp2
      refine ⟨fun h => (by cases h), HR.out.mono ?_⟩
      rintro e W3 (⟨rfl, hJ3, hk3⟩ | ⟨rfl, hJx3⟩)
      · have hbs3 := hk3.trans HBS2.out
        have HBS3 := Lib.hid hbs3
        have HJ3 := Lib.hid hJ3
        clear hbs3 hJ3 hk3 HBS2 HR hy
        by_cases he : y.err = 0
        · have HE := Lib.hid he
          have he1 : ((y.err : Int) != 0) = false := by rw [he]; rfl
          clear he
          gi_wp2
          go_roundw
          case rel => exact ⟨pre ++ [y], y.pos, by rw [HU.out], HP.out.snoc hlt HYA.out HE.out, (HYA.out.ok HE.out).2 hq, HBS3.out, HJ3.out⟩
          case measure => have := (HYA.out.ok HE.out).1; have := HU.out; simp [intOf]; omega
        · have HE := Lib.hid he
          have he1 : ((y.err : Int) != 0) = true := by rw [bne_iff_ne]; omega
          clear he
          gi_wp2
          refine bodyPost_ret (results_none rfl _ _ _) rfl ?_
          exact ⟨⟨_, rfl⟩, .inl ⟨pre ++ [y], .inr ⟨pre, y, q, rfl, HP.out, hlt, HYA.out, HE.out⟩, HJ3.out⟩⟩
      · have HJx := Lib.hid hJx3
        clear hJx3 HR hy
        gi_wp2
        refine bodyPost_ret (results_none rfl _ _ _) rfl ?_
        exact ⟨⟨_, rfl⟩, .inr ⟨pre ++ [y], ⟨pre, y, q, rfl, HP.out, hlt, HYA.out⟩, HJx.out⟩⟩
    · obtain rfl : q = s.size := by omega
      gi_wp2
      go_end0
      exact ⟨⟨_, rfl⟩, .inl ⟨pre, .inl HP.out, HJp.out⟩⟩

set_option maxHeartbeats 400000 in
theorem frames_any (s : ByteArray) (w : World) :
    Calls Try.prog 26 #[.string s] w fun e w' => e = .returned (.func (.func 28) #[] #[.pointer (some ⟨w.heap.size, 0, none⟩)]) ∧ w' = w.alloc (.cells #[.string s] 9) := by
  go_enter Try.func26, Try.ntmps26
  go_wp2
  go_ret
  exact ⟨rfl, rfl⟩

end Go.Proofs.Yteipjgmbgkjjiaa
