/-
  Joined out of the texts MsgWrG MsgWr0 MsgGood.
-/
import Derived.Test.YtjgnomjjphkfbaaGreatRMsg
import Derived.Test.YtjgnomjjphkfbaaGreatRGo
import Derived.Test.YtjgnomjjphkfbaaGreatRPlain
namespace Go.Proofs.YtjgnomjjphkfbaaGreat
open Go.RowKit

namespace Mg
/-- What is written of a message's parts, and whether each may be. -/
def pieces (x : Msg) : List (List UInt8 × Bool) :=
  if x.kind = 1 then [(cTx.enc x.low, cTx.fit x.low), (cHead.enc (x.map, x.parts), cHead.fit (x.map, x.parts)), (cAsk.enc x.ask, cAsk.fit x.ask), ((list 512 cRow).enc x.rows, (list 512 cRow).fit x.rows), (cNext.enc (x.next, x.own), cNext.fit (x.next, x.own))]
  else if x.kind = 2 then [((list 512 cRow).enc x.rows, (list 512 cRow).fit x.rows), (truth.enc x.commit, true), ((int 9999).enc x.err, (int 9999).fit x.err), (cTold.enc x.told, cTold.fit x.told)]
  else if x.kind = 3 then [(cTx.enc x.low, cTx.fit x.low), (truth.enc x.commit, true)]
  else if x.kind = 6 then [(cTx.enc x.low, cTx.fit x.low), ((num 3).enc x.state, (num 3).fit x.state && decide (1 ≤ x.state))]
  else []
def pre (x : Msg) : List UInt8 := (num 255).enc x.kind ++ cTx.enc x.tx
def preBad (x : Msg) : Bool := (!decide (x.kind ≤ 255) || !cTx.fit x.tx) || !decide (1 ≤ x.tx.life ∧ 1 ≤ x.tx.n)
def upto (x : Msg) (i : Nat) : List UInt8 := pre x ++ ((pieces x).take i).flatMap (·.1)
def uptoBad (x : Msg) (i : Nat) : Bool := preBad x || !((pieces x).take i).all (·.2)
theorem pieces_len (x : Msg) (hk : known x.kind = true) : (pieces x).length = (partsOf x.kind).length := by
  unfold pieces
  rcases known_cases hk with h | h | h | h | h | h <;> rw [h] <;> rfl
theorem upto_next (x : Msg) (i : Nat) (h : i < (pieces x).length) : upto x (i + 1) = upto x i ++ (pieces x)[i].1 ∧ uptoBad x (i + 1) = (uptoBad x i || !(pieces x)[i].2) := by
  unfold upto uptoBad
  rw [List.take_succ_eq_append_getElem h]
  simp only [List.flatMap_append, List.flatMap_cons, List.flatMap_nil, List.append_nil, List.all_append, List.all_cons, List.all_nil, Bool.and_true, Bool.not_and, Bool.or_assoc, List.append_assoc, and_self]
theorem upto_all (x : Msg) (n : Nat) (h : (pieces x).length = n) : upto x n = enc x := by
  subst h
  unfold upto pre enc
  rw [List.take_length, List.append_assoc]
  congr 2
  unfold pieces body
  repeat' split
  all_goals simp [c1, c2, c3, c6, seq, cHead, cNext]
theorem uptoBad_all (x : Msg) (n : Nat) (h : (pieces x).length = n) (hk : known x.kind = true) : uptoBad x n = !fits x := by
  subst h
  unfold uptoBad preBad fits
  have hk : 1 ≤ x.kind ∧ x.kind ≤ 6 := of_decide_eq_true hk
  rw [List.take_length, decide_eq_true hk, decide_eq_true (show x.kind ≤ 255 by omega)]
  have e : ((pieces x).all (·.2)) = bodyFit x := by
    unfold pieces bodyFit
    repeat' split
    all_goals simp [c1, c2, c3, c6, seq, cHead, cNext, truth, Bool.and_assoc]
  rw [e]
  generalize cTx.fit x.tx = a
  generalize decide (1 ≤ x.tx.life ∧ 1 ≤ x.tx.n) = b
  generalize bodyFit x = c
  cases a <;> cases b <;> cases c <;> rfl
theorem upto_le (x : Msg) (i : Nat) (h : i < (pieces x).length) : (upto x i).length + (pieces x)[i].1.length ≤ (enc x).length := by
  rw [← upto_all x _ rfl]
  have h1 := (upto_next x i h).1
  have h2 : (upto x (i + 1)).length ≤ (upto x (pieces x).length).length := by
    unfold upto
    rw [List.length_append, List.length_append]
    have e : ((pieces x).take (pieces x).length).flatMap (·.1) = ((pieces x).take (i + 1)).flatMap (·.1) ++ ((pieces x).drop (i + 1)).flatMap (·.1) := by
      rw [← List.flatMap_append, List.take_append_drop, List.take_length]
    rw [e, List.length_append]
    omega
  rw [h1, List.length_append] at h2
  exact h2
end Mg

theorem FrW.keepFn {B : Nat} {w w' : World} (h : FrW B w w') : KeepFn w w' := fun _ _ hg => h.keep hg (by decide) (by decide)
/-- What goes has written so far. -/
def JW (B k m : Nat) (x : Mg.Msg) (w : World) (kind i : Nat) (w' : World) : Prop := kind = x.kind ∧ CdAt B k (Mg.upto x i) (Mg.uptoBad x i) m w' ∧ FrW B w w'
theorem JW.next {B k m : Nat} {x : Mg.Msg} {w : World} {i : Nat} (h : i < (Mg.pieces x).length) {bs : List UInt8} {f : Bool} (hp : (Mg.pieces x)[i] = (bs, f)) {w2 w3 : World} (hf : FrW B w w2) (hc : CdAt B k (Mg.upto x i ++ bs) (Mg.uptoBad x i || !f) m w3) (hf3 : FrW B w2 w3) : JW B k m x w x.kind (i + 1) w3 := by
  obtain ⟨e1, e2⟩ := Mg.upto_next x i h
  rw [hp] at e1 e2
  exact ⟨rfl, by rw [e1, e2]; exact hc, hf.trans hf3⟩

theorem goesW_hyp (B k m : Nat) (s : MS) (x : Mg.Msg) (w : World) (h : CdAt B k [] false m w) (hx : MsgT w m s x) (ok : x.Good) (hlen : (Mg.enc x).length ≤ 1073741824) :
    GoesHyp k m w (fun kind w1 => kind = x.kind ∧ CdAt B k ((Mg.num 255).enc x.kind) (!decide (x.kind ≤ 255)) m w1 ∧ FrW B w w1)
      (fun kind life n bad w2 => kind = x.kind ∧ life = x.tx.life ∧ n = x.tx.n ∧ bad = (!decide (x.kind ≤ 255) || !Mg.cTx.fit x.tx) ∧ CdAt B k (Mg.pre x) bad m w2 ∧ FrW B w w2)
      (JW B k m x w) where
  c0 := h.cells.2.2.1
  num := by
    refine (numW_u8 B k m [] false m (0 + 0) x.kind 255 w h (hx.cells.at 0 rfl) ok.kind (by decide) (by decide)).mono ?_
    rintro e w1 ⟨rfl, h1, h2⟩
    exact ⟨rfl, x.kind, ok.kind, rfl, h1, h2⟩
  kind := by
    rintro kind w1 ⟨rfl, h1, h2⟩
    exact ⟨h1.cells.2.2.1, ((hx.keep h2).cells.at 0 rfl).cell, ⟨_, h1.cells.2.1⟩, h1.cells.2.2.2⟩
  keep := by
    rintro kind w1 w2 ⟨rfl, h1, h2⟩ hb
    exact ⟨rfl, h1.keep hb, h2.trans (FrW.of_below B hb)⟩
  tx := by
    rintro kind w1 ⟨rfl, h1, h2⟩ _
    refine (txidW B k m _ _ m (0 + 1) x.tx w1 h1 ((hx.keep h2).cells.sub 1 (fun j v hj => by
      match j, hj with
      | 0, hj => simpa using hj
      | 1, hj => simpa using hj)) ok.tx ?_).mono ?_
    · have e : Mg.enc x = (Mg.num 255).enc x.kind ++ (Mg.cTx.enc x.tx ++ Mg.body x) := rfl
      rw [e, List.length_append, List.length_append] at hlen
      omega
    · rintro e w2 ⟨rfl, h3, h4⟩
      exact ⟨rfl, x.tx.life, x.tx.n, _, ⟨rfl, rfl, rfl, rfl, h3, h2.trans h4⟩, h4.keepFn⟩
  txc := by
    rintro kind life n bad w2 ⟨rfl, rfl, rfl, rfl, h1, h2⟩
    exact ⟨h1.cells.2.2.1, h1.cells.2.1, h1.cells.2.2.2, ((hx.keep h2).cells.at 1 rfl).cell, ((hx.keep h2).cells.at 2 rfl).cell⟩
  txj := by
    rintro kind life n bad w2 b ⟨rfl, rfl, rfl, rfl, h1, h2⟩ hb
    obtain ⟨h3, h4⟩ := h1.bad b
    refine ⟨⟨rfl, ?_, h2.trans h4⟩, h4.keepFn⟩
    have e1 : Mg.upto x 0 = Mg.pre x := by unfold Mg.upto; simp
    have e2 : Mg.uptoBad x 0 = b := by unfold Mg.uptoBad Mg.preBad; rw [hb]; simp
    rw [e1, e2]
    exact h3
  part := by
    rintro kind i w2 hi hk ⟨rfl, hc, hf⟩
    have hl := Mg.pieces_len x hk
    have hip : i < (Mg.pieces x).length := by rw [hl]; exact hi
    have hle := Nat.le_trans (Mg.upto_le x i hip) hlen
    have hX := hx.keep hf
    rcases known_cases hk with hq | hq | hq | hq | hq | hq
    · have hpp : Mg.pieces x = [(Mg.cTx.enc x.low, Mg.cTx.fit x.low), (Mg.cHead.enc (x.map, x.parts), Mg.cHead.fit (x.map, x.parts)), (Mg.cAsk.enc x.ask, Mg.cAsk.fit x.ask), ((Mg.list 512 Mg.cRow).enc x.rows, (Mg.list 512 Mg.cRow).fit x.rows), (Mg.cNext.enc (x.next, x.own), Mg.cNext.fit (x.next, x.own))] := by unfold Mg.pieces; rw [if_pos hq]
      have hgf : partsOf x.kind = [fLow, fHead, fAsk, fRows, fNext] := by rw [hq]; rfl
      simp only [hpp] at hle
      simp only [hgf]
      rw [hgf] at hi
      match i, hi with
      | 0, _ =>
        refine (lowW B k m _ _ s x w2 hc hX ok hle).mono ?_
        rintro e w3 ⟨rfl, h1, h2⟩
        exact ⟨rfl, JW.next hip (by simp only [hpp]; rfl) hf h1 h2, h2.keepFn⟩
      | 1, _ =>
        refine (headW B k m _ _ s x w2 hc hX ok hle).mono ?_
        rintro e w3 ⟨rfl, h1, h2⟩
        exact ⟨rfl, JW.next hip (by simp only [hpp]; rfl) hf h1 h2, h2.keepFn⟩
      | 2, _ =>
        refine (askW B k m _ _ s x w2 hc hX ok hle).mono ?_
        rintro e w3 ⟨rfl, h1, h2⟩
        exact ⟨rfl, JW.next hip (by simp only [hpp]; rfl) hf h1 h2, h2.keepFn⟩
      | 3, _ =>
        refine (rowsW B k m _ _ s x w2 hc hX ok hle).mono ?_
        rintro e w3 ⟨rfl, h1, h2⟩
        exact ⟨rfl, JW.next hip (by simp only [hpp]; rfl) hf h1 h2, h2.keepFn⟩
      | 4, _ =>
        refine (nextW B k m _ _ s x w2 hc hX ok hle).mono ?_
        rintro e w3 ⟨rfl, h1, h2⟩
        exact ⟨rfl, JW.next hip (by simp only [hpp]; rfl) hf h1 h2, h2.keepFn⟩
    · have hpp : Mg.pieces x = [((Mg.list 512 Mg.cRow).enc x.rows, (Mg.list 512 Mg.cRow).fit x.rows), (Mg.truth.enc x.commit, true), ((Mg.int 9999).enc x.err, (Mg.int 9999).fit x.err), (Mg.cTold.enc x.told, Mg.cTold.fit x.told)] := by unfold Mg.pieces; rw [if_neg (by omega), if_pos hq]
      have hgf : partsOf x.kind = [fRows, fCommit, fErr, fTold] := by rw [hq]; rfl
      simp only [hpp] at hle
      simp only [hgf]
      rw [hgf] at hi
      match i, hi with
      | 0, _ =>
        refine (rowsW B k m _ _ s x w2 hc hX ok hle).mono ?_
        rintro e w3 ⟨rfl, h1, h2⟩
        exact ⟨rfl, JW.next hip (by simp only [hpp]; rfl) hf h1 h2, h2.keepFn⟩
      | 1, _ =>
        refine (commitW B k m _ _ s x w2 hc hX (Nat.le_trans (Nat.le_add_right _ _) hle)).mono ?_
        rintro e w3 ⟨rfl, h1, h2⟩
        exact ⟨rfl, JW.next hip (f := true) (by simp only [hpp]; rfl) hf (by rw [Bool.not_true, Bool.or_false]; exact h1) h2, h2.keepFn⟩
      | 2, _ =>
        refine (errW B k m _ _ s x w2 hc hX ok (Nat.le_trans (Nat.le_add_right _ _) hle)).mono ?_
        rintro e w3 ⟨rfl, h1, h2⟩
        exact ⟨rfl, JW.next hip (by simp only [hpp]; rfl) hf h1 h2, h2.keepFn⟩
      | 3, _ =>
        refine (toldW B k m _ _ s x w2 hc hX ok hle).mono ?_
        rintro e w3 ⟨rfl, h1, h2⟩
        exact ⟨rfl, JW.next hip (by simp only [hpp]; rfl) hf h1 h2, h2.keepFn⟩
    · have hpp : Mg.pieces x = [(Mg.cTx.enc x.low, Mg.cTx.fit x.low), (Mg.truth.enc x.commit, true)] := by unfold Mg.pieces; rw [if_neg (by omega), if_neg (by omega), if_pos hq]
      have hgf : partsOf x.kind = [fLow, fCommit] := by rw [hq]; rfl
      simp only [hpp] at hle
      simp only [hgf]
      rw [hgf] at hi
      match i, hi with
      | 0, _ =>
        refine (lowW B k m _ _ s x w2 hc hX ok hle).mono ?_
        rintro e w3 ⟨rfl, h1, h2⟩
        exact ⟨rfl, JW.next hip (by simp only [hpp]; rfl) hf h1 h2, h2.keepFn⟩
      | 1, _ =>
        refine (commitW B k m _ _ s x w2 hc hX (Nat.le_trans (Nat.le_add_right _ _) hle)).mono ?_
        rintro e w3 ⟨rfl, h1, h2⟩
        exact ⟨rfl, JW.next hip (f := true) (by simp only [hpp]; rfl) hf (by rw [Bool.not_true, Bool.or_false]; exact h1) h2, h2.keepFn⟩
    · exact absurd hi (by rw [hq]; simp [partsOf])
    · exact absurd hi (by rw [hq]; simp [partsOf])
    · have hpp : Mg.pieces x = [(Mg.cTx.enc x.low, Mg.cTx.fit x.low), ((Mg.num 3).enc x.state, (Mg.num 3).fit x.state && decide (1 ≤ x.state))] := by unfold Mg.pieces; rw [if_neg (by omega), if_neg (by omega), if_neg (by omega), if_pos hq]
      have hgf : partsOf x.kind = [fLow, fState] := by rw [hq]; rfl
      simp only [hpp] at hle
      simp only [hgf]
      rw [hgf] at hi
      match i, hi with
      | 0, _ =>
        refine (lowW B k m _ _ s x w2 hc hX ok hle).mono ?_
        rintro e w3 ⟨rfl, h1, h2⟩
        exact ⟨rfl, JW.next hip (by simp only [hpp]; rfl) hf h1 h2, h2.keepFn⟩
      | 1, _ =>
        refine (stateW B k m _ _ s x w2 hc hX ok (Nat.le_trans (Nat.le_add_right _ _) hle)).mono ?_
        rintro e w3 ⟨rfl, h1, h2⟩
        refine ⟨rfl, JW.next hip (f := (Mg.num 3).fit x.state && decide (1 ≤ x.state)) (by simp only [hpp]; rfl) hf ?_ h2, h2.keepFn⟩
        rw [Bool.not_and, ← Bool.or_assoc]
        exact h1
/-- goes, while it writes. -/
theorem goesW (B k m : Nat) (s : MS) (x : Mg.Msg) (w : World) (h : CdAt B k [] false m w) (hx : MsgT w m s x) (ok : x.Good) (hlen : (Mg.enc x).length ≤ 1073741824) :
    Calls Tryz.prog 52 #[.pointer (some ⟨k, 0, none⟩)] w fun e w' => e = .returned (.tuple #[]) ∧ ∃ (bs : List UInt8) (bad : Bool), CdAt B k bs bad m w' ∧ FrW B w w' ∧ bs ≠ [] ∧ bs.length ≤ (Mg.enc x).length ∧ ((bs = Mg.enc x ∧ bad = !Mg.fits x) ∨ (bad = true ∧ Mg.fits x = false)) := by
  refine (goes_gen k m w _ _ _ (goesW_hyp B k m s x w h hx ok hlen)).mono ?_
  rintro e w' ⟨rfl, kind, hk, ⟨hkn, w2, ⟨rfl, h1, h2⟩, rfl⟩ | ⟨hkn, rfl, h1, h2⟩⟩
  · obtain ⟨h3, h4⟩ := h1.bad true
    have hp := Mg.num_pos 255 x.kind
    refine ⟨rfl, _, true, h3, h2.trans h4, fun e => by rw [e] at hp; simp at hp, ?_, .inr ⟨rfl, ?_⟩⟩
    · unfold Mg.enc; rw [List.length_append]; omega
    · unfold Mg.fits
      have : decide (1 ≤ x.kind ∧ x.kind ≤ 6) = false := hkn
      rw [this]; rfl
  · have hl := Mg.pieces_len x hkn
    rw [← hl, Mg.upto_all x _ rfl, Mg.uptoBad_all x _ rfl hkn] at h1
    have hp := Mg.num_pos 255 x.kind
    refine ⟨rfl, _, _, h1, h2, fun e => ?_, Nat.le_refl _, .inl ⟨rfl, rfl⟩⟩
    have h5 : ((Mg.num 255).enc x.kind ++ (Mg.cTx.enc x.tx ++ Mg.body x)).length = 0 := by
      show (Mg.enc x).length = 0
      rw [e]; rfl
    rw [List.length_append] at h5
    omega

end Go.Proofs.YtjgnomjjphkfbaaGreat

namespace Go.Proofs.YtjgnomjjphkfbaaGreat
open Go.RowKit

theorem OL.cellsT {w W : World} {E : TypeId} {size : Nat} {s : Option Addr} {cap : Nat} {xs : List (List Value)} (h : OL w W E size s cap xs) (h1 : E ≠ 5) (h2 : E ≠ 118) (i : Nat) (hi : i < xs.length) : ∃ g o, s = some ⟨g, o, none⟩ ∧ CellsT W g (o + i * size) xs[i] := by
  obtain ⟨g, o, rfl, cs, t, fr, hg, hl, he⟩ := h.row i hi
  have ht : t = E := by
    rcases h.sl.2 with ⟨h', _⟩ | ⟨g', off', cur, h', hg', _⟩
    · cases h'
    · cases h'
      rw [hg] at hg'
      injection hg' with q
      injection q
  subst ht
  refine ⟨g, o, rfl, cs, t, fr, hg, fun j v hj => ?_, h1, h2⟩
  rw [← he] at hj
  rw [List.getElem?_take] at hj
  split at hj
  · rw [List.getElem?_drop] at hj
    simpa using hj
  · cases hj
theorem OL.listS {α : Type} {f : α → List Value} {w W : World} {E : TypeId} {size : Nat} {s : Option Addr} {cap : Nat} {l : List α} (h : OL w W E size s cap (l.map f)) (h1 : E ≠ 5) (h2 : E ≠ 118) : ListT (fun w g o a => CellsT w g o (f a)) size W s l := fun i hi => by
  obtain ⟨g, o, e, hc⟩ := h.cellsT h1 h2 i (by simpa using hi)
  rw [List.getElem_map] at hc
  exact ⟨g, o, e, hc⟩
theorem OL.list1 {α : Type} {f : α → Value} {w W : World} {E : TypeId} {s : Option Addr} {cap : Nat} {l : List α} (h : OL w W E 1 s cap (l.map fun a => [f a])) (h1 : E ≠ 5) (h2 : E ≠ 118) : ListT (fun w g o a => CellT w g o (f a)) 1 W s l := fun i hi => by
  obtain ⟨g, o, e, hc⟩ := h.cellsT h1 h2 i (by simpa using hi)
  rw [List.getElem_map] at hc
  exact ⟨g, o, e, hc.at 0 rfl⟩
theorem MsgO.listed {w W : World} {s : MS} {x : Mg.Msg} (h : MsgO w W s x) : MsgL W s x := by
  obtain ⟨xs, hr, ho⟩ := h.rows
  refine ⟨h.parts.list1 (by decide) (by decide), h.reads.listS (by decide) (by decide), h.readAt.list1 (by decide) (by decide), h.edits.listS (by decide) (by decide), h.editAt.list1 (by decide) (by decide), fun i hi => ?_,
    h.own.listS (by decide) (by decide), h.got.listS (by decide) (by decide), h.numbers.list1 (by decide) (by decide), h.names.list1 (by decide) (by decide)⟩
  have hx : i < xs.length := by rw [ho.1]; exact hi
  obtain ⟨g, o, e, hc⟩ := hr.cellsT (by decide) (by decide) i hx
  obtain ⟨sv, cv, h1, h2⟩ := ho.2 i hi
  rw [List.getElem?_eq_getElem hx] at h1
  rw [Option.some.inj h1] at hc
  exact ⟨g, o, e, sv, cv, hc, h2.listS (by decide) (by decide)⟩
theorem MsgT.of {w W : World} {m : Nat} {s : MS} {x : Mg.Msg} (hb : W.heap[m]? = some (.cells (MV s x) 43 (0, 0))) (h : MsgO w W s x) : MsgT W m s x :=
  ⟨⟨_, _, _, hb, fun i v hv => by
    rw [Nat.zero_add]
    unfold MV
    simpa using hv, by decide, by decide⟩, h.listed⟩
theorem CdAt.new {B k m : Nat} {w : World} (lo : B ≤ k) (hi : B ≤ w.heap.size) (hk : w.heap[k]? = some (.cells #[.pointer none, .pointer none, .slice none 0 0, .bool false, .pointer (some ⟨m, 0, none⟩)] 118 (0, 0))) : CdAt B k [] false m w :=
  ⟨lo, hi, .pointer none, .slice none 0 0, hk, .inl rfl, by
    refine ⟨by simp [Lib.byteCells], .inl ⟨rfl, by simp [Lib.byteCells]⟩⟩⟩

namespace Mg
/-- May a message be? -/
def may (x : Msg) : Bool := fit x && decide ((enc x).length ≤ 65536)
theorem may_of_written {x : Msg} (hf : fits x = true) (hl : (enc x).length ≤ 65536) : ((decF (enc x)).isSome && decide ((decF (enc x)).getD msg0 = x)) = may x := by
  unfold may
  rw [decide_eq_true hl, Bool.and_true]
  unfold decF
  rw [if_pos hl]
  cases hq : fit x with
  | true => rw [dec_enc x hq]; simp
  | false =>
    cases hd : dec (enc x) with
    | none => rfl
    | some y =>
      have h1 := (dec_some hd).2
      simp only [Option.isSome_some, Bool.true_and, Option.getD_some]
      rw [decide_eq_false]
      rintro rfl
      rw [h1] at hq
      cases hq
theorem may_not {x : Msg} (h : fits x = false ∨ 65536 < (enc x).length) : may x = false := by
  unfold may fit
  rcases h with h | h
  · rw [h]; rfl
  · rw [decide_eq_false (p := (enc x).length ≤ 65536) (by omega), Bool.and_false]
end Mg

end Go.Proofs.YtjgnomjjphkfbaaGreat

namespace Go.Proofs.YtjgnomjjphkfbaaGreat
open Go.RowKit

namespace Mg
theorem num_fit {most x : Nat} (h : (num most).fit x = true) : x ≤ most := of_decide_eq_true h
theorem text_fit {most : Nat} {t : ByteArray} (h : (text most).fit t = true) : t.size ≤ most := of_decide_eq_true h
theorem int_fit {most : Nat} {x : Int} (h : (int most).fit x = true) : 0 ≤ x ∧ x ≤ most := by
  simpa [int] using h
theorem seq_fit {α β : Type} {c : Codec α} {d : Codec β} {p : α × β} (h : (seq c d).fit p = true) : c.fit p.1 = true ∧ d.fit p.2 = true := by
  simpa [seq] using h
theorem list_fit {α : Type} {most : Nat} {c : Codec α} {l : List α} (h : (list most c).fit l = true) : (∀ a ∈ l, c.fit a = true) ∧ l.length ≤ most := by
  have h2 : l.length ≤ most ∧ ∀ a ∈ l, c.fit a = true := by simpa [list] using h
  exact ⟨h2.2, h2.1⟩
theorem tx_good {t : Tx} (h : cTx.fit t = true) : t.Good := by
  obtain ⟨h1, h2⟩ := seq_fit (c := num 4611686018427387904) (d := num 4611686018427387904) (p := (t.life, t.n)) h
  have h1 := num_fit h1
  have h2 := num_fit h2
  exact ⟨by unfold ok64; simp only at h1; omega, by unfold ok64; simp only at h2; omega⟩
theorem rng_good {t : Rng} (h : cRng.fit t = true) : t.Good := by
  obtain ⟨h1, h2⟩ := seq_fit (c := num All) (d := num All) (p := (t.frm, t.top)) h
  have h1 := num_fit h1
  have h2 := num_fit h2
  unfold All at h1 h2
  exact ⟨by unfold ok64; simp only at h1; omega, by unfold ok64; simp only at h2; omega⟩
theorem rd_good {t : Rd} (h : cRd.fit t = true) : t.Good := by
  obtain ⟨h1, h2⟩ := seq_fit (c := text 129) (d := num All) (p := (t.p, t.n)) h
  have h1 := text_fit h1
  have h2 := num_fit h2
  unfold All at h2
  exact ⟨by unfold okT; simp only at h1; omega, by unfold ok64; simp only at h2; omega⟩
theorem ver_good {t : Ver} (h : cVer.fit t = true) : t.Good := by
  obtain ⟨h1, h2⟩ := seq_fit (c := num All) (d := seq (num 255) (text 4096)) (p := (t.n, t.st, t.t)) h
  obtain ⟨h2, h3⟩ := seq_fit h2
  have h1 := num_fit h1
  have h2 := num_fit h2
  have h3 := text_fit h3
  unfold All at h1
  exact ⟨by unfold ok64; simp only at h1; omega, by simp only at h2; omega, by unfold okT; simp only at h3; omega⟩
theorem ed_good {t : Ed} (h : cEd.fit t = true) : t.Good := by
  obtain ⟨h1, h2⟩ := seq_fit (c := num 255) (d := seq (text 129) (seq truth (seq (num All) (seq (num All) (text 4096))))) (p := (t.kind, t.p, t.any, t.want, t.n, t.t)) h
  obtain ⟨h2, h3⟩ := seq_fit h2
  obtain ⟨_, h3⟩ := seq_fit h3
  obtain ⟨h3, h4⟩ := seq_fit h3
  obtain ⟨h4, h5⟩ := seq_fit h4
  have h1 := num_fit h1
  have h2 := text_fit h2
  have h3 := num_fit h3
  have h4 := num_fit h4
  have h5 := text_fit h5
  unfold All at h3 h4
  exact ⟨by simp only at h1; omega, by unfold okT; simp only at h2; omega, by unfold ok64; simp only at h3; omega, by unfold ok64; simp only at h4; omega, by unfold okT; simp only at h5; omega⟩
theorem row_good {t : Row} (h : cRow.fit t = true) : t.Good := by
  obtain ⟨h1, h2⟩ := seq_fit (c := text 129) (d := seq (num All) (list 512 cVer)) (p := (t.p, t.last, t.l)) h
  obtain ⟨h2, h3⟩ := seq_fit h2
  have h1 := text_fit h1
  have h2 := num_fit h2
  obtain ⟨h3, h4⟩ := list_fit h3
  unfold All at h2
  exact ⟨by unfold okT; simp only at h1; omega, by unfold ok64; simp only at h2; omega, fun v hv => ver_good (h3 v hv), by simp only at h4; omega⟩
theorem got_good {t : Got} (h : cGot.fit t = true) : t.Good := by
  obtain ⟨h1, h2⟩ := seq_fit (c := cVer) (d := int 9999) (p := (t.v, t.err)) h
  have h2 := int_fit h2
  exact ⟨ver_good h1, by simp only at h2; omega⟩
def goodAsk (a : Ask) : Prop := cAsk.fit a = true ∨ a = ask0
def goodTold (a : Told) : Prop := cTold.fit a = true ∨ a = told0
theorem good_of {x : Msg} (hk : x.kind < 256) (ht : cTx.fit x.tx = true) (hl : cTx.fit x.low = true) (hm : x.map ≤ All) (hp : (list 512 (num 4294967295)).fit x.parts = true) (ha : goodAsk x.ask) (hr : (list 512 cRow).fit x.rows = true) (hn : x.next ≤ All) (ho : (list 512 cRng).fit x.own = true) (he : (int 9999).fit x.err = true) (hd : goodTold x.told) (hs : x.state < 256) : x.Good := by
  unfold All at hm hn
  obtain ⟨p1, p2⟩ := list_fit hp
  obtain ⟨r1, r2⟩ := list_fit hr
  obtain ⟨o1, o2⟩ := list_fit ho
  have he := int_fit he
  have A : x.ask.shard < 4294967296 ∧ ((∀ a ∈ x.ask.reads, a.Good) ∧ x.ask.reads.length ≤ 100000) ∧ ((∀ a ∈ x.ask.readAt, -9223372036854775808 ≤ a ∧ a ≤ 9223372036854775807) ∧ x.ask.readAt.length ≤ 100000) ∧ ((∀ a ∈ x.ask.edits, a.Good) ∧ x.ask.edits.length ≤ 100000) ∧ ((∀ a ∈ x.ask.editAt, -9223372036854775808 ≤ a ∧ a ≤ 9223372036854775807) ∧ x.ask.editAt.length ≤ 100000) ∧ okT x.ask.pre ∧ x.ask.range.Good := by
    rcases ha with ha | ha
    · obtain ⟨h1, h2⟩ := seq_fit (c := num 4294967295) (d := seq (list 512 cRd) (seq (list 512 (int 512)) (seq (list 512 cEd) (seq (list 512 (int 512)) (seq truth (seq (text 129) (seq truth (seq truth cRng)))))))) (p := (x.ask.shard, x.ask.reads, x.ask.readAt, x.ask.edits, x.ask.editAt, x.ask.list, x.ask.pre, x.ask.give, x.ask.take, x.ask.range)) ha
      obtain ⟨h2, h3⟩ := seq_fit h2
      obtain ⟨h3, h4⟩ := seq_fit h3
      obtain ⟨h4, h5⟩ := seq_fit h4
      obtain ⟨h5, h6⟩ := seq_fit h5
      obtain ⟨_, h6⟩ := seq_fit h6
      obtain ⟨h7, h8⟩ := seq_fit h6
      obtain ⟨_, h8⟩ := seq_fit h8
      obtain ⟨_, h8⟩ := seq_fit h8
      have h1 := num_fit h1
      obtain ⟨a2, b2⟩ := list_fit h2
      obtain ⟨a3, b3⟩ := list_fit h3
      obtain ⟨a4, b4⟩ := list_fit h4
      obtain ⟨a5, b5⟩ := list_fit h5
      have h7 := text_fit h7
      simp only at h1 h7 b2 b3 b4 b5
      exact ⟨by omega, ⟨fun a h => rd_good (a2 a h), by omega⟩, ⟨fun a h => (by have := int_fit (a3 a h); omega), by omega⟩, ⟨fun a h => ed_good (a4 a h), by omega⟩, ⟨fun a h => (by have := int_fit (a5 a h); omega), by omega⟩, by unfold okT; omega, rng_good h8⟩
    · rw [ha]
      exact ⟨by decide, ⟨by simp [ask0], by decide⟩, ⟨by simp [ask0], by decide⟩, ⟨by simp [ask0], by decide⟩, ⟨by simp [ask0], by decide⟩, by decide, ⟨by decide, by decide⟩⟩
  have B : x.told.shard < 4294967296 ∧ ((∀ a ∈ x.told.got, a.Good) ∧ x.told.got.length ≤ 100000) ∧ ((∀ a ∈ x.told.numbers, ok64 a) ∧ x.told.numbers.length ≤ 100000) ∧ ((∀ a ∈ x.told.names, okT a) ∧ x.told.names.length ≤ 100000) := by
    rcases hd with hd | hd
    · obtain ⟨h1, h2⟩ := seq_fit (c := num 4294967295) (d := seq (list 512 cGot) (seq (list 512 (num All)) (list 512 (text 129)))) (p := (x.told.shard, x.told.got, x.told.numbers, x.told.names)) hd
      obtain ⟨h2, h3⟩ := seq_fit h2
      obtain ⟨h3, h4⟩ := seq_fit h3
      have h1 := num_fit h1
      obtain ⟨a2, b2⟩ := list_fit h2
      obtain ⟨a3, b3⟩ := list_fit h3
      obtain ⟨a4, b4⟩ := list_fit h4
      simp only at h1 b2 b3 b4
      exact ⟨by omega, ⟨fun a h => got_good (a2 a h), by omega⟩, ⟨fun a h => (by have := num_fit (a3 a h); unfold All at this; unfold ok64; omega), by omega⟩, ⟨fun a h => (by have := text_fit (a4 a h); unfold okT; omega), by omega⟩⟩
    · rw [hd]
      exact ⟨by decide, ⟨by simp [told0], by decide⟩, ⟨by simp [told0], by decide⟩, ⟨by simp [told0], by decide⟩⟩
  exact ⟨hk, tx_good ht, tx_good hl, by unfold ok64; omega, ⟨fun a h => (by have := num_fit (p1 a h); omega), by omega⟩, A.1, A.2.1, A.2.2.1, A.2.2.2.1, A.2.2.2.2.1, A.2.2.2.2.2.1, A.2.2.2.2.2.2, ⟨fun a h => row_good (r1 a h), by omega⟩, by unfold ok64; omega, ⟨fun a h => rng_good (o1 a h), by omega⟩, by omega, B.1, B.2.1, B.2.2.1, B.2.2.2, hs⟩
theorem good0 : msg0.Good := good_of (by decide) (by decide) (by decide) (by decide) (by decide) (.inr rfl) (by decide) (by decide) (by decide) (by decide) (.inr rfl) (by decide)
theorem fit_good {x : Msg} (h : fit x = true) : x.Good := by
  unfold fit fits at h
  simp only [Bool.and_eq_true, decide_eq_true_eq] at h
  obtain ⟨⟨⟨hk, ht, _⟩, hb⟩, ho⟩ := h
  unfold bodyFit at hb
  unfold only at ho
  by_cases h1 : x.kind = 1
  · rw [if_pos h1] at hb ho
    obtain ⟨a1, hb⟩ := seq_fit hb
    obtain ⟨a2, hb⟩ := seq_fit hb
    obtain ⟨a3, hb⟩ := seq_fit hb
    obtain ⟨a4, a5⟩ := seq_fit hb
    obtain ⟨b1, b2⟩ := seq_fit a2
    obtain ⟨b3, b4⟩ := seq_fit a5
    exact good_of (by omega) ht a1 (num_fit b1) b2 (.inl a3) a4 (num_fit b3) b4 (by have e := congrArg Msg.err ho; have e : x.err = msg0.err := e; rw [e]; decide) (.inr (congrArg Msg.told ho)) (by have e := congrArg Msg.state ho; have e : x.state = msg0.state := e; rw [e]; decide)
  rw [if_neg h1] at hb ho
  by_cases h2 : x.kind = 2
  · rw [if_pos h2] at hb ho
    obtain ⟨a1, hb⟩ := seq_fit hb
    obtain ⟨_, hb⟩ := seq_fit hb
    obtain ⟨a2, a3⟩ := seq_fit hb
    exact good_of (by omega) ht (by have e := congrArg Msg.low ho; have e : x.low = msg0.low := e; rw [e]; decide) (by have e := congrArg Msg.map ho; have e : x.map = msg0.map := e; rw [e]; decide) (by have e := congrArg Msg.parts ho; have e : x.parts = msg0.parts := e; rw [e]; decide) (.inr (congrArg Msg.ask ho)) a1 (by have e := congrArg Msg.next ho; have e : x.next = msg0.next := e; rw [e]; decide) (by have e := congrArg Msg.own ho; have e : x.own = msg0.own := e; rw [e]; decide) a2 (.inl a3) (by have e := congrArg Msg.state ho; have e : x.state = msg0.state := e; rw [e]; decide)
  rw [if_neg h2] at hb ho
  by_cases h3 : x.kind = 3
  · rw [if_pos h3] at hb ho
    obtain ⟨a1, _⟩ := seq_fit hb
    exact good_of (by omega) ht a1 (by have e := congrArg Msg.map ho; have e : x.map = msg0.map := e; rw [e]; decide) (by have e := congrArg Msg.parts ho; have e : x.parts = msg0.parts := e; rw [e]; decide) (.inr (congrArg Msg.ask ho)) (by have e := congrArg Msg.rows ho; have e : x.rows = msg0.rows := e; rw [e]; decide) (by have e := congrArg Msg.next ho; have e : x.next = msg0.next := e; rw [e]; decide) (by have e := congrArg Msg.own ho; have e : x.own = msg0.own := e; rw [e]; decide) (by have e := congrArg Msg.err ho; have e : x.err = msg0.err := e; rw [e]; decide) (.inr (congrArg Msg.told ho)) (by have e := congrArg Msg.state ho; have e : x.state = msg0.state := e; rw [e]; decide)
  rw [if_neg h3] at hb ho
  by_cases h6 : x.kind = 6
  · rw [if_pos h6] at hb ho
    simp only [Bool.and_eq_true] at hb
    obtain ⟨a1, a2⟩ := seq_fit hb.1
    have a2 := num_fit a2
    simp only at a2
    exact good_of (by omega) ht a1 (by have e := congrArg Msg.map ho; have e : x.map = msg0.map := e; rw [e]; decide) (by have e := congrArg Msg.parts ho; have e : x.parts = msg0.parts := e; rw [e]; decide) (.inr (congrArg Msg.ask ho)) (by have e := congrArg Msg.rows ho; have e : x.rows = msg0.rows := e; rw [e]; decide) (by have e := congrArg Msg.next ho; have e : x.next = msg0.next := e; rw [e]; decide) (by have e := congrArg Msg.own ho; have e : x.own = msg0.own := e; rw [e]; decide) (by have e := congrArg Msg.err ho; have e : x.err = msg0.err := e; rw [e]; decide) (.inr (congrArg Msg.told ho)) (by omega)
  rw [if_neg h6] at ho
  exact good_of (by omega) ht (by have e := congrArg Msg.low ho; have e : x.low = msg0.low := e; rw [e]; decide) (by have e := congrArg Msg.map ho; have e : x.map = msg0.map := e; rw [e]; decide) (by have e := congrArg Msg.parts ho; have e : x.parts = msg0.parts := e; rw [e]; decide) (.inr (congrArg Msg.ask ho)) (by have e := congrArg Msg.rows ho; have e : x.rows = msg0.rows := e; rw [e]; decide) (by have e := congrArg Msg.next ho; have e : x.next = msg0.next := e; rw [e]; decide) (by have e := congrArg Msg.own ho; have e : x.own = msg0.own := e; rw [e]; decide) (by have e := congrArg Msg.err ho; have e : x.err = msg0.err := e; rw [e]; decide) (.inr (congrArg Msg.told ho)) (by have e := congrArg Msg.state ho; have e : x.state = msg0.state := e; rw [e]; decide)
end Mg

end Go.Proofs.YtjgnomjjphkfbaaGreat
