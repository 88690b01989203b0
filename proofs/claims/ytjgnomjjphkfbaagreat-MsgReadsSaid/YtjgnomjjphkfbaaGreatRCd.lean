/-
  Joined out of the texts MsgCd MsgCd2 MsgNum MsgNumI MsgNumU MsgText MsgStruct MsgStruct2.
-/
import Derived.Test.YtjgnomjjphkfbaaGreatRPlain
import Derived.Test.YtjgnomjjphkfbaaGreatRWire
import Derived.Test.YtjgnomjjphkfbaaGreatRBase
import Derived.Lib.AppendStr
import Derived.Lib.UnsafeStr
import Derived.Deep.DeepCutAuto
import Derived.Deep.RegionHeld3
namespace Go.Proofs.YtjgnomjjphkfbaaGreat
open Go.RowKit

/-- What a call that writes leaves: all that was there ahead of block B, and every block but rows of bytes and coders. -/
structure FrW (B : Nat) (w w' : World) : Prop where
  os : w'.os = w.os
  tape : w'.tape = w.tape
  output : w'.output = w.output
  size : w.heap.size ≤ w'.heap.size
  low : ∀ i, i < B → i < w.heap.size → w'.heap[i]? = w.heap[i]?
  typ : ∀ i, i < w.heap.size → (∀ cs fr, w.heap[i]? ≠ some (.cells cs 5 fr)) → (∀ cs fr, w.heap[i]? ≠ some (.cells cs 118 fr)) → w'.heap[i]? = w.heap[i]?
theorem FrW.refl (B : Nat) (w : World) : FrW B w w := ⟨rfl, rfl, rfl, Nat.le_refl _, fun _ _ _ => rfl, fun _ _ _ _ => rfl⟩
theorem FrW.trans {B : Nat} {w w1 w2 : World} (h : FrW B w w1) (k : FrW B w1 w2) : FrW B w w2 :=
  ⟨k.os.trans h.os, k.tape.trans h.tape, k.output.trans h.output, Nat.le_trans h.size k.size,
   fun i hi hs => (k.low i hi (Nat.lt_of_lt_of_le hs h.size)).trans (h.low i hi hs),
   fun i hs h1 h2 => by
    have e := h.typ i hs h1 h2
    exact (k.typ i (Nat.lt_of_lt_of_le hs h.size) (by rw [e]; exact h1) (by rw [e]; exact h2)).trans e⟩
theorem FrW.of_below (B : Nat) {w w1 : World} (h : Below w.heap.size w w1) : FrW B w w1 := ⟨h.os, h.tape, h.output, h.size, fun i _ hs => h.block i hs, fun i hs _ _ => h.block i hs⟩
theorem FrW.drew {B : Nat} {w w1 : World} (h : FrW B w w1) : FrW B w w1.drew := ⟨h.os, h.tape, h.output, h.size, h.low, h.typ⟩
/-- A block of another type stays. -/
theorem FrW.keep {B : Nat} {w w1 : World} (h : FrW B w w1) {i : Nat} {cs : Array Value} {t : TypeId} {fr : Nat × Nat} (hb : w.heap[i]? = some (.cells cs t fr)) (h1 : t ≠ 5) (h2 : t ≠ 118) : w1.heap[i]? = some (.cells cs t fr) := by
  rw [h.typ i (blk_lt hb) (fun cs' fr' e => by rw [hb] at e; cases e; exact h1 rfl) (fun cs' fr' e => by rw [hb] at e; cases e; exact h2 rfl)]
  exact hb
theorem FrW.below {B : Nat} {w w1 : World} (h : FrW B w w1) (hB : B ≤ w.heap.size) : Below B w w1 := ⟨h.os, h.tape, h.output, h.size, fun i hi => h.low i hi (by omega)⟩

/-- The coder at block k: it writes; its bytes; whether any may not be; its message's block. -/
structure CdAt (B k : Nat) (bs : List UInt8) (bad : Bool) (m : Nat) (w : World) : Prop where
  lo : B ≤ k
  hi : B ≤ w.heap.size
  ex : ∃ p v, w.heap[k]? = some (.cells #[.pointer none, p, v, .bool bad, .pointer (some ⟨m, 0, none⟩)] 118 (0, 0)) ∧ (p = .pointer none ∨ p = .pointer (some ⟨k, 1, none⟩)) ∧ w.ownsRow B 5 1 v (Lib.byteCells bs).length (Lib.byteCells bs)
theorem own_type {w : World} {B : Nat} {e : TypeId} {size : Nat} {v : Value} {n : Nat} {xs : List Value} (h : w.ownsRow B e size v n xs) {i : Nat} (hi : v.ownBlock = some i) : B ≤ i ∧ ∃ cs fr, w.heap[i]? = some (.cells cs e fr) := by
  rcases h.2 with ⟨rfl, _⟩ | ⟨g, cap, cur, rfl, hb, hg, _⟩
  · cases hi
  · simp only [Value.ownBlock, Option.some.injEq] at hi
    subst hi
    exact ⟨hb, cur, _, hg⟩
theorem CdAt.keep {B k m : Nat} {bs : List UInt8} {bad : Bool} {w w' : World} (h : CdAt B k bs bad m w) (hb : Below w.heap.size w w') : CdAt B k bs bad m w' := by
  obtain ⟨p, v, h1, h2, h3⟩ := h.ex
  refine ⟨h.lo, Nat.le_trans h.hi hb.size, p, v, (hb.block k (blk_lt h1)).trans h1, h2, h3.1, ?_⟩
  rcases h3.2 with h4 | ⟨g, cap, cur, e1, e2, e3, e4⟩
  · exact .inl h4
  · exact .inr ⟨g, cap, cur, e1, e2, (hb.block g (blk_lt e3)).trans e3, e4⟩

theorem cdLies : liesAt Tryz.prog Tryz.prog.depth 118 (5 / Tryz.prog.cellsOf 118) 1 116 1 = true := by kernel_rfl

theorem CdAt.set {B k m : Nat} {bs : List UInt8} {bad : Bool} {w w' : World} {p v : Value} (lo : B ≤ k) (hi : B ≤ w'.heap.size) (hk : w'.heap[k]? = some (.cells #[.pointer none, p, v, .bool bad, .pointer (some ⟨m, 0, none⟩)] 118 (0, 0))) (hp : p = .pointer none ∨ p = .pointer (some ⟨k, 1, none⟩))
    (ho : w.ownsRow B 5 1 v (Lib.byteCells bs).length (Lib.byteCells bs)) (hkeep : ∀ i, v.ownBlock = some i → w'.heap[i]? = w.heap[i]?) : CdAt B k bs bad m w' := by
  refine ⟨lo, hi, p, v, hk, hp, ho.1, ?_⟩
  rcases ho.2 with h4 | ⟨g, cap, cur, e1, e2, e3, e4⟩
  · exact .inl h4
  · exact .inr ⟨g, cap, cur, e1, e2, (hkeep g (by rw [e1]; rfl)).trans e3, e4⟩
/-- A cell of the coder's block is stored. -/
theorem FrW.cell {B k : Nat} {w w1 : World} (h : FrW B w w1) {cs : Array Value} {fr : Nat × Nat} (hk : w.heap[k]? = some (.cells cs 118 fr)) (hB : B ≤ k) (o : Nat) (u : Value) : FrW B w (w1.setCell ⟨k, o, none⟩ u) :=
  ⟨h.os, h.tape, h.output, by have := h.size; simpa [World.setCell] using this,
   fun i hi hs => by
    rw [heap_setCell_other _ _ _ _ (by have : i ≠ k := by omega
                                       exact this)]
    exact h.low i hi hs,
   fun i hs h1 h2 => by
    rw [heap_setCell_other _ _ _ _ (by have : i ≠ k := fun e => h2 _ _ (by rw [e]; exact hk)
                                       exact this)]
    exact h.typ i hs h1 h2⟩

attribute [local go_sem ↓ high] appSem_eq
set_option maxRecDepth 20000 in
set_option maxHeartbeats 1000000 in
theorem cd_check (B k m : Nat) (bs : List UInt8) (bad : Bool) (w : World) (h : CdAt B k bs bad m w) :
    Calls Tryz.prog 131 #[.pointer (some ⟨k, 1, none⟩)] w fun e w' => e = .returned (.tuple #[]) ∧
      (∃ v, w'.heap[k]? = some (.cells #[.pointer none, .pointer (some ⟨k, 1, none⟩), v, .bool bad, .pointer (some ⟨m, 0, none⟩)] 118 (0, 0)) ∧ w'.ownsRow B 5 1 v (Lib.byteCells bs).length (Lib.byteCells bs)) ∧ FrW B w w' := by
  obtain ⟨j, hj, hjs⟩ := Option.map_eq_some_iff.1 bldInfo
  obtain ⟨p, v, hk, hp, ho⟩ := h.ex
  have HK := Lib.hid hk
  have HO := Lib.hid ho
  have HH := Lib.hid h
  have h0 : w.cell? ⟨k, 1, none⟩ = some p := by rw [cell_of_row _ _ _ _ _ _ hk]; rfl
  have hsh : w.shape? k = some (118, 5) := by simp [World.shape?, hk]
  have hfz : w.frozen? ⟨k, 1, none⟩ = false := frozen_of_row w k 1 _ _ hk
  rcases hp with rfl | rfl
  · have r1 := Lib.run_to_unsafe w ⟨k, 1, none⟩ Tryz.underlying114 Tryz.underlying230 hj (by rw [hjs]; decide) hsh (show (1 : Nat) < 5 by decide)
    have r2 := Lib.run_from_unsafe w ⟨k, 1, none⟩ Tryz.underlying230 Tryz.underlying114 hj hsh cdLies
    clear h hk ho
    go_enter Tryz.func131, Tryz.ntmps131
    go_wp2
    rw [run_callFunc_extern Tryz.func144 (by kernel_rfl) (by kernel_rfl) (by kernel_rfl) (e := Extern.AbiNoEscape.same) (by kernel_rfl)]
    rw [Lib.run_noEscape]
    simp only [Result.andThen]
    rw [Oper.upon_value]
    go_wp2
    go_end0
    refine ⟨rfl, ⟨v, by rw [heap_set _ HK.out]; rfl, HO.out.1, ?_⟩, (FrW.refl B w).cell HK.out HH.out.lo _ _⟩
    rcases HO.out.2 with h4 | ⟨g, cap, cur, e1, e2, e3, e4⟩
    · exact .inl h4
    · refine .inr ⟨g, cap, cur, e1, e2, ?_, e4⟩
      rw [heap_setCell_other _ _ _ _ (by
        have : g ≠ k := fun e => by rw [e, HK.out] at e3; cases e3
        exact this)]
      exact e3
  · have r1 := Lib.run_neq_ptr_same w ⟨k, 1, none⟩ Tryz.underlying114 hj
    clear h hk ho
    go_enter Tryz.func131, Tryz.ntmps131
    go_wp2
    go_end0
    exact ⟨rfl, ⟨v, HK.out, HO.out⟩, FrW.refl B _⟩

theorem L_cells (t : ByteArray) : Lib.strCells t = Lib.byteCells (L t) := rfl

set_option maxRecDepth 20000 in
set_option maxHeartbeats 1000000 in
/-- A text behind what is written. -/
theorem cd_string (B k m : Nat) (bs : List UInt8) (bad : Bool) (t : ByteArray) (w : World) (h : CdAt B k bs bad m w) (hlen : bs.length + t.size ≤ 140737488355328) :
    Calls Tryz.prog 99 #[.pointer (some ⟨k, 1, none⟩), .string t] w fun e w' => e = .returned (.tuple #[.int .i64 t.size, .nilIface]) ∧ CdAt B k (bs ++ L t) bad m w' ∧ FrW B w w' := by
  obtain ⟨i0, hi, hz0, hz1, hz2⟩ := info_parts byteInfo
  have HC := Lib.hid (cd_check B k m bs bad w h)
  have HL := Lib.hid hlen
  have HH := Lib.hid h
  have htI : (0 : Int) ≤ t.size ∧ (t.size : Int) ≤ 140737488355328 := by omega
  clear hlen h
  go_enter Tryz.func99, Tryz.ntmps99
  go_wp2_with fail
  refine HC.out.mono ?_
  rintro e w1 ⟨rfl, ⟨v, hk, ho⟩, hf1⟩
  have c2 : w1.cell? ⟨k, 2, none⟩ = some v := by rw [cell_of_row _ _ _ _ _ _ hk]; rfl
  obtain ⟨v', w2, hr, ho2, hgrow, _⟩ := Lib.run_append_own_string (P := Tryz.prog) (w := w1) B 76 9 76 5 i0 Tryz.underlying76 Tryz.underlying9 hi hz0 hz1 hz2 v (Lib.byteCells bs).length (Lib.byteCells bs) ho t
    (by have := HL.out; rw [Lib.byteCells_length]; unfold maxLen; omega) (by have := HL.out; rw [Lib.byteCells_length]; omega) (Nat.le_trans HH.out.hi hf1.size)
  change (appSem _ _ _).run _ _ = _ at hr
  have hne : some k ≠ v.ownBlock := fun e => by
    obtain ⟨_, cs, fr, h2⟩ := own_type ho e.symm
    rw [hk] at h2; cases h2
  have hk2 : w2.heap[k]? = some (.cells #[.pointer none, .pointer (some ⟨k, 1, none⟩), v, .bool bad, .pointer (some ⟨m, 0, none⟩)] 118 (0, 0)) := (hgrow.block k (blk_lt hk) hne).trans hk
  have d2 : w2.cell? ⟨k, 2, none⟩ = some v := by rw [cell_of_row _ _ _ _ _ _ hk2]; rfl
  have d3 : w2.frozen? ⟨k, 2, none⟩ = false := frozen_of_row w2 k 2 _ _ hk2
  have hf2 : FrW B w1 w2 := ⟨hgrow.os, hgrow.tape, hgrow.output, hgrow.size,
    fun i hi hs => hgrow.block i hs (fun e => by have := (own_type ho e.symm).1; omega),
    fun i hs h1 h2 => hgrow.block i hs (fun e => by obtain ⟨_, cs, fr, h3⟩ := own_type ho e.symm; exact h1 cs fr h3)⟩
  have HK2 := Lib.hid hk2
  have HO2 := Lib.hid ho2
  have HF := Lib.hid (hf1.trans hf2)
  have HF2 := Lib.hid (hf2.cell hk HH.out.lo 2 v')
  have HF1 := Lib.hid hf1
  obtain ⟨a', cap', hv', _, _⟩ := SliceIs.of_own ho2
  subst hv'
  clear hk ho ho2 hgrow hne hk2 hf1 hf2
  go_wp2_with fail
  refine bodyPost_ret (v := .tuple #[.int .i64 t.size, .nilIface]) (by simp [results, Tryz.results99, go_sem]) rfl ?_
  refine ⟨rfl, CdAt.set (p := .pointer (some ⟨k, 1, none⟩)) HH.out.lo ?_ ?_ (.inr rfl) (w := w2) (v := .slice a' ((Lib.byteCells bs).length + t.size) cap') ?_ ?_, HF1.out.trans HF2.out⟩
  · have := HF.out.size
    have := HH.out.hi
    simp [World.setCell]; omega
  · rw [heap_set _ HK2.out]; rfl
  · have h2 := HO2.out
    rw [L_cells] at h2
    have e : Lib.byteCells (bs ++ L t) = Lib.byteCells bs ++ Lib.byteCells (L t) := by simp [Lib.byteCells]
    have e2 : (Lib.byteCells bs ++ Lib.byteCells (L t)).length = (Lib.byteCells bs).length + t.size := by simp [Lib.byteCells_length]
    rw [e, e2]
    exact h2
  · intro i hi
    have h3 := own_type HO2.out hi
    obtain ⟨_, cs, fr, h4⟩ := h3
    rw [heap_setCell_other _ _ _ _ (by
      have : i ≠ k := fun e => by rw [e, HK2.out] at h4; cases h4
      exact this)]

end Go.Proofs.YtjgnomjjphkfbaaGreat

namespace Go.Proofs.YtjgnomjjphkfbaaGreat
open Go.RowKit

theorem freeze_other (w : World) (g n j : Nat) (h : j ≠ g) : (w.freeze ⟨g, 0, none⟩ n).heap[j]? = w.heap[j]? := by
  unfold World.freeze
  split
  · rfl
  · simp only [Array.getElem?_modify]
    rw [if_neg (by simpa using fun e => h e.symm)]
theorem freeze_size (w : World) (a : Addr) (n : Nat) : (w.freeze a n).heap.size = w.heap.size := by
  unfold World.freeze
  split
  · rfl
  · simp
theorem freeze_rest (w : World) (a : Addr) (n : Nat) : (w.freeze a n).os = w.os ∧ (w.freeze a n).tape = w.tape ∧ (w.freeze a n).output = w.output := by
  unfold World.freeze
  split <;> exact ⟨rfl, rfl, rfl⟩

attribute [local go_sem ↓ high] appSem_eq
set_option maxRecDepth 20000 in
set_option maxHeartbeats 1000000 in
theorem cd_text (B k m : Nat) (bs : List UInt8) (bad : Bool) (w : World) (h : CdAt B k bs bad m w) (h0 : bs ≠ []) (hlen : bs.length ≤ 140737488355328) :
    Calls Tryz.prog 53 #[.pointer (some ⟨k, 1, none⟩)] w fun e w' => e = .returned (.string (S bs)) ∧ FrW B w w' ∧ w'.cell? ⟨k, 3, none⟩ = some (.bool bad) := by
  obtain ⟨p, v, hk, hp, ho⟩ := h.ex
  have HK := Lib.hid hk
  have HH := Lib.hid h
  have HL := Lib.hid hlen
  have hl0 := List.length_pos_iff.2 h0
  rcases ho.2 with ⟨_, h4⟩ | ⟨g, cap, cur, rfl, hB, hg, h1, h2, h3, h4⟩
  · rw [Lib.byteCells_length] at h4; omega
  rw [Lib.byteCells_length] at h1 h4 hk
  have c2 : w.drew.cell? ⟨k, 2, none⟩ = some (.slice (some ⟨g, 0, none⟩) bs.length cap) := by rw [cell_of_row _ _ _ _ _ _ (show w.drew.heap[k]? = _ from hk)]; rfl
  have hcell : ∀ (j : Nat) (x : UInt8), bs[j]? = some x → w.drew.cell? ((⟨g, 0, none⟩ : Addr).add j) = some (.int .u8 x.toNat) := fun j x hj => by
    obtain ⟨hjl, hx⟩ := List.getElem?_eq_some_iff.1 hj
    have hcj : cur[j]? = some (.int .u8 x.toNat) := by
      have e1 : (cur.toList.take (bs.length * 1))[j]? = some (.int .u8 x.toNat) := by rw [h4]; simp [Lib.byteCells, hj]
      rw [List.getElem?_take] at e1
      split at e1
      · simpa using e1
      · cases e1
    rw [Addr.add_lit]
    rw [cell_of_row w.drew g (0 + j) _ _ _ (show w.drew.heap[g]? = _ from hg)]
    simpa using hcj
  have r1 := Lib.run_unsafeSliceData_row (P := Tryz.prog) (w := w.drew) #[76] 148 ⟨g, 0, none⟩ bs.length cap (by omega)
  have r2 := Lib.run_unsafeString_row (P := Tryz.prog) (w := w.drew) 148 3 9 5 Tryz.underlying148 (by kernel_rfl) g cap (by simp [World.shape?, show w.drew.heap[g]? = _ from hg, h3]) bs h0 h1 (by omega) hcell
  have HG := Lib.hid hg
  have HB := Lib.hid hB
  clear h hk ho hcell h4 hg hB h0 hlen
  go_enter Tryz.func53, Tryz.ntmps53
  go_wp2_with fail
  go_region
  all_goals
    go_wp2_with fail
    go_ret
    obtain ⟨f1, f2, f3⟩ := freeze_rest w.drew ⟨g, 0, none⟩ bs.length
    refine ⟨rfl, ⟨f1, f2, f3, by rw [freeze_size]; exact Nat.le_refl _, fun i hi hs => ?_, fun i hs h5 h6 => ?_⟩, ?_⟩
    · exact freeze_other w.drew g _ i (by have := HB.out; omega)
    · exact freeze_other w.drew g _ i (fun e => h5 _ _ (by rw [e]; exact HG.out))
    · rw [cell_of_row _ _ _ _ _ _ ((freeze_other w.drew g _ k (fun e => by
        have h5 := HK.out
        rw [e, HG.out] at h5
        simp at h5)).trans HK.out)]
      rfl

end Go.Proofs.YtjgnomjjphkfbaaGreat

namespace Go.Proofs.YtjgnomjjphkfbaaGreat
open Go.RowKit

/-- A cell of a block that calls that write leave as it is. -/
def CellT (w : World) (g off : Nat) (v : Value) : Prop := ∃ cs t fr, w.heap[g]? = some (.cells cs t fr) ∧ cs[off]? = some v ∧ t ≠ 5 ∧ t ≠ 118
theorem CellT.cell {w : World} {g off : Nat} {v : Value} (h : CellT w g off v) : w.cell? ⟨g, off, none⟩ = some v := by
  obtain ⟨cs, t, fr, h1, h2, _⟩ := h
  rw [cell_of_row _ _ _ _ _ _ h1]; exact h2
theorem CellT.keep {B : Nat} {w w' : World} {g off : Nat} {v : Value} (h : CellT w g off v) (f : FrW B w w') : CellT w' g off v := by
  obtain ⟨cs, t, fr, h1, h2, h3, h4⟩ := h
  exact ⟨cs, t, fr, f.keep h1 h3 h4, h2, h3, h4⟩
/-- What may not be is told. -/
theorem CdAt.bad {B k m : Nat} {bs : List UInt8} {bad : Bool} {w : World} (h : CdAt B k bs bad m w) (b : Bool) : CdAt B k bs b m (w.setCell ⟨k, 3, none⟩ (.bool b)) ∧ FrW B w (w.setCell ⟨k, 3, none⟩ (.bool b)) := by
  obtain ⟨p, v, hk, hp, ho⟩ := h.ex
  have hf := (FrW.refl B w).cell hk h.lo 3 (.bool b)
  refine ⟨CdAt.set h.lo (Nat.le_trans h.hi hf.size) (p := p) (v := v) (w := w) (by rw [heap_set _ hk]; rfl) hp ho (fun i hi => ?_), hf⟩
  obtain ⟨_, cs, fr, h4⟩ := own_type ho hi
  exact heap_setCell_other _ _ _ _ (by
    have : i ≠ k := fun e => by rw [e, hk] at h4; cases h4
    exact this)
/-- One number's bytes, as a region that draws its order meets it. -/
theorem uints_dr (wz : World) (x : Nat) (hx64 : x < 18446744073709551616) : Calls Tryz.prog 104 #[.slice (some ⟨wz.heap.size, 0, none⟩) 1 1] ((wz.alloc (.cells #[.int .u64 x] 22 (0, 0))).drew) fun e w' => e = .returned (.string (S (Wr.uv x))) ∧ Below wz.heap.size wz w' :=
  Calls.mono (show Calls Tryz.prog 104 #[.slice (some ⟨wz.heap.size, 0, none⟩) 1 1] ((wz.alloc (.cells #[.int .u64 x] 22 (0, 0))).drew) (fun e w' => e = .returned (.string (S (Wr.uv x))) ∧ Below wz.drew.heap.size wz.drew w') from uints_one wz.drew (x : Int) x rfl hx64) (fun _ _ ⟨h1, h2⟩ => ⟨h1, (Own.refl wz).drew.below.trans h2⟩)
theorem CdAt.cells {B k m : Nat} {bs : List UInt8} {bad : Bool} {w : World} (h : CdAt B k bs bad m w) : w.cell? ⟨k, 0, none⟩ = some (.pointer none) ∧ w.cell? ⟨k, 3, none⟩ = some (.bool bad) ∧ w.cell? ⟨k, 4, none⟩ = some (.pointer (some ⟨m, 0, none⟩)) ∧ w.frozen? ⟨k, 3, none⟩ = false := by
  obtain ⟨p, v, hk, hp, ho⟩ := h.ex
  refine ⟨?_, ?_, ?_, frozen_of_row w k 3 _ _ hk⟩ <;> (rw [cell_of_row _ _ _ _ _ _ hk]; rfl)

set_option maxRecDepth 20000 in
set_option maxHeartbeats 2000000 in
theorem numW_u64 (B k m : Nat) (bs : List UInt8) (bad : Bool) (g off x most : Nat) (w : World) (h : CdAt B k bs bad m w) (hx : CellT w g off (.int .u64 x)) (hx64 : x < 18446744073709551616) (_ : most < 18446744073709551616) (hlen : bs.length ≤ 1073741824) :
    Calls Tryz.prog 105 #[.pointer (some ⟨k, 0, none⟩), .pointer (some ⟨g, off, none⟩), .int .u64 most] w fun e w' => e = .returned (.tuple #[]) ∧ CdAt B k (bs ++ Wr.uv x) (bad || !decide (x ≤ most)) m w' ∧ FrW B w w' := by
  obtain ⟨B2, hB2⟩ : ∃ b : Bool, b = (bad || !decide (x ≤ most)) := ⟨_, rfl⟩
  rw [← hB2]
  obtain ⟨hcd, hfr⟩ := h.bad B2
  obtain ⟨w1, hw1⟩ : ∃ w1, w1 = w.setCell ⟨k, 3, none⟩ (.bool B2) := ⟨_, rfl⟩
  rw [← hw1] at hcd hfr
  have HX1 := Lib.hid (hx.keep hfr)
  have HCD := Lib.hid hcd
  have HFR := Lib.hid hfr
  have HL := Lib.hid hlen
  have HU := Lib.hid (fun wz => uints_dr wz x hx64)
  have huv : (Wr.uv x).length ≤ 10 := Wr.uvF_length 10 x
  have HUV := Lib.hid huv
  have HW := Lib.hid (fun wz (hz : FrW B w1 wz) (hc : CdAt B k bs B2 m wz) => cd_string B k m bs B2 (S (Wr.uv x)) wz hc (by rw [S_size]; have := HL.out; have := HUV.out; omega))
  obtain ⟨d0, d3, d4, dz⟩ := h.cells
  have e0 := hx.cell
  have hxI : (0 : Int) ≤ x ∧ (x : Int) < 18446744073709551616 := by omega
  have hS0 := (hx.keep hfr).cell
  have hneg : decide ((x : Int) < 0) = false := decide_eq_false (by omega)
  have hpre : decide (most < x) = !decide (x ≤ most) := by
    by_cases hh : x ≤ most
    · rw [decide_eq_true hh, decide_eq_false (by omega)]; rfl
    · rw [decide_eq_false hh, decide_eq_true (by omega)]; rfl
  have hSA : ((w1.alloc (.cells #[.int .u64 x] 22 (0, 0))).drew).cell? ⟨g, off, none⟩ = some (.int .u64 x) := (HX1.out.keep (FrW.of_below B ((Below.refl _ w1).alloc (Nat.le_refl _) _)).drew).cell
  have HHI := Lib.hid h.hi
  clear h hx hx64 hlen hcd hfr huv
  cases bad with
  | true =>
    have : B2 = true := by simpa using hB2
    subst this
    have HW1 := Lib.hid hw1
    clear hpre hw1 hB2
    go_enter Tryz.func105, Tryz.ntmps105
    go_upto_region 3 with (fail)
    rw [← HW1.out]
    clear HW1 d0 d3 d4 dz e0
    have HZ0 : Hid (FrW B w1 w1.drew) := Lib.hid (FrW.refl B w1).drew
    go_region_held3 (fun wz => wz.cell? ⟨g, off, none⟩ = some (.int .u64 x))
      (first | exact hS0 | exact hSA | exact hS1 | exact hS2 | fail)
      (first
      | (go_at_call 104
         (with_reducible refine (HU.out _).mono ?_)
         rintro e w2 ⟨rfl, hb2⟩
         have HB2 := Lib.hid (FrW.of_below B hb2)
         have hS1 := (HX1.out.keep HB2.out).cell
         have HC2 := Lib.hid (HCD.out.keep hb2)
         clear hb2)
      | (go_at_call 99
         (with_reducible refine (HW.out _ HB2.out HC2.out).mono ?_)
         rintro e w3 ⟨rfl, hc3, hf3⟩
         have HC3 := Lib.hid hc3
         have HF3 := Lib.hid (HB2.out.trans hf3)
         have hS2 := (HX1.out.keep HF3.out).cell
         clear hc3 hf3))
    all_goals
      go_wp2_with fail
      refine bodyPost_end (v := .tuple #[]) (by simp [results, Tryz.results105, go_sem]) rfl ?_
      exact ⟨rfl, HC3.out, HFR.out.trans HF3.out⟩
  | false =>
    have hb2 : B2 = !decide (x ≤ most) := by simpa using hB2
    rw [← hb2] at hpre
    clear hb2
    cases B2 with
    | true =>
      have HW1 := Lib.hid hw1
      clear hw1 hB2
      go_enter Tryz.func105, Tryz.ntmps105
      go_upto_region 3 with (fail)
      rw [← HW1.out]
      clear HW1 d0 d3 d4 dz e0 hpre
      have HZ0 : Hid (FrW B w1 w1.drew) := Lib.hid (FrW.refl B w1).drew
      go_region_held3 (fun wz => wz.cell? ⟨g, off, none⟩ = some (.int .u64 x))
        (first | exact hS0 | exact hSA | exact hS1 | exact hS2 | fail)
        (first
        | (go_at_call 104
           (with_reducible refine (HU.out _).mono ?_)
           rintro e w2 ⟨rfl, hb2⟩
           have HB2 := Lib.hid (FrW.of_below B hb2)
           have hS1 := (HX1.out.keep HB2.out).cell
           have HC2 := Lib.hid (HCD.out.keep hb2)
           clear hb2)
        | (go_at_call 99
           (with_reducible refine (HW.out _ HB2.out HC2.out).mono ?_)
           rintro e w3 ⟨rfl, hc3, hf3⟩
           have HC3 := Lib.hid hc3
           have HF3 := Lib.hid (HB2.out.trans hf3)
           have hS2 := (HX1.out.keep HF3.out).cell
           clear hc3 hf3))
      all_goals
        go_wp2_with fail
        refine bodyPost_end (v := .tuple #[]) (by simp [results, Tryz.results105, go_sem]) rfl ?_
        exact ⟨rfl, HC3.out, HFR.out.trans HF3.out⟩
    | false =>
      have HW1 := Lib.hid hw1
      clear hw1 hB2
      go_enter Tryz.func105, Tryz.ntmps105
      go_upto_region 3 with (fail)
      rw [← HW1.out]
      clear HW1 d0 d3 d4 dz e0 hpre
      have HZ0 : Hid (FrW B w1 w1.drew) := Lib.hid (FrW.refl B w1).drew
      go_region_held3 (fun wz => wz.cell? ⟨g, off, none⟩ = some (.int .u64 x))
        (first | exact hS0 | exact hSA | exact hS1 | exact hS2 | fail)
        (first
        | (go_at_call 104
           (with_reducible refine (HU.out _).mono ?_)
           rintro e w2 ⟨rfl, hb2⟩
           have HB2 := Lib.hid (FrW.of_below B hb2)
           have hS1 := (HX1.out.keep HB2.out).cell
           have HC2 := Lib.hid (HCD.out.keep hb2)
           clear hb2)
        | (go_at_call 99
           (with_reducible refine (HW.out _ HB2.out HC2.out).mono ?_)
           rintro e w3 ⟨rfl, hc3, hf3⟩
           have HC3 := Lib.hid hc3
           have HF3 := Lib.hid (HB2.out.trans hf3)
           have hS2 := (HX1.out.keep HF3.out).cell
           clear hc3 hf3))
      all_goals
        go_wp2_with fail
        refine bodyPost_end (v := .tuple #[]) (by simp [results, Tryz.results105, go_sem]) rfl ?_
        exact ⟨rfl, HC3.out, HFR.out.trans HF3.out⟩

end Go.Proofs.YtjgnomjjphkfbaaGreat

namespace Go.Proofs.YtjgnomjjphkfbaaGreat
open Go.RowKit

set_option maxRecDepth 20000 in
set_option maxHeartbeats 2000000 in
theorem numW_int (B k m : Nat) (bs : List UInt8) (bad : Bool) (g off : Nat) (x : Int) (most : Nat) (w : World) (h : CdAt B k bs bad m w) (hx : CellT w g off (.int .i64 x)) (hx0 : -9223372036854775808 ≤ x ∧ x ≤ 9223372036854775807) (_ : most < 18446744073709551616) (hlen : bs.length ≤ 1073741824) :
    Calls Tryz.prog 139 #[.pointer (some ⟨k, 0, none⟩), .pointer (some ⟨g, off, none⟩), .int .u64 most] w fun e w' => e = .returned (.tuple #[]) ∧ CdAt B k (bs ++ Wr.uv (IntKind.u64.wrap x).toNat) (bad || !(decide (0 ≤ x) && decide (x ≤ most))) m w' ∧ FrW B w w' := by
  obtain ⟨u, hu⟩ : ∃ u : Nat, u = (IntKind.u64.wrap x).toNat := ⟨_, rfl⟩
  have hwu : IntKind.u64.wrap x = (u : Int) := by rw [hu, IntKind.wrap_u64]; omega
  have hx64 : u < 18446744073709551616 := by rw [IntKind.wrap_u64] at hwu; omega
  rw [← hu]
  clear hu
  obtain ⟨B2, hB2⟩ : ∃ b : Bool, b = (bad || !(decide (0 ≤ x) && decide (x ≤ most))) := ⟨_, rfl⟩
  rw [← hB2]
  obtain ⟨hcd, hfr⟩ := h.bad B2
  obtain ⟨w1, hw1⟩ : ∃ w1, w1 = w.setCell ⟨k, 3, none⟩ (.bool B2) := ⟨_, rfl⟩
  rw [← hw1] at hcd hfr
  have HX1 := Lib.hid (hx.keep hfr)
  have HCD := Lib.hid hcd
  have HFR := Lib.hid hfr
  have HL := Lib.hid hlen
  have HU := Lib.hid (fun wz => uints_dr wz u hx64)
  have huv : (Wr.uv u).length ≤ 10 := Wr.uvF_length 10 u
  have HUV := Lib.hid huv
  have HW := Lib.hid (fun wz (hz : FrW B w1 wz) (hc : CdAt B k bs B2 m wz) => cd_string B k m bs B2 (S (Wr.uv u)) wz hc (by rw [S_size]; have := HL.out; have := HUV.out; omega))
  obtain ⟨d0, d3, d4, dz⟩ := h.cells
  have e0 := hx.cell
  have huI : (0 : Int) ≤ u ∧ (u : Int) < 18446744073709551616 := by omega
  have hS0 := (hx.keep hfr).cell
  have hSA : ((w1.alloc (.cells #[.int .u64 u] 22 (0, 0))).drew).cell? ⟨g, off, none⟩ = some (.int .i64 x) := (HX1.out.keep (FrW.of_below B ((Below.refl _ w1).alloc (Nat.le_refl _) _)).drew).cell
  have HHI := Lib.hid h.hi
  clear h hx hx64 hlen hcd hfr huv
  cases bad with
  | true =>
    have : B2 = true := by simpa using hB2
    subst this
    have HW1 := Lib.hid hw1
    clear hw1 hB2
    go_enter Tryz.func139, Tryz.ntmps139
    go_upto_region 3 with (fail)
    rw [← HW1.out]
    clear HW1 d0 d3 d4 dz e0
    have HZ0 : Hid (FrW B w1 w1.drew) := Lib.hid (FrW.refl B w1).drew
    go_region_held3 (fun wz => wz.cell? ⟨g, off, none⟩ = some (.int .i64 x))
      (first | exact hS0 | exact hSA | exact hS1 | exact hS2 | fail)
      (first
      | (go_at_call 104
         (with_reducible refine (HU.out _).mono ?_)
         rintro e w2 ⟨rfl, hb2⟩
         have HB2 := Lib.hid (FrW.of_below B hb2)
         have hS1 := (HX1.out.keep HB2.out).cell
         have HC2 := Lib.hid (HCD.out.keep hb2)
         clear hb2)
      | (go_at_call 99
         (with_reducible refine (HW.out _ HB2.out HC2.out).mono ?_)
         rintro e w3 ⟨rfl, hc3, hf3⟩
         have HC3 := Lib.hid hc3
         have HF3 := Lib.hid (HB2.out.trans hf3)
         have hS2 := (HX1.out.keep HF3.out).cell
         clear hc3 hf3))
    all_goals
      go_wp2_with fail
      refine bodyPost_end (v := .tuple #[]) (by simp [results, Tryz.results139, go_sem]) rfl ?_
      exact ⟨rfl, HC3.out, HFR.out.trans HF3.out⟩
  | false =>
    by_cases hn : x < 0
    · have hneg : decide (x < 0) = true := decide_eq_true hn
      have : B2 = true := by
        rw [hB2, decide_eq_false (show ¬ 0 ≤ x by omega)]; rfl
      subst this
      clear hn
      have HW1 := Lib.hid hw1
      clear hw1 hB2
      go_enter Tryz.func139, Tryz.ntmps139
      go_upto_region 3 with (fail)
      rw [← HW1.out]
      clear HW1 d0 d3 d4 dz e0 hneg
      have HZ0 : Hid (FrW B w1 w1.drew) := Lib.hid (FrW.refl B w1).drew
      go_region_held3 (fun wz => wz.cell? ⟨g, off, none⟩ = some (.int .i64 x))
        (first | exact hS0 | exact hSA | exact hS1 | exact hS2 | fail)
        (first
        | (go_at_call 104
           (with_reducible refine (HU.out _).mono ?_)
           rintro e w2 ⟨rfl, hb2⟩
           have HB2 := Lib.hid (FrW.of_below B hb2)
           have hS1 := (HX1.out.keep HB2.out).cell
           have HC2 := Lib.hid (HCD.out.keep hb2)
           clear hb2)
        | (go_at_call 99
           (with_reducible refine (HW.out _ HB2.out HC2.out).mono ?_)
           rintro e w3 ⟨rfl, hc3, hf3⟩
           have HC3 := Lib.hid hc3
           have HF3 := Lib.hid (HB2.out.trans hf3)
           have hS2 := (HX1.out.keep HF3.out).cell
           clear hc3 hf3))
      all_goals
        go_wp2_with fail
        refine bodyPost_end (v := .tuple #[]) (by simp [results, Tryz.results139, go_sem]) rfl ?_
        exact ⟨rfl, HC3.out, HFR.out.trans HF3.out⟩
    · have hneg : decide (x < 0) = false := decide_eq_false hn
      have hux : (u : Int) = x := by rw [← hwu, IntKind.wrap_u64]; omega
      have hpre : decide (most < u) = B2 := by
        rw [hB2, decide_eq_true (show 0 ≤ x by omega)]
        by_cases hh : x ≤ most
        · rw [decide_eq_true hh, decide_eq_false (by omega)]; rfl
        · rw [decide_eq_false hh, decide_eq_true (by omega)]; rfl
      clear hn hux
      cases B2 with
      | true =>
        have HW1 := Lib.hid hw1
        clear hw1 hB2
        go_enter Tryz.func139, Tryz.ntmps139
        go_upto_region 3 with (fail)
        rw [← HW1.out]
        clear HW1 d0 d3 d4 dz e0 hpre hneg
        have HZ0 : Hid (FrW B w1 w1.drew) := Lib.hid (FrW.refl B w1).drew
        go_region_held3 (fun wz => wz.cell? ⟨g, off, none⟩ = some (.int .i64 x))
          (first | exact hS0 | exact hSA | exact hS1 | exact hS2 | fail)
          (first
          | (go_at_call 104
             (with_reducible refine (HU.out _).mono ?_)
             rintro e w2 ⟨rfl, hb2⟩
             have HB2 := Lib.hid (FrW.of_below B hb2)
             have hS1 := (HX1.out.keep HB2.out).cell
             have HC2 := Lib.hid (HCD.out.keep hb2)
             clear hb2)
          | (go_at_call 99
             (with_reducible refine (HW.out _ HB2.out HC2.out).mono ?_)
             rintro e w3 ⟨rfl, hc3, hf3⟩
             have HC3 := Lib.hid hc3
             have HF3 := Lib.hid (HB2.out.trans hf3)
             have hS2 := (HX1.out.keep HF3.out).cell
             clear hc3 hf3))
        all_goals
          go_wp2_with fail
          refine bodyPost_end (v := .tuple #[]) (by simp [results, Tryz.results139, go_sem]) rfl ?_
          exact ⟨rfl, HC3.out, HFR.out.trans HF3.out⟩
      | false =>
        have HW1 := Lib.hid hw1
        clear hw1 hB2
        go_enter Tryz.func139, Tryz.ntmps139
        go_upto_region 3 with (fail)
        rw [← HW1.out]
        clear HW1 d0 d3 d4 dz e0 hpre hneg
        have HZ0 : Hid (FrW B w1 w1.drew) := Lib.hid (FrW.refl B w1).drew
        go_region_held3 (fun wz => wz.cell? ⟨g, off, none⟩ = some (.int .i64 x))
          (first | exact hS0 | exact hSA | exact hS1 | exact hS2 | fail)
          (first
          | (go_at_call 104
             (with_reducible refine (HU.out _).mono ?_)
             rintro e w2 ⟨rfl, hb2⟩
             have HB2 := Lib.hid (FrW.of_below B hb2)
             have hS1 := (HX1.out.keep HB2.out).cell
             have HC2 := Lib.hid (HCD.out.keep hb2)
             clear hb2)
          | (go_at_call 99
             (with_reducible refine (HW.out _ HB2.out HC2.out).mono ?_)
             rintro e w3 ⟨rfl, hc3, hf3⟩
             have HC3 := Lib.hid hc3
             have HF3 := Lib.hid (HB2.out.trans hf3)
             have hS2 := (HX1.out.keep HF3.out).cell
             clear hc3 hf3))
        all_goals
          go_wp2_with fail
          refine bodyPost_end (v := .tuple #[]) (by simp [results, Tryz.results139, go_sem]) rfl ?_
          exact ⟨rfl, HC3.out, HFR.out.trans HF3.out⟩

set_option maxRecDepth 20000 in
set_option maxHeartbeats 2000000 in
theorem numW_errno (B k m : Nat) (bs : List UInt8) (bad : Bool) (g off : Nat) (x : Int) (most : Nat) (w : World) (h : CdAt B k bs bad m w) (hx : CellT w g off (.int .i64 x)) (hx0 : -9223372036854775808 ≤ x ∧ x ≤ 9223372036854775807) (_ : most < 18446744073709551616) (hlen : bs.length ≤ 1073741824) :
    Calls Tryz.prog 121 #[.pointer (some ⟨k, 0, none⟩), .pointer (some ⟨g, off, none⟩), .int .u64 most] w fun e w' => e = .returned (.tuple #[]) ∧ CdAt B k (bs ++ Wr.uv (IntKind.u64.wrap x).toNat) (bad || !(decide (0 ≤ x) && decide (x ≤ most))) m w' ∧ FrW B w w' := by
  obtain ⟨u, hu⟩ : ∃ u : Nat, u = (IntKind.u64.wrap x).toNat := ⟨_, rfl⟩
  have hwu : IntKind.u64.wrap x = (u : Int) := by rw [hu, IntKind.wrap_u64]; omega
  have hx64 : u < 18446744073709551616 := by rw [IntKind.wrap_u64] at hwu; omega
  rw [← hu]
  clear hu
  obtain ⟨B2, hB2⟩ : ∃ b : Bool, b = (bad || !(decide (0 ≤ x) && decide (x ≤ most))) := ⟨_, rfl⟩
  rw [← hB2]
  obtain ⟨hcd, hfr⟩ := h.bad B2
  obtain ⟨w1, hw1⟩ : ∃ w1, w1 = w.setCell ⟨k, 3, none⟩ (.bool B2) := ⟨_, rfl⟩
  rw [← hw1] at hcd hfr
  have HX1 := Lib.hid (hx.keep hfr)
  have HCD := Lib.hid hcd
  have HFR := Lib.hid hfr
  have HL := Lib.hid hlen
  have HU := Lib.hid (fun wz => uints_dr wz u hx64)
  have huv : (Wr.uv u).length ≤ 10 := Wr.uvF_length 10 u
  have HUV := Lib.hid huv
  have HW := Lib.hid (fun wz (hz : FrW B w1 wz) (hc : CdAt B k bs B2 m wz) => cd_string B k m bs B2 (S (Wr.uv u)) wz hc (by rw [S_size]; have := HL.out; have := HUV.out; omega))
  obtain ⟨d0, d3, d4, dz⟩ := h.cells
  have e0 := hx.cell
  have huI : (0 : Int) ≤ u ∧ (u : Int) < 18446744073709551616 := by omega
  have hS0 := (hx.keep hfr).cell
  have hSA : ((w1.alloc (.cells #[.int .u64 u] 22 (0, 0))).drew).cell? ⟨g, off, none⟩ = some (.int .i64 x) := (HX1.out.keep (FrW.of_below B ((Below.refl _ w1).alloc (Nat.le_refl _) _)).drew).cell
  have HHI := Lib.hid h.hi
  clear h hx hx64 hlen hcd hfr huv
  cases bad with
  | true =>
    have : B2 = true := by simpa using hB2
    subst this
    have HW1 := Lib.hid hw1
    clear hw1 hB2
    go_enter Tryz.func121, Tryz.ntmps121
    go_upto_region 3 with (fail)
    rw [← HW1.out]
    clear HW1 d0 d3 d4 dz e0
    have HZ0 : Hid (FrW B w1 w1.drew) := Lib.hid (FrW.refl B w1).drew
    go_region_held3 (fun wz => wz.cell? ⟨g, off, none⟩ = some (.int .i64 x))
      (first | exact hS0 | exact hSA | exact hS1 | exact hS2 | fail)
      (first
      | (go_at_call 104
         (with_reducible refine (HU.out _).mono ?_)
         rintro e w2 ⟨rfl, hb2⟩
         have HB2 := Lib.hid (FrW.of_below B hb2)
         have hS1 := (HX1.out.keep HB2.out).cell
         have HC2 := Lib.hid (HCD.out.keep hb2)
         clear hb2)
      | (go_at_call 99
         (with_reducible refine (HW.out _ HB2.out HC2.out).mono ?_)
         rintro e w3 ⟨rfl, hc3, hf3⟩
         have HC3 := Lib.hid hc3
         have HF3 := Lib.hid (HB2.out.trans hf3)
         have hS2 := (HX1.out.keep HF3.out).cell
         clear hc3 hf3))
    all_goals
      go_wp2_with fail
      refine bodyPost_end (v := .tuple #[]) (by simp [results, Tryz.results121, go_sem]) rfl ?_
      exact ⟨rfl, HC3.out, HFR.out.trans HF3.out⟩
  | false =>
    by_cases hn : x < 0
    · have hneg : decide (x < 0) = true := decide_eq_true hn
      have : B2 = true := by
        rw [hB2, decide_eq_false (show ¬ 0 ≤ x by omega)]; rfl
      subst this
      clear hn
      have HW1 := Lib.hid hw1
      clear hw1 hB2
      go_enter Tryz.func121, Tryz.ntmps121
      go_upto_region 3 with (fail)
      rw [← HW1.out]
      clear HW1 d0 d3 d4 dz e0 hneg
      have HZ0 : Hid (FrW B w1 w1.drew) := Lib.hid (FrW.refl B w1).drew
      go_region_held3 (fun wz => wz.cell? ⟨g, off, none⟩ = some (.int .i64 x))
        (first | exact hS0 | exact hSA | exact hS1 | exact hS2 | fail)
        (first
        | (go_at_call 104
           (with_reducible refine (HU.out _).mono ?_)
           rintro e w2 ⟨rfl, hb2⟩
           have HB2 := Lib.hid (FrW.of_below B hb2)
           have hS1 := (HX1.out.keep HB2.out).cell
           have HC2 := Lib.hid (HCD.out.keep hb2)
           clear hb2)
        | (go_at_call 99
           (with_reducible refine (HW.out _ HB2.out HC2.out).mono ?_)
           rintro e w3 ⟨rfl, hc3, hf3⟩
           have HC3 := Lib.hid hc3
           have HF3 := Lib.hid (HB2.out.trans hf3)
           have hS2 := (HX1.out.keep HF3.out).cell
           clear hc3 hf3))
      all_goals
        go_wp2_with fail
        refine bodyPost_end (v := .tuple #[]) (by simp [results, Tryz.results121, go_sem]) rfl ?_
        exact ⟨rfl, HC3.out, HFR.out.trans HF3.out⟩
    · have hneg : decide (x < 0) = false := decide_eq_false hn
      have hux : (u : Int) = x := by rw [← hwu, IntKind.wrap_u64]; omega
      have hpre : decide (most < u) = B2 := by
        rw [hB2, decide_eq_true (show 0 ≤ x by omega)]
        by_cases hh : x ≤ most
        · rw [decide_eq_true hh, decide_eq_false (by omega)]; rfl
        · rw [decide_eq_false hh, decide_eq_true (by omega)]; rfl
      clear hn hux
      cases B2 with
      | true =>
        have HW1 := Lib.hid hw1
        clear hw1 hB2
        go_enter Tryz.func121, Tryz.ntmps121
        go_upto_region 3 with (fail)
        rw [← HW1.out]
        clear HW1 d0 d3 d4 dz e0 hpre hneg
        have HZ0 : Hid (FrW B w1 w1.drew) := Lib.hid (FrW.refl B w1).drew
        go_region_held3 (fun wz => wz.cell? ⟨g, off, none⟩ = some (.int .i64 x))
          (first | exact hS0 | exact hSA | exact hS1 | exact hS2 | fail)
          (first
          | (go_at_call 104
             (with_reducible refine (HU.out _).mono ?_)
             rintro e w2 ⟨rfl, hb2⟩
             have HB2 := Lib.hid (FrW.of_below B hb2)
             have hS1 := (HX1.out.keep HB2.out).cell
             have HC2 := Lib.hid (HCD.out.keep hb2)
             clear hb2)
          | (go_at_call 99
             (with_reducible refine (HW.out _ HB2.out HC2.out).mono ?_)
             rintro e w3 ⟨rfl, hc3, hf3⟩
             have HC3 := Lib.hid hc3
             have HF3 := Lib.hid (HB2.out.trans hf3)
             have hS2 := (HX1.out.keep HF3.out).cell
             clear hc3 hf3))
        all_goals
          go_wp2_with fail
          refine bodyPost_end (v := .tuple #[]) (by simp [results, Tryz.results121, go_sem]) rfl ?_
          exact ⟨rfl, HC3.out, HFR.out.trans HF3.out⟩
      | false =>
        have HW1 := Lib.hid hw1
        clear hw1 hB2
        go_enter Tryz.func121, Tryz.ntmps121
        go_upto_region 3 with (fail)
        rw [← HW1.out]
        clear HW1 d0 d3 d4 dz e0 hpre hneg
        have HZ0 : Hid (FrW B w1 w1.drew) := Lib.hid (FrW.refl B w1).drew
        go_region_held3 (fun wz => wz.cell? ⟨g, off, none⟩ = some (.int .i64 x))
          (first | exact hS0 | exact hSA | exact hS1 | exact hS2 | fail)
          (first
          | (go_at_call 104
             (with_reducible refine (HU.out _).mono ?_)
             rintro e w2 ⟨rfl, hb2⟩
             have HB2 := Lib.hid (FrW.of_below B hb2)
             have hS1 := (HX1.out.keep HB2.out).cell
             have HC2 := Lib.hid (HCD.out.keep hb2)
             clear hb2)
          | (go_at_call 99
             (with_reducible refine (HW.out _ HB2.out HC2.out).mono ?_)
             rintro e w3 ⟨rfl, hc3, hf3⟩
             have HC3 := Lib.hid hc3
             have HF3 := Lib.hid (HB2.out.trans hf3)
             have hS2 := (HX1.out.keep HF3.out).cell
             clear hc3 hf3))
        all_goals
          go_wp2_with fail
          refine bodyPost_end (v := .tuple #[]) (by simp [results, Tryz.results121, go_sem]) rfl ?_
          exact ⟨rfl, HC3.out, HFR.out.trans HF3.out⟩

end Go.Proofs.YtjgnomjjphkfbaaGreat

namespace Go.Proofs.YtjgnomjjphkfbaaGreat
open Go.RowKit

set_option maxRecDepth 20000 in
set_option maxHeartbeats 2000000 in
theorem numW_u8 (B k m : Nat) (bs : List UInt8) (bad : Bool) (g off x most : Nat) (w : World) (h : CdAt B k bs bad m w) (hx : CellT w g off (.int .u8 x)) (hx0 : x < 256) (_ : most < 18446744073709551616) (hlen : bs.length ≤ 1073741824) :
    Calls Tryz.prog 82 #[.pointer (some ⟨k, 0, none⟩), .pointer (some ⟨g, off, none⟩), .int .u64 most] w fun e w' => e = .returned (.tuple #[]) ∧ CdAt B k (bs ++ Wr.uv x) (bad || !decide (x ≤ most)) m w' ∧ FrW B w w' := by
  have hx64 : x < 18446744073709551616 := by omega
  have hcv : IntKind.u64.wrap (x : Int) = x := by rw [IntKind.wrap_u64]; omega
  obtain ⟨B2, hB2⟩ : ∃ b : Bool, b = (bad || !decide (x ≤ most)) := ⟨_, rfl⟩
  rw [← hB2]
  obtain ⟨hcd, hfr⟩ := h.bad B2
  obtain ⟨w1, hw1⟩ : ∃ w1, w1 = w.setCell ⟨k, 3, none⟩ (.bool B2) := ⟨_, rfl⟩
  rw [← hw1] at hcd hfr
  have HX1 := Lib.hid (hx.keep hfr)
  have HCD := Lib.hid hcd
  have HFR := Lib.hid hfr
  have HL := Lib.hid hlen
  have HU := Lib.hid (fun wz => uints_dr wz x hx64)
  have huv : (Wr.uv x).length ≤ 10 := Wr.uvF_length 10 x
  have HUV := Lib.hid huv
  have HW := Lib.hid (fun wz (hz : FrW B w1 wz) (hc : CdAt B k bs B2 m wz) => cd_string B k m bs B2 (S (Wr.uv x)) wz hc (by rw [S_size]; have := HL.out; have := HUV.out; omega))
  obtain ⟨d0, d3, d4, dz⟩ := h.cells
  have e0 := hx.cell
  have hxI : (0 : Int) ≤ x ∧ (x : Int) < 256 := by omega
  have hS0 := (hx.keep hfr).cell
  have hneg : decide ((x : Int) < 0) = false := decide_eq_false (by omega)
  have hpre : decide (most < x) = !decide (x ≤ most) := by
    by_cases hh : x ≤ most
    · rw [decide_eq_true hh, decide_eq_false (by omega)]; rfl
    · rw [decide_eq_false hh, decide_eq_true (by omega)]; rfl
  have hSA : ((w1.alloc (.cells #[.int .u64 x] 22 (0, 0))).drew).cell? ⟨g, off, none⟩ = some (.int .u8 x) := (HX1.out.keep (FrW.of_below B ((Below.refl _ w1).alloc (Nat.le_refl _) _)).drew).cell
  have HHI := Lib.hid h.hi
  clear h hx hx64 hx0 hlen hcd hfr huv
  cases bad with
  | true =>
    have : B2 = true := by simpa using hB2
    subst this
    have HW1 := Lib.hid hw1
    clear hpre hw1 hB2
    go_enter Tryz.func82, Tryz.ntmps82
    go_upto_region 3 with (fail)
    rw [← HW1.out]
    clear HW1 d0 d3 d4 dz e0
    have HZ0 : Hid (FrW B w1 w1.drew) := Lib.hid (FrW.refl B w1).drew
    go_region_held3 (fun wz => wz.cell? ⟨g, off, none⟩ = some (.int .u8 x))
      (first | exact hS0 | exact hSA | exact hS1 | exact hS2 | fail)
      (first
      | (go_at_call 104
         (with_reducible refine (HU.out _).mono ?_)
         rintro e w2 ⟨rfl, hb2⟩
         have HB2 := Lib.hid (FrW.of_below B hb2)
         have hS1 := (HX1.out.keep HB2.out).cell
         have HC2 := Lib.hid (HCD.out.keep hb2)
         clear hb2)
      | (go_at_call 99
         (with_reducible refine (HW.out _ HB2.out HC2.out).mono ?_)
         rintro e w3 ⟨rfl, hc3, hf3⟩
         have HC3 := Lib.hid hc3
         have HF3 := Lib.hid (HB2.out.trans hf3)
         have hS2 := (HX1.out.keep HF3.out).cell
         clear hc3 hf3))
    all_goals
      go_wp2_with fail
      refine bodyPost_end (v := .tuple #[]) (by simp [results, Tryz.results82, go_sem]) rfl ?_
      exact ⟨rfl, HC3.out, HFR.out.trans HF3.out⟩
  | false =>
    have hb2 : B2 = !decide (x ≤ most) := by simpa using hB2
    rw [← hb2] at hpre
    clear hb2
    cases B2 with
    | true =>
      have HW1 := Lib.hid hw1
      clear hw1 hB2
      go_enter Tryz.func82, Tryz.ntmps82
      go_upto_region 3 with (fail)
      rw [← HW1.out]
      clear HW1 d0 d3 d4 dz e0 hpre
      have HZ0 : Hid (FrW B w1 w1.drew) := Lib.hid (FrW.refl B w1).drew
      go_region_held3 (fun wz => wz.cell? ⟨g, off, none⟩ = some (.int .u8 x))
        (first | exact hS0 | exact hSA | exact hS1 | exact hS2 | fail)
        (first
        | (go_at_call 104
           (with_reducible refine (HU.out _).mono ?_)
           rintro e w2 ⟨rfl, hb2⟩
           have HB2 := Lib.hid (FrW.of_below B hb2)
           have hS1 := (HX1.out.keep HB2.out).cell
           have HC2 := Lib.hid (HCD.out.keep hb2)
           clear hb2)
        | (go_at_call 99
           (with_reducible refine (HW.out _ HB2.out HC2.out).mono ?_)
           rintro e w3 ⟨rfl, hc3, hf3⟩
           have HC3 := Lib.hid hc3
           have HF3 := Lib.hid (HB2.out.trans hf3)
           have hS2 := (HX1.out.keep HF3.out).cell
           clear hc3 hf3))
      all_goals
        go_wp2_with fail
        refine bodyPost_end (v := .tuple #[]) (by simp [results, Tryz.results82, go_sem]) rfl ?_
        exact ⟨rfl, HC3.out, HFR.out.trans HF3.out⟩
    | false =>
      have HW1 := Lib.hid hw1
      clear hw1 hB2
      go_enter Tryz.func82, Tryz.ntmps82
      go_upto_region 3 with (fail)
      rw [← HW1.out]
      clear HW1 d0 d3 d4 dz e0 hpre
      have HZ0 : Hid (FrW B w1 w1.drew) := Lib.hid (FrW.refl B w1).drew
      go_region_held3 (fun wz => wz.cell? ⟨g, off, none⟩ = some (.int .u8 x))
        (first | exact hS0 | exact hSA | exact hS1 | exact hS2 | fail)
        (first
        | (go_at_call 104
           (with_reducible refine (HU.out _).mono ?_)
           rintro e w2 ⟨rfl, hb2⟩
           have HB2 := Lib.hid (FrW.of_below B hb2)
           have hS1 := (HX1.out.keep HB2.out).cell
           have HC2 := Lib.hid (HCD.out.keep hb2)
           clear hb2)
        | (go_at_call 99
           (with_reducible refine (HW.out _ HB2.out HC2.out).mono ?_)
           rintro e w3 ⟨rfl, hc3, hf3⟩
           have HC3 := Lib.hid hc3
           have HF3 := Lib.hid (HB2.out.trans hf3)
           have hS2 := (HX1.out.keep HF3.out).cell
           clear hc3 hf3))
      all_goals
        go_wp2_with fail
        refine bodyPost_end (v := .tuple #[]) (by simp [results, Tryz.results82, go_sem]) rfl ?_
        exact ⟨rfl, HC3.out, HFR.out.trans HF3.out⟩

set_option maxRecDepth 20000 in
set_option maxHeartbeats 2000000 in
theorem numW_u32 (B k m : Nat) (bs : List UInt8) (bad : Bool) (g off x most : Nat) (w : World) (h : CdAt B k bs bad m w) (hx : CellT w g off (.int .u32 x)) (hx0 : x < 4294967296) (_ : most < 18446744073709551616) (hlen : bs.length ≤ 1073741824) :
    Calls Tryz.prog 108 #[.pointer (some ⟨k, 0, none⟩), .pointer (some ⟨g, off, none⟩), .int .u64 most] w fun e w' => e = .returned (.tuple #[]) ∧ CdAt B k (bs ++ Wr.uv x) (bad || !decide (x ≤ most)) m w' ∧ FrW B w w' := by
  have hx64 : x < 18446744073709551616 := by omega
  have hcv : IntKind.u64.wrap (x : Int) = x := by rw [IntKind.wrap_u64]; omega
  obtain ⟨B2, hB2⟩ : ∃ b : Bool, b = (bad || !decide (x ≤ most)) := ⟨_, rfl⟩
  rw [← hB2]
  obtain ⟨hcd, hfr⟩ := h.bad B2
  obtain ⟨w1, hw1⟩ : ∃ w1, w1 = w.setCell ⟨k, 3, none⟩ (.bool B2) := ⟨_, rfl⟩
  rw [← hw1] at hcd hfr
  have HX1 := Lib.hid (hx.keep hfr)
  have HCD := Lib.hid hcd
  have HFR := Lib.hid hfr
  have HL := Lib.hid hlen
  have HU := Lib.hid (fun wz => uints_dr wz x hx64)
  have huv : (Wr.uv x).length ≤ 10 := Wr.uvF_length 10 x
  have HUV := Lib.hid huv
  have HW := Lib.hid (fun wz (hz : FrW B w1 wz) (hc : CdAt B k bs B2 m wz) => cd_string B k m bs B2 (S (Wr.uv x)) wz hc (by rw [S_size]; have := HL.out; have := HUV.out; omega))
  obtain ⟨d0, d3, d4, dz⟩ := h.cells
  have e0 := hx.cell
  have hxI : (0 : Int) ≤ x ∧ (x : Int) < 4294967296 := by omega
  have hS0 := (hx.keep hfr).cell
  have hneg : decide ((x : Int) < 0) = false := decide_eq_false (by omega)
  have hpre : decide (most < x) = !decide (x ≤ most) := by
    by_cases hh : x ≤ most
    · rw [decide_eq_true hh, decide_eq_false (by omega)]; rfl
    · rw [decide_eq_false hh, decide_eq_true (by omega)]; rfl
  have hSA : ((w1.alloc (.cells #[.int .u64 x] 22 (0, 0))).drew).cell? ⟨g, off, none⟩ = some (.int .u32 x) := (HX1.out.keep (FrW.of_below B ((Below.refl _ w1).alloc (Nat.le_refl _) _)).drew).cell
  have HHI := Lib.hid h.hi
  clear h hx hx64 hx0 hlen hcd hfr huv
  cases bad with
  | true =>
    have : B2 = true := by simpa using hB2
    subst this
    have HW1 := Lib.hid hw1
    clear hpre hw1 hB2
    go_enter Tryz.func108, Tryz.ntmps108
    go_upto_region 3 with (fail)
    rw [← HW1.out]
    clear HW1 d0 d3 d4 dz e0
    have HZ0 : Hid (FrW B w1 w1.drew) := Lib.hid (FrW.refl B w1).drew
    go_region_held3 (fun wz => wz.cell? ⟨g, off, none⟩ = some (.int .u32 x))
      (first | exact hS0 | exact hSA | exact hS1 | exact hS2 | fail)
      (first
      | (go_at_call 104
         (with_reducible refine (HU.out _).mono ?_)
         rintro e w2 ⟨rfl, hb2⟩
         have HB2 := Lib.hid (FrW.of_below B hb2)
         have hS1 := (HX1.out.keep HB2.out).cell
         have HC2 := Lib.hid (HCD.out.keep hb2)
         clear hb2)
      | (go_at_call 99
         (with_reducible refine (HW.out _ HB2.out HC2.out).mono ?_)
         rintro e w3 ⟨rfl, hc3, hf3⟩
         have HC3 := Lib.hid hc3
         have HF3 := Lib.hid (HB2.out.trans hf3)
         have hS2 := (HX1.out.keep HF3.out).cell
         clear hc3 hf3))
    all_goals
      go_wp2_with fail
      refine bodyPost_end (v := .tuple #[]) (by simp [results, Tryz.results108, go_sem]) rfl ?_
      exact ⟨rfl, HC3.out, HFR.out.trans HF3.out⟩
  | false =>
    have hb2 : B2 = !decide (x ≤ most) := by simpa using hB2
    rw [← hb2] at hpre
    clear hb2
    cases B2 with
    | true =>
      have HW1 := Lib.hid hw1
      clear hw1 hB2
      go_enter Tryz.func108, Tryz.ntmps108
      go_upto_region 3 with (fail)
      rw [← HW1.out]
      clear HW1 d0 d3 d4 dz e0 hpre
      have HZ0 : Hid (FrW B w1 w1.drew) := Lib.hid (FrW.refl B w1).drew
      go_region_held3 (fun wz => wz.cell? ⟨g, off, none⟩ = some (.int .u32 x))
        (first | exact hS0 | exact hSA | exact hS1 | exact hS2 | fail)
        (first
        | (go_at_call 104
           (with_reducible refine (HU.out _).mono ?_)
           rintro e w2 ⟨rfl, hb2⟩
           have HB2 := Lib.hid (FrW.of_below B hb2)
           have hS1 := (HX1.out.keep HB2.out).cell
           have HC2 := Lib.hid (HCD.out.keep hb2)
           clear hb2)
        | (go_at_call 99
           (with_reducible refine (HW.out _ HB2.out HC2.out).mono ?_)
           rintro e w3 ⟨rfl, hc3, hf3⟩
           have HC3 := Lib.hid hc3
           have HF3 := Lib.hid (HB2.out.trans hf3)
           have hS2 := (HX1.out.keep HF3.out).cell
           clear hc3 hf3))
      all_goals
        go_wp2_with fail
        refine bodyPost_end (v := .tuple #[]) (by simp [results, Tryz.results108, go_sem]) rfl ?_
        exact ⟨rfl, HC3.out, HFR.out.trans HF3.out⟩
    | false =>
      have HW1 := Lib.hid hw1
      clear hw1 hB2
      go_enter Tryz.func108, Tryz.ntmps108
      go_upto_region 3 with (fail)
      rw [← HW1.out]
      clear HW1 d0 d3 d4 dz e0 hpre
      have HZ0 : Hid (FrW B w1 w1.drew) := Lib.hid (FrW.refl B w1).drew
      go_region_held3 (fun wz => wz.cell? ⟨g, off, none⟩ = some (.int .u32 x))
        (first | exact hS0 | exact hSA | exact hS1 | exact hS2 | fail)
        (first
        | (go_at_call 104
           (with_reducible refine (HU.out _).mono ?_)
           rintro e w2 ⟨rfl, hb2⟩
           have HB2 := Lib.hid (FrW.of_below B hb2)
           have hS1 := (HX1.out.keep HB2.out).cell
           have HC2 := Lib.hid (HCD.out.keep hb2)
           clear hb2)
        | (go_at_call 99
           (with_reducible refine (HW.out _ HB2.out HC2.out).mono ?_)
           rintro e w3 ⟨rfl, hc3, hf3⟩
           have HC3 := Lib.hid hc3
           have HF3 := Lib.hid (HB2.out.trans hf3)
           have hS2 := (HX1.out.keep HF3.out).cell
           clear hc3 hf3))
      all_goals
        go_wp2_with fail
        refine bodyPost_end (v := .tuple #[]) (by simp [results, Tryz.results108, go_sem]) rfl ?_
        exact ⟨rfl, HC3.out, HFR.out.trans HF3.out⟩

end Go.Proofs.YtjgnomjjphkfbaaGreat

namespace Go.Proofs.YtjgnomjjphkfbaaGreat
open Go.RowKit

theorem texts_dr (wz : World) (t : ByteArray) (ht : t.size ≤ 1073741824) : Calls Tryz.prog 149 #[.slice (some ⟨wz.heap.size, 0, none⟩) 1 1] ((wz.alloc (.cells #[.string t] 9 (0, 0))).drew) fun e w' => e = .returned (.string (S (Wr.txt (L t)))) ∧ Below wz.heap.size wz w' := by
  refine (texts_any ((wz.alloc (.cells #[.string t] 9 (0, 0))).drew) (some ⟨wz.heap.size, 0, none⟩) 1 [t] (RowIs.one (show ((wz.alloc (.cells #[.string t] 9 (0, 0))).drew).heap[wz.heap.size]? = _ from heap_alloc_new wz _)) (by simpa [sizes] using ht) (by simp)).mono ?_
  rintro e w' ⟨rfl, hb⟩
  refine ⟨by simp [tvs], ?_⟩
  exact (((Own.refl wz).alloc _).drew.below).trans (hb.mono (by simp [World.drew]))
theorem bools_dr (wz : World) (b : Bool) : Calls Tryz.prog 141 #[.slice (some ⟨wz.heap.size, 0, none⟩) 1 1] ((wz.alloc (.cells #[.bool b] 4 (0, 0))).drew) fun e w' => e = .returned (.string (S [Wr.bool b])) ∧ Below wz.heap.size wz w' := by
  refine (bools_any ((wz.alloc (.cells #[.bool b] 4 (0, 0))).drew) (some ⟨wz.heap.size, 0, none⟩) 1 [b] (RowIs.one (show ((wz.alloc (.cells #[.bool b] 4 (0, 0))).drew).heap[wz.heap.size]? = _ from heap_alloc_new wz _)) (by simp)).mono ?_
  rintro e w' ⟨rfl, hb⟩
  refine ⟨by simp [bvs], ?_⟩
  exact (((Own.refl wz).alloc _).drew.below).trans (hb.mono (by simp [World.drew]))

set_option maxRecDepth 20000 in
set_option maxHeartbeats 2000000 in
theorem textW (B k m : Nat) (bs : List UInt8) (bad : Bool) (g off : Nat) (x : ByteArray) (most : Nat) (w : World) (h : CdAt B k bs bad m w) (hx : CellT w g off (.string x)) (hx0 : x.size ≤ 1073741824) (hm : most ≤ 1073741824) (hlen : bs.length ≤ 1073741824) :
    Calls Tryz.prog 138 #[.pointer (some ⟨k, 0, none⟩), .pointer (some ⟨g, off, none⟩), .int .i64 most] w fun e w' => e = .returned (.tuple #[]) ∧ CdAt B k (bs ++ Wr.txt (L x)) (bad || !decide (x.size ≤ most)) m w' ∧ FrW B w w' := by
  obtain ⟨B2, hB2⟩ : ∃ b : Bool, b = (bad || !decide (x.size ≤ most)) := ⟨_, rfl⟩
  rw [← hB2]
  obtain ⟨hcd, hfr⟩ := h.bad B2
  obtain ⟨w1, hw1⟩ : ∃ w1, w1 = w.setCell ⟨k, 3, none⟩ (.bool B2) := ⟨_, rfl⟩
  rw [← hw1] at hcd hfr
  have HX1 := Lib.hid (hx.keep hfr)
  have HCD := Lib.hid hcd
  have HFR := Lib.hid hfr
  have HL := Lib.hid hlen
  have HU := Lib.hid (fun wz => texts_dr wz x hx0)
  have HUV : Hid ((Wr.txt (L x)).length ≤ 10 + 1073741824) := Lib.hid (by
    have h1 : (Wr.uv (L x).length).length ≤ 10 := Wr.uvF_length 10 _
    unfold Wr.txt
    rw [List.length_append, L_size] at *
    omega)
  have HW := Lib.hid (fun wz (hz : FrW B w1 wz) (hc : CdAt B k bs B2 m wz) => cd_string B k m bs B2 (S (Wr.txt (L x))) wz hc (by rw [S_size]; have := HL.out; have := HUV.out; omega))
  obtain ⟨d0, d3, d4, dz⟩ := h.cells
  have e0 := hx.cell
  have hxI : (0 : Int) ≤ x.size ∧ (x.size : Int) ≤ 1073741824 := by omega
  have hmI : (0 : Int) ≤ most ∧ (most : Int) ≤ 1073741824 := by omega
  have hS0 := (hx.keep hfr).cell
  have hpre : decide (most < x.size) = !decide (x.size ≤ most) := by
    by_cases hh : x.size ≤ most
    · rw [decide_eq_true hh, decide_eq_false (by omega)]; rfl
    · rw [decide_eq_false hh, decide_eq_true (by omega)]; rfl
  have hSA : ((w1.alloc (.cells #[.string x] 9 (0, 0))).drew).cell? ⟨g, off, none⟩ = some (.string x) := (HX1.out.keep (FrW.of_below B ((Below.refl _ w1).alloc (Nat.le_refl _) _)).drew).cell
  clear h hx hx0 hm hlen hcd hfr
  cases bad with
  | true =>
    have : B2 = true := by simpa using hB2
    subst this
    have HW1 := Lib.hid hw1
    clear hpre hw1 hB2
    go_enter Tryz.func138, Tryz.ntmps138
    go_upto_region 3 with (fail)
    rw [← HW1.out]
    clear HW1 d0 d3 d4 dz e0
    have HZ0 : Hid (FrW B w1 w1.drew) := Lib.hid (FrW.refl B w1).drew
    go_region_held3 (fun wz => wz.cell? ⟨g, off, none⟩ = some (.string x))
      (first | exact hS0 | exact hSA | exact hS1 | exact hS2 | fail)
      (first
      | (go_at_call 149
         (with_reducible refine (HU.out _).mono ?_)
         rintro e w2 ⟨rfl, hb2⟩
         have HB2 := Lib.hid (FrW.of_below B hb2)
         have hS1 := (HX1.out.keep HB2.out).cell
         have HC2 := Lib.hid (HCD.out.keep hb2)
         clear hb2)
      | (go_at_call 99
         (with_reducible refine (HW.out _ HB2.out HC2.out).mono ?_)
         rintro e w3 ⟨rfl, hc3, hf3⟩
         have HC3 := Lib.hid hc3
         have HF3 := Lib.hid (HB2.out.trans hf3)
         have hS2 := (HX1.out.keep HF3.out).cell
         clear hc3 hf3))
    all_goals
      go_wp2_with fail
      refine bodyPost_end (v := .tuple #[]) (by simp [results, Tryz.results138, go_sem]) rfl ?_
      exact ⟨rfl, HC3.out, HFR.out.trans HF3.out⟩
  | false =>
    have hb2 : B2 = !decide (x.size ≤ most) := by simpa using hB2
    rw [← hb2] at hpre
    have HW1 := Lib.hid hw1
    clear hb2 hw1 hB2
    go_enter Tryz.func138, Tryz.ntmps138
    go_upto_region 3 with (fail)
    rw [← HW1.out]
    clear HW1 d0 d3 d4 dz e0 hpre
    have HZ0 : Hid (FrW B w1 w1.drew) := Lib.hid (FrW.refl B w1).drew
    go_region_held3 (fun wz => wz.cell? ⟨g, off, none⟩ = some (.string x))
      (first | exact hS0 | exact hSA | exact hS1 | exact hS2 | fail)
      (first
      | (go_at_call 149
         (with_reducible refine (HU.out _).mono ?_)
         rintro e w2 ⟨rfl, hb2⟩
         have HB2 := Lib.hid (FrW.of_below B hb2)
         have hS1 := (HX1.out.keep HB2.out).cell
         have HC2 := Lib.hid (HCD.out.keep hb2)
         clear hb2)
      | (go_at_call 99
         (with_reducible refine (HW.out _ HB2.out HC2.out).mono ?_)
         rintro e w3 ⟨rfl, hc3, hf3⟩
         have HC3 := Lib.hid hc3
         have HF3 := Lib.hid (HB2.out.trans hf3)
         have hS2 := (HX1.out.keep HF3.out).cell
         clear hc3 hf3))
    all_goals
      go_wp2_with fail
      refine bodyPost_end (v := .tuple #[]) (by simp [results, Tryz.results138, go_sem]) rfl ?_
      exact ⟨rfl, HC3.out, HFR.out.trans HF3.out⟩

set_option maxRecDepth 20000 in
set_option maxHeartbeats 2000000 in
theorem truthW (B k m : Nat) (bs : List UInt8) (bad : Bool) (g off : Nat) (x : Bool) (w : World) (h : CdAt B k bs bad m w) (hx : CellT w g off (.bool x)) (hlen : bs.length ≤ 1073741824) :
    Calls Tryz.prog 115 #[.pointer (some ⟨k, 0, none⟩), .pointer (some ⟨g, off, none⟩)] w fun e w' => e = .returned (.tuple #[]) ∧ CdAt B k (bs ++ [Wr.bool x]) bad m w' ∧ FrW B w w' := by
  have HX1 := Lib.hid hx
  have HCD := Lib.hid h
  have HL := Lib.hid hlen
  have HU := Lib.hid (fun wz => bools_dr wz x)
  have HW := Lib.hid (fun wz (hz : FrW B w wz) (hc : CdAt B k bs bad m wz) => cd_string B k m bs bad (S [Wr.bool x]) wz hc (by rw [S_size]; have := HL.out; simp; omega))
  obtain ⟨d0, d3, d4, dz⟩ := h.cells
  have e0 := hx.cell
  have hS0 : w.drew.cell? ⟨g, off, none⟩ = some (.bool x) := hx.cell
  have hSA : ((w.alloc (.cells #[.bool x] 4 (0, 0))).drew).cell? ⟨g, off, none⟩ = some (.bool x) := (HX1.out.keep (FrW.of_below B ((Below.refl _ w).alloc (Nat.le_refl _) _)).drew).cell
  clear h hx hlen
  go_enter Tryz.func115, Tryz.ntmps115
  go_upto_region 2 with (fail)
  clear d0 d3 d4 dz e0
  go_region_held3 (fun wz => wz.cell? ⟨g, off, none⟩ = some (.bool x))
    (first | exact hS0 | exact hSA | exact hS1 | exact hS2 | fail)
    (first
    | (go_at_call 141
       (with_reducible refine (HU.out _).mono ?_)
       rintro e w2 ⟨rfl, hb2⟩
       have HB2 := Lib.hid (FrW.of_below B hb2)
       have hS1 := (HX1.out.keep HB2.out).cell
       have HC2 := Lib.hid (HCD.out.keep hb2)
       clear hb2)
    | (go_at_call 99
       (with_reducible refine (HW.out _ HB2.out HC2.out).mono ?_)
       rintro e w3 ⟨rfl, hc3, hf3⟩
       have HC3 := Lib.hid hc3
       have HF3 := Lib.hid (HB2.out.trans hf3)
       have hS2 := (HX1.out.keep HF3.out).cell
       clear hc3 hf3))
  all_goals
    go_wp2_with fail
    refine bodyPost_end (v := .tuple #[]) (by simp [results, Tryz.results115, go_sem]) rfl ?_
    exact ⟨rfl, HC3.out, HF3.out⟩

end Go.Proofs.YtjgnomjjphkfbaaGreat

namespace Go.Proofs.YtjgnomjjphkfbaaGreat
open Go.RowKit

/-- Cells of a block that calls that write leave as it is. -/
def CellsT (w : World) (g off : Nat) (vs : List Value) : Prop := ∃ cs t fr, w.heap[g]? = some (.cells cs t fr) ∧ (∀ i v, vs[i]? = some v → cs[off + i]? = some v) ∧ t ≠ 5 ∧ t ≠ 118
theorem CellsT.at {w : World} {g off : Nat} {vs : List Value} (h : CellsT w g off vs) (i : Nat) {v : Value} (hi : vs[i]? = some v) : CellT w g (off + i) v := by
  obtain ⟨cs, t, fr, h1, h2, h3, h4⟩ := h
  exact ⟨cs, t, fr, h1, h2 i v hi, h3, h4⟩
theorem CellsT.keep {B : Nat} {w w' : World} {g off : Nat} {vs : List Value} (h : CellsT w g off vs) (f : FrW B w w') : CellsT w' g off vs := by
  obtain ⟨cs, t, fr, h1, h2, h3, h4⟩ := h
  exact ⟨cs, t, fr, f.keep h1 h3 h4, h2, h3, h4⟩
theorem CellsT.sub {w : World} {g off : Nat} {vs us : List Value} (h : CellsT w g off vs) (i : Nat) (hu : ∀ j v, us[j]? = some v → vs[i + j]? = some v) : CellsT w g (off + i) us := by
  obtain ⟨cs, t, fr, h1, h2, h3, h4⟩ := h
  exact ⟨cs, t, fr, h1, fun j v hj => by rw [Nat.add_assoc]; exact h2 _ _ (hu j v hj), h3, h4⟩
abbrev Mg.Tx.cells (x : Mg.Tx) : List Value := [.int .u64 x.life, .int .u64 x.n]
abbrev Mg.Rng.cells (x : Mg.Rng) : List Value := [.int .u64 x.frm, .int .u64 x.top]
abbrev Mg.Rd.cells (x : Mg.Rd) : List Value := [.string x.p, .int .u64 x.n]
abbrev Mg.Ver.cells (x : Mg.Ver) : List Value := [.int .u64 x.n, .int .u8 x.st, .string x.t]
abbrev Mg.Ed.cells (x : Mg.Ed) : List Value := [.int .u8 x.kind, .string x.p, .bool x.any, .int .u64 x.want, .int .u64 x.n, .string x.t]
abbrev Mg.Got.cells (x : Mg.Got) : List Value := [.int .u64 x.v.n, .int .u8 x.v.st, .string x.v.t, .int .i64 x.err]
abbrev okT (t : ByteArray) : Prop := t.size ≤ 1073741824
abbrev ok64 (n : Nat) : Prop := n < 18446744073709551616
structure Mg.Tx.Good (x : Mg.Tx) : Prop where
  a : ok64 x.life
  b : ok64 x.n
structure Mg.Rng.Good (x : Mg.Rng) : Prop where
  a : ok64 x.frm
  b : ok64 x.top
structure Mg.Rd.Good (x : Mg.Rd) : Prop where
  a : okT x.p
  b : ok64 x.n
structure Mg.Ver.Good (x : Mg.Ver) : Prop where
  a : ok64 x.n
  b : x.st < 256
  c : okT x.t
structure Mg.Ed.Good (x : Mg.Ed) : Prop where
  a : x.kind < 256
  b : okT x.p
  d : ok64 x.want
  e : ok64 x.n
  f : okT x.t
structure Mg.Got.Good (x : Mg.Got) : Prop where
  a : x.v.Good
  b : -9223372036854775808 ≤ x.err ∧ x.err ≤ 9223372036854775807

set_option maxRecDepth 20000 in
set_option maxHeartbeats 2000000 in
theorem txidW (B k m : Nat) (bs : List UInt8) (bad : Bool) (g off : Nat) (x : Mg.Tx) (w : World) (h : CdAt B k bs bad m w) (hx : CellsT w g off x.cells) (ok : x.Good) (hlen : bs.length + (Mg.cTx.enc x).length ≤ 1073741824) :
    Calls Tryz.prog 92 #[.pointer (some ⟨k, 0, none⟩), .pointer (some ⟨g, off, none⟩)] w fun e w' => e = .returned (.tuple #[]) ∧ CdAt B k (bs ++ Mg.cTx.enc x) (bad || !Mg.cTx.fit x) m w' ∧ FrW B w w' := by
  have he : Mg.cTx.enc x = Wr.uv x.life ++ (Wr.uv x.n) := rfl
  have hf : Mg.cTx.fit x = (decide (x.life ≤ 4611686018427387904) && (decide (x.n ≤ 4611686018427387904))) := rfl
  have HE : Hid (∀ l, bs ++ Mg.cTx.enc x = l → CdAt B k l = CdAt B k l) := Lib.hid (fun _ _ => rfl)
  clear HE
  rw [he] at hlen
  simp only [List.length_append] at hlen
  have HL := Lib.hid hlen
  have HX := Lib.hid hx
  have HOK := Lib.hid ok
  have H1 := Lib.hid (numW_u64 B k m (bs) (bad) g (off + 0) x.life 4611686018427387904 w h (hx.at 0 rfl) (by have ok := HOK.out; exact ok.a) (by decide) (by have := HL.out; first | omega | (simp only [List.length_append]; omega)))
  clear h hx ok hlen
  go_enter Tryz.func92, Tryz.ntmps92
  go_wp2_with fail
  refine H1.out.mono ?_
  rintro e w1 ⟨rfl, hc1, hf1⟩
  have HF1 := Lib.hid hf1
  have H2 := Lib.hid (numW_u64 B k m (bs ++ Wr.uv x.life) (bad || !decide (x.life ≤ 4611686018427387904)) g (off + 1) x.n 4611686018427387904 w1 hc1 ((HX.out.keep HF1.out).at 1 rfl) (by have ok := HOK.out; exact ok.b) (by decide) (by have := HL.out; first | omega | (simp only [List.length_append]; omega)))
  clear hc1 hf1
  go_wp2_with fail
  refine H2.out.mono ?_
  rintro e w2 ⟨rfl, hc2, hf2⟩
  have HF2 := Lib.hid (HF1.out.trans hf2)
  have HC := Lib.hid hc2
  clear hc2 hf2
  go_wp2_with fail
  refine bodyPost_end (v := .tuple #[]) (by simp [results, Tryz.results92, go_sem]) rfl ?_
  refine ⟨rfl, ?_, HF2.out⟩
  have hc := HC.out
  rw [he, hf]
  simpa only [List.append_assoc, Bool.not_and, Bool.or_assoc, Bool.not_true, Bool.or_false, Bool.false_or, Bool.true_and] using hc

set_option maxRecDepth 20000 in
set_option maxHeartbeats 2000000 in
theorem spanW (B k m : Nat) (bs : List UInt8) (bad : Bool) (g off : Nat) (x : Mg.Rng) (w : World) (h : CdAt B k bs bad m w) (hx : CellsT w g off x.cells) (ok : x.Good) (hlen : bs.length + (Mg.cRng.enc x).length ≤ 1073741824) :
    Calls Tryz.prog 117 #[.pointer (some ⟨k, 0, none⟩), .pointer (some ⟨g, off, none⟩)] w fun e w' => e = .returned (.tuple #[]) ∧ CdAt B k (bs ++ Mg.cRng.enc x) (bad || !Mg.cRng.fit x) m w' ∧ FrW B w w' := by
  have he : Mg.cRng.enc x = Wr.uv x.frm ++ (Wr.uv x.top) := rfl
  have hf : Mg.cRng.fit x = (decide (x.frm ≤ 18446744073709551615) && (decide (x.top ≤ 18446744073709551615))) := rfl
  have HE : Hid (∀ l, bs ++ Mg.cRng.enc x = l → CdAt B k l = CdAt B k l) := Lib.hid (fun _ _ => rfl)
  clear HE
  rw [he] at hlen
  simp only [List.length_append] at hlen
  have HL := Lib.hid hlen
  have HX := Lib.hid hx
  have HOK := Lib.hid ok
  have H1 := Lib.hid (numW_u64 B k m (bs) (bad) g (off + 0) x.frm 18446744073709551615 w h (hx.at 0 rfl) (by have ok := HOK.out; exact ok.a) (by decide) (by have := HL.out; first | omega | (simp only [List.length_append]; omega)))
  clear h hx ok hlen
  go_enter Tryz.func117, Tryz.ntmps117
  go_wp2_with fail
  refine H1.out.mono ?_
  rintro e w1 ⟨rfl, hc1, hf1⟩
  have HF1 := Lib.hid hf1
  have H2 := Lib.hid (numW_u64 B k m (bs ++ Wr.uv x.frm) (bad || !decide (x.frm ≤ 18446744073709551615)) g (off + 1) x.top 18446744073709551615 w1 hc1 ((HX.out.keep HF1.out).at 1 rfl) (by have ok := HOK.out; exact ok.b) (by decide) (by have := HL.out; first | omega | (simp only [List.length_append]; omega)))
  clear hc1 hf1
  go_wp2_with fail
  refine H2.out.mono ?_
  rintro e w2 ⟨rfl, hc2, hf2⟩
  have HF2 := Lib.hid (HF1.out.trans hf2)
  have HC := Lib.hid hc2
  clear hc2 hf2
  go_wp2_with fail
  refine bodyPost_end (v := .tuple #[]) (by simp [results, Tryz.results117, go_sem]) rfl ?_
  refine ⟨rfl, ?_, HF2.out⟩
  have hc := HC.out
  rw [he, hf]
  simpa only [List.append_assoc, Bool.not_and, Bool.or_assoc, Bool.not_true, Bool.or_false, Bool.false_or, Bool.true_and] using hc

set_option maxRecDepth 20000 in
set_option maxHeartbeats 2000000 in
theorem readW (B k m : Nat) (bs : List UInt8) (bad : Bool) (g off : Nat) (x : Mg.Rd) (w : World) (h : CdAt B k bs bad m w) (hx : CellsT w g off x.cells) (ok : x.Good) (hlen : bs.length + (Mg.cRd.enc x).length ≤ 1073741824) :
    Calls Tryz.prog 110 #[.pointer (some ⟨k, 0, none⟩), .pointer (some ⟨g, off, none⟩)] w fun e w' => e = .returned (.tuple #[]) ∧ CdAt B k (bs ++ Mg.cRd.enc x) (bad || !Mg.cRd.fit x) m w' ∧ FrW B w w' := by
  have he : Mg.cRd.enc x = Wr.txt (L x.p) ++ (Wr.uv x.n) := rfl
  have hf : Mg.cRd.fit x = (decide (x.p.size ≤ 129) && (decide (x.n ≤ 18446744073709551615))) := rfl
  have HE : Hid (∀ l, bs ++ Mg.cRd.enc x = l → CdAt B k l = CdAt B k l) := Lib.hid (fun _ _ => rfl)
  clear HE
  rw [he] at hlen
  simp only [List.length_append] at hlen
  have HL := Lib.hid hlen
  have HX := Lib.hid hx
  have HOK := Lib.hid ok
  have H1 := Lib.hid (textW B k m (bs) (bad) g (off + 0) x.p 129 w h (hx.at 0 rfl) (by have ok := HOK.out; exact ok.a) (by decide) (by have := HL.out; first | omega | (simp only [List.length_append]; omega)))
  clear h hx ok hlen
  go_enter Tryz.func110, Tryz.ntmps110
  go_wp2_with fail
  refine H1.out.mono ?_
  rintro e w1 ⟨rfl, hc1, hf1⟩
  have HF1 := Lib.hid hf1
  have H2 := Lib.hid (numW_u64 B k m (bs ++ Wr.txt (L x.p)) (bad || !decide (x.p.size ≤ 129)) g (off + 1) x.n 18446744073709551615 w1 hc1 ((HX.out.keep HF1.out).at 1 rfl) (by have ok := HOK.out; exact ok.b) (by decide) (by have := HL.out; first | omega | (simp only [List.length_append]; omega)))
  clear hc1 hf1
  go_wp2_with fail
  refine H2.out.mono ?_
  rintro e w2 ⟨rfl, hc2, hf2⟩
  have HF2 := Lib.hid (HF1.out.trans hf2)
  have HC := Lib.hid hc2
  clear hc2 hf2
  go_wp2_with fail
  refine bodyPost_end (v := .tuple #[]) (by simp [results, Tryz.results110, go_sem]) rfl ?_
  refine ⟨rfl, ?_, HF2.out⟩
  have hc := HC.out
  rw [he, hf]
  simpa only [List.append_assoc, Bool.not_and, Bool.or_assoc, Bool.not_true, Bool.or_false, Bool.false_or, Bool.true_and] using hc

set_option maxRecDepth 20000 in
set_option maxHeartbeats 2000000 in
theorem versionW (B k m : Nat) (bs : List UInt8) (bad : Bool) (g off : Nat) (x : Mg.Ver) (w : World) (h : CdAt B k bs bad m w) (hx : CellsT w g off x.cells) (ok : x.Good) (hlen : bs.length + (Mg.cVer.enc x).length ≤ 1073741824) :
    Calls Tryz.prog 143 #[.pointer (some ⟨k, 0, none⟩), .pointer (some ⟨g, off, none⟩)] w fun e w' => e = .returned (.tuple #[]) ∧ CdAt B k (bs ++ Mg.cVer.enc x) (bad || !Mg.cVer.fit x) m w' ∧ FrW B w w' := by
  have he : Mg.cVer.enc x = Wr.uv x.n ++ (Wr.uv x.st ++ (Wr.txt (L x.t))) := rfl
  have hf : Mg.cVer.fit x = (decide (x.n ≤ 18446744073709551615) && (decide (x.st ≤ 255) && (decide (x.t.size ≤ 4096)))) := rfl
  have HE : Hid (∀ l, bs ++ Mg.cVer.enc x = l → CdAt B k l = CdAt B k l) := Lib.hid (fun _ _ => rfl)
  clear HE
  rw [he] at hlen
  simp only [List.length_append] at hlen
  have HL := Lib.hid hlen
  have HX := Lib.hid hx
  have HOK := Lib.hid ok
  have H1 := Lib.hid (numW_u64 B k m (bs) (bad) g (off + 0) x.n 18446744073709551615 w h (hx.at 0 rfl) (by have ok := HOK.out; exact ok.a) (by decide) (by have := HL.out; first | omega | (simp only [List.length_append]; omega)))
  clear h hx ok hlen
  go_enter Tryz.func143, Tryz.ntmps143
  go_wp2_with fail
  refine H1.out.mono ?_
  rintro e w1 ⟨rfl, hc1, hf1⟩
  have HF1 := Lib.hid hf1
  have H2 := Lib.hid (numW_u8 B k m (bs ++ Wr.uv x.n) (bad || !decide (x.n ≤ 18446744073709551615)) g (off + 1) x.st 255 w1 hc1 ((HX.out.keep HF1.out).at 1 rfl) (by have ok := HOK.out; exact ok.b) (by decide) (by have := HL.out; first | omega | (simp only [List.length_append]; omega)))
  clear hc1 hf1
  go_wp2_with fail
  refine H2.out.mono ?_
  rintro e w2 ⟨rfl, hc2, hf2⟩
  have HF2 := Lib.hid (HF1.out.trans hf2)
  have H3 := Lib.hid (textW B k m ((bs ++ Wr.uv x.n) ++ Wr.uv x.st) ((bad || !decide (x.n ≤ 18446744073709551615)) || !decide (x.st ≤ 255)) g (off + 2) x.t 4096 w2 hc2 ((HX.out.keep HF2.out).at 2 rfl) (by have ok := HOK.out; exact ok.c) (by decide) (by have := HL.out; first | omega | (simp only [List.length_append]; omega)))
  clear hc2 hf2
  go_wp2_with fail
  refine H3.out.mono ?_
  rintro e w3 ⟨rfl, hc3, hf3⟩
  have HF3 := Lib.hid (HF2.out.trans hf3)
  have HC := Lib.hid hc3
  clear hc3 hf3
  go_wp2_with fail
  refine bodyPost_end (v := .tuple #[]) (by simp [results, Tryz.results143, go_sem]) rfl ?_
  refine ⟨rfl, ?_, HF3.out⟩
  have hc := HC.out
  rw [he, hf]
  simpa only [List.append_assoc, Bool.not_and, Bool.or_assoc, Bool.not_true, Bool.or_false, Bool.false_or, Bool.true_and] using hc

set_option maxRecDepth 20000 in
set_option maxHeartbeats 2000000 in
theorem editW (B k m : Nat) (bs : List UInt8) (bad : Bool) (g off : Nat) (x : Mg.Ed) (w : World) (h : CdAt B k bs bad m w) (hx : CellsT w g off x.cells) (ok : x.Good) (hlen : bs.length + (Mg.cEd.enc x).length ≤ 1073741824) :
    Calls Tryz.prog 114 #[.pointer (some ⟨k, 0, none⟩), .pointer (some ⟨g, off, none⟩)] w fun e w' => e = .returned (.tuple #[]) ∧ CdAt B k (bs ++ Mg.cEd.enc x) (bad || !Mg.cEd.fit x) m w' ∧ FrW B w w' := by
  have he : Mg.cEd.enc x = Wr.uv x.kind ++ (Wr.txt (L x.p) ++ ([Wr.bool x.any] ++ (Wr.uv x.want ++ (Wr.uv x.n ++ (Wr.txt (L x.t)))))) := rfl
  have hf : Mg.cEd.fit x = (decide (x.kind ≤ 255) && (decide (x.p.size ≤ 129) && (true && (decide (x.want ≤ 18446744073709551615) && (decide (x.n ≤ 18446744073709551615) && (decide (x.t.size ≤ 4096))))))) := rfl
  have HE : Hid (∀ l, bs ++ Mg.cEd.enc x = l → CdAt B k l = CdAt B k l) := Lib.hid (fun _ _ => rfl)
  clear HE
  rw [he] at hlen
  simp only [List.length_append] at hlen
  have HL := Lib.hid hlen
  have HX := Lib.hid hx
  have HOK := Lib.hid ok
  have H1 := Lib.hid (numW_u8 B k m (bs) (bad) g (off + 0) x.kind 255 w h (hx.at 0 rfl) (by have ok := HOK.out; exact ok.a) (by decide) (by have := HL.out; first | omega | (simp only [List.length_append]; omega)))
  clear h hx ok hlen
  go_enter Tryz.func114, Tryz.ntmps114
  go_wp2_with fail
  refine H1.out.mono ?_
  rintro e w1 ⟨rfl, hc1, hf1⟩
  have HF1 := Lib.hid hf1
  have H2 := Lib.hid (textW B k m (bs ++ Wr.uv x.kind) (bad || !decide (x.kind ≤ 255)) g (off + 1) x.p 129 w1 hc1 ((HX.out.keep HF1.out).at 1 rfl) (by have ok := HOK.out; exact ok.b) (by decide) (by have := HL.out; first | omega | (simp only [List.length_append]; omega)))
  clear hc1 hf1
  go_wp2_with fail
  refine H2.out.mono ?_
  rintro e w2 ⟨rfl, hc2, hf2⟩
  have HF2 := Lib.hid (HF1.out.trans hf2)
  have H3 := Lib.hid (truthW B k m ((bs ++ Wr.uv x.kind) ++ Wr.txt (L x.p)) ((bad || !decide (x.kind ≤ 255)) || !decide (x.p.size ≤ 129)) g (off + 2) x.any w2 hc2 ((HX.out.keep HF2.out).at 2 rfl) (by have := HL.out; first | omega | (simp only [List.length_append]; omega)))
  clear hc2 hf2
  go_wp2_with fail
  refine H3.out.mono ?_
  rintro e w3 ⟨rfl, hc3, hf3⟩
  have HF3 := Lib.hid (HF2.out.trans hf3)
  have H4 := Lib.hid (numW_u64 B k m (((bs ++ Wr.uv x.kind) ++ Wr.txt (L x.p)) ++ [Wr.bool x.any]) ((bad || !decide (x.kind ≤ 255)) || !decide (x.p.size ≤ 129)) g (off + 3) x.want 18446744073709551615 w3 hc3 ((HX.out.keep HF3.out).at 3 rfl) (by have ok := HOK.out; exact ok.d) (by decide) (by have := HL.out; first | omega | (simp only [List.length_append]; omega)))
  clear hc3 hf3
  go_wp2_with fail
  refine H4.out.mono ?_
  rintro e w4 ⟨rfl, hc4, hf4⟩
  have HF4 := Lib.hid (HF3.out.trans hf4)
  have H5 := Lib.hid (numW_u64 B k m ((((bs ++ Wr.uv x.kind) ++ Wr.txt (L x.p)) ++ [Wr.bool x.any]) ++ Wr.uv x.want) (((bad || !decide (x.kind ≤ 255)) || !decide (x.p.size ≤ 129)) || !decide (x.want ≤ 18446744073709551615)) g (off + 4) x.n 18446744073709551615 w4 hc4 ((HX.out.keep HF4.out).at 4 rfl) (by have ok := HOK.out; exact ok.e) (by decide) (by have := HL.out; first | omega | (simp only [List.length_append]; omega)))
  clear hc4 hf4
  go_wp2_with fail
  refine H5.out.mono ?_
  rintro e w5 ⟨rfl, hc5, hf5⟩
  have HF5 := Lib.hid (HF4.out.trans hf5)
  have H6 := Lib.hid (textW B k m (((((bs ++ Wr.uv x.kind) ++ Wr.txt (L x.p)) ++ [Wr.bool x.any]) ++ Wr.uv x.want) ++ Wr.uv x.n) ((((bad || !decide (x.kind ≤ 255)) || !decide (x.p.size ≤ 129)) || !decide (x.want ≤ 18446744073709551615)) || !decide (x.n ≤ 18446744073709551615)) g (off + 5) x.t 4096 w5 hc5 ((HX.out.keep HF5.out).at 5 rfl) (by have ok := HOK.out; exact ok.f) (by decide) (by have := HL.out; first | omega | (simp only [List.length_append]; omega)))
  clear hc5 hf5
  go_wp2_with fail
  refine H6.out.mono ?_
  rintro e w6 ⟨rfl, hc6, hf6⟩
  have HF6 := Lib.hid (HF5.out.trans hf6)
  have HC := Lib.hid hc6
  clear hc6 hf6
  go_wp2_with fail
  refine bodyPost_end (v := .tuple #[]) (by simp [results, Tryz.results114, go_sem]) rfl ?_
  refine ⟨rfl, ?_, HF6.out⟩
  have hc := HC.out
  rw [he, hf]
  simpa only [List.append_assoc, Bool.not_and, Bool.or_assoc, Bool.not_true, Bool.or_false, Bool.false_or, Bool.true_and] using hc

end Go.Proofs.YtjgnomjjphkfbaaGreat

namespace Go.Proofs.YtjgnomjjphkfbaaGreat
open Go.RowKit

theorem wrap_enc (most : Nat) (x : Int) : Wr.uv (IntKind.u64.wrap x).toNat = (Mg.int most).enc x := by
  rw [IntKind.wrap_u64]; rfl

set_option maxRecDepth 20000 in
set_option maxHeartbeats 2000000 in
theorem placeW (B k m : Nat) (bs : List UInt8) (bad : Bool) (g off : Nat) (x : Int) (w : World) (h : CdAt B k bs bad m w) (hx : CellT w g off (.int .i64 x)) (ok : -9223372036854775808 ≤ x ∧ x ≤ 9223372036854775807) (hlen : bs.length ≤ 1073741824) :
    Calls Tryz.prog 112 #[.pointer (some ⟨k, 0, none⟩), .pointer (some ⟨g, off, none⟩)] w fun e w' => e = .returned (.tuple #[]) ∧ CdAt B k (bs ++ (Mg.int 512).enc x) (bad || !(Mg.int 512).fit x) m w' ∧ FrW B w w' := by
  have H1 := Lib.hid (numW_int B k m bs bad g off x 512 w h hx ok (by decide) hlen)
  have HW := Lib.hid (wrap_enc 512 x)
  clear h hx ok hlen
  go_enter Tryz.func112, Tryz.ntmps112
  go_wp2_with fail
  refine H1.out.mono ?_
  rintro e w1 ⟨rfl, hc1, hf1⟩
  have HC := Lib.hid hc1
  have HF := Lib.hid hf1
  clear hc1 hf1
  go_wp2_with fail
  refine bodyPost_end (v := .tuple #[]) (by simp [results, Tryz.results112, go_sem]) rfl ⟨rfl, ?_, HF.out⟩
  rw [← HW.out]
  exact HC.out

set_option maxRecDepth 20000 in
set_option maxHeartbeats 2000000 in
theorem nameW (B k m : Nat) (bs : List UInt8) (bad : Bool) (g off : Nat) (x : ByteArray) (w : World) (h : CdAt B k bs bad m w) (hx : CellT w g off (.string x)) (ok : okT x) (hlen : bs.length ≤ 1073741824) :
    Calls Tryz.prog 116 #[.pointer (some ⟨k, 0, none⟩), .pointer (some ⟨g, off, none⟩)] w fun e w' => e = .returned (.tuple #[]) ∧ CdAt B k (bs ++ (Mg.text 129).enc x) (bad || !(Mg.text 129).fit x) m w' ∧ FrW B w w' := by
  have H1 := Lib.hid (textW B k m bs bad g off x 129 w h hx ok (by decide) hlen)
  clear h hx ok hlen
  go_enter Tryz.func116, Tryz.ntmps116
  go_wp2_with fail
  refine H1.out.mono ?_
  rintro e w1 ⟨rfl, hc1, hf1⟩
  have HC := Lib.hid hc1
  have HF := Lib.hid hf1
  clear hc1 hf1
  go_wp2_with fail
  exact bodyPost_end (v := .tuple #[]) (by simp [results, Tryz.results116, go_sem]) rfl ⟨rfl, HC.out, HF.out⟩

set_option maxRecDepth 20000 in
set_option maxHeartbeats 2000000 in
theorem numberW (B k m : Nat) (bs : List UInt8) (bad : Bool) (g off : Nat) (x : Nat) (w : World) (h : CdAt B k bs bad m w) (hx : CellT w g off (.int .u64 x)) (ok : ok64 x) (hlen : bs.length ≤ 1073741824) :
    Calls Tryz.prog 125 #[.pointer (some ⟨k, 0, none⟩), .pointer (some ⟨g, off, none⟩)] w fun e w' => e = .returned (.tuple #[]) ∧ CdAt B k (bs ++ (Mg.num Mg.All).enc x) (bad || !(Mg.num Mg.All).fit x) m w' ∧ FrW B w w' := by
  have H1 := Lib.hid (numW_u64 B k m bs bad g off x 18446744073709551615 w h hx ok (by decide) hlen)
  clear h hx ok hlen
  go_enter Tryz.func125, Tryz.ntmps125
  go_wp2_with fail
  refine H1.out.mono ?_
  rintro e w1 ⟨rfl, hc1, hf1⟩
  have HC := Lib.hid hc1
  have HF := Lib.hid hf1
  clear hc1 hf1
  go_wp2_with fail
  exact bodyPost_end (v := .tuple #[]) (by simp [results, Tryz.results125, go_sem]) rfl ⟨rfl, HC.out, HF.out⟩

set_option maxRecDepth 20000 in
set_option maxHeartbeats 2000000 in
theorem gotW (B k m : Nat) (bs : List UInt8) (bad : Bool) (g off : Nat) (x : Mg.Got) (w : World) (h : CdAt B k bs bad m w) (hx : CellsT w g off x.cells) (ok : x.Good) (hlen : bs.length + (Mg.cGot.enc x).length ≤ 1073741824) :
    Calls Tryz.prog 123 #[.pointer (some ⟨k, 0, none⟩), .pointer (some ⟨g, off, none⟩)] w fun e w' => e = .returned (.tuple #[]) ∧ CdAt B k (bs ++ Mg.cGot.enc x) (bad || !Mg.cGot.fit x) m w' ∧ FrW B w w' := by
  have he : Mg.cGot.enc x = Mg.cVer.enc x.v ++ (Mg.int 9999).enc x.err := rfl
  have hf : Mg.cGot.fit x = (Mg.cVer.fit x.v && (Mg.int 9999).fit x.err) := rfl
  rw [he, List.length_append] at hlen
  have HL := Lib.hid hlen
  have HX := Lib.hid hx
  have HOK := Lib.hid ok
  have HWE := Lib.hid (wrap_enc 9999 x.err)
  have H1 := Lib.hid (versionW B k m bs bad g off x.v w h (hx.sub 0 (fun j v hj => by
    match j, hj with
    | 0, hj => simpa using hj
    | 1, hj => simpa using hj
    | 2, hj => simpa using hj)) ok.a (by omega))
  clear h hx ok hlen
  go_enter Tryz.func123, Tryz.ntmps123
  go_wp2_with fail
  refine H1.out.mono ?_
  rintro e w1 ⟨rfl, hc1, hf1⟩
  have HF1 := Lib.hid hf1
  have H2 := Lib.hid (numW_errno B k m _ _ g (off + 3) x.err 9999 w1 hc1 ((HX.out.keep hf1).at 3 rfl) HOK.out.b (by decide) (by have := HL.out; rw [List.length_append]; omega))
  clear hc1 hf1
  go_wp2_with fail
  refine H2.out.mono ?_
  rintro e w2 ⟨rfl, hc2, hf2⟩
  have HF2 := Lib.hid (HF1.out.trans hf2)
  have HC := Lib.hid hc2
  clear hc2 hf2
  go_wp2_with fail
  refine bodyPost_end (v := .tuple #[]) (by simp [results, Tryz.results123, go_sem]) rfl ⟨rfl, ?_, HF2.out⟩
  have hc : CdAt B k ((bs ++ Mg.cVer.enc x.v) ++ (Mg.int 9999).enc x.err) ((bad || !Mg.cVer.fit x.v) || !(Mg.int 9999).fit x.err) m w2 := by
    have := HC.out
    rw [HWE.out] at this
    exact this
  rw [he, hf]
  simpa only [List.append_assoc, Bool.not_and, Bool.or_assoc] using hc

end Go.Proofs.YtjgnomjjphkfbaaGreat
