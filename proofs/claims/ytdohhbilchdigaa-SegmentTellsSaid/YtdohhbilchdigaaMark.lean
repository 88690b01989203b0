/-
  ROWS OF BYTES THAT '[]byte(s)' HAS LAID, with its mark behind them: append of a text, and the text that they are.
-/
import Derived.Test.YtdohhbilchdigaaMem
import Derived.Test.YtdohhbilchdigaaBytes8
import Derived.Lib.AppendStr
namespace Go.Proofs.Ytdohhbilchdigaa
open Go.RowKit

/-- A row of bytes of the call's own: nothing of it is frozen; a mark may lie behind its last cell. -/
def MarkIs (w : World) (base : Nat) (e : TypeId) (a : Option Addr) (n cap : Nat) (l : List UInt8) : Prop :=
  l.length = n ∧ ((a = none ∧ n = 0 ∧ cap = 0) ∨
   ∃ g cur fz, a = some ⟨g, 0, none⟩ ∧ base ≤ g ∧ w.heap[g]? = some (.cells cur e fz) ∧ (∀ j, j < cur.size → ¬ (fz.1 ≤ j ∧ j < fz.2)) ∧ n ≤ cap ∧ cap ≤ maxLen ∧ cur.size = cap ∧ cur.toList.take n = l.map fun b => Value.int .u8 (by8 b))
theorem MarkIs.keep {w w' : World} {base : Nat} {e : TypeId} {a : Option Addr} {n cap : Nat} {l : List UInt8} (h : MarkIs w base e a n cap l) (hb : Below w.heap.size w w') : MarkIs w' base e a n cap l := by
  refine ⟨h.1, ?_⟩
  rcases h.2 with h1 | ⟨g, cur, fz, rfl, hbg, hg, rest⟩
  · exact .inl h1
  · exact .inr ⟨g, cur, fz, rfl, hbg, (hb.block g (blk_lt hg)).trans hg, rest⟩
theorem strCells_by8 (s : ByteArray) : Lib.strCells s = (L s).map fun b => Value.int .u8 (by8 b) := rfl
theorem MarkIs.of_bytes {P : Program} (w : World) (src dst e : TypeId) (s : ByteArray) (hs : P.underlying src = some .string) (hd : P.underlying dst = some (.slice e)) (he : P.underlying e = some (.int .u8)) (hz : s.size ≤ maxLen) :
    ∃ cap w', (convert src dst (.string s)).run P w = .ok (.slice (some ⟨w.heap.size, 0, none⟩) s.size cap) w' ∧ MarkIs w' w.heap.size e (some ⟨w.heap.size, 0, none⟩) s.size cap (L s) ∧ Below w.heap.size w w' := by
  refine ⟨_, _, run_bytes_of_string w src dst e s hs hd he, ⟨L_size s, .inr ⟨_, _, _, rfl, Nat.le_refl _, heap_alloc_new w.drew _, ?_, grownCap_ge _ _ _ _, grownCap_le_maxLen _ _ _ _ hz, ?_, ?_⟩⟩, ((Own.refl w).drew.alloc _).below⟩
  · intro j hj h; simp only at h; omega
  · have h1 := grownCap_ge w s.size 0 e
    rw [byteRow_of, byteRow_size _ _ (by rw [L_size]; exact h1)]
  · have h1 := grownCap_ge w s.size 0 e
    rw [byteRow_of]
    unfold byteRow
    simp [L_size]
theorem MarkIs.text {P : Program} {w : World} {base : Nat} {e : TypeId} {a : Option Addr} {n cap : Nat} {l : List UInt8} (h : MarkIs w base e a n cap l) (src dst : TypeId) (hs : P.underlying src = some (.slice e)) (he : P.underlying e = some (.int .u8)) (hd : P.underlying dst = some .string) (hn : 0 < n) :
    (convert src dst (.slice a n cap)).run P w = .ok (.string ⟨l.toArray⟩) w := by
  obtain ⟨hl, h | ⟨g, cur, fz, rfl, hbg, hg, hfz, hnc, hcm, hcs, ht⟩⟩ := h
  · omega
  · refine run_string_of (P := P) w src dst e g cap l cur e fz n hl.symm hs he hd hg ?_
    intro j hj
    have h1 : (cur.toList.take n)[j]? = some (.int .u8 (by8 l[j])) := by rw [ht]; simp [hj]
    rw [List.getElem?_take] at h1
    split at h1
    · simpa using h1
    · cases h1

/-- Cells written one by one, where no mark lies. -/
theorem run_store_mark (P : Program) (g o : Nat) (t : TypeId) (fz : Nat × Nat) : ∀ (vs : List Value) (i : Nat) (cur : Array Value) (w : World), w.heap[g]? = some (.cells cur t fz) → (∀ j, j < cur.size → ¬ (fz.1 ≤ j ∧ j < fz.2)) → o + i + vs.length ≤ cur.size → (∀ v ∈ vs, v.oneCell' = true) →
    ∃ w' cur', (storeCells ⟨g, o, none⟩ vs i).run P w = .ok () w' ∧ w'.heap[g]? = some (.cells cur' t fz) ∧ cur'.size = cur.size ∧ cur'.toList.take (o + i + vs.length) = cur.toList.take (o + i) ++ vs ∧ Upd w w' [g]
  | [], i, cur, w, hg, _, _, _ => ⟨w, cur, rfl, hg, rfl, by simp, Upd.refl _ _⟩
  | v :: rest, i, cur, w, hg, hfz, hl, h1 => by
    simp only [List.length_cons] at hl
    have hi : o + i < cur.size := by omega
    have hadd : (⟨g, o, none⟩ : Addr).add i = ⟨g, o + i, none⟩ := Addr.add_lit _ _ _
    have hcell : w.cell? ⟨g, o + i, none⟩ = some cur[o + i] := by rw [cell_of_row w g _ _ _ _ hg]; simp [hi]
    have hfro : w.frozen? ⟨g, o + i, none⟩ = false := by
      have := hfz (o + i) hi
      obtain ⟨lo, up⟩ := fz
      simp only [World.frozen?, hg, Bool.and_eq_false_iff, decide_eq_false_iff_not]
      simp only at this
      omega
    have hst : (store ((⟨g, o, none⟩ : Addr).add i) v).run P w = .ok () (w.setCell ⟨g, o + i, none⟩ v) := by
      rw [hadd, run_store P w _ v _ (h1 v (by simp)), hcell]
      simp [hfro]
    obtain ⟨w', cur', e1, e2, e3, e4, e5⟩ := run_store_mark P g o t fz rest (i + 1) (cur.setIfInBounds (o + i) v) (w.setCell ⟨g, o + i, none⟩ v) (heap_set v hg) (by simpa using hfz) (by simp; omega) (fun x hx => h1 x (by simp [hx]))
    refine ⟨w', cur', ?_, e2, by simpa using e3, ?_, ((Upd.refl w [g]).setCell (.inl (by simp)) v).trans e5 (by simp)⟩
    · simp only [storeCells, Sem.run_bind, hst, Result.andThen_ok, e1]
    · rw [show o + i + (v :: rest).length = o + (i + 1) + rest.length from by simp only [List.length_cons]; omega, e4]
      have e6 : (cur.setIfInBounds (o + i) v).toList.take (o + (i + 1)) = cur.toList.take (o + i) ++ [v] := by
        rw [show o + (i + 1) = o + i + 1 from by omega, Array.toList_setIfInBounds, List.take_succ_eq_append_getElem (by simp; omega), List.take_set_of_le (by omega)]
        simp
      rw [e6]; simp

/-- 'append(b, s...)'. -/
theorem run_append_mark {P : Program} (w : World) (base : Nat) (t u ty e : TypeId) (i : TypeInfo) (ht : P.underlying t = some (.slice e)) (hu : P.underlying u = some .string) (hi : P.info? e = some i) (hz : i.zero = some (.int .u8 0))
    (hsize : i.size = 1) (hby : i.bytes = 1) (a : Option Addr) (n cap : Nat) (l : List UInt8) (h : MarkIs w base e a n cap l) (s : ByteArray) (hb : n + s.size ≤ 140737488355328) (hbase : base ≤ w.heap.size) :
    ∃ a' cap' w', (Builtin.append_ #[t, u] ty #[.slice a n cap, .string s]).run P w = .ok (.slice a' (n + s.size) cap') w' ∧ MarkIs w' base e a' (n + s.size) cap' (l ++ L s) ∧ Upd w w' (blks a) := by
  obtain ⟨hl, ⟨rfl, rfl, rfl⟩ | ⟨g, cur, fz, rfl, hbg, hg, hfz, hnc, hcm, hcs, htk⟩⟩ := h
  · obtain ⟨v', w', hr, ho, hgr, _⟩ := Lib.run_append_own_string (P := P) w base t u ty e i ht hu hi hz hsize hby (.slice none 0 0) 0 [] (World.ownsRow_nil w _ e 1) s (by unfold maxLen; omega) hb hbase
    have hl0 : l = [] := List.eq_nil_of_length_eq_zero hl
    subst hl0
    have hup : Upd w w' [] := ⟨hgr.os, hgr.tape, hgr.output, hgr.size, fun k hk _ => hgr.block k hk (by simp [Value.ownBlock])⟩
    obtain ⟨ho1, ⟨rfl, ho2⟩ | ⟨g, cap, cur, rfl, hbg, hg, hnc, hcm, hcs, htk⟩⟩ := ho
    · refine ⟨none, 0, w', ?_, ⟨by simp [L_size], .inl ⟨rfl, ho2, rfl⟩⟩, hup⟩
      rw [hr, ho2]
    · exact ⟨_, cap, w', hr, ⟨by simp [L_size], .inr ⟨g, cur, (0, 0), rfl, hbg, hg, fun j _ => by simp, hnc, hcm, by simpa using hcs, by rw [List.nil_append, ← strCells_by8]; simpa using htk⟩⟩, hup⟩
  · by_cases hroom : n + s.size ≤ cap
    · have hf := Lib.run_firstCells_string (P := P) w 1 s
      obtain ⟨w', cur', hst, hg', hcs', htk', hup⟩ := run_store_mark P g n e fz (Lib.strCells s) 0 cur w hg hfz (by rw [Lib.strCells_length]; omega) (Lib.strCells_oneCell s)
      refine ⟨some ⟨g, 0, none⟩, cap, w', ?_, ⟨by rw [List.length_append, hl, L_size], .inr ⟨g, cur', fz, rfl, hbg, hg', by rw [hcs']; exact hfz, hroom, hcm, by omega, ?_⟩⟩, by simpa [blks] using hup⟩
      · simp [Builtin.append_, run_underlying ht, run_underlying hu, sizeOf, typeInfo, hi, hsize, Builtin.lenOf, hroom, hf, Addr.add_lit, hst]
      · rw [Lib.strCells_length] at htk'
        simp only [Nat.add_zero] at htk'
        rw [htk', htk, List.map_append, strCells_by8]
    · have holds : ∀ j u, (l.map fun b => Value.int .u8 (by8 b))[j]? = some u → w.cell? ((⟨g, 0, none⟩ : Addr).add j) = some u := by
        intro j u hj
        rw [Addr.add_lit, cell_of_row w g _ _ _ _ hg]
        rw [← htk, List.getElem?_take] at hj
        split at hj
        · simpa using hj
        · cases hj
      have hr := Lib.run_append_grow_string (P := P) w t u ty e i (.int .u8 0) ht hu hi hz ⟨g, 0, none⟩ n cap (l.map fun b => Value.int .u8 (by8 b)) (by rw [hsize]; simpa using hl) holds s (by omega) (by omega) (by rw [hby]; exact growslice_fits (by omega) (by omega))
      have hge := grownCap_ge w (n + s.size) cap e
      refine ⟨_, _, _, hr, ⟨by rw [List.length_append, hl, L_size], .inr ⟨_, _, (0, 0), rfl, hbase, heap_alloc_new w.drew _, fun j _ => by simp, hge, grownCap_le_maxLen w _ cap e (by unfold maxLen; omega), ?_, ?_⟩⟩, ((Upd.refl w _).drew.alloc _)⟩
      · have hz1 : (Value.int IntKind.u8 0).cells.size = 1 := rfl
        simp only [Array.size_append, List.size_toArray, size_zeroCells, hz1, List.length_map, hl, Lib.strCells_length]
        omega
      · rw [strCells_by8]
        simp only [Array.toList_append, List.append_assoc]
        rw [← List.append_assoc, ← List.map_append]
        have : n + s.size = ((l ++ L s).map fun b => Value.int IntKind.u8 (by8 b)).length := by simp [hl, L_size]
        rw [this, List.take_left]

end Go.Proofs.Ytdohhbilchdigaa
