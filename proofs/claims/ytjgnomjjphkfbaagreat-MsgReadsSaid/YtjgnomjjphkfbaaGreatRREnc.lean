/-
  Joined out of the texts MsgOnly MsgREnc.
-/
import Derived.Test.YtjgnomjjphkfbaaGreatRMay
import Derived.Test.YtjgnomjjphkfbaaGreatREq
import Derived.Test.YtjgnomjjphkfbaaGreatRPutx
import Derived.Test.YtjgnomjjphkfbaaGreatRRqS
import Derived.Deep.RegionHeld3
namespace Go.Proofs.YtjgnomjjphkfbaaGreat
open Go.RowKit

/-- The slices of a message of what its kind has alone. -/
def onlyS (s : MS) (k : Nat) : MS :=
  if k = 1 then { MS0 with parts := s.parts, reads := s.reads, readAt := s.readAt, edits := s.edits, editAt := s.editAt, rows := s.rows, own := s.own }
  else if k = 2 then { MS0 with rows := s.rows, got := s.got, numbers := s.numbers, names := s.names }
  else MS0
theorem onlyA {W : World} {s : MS} {x : Mg.Msg} (h : MsgA W s x) : MsgA W (onlyS s x.kind) (Mg.only x) := by
  have a := (MsgO.nil W W Mg.msg0 rfl).arg
  unfold onlyS Mg.only
  by_cases h1 : x.kind = 1
  · simp only [if_pos h1]
    exact ⟨h.parts, h.reads, h.readAt, h.edits, h.editAt, h.rows, h.own, a.got, a.numbers, a.names⟩
  by_cases h2 : x.kind = 2
  · simp only [if_neg h1, if_pos h2]
    exact ⟨a.parts, a.reads, a.readAt, a.edits, a.editAt, h.rows, a.own, h.got, h.numbers, h.names⟩
  simp only [if_neg h1, if_neg h2]
  repeat' split
  · exact ⟨a.parts, a.reads, a.readAt, a.edits, a.editAt, a.rows, a.own, a.got, a.numbers, a.names⟩
  · exact ⟨a.parts, a.reads, a.readAt, a.edits, a.editAt, a.rows, a.own, a.got, a.numbers, a.names⟩
  · exact ⟨a.parts, a.reads, a.readAt, a.edits, a.editAt, a.rows, a.own, a.got, a.numbers, a.names⟩
theorem only_good {x : Mg.Msg} (h : x.Good) : (Mg.only x).Good := by
  have z := Mg.good0
  unfold Mg.only
  repeat' split
  · exact ⟨h.kind, h.tx, h.low, h.map, h.parts, h.shard, h.reads, h.readAt, h.edits, h.editAt, h.pre, h.range, h.rows, h.next, h.own, z.err, z.tshard, z.got, z.numbers, z.names, z.state⟩
  · exact ⟨h.kind, h.tx, z.low, z.map, z.parts, z.shard, z.reads, z.readAt, z.edits, z.editAt, z.pre, z.range, h.rows, z.next, z.own, h.err, h.tshard, h.got, h.numbers, h.names, z.state⟩
  · exact ⟨h.kind, h.tx, h.low, z.map, z.parts, z.shard, z.reads, z.readAt, z.edits, z.editAt, z.pre, z.range, z.rows, z.next, z.own, z.err, z.tshard, z.got, z.numbers, z.names, z.state⟩
  · exact ⟨h.kind, h.tx, h.low, z.map, z.parts, z.shard, z.reads, z.readAt, z.edits, z.editAt, z.pre, z.range, z.rows, z.next, z.own, z.err, z.tshard, z.got, z.numbers, z.names, h.state⟩
  · exact ⟨h.kind, h.tx, z.low, z.map, z.parts, z.shard, z.reads, z.readAt, z.edits, z.editAt, z.pre, z.range, z.rows, z.next, z.own, z.err, z.tshard, z.got, z.numbers, z.names, z.state⟩

theorem below_put {w W W2 : World} {g : Nat} {vs : Array Value} {t : TypeId} (h : Below w.heap.size w W) (p : PutAt W W2 g vs t) (hg : w.heap.size ≤ g) : Below w.heap.size w W2 :=
  ⟨p.os.trans h.os, p.tape.trans h.tape, p.output.trans h.output, Nat.le_trans h.size (Nat.le_of_eq p.size.symm), fun k hk => (p.other k (by omega)).trans (h.block k hk)⟩
theorem below_upd1 {w W W2 : World} {g : Nat} (h : Below w.heap.size w W) (u : Upd W W2 [g]) (hg : w.heap.size ≤ g) : Below w.heap.size w W2 :=
  ⟨u.os.trans h.os, u.tape.trans h.tape, u.output.trans h.output, Nat.le_trans h.size u.size, fun i hi => (u.keep i (by have := h.size; omega) (fun hb => by have := List.mem_singleton.1 hb; omega)).trans (h.block i hi)⟩
theorem whole_eq (cs vs : Array Value) (n : Nat) (_ : vs.size = n) (k : cs.size = n) : (cs.toList.take 0 ++ vs.toList ++ cs.toList.drop (0 + n)).toArray = vs := by
  rw [List.drop_eq_nil_of_le (by simp; omega)]; simp
/-- A part of a block, stored over. -/
theorem st_part {P : Program} (w : World) (ty : TypeId) (v : Value) (g off : Nat) (vs : Array Value) (hv : v.cells = vs) (t : TypeId) (cs cs' : Array Value) (hg : w.heap[g]? = some (.cells cs t (0, 0))) (n N : Nat) (hvs : vs.size = n) (hcs : cs.size = N)
    (hi : (P.info? ty).map (·.size) = some n) (hn : off + n ≤ N) (h1 : ∀ v ∈ vs.toList, v.oneCell' = true) (he : (cs.toList.take off ++ vs.toList ++ cs.toList.drop (off + n)).toArray = cs') :
    ∃ w', (storeVar ty ⟨g, off, none⟩ v).run P w = .ok () w' ∧ PutAt w w' g cs' t := by
  subst hvs hcs
  have hs := run_storeCells_at (P := P) g off t vs.toList 0 cs w hg (by simpa using hn) h1
  cases hq : P.info? ty with
  | none => simp [hq] at hi
  | some i =>
    have hsz : i.size = vs.size := by simpa [hq] using hi
    have hvar : (storeVar ty ⟨g, off, none⟩ v).run P w = .ok () (w.setRow g (cs.toList.take off ++ vs.toList ++ cs.toList.drop (off + vs.size)).toArray) := by
      simp only [storeVar, hv, Sem.run_bind, sizeOf, typeInfo, run_program, Result.andThen_ok, hq, Sem.run_pure, hsz]
      simpa using hs
    refine ⟨_, hvar, ?_⟩
    rw [he]
    exact putAt_setRow w g cs cs' t hg
def stMsg (a : Addr) (v : Value) := storeVar 43 a v
theorem stMsg_eq (a : Addr) (v : Value) : storeVar 43 a v = stMsg a v := rfl
def stTx (a : Addr) (v : Value) := storeVar 24 a v
theorem stTx_eq (a : Addr) (v : Value) : storeVar 24 a v = stTx a v := rfl

attribute [local go_sem ↓ high] ldMsg_eq
attribute [local go_sem ↓ high] stMsg_eq
attribute [local go_sem ↓ high] stTx_eq
attribute [local go_sem ↓ high] stAsk_eq
attribute [local go_sem ↓ high] stTold_eq
attribute [local go_sem ↓ high] ldAsk_eq
attribute [local go_sem ↓ high] ldTold_eq
set_option maxRecDepth 20000 in
set_option maxHeartbeats 8000000 in
theorem only_any (s : MS) (x : Mg.Msg) (w : World) :
    Calls Tryz.prog 21 #[.agg (MV s x)] w fun e w' => e = .returned (.agg (MV (onlyS s x.kind) (Mg.only x))) ∧ Below w.heap.size w w' := by
  obtain ⟨w0, hw0⟩ : ∃ y, y = (w.alloc (.cells (MV s x) 43 (0, 0))).alloc (.cells Z28 43 (0, 0)) := ⟨_, rfl⟩
  have HW0 := Lib.hid hw0
  have HA0 : Hid (w0.heap[w.heap.size]? = some (.cells (MV s x) 43 (0, 0))) := Lib.hid (by rw [hw0, Below.heap_alloc _ _ _ (by simp)]; exact heap_alloc_new w _)
  have HR0 : Hid (w0.heap[w.heap.size + 1]? = some (.cells Z28 43 (0, 0))) := Lib.hid (by
    rw [hw0]
    have := heap_alloc_new (w.alloc (.cells (MV s x) 43 (0, 0))) (.cells Z28 43 (0, 0))
    rw [World.size_alloc] at this
    exact this)
  have HS0 : Hid (w0.heap.size = w.heap.size + 2) := Lib.hid (by rw [hw0, World.size_alloc, World.size_alloc])
  have HB0 : Hid (Below w.heap.size w w0) := Lib.hid (by rw [hw0]; exact (((Own.refl w).alloc _).alloc _).below)
  have hf : ∀ (wz : World) (i : Nat), wz.heap[w.heap.size]? = some (.cells (MV s x) 43 (0, 0)) → wz.cell? ⟨w.heap.size, i, none⟩ = (MV s x)[i]? := fun wz i h => cell_of_row _ _ _ _ _ _ h
  have HF := Lib.hid hf
  have f0 : w0.cell? ⟨w.heap.size, 0, none⟩ = some (.int .u8 x.kind) := HF.out _ 0 HA0.out
  have f1 : w0.cell? ⟨w.heap.size, 1, none⟩ = some (.int .u64 x.tx.life) := HF.out _ 1 HA0.out
  have f2 : w0.cell? ⟨w.heap.size, 2, none⟩ = some (.int .u64 x.tx.n) := HF.out _ 2 HA0.out
  clear hw0 hf
  by_cases hk1 : x.kind = 1
  · have HE : Hid (MV (onlyS s x.kind) (Mg.only x) = (MV { MS0 with parts := s.parts, reads := s.reads, readAt := s.readAt, edits := s.edits, editAt := s.editAt, rows := s.rows, own := s.own } { Mg.msg0 with kind := x.kind, tx := x.tx, low := x.low, map := x.map, parts := x.parts, ask := x.ask, rows := x.rows, next := x.next, own := x.own })) := Lib.hid (by unfold onlyS Mg.only; simp only [if_pos hk1])
    have kk1 : ((x.kind : Int) == 1) = true := beq_iff_eq.2 (by omega)
    clear hk1
    have hlt0 : w.heap.size < w0.heap.size ∧ w.heap.size + 1 < w0.heap.size := by have := HS0.out; omega
    obtain ⟨z1, r1, q1⟩ := st_part (P := Tryz.prog) (w0.alloc (.cells Z28 43 (0, 0))) 43 (.agg #[.int .u8 x.kind, .int .u64 x.tx.life, .int .u64 x.tx.n, .int .u64 0, .int .u64 0, .int .u64 0, .slice none 0 0, .int .u32 0, .slice none 0 0, .slice none 0 0, .slice none 0 0, .slice none 0 0, .bool false, .string ⟨#[]⟩, .bool false, .bool false, .int .u64 0, .int .u64 0, .slice none 0 0, .int .u64 0, .slice none 0 0, .bool false, .int .i64 0, .int .u32 0, .slice none 0 0, .slice none 0 0, .slice none 0 0, .int .u8 0]) w0.heap.size 0 #[.int .u8 x.kind, .int .u64 x.tx.life, .int .u64 x.tx.n, .int .u64 0, .int .u64 0, .int .u64 0, .slice none 0 0, .int .u32 0, .slice none 0 0, .slice none 0 0, .slice none 0 0, .slice none 0 0, .bool false, .string ⟨#[]⟩, .bool false, .bool false, .int .u64 0, .int .u64 0, .slice none 0 0, .int .u64 0, .slice none 0 0, .bool false, .int .i64 0, .int .u32 0, .slice none 0 0, .slice none 0 0, .slice none 0 0, .int .u8 0] rfl 43 Z28 (MV MS0 { Mg.msg0 with kind := x.kind, tx := x.tx }) (heap_alloc_new w0 _) 28 28 rfl rfl sizeMsg (by decide) (MV_one MS0 { Mg.msg0 with kind := x.kind, tx := x.tx }) (whole_eq _ _ 28 rfl rfl)
    change (stMsg _ _).run _ _ = _ at r1
    have ha : z1.heap[w.heap.size]? = some (.cells (MV s x) 43 (0, 0)) := (q1.other _ (by omega)).trans ((Below.heap_alloc _ _ _ hlt0.1).trans HA0.out)
    have hr : z1.heap[w.heap.size + 1]? = some (.cells Z28 43 (0, 0)) := (q1.other _ (by omega)).trans ((Below.heap_alloc _ _ _ hlt0.2).trans HR0.out)
    have hm : z1.heap[w0.heap.size]? = some (.cells (MV MS0 { Mg.msg0 with kind := x.kind, tx := x.tx }) 43 (0, 0)) := q1.here
    have hb : Below w.heap.size w z1 := below_put (HB0.out.trans (((Own.refl w0).alloc _).below.mono HB0.out.size)) q1 (by omega)
    have e0 : z1.cell? ⟨w.heap.size, 0, none⟩ = some (.int .u8 x.kind) := HF.out _ 0 ha
    have e3 : z1.cell? ⟨w.heap.size, 3, none⟩ = some (.int .u64 x.low.life) := HF.out _ 3 ha
    have e4 : z1.cell? ⟨w.heap.size, 4, none⟩ = some (.int .u64 x.low.n) := HF.out _ 4 ha
    obtain ⟨z2, r2, q2⟩ := st_part (P := Tryz.prog) z1 24 (.agg #[.int .u64 x.low.life, .int .u64 x.low.n]) w0.heap.size 3 #[.int .u64 x.low.life, .int .u64 x.low.n] rfl 43 (MV MS0 { Mg.msg0 with kind := x.kind, tx := x.tx }) (MV MS0 { Mg.msg0 with kind := x.kind, tx := x.tx, low := x.low }) hm 2 28 rfl rfl (by kernel_rfl) (by decide) (by simp; exact ⟨rfl, rfl⟩) rfl
    change (stTx _ _).run _ _ = _ at r2
    replace ha := (q2.other w.heap.size (by omega)).trans ha
    replace hr := (q2.other (w.heap.size + 1) (by omega)).trans hr
    replace hm := q2.here
    replace hb := below_put hb q2 (by omega)
    clear q2
    have e5 : z2.cell? ⟨w.heap.size, 5, none⟩ = some (.int .u64 x.map) := HF.out _ 5 ha
    have k5 : z2.cell? ⟨w0.heap.size, 5, none⟩ = some (.int .u64 0) := by rw [cell_of_row _ _ _ _ _ _ hm]; rfl
    have l5 : z2.frozen? ⟨w0.heap.size, 5, none⟩ = false := frozen_of_row _ _ 5 _ _ hm
    have hu : Upd z2 (z2.setCell ⟨w0.heap.size, 5, none⟩ (.int .u64 x.map)) [w0.heap.size] := (Upd.refl _ [w0.heap.size]).setCell (.inl (by simp)) _
    replace hb := below_upd1 hb hu (by omega)
    have hlb := blk_lt hm
    have hla := blk_lt ha
    have hlr := blk_lt hr
    replace ha := (hu.keep w.heap.size hla (by simp; omega)).trans ha
    replace hr := (hu.keep (w.heap.size + 1) hlr (by simp; omega)).trans hr
    replace hm : (z2.setCell ⟨w0.heap.size, 5, none⟩ (.int .u64 x.map)).heap[w0.heap.size]? = some (.cells (MV MS0 { Mg.msg0 with kind := x.kind, tx := x.tx, low := x.low, map := x.map }) 43 (0, 0)) := by rw [heap_set _ hm]; rfl
    clear hu hlb hla hlr
    have e6 : (z2.setCell ⟨w0.heap.size, 5, none⟩ (.int .u64 x.map)).cell? ⟨w.heap.size, 6, none⟩ = some (.slice s.parts.1 x.parts.length s.parts.2) := HF.out _ 6 ha
    have k6 : (z2.setCell ⟨w0.heap.size, 5, none⟩ (.int .u64 x.map)).cell? ⟨w0.heap.size, 6, none⟩ = some (.slice none 0 0) := by rw [cell_of_row _ _ _ _ _ _ hm]; rfl
    have l6 : (z2.setCell ⟨w0.heap.size, 5, none⟩ (.int .u64 x.map)).frozen? ⟨w0.heap.size, 6, none⟩ = false := frozen_of_row _ _ 6 _ _ hm
    have hu : Upd (z2.setCell ⟨w0.heap.size, 5, none⟩ (.int .u64 x.map)) ((z2.setCell ⟨w0.heap.size, 5, none⟩ (.int .u64 x.map)).setCell ⟨w0.heap.size, 6, none⟩ (.slice s.parts.1 x.parts.length s.parts.2)) [w0.heap.size] := (Upd.refl _ [w0.heap.size]).setCell (.inl (by simp)) _
    replace hb := below_upd1 hb hu (by omega)
    have hlb := blk_lt hm
    have hla := blk_lt ha
    have hlr := blk_lt hr
    replace ha := (hu.keep w.heap.size hla (by simp; omega)).trans ha
    replace hr := (hu.keep (w.heap.size + 1) hlr (by simp; omega)).trans hr
    replace hm : ((z2.setCell ⟨w0.heap.size, 5, none⟩ (.int .u64 x.map)).setCell ⟨w0.heap.size, 6, none⟩ (.slice s.parts.1 x.parts.length s.parts.2)).heap[w0.heap.size]? = some (.cells (MV { MS0 with parts := s.parts } { Mg.msg0 with kind := x.kind, tx := x.tx, low := x.low, map := x.map, parts := x.parts }) 43 (0, 0)) := by rw [heap_set _ hm]; rfl
    clear hu hlb hla hlr
    have ga := ldAsk_run _ _ s x ha
    obtain ⟨z3, r3, q3⟩ := st_part (P := Tryz.prog) ((z2.setCell ⟨w0.heap.size, 5, none⟩ (.int .u64 x.map)).setCell ⟨w0.heap.size, 6, none⟩ (.slice s.parts.1 x.parts.length s.parts.2)) 33 (.agg (askV s x)) w0.heap.size 7 (askV s x) rfl 43 (MV { MS0 with parts := s.parts } { Mg.msg0 with kind := x.kind, tx := x.tx, low := x.low, map := x.map, parts := x.parts }) (MV { MS0 with parts := s.parts, reads := s.reads, readAt := s.readAt, edits := s.edits, editAt := s.editAt } { Mg.msg0 with kind := x.kind, tx := x.tx, low := x.low, map := x.map, parts := x.parts, ask := x.ask }) hm 11 28 rfl rfl (by kernel_rfl) (by decide) (askV_one s x) rfl
    change (stAsk _ _).run _ _ = _ at r3
    replace ha := (q3.other w.heap.size (by omega)).trans ha
    replace hr := (q3.other (w.heap.size + 1) (by omega)).trans hr
    replace hm := q3.here
    replace hb := below_put hb q3 (by omega)
    clear q3
    have e18 : z3.cell? ⟨w.heap.size, 18, none⟩ = some (.slice s.rows.1 x.rows.length s.rows.2) := HF.out _ 18 ha
    have k18 : z3.cell? ⟨w0.heap.size, 18, none⟩ = some (.slice none 0 0) := by rw [cell_of_row _ _ _ _ _ _ hm]; rfl
    have l18 : z3.frozen? ⟨w0.heap.size, 18, none⟩ = false := frozen_of_row _ _ 18 _ _ hm
    have hu : Upd z3 (z3.setCell ⟨w0.heap.size, 18, none⟩ (.slice s.rows.1 x.rows.length s.rows.2)) [w0.heap.size] := (Upd.refl _ [w0.heap.size]).setCell (.inl (by simp)) _
    replace hb := below_upd1 hb hu (by omega)
    have hlb := blk_lt hm
    have hla := blk_lt ha
    have hlr := blk_lt hr
    replace ha := (hu.keep w.heap.size hla (by simp; omega)).trans ha
    replace hr := (hu.keep (w.heap.size + 1) hlr (by simp; omega)).trans hr
    replace hm : (z3.setCell ⟨w0.heap.size, 18, none⟩ (.slice s.rows.1 x.rows.length s.rows.2)).heap[w0.heap.size]? = some (.cells (MV { MS0 with parts := s.parts, reads := s.reads, readAt := s.readAt, edits := s.edits, editAt := s.editAt, rows := s.rows } { Mg.msg0 with kind := x.kind, tx := x.tx, low := x.low, map := x.map, parts := x.parts, ask := x.ask, rows := x.rows }) 43 (0, 0)) := by rw [heap_set _ hm]; rfl
    clear hu hlb hla hlr
    have e19 : (z3.setCell ⟨w0.heap.size, 18, none⟩ (.slice s.rows.1 x.rows.length s.rows.2)).cell? ⟨w.heap.size, 19, none⟩ = some (.int .u64 x.next) := HF.out _ 19 ha
    have k19 : (z3.setCell ⟨w0.heap.size, 18, none⟩ (.slice s.rows.1 x.rows.length s.rows.2)).cell? ⟨w0.heap.size, 19, none⟩ = some (.int .u64 0) := by rw [cell_of_row _ _ _ _ _ _ hm]; rfl
    have l19 : (z3.setCell ⟨w0.heap.size, 18, none⟩ (.slice s.rows.1 x.rows.length s.rows.2)).frozen? ⟨w0.heap.size, 19, none⟩ = false := frozen_of_row _ _ 19 _ _ hm
    have hu : Upd (z3.setCell ⟨w0.heap.size, 18, none⟩ (.slice s.rows.1 x.rows.length s.rows.2)) ((z3.setCell ⟨w0.heap.size, 18, none⟩ (.slice s.rows.1 x.rows.length s.rows.2)).setCell ⟨w0.heap.size, 19, none⟩ (.int .u64 x.next)) [w0.heap.size] := (Upd.refl _ [w0.heap.size]).setCell (.inl (by simp)) _
    replace hb := below_upd1 hb hu (by omega)
    have hlb := blk_lt hm
    have hla := blk_lt ha
    have hlr := blk_lt hr
    replace ha := (hu.keep w.heap.size hla (by simp; omega)).trans ha
    replace hr := (hu.keep (w.heap.size + 1) hlr (by simp; omega)).trans hr
    replace hm : ((z3.setCell ⟨w0.heap.size, 18, none⟩ (.slice s.rows.1 x.rows.length s.rows.2)).setCell ⟨w0.heap.size, 19, none⟩ (.int .u64 x.next)).heap[w0.heap.size]? = some (.cells (MV { MS0 with parts := s.parts, reads := s.reads, readAt := s.readAt, edits := s.edits, editAt := s.editAt, rows := s.rows } { Mg.msg0 with kind := x.kind, tx := x.tx, low := x.low, map := x.map, parts := x.parts, ask := x.ask, rows := x.rows, next := x.next }) 43 (0, 0)) := by rw [heap_set _ hm]; rfl
    clear hu hlb hla hlr
    have e20 : ((z3.setCell ⟨w0.heap.size, 18, none⟩ (.slice s.rows.1 x.rows.length s.rows.2)).setCell ⟨w0.heap.size, 19, none⟩ (.int .u64 x.next)).cell? ⟨w.heap.size, 20, none⟩ = some (.slice s.own.1 x.own.length s.own.2) := HF.out _ 20 ha
    have k20 : ((z3.setCell ⟨w0.heap.size, 18, none⟩ (.slice s.rows.1 x.rows.length s.rows.2)).setCell ⟨w0.heap.size, 19, none⟩ (.int .u64 x.next)).cell? ⟨w0.heap.size, 20, none⟩ = some (.slice none 0 0) := by rw [cell_of_row _ _ _ _ _ _ hm]; rfl
    have l20 : ((z3.setCell ⟨w0.heap.size, 18, none⟩ (.slice s.rows.1 x.rows.length s.rows.2)).setCell ⟨w0.heap.size, 19, none⟩ (.int .u64 x.next)).frozen? ⟨w0.heap.size, 20, none⟩ = false := frozen_of_row _ _ 20 _ _ hm
    have hu : Upd ((z3.setCell ⟨w0.heap.size, 18, none⟩ (.slice s.rows.1 x.rows.length s.rows.2)).setCell ⟨w0.heap.size, 19, none⟩ (.int .u64 x.next)) (((z3.setCell ⟨w0.heap.size, 18, none⟩ (.slice s.rows.1 x.rows.length s.rows.2)).setCell ⟨w0.heap.size, 19, none⟩ (.int .u64 x.next)).setCell ⟨w0.heap.size, 20, none⟩ (.slice s.own.1 x.own.length s.own.2)) [w0.heap.size] := (Upd.refl _ [w0.heap.size]).setCell (.inl (by simp)) _
    replace hb := below_upd1 hb hu (by omega)
    have hlb := blk_lt hm
    have hla := blk_lt ha
    have hlr := blk_lt hr
    replace ha := (hu.keep w.heap.size hla (by simp; omega)).trans ha
    replace hr := (hu.keep (w.heap.size + 1) hlr (by simp; omega)).trans hr
    replace hm : (((z3.setCell ⟨w0.heap.size, 18, none⟩ (.slice s.rows.1 x.rows.length s.rows.2)).setCell ⟨w0.heap.size, 19, none⟩ (.int .u64 x.next)).setCell ⟨w0.heap.size, 20, none⟩ (.slice s.own.1 x.own.length s.own.2)).heap[w0.heap.size]? = some (.cells (MV { MS0 with parts := s.parts, reads := s.reads, readAt := s.readAt, edits := s.edits, editAt := s.editAt, rows := s.rows, own := s.own } { Mg.msg0 with kind := x.kind, tx := x.tx, low := x.low, map := x.map, parts := x.parts, ask := x.ask, rows := x.rows, next := x.next, own := x.own }) 43 (0, 0)) := by rw [heap_set _ hm]; rfl
    clear hu hlb hla hlr
    have gm := ldMsg_run _ _ ({ MS0 with parts := s.parts, reads := s.reads, readAt := s.readAt, edits := s.edits, editAt := s.editAt, rows := s.rows, own := s.own }) ({ Mg.msg0 with kind := x.kind, tx := x.tx, low := x.low, map := x.map, parts := x.parts, ask := x.ask, rows := x.rows, next := x.next, own := x.own }) hm
    obtain ⟨zz, rz, qz⟩ := st_part (P := Tryz.prog) (((z3.setCell ⟨w0.heap.size, 18, none⟩ (.slice s.rows.1 x.rows.length s.rows.2)).setCell ⟨w0.heap.size, 19, none⟩ (.int .u64 x.next)).setCell ⟨w0.heap.size, 20, none⟩ (.slice s.own.1 x.own.length s.own.2)) 43 (.agg (MV { MS0 with parts := s.parts, reads := s.reads, readAt := s.readAt, edits := s.edits, editAt := s.editAt, rows := s.rows, own := s.own } { Mg.msg0 with kind := x.kind, tx := x.tx, low := x.low, map := x.map, parts := x.parts, ask := x.ask, rows := x.rows, next := x.next, own := x.own })) (w.heap.size + 1) 0 (MV { MS0 with parts := s.parts, reads := s.reads, readAt := s.readAt, edits := s.edits, editAt := s.editAt, rows := s.rows, own := s.own } { Mg.msg0 with kind := x.kind, tx := x.tx, low := x.low, map := x.map, parts := x.parts, ask := x.ask, rows := x.rows, next := x.next, own := x.own }) rfl 43 Z28 (MV { MS0 with parts := s.parts, reads := s.reads, readAt := s.readAt, edits := s.edits, editAt := s.editAt, rows := s.rows, own := s.own } { Mg.msg0 with kind := x.kind, tx := x.tx, low := x.low, map := x.map, parts := x.parts, ask := x.ask, rows := x.rows, next := x.next, own := x.own }) hr 28 28 rfl rfl sizeMsg (by decide) (MV_one _ _) (whole_eq _ _ 28 rfl rfl)
    change (stMsg _ _).run _ _ = _ at rz
    have HRR := Lib.hid qz.here
    have HBB : Hid (Below w.heap.size w zz) := Lib.hid (below_put hb qz (by omega))
    clear ha hr hm hb qz q1 hlt0
    go_enter Tryz.func21, Tryz.ntmps21
    go_upto_region 1 with (fail)
    rw [← HW0.out]
    clear HW0
    go_wp2_with fail
    exact bodyPost_ret (results_cell_row rfl _ _ (w.heap.size + 1) _ _ _ _ rfl HRR.out Tryz.underlying43 rfl (by kernel_rfl)) rfl ⟨by rw [HE.out], HBB.out⟩
  by_cases hk2 : x.kind = 2
  · have HE : Hid (MV (onlyS s x.kind) (Mg.only x) = (MV { MS0 with rows := s.rows, got := s.got, numbers := s.numbers, names := s.names } { Mg.msg0 with kind := x.kind, tx := x.tx, rows := x.rows, commit := x.commit, err := x.err, told := x.told })) := Lib.hid (by unfold onlyS Mg.only; simp only [if_neg hk1, if_pos hk2])
    have kk1 : ((x.kind : Int) == 1) = false := beq_eq_false_iff_ne.2 (by omega)
    have kk2 : ((x.kind : Int) == 2) = true := beq_iff_eq.2 (by omega)
    clear hk2
    have hlt0 : w.heap.size < w0.heap.size ∧ w.heap.size + 1 < w0.heap.size := by have := HS0.out; omega
    obtain ⟨z1, r1, q1⟩ := st_part (P := Tryz.prog) (w0.alloc (.cells Z28 43 (0, 0))) 43 (.agg #[.int .u8 x.kind, .int .u64 x.tx.life, .int .u64 x.tx.n, .int .u64 0, .int .u64 0, .int .u64 0, .slice none 0 0, .int .u32 0, .slice none 0 0, .slice none 0 0, .slice none 0 0, .slice none 0 0, .bool false, .string ⟨#[]⟩, .bool false, .bool false, .int .u64 0, .int .u64 0, .slice none 0 0, .int .u64 0, .slice none 0 0, .bool false, .int .i64 0, .int .u32 0, .slice none 0 0, .slice none 0 0, .slice none 0 0, .int .u8 0]) w0.heap.size 0 #[.int .u8 x.kind, .int .u64 x.tx.life, .int .u64 x.tx.n, .int .u64 0, .int .u64 0, .int .u64 0, .slice none 0 0, .int .u32 0, .slice none 0 0, .slice none 0 0, .slice none 0 0, .slice none 0 0, .bool false, .string ⟨#[]⟩, .bool false, .bool false, .int .u64 0, .int .u64 0, .slice none 0 0, .int .u64 0, .slice none 0 0, .bool false, .int .i64 0, .int .u32 0, .slice none 0 0, .slice none 0 0, .slice none 0 0, .int .u8 0] rfl 43 Z28 (MV MS0 { Mg.msg0 with kind := x.kind, tx := x.tx }) (heap_alloc_new w0 _) 28 28 rfl rfl sizeMsg (by decide) (MV_one MS0 { Mg.msg0 with kind := x.kind, tx := x.tx }) (whole_eq _ _ 28 rfl rfl)
    change (stMsg _ _).run _ _ = _ at r1
    have ha : z1.heap[w.heap.size]? = some (.cells (MV s x) 43 (0, 0)) := (q1.other _ (by omega)).trans ((Below.heap_alloc _ _ _ hlt0.1).trans HA0.out)
    have hr : z1.heap[w.heap.size + 1]? = some (.cells Z28 43 (0, 0)) := (q1.other _ (by omega)).trans ((Below.heap_alloc _ _ _ hlt0.2).trans HR0.out)
    have hm : z1.heap[w0.heap.size]? = some (.cells (MV MS0 { Mg.msg0 with kind := x.kind, tx := x.tx }) 43 (0, 0)) := q1.here
    have hb : Below w.heap.size w z1 := below_put (HB0.out.trans (((Own.refl w0).alloc _).below.mono HB0.out.size)) q1 (by omega)
    have e0 : z1.cell? ⟨w.heap.size, 0, none⟩ = some (.int .u8 x.kind) := HF.out _ 0 ha
    have e18 : z1.cell? ⟨w.heap.size, 18, none⟩ = some (.slice s.rows.1 x.rows.length s.rows.2) := HF.out _ 18 ha
    have k18 : z1.cell? ⟨w0.heap.size, 18, none⟩ = some (.slice none 0 0) := by rw [cell_of_row _ _ _ _ _ _ hm]; rfl
    have l18 : z1.frozen? ⟨w0.heap.size, 18, none⟩ = false := frozen_of_row _ _ 18 _ _ hm
    have hu : Upd z1 (z1.setCell ⟨w0.heap.size, 18, none⟩ (.slice s.rows.1 x.rows.length s.rows.2)) [w0.heap.size] := (Upd.refl _ [w0.heap.size]).setCell (.inl (by simp)) _
    replace hb := below_upd1 hb hu (by omega)
    have hlb := blk_lt hm
    have hla := blk_lt ha
    have hlr := blk_lt hr
    replace ha := (hu.keep w.heap.size hla (by simp; omega)).trans ha
    replace hr := (hu.keep (w.heap.size + 1) hlr (by simp; omega)).trans hr
    replace hm : (z1.setCell ⟨w0.heap.size, 18, none⟩ (.slice s.rows.1 x.rows.length s.rows.2)).heap[w0.heap.size]? = some (.cells (MV { MS0 with rows := s.rows } { Mg.msg0 with kind := x.kind, tx := x.tx, rows := x.rows }) 43 (0, 0)) := by rw [heap_set _ hm]; rfl
    clear hu hlb hla hlr
    have e21 : (z1.setCell ⟨w0.heap.size, 18, none⟩ (.slice s.rows.1 x.rows.length s.rows.2)).cell? ⟨w.heap.size, 21, none⟩ = some (.bool x.commit) := HF.out _ 21 ha
    have k21 : (z1.setCell ⟨w0.heap.size, 18, none⟩ (.slice s.rows.1 x.rows.length s.rows.2)).cell? ⟨w0.heap.size, 21, none⟩ = some (.bool false) := by rw [cell_of_row _ _ _ _ _ _ hm]; rfl
    have l21 : (z1.setCell ⟨w0.heap.size, 18, none⟩ (.slice s.rows.1 x.rows.length s.rows.2)).frozen? ⟨w0.heap.size, 21, none⟩ = false := frozen_of_row _ _ 21 _ _ hm
    have hu : Upd (z1.setCell ⟨w0.heap.size, 18, none⟩ (.slice s.rows.1 x.rows.length s.rows.2)) ((z1.setCell ⟨w0.heap.size, 18, none⟩ (.slice s.rows.1 x.rows.length s.rows.2)).setCell ⟨w0.heap.size, 21, none⟩ (.bool x.commit)) [w0.heap.size] := (Upd.refl _ [w0.heap.size]).setCell (.inl (by simp)) _
    replace hb := below_upd1 hb hu (by omega)
    have hlb := blk_lt hm
    have hla := blk_lt ha
    have hlr := blk_lt hr
    replace ha := (hu.keep w.heap.size hla (by simp; omega)).trans ha
    replace hr := (hu.keep (w.heap.size + 1) hlr (by simp; omega)).trans hr
    replace hm : ((z1.setCell ⟨w0.heap.size, 18, none⟩ (.slice s.rows.1 x.rows.length s.rows.2)).setCell ⟨w0.heap.size, 21, none⟩ (.bool x.commit)).heap[w0.heap.size]? = some (.cells (MV { MS0 with rows := s.rows } { Mg.msg0 with kind := x.kind, tx := x.tx, rows := x.rows, commit := x.commit }) 43 (0, 0)) := by rw [heap_set _ hm]; rfl
    clear hu hlb hla hlr
    have e22 : ((z1.setCell ⟨w0.heap.size, 18, none⟩ (.slice s.rows.1 x.rows.length s.rows.2)).setCell ⟨w0.heap.size, 21, none⟩ (.bool x.commit)).cell? ⟨w.heap.size, 22, none⟩ = some (.int .i64 x.err) := HF.out _ 22 ha
    have k22 : ((z1.setCell ⟨w0.heap.size, 18, none⟩ (.slice s.rows.1 x.rows.length s.rows.2)).setCell ⟨w0.heap.size, 21, none⟩ (.bool x.commit)).cell? ⟨w0.heap.size, 22, none⟩ = some (.int .i64 0) := by rw [cell_of_row _ _ _ _ _ _ hm]; rfl
    have l22 : ((z1.setCell ⟨w0.heap.size, 18, none⟩ (.slice s.rows.1 x.rows.length s.rows.2)).setCell ⟨w0.heap.size, 21, none⟩ (.bool x.commit)).frozen? ⟨w0.heap.size, 22, none⟩ = false := frozen_of_row _ _ 22 _ _ hm
    have hu : Upd ((z1.setCell ⟨w0.heap.size, 18, none⟩ (.slice s.rows.1 x.rows.length s.rows.2)).setCell ⟨w0.heap.size, 21, none⟩ (.bool x.commit)) (((z1.setCell ⟨w0.heap.size, 18, none⟩ (.slice s.rows.1 x.rows.length s.rows.2)).setCell ⟨w0.heap.size, 21, none⟩ (.bool x.commit)).setCell ⟨w0.heap.size, 22, none⟩ (.int .i64 x.err)) [w0.heap.size] := (Upd.refl _ [w0.heap.size]).setCell (.inl (by simp)) _
    replace hb := below_upd1 hb hu (by omega)
    have hlb := blk_lt hm
    have hla := blk_lt ha
    have hlr := blk_lt hr
    replace ha := (hu.keep w.heap.size hla (by simp; omega)).trans ha
    replace hr := (hu.keep (w.heap.size + 1) hlr (by simp; omega)).trans hr
    replace hm : (((z1.setCell ⟨w0.heap.size, 18, none⟩ (.slice s.rows.1 x.rows.length s.rows.2)).setCell ⟨w0.heap.size, 21, none⟩ (.bool x.commit)).setCell ⟨w0.heap.size, 22, none⟩ (.int .i64 x.err)).heap[w0.heap.size]? = some (.cells (MV { MS0 with rows := s.rows } { Mg.msg0 with kind := x.kind, tx := x.tx, rows := x.rows, commit := x.commit, err := x.err }) 43 (0, 0)) := by rw [heap_set _ hm]; rfl
    clear hu hlb hla hlr
    have gt := ldTold_run _ _ s x ha
    obtain ⟨z2, r2, q2⟩ := st_part (P := Tryz.prog) (((z1.setCell ⟨w0.heap.size, 18, none⟩ (.slice s.rows.1 x.rows.length s.rows.2)).setCell ⟨w0.heap.size, 21, none⟩ (.bool x.commit)).setCell ⟨w0.heap.size, 22, none⟩ (.int .i64 x.err)) 41 (.agg (toldV s x)) w0.heap.size 23 (toldV s x) rfl 43 (MV { MS0 with rows := s.rows } { Mg.msg0 with kind := x.kind, tx := x.tx, rows := x.rows, commit := x.commit, err := x.err }) (MV { MS0 with rows := s.rows, got := s.got, numbers := s.numbers, names := s.names } { Mg.msg0 with kind := x.kind, tx := x.tx, rows := x.rows, commit := x.commit, err := x.err, told := x.told }) hm 4 28 rfl rfl (by kernel_rfl) (by decide) (toldV_one s x) rfl
    change (stTold _ _).run _ _ = _ at r2
    replace ha := (q2.other w.heap.size (by omega)).trans ha
    replace hr := (q2.other (w.heap.size + 1) (by omega)).trans hr
    replace hm := q2.here
    replace hb := below_put hb q2 (by omega)
    clear q2
    have gm := ldMsg_run _ _ ({ MS0 with rows := s.rows, got := s.got, numbers := s.numbers, names := s.names }) ({ Mg.msg0 with kind := x.kind, tx := x.tx, rows := x.rows, commit := x.commit, err := x.err, told := x.told }) hm
    obtain ⟨zz, rz, qz⟩ := st_part (P := Tryz.prog) z2 43 (.agg (MV { MS0 with rows := s.rows, got := s.got, numbers := s.numbers, names := s.names } { Mg.msg0 with kind := x.kind, tx := x.tx, rows := x.rows, commit := x.commit, err := x.err, told := x.told })) (w.heap.size + 1) 0 (MV { MS0 with rows := s.rows, got := s.got, numbers := s.numbers, names := s.names } { Mg.msg0 with kind := x.kind, tx := x.tx, rows := x.rows, commit := x.commit, err := x.err, told := x.told }) rfl 43 Z28 (MV { MS0 with rows := s.rows, got := s.got, numbers := s.numbers, names := s.names } { Mg.msg0 with kind := x.kind, tx := x.tx, rows := x.rows, commit := x.commit, err := x.err, told := x.told }) hr 28 28 rfl rfl sizeMsg (by decide) (MV_one _ _) (whole_eq _ _ 28 rfl rfl)
    change (stMsg _ _).run _ _ = _ at rz
    have HRR := Lib.hid qz.here
    have HBB : Hid (Below w.heap.size w zz) := Lib.hid (below_put hb qz (by omega))
    clear ha hr hm hb qz q1 hlt0
    go_enter Tryz.func21, Tryz.ntmps21
    go_upto_region 1 with (fail)
    rw [← HW0.out]
    clear HW0
    go_wp2_with fail
    exact bodyPost_ret (results_cell_row rfl _ _ (w.heap.size + 1) _ _ _ _ rfl HRR.out Tryz.underlying43 rfl (by kernel_rfl)) rfl ⟨by rw [HE.out], HBB.out⟩
  by_cases hk3 : x.kind = 3
  · have HE : Hid (MV (onlyS s x.kind) (Mg.only x) = (MV MS0 { Mg.msg0 with kind := x.kind, tx := x.tx, low := x.low, commit := x.commit })) := Lib.hid (by unfold onlyS Mg.only; simp only [if_neg hk1, if_neg hk2, if_pos hk3])
    have kk1 : ((x.kind : Int) == 1) = false := beq_eq_false_iff_ne.2 (by omega)
    have kk2 : ((x.kind : Int) == 2) = false := beq_eq_false_iff_ne.2 (by omega)
    have kk3 : ((x.kind : Int) == 3) = true := beq_iff_eq.2 (by omega)
    clear hk3
    have hlt0 : w.heap.size < w0.heap.size ∧ w.heap.size + 1 < w0.heap.size := by have := HS0.out; omega
    obtain ⟨z1, r1, q1⟩ := st_part (P := Tryz.prog) (w0.alloc (.cells Z28 43 (0, 0))) 43 (.agg #[.int .u8 x.kind, .int .u64 x.tx.life, .int .u64 x.tx.n, .int .u64 0, .int .u64 0, .int .u64 0, .slice none 0 0, .int .u32 0, .slice none 0 0, .slice none 0 0, .slice none 0 0, .slice none 0 0, .bool false, .string ⟨#[]⟩, .bool false, .bool false, .int .u64 0, .int .u64 0, .slice none 0 0, .int .u64 0, .slice none 0 0, .bool false, .int .i64 0, .int .u32 0, .slice none 0 0, .slice none 0 0, .slice none 0 0, .int .u8 0]) w0.heap.size 0 #[.int .u8 x.kind, .int .u64 x.tx.life, .int .u64 x.tx.n, .int .u64 0, .int .u64 0, .int .u64 0, .slice none 0 0, .int .u32 0, .slice none 0 0, .slice none 0 0, .slice none 0 0, .slice none 0 0, .bool false, .string ⟨#[]⟩, .bool false, .bool false, .int .u64 0, .int .u64 0, .slice none 0 0, .int .u64 0, .slice none 0 0, .bool false, .int .i64 0, .int .u32 0, .slice none 0 0, .slice none 0 0, .slice none 0 0, .int .u8 0] rfl 43 Z28 (MV MS0 { Mg.msg0 with kind := x.kind, tx := x.tx }) (heap_alloc_new w0 _) 28 28 rfl rfl sizeMsg (by decide) (MV_one MS0 { Mg.msg0 with kind := x.kind, tx := x.tx }) (whole_eq _ _ 28 rfl rfl)
    change (stMsg _ _).run _ _ = _ at r1
    have ha : z1.heap[w.heap.size]? = some (.cells (MV s x) 43 (0, 0)) := (q1.other _ (by omega)).trans ((Below.heap_alloc _ _ _ hlt0.1).trans HA0.out)
    have hr : z1.heap[w.heap.size + 1]? = some (.cells Z28 43 (0, 0)) := (q1.other _ (by omega)).trans ((Below.heap_alloc _ _ _ hlt0.2).trans HR0.out)
    have hm : z1.heap[w0.heap.size]? = some (.cells (MV MS0 { Mg.msg0 with kind := x.kind, tx := x.tx }) 43 (0, 0)) := q1.here
    have hb : Below w.heap.size w z1 := below_put (HB0.out.trans (((Own.refl w0).alloc _).below.mono HB0.out.size)) q1 (by omega)
    have e0 : z1.cell? ⟨w.heap.size, 0, none⟩ = some (.int .u8 x.kind) := HF.out _ 0 ha
    have e3 : z1.cell? ⟨w.heap.size, 3, none⟩ = some (.int .u64 x.low.life) := HF.out _ 3 ha
    have e4 : z1.cell? ⟨w.heap.size, 4, none⟩ = some (.int .u64 x.low.n) := HF.out _ 4 ha
    obtain ⟨z2, r2, q2⟩ := st_part (P := Tryz.prog) z1 24 (.agg #[.int .u64 x.low.life, .int .u64 x.low.n]) w0.heap.size 3 #[.int .u64 x.low.life, .int .u64 x.low.n] rfl 43 (MV MS0 { Mg.msg0 with kind := x.kind, tx := x.tx }) (MV MS0 { Mg.msg0 with kind := x.kind, tx := x.tx, low := x.low }) hm 2 28 rfl rfl (by kernel_rfl) (by decide) (by simp; exact ⟨rfl, rfl⟩) rfl
    change (stTx _ _).run _ _ = _ at r2
    replace ha := (q2.other w.heap.size (by omega)).trans ha
    replace hr := (q2.other (w.heap.size + 1) (by omega)).trans hr
    replace hm := q2.here
    replace hb := below_put hb q2 (by omega)
    clear q2
    have e21 : z2.cell? ⟨w.heap.size, 21, none⟩ = some (.bool x.commit) := HF.out _ 21 ha
    have k21 : z2.cell? ⟨w0.heap.size, 21, none⟩ = some (.bool false) := by rw [cell_of_row _ _ _ _ _ _ hm]; rfl
    have l21 : z2.frozen? ⟨w0.heap.size, 21, none⟩ = false := frozen_of_row _ _ 21 _ _ hm
    have hu : Upd z2 (z2.setCell ⟨w0.heap.size, 21, none⟩ (.bool x.commit)) [w0.heap.size] := (Upd.refl _ [w0.heap.size]).setCell (.inl (by simp)) _
    replace hb := below_upd1 hb hu (by omega)
    have hlb := blk_lt hm
    have hla := blk_lt ha
    have hlr := blk_lt hr
    replace ha := (hu.keep w.heap.size hla (by simp; omega)).trans ha
    replace hr := (hu.keep (w.heap.size + 1) hlr (by simp; omega)).trans hr
    replace hm : (z2.setCell ⟨w0.heap.size, 21, none⟩ (.bool x.commit)).heap[w0.heap.size]? = some (.cells (MV MS0 { Mg.msg0 with kind := x.kind, tx := x.tx, low := x.low, commit := x.commit }) 43 (0, 0)) := by rw [heap_set _ hm]; rfl
    clear hu hlb hla hlr
    have gm := ldMsg_run _ _ (MS0) ({ Mg.msg0 with kind := x.kind, tx := x.tx, low := x.low, commit := x.commit }) hm
    obtain ⟨zz, rz, qz⟩ := st_part (P := Tryz.prog) (z2.setCell ⟨w0.heap.size, 21, none⟩ (.bool x.commit)) 43 (.agg (MV MS0 { Mg.msg0 with kind := x.kind, tx := x.tx, low := x.low, commit := x.commit })) (w.heap.size + 1) 0 (MV MS0 { Mg.msg0 with kind := x.kind, tx := x.tx, low := x.low, commit := x.commit }) rfl 43 Z28 (MV MS0 { Mg.msg0 with kind := x.kind, tx := x.tx, low := x.low, commit := x.commit }) hr 28 28 rfl rfl sizeMsg (by decide) (MV_one _ _) (whole_eq _ _ 28 rfl rfl)
    change (stMsg _ _).run _ _ = _ at rz
    have HRR := Lib.hid qz.here
    have HBB : Hid (Below w.heap.size w zz) := Lib.hid (below_put hb qz (by omega))
    clear ha hr hm hb qz q1 hlt0
    go_enter Tryz.func21, Tryz.ntmps21
    go_upto_region 1 with (fail)
    rw [← HW0.out]
    clear HW0
    go_wp2_with fail
    exact bodyPost_ret (results_cell_row rfl _ _ (w.heap.size + 1) _ _ _ _ rfl HRR.out Tryz.underlying43 rfl (by kernel_rfl)) rfl ⟨by rw [HE.out], HBB.out⟩
  by_cases hk6 : x.kind = 6
  · have HE : Hid (MV (onlyS s x.kind) (Mg.only x) = (MV MS0 { Mg.msg0 with kind := x.kind, tx := x.tx, low := x.low, state := x.state })) := Lib.hid (by unfold onlyS Mg.only; simp only [if_neg hk1, if_neg hk2, if_neg hk3, if_pos hk6])
    have kk1 : ((x.kind : Int) == 1) = false := beq_eq_false_iff_ne.2 (by omega)
    have kk2 : ((x.kind : Int) == 2) = false := beq_eq_false_iff_ne.2 (by omega)
    have kk3 : ((x.kind : Int) == 3) = false := beq_eq_false_iff_ne.2 (by omega)
    have kk6 : ((x.kind : Int) == 6) = true := beq_iff_eq.2 (by omega)
    clear hk6
    have hlt0 : w.heap.size < w0.heap.size ∧ w.heap.size + 1 < w0.heap.size := by have := HS0.out; omega
    obtain ⟨z1, r1, q1⟩ := st_part (P := Tryz.prog) (w0.alloc (.cells Z28 43 (0, 0))) 43 (.agg #[.int .u8 x.kind, .int .u64 x.tx.life, .int .u64 x.tx.n, .int .u64 0, .int .u64 0, .int .u64 0, .slice none 0 0, .int .u32 0, .slice none 0 0, .slice none 0 0, .slice none 0 0, .slice none 0 0, .bool false, .string ⟨#[]⟩, .bool false, .bool false, .int .u64 0, .int .u64 0, .slice none 0 0, .int .u64 0, .slice none 0 0, .bool false, .int .i64 0, .int .u32 0, .slice none 0 0, .slice none 0 0, .slice none 0 0, .int .u8 0]) w0.heap.size 0 #[.int .u8 x.kind, .int .u64 x.tx.life, .int .u64 x.tx.n, .int .u64 0, .int .u64 0, .int .u64 0, .slice none 0 0, .int .u32 0, .slice none 0 0, .slice none 0 0, .slice none 0 0, .slice none 0 0, .bool false, .string ⟨#[]⟩, .bool false, .bool false, .int .u64 0, .int .u64 0, .slice none 0 0, .int .u64 0, .slice none 0 0, .bool false, .int .i64 0, .int .u32 0, .slice none 0 0, .slice none 0 0, .slice none 0 0, .int .u8 0] rfl 43 Z28 (MV MS0 { Mg.msg0 with kind := x.kind, tx := x.tx }) (heap_alloc_new w0 _) 28 28 rfl rfl sizeMsg (by decide) (MV_one MS0 { Mg.msg0 with kind := x.kind, tx := x.tx }) (whole_eq _ _ 28 rfl rfl)
    change (stMsg _ _).run _ _ = _ at r1
    have ha : z1.heap[w.heap.size]? = some (.cells (MV s x) 43 (0, 0)) := (q1.other _ (by omega)).trans ((Below.heap_alloc _ _ _ hlt0.1).trans HA0.out)
    have hr : z1.heap[w.heap.size + 1]? = some (.cells Z28 43 (0, 0)) := (q1.other _ (by omega)).trans ((Below.heap_alloc _ _ _ hlt0.2).trans HR0.out)
    have hm : z1.heap[w0.heap.size]? = some (.cells (MV MS0 { Mg.msg0 with kind := x.kind, tx := x.tx }) 43 (0, 0)) := q1.here
    have hb : Below w.heap.size w z1 := below_put (HB0.out.trans (((Own.refl w0).alloc _).below.mono HB0.out.size)) q1 (by omega)
    have e0 : z1.cell? ⟨w.heap.size, 0, none⟩ = some (.int .u8 x.kind) := HF.out _ 0 ha
    have e3 : z1.cell? ⟨w.heap.size, 3, none⟩ = some (.int .u64 x.low.life) := HF.out _ 3 ha
    have e4 : z1.cell? ⟨w.heap.size, 4, none⟩ = some (.int .u64 x.low.n) := HF.out _ 4 ha
    obtain ⟨z2, r2, q2⟩ := st_part (P := Tryz.prog) z1 24 (.agg #[.int .u64 x.low.life, .int .u64 x.low.n]) w0.heap.size 3 #[.int .u64 x.low.life, .int .u64 x.low.n] rfl 43 (MV MS0 { Mg.msg0 with kind := x.kind, tx := x.tx }) (MV MS0 { Mg.msg0 with kind := x.kind, tx := x.tx, low := x.low }) hm 2 28 rfl rfl (by kernel_rfl) (by decide) (by simp; exact ⟨rfl, rfl⟩) rfl
    change (stTx _ _).run _ _ = _ at r2
    replace ha := (q2.other w.heap.size (by omega)).trans ha
    replace hr := (q2.other (w.heap.size + 1) (by omega)).trans hr
    replace hm := q2.here
    replace hb := below_put hb q2 (by omega)
    clear q2
    have e27 : z2.cell? ⟨w.heap.size, 27, none⟩ = some (.int .u8 x.state) := HF.out _ 27 ha
    have k27 : z2.cell? ⟨w0.heap.size, 27, none⟩ = some (.int .u8 0) := by rw [cell_of_row _ _ _ _ _ _ hm]; rfl
    have l27 : z2.frozen? ⟨w0.heap.size, 27, none⟩ = false := frozen_of_row _ _ 27 _ _ hm
    have hu : Upd z2 (z2.setCell ⟨w0.heap.size, 27, none⟩ (.int .u8 x.state)) [w0.heap.size] := (Upd.refl _ [w0.heap.size]).setCell (.inl (by simp)) _
    replace hb := below_upd1 hb hu (by omega)
    have hlb := blk_lt hm
    have hla := blk_lt ha
    have hlr := blk_lt hr
    replace ha := (hu.keep w.heap.size hla (by simp; omega)).trans ha
    replace hr := (hu.keep (w.heap.size + 1) hlr (by simp; omega)).trans hr
    replace hm : (z2.setCell ⟨w0.heap.size, 27, none⟩ (.int .u8 x.state)).heap[w0.heap.size]? = some (.cells (MV MS0 { Mg.msg0 with kind := x.kind, tx := x.tx, low := x.low, state := x.state }) 43 (0, 0)) := by rw [heap_set _ hm]; rfl
    clear hu hlb hla hlr
    have gm := ldMsg_run _ _ (MS0) ({ Mg.msg0 with kind := x.kind, tx := x.tx, low := x.low, state := x.state }) hm
    obtain ⟨zz, rz, qz⟩ := st_part (P := Tryz.prog) (z2.setCell ⟨w0.heap.size, 27, none⟩ (.int .u8 x.state)) 43 (.agg (MV MS0 { Mg.msg0 with kind := x.kind, tx := x.tx, low := x.low, state := x.state })) (w.heap.size + 1) 0 (MV MS0 { Mg.msg0 with kind := x.kind, tx := x.tx, low := x.low, state := x.state }) rfl 43 Z28 (MV MS0 { Mg.msg0 with kind := x.kind, tx := x.tx, low := x.low, state := x.state }) hr 28 28 rfl rfl sizeMsg (by decide) (MV_one _ _) (whole_eq _ _ 28 rfl rfl)
    change (stMsg _ _).run _ _ = _ at rz
    have HRR := Lib.hid qz.here
    have HBB : Hid (Below w.heap.size w zz) := Lib.hid (below_put hb qz (by omega))
    clear ha hr hm hb qz q1 hlt0
    go_enter Tryz.func21, Tryz.ntmps21
    go_upto_region 1 with (fail)
    rw [← HW0.out]
    clear HW0
    go_wp2_with fail
    exact bodyPost_ret (results_cell_row rfl _ _ (w.heap.size + 1) _ _ _ _ rfl HRR.out Tryz.underlying43 rfl (by kernel_rfl)) rfl ⟨by rw [HE.out], HBB.out⟩
  · have HE : Hid (MV (onlyS s x.kind) (Mg.only x) = (MV MS0 { Mg.msg0 with kind := x.kind, tx := x.tx })) := Lib.hid (by unfold onlyS Mg.only; simp only [if_neg hk1, if_neg hk2, if_neg hk3, if_neg hk6])
    have kk1 : ((x.kind : Int) == 1) = false := beq_eq_false_iff_ne.2 (by omega)
    have kk2 : ((x.kind : Int) == 2) = false := beq_eq_false_iff_ne.2 (by omega)
    have kk3 : ((x.kind : Int) == 3) = false := beq_eq_false_iff_ne.2 (by omega)
    have kk6 : ((x.kind : Int) == 6) = false := beq_eq_false_iff_ne.2 (by omega)
    clear hk1 hk2 hk3 hk6
    have hlt0 : w.heap.size < w0.heap.size ∧ w.heap.size + 1 < w0.heap.size := by have := HS0.out; omega
    obtain ⟨z1, r1, q1⟩ := st_part (P := Tryz.prog) (w0.alloc (.cells Z28 43 (0, 0))) 43 (.agg #[.int .u8 x.kind, .int .u64 x.tx.life, .int .u64 x.tx.n, .int .u64 0, .int .u64 0, .int .u64 0, .slice none 0 0, .int .u32 0, .slice none 0 0, .slice none 0 0, .slice none 0 0, .slice none 0 0, .bool false, .string ⟨#[]⟩, .bool false, .bool false, .int .u64 0, .int .u64 0, .slice none 0 0, .int .u64 0, .slice none 0 0, .bool false, .int .i64 0, .int .u32 0, .slice none 0 0, .slice none 0 0, .slice none 0 0, .int .u8 0]) w0.heap.size 0 #[.int .u8 x.kind, .int .u64 x.tx.life, .int .u64 x.tx.n, .int .u64 0, .int .u64 0, .int .u64 0, .slice none 0 0, .int .u32 0, .slice none 0 0, .slice none 0 0, .slice none 0 0, .slice none 0 0, .bool false, .string ⟨#[]⟩, .bool false, .bool false, .int .u64 0, .int .u64 0, .slice none 0 0, .int .u64 0, .slice none 0 0, .bool false, .int .i64 0, .int .u32 0, .slice none 0 0, .slice none 0 0, .slice none 0 0, .int .u8 0] rfl 43 Z28 (MV MS0 { Mg.msg0 with kind := x.kind, tx := x.tx }) (heap_alloc_new w0 _) 28 28 rfl rfl sizeMsg (by decide) (MV_one MS0 { Mg.msg0 with kind := x.kind, tx := x.tx }) (whole_eq _ _ 28 rfl rfl)
    change (stMsg _ _).run _ _ = _ at r1
    have ha : z1.heap[w.heap.size]? = some (.cells (MV s x) 43 (0, 0)) := (q1.other _ (by omega)).trans ((Below.heap_alloc _ _ _ hlt0.1).trans HA0.out)
    have hr : z1.heap[w.heap.size + 1]? = some (.cells Z28 43 (0, 0)) := (q1.other _ (by omega)).trans ((Below.heap_alloc _ _ _ hlt0.2).trans HR0.out)
    have hm : z1.heap[w0.heap.size]? = some (.cells (MV MS0 { Mg.msg0 with kind := x.kind, tx := x.tx }) 43 (0, 0)) := q1.here
    have hb : Below w.heap.size w z1 := below_put (HB0.out.trans (((Own.refl w0).alloc _).below.mono HB0.out.size)) q1 (by omega)
    have e0 : z1.cell? ⟨w.heap.size, 0, none⟩ = some (.int .u8 x.kind) := HF.out _ 0 ha
    have gm := ldMsg_run _ _ (MS0) ({ Mg.msg0 with kind := x.kind, tx := x.tx }) hm
    obtain ⟨zz, rz, qz⟩ := st_part (P := Tryz.prog) z1 43 (.agg (MV MS0 { Mg.msg0 with kind := x.kind, tx := x.tx })) (w.heap.size + 1) 0 (MV MS0 { Mg.msg0 with kind := x.kind, tx := x.tx }) rfl 43 Z28 (MV MS0 { Mg.msg0 with kind := x.kind, tx := x.tx }) hr 28 28 rfl rfl sizeMsg (by decide) (MV_one _ _) (whole_eq _ _ 28 rfl rfl)
    change (stMsg _ _).run _ _ = _ at rz
    have HRR := Lib.hid qz.here
    have HBB : Hid (Below w.heap.size w zz) := Lib.hid (below_put hb qz (by omega))
    clear ha hr hm hb qz q1 hlt0
    go_enter Tryz.func21, Tryz.ntmps21
    go_upto_region 1 with (fail)
    rw [← HW0.out]
    clear HW0
    go_wp2_with fail
    exact bodyPost_ret (results_cell_row rfl _ _ (w.heap.size + 1) _ _ _ _ rfl HRR.out Tryz.underlying43 rfl (by kernel_rfl)) rfl ⟨by rw [HE.out], HBB.out⟩

end Go.Proofs.YtjgnomjjphkfbaaGreat

namespace Go.Proofs.YtjgnomjjphkfbaaGreat
open Go.RowKit

/-- The writer's bytes, as a text. -/
theorem put_text {B k : Nat} {bs : List UInt8} {bad : Bool} {w : World} (h : PtAt B k bs bad w) : ∃ a cap, w.heap[k]? = some (.cells #[.slice a bs.length cap, .bool bad] 78 (0, 0)) ∧ (bs ≠ [] → (convert 76 9 (.slice a bs.length cap)).run Tryz.prog w = .ok (.string (S bs)) w) := by
  obtain ⟨v, hk, ho⟩ := h.ex
  have hl : (Lib.byteCells bs).length = bs.length := Lib.byteCells_length bs
  rcases ho.2 with ⟨rfl, h0⟩ | ⟨g, cap, cur, rfl, hb, hg, h1, h2, h3, h4⟩
  · rw [hl] at h0
    refine ⟨none, 0, by rw [h0]; exact hk, fun hne => absurd (List.eq_nil_of_length_eq_zero h0) hne⟩
  · rw [hl] at hk h1 h4
    refine ⟨some ⟨g, 0, none⟩, cap, hk, fun _ => run_string_of w _ _ 5 g cap bs cur _ _ bs.length rfl Tryz.underlying76 Tryz.underlying5 Tryz.underlying9 hg fun j hj => ?_⟩
    have e : (cur.toList.take (bs.length * 1))[j]? = some (.int .u8 (by8 bs[j])) := by
      rw [h4]
      show (bs.map fun b => Value.int .u8 (by8 b))[j]? = _
      rw [List.getElem?_map, List.getElem?_eq_getElem hj]
      rfl
    rw [List.getElem?_take] at e
    split at e
    · simpa using e
    · cases e
theorem PtAt.new (wB : World) : PtAt wB.heap.size wB.heap.size [] false (wB.alloc (.cells #[.slice none 0 0, .bool false] 78 (0, 0))) :=
  ⟨Nat.le_refl _, by rw [World.size_alloc]; omega, .slice none 0 0, heap_alloc_new wB _, World.ownsRow_nil _ _ _ _⟩
namespace Mg
theorem enc_len_le (x : Msg) : (enc x).length = ((num 255).enc x.kind).length + ((cTx.enc x.tx).length + (body x).length) := by
  unfold enc
  rw [List.length_append, List.length_append]
theorem may_kind {x : Msg} (h : ¬ (1 ≤ x.kind ∧ x.kind ≤ 6)) : may x = false := by
  unfold may fit fits
  rw [decide_eq_false h]
  rfl
theorem may_tx {x : Msg} (h : ¬ (1 ≤ x.tx.life ∧ 1 ≤ x.tx.n)) : may x = false := by
  unfold may fit fits
  rw [decide_eq_false h]
  simp
theorem may_only {x : Msg} (h : x ≠ only x) : may x = false := by
  unfold may fit
  rw [decide_eq_false h]
  simp
theorem may_rest {x : Msg} (h1 : 1 ≤ x.kind ∧ x.kind ≤ 6) (h2 : 1 ≤ x.tx.life ∧ 1 ≤ x.tx.n) (h3 : x = only x) : may x = (((num 255).fit x.kind && (cTx.fit x.tx && bodyFit x)) && decide ((enc x).length ≤ 65536)) := by
  unfold may fit fits
  have e : (num 255).fit x.kind = true := by simp [num]; omega
  rw [decide_eq_true h1, decide_eq_true h2, decide_eq_true h3, e]
  simp
end Mg

attribute [local go_sem ↓ high] ldMsg_eq
set_option maxRecDepth 20000 in
set_option maxHeartbeats 8000000 in
theorem ref_encode (s : MS) (x : Mg.Msg) (w : World) (ha : MsgA w s x) (ok : x.Good) (hlen : (Mg.enc x).length ≤ 1073741824) :
    Calls Tryz.prog 10 #[.agg (MV s x)] w fun e w' => e = .returned (Mg.encR x) ∧ Below w.heap.size w w' := by
  obtain ⟨w0, hw0⟩ : ∃ y, y = w.alloc (.cells (MV s x) 43 (0, 0)) := ⟨_, rfl⟩
  have HW0 := Lib.hid hw0
  have HA0 : Hid (w0.heap[w.heap.size]? = some (.cells (MV s x) 43 (0, 0))) := Lib.hid (by rw [hw0]; exact heap_alloc_new w _)
  have HB0 : Hid (Below w.heap.size w w0) := Lib.hid (by rw [hw0]; exact ((Own.refl w).alloc _).below)
  have HCL : Hid (∀ wz, Below w0.heap.size w0 wz → (wz.cell? ⟨w.heap.size, 0, none⟩ = some (.int .u8 x.kind) ∧ wz.cell? ⟨w.heap.size, 1, none⟩ = some (.int .u64 x.tx.life) ∧ wz.cell? ⟨w.heap.size, 2, none⟩ = some (.int .u64 x.tx.n)) ∧ (ldMsg ⟨w.heap.size, 0, none⟩).run Tryz.prog wz = .ok (.agg (MV s x)) wz) := Lib.hid (fun wz hz => by
    have h1 := (hz.block _ (blk_lt HA0.out)).trans HA0.out
    exact ⟨⟨by rw [cell_of_row _ _ _ _ _ _ h1]; rfl, by rw [cell_of_row _ _ _ _ _ _ h1]; rfl, by rw [cell_of_row _ _ _ _ _ _ h1]; rfl⟩, ldMsg_run wz _ s x h1⟩)
  have HA : Hid (∀ wz, Below w0.heap.size w0 wz → MsgA wz s x ∧ Below w.heap.size w wz) := Lib.hid (fun wz hz => by
    have h1 := HB0.out.trans (hz.mono HB0.out.size)
    exact ⟨ha.keep h1, h1⟩)
  have HOK := Lib.hid ok
  have HLEN := Lib.hid hlen
  have hkI : (0 : Int) ≤ x.kind ∧ (x.kind : Int) < 256 := by have := ok.kind; omega
  have htI : (0 : Int) ≤ x.tx.life ∧ (x.tx.life : Int) < 18446744073709551616 ∧ (0 : Int) ≤ x.tx.n ∧ (x.tx.n : Int) < 18446744073709551616 := by have := ok.tx.a; have := ok.tx.b; omega
  have HX0 := Lib.hid (Below.refl w0.heap.size w0)
  have HXD : Hid (Below w0.heap.size w0 w0.drew) := Lib.hid ((Own.refl w0).drew.below)
  clear hw0 ha ok hlen
  by_cases h1 : 1 ≤ x.kind
  · by_cases h2 : x.kind ≤ 6
    · by_cases h3 : 1 ≤ x.tx.life
      · by_cases h4 : 1 ≤ x.tx.n
        · have d1 : ¬ (x.kind : Int) < 1 := by omega
          have d2 : ¬ (6 : Int) < x.kind := by omega
          have d3 : ¬ (x.tx.life : Int) < 1 := by omega
          have d4 : ¬ (x.tx.n : Int) < 1 := by omega
          have HC1 := Lib.hid (And.intro h1 h2)
          have HC2 := Lib.hid (And.intro h3 h4)
          obtain ⟨b, hb⟩ : ∃ b, b = decide (x = Mg.only x) := ⟨_, rfl⟩
          have HBB := Lib.hid hb
          clear hb h1 h2 h3 h4
          go_enter Tryz.func10, Tryz.ntmps10
          go_upto_region 1 with (fail)
          rw [← HW0.out]
          clear HW0
          go_cut [31] (fun c wx => c = .bool (!b) ∧ Below w0.heap.size w0 wx)
          case first =>
            have r1 := HCL.out _ HXD.out
            obtain ⟨⟨c0, c1, c2⟩, _⟩ := HCL.out _ HXD.out
            have HON : Hid (∀ wz, Calls Tryz.prog 21 #[.agg (MV s x)] wz fun e w' => e = .returned (.agg (MV (onlyS s x.kind) (Mg.only x))) ∧ Below wz.heap.size wz w') := Lib.hid (fun wz => only_any s x wz)
            go_region_held3 (fun w' => (w'.cell? ⟨w.heap.size, 0, none⟩ = some (.int .u8 x.kind) ∧ w'.cell? ⟨w.heap.size, 1, none⟩ = some (.int .u64 x.tx.life) ∧ w'.cell? ⟨w.heap.size, 2, none⟩ = some (.int .u64 x.tx.n)) ∧ (ldMsg ⟨w.heap.size, 0, none⟩).run Tryz.prog w' = .ok (.agg (MV s x)) w') (first | (with_reducible exact r1) | (with_reducible exact r2) | (with_reducible exact r3) | fail) (first
              | (go_at_call 21
                 (with_reducible refine (HON.out _).mono ?_)
                 rintro e y1 ⟨rfl, hv⟩
                 have HD1 := Lib.hid (HXD.out.trans (hv.mono HXD.out.size))
                 have r2 := HCL.out _ HD1.out
                 clear hv)
              | (go_at_call 14
                 (with_reducible refine (ref_same s (onlyS s x.kind) x (Mg.only x) _ (HA.out _ HD1.out).1 (onlyA (HA.out _ HD1.out).1) HOK.out (only_good HOK.out)).mono ?_)
                 rintro e y2 ⟨rfl, hv⟩
                 rw [← HBB.out]
                 have HD2 := Lib.hid (HD1.out.trans (hv.mono HD1.out.size))
                 have r3 := HCL.out _ HD2.out
                 clear hv)
              | fail)
            all_goals
              go_wp2_with fail
              go_meet
              exact ⟨rfl, HD2.out⟩
          case rest =>
            obtain ⟨rfl, hcut⟩ := hcut
            have HY := Lib.hid hcut
            obtain ⟨v1, hv1⟩ : ∃ y, y = wc := ⟨_, rfl⟩
            subst hv1
            clear hcut d1 d2 d3 d4
            cases b with
            | false =>
              have HE : Hid (Mg.encR x = .tuple #[.string (ByteArray.mk #[]), .int .i64 2]) := Lib.hid (Mg.encR_not (Mg.may_only (of_decide_eq_false HBB.out.symm)))
              go_wp2_with fail
              exact bodyPost_ret (v := .tuple #[.string (ByteArray.mk #[]), .int .i64 2]) (by simp [results, Tryz.results10, go_sem]) rfl ⟨by rw [HE.out], (HA.out _ HY.out).2⟩
            | true =>
              have HM : Hid (Mg.may x = (((Mg.num 255).fit x.kind && (Mg.cTx.fit x.tx && Mg.bodyFit x)) && decide ((Mg.enc x).length ≤ 65536))) := Lib.hid (Mg.may_rest HC1.out HC2.out (of_decide_eq_true HBB.out.symm))
              have HLN : Hid (((Mg.num 255).enc x.kind).length + ((Mg.cTx.enc x.tx).length + (Mg.body x).length) ≤ 1073741824) := Lib.hid (by rw [← Mg.enc_len_le]; exact HLEN.out)
              have HP0 := Lib.hid (PtAt.new v1)
              have hk1 : v1.heap.size < (v1.alloc (.cells #[.slice none 0 0, .bool false] 78 (0, 0))).heap.size := by rw [World.size_alloc]; omega
              have HQ0 : Hid (Below v1.heap.size v1 (v1.alloc (.cells #[.slice none 0 0, .bool false] 78 (0, 0)))) := Lib.hid ((Own.refl v1).alloc _).below
              obtain ⟨⟨c0, _, _⟩, _⟩ := HCL.out _ (HY.out.trans (HQ0.out.mono HY.out.size))
              obtain ⟨⟨e0, _, _⟩, _⟩ := HCL.out _ HY.out
              go_wp2_with fail
              refine (pn v1.heap.size v1.heap.size [] false x.kind 255 _ HP0.out (by have := HOK.out.kind; omega) (by decide) (by have := HLN.out; simp only [List.length_nil]; omega)).mono ?_
              rintro e x1 ⟨rfl, ⟨t1, hw1, hp⟩, hf⟩
              have HW1 := Lib.hid hw1
              have HP1 := Lib.hid hp
              have HQ1 : Hid (Below v1.heap.size v1 x1) := Lib.hid (HQ0.out.trans (hf.below HQ0.out.size))
              clear hw1 hp hf c0 e0
              obtain ⟨⟨_, c1, c2⟩, _⟩ := HCL.out _ (HY.out.trans (HQ1.out.mono HY.out.size))
              go_wp2_with fail
              refine (p_tx v1.heap.size v1.heap.size ([] ++ t1) (false || !(Mg.num 255).fit x.kind) x.tx x1 HP1.out HOK.out.tx (by have := HLN.out; have := HW1.out.1; simp only [List.length_append, List.length_nil]; omega)).mono ?_
              rintro e x2 ⟨rfl, ⟨t2, hw2, hp⟩, hf⟩
              have HW2 := Lib.hid hw2
              have HP2 := Lib.hid hp
              have HQ2 : Hid (Below v1.heap.size v1 x2) := Lib.hid (HQ1.out.trans (hf.below HQ1.out.size))
              clear hw2 hp hf c1 c2
              obtain ⟨_, rm⟩ := HCL.out _ (HY.out.trans (HQ2.out.mono HY.out.size))
              go_wp2_with fail
              refine (p_kind v1 v1.heap.size (([] ++ t1) ++ t2) ((false || !(Mg.num 255).fit x.kind) || !Mg.cTx.fit x.tx) s x x2 HP2.out HQ2.out (HA.out _ HY.out).1 HOK.out (by have := HLN.out; have := HW1.out.1; have := HW2.out.1; simp only [List.length_append, List.length_nil]; omega)).mono ?_
              rintro e x3 ⟨rfl, ⟨t3, hw3, hp⟩, hf⟩
              have HW3 := Lib.hid hw3
              have HQ3 : Hid (Below v1.heap.size v1 x3) := Lib.hid (HQ2.out.trans (hf.below HQ2.out.size))
              obtain ⟨bs, hbs⟩ : ∃ bs, bs = t1 ++ (t2 ++ t3) := ⟨_, rfl⟩
              obtain ⟨q, hq⟩ : ∃ q, q = !((Mg.num 255).fit x.kind && (Mg.cTx.fit x.tx && Mg.bodyFit x)) := ⟨_, rfl⟩
              have hp2 : PtAt v1.heap.size v1.heap.size bs q x3 := hp.cast (by rw [hbs, List.nil_append, List.append_assoc]) (by rw [hq]; simp only [Bool.not_and, Bool.or_assoc, Bool.false_or])
              have HBS := Lib.hid hbs
              have HQQ := Lib.hid hq
              have hbl : bs.length ≤ 1073741824 := by
                have h1 := HLN.out
                have h2 := HW1.out.1
                have h3 := HW2.out.1
                have h4 := hw3.1
                rw [hbs]
                simp only [List.length_append]
                omega
              obtain ⟨a, cap, hk, hcv⟩ := put_text hp2
              have c0 : x3.cell? ⟨v1.heap.size, 0, none⟩ = some (.slice a bs.length cap) := by rw [cell_of_row _ _ _ _ _ _ hk]; rfl
              have c1 : x3.cell? ⟨v1.heap.size, 1, none⟩ = some (.bool q) := by rw [cell_of_row _ _ _ _ _ _ hk]; rfl
              have hklt := blk_lt hk
              have hblI : (0 : Int) ≤ bs.length ∧ (bs.length : Int) ≤ 1073741824 := by omega
              have HEND : Hid (Below w.heap.size w x3) := Lib.hid (HA.out _ (HY.out.trans (HQ3.out.mono HY.out.size))).2
              clear hw3 hp hf hbs hq hp2 hk hbl rm
              cases q with
              | true =>
                have HE : Hid (Mg.encR x = .tuple #[.string (ByteArray.mk #[]), .int .i64 2]) := Lib.hid (Mg.encR_not (by
                  rw [HM.out]
                  have h := HQQ.out
                  cases hz : ((Mg.num 255).fit x.kind && (Mg.cTx.fit x.tx && Mg.bodyFit x)) with
                  | true => rw [hz] at h; cases h
                  | false => rfl))
                go_wp2_with fail
                exact bodyPost_ret (v := .tuple #[.string (ByteArray.mk #[]), .int .i64 2]) (by simp [results, Tryz.results10, go_sem]) rfl ⟨by rw [HE.out], HEND.out⟩
              | false =>
                have hz : ((Mg.num 255).fit x.kind && (Mg.cTx.fit x.tx && Mg.bodyFit x)) = true := by
                  have h := HQQ.out
                  cases hz : ((Mg.num 255).fit x.kind && (Mg.cTx.fit x.tx && Mg.bodyFit x)) with
                  | true => rfl
                  | false => rw [hz] at h; cases h
                have hbe : bs = Mg.enc x := by
                  have h2 : (Mg.num 255).fit x.kind = true ∧ Mg.cTx.fit x.tx = true ∧ Mg.bodyFit x = true := by simpa [Bool.and_eq_true] using hz
                  rw [HBS.out, HW1.out.2 h2.1, HW2.out.2 h2.2.1, HW3.out.2 h2.2.2]
                  rfl
                have HZ := Lib.hid hz
                have HBE := Lib.hid hbe
                clear hz hbe
                by_cases hbig : (65536 : Int) < bs.length
                · have HE : Hid (Mg.encR x = .tuple #[.string (ByteArray.mk #[]), .int .i64 2]) := Lib.hid (Mg.encR_not (by
                    rw [HM.out, HZ.out, decide_eq_false (by rw [← HBE.out]; omega)]
                    rfl))
                  go_wp2_with fail
                  exact bodyPost_ret (v := .tuple #[.string (ByteArray.mk #[]), .int .i64 2]) (by simp [results, Tryz.results10, go_sem]) rfl ⟨by rw [HE.out], HEND.out⟩
                · have HMY : Hid (Mg.may x = true) := Lib.hid (by
                    rw [HM.out, HZ.out, decide_eq_true (by rw [← HBE.out]; omega)]
                    rfl)
                  have hne : bs ≠ [] := by
                    intro h
                    have h2 := HBE.out
                    rw [h] at h2
                    have h3 := Mg.enc_len_le x
                    rw [← h2] at h3
                    have h4 : 1 ≤ ((Mg.num 255).enc x.kind).length := Mg.num_pos _ _
                    simp only [List.length_nil] at h3
                    omega
                  have hcv2 := hcv hne
                  clear hcv hne
                  go_wp2_with fail
                  exact bodyPost_ret (v := .tuple #[.string (S bs), .int .i64 0]) (by simp [results, Tryz.results10, go_sem]) rfl ⟨by rw [Mg.encR_may HMY.out, HBE.out], HEND.out⟩
        · have HE : Hid (Mg.encR x = .tuple #[.string (ByteArray.mk #[]), .int .i64 2]) := Lib.hid (Mg.encR_not (Mg.may_tx (by omega)))
          go_enter Tryz.func10, Tryz.ntmps10
          go_upto_region 1 with (fail)
          rw [← HW0.out]
          clear HW0
          obtain ⟨⟨c0, c1, c2⟩, _⟩ := HCL.out _ HXD.out
          have d1 : ¬ (x.kind : Int) < 1 := by omega
          have d2 : ¬ (6 : Int) < x.kind := by omega
          have d3 : ¬ (x.tx.life : Int) < 1 := by omega
          have d4 : (x.tx.n : Int) < 1 := by omega
          go_region
          all_goals
            go_wp2_with fail
            exact bodyPost_ret (v := .tuple #[.string (ByteArray.mk #[]), .int .i64 2]) (by simp [results, Tryz.results10, go_sem]) rfl ⟨by rw [HE.out], (HA.out _ HXD.out).2⟩
      · have HE : Hid (Mg.encR x = .tuple #[.string (ByteArray.mk #[]), .int .i64 2]) := Lib.hid (Mg.encR_not (Mg.may_tx (by omega)))
        go_enter Tryz.func10, Tryz.ntmps10
        go_upto_region 1 with (fail)
        rw [← HW0.out]
        clear HW0
        obtain ⟨⟨c0, c1, c2⟩, _⟩ := HCL.out _ HXD.out
        have d1 : ¬ (x.kind : Int) < 1 := by omega
        have d2 : ¬ (6 : Int) < x.kind := by omega
        have d3 : (x.tx.life : Int) < 1 := by omega
        go_region
        all_goals
          go_wp2_with fail
          exact bodyPost_ret (v := .tuple #[.string (ByteArray.mk #[]), .int .i64 2]) (by simp [results, Tryz.results10, go_sem]) rfl ⟨by rw [HE.out], (HA.out _ HXD.out).2⟩
    · have HE : Hid (Mg.encR x = .tuple #[.string (ByteArray.mk #[]), .int .i64 2]) := Lib.hid (Mg.encR_not (Mg.may_kind (by omega)))
      go_enter Tryz.func10, Tryz.ntmps10
      go_upto_region 1 with (fail)
      rw [← HW0.out]
      clear HW0
      obtain ⟨⟨c0, c1, c2⟩, _⟩ := HCL.out _ HXD.out
      have d1 : ¬ (x.kind : Int) < 1 := by omega
      have d2 : (6 : Int) < x.kind := by omega
      go_region
      all_goals
        go_wp2_with fail
        exact bodyPost_ret (v := .tuple #[.string (ByteArray.mk #[]), .int .i64 2]) (by simp [results, Tryz.results10, go_sem]) rfl ⟨by rw [HE.out], (HA.out _ HXD.out).2⟩
  · have HE : Hid (Mg.encR x = .tuple #[.string (ByteArray.mk #[]), .int .i64 2]) := Lib.hid (Mg.encR_not (Mg.may_kind (by omega)))
    go_enter Tryz.func10, Tryz.ntmps10
    go_upto_region 1 with (fail)
    rw [← HW0.out]
    clear HW0
    obtain ⟨⟨c0, c1, c2⟩, _⟩ := HCL.out _ HXD.out
    have d1 : (x.kind : Int) < 1 := by omega
    go_region
    all_goals
      go_wp2_with fail
      exact bodyPost_ret (v := .tuple #[.string (ByteArray.mk #[]), .int .i64 2]) (by simp [results, Tryz.results10, go_sem]) rfl ⟨by rw [HE.out], (HA.out _ HXD.out).2⟩

set_option maxRecDepth 20000 in
set_option maxHeartbeats 4000000 in
theorem ref_may (s : MS) (x : Mg.Msg) (w : World) (ha : MsgA w s x) (ok : x.Good) (hlen : (Mg.enc x).length ≤ 1073741824) :
    Calls Tryz.prog 12 #[.agg (MV s x)] w fun e w' => e = .returned (.bool (Mg.may x)) ∧ Below w.heap.size w w' := by
  obtain ⟨w0, hw0⟩ : ∃ y, y = w.alloc (.cells (MV s x) 43 (0, 0)) := ⟨_, rfl⟩
  have HW0 := Lib.hid hw0
  have hb0 : Below w.heap.size w w0 := by rw [hw0]; exact ((Own.refl w).alloc _).below
  have ra := ldMsg_run w0 w.heap.size s x (by rw [hw0]; exact heap_alloc_new w _)
  have HC := Lib.hid (ref_encode s x w0 (ha.keep hb0) ok hlen)
  have HB0 := Lib.hid hb0
  clear hw0 ha ok hlen hb0
  go_enter Tryz.func12, Tryz.ntmps12
  go_upto_region 1 with (fail)
  rw [← HW0.out]
  clear HW0
  go_wp2_with fail
  refine HC.out.mono ?_
  rintro e w2 ⟨rfl, hb⟩
  cases hm : Mg.may x with
  | true =>
    rw [Mg.encR_may hm]
    go_wp2_with fail
    exact bodyPost_ret (v := .bool true) (by simp [results, Tryz.results12, go_sem]) rfl ⟨by rw [hm], HB0.out.trans (hb.mono HB0.out.size)⟩
  | false =>
    rw [Mg.encR_not hm]
    go_wp2_with fail
    exact bodyPost_ret (v := .bool false) (by simp [results, Tryz.results12, go_sem]) rfl ⟨by rw [hm], HB0.out.trans (hb.mono HB0.out.size)⟩

end Go.Proofs.YtjgnomjjphkfbaaGreat
