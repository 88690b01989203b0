/-
  Joined out of the texts Base Mem RowArgs RowSized QuietLoad RowMore Flat Lists Bytes8 WireMath Mark.
-/
import Derived.Test.YtjgnomjjphkfbaaGreatRows
import Derived.WalkKit
import Derived.WalkSpells
import Derived.WalkLawsBesides
import Derived.Lib.Hide
import Derived.Deep.Draws
import Derived.ArgAppend
import Derived.Deep.Slices
import Derived.Deep.Strs
import Derived.ProofKit
import Derived.SizedLaws
import Derived.BigQuiet
import Derived.Deep.QuietTactic
import Derived.Lib.AppendStr
namespace Go.Proofs.YtjgnomjjphkfbaaGreat
open Go.RowKit

/-- Below B the world is as it was, and B is a block's number that is there. -/
structure Own (B : Nat) (w w' : World) : Prop where
  below : Below B w w'
  size : B ≤ w'.heap.size

theorem Own.refl (w : World) : Own w.heap.size w w := ⟨Below.refl _ _, Nat.le_refl _⟩
theorem Own.trans {B : Nat} {w w1 w2 : World} (h : Own B w w1) (k : Below w1.heap.size w1 w2) : Own B w w2 :=
  ⟨h.below.trans (k.mono h.size), Nat.le_trans h.size k.size⟩
theorem Own.drew {B : Nat} {w w1 : World} (h : Own B w w1) : Own B w w1.drew := ⟨h.below.drew, h.size⟩
theorem Own.alloc {B : Nat} {w w1 : World} (h : Own B w w1) (o : Obj) : Own B w (w1.alloc o) :=
  ⟨h.below.alloc h.size o, by have := h.size; simp; omega⟩
theorem Own.setCell {B : Nat} {w w1 : World} (h : Own B w w1) {p : Addr} (hp : B ≤ p.block) (u : Value) : Own B w (w1.setCell p u) :=
  ⟨h.below.setCell hp u, by have := h.size; simpa [World.setCell] using this⟩

theorem Own.setRow {B : Nat} {w w1 : World} (h : Own B w w1) {g : Nat} (hg : B ≤ g) (cs : Array Value) : Own B w (w1.setRow g cs) :=
  ⟨h.below.trans ⟨rfl, rfl, rfl, by simp, fun k hk => setRow_other _ _ _ _ (by omega)⟩, by have := h.size; simpa using this⟩

theorem blk_lt {w : World} {g : Nat} {o : Obj} (h : w.heap[g]? = some o) : g < w.heap.size := (Array.getElem?_eq_some_iff.1 h).1

def w32 (x : BitVec 32) : Int := x.toNat
theorem u32_lt (x : BitVec 32) : 0 ≤ w32 x ∧ w32 x < 4294967296 := by unfold w32; omega
theorem u32_inj {x y : BitVec 32} (h : w32 x = w32 y) : x = y := by
  unfold w32 at h; exact BitVec.eq_of_toNat_eq (by omega)
theorem wrap32_nat (n : Nat) (h : n < 4294967296) : IntKind.u32.wrap (n : Int) = n := by
  rw [IntKind.wrap_u32]; omega
theorem wrap_bv32 (x : BitVec 32) : IntKind.u32.wrap (x.toNat : Int) = w32 x := wrap32_nat _ x.isLt
@[go_sem] theorem ofInt_u32 (x : BitVec 32) : BitVec.ofInt 32 (w32 x) = x := by unfold w32; simp
@[go_sem] theorem xor32 (i j : Int) : Go.bits .xor .u32 i j = w32 (BitVec.ofInt 32 i ^^^ BitVec.ofInt 32 j) := wrap_bv32 _
@[go_sem] theorem and32 (i j : Int) : Go.bits .and .u32 i j = w32 (BitVec.ofInt 32 i &&& BitVec.ofInt 32 j) := wrap_bv32 _
@[go_sem] theorem or32 (i j : Int) : Go.bits .or .u32 i j = w32 (BitVec.ofInt 32 i ||| BitVec.ofInt 32 j) := wrap_bv32 _
theorem wrap_ofInt32 (i : Int) : IntKind.u32.wrap i = w32 (BitVec.ofInt 32 i) := by
  rw [IntKind.wrap_u32]; unfold w32; rw [BitVec.toNat_ofInt]; omega
@[go_sem] theorem wrap_u32 (x : BitVec 32) : IntKind.u32.wrap (w32 x) = w32 x := by rw [wrap_ofInt32, ofInt_u32]
@[go_sem] theorem shr32 (x : BitVec 32) (k : Nat) : w32 x / (2 : Int) ^ k = w32 (x >>> k) := by
  unfold w32
  rw [BitVec.toNat_ushiftRight, Nat.shiftRight_eq_div_pow]
  simp
@[go_sem] theorem half32 (x : BitVec 32) : w32 x / (2 : Int) = w32 (x >>> 1) := by have := shr32 x 1; rwa [show ((2 : Int) ^ 1) = 2 from rfl] at this
@[go_sem] theorem tdiv32 (x : BitVec 32) : (w32 x).tdiv (2 : Int) = w32 (x >>> 1) := by
  rw [Int.tdiv_eq_ediv_of_nonneg (u32_lt x).1, half32]
@[go_sem] theorem tmod32 (x : BitVec 32) : (w32 x).tmod (2 : Int) = w32 (x &&& 1#32) := by
  rw [Int.tmod_eq_emod_of_nonneg (u32_lt x).1]
  unfold w32
  rw [BitVec.toNat_and]
  simp [Nat.and_one_is_mod]
@[go_sem] theorem mul32 (i j : Int) (x : BitVec 32) (h : j = w32 x) : IntKind.u32.wrap (i * j) = w32 (BitVec.ofInt 32 i * x) := by
  subst h
  rw [wrap_ofInt32, BitVec.ofInt_mul, ofInt_u32]
@[go_sem] theorem mul32' (i : Int) (x : BitVec 32) : IntKind.u32.wrap (i * w32 x) = w32 (BitVec.ofInt 32 i * x) := mul32 i _ x rfl
theorem toNat_one_shl (k : Nat) : (1#32 <<< k).toNat = 2 ^ k % 2 ^ 32 := by
  rw [BitVec.toNat_shiftLeft, Nat.shiftLeft_eq]
  rw [show (1#32).toNat = 1 from rfl, Nat.one_mul]
@[go_sem] theorem shl32 (k : Nat) : IntKind.u32.wrap ((2 : Int) ^ k) = w32 (1#32 <<< k) := by
  unfold w32
  rw [toNat_one_shl, IntKind.wrap_u32, show ((2 : Int) ^ k) = ((2 ^ k : Nat) : Int) from by rw [Int.natCast_pow]; rfl]
  generalize 2 ^ k = m
  omega
@[go_sem] theorem byte32 (b : UInt8) : IntKind.u32.wrap (b.toNat : Int) = w32 (BitVec.ofNat 32 b.toNat) := by
  rw [wrap_ofInt32]; rfl
@[go_sem] theorem eq32 (x y : BitVec 32) : (w32 x == w32 y) = (x == y) := by
  rw [Bool.eq_iff_iff]; simp only [beq_iff_eq]; exact ⟨u32_inj, fun h => by rw [h]⟩
@[go_sem] theorem ne32 (x y : BitVec 32) : (w32 x != w32 y) = (x != y) := by
  unfold bne; rw [eq32]
@[go_sem] theorem not32 (x : BitVec 32) : BitVec.ofInt 32 IntKind.u32.max ^^^ x = ~~~ x := by
  rw [show BitVec.ofInt 32 IntKind.u32.max = BitVec.allOnes 32 from by decide, BitVec.allOnes_xor]

@[go_sem] theorem and1_64 (n : Int) : Go.bits .and .u64 n 1 = n % 2 := by
  have e : Go.bits .and .u64 n 1 = IntKind.u64.wrap ((BitVec.ofInt 64 n &&& 1#64).toNat : Int) := rfl
  rw [e, BitVec.toNat_and, show (1#64).toNat = 1 from rfl, Nat.and_one_is_mod, BitVec.toNat_ofInt]
  rw [IntWalk.u64_in _ (by omega)]
  omega

abbrev L (s : ByteArray) : List UInt8 := s.data.toList
theorem L_size (s : ByteArray) : (L s).length = s.size := Array.length_toList
theorem L_get (s : ByteArray) (k : Nat) (h : k < s.size) : (L s)[k]'(by rw [L_size]; exact h) = s[k] := by
  simp [L]; rfl
theorem L_append (s t : ByteArray) : L (s ++ t) = L s ++ L t := by simp [L, ByteArray.data_append]
section
variable {P : Program}
theorem run_loadVar_agg (w : World) (g off n : Nat) (t ty : TypeId) (cs : Array Value) (fr : Nat × Nat) (d : TypeDesc) (hg : w.heap[g]? = some (.cells cs t fr))
    (hu : P.underlying ty = some d) (hd : (match d with | .struct _ | .array _ _ => true | _ => false) = true) (hi : (P.info? ty).map (·.size) = some n) (hn : off + n ≤ cs.size) :
    (loadVar ty ⟨g, off, none⟩).run P w = .ok (.agg ((cs.toList.drop off).take n).toArray) w := by
  have hlen : ((cs.toList.drop off).take n).length = n := by simp; omega
  have hl : (loadCells ⟨g, off, none⟩ n).run P w = .ok ((cs.toList.drop off).take n).toArray w := by
    have := run_loadCells_list (P := P) w ⟨g, off, none⟩ ((cs.toList.drop off).take n) (fun j v hv => by
      have hadd : (⟨g, off, none⟩ : Addr).add j = ⟨g, off + j, none⟩ := by unfold Addr.add; split <;> simp_all
      rw [hadd, cell_of_row w g _ cs t fr hg]
      have hj : j < n := by
        rcases Nat.lt_or_ge j n with h | h
        · exact h
        · rw [List.getElem?_eq_none (by omega)] at hv; cases hv
      rw [List.getElem?_take_of_lt hj, List.getElem?_drop] at hv
      simpa using hv)
    rwa [hlen] at this
  cases hq : P.info? ty with
  | none => simp [hq] at hi
  | some i =>
    have hs : i.size = n := by simpa [hq] using hi
    have hagg : (isAgg ty).run P w = .ok true w := by
      unfold isAgg
      rw [Sem.run_bind, run_underlying hu w]
      cases d <;> simp_all
    simp [loadVar, Sem.run_bind, hagg, sizeOf, typeInfo, hq, hs, hl]
theorem wpList_load_agg {ops : Array Oper} {rest : List Oper} {o : Oper} {a : Act} {w : World} {Q : Exit → Act → World → Prop} (hgd : o.guard = none) (ty : TypeId) (x : Operand) (ho : o.op = .load ty x)
    (g off n : Nat) (hx : a.eval x = .pointer (some ⟨g, off, none⟩)) (t : TypeId) (cs : Array Value) (fr : Nat × Nat) (d : TypeDesc) (hg : w.heap[g]? = some (.cells cs t fr))
    (hu : P.underlying ty = some d) (hd : (match d with | .struct _ | .array _ _ => true | _ => false) = true) (hi : (P.info? ty).map (·.size) = some n) (hn : off + n ≤ cs.size)
    (h : wpList P ops Q rest (a.put o.dst (.agg ((cs.toList.drop off).take n).toArray)) w) : wpList P ops Q (o :: rest) a w :=
  wpList_plain hgd fun _ hK => by
    unfold Oper.wp execOp
    simp only [ho, hx, Instr.loadAt, Instr.sureAddr, Sem.run_bind, Sem.run_pure, Result.andThen_ok, run_loadVar_agg w g off n t ty cs fr d hg hu hd hi hn]
    exact hK _ _ h
theorem wpList_store_agg {ops : Array Oper} {rest : List Oper} {o : Oper} {a : Act} {w : World} {Q : Exit → Act → World → Prop} (hgd : o.guard = none) (ty : TypeId) (x v : Operand) (ho : o.op = .store ty x v)
    (g off : Nat) (vs : Array Value) (hx : a.eval x = .pointer (some ⟨g, off, none⟩)) (hv : a.eval v = .agg vs) (t : TypeId) (cs : Array Value) (hg : w.heap[g]? = some (.cells cs t (0, 0)))
    (hi : (P.info? ty).map (·.size) = some vs.size) (hn : off + vs.size ≤ cs.size) (h1 : ∀ v ∈ vs.toList, v.oneCell' = true)
    (h : wpList P ops Q rest (a.put o.dst undef) (w.setRow g (cs.toList.take off ++ vs.toList ++ cs.toList.drop (off + vs.size)).toArray)) : wpList P ops Q (o :: rest) a w :=
  wpList_plain hgd fun _ hK => by
    have hs := run_storeCells_at (P := P) g off t vs.toList 0 cs w hg (by simpa using hn) h1
    cases hq : P.info? ty with
    | none => simp [hq] at hi
    | some i =>
      have hsz : i.size = vs.size := by simpa [hq] using hi
      have hvar : (storeVar ty ⟨g, off, none⟩ (.agg vs)).run P w = .ok () (w.setRow g (cs.toList.take off ++ vs.toList ++ cs.toList.drop (off + vs.size)).toArray) := by
        simp only [storeVar, Value.cells, Sem.run_bind, sizeOf, typeInfo, run_program, Result.andThen_ok, hq, Sem.run_pure, hsz]
        simpa using hs
      unfold Oper.wp execOp
      simp only [ho, hx, hv, Instr.storeAt, Instr.sureAddr, Sem.run_bind, Sem.run_pure, Result.andThen_ok, hvar]
      exact hK _ _ h
/-- What a block holds already, stored over it. -/
theorem wpList_store_same {ops : Array Oper} {rest : List Oper} {o : Oper} {a : Act} {w : World} {Q : Exit → Act → World → Prop} (hgd : o.guard = none) (ty : TypeId) (x v : Operand) (ho : o.op = .store ty x v)
    (g : Nat) (vs : Array Value) (hx : a.eval x = .pointer (some ⟨g, 0, none⟩)) (hv : a.eval v = .agg vs) (t : TypeId) (hg : w.heap[g]? = some (.cells vs t (0, 0)))
    (hi : (P.info? ty).map (·.size) = some vs.size) (h1 : ∀ v ∈ vs.toList, v.oneCell' = true)
    (h : wpList P ops Q rest (a.put o.dst undef) w) : wpList P ops Q (o :: rest) a w := by
  refine wpList_store_agg hgd ty x v ho g 0 vs hx hv t vs hg hi (by omega) h1 ?_
  have : (vs.toList.take 0 ++ vs.toList ++ vs.toList.drop (0 + vs.size)).toArray = vs := by
    rw [List.drop_eq_nil_of_le (by simp)]; simp
  rw [this, setRow_self w g vs t (0, 0) hg]
  exact h
/-- w' is w with the block g holding the cells vs, all of them. -/
structure PutAt (w w' : World) (g : Nat) (vs : Array Value) (t : TypeId) : Prop where
  here : w'.heap[g]? = some (.cells vs t (0, 0))
  other : ∀ k, k ≠ g → w'.heap[k]? = w.heap[k]?
  size : w'.heap.size = w.heap.size
  os : w'.os = w.os
  tape : w'.tape = w.tape
  output : w'.output = w.output
theorem Own.put {B : Nat} {w0 w w' : World} {g : Nat} {vs : Array Value} {t : TypeId} (h : Own B w0 w) (p : PutAt w w' g vs t) (hg : B ≤ g) : Own B w0 w' :=
  ⟨h.below.trans ⟨p.os, p.tape, p.output, by rw [p.size]; exact Nat.le_refl _, fun k hk => p.other k (by omega)⟩, by rw [p.size]; exact h.size⟩
theorem putAt_setRow (w : World) (g : Nat) (cs vs : Array Value) (t : TypeId) (hg : w.heap[g]? = some (.cells cs t (0, 0))) : PutAt w (w.setRow g vs) g vs t :=
  ⟨setRow_heap _ _ _ _ _ _ hg, fun k hk => setRow_other _ _ _ _ hk, by simp, rfl, rfl, rfl⟩
/-- A whole block is stored over: the world behind it is a variable. -/
theorem wpList_store_all {ops : Array Oper} {rest : List Oper} {o : Oper} {a : Act} {w : World} {Q : Exit → Act → World → Prop} (hgd : o.guard = none) (ty : TypeId) (x v : Operand) (ho : o.op = .store ty x v)
    (g : Nat) (vs : Array Value) (hx : a.eval x = .pointer (some ⟨g, 0, none⟩)) (hv : a.eval v = .agg vs) (t : TypeId) (cs : Array Value) (hg : w.heap[g]? = some (.cells cs t (0, 0)))
    (hi : (P.info? ty).map (·.size) = some vs.size) (hn : vs.size = cs.size) (h1 : ∀ v ∈ vs.toList, v.oneCell' = true)
    (h : ∀ w', PutAt w w' g vs t → wpList P ops Q rest (a.put o.dst undef) w') : wpList P ops Q (o :: rest) a w := by
  refine wpList_store_agg hgd ty x v ho g 0 vs hx hv t cs hg hi (by omega) h1 ?_
  have e : (cs.toList.take 0 ++ vs.toList ++ cs.toList.drop (0 + vs.size)).toArray = vs := by
    rw [List.drop_eq_nil_of_le (by simp; omega)]; simp
  rw [e]
  exact h _ (putAt_setRow w g cs vs t hg)
end

/-- Two results: a struct in memory, and a value. -/
theorem results_cell_tmp_row {P : Program} {fn : Func} {p u : Tmp} {ty : TypeId} (h : fn.results = #[.cell p ty, .tmp u]) (tmps : Array Value) (w : World) (g : Nat) (t : TypeId) (cs : Array Value) (fr : Nat × Nat) (d : TypeDesc)
    (hp : tmps.getD p undef = .pointer (some ⟨g, 0, none⟩)) (hg : w.heap[g]? = some (.cells cs t fr))
    (hu : P.underlying ty = some d) (hd : (match d with | .struct _ | .array _ _ => true | _ => false) = true) (hi : (P.info? ty).map (·.size) = some cs.size) :
    (results fn tmps).run P w = .ok (.tuple #[.agg cs, tmps.getD u undef]) w := by
  rw [results_cell_tmp h, hp]
  simp only [asAddr, Sem.run_pure, Result.andThen_ok, run_loadVar_row w g t ty cs fr d hg hu hd hi]

theorem heap_set {w : World} {g i : Nat} {cs : Array Value} {t : TypeId} {fr : Nat × Nat} (v : Value) (hg : w.heap[g]? = some (.cells cs t fr)) :
    (w.setCell ⟨g, i, none⟩ v).heap[g]? = some (.cells (cs.setIfInBounds i v) t fr) := by
  rw [setCell_eq_setRow w g i cs t fr v hg]
  exact setRow_heap w g cs _ t _ hg
end Go.Proofs.YtjgnomjjphkfbaaGreat

namespace Go.Proofs.YtjgnomjjphkfbaaGreat
open Go.RowKit

/-- Of what was there only the blocks of F may have turned. -/
structure Upd (w w' : World) (F : List Nat) : Prop where
  os : w'.os = w.os
  tape : w'.tape = w.tape
  output : w'.output = w.output
  size : w.heap.size ≤ w'.heap.size
  keep : ∀ k, k < w.heap.size → k ∉ F → w'.heap[k]? = w.heap[k]?

theorem Upd.refl (w : World) (F : List Nat) : Upd w w F := ⟨rfl, rfl, rfl, Nat.le_refl _, fun _ _ _ => rfl⟩
theorem Upd.trans {w w1 w2 : World} {F G : List Nat} (h : Upd w w1 F) (k : Upd w1 w2 G) (hG : ∀ x ∈ G, x ∈ F ∨ w.heap.size ≤ x) : Upd w w2 F :=
  ⟨k.os.trans h.os, k.tape.trans h.tape, k.output.trans h.output, Nat.le_trans h.size k.size, fun i hi hF =>
    (k.keep i (Nat.lt_of_lt_of_le hi h.size) (fun hg => by rcases hG i hg with h1 | h1; exact hF h1; omega)).trans (h.keep i hi hF)⟩
theorem Upd.mono {w w1 : World} {F G : List Nat} (h : Upd w w1 F) (hG : ∀ x ∈ F, x ∈ G) : Upd w w1 G :=
  ⟨h.os, h.tape, h.output, h.size, fun i hi hF => h.keep i hi fun hf => hF (hG i hf)⟩
theorem Upd.of_below {w w1 : World} (F : List Nat) (h : Below w.heap.size w w1) : Upd w w1 F := ⟨h.os, h.tape, h.output, h.size, fun i hi _ => h.block i hi⟩
theorem Upd.below {w w1 : World} (h : Upd w w1 []) : Below w.heap.size w w1 := ⟨h.os, h.tape, h.output, h.size, fun i hi => h.keep i hi (by simp)⟩
theorem Upd.drew {w w1 : World} {F : List Nat} (h : Upd w w1 F) : Upd w w1.drew F := ⟨h.os, h.tape, h.output, h.size, h.keep⟩
theorem Upd.alloc {w w1 : World} {F : List Nat} (h : Upd w w1 F) (o : Obj) : Upd w (w1.alloc o) F :=
  h.trans (Upd.of_below [] ((Below.refl _ _).alloc (Nat.le_refl _) o)) (by simp)
theorem Upd.setCell {w w1 : World} {F : List Nat} (h : Upd w w1 F) {p : Addr} (hp : p.block ∈ F ∨ w.heap.size ≤ p.block) (u : Value) : Upd w (w1.setCell p u) F :=
  h.trans (G := [p.block]) ⟨rfl, rfl, rfl, by simp, fun k _ hF => heap_setCell_other _ _ _ _ (by simpa using hF)⟩ (by intro x hx; simp at hx; subst hx; exact hp)
theorem Upd.setRow {w w1 : World} {F : List Nat} (h : Upd w w1 F) {g : Nat} (hp : g ∈ F ∨ w.heap.size ≤ g) (cs : Array Value) : Upd w (w1.setRow g cs) F :=
  h.trans (G := [g]) ⟨rfl, rfl, rfl, by simp, fun k _ hF => setRow_other _ _ _ _ (by simpa using hF)⟩ (by intro x hx; simp at hx; subst hx; exact hp)
theorem Upd.put {w w1 w2 : World} {F : List Nat} (h : Upd w w1 F) {g : Nat} {vs : Array Value} {t : TypeId} (p : PutAt w1 w2 g vs t) (hp : g ∈ F ∨ w.heap.size ≤ g) : Upd w w2 F :=
  h.trans (G := [g]) ⟨p.os, p.tape, p.output, by rw [p.size]; exact Nat.le_refl _, fun k _ hF => p.other k (by simpa using hF)⟩ (by intro x hx; simp at hx; subst hx; exact hp)
theorem Own.upd {B : Nat} {w0 w w' : World} {F : List Nat} (h : Own B w0 w) (u : Upd w w' F) (hF : ∀ x ∈ F, B ≤ x) : Own B w0 w' :=
  ⟨h.below.trans ⟨u.os, u.tape, u.output, u.size, fun k hk => u.keep k (Nat.lt_of_lt_of_le hk h.size) (fun hf => by have := hF k hf; omega)⟩, Nat.le_trans h.size u.size⟩

/-- At place p of block g lie the cells xs. -/
def CellsAt (w : World) (g p : Nat) (xs : List Value) : Prop :=
  ∃ cs t fr, w.heap[g]? = some (.cells cs t fr) ∧ p + xs.length ≤ cs.size ∧ (cs.toList.drop p).take xs.length = xs
theorem CellsAt.cell {w : World} {g p : Nat} {xs : List Value} (h : CellsAt w g p xs) (j : Nat) (hj : j < xs.length) : w.cell? ⟨g, p + j, none⟩ = some xs[j] := by
  obtain ⟨cs, t, fr, hg, hn, he⟩ := h
  rw [cell_of_row _ _ _ _ _ _ hg]
  have : xs[j]? = cs[p + j]? := by
    conv => lhs; rw [← he]
    rw [List.getElem?_take_of_lt hj, List.getElem?_drop]; simp
  rw [← this, List.getElem?_eq_getElem hj]
theorem CellsAt.keep {w w' : World} {g p : Nat} {xs : List Value} (h : CellsAt w g p xs) (hk : w'.heap[g]? = w.heap[g]?) : CellsAt w' g p xs := by
  obtain ⟨cs, t, fr, hg, hn, he⟩ := h
  exact ⟨cs, t, fr, hk.trans hg, hn, he⟩
theorem CellsAt.lt {w : World} {g p : Nat} {xs : List Value} (h : CellsAt w g p xs) : g < w.heap.size := by
  obtain ⟨cs, t, fr, hg, _⟩ := h; exact blk_lt hg
theorem CellsAt.new (w : World) (xs : List Value) (t : TypeId) (fr : Nat × Nat) : CellsAt (w.alloc (.cells xs.toArray t fr)) w.heap.size 0 xs :=
  ⟨_, _, _, heap_alloc_new w _, by simp, by simp⟩
section
variable {P : Program}
theorem wpList_load_at {ops : Array Oper} {rest : List Oper} {o : Oper} {a : Act} {w : World} {Q : Exit → Act → World → Prop} (hgd : o.guard = none) (ty : TypeId) (x : Operand) (ho : o.op = .load ty x)
    (g p : Nat) (hx : a.eval x = .pointer (some ⟨g, p, none⟩)) (xs : List Value) (d : TypeDesc) (hc : CellsAt w g p xs)
    (hu : P.underlying ty = some d) (hd : (match d with | .struct _ | .array _ _ => true | _ => false) = true) (hi : (P.info? ty).map (·.size) = some xs.length)
    (h : wpList P ops Q rest (a.put o.dst (.agg xs.toArray)) w) : wpList P ops Q (o :: rest) a w := by
  obtain ⟨cs, t, fr, hg, hn, he⟩ := hc
  refine wpList_load_agg hgd ty x ho g p xs.length hx t cs fr d hg hu hd hi hn ?_
  rw [he]; exact h
end

/-- The slice 'a, n, cap' has n elements of type e, of 'size' cells each; their cells are xs. -/
def SliceIs (w : World) (e : TypeId) (size : Nat) (a : Option Addr) (n cap : Nat) (xs : List Value) : Prop :=
  xs.length = n * size ∧
  ((a = none ∧ n = 0 ∧ cap = 0) ∨
   ∃ g off cur, a = some ⟨g, off, none⟩ ∧ w.heap[g]? = some (.cells cur e (0, 0)) ∧ n ≤ cap ∧ cap ≤ maxLen ∧ off + cap * size ≤ cur.size ∧ (cur.toList.drop off).take (n * size) = xs)
/-- The block of a slice's row. -/
def blks (a : Option Addr) : List Nat := a.toList.map (·.block)
@[simp] theorem blks_none : blks none = [] := rfl
@[simp] theorem blks_some (x : Addr) : blks (some x) = [x.block] := rfl
theorem SliceIs.nil (w : World) (e : TypeId) (size : Nat) : SliceIs w e size none 0 0 [] := ⟨by simp, .inl ⟨rfl, rfl, rfl⟩⟩
theorem SliceIs.of_own {w : World} {B : Nat} {e : TypeId} {size : Nat} {v : Value} {n : Nat} {xs : List Value} (h : w.ownsRow B e size v n xs) :
    ∃ a cap, v = .slice a n cap ∧ SliceIs w e size a n cap xs ∧ ∀ k ∈ blks a, B ≤ k := by
  rcases h.2 with ⟨rfl, rfl⟩ | ⟨g, cap, cur, rfl, hb, hg, h1, h2, h3, h4⟩
  · exact ⟨none, 0, rfl, ⟨h.1, .inl ⟨rfl, rfl, rfl⟩⟩, by simp⟩
  · exact ⟨_, cap, rfl, ⟨h.1, .inr ⟨g, 0, cur, rfl, hg, h1, h2, by omega, by simpa using h4⟩⟩, by simpa using hb⟩
theorem SliceIs.keep {w w' : World} {e : TypeId} {size : Nat} {a : Option Addr} {n cap : Nat} {xs : List Value} (h : SliceIs w e size a n cap xs) (hk : ∀ k ∈ blks a, w'.heap[k]? = w.heap[k]?) : SliceIs w' e size a n cap xs := by
  refine ⟨h.1, ?_⟩
  rcases h.2 with h | ⟨g, off, cur, rfl, hg, r⟩
  · exact .inl h
  · exact .inr ⟨g, off, cur, rfl, (hk g (by simp)).trans hg, r⟩
theorem SliceIs.lt {w : World} {e : TypeId} {size : Nat} {a : Option Addr} {n cap : Nat} {xs : List Value} (h : SliceIs w e size a n cap xs) : ∀ k ∈ blks a, k < w.heap.size := by
  rcases h.2 with ⟨rfl, _⟩ | ⟨g, off, cur, rfl, hg, r⟩
  · simp
  · intro k hk; simp at hk; subst hk; exact blk_lt hg
theorem SliceIs.alloc {w : World} {e : TypeId} {size : Nat} {a : Option Addr} {n cap : Nat} {xs : List Value} (h : SliceIs w e size a n cap xs) (o : Obj) : SliceIs (w.alloc o) e size a n cap xs :=
  h.keep fun k hk => Below.heap_alloc _ _ _ (h.lt k hk)
theorem SliceIs.drew {w : World} {e : TypeId} {size : Nat} {a : Option Addr} {n cap : Nat} {xs : List Value} (h : SliceIs w e size a n cap xs) : SliceIs w.drew e size a n cap xs := h.keep fun _ _ => rfl
/-- A block of another element type is not the slice's. -/
theorem SliceIs.ne {w : World} {e : TypeId} {size : Nat} {a : Option Addr} {n cap : Nat} {xs : List Value} (h : SliceIs w e size a n cap xs) {b : Nat} {cs : Array Value} {t : TypeId} {fr : Nat × Nat} (hb : w.heap[b]? = some (.cells cs t fr)) (ht : t ≠ e) : b ∉ blks a := by
  rcases h.2 with ⟨rfl, _⟩ | ⟨g, off, cur, rfl, hg, r⟩
  · simp
  · intro hk; simp at hk; subst hk; rw [hb] at hg; cases hg; exact ht rfl
theorem SliceIs.bound {w : World} {e : TypeId} {size : Nat} {a : Option Addr} {n cap : Nat} {xs : List Value} (h : SliceIs w e size a n cap xs) : n ≤ cap ∧ cap ≤ maxLen := by
  rcases h.2 with ⟨_, rfl, rfl⟩ | ⟨g, off, cur, rfl, hg, r, r2, _⟩
  · exact ⟨Nat.le_refl _, by decide⟩
  · exact ⟨r, r2⟩
/-- The elements' cells, all in a row. -/
theorem SliceIs.cells {w : World} {e : TypeId} {size : Nat} {g off : Nat} {n cap : Nat} {xs : List Value} (h : SliceIs w e size (some ⟨g, off, none⟩) n cap xs) : CellsAt w g off xs := by
  rcases h.2 with ⟨h, _⟩ | ⟨g', off', cur, h', hg, r1, r2, r3, r4⟩
  · cases h
  · cases h'
    have := Nat.mul_le_mul_right size r1
    exact ⟨cur, e, (0, 0), hg, by rw [h.1]; omega, by rw [h.1]; exact r4⟩
theorem CellsAt.sub {w : World} {g p : Nat} {xs : List Value} (h : CellsAt w g p xs) (i n : Nat) (hn : i + n ≤ xs.length) : CellsAt w g (p + i) ((xs.drop i).take n) := by
  obtain ⟨cs, t, fr, hg, hl, he⟩ := h
  have hlen : ((xs.drop i).take n).length = n := by simp; omega
  refine ⟨cs, t, fr, hg, by rw [hlen]; omega, ?_⟩
  rw [hlen]
  conv => rhs; rw [← he]
  rw [List.drop_take, List.drop_drop, List.take_take, Nat.min_eq_left (by omega)]
/-- Not nil where there is an element. -/
theorem SliceIs.there {w : World} {e : TypeId} {size : Nat} {a : Option Addr} {n cap : Nat} {xs : List Value} (h : SliceIs w e size a n cap xs) (hn : 0 < n) : ∃ g off, a = some ⟨g, off, none⟩ := by
  rcases h.2 with ⟨_, rfl, _⟩ | ⟨g, off, cur, rfl, _⟩
  · omega
  · exact ⟨g, off, rfl⟩

theorem drop_take_splice (l : List Value) (off : Nat) (xs ys : List Value) (h : (l.drop off).take xs.length = xs) (hl : off + xs.length + ys.length ≤ l.length) :
    ((l.take (off + xs.length) ++ ys ++ l.drop (off + xs.length + ys.length)).drop off).take (xs.length + ys.length) = xs ++ ys := by
  have e1 : l.take (off + xs.length) = l.take off ++ xs := by
    rw [List.take_add, h]
  have hlen : (l.take off).length = off := by simp; omega
  rw [e1, List.append_assoc, List.append_assoc, List.drop_append_of_le_length (by omega), List.drop_eq_nil_of_le (by omega), List.nil_append, ← List.append_assoc]
  rw [List.take_append_of_le_length (by simp), List.take_of_length_le (by simp)]

section
variable {P : Program} (w : World)
/-- 'append': what comes out has the slice's own row, or a new one. -/
theorem run_append_slice (t ty e : TypeId) (i : TypeInfo) (z : Value) (size bytes : Nat) (ht : P.underlying t = some (.slice e)) (hi : P.info? e = some i) (hz : i.zero = some z)
    (hsize : i.size = size) (hby : i.bytes = bytes) (hzs : z.cells.size = size) (hsz : 0 < size)
    (s : Option Addr) (n cap : Nat) (xs : List Value) (hown : SliceIs w e size s n cap xs)
    (a : Addr) (m c : Nat) (news : List Value) (hl : news.length = m * size) (hnews : ∀ j u, news[j]? = some u → w.cell? (a.add j) = some u) (h1 : ∀ u ∈ news, u.oneCell' = true)
    (h63 : n + m ≤ maxLen) (hbytes : (n + m) * bytes ≤ 140737488355328) :
    ∃ s' cap' w', (Builtin.append_ #[t, t] ty #[.slice s n cap, .slice (some a) m c]).run P w = .ok (.slice s' (n + m) cap') w' ∧ SliceIs w' e size s' (n + m) cap' (xs ++ news) ∧ Upd w w' (blks s) ∧
      (∀ k ∈ blks s', k ∈ blks s ∨ w.heap.size ≤ k) := by
  rcases hown.2 with ⟨rfl, rfl, rfl⟩ | ⟨g, off, cur, rfl, hg, hnc, hcm, hcs, htake⟩
  · obtain ⟨v', w', hr, ho, hgr, _⟩ := run_append_own (P := P) w w.heap.size t ty e i z size bytes ht hi hz hsize hby hzs hsz (.slice none 0 0) 0 [] (World.ownsRow_nil w _ e size) a m c news hl hnews h1 h63 hbytes (Nat.le_refl _)
    have hx : xs = [] := List.eq_nil_of_length_eq_zero (by simpa using hown.1)
    subst hx
    obtain ⟨s', cap', rfl, hs, hb⟩ := SliceIs.of_own ho
    exact ⟨s', cap', w', hr, hs, ⟨hgr.os, hgr.tape, hgr.output, hgr.size, fun k hk _ => hgr.block k hk (by simp [Value.ownBlock])⟩, fun k hk => .inr (hb k hk)⟩
  · by_cases hroom : n + m ≤ cap
    · have hnm : n * size + news.length ≤ cap * size := by rw [hl, ← Nat.add_mul]; exact Nat.mul_le_mul_right _ hroom
      have hlx := hown.1
      subst hsize
      have hf := run_firstCells_some (P := P) w i.size m a m c news hl hnews
      have hst := run_storeCells_at P g (off + n * i.size) e news 0 cur w hg (by omega) h1
      simp only [Nat.add_zero] at hst
      refine ⟨some ⟨g, off, none⟩, cap, w.setRow g (cur.toList.take (off + n * i.size) ++ news ++ cur.toList.drop (off + n * i.size + news.length)).toArray, ?_, ⟨?_, .inr ⟨g, off, _, rfl, setRow_heap w g cur _ e _ hg, hroom, hcm, ?_, ?_⟩⟩, (Upd.refl w _).setRow (by simp) _, fun k hk => .inl hk⟩
      · simp [Builtin.append_, run_underlying ht, sizeOf, typeInfo, hi, Builtin.lenOf, hroom, hf, Addr.add_lit, hst]
      · rw [List.length_append, hlx, hl, Nat.add_mul]
      · simp only [List.size_toArray, List.length_append, List.length_take, List.length_drop, Array.length_toList]
        omega
      · have := drop_take_splice cur.toList off xs news (by rw [hlx]; exact htake) (by rw [hlx]; simp; omega)
        rw [hlx] at this
        rw [Nat.add_mul, ← hl]
        simpa using this
    · have hc := hown.cells
      have holds : ∀ j u, xs[j]? = some u → w.cell? ((⟨g, off, none⟩ : Addr).add j) = some u := by
        intro j u hj
        have hjl : j < xs.length := (List.getElem?_eq_some_iff.1 hj).1
        rw [Addr.add_lit, hc.cell j hjl]
        rw [List.getElem?_eq_getElem hjl] at hj; exact hj
      obtain ⟨v', w', hr, ho, hgr⟩ := run_append_arg_grows (P := P) w t ty e i z size bytes ht hi hz hsize hby hzs hsz ⟨g, off, none⟩ n cap xs hown.1 holds a m c news hl hnews (by omega) h63 hbytes
      obtain ⟨s', cap', rfl, hs, hb⟩ := SliceIs.of_own ho
      exact ⟨s', cap', w', hr, hs, ⟨hgr.os, hgr.tape, hgr.output, hgr.size, fun k hk _ => hgr.block k hk (by simp)⟩, fun k hk => .inr (hb k hk)⟩
/-- 'append(s, x...)', x nil. -/
theorem run_append_slice_none (t ty e : TypeId) (i : TypeInfo) (ht : P.underlying t = some (.slice e)) (hi : P.info? e = some i) (s : Option Addr) (n cap : Nat) (hn : n ≤ cap) :
    (Builtin.append_ #[t, t] ty #[.slice s n cap, .slice none 0 0]).run P w = .ok (.slice s n cap) w := by
  cases s <;> simp [Builtin.append_, run_underlying ht, sizeOf, typeInfo, hi, Builtin.lenOf, Builtin.firstCells, hn, storeCells]
end
section
variable {P : Program} {w : World} {ops : Array Oper} {o : Oper} {a : Act} {Q : Exit → Act → World → Prop}
end
/-- Fewer elements of a slice. -/
theorem SliceIs.take {w : World} {e : TypeId} {size : Nat} {a : Option Addr} {n cap : Nat} {xs : List Value} (h : SliceIs w e size a n cap xs) (i : Nat) (hi : i ≤ n) : SliceIs w e size a i cap (xs.take (i * size)) := by
  have hm : i * size ≤ n * size := Nat.mul_le_mul_right _ hi
  refine ⟨by rw [List.length_take, h.1, Nat.min_eq_left hm], ?_⟩
  rcases h.2 with ⟨rfl, rfl, rfl⟩ | ⟨g, off, cur, rfl, hg, r1, r2, r3, r4⟩
  · exact .inl ⟨rfl, by omega, rfl⟩
  · exact .inr ⟨g, off, cur, rfl, hg, by omega, r2, r3, by rw [← r4, List.take_take, Nat.min_eq_left hm]⟩
section
variable {P : Program} {w : World} {o : Oper} {a : Act} {Q : Exit → Act → World → Prop}
end

section
variable {P : Program} (w : World) {t e size : Nat} (ht : P.underlying t = some (.slice e)) (hs : ∀ w, (sizeOf e).run P w = .ok size w) (a : Option Addr) (len cap : Nat)
include ht hs
end

end Go.Proofs.YtjgnomjjphkfbaaGreat

namespace Go.Proofs.YtjgnomjjphkfbaaGreat
open Go.RowKit

/-- A slice, by its elements' cells. -/
def RowIs (w : World) (size : Nat) (a : Option Addr) (xs : List (List Value)) : Prop :=
  ∀ i (h : i < xs.length), ∃ g off, a = some ⟨g, off, none⟩ ∧ CellsAt w g (off + i * size) xs[i]
theorem RowIs.keep {w w' : World} {size : Nat} {a : Option Addr} {xs : List (List Value)} (h : RowIs w size a xs) (hb : Below w.heap.size w w') : RowIs w' size a xs := fun i hi => by
  obtain ⟨g, off, ha, hc⟩ := h i hi
  exact ⟨g, off, ha, hc.keep (hb.block g hc.lt)⟩
theorem RowIs.nil (w : World) (size : Nat) (a : Option Addr) : RowIs w size a [] := fun i hi => by simp at hi
/-- The elements of a slice that the call has made, n cells each. -/
theorem SliceIs.rowIs {w : World} {e : TypeId} {size : Nat} {a : Option Addr} {n cap : Nat} {xs : List Value} (h : SliceIs w e size a n cap xs) (ys : List (List Value)) (hy : ∀ i (hi : i < ys.length), (xs.drop (i * size)).take size = ys[i]) (hn : ys.length ≤ n) : RowIs w size a ys := fun i hi => by
  obtain ⟨g, off, rfl⟩ := h.there (by omega)
  refine ⟨g, off, rfl, ?_⟩
  rw [← hy i hi]
  refine h.cells.sub (i * size) size ?_
  rw [h.1, ← Nat.succ_mul]
  exact Nat.mul_le_mul_right _ (by omega)
theorem RowIs.cell1 {w : World} {a : Option Addr} {α : Type} {f : α → Value} {xs : List α} (h : RowIs w 1 a (xs.map fun x => [f x])) (i : Nat) (hi : i < xs.length) : ∃ g off, a = some ⟨g, off, none⟩ ∧ w.cell? ⟨g, off + i, none⟩ = some (f xs[i]) := by
  obtain ⟨g, off, ha, hc⟩ := h i (by simpa using hi)
  refine ⟨g, off, ha, ?_⟩
  have := hc.cell 0 (by simp)
  simpa using this

section
variable {H : Type} {enc : TypeId × Value → H} {w : World} {base : Nat} {spare : Nat → Bool} {held : Bool} {P : Program}
end

end Go.Proofs.YtjgnomjjphkfbaaGreat

namespace Go.Proofs.YtjgnomjjphkfbaaGreat
open Go.RowKit

section
variable {H : Type} {enc : TypeId × Value → H} {w : World} {base : Nat} {spare : Nat → Bool} {held : Bool} {P : Program}
end

end Go.Proofs.YtjgnomjjphkfbaaGreat

namespace Go.Proofs.YtjgnomjjphkfbaaGreat
open Go.RowKit

section
variable {P : Program}
end

/-- The builtin append, under a name that the walk does not open: 'attribute [local go_sem ↓ high] appSem_eq', and what it comes to laid ahead of the walk. -/
def appSem (ats : Array TypeId) (ty : TypeId) (args : Array Value) : Sem Value := Builtin.append_ ats ty args
theorem appSem_eq (ats : Array TypeId) (ty : TypeId) (cs : Array Bool) (args : Array Value) : builtin .append ats ty cs args = (do pure (.value (← appSem ats ty args))) := rfl

end Go.Proofs.YtjgnomjjphkfbaaGreat

namespace Go.Proofs.YtjgnomjjphkfbaaGreat
open Go.RowKit

section
variable {H : Type} {enc : TypeId × Value → H} {w : World} {base : Nat} {spare : Nat → Bool} {held : Bool} {P : Program}
end

section
variable {P : Program}
end

end Go.Proofs.YtjgnomjjphkfbaaGreat

namespace Go.Proofs.YtjgnomjjphkfbaaGreat
open Go.RowKit

theorem flat_get (size : Nat) (h0 : 0 < size) : ∀ (xs : List (List Value)) (_ : ∀ x ∈ xs, x.length = size) (j : Nat) (u : Value), xs.flatten[j]? = some u → ∃ (h : j / size < xs.length), xs[j / size][j % size]? = some u
  | [], _, j, u, h => by simp at h
  | x :: r, hs, j, u, h => by
    have hx := hs x (by simp)
    rw [List.flatten_cons] at h
    by_cases hj : j < size
    · rw [List.getElem?_append_left (by omega)] at h
      refine ⟨by rw [Nat.div_eq_of_lt hj]; simp, ?_⟩
      simp only [Nat.div_eq_of_lt hj, Nat.mod_eq_of_lt hj, List.getElem_cons_zero]
      exact h
    · rw [List.getElem?_append_right (by omega), hx] at h
      obtain ⟨h1, h2⟩ := flat_get size h0 r (fun y hy => hs y (by simp [hy])) (j - size) u h
      have e1 : j / size = (j - size) / size + 1 := by
        rw [Nat.div_eq_sub_div h0 (by omega)]
      have e2 : j % size = (j - size) % size := Nat.mod_eq_sub_mod (by omega)
      refine ⟨by rw [e1]; simpa using h1, ?_⟩
      simp only [e1, e2, List.getElem_cons_succ]
      exact h2
theorem flat_length (size : Nat) : ∀ (xs : List (List Value)) (_ : ∀ x ∈ xs, x.length = size), xs.flatten.length = xs.length * size
  | [], _ => by simp
  | x :: r, hs => by
    rw [List.flatten_cons, List.length_append, hs x (by simp), flat_length size r (fun y hy => hs y (by simp [hy])), List.length_cons, Nat.succ_mul]; omega
theorem flat_drop (size : Nat) : ∀ (xs : List (List Value)) (_ : ∀ x ∈ xs, x.length = size) (i : Nat), xs.flatten.drop (i * size) = (xs.drop i).flatten
  | xs, _, 0 => by simp
  | [], _, i + 1 => by simp
  | x :: r, hs, i + 1 => by
    have hx := hs x (by simp)
    rw [List.flatten_cons, List.drop_succ_cons, Nat.succ_mul, Nat.add_comm, ← List.drop_drop, List.drop_append_of_le_length (by omega), List.drop_of_length_le (l := x) (by omega), List.nil_append]
    exact flat_drop size r (fun y hy => hs y (by simp [hy])) i
theorem flat_take (size : Nat) : ∀ (xs : List (List Value)) (_ : ∀ x ∈ xs, x.length = size) (i : Nat), xs.flatten.take (i * size) = (xs.take i).flatten
  | xs, _, 0 => by simp
  | [], _, i + 1 => by simp
  | x :: r, hs, i + 1 => by
    have hx := hs x (by simp)
    rw [List.flatten_cons, List.take_succ_cons, List.flatten_cons, Nat.succ_mul, List.take_append, List.take_of_length_le (by omega), hx, Nat.add_sub_cancel]
    rw [flat_take size r (fun y hy => hs y (by simp [hy])) i]
theorem flat_one (size : Nat) (xs : List (List Value)) (hs : ∀ x ∈ xs, x.length = size) (i : Nat) (h : i < xs.length) : (xs.flatten.drop (i * size)).take size = xs[i] := by
  rw [flat_drop size xs hs i]
  have := flat_take size (xs.drop i) (fun x hx => hs x (List.mem_of_mem_drop hx)) 1
  rw [Nat.one_mul] at this
  rw [this, List.drop_eq_getElem_cons h, List.take_succ_cons, List.take_zero, List.flatten_cons, List.flatten_nil, List.append_nil]
/-- The cells of a row's elements, one behind the other. -/
theorem RowIs.news {w : World} {size : Nat} (h0 : 0 < size) {ad : Addr} {xs : List (List Value)} (h : RowIs w size (some ad) xs) (hs : ∀ x ∈ xs, x.length = size) :
    ∀ j u, xs.flatten[j]? = some u → w.cell? (ad.add j) = some u := by
  intro j u hj
  obtain ⟨h1, h2⟩ := flat_get size h0 xs hs j u hj
  obtain ⟨g, off, e, hc⟩ := h (j / size) h1
  cases e
  obtain ⟨h3, h4⟩ := List.getElem?_eq_some_iff.1 h2
  have := hc.cell (j % size) h3
  rw [h4] at this
  rw [Addr.add_lit]
  rw [show off + j = off + j / size * size + j % size from by have := Nat.div_add_mod j size; rw [Nat.mul_comm] at this; omega]
  exact this
theorem SliceIs.rowF {w : World} {e : TypeId} {size : Nat} {a : Option Addr} {n cap : Nat} {xs : List (List Value)} (h : SliceIs w e size a n cap xs.flatten) (hs : ∀ x ∈ xs, x.length = size) (hn : n = xs.length) : RowIs w size a xs :=
  h.rowIs xs (fun i hi => flat_one size xs hs i hi) (by omega)
/-- A slice's end. -/
theorem SliceIs.drop {w : World} {e : TypeId} {size : Nat} {g off n cap : Nat} {xs : List Value} (h : SliceIs w e size (some ⟨g, off, none⟩) n cap xs) (i : Nat) (hi : i ≤ n) :
    SliceIs w e size (some ⟨g, off + i * size, none⟩) (n - i) (cap - i) (xs.drop (i * size)) := by
  rcases h.2 with ⟨h', _⟩ | ⟨g', off', cur, h', hg, r1, r2, r3, r4⟩
  · cases h'
  cases h'
  have h1 := h.1
  refine ⟨by rw [List.length_drop, h1, ← Nat.sub_mul], .inr ⟨g, off + i * size, cur, rfl, hg, by omega, by omega, ?_, ?_⟩⟩
  · have : (cap - i) * size + i * size = cap * size := by rw [← Nat.add_mul]; congr 1; omega
    omega
  · rw [← r4, List.drop_take, List.drop_drop, ← Nat.sub_mul]
/-- A slice of a new block of its own, all of it. -/
theorem SliceIs.new (w : World) (e : TypeId) (size n : Nat) (xs : List Value) (hl : xs.length = n * size) (hn : n ≤ maxLen) : SliceIs (w.alloc (.cells xs.toArray e (0, 0))) e size (some ⟨w.heap.size, 0, none⟩) n n xs :=
  ⟨hl, .inr ⟨w.heap.size, 0, xs.toArray, rfl, heap_alloc_new w _, Nat.le_refl _, hn, by simp [hl], by rw [← hl]; simp⟩⟩

section
variable {P : Program}
/-- 'append(s, x...)' of a row. -/
theorem append_row {T E : TypeId} {i : TypeInfo} {z : Value} {size bytes : Nat} (ht : P.underlying T = some (.slice E)) (hi : P.info? E = some i) (hz : i.zero = some z) (hsize : i.size = size) (hby : i.bytes = bytes) (hzs : z.cells.size = size) (hsz : 0 < size)
    (w : World) (sa : Option Addr) (n cap0 : Nat) (xs0 : List Value) (hS : SliceIs w E size sa n cap0 xs0)
    (a : Option Addr) (cap : Nat) (xs : List (List Value)) (h : RowIs w size a xs) (hs : ∀ x ∈ xs, x.length = size) (h1 : ∀ x ∈ xs, ∀ u ∈ x, u.oneCell' = true) (hn : n + xs.length ≤ 1073741824) (hb : bytes ≤ 256) (hnil : a = none → cap = 0) :
    ∃ s' cap' w', (appSem #[T, T] T #[.slice sa n cap0, .slice a xs.length cap]).run P w = .ok (.slice s' (n + xs.length) cap') w' ∧ SliceIs w' E size s' (n + xs.length) cap' (xs0 ++ xs.flatten) ∧ Upd w w' (blks sa) ∧ (∀ k ∈ blks s', k ∈ blks sa ∨ w.heap.size ≤ k) := by
  cases a with
  | none =>
    have hx : xs = [] := by
      cases xs with
      | nil => rfl
      | cons v r => obtain ⟨g, off, e, _⟩ := h 0 (by simp); cases e
    subst hx
    obtain rfl : cap = 0 := hnil rfl
    exact ⟨sa, cap0, w, run_append_slice_none _ T T E i ht hi _ n cap0 hS.bound.1, by simpa using hS, Upd.refl _ _, fun k hk => .inl hk⟩
  | some ad =>
    have hbl : (n + xs.length) * bytes ≤ (n + xs.length) * 256 := Nat.mul_le_mul_left _ hb
    exact run_append_slice (P := P) w T T E i z size bytes ht hi hz hsize hby hzs hsz sa n cap0 xs0 hS ad xs.length cap xs.flatten (flat_length size xs hs) (h.news hsz hs) (by
      intro u hu
      obtain ⟨x, hx, hu⟩ := List.mem_flatten.1 hu
      exact h1 x hx u hu) (by unfold maxLen; omega) (by omega)
end

end Go.Proofs.YtjgnomjjphkfbaaGreat

namespace Go.Proofs.YtjgnomjjphkfbaaGreat
open Go.RowKit

/-- A slice of a call's own, element by element. -/
structure OL (w W : World) (E : TypeId) (size : Nat) (s : Option Addr) (cap : Nat) (xs : List (List Value)) : Prop where
  sl : SliceIs W E size s xs.length cap xs.flatten
  far : ∀ k ∈ blks s, w.heap.size ≤ k
  all : ∀ x ∈ xs, x.length = size
/-- Two slices whose blocks stand apart. -/
def Apart (a b : Option Addr) : Prop := ∀ k ∈ blks a, k ∉ blks b
theorem Apart.symm {a b : Option Addr} (h : Apart a b) : Apart b a := fun k hb ha => h k ha hb
theorem Apart.none (b : Option Addr) : Apart none b := fun k h => by simp at h
/-- What an append to s leaves: all blocks but those of s; and it lies where s lay, or in new memory. -/
structure Keeps (W W2 : World) (s s' : Option Addr) : Prop where
  upd : Upd W W2 (blks s)
  new : ∀ k ∈ blks s', k ∈ blks s ∨ W.heap.size ≤ k
section
variable {w W W2 : World} {E : TypeId} {size : Nat} {s s' t : Option Addr} {cap : Nat} {xs : List (List Value)}
theorem OL.nil (w W : World) (E : TypeId) (size : Nat) : OL w W E size none 0 [] := ⟨SliceIs.nil _ _ _, by simp, by simp⟩
theorem OL.row (h : OL w W E size s cap xs) : RowIs W size s xs := h.sl.rowF h.all rfl
theorem OL.keep (h : OL w W E size s cap xs) (hb : Below W.heap.size W W2) : OL w W2 E size s cap xs :=
  ⟨h.sl.keep fun k hk => hb.block k (h.sl.lt k hk), h.far, h.all⟩
theorem OL.other (h : OL w W E size t cap xs) (k : Keeps W W2 s s') (ha : Apart s t) : OL w W2 E size t cap xs ∧ Apart s' t :=
  ⟨⟨h.sl.keep fun b hb => k.upd.keep b (h.sl.lt b hb) (fun hs => ha b hs hb), h.far, h.all⟩, fun b hb hbt => by
    rcases k.new b hb with h1 | h1
    · exact ha b h1 hbt
    · have := h.sl.lt b hbt; omega⟩
theorem Keeps.trans {W3 : World} {s'' : Option Addr} (h : Keeps W W2 s s') (k : Keeps W2 W3 s' s'') : Keeps W W3 s s'' :=
  ⟨h.upd.trans k.upd h.new, fun b hb => by
    rcases k.new b hb with h1 | h1
    · exact h.new b h1
    · have := h.upd.size; exact .inr (by omega)⟩
theorem Keeps.own (h : Keeps W W2 s s') (hs : ∀ k ∈ blks s, w.heap.size ≤ k) (hO : Own w.heap.size w W) : Own w.heap.size w W2 := hO.upd h.upd hs
theorem Keeps.far (h : Keeps W W2 s s') (hs : ∀ k ∈ blks s, w.heap.size ≤ k) (hO : w.heap.size ≤ W.heap.size) : ∀ k ∈ blks s', w.heap.size ≤ k := fun k hk => by
  rcases h.new k hk with h1 | h1
  · exact hs k h1
  · omega
end

section
variable {P : Program}
end

end Go.Proofs.YtjgnomjjphkfbaaGreat

namespace Go.Proofs.YtjgnomjjphkfbaaGreat
open Go.RowKit

def by8 (b : UInt8) : Int := b.toNat
theorem wrap8_bv (x : BitVec 8) : IntKind.u8.wrap (x.toNat : Int) = by8 ⟨x⟩ := by
  rw [IntKind.wrap_u8]; have := x.isLt; show _ = (x.toNat : Int); omega
@[go_sem] theorem xor8 (a b : UInt8) : Go.bits .xor .u8 (by8 a) (by8 b) = by8 (a ^^^ b) := by
  have e : Go.bits .xor .u8 (by8 a) (by8 b) = IntKind.u8.wrap ((BitVec.ofInt 8 (by8 a) ^^^ BitVec.ofInt 8 (by8 b)).toNat : Int) := rfl
  have f : ∀ b : UInt8, BitVec.ofInt 8 (by8 b) = b.toBitVec := by
    intro b; unfold by8; apply BitVec.eq_of_toNat_eq; rw [BitVec.toNat_ofInt]; have := b.toNat_lt; show _ = b.toNat; omega
  rw [e, f, f, wrap8_bv]; rfl
@[go_sem] theorem xor8a (a b : UInt8) : Go.bits .xor .u8 (a.toNat : Int) (b.toNat : Int) = by8 (a ^^^ b) := xor8 a b
@[go_sem] theorem xor8b (a b : UInt8) : Go.bits .xor .u8 (by8 a) (b.toNat : Int) = by8 (a ^^^ b) := xor8 a b
@[go_sem] theorem shl8 (m : Nat) : IntKind.u8.wrap ((2 : Int) ^ (m % 8)) = by8 (1 <<< UInt8.ofNat (m % 8)) := by
  have : ∀ r, r < 8 → IntKind.u8.wrap ((2 : Int) ^ r) = by8 (1 <<< UInt8.ofNat r) := by decide
  exact this _ (Nat.mod_lt _ (by decide))

@[go_sem] theorem shl8' (m : Nat) : (2 : Int) ^ (m % 8) % (256 : Int) = by8 (1 <<< UInt8.ofNat (m % 8)) := by
  rw [← shl8, IntKind.wrap_u8]

/-- 'string(b)' of a row of bytes. -/
theorem run_string_of {P : Program} (w : World) (src dst e : TypeId) (g cap : Nat) (l : List UInt8) (cs : Array Value) (t : TypeId) (fr : Nat × Nat) (n : Nat) (hn : n = l.length)
    (hs : P.underlying src = some (.slice e)) (he : P.underlying e = some (.int .u8)) (hd : P.underlying dst = some .string)
    (hg : w.heap[g]? = some (.cells cs t fr)) (hc : ∀ j (hj : j < l.length), cs[j]? = some (.int .u8 (by8 l[j]))) :
    (convert src dst (.slice (some ⟨g, 0, none⟩) n cap)).run P w = .ok (.string ⟨l.toArray⟩) w := by
  subst hn
  refine run_convert_bytes_back w src dst e ⟨g, 0, none⟩ cap l hs he hd fun j hj => ?_
  rw [show (⟨g, 0, none⟩ : Addr).add j = ⟨g, j, none⟩ from by unfold Addr.add; split <;> simp_all, cell_of_row _ _ _ _ _ _ hg, hc j hj]
  rfl
theorem L_extract (s : ByteArray) (n : Nat) : L (s.extract 0 n) = (L s).take n := by
  simp [L, ByteArray.data_extract]

end Go.Proofs.YtjgnomjjphkfbaaGreat

namespace Go.Proofs.YtjgnomjjphkfbaaGreat.Wr

abbrev M64 : Nat := 18446744073709551616

def uvF : Nat → Nat → List UInt8
  | 0, _ => []
  | f + 1, x => if x < 128 then [UInt8.ofNat x] else UInt8.ofNat (x % 128 + 128) :: uvF f (x / 128)
/-- A number's bytes. -/
def uv (x : Nat) : List UInt8 := uvF 10 x
theorem uvF_small (f x : Nat) (h : x < 128) : uvF (f + 1) x = [UInt8.ofNat x] := by rw [uvF, if_pos h]
theorem uvF_big (f x : Nat) (h : ¬ x < 128) : uvF (f + 1) x = UInt8.ofNat (x % 128 + 128) :: uvF f (x / 128) := by rw [uvF, if_neg h]
theorem uvF_length (f : Nat) : ∀ x, (uvF f x).length ≤ f := by
  induction f with
  | zero => intro x; simp [uvF]
  | succ f ih =>
    intro x
    rw [uvF]
    split
    · simp
    · have := ih (x / 128); simp; omega
theorem uvF_pos (f x : Nat) : 1 ≤ (uvF (f + 1) x).length := by rw [uvF]; split <;> simp
def txt (t : List UInt8) : List UInt8 := uv t.length ++ t
def bool (b : Bool) : UInt8 := if b then 1 else 0

/-- What is read from place i on, where the value of what was read is acc: the number, how many bytes it has, and with which error. -/
def rdG : List UInt8 → Nat → Nat → Nat × Nat × Nat
  | [], _, _ => (0, 0, 6)
  | c :: s, i, acc =>
    if (i = 9 ∧ 1 < c.toNat) ∨ (0 < i ∧ c.toNat = 0) then (0, 0, 7)
    else if c.toNat < 128 then ((acc + c.toNat % 128 * 128 ^ i) % M64, i + 1, 0)
    else rdG s (i + 1) ((acc + c.toNat % 128 * 128 ^ i) % M64)
def rd (s : List UInt8) : Nat × Nat × Nat := rdG s 0 0

theorem pow128 (i : Nat) (h : i ≤ 9) : 128 ^ i ≤ 9223372036854775808 := by
  have : 128 ^ i ≤ 128 ^ 9 := Nat.pow_le_pow_right (by decide) h
  have e : 128 ^ 9 = 9223372036854775808 := by decide
  omega
/-- What is written is read: from place i on. -/
theorem rdG_uv : ∀ (f i acc x : Nat) (r : List UInt8), i + f = 10 → x * 128 ^ i + acc < M64 → acc < 128 ^ i → (0 < i → 0 < x) → rdG (uvF f x ++ r) i acc = (acc + x * 128 ^ i, i + (uvF f x).length, 0)
  | 0, i, acc, x, r, hi, hx, ha, hp => by
    obtain rfl : i = 10 := by omega
    exfalso
    have := hp (by decide)
    have e : 128 ^ 10 = 1180591620717411303424 := by decide
    rw [e] at hx
    unfold M64 at hx; omega
  | f + 1, i, acc, x, r, hi, hx, ha, hp => by
    have hpw := pow128 i (by omega)
    have hpos : 0 < 128 ^ i := Nat.pow_pos (by decide)
    by_cases h : x < 128
    · have hc : (UInt8.ofNat x).toNat = x := by rw [UInt8.toNat_ofNat']; omega
      rw [uvF_small _ _ h]
      have hno : ¬ ((i = 9 ∧ 1 < x) ∨ (0 < i ∧ x = 0)) := by
        rintro (⟨rfl, h1⟩ | ⟨h1, h2⟩)
        · have e : 128 ^ 9 = 9223372036854775808 := by decide
          rw [e] at hx
          unfold M64 at hx; omega
        · have := hp h1; omega
      simp only [List.cons_append, List.nil_append, rdG, hc]
      rw [if_neg hno, if_pos h, Nat.mod_eq_of_lt h, Nat.mod_eq_of_lt (by omega)]
      rfl
    · have hc : (UInt8.ofNat (x % 128 + 128)).toNat = x % 128 + 128 := by rw [UInt8.toNat_ofNat']; omega
      rw [uvF_big _ _ h]
      have hi9 : i ≠ 9 := by
        rintro rfl
        have e : 128 ^ 9 = 9223372036854775808 := by decide
        rw [e] at hx
        unfold M64 at hx; omega
      have hno : ¬ ((i = 9 ∧ 1 < x % 128 + 128) ∨ (0 < i ∧ x % 128 + 128 = 0)) := by omega
      have hxm : x % 128 * 128 ^ i ≤ x * 128 ^ i := Nat.mul_le_mul_right _ (Nat.mod_le _ _)
      have hm : (x % 128 + 128) % 128 = x % 128 := by omega
      have hsplit : x * 128 ^ i = x % 128 * 128 ^ i + x / 128 * 128 ^ (i + 1) := by
        rw [Nat.pow_succ, Nat.mul_comm (128 ^ i) 128, ← Nat.mul_assoc, ← Nat.add_mul]
        congr 1
        omega
      have hlow : acc + x % 128 * 128 ^ i < 128 ^ (i + 1) := by
        have : x % 128 * 128 ^ i ≤ 127 * 128 ^ i := Nat.mul_le_mul_right _ (by omega)
        rw [Nat.pow_succ]; omega
      simp only [List.cons_append, rdG, hc]
      rw [if_neg hno, if_neg (by omega), hm, Nat.mod_eq_of_lt (by omega)]
      rw [rdG_uv f (i + 1) _ (x / 128) r (by omega) (by omega) hlow (fun _ => by omega)]
      simp only [List.length_cons]
      rw [hsplit, Nat.add_assoc, Nat.add_assoc, Nat.add_comm 1]
theorem rd_uv (x : Nat) (r : List UInt8) (h : x < M64) : rd (uv x ++ r) = (x, (uv x).length, 0) := by
  have := rdG_uv 10 0 0 x r rfl (by simpa using h) (by decide) (by omega)
  simpa [rd, uv] using this
/-- What is read without a fault is written as itself. -/
theorem rdG_ok : ∀ (s : List UInt8) (i acc : Nat), i ≤ 9 → acc < 128 ^ i → (rdG s i acc).2.2 = 0 →
    ∃ k x, (rdG s i acc) = (acc + x * 128 ^ i, i + k, 0) ∧ 1 ≤ k ∧ k ≤ s.length ∧ i + k ≤ 10 ∧ s.take k = uvF (10 - i) x ∧ (0 < i → 0 < x) ∧ acc + x * 128 ^ i < M64
  | [], i, acc, hi, ha, h => by simp [rdG] at h
  | c :: s, i, acc, hi, ha, h => by
    have hpw := pow128 i hi
    have hpos : 0 < 128 ^ i := Nat.pow_pos (by decide)
    have hcl := c.toNat_lt
    rw [rdG] at h ⊢
    by_cases h1 : (i = 9 ∧ 1 < c.toNat) ∨ (0 < i ∧ c.toNat = 0)
    · rw [if_pos h1] at h; cases h
    rw [if_neg h1] at h ⊢
    obtain ⟨f, hf⟩ : ∃ f, 10 - i = f + 1 := ⟨9 - i, by omega⟩
    have hbd : acc + c.toNat % 128 * 128 ^ i < 128 ^ (i + 1) := by
      have : c.toNat % 128 * 128 ^ i ≤ 127 * 128 ^ i := Nat.mul_le_mul_right _ (by omega)
      rw [Nat.pow_succ]; omega
    have h64 : acc + c.toNat % 128 * 128 ^ i < M64 := by
      by_cases h9 : i = 9
      · subst h9
        have e : 128 ^ 9 = 9223372036854775808 := by decide
        rw [e] at ha ⊢
        unfold M64; omega
      · have := Nat.pow_le_pow_right (n := 128) (by decide) (show i + 1 ≤ 9 from by omega)
        have e : 128 ^ 9 = 9223372036854775808 := by decide
        unfold M64; omega
    rw [Nat.mod_eq_of_lt h64] at h ⊢
    by_cases h2 : c.toNat < 128
    · rw [if_pos h2]
      refine ⟨1, c.toNat, by rw [Nat.mod_eq_of_lt h2], by omega, by simp, by omega, ?_, by omega, by rwa [Nat.mod_eq_of_lt h2] at h64⟩
      rw [hf, uvF_small _ _ h2]
      simp
    · rw [if_neg h2] at h ⊢
      by_cases h9 : i = 9
      · omega
      obtain ⟨k, x, e, k1, k2, k3, k4, k5, k6⟩ := rdG_ok s (i + 1) _ (by omega) hbd h
      have hx := k5 (by omega)
      have e1 : acc + c.toNat % 128 * 128 ^ i + x * 128 ^ (i + 1) = acc + (c.toNat % 128 + 128 * x) * 128 ^ i := by
        rw [Nat.pow_succ, Nat.add_mul, Nat.add_assoc]
        congr 2
        rw [Nat.mul_comm (128 ^ i) 128, ← Nat.mul_assoc, Nat.mul_comm x 128]
      refine ⟨k + 1, c.toNat % 128 + 128 * x, ?_, by omega, by simp; omega, by omega, ?_, by omega, by rw [← e1]; exact k6⟩
      · rw [e, e1, Nat.add_assoc, Nat.add_comm 1]
      · have hf2 : 10 - (i + 1) = f := by omega
        rw [hf2] at k4
        rw [hf, uvF_big _ _ (by omega), List.take_succ_cons, k4]
        congr 1
        · apply UInt8.toNat_inj.1; rw [UInt8.toNat_ofNat']; omega
        · congr 1; omega
theorem rd_ok (s : List UInt8) (h : (rd s).2.2 = 0) : s.take (rd s).2.1 = uv (rd s).1 ∧ 1 ≤ (rd s).2.1 ∧ (rd s).2.1 ≤ s.length ∧ (rd s).2.1 ≤ 10 ∧ (rd s).1 < M64 := by
  obtain ⟨k, x, e, k1, k2, k3, k4, k5, k6⟩ := rdG_ok s 0 0 (by decide) (by decide) h
  have e' : rd s = (x, k, 0) := by unfold rd; rw [e]; simp
  rw [e']
  simp only [Nat.pow_zero, Nat.mul_one, Nat.zero_add] at k6 k4 k3
  exact ⟨k4, k1, k2, k3, k6⟩
/-- A fault hands back zeros. -/
theorem rdG_err : ∀ (s : List UInt8) (i acc : Nat), (rdG s i acc).2.2 ≠ 0 → (rdG s i acc).1 = 0 ∧ (rdG s i acc).2.1 = 0 ∧ ((rdG s i acc).2.2 = 6 ∨ (rdG s i acc).2.2 = 7)
  | [], i, acc, _ => by simp [rdG]
  | c :: s, i, acc, h => by
    rw [rdG] at h ⊢
    split
    · simp
    · split
      · rename_i h1 h2; rw [if_neg h1, if_pos h2] at h; simp at h
      · rename_i h1 h2; rw [if_neg h1, if_neg h2] at h; exact rdG_err s _ _ h
end Go.Proofs.YtjgnomjjphkfbaaGreat.Wr

namespace Go.Proofs.YtjgnomjjphkfbaaGreat
open Go.RowKit

/-- A row of bytes of the call's own: nothing of it is frozen; a mark may lie behind its last cell. -/
def MarkIs (w : World) (base : Nat) (e : TypeId) (a : Option Addr) (n cap : Nat) (l : List UInt8) : Prop :=
  l.length = n ∧ ((a = none ∧ n = 0 ∧ cap = 0) ∨
   ∃ g cur fz, a = some ⟨g, 0, none⟩ ∧ base ≤ g ∧ w.heap[g]? = some (.cells cur e fz) ∧ (∀ j, j < cur.size → ¬ (fz.1 ≤ j ∧ j < fz.2)) ∧ n ≤ cap ∧ cap ≤ maxLen ∧ cur.size = cap ∧ cur.toList.take n = l.map fun b => Value.int .u8 (by8 b))
theorem MarkIs.keep {w w' : World} {base : Nat} {e : TypeId} {a : Option Addr} {n cap : Nat} {l : List UInt8} (h : MarkIs w base e a n cap l) (hb : Below w.heap.size w w') : MarkIs w' base e a n cap l := by
  refine ⟨h.1, ?_⟩
  rcases h.2 with h1 | ⟨g, cur, fz, rfl, hbg, hg, rest⟩
  · exact .inl h1
  · exact .inr ⟨g, cur, fz, rfl, hbg, (hb.block g (blk_lt hg)).trans hg, rest⟩
theorem MarkIs.text {P : Program} {w : World} {base : Nat} {e : TypeId} {a : Option Addr} {n cap : Nat} {l : List UInt8} (h : MarkIs w base e a n cap l) (src dst : TypeId) (hs : P.underlying src = some (.slice e)) (he : P.underlying e = some (.int .u8)) (hd : P.underlying dst = some .string) (hn : 0 < n) :
    (convert src dst (.slice a n cap)).run P w = .ok (.string ⟨l.toArray⟩) w := by
  obtain ⟨hl, h | ⟨g, cur, fz, rfl, hbg, hg, hfz, hnc, hcm, hcs, ht⟩⟩ := h
  · omega
  · refine run_string_of (P := P) w src dst e g cap l cur e fz n hl.symm hs he hd hg ?_
    intro j hj
    have h1 : (cur.toList.take n)[j]? = some (.int .u8 (by8 l[j])) := by rw [ht]; simp [hj]
    rw [List.getElem?_take] at h1
    split at h1
    · simpa using h1
    · cases h1

end Go.Proofs.YtjgnomjjphkfbaaGreat
