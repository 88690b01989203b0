/-
  Joined out of the texts Base Mem RowArgs RowSized QuietLoad RowMore Flat Lists Bytes8 WireMath Mark.
-/
import Derived.Test.YtjgnomjjphkfbaaGreatRows
import Derived.WalkKit
import Derived.WalkSpells
import Derived.WalkLawsBesides
import Derived.Lib.Hide
import Derived.Deep.Draws
import Derived.ArgAppend
import Derived.Deep.Slices
import Derived.Deep.Strs
import Derived.ProofKit
import Derived.SizedLaws
import Derived.BigQuiet
import Derived.Deep.QuietTactic
import Derived.Lib.AppendStr
/-
  WORDS FOR THE WALKS: numbers of 32 bits as rows of bits; bytes; what a call that makes memory of its own leaves as it was.
-/
namespace Go.Proofs.YtjgnomjjphkfbaaGreat
open Go.RowKit

/-- Below B the world is as it was, and B is a block's number that is there. -/
structure Own (B : Nat) (w w' : World) : Prop where
  below : Below B w w'
  size : B ≤ w'.heap.size

theorem Own.refl (w : World) : Own w.heap.size w w := ⟨Below.refl _ _, Nat.le_refl _⟩
theorem Own.trans {B : Nat} {w w1 w2 : World} (h : Own B w w1) (k : Below w1.heap.size w1 w2) : Own B w w2 :=
  ⟨h.below.trans (k.mono h.size), Nat.le_trans h.size k.size⟩
theorem Own.drew {B : Nat} {w w1 : World} (h : Own B w w1) : Own B w w1.drew := ⟨h.below.drew, h.size⟩
theorem Own.drewN {B : Nat} {w w1 : World} (h : Own B w w1) (n : Nat) : Own B w (w1.drewN n) := ⟨h.below.trans ⟨rfl, rfl, rfl, Nat.le_refl _, fun _ _ => rfl⟩, h.size⟩
theorem Own.alloc {B : Nat} {w w1 : World} (h : Own B w w1) (o : Obj) : Own B w (w1.alloc o) :=
  ⟨h.below.alloc h.size o, by have := h.size; simp; omega⟩
theorem Own.setCell {B : Nat} {w w1 : World} (h : Own B w w1) {p : Addr} (hp : B ≤ p.block) (u : Value) : Own B w (w1.setCell p u) :=
  ⟨h.below.setCell hp u, by have := h.size; simpa [World.setCell] using this⟩

theorem Own.setRow {B : Nat} {w w1 : World} (h : Own B w w1) {g : Nat} (hg : B ≤ g) (cs : Array Value) : Own B w (w1.setRow g cs) :=
  ⟨h.below.trans ⟨rfl, rfl, rfl, by simp, fun k hk => setRow_other _ _ _ _ (by omega)⟩, by have := h.size; simpa using this⟩

theorem blk_lt {w : World} {g : Nat} {o : Obj} (h : w.heap[g]? = some o) : g < w.heap.size := (Array.getElem?_eq_some_iff.1 h).1

theorem ret_u {k : IntKind} {a b : Int} (h : a = b) : Ending.returned (.int k a) = .returned (.int k b) := by rw [h]

/-! ### 32 bits -/
def w32 (x : BitVec 32) : Int := x.toNat
theorem u32_lt (x : BitVec 32) : 0 ≤ w32 x ∧ w32 x < 4294967296 := by unfold w32; omega
theorem u32_of (n : Int) (h : 0 ≤ n ∧ n < 4294967296) : n = w32 (BitVec.ofInt 32 n) := by
  unfold w32; rw [BitVec.toNat_ofInt]; omega
theorem u32_lit (n : Nat) (h : n < 4294967296) : w32 (BitVec.ofNat 32 n) = n := by
  unfold w32; simp; omega
theorem u32_inj {x y : BitVec 32} (h : w32 x = w32 y) : x = y := by
  unfold w32 at h; exact BitVec.eq_of_toNat_eq (by omega)
theorem wrap32_nat (n : Nat) (h : n < 4294967296) : IntKind.u32.wrap (n : Int) = n := by
  rw [IntKind.wrap_u32]; omega
theorem wrap_bv32 (x : BitVec 32) : IntKind.u32.wrap (x.toNat : Int) = w32 x := wrap32_nat _ x.isLt
@[go_sem] theorem ofInt_u32 (x : BitVec 32) : BitVec.ofInt 32 (w32 x) = x := by unfold w32; simp
@[go_sem] theorem xor32 (i j : Int) : Go.bits .xor .u32 i j = w32 (BitVec.ofInt 32 i ^^^ BitVec.ofInt 32 j) := wrap_bv32 _
@[go_sem] theorem and32 (i j : Int) : Go.bits .and .u32 i j = w32 (BitVec.ofInt 32 i &&& BitVec.ofInt 32 j) := wrap_bv32 _
@[go_sem] theorem or32 (i j : Int) : Go.bits .or .u32 i j = w32 (BitVec.ofInt 32 i ||| BitVec.ofInt 32 j) := wrap_bv32 _
theorem wrap_ofInt32 (i : Int) : IntKind.u32.wrap i = w32 (BitVec.ofInt 32 i) := by
  rw [IntKind.wrap_u32]; unfold w32; rw [BitVec.toNat_ofInt]; omega
@[go_sem] theorem wrap_u32 (x : BitVec 32) : IntKind.u32.wrap (w32 x) = w32 x := by rw [wrap_ofInt32, ofInt_u32]
@[go_sem] theorem shr32 (x : BitVec 32) (k : Nat) : w32 x / (2 : Int) ^ k = w32 (x >>> k) := by
  unfold w32
  rw [BitVec.toNat_ushiftRight, Nat.shiftRight_eq_div_pow]
  simp
@[go_sem] theorem half32 (x : BitVec 32) : w32 x / (2 : Int) = w32 (x >>> 1) := by have := shr32 x 1; rwa [show ((2 : Int) ^ 1) = 2 from rfl] at this
@[go_sem] theorem tdiv32 (x : BitVec 32) : (w32 x).tdiv (2 : Int) = w32 (x >>> 1) := by
  rw [Int.tdiv_eq_ediv_of_nonneg (u32_lt x).1, half32]
@[go_sem] theorem tmod32 (x : BitVec 32) : (w32 x).tmod (2 : Int) = w32 (x &&& 1#32) := by
  rw [Int.tmod_eq_emod_of_nonneg (u32_lt x).1]
  unfold w32
  rw [BitVec.toNat_and]
  simp [Nat.and_one_is_mod]
@[go_sem] theorem mul32 (i j : Int) (x : BitVec 32) (h : j = w32 x) : IntKind.u32.wrap (i * j) = w32 (BitVec.ofInt 32 i * x) := by
  subst h
  rw [wrap_ofInt32, BitVec.ofInt_mul, ofInt_u32]
@[go_sem] theorem mul32' (i : Int) (x : BitVec 32) : IntKind.u32.wrap (i * w32 x) = w32 (BitVec.ofInt 32 i * x) := mul32 i _ x rfl
theorem toNat_one_shl (k : Nat) : (1#32 <<< k).toNat = 2 ^ k % 2 ^ 32 := by
  rw [BitVec.toNat_shiftLeft, Nat.shiftLeft_eq]
  rw [show (1#32).toNat = 1 from rfl, Nat.one_mul]
@[go_sem] theorem shl32 (k : Nat) : IntKind.u32.wrap ((2 : Int) ^ k) = w32 (1#32 <<< k) := by
  unfold w32
  rw [toNat_one_shl, IntKind.wrap_u32, show ((2 : Int) ^ k) = ((2 ^ k : Nat) : Int) from by rw [Int.natCast_pow]; rfl]
  generalize 2 ^ k = m
  omega
@[go_sem] theorem byte32 (b : UInt8) : IntKind.u32.wrap (b.toNat : Int) = w32 (BitVec.ofNat 32 b.toNat) := by
  rw [wrap_ofInt32]; rfl
@[go_sem] theorem eq32 (x y : BitVec 32) : (w32 x == w32 y) = (x == y) := by
  rw [Bool.eq_iff_iff]; simp only [beq_iff_eq]; exact ⟨u32_inj, fun h => by rw [h]⟩
@[go_sem] theorem ne32 (x y : BitVec 32) : (w32 x != w32 y) = (x != y) := by
  unfold bne; rw [eq32]
theorem wf_u32 (x : BitVec 32) : (Lit.int .u32 (w32 x)).wf = true := WalkArith.wf_u32 (by have := u32_lt x; omega)

@[go_sem] theorem not32 (x : BitVec 32) : BitVec.ofInt 32 IntKind.u32.max ^^^ x = ~~~ x := by
  rw [show BitVec.ofInt 32 IntKind.u32.max = BitVec.allOnes 32 from by decide, BitVec.allOnes_xor]

/-! ### 64 bits: a natural number below 2^64 -/
@[go_sem] theorem and1_64 (n : Int) : Go.bits .and .u64 n 1 = n % 2 := by
  have e : Go.bits .and .u64 n 1 = IntKind.u64.wrap ((BitVec.ofInt 64 n &&& 1#64).toNat : Int) := rfl
  rw [e, BitVec.toNat_and, show (1#64).toNat = 1 from rfl, Nat.and_one_is_mod, BitVec.toNat_ofInt]
  rw [IntWalk.u64_in _ (by omega)]
  omega

/-! ### Bytes of texts -/
abbrev L (s : ByteArray) : List UInt8 := s.data.toList
theorem L_size (s : ByteArray) : (L s).length = s.size := Array.length_toList
theorem L_get (s : ByteArray) (k : Nat) (h : k < s.size) : (L s)[k]'(by rw [L_size]; exact h) = s[k] := by
  simp [L]; rfl
theorem L_append (s t : ByteArray) : L (s ++ t) = L s ++ L t := by simp [L, ByteArray.data_append]
theorem L_take_succ (s : ByteArray) (k : Nat) (h : k < s.size) : (L s).take (k + 1) = (L s).take k ++ [s[k]] := by
  rw [List.take_succ_eq_append_getElem (by rw [L_size]; exact h), L_get s k h]
theorem L_take_all (s : ByteArray) (k : Nat) (h : s.size ≤ k) : (L s).take k = L s := List.take_of_length_le (by rw [L_size]; exact h)

/-- Behind '[]byte(s)': the new block's cells, and what was there. -/
theorem bytes_cell (w : World) (s : ByteArray) (e : TypeId) (k : Nat) (h : k < s.size) :
    ((w.alloc (.cells (bytesRow s (grownCap w s.size 0 e)) e ((bytesRow s (grownCap w s.size 0 e)).size, (bytesRow s (grownCap w s.size 0 e)).size + 1))).drew).cell? ⟨w.heap.size, k, none⟩ = some (.int .u8 (s[k].toNat : Int)) := by
  show (w.alloc _).cell? _ = _
  rw [World.cell?_alloc_mark, bytesRow_at s _ k h]; rfl

/-! ### Loads and stores of whole aggregates inside a block -/
section
variable {P : Program}
theorem run_loadVar_agg (w : World) (g off n : Nat) (t ty : TypeId) (cs : Array Value) (fr : Nat × Nat) (d : TypeDesc) (hg : w.heap[g]? = some (.cells cs t fr))
    (hu : P.underlying ty = some d) (hd : (match d with | .struct _ | .array _ _ => true | _ => false) = true) (hi : (P.info? ty).map (·.size) = some n) (hn : off + n ≤ cs.size) :
    (loadVar ty ⟨g, off, none⟩).run P w = .ok (.agg ((cs.toList.drop off).take n).toArray) w := by
  have hlen : ((cs.toList.drop off).take n).length = n := by simp; omega
  have hl : (loadCells ⟨g, off, none⟩ n).run P w = .ok ((cs.toList.drop off).take n).toArray w := by
    have := run_loadCells_list (P := P) w ⟨g, off, none⟩ ((cs.toList.drop off).take n) (fun j v hv => by
      have hadd : (⟨g, off, none⟩ : Addr).add j = ⟨g, off + j, none⟩ := by unfold Addr.add; split <;> simp_all
      rw [hadd, cell_of_row w g _ cs t fr hg]
      have hj : j < n := by
        rcases Nat.lt_or_ge j n with h | h
        · exact h
        · rw [List.getElem?_eq_none (by omega)] at hv; cases hv
      rw [List.getElem?_take_of_lt hj, List.getElem?_drop] at hv
      simpa using hv)
    rwa [hlen] at this
  cases hq : P.info? ty with
  | none => simp [hq] at hi
  | some i =>
    have hs : i.size = n := by simpa [hq] using hi
    have hagg : (isAgg ty).run P w = .ok true w := by
      unfold isAgg
      rw [Sem.run_bind, run_underlying hu w]
      cases d <;> simp_all
    simp [loadVar, Sem.run_bind, hagg, sizeOf, typeInfo, hq, hs, hl]
theorem wpList_load_agg {ops : Array Oper} {rest : List Oper} {o : Oper} {a : Act} {w : World} {Q : Exit → Act → World → Prop} (hgd : o.guard = none) (ty : TypeId) (x : Operand) (ho : o.op = .load ty x)
    (g off n : Nat) (hx : a.eval x = .pointer (some ⟨g, off, none⟩)) (t : TypeId) (cs : Array Value) (fr : Nat × Nat) (d : TypeDesc) (hg : w.heap[g]? = some (.cells cs t fr))
    (hu : P.underlying ty = some d) (hd : (match d with | .struct _ | .array _ _ => true | _ => false) = true) (hi : (P.info? ty).map (·.size) = some n) (hn : off + n ≤ cs.size)
    (h : wpList P ops Q rest (a.put o.dst (.agg ((cs.toList.drop off).take n).toArray)) w) : wpList P ops Q (o :: rest) a w :=
  wpList_plain hgd fun _ hK => by
    unfold Oper.wp execOp
    simp only [ho, hx, Instr.loadAt, Instr.sureAddr, Sem.run_bind, Sem.run_pure, Result.andThen_ok, run_loadVar_agg w g off n t ty cs fr d hg hu hd hi hn]
    exact hK _ _ h
theorem wpList_store_agg {ops : Array Oper} {rest : List Oper} {o : Oper} {a : Act} {w : World} {Q : Exit → Act → World → Prop} (hgd : o.guard = none) (ty : TypeId) (x v : Operand) (ho : o.op = .store ty x v)
    (g off : Nat) (vs : Array Value) (hx : a.eval x = .pointer (some ⟨g, off, none⟩)) (hv : a.eval v = .agg vs) (t : TypeId) (cs : Array Value) (hg : w.heap[g]? = some (.cells cs t (0, 0)))
    (hi : (P.info? ty).map (·.size) = some vs.size) (hn : off + vs.size ≤ cs.size) (h1 : ∀ v ∈ vs.toList, v.oneCell' = true)
    (h : wpList P ops Q rest (a.put o.dst undef) (w.setRow g (cs.toList.take off ++ vs.toList ++ cs.toList.drop (off + vs.size)).toArray)) : wpList P ops Q (o :: rest) a w :=
  wpList_plain hgd fun _ hK => by
    have hs := run_storeCells_at (P := P) g off t vs.toList 0 cs w hg (by simpa using hn) h1
    cases hq : P.info? ty with
    | none => simp [hq] at hi
    | some i =>
      have hsz : i.size = vs.size := by simpa [hq] using hi
      have hvar : (storeVar ty ⟨g, off, none⟩ (.agg vs)).run P w = .ok () (w.setRow g (cs.toList.take off ++ vs.toList ++ cs.toList.drop (off + vs.size)).toArray) := by
        simp only [storeVar, Value.cells, Sem.run_bind, sizeOf, typeInfo, run_program, Result.andThen_ok, hq, Sem.run_pure, hsz]
        simpa using hs
      unfold Oper.wp execOp
      simp only [ho, hx, hv, Instr.storeAt, Instr.sureAddr, Sem.run_bind, Sem.run_pure, Result.andThen_ok, hvar]
      exact hK _ _ h
/-- What a block holds already, stored over it. -/
theorem wpList_store_same {ops : Array Oper} {rest : List Oper} {o : Oper} {a : Act} {w : World} {Q : Exit → Act → World → Prop} (hgd : o.guard = none) (ty : TypeId) (x v : Operand) (ho : o.op = .store ty x v)
    (g : Nat) (vs : Array Value) (hx : a.eval x = .pointer (some ⟨g, 0, none⟩)) (hv : a.eval v = .agg vs) (t : TypeId) (hg : w.heap[g]? = some (.cells vs t (0, 0)))
    (hi : (P.info? ty).map (·.size) = some vs.size) (h1 : ∀ v ∈ vs.toList, v.oneCell' = true)
    (h : wpList P ops Q rest (a.put o.dst undef) w) : wpList P ops Q (o :: rest) a w := by
  refine wpList_store_agg hgd ty x v ho g 0 vs hx hv t vs hg hi (by omega) h1 ?_
  have : (vs.toList.take 0 ++ vs.toList ++ vs.toList.drop (0 + vs.size)).toArray = vs := by
    rw [List.drop_eq_nil_of_le (by simp)]; simp
  rw [this, setRow_self w g vs t (0, 0) hg]
  exact h
/-- w' is w with the block g holding the cells vs, all of them. -/
structure PutAt (w w' : World) (g : Nat) (vs : Array Value) (t : TypeId) : Prop where
  here : w'.heap[g]? = some (.cells vs t (0, 0))
  other : ∀ k, k ≠ g → w'.heap[k]? = w.heap[k]?
  size : w'.heap.size = w.heap.size
  os : w'.os = w.os
  tape : w'.tape = w.tape
  output : w'.output = w.output
theorem Own.put {B : Nat} {w0 w w' : World} {g : Nat} {vs : Array Value} {t : TypeId} (h : Own B w0 w) (p : PutAt w w' g vs t) (hg : B ≤ g) : Own B w0 w' :=
  ⟨h.below.trans ⟨p.os, p.tape, p.output, by rw [p.size]; exact Nat.le_refl _, fun k hk => p.other k (by omega)⟩, by rw [p.size]; exact h.size⟩
theorem putAt_setRow (w : World) (g : Nat) (cs vs : Array Value) (t : TypeId) (hg : w.heap[g]? = some (.cells cs t (0, 0))) : PutAt w (w.setRow g vs) g vs t :=
  ⟨setRow_heap _ _ _ _ _ _ hg, fun k hk => setRow_other _ _ _ _ hk, by simp, rfl, rfl, rfl⟩
/-- A whole block is stored over: the world behind it is a variable. -/
theorem wpList_store_all {ops : Array Oper} {rest : List Oper} {o : Oper} {a : Act} {w : World} {Q : Exit → Act → World → Prop} (hgd : o.guard = none) (ty : TypeId) (x v : Operand) (ho : o.op = .store ty x v)
    (g : Nat) (vs : Array Value) (hx : a.eval x = .pointer (some ⟨g, 0, none⟩)) (hv : a.eval v = .agg vs) (t : TypeId) (cs : Array Value) (hg : w.heap[g]? = some (.cells cs t (0, 0)))
    (hi : (P.info? ty).map (·.size) = some vs.size) (hn : vs.size = cs.size) (h1 : ∀ v ∈ vs.toList, v.oneCell' = true)
    (h : ∀ w', PutAt w w' g vs t → wpList P ops Q rest (a.put o.dst undef) w') : wpList P ops Q (o :: rest) a w := by
  refine wpList_store_agg hgd ty x v ho g 0 vs hx hv t cs hg hi (by omega) h1 ?_
  have e : (cs.toList.take 0 ++ vs.toList ++ cs.toList.drop (0 + vs.size)).toArray = vs := by
    rw [List.drop_eq_nil_of_le (by simp; omega)]; simp
  rw [e]
  exact h _ (putAt_setRow w g cs vs t hg)
end

/-- Two results: a struct in memory, and a value. -/
theorem results_cell_tmp_row {P : Program} {fn : Func} {p u : Tmp} {ty : TypeId} (h : fn.results = #[.cell p ty, .tmp u]) (tmps : Array Value) (w : World) (g : Nat) (t : TypeId) (cs : Array Value) (fr : Nat × Nat) (d : TypeDesc)
    (hp : tmps.getD p undef = .pointer (some ⟨g, 0, none⟩)) (hg : w.heap[g]? = some (.cells cs t fr))
    (hu : P.underlying ty = some d) (hd : (match d with | .struct _ | .array _ _ => true | _ => false) = true) (hi : (P.info? ty).map (·.size) = some cs.size) :
    (results fn tmps).run P w = .ok (.tuple #[.agg cs, tmps.getD u undef]) w := by
  rw [results_cell_tmp h, hp]
  simp only [asAddr, Sem.run_pure, Result.andThen_ok, run_loadVar_row w g t ty cs fr d hg hu hd hi]

/-! ### Slices of bytes that the call makes -/
def zeroCells (n : Nat) : Array Value := Array.replicate n (.int .u8 0)
theorem madeCells_u8 (n : Nat) : madeCells #[Value.int .u8 0] n = zeroCells n := by
  apply Array.ext
  · simp [size_madeCells, zeroCells]
  · intro i h1 h2
    simp only [madeCells, zeroCells, Array.getElem_map, Array.getElem_replicate, List.size_toArray, List.length_cons, List.length_nil]
    rw [show ∀ m, m % (0 + 1) = 0 from fun m => Nat.mod_one m]
    rfl
theorem run_make_bytes {P : Program} (w : World) (t e : TypeId) (n : Nat) (ht : P.underlying t = some (.slice e)) (hi : (P.info? e).map (fun i => (i.zero, i.size, i.bytes)) = some (some (.int .u8 0), 1, 1)) (hn : n ≤ 140737488355328) :
    (Instr.makeSlice t (.int .i64 n) (.int .i64 n)).run P w = .ok (.slice (some ⟨w.heap.size, 0, none⟩) n n) (w.alloc (.cells (zeroCells n) e)) := by
  cases hq : P.info? e with
  | none => simp [hq] at hi
  | some i =>
    rw [hq] at hi
    simp only [Option.map_some, Option.some.injEq, Prod.mk.injEq] at hi
    obtain ⟨h1, h2, h3⟩ := hi
    have := run_make (P := P) w t e i (.int .u8 0) ht hq h1 .i64 .i64 n n (by omega) (by omega) (by rw [h3]; omega) (by omega)
    rw [this]
    simp only [h2, Nat.mul_one, Int.toNat_natCast, Value.cells]
    rw [madeCells_u8]

theorem heap_set {w : World} {g i : Nat} {cs : Array Value} {t : TypeId} {fr : Nat × Nat} (v : Value) (hg : w.heap[g]? = some (.cells cs t fr)) :
    (w.setCell ⟨g, i, none⟩ v).heap[g]? = some (.cells (cs.setIfInBounds i v) t fr) := by
  rw [setCell_eq_setRow w g i cs t fr v hg]
  exact setRow_heap w g cs _ t _ hg
theorem frozen_past {w : World} {g i n : Nat} {cs : Array Value} {t : TypeId} (h : i < n) (hg : w.heap[g]? = some (.cells cs t (n, n + 1))) : w.frozen? ⟨g, i, none⟩ = false := by
  simp [World.frozen?, hg]; omega

/-! ### Arguments -/
theorem wf_bounds {k : IntKind} {n : Int} (h : (Lit.int k n).wf = true) : k.min ≤ n ∧ n ≤ k.max := by simpa [Lit.wf] using h
theorem bv32_of_wf {a : Int} (h : (Lit.int .u32 a).wf = true) : ∃ x : BitVec 32, a = w32 x := by
  have := wf_bounds h
  rw [show IntKind.u32.min = 0 from by decide, show IntKind.u32.max = 4294967295 from by decide] at this
  exact ⟨_, u32_of a (by omega)⟩
theorem nat64_of_wf {a : Int} (h : (Lit.int .u64 a).wf = true) : ∃ n : Nat, a = n ∧ n ≤ 18446744073709551615 := by
  have := wf_bounds h
  rw [show IntKind.u64.min = 0 from by decide, show IntKind.u64.max = 18446744073709551615 from by decide] at this
  exact ⟨a.toNat, by omega, by omega⟩
theorem nat16_of_wf {a : Int} (h : (Lit.int .u16 a).wf = true) : ∃ n : Nat, a = n ∧ n ≤ 65535 := by
  have := wf_bounds h
  rw [show IntKind.u16.min = 0 from by decide, show IntKind.u16.max = 65535 from by decide] at this
  exact ⟨a.toNat, by omega, by omega⟩
theorem nat8_of_wf {a : Int} (h : (Lit.int .u8 a).wf = true) : ∃ n : Nat, a = n ∧ n ≤ 255 := by
  have := wf_bounds h
  rw [show IntKind.u8.min = 0 from by decide, show IntKind.u8.max = 255 from by decide] at this
  exact ⟨a.toNat, by omega, by omega⟩
theorem i8_of_wf {a : Int} (h : (Lit.int .i8 a).wf = true) : -128 ≤ a ∧ a ≤ 127 := by
  have := wf_bounds h
  rwa [show IntKind.i8.min = -128 from by decide, show IntKind.i8.max = 127 from by decide] at this
theorem i64_of_wf {a : Int} (h : (Lit.int .i64 a).wf = true) : -9223372036854775808 ≤ a ∧ a ≤ 9223372036854775807 := by
  have := wf_bounds h
  rwa [show IntKind.i64.min = -9223372036854775808 from by decide, show IntKind.i64.max = 9223372036854775807 from by decide] at this

end Go.Proofs.YtjgnomjjphkfbaaGreat

/-
  MEMORY: which blocks a step may turn; cells that lie in a row; slices of whatever elements, by what each element's cells are; append.
-/
namespace Go.Proofs.YtjgnomjjphkfbaaGreat
open Go.RowKit

/-- Of what was there only the blocks of F may have turned. -/
structure Upd (w w' : World) (F : List Nat) : Prop where
  os : w'.os = w.os
  tape : w'.tape = w.tape
  output : w'.output = w.output
  size : w.heap.size ≤ w'.heap.size
  keep : ∀ k, k < w.heap.size → k ∉ F → w'.heap[k]? = w.heap[k]?

theorem Upd.refl (w : World) (F : List Nat) : Upd w w F := ⟨rfl, rfl, rfl, Nat.le_refl _, fun _ _ _ => rfl⟩
theorem Upd.trans {w w1 w2 : World} {F G : List Nat} (h : Upd w w1 F) (k : Upd w1 w2 G) (hG : ∀ x ∈ G, x ∈ F ∨ w.heap.size ≤ x) : Upd w w2 F :=
  ⟨k.os.trans h.os, k.tape.trans h.tape, k.output.trans h.output, Nat.le_trans h.size k.size, fun i hi hF =>
    (k.keep i (Nat.lt_of_lt_of_le hi h.size) (fun hg => by rcases hG i hg with h1 | h1; exact hF h1; omega)).trans (h.keep i hi hF)⟩
theorem Upd.mono {w w1 : World} {F G : List Nat} (h : Upd w w1 F) (hG : ∀ x ∈ F, x ∈ G) : Upd w w1 G :=
  ⟨h.os, h.tape, h.output, h.size, fun i hi hF => h.keep i hi fun hf => hF (hG i hf)⟩
theorem Upd.of_below {w w1 : World} (F : List Nat) (h : Below w.heap.size w w1) : Upd w w1 F := ⟨h.os, h.tape, h.output, h.size, fun i hi _ => h.block i hi⟩
theorem Upd.below {w w1 : World} (h : Upd w w1 []) : Below w.heap.size w w1 := ⟨h.os, h.tape, h.output, h.size, fun i hi => h.keep i hi (by simp)⟩
theorem Upd.drew {w w1 : World} {F : List Nat} (h : Upd w w1 F) : Upd w w1.drew F := ⟨h.os, h.tape, h.output, h.size, h.keep⟩
theorem Upd.drewN {w w1 : World} {F : List Nat} (h : Upd w w1 F) (n : Nat) : Upd w (w1.drewN n) F := ⟨h.os, h.tape, h.output, h.size, h.keep⟩
theorem Upd.alloc {w w1 : World} {F : List Nat} (h : Upd w w1 F) (o : Obj) : Upd w (w1.alloc o) F :=
  h.trans (Upd.of_below [] ((Below.refl _ _).alloc (Nat.le_refl _) o)) (by simp)
theorem Upd.setCell {w w1 : World} {F : List Nat} (h : Upd w w1 F) {p : Addr} (hp : p.block ∈ F ∨ w.heap.size ≤ p.block) (u : Value) : Upd w (w1.setCell p u) F :=
  h.trans (G := [p.block]) ⟨rfl, rfl, rfl, by simp, fun k _ hF => heap_setCell_other _ _ _ _ (by simpa using hF)⟩ (by intro x hx; simp at hx; subst hx; exact hp)
theorem Upd.setRow {w w1 : World} {F : List Nat} (h : Upd w w1 F) {g : Nat} (hp : g ∈ F ∨ w.heap.size ≤ g) (cs : Array Value) : Upd w (w1.setRow g cs) F :=
  h.trans (G := [g]) ⟨rfl, rfl, rfl, by simp, fun k _ hF => setRow_other _ _ _ _ (by simpa using hF)⟩ (by intro x hx; simp at hx; subst hx; exact hp)
theorem Upd.put {w w1 w2 : World} {F : List Nat} (h : Upd w w1 F) {g : Nat} {vs : Array Value} {t : TypeId} (p : PutAt w1 w2 g vs t) (hp : g ∈ F ∨ w.heap.size ≤ g) : Upd w w2 F :=
  h.trans (G := [g]) ⟨p.os, p.tape, p.output, by rw [p.size]; exact Nat.le_refl _, fun k _ hF => p.other k (by simpa using hF)⟩ (by intro x hx; simp at hx; subst hx; exact hp)
theorem Own.upd {B : Nat} {w0 w w' : World} {F : List Nat} (h : Own B w0 w) (u : Upd w w' F) (hF : ∀ x ∈ F, B ≤ x) : Own B w0 w' :=
  ⟨h.below.trans ⟨u.os, u.tape, u.output, u.size, fun k hk => u.keep k (Nat.lt_of_lt_of_le hk h.size) (fun hf => by have := hF k hf; omega)⟩, Nat.le_trans h.size u.size⟩

/-! ### Cells in a row -/
/-- At place p of block g lie the cells xs. -/
def CellsAt (w : World) (g p : Nat) (xs : List Value) : Prop :=
  ∃ cs t fr, w.heap[g]? = some (.cells cs t fr) ∧ p + xs.length ≤ cs.size ∧ (cs.toList.drop p).take xs.length = xs
theorem CellsAt.cell {w : World} {g p : Nat} {xs : List Value} (h : CellsAt w g p xs) (j : Nat) (hj : j < xs.length) : w.cell? ⟨g, p + j, none⟩ = some xs[j] := by
  obtain ⟨cs, t, fr, hg, hn, he⟩ := h
  rw [cell_of_row _ _ _ _ _ _ hg]
  have : xs[j]? = cs[p + j]? := by
    conv => lhs; rw [← he]
    rw [List.getElem?_take_of_lt hj, List.getElem?_drop]; simp
  rw [← this, List.getElem?_eq_getElem hj]
theorem CellsAt.keep {w w' : World} {g p : Nat} {xs : List Value} (h : CellsAt w g p xs) (hk : w'.heap[g]? = w.heap[g]?) : CellsAt w' g p xs := by
  obtain ⟨cs, t, fr, hg, hn, he⟩ := h
  exact ⟨cs, t, fr, hk.trans hg, hn, he⟩
theorem CellsAt.lt {w : World} {g p : Nat} {xs : List Value} (h : CellsAt w g p xs) : g < w.heap.size := by
  obtain ⟨cs, t, fr, hg, _⟩ := h; exact blk_lt hg
theorem CellsAt.new (w : World) (xs : List Value) (t : TypeId) (fr : Nat × Nat) : CellsAt (w.alloc (.cells xs.toArray t fr)) w.heap.size 0 xs :=
  ⟨_, _, _, heap_alloc_new w _, by simp, by simp⟩
section
variable {P : Program}
theorem wpList_load_at {ops : Array Oper} {rest : List Oper} {o : Oper} {a : Act} {w : World} {Q : Exit → Act → World → Prop} (hgd : o.guard = none) (ty : TypeId) (x : Operand) (ho : o.op = .load ty x)
    (g p : Nat) (hx : a.eval x = .pointer (some ⟨g, p, none⟩)) (xs : List Value) (d : TypeDesc) (hc : CellsAt w g p xs)
    (hu : P.underlying ty = some d) (hd : (match d with | .struct _ | .array _ _ => true | _ => false) = true) (hi : (P.info? ty).map (·.size) = some xs.length)
    (h : wpList P ops Q rest (a.put o.dst (.agg xs.toArray)) w) : wpList P ops Q (o :: rest) a w := by
  obtain ⟨cs, t, fr, hg, hn, he⟩ := hc
  refine wpList_load_agg hgd ty x ho g p xs.length hx t cs fr d hg hu hd hi hn ?_
  rw [he]; exact h
end

/-! ### Slices: by their cells -/
/-- The slice 'a, n, cap' has n elements of type e, of 'size' cells each; their cells are xs. -/
def SliceIs (w : World) (e : TypeId) (size : Nat) (a : Option Addr) (n cap : Nat) (xs : List Value) : Prop :=
  xs.length = n * size ∧
  ((a = none ∧ n = 0 ∧ cap = 0) ∨
   ∃ g off cur, a = some ⟨g, off, none⟩ ∧ w.heap[g]? = some (.cells cur e (0, 0)) ∧ n ≤ cap ∧ cap ≤ maxLen ∧ off + cap * size ≤ cur.size ∧ (cur.toList.drop off).take (n * size) = xs)
/-- The block of a slice's row. -/
def blks (a : Option Addr) : List Nat := a.toList.map (·.block)
@[simp] theorem blks_none : blks none = [] := rfl
@[simp] theorem blks_some (x : Addr) : blks (some x) = [x.block] := rfl
theorem SliceIs.nil (w : World) (e : TypeId) (size : Nat) : SliceIs w e size none 0 0 [] := ⟨by simp, .inl ⟨rfl, rfl, rfl⟩⟩
theorem SliceIs.of_own {w : World} {B : Nat} {e : TypeId} {size : Nat} {v : Value} {n : Nat} {xs : List Value} (h : w.ownsRow B e size v n xs) :
    ∃ a cap, v = .slice a n cap ∧ SliceIs w e size a n cap xs ∧ ∀ k ∈ blks a, B ≤ k := by
  rcases h.2 with ⟨rfl, rfl⟩ | ⟨g, cap, cur, rfl, hb, hg, h1, h2, h3, h4⟩
  · exact ⟨none, 0, rfl, ⟨h.1, .inl ⟨rfl, rfl, rfl⟩⟩, by simp⟩
  · exact ⟨_, cap, rfl, ⟨h.1, .inr ⟨g, 0, cur, rfl, hg, h1, h2, by omega, by simpa using h4⟩⟩, by simpa using hb⟩
theorem SliceIs.keep {w w' : World} {e : TypeId} {size : Nat} {a : Option Addr} {n cap : Nat} {xs : List Value} (h : SliceIs w e size a n cap xs) (hk : ∀ k ∈ blks a, w'.heap[k]? = w.heap[k]?) : SliceIs w' e size a n cap xs := by
  refine ⟨h.1, ?_⟩
  rcases h.2 with h | ⟨g, off, cur, rfl, hg, r⟩
  · exact .inl h
  · exact .inr ⟨g, off, cur, rfl, (hk g (by simp)).trans hg, r⟩
theorem SliceIs.lt {w : World} {e : TypeId} {size : Nat} {a : Option Addr} {n cap : Nat} {xs : List Value} (h : SliceIs w e size a n cap xs) : ∀ k ∈ blks a, k < w.heap.size := by
  rcases h.2 with ⟨rfl, _⟩ | ⟨g, off, cur, rfl, hg, r⟩
  · simp
  · intro k hk; simp at hk; subst hk; exact blk_lt hg
theorem SliceIs.alloc {w : World} {e : TypeId} {size : Nat} {a : Option Addr} {n cap : Nat} {xs : List Value} (h : SliceIs w e size a n cap xs) (o : Obj) : SliceIs (w.alloc o) e size a n cap xs :=
  h.keep fun k hk => Below.heap_alloc _ _ _ (h.lt k hk)
theorem SliceIs.drew {w : World} {e : TypeId} {size : Nat} {a : Option Addr} {n cap : Nat} {xs : List Value} (h : SliceIs w e size a n cap xs) : SliceIs w.drew e size a n cap xs := h.keep fun _ _ => rfl
/-- A block of another element type is not the slice's. -/
theorem SliceIs.ne {w : World} {e : TypeId} {size : Nat} {a : Option Addr} {n cap : Nat} {xs : List Value} (h : SliceIs w e size a n cap xs) {b : Nat} {cs : Array Value} {t : TypeId} {fr : Nat × Nat} (hb : w.heap[b]? = some (.cells cs t fr)) (ht : t ≠ e) : b ∉ blks a := by
  rcases h.2 with ⟨rfl, _⟩ | ⟨g, off, cur, rfl, hg, r⟩
  · simp
  · intro hk; simp at hk; subst hk; rw [hb] at hg; cases hg; exact ht rfl
theorem SliceIs.bound {w : World} {e : TypeId} {size : Nat} {a : Option Addr} {n cap : Nat} {xs : List Value} (h : SliceIs w e size a n cap xs) : n ≤ cap ∧ cap ≤ maxLen := by
  rcases h.2 with ⟨_, rfl, rfl⟩ | ⟨g, off, cur, rfl, hg, r, r2, _⟩
  · exact ⟨Nat.le_refl _, by decide⟩
  · exact ⟨r, r2⟩
/-- The elements' cells, all in a row. -/
theorem SliceIs.cells {w : World} {e : TypeId} {size : Nat} {g off : Nat} {n cap : Nat} {xs : List Value} (h : SliceIs w e size (some ⟨g, off, none⟩) n cap xs) : CellsAt w g off xs := by
  rcases h.2 with ⟨h, _⟩ | ⟨g', off', cur, h', hg, r1, r2, r3, r4⟩
  · cases h
  · cases h'
    have := Nat.mul_le_mul_right size r1
    exact ⟨cur, e, (0, 0), hg, by rw [h.1]; omega, by rw [h.1]; exact r4⟩
theorem CellsAt.sub {w : World} {g p : Nat} {xs : List Value} (h : CellsAt w g p xs) (i n : Nat) (hn : i + n ≤ xs.length) : CellsAt w g (p + i) ((xs.drop i).take n) := by
  obtain ⟨cs, t, fr, hg, hl, he⟩ := h
  have hlen : ((xs.drop i).take n).length = n := by simp; omega
  refine ⟨cs, t, fr, hg, by rw [hlen]; omega, ?_⟩
  rw [hlen]
  conv => rhs; rw [← he]
  rw [List.drop_take, List.drop_drop, List.take_take, Nat.min_eq_left (by omega)]
/-- Not nil where there is an element. -/
theorem SliceIs.there {w : World} {e : TypeId} {size : Nat} {a : Option Addr} {n cap : Nat} {xs : List Value} (h : SliceIs w e size a n cap xs) (hn : 0 < n) : ∃ g off, a = some ⟨g, off, none⟩ := by
  rcases h.2 with ⟨_, rfl, _⟩ | ⟨g, off, cur, rfl, _⟩
  · omega
  · exact ⟨g, off, rfl⟩

theorem drop_take_splice (l : List Value) (off : Nat) (xs ys : List Value) (h : (l.drop off).take xs.length = xs) (hl : off + xs.length + ys.length ≤ l.length) :
    ((l.take (off + xs.length) ++ ys ++ l.drop (off + xs.length + ys.length)).drop off).take (xs.length + ys.length) = xs ++ ys := by
  have e1 : l.take (off + xs.length) = l.take off ++ xs := by
    rw [List.take_add, h]
  have hlen : (l.take off).length = off := by simp; omega
  rw [e1, List.append_assoc, List.append_assoc, List.drop_append_of_le_length (by omega), List.drop_eq_nil_of_le (by omega), List.nil_append, ← List.append_assoc]
  rw [List.take_append_of_le_length (by simp), List.take_of_length_le (by simp)]

section
variable {P : Program} (w : World)
/-- 'append': what comes out has the slice's own row, or a new one. -/
theorem run_append_slice (t ty e : TypeId) (i : TypeInfo) (z : Value) (size bytes : Nat) (ht : P.underlying t = some (.slice e)) (hi : P.info? e = some i) (hz : i.zero = some z)
    (hsize : i.size = size) (hby : i.bytes = bytes) (hzs : z.cells.size = size) (hsz : 0 < size)
    (s : Option Addr) (n cap : Nat) (xs : List Value) (hown : SliceIs w e size s n cap xs)
    (a : Addr) (m c : Nat) (news : List Value) (hl : news.length = m * size) (hnews : ∀ j u, news[j]? = some u → w.cell? (a.add j) = some u) (h1 : ∀ u ∈ news, u.oneCell' = true)
    (h63 : n + m ≤ maxLen) (hbytes : (n + m) * bytes ≤ 140737488355328) :
    ∃ s' cap' w', (Builtin.append_ #[t, t] ty #[.slice s n cap, .slice (some a) m c]).run P w = .ok (.slice s' (n + m) cap') w' ∧ SliceIs w' e size s' (n + m) cap' (xs ++ news) ∧ Upd w w' (blks s) ∧
      (∀ k ∈ blks s', k ∈ blks s ∨ w.heap.size ≤ k) := by
  rcases hown.2 with ⟨rfl, rfl, rfl⟩ | ⟨g, off, cur, rfl, hg, hnc, hcm, hcs, htake⟩
  · obtain ⟨v', w', hr, ho, hgr, _⟩ := run_append_own (P := P) w w.heap.size t ty e i z size bytes ht hi hz hsize hby hzs hsz (.slice none 0 0) 0 [] (World.ownsRow_nil w _ e size) a m c news hl hnews h1 h63 hbytes (Nat.le_refl _)
    have hx : xs = [] := List.eq_nil_of_length_eq_zero (by simpa using hown.1)
    subst hx
    obtain ⟨s', cap', rfl, hs, hb⟩ := SliceIs.of_own ho
    exact ⟨s', cap', w', hr, hs, ⟨hgr.os, hgr.tape, hgr.output, hgr.size, fun k hk _ => hgr.block k hk (by simp [Value.ownBlock])⟩, fun k hk => .inr (hb k hk)⟩
  · by_cases hroom : n + m ≤ cap
    · have hnm : n * size + news.length ≤ cap * size := by rw [hl, ← Nat.add_mul]; exact Nat.mul_le_mul_right _ hroom
      have hlx := hown.1
      subst hsize
      have hf := run_firstCells_some (P := P) w i.size m a m c news hl hnews
      have hst := run_storeCells_at P g (off + n * i.size) e news 0 cur w hg (by omega) h1
      simp only [Nat.add_zero] at hst
      refine ⟨some ⟨g, off, none⟩, cap, w.setRow g (cur.toList.take (off + n * i.size) ++ news ++ cur.toList.drop (off + n * i.size + news.length)).toArray, ?_, ⟨?_, .inr ⟨g, off, _, rfl, setRow_heap w g cur _ e _ hg, hroom, hcm, ?_, ?_⟩⟩, (Upd.refl w _).setRow (by simp) _, fun k hk => .inl hk⟩
      · simp [Builtin.append_, run_underlying ht, sizeOf, typeInfo, hi, Builtin.lenOf, hroom, hf, Addr.add_lit, hst]
      · rw [List.length_append, hlx, hl, Nat.add_mul]
      · simp only [List.size_toArray, List.length_append, List.length_take, List.length_drop, Array.length_toList]
        omega
      · have := drop_take_splice cur.toList off xs news (by rw [hlx]; exact htake) (by rw [hlx]; simp; omega)
        rw [hlx] at this
        rw [Nat.add_mul, ← hl]
        simpa using this
    · have hc := hown.cells
      have holds : ∀ j u, xs[j]? = some u → w.cell? ((⟨g, off, none⟩ : Addr).add j) = some u := by
        intro j u hj
        have hjl : j < xs.length := (List.getElem?_eq_some_iff.1 hj).1
        rw [Addr.add_lit, hc.cell j hjl]
        rw [List.getElem?_eq_getElem hjl] at hj; exact hj
      obtain ⟨v', w', hr, ho, hgr⟩ := run_append_arg_grows (P := P) w t ty e i z size bytes ht hi hz hsize hby hzs hsz ⟨g, off, none⟩ n cap xs hown.1 holds a m c news hl hnews (by omega) h63 hbytes
      obtain ⟨s', cap', rfl, hs, hb⟩ := SliceIs.of_own ho
      exact ⟨s', cap', w', hr, hs, ⟨hgr.os, hgr.tape, hgr.output, hgr.size, fun k hk _ => hgr.block k hk (by simp)⟩, fun k hk => .inr (hb k hk)⟩
/-- 'append(s, x...)', x nil. -/
theorem run_append_slice_none (t ty e : TypeId) (i : TypeInfo) (ht : P.underlying t = some (.slice e)) (hi : P.info? e = some i) (s : Option Addr) (n cap : Nat) (hn : n ≤ cap) :
    (Builtin.append_ #[t, t] ty #[.slice s n cap, .slice none 0 0]).run P w = .ok (.slice s n cap) w := by
  cases s <;> simp [Builtin.append_, run_underlying ht, sizeOf, typeInfo, hi, Builtin.lenOf, Builtin.firstCells, hn, storeCells]
end
section
variable {P : Program} {w : World} {ops : Array Oper} {o : Oper} {a : Act} {Q : Exit → Act → World → Prop}
theorem wp_append_slice {K : Act → World → Prop} (s x : Operand) (t : TypeId)
    (ho : o.op = .call { callee := .builtin .append, args := #[s, x], argTypes := #[t, t] })
    (e : TypeId) (i : TypeInfo) (z : Value) (size bytes : Nat) (ht : P.underlying t = some (.slice e)) (hi : P.info? e = some i) (hz : i.zero = some z)
    (hsize : i.size = size) (hby : i.bytes = bytes) (hzs : z.cells.size = size) (hsz : 0 < size)
    (sa : Option Addr) (n cap : Nat) (xs : List Value) (hs : a.eval s = .slice sa n cap) (hown : SliceIs w e size sa n cap xs)
    (ad : Addr) (m c : Nat) (news : List Value) (hx : a.eval x = .slice (some ad) m c) (hl : news.length = m * size) (hnews : ∀ j u, news[j]? = some u → w.cell? (ad.add j) = some u) (h1 : ∀ u ∈ news, u.oneCell' = true)
    (h63 : n + m ≤ maxLen) (hbytes : (n + m) * bytes ≤ 140737488355328)
    (h : ∀ s' cap' w', SliceIs w' e size s' (n + m) cap' (xs ++ news) → Upd w w' (blks sa) → (∀ k ∈ blks s', k ∈ blks sa ∨ w.heap.size ≤ k) → K (a.put o.dst (.slice s' (n + m) cap')) w') : o.wp P a w K Q := by
  obtain ⟨s', cap', w', hr, h2, h3, h4⟩ := run_append_slice (P := P) w t o.type e i z size bytes ht hi hz hsize hby hzs hsz sa n cap xs hown ad m c news hl hnews h1 h63 hbytes
  unfold Oper.wp execOp
  simp only [ho, resolve, invoke, builtin, Sem.run_bind, Sem.run_pure, Result.andThen_ok, List.map_toArray, List.map_cons, List.map_nil, hs, hx, hr]
  exact h s' cap' w' h2 h3 h4
theorem wpList_append_slice {rest : List Oper} (hgd : o.guard = none) (s x : Operand) (t : TypeId)
    (ho : o.op = .call { callee := .builtin .append, args := #[s, x], argTypes := #[t, t] })
    (e : TypeId) (i : TypeInfo) (z : Value) (size bytes : Nat) (ht : P.underlying t = some (.slice e)) (hi : P.info? e = some i) (hz : i.zero = some z)
    (hsize : i.size = size) (hby : i.bytes = bytes) (hzs : z.cells.size = size) (hsz : 0 < size)
    (sa : Option Addr) (n cap : Nat) (xs : List Value) (hs : a.eval s = .slice sa n cap) (hown : SliceIs w e size sa n cap xs)
    (ad : Addr) (m c : Nat) (news : List Value) (hx : a.eval x = .slice (some ad) m c) (hl : news.length = m * size) (hnews : ∀ j u, news[j]? = some u → w.cell? (ad.add j) = some u) (h1 : ∀ u ∈ news, u.oneCell' = true)
    (h63 : n + m ≤ maxLen) (hbytes : (n + m) * bytes ≤ 140737488355328)
    (h : ∀ s' cap' w', SliceIs w' e size s' (n + m) cap' (xs ++ news) → Upd w w' (blks sa) → (∀ k ∈ blks s', k ∈ blks sa ∨ w.heap.size ≤ k) → wpList P ops Q rest (a.put o.dst (.slice s' (n + m) cap')) w') : wpList P ops Q (o :: rest) a w :=
  wpList_plain hgd fun _ hK => wp_append_slice s x t ho e i z size bytes ht hi hz hsize hby hzs hsz sa n cap xs hs hown ad m c news hx hl hnews h1 h63 hbytes fun s' cap' w' h2 h3 h4 => hK _ _ (h s' cap' w' h2 h3 h4)
/-- The same, at an operation of a region that draws its order. -/
theorem step_append_slice {K : Act → World → Prop} {E : Prop} (hgd : o.guard = none) (s x : Operand) (t : TypeId)
    (ho : o.op = .call { callee := .builtin .append, args := #[s, x], argTypes := #[t, t] })
    (e : TypeId) (i : TypeInfo) (z : Value) (size bytes : Nat) (ht : P.underlying t = some (.slice e)) (hi : P.info? e = some i) (hz : i.zero = some z)
    (hsize : i.size = size) (hby : i.bytes = bytes) (hzs : z.cells.size = size) (hsz : 0 < size)
    (sa : Option Addr) (n cap : Nat) (xs : List Value) (hs : a.eval s = .slice sa n cap) (hown : SliceIs w e size sa n cap xs)
    (ad : Addr) (m c : Nat) (news : List Value) (hx : a.eval x = .slice (some ad) m c) (hl : news.length = m * size) (hnews : ∀ j u, news[j]? = some u → w.cell? (ad.add j) = some u) (h1 : ∀ u ∈ news, u.oneCell' = true)
    (h63 : n + m ≤ maxLen) (hbytes : (n + m) * bytes ≤ 140737488355328)
    (h : ∀ s' cap' w', SliceIs w' e size s' (n + m) cap' (xs ++ news) → Upd w w' (blks sa) → (∀ k ∈ blks s', k ∈ blks sa ∨ w.heap.size ≤ k) → K (a.put o.dst (.slice s' (n + m) cap')) w') :
    if Region.wanted o (yielded ops a.tmps) = true then Oper.wp P o a w K Q else E := by
  have hw : Region.wanted o (yielded ops a.tmps) = true := by simp [Region.wanted, hgd]
  rw [if_pos hw]
  exact wp_append_slice s x t ho e i z size bytes ht hi hz hsize hby hzs hsz sa n cap xs hs hown ad m c news hx hl hnews h1 h63 hbytes h
end
/-- The one element of a block of its own, as append's source. -/
theorem news_of {w : World} {g : Nat} {xs : List Value} (h : CellsAt w g 0 xs) : ∀ j u, xs[j]? = some u → w.cell? ((⟨g, 0, none⟩ : Addr).add j) = some u := by
  intro j u hj
  have hjl : j < xs.length := (List.getElem?_eq_some_iff.1 hj).1
  have := h.cell j hjl
  rw [Nat.zero_add] at this
  rw [List.getElem?_eq_getElem hjl] at hj
  rw [Addr.add_lit, Nat.zero_add, this]; exact hj
theorem news_at {w : World} {g p : Nat} {xs : List Value} (h : CellsAt w g p xs) : ∀ j u, xs[j]? = some u → w.cell? ((⟨g, p, none⟩ : Addr).add j) = some u := by
  intro j u hj
  have hjl : j < xs.length := (List.getElem?_eq_some_iff.1 hj).1
  rw [List.getElem?_eq_getElem hjl] at hj
  rw [Addr.add_lit, h.cell j hjl]; exact hj

/-- Fewer elements of a slice. -/
theorem SliceIs.take {w : World} {e : TypeId} {size : Nat} {a : Option Addr} {n cap : Nat} {xs : List Value} (h : SliceIs w e size a n cap xs) (i : Nat) (hi : i ≤ n) : SliceIs w e size a i cap (xs.take (i * size)) := by
  have hm : i * size ≤ n * size := Nat.mul_le_mul_right _ hi
  refine ⟨by rw [List.length_take, h.1, Nat.min_eq_left hm], ?_⟩
  rcases h.2 with ⟨rfl, rfl, rfl⟩ | ⟨g, off, cur, rfl, hg, r1, r2, r3, r4⟩
  · exact .inl ⟨rfl, by omega, rfl⟩
  · exact .inr ⟨g, off, cur, rfl, hg, by omega, r2, r3, by rw [← r4, List.take_take, Nat.min_eq_left hm]⟩
section
variable {P : Program} {w : World} {o : Oper} {a : Act} {Q : Exit → Act → World → Prop}
/-- 'append' where there is room. -/
theorem wp_append_fits {K : Act → World → Prop} (s x : Operand) (t : TypeId)
    (ho : o.op = .call { callee := .builtin .append, args := #[s, x], argTypes := #[t, t] })
    (e : TypeId) (i : TypeInfo) (size : Nat) (ht : P.underlying t = some (.slice e)) (hi : P.info? e = some i) (hsize : i.size = size)
    (g off n cap : Nat) (xs : List Value) (hs : a.eval s = .slice (some ⟨g, off, none⟩) n cap) (hown : SliceIs w e size (some ⟨g, off, none⟩) n cap xs)
    (ad : Addr) (m c : Nat) (news : List Value) (hx : a.eval x = .slice (some ad) m c) (hl : news.length = m * size) (hnews : ∀ j u, news[j]? = some u → w.cell? (ad.add j) = some u) (h1 : ∀ u ∈ news, u.oneCell' = true)
    (hroom : n + m ≤ cap) (N : Nat) (hN : n + m = N)
    (h : ∀ w', SliceIs w' e size (some ⟨g, off, none⟩) N cap (xs ++ news) → Upd w w' [g] → K (a.put o.dst (.slice (some ⟨g, off, none⟩) N cap)) w') : o.wp P a w K Q := by
  subst hN
  rcases hown.2 with ⟨h, _⟩ | ⟨g', off', cur, h', hg, hnc, hcm, hcs, htake⟩
  · cases h
  cases h'
  have hnm : n * size + news.length ≤ cap * size := by rw [hl, ← Nat.add_mul]; exact Nat.mul_le_mul_right _ hroom
  have hlx := hown.1
  subst hsize
  have hf := run_firstCells_some (P := P) w i.size m ad m c news hl hnews
  have hst := run_storeCells_at P g (off + n * i.size) e news 0 cur w hg (by omega) h1
  simp only [Nat.add_zero] at hst
  have hr : (Builtin.append_ #[t, t] o.type #[.slice (some ⟨g, off, none⟩) n cap, .slice (some ad) m c]).run P w = .ok (.slice (some ⟨g, off, none⟩) (n + m) cap) (w.setRow g (cur.toList.take (off + n * i.size) ++ news ++ cur.toList.drop (off + n * i.size + news.length)).toArray) := by
    simp [Builtin.append_, run_underlying ht, sizeOf, typeInfo, hi, Builtin.lenOf, hroom, hf, Addr.add_lit, hst]
  have hS : SliceIs (w.setRow g (cur.toList.take (off + n * i.size) ++ news ++ cur.toList.drop (off + n * i.size + news.length)).toArray) e i.size (some ⟨g, off, none⟩) (n + m) cap (xs ++ news) := by
    refine ⟨?_, .inr ⟨g, off, _, rfl, setRow_heap w g cur _ e _ hg, hroom, hcm, ?_, ?_⟩⟩
    · rw [List.length_append, hlx, hl, Nat.add_mul]
    · simp only [List.size_toArray, List.length_append, List.length_take, List.length_drop, Array.length_toList]
      omega
    · have := drop_take_splice cur.toList off xs news (by rw [hlx]; exact htake) (by rw [hlx]; simp; omega)
      rw [hlx] at this
      rw [Nat.add_mul, ← hl]
      simpa using this
  unfold Oper.wp execOp
  simp only [ho, resolve, invoke, builtin, Sem.run_bind, Sem.run_pure, Result.andThen_ok, List.map_toArray, List.map_cons, List.map_nil, hs, hx, hr]
  exact h _ hS ((Upd.refl w _).setRow (by simp) _)
theorem step_append_fits {ops : Array Oper} {K : Act → World → Prop} {E : Prop} (hgd : o.guard = none) (s x : Operand) (t : TypeId)
    (ho : o.op = .call { callee := .builtin .append, args := #[s, x], argTypes := #[t, t] })
    (e : TypeId) (i : TypeInfo) (size : Nat) (ht : P.underlying t = some (.slice e)) (hi : P.info? e = some i) (hsize : i.size = size)
    (g off n cap : Nat) (xs : List Value) (hs : a.eval s = .slice (some ⟨g, off, none⟩) n cap) (hown : SliceIs w e size (some ⟨g, off, none⟩) n cap xs)
    (ad : Addr) (m c : Nat) (news : List Value) (hx : a.eval x = .slice (some ad) m c) (hl : news.length = m * size) (hnews : ∀ j u, news[j]? = some u → w.cell? (ad.add j) = some u) (h1 : ∀ u ∈ news, u.oneCell' = true)
    (hroom : n + m ≤ cap) (N : Nat) (hN : n + m = N)
    (h : ∀ w', SliceIs w' e size (some ⟨g, off, none⟩) N cap (xs ++ news) → Upd w w' [g] → K (a.put o.dst (.slice (some ⟨g, off, none⟩) N cap)) w') :
    if Region.wanted o (yielded ops a.tmps) = true then Oper.wp P o a w K Q else E := by
  have hw : Region.wanted o (yielded ops a.tmps) = true := by simp [Region.wanted, hgd]
  rw [if_pos hw]
  exact wp_append_fits s x t ho e i size ht hi hsize g off n cap xs hs hown ad m c news hx hl hnews h1 hroom N hN h
/-- 'clear' of places behind the elements. -/
theorem wpList_clear_spare {ops : Array Oper} {rest : List Oper} (hgd : o.guard = none) (x : Operand) (t : TypeId) (ho : o.op = .call { callee := .builtin .clear, args := #[x], argTypes := #[t] })
    (e : TypeId) (i : TypeInfo) (z : Value) (size : Nat) (ht : P.underlying t = some (.slice e)) (hi : P.info? e = some i) (hz : i.zero = some z) (hsize : i.size = size) (hzs : z.cells.size = size) (hz1 : ∀ v ∈ z.cells.toList, v.oneCell' = true)
    (g off n cap m c : Nat) (xs : List Value) (p : Nat) (hx : a.eval x = .slice (some ⟨g, p, none⟩) m c) (hp : p = off + n * size) (hS : SliceIs w e size (some ⟨g, off, none⟩) n cap xs) (hm : n + m ≤ cap)
    (h : ∀ w', SliceIs w' e size (some ⟨g, off, none⟩) n cap xs → Upd w w' [g] → wpList P ops Q rest (a.put o.dst (.tuple #[])) w') : wpList P ops Q (o :: rest) a w := by
  refine wpList_plain hgd fun K hK => ?_
  subst hp
  rcases hS.2 with ⟨h, _⟩ | ⟨g', off', cur, h', hg, hnc, hcm, hcs, htake⟩
  · cases h
  cases h'
  have hsz : (Builtin.zeroCells z.cells m).size = m * size := by rw [size_zeroCells, hzs]
  have hone : ∀ v ∈ (Builtin.zeroCells z.cells m).toList, v.oneCell' = true := by
    intro v hv
    simp only [Builtin.zeroCells, Array.toList_map, List.mem_map] at hv
    obtain ⟨j, _, rfl⟩ := hv
    by_cases h0 : z.cells.size = 0
    · have : z.cells[j % z.cells.size]! = default := by simp [h0]
      rw [this]; rfl
    · have hlt : j % z.cells.size < z.cells.size := Nat.mod_lt _ (by omega)
      rw [getElem!_pos z.cells _ hlt]
      exact hz1 _ (by simp)
  have hnm : n * size + m * size ≤ cap * size := by rw [← Nat.add_mul]; exact Nat.mul_le_mul_right _ hm
  have hst := run_storeCells_at P g (off + n * size) e (Builtin.zeroCells z.cells m).toList 0 cur w hg (by simp [hsz]; omega) hone
  simp only [Nat.add_zero] at hst
  have hzv : (zeroValue e).run P w = .ok z w := by simp [zeroValue, typeInfo, hi, hz]
  have hr : (Builtin.clear_ #[t] o.type #[.slice (some ⟨g, off + n * size, none⟩) m c]).run P w = .ok (.tuple #[]) (w.setRow g (cur.toList.take (off + n * size) ++ (Builtin.zeroCells z.cells m).toList ++ cur.toList.drop (off + n * size + (Builtin.zeroCells z.cells m).toList.length)).toArray) := by
    cases m with
    | zero =>
      have e0 : (Builtin.zeroCells z.cells 0).toList = [] := by
        apply List.eq_nil_of_length_eq_zero; simp [size_zeroCells]
      simp [Builtin.clear_, run_underlying ht, e0]
      rw [setRow_self w g cur e (0, 0) hg]
    | succ m =>
      simp [Builtin.clear_, run_underlying ht, hzv]
      simp at hst
      rw [hst]; rfl
  unfold Oper.wp execOp
  simp only [ho, resolve, invoke, builtin, Sem.run_bind, Sem.run_pure, Result.andThen_ok, List.map_toArray, List.map_cons, List.map_nil, hx, hr]
  refine hK _ _ (h _ ⟨hS.1, .inr ⟨g, off, _, rfl, setRow_heap w g cur _ e _ hg, hnc, hcm, ?_, ?_⟩⟩ ((Upd.refl w _).setRow (by simp) _))
  · simp only [List.size_toArray, List.length_append, List.length_take, List.length_drop, Array.length_toList, hsz]
    omega
  · rw [List.append_assoc, List.drop_append_of_le_length (by simp; omega), List.take_append_of_le_length (by simp; omega), List.drop_take, List.take_take, show off + n * size - off = n * size from by omega, Nat.min_self]
    exact htake
end

/-! ### Parts of slices -/
/-- Where a part begins. -/
def cutAddr (a : Option Addr) (m l size : Nat) : Option Addr := if m = l then a else a.map (·.add (l * size))
theorem cutAddr_ne (g off m l size : Nat) (h : m ≠ l) : cutAddr (some ⟨g, off, none⟩) m l size = some ⟨g, off + l * size, none⟩ := by
  unfold cutAddr; rw [if_neg h]; simp [Addr.add_lit]
theorem cutAddr_zero (a : Option Addr) (m size : Nat) : cutAddr a m 0 size = a := by
  unfold cutAddr; split
  · rfl
  · cases a <;> simp [Addr.add_zero']
section
variable {P : Program} (w : World) {t e size : Nat} (ht : P.underlying t = some (.slice e)) (hs : ∀ w, (sizeOf e).run P w = .ok size w) (a : Option Addr) (len cap : Nat)
include ht hs
theorem run_cut_lh (l h : Nat) (i j : Int) (hi : i = l) (hj : j = h) (hl : l ≤ h) (hh : h ≤ cap) :
    (Instr.slice t (.slice a len cap) (some (.int .i64 i)) (some (.int .i64 j)) none).run P w = .ok (.slice (cutAddr a cap l size) (h - l) (cap - l)) w := by
  subst hi hj
  have he : P.elem t = e := by simp [Program.elem, ht]
  rw [run_slice_lh w t a len cap (by rw [he]; exact ht) .i64 .i64 l h (by omega) (by omega) (by omega), he, hs]
  rfl
theorem run_cut_h (h : Nat) (j : Int) (hj : j = h) (hh : h ≤ cap) :
    (Instr.slice t (.slice a len cap) none (some (.int .i64 j)) none).run P w = .ok (.slice a h cap) w := by
  subst hj
  have he : P.elem t = e := by simp [Program.elem, ht]
  rw [run_slice_h w t a len cap (by rw [he]; exact ht) .i64 h (by omega) (by omega), he, hs]
  have := cutAddr_zero a cap size
  unfold cutAddr at this
  simp only [Result.andThen_ok, sliced, this, Int.toNat_natCast, Nat.sub_zero]
theorem run_cut_l (l : Nat) (i : Int) (hi : i = l) (hl : l ≤ len) :
    (Instr.slice t (.slice a len cap) (some (.int .i64 i)) none none).run P w = .ok (.slice (cutAddr a cap l size) (len - l) (cap - l)) w := by
  subst hi
  have he : P.elem t = e := by simp [Program.elem, ht]
  rw [run_slice_l w t a len cap (by rw [he]; exact ht) .i64 l (by omega) (by omega), he, hs]
  rfl
theorem run_cut_lhm (l h m : Nat) (i j k : Int) (hi : i = l) (hj : j = h) (hk : k = m) (hl : l ≤ h) (hh : h ≤ m) (hm : m ≤ cap) :
    (Instr.slice t (.slice a len cap) (some (.int .i64 i)) (some (.int .i64 j)) (some (.int .i64 k))).run P w = .ok (.slice (cutAddr a m l size) (h - l) (m - l)) w := by
  subst hi hj hk
  have he : P.elem t = e := by simp [Program.elem, ht]
  rw [run_slice_lhm w t a len cap (by rw [he]; exact ht) .i64 .i64 .i64 l h m (by omega) (by omega) (by omega) (by omega), he, hs]
  rfl
end

/-- A slice in memory of the call's own comes out; what was there is as it was. -/
def SliceOut (w : World) (e : TypeId) (size n : Nat) (xs : List Value) (x : Ending) (w' : World) : Prop :=
  ∃ a cap, x = .returned (.slice a n cap) ∧ SliceIs w' e size a n cap xs ∧ Below w.heap.size w w' ∧ ∀ k ∈ blks a, w.heap.size ≤ k
/-- A slice comes out that lies where the old one lay, and only that row may have turned. -/
def SliceCut (w : World) (e : TypeId) (size : Nat) (a : Option Addr) (n cap : Nat) (xs : List Value) (x : Ending) (w' : World) : Prop :=
  x = .returned (.slice a n cap) ∧ SliceIs w' e size a n cap xs ∧ Upd w w' (blks a)

end Go.Proofs.YtjgnomjjphkfbaaGreat

/-
  SLICES THAT WERE HANDED IN, by their elements' cells: opened, kept, and out of slices that the call has made.
-/
namespace Go.Proofs.YtjgnomjjphkfbaaGreat
open Go.RowKit

/-- A slice, by its elements' cells. -/
def RowIs (w : World) (size : Nat) (a : Option Addr) (xs : List (List Value)) : Prop :=
  ∀ i (h : i < xs.length), ∃ g off, a = some ⟨g, off, none⟩ ∧ CellsAt w g (off + i * size) xs[i]
theorem RowIs.keep {w w' : World} {size : Nat} {a : Option Addr} {xs : List (List Value)} (h : RowIs w size a xs) (hb : Below w.heap.size w w') : RowIs w' size a xs := fun i hi => by
  obtain ⟨g, off, ha, hc⟩ := h i hi
  exact ⟨g, off, ha, hc.keep (hb.block g hc.lt)⟩
theorem RowIs.nil (w : World) (size : Nat) (a : Option Addr) : RowIs w size a [] := fun i hi => by simp at hi
theorem CellsAt.of_cells {w : World} {a : Addr} {n : Nat} {cs : List Value} {base : Nat} (h : w.cells? base a n = some cs) (hn : 0 < n) : a.spot = none ∧ CellsAt w a.block a.off cs := by
  obtain ⟨hb, hl, hc⟩ := World.cells?_some h
  have h0 := hc 0 hn
  rw [List.getElem?_eq_getElem (by omega)] at h0
  have ha : a.add 0 = a := by simp [Addr.add]
  rw [ha] at h0
  have hspot : a.spot = none := by
    unfold World.cell? at h0
    split at h0
    · cases hs : a.spot with
      | none => rfl
      | some s => rw [hs] at h0; simp at h0
    · cases h0
  obtain ⟨g, off, s⟩ := a
  simp only at hspot; subst hspot
  refine ⟨rfl, ?_⟩
  cases hg : w.heap[g]? with
  | none => unfold World.cell? at h0; rw [hg] at h0; cases h0
  | some o =>
    cases o with
    | cells c t fr =>
      have hat : ∀ i, i < n → c[off + i]? = cs[i]? := fun i hi => by
        have := hc i hi
        have e : (⟨g, off, none⟩ : Addr).add i = ⟨g, off + i, none⟩ := by unfold Addr.add; split <;> simp_all
        rw [e, cell_of_row w g _ c t fr hg] at this
        exact this
      have hlast := hat (n - 1) (by omega)
      rw [List.getElem?_eq_getElem (by omega)] at hlast
      have hlt := (Array.getElem?_eq_some_iff.1 hlast).1
      refine ⟨c, t, fr, hg, by simp only; omega, ?_⟩
      apply List.ext_getElem?
      intro i
      by_cases hi : i < cs.length
      · rw [List.getElem?_take_of_lt hi, List.getElem?_drop]
        simpa using hat i (by omega)
      · rw [List.getElem?_eq_none (by simp; omega), List.getElem?_eq_none (by omega)]
    | _ => unfold World.cell? at h0; rw [hg] at h0; cases h0
/-- The elements of a slice that the call has made, n cells each. -/
theorem SliceIs.rowIs {w : World} {e : TypeId} {size : Nat} {a : Option Addr} {n cap : Nat} {xs : List Value} (h : SliceIs w e size a n cap xs) (ys : List (List Value)) (hy : ∀ i (hi : i < ys.length), (xs.drop (i * size)).take size = ys[i]) (hn : ys.length ≤ n) : RowIs w size a ys := fun i hi => by
  obtain ⟨g, off, rfl⟩ := h.there (by omega)
  refine ⟨g, off, rfl, ?_⟩
  rw [← hy i hi]
  refine h.cells.sub (i * size) size ?_
  rw [h.1, ← Nat.succ_mul]
  exact Nat.mul_le_mul_right _ (by omega)
/-- A row of one-cell elements. -/
theorem SliceIs.rowIs1 {w : World} {e : TypeId} {a : Option Addr} {n cap : Nat} {xs : List Value} (h : SliceIs w e 1 a n cap xs) (hn : xs.length ≤ n) : RowIs w 1 a (xs.map fun x => [x]) := by
  refine h.rowIs _ (fun i hi => ?_) (by simpa using hn)
  have hi' : i < xs.length := by simpa using hi
  have e : (xs.drop i).take 1 = [xs[i]] := by rw [List.drop_eq_getElem_cons hi']; rfl
  simpa using e
theorem RowIs.cell1 {w : World} {a : Option Addr} {α : Type} {f : α → Value} {xs : List α} (h : RowIs w 1 a (xs.map fun x => [f x])) (i : Nat) (hi : i < xs.length) : ∃ g off, a = some ⟨g, off, none⟩ ∧ w.cell? ⟨g, off + i, none⟩ = some (f xs[i]) := by
  obtain ⟨g, off, ha, hc⟩ := h i (by simpa using hi)
  refine ⟨g, off, ha, ?_⟩
  have := hc.cell 0 (by simp)
  simpa using this

section
variable {H : Type} {enc : TypeId × Value → H} {w : World} {base : Nat} {spare : Nat → Bool} {held : Bool} {P : Program}
/-- A slice that was handed in, opened by a law of its elements. -/
theorem open_row {T E size : Nat} {α : Type} [Inhabited α] (f : α → List Value) (ok : α → Prop) (hu : P.underlying T = some (.slice E)) (hE : P.cellsOf E = size) (h0 : 0 < size)
    (open1 : ∀ (fuel : Nat) (cs : List Value) (x : DataW H × List MemPlace), DataW.trod enc P w base spare held fuel E cs = some x → ∃ c : α, ok c ∧ cs = f c)
    {fuel : Nat} {cs : List Value} {x : DataW H × List MemPlace} (h : DataW.trod enc P w base spare held fuel T cs = some x) :
    ∃ (a : Option Addr) (cap : Nat) (l : List α), cs = [.slice a l.length cap] ∧ (∀ c ∈ l, ok c) ∧ RowIs w size a (l.map f) ∧ l.length ≤ cap ∧ cap ≤ maxLen := by
  rcases Go.Deep.open_slice hu h with ⟨rfl, _⟩ | ⟨a, len, cap, m, n, D, Pl, rfl, hb, hl, hm, hmm, hx, hi⟩
  · exact ⟨none, 0, [], rfl, by simp, fun i hi => by simp at hi, by simp, by decide⟩
  · have hlm : len ≤ m := by rw [hmm]; split <;> omega
    have hspot : 0 < len → a.spot = none := fun h0' => by
      obtain ⟨cs', hc, ht⟩ := hi 0 (by omega)
      rw [hE] at hc
      rw [Nat.zero_mul] at hc
      have := (CellsAt.of_cells hc h0).1
      simpa [Addr.add] using this
    have : ∀ i, i < len → ∃ c : α, ok c ∧ a.spot = none ∧ CellsAt w a.block (a.off + i * size) (f c) := fun i hil => by
      obtain ⟨cs', hc, ht⟩ := hi i (by omega)
      obtain ⟨c, hok, rfl⟩ := open1 _ _ _ ht
      rw [hE] at hc
      obtain ⟨hs, hcells⟩ := CellsAt.of_cells hc h0
      refine ⟨c, hok, hspot (by omega), ?_⟩
      unfold Addr.add at hcells
      split at hcells
      · rename_i hz
        have hi0 : i = 0 := by
          rcases Nat.mul_eq_zero.1 hz with h | h
          · exact h
          · omega
        subst hi0
        simpa using hcells
      · exact hcells
    obtain ⟨fn, hf⟩ := Go.Deep.choose_lt (α := α) this
    refine ⟨some a, cap, (List.range len).map fn, by simp, ?_, ?_, by simpa using hl, hm⟩
    · intro c hc
      obtain ⟨i, hi, rfl⟩ := List.mem_map.1 hc
      exact (hf i (List.mem_range.1 hi)).1
    · intro i hi
      have hil : i < len := by simpa using hi
      obtain ⟨_, hs, hcl⟩ := hf i hil
      obtain ⟨g, off, s⟩ := a
      simp only at hs hcl
      subst hs
      exact ⟨g, off, rfl, by simpa using hcl⟩
end

end Go.Proofs.YtjgnomjjphkfbaaGreat

/-
  SLICES THAT WERE HANDED IN, WITH THE BOUNDS OF THEIR WEIGHTS.
-/
namespace Go.Proofs.YtjgnomjjphkfbaaGreat
open Go.RowKit

section
variable {H : Type} {enc : TypeId × Value → H} {w : World} {base : Nat} {spare : Nat → Bool} {held : Bool} {P : Program}
theorem weightsAll_in {e : TypeId} : ∀ {l : List (DataW H)} {d : DataW H}, d ∈ l → ∀ n ∈ d.weights P e, n ∈ DataW.weightsAll P e l
  | [], _, h, _, _ => by cases h
  | x :: r, d, h, n, hn => by
    simp only [DataW.weightsAll, List.mem_append]
    rcases List.mem_cons.1 h with rfl | h
    · exact Or.inl hn
    · exact Or.inr (weightsAll_in h n hn)
/-- A slice that was handed in, opened by a law of its elements that knows the element's weights to be bounded. -/
theorem open_row_sized {T E size : Nat} {α : Type} [Inhabited α] (f : α → List Value) (ok : α → Prop) (B : Nat) (hu : P.underlying T = some (.slice E)) (hE : P.cellsOf E = size) (h0 : 0 < size)
    (open1 : ∀ (fuel : Nat) (cs : List Value) (x : DataW H × List MemPlace), DataW.trod enc P w base spare held fuel E cs = some x → (∀ n ∈ x.1.weights P E, n ≤ B) → ∃ c : α, ok c ∧ cs = f c)
    {fuel : Nat} {cs : List Value} {x : DataW H × List MemPlace} (h : DataW.trod enc P w base spare held fuel T cs = some x) (hw : ∀ n ∈ x.1.weights P T, n ≤ B) :
    ∃ (a : Option Addr) (cap : Nat) (l : List α), cs = [.slice a l.length cap] ∧ (∀ c ∈ l, ok c) ∧ RowIs w size a (l.map f) ∧ l.length ≤ cap ∧ cap ≤ maxLen := by
  rcases Go.Deep.open_slice hu h with ⟨rfl, _⟩ | ⟨a, len, cap, m, n, D, Pl, rfl, hb, hl, hm, hmm, hx, hi⟩
  · exact ⟨none, 0, [], rfl, by simp, fun i hi => by simp at hi, by simp, by decide⟩
  · have hlm : len ≤ m := by rw [hmm]; split <;> omega
    have hspot : 0 < len → a.spot = none := fun h0' => by
      obtain ⟨cs', hc, ht⟩ := hi 0 (by omega)
      rw [hE] at hc
      rw [Nat.zero_mul] at hc
      have := (CellsAt.of_cells hc h0).1
      simpa [Addr.add] using this
    have : ∀ i, i < len → ∃ c : α, ok c ∧ a.spot = none ∧ CellsAt w a.block (a.off + i * size) (f c) := fun i hil => by
      obtain ⟨cs', hc, ht⟩ := hi i (by omega)
      obtain ⟨c, hok, rfl⟩ := open1 _ _ _ ht (fun k hk => hw k (by
        rw [hx]
        simp only [DataW.weights, hu]
        exact List.mem_cons_of_mem _ (List.mem_append_left _ (weightsAll_in (d := D i) (List.mem_map.2 ⟨i, List.mem_range.2 hil, rfl⟩) k hk))))
      rw [hE] at hc
      obtain ⟨hs, hcells⟩ := CellsAt.of_cells hc h0
      refine ⟨c, hok, hspot (by omega), ?_⟩
      unfold Addr.add at hcells
      split at hcells
      · rename_i hz
        have hi0 : i = 0 := by
          rcases Nat.mul_eq_zero.1 hz with h | h
          · exact h
          · omega
        subst hi0
        simpa using hcells
      · exact hcells
    obtain ⟨fn, hf⟩ := Go.Deep.choose_lt (α := α) this
    refine ⟨some a, cap, (List.range len).map fn, by simp, ?_, ?_, by simpa using hl, hm⟩
    · intro c hc
      obtain ⟨i, hi, rfl⟩ := List.mem_map.1 hc
      exact (hf i (List.mem_range.1 hi)).1
    · intro i hi
      have hil : i < len := by simpa using hi
      obtain ⟨_, hs, hcl⟩ := hf i hil
      obtain ⟨g, off, s⟩ := a
      simp only at hs hcl
      subst hs
      exact ⟨g, off, rfl, by simpa using hcl⟩
/-- The weights of one argument, out of the reach of all. -/
theorem weights_of {ts : List TypeId} {ds : List (DataW H)} (h : (DataW.weightsEach P ts ds).all (· ≤ reachBytes) = true) {j : Nat} {t : TypeId} {d : DataW H} (ht : ts[j]? = some t) (hd : ds[j]? = some d) :
    ∀ n ∈ d.weights P t, n ≤ 140737488351232 := fun n hn => by
  have := List.all_eq_true.1 h _ (DataW.weights_mem_each ht hd n hn)
  have e : reachBytes = 140737488351232 := rfl
  simpa [e] using this
/-- A text that was handed in as an element. -/
theorem open_text {T : Nat} (hu : P.underlying T = some .string) (fuel : Nat) (cs : List Value) (x : DataW H × List MemPlace) (h : DataW.trod enc P w base spare held fuel T cs = some x)
    (hw : ∀ n ∈ x.1.weights P T, n ≤ 140737488351232) : ∃ c : ByteArray, c.size ≤ 140737488351232 ∧ cs = [.string c] := by
  obtain ⟨s, rfl, hx, _⟩ := DataW.trod_string hu h
  refine ⟨s, ?_, rfl⟩
  have := hw s.size (by rw [hx]; simp [DataW.weights])
  exact this
end

end Go.Proofs.YtjgnomjjphkfbaaGreat

/-
  A WHOLE STRUCT LOADED IN A REGION THAT DRAWS ITS ORDER AND ONLY READS; slices by their elements; append under a name that the walk does not open.
-/
namespace Go.Proofs.YtjgnomjjphkfbaaGreat
open Go.RowKit

section
variable {P : Program}
/-- A whole struct loaded in a region that draws its order. -/
theorem wpQuiet_load_at {ops : Array Oper} {C : World → Prop} {rest : List Oper} {o : Oper} {a : Act} {Q : Act → Prop} (hgd : o.guard = none) (ty : TypeId) (x : Operand) (ho : o.op = .load ty x)
    (g p : Nat) (hx : a.eval x = .pointer (some ⟨g, p, none⟩)) (xs : List Value) (d : TypeDesc) (hc : ∀ w, C w → CellsAt w g p xs)
    (hu : P.underlying ty = some d) (hd : (match d with | .struct _ | .array _ _ => true | _ => false) = true) (hi : (P.info? ty).map (·.size) = some xs.length)
    (h : wpQuiet P ops C Q rest (a.put o.dst (.agg xs.toArray))) : wpQuiet P ops C Q (o :: rest) a := by
  refine wpQuiet_step fun K hK => ?_
  have hw : Region.wanted o (yielded ops a.tmps) = true := by unfold Region.wanted; rw [hgd]
  rw [if_pos hw]
  refine ⟨.agg xs.toArray, fun w hCw => ?_, hK _ h⟩
  obtain ⟨cs, t, fr, hg, hn, he⟩ := hc w hCw
  unfold Oper.quietAt execOp
  have hl := run_loadVar_agg (P := P) w g p xs.length t ty cs fr d hg hu hd hi hn
  rw [he] at hl
  simp only [ho, hx, Instr.loadAt, Instr.sureAddr, Sem.run_bind, Sem.run_pure, Result.andThen_ok, hl]
  exact ⟨rfl, rfl⟩
end

/-- The builtin append, under a name that the walk does not open: 'attribute [local go_sem ↓ high] appSem_eq', and what it comes to laid ahead of the walk. -/
def appSem (ats : Array TypeId) (ty : TypeId) (args : Array Value) : Sem Value := Builtin.append_ ats ty args
theorem appSem_eq (ats : Array TypeId) (ty : TypeId) (cs : Array Bool) (args : Array Value) : builtin .append ats ty cs args = (do pure (.value (← appSem ats ty args))) := rfl

end Go.Proofs.YtjgnomjjphkfbaaGreat

/-
  SLICES THAT WERE HANDED IN, WITH THE BOUNDS OF THEIR WEIGHTS AND OF THEIR LENGTHS; and copies of rows.
-/
namespace Go.Proofs.YtjgnomjjphkfbaaGreat
open Go.RowKit

section
variable {H : Type} {enc : TypeId × Value → H} {w : World} {base : Nat} {spare : Nat → Bool} {held : Bool} {P : Program}
/-- A slice that was handed in, opened by a law of its elements that knows the element's weights to be bounded. -/
theorem open_row_more {T E size : Nat} {α : Type} [Inhabited α] (f : α → List Value) (ok : α → Prop) (B : Nat) (hu : P.underlying T = some (.slice E)) (hE : P.cellsOf E = size) (h0 : 0 < size)
    (open1 : ∀ (fuel : Nat) (cs : List Value) (x : DataW H × List MemPlace), DataW.trod enc P w base spare held fuel E cs = some x → (∀ n ∈ x.1.weights P E, n ≤ B) → ∃ c : α, ok c ∧ cs = f c)
    {fuel : Nat} {cs : List Value} {x : DataW H × List MemPlace} (h : DataW.trod enc P w base spare held fuel T cs = some x) (hw : ∀ n ∈ x.1.weights P T, n ≤ B) :
    ∃ (a : Option Addr) (cap : Nat) (l : List α), cs = [.slice a l.length cap] ∧ (∀ c ∈ l, ok c) ∧ RowIs w size a (l.map f) ∧ l.length ≤ cap ∧ cap ≤ maxLen ∧ l.length * P.bytesOf E ≤ B ∧ (a = none → cap = 0) := by
  rcases Go.Deep.open_slice hu h with ⟨rfl, _⟩ | ⟨a, len, cap, m, n, D, Pl, rfl, hb, hl, hm, hmm, hx, hi⟩
  · exact ⟨none, 0, [], rfl, by simp, fun i hi => by simp at hi, by simp, by decide, by simp, fun _ => rfl⟩
  · have hlm : len ≤ m := by rw [hmm]; split <;> omega
    have hspot : 0 < len → a.spot = none := fun h0' => by
      obtain ⟨cs', hc, ht⟩ := hi 0 (by omega)
      rw [hE] at hc
      rw [Nat.zero_mul] at hc
      have := (CellsAt.of_cells hc h0).1
      simpa [Addr.add] using this
    have : ∀ i, i < len → ∃ c : α, ok c ∧ a.spot = none ∧ CellsAt w a.block (a.off + i * size) (f c) := fun i hil => by
      obtain ⟨cs', hc, ht⟩ := hi i (by omega)
      obtain ⟨c, hok, rfl⟩ := open1 _ _ _ ht (fun k hk => hw k (by
        rw [hx]
        simp only [DataW.weights, hu]
        exact List.mem_cons_of_mem _ (List.mem_append_left _ (weightsAll_in (d := D i) (List.mem_map.2 ⟨i, List.mem_range.2 hil, rfl⟩) k hk))))
      rw [hE] at hc
      obtain ⟨hs, hcells⟩ := CellsAt.of_cells hc h0
      refine ⟨c, hok, hspot (by omega), ?_⟩
      unfold Addr.add at hcells
      split at hcells
      · rename_i hz
        have hi0 : i = 0 := by
          rcases Nat.mul_eq_zero.1 hz with h | h
          · exact h
          · omega
        subst hi0
        simpa using hcells
      · exact hcells
    obtain ⟨fn, hf⟩ := Go.Deep.choose_lt (α := α) this
    refine ⟨some a, cap, (List.range len).map fn, by simp, ?_, ?_, by simpa using hl, hm, ?_, fun h => by cases h⟩
    · intro c hc
      obtain ⟨i, hi, rfl⟩ := List.mem_map.1 hc
      exact (hf i (List.mem_range.1 hi)).1
    · intro i hi
      have hil : i < len := by simpa using hi
      obtain ⟨_, hs, hcl⟩ := hf i hil
      obtain ⟨g, off, s⟩ := a
      simp only at hs hcl
      subst hs
      exact ⟨g, off, rfl, by simpa using hcl⟩
    · have := hw ((len + (m - len)) * P.bytesOf E) (by
        rw [hx]
        simp only [DataW.weights, hu]
        simp)
      refine Nat.le_trans ?_ this
      simp only [List.length_map, List.length_range]
      exact Nat.mul_le_mul_right _ (by omega)
end

section
variable {P : Program}
/-- 'append([]T{}, x...)' of a row. -/
theorem copy_run {T E : TypeId} {i : TypeInfo} {z : Value} {bytes : Nat} (ht : P.underlying T = some (.slice E)) (hi : P.info? E = some i) (hz : i.zero = some z) (hsize : i.size = 1) (hby : i.bytes = bytes) (hzs : z.cells.size = 1)
    (w : World) (a : Option Addr) (cap : Nat) (xs : List Value) (h : RowIs w 1 a (xs.map fun v => [v])) (h1 : ∀ u ∈ xs, u.oneCell' = true) (hn : xs.length ≤ 1073741824) (hb : bytes ≤ 16) (hnil : a = none → cap = 0) :
    ∃ s' cap' w', (appSem #[T, T] T #[.slice (some ⟨w.heap.size, 0, none⟩) 0 0, .slice a xs.length cap]).run P (w.alloc (.cells #[] E (0, 0))) = .ok (.slice s' xs.length cap') w' ∧ RowIs w' 1 s' (xs.map fun v => [v]) ∧ Own w.heap.size w w' := by
  have hS : SliceIs (w.alloc (.cells #[] E (0, 0))) E 1 (some ⟨w.heap.size, 0, none⟩) 0 0 [] := ⟨by simp, .inr ⟨w.heap.size, 0, #[], rfl, heap_alloc_new w _, Nat.le_refl _, by decide, by simp, by simp⟩⟩
  cases a with
  | none =>
    have hx : xs = [] := by
      cases xs with
      | nil => rfl
      | cons v r => obtain ⟨g, off, e, _⟩ := h 0 (by simp); cases e
    subst hx
    obtain rfl : cap = 0 := hnil rfl
    exact ⟨some ⟨w.heap.size, 0, none⟩, 0, _, run_append_slice_none _ T T E i ht hi _ 0 0 (Nat.le_refl _), RowIs.nil _ _ _, (Own.refl w).alloc _⟩
  | some ad =>
    have hbl : xs.length * bytes ≤ xs.length * 16 := Nat.mul_le_mul_left _ hb
    obtain ⟨s', cap', w', hr, hs, hu, hk⟩ := run_append_slice (P := P) (w.alloc (.cells #[] E (0, 0))) T T E i z 1 bytes ht hi hz hsize hby hzs (by decide) (some ⟨w.heap.size, 0, none⟩) 0 0 [] hS ad xs.length cap xs (by simp)
      (by
        intro j u hj
        obtain ⟨hj', e⟩ := List.getElem?_eq_some_iff.1 hj
        obtain ⟨g, off, e2, hc⟩ := h j (by simpa using hj')
        cases e2
        have := hc.cell 0 (by simp)
        have hlt := hc.lt
        rw [show (⟨g, off, none⟩ : Addr).add j = ⟨g, off + j, none⟩ from by unfold Addr.add; split <;> simp_all]
        rw [World.cell?_of_block (w := w) (Below.heap_alloc _ _ _ hlt)]
        simp at this
        rw [this, ← e]) h1 (by unfold maxLen; omega) (by rw [Nat.zero_add]; omega)
    rw [Nat.zero_add] at hr hs
    refine ⟨s', cap', w', hr, ?_, ((Own.refl w).alloc _).upd hu (by simp)⟩
    have := hs.rowIs1 (by simp)
    simpa using this
end

end Go.Proofs.YtjgnomjjphkfbaaGreat

/-
  ROWS OF ELEMENTS OF SEVERAL CELLS EACH: appended, copied, cut, stored into.
-/
namespace Go.Proofs.YtjgnomjjphkfbaaGreat
open Go.RowKit

theorem flat_get (size : Nat) (h0 : 0 < size) : ∀ (xs : List (List Value)) (_ : ∀ x ∈ xs, x.length = size) (j : Nat) (u : Value), xs.flatten[j]? = some u → ∃ (h : j / size < xs.length), xs[j / size][j % size]? = some u
  | [], _, j, u, h => by simp at h
  | x :: r, hs, j, u, h => by
    have hx := hs x (by simp)
    rw [List.flatten_cons] at h
    by_cases hj : j < size
    · rw [List.getElem?_append_left (by omega)] at h
      refine ⟨by rw [Nat.div_eq_of_lt hj]; simp, ?_⟩
      simp only [Nat.div_eq_of_lt hj, Nat.mod_eq_of_lt hj, List.getElem_cons_zero]
      exact h
    · rw [List.getElem?_append_right (by omega), hx] at h
      obtain ⟨h1, h2⟩ := flat_get size h0 r (fun y hy => hs y (by simp [hy])) (j - size) u h
      have e1 : j / size = (j - size) / size + 1 := by
        rw [Nat.div_eq_sub_div h0 (by omega)]
      have e2 : j % size = (j - size) % size := Nat.mod_eq_sub_mod (by omega)
      refine ⟨by rw [e1]; simpa using h1, ?_⟩
      simp only [e1, e2, List.getElem_cons_succ]
      exact h2
theorem flat_length (size : Nat) : ∀ (xs : List (List Value)) (_ : ∀ x ∈ xs, x.length = size), xs.flatten.length = xs.length * size
  | [], _ => by simp
  | x :: r, hs => by
    rw [List.flatten_cons, List.length_append, hs x (by simp), flat_length size r (fun y hy => hs y (by simp [hy])), List.length_cons, Nat.succ_mul]; omega
theorem flat_drop (size : Nat) : ∀ (xs : List (List Value)) (_ : ∀ x ∈ xs, x.length = size) (i : Nat), xs.flatten.drop (i * size) = (xs.drop i).flatten
  | xs, _, 0 => by simp
  | [], _, i + 1 => by simp
  | x :: r, hs, i + 1 => by
    have hx := hs x (by simp)
    rw [List.flatten_cons, List.drop_succ_cons, Nat.succ_mul, Nat.add_comm, ← List.drop_drop, List.drop_append_of_le_length (by omega), List.drop_of_length_le (l := x) (by omega), List.nil_append]
    exact flat_drop size r (fun y hy => hs y (by simp [hy])) i
theorem flat_take (size : Nat) : ∀ (xs : List (List Value)) (_ : ∀ x ∈ xs, x.length = size) (i : Nat), xs.flatten.take (i * size) = (xs.take i).flatten
  | xs, _, 0 => by simp
  | [], _, i + 1 => by simp
  | x :: r, hs, i + 1 => by
    have hx := hs x (by simp)
    rw [List.flatten_cons, List.take_succ_cons, List.flatten_cons, Nat.succ_mul, List.take_append, List.take_of_length_le (by omega), hx, Nat.add_sub_cancel]
    rw [flat_take size r (fun y hy => hs y (by simp [hy])) i]
theorem flat_one (size : Nat) (xs : List (List Value)) (hs : ∀ x ∈ xs, x.length = size) (i : Nat) (h : i < xs.length) : (xs.flatten.drop (i * size)).take size = xs[i] := by
  rw [flat_drop size xs hs i]
  have := flat_take size (xs.drop i) (fun x hx => hs x (List.mem_of_mem_drop hx)) 1
  rw [Nat.one_mul] at this
  rw [this, List.drop_eq_getElem_cons h, List.take_succ_cons, List.take_zero, List.flatten_cons, List.flatten_nil, List.append_nil]
/-- The cells of a row's elements, one behind the other. -/
theorem RowIs.news {w : World} {size : Nat} (h0 : 0 < size) {ad : Addr} {xs : List (List Value)} (h : RowIs w size (some ad) xs) (hs : ∀ x ∈ xs, x.length = size) :
    ∀ j u, xs.flatten[j]? = some u → w.cell? (ad.add j) = some u := by
  intro j u hj
  obtain ⟨h1, h2⟩ := flat_get size h0 xs hs j u hj
  obtain ⟨g, off, e, hc⟩ := h (j / size) h1
  cases e
  obtain ⟨h3, h4⟩ := List.getElem?_eq_some_iff.1 h2
  have := hc.cell (j % size) h3
  rw [h4] at this
  rw [Addr.add_lit]
  rw [show off + j = off + j / size * size + j % size from by have := Nat.div_add_mod j size; rw [Nat.mul_comm] at this; omega]
  exact this
theorem SliceIs.rowF {w : World} {e : TypeId} {size : Nat} {a : Option Addr} {n cap : Nat} {xs : List (List Value)} (h : SliceIs w e size a n cap xs.flatten) (hs : ∀ x ∈ xs, x.length = size) (hn : n = xs.length) : RowIs w size a xs :=
  h.rowIs xs (fun i hi => flat_one size xs hs i hi) (by omega)
/-- A slice's end. -/
theorem SliceIs.drop {w : World} {e : TypeId} {size : Nat} {g off n cap : Nat} {xs : List Value} (h : SliceIs w e size (some ⟨g, off, none⟩) n cap xs) (i : Nat) (hi : i ≤ n) :
    SliceIs w e size (some ⟨g, off + i * size, none⟩) (n - i) (cap - i) (xs.drop (i * size)) := by
  rcases h.2 with ⟨h', _⟩ | ⟨g', off', cur, h', hg, r1, r2, r3, r4⟩
  · cases h'
  cases h'
  have h1 := h.1
  refine ⟨by rw [List.length_drop, h1, ← Nat.sub_mul], .inr ⟨g, off + i * size, cur, rfl, hg, by omega, by omega, ?_, ?_⟩⟩
  · have : (cap - i) * size + i * size = cap * size := by rw [← Nat.add_mul]; congr 1; omega
    omega
  · rw [← r4, List.drop_take, List.drop_drop, ← Nat.sub_mul]
/-- A slice of a new block of its own, all of it. -/
theorem SliceIs.new (w : World) (e : TypeId) (size n : Nat) (xs : List Value) (hl : xs.length = n * size) (hn : n ≤ maxLen) : SliceIs (w.alloc (.cells xs.toArray e (0, 0))) e size (some ⟨w.heap.size, 0, none⟩) n n xs :=
  ⟨hl, .inr ⟨w.heap.size, 0, xs.toArray, rfl, heap_alloc_new w _, Nat.le_refl _, hn, by simp [hl], by rw [← hl]; simp⟩⟩

section
variable {P : Program}
/-- 'append(s, x...)' of a row. -/
theorem append_row {T E : TypeId} {i : TypeInfo} {z : Value} {size bytes : Nat} (ht : P.underlying T = some (.slice E)) (hi : P.info? E = some i) (hz : i.zero = some z) (hsize : i.size = size) (hby : i.bytes = bytes) (hzs : z.cells.size = size) (hsz : 0 < size)
    (w : World) (sa : Option Addr) (n cap0 : Nat) (xs0 : List Value) (hS : SliceIs w E size sa n cap0 xs0)
    (a : Option Addr) (cap : Nat) (xs : List (List Value)) (h : RowIs w size a xs) (hs : ∀ x ∈ xs, x.length = size) (h1 : ∀ x ∈ xs, ∀ u ∈ x, u.oneCell' = true) (hn : n + xs.length ≤ 1073741824) (hb : bytes ≤ 256) (hnil : a = none → cap = 0) :
    ∃ s' cap' w', (appSem #[T, T] T #[.slice sa n cap0, .slice a xs.length cap]).run P w = .ok (.slice s' (n + xs.length) cap') w' ∧ SliceIs w' E size s' (n + xs.length) cap' (xs0 ++ xs.flatten) ∧ Upd w w' (blks sa) ∧ (∀ k ∈ blks s', k ∈ blks sa ∨ w.heap.size ≤ k) := by
  cases a with
  | none =>
    have hx : xs = [] := by
      cases xs with
      | nil => rfl
      | cons v r => obtain ⟨g, off, e, _⟩ := h 0 (by simp); cases e
    subst hx
    obtain rfl : cap = 0 := hnil rfl
    exact ⟨sa, cap0, w, run_append_slice_none _ T T E i ht hi _ n cap0 hS.bound.1, by simpa using hS, Upd.refl _ _, fun k hk => .inl hk⟩
  | some ad =>
    have hbl : (n + xs.length) * bytes ≤ (n + xs.length) * 256 := Nat.mul_le_mul_left _ hb
    exact run_append_slice (P := P) w T T E i z size bytes ht hi hz hsize hby hzs hsz sa n cap0 xs0 hS ad xs.length cap xs.flatten (flat_length size xs hs) (h.news hsz hs) (by
      intro u hu
      obtain ⟨x, hx, hu⟩ := List.mem_flatten.1 hu
      exact h1 x hx u hu) (by unfold maxLen; omega) (by omega)
/-- What an append of a row comes to. -/
def Appd (P : Program) (T E : TypeId) (size : Nat) (w : World) (sa : Option Addr) (n cap0 : Nat) (xs0 : List Value) (a : Option Addr) (cap : Nat) (xs : List (List Value)) (s' : Option Addr) (cap' : Nat) (w' : World) : Prop :=
  (appSem #[T, T] T #[.slice sa n cap0, .slice a xs.length cap]).run P w = .ok (.slice s' (n + xs.length) cap') w' ∧ SliceIs w' E size s' (n + xs.length) cap' (xs0 ++ xs.flatten) ∧ Upd w w' (blks sa) ∧ (∀ k ∈ blks s', k ∈ blks sa ∨ w.heap.size ≤ k)
end

end Go.Proofs.YtjgnomjjphkfbaaGreat

/-
  LISTS OF ONE'S OWN: slices that a call has made, whose blocks stand apart; what an append, or a cut, makes of them.
-/
namespace Go.Proofs.YtjgnomjjphkfbaaGreat
open Go.RowKit

/-- A slice of a call's own, element by element. -/
structure OL (w W : World) (E : TypeId) (size : Nat) (s : Option Addr) (cap : Nat) (xs : List (List Value)) : Prop where
  sl : SliceIs W E size s xs.length cap xs.flatten
  far : ∀ k ∈ blks s, w.heap.size ≤ k
  all : ∀ x ∈ xs, x.length = size
/-- Two slices whose blocks stand apart. -/
def Apart (a b : Option Addr) : Prop := ∀ k ∈ blks a, k ∉ blks b
theorem Apart.symm {a b : Option Addr} (h : Apart a b) : Apart b a := fun k hb ha => h k ha hb
theorem Apart.none (b : Option Addr) : Apart none b := fun k h => by simp at h
/-- What an append to s leaves: all blocks but those of s; and it lies where s lay, or in new memory. -/
structure Keeps (W W2 : World) (s s' : Option Addr) : Prop where
  upd : Upd W W2 (blks s)
  new : ∀ k ∈ blks s', k ∈ blks s ∨ W.heap.size ≤ k
section
variable {w W W2 : World} {E : TypeId} {size : Nat} {s s' t : Option Addr} {cap : Nat} {xs : List (List Value)}
theorem OL.nil (w W : World) (E : TypeId) (size : Nat) : OL w W E size none 0 [] := ⟨SliceIs.nil _ _ _, by simp, by simp⟩
theorem OL.row (h : OL w W E size s cap xs) : RowIs W size s xs := h.sl.rowF h.all rfl
theorem OL.keep (h : OL w W E size s cap xs) (hb : Below W.heap.size W W2) : OL w W2 E size s cap xs :=
  ⟨h.sl.keep fun k hk => hb.block k (h.sl.lt k hk), h.far, h.all⟩
theorem OL.other (h : OL w W E size t cap xs) (k : Keeps W W2 s s') (ha : Apart s t) : OL w W2 E size t cap xs ∧ Apart s' t :=
  ⟨⟨h.sl.keep fun b hb => k.upd.keep b (h.sl.lt b hb) (fun hs => ha b hs hb), h.far, h.all⟩, fun b hb hbt => by
    rcases k.new b hb with h1 | h1
    · exact ha b h1 hbt
    · have := h.sl.lt b hbt; omega⟩
theorem Keeps.trans {W3 : World} {s'' : Option Addr} (h : Keeps W W2 s s') (k : Keeps W2 W3 s' s'') : Keeps W W3 s s'' :=
  ⟨h.upd.trans k.upd h.new, fun b hb => by
    rcases k.new b hb with h1 | h1
    · exact h.new b h1
    · have := h.upd.size; exact .inr (by omega)⟩
theorem Keeps.own (h : Keeps W W2 s s') (hs : ∀ k ∈ blks s, w.heap.size ≤ k) (hO : Own w.heap.size w W) : Own w.heap.size w W2 := hO.upd h.upd hs
theorem Keeps.far (h : Keeps W W2 s s') (hs : ∀ k ∈ blks s, w.heap.size ≤ k) (hO : w.heap.size ≤ W.heap.size) : ∀ k ∈ blks s', w.heap.size ≤ k := fun k hk => by
  rcases h.new k hk with h1 | h1
  · exact hs k h1
  · omega
end

section
variable {P : Program}
/-- 'append(s, x)': x lies in a new row of its own. -/
theorem ol_push {T E : TypeId} {i : TypeInfo} {z : Value} {size bytes : Nat} (ht : P.underlying T = some (.slice E)) (hi : P.info? E = some i) (hz : i.zero = some z) (hsize : i.size = size) (hby : i.bytes = bytes) (hzs : z.cells.size = size) (hsz : 0 < size) (hb : bytes ≤ 256)
    {w W : World} (hO : Own w.heap.size w W) {s : Option Addr} {cap : Nat} {xs : List (List Value)} (h : OL w W E size s cap xs) (x : List Value) (hx : x.length = size) (h1 : ∀ u ∈ x, u.oneCell' = true) (hn : xs.length ≤ 100000) :
    ∃ s' cap' W2, (appSem #[T, T] T #[.slice s xs.length cap, .slice (some ⟨W.heap.size, 0, none⟩) 1 1]).run P (W.alloc (.cells x.toArray E (0, 0))) = .ok (.slice s' (xs.length + 1) cap') W2 ∧
      OL w W2 E size s' cap' (xs ++ [x]) ∧ Own w.heap.size w W2 ∧ Keeps W W2 s s' := by
  have hfl : [x].flatten = x := by simp
  have hrow : RowIs (W.alloc (.cells x.toArray E (0, 0))) size (some ⟨W.heap.size, 0, none⟩) [x] := by
    have hS := SliceIs.new W E size 1 x (by omega) (by decide)
    rw [← hfl] at hS
    rw [hfl] at hS
    exact SliceIs.rowF (xs := [x]) (by rw [hfl]; exact hS) (by simpa using hx) rfl
  obtain ⟨s', cap', W2, hr, hS, hU, hB⟩ := append_row (P := P) ht hi hz hsize hby hzs hsz (W.alloc (.cells x.toArray E (0, 0))) s xs.length cap xs.flatten (h.sl.alloc _) (some ⟨W.heap.size, 0, none⟩) 1 [x] hrow (by simpa using hx) (by simpa using h1) (by simp; omega) hb (by simp)
  have K : Keeps W W2 s s' := ⟨(((Upd.refl W (blks s)).alloc _).trans hU (fun x hx => .inl hx)), fun k hk => by
    rcases hB k hk with h2 | h2
    · exact .inl h2
    · simp at h2; exact .inr (by omega)⟩
  refine ⟨s', cap', W2, hr, ⟨?_, K.far h.far hO.size, ?_⟩, K.own h.far hO, K⟩
  · rw [List.length_append, List.flatten_append]; exact hS
  · intro y hy
    rcases List.mem_append.1 hy with hy | hy
    · exact h.all y hy
    · simp at hy; rw [hy]; exact hx
/-- 'append(append([]E{}, s[:k]...), s[k+1:]...)'. -/
theorem ol_cut {T E : TypeId} {i : TypeInfo} {z : Value} {size bytes : Nat} (ht : P.underlying T = some (.slice E)) (hi : P.info? E = some i) (hz : i.zero = some z) (hsize : i.size = size) (hby : i.bytes = bytes) (hzs : z.cells.size = size) (hsz : 0 < size) (hb : bytes ≤ 256)
    {w W : World} (hO : Own w.heap.size w W) {g off cap : Nat} {xs : List (List Value)} (h : OL w W E size (some ⟨g, off, none⟩) cap xs) (h1 : ∀ x ∈ xs, ∀ u ∈ x, u.oneCell' = true) (hn : xs.length ≤ 100000) (k : Nat) (hk : k < xs.length) (A : Option Addr) (hA : (if cap = k + 1 then some (⟨g, off, none⟩ : Addr) else some ⟨g, off + (k + 1) * size, none⟩) = A) :
    ∃ s1 c1 W1 s2 c2 W2, (appSem #[T, T] T #[.slice (some ⟨W.heap.size, 0, none⟩) 0 0, .slice (some ⟨g, off, none⟩) k cap]).run P (W.alloc (.cells #[] E (0, 0))) = .ok (.slice s1 k c1) W1 ∧
      (appSem #[T, T] T #[.slice s1 k c1, .slice A (xs.length - (k + 1)) (cap - (k + 1))]).run P W1 = .ok (.slice s2 (xs.length - 1) c2) W2 ∧
      OL w W2 E size s2 c2 (xs.take k ++ xs.drop (k + 1)) ∧ Own w.heap.size w W2 ∧ Keeps W W2 none s2 := by
  have hSE : SliceIs (W.alloc (.cells #[] E (0, 0))) E size (some ⟨W.heap.size, 0, none⟩) 0 0 [] := ⟨by simp, .inr ⟨W.heap.size, 0, #[], rfl, heap_alloc_new W _, Nat.le_refl _, by decide, by simp, by simp⟩⟩
  have hbw := ((Own.refl W).alloc (.cells #[] E (0, 0))).below
  have hlen : (xs.take k).length = k := by simp; omega
  have hrow1 : RowIs (W.alloc (.cells #[] E (0, 0))) size (some ⟨g, off, none⟩) (xs.take k) := fun j hj => by
    have hj' : j < xs.length := by simp at hj; omega
    obtain ⟨g', off', ha, hc⟩ := h.row.keep hbw j hj'
    exact ⟨g', off', ha, by simpa using hc⟩
  obtain ⟨s1, c1, W1, hr1, hS1, hU1, hB1⟩ := append_row (P := P) ht hi hz hsize hby hzs hsz (W.alloc (.cells #[] E (0, 0))) (some ⟨W.heap.size, 0, none⟩) 0 0 [] hSE (some ⟨g, off, none⟩) cap (xs.take k) hrow1 (fun x hx => h.all x (List.mem_of_mem_take hx)) (fun x hx => h1 x (List.mem_of_mem_take hx)) (by rw [hlen]; omega) hb (by simp)
  rw [Nat.zero_add, hlen] at hr1 hS1
  rw [List.nil_append] at hS1
  have hgW : g < W.heap.size := h.sl.lt g (by simp)
  have K1 : Keeps W W1 none s1 := by
    refine ⟨?_, fun b hb => ?_⟩
    · exact ((Upd.refl W []).alloc (.cells #[] E (0, 0))).trans hU1 (fun x hx => by simp at hx; exact .inr (by omega))
    · rcases hB1 b hb with h2 | h2
      · simp at h2; exact .inr (by omega)
      · simp at h2; exact .inr (by omega)
  obtain ⟨h2, _⟩ := h.other K1 (Apart.none _)
  have hlen2 : (xs.drop (k + 1)).length = xs.length - (k + 1) := by simp
  have hrow2 : RowIs W1 size A (xs.drop (k + 1)) := by
    have hcap := h2.sl.bound.1
    by_cases hc : cap = k + 1
    · rw [List.drop_eq_nil_of_le (by omega)]; exact RowIs.nil _ _ _
    rw [if_neg hc] at hA
    subst hA
    have hd := h2.sl.drop (k + 1) (by omega)
    rw [flat_drop size xs h.all] at hd
    exact hd.rowF (fun x hx => h.all x (List.mem_of_mem_drop hx)) hlen2.symm
  obtain ⟨s2, c2, W2, hr2, hS2, hU2, hB2⟩ := append_row (P := P) ht hi hz hsize hby hzs hsz W1 s1 k c1 (xs.take k).flatten hS1 A (cap - (k + 1)) (xs.drop (k + 1)) hrow2 (fun x hx => h.all x (List.mem_of_mem_drop hx)) (fun x hx => h1 x (List.mem_of_mem_drop hx)) (by rw [hlen2]; omega) hb (fun e => by rw [e] at hA; split at hA <;> cases hA)
  rw [hlen2, show k + (xs.length - (k + 1)) = xs.length - 1 by omega] at hr2 hS2
  have K := K1.trans ⟨hU2, hB2⟩
  refine ⟨s1, c1, W1, s2, c2, W2, hr1, hr2, ⟨?_, K.far (by simp) hO.size, ?_⟩, K.own (by simp) hO, K⟩
  · rw [List.length_append, List.flatten_append, hlen, hlen2, show k + (xs.length - (k + 1)) = xs.length - 1 by omega]; exact hS2
  · intro x hx
    rcases List.mem_append.1 hx with hx | hx
    · exact h.all x (List.mem_of_mem_take hx)
    · exact h.all x (List.mem_of_mem_drop hx)
end

end Go.Proofs.YtjgnomjjphkfbaaGreat

/-
  WORDS FOR BYTES IN MEMORY: a row of bytes with spare room behind it, written byte by byte, and made a text.
-/
namespace Go.Proofs.YtjgnomjjphkfbaaGreat
open Go.RowKit

def by8 (b : UInt8) : Int := b.toNat
theorem by8_lt (b : UInt8) : 0 ≤ by8 b ∧ by8 b < 256 := by unfold by8; have := b.toNat_lt; omega
theorem by8_inj {a b : UInt8} (h : by8 a = by8 b) : a = b := by unfold by8 at h; exact UInt8.toNat_inj.1 (by omega)
theorem wrap8_bv (x : BitVec 8) : IntKind.u8.wrap (x.toNat : Int) = by8 ⟨x⟩ := by
  rw [IntKind.wrap_u8]; have := x.isLt; show _ = (x.toNat : Int); omega
@[go_sem] theorem xor8 (a b : UInt8) : Go.bits .xor .u8 (by8 a) (by8 b) = by8 (a ^^^ b) := by
  have e : Go.bits .xor .u8 (by8 a) (by8 b) = IntKind.u8.wrap ((BitVec.ofInt 8 (by8 a) ^^^ BitVec.ofInt 8 (by8 b)).toNat : Int) := rfl
  have f : ∀ b : UInt8, BitVec.ofInt 8 (by8 b) = b.toBitVec := by
    intro b; unfold by8; apply BitVec.eq_of_toNat_eq; rw [BitVec.toNat_ofInt]; have := b.toNat_lt; show _ = b.toNat; omega
  rw [e, f, f, wrap8_bv]; rfl
@[go_sem] theorem xor8a (a b : UInt8) : Go.bits .xor .u8 (a.toNat : Int) (b.toNat : Int) = by8 (a ^^^ b) := xor8 a b
@[go_sem] theorem xor8b (a b : UInt8) : Go.bits .xor .u8 (by8 a) (b.toNat : Int) = by8 (a ^^^ b) := xor8 a b
@[go_sem] theorem shl8 (m : Nat) : IntKind.u8.wrap ((2 : Int) ^ (m % 8)) = by8 (1 <<< UInt8.ofNat (m % 8)) := by
  have : ∀ r, r < 8 → IntKind.u8.wrap ((2 : Int) ^ r) = by8 (1 <<< UInt8.ofNat r) := by decide
  exact this _ (Nat.mod_lt _ (by decide))

@[go_sem] theorem shl8' (m : Nat) : (2 : Int) ^ (m % 8) % (256 : Int) = by8 (1 <<< UInt8.ofNat (m % 8)) := by
  rw [← shl8, IntKind.wrap_u8]

/-- Bytes, as a row's cells, with room up to 'cap'. -/
def byteRow (l : List UInt8) (cap : Nat) : Array Value := (l.map fun b => Value.int .u8 (by8 b)).toArray ++ Array.replicate (cap - l.length) (.int .u8 0)
theorem byteRow_size (l : List UInt8) (cap : Nat) (h : l.length ≤ cap) : (byteRow l cap).size = cap := by simp [byteRow]; omega
theorem byteRow_get (l : List UInt8) (cap j : Nat) (h : j < l.length) : (byteRow l cap)[j]? = some (.int .u8 (by8 l[j])) := by
  unfold byteRow
  rw [Array.getElem?_append_left (by simpa using h)]
  simp [h]
theorem byteRow_set (l : List UInt8) (cap j : Nat) (b : UInt8) (h : j < l.length) : (byteRow l cap).setIfInBounds j (.int .u8 (by8 b)) = byteRow (l.set j b) cap := by
  unfold byteRow
  apply Array.ext_getElem?
  intro i
  rw [Array.getElem?_setIfInBounds]
  by_cases hi : j = i
  · subst hi
    rw [if_pos rfl, Array.getElem?_append_left (by simpa using h)]
    rw [if_pos (by simp; omega)]
    simp [h]
  · rw [if_neg hi, List.length_set]
    by_cases hl : i < l.length
    · rw [Array.getElem?_append_left (by simpa using hl), Array.getElem?_append_left (by simpa using hl)]
      simp [List.getElem?_set_ne hi]
    · rw [Array.getElem?_append_right (by simp; omega), Array.getElem?_append_right (by simp; omega)]
      simp
theorem byteRow_of (s : ByteArray) (cap : Nat) : bytesRow s cap = byteRow (L s) cap := by
  unfold bytesRow byteRow
  rw [L_size]
  congr 1
  apply Array.ext'
  simp [by8, L]

/-- 'string(b)' of a row of bytes. -/
theorem run_string_of {P : Program} (w : World) (src dst e : TypeId) (g cap : Nat) (l : List UInt8) (cs : Array Value) (t : TypeId) (fr : Nat × Nat) (n : Nat) (hn : n = l.length)
    (hs : P.underlying src = some (.slice e)) (he : P.underlying e = some (.int .u8)) (hd : P.underlying dst = some .string)
    (hg : w.heap[g]? = some (.cells cs t fr)) (hc : ∀ j (hj : j < l.length), cs[j]? = some (.int .u8 (by8 l[j]))) :
    (convert src dst (.slice (some ⟨g, 0, none⟩) n cap)).run P w = .ok (.string ⟨l.toArray⟩) w := by
  subst hn
  refine run_convert_bytes_back w src dst e ⟨g, 0, none⟩ cap l hs he hd fun j hj => ?_
  rw [show (⟨g, 0, none⟩ : Addr).add j = ⟨g, j, none⟩ from by unfold Addr.add; split <;> simp_all, cell_of_row _ _ _ _ _ _ hg, hc j hj]
  rfl
theorem L_mk (l : List UInt8) : L ⟨l.toArray⟩ = l := rfl
theorem size_mk (l : List UInt8) : (⟨l.toArray⟩ : ByteArray).size = l.length := rfl

theorem zeroCells_row (n : Nat) : zeroCells n = byteRow (List.replicate n 0) n := by
  unfold zeroCells byteRow
  apply Array.ext'
  simp [by8]
/-- The first i of D, and zeros: one more. -/
theorem set_next (D : List UInt8) (i : Nat) (hi : i < D.length) : (D.take i ++ List.replicate (D.length - i) 0).set i D[i] = D.take (i + 1) ++ List.replicate (D.length - (i + 1)) 0 := by
  have hlen : (D.take i).length = i := by simp; omega
  have e : List.replicate (D.length - i) (0 : UInt8) = 0 :: List.replicate (D.length - (i + 1)) 0 := by
    rw [show D.length - i = (D.length - (i + 1)) + 1 from by omega, List.replicate_succ]
  rw [e, List.set_append_right _ _ (by omega), hlen, Nat.sub_self, List.set_cons_zero, List.take_succ_eq_append_getElem hi, List.append_assoc]
  rfl
theorem L_extract (s : ByteArray) (n : Nat) : L (s.extract 0 n) = (L s).take n := by
  simp [L, ByteArray.data_extract]

end Go.Proofs.YtjgnomjjphkfbaaGreat

/-
  PLAIN MATHEMATICS OF THE BRICKS: numbers as rows of seven bits, the lowest first; whole numbers, zig-zag; texts; lists; and what bytes are read as. No program is in sight here.
-/
namespace Go.Proofs.YtjgnomjjphkfbaaGreat.Wr

abbrev M64 : Nat := 18446744073709551616

/-! ### Writing -/
def uvF : Nat → Nat → List UInt8
  | 0, _ => []
  | f + 1, x => if x < 128 then [UInt8.ofNat x] else UInt8.ofNat (x % 128 + 128) :: uvF f (x / 128)
/-- A number's bytes. -/
def uv (x : Nat) : List UInt8 := uvF 10 x
theorem uvF_small (f x : Nat) (h : x < 128) : uvF (f + 1) x = [UInt8.ofNat x] := by rw [uvF, if_pos h]
theorem uvF_big (f x : Nat) (h : ¬ x < 128) : uvF (f + 1) x = UInt8.ofNat (x % 128 + 128) :: uvF f (x / 128) := by rw [uvF, if_neg h]
theorem uvF_length (f : Nat) : ∀ x, (uvF f x).length ≤ f := by
  induction f with
  | zero => intro x; simp [uvF]
  | succ f ih =>
    intro x
    rw [uvF]
    split
    · simp
    · have := ih (x / 128); simp; omega
theorem uvF_pos (f x : Nat) : 1 ≤ (uvF (f + 1) x).length := by rw [uvF]; split <;> simp
/-- Zig-zag. -/
def zig (x : Int) : Nat := if 0 ≤ x then (2 * x).toNat else (-(2 * x) - 1).toNat
def zag (n : Nat) : Int := if n % 2 = 0 then (n / 2 : Nat) else -((n / 2 : Nat) : Int) - 1
theorem zag_zig (x : Int) : zag (zig x) = x := by
  unfold zag zig
  split <;> split <;> omega
theorem zig_zag (n : Nat) : zig (zag n) = n := by
  unfold zag zig
  split <;> split <;> omega
theorem zig_lt (x : Int) (h1 : -9223372036854775808 ≤ x) (h2 : x ≤ 9223372036854775807) : zig x < M64 := by
  unfold zig M64; split <;> omega
theorem zag_bd (n : Nat) (h : n < M64) : -9223372036854775808 ≤ zag n ∧ zag n ≤ 9223372036854775807 := by
  unfold zag; unfold M64 at h; split <;> omega
def txt (t : List UInt8) : List UInt8 := uv t.length ++ t
def bool (b : Bool) : UInt8 := if b then 1 else 0

/-! ### Reading -/
/-- What is read from place i on, where the value of what was read is acc: the number, how many bytes it has, and with which error. -/
def rdG : List UInt8 → Nat → Nat → Nat × Nat × Nat
  | [], _, _ => (0, 0, 6)
  | c :: s, i, acc =>
    if (i = 9 ∧ 1 < c.toNat) ∨ (0 < i ∧ c.toNat = 0) then (0, 0, 7)
    else if c.toNat < 128 then ((acc + c.toNat % 128 * 128 ^ i) % M64, i + 1, 0)
    else rdG s (i + 1) ((acc + c.toNat % 128 * 128 ^ i) % M64)
def rd (s : List UInt8) : Nat × Nat × Nat := rdG s 0 0

theorem pow128 (i : Nat) (h : i ≤ 9) : 128 ^ i ≤ 9223372036854775808 := by
  have : 128 ^ i ≤ 128 ^ 9 := Nat.pow_le_pow_right (by decide) h
  have e : 128 ^ 9 = 9223372036854775808 := by decide
  omega
/-- What is written is read: from place i on. -/
theorem rdG_uv : ∀ (f i acc x : Nat) (r : List UInt8), i + f = 10 → x * 128 ^ i + acc < M64 → acc < 128 ^ i → (0 < i → 0 < x) → rdG (uvF f x ++ r) i acc = (acc + x * 128 ^ i, i + (uvF f x).length, 0)
  | 0, i, acc, x, r, hi, hx, ha, hp => by
    obtain rfl : i = 10 := by omega
    exfalso
    have := hp (by decide)
    have e : 128 ^ 10 = 1180591620717411303424 := by decide
    rw [e] at hx
    unfold M64 at hx; omega
  | f + 1, i, acc, x, r, hi, hx, ha, hp => by
    have hpw := pow128 i (by omega)
    have hpos : 0 < 128 ^ i := Nat.pow_pos (by decide)
    by_cases h : x < 128
    · have hc : (UInt8.ofNat x).toNat = x := by rw [UInt8.toNat_ofNat']; omega
      rw [uvF_small _ _ h]
      have hno : ¬ ((i = 9 ∧ 1 < x) ∨ (0 < i ∧ x = 0)) := by
        rintro (⟨rfl, h1⟩ | ⟨h1, h2⟩)
        · have e : 128 ^ 9 = 9223372036854775808 := by decide
          rw [e] at hx
          unfold M64 at hx; omega
        · have := hp h1; omega
      simp only [List.cons_append, List.nil_append, rdG, hc]
      rw [if_neg hno, if_pos h, Nat.mod_eq_of_lt h, Nat.mod_eq_of_lt (by omega)]
      rfl
    · have hc : (UInt8.ofNat (x % 128 + 128)).toNat = x % 128 + 128 := by rw [UInt8.toNat_ofNat']; omega
      rw [uvF_big _ _ h]
      have hi9 : i ≠ 9 := by
        rintro rfl
        have e : 128 ^ 9 = 9223372036854775808 := by decide
        rw [e] at hx
        unfold M64 at hx; omega
      have hno : ¬ ((i = 9 ∧ 1 < x % 128 + 128) ∨ (0 < i ∧ x % 128 + 128 = 0)) := by omega
      have hxm : x % 128 * 128 ^ i ≤ x * 128 ^ i := Nat.mul_le_mul_right _ (Nat.mod_le _ _)
      have hm : (x % 128 + 128) % 128 = x % 128 := by omega
      have hsplit : x * 128 ^ i = x % 128 * 128 ^ i + x / 128 * 128 ^ (i + 1) := by
        rw [Nat.pow_succ, Nat.mul_comm (128 ^ i) 128, ← Nat.mul_assoc, ← Nat.add_mul]
        congr 1
        omega
      have hlow : acc + x % 128 * 128 ^ i < 128 ^ (i + 1) := by
        have : x % 128 * 128 ^ i ≤ 127 * 128 ^ i := Nat.mul_le_mul_right _ (by omega)
        rw [Nat.pow_succ]; omega
      simp only [List.cons_append, rdG, hc]
      rw [if_neg hno, if_neg (by omega), hm, Nat.mod_eq_of_lt (by omega)]
      rw [rdG_uv f (i + 1) _ (x / 128) r (by omega) (by omega) hlow (fun _ => by omega)]
      simp only [List.length_cons]
      rw [hsplit, Nat.add_assoc, Nat.add_assoc, Nat.add_comm 1]
theorem rd_uv (x : Nat) (r : List UInt8) (h : x < M64) : rd (uv x ++ r) = (x, (uv x).length, 0) := by
  have := rdG_uv 10 0 0 x r rfl (by simpa using h) (by decide) (by omega)
  simpa [rd, uv] using this
/-- What is read without a fault is written as itself. -/
theorem rdG_ok : ∀ (s : List UInt8) (i acc : Nat), i ≤ 9 → acc < 128 ^ i → (rdG s i acc).2.2 = 0 →
    ∃ k x, (rdG s i acc) = (acc + x * 128 ^ i, i + k, 0) ∧ 1 ≤ k ∧ k ≤ s.length ∧ i + k ≤ 10 ∧ s.take k = uvF (10 - i) x ∧ (0 < i → 0 < x) ∧ acc + x * 128 ^ i < M64
  | [], i, acc, hi, ha, h => by simp [rdG] at h
  | c :: s, i, acc, hi, ha, h => by
    have hpw := pow128 i hi
    have hpos : 0 < 128 ^ i := Nat.pow_pos (by decide)
    have hcl := c.toNat_lt
    rw [rdG] at h ⊢
    by_cases h1 : (i = 9 ∧ 1 < c.toNat) ∨ (0 < i ∧ c.toNat = 0)
    · rw [if_pos h1] at h; cases h
    rw [if_neg h1] at h ⊢
    obtain ⟨f, hf⟩ : ∃ f, 10 - i = f + 1 := ⟨9 - i, by omega⟩
    have hbd : acc + c.toNat % 128 * 128 ^ i < 128 ^ (i + 1) := by
      have : c.toNat % 128 * 128 ^ i ≤ 127 * 128 ^ i := Nat.mul_le_mul_right _ (by omega)
      rw [Nat.pow_succ]; omega
    have h64 : acc + c.toNat % 128 * 128 ^ i < M64 := by
      by_cases h9 : i = 9
      · subst h9
        have e : 128 ^ 9 = 9223372036854775808 := by decide
        rw [e] at ha ⊢
        unfold M64; omega
      · have := Nat.pow_le_pow_right (n := 128) (by decide) (show i + 1 ≤ 9 from by omega)
        have e : 128 ^ 9 = 9223372036854775808 := by decide
        unfold M64; omega
    rw [Nat.mod_eq_of_lt h64] at h ⊢
    by_cases h2 : c.toNat < 128
    · rw [if_pos h2]
      refine ⟨1, c.toNat, by rw [Nat.mod_eq_of_lt h2], by omega, by simp, by omega, ?_, by omega, by rwa [Nat.mod_eq_of_lt h2] at h64⟩
      rw [hf, uvF_small _ _ h2]
      simp
    · rw [if_neg h2] at h ⊢
      by_cases h9 : i = 9
      · omega
      obtain ⟨k, x, e, k1, k2, k3, k4, k5, k6⟩ := rdG_ok s (i + 1) _ (by omega) hbd h
      have hx := k5 (by omega)
      have e1 : acc + c.toNat % 128 * 128 ^ i + x * 128 ^ (i + 1) = acc + (c.toNat % 128 + 128 * x) * 128 ^ i := by
        rw [Nat.pow_succ, Nat.add_mul, Nat.add_assoc]
        congr 2
        rw [Nat.mul_comm (128 ^ i) 128, ← Nat.mul_assoc, Nat.mul_comm x 128]
      refine ⟨k + 1, c.toNat % 128 + 128 * x, ?_, by omega, by simp; omega, by omega, ?_, by omega, by rw [← e1]; exact k6⟩
      · rw [e, e1, Nat.add_assoc, Nat.add_comm 1]
      · have hf2 : 10 - (i + 1) = f := by omega
        rw [hf2] at k4
        rw [hf, uvF_big _ _ (by omega), List.take_succ_cons, k4]
        congr 1
        · apply UInt8.toNat_inj.1; rw [UInt8.toNat_ofNat']; omega
        · congr 1; omega
theorem rd_ok (s : List UInt8) (h : (rd s).2.2 = 0) : s.take (rd s).2.1 = uv (rd s).1 ∧ 1 ≤ (rd s).2.1 ∧ (rd s).2.1 ≤ s.length ∧ (rd s).2.1 ≤ 10 ∧ (rd s).1 < M64 := by
  obtain ⟨k, x, e, k1, k2, k3, k4, k5, k6⟩ := rdG_ok s 0 0 (by decide) (by decide) h
  have e' : rd s = (x, k, 0) := by unfold rd; rw [e]; simp
  rw [e']
  simp only [Nat.pow_zero, Nat.mul_one, Nat.zero_add] at k6 k4 k3
  exact ⟨k4, k1, k2, k3, k6⟩
/-- A fault hands back zeros. -/
theorem rdG_err : ∀ (s : List UInt8) (i acc : Nat), (rdG s i acc).2.2 ≠ 0 → (rdG s i acc).1 = 0 ∧ (rdG s i acc).2.1 = 0 ∧ ((rdG s i acc).2.2 = 6 ∨ (rdG s i acc).2.2 = 7)
  | [], i, acc, _ => by simp [rdG]
  | c :: s, i, acc, h => by
    rw [rdG] at h ⊢
    split
    · simp
    · split
      · rename_i h1 h2; rw [if_neg h1, if_pos h2] at h; simp at h
      · rename_i h1 h2; rw [if_neg h1, if_neg h2] at h; exact rdG_err s _ _ h
theorem uv_inj {x y : Nat} (hx : x < M64) (hy : y < M64) (r r' : List UInt8) (h : uv x ++ r = uv y ++ r') : x = y ∧ r = r' := by
  have h1 := rd_uv x r hx
  have h2 := rd_uv y r' hy
  rw [h, h2] at h1
  simp only [Prod.mk.injEq] at h1
  obtain ⟨rfl, _, _⟩ := h1
  exact ⟨rfl, List.append_cancel_left h⟩
end Go.Proofs.YtjgnomjjphkfbaaGreat.Wr

/-
  ROWS OF BYTES THAT '[]byte(s)' HAS LAID, with its mark behind them: append of a text, and the text that they are.
-/
namespace Go.Proofs.YtjgnomjjphkfbaaGreat
open Go.RowKit

/-- A row of bytes of the call's own: nothing of it is frozen; a mark may lie behind its last cell. -/
def MarkIs (w : World) (base : Nat) (e : TypeId) (a : Option Addr) (n cap : Nat) (l : List UInt8) : Prop :=
  l.length = n ∧ ((a = none ∧ n = 0 ∧ cap = 0) ∨
   ∃ g cur fz, a = some ⟨g, 0, none⟩ ∧ base ≤ g ∧ w.heap[g]? = some (.cells cur e fz) ∧ (∀ j, j < cur.size → ¬ (fz.1 ≤ j ∧ j < fz.2)) ∧ n ≤ cap ∧ cap ≤ maxLen ∧ cur.size = cap ∧ cur.toList.take n = l.map fun b => Value.int .u8 (by8 b))
theorem MarkIs.keep {w w' : World} {base : Nat} {e : TypeId} {a : Option Addr} {n cap : Nat} {l : List UInt8} (h : MarkIs w base e a n cap l) (hb : Below w.heap.size w w') : MarkIs w' base e a n cap l := by
  refine ⟨h.1, ?_⟩
  rcases h.2 with h1 | ⟨g, cur, fz, rfl, hbg, hg, rest⟩
  · exact .inl h1
  · exact .inr ⟨g, cur, fz, rfl, hbg, (hb.block g (blk_lt hg)).trans hg, rest⟩
theorem strCells_by8 (s : ByteArray) : Lib.strCells s = (L s).map fun b => Value.int .u8 (by8 b) := rfl
theorem MarkIs.of_bytes {P : Program} (w : World) (src dst e : TypeId) (s : ByteArray) (hs : P.underlying src = some .string) (hd : P.underlying dst = some (.slice e)) (he : P.underlying e = some (.int .u8)) (hz : s.size ≤ maxLen) :
    ∃ cap w', (convert src dst (.string s)).run P w = .ok (.slice (some ⟨w.heap.size, 0, none⟩) s.size cap) w' ∧ MarkIs w' w.heap.size e (some ⟨w.heap.size, 0, none⟩) s.size cap (L s) ∧ Below w.heap.size w w' := by
  refine ⟨_, _, run_bytes_of_string w src dst e s hs hd he, ⟨L_size s, .inr ⟨_, _, _, rfl, Nat.le_refl _, heap_alloc_new w.drew _, ?_, grownCap_ge _ _ _ _, grownCap_le_maxLen _ _ _ _ hz, ?_, ?_⟩⟩, ((Own.refl w).drew.alloc _).below⟩
  · intro j hj h; simp only at h; omega
  · have h1 := grownCap_ge w s.size 0 e
    rw [byteRow_of, byteRow_size _ _ (by rw [L_size]; exact h1)]
  · have h1 := grownCap_ge w s.size 0 e
    rw [byteRow_of]
    unfold byteRow
    simp
theorem MarkIs.text {P : Program} {w : World} {base : Nat} {e : TypeId} {a : Option Addr} {n cap : Nat} {l : List UInt8} (h : MarkIs w base e a n cap l) (src dst : TypeId) (hs : P.underlying src = some (.slice e)) (he : P.underlying e = some (.int .u8)) (hd : P.underlying dst = some .string) (hn : 0 < n) :
    (convert src dst (.slice a n cap)).run P w = .ok (.string ⟨l.toArray⟩) w := by
  obtain ⟨hl, h | ⟨g, cur, fz, rfl, hbg, hg, hfz, hnc, hcm, hcs, ht⟩⟩ := h
  · omega
  · refine run_string_of (P := P) w src dst e g cap l cur e fz n hl.symm hs he hd hg ?_
    intro j hj
    have h1 : (cur.toList.take n)[j]? = some (.int .u8 (by8 l[j])) := by rw [ht]; simp [hj]
    rw [List.getElem?_take] at h1
    split at h1
    · simpa using h1
    · cases h1

/-- Cells written one by one, where no mark lies. -/
theorem run_store_mark (P : Program) (g o : Nat) (t : TypeId) (fz : Nat × Nat) : ∀ (vs : List Value) (i : Nat) (cur : Array Value) (w : World), w.heap[g]? = some (.cells cur t fz) → (∀ j, j < cur.size → ¬ (fz.1 ≤ j ∧ j < fz.2)) → o + i + vs.length ≤ cur.size → (∀ v ∈ vs, v.oneCell' = true) →
    ∃ w' cur', (storeCells ⟨g, o, none⟩ vs i).run P w = .ok () w' ∧ w'.heap[g]? = some (.cells cur' t fz) ∧ cur'.size = cur.size ∧ cur'.toList.take (o + i + vs.length) = cur.toList.take (o + i) ++ vs ∧ Upd w w' [g]
  | [], i, cur, w, hg, _, _, _ => ⟨w, cur, rfl, hg, rfl, by simp, Upd.refl _ _⟩
  | v :: rest, i, cur, w, hg, hfz, hl, h1 => by
    simp only [List.length_cons] at hl
    have hi : o + i < cur.size := by omega
    have hadd : (⟨g, o, none⟩ : Addr).add i = ⟨g, o + i, none⟩ := Addr.add_lit _ _ _
    have hcell : w.cell? ⟨g, o + i, none⟩ = some cur[o + i] := by rw [cell_of_row w g _ _ _ _ hg]; simp [hi]
    have hfro : w.frozen? ⟨g, o + i, none⟩ = false := by
      have := hfz (o + i) hi
      obtain ⟨lo, up⟩ := fz
      simp only [World.frozen?, hg, Bool.and_eq_false_iff, decide_eq_false_iff_not]
      simp only at this
      omega
    have hst : (store ((⟨g, o, none⟩ : Addr).add i) v).run P w = .ok () (w.setCell ⟨g, o + i, none⟩ v) := by
      rw [hadd, run_store P w _ v _ (h1 v (by simp)), hcell]
      simp [hfro]
    obtain ⟨w', cur', e1, e2, e3, e4, e5⟩ := run_store_mark P g o t fz rest (i + 1) (cur.setIfInBounds (o + i) v) (w.setCell ⟨g, o + i, none⟩ v) (heap_set v hg) (by simpa using hfz) (by simp; omega) (fun x hx => h1 x (by simp [hx]))
    refine ⟨w', cur', ?_, e2, by simpa using e3, ?_, ((Upd.refl w [g]).setCell (.inl (by simp)) v).trans e5 (by simp)⟩
    · simp only [storeCells, Sem.run_bind, hst, Result.andThen_ok, e1]
    · rw [show o + i + (v :: rest).length = o + (i + 1) + rest.length from by simp only [List.length_cons]; omega, e4]
      have e6 : (cur.setIfInBounds (o + i) v).toList.take (o + (i + 1)) = cur.toList.take (o + i) ++ [v] := by
        rw [show o + (i + 1) = o + i + 1 from by omega, Array.toList_setIfInBounds, List.take_succ_eq_append_getElem (by simp; omega), List.take_set_of_le (by omega)]
        simp
      rw [e6]; simp

/-- 'append(b, s...)'. -/
theorem run_append_mark {P : Program} (w : World) (base : Nat) (t u ty e : TypeId) (i : TypeInfo) (ht : P.underlying t = some (.slice e)) (hu : P.underlying u = some .string) (hi : P.info? e = some i) (hz : i.zero = some (.int .u8 0))
    (hsize : i.size = 1) (hby : i.bytes = 1) (a : Option Addr) (n cap : Nat) (l : List UInt8) (h : MarkIs w base e a n cap l) (s : ByteArray) (hb : n + s.size ≤ 140737488355328) (hbase : base ≤ w.heap.size) :
    ∃ a' cap' w', (Builtin.append_ #[t, u] ty #[.slice a n cap, .string s]).run P w = .ok (.slice a' (n + s.size) cap') w' ∧ MarkIs w' base e a' (n + s.size) cap' (l ++ L s) ∧ Upd w w' (blks a) := by
  obtain ⟨hl, ⟨rfl, rfl, rfl⟩ | ⟨g, cur, fz, rfl, hbg, hg, hfz, hnc, hcm, hcs, htk⟩⟩ := h
  · obtain ⟨v', w', hr, ho, hgr, _⟩ := Lib.run_append_own_string (P := P) w base t u ty e i ht hu hi hz hsize hby (.slice none 0 0) 0 [] (World.ownsRow_nil w _ e 1) s (by unfold maxLen; omega) hb hbase
    have hl0 : l = [] := List.eq_nil_of_length_eq_zero hl
    subst hl0
    have hup : Upd w w' [] := ⟨hgr.os, hgr.tape, hgr.output, hgr.size, fun k hk _ => hgr.block k hk (by simp [Value.ownBlock])⟩
    obtain ⟨ho1, ⟨rfl, ho2⟩ | ⟨g, cap, cur, rfl, hbg, hg, hnc, hcm, hcs, htk⟩⟩ := ho
    · refine ⟨none, 0, w', ?_, ⟨by simp, .inl ⟨rfl, ho2, rfl⟩⟩, hup⟩
      rw [hr, ho2]
    · exact ⟨_, cap, w', hr, ⟨by simp, .inr ⟨g, cur, (0, 0), rfl, hbg, hg, fun j _ => by simp, hnc, hcm, by simpa using hcs, by rw [List.nil_append, ← strCells_by8]; simpa using htk⟩⟩, hup⟩
  · by_cases hroom : n + s.size ≤ cap
    · have hf := Lib.run_firstCells_string (P := P) w 1 s
      obtain ⟨w', cur', hst, hg', hcs', htk', hup⟩ := run_store_mark P g n e fz (Lib.strCells s) 0 cur w hg hfz (by rw [Lib.strCells_length]; omega) (Lib.strCells_oneCell s)
      refine ⟨some ⟨g, 0, none⟩, cap, w', ?_, ⟨by rw [List.length_append, hl, L_size], .inr ⟨g, cur', fz, rfl, hbg, hg', by rw [hcs']; exact hfz, hroom, hcm, by omega, ?_⟩⟩, by simpa [blks] using hup⟩
      · simp [Builtin.append_, run_underlying ht, run_underlying hu, sizeOf, typeInfo, hi, hsize, Builtin.lenOf, hroom, hf, Addr.add_lit, hst]
      · rw [Lib.strCells_length] at htk'
        simp only [Nat.add_zero] at htk'
        rw [htk', htk, List.map_append, strCells_by8]
    · have holds : ∀ j u, (l.map fun b => Value.int .u8 (by8 b))[j]? = some u → w.cell? ((⟨g, 0, none⟩ : Addr).add j) = some u := by
        intro j u hj
        rw [Addr.add_lit, cell_of_row w g _ _ _ _ hg]
        rw [← htk, List.getElem?_take] at hj
        split at hj
        · simpa using hj
        · cases hj
      have hr := Lib.run_append_grow_string (P := P) w t u ty e i (.int .u8 0) ht hu hi hz ⟨g, 0, none⟩ n cap (l.map fun b => Value.int .u8 (by8 b)) (by rw [hsize]; simpa using hl) holds s (by omega) (by omega) (by rw [hby]; exact growslice_fits (by omega) (by omega))
      have hge := grownCap_ge w (n + s.size) cap e
      refine ⟨_, _, _, hr, ⟨by rw [List.length_append, hl, L_size], .inr ⟨_, _, (0, 0), rfl, hbase, heap_alloc_new w.drew _, fun j _ => by simp, hge, grownCap_le_maxLen w _ cap e (by unfold maxLen; omega), ?_, ?_⟩⟩, ((Upd.refl w _).drew.alloc _)⟩
      · have hz1 : (Value.int IntKind.u8 0).cells.size = 1 := rfl
        simp only [Array.size_append, List.size_toArray, size_zeroCells, hz1, List.length_map, hl, Lib.strCells_length]
        omega
      · rw [strCells_by8]
        simp only [Array.toList_append, List.append_assoc]
        rw [← List.append_assoc, ← List.map_append]
        have : n + s.size = ((l ++ L s).map fun b => Value.int IntKind.u8 (by8 b)).length := by simp [hl]
        rw [this, List.take_left]

end Go.Proofs.YtjgnomjjphkfbaaGreat
