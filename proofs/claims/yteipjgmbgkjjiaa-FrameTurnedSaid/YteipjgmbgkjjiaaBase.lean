/-
  WORDS FOR THE WALKS: numbers of 32 bits as rows of bits; bytes; what a call that makes memory of its own leaves as it was.
-/
import Derived.Test.YteipjgmbgkjjiaaRows
import Derived.WalkKit
import Derived.WalkSpells
import Derived.WalkLawsBesides
import Derived.Lib.Hide
import Derived.Deep.Draws
set_option linter.unusedVariables false
set_option linter.unusedSimpArgs false
namespace Go.Proofs.Yteipjgmbgkjjiaa
open Go.RowKit

/-- Below B the world is as it was, and B is a block's number that is there. -/
structure Own (B : Nat) (w w' : World) : Prop where
  below : Below B w w'
  size : B ≤ w'.heap.size

theorem Own.refl (w : World) : Own w.heap.size w w := ⟨Below.refl _ _, Nat.le_refl _⟩
theorem Own.trans {B : Nat} {w w1 w2 : World} (h : Own B w w1) (k : Below w1.heap.size w1 w2) : Own B w w2 :=
  ⟨h.below.trans (k.mono h.size), Nat.le_trans h.size k.size⟩
theorem Own.drew {B : Nat} {w w1 : World} (h : Own B w w1) : Own B w w1.drew := ⟨h.below.drew, h.size⟩
theorem Own.drewN {B : Nat} {w w1 : World} (h : Own B w w1) (n : Nat) : Own B w (w1.drewN n) := ⟨h.below.trans ⟨rfl, rfl, rfl, Nat.le_refl _, fun _ _ => rfl⟩, h.size⟩
theorem Own.alloc {B : Nat} {w w1 : World} (h : Own B w w1) (o : Obj) : Own B w (w1.alloc o) :=
  ⟨h.below.alloc h.size o, by have := h.size; simp; omega⟩
theorem Own.setCell {B : Nat} {w w1 : World} (h : Own B w w1) {p : Addr} (hp : B ≤ p.block) (u : Value) : Own B w (w1.setCell p u) :=
  ⟨h.below.setCell hp u, by have := h.size; simpa [World.setCell] using this⟩

theorem Own.setRow {B : Nat} {w w1 : World} (h : Own B w w1) {g : Nat} (hg : B ≤ g) (cs : Array Value) : Own B w (w1.setRow g cs) :=
  ⟨h.below.trans ⟨rfl, rfl, rfl, by simp, fun k hk => setRow_other _ _ _ _ (by omega)⟩, by have := h.size; simpa using this⟩

theorem blk_lt {w : World} {g : Nat} {o : Obj} (h : w.heap[g]? = some o) : g < w.heap.size := (Array.getElem?_eq_some_iff.1 h).1

theorem ret_u {k : IntKind} {a b : Int} (h : a = b) : Ending.returned (.int k a) = .returned (.int k b) := by rw [h]

/-! ### 32 bits -/
def w32 (x : BitVec 32) : Int := x.toNat
theorem u32_lt (x : BitVec 32) : 0 ≤ w32 x ∧ w32 x < 4294967296 := by unfold w32; omega
theorem u32_of (n : Int) (h : 0 ≤ n ∧ n < 4294967296) : n = w32 (BitVec.ofInt 32 n) := by
  unfold w32; rw [BitVec.toNat_ofInt]; omega
theorem u32_lit (n : Nat) (h : n < 4294967296) : w32 (BitVec.ofNat 32 n) = n := by
  unfold w32; simp; omega
theorem u32_inj {x y : BitVec 32} (h : w32 x = w32 y) : x = y := by
  unfold w32 at h; exact BitVec.eq_of_toNat_eq (by omega)
theorem wrap32_nat (n : Nat) (h : n < 4294967296) : IntKind.u32.wrap (n : Int) = n := by
  rw [IntKind.wrap_u32]; omega
theorem wrap_bv32 (x : BitVec 32) : IntKind.u32.wrap (x.toNat : Int) = w32 x := wrap32_nat _ x.isLt
@[go_sem] theorem ofInt_u32 (x : BitVec 32) : BitVec.ofInt 32 (w32 x) = x := by unfold w32; simp
@[go_sem] theorem xor32 (i j : Int) : Go.bits .xor .u32 i j = w32 (BitVec.ofInt 32 i ^^^ BitVec.ofInt 32 j) := wrap_bv32 _
@[go_sem] theorem and32 (i j : Int) : Go.bits .and .u32 i j = w32 (BitVec.ofInt 32 i &&& BitVec.ofInt 32 j) := wrap_bv32 _
@[go_sem] theorem or32 (i j : Int) : Go.bits .or .u32 i j = w32 (BitVec.ofInt 32 i ||| BitVec.ofInt 32 j) := wrap_bv32 _
theorem wrap_ofInt32 (i : Int) : IntKind.u32.wrap i = w32 (BitVec.ofInt 32 i) := by
  rw [IntKind.wrap_u32]; unfold w32; rw [BitVec.toNat_ofInt]; omega
@[go_sem] theorem wrap_u32 (x : BitVec 32) : IntKind.u32.wrap (w32 x) = w32 x := by rw [wrap_ofInt32, ofInt_u32]
@[go_sem] theorem shr32 (x : BitVec 32) (k : Nat) : w32 x / (2 : Int) ^ k = w32 (x >>> k) := by
  unfold w32
  rw [BitVec.toNat_ushiftRight, Nat.shiftRight_eq_div_pow]
  simp
@[go_sem] theorem half32 (x : BitVec 32) : w32 x / (2 : Int) = w32 (x >>> 1) := by have := shr32 x 1; rwa [show ((2 : Int) ^ 1) = 2 from rfl] at this
@[go_sem] theorem tdiv32 (x : BitVec 32) : (w32 x).tdiv (2 : Int) = w32 (x >>> 1) := by
  rw [Int.tdiv_eq_ediv_of_nonneg (u32_lt x).1, half32]
@[go_sem] theorem tmod32 (x : BitVec 32) : (w32 x).tmod (2 : Int) = w32 (x &&& 1#32) := by
  rw [Int.tmod_eq_emod_of_nonneg (u32_lt x).1]
  unfold w32
  rw [BitVec.toNat_and]
  simp [Nat.and_one_is_mod]
@[go_sem] theorem mul32 (i j : Int) (x : BitVec 32) (h : j = w32 x) : IntKind.u32.wrap (i * j) = w32 (BitVec.ofInt 32 i * x) := by
  subst h
  rw [wrap_ofInt32, BitVec.ofInt_mul, ofInt_u32]
@[go_sem] theorem mul32' (i : Int) (x : BitVec 32) : IntKind.u32.wrap (i * w32 x) = w32 (BitVec.ofInt 32 i * x) := mul32 i _ x rfl
theorem toNat_one_shl (k : Nat) : (1#32 <<< k).toNat = 2 ^ k % 2 ^ 32 := by
  rw [BitVec.toNat_shiftLeft, Nat.shiftLeft_eq]
  rw [show (1#32).toNat = 1 from rfl, Nat.one_mul]
@[go_sem] theorem shl32 (k : Nat) : IntKind.u32.wrap ((2 : Int) ^ k) = w32 (1#32 <<< k) := by
  unfold w32
  rw [toNat_one_shl, IntKind.wrap_u32, show ((2 : Int) ^ k) = ((2 ^ k : Nat) : Int) from by rw [Int.natCast_pow]; rfl]
  generalize 2 ^ k = m
  omega
@[go_sem] theorem byte32 (b : UInt8) : IntKind.u32.wrap (b.toNat : Int) = w32 (BitVec.ofNat 32 b.toNat) := by
  rw [wrap_ofInt32]; rfl
@[go_sem] theorem eq32 (x y : BitVec 32) : (w32 x == w32 y) = (x == y) := by
  rw [Bool.eq_iff_iff]; simp only [beq_iff_eq]; exact ⟨u32_inj, fun h => by rw [h]⟩
@[go_sem] theorem ne32 (x y : BitVec 32) : (w32 x != w32 y) = (x != y) := by
  unfold bne; rw [eq32]
theorem wf_u32 (x : BitVec 32) : (Lit.int .u32 (w32 x)).wf = true := WalkArith.wf_u32 (by have := u32_lt x; omega)

@[go_sem] theorem not32 (x : BitVec 32) : BitVec.ofInt 32 IntKind.u32.max ^^^ x = ~~~ x := by
  rw [show BitVec.ofInt 32 IntKind.u32.max = BitVec.allOnes 32 from by decide, BitVec.allOnes_xor]

/-! ### 64 bits: a natural number below 2^64 -/
@[go_sem] theorem and1_64 (n : Int) : Go.bits .and .u64 n 1 = n % 2 := by
  have e : Go.bits .and .u64 n 1 = IntKind.u64.wrap ((BitVec.ofInt 64 n &&& 1#64).toNat : Int) := rfl
  rw [e, BitVec.toNat_and, show (1#64).toNat = 1 from rfl, Nat.and_one_is_mod, BitVec.toNat_ofInt]
  rw [IntWalk.u64_in _ (by omega)]
  omega

/-! ### Bytes of texts -/
abbrev L (s : ByteArray) : List UInt8 := s.data.toList
theorem L_size (s : ByteArray) : (L s).length = s.size := Array.length_toList
theorem L_get (s : ByteArray) (k : Nat) (h : k < s.size) : (L s)[k]'(by rw [L_size]; exact h) = s[k] := by
  simp [L]; rfl
theorem L_append (s t : ByteArray) : L (s ++ t) = L s ++ L t := by simp [L, ByteArray.data_append]
theorem L_take_succ (s : ByteArray) (k : Nat) (h : k < s.size) : (L s).take (k + 1) = (L s).take k ++ [s[k]] := by
  rw [List.take_succ_eq_append_getElem (by rw [L_size]; exact h), L_get s k h]
theorem L_take_all (s : ByteArray) (k : Nat) (h : s.size ≤ k) : (L s).take k = L s := List.take_of_length_le (by rw [L_size]; exact h)

/-- Behind '[]byte(s)': the new block's cells, and what was there. -/
theorem bytes_cell (w : World) (s : ByteArray) (e : TypeId) (k : Nat) (h : k < s.size) :
    ((w.alloc (.cells (bytesRow s (grownCap w s.size 0 e)) e ((bytesRow s (grownCap w s.size 0 e)).size, (bytesRow s (grownCap w s.size 0 e)).size + 1))).drew).cell? ⟨w.heap.size, k, none⟩ = some (.int .u8 (s[k].toNat : Int)) := by
  show (w.alloc _).cell? _ = _
  rw [World.cell?_alloc_mark, bytesRow_at s _ k h]; rfl

/-! ### Loads and stores of whole aggregates inside a block -/
section
variable {P : Program}
theorem run_loadVar_agg (w : World) (g off n : Nat) (t ty : TypeId) (cs : Array Value) (fr : Nat × Nat) (d : TypeDesc) (hg : w.heap[g]? = some (.cells cs t fr))
    (hu : P.underlying ty = some d) (hd : (match d with | .struct _ | .array _ _ => true | _ => false) = true) (hi : (P.info? ty).map (·.size) = some n) (hn : off + n ≤ cs.size) :
    (loadVar ty ⟨g, off, none⟩).run P w = .ok (.agg ((cs.toList.drop off).take n).toArray) w := by
  have hlen : ((cs.toList.drop off).take n).length = n := by simp; omega
  have hl : (loadCells ⟨g, off, none⟩ n).run P w = .ok ((cs.toList.drop off).take n).toArray w := by
    have := run_loadCells_list (P := P) w ⟨g, off, none⟩ ((cs.toList.drop off).take n) (fun j v hv => by
      have hadd : (⟨g, off, none⟩ : Addr).add j = ⟨g, off + j, none⟩ := by unfold Addr.add; split <;> simp_all
      rw [hadd, cell_of_row w g _ cs t fr hg]
      have hj : j < n := by
        rcases Nat.lt_or_ge j n with h | h
        · exact h
        · rw [List.getElem?_eq_none (by omega)] at hv; cases hv
      rw [List.getElem?_take_of_lt hj, List.getElem?_drop] at hv
      simpa using hv)
    rwa [hlen] at this
  cases hq : P.info? ty with
  | none => simp [hq] at hi
  | some i =>
    have hs : i.size = n := by simpa [hq] using hi
    have hagg : (isAgg ty).run P w = .ok true w := by
      unfold isAgg
      rw [Sem.run_bind, run_underlying hu w]
      cases d <;> simp_all
    simp [loadVar, Sem.run_bind, hagg, sizeOf, typeInfo, hq, hs, hl]
theorem wpList_load_agg {ops : Array Oper} {rest : List Oper} {o : Oper} {a : Act} {w : World} {Q : Exit → Act → World → Prop} (hgd : o.guard = none) (ty : TypeId) (x : Operand) (ho : o.op = .load ty x)
    (g off n : Nat) (hx : a.eval x = .pointer (some ⟨g, off, none⟩)) (t : TypeId) (cs : Array Value) (fr : Nat × Nat) (d : TypeDesc) (hg : w.heap[g]? = some (.cells cs t fr))
    (hu : P.underlying ty = some d) (hd : (match d with | .struct _ | .array _ _ => true | _ => false) = true) (hi : (P.info? ty).map (·.size) = some n) (hn : off + n ≤ cs.size)
    (h : wpList P ops Q rest (a.put o.dst (.agg ((cs.toList.drop off).take n).toArray)) w) : wpList P ops Q (o :: rest) a w :=
  wpList_plain hgd fun _ hK => by
    unfold Oper.wp execOp
    simp only [ho, hx, Instr.loadAt, Instr.sureAddr, Sem.run_bind, Sem.run_pure, Result.andThen_ok, run_loadVar_agg w g off n t ty cs fr d hg hu hd hi hn]
    exact hK _ _ h
theorem wpList_store_agg {ops : Array Oper} {rest : List Oper} {o : Oper} {a : Act} {w : World} {Q : Exit → Act → World → Prop} (hgd : o.guard = none) (ty : TypeId) (x v : Operand) (ho : o.op = .store ty x v)
    (g off : Nat) (vs : Array Value) (hx : a.eval x = .pointer (some ⟨g, off, none⟩)) (hv : a.eval v = .agg vs) (t : TypeId) (cs : Array Value) (hg : w.heap[g]? = some (.cells cs t (0, 0)))
    (hi : (P.info? ty).map (·.size) = some vs.size) (hn : off + vs.size ≤ cs.size) (h1 : ∀ v ∈ vs.toList, v.oneCell' = true)
    (h : wpList P ops Q rest (a.put o.dst undef) (w.setRow g (cs.toList.take off ++ vs.toList ++ cs.toList.drop (off + vs.size)).toArray)) : wpList P ops Q (o :: rest) a w :=
  wpList_plain hgd fun _ hK => by
    have hs := run_storeCells_at (P := P) g off t vs.toList 0 cs w hg (by simpa using hn) h1
    cases hq : P.info? ty with
    | none => simp [hq] at hi
    | some i =>
      have hsz : i.size = vs.size := by simpa [hq] using hi
      have hvar : (storeVar ty ⟨g, off, none⟩ (.agg vs)).run P w = .ok () (w.setRow g (cs.toList.take off ++ vs.toList ++ cs.toList.drop (off + vs.size)).toArray) := by
        simp only [storeVar, Value.cells, Sem.run_bind, sizeOf, typeInfo, run_program, Result.andThen_ok, hq, Sem.run_pure, hsz]
        simpa using hs
      unfold Oper.wp execOp
      simp only [ho, hx, hv, Instr.storeAt, Instr.sureAddr, Sem.run_bind, Sem.run_pure, Result.andThen_ok, hvar]
      exact hK _ _ h
/-- What a block holds already, stored over it. -/
theorem wpList_store_same {ops : Array Oper} {rest : List Oper} {o : Oper} {a : Act} {w : World} {Q : Exit → Act → World → Prop} (hgd : o.guard = none) (ty : TypeId) (x v : Operand) (ho : o.op = .store ty x v)
    (g : Nat) (vs : Array Value) (hx : a.eval x = .pointer (some ⟨g, 0, none⟩)) (hv : a.eval v = .agg vs) (t : TypeId) (hg : w.heap[g]? = some (.cells vs t (0, 0)))
    (hi : (P.info? ty).map (·.size) = some vs.size) (h1 : ∀ v ∈ vs.toList, v.oneCell' = true)
    (h : wpList P ops Q rest (a.put o.dst undef) w) : wpList P ops Q (o :: rest) a w := by
  refine wpList_store_agg hgd ty x v ho g 0 vs hx hv t vs hg hi (by omega) h1 ?_
  have : (vs.toList.take 0 ++ vs.toList ++ vs.toList.drop (0 + vs.size)).toArray = vs := by
    rw [List.drop_eq_nil_of_le (by simp)]; simp
  rw [this, setRow_self w g vs t (0, 0) hg]
  exact h
/-- w' is w with the block g holding the cells vs, all of them. -/
structure PutAt (w w' : World) (g : Nat) (vs : Array Value) (t : TypeId) : Prop where
  here : w'.heap[g]? = some (.cells vs t (0, 0))
  other : ∀ k, k ≠ g → w'.heap[k]? = w.heap[k]?
  size : w'.heap.size = w.heap.size
  os : w'.os = w.os
  tape : w'.tape = w.tape
  output : w'.output = w.output
theorem Own.put {B : Nat} {w0 w w' : World} {g : Nat} {vs : Array Value} {t : TypeId} (h : Own B w0 w) (p : PutAt w w' g vs t) (hg : B ≤ g) : Own B w0 w' :=
  ⟨h.below.trans ⟨p.os, p.tape, p.output, by rw [p.size]; exact Nat.le_refl _, fun k hk => p.other k (by omega)⟩, by rw [p.size]; exact h.size⟩
theorem putAt_setRow (w : World) (g : Nat) (cs vs : Array Value) (t : TypeId) (hg : w.heap[g]? = some (.cells cs t (0, 0))) : PutAt w (w.setRow g vs) g vs t :=
  ⟨setRow_heap _ _ _ _ _ _ hg, fun k hk => setRow_other _ _ _ _ hk, by simp, rfl, rfl, rfl⟩
/-- A whole block is stored over: the world behind it is a variable. -/
theorem wpList_store_all {ops : Array Oper} {rest : List Oper} {o : Oper} {a : Act} {w : World} {Q : Exit → Act → World → Prop} (hgd : o.guard = none) (ty : TypeId) (x v : Operand) (ho : o.op = .store ty x v)
    (g : Nat) (vs : Array Value) (hx : a.eval x = .pointer (some ⟨g, 0, none⟩)) (hv : a.eval v = .agg vs) (t : TypeId) (cs : Array Value) (hg : w.heap[g]? = some (.cells cs t (0, 0)))
    (hi : (P.info? ty).map (·.size) = some vs.size) (hn : vs.size = cs.size) (h1 : ∀ v ∈ vs.toList, v.oneCell' = true)
    (h : ∀ w', PutAt w w' g vs t → wpList P ops Q rest (a.put o.dst undef) w') : wpList P ops Q (o :: rest) a w := by
  refine wpList_store_agg hgd ty x v ho g 0 vs hx hv t cs hg hi (by omega) h1 ?_
  have e : (cs.toList.take 0 ++ vs.toList ++ cs.toList.drop (0 + vs.size)).toArray = vs := by
    rw [List.drop_eq_nil_of_le (by simp; omega)]; simp
  rw [e]
  exact h _ (putAt_setRow w g cs vs t hg)
end

/-- Two results: a struct in memory, and a value. -/
theorem results_cell_tmp_row {P : Program} {fn : Func} {p u : Tmp} {ty : TypeId} (h : fn.results = #[.cell p ty, .tmp u]) (tmps : Array Value) (w : World) (g : Nat) (t : TypeId) (cs : Array Value) (fr : Nat × Nat) (d : TypeDesc)
    (hp : tmps.getD p undef = .pointer (some ⟨g, 0, none⟩)) (hg : w.heap[g]? = some (.cells cs t fr))
    (hu : P.underlying ty = some d) (hd : (match d with | .struct _ | .array _ _ => true | _ => false) = true) (hi : (P.info? ty).map (·.size) = some cs.size) :
    (results fn tmps).run P w = .ok (.tuple #[.agg cs, tmps.getD u undef]) w := by
  rw [results_cell_tmp h, hp]
  simp only [asAddr, Sem.run_pure, Result.andThen_ok, run_loadVar_row w g t ty cs fr d hg hu hd hi]

/-! ### Slices of bytes that the call makes -/
def zeroCells (n : Nat) : Array Value := Array.replicate n (.int .u8 0)
theorem madeCells_u8 (n : Nat) : madeCells #[Value.int .u8 0] n = zeroCells n := by
  apply Array.ext
  · simp [size_madeCells, zeroCells]
  · intro i h1 h2
    simp only [madeCells, zeroCells, Array.getElem_map, Array.getElem_replicate, List.size_toArray, List.length_cons, List.length_nil]
    rw [show ∀ m, m % (0 + 1) = 0 from fun m => Nat.mod_one m]
    rfl
theorem run_make_bytes {P : Program} (w : World) (t e : TypeId) (n : Nat) (ht : P.underlying t = some (.slice e)) (hi : (P.info? e).map (fun i => (i.zero, i.size, i.bytes)) = some (some (.int .u8 0), 1, 1)) (hn : n ≤ 140737488355328) :
    (Instr.makeSlice t (.int .i64 n) (.int .i64 n)).run P w = .ok (.slice (some ⟨w.heap.size, 0, none⟩) n n) (w.alloc (.cells (zeroCells n) e)) := by
  cases hq : P.info? e with
  | none => simp [hq] at hi
  | some i =>
    rw [hq] at hi
    simp only [Option.map_some, Option.some.injEq, Prod.mk.injEq] at hi
    obtain ⟨h1, h2, h3⟩ := hi
    have := run_make (P := P) w t e i (.int .u8 0) ht hq h1 .i64 .i64 n n (by omega) (by omega) (by rw [h3]; omega) (by omega)
    rw [this]
    simp only [h2, Nat.mul_one, Int.toNat_natCast, Value.cells]
    rw [madeCells_u8]

theorem heap_set {w : World} {g i : Nat} {cs : Array Value} {t : TypeId} {fr : Nat × Nat} (v : Value) (hg : w.heap[g]? = some (.cells cs t fr)) :
    (w.setCell ⟨g, i, none⟩ v).heap[g]? = some (.cells (cs.setIfInBounds i v) t fr) := by
  rw [setCell_eq_setRow w g i cs t fr v hg]
  exact setRow_heap w g cs _ t _ hg
theorem frozen_past {w : World} {g i n : Nat} {cs : Array Value} {t : TypeId} (h : i < n) (hg : w.heap[g]? = some (.cells cs t (n, n + 1))) : w.frozen? ⟨g, i, none⟩ = false := by
  simp [World.frozen?, hg]; omega

/-! ### Arguments -/
theorem wf_bounds {k : IntKind} {n : Int} (h : (Lit.int k n).wf = true) : k.min ≤ n ∧ n ≤ k.max := by simpa [Lit.wf] using h
theorem bv32_of_wf {a : Int} (h : (Lit.int .u32 a).wf = true) : ∃ x : BitVec 32, a = w32 x := by
  have := wf_bounds h
  rw [show IntKind.u32.min = 0 from by decide, show IntKind.u32.max = 4294967295 from by decide] at this
  exact ⟨_, u32_of a (by omega)⟩
theorem nat64_of_wf {a : Int} (h : (Lit.int .u64 a).wf = true) : ∃ n : Nat, a = n ∧ n ≤ 18446744073709551615 := by
  have := wf_bounds h
  rw [show IntKind.u64.min = 0 from by decide, show IntKind.u64.max = 18446744073709551615 from by decide] at this
  exact ⟨a.toNat, by omega, by omega⟩
theorem nat16_of_wf {a : Int} (h : (Lit.int .u16 a).wf = true) : ∃ n : Nat, a = n ∧ n ≤ 65535 := by
  have := wf_bounds h
  rw [show IntKind.u16.min = 0 from by decide, show IntKind.u16.max = 65535 from by decide] at this
  exact ⟨a.toNat, by omega, by omega⟩
theorem nat8_of_wf {a : Int} (h : (Lit.int .u8 a).wf = true) : ∃ n : Nat, a = n ∧ n ≤ 255 := by
  have := wf_bounds h
  rw [show IntKind.u8.min = 0 from by decide, show IntKind.u8.max = 255 from by decide] at this
  exact ⟨a.toNat, by omega, by omega⟩
theorem i8_of_wf {a : Int} (h : (Lit.int .i8 a).wf = true) : -128 ≤ a ∧ a ≤ 127 := by
  have := wf_bounds h
  rwa [show IntKind.i8.min = -128 from by decide, show IntKind.i8.max = 127 from by decide] at this
theorem i64_of_wf {a : Int} (h : (Lit.int .i64 a).wf = true) : -9223372036854775808 ≤ a ∧ a ≤ 9223372036854775807 := by
  have := wf_bounds h
  rwa [show IntKind.i64.min = -9223372036854775808 from by decide, show IntKind.i64.max = 9223372036854775807 from by decide] at this

end Go.Proofs.Yteipjgmbgkjjiaa
