/-
  THE WALK of frame.Scan.
-/
import Derived.Test.YteipjgmbgkjjiaaFrameIter
import Derived.Test.YteipjgmbgkjjiaaQuietLoad
set_option linter.unusedVariables false
set_option linter.unusedSimpArgs false
namespace Go.Proofs.Yteipjgmbgkjjiaa
open Go.RowKit Go.Shelf

attribute [local go_sem] Oper.semAt_some

def ycells (y : Yv) : List Value := [.int .u64 y.num, .string y.text]
def yrow (ys : List Yv) : List Value := ys.flatMap ycells
theorem yrow_length (ys : List Yv) : (yrow ys).length = ys.length * 2 := by
  induction ys with
  | nil => rfl
  | cons y ys ih => simp only [yrow, List.flatMap_cons, List.length_append, List.length_cons] at ih ⊢; rw [ih]; simp [ycells]; omega
/-- How far the last one goes. -/
def lastPos : List Yv → Nat
  | [] => 0
  | [y] => y.pos
  | _ :: ys => lastPos ys
theorem lastPos_snoc : ∀ (ys : List Yv) (y : Yv), lastPos (ys ++ [y]) = y.pos
  | [], y => rfl
  | [x], y => rfl
  | x :: z :: ys, y => lastPos_snoc (z :: ys) y
theorem lastPos_path {s : ByteArray} : ∀ {ys : List Yv} {p q : Nat}, Path s ys p q → ys ≠ [] → lastPos ys = q
  | [], _, _, _, h => absurd rfl h
  | [y], p, q, ⟨_, _, _, h⟩, _ => h
  | y :: z :: ys, p, q, ⟨_, _, _, h⟩, _ => lastPos_path (ys := z :: ys) h (by simp)
theorem lastPos_le (ys : List Yv) : lastPos ys ≤ 140737488351232 := by
  rcases List.eq_nil_or_concat ys with rfl | ⟨m, y, h⟩
  · decide
  · rw [h, List.concat_eq_append, lastPos_snoc]; exact y.hpos
/-- The frames that the loop takes: none has an error, and they are numbered one by one. -/
def Taken (first : Nat) (ys : List Yv) : Prop := ∀ i (h : i < ys.length), ys[i].err = 0 ∧ ys[i].num = (first + i) % Frm.M64
theorem Taken.nil (first : Nat) : Taken first [] := fun i h => by simp at h
theorem Taken.snoc {first : Nat} {ys : List Yv} {y : Yv} (h : Taken first ys) (he : y.err = 0) (hn : y.num = (first + ys.length) % Frm.M64) : Taken first (ys ++ [y]) := by
  intro i hi
  by_cases hl : i < ys.length
  · rw [List.getElem_append_left hl]; exact h i hl
  · have : i = ys.length := by simp at hi; omega
    subst this
    simpa using ⟨he, hn⟩

/-- Between two rounds. -/
structure ScanI (w : World) (s : ByteArray) (first : Nat) (pre : List Yv) (W : World) : Prop where
  hfirst : W.heap[w.heap.size]? = some (.cells #[.int .u64 first] 22 (0, 0))
  l : ∃ a cap, W.heap[w.heap.size + 1]? = some (.cells #[.slice a pre.length cap] 39 (0, 0)) ∧ SliceIs W 24 2 a pre.length cap (yrow pre) ∧ ∀ k ∈ blks a, w.heap.size + 5 ≤ k
  used : W.heap[w.heap.size + 2]? = some (.cells #[.int .i64 (lastPos pre)] 3 (0, 0))
  e : W.heap[w.heap.size + 3]? = some (.cells #[.int .i64 0] 30 (0, 0))
  str : W.heap[w.heap.size + 4]? = some (.cells #[.string s] 9 (0, 0))
  ok : Taken first pre
  own : Own w.heap.size w W
/-- A round has left: what is handed back. -/
structure ScanX (w : World) (s : ByteArray) (first : Nat) (c : Code) (ys : List Yv) (W : World) : Prop where
  c : c = .ret
  out : ∃ pre y err, ys = pre ++ [y] ∧ Taken first pre ∧ (y.err ≠ 0 ∧ err = y.err ∨ y.err = 0 ∧ y.num ≠ (first + pre.length) % Frm.M64 ∧ err = 7) ∧
    W.heap[w.heap.size + 2]? = some (.cells #[.int .i64 (lastPos pre)] 3 (0, 0)) ∧ W.heap[w.heap.size + 3]? = some (.cells #[.int .i64 (err : Nat)] 30 (0, 0)) ∧
    ∃ a cap, W.heap[w.heap.size + 1]? = some (.cells #[.slice a pre.length cap] 39 (0, 0)) ∧ SliceIs W 24 2 a pre.length cap (yrow pre) ∧ ∀ k ∈ blks a, w.heap.size + 5 ≤ k
  own : Own w.heap.size w W

theorem own_grown {B C : Nat} {w W W' : World} {row : Option Nat} (h : Own B w W) (hB : B ≤ C) (hg : W.grownBy W' row) (hr : ∀ r, row = some r → C ≤ r ∧ ∃ o : Obj, W.heap[r]? = some o ∧ o.isCells = false) : Own B w W' :=
  h.upd (F := row.toList) ⟨hg.os, hg.tape, hg.output, hg.size, fun k hk hF => hg.block k hk (fun e => hF (by rw [← e]; simp))⟩ (fun x hx => by have := (hr x (by simpa using hx)).1; omega)
theorem cells_grown {C : Nat} {W W' : World} {row : Option Nat} (hg : W.grownBy W' row) (hr : ∀ r, row = some r → C ≤ r ∧ ∃ o : Obj, W.heap[r]? = some o ∧ o.isCells = false) {k : Nat} {cs : Array Value} {t : TypeId} {fr : Nat × Nat}
    (hk : W.heap[k]? = some (.cells cs t fr)) : W'.heap[k]? = W.heap[k]? := by
  refine hg.block k (blk_lt hk) (fun e => ?_)
  obtain ⟨_, o, ho, hc⟩ := hr k e.symm
  rw [hk] at ho; cases ho; cases hc
theorem slice_grown {C : Nat} {W W' : World} {row : Option Nat} (hg : W.grownBy W' row) (hr : ∀ r, row = some r → C ≤ r ∧ ∃ o : Obj, W.heap[r]? = some o ∧ o.isCells = false) {e : TypeId} {size : Nat} {a : Option Addr} {n cap : Nat} {xs : List Value}
    (h : SliceIs W e size a n cap xs) : SliceIs W' e size a n cap xs := by
  refine h.keep fun k hk => ?_
  rcases h.2 with ⟨rfl, _⟩ | ⟨g, off, cur, rfl, hgc, _⟩
  · simp at hk
  · simp at hk; subst hk; exact cells_grown hg hr hgc
theorem scanI_own (w : World) (s : ByteArray) (first : Nat) (C : Nat) (hC : w.heap.size ≤ C) : OwnFrom C (ScanI w s first) := fun pre W W' row h hg hr =>
  ⟨(cells_grown hg hr h.hfirst).trans h.hfirst, by obtain ⟨a, cap, h1, h2, h3⟩ := h.l; exact ⟨a, cap, (cells_grown hg hr h1).trans h1, slice_grown hg hr h2, h3⟩, (cells_grown hg hr h.used).trans h.used, (cells_grown hg hr h.e).trans h.e, (cells_grown hg hr h.str).trans h.str, h.ok, own_grown h.own hC hg hr⟩
theorem scanX_own (w : World) (s : ByteArray) (first : Nat) (C : Nat) (hC : w.heap.size ≤ C) (c : Code) : OwnFrom C (ScanX w s first c) := fun ys W W' row h hg hr =>
  ⟨h.c, by obtain ⟨pre, y, err, e1, e2, e3, e4, e5, a, cap, h1, h2, h3⟩ := h.out; exact ⟨pre, y, err, e1, e2, e3, (cells_grown hg hr e4).trans e4, (cells_grown hg hr e5).trans e5, a, cap, (cells_grown hg hr h1).trans h1, slice_grown hg hr h2, h3⟩, own_grown h.own hC hg hr⟩

theorem scanI_below {w : World} {s : ByteArray} {first : Nat} {pre : List Yv} {W W' : World} (h : ScanI w s first pre W) (hb : Below W.heap.size W W') : ScanI w s first pre W' :=
  ⟨(hb.block _ (blk_lt h.hfirst)).trans h.hfirst, by obtain ⟨a, cap, h1, h2, h3⟩ := h.l; exact ⟨a, cap, (hb.block _ (blk_lt h1)).trans h1, h2.keep fun k hk => hb.block k (h2.lt k hk), h3⟩,
    (hb.block _ (blk_lt h.used)).trans h.used, (hb.block _ (blk_lt h.e)).trans h.e, (hb.block _ (blk_lt h.str)).trans h.str, h.ok, h.own.trans hb⟩
theorem keepsFrom_upd {C : Nat} {W W' : World} {F : List Nat} (h : Upd W W' F) (hF : ∀ k ∈ F, k < C ∨ ∃ cs t fr, W.heap[k]? = some (.cells cs t fr)) : KeepsFrom C W W' :=
  ⟨h.size, fun k o hC hk ho => (h.keep k (Array.getElem?_eq_some_iff.1 hk).1 (fun hf => by
    rcases hF k hf with h1 | ⟨cs, t, fr, h1⟩
    · omega
    · rw [hk] at h1; cases h1; cases ho)).trans hk⟩
theorem keepsFrom_below {C : Nat} {W W' : World} (h : Below W.heap.size W W') : KeepsFrom C W W' := keepsFrom_upd (Upd.of_below [] h) (by simp)
theorem SliceIs.isCells {w : World} {e : TypeId} {size : Nat} {a : Option Addr} {n cap : Nat} {xs : List Value} (h : SliceIs w e size a n cap xs) : ∀ k ∈ blks a, ∃ cs t fr, w.heap[k]? = some (.cells cs t fr) := by
  intro k hk
  rcases h.2 with ⟨rfl, _⟩ | ⟨g, off, cur, rfl, hgc, _⟩
  · simp at hk
  · simp at hk; subst hk; exact ⟨_, _, _, hgc⟩
/-- A round that leaves. -/
theorem scan_left {w : World} {s : ByteArray} {first : Nat} {pre : List Yv} {W Wf : World} {y : Yv} {err : Nat} (h : ScanI w s first pre W) (hu : Upd W Wf [w.heap.size + 1, w.heap.size + 2, w.heap.size + 3])
    (h1 : Wf.heap[w.heap.size + 1]? = W.heap[w.heap.size + 1]?) (h2 : Wf.heap[w.heap.size + 2]? = W.heap[w.heap.size + 2]?) (h3 : Wf.heap[w.heap.size + 3]? = some (.cells #[.int .i64 err] 30 (0, 0)))
    (hc : y.err ≠ 0 ∧ err = y.err ∨ y.err = 0 ∧ y.num ≠ (first + pre.length) % Frm.M64 ∧ err = 7) : KeepsFrom (w.heap.size + 5) W Wf ∧ ScanX w s first .ret (pre ++ [y]) Wf := by
  refine ⟨keepsFrom_upd hu (by intro k hk; simp at hk; omega), rfl, ?_, h.own.upd hu (by intro k hk; simp at hk; omega)⟩
  obtain ⟨a, cap, g1, g2, g3⟩ := h.l
  refine ⟨pre, y, err, rfl, h.ok, hc, h2.trans h.used, h3, a, cap, h1.trans g1, g2.keep fun k hk => hu.keep k (g2.lt k hk) (fun hf => ?_), g3⟩
  have := g3 k hk
  simp at hf; omega
theorem heap_set1 {w : World} {g k : Nat} {v u : Value} {t : TypeId} (hg : w.heap[g]? = some (.cells #[u] t (0, 0))) : (w.setCell ⟨g, 0, none⟩ v).heap[g]? = some (.cells #[v] t (0, 0)) := by
  rw [heap_set v hg]; rfl
theorem scan_left_w {w : World} {s : ByteArray} {first : Nat} {pre : List Yv} {W : World} {y : Yv} {err : Nat} {a : Option Addr} {cap : Nat} (h : ScanI w s first pre W)
    (g1 : W.heap[w.heap.size + 1]? = some (.cells #[.slice a pre.length cap] 39 (0, 0)))
    (hc : y.err ≠ 0 ∧ err = y.err ∨ y.err = 0 ∧ y.num ≠ (first + pre.length) % Frm.M64 ∧ err = 7) {C : Nat} (hC : C = w.heap.size + 5) :
    KeepsFrom C W (((W.setCell ⟨w.heap.size + 1, 0, none⟩ (.slice a pre.length cap)).setCell ⟨w.heap.size + 2, 0, none⟩ (.int .i64 (lastPos pre))).setCell ⟨w.heap.size + 3, 0, none⟩ (.int .i64 err)).drew ∧
      ScanX w s first .ret (pre ++ [y]) (((W.setCell ⟨w.heap.size + 1, 0, none⟩ (.slice a pre.length cap)).setCell ⟨w.heap.size + 2, 0, none⟩ (.int .i64 (lastPos pre))).setCell ⟨w.heap.size + 3, 0, none⟩ (.int .i64 err)).drew := by
  subst hC
  refine scan_left h ((((Upd.refl W _).setCell (.inl (by simp)) _).setCell (.inl (by simp)) _).setCell (.inl (by simp)) _).drew ?_ ?_ ?_ hc
  · rw [heap_drew, heap_setCell_other _ _ _ _ (by simp), heap_setCell_other _ _ _ _ (by simp), heap_set1 (k := 0) g1, g1]
  · rw [heap_drew, heap_setCell_other _ _ _ _ (by simp), heap_set1 (k := 0) (u := .int .i64 (lastPos pre)) (by rw [heap_setCell_other _ _ _ _ (by simp)]; exact h.used), h.used]
  · rw [heap_drew, heap_set1 (k := 0) (u := .int .i64 0) (by rw [heap_setCell_other _ _ _ _ (by simp), heap_setCell_other _ _ _ _ (by simp)]; exact h.e)]
/-- A round that goes on. -/
theorem scan_on {w : World} {s : ByteArray} {first : Nat} {pre : List Yv} {W Wf : World} {y : Yv} {a a' : Option Addr} {cap cap' : Nat} (h : ScanI w s first pre W)
    (g2 : SliceIs W 24 2 a pre.length cap (yrow pre)) (g3 : ∀ k ∈ blks a, w.heap.size + 5 ≤ k)
    (hu : Upd W Wf ([w.heap.size + 1, w.heap.size + 2] ++ blks a)) (h1 : Wf.heap[w.heap.size + 1]? = some (.cells #[.slice a' (pre.length + 1) cap'] 39 (0, 0)))
    (h2 : Wf.heap[w.heap.size + 2]? = some (.cells #[.int .i64 y.pos] 3 (0, 0))) (hS : SliceIs Wf 24 2 a' (pre.length + 1) cap' (yrow pre ++ ycells y)) (hb : ∀ k ∈ blks a', w.heap.size + 5 ≤ k)
    (he : y.err = 0) (hn : y.num = (first + pre.length) % Frm.M64) : KeepsFrom (w.heap.size + 5) W Wf ∧ KpS (w.heap.size + 4) W Wf ∧ ScanI w s first (pre ++ [y]) Wf := by
  have keep : ∀ k, k < w.heap.size + 5 → k ≠ w.heap.size + 1 → k ≠ w.heap.size + 2 → k < W.heap.size → Wf.heap[k]? = W.heap[k]? := fun k hk n1 n2 hl => hu.keep k hl (fun hf => by
    rcases List.mem_append.1 hf with hf | hf
    · simp at hf; omega
    · have := g3 k hf; omega)
  have hY : yrow (pre ++ [y]) = yrow pre ++ ycells y := by simp [yrow]
  have hL : (pre ++ [y]).length = pre.length + 1 := by simp
  refine ⟨keepsFrom_upd hu ?_, keep _ (by omega) (by omega) (by omega) (blk_lt h.str), ⟨(keep _ (by omega) (by omega) (by omega) (blk_lt h.hfirst)).trans h.hfirst, ⟨a', cap', by rw [hL]; exact h1, by rw [hY, hL]; exact hS, hb⟩, ?_, (keep _ (by omega) (by omega) (by omega) (blk_lt h.e)).trans h.e, (keep _ (by omega) (by omega) (by omega) (blk_lt h.str)).trans h.str, h.ok.snoc he hn, h.own.upd hu ?_⟩⟩
  · intro k hk
    rcases List.mem_append.1 hk with hk | hk
    · simp at hk; omega
    · exact .inr (g2.isCells k hk)
  · rw [lastPos_snoc]; exact h2
  · intro k hk
    rcases List.mem_append.1 hk with hk | hk
    · simp at hk; omega
    · have := g3 k hk; omega

theorem scan_on_w {w : World} {s : ByteArray} {first : Nat} {pre : List Yv} {W W2 : World} {y : Yv} {a a' : Option Addr} {cap cap' : Nat} (h : ScanI w s first pre W)
    (g1 : W.heap[w.heap.size + 1]? = some (.cells #[.slice a pre.length cap] 39 (0, 0)))
    (g2 : SliceIs W 24 2 a pre.length cap (yrow pre)) (g3 : ∀ k ∈ blks a, w.heap.size + 5 ≤ k)
    (hu : Upd (W.alloc (.cells #[.int .u64 y.num, .string y.text] 24)).drew W2 (blks a)) (hS : SliceIs W2 24 2 a' (pre.length + 1) cap' (yrow pre ++ ycells y))
    (hb : ∀ k ∈ blks a', k ∈ blks a ∨ (W.alloc (.cells #[.int .u64 y.num, .string y.text] 24)).drew.heap.size ≤ k)
    (he : y.err = 0) (hn : y.num = (first + pre.length) % Frm.M64) {C : Nat} (hC : C = w.heap.size + 5) :
    KeepsFrom C W ((W2.setCell ⟨w.heap.size + 1, 0, none⟩ (.slice a' (pre.length + 1) cap')).setCell ⟨w.heap.size + 2, 0, none⟩ (.int .i64 y.pos)) ∧
      KpS (w.heap.size + 4) W ((W2.setCell ⟨w.heap.size + 1, 0, none⟩ (.slice a' (pre.length + 1) cap')).setCell ⟨w.heap.size + 2, 0, none⟩ (.int .i64 y.pos)) ∧
      ScanI w s first (pre ++ [y]) ((W2.setCell ⟨w.heap.size + 1, 0, none⟩ (.slice a' (pre.length + 1) cap')).setCell ⟨w.heap.size + 2, 0, none⟩ (.int .i64 y.pos)) := by
  subst hC
  have hu2 : Upd W W2 (blks a) := ((Upd.refl W (blks a)).alloc (.cells #[.int .u64 y.num, .string y.text] 24)).drew.trans hu (fun x hx => .inl hx)
  have k1 := (hu2.keep _ (blk_lt g1) (g2.ne g1 (by decide))).trans g1
  have k2 := (hu2.keep _ (blk_lt h.used) (g2.ne h.used (by decide))).trans h.used
  have hlt := blk_lt h.str
  have hb' : ∀ k ∈ blks a', w.heap.size + 5 ≤ k := fun k hk => by
    rcases hb k hk with h1 | h1
    · exact g3 k h1
    · simp at h1; omega
  refine scan_on (a := a) (a' := a') (cap := cap) (cap' := cap') h g2 g3 ?_ ?_ ?_ ?_ hb' he hn
  · exact ((hu2.mono (fun x hx => List.mem_append.2 (.inr hx))).setCell (.inl (by simp)) _).setCell (.inl (by simp)) _
  · rw [heap_setCell_other _ _ _ _ (by simp), heap_set1 (k := 0) k1]
  · rw [heap_set1 (k := 0) (u := .int .i64 (lastPos pre)) (by rw [heap_setCell_other _ _ _ _ (by simp)]; exact k2)]
  · refine hS.keep fun k hk => ?_
    have := hb' k hk
    rw [heap_setCell_other _ _ _ _ (by simp; omega), heap_setCell_other _ _ _ _ (by simp; omega)]

/-! ### What is handed back -/
def recY (y : Yv) : Frm.Rec := ⟨y.num, L y.text⟩
def rrow (rs : List Frm.Rec) : List Value := rs.flatMap fun r => [.int .u64 r.num, .string (S r.text)]
theorem rrow_map (ys : List Yv) : rrow (ys.map recY) = yrow ys := by
  simp [rrow, yrow, List.flatMap_map, recY, S_L]; rfl
theorem recY_at {s : ByteArray} {p : Nat} {y : Yv} (h : y.At s p) : recY y = (Frm.dec ((L s).drop p)).r := by
  unfold recY; rw [h.1, h.2.1, L_S]
theorem path_scan {s : ByteArray} {first : Nat} : ∀ {ys : List Yv} {acc : List Frm.Rec} {p q : Nat}, Frm.Scanning (L s) first acc p ((first + acc.length) % Frm.M64) → Path s ys p q →
    (∀ i (h : i < ys.length), ys[i].num = (first + (acc.length + i)) % Frm.M64) → Frm.Scanning (L s) first (acc ++ ys.map recY) q ((first + (acc.length + ys.length)) % Frm.M64)
  | [], acc, p, q, h, hp, _ => by cases hp; simpa using h
  | y :: ys, acc, p, q, h, ⟨h1, h2, h3, h4⟩, hn => by
    have hy := recY_at h2
    have hnum : (Frm.dec ((L s).drop p)).r.num = (first + acc.length) % Frm.M64 := by rw [← hy]; exact hn 0 (by simp)
    have hst := h.step (by rw [L_size]; exact h1) (by rw [← h2.2.2.2]; exact h3) hnum
    rw [← hy, ← h2.2.2.1] at hst
    have e : ((first + acc.length) % Frm.M64 + 1) % Frm.M64 = (first + (acc ++ [recY y]).length) % Frm.M64 := by
      rw [Nat.mod_add_mod]; simp [Nat.add_assoc]
    rw [e] at hst
    have := path_scan hst h4 (fun i hi => by
      have := hn (i + 1) (by simpa using hi)
      simp only [List.getElem_cons_succ] at this
      rw [this]; congr 1; simp; omega)
    have e2 : (acc ++ [recY y]).length + ys.length = acc.length + (y :: ys).length := by simp; omega
    rw [e2] at this
    simpa using this
theorem taken_scan {s : ByteArray} {first q : Nat} {ys : List Yv} (hf : first < Frm.M64) (hp : Path s ys 0 q) (ht : Taken first ys) : Frm.Scanning (L s) first (ys.map recY) q ((first + ys.length) % Frm.M64) := by
  have h0 := Frm.Scanning.start (L s) first hf
  have h1 : Frm.Scanning (L s) first [] 0 ((first + ([] : List Frm.Rec).length) % Frm.M64) := by
    rw [List.length_nil, Nat.add_zero, Nat.mod_eq_of_lt hf]; exact h0
  have := path_scan h1 hp (fun i hi => by simpa using (ht i hi).2)
  simpa using this
theorem path_last {s : ByteArray} {q : Nat} {ys : List Yv} (hp : Path s ys 0 q) : lastPos ys = q := by
  by_cases h : ys = []
  · subst h; exact hp
  · exact lastPos_path hp h
theorem scan_all {s : ByteArray} {first : Nat} {ys : List Yv} (hf : first < Frm.M64) (hS : AllY s ys) (ht : Taken first ys) : Frm.scan (L s) first = (ys.map recY, lastPos ys, 0) := by
  rcases hS with hp | ⟨pre, y, q, rfl, hp, hq, hy, he⟩
  · rw [path_last hp]; exact (taken_scan hf hp ht).done (by rw [L_size]; omega)
  · exact absurd (by simpa using (ht pre.length (by simp)).1) he
theorem scan_some {s : ByteArray} {first : Nat} {ys pre : List Yv} {y : Yv} {err : Nat} (hf : first < Frm.M64) (hS : SomeY s ys) (e : ys = pre ++ [y]) (ht : Taken first pre)
    (hc : y.err ≠ 0 ∧ err = y.err ∨ y.err = 0 ∧ y.num ≠ (first + pre.length) % Frm.M64 ∧ err = 7) : Frm.scan (L s) first = (pre.map recY, lastPos pre, err) := by
  obtain ⟨pre', y', q, rfl, hp, hq, hy⟩ := hS
  have := List.append_inj' e rfl
  obtain ⟨rfl, e2⟩ := this
  obtain rfl : y' = y := by simpa using e2
  have hsc := taken_scan hf hp ht
  rw [path_last hp]
  rcases hc with ⟨h1, rfl⟩ | ⟨h1, h2, rfl⟩
  · have := hsc.fault (by rw [L_size]; exact hq) (by rw [← hy.2.2.2]; exact h1)
    rw [this, ← hy.2.2.2]
  · exact hsc.form (by rw [L_size]; exact hq) (by rw [← hy.2.2.2]; exact h1) (by rw [← hy.1]; exact h2)

/-- What Scan hands back. -/
def ScanOut (s : ByteArray) (first : Nat) (w : World) (e : Ending) (w' : World) : Prop :=
  ∃ a cap, e = .returned (.tuple #[.slice a (Frm.scan (L s) first).1.length cap, .int .i64 (Frm.scan (L s) first).2.1, .int .i64 (Frm.scan (L s) first).2.2]) ∧
    SliceIs w' 24 2 a (Frm.scan (L s) first).1.length cap (rrow (Frm.scan (L s) first).1) ∧ Below w.heap.size w w' ∧ ∀ k ∈ blks a, w.heap.size ≤ k
/-- The results' boxes. -/
structure ScanFin (w : World) (pre : List Yv) (err : Nat) (a : Option Addr) (cap : Nat) (W : World) : Prop where
  b1 : W.heap[w.heap.size + 1]? = some (.cells #[.slice a pre.length cap] 39 (0, 0))
  b2 : W.heap[w.heap.size + 2]? = some (.cells #[.int .i64 (lastPos pre)] 3 (0, 0))
  b3 : W.heap[w.heap.size + 3]? = some (.cells #[.int .i64 err] 30 (0, 0))
  row : SliceIs W 24 2 a pre.length cap (yrow pre)
  fresh : ∀ k ∈ blks a, w.heap.size + 5 ≤ k
  own : Own w.heap.size w W
theorem ScanFin.put {w : World} {pre : List Yv} {err : Nat} {a : Option Addr} {cap : Nat} {W : World} (h : ScanFin w pre err a cap W) {D : Nat} (hD : w.heap.size + 5 ≤ D) {ds : Option (List Deferred)} (hK : W.heap[D]? = some (.deferred ds)) (o : Obj) :
    ScanFin w pre err a cap (W.putObj D o) :=
  have hg := grownBy_putObj' W D o
  have hr : ∀ r, some D = some r → w.heap.size + 5 ≤ r ∧ ∃ o : Obj, W.heap[r]? = some o ∧ o.isCells = false := fun r e => by cases e; exact ⟨hD, _, hK, rfl⟩
  ⟨(cells_grown hg hr h.b1).trans h.b1, (cells_grown hg hr h.b2).trans h.b2, (cells_grown hg hr h.b3).trans h.b3, slice_grown hg hr h.row, h.fresh, own_grown h.own (by omega) hg hr⟩
theorem ScanFin.cells {w : World} {pre : List Yv} {err : Nat} {a : Option Addr} {cap : Nat} {W : World} (h : ScanFin w pre err a cap W) :
    W.cell? ⟨w.heap.size + 1, 0, none⟩ = some (.slice a pre.length cap) ∧ W.cell? ⟨w.heap.size + 2, 0, none⟩ = some (.int .i64 (lastPos pre)) ∧ W.cell? ⟨w.heap.size + 3, 0, none⟩ = some (.int .i64 err) :=
  ⟨by rw [cell_of_row _ _ _ _ _ _ h.b1]; rfl, by rw [cell_of_row _ _ _ _ _ _ h.b2]; rfl, by rw [cell_of_row _ _ _ _ _ _ h.b3]; rfl⟩
theorem ScanFin.out {w : World} {pre : List Yv} {err : Nat} {a : Option Addr} {cap : Nat} {W : World} (h : ScanFin w pre err a cap W) {s : ByteArray} {first : Nat} (hs : Frm.scan (L s) first = (pre.map recY, lastPos pre, err)) :
    ScanOut s first w (.returned (.tuple #[.slice a pre.length cap, .int .i64 (lastPos pre), .int .i64 err])) W := by
  refine ⟨a, cap, by rw [hs]; simp, by rw [hs, rrow_map]; simpa using h.row, h.own.below, fun k hk => by have := h.fresh k hk; omega⟩
theorem scan_done_w {w : World} {s : ByteArray} {first : Nat} {pre : List Yv} {W : World} {a : Option Addr} {cap : Nat} (h : ScanI w s first pre W)
    (g1 : W.heap[w.heap.size + 1]? = some (.cells #[.slice a pre.length cap] 39 (0, 0))) (g2 : SliceIs W 24 2 a pre.length cap (yrow pre)) (g3 : ∀ k ∈ blks a, w.heap.size + 5 ≤ k) :
    ScanFin w pre 0 a cap (((W.setCell ⟨w.heap.size + 1, 0, none⟩ (.slice a pre.length cap)).setCell ⟨w.heap.size + 2, 0, none⟩ (.int .i64 (lastPos pre))).setCell ⟨w.heap.size + 3, 0, none⟩ (.int .i64 0)).drew ∧
    ∀ D o, w.heap.size + 5 ≤ D → W.heap[D]? = some o → ((((W.setCell ⟨w.heap.size + 1, 0, none⟩ (.slice a pre.length cap)).setCell ⟨w.heap.size + 2, 0, none⟩ (.int .i64 (lastPos pre))).setCell ⟨w.heap.size + 3, 0, none⟩ (.int .i64 0)).drew).heap[D]? = some o := by
  have hu : Upd W (((W.setCell ⟨w.heap.size + 1, 0, none⟩ (.slice a pre.length cap)).setCell ⟨w.heap.size + 2, 0, none⟩ (.int .i64 (lastPos pre))).setCell ⟨w.heap.size + 3, 0, none⟩ (.int .i64 0)).drew [w.heap.size + 1, w.heap.size + 2, w.heap.size + 3] :=
    ((((Upd.refl W _).setCell (.inl (by simp)) _).setCell (.inl (by simp)) _).setCell (.inl (by simp)) _).drew
  refine ⟨⟨?_, ?_, ?_, g2.keep fun k hk => hu.keep k (g2.lt k hk) (fun hf => by have := g3 k hk; simp at hf; omega), g3, h.own.upd hu (by intro k hk; simp at hk; omega)⟩, fun D o hD ho => (hu.keep D (Array.getElem?_eq_some_iff.1 ho).1 (by simp; omega)).trans ho⟩
  · rw [heap_drew, heap_setCell_other _ _ _ _ (by simp), heap_setCell_other _ _ _ _ (by simp), heap_set1 (k := 0) g1]
  · rw [heap_drew, heap_setCell_other _ _ _ _ (by simp), heap_set1 (k := 0) (u := .int .i64 (lastPos pre)) (by rw [heap_setCell_other _ _ _ _ (by simp)]; exact h.used)]
  · rw [heap_drew, heap_set1 (k := 0) (u := .int .i64 0) (by rw [heap_setCell_other _ _ _ _ (by simp), heap_setCell_other _ _ _ _ (by simp)]; exact h.e)]; rfl

theorem recInfo : (Try.prog.info? 24).map (fun i => (i.zero, i.size, i.bytes)) = some (some (.agg #[.int .u64 0, .string ⟨#[]⟩]), 2, 24) := by kernel_rfl
/-- The boxes of the loop's variables. -/
def AxY (w : World) (s : ByteArray) (first : Nat) (x : Yv) (a' : Act) (W : World) : Prop :=
  ∃ R, w.heap.size + 5 ≤ R ∧ W.heap[R]? = some (.cells #[.int .u64 x.num, .string x.text] 24 (0, 0)) ∧ W.heap[R + 1]? = some (.cells #[.int .i64 x.pos, .int .i64 x.err] 65 (0, 0)) ∧
    a' = { tmps := #[.string s, .int .u64 first, undef, .pointer (some ⟨w.heap.size, 0, none⟩), .pointer (some ⟨w.heap.size + 1, 0, none⟩), .pointer (some ⟨w.heap.size + 2, 0, none⟩), .pointer (some ⟨w.heap.size + 3, 0, none⟩),
      .pointer (some ⟨R, 0, none⟩), .pointer (some ⟨R + 1, 0, none⟩), .string s, .func (.func 28) #[] #[.pointer (some ⟨w.heap.size + 4, 0, none⟩)],
      .agg #[.int .u64 x.num, .string x.text], .agg #[.int .i64 x.pos, .int .i64 x.err], undef, undef, undef, undef, undef, undef, undef, undef, undef, undef, undef, undef, undef, undef, undef, undef, undef, undef, undef, undef, undef, undef, undef, undef, undef, undef, undef], defers := [] }
theorem axY_own (w : World) (s : ByteArray) (first : Nat) (C : Nat) (x : Yv) (a' : Act) : OwnFrom C (fun (_ : Unit) W => AxY w s first x a' W) := fun _ W W' row h hg hr => by
  obtain ⟨R, h1, h2, h3, h4⟩ := h
  exact ⟨R, h1, (cells_grown hg hr h2).trans h2, (cells_grown hg hr h3).trans h3, h4⟩

attribute [local go_sem ↓ high] appSem_eq
set_option maxRecDepth 100000 in
set_option maxHeartbeats 2000000 in
theorem frame_scan (s : ByteArray) (first : Nat) (w : World) (hs : s.size ≤ 1073741824) (hf : first < 18446744073709551616) :
    Calls Try.prog 16 #[.string s, .int .u64 first] w (ScanOut s first w) := by
  obtain ⟨i0, hi, hz0, hz1, hz2⟩ := info_parts recInfo
  refine (callsIn_wide (n := 6)).1 ?_
  refine callsIn_of_wp_marks Try.func16 rfl trivial ?_ rfl
  simp only [Try.ntmps16, List.size_toArray, List.length_cons, List.length_nil, Nat.reduceAdd, Nat.reduceSub, Array.replicate_succ, Array.replicate_zero, List.push_toArray, List.append_toArray, List.nil_append, List.cons_append]
  gi_wp2
  refine ⟨trivial, ?_⟩
  refine (callsIn_wide.2 (frames_any s _)).mono ?_
  rintro e w1 ⟨rfl, rfl⟩
  gi_wp2
  obtain ⟨W0, hW0⟩ : ∃ W0, ((((w.alloc (.cells #[.int .u64 first] 22)).alloc (.cells #[.slice none 0 0] 39)).alloc (.cells #[.int .i64 0] 3)).alloc (.cells #[.int .i64 0] 30)).alloc (.cells #[.string s] 9) = W0 := ⟨_, rfl⟩
  have h00 : ScanI w s first [] W0 := by
    subst hW0
    have hb1 := (Below.refl w.heap.size w).alloc (Nat.le_refl _) (.cells #[.int .u64 first] 22)
    have a0 := heap_alloc_new w (.cells #[.int .u64 first] 22)
    have a1 := heap_alloc_new (w.alloc (.cells #[.int .u64 first] 22)) (.cells #[.slice none 0 0] 39)
    have a2 := heap_alloc_new ((w.alloc (.cells #[.int .u64 first] 22)).alloc (.cells #[.slice none 0 0] 39)) (.cells #[.int .i64 0] 3)
    have a3 := heap_alloc_new (((w.alloc (.cells #[.int .u64 first] 22)).alloc (.cells #[.slice none 0 0] 39)).alloc (.cells #[.int .i64 0] 3)) (.cells #[.int .i64 0] 30)
    have a4 := heap_alloc_new ((((w.alloc (.cells #[.int .u64 first] 22)).alloc (.cells #[.slice none 0 0] 39)).alloc (.cells #[.int .i64 0] 3)).alloc (.cells #[.int .i64 0] 30)) (.cells #[.string s] 9)
    simp only [World.size_alloc] at a0 a1 a2 a3 a4
    refine ⟨?_, ⟨none, 0, ?_, SliceIs.nil _ _ _, by simp⟩, ?_, ?_, a4, Taken.nil _, ((((((Own.refl w).alloc _).alloc _).alloc _).alloc _).alloc _)⟩
    · rw [Below.heap_alloc _ _ _ (by simp <;> omega), Below.heap_alloc _ _ _ (by simp <;> omega), Below.heap_alloc _ _ _ (by simp <;> omega), Below.heap_alloc _ _ _ (by simp)]; exact a0
    · rw [Below.heap_alloc _ _ _ (by simp <;> omega), Below.heap_alloc _ _ _ (by simp <;> omega), Below.heap_alloc _ _ _ (by simp)]; exact a1
    · rw [Below.heap_alloc _ _ _ (by simp <;> omega), Below.heap_alloc _ _ _ (by simp)]; exact a2
    · rw [Below.heap_alloc _ _ _ (by simp)]; exact a3
  have hsz : W0.heap.size = w.heap.size + 5 := by subst hW0; simp
  rw [hW0]
  have HW0 := Lib.hid hW0
  have hstr : W0.heap[w.heap.size + 4]? = some (.cells #[.string s] 9 (0, 0)) := h00.str
  clear hW0
  refine wpIn_rangeFunc_ownH rfl (by decide) (gf := 28) (lb := #[.pointer (some ⟨w.heap.size + 4, 0, none⟩)]) rfl trivial (enters_of Try.func28 (by kernel_rfl) rfl)
    (frames_stops 5 (w.heap.size + 4) s (by omega) W0 hstr) (Kp := KpS (w.heap.size + 4)) (fun h k => k.trans h)
    (fun W l o o' hl _ _ _ => World.putObj_heap_other (by omega)) (Below.refl _ _) (fun _ => rfl)
    (ScanI w s first) (ScanX w s first) (scanI_own w s first _ (by omega)) (scanX_own w s first _ (by omega)) h00 (AxY w s first) (axY_own w s first _) ?assign ?body ?done ?stop
  case assign =>
    rintro l pre x W K hI hK
    gi_wp2
    have hb := ((Below.refl W.heap.size W).alloc (Nat.le_refl _) (.cells #[.int .u64 x.num, .string x.text] 24)).alloc (by simp) (.cells #[.int .i64 x.pos, .int .i64 x.err] 65)
    refine hK _ _ (keepsFrom_below hb) (hb.block _ (blk_lt hI.str)) (scanI_below hI hb) ⟨W.heap.size, ?_, ?_, ?_, rfl⟩
    · have := hI.l
      obtain ⟨a, cap, h1, _⟩ := this
      have h2 := blk_lt hI.str
      omega
    · exact (Below.heap_alloc _ _ _ (by simp)).trans (heap_alloc_new W _)
    · have := heap_alloc_new (W.alloc (.cells #[.int .u64 x.num, .string x.text] 24)) (.cells #[.int .i64 x.pos, .int .i64 x.err] 65)
      rwa [World.size_alloc] at this
  case body =>
    rintro l pre x a' W hl ⟨r, hr⟩ hI ⟨R, hR, hr1, hr2, rfl⟩ hlen
    have HI := Lib.hid hI
    obtain ⟨a, cap, g1, g2, g3⟩ := hI.l
    have hnI : (0 : Int) ≤ pre.length ∧ (pre.length : Int) ≤ 1073741824 := by omega
    have c0 : W.cell? ⟨w.heap.size, 0, none⟩ = some (.int .u64 first) := by rw [cell_of_row _ _ _ _ _ _ hI.hfirst]; rfl
    have c1 : W.cell? ⟨w.heap.size + 1, 0, none⟩ = some (.slice a pre.length cap) := by rw [cell_of_row _ _ _ _ _ _ g1]; rfl
    have c2 : W.cell? ⟨w.heap.size + 2, 0, none⟩ = some (.int .i64 (lastPos pre)) := by rw [cell_of_row _ _ _ _ _ _ hI.used]; rfl
    have c3 : W.cell? ⟨w.heap.size + 3, 0, none⟩ = some (.int .i64 0) := by rw [cell_of_row _ _ _ _ _ _ hI.e]; rfl
    have f1 := frozen_zero (i := 0) g1
    have f2 := frozen_zero (i := 0) hI.used
    have f3 := frozen_zero (i := 0) hI.e
    have r0 : W.cell? ⟨R, 0, none⟩ = some (.int .u64 x.num) := by rw [cell_of_row _ _ _ _ _ _ hr1]; rfl
    have r1 : W.cell? ⟨R, 1, none⟩ = some (.string x.text) := by rw [cell_of_row _ _ _ _ _ _ hr1]; rfl
    have t0 : W.cell? ⟨R + 1, 0, none⟩ = some (.int .i64 x.pos) := by rw [cell_of_row _ _ _ _ _ _ hr2]; rfl
    have t1 : W.cell? ⟨R + 1, 1, none⟩ = some (.int .i64 x.err) := by rw [cell_of_row _ _ _ _ _ _ hr2]; rfl
    have n1 : ¬ R + 1 = w.heap.size + 1 := by omega
    have n2 : ¬ R + 1 = w.heap.size + 2 := by omega
    have n3 : ¬ R + 1 = w.heap.size + 3 := by omega
    have G1 := Lib.hid g1
    have G2 := Lib.hid g2
    have G3 := Lib.hid g3
    have HR1 := Lib.hid hr1
    have HR2 := Lib.hid hr2
    have HSZ := Lib.hid hsz
    have hmix : Try.prog.follows .mixedOrders = true := by kernel_rfl
    clear hI g1 g2 g3 hr1 hr2 hr h00 hstr hsz
    have hxI : (0 : Int) ≤ x.num ∧ (x.num : Int) ≤ 18446744073709551615 := by have := x.hnum; omega
    by_cases he : x.err = 0
    · have he1 : ((x.err : Int) != 0) = false := by rw [he]; rfl
      have HE := Lib.hid he
      clear he
      have hsum : IntKind.u64.wrap ((first : Int) + (pre.length : Int)) = (((first + pre.length) % Frm.M64 : Nat) : Int) := by
        rw [IntKind.wrap_u64]; unfold Frm.M64; omega
      by_cases hn : x.num = (first + pre.length) % Frm.M64
      · have hn1 : ((x.num : Int) != IntKind.u64.wrap ((first : Int) + (pre.length : Int))) = false := by rw [hsum, ← hn]; simp
        have hn2 : ((x.num : Int) != ((first : Int) + (pre.length : Int)) % 18446744073709551616) = false := by rw [← IntKind.wrap_u64]; exact hn1
        clear hsum
        have HN := Lib.hid hn
        clear hn
        obtain ⟨a', cap', W2, hr, hS, hU, hbk⟩ := run_append_slice (P := Try.prog) (W.alloc (.cells #[.int .u64 x.num, .string x.text] 24)).drew 39 39 24 i0 (.agg #[.int .u64 0, .string ⟨#[]⟩]) 2 24 Try.underlying39 hi hz0 hz1 hz2 rfl (by decide) a pre.length cap (yrow pre) (G2.out.alloc _).drew ⟨W.heap.size, 0, none⟩ 1 1 (ycells x) rfl (news_of (CellsAt.new W (ycells x) _ _)) (by intro u hu; simp [ycells] at hu; rcases hu with rfl | rfl <;> rfl) (by unfold maxLen; omega) (by omega)
        change (appSem _ _ _).run _ _ = _ at hr
        have hal : ∀ k, k < W.heap.size → (W.alloc (.cells #[.int .u64 x.num, .string x.text] 24)).heap[k]? = W.heap[k]? := fun k hk => Below.heap_alloc _ _ _ hk
        have hkeep : ∀ k, k < W.heap.size → k ∉ blks a → W2.heap[k]? = W.heap[k]? := fun k hk hf => (hU.keep k (by simp; omega) hf).trans (hal k hk)
        have k1 := (hkeep _ (blk_lt G1.out) (G2.out.ne G1.out (by decide))).trans G1.out
        have k2 := (hkeep _ (blk_lt HI.out.used) (G2.out.ne HI.out.used (by decide))).trans HI.out.used
        have k3 := (hkeep _ (blk_lt HR2.out) (G2.out.ne HR2.out (by decide))).trans HR2.out
        have ta : (W.alloc (.cells #[.int .u64 x.num, .string x.text] 24)).cell? ⟨R + 1, 0, none⟩ = some (.int .i64 x.pos) := by rw [cell_of_row _ _ _ _ _ _ ((hal _ (blk_lt HR2.out)).trans HR2.out)]; rfl
        have tb : (W.alloc (.cells #[.int .u64 x.num, .string x.text] 24)).cell? ⟨w.heap.size + 1, 0, none⟩ = some (.slice a pre.length cap) := by rw [cell_of_row _ _ _ _ _ _ ((hal _ (blk_lt G1.out)).trans G1.out)]; rfl
        have d0 : W2.cell? ⟨R + 1, 0, none⟩ = some (.int .i64 x.pos) := by rw [cell_of_row _ _ _ _ _ _ k3]; rfl
        have d1 : W2.cell? ⟨w.heap.size + 1, 0, none⟩ = some (.slice a pre.length cap) := by rw [cell_of_row _ _ _ _ _ _ k1]; rfl
        have d2 : W2.cell? ⟨w.heap.size + 2, 0, none⟩ = some (.int .i64 (lastPos pre)) := by rw [cell_of_row _ _ _ _ _ _ k2]; rfl
        have d3 := frozen_zero (i := 0) k1
        have d4 := frozen_zero (i := 0) k2
        have K1 := Lib.hid k1
        have K2 := Lib.hid k2
        have HS := Lib.hid hS
        have HU := Lib.hid hU
        have HBK := Lib.hid hbk
        clear hkeep hal k1 k2 k3 hS hU hbk
        gi_wp2
        gi_region_with_o (fail)
        all_goals exact scan_on_w HI.out G1.out G2.out G3.out HU.out HS.out HBK.out HE.out HN.out HSZ.out
      · have hn1 : ((x.num : Int) != IntKind.u64.wrap ((first : Int) + (pre.length : Int))) = true := by rw [hsum, bne_iff_ne]; omega
        have hn2 : ((x.num : Int) != ((first : Int) + (pre.length : Int)) % 18446744073709551616) = true := by rw [← IntKind.wrap_u64]; exact hn1
        clear hsum
        have HN := Lib.hid hn
        clear hn
        gi_wp2
        gi_region_with_o (fail)
        all_goals
          gi_wp2
          exact scan_left_w HI.out G1.out (.inr ⟨HE.out, HN.out, rfl⟩) HSZ.out
    · have he1 : ((x.err : Int) != 0) = true := by rw [bne_iff_ne]; omega
      have HE := Lib.hid he
      clear he
      gi_wp2
      gi_region_with_o (fail)
      all_goals
        gi_wp2
        exact scan_left_w HI.out G1.out (.inl ⟨HE.out, rfl⟩) HSZ.out
  case done =>
    rintro D xs W hD hS hI hK
    obtain ⟨a, cap, g1, g2, g3⟩ := hI.l
    have hsc := scan_all (by exact hf) hS hI.ok
    obtain ⟨hfin, hkd⟩ := scan_done_w hI g1 g2 g3
    have hKd := hkd D _ (by omega) hK
    have hp := hfin.put (by omega) hKd (.deferred none)
    obtain ⟨z1, z2, z3⟩ := hp.cells
    have HO := Lib.hid (hp.out hsc)
    have HKD := Lib.hid hKd
    have c1 : W.cell? ⟨w.heap.size + 1, 0, none⟩ = some (.slice a xs.length cap) := by rw [cell_of_row _ _ _ _ _ _ g1]; rfl
    have c2 : W.cell? ⟨w.heap.size + 2, 0, none⟩ = some (.int .i64 (lastPos xs)) := by rw [cell_of_row _ _ _ _ _ _ hI.used]; rfl
    have c3 : W.cell? ⟨w.heap.size + 3, 0, none⟩ = some (.int .i64 0) := by rw [cell_of_row _ _ _ _ _ _ hI.e]; rfl
    have f1 := frozen_zero (i := 0) g1
    have f2 := frozen_zero (i := 0) hI.used
    have f3 := frozen_zero (i := 0) hI.e
    have hmix : Try.prog.follows .mixedOrders = true := by kernel_rfl
    clear hp hfin hkd hKd hsc hI hS g1 g2 g3 hK h00 hstr hsz
    gi_wp2
    gi_region_with_o (fail)
    all_goals
      gi_wp2
      refine ⟨by simp, .inl ⟨_, _, rfl, run_takeDeferred HKD.out, ?_⟩⟩
      refine ⟨.tuple #[.slice a xs.length cap, .int .i64 (lastPos xs), .int .i64 0], ?_, HO.out⟩
      simp [results, Try.f16, go_sem, z1, z2, z3]
  case stop =>
    rintro D c xs W hD hS hX hK
    obtain ⟨rfl⟩ := hX.c
    obtain ⟨pre, y, err, e1, e2, e3, b2, b3, a, cap, b1, g2, g3⟩ := hX.out
    have hsc := scan_some (by exact hf) hS e1 e2 e3
    have hfin : ScanFin w pre err a cap W := ⟨b1, b2, b3, g2, g3, hX.own⟩
    have hp := hfin.put (by omega) hK (.deferred none)
    obtain ⟨z1, z2, z3⟩ := hp.cells
    have HO := Lib.hid (hp.out hsc)
    have HKD := Lib.hid hK
    clear hp hfin hsc e1 e2 e3 b1 b2 b3 g2 g3 hK h00 hstr hsz hS hX
    gi_wp2
    refine ⟨by simp, .inl ⟨_, _, rfl, run_takeDeferred HKD.out, ?_⟩⟩
    refine ⟨.tuple #[.slice a pre.length cap, .int .i64 (lastPos pre), .int .i64 err], ?_, HO.out⟩
    simp [results, Try.f16, go_sem, z1, z2, z3]

end Go.Proofs.Yteipjgmbgkjjiaa
