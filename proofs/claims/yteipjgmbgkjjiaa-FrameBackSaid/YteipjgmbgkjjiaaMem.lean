/-
  MEMORY: which blocks a step may turn; cells that lie in a row; slices of whatever elements, by what each element's cells are; append.
-/
import Derived.Test.YteipjgmbgkjjiaaBase
import Derived.ArgAppend
set_option linter.unusedVariables false
set_option linter.unusedSimpArgs false
namespace Go.Proofs.Yteipjgmbgkjjiaa
open Go.RowKit

/-- Of what was there only the blocks of F may have turned. -/
structure Upd (w w' : World) (F : List Nat) : Prop where
  os : w'.os = w.os
  tape : w'.tape = w.tape
  output : w'.output = w.output
  size : w.heap.size ≤ w'.heap.size
  keep : ∀ k, k < w.heap.size → k ∉ F → w'.heap[k]? = w.heap[k]?

theorem Upd.refl (w : World) (F : List Nat) : Upd w w F := ⟨rfl, rfl, rfl, Nat.le_refl _, fun _ _ _ => rfl⟩
theorem Upd.trans {w w1 w2 : World} {F G : List Nat} (h : Upd w w1 F) (k : Upd w1 w2 G) (hG : ∀ x ∈ G, x ∈ F ∨ w.heap.size ≤ x) : Upd w w2 F :=
  ⟨k.os.trans h.os, k.tape.trans h.tape, k.output.trans h.output, Nat.le_trans h.size k.size, fun i hi hF =>
    (k.keep i (Nat.lt_of_lt_of_le hi h.size) (fun hg => by rcases hG i hg with h1 | h1; exact hF h1; omega)).trans (h.keep i hi hF)⟩
theorem Upd.mono {w w1 : World} {F G : List Nat} (h : Upd w w1 F) (hG : ∀ x ∈ F, x ∈ G) : Upd w w1 G :=
  ⟨h.os, h.tape, h.output, h.size, fun i hi hF => h.keep i hi fun hf => hF (hG i hf)⟩
theorem Upd.of_below {w w1 : World} (F : List Nat) (h : Below w.heap.size w w1) : Upd w w1 F := ⟨h.os, h.tape, h.output, h.size, fun i hi _ => h.block i hi⟩
theorem Upd.below {w w1 : World} (h : Upd w w1 []) : Below w.heap.size w w1 := ⟨h.os, h.tape, h.output, h.size, fun i hi => h.keep i hi (by simp)⟩
theorem Upd.drew {w w1 : World} {F : List Nat} (h : Upd w w1 F) : Upd w w1.drew F := ⟨h.os, h.tape, h.output, h.size, h.keep⟩
theorem Upd.drewN {w w1 : World} {F : List Nat} (h : Upd w w1 F) (n : Nat) : Upd w (w1.drewN n) F := ⟨h.os, h.tape, h.output, h.size, h.keep⟩
theorem Upd.alloc {w w1 : World} {F : List Nat} (h : Upd w w1 F) (o : Obj) : Upd w (w1.alloc o) F :=
  h.trans (Upd.of_below [] ((Below.refl _ _).alloc (Nat.le_refl _) o)) (by simp)
theorem Upd.setCell {w w1 : World} {F : List Nat} (h : Upd w w1 F) {p : Addr} (hp : p.block ∈ F ∨ w.heap.size ≤ p.block) (u : Value) : Upd w (w1.setCell p u) F :=
  h.trans (G := [p.block]) ⟨rfl, rfl, rfl, by simp, fun k _ hF => heap_setCell_other _ _ _ _ (by simpa using hF)⟩ (by intro x hx; simp at hx; subst hx; exact hp)
theorem Upd.setRow {w w1 : World} {F : List Nat} (h : Upd w w1 F) {g : Nat} (hp : g ∈ F ∨ w.heap.size ≤ g) (cs : Array Value) : Upd w (w1.setRow g cs) F :=
  h.trans (G := [g]) ⟨rfl, rfl, rfl, by simp, fun k _ hF => setRow_other _ _ _ _ (by simpa using hF)⟩ (by intro x hx; simp at hx; subst hx; exact hp)
theorem Upd.put {w w1 w2 : World} {F : List Nat} (h : Upd w w1 F) {g : Nat} {vs : Array Value} {t : TypeId} (p : PutAt w1 w2 g vs t) (hp : g ∈ F ∨ w.heap.size ≤ g) : Upd w w2 F :=
  h.trans (G := [g]) ⟨p.os, p.tape, p.output, by rw [p.size]; exact Nat.le_refl _, fun k _ hF => p.other k (by simpa using hF)⟩ (by intro x hx; simp at hx; subst hx; exact hp)
theorem Own.upd {B : Nat} {w0 w w' : World} {F : List Nat} (h : Own B w0 w) (u : Upd w w' F) (hF : ∀ x ∈ F, B ≤ x) : Own B w0 w' :=
  ⟨h.below.trans ⟨u.os, u.tape, u.output, u.size, fun k hk => u.keep k (Nat.lt_of_lt_of_le hk h.size) (fun hf => by have := hF k hf; omega)⟩, Nat.le_trans h.size u.size⟩

/-! ### Cells in a row -/
/-- At place p of block g lie the cells xs. -/
def CellsAt (w : World) (g p : Nat) (xs : List Value) : Prop :=
  ∃ cs t fr, w.heap[g]? = some (.cells cs t fr) ∧ p + xs.length ≤ cs.size ∧ (cs.toList.drop p).take xs.length = xs
theorem CellsAt.cell {w : World} {g p : Nat} {xs : List Value} (h : CellsAt w g p xs) (j : Nat) (hj : j < xs.length) : w.cell? ⟨g, p + j, none⟩ = some xs[j] := by
  obtain ⟨cs, t, fr, hg, hn, he⟩ := h
  rw [cell_of_row _ _ _ _ _ _ hg]
  have : xs[j]? = cs[p + j]? := by
    conv => lhs; rw [← he]
    rw [List.getElem?_take_of_lt hj, List.getElem?_drop]; simp
  rw [← this, List.getElem?_eq_getElem hj]
theorem CellsAt.keep {w w' : World} {g p : Nat} {xs : List Value} (h : CellsAt w g p xs) (hk : w'.heap[g]? = w.heap[g]?) : CellsAt w' g p xs := by
  obtain ⟨cs, t, fr, hg, hn, he⟩ := h
  exact ⟨cs, t, fr, hk.trans hg, hn, he⟩
theorem CellsAt.lt {w : World} {g p : Nat} {xs : List Value} (h : CellsAt w g p xs) : g < w.heap.size := by
  obtain ⟨cs, t, fr, hg, _⟩ := h; exact blk_lt hg
theorem CellsAt.new (w : World) (xs : List Value) (t : TypeId) (fr : Nat × Nat) : CellsAt (w.alloc (.cells xs.toArray t fr)) w.heap.size 0 xs :=
  ⟨_, _, _, heap_alloc_new w _, by simp, by simp⟩
section
variable {P : Program}
theorem wpList_load_at {ops : Array Oper} {rest : List Oper} {o : Oper} {a : Act} {w : World} {Q : Exit → Act → World → Prop} (hgd : o.guard = none) (ty : TypeId) (x : Operand) (ho : o.op = .load ty x)
    (g p : Nat) (hx : a.eval x = .pointer (some ⟨g, p, none⟩)) (xs : List Value) (d : TypeDesc) (hc : CellsAt w g p xs)
    (hu : P.underlying ty = some d) (hd : (match d with | .struct _ | .array _ _ => true | _ => false) = true) (hi : (P.info? ty).map (·.size) = some xs.length)
    (h : wpList P ops Q rest (a.put o.dst (.agg xs.toArray)) w) : wpList P ops Q (o :: rest) a w := by
  obtain ⟨cs, t, fr, hg, hn, he⟩ := hc
  refine wpList_load_agg hgd ty x ho g p xs.length hx t cs fr d hg hu hd hi hn ?_
  rw [he]; exact h
end

/-! ### Slices: by their cells -/
/-- The slice 'a, n, cap' has n elements of type e, of 'size' cells each; their cells are xs. -/
def SliceIs (w : World) (e : TypeId) (size : Nat) (a : Option Addr) (n cap : Nat) (xs : List Value) : Prop :=
  xs.length = n * size ∧
  ((a = none ∧ n = 0 ∧ cap = 0) ∨
   ∃ g off cur, a = some ⟨g, off, none⟩ ∧ w.heap[g]? = some (.cells cur e (0, 0)) ∧ n ≤ cap ∧ cap ≤ maxLen ∧ off + cap * size ≤ cur.size ∧ (cur.toList.drop off).take (n * size) = xs)
/-- The block of a slice's row. -/
def blks (a : Option Addr) : List Nat := a.toList.map (·.block)
@[simp] theorem blks_none : blks none = [] := rfl
@[simp] theorem blks_some (x : Addr) : blks (some x) = [x.block] := rfl
theorem SliceIs.nil (w : World) (e : TypeId) (size : Nat) : SliceIs w e size none 0 0 [] := ⟨by simp, .inl ⟨rfl, rfl, rfl⟩⟩
theorem SliceIs.of_own {w : World} {B : Nat} {e : TypeId} {size : Nat} {v : Value} {n : Nat} {xs : List Value} (h : w.ownsRow B e size v n xs) :
    ∃ a cap, v = .slice a n cap ∧ SliceIs w e size a n cap xs ∧ ∀ k ∈ blks a, B ≤ k := by
  rcases h.2 with ⟨rfl, rfl⟩ | ⟨g, cap, cur, rfl, hb, hg, h1, h2, h3, h4⟩
  · exact ⟨none, 0, rfl, ⟨h.1, .inl ⟨rfl, rfl, rfl⟩⟩, by simp⟩
  · exact ⟨_, cap, rfl, ⟨h.1, .inr ⟨g, 0, cur, rfl, hg, h1, h2, by omega, by simpa using h4⟩⟩, by simpa using hb⟩
theorem SliceIs.keep {w w' : World} {e : TypeId} {size : Nat} {a : Option Addr} {n cap : Nat} {xs : List Value} (h : SliceIs w e size a n cap xs) (hk : ∀ k ∈ blks a, w'.heap[k]? = w.heap[k]?) : SliceIs w' e size a n cap xs := by
  refine ⟨h.1, ?_⟩
  rcases h.2 with h | ⟨g, off, cur, rfl, hg, r⟩
  · exact .inl h
  · exact .inr ⟨g, off, cur, rfl, (hk g (by simp)).trans hg, r⟩
theorem SliceIs.lt {w : World} {e : TypeId} {size : Nat} {a : Option Addr} {n cap : Nat} {xs : List Value} (h : SliceIs w e size a n cap xs) : ∀ k ∈ blks a, k < w.heap.size := by
  rcases h.2 with ⟨rfl, _⟩ | ⟨g, off, cur, rfl, hg, r⟩
  · simp
  · intro k hk; simp at hk; subst hk; exact blk_lt hg
theorem SliceIs.alloc {w : World} {e : TypeId} {size : Nat} {a : Option Addr} {n cap : Nat} {xs : List Value} (h : SliceIs w e size a n cap xs) (o : Obj) : SliceIs (w.alloc o) e size a n cap xs :=
  h.keep fun k hk => Below.heap_alloc _ _ _ (h.lt k hk)
theorem SliceIs.drew {w : World} {e : TypeId} {size : Nat} {a : Option Addr} {n cap : Nat} {xs : List Value} (h : SliceIs w e size a n cap xs) : SliceIs w.drew e size a n cap xs := h.keep fun _ _ => rfl
/-- A block of another element type is not the slice's. -/
theorem SliceIs.ne {w : World} {e : TypeId} {size : Nat} {a : Option Addr} {n cap : Nat} {xs : List Value} (h : SliceIs w e size a n cap xs) {b : Nat} {cs : Array Value} {t : TypeId} {fr : Nat × Nat} (hb : w.heap[b]? = some (.cells cs t fr)) (ht : t ≠ e) : b ∉ blks a := by
  rcases h.2 with ⟨rfl, _⟩ | ⟨g, off, cur, rfl, hg, r⟩
  · simp
  · intro hk; simp at hk; subst hk; rw [hb] at hg; cases hg; exact ht rfl
theorem SliceIs.bound {w : World} {e : TypeId} {size : Nat} {a : Option Addr} {n cap : Nat} {xs : List Value} (h : SliceIs w e size a n cap xs) : n ≤ cap ∧ cap ≤ maxLen := by
  rcases h.2 with ⟨_, rfl, rfl⟩ | ⟨g, off, cur, rfl, hg, r, r2, _⟩
  · exact ⟨Nat.le_refl _, by decide⟩
  · exact ⟨r, r2⟩
/-- The elements' cells, all in a row. -/
theorem SliceIs.cells {w : World} {e : TypeId} {size : Nat} {g off : Nat} {n cap : Nat} {xs : List Value} (h : SliceIs w e size (some ⟨g, off, none⟩) n cap xs) : CellsAt w g off xs := by
  rcases h.2 with ⟨h, _⟩ | ⟨g', off', cur, h', hg, r1, r2, r3, r4⟩
  · cases h
  · cases h'
    have := Nat.mul_le_mul_right size r1
    exact ⟨cur, e, (0, 0), hg, by rw [h.1]; omega, by rw [h.1]; exact r4⟩
theorem CellsAt.sub {w : World} {g p : Nat} {xs : List Value} (h : CellsAt w g p xs) (i n : Nat) (hn : i + n ≤ xs.length) : CellsAt w g (p + i) ((xs.drop i).take n) := by
  obtain ⟨cs, t, fr, hg, hl, he⟩ := h
  have hlen : ((xs.drop i).take n).length = n := by simp; omega
  refine ⟨cs, t, fr, hg, by rw [hlen]; omega, ?_⟩
  rw [hlen]
  conv => rhs; rw [← he]
  rw [List.drop_take, List.drop_drop, List.take_take, Nat.min_eq_left (by omega)]
/-- Not nil where there is an element. -/
theorem SliceIs.there {w : World} {e : TypeId} {size : Nat} {a : Option Addr} {n cap : Nat} {xs : List Value} (h : SliceIs w e size a n cap xs) (hn : 0 < n) : ∃ g off, a = some ⟨g, off, none⟩ := by
  rcases h.2 with ⟨_, rfl, _⟩ | ⟨g, off, cur, rfl, _⟩
  · omega
  · exact ⟨g, off, rfl⟩

theorem drop_take_splice (l : List Value) (off : Nat) (xs ys : List Value) (h : (l.drop off).take xs.length = xs) (hl : off + xs.length + ys.length ≤ l.length) :
    ((l.take (off + xs.length) ++ ys ++ l.drop (off + xs.length + ys.length)).drop off).take (xs.length + ys.length) = xs ++ ys := by
  have e1 : l.take (off + xs.length) = l.take off ++ xs := by
    rw [List.take_add, h]
  have hlen : (l.take off).length = off := by simp; omega
  rw [e1, List.append_assoc, List.append_assoc, List.drop_append_of_le_length (by omega), List.drop_eq_nil_of_le (by omega), List.nil_append, ← List.append_assoc]
  rw [List.take_append_of_le_length (by simp), List.take_of_length_le (by simp)]

section
variable {P : Program} (w : World)
/-- 'append': what comes out has the slice's own row, or a new one. -/
theorem run_append_slice (t ty e : TypeId) (i : TypeInfo) (z : Value) (size bytes : Nat) (ht : P.underlying t = some (.slice e)) (hi : P.info? e = some i) (hz : i.zero = some z)
    (hsize : i.size = size) (hby : i.bytes = bytes) (hzs : z.cells.size = size) (hsz : 0 < size)
    (s : Option Addr) (n cap : Nat) (xs : List Value) (hown : SliceIs w e size s n cap xs)
    (a : Addr) (m c : Nat) (news : List Value) (hl : news.length = m * size) (hnews : ∀ j u, news[j]? = some u → w.cell? (a.add j) = some u) (h1 : ∀ u ∈ news, u.oneCell' = true)
    (h63 : n + m ≤ maxLen) (hbytes : (n + m) * bytes ≤ 140737488355328) :
    ∃ s' cap' w', (Builtin.append_ #[t, t] ty #[.slice s n cap, .slice (some a) m c]).run P w = .ok (.slice s' (n + m) cap') w' ∧ SliceIs w' e size s' (n + m) cap' (xs ++ news) ∧ Upd w w' (blks s) ∧
      (∀ k ∈ blks s', k ∈ blks s ∨ w.heap.size ≤ k) := by
  rcases hown.2 with ⟨rfl, rfl, rfl⟩ | ⟨g, off, cur, rfl, hg, hnc, hcm, hcs, htake⟩
  · obtain ⟨v', w', hr, ho, hgr, _⟩ := run_append_own (P := P) w w.heap.size t ty e i z size bytes ht hi hz hsize hby hzs hsz (.slice none 0 0) 0 [] (World.ownsRow_nil w _ e size) a m c news hl hnews h1 h63 hbytes (Nat.le_refl _)
    have hx : xs = [] := List.eq_nil_of_length_eq_zero (by simpa using hown.1)
    subst hx
    obtain ⟨s', cap', rfl, hs, hb⟩ := SliceIs.of_own ho
    exact ⟨s', cap', w', hr, hs, ⟨hgr.os, hgr.tape, hgr.output, hgr.size, fun k hk _ => hgr.block k hk (by simp [Value.ownBlock])⟩, fun k hk => .inr (hb k hk)⟩
  · by_cases hroom : n + m ≤ cap
    · have hnm : n * size + news.length ≤ cap * size := by rw [hl, ← Nat.add_mul]; exact Nat.mul_le_mul_right _ hroom
      have hlx := hown.1
      subst hsize
      have hf := run_firstCells_some (P := P) w i.size m a m c news hl hnews
      have hst := run_storeCells_at P g (off + n * i.size) e news 0 cur w hg (by omega) h1
      simp only [Nat.add_zero] at hst
      refine ⟨some ⟨g, off, none⟩, cap, w.setRow g (cur.toList.take (off + n * i.size) ++ news ++ cur.toList.drop (off + n * i.size + news.length)).toArray, ?_, ⟨?_, .inr ⟨g, off, _, rfl, setRow_heap w g cur _ e _ hg, hroom, hcm, ?_, ?_⟩⟩, (Upd.refl w _).setRow (by simp) _, fun k hk => .inl hk⟩
      · simp [Builtin.append_, run_underlying ht, sizeOf, typeInfo, hi, Builtin.lenOf, hroom, hf, Addr.add_lit, hst]
      · rw [List.length_append, hlx, hl, Nat.add_mul]
      · simp only [List.size_toArray, List.length_append, List.length_take, List.length_drop, Array.length_toList]
        omega
      · have := drop_take_splice cur.toList off xs news (by rw [hlx]; exact htake) (by rw [hlx]; simp; omega)
        rw [hlx] at this
        rw [Nat.add_mul, ← hl]
        simpa using this
    · have hc := hown.cells
      have holds : ∀ j u, xs[j]? = some u → w.cell? ((⟨g, off, none⟩ : Addr).add j) = some u := by
        intro j u hj
        have hjl : j < xs.length := (List.getElem?_eq_some_iff.1 hj).1
        rw [Addr.add_lit, hc.cell j hjl]
        rw [List.getElem?_eq_getElem hjl] at hj; exact hj
      obtain ⟨v', w', hr, ho, hgr⟩ := run_append_arg_grows (P := P) w t ty e i z size bytes ht hi hz hsize hby hzs hsz ⟨g, off, none⟩ n cap xs hown.1 holds a m c news hl hnews (by omega) h63 hbytes
      obtain ⟨s', cap', rfl, hs, hb⟩ := SliceIs.of_own ho
      exact ⟨s', cap', w', hr, hs, ⟨hgr.os, hgr.tape, hgr.output, hgr.size, fun k hk _ => hgr.block k hk (by simp)⟩, fun k hk => .inr (hb k hk)⟩
/-- 'append(s, x...)', x nil. -/
theorem run_append_slice_none (t ty e : TypeId) (i : TypeInfo) (ht : P.underlying t = some (.slice e)) (hi : P.info? e = some i) (s : Option Addr) (n cap : Nat) (hn : n ≤ cap) :
    (Builtin.append_ #[t, t] ty #[.slice s n cap, .slice none 0 0]).run P w = .ok (.slice s n cap) w := by
  cases s <;> simp [Builtin.append_, run_underlying ht, sizeOf, typeInfo, hi, Builtin.lenOf, Builtin.firstCells, hn, storeCells]
end
section
variable {P : Program} {w : World} {ops : Array Oper} {o : Oper} {a : Act} {Q : Exit → Act → World → Prop}
theorem wp_append_slice {K : Act → World → Prop} (s x : Operand) (t : TypeId)
    (ho : o.op = .call { callee := .builtin .append, args := #[s, x], argTypes := #[t, t] })
    (e : TypeId) (i : TypeInfo) (z : Value) (size bytes : Nat) (ht : P.underlying t = some (.slice e)) (hi : P.info? e = some i) (hz : i.zero = some z)
    (hsize : i.size = size) (hby : i.bytes = bytes) (hzs : z.cells.size = size) (hsz : 0 < size)
    (sa : Option Addr) (n cap : Nat) (xs : List Value) (hs : a.eval s = .slice sa n cap) (hown : SliceIs w e size sa n cap xs)
    (ad : Addr) (m c : Nat) (news : List Value) (hx : a.eval x = .slice (some ad) m c) (hl : news.length = m * size) (hnews : ∀ j u, news[j]? = some u → w.cell? (ad.add j) = some u) (h1 : ∀ u ∈ news, u.oneCell' = true)
    (h63 : n + m ≤ maxLen) (hbytes : (n + m) * bytes ≤ 140737488355328)
    (h : ∀ s' cap' w', SliceIs w' e size s' (n + m) cap' (xs ++ news) → Upd w w' (blks sa) → (∀ k ∈ blks s', k ∈ blks sa ∨ w.heap.size ≤ k) → K (a.put o.dst (.slice s' (n + m) cap')) w') : o.wp P a w K Q := by
  obtain ⟨s', cap', w', hr, h2, h3, h4⟩ := run_append_slice (P := P) w t o.type e i z size bytes ht hi hz hsize hby hzs hsz sa n cap xs hown ad m c news hl hnews h1 h63 hbytes
  unfold Oper.wp execOp
  simp only [ho, resolve, invoke, builtin, Sem.run_bind, Sem.run_pure, Result.andThen_ok, List.map_toArray, List.map_cons, List.map_nil, hs, hx, hr]
  exact h s' cap' w' h2 h3 h4
theorem wpList_append_slice {rest : List Oper} (hgd : o.guard = none) (s x : Operand) (t : TypeId)
    (ho : o.op = .call { callee := .builtin .append, args := #[s, x], argTypes := #[t, t] })
    (e : TypeId) (i : TypeInfo) (z : Value) (size bytes : Nat) (ht : P.underlying t = some (.slice e)) (hi : P.info? e = some i) (hz : i.zero = some z)
    (hsize : i.size = size) (hby : i.bytes = bytes) (hzs : z.cells.size = size) (hsz : 0 < size)
    (sa : Option Addr) (n cap : Nat) (xs : List Value) (hs : a.eval s = .slice sa n cap) (hown : SliceIs w e size sa n cap xs)
    (ad : Addr) (m c : Nat) (news : List Value) (hx : a.eval x = .slice (some ad) m c) (hl : news.length = m * size) (hnews : ∀ j u, news[j]? = some u → w.cell? (ad.add j) = some u) (h1 : ∀ u ∈ news, u.oneCell' = true)
    (h63 : n + m ≤ maxLen) (hbytes : (n + m) * bytes ≤ 140737488355328)
    (h : ∀ s' cap' w', SliceIs w' e size s' (n + m) cap' (xs ++ news) → Upd w w' (blks sa) → (∀ k ∈ blks s', k ∈ blks sa ∨ w.heap.size ≤ k) → wpList P ops Q rest (a.put o.dst (.slice s' (n + m) cap')) w') : wpList P ops Q (o :: rest) a w :=
  wpList_plain hgd fun _ hK => wp_append_slice s x t ho e i z size bytes ht hi hz hsize hby hzs hsz sa n cap xs hs hown ad m c news hx hl hnews h1 h63 hbytes fun s' cap' w' h2 h3 h4 => hK _ _ (h s' cap' w' h2 h3 h4)
/-- The same, at an operation of a region that draws its order. -/
theorem step_append_slice {K : Act → World → Prop} {E : Prop} (hgd : o.guard = none) (s x : Operand) (t : TypeId)
    (ho : o.op = .call { callee := .builtin .append, args := #[s, x], argTypes := #[t, t] })
    (e : TypeId) (i : TypeInfo) (z : Value) (size bytes : Nat) (ht : P.underlying t = some (.slice e)) (hi : P.info? e = some i) (hz : i.zero = some z)
    (hsize : i.size = size) (hby : i.bytes = bytes) (hzs : z.cells.size = size) (hsz : 0 < size)
    (sa : Option Addr) (n cap : Nat) (xs : List Value) (hs : a.eval s = .slice sa n cap) (hown : SliceIs w e size sa n cap xs)
    (ad : Addr) (m c : Nat) (news : List Value) (hx : a.eval x = .slice (some ad) m c) (hl : news.length = m * size) (hnews : ∀ j u, news[j]? = some u → w.cell? (ad.add j) = some u) (h1 : ∀ u ∈ news, u.oneCell' = true)
    (h63 : n + m ≤ maxLen) (hbytes : (n + m) * bytes ≤ 140737488355328)
    (h : ∀ s' cap' w', SliceIs w' e size s' (n + m) cap' (xs ++ news) → Upd w w' (blks sa) → (∀ k ∈ blks s', k ∈ blks sa ∨ w.heap.size ≤ k) → K (a.put o.dst (.slice s' (n + m) cap')) w') :
    if Region.wanted o (yielded ops a.tmps) = true then Oper.wp P o a w K Q else E := by
  have hw : Region.wanted o (yielded ops a.tmps) = true := by simp [Region.wanted, hgd]
  rw [if_pos hw]
  exact wp_append_slice s x t ho e i z size bytes ht hi hz hsize hby hzs hsz sa n cap xs hs hown ad m c news hx hl hnews h1 h63 hbytes h
end
/-- The one element of a block of its own, as append's source. -/
theorem news_of {w : World} {g : Nat} {xs : List Value} (h : CellsAt w g 0 xs) : ∀ j u, xs[j]? = some u → w.cell? ((⟨g, 0, none⟩ : Addr).add j) = some u := by
  intro j u hj
  have hjl : j < xs.length := (List.getElem?_eq_some_iff.1 hj).1
  have := h.cell j hjl
  rw [Nat.zero_add] at this
  rw [List.getElem?_eq_getElem hjl] at hj
  rw [Addr.add_lit, Nat.zero_add, this]; exact hj
theorem news_at {w : World} {g p : Nat} {xs : List Value} (h : CellsAt w g p xs) : ∀ j u, xs[j]? = some u → w.cell? ((⟨g, p, none⟩ : Addr).add j) = some u := by
  intro j u hj
  have hjl : j < xs.length := (List.getElem?_eq_some_iff.1 hj).1
  rw [List.getElem?_eq_getElem hjl] at hj
  rw [Addr.add_lit, h.cell j hjl]; exact hj

/-- Fewer elements of a slice. -/
theorem SliceIs.take {w : World} {e : TypeId} {size : Nat} {a : Option Addr} {n cap : Nat} {xs : List Value} (h : SliceIs w e size a n cap xs) (i : Nat) (hi : i ≤ n) : SliceIs w e size a i cap (xs.take (i * size)) := by
  have hm : i * size ≤ n * size := Nat.mul_le_mul_right _ hi
  refine ⟨by rw [List.length_take, h.1, Nat.min_eq_left hm], ?_⟩
  rcases h.2 with ⟨rfl, rfl, rfl⟩ | ⟨g, off, cur, rfl, hg, r1, r2, r3, r4⟩
  · exact .inl ⟨rfl, by omega, rfl⟩
  · exact .inr ⟨g, off, cur, rfl, hg, by omega, r2, r3, by rw [← r4, List.take_take, Nat.min_eq_left hm]⟩
section
variable {P : Program} {w : World} {o : Oper} {a : Act} {Q : Exit → Act → World → Prop}
/-- 'append' where there is room. -/
theorem wp_append_fits {K : Act → World → Prop} (s x : Operand) (t : TypeId)
    (ho : o.op = .call { callee := .builtin .append, args := #[s, x], argTypes := #[t, t] })
    (e : TypeId) (i : TypeInfo) (size : Nat) (ht : P.underlying t = some (.slice e)) (hi : P.info? e = some i) (hsize : i.size = size)
    (g off n cap : Nat) (xs : List Value) (hs : a.eval s = .slice (some ⟨g, off, none⟩) n cap) (hown : SliceIs w e size (some ⟨g, off, none⟩) n cap xs)
    (ad : Addr) (m c : Nat) (news : List Value) (hx : a.eval x = .slice (some ad) m c) (hl : news.length = m * size) (hnews : ∀ j u, news[j]? = some u → w.cell? (ad.add j) = some u) (h1 : ∀ u ∈ news, u.oneCell' = true)
    (hroom : n + m ≤ cap) (N : Nat) (hN : n + m = N)
    (h : ∀ w', SliceIs w' e size (some ⟨g, off, none⟩) N cap (xs ++ news) → Upd w w' [g] → K (a.put o.dst (.slice (some ⟨g, off, none⟩) N cap)) w') : o.wp P a w K Q := by
  subst hN
  rcases hown.2 with ⟨h, _⟩ | ⟨g', off', cur, h', hg, hnc, hcm, hcs, htake⟩
  · cases h
  cases h'
  have hnm : n * size + news.length ≤ cap * size := by rw [hl, ← Nat.add_mul]; exact Nat.mul_le_mul_right _ hroom
  have hlx := hown.1
  subst hsize
  have hf := run_firstCells_some (P := P) w i.size m ad m c news hl hnews
  have hst := run_storeCells_at P g (off + n * i.size) e news 0 cur w hg (by omega) h1
  simp only [Nat.add_zero] at hst
  have hr : (Builtin.append_ #[t, t] o.type #[.slice (some ⟨g, off, none⟩) n cap, .slice (some ad) m c]).run P w = .ok (.slice (some ⟨g, off, none⟩) (n + m) cap) (w.setRow g (cur.toList.take (off + n * i.size) ++ news ++ cur.toList.drop (off + n * i.size + news.length)).toArray) := by
    simp [Builtin.append_, run_underlying ht, sizeOf, typeInfo, hi, Builtin.lenOf, hroom, hf, Addr.add_lit, hst]
  have hS : SliceIs (w.setRow g (cur.toList.take (off + n * i.size) ++ news ++ cur.toList.drop (off + n * i.size + news.length)).toArray) e i.size (some ⟨g, off, none⟩) (n + m) cap (xs ++ news) := by
    refine ⟨?_, .inr ⟨g, off, _, rfl, setRow_heap w g cur _ e _ hg, hroom, hcm, ?_, ?_⟩⟩
    · rw [List.length_append, hlx, hl, Nat.add_mul]
    · simp only [List.size_toArray, List.length_append, List.length_take, List.length_drop, Array.length_toList]
      omega
    · have := drop_take_splice cur.toList off xs news (by rw [hlx]; exact htake) (by rw [hlx]; simp; omega)
      rw [hlx] at this
      rw [Nat.add_mul, ← hl]
      simpa using this
  unfold Oper.wp execOp
  simp only [ho, resolve, invoke, builtin, Sem.run_bind, Sem.run_pure, Result.andThen_ok, List.map_toArray, List.map_cons, List.map_nil, hs, hx, hr]
  exact h _ hS ((Upd.refl w _).setRow (by simp) _)
theorem step_append_fits {ops : Array Oper} {K : Act → World → Prop} {E : Prop} (hgd : o.guard = none) (s x : Operand) (t : TypeId)
    (ho : o.op = .call { callee := .builtin .append, args := #[s, x], argTypes := #[t, t] })
    (e : TypeId) (i : TypeInfo) (size : Nat) (ht : P.underlying t = some (.slice e)) (hi : P.info? e = some i) (hsize : i.size = size)
    (g off n cap : Nat) (xs : List Value) (hs : a.eval s = .slice (some ⟨g, off, none⟩) n cap) (hown : SliceIs w e size (some ⟨g, off, none⟩) n cap xs)
    (ad : Addr) (m c : Nat) (news : List Value) (hx : a.eval x = .slice (some ad) m c) (hl : news.length = m * size) (hnews : ∀ j u, news[j]? = some u → w.cell? (ad.add j) = some u) (h1 : ∀ u ∈ news, u.oneCell' = true)
    (hroom : n + m ≤ cap) (N : Nat) (hN : n + m = N)
    (h : ∀ w', SliceIs w' e size (some ⟨g, off, none⟩) N cap (xs ++ news) → Upd w w' [g] → K (a.put o.dst (.slice (some ⟨g, off, none⟩) N cap)) w') :
    if Region.wanted o (yielded ops a.tmps) = true then Oper.wp P o a w K Q else E := by
  have hw : Region.wanted o (yielded ops a.tmps) = true := by simp [Region.wanted, hgd]
  rw [if_pos hw]
  exact wp_append_fits s x t ho e i size ht hi hsize g off n cap xs hs hown ad m c news hx hl hnews h1 hroom N hN h
/-- 'clear' of places behind the elements. -/
theorem wpList_clear_spare {ops : Array Oper} {rest : List Oper} (hgd : o.guard = none) (x : Operand) (t : TypeId) (ho : o.op = .call { callee := .builtin .clear, args := #[x], argTypes := #[t] })
    (e : TypeId) (i : TypeInfo) (z : Value) (size : Nat) (ht : P.underlying t = some (.slice e)) (hi : P.info? e = some i) (hz : i.zero = some z) (hsize : i.size = size) (hzs : z.cells.size = size) (hz1 : ∀ v ∈ z.cells.toList, v.oneCell' = true)
    (g off n cap m c : Nat) (xs : List Value) (p : Nat) (hx : a.eval x = .slice (some ⟨g, p, none⟩) m c) (hp : p = off + n * size) (hS : SliceIs w e size (some ⟨g, off, none⟩) n cap xs) (hm : n + m ≤ cap)
    (h : ∀ w', SliceIs w' e size (some ⟨g, off, none⟩) n cap xs → Upd w w' [g] → wpList P ops Q rest (a.put o.dst (.tuple #[])) w') : wpList P ops Q (o :: rest) a w := by
  refine wpList_plain hgd fun K hK => ?_
  subst hp
  rcases hS.2 with ⟨h, _⟩ | ⟨g', off', cur, h', hg, hnc, hcm, hcs, htake⟩
  · cases h
  cases h'
  have hsz : (Builtin.zeroCells z.cells m).size = m * size := by rw [size_zeroCells, hzs]
  have hone : ∀ v ∈ (Builtin.zeroCells z.cells m).toList, v.oneCell' = true := by
    intro v hv
    simp only [Builtin.zeroCells, Array.toList_map, List.mem_map] at hv
    obtain ⟨j, _, rfl⟩ := hv
    by_cases h0 : z.cells.size = 0
    · have : z.cells[j % z.cells.size]! = default := by simp [h0]
      rw [this]; rfl
    · have hlt : j % z.cells.size < z.cells.size := Nat.mod_lt _ (by omega)
      rw [getElem!_pos z.cells _ hlt]
      exact hz1 _ (by simp)
  have hnm : n * size + m * size ≤ cap * size := by rw [← Nat.add_mul]; exact Nat.mul_le_mul_right _ hm
  have hst := run_storeCells_at P g (off + n * size) e (Builtin.zeroCells z.cells m).toList 0 cur w hg (by simp [hsz]; omega) hone
  simp only [Nat.add_zero] at hst
  have hzv : (zeroValue e).run P w = .ok z w := by simp [zeroValue, typeInfo, hi, hz]
  have hr : (Builtin.clear_ #[t] o.type #[.slice (some ⟨g, off + n * size, none⟩) m c]).run P w = .ok (.tuple #[]) (w.setRow g (cur.toList.take (off + n * size) ++ (Builtin.zeroCells z.cells m).toList ++ cur.toList.drop (off + n * size + (Builtin.zeroCells z.cells m).toList.length)).toArray) := by
    cases m with
    | zero =>
      have e0 : (Builtin.zeroCells z.cells 0).toList = [] := by
        apply List.eq_nil_of_length_eq_zero; simp [size_zeroCells]
      simp [Builtin.clear_, run_underlying ht, e0]
      rw [setRow_self w g cur e (0, 0) hg]
    | succ m =>
      simp [Builtin.clear_, run_underlying ht, hzv]
      simp at hst
      rw [hst]; rfl
  unfold Oper.wp execOp
  simp only [ho, resolve, invoke, builtin, Sem.run_bind, Sem.run_pure, Result.andThen_ok, List.map_toArray, List.map_cons, List.map_nil, hx, hr]
  refine hK _ _ (h _ ⟨hS.1, .inr ⟨g, off, _, rfl, setRow_heap w g cur _ e _ hg, hnc, hcm, ?_, ?_⟩⟩ ((Upd.refl w _).setRow (by simp) _))
  · simp only [List.size_toArray, List.length_append, List.length_take, List.length_drop, Array.length_toList, hsz]
    omega
  · rw [List.append_assoc, List.drop_append_of_le_length (by simp; omega), List.take_append_of_le_length (by simp; omega), List.drop_take, List.take_take, show off + n * size - off = n * size from by omega, Nat.min_self]
    exact htake
end

/-! ### Parts of slices -/
/-- Where a part begins. -/
def cutAddr (a : Option Addr) (m l size : Nat) : Option Addr := if m = l then a else a.map (·.add (l * size))
theorem cutAddr_ne (g off m l size : Nat) (h : m ≠ l) : cutAddr (some ⟨g, off, none⟩) m l size = some ⟨g, off + l * size, none⟩ := by
  unfold cutAddr; rw [if_neg h]; simp [Addr.add_lit]
theorem cutAddr_zero (a : Option Addr) (m size : Nat) : cutAddr a m 0 size = a := by
  unfold cutAddr; split
  · rfl
  · cases a <;> simp [Addr.add_zero']
section
variable {P : Program} (w : World) {t e size : Nat} (ht : P.underlying t = some (.slice e)) (hs : ∀ w, (sizeOf e).run P w = .ok size w) (a : Option Addr) (len cap : Nat)
include ht hs
theorem run_cut_lh (l h : Nat) (i j : Int) (hi : i = l) (hj : j = h) (hl : l ≤ h) (hh : h ≤ cap) :
    (Instr.slice t (.slice a len cap) (some (.int .i64 i)) (some (.int .i64 j)) none).run P w = .ok (.slice (cutAddr a cap l size) (h - l) (cap - l)) w := by
  subst hi hj
  have he : P.elem t = e := by simp [Program.elem, ht]
  rw [run_slice_lh w t a len cap (by rw [he]; exact ht) .i64 .i64 l h (by omega) (by omega) (by omega), he, hs]
  rfl
theorem run_cut_h (h : Nat) (j : Int) (hj : j = h) (hh : h ≤ cap) :
    (Instr.slice t (.slice a len cap) none (some (.int .i64 j)) none).run P w = .ok (.slice a h cap) w := by
  subst hj
  have he : P.elem t = e := by simp [Program.elem, ht]
  rw [run_slice_h w t a len cap (by rw [he]; exact ht) .i64 h (by omega) (by omega), he, hs]
  have := cutAddr_zero a cap size
  unfold cutAddr at this
  simp only [Result.andThen_ok, sliced, this, Int.toNat_natCast, Nat.sub_zero]
theorem run_cut_l (l : Nat) (i : Int) (hi : i = l) (hl : l ≤ len) :
    (Instr.slice t (.slice a len cap) (some (.int .i64 i)) none none).run P w = .ok (.slice (cutAddr a cap l size) (len - l) (cap - l)) w := by
  subst hi
  have he : P.elem t = e := by simp [Program.elem, ht]
  rw [run_slice_l w t a len cap (by rw [he]; exact ht) .i64 l (by omega) (by omega), he, hs]
  rfl
theorem run_cut_lhm (l h m : Nat) (i j k : Int) (hi : i = l) (hj : j = h) (hk : k = m) (hl : l ≤ h) (hh : h ≤ m) (hm : m ≤ cap) :
    (Instr.slice t (.slice a len cap) (some (.int .i64 i)) (some (.int .i64 j)) (some (.int .i64 k))).run P w = .ok (.slice (cutAddr a m l size) (h - l) (m - l)) w := by
  subst hi hj hk
  have he : P.elem t = e := by simp [Program.elem, ht]
  rw [run_slice_lhm w t a len cap (by rw [he]; exact ht) .i64 .i64 .i64 l h m (by omega) (by omega) (by omega) (by omega), he, hs]
  rfl
end

/-- A slice in memory of the call's own comes out; what was there is as it was. -/
def SliceOut (w : World) (e : TypeId) (size n : Nat) (xs : List Value) (x : Ending) (w' : World) : Prop :=
  ∃ a cap, x = .returned (.slice a n cap) ∧ SliceIs w' e size a n cap xs ∧ Below w.heap.size w w' ∧ ∀ k ∈ blks a, w.heap.size ≤ k
/-- A slice comes out that lies where the old one lay, and only that row may have turned. -/
def SliceCut (w : World) (e : TypeId) (size : Nat) (a : Option Addr) (n cap : Nat) (xs : List Value) (x : Ending) (w' : World) : Prop :=
  x = .returned (.slice a n cap) ∧ SliceIs w' e size a n cap xs ∧ Upd w w' (blks a)

end Go.Proofs.Yteipjgmbgkjjiaa
