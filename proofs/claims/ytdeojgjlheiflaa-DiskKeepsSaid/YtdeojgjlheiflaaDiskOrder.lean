/-
  THE WALK of the statement DiskOrder: a crash leaves a beginning of the calls alone.
-/
import Derived.Test.YtdeojgjlheiflaaDiskLaw
import Derived.Deep.RegionHeld3
import Derived.Deep.CutBlock
import Derived.Deep.DeepCutAuto
namespace Go.Proofs.Ytdeojgjlheiflaa
open Go.RowKit

attribute [local go_sem ↓ high] appSem_eq

theorem new_two (w : World) : Calls Try.prog 8 #[.int .i64 3, .int .i64 16384] w fun e w' => e = .returned (.tuple #[.pointer (some ⟨w.heap.size, 0, none⟩), .int .i64 0]) ∧ DHas w' w.heap.size (dof []) [w.heap.size] ∧ Below w.heap.size w w' ∧ w.heap.size < w'.heap.size :=
  new_has w 3 16384 (by decide) (by decide) (by decide)
theorem scells_one (x : Xst) : ∀ u ∈ scells x, u.oneCell' = true := by
  intro u hu; simp only [scells, List.mem_cons, List.not_mem_nil, or_false] at hu
  rcases hu with rfl | rfl | rfl | rfl | rfl | rfl <;> rfl
/-- One step more, in a slice of the call's own. -/
theorem app_step (w : World) (sa : Option Addr) (n cap : Nat) (xs : List Value) (hS : SliceIs w 31 6 sa n cap xs) (x : Xst) (hn : n ≤ 1000000) :
    ∃ s' cap' w', (appSem #[22, 22] 22 #[.slice sa n cap, .slice (some ⟨w.heap.size, 0, none⟩) 1 1]).run Try.prog (w.alloc (.cells #[.int .u8 x.kind, .int .i64 x.file, .int .i64 x.n, .int .i64 x.m, .string x.s, .int .u8 (by8 x.b)] 31 (0, 0))) = .ok (.slice s' (n + 1) cap') w' ∧
      SliceIs w' 31 6 s' (n + 1) cap' (xs ++ scells x) ∧ Upd w w' (blks sa) ∧ (∀ k ∈ blks s', k ∈ blks sa ∨ w.heap.size ≤ k) := by
  obtain ⟨i0, hi, hz0, hz1, hz2⟩ := info_parts stepInfo
  have hrow : RowIs (w.alloc (.cells (scells x).toArray 31 (0, 0))) 6 (some ⟨w.heap.size, 0, none⟩) [scells x] := fun i hi => by
    have : i = 0 := by simp at hi; omega
    subst this
    exact ⟨w.heap.size, 0, rfl, CellsAt.new w (scells x) _ (0, 0)⟩
  obtain ⟨s', cap', w', hr, hs, hu, hk⟩ := append_row (P := Try.prog) Try.underlying22 hi hz0 hz1 hz2 rfl (by decide) (w.alloc (.cells (scells x).toArray 31 (0, 0))) sa n cap xs (hS.alloc _) (some ⟨w.heap.size, 0, none⟩) 1 [scells x] hrow (by simp [scells]) (by simpa using scells_one x) (by simp; omega) (by decide) (by simp)
  exact ⟨s', cap', w', hr, by simpa using hs, ((Upd.refl w (blks sa)).alloc _).trans hu (fun k hk => .inl hk), fun k hk' => (hk k hk').imp id fun h => by simp at h; omega⟩
theorem keep_at {w w' : World} {g k : Nat} {v : Value} (hb : Below w.heap.size w w') (h : w.cell? ⟨g, k, none⟩ = some v) (hg : g < w.heap.size) : w'.cell? ⟨g, k, none⟩ = some v := by
  rw [hb.cell hg]; exact h
/-- What has been taken so far. -/
structure OrdI (w wr : World) (l : List Xst) (p q : Nat) (acc : List Xst) (al : Option Addr) (cap : Nat) : Prop where
  row : SliceIs wr 31 6 al acc.length cap (acc.map scells).flatten
  fresh : ∀ x ∈ blks al, w.heap.size ≤ x
  two : Two w wr p (dof acc) q (dof [])
  ok : (dof acc).ok
  good : Good acc
  oks : ∀ x ∈ acc, x.s.size ≤ 4096
theorem OrdI.grow {w wc w3 : World} {l : List Xst} {p q : Nat} {acc : List Xst} {x : Xst} {al s' : Option Addr} {cap capl cap' : Nat} {wr : World} (h : OrdI w wr l p q acc al capl) (hT : Two w wc p (dof (acc ++ [x])) q (dof [])) (hg : goes acc x) (hx : x.s.size ≤ 4096)
    (hS : SliceIs wc 31 6 al acc.length cap (acc.map scells).flatten) (hS3 : SliceIs w3 31 6 s' (acc.length + 1) cap' ((acc.map scells).flatten ++ scells x)) (hU : Upd wc w3 (blks al)) (hk : ∀ k ∈ blks s', k ∈ blks al ∨ wc.heap.size ≤ k) :
    OrdI w w3 l p q (acc ++ [x]) s' cap' := by
  have hok := Dk.write_ok h.ok x.file x.s
  rw [write_goes hg] at hok
  refine ⟨?_, fun k hx => (hk k hx).elim (h.fresh k) (fun h => Nat.le_trans hT.own.size h), hT.grow hS (by decide) (by decide) (by decide) (by decide) hU h.fresh, hok, h.good.snoc hg, ?_⟩
  · rw [List.length_append, List.map_append, List.flatten_append]
    simpa using hS3
  · intro y hy
    rcases List.mem_append.1 hy with hy | hy
    · exact h.oks y hy
    · simp at hy; subst hy; exact hx
theorem OrdI.stay {w wr wc : World} {l : List Xst} {p q : Nat} {acc : List Xst} {al : Option Addr} {capl : Nat} (h : OrdI w wr l p q acc al capl) (hT : Two w wc p (dof acc) q (dof [])) (hS : SliceIs wc 31 6 al acc.length capl (acc.map scells).flatten) : OrdI w wc l p q acc al capl :=
  ⟨hS, h.fresh, hT, h.ok, h.good, h.oks⟩
theorem piece_code2 (s : ByteArray) (y : Nat) : 0 ≤ min (s.size : Int) (y : Int) ∧ min (s.size : Int) (y : Int) ≤ s.size ∧ s.extract 0 (min (s.size : Int) (y : Int)).toNat = Dk.piece s y := by
  refine ⟨by omega, by omega, ?_⟩
  unfold Dk.piece
  congr 1
  omega
/-- The other disk, so far. -/
structure OrdX (w wr : World) (p q : Nat) (acc : List Xst) (al : Option Addr) (cap k y i : Nat) : Prop where
  row : SliceIs wr 31 6 al acc.length cap (acc.map scells).flatten
  two : Two w wr q (dof (upX acc k y i)) p (dof acc)
  ok : (dof (upX acc k y i)).ok
theorem OrdI.other {w wr : World} {l : List Xst} {p q : Nat} {acc : List Xst} {al : Option Addr} {capl : Nat} (h : OrdI w wr l p q acc al capl) (ok0 : (dof []).ok) (k y : Nat) : OrdX w wr p q acc al capl k y 0 :=
  ⟨h.row, h.two.swap, ok0⟩
theorem OrdX.at {w wr : World} {p q : Nat} {acc : List Xst} {al : Option Addr} {cap k y i : Nat} (h : OrdX w wr p q acc al cap k y i) : StepsAt wr al acc :=
  h.row.rowF (by intro x hx; simp only [List.mem_map] at hx; obtain ⟨z, _, rfl⟩ := hx; rfl) (by simp)
/-- One step of the other disk's. -/
theorem OrdX.write {w wr : World} {p q : Nat} {acc A : List Xst} {x : Xst} {al : Option Addr} {cap k y i : Nat} (h : OrdX w wr p q acc al cap k y i) (h1 : upX acc k y i = A) (h2 : upX acc k y (i + 1) = A ++ [x]) (hg : goes A x) (hl : A.length ≤ 1000) (hx : x.s.size ≤ 4096) :
    Calls Try.prog 13 #[.pointer (some ⟨q, 0, none⟩), .int .i64 x.file, .string x.s] wr fun e w' => e = .returned (.int .i64 0) ∧ OrdX w w' p q acc al cap k y (i + 1) := by
  have ht := h.two
  have hok := h.ok
  rw [h1] at ht hok
  have hok2 := Dk.write_ok hok x.file x.s
  have hw := ht.write hok (by simp [dof]; omega) x.file x.s (by omega)
  rw [write_goes hg] at hw hok2
  refine hw.mono ?_
  rintro e w' ⟨rfl, hT, F, ⟨G, hF, hG⟩, hU⟩
  exact ⟨rfl, hF.row hU h.row (by decide) (by decide), by rw [h2]; exact hT, by rw [h2]; exact hok2⟩
/-- Three texts of a slice. -/
theorem three_at {w : World} {a : Option Addr} {cap : Nat} {t0 t1 t2 : ByteArray} (h : SliceIs w 9 1 a 3 cap ([t0, t1, t2].map Value.string)) :
    ∃ g off, a = some ⟨g, off, none⟩ ∧ g < w.heap.size ∧ w.cell? ⟨g, off, none⟩ = some (.string t0) ∧ w.cell? ⟨g, off + 1, none⟩ = some (.string t1) ∧ w.cell? ⟨g, off + 2, none⟩ = some (.string t2) := by
  rcases h.2 with ⟨_, h0, _⟩ | ⟨g, off, cur, rfl, hg, r⟩
  · cases h0
  · have hc := h.cells
    exact ⟨g, off, rfl, hc.lt, hc.cell 0 (by simp), hc.cell 1 (by simp), hc.cell 2 (by simp)⟩
theorem ssum_get {l : List Xst} (h : ssum l ≤ 4096) (x : Xst) (hx : x ∈ l) : x.s.size ≤ 4096 := by
  induction l with
  | nil => cases hx
  | cons y r ih =>
    have e : ssum (y :: r) = y.s.size + ssum r := by simp [ssum]
    rcases List.mem_cons.1 hx with rfl | hx
    · omega
    · exact ih (by omega) hx
theorem OrdI.start {w wr : World} {l : List Xst} {p q : Nat} (h : Two w wr p (dof []) q (dof [])) (ok : (dof []).ok) : OrdI w wr l p q [] none 0 := ⟨SliceIs.nil _ _ _, by simp, h, ok, Good.nil, by simp⟩
theorem heavy_no {l : List Xst} (h : heavyB l = false) : ssum l ≤ 4096 ∧ l.length ≤ 100 := by
  unfold heavyB at h
  simp only [Bool.or_eq_false_iff, decide_eq_false_iff_not] at h
  omega

end Go.Proofs.Ytdeojgjlheiflaa
