/-
  THE WALKS of cmp.Compare, cmp.Or, lock's compare; and the library's sort, at a row of transactions' numbers.
-/
import Derived.Test.YtjanjjkgnilhoaaGreatDoorLkMap
import Derived.Test.YtjanjjkgnilhoaaGreatDoorLkRef3
import Derived.Test.YtjanjjkgnilhoaaGreatDoorSort
import Derived.Test.YtjanjjkgnilhoaaGreatDoorShelf
import Derived.Deep.RegionHeld3
import Derived.Deep.CondSized
namespace Go.Proofs.YtjanjjkgnilhoaaGreatDoor
open Go.RowKit

/-- What cmp.Compare tells. -/
def c3 (a b : Nat) : Int := if a < b then -1 else if b < a then 1 else 0
theorem nan_any (a : Int) (w : World) : Calls Tryz.prog 64 #[.int .u64 a] w fun e w' => e = .returned (.bool false) ∧ w' = w := by
  go_enter Tryz.func64, Tryz.ntmps64
  go_wp2_with fail
  go_ret
  exact ⟨by simp [go_sem], rfl⟩
set_option maxRecDepth 20000 in
theorem cmp64_any (a b : Nat) (w : World) : Calls Tryz.prog 49 #[.int .u64 a, .int .u64 b] w fun e w' => e = .returned (.int .i64 (c3 a b)) ∧ w' = w := by
  have HN := Lib.hid (fun a wz => nan_any a wz)
  have HR : Hid (c3 a b = if a < b then -1 else if b < a then 1 else 0) := Lib.hid rfl
  by_cases h1 : a < b
  · have h1I : (a : Int) < b := by omega
    rw [if_pos h1] at HR
    clear h1
    go_enter Tryz.func49, Tryz.ntmps49
    go_wp2_with fail
    refine (HN.out _ _).mono ?_
    rintro e w1 ⟨rfl, rfl⟩
    go_wp2_with fail
    refine (HN.out _ _).mono ?_
    rintro e w2 ⟨rfl, rfl⟩
    go_wp2_with fail
    go_ret
    exact ⟨by rw [HR.out]; rfl, rfl⟩
  · have h1I : (b : Int) ≤ a := by omega
    rw [if_neg h1] at HR
    clear h1
    by_cases h2 : b < a
    · have h2I : (b : Int) < a := by omega
      rw [if_pos h2] at HR
      clear h2
      go_enter Tryz.func49, Tryz.ntmps49
      go_wp2_with fail
      refine (HN.out _ _).mono ?_
      rintro e w1 ⟨rfl, rfl⟩
      go_wp2_with fail
      refine (HN.out _ _).mono ?_
      rintro e w2 ⟨rfl, rfl⟩
      go_wp2_with fail
      go_ret
      exact ⟨by rw [HR.out]; rfl, rfl⟩
    · have h2I : (a : Int) ≤ b := by omega
      rw [if_neg h2] at HR
      clear h2
      go_enter Tryz.func49, Tryz.ntmps49
      go_wp2_with fail
      refine (HN.out _ _).mono ?_
      rintro e w1 ⟨rfl, rfl⟩
      go_wp2_with fail
      refine (HN.out _ _).mono ?_
      rintro e w2 ⟨rfl, rfl⟩
      go_wp2_with fail
      go_ret
      exact ⟨by rw [HR.out]; rfl, rfl⟩

set_option maxRecDepth 20000 in
theorem or_any (a b : Int) (g : Nat) (w : World) (h0 : w.cell? ⟨g, 0, none⟩ = some (.int .i64 a)) (h1 : w.cell? ⟨g, 1, none⟩ = some (.int .i64 b)) :
    Calls Tryz.prog 48 #[.slice (some ⟨g, 0, none⟩) 2 2] w fun e w' => e = .returned (.int .i64 (if a ≠ 0 then a else b)) ∧ w' = w := by
  have HR : Hid ((if a ≠ 0 then a else b) = if a ≠ 0 then a else b) := Lib.hid rfl
  generalize hr : (if a ≠ 0 then a else b) = r at *
  have HR2 : Hid (r = if a ≠ 0 then a else b) := Lib.hid hr.symm
  clear hr HR
  by_cases ha : a = 0
  · have HR3 : Hid (r = b) := Lib.hid (by rw [HR2.out, if_neg (by simpa using ha)])
    subst ha
    clear HR2
    by_cases hb : b = 0
    · subst hb
      go_enter Tryz.func48, Tryz.ntmps48
      go_wp2_with fail
      refine wp_loop_rounds 3 ?_
      rw [rounds_succ]
      go_wp2_with fail
      rw [rounds_succ]
      go_wp2_with fail
      rw [rounds_succ]
      go_wp2_with fail
      go_ret
      exact ⟨by rw [HR3.out]; rfl, rfl⟩
    · go_enter Tryz.func48, Tryz.ntmps48
      go_wp2_with fail
      refine wp_loop_rounds 3 ?_
      rw [rounds_succ]
      go_wp2_with fail
      rw [rounds_succ]
      go_wp2_with fail
      go_ret
      exact ⟨by rw [HR3.out]; rfl, rfl⟩
  · have HR3 : Hid (r = a) := Lib.hid (by rw [HR2.out, if_pos (by simpa using ha)])
    clear HR2
    go_enter Tryz.func48, Tryz.ntmps48
    go_wp2_with fail
    refine wp_loop_rounds 3 ?_
    rw [rounds_succ]
    go_wp2_with fail
    go_ret
    exact ⟨by rw [HR3.out]; rfl, rfl⟩

theorem new2 (w : World) (o1 o2 : Obj) (a b : Value) (t : TypeId) : ((((w.alloc o1).alloc o2).alloc (.cells #[a, b] t (0, 0))).drew).cell? ⟨w.heap.size + 1 + 1, 0, none⟩ = some a ∧ ((((w.alloc o1).alloc o2).alloc (.cells #[a, b] t (0, 0))).drew).cell? ⟨w.heap.size + 1 + 1, 1, none⟩ = some b := by
  have h := heap_alloc_new ((w.alloc o1).alloc o2) (.cells #[a, b] t (0, 0))
  rw [World.size_alloc, World.size_alloc] at h
  have h2 : ((((w.alloc o1).alloc o2).alloc (.cells #[a, b] t (0, 0))).drew).heap[w.heap.size + 1 + 1]? = some (.cells #[a, b] t (0, 0)) := h
  constructor
  · rw [cell_of_row _ _ _ _ _ _ h2]; rfl
  · rw [cell_of_row _ _ _ _ _ _ h2]; rfl
theorem c3_cmp (x y : Tb.Tx) : (if c3 x.life y.life ≠ 0 then c3 x.life y.life else c3 x.n y.n) = Tb.cmp x y := by
  obtain ⟨a, b⟩ := x
  obtain ⟨a', b'⟩ := y
  unfold c3 Tb.cmp Tb.lt
  simp only
  by_cases h1 : a < a'
  · simp [h1]
  · by_cases h2 : a' < a
    · have : ¬ a = a' := by omega
      have h3 : ¬ a' = a := by omega
      simp [h1, h2, this]
    · have : a = a' := by omega
      subst this
      by_cases h3 : b < b'
      · simp [h3]
      · by_cases h4 : b' < b
        · simp [h3, h4]
        · simp [h3, h4]

set_option maxRecDepth 20000 in
set_option maxHeartbeats 2000000 in
theorem compare_any (x y : Tb.Tx) (w : World) : Calls Tryz.prog 33 #[.agg #[.int .u64 x.life, .int .u64 x.n], .agg #[.int .u64 y.life, .int .u64 y.n]] w fun e w' => e = .returned (.int .i64 (Tb.cmp x y)) ∧ ∃ q os', w' = Go.Sort.grow (w.drewN q) os' := by
  rw [← c3_cmp]
  have HC1 := Lib.hid (fun wz => cmp64_any x.life y.life wz)
  have HC2 := Lib.hid (fun wz => cmp64_any x.n y.n wz)
  generalize c3 x.life y.life = a at *
  generalize c3 x.n y.n = b at *
  have HOr := Lib.hid (fun g wz h0 h1 => or_any a b g wz h0 h1)
  generalize (if a ≠ 0 then a else b) = r at *
  obtain ⟨xl, xn⟩ := x
  obtain ⟨yl, yn⟩ := y
  have HX : Hid (∀ wz, Below ((w.alloc (.cells #[.int .u64 xl, .int .u64 xn] 35 (0, 0))).alloc (.cells #[.int .u64 yl, .int .u64 yn] 35 (0, 0))).heap.size ((w.alloc (.cells #[.int .u64 xl, .int .u64 xn] 35 (0, 0))).alloc (.cells #[.int .u64 yl, .int .u64 yn] 35 (0, 0))) wz →
      wz.cell? ⟨w.heap.size, 0, none⟩ = some (.int .u64 xl) ∧ wz.cell? ⟨w.heap.size, 1, none⟩ = some (.int .u64 xn) ∧ wz.cell? ⟨w.heap.size + 1, 0, none⟩ = some (.int .u64 yl) ∧ wz.cell? ⟨w.heap.size + 1, 1, none⟩ = some (.int .u64 yn)) := Lib.hid (fun wz hb => by
    obtain ⟨x1, x2⟩ := box2 hb
    refine ⟨?_, ?_, ?_, ?_⟩
    · rw [cell_of_row _ _ _ _ _ _ x1]; rfl
    · rw [cell_of_row _ _ _ _ _ _ x1]; rfl
    · rw [cell_of_row _ _ _ _ _ _ x2]; rfl
    · rw [cell_of_row _ _ _ _ _ _ x2]; rfl)
  go_enter Tryz.func33, Tryz.ntmps33
  go_wp2_with fail
  go_region_held3 (fun wz => wz.cell? ⟨w.heap.size, 0, none⟩ = some (.int .u64 xl) ∧ wz.cell? ⟨w.heap.size, 1, none⟩ = some (.int .u64 xn) ∧ wz.cell? ⟨w.heap.size + 1, 0, none⟩ = some (.int .u64 yl) ∧ wz.cell? ⟨w.heap.size + 1, 1, none⟩ = some (.int .u64 yn))
    (first | exact HX.out _ (Own.refl _).drew.below | exact HX.out _ ((Own.refl _).drew.alloc _).below)
    (first
    | (go_at_call 49
       (first | (with_reducible refine (HC1.out _).mono ?_) | (with_reducible refine (HC2.out _).mono ?_))
       rintro e w1 ⟨rfl, rfl⟩)
    | (go_at_call 48
       refine (HOr.out _ _ (new2 _ _ _ _ _ _).1 (new2 _ _ _ _ _ _).2).mono ?_
       rintro e w1 ⟨rfl, rfl⟩))
  go_wp2_with fail
  go_ret
  exact ⟨rfl, 1, _, by rw [Go.Sort.alloc_eq_grow, Go.Sort.alloc_eq_grow, Go.Sort.alloc_eq_grow, Go.Sort.grow_grow, Go.Sort.grow_grow]; rfl⟩

theorem cmp_lt (x y : Tb.Tx) : ltOf Tb.cmp x y = Tb.lt x y := by
  unfold ltOf
  rw [Bool.eq_iff_iff, decide_eq_true_eq]; exact Tb.cmp_neg
theorem cmp_swo : Go.Sort.SWO (ltOf Tb.cmp) where
  irrefl x := by rw [cmp_lt]; exact Tb.lt_irrefl x
  trans x y z h1 h2 := by rw [cmp_lt] at *; exact Tb.lt_trans h1 h2
  ntrans x y z h1 h2 := by
    rw [cmp_lt] at *
    cases h : Tb.lt x z with
    | false => rfl
    | true =>
      rw [Tb.lt_iff] at h
      have n1 : ¬ Tb.lt x y = true := by rw [h1]; simp
      have n2 : ¬ Tb.lt y z = true := by rw [h2]; simp
      rw [Tb.lt_iff] at n1 n2
      omega
theorem cmp_lays (blk off size : Nat) (w : World) : CmpLays Tryz.prog 33 #[] tcells 2 Tb.cmp blk off size w := fun _ _ _ _ x y => compare_any x y _

theorem CellsAt.of_cells2 {w : World} {g p : Nat} {xs : List Value} (h0 : 0 < xs.length) (h : ∀ j (hj : j < xs.length), w.cell? ⟨g, p + j, none⟩ = some xs[j]) : CellsAt w g p xs := by
  obtain ⟨c, e, fr, hb, _⟩ := Go.Sort.cells_of_cell? (h 0 h0)
  have hc : ∀ j (hj : j < xs.length), c[p + j]? = some xs[j] := fun j hj => by
    have := h j hj
    rw [cell_of_row _ _ _ _ _ _ hb] at this
    exact this
  refine ⟨c, e, fr, hb, ?_, ?_⟩
  · have := hc (xs.length - 1) (by omega)
    have := (Array.getElem?_eq_some_iff.1 this).1
    omega
  · apply List.ext_getElem?
    intro j
    by_cases hj : j < xs.length
    · rw [List.getElem?_take_of_lt hj, List.getElem?_drop, List.getElem?_eq_getElem hj]
      have := hc j hj
      rw [← this]; simp
    · rw [List.getElem?_eq_none (by simp; omega), List.getElem?_eq_none (by omega)]
theorem tflat_len (l : List Tb.Tx) : ∀ x ∈ l.map tcells, x.length = 2 := by intro x hx; obtain ⟨y, _, rfl⟩ := List.mem_map.1 hx; rfl
def tflat (l : List Tb.Tx) : List Value := (l.map tcells).flatten
theorem tx_get (d : Array Tb.Tx) (i : Nat) (hi : i < d.size) : d[i]! = d.toList[i]'(by simpa using hi) := by simp [hi]
theorem holds_tx {w : World} {g off cap : Nat} {l : List Tb.Tx} (hS : SliceIs w 35 2 (some ⟨g, off, none⟩) l.length cap (tflat l)) : Go.Sort.HoldsK tcells 2 w g off l.toArray := by
  have hfl : (tflat l).length = l.length * 2 := hS.1
  rcases hS.2 with ⟨h, _⟩ | ⟨g', off', cur, h, hg, r1, r2, r3, r4⟩
  · cases h
  cases h
  intro j hj
  rw [Go.Sort.size_flatK] at hj
  have hj2 : j < l.length * 2 := by simpa using hj
  have e1 : (tflat l)[j]? = some ((Go.Sort.flatK tcells 2 l.toArray)[j]!) := by
    have hd : j / 2 < l.length := by omega
    have hq : ((l.map tcells).flatten.drop (j / 2 * 2)).take 2 = (l.map tcells)[j / 2]'(by simpa using hd) := flat_one 2 (l.map tcells) (tflat_len l) (j / 2) (by simpa using hd)
    rw [Go.Sort.get_flatK _ _ _ _ hj]
    have e2 : l.toArray[j / 2]! = l[j / 2] := by rw [tx_get _ _ (by simpa using hd)]
    rw [e2]
    rw [List.getElem_map] at hq
    have h3 : (tflat l)[j]? = (((l.map tcells).flatten.drop (j / 2 * 2)).take 2)[j % 2]? := by
      rw [List.getElem?_take_of_lt (Nat.mod_lt _ (by decide)), List.getElem?_drop]
      congr 1; omega
    rw [h3, hq]
    have hm : j % 2 = 0 ∨ j % 2 = 1 := by omega
    rcases hm with hm | hm <;> rw [hm] <;> rfl
  constructor
  · rw [cell_of_row _ _ _ _ _ _ hg]
    rw [← r4] at e1
    rw [List.getElem?_take_of_lt hj2, List.getElem?_drop] at e1
    rw [← Array.getElem?_toList]; exact e1
  · simp [World.frozen?, hg]

/-- The library's sort, with lock's compare. -/
theorem sort_tx (l : List Tb.Tx) (hn : l.Nodup) (hl : l.length ≤ 10000) (g off cap : Nat) (w : World) (hS : SliceIs w 35 2 (some ⟨g, off, none⟩) l.length cap (tflat l)) :
    Calls Tryz.prog 37 #[.slice (some ⟨g, off, none⟩) l.length cap, .func (.func 33) #[] #[]] w fun e w' => e = .returned (.tuple #[]) ∧ ∃ m, Tb.Srt m ∧ (∀ t, t ∈ m ↔ t ∈ l) ∧ m.length = l.length ∧ RowIs w' 2 (some ⟨g, off, none⟩) (m.map tcells) ∧ Upd w w' [g] := by
  have hH := holds_tx hS
  have hg : g < w.heap.size := hS.lt g (by simp)
  have hk : ∀ w, (isAgg 35).run Tryz.prog w = .ok true w := fun w => by kernel_rfl
  have hz : ∀ w, (Go.sizeOf 35).run Tryz.prog w = .ok 2 w := fun w => by kernel_rfl
  have hcon := AnyQ.slices_SortFunc Tryz.sortTx 2 hk hz tcells (fun _ => rfl) (fun x v hv => by simp [tcells] at hv; rcases hv with rfl | rfl <;> rfl) Tb.cmp cmp_swo 33 #[] g off cap l.toArray w (enters_of Tryz.func33 (by kernel_rfl) rfl) (cmp_lays g off _ w) hH hg (by simp; omega)
  change Calls Tryz.prog 37 #[.slice (some ⟨g, off, none⟩) l.length cap, _] w _ at hcon
  refine hcon.mono ?_
  rintro e w' ⟨rfl, d', n, os, hp, hs, rfl⟩
  obtain ⟨p1, _, p2⟩ := hp
  have hsz : d'.size = l.length := by simpa using p1
  have hperm : d'.toList.Perm l := by
    have h1 : d'.extract 0 l.toArray.size = d' := by rw [← p1]; simp
    have h2 : l.toArray.extract 0 l.toArray.size = l.toArray := by simp
    rw [h1, h2] at p2
    simpa using p2
  refine ⟨rfl, d'.toList, ?_, fun t => hperm.mem_iff, by simpa using hsz, ?_, ?_⟩
  · refine List.pairwise_iff_getElem.2 fun i j hi hj hij => ?_
    have h1 := hs i j (Nat.zero_le _) hij (by simpa [hsz] using hj)
    rw [tx_get _ _ (show j < d'.size by simpa using hj), tx_get _ _ (show i < d'.size by simpa using hi), cmp_lt] at h1
    rcases Tb.lt_tri (d'.toList[i]) (d'.toList[j]) with h | h | h
    · exact h
    · have hnd : d'.toList.Nodup := hperm.nodup_iff.2 hn
      exact absurd h (List.pairwise_iff_getElem.1 hnd i j hi hj hij)
    · rw [h] at h1; cases h1
  · intro i hi
    have hi2 : i < d'.size := by simpa using hi
    refine ⟨g, off, rfl, ?_⟩
    rw [List.getElem_map]
    have hh : Go.Sort.HoldsK tcells 2 (sortWorldK tcells 2 w g off n d' os) g off d' := by
      unfold sortWorldK
      refine Go.Sort.holdsK_grow _ _ _ _ _ _ _ (by unfold Go.Sort.putRowK; rw [Go.Sort.size_putRow]; exact hg) ?_
      exact Go.Sort.holdsK_putRowK tcells 2 _ g off l.toArray d' (Go.Sort.holdsK_ahead _ _ _ _ _ _ _ hH) p1
    refine CellsAt.of_cells2 (by simp [tcells]) fun j hj => ?_
    have hj2 : j < 2 := by simpa [tcells] using hj
    have h1 := (hh.cell hi2 hj2).1
    rw [h1, tx_get _ _ hi2]
    have : j = 0 ∨ j = 1 := by omega
    rcases this with rfl | rfl <;> rfl
  · refine ⟨rfl, rfl, rfl, ?_, fun k hk hne => ?_⟩
    · unfold sortWorldK Go.Sort.grow Go.Sort.putRowK
      simp [Go.Sort.size_putRow]
    · have hne' : k ≠ g := by simpa using hne
      unfold sortWorldK Go.Sort.grow
      show ((Go.Sort.putRowK tcells 2 (Go.Sort.ahead w n) g off d').heap ++ os)[k]? = _
      rw [Array.getElem?_append_left (by unfold Go.Sort.putRowK; rw [Go.Sort.size_putRow]; exact hk)]
      simp [Go.Sort.putRowK, Go.Sort.putRow, Go.Sort.mapBlock, Array.getElem?_modify, Ne.symm hne', Go.Sort.ahead]

end Go.Proofs.YtjanjjkgnilhoaaGreatDoor
