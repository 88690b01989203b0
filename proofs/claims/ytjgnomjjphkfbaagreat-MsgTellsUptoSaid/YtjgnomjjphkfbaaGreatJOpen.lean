/-
  Joined out of the texts MsgOpen.
-/
import Derived.Test.YtjgnomjjphkfbaaGreatJBase
import Derived.Test.YtjgnomjjphkfbaaGreatJMsg
import Derived.Test.YtjgnomjjphkfbaaGreatJGo
import Derived.Test.YtjgnomjjphkfbaaGreatRows
import Derived.Lib.SmallJoins
/-
  A MESSAGE THAT WAS HANDED IN, OPENED: its lists, and that it is within Go's types; where what was handed in is of bulk at most 1048576.
-/
namespace Go.Proofs.YtjgnomjjphkfbaaGreat
open Go.RowKit

section
variable {H : Type}
theorem bulk_one (d : DataW H) : 1 ≤ Rows.uptoBulk d := by
  cases d with
  | lit l => cases l <;> simp [Rows.uptoBulk]
  | _ => simp [Rows.uptoBulk]
theorem bulk_in {d : DataW H} : ∀ {l : List (DataW H)}, d ∈ l → Rows.uptoBulk d ≤ Rows.uptoBulkAll l
  | x :: r, h => by
    simp only [Rows.uptoBulkAll]
    rcases List.mem_cons.1 h with rfl | h
    · omega
    · have := bulk_in h
      omega
theorem bulk_length : ∀ l : List (DataW H), l.length ≤ Rows.uptoBulkAll l
  | [] => Nat.zero_le _
  | x :: r => by
    have h1 := bulk_one x
    have h2 := bulk_length r
    simp only [Rows.uptoBulkAll, List.length_cons]
    omega
theorem bulk_agg {xs : List (DataW H × List MemPlace)} {y : DataW H × List MemPlace} {j B : Nat} (h : some y = xs[j]?) (hb : Rows.uptoBulk (DataW.agg (xs.map (·.1))) ≤ B) : Rows.uptoBulk y.1 ≤ B := by
  simp only [Rows.uptoBulk] at hb
  have h1 : y.1 ∈ xs.map (·.1) := List.mem_map.2 ⟨y, List.mem_of_getElem? h.symm, rfl⟩
  have := bulk_in h1
  omega
theorem bulk_string {t : List UInt8} {B : Nat} (hb : Rows.uptoBulk (DataW.lit (H := H) (.string t)) ≤ B) : t.length ≤ B := by
  simp only [Rows.uptoBulk] at hb
  omega
end
theorem nat32_of_wf {a : Int} (h : (Lit.int .u32 a).wf = true) : ∃ n : Nat, a = n ∧ n ≤ 4294967295 := by
  have : 0 ≤ a ∧ a ≤ 4294967295 := by simpa [Lit.wf, IntKind.min, IntKind.max, IntKind.signed, IntKind.bits] using h
  exact ⟨a.toNat, by omega, by omega⟩

section
variable {H : Type} {enc : TypeId × Value → H} {w : World} {base : Nat} {spare : Nat → Bool} {held : Bool} {P : Program}
/-- A slice that was handed in, opened by a law of its elements. -/
theorem open_row_bulk {T E size : Nat} {α : Type} [Inhabited α] (f : α → List Value) (ok : α → Prop) (B : Nat) (hu : P.underlying T = some (.slice E)) (hE : P.cellsOf E = size) (h0 : 0 < size)
    (open1 : ∀ (fuel : Nat) (cs : List Value) (x : DataW H × List MemPlace), DataW.trod enc P w base spare held fuel E cs = some x → Rows.uptoBulk x.1 ≤ B → ∃ c : α, ok c ∧ cs = f c)
    {fuel : Nat} {cs : List Value} {x : DataW H × List MemPlace} (h : DataW.trod enc P w base spare held fuel T cs = some x) (hw : Rows.uptoBulk x.1 ≤ B) :
    ∃ (a : Option Addr) (cap : Nat) (l : List α), cs = [.slice a l.length cap] ∧ (∀ c ∈ l, ok c) ∧ RowIs w size a (l.map f) ∧ l.length ≤ B ∧ (a = none → cap = 0) := by
  rcases Go.Deep.open_slice hu h with ⟨rfl, _⟩ | ⟨a, len, cap, m, n, D, Pl, rfl, hb, hl, hm, hmm, hx, hi⟩
  · exact ⟨none, 0, [], rfl, by simp, fun i hi => by simp at hi, by simp, fun _ => rfl⟩
  · have hlm : len ≤ m := by rw [hmm]; split <;> omega
    have hbk : Rows.uptoBulkAll ((List.range len).map D) ≤ B := by
      rw [hx] at hw
      simp only [Rows.uptoBulk] at hw
      omega
    have hspot : 0 < len → a.spot = none := fun h0' => by
      obtain ⟨cs', hc, ht⟩ := hi 0 (by omega)
      rw [hE] at hc
      rw [Nat.zero_mul] at hc
      have := (CellsAt.of_cells hc h0).1
      simpa [Addr.add] using this
    have : ∀ i, i < len → ∃ c : α, ok c ∧ a.spot = none ∧ CellsAt w a.block (a.off + i * size) (f c) := fun i hil => by
      obtain ⟨cs', hc, ht⟩ := hi i (by omega)
      obtain ⟨c, hok, rfl⟩ := open1 _ _ _ ht (Nat.le_trans (bulk_in (d := D i) (List.mem_map.2 ⟨i, List.mem_range.2 hil, rfl⟩)) hbk)
      rw [hE] at hc
      obtain ⟨hs, hcells⟩ := CellsAt.of_cells hc h0
      refine ⟨c, hok, hspot (by omega), ?_⟩
      unfold Addr.add at hcells
      split at hcells
      · rename_i hz
        have hi0 : i = 0 := by
          rcases Nat.mul_eq_zero.1 hz with h | h
          · exact h
          · omega
        subst hi0
        simpa using hcells
      · exact hcells
    obtain ⟨fn, hf⟩ := Go.Deep.choose_lt (α := α) this
    refine ⟨some a, cap, (List.range len).map fn, by simp, ?_, ?_, ?_, fun h => by cases h⟩
    · intro c hc
      obtain ⟨i, hi, rfl⟩ := List.mem_map.1 hc
      exact (hf i (List.mem_range.1 hi)).1
    · intro i hi
      have hil : i < len := by simpa using hi
      obtain ⟨_, hs, hcl⟩ := hf i hil
      obtain ⟨g, off, s⟩ := a
      simp only at hs hcl
      subst hs
      exact ⟨g, off, rfl, by simpa using hcl⟩
    · have := bulk_length ((List.range len).map D)
      simp only [List.length_map, List.length_range] at this ⊢
      omega
end
/-- A row with the slice of its versions. -/
structure RowX where
  r : Mg.Row
  a : Option Addr
  cap : Nat
instance : Inhabited RowX := ⟨⟨⟨⟨#[]⟩, 0, []⟩, none, 0⟩⟩
instance : Inhabited Mg.Rd := ⟨⟨⟨#[]⟩, 0⟩⟩
instance : Inhabited Mg.Ed := ⟨⟨0, ⟨#[]⟩, false, 0, 0, ⟨#[]⟩⟩⟩
instance : Inhabited Mg.Ver := ⟨⟨0, 0, ⟨#[]⟩⟩⟩
instance : Inhabited Mg.Got := ⟨⟨⟨0, 0, ⟨#[]⟩⟩, 0⟩⟩
def RowX.cells (y : RowX) : List Value := [.string y.r.p, .int .u64 y.r.last, .slice y.a y.r.l.length y.cap]
def RowX.Ok (w : World) (y : RowX) : Prop := y.r.Fine ∧ ArgL w 3 y.a y.cap (y.r.l.map Mg.Ver.cells)
theorem rowx_one : ∀ a, ∀ u ∈ RowX.cells a, u.oneCell' = true := by
  intro a u hu
  simp [RowX.cells] at hu
  rcases hu with rfl | rfl | rfl <;> rfl
theorem ArgL.ofRow {α : Type} {f : α → List Value} {n : Nat} {w : World} {a : Option Addr} {cap : Nat} {l : List α} (hr : RowIs w n a (l.map f)) (h1 : ∀ a, (f a).length = n) (h2 : ∀ a, ∀ u ∈ f a, u.oneCell' = true) (hn : a = none → cap = 0) : ArgL w n a cap (l.map f) :=
  ⟨hr, len_map f n h1 l, one_map f h2 l, hn⟩

section
open Go.ChangeShapes Go.WideShapes Go.ChangeAt
variable {H : Type} {enc : TypeId × Value → H} {w : World} {base : Nat} {spare : Nat → Bool} {held : Bool}
theorem open_u32 (fuel : Nat) (cs : List Value) (x : DataW H × List MemPlace) (h : DataW.trod enc Tryz.prog w base spare held fuel 26 cs = some x) (_ : Rows.uptoBulk x.1 ≤ 1048576) : ∃ c : Nat, c < 4294967296 ∧ cs = (fun a : Nat => [Value.int .u32 a]) c := by
  obtain ⟨n0, e0, _, w0⟩ := DataW.trod_int Tryz.underlying26 h
  obtain ⟨u0, rfl, hu0⟩ := nat32_of_wf w0
  exact ⟨u0, by omega, e0⟩
theorem open_u64 (fuel : Nat) (cs : List Value) (x : DataW H × List MemPlace) (h : DataW.trod enc Tryz.prog w base spare held fuel 22 cs = some x) (_ : Rows.uptoBulk x.1 ≤ 1048576) : ∃ c : Nat, ok64 c ∧ cs = (fun a : Nat => [Value.int .u64 a]) c := by
  obtain ⟨n0, e0, _, w0⟩ := DataW.trod_int Tryz.underlying22 h
  obtain ⟨u0, rfl, hu0⟩ := nat64_of_wf w0
  exact ⟨u0, by unfold ok64; omega, e0⟩
theorem open_i64 (fuel : Nat) (cs : List Value) (x : DataW H × List MemPlace) (h : DataW.trod enc Tryz.prog w base spare held fuel 3 cs = some x) (_ : Rows.uptoBulk x.1 ≤ 1048576) : ∃ c : Int, (-9223372036854775808 ≤ c ∧ c ≤ 9223372036854775807) ∧ cs = (fun a : Int => [Value.int .i64 a]) c := by
  obtain ⟨n0, e0, _, w0⟩ := DataW.trod_int Tryz.underlying3 h
  exact ⟨n0, i64_of_wf w0, e0⟩
theorem open_name (fuel : Nat) (cs : List Value) (x : DataW H × List MemPlace) (h : DataW.trod enc Tryz.prog w base spare held fuel 9 cs = some x) (hw : Rows.uptoBulk x.1 ≤ 1048576) : ∃ c : ByteArray, okT c ∧ cs = (fun a : ByteArray => [Value.string a]) c := by
  obtain ⟨n0, e0, hy, _⟩ := DataW.trod_string Tryz.underlying9 h
  rw [hy] at hw
  exact ⟨n0, by have h1 : n0.size ≤ 1048576 := bulk_string hw; unfold okT; omega, e0⟩
set_option maxRecDepth 20000 in
theorem open_tx (fuel : Nat) (cs : List Value) (x : DataW H × List MemPlace) (h : DataW.trod enc Tryz.prog w base spare held fuel 24 cs = some x) (hw : Rows.uptoBulk x.1 ≤ 1048576) : ∃ c : Mg.Tx, c.Good ∧ cs = [.int .u64 c.life, .int .u64 c.n] := by
  obtain ⟨xs, n, _, hx, hl, hlen, hf⟩ := DataW.trod_struct Tryz.underlying24 h
  rw [show Tryz.prog.cellsOf 24 = 2 by kernel_rfl] at hl
  rw [hx] at hw
  clear h hx
  match xs, hlen, cs, hl with
  | [yy0, yy1], _, [c0, c1], _ =>
    have k0 : Tryz.prog.cellsOf 22 = 1 := by kernel_rfl
    obtain ⟨n0, e0, _, w0⟩ := DataW.trod_int Tryz.underlying22 (hf 0 _ rfl)
    obtain ⟨u0, rfl, hu0⟩ := nat64_of_wf w0
    replace e0 : List.take (Tryz.prog.cellsOf 22) (List.drop 0 [c0, c1]) = [.int .u64 u0] := e0
    rw [k0] at e0
    replace e0 : [c0] = [.int .u64 u0] := e0
    simp only [List.cons.injEq, and_true] at e0
    have k1 : Tryz.prog.cellsOf 22 = 1 := by kernel_rfl
    obtain ⟨n1, e1, _, w1⟩ := DataW.trod_int Tryz.underlying22 (hf 1 _ rfl)
    obtain ⟨u1, rfl, hu1⟩ := nat64_of_wf w1
    replace e1 : List.take (Tryz.prog.cellsOf 22) (List.drop 1 [c0, c1]) = [.int .u64 u1] := e1
    rw [k1] at e1
    replace e1 : [c1] = [.int .u64 u1] := e1
    simp only [List.cons.injEq, and_true] at e1
    clear hf
    obtain rfl := e0
    obtain rfl := e1
    exact ⟨⟨u0, u1⟩, ⟨(show u0 < 18446744073709551616 by omega), (show u1 < 18446744073709551616 by omega)⟩, rfl⟩
set_option maxRecDepth 20000 in
theorem open_rng (fuel : Nat) (cs : List Value) (x : DataW H × List MemPlace) (h : DataW.trod enc Tryz.prog w base spare held fuel 31 cs = some x) (hw : Rows.uptoBulk x.1 ≤ 1048576) : ∃ c : Mg.Rng, c.Good ∧ cs = Mg.Rng.cells c := by
  obtain ⟨xs, n, _, hx, hl, hlen, hf⟩ := DataW.trod_struct Tryz.underlying31 h
  rw [show Tryz.prog.cellsOf 31 = 2 by kernel_rfl] at hl
  rw [hx] at hw
  clear h hx
  match xs, hlen, cs, hl with
  | [yy0, yy1], _, [c0, c1], _ =>
    have k0 : Tryz.prog.cellsOf 22 = 1 := by kernel_rfl
    obtain ⟨n0, e0, _, w0⟩ := DataW.trod_int Tryz.underlying22 (hf 0 _ rfl)
    obtain ⟨u0, rfl, hu0⟩ := nat64_of_wf w0
    replace e0 : List.take (Tryz.prog.cellsOf 22) (List.drop 0 [c0, c1]) = [.int .u64 u0] := e0
    rw [k0] at e0
    replace e0 : [c0] = [.int .u64 u0] := e0
    simp only [List.cons.injEq, and_true] at e0
    have k1 : Tryz.prog.cellsOf 22 = 1 := by kernel_rfl
    obtain ⟨n1, e1, _, w1⟩ := DataW.trod_int Tryz.underlying22 (hf 1 _ rfl)
    obtain ⟨u1, rfl, hu1⟩ := nat64_of_wf w1
    replace e1 : List.take (Tryz.prog.cellsOf 22) (List.drop 1 [c0, c1]) = [.int .u64 u1] := e1
    rw [k1] at e1
    replace e1 : [c1] = [.int .u64 u1] := e1
    simp only [List.cons.injEq, and_true] at e1
    clear hf
    obtain rfl := e0
    obtain rfl := e1
    exact ⟨⟨u0, u1⟩, ⟨(show u0 < 18446744073709551616 by omega), (show u1 < 18446744073709551616 by omega)⟩, rfl⟩
set_option maxRecDepth 20000 in
theorem open_rd (fuel : Nat) (cs : List Value) (x : DataW H × List MemPlace) (h : DataW.trod enc Tryz.prog w base spare held fuel 67 cs = some x) (hw : Rows.uptoBulk x.1 ≤ 1048576) : ∃ c : Mg.Rd, c.Good ∧ cs = Mg.Rd.cells c := by
  obtain ⟨xs, n, _, hx, hl, hlen, hf⟩ := DataW.trod_struct Tryz.underlying67 h
  rw [show Tryz.prog.cellsOf 67 = 2 by kernel_rfl] at hl
  rw [hx] at hw
  clear h hx
  match xs, hlen, cs, hl with
  | [yy0, yy1], _, [c0, c1], _ =>
    have k0 : Tryz.prog.cellsOf 9 = 1 := by kernel_rfl
    obtain ⟨u0, e0, hy0, _⟩ := DataW.trod_string Tryz.underlying9 (hf 0 _ rfl)
    have hz0 : u0.size ≤ 1048576 := by
      have hb := bulk_agg (j := 0) rfl hw
      rw [hy0] at hb
      exact bulk_string hb
    replace e0 : List.take (Tryz.prog.cellsOf 9) (List.drop 0 [c0, c1]) = [.string u0] := e0
    rw [k0] at e0
    replace e0 : [c0] = [.string u0] := e0
    simp only [List.cons.injEq, and_true] at e0
    have k1 : Tryz.prog.cellsOf 22 = 1 := by kernel_rfl
    obtain ⟨n1, e1, _, w1⟩ := DataW.trod_int Tryz.underlying22 (hf 1 _ rfl)
    obtain ⟨u1, rfl, hu1⟩ := nat64_of_wf w1
    replace e1 : List.take (Tryz.prog.cellsOf 22) (List.drop 1 [c0, c1]) = [.int .u64 u1] := e1
    rw [k1] at e1
    replace e1 : [c1] = [.int .u64 u1] := e1
    simp only [List.cons.injEq, and_true] at e1
    clear hf
    obtain rfl := e0
    obtain rfl := e1
    exact ⟨⟨u0, u1⟩, ⟨(show u0.size ≤ 1073741824 by omega), (show u1 < 18446744073709551616 by omega)⟩, rfl⟩
set_option maxRecDepth 20000 in
theorem open_verm (fuel : Nat) (cs : List Value) (x : DataW H × List MemPlace) (h : DataW.trod enc Tryz.prog w base spare held fuel 62 cs = some x) (hw : Rows.uptoBulk x.1 ≤ 1048576) : ∃ c : Mg.Ver, c.Good ∧ cs = Mg.Ver.cells c := by
  obtain ⟨xs, n, _, hx, hl, hlen, hf⟩ := DataW.trod_struct Tryz.underlying62 h
  rw [show Tryz.prog.cellsOf 62 = 3 by kernel_rfl] at hl
  rw [hx] at hw
  clear h hx
  match xs, hlen, cs, hl with
  | [yy0, yy1, yy2], _, [c0, c1, c2], _ =>
    have k0 : Tryz.prog.cellsOf 22 = 1 := by kernel_rfl
    obtain ⟨n0, e0, _, w0⟩ := DataW.trod_int Tryz.underlying22 (hf 0 _ rfl)
    obtain ⟨u0, rfl, hu0⟩ := nat64_of_wf w0
    replace e0 : List.take (Tryz.prog.cellsOf 22) (List.drop 0 [c0, c1, c2]) = [.int .u64 u0] := e0
    rw [k0] at e0
    replace e0 : [c0] = [.int .u64 u0] := e0
    simp only [List.cons.injEq, and_true] at e0
    have k1 : Tryz.prog.cellsOf 5 = 1 := by kernel_rfl
    obtain ⟨n1, e1, _, w1⟩ := DataW.trod_int Tryz.underlying5 (hf 1 _ rfl)
    obtain ⟨u1, rfl, hu1⟩ := nat8_of_wf w1
    replace e1 : List.take (Tryz.prog.cellsOf 5) (List.drop 1 [c0, c1, c2]) = [.int .u8 u1] := e1
    rw [k1] at e1
    replace e1 : [c1] = [.int .u8 u1] := e1
    simp only [List.cons.injEq, and_true] at e1
    have k2 : Tryz.prog.cellsOf 9 = 1 := by kernel_rfl
    obtain ⟨u2, e2, hy2, _⟩ := DataW.trod_string Tryz.underlying9 (hf 2 _ rfl)
    have hz2 : u2.size ≤ 1048576 := by
      have hb := bulk_agg (j := 2) rfl hw
      rw [hy2] at hb
      exact bulk_string hb
    replace e2 : List.take (Tryz.prog.cellsOf 9) (List.drop 2 [c0, c1, c2]) = [.string u2] := e2
    rw [k2] at e2
    replace e2 : [c2] = [.string u2] := e2
    simp only [List.cons.injEq, and_true] at e2
    clear hf
    obtain rfl := e0
    obtain rfl := e1
    obtain rfl := e2
    exact ⟨⟨u0, u1, u2⟩, ⟨(show u0 < 18446744073709551616 by omega), (by show u1 < 256; omega), (show u2.size ≤ 1073741824 by omega)⟩, rfl⟩
set_option maxRecDepth 20000 in
theorem open_ed (fuel : Nat) (cs : List Value) (x : DataW H × List MemPlace) (h : DataW.trod enc Tryz.prog w base spare held fuel 59 cs = some x) (hw : Rows.uptoBulk x.1 ≤ 1048576) : ∃ c : Mg.Ed, c.Good ∧ cs = Mg.Ed.cells c := by
  obtain ⟨xs, n, _, hx, hl, hlen, hf⟩ := DataW.trod_struct Tryz.underlying59 h
  rw [show Tryz.prog.cellsOf 59 = 6 by kernel_rfl] at hl
  rw [hx] at hw
  clear h hx
  match xs, hlen, cs, hl with
  | [yy0, yy1, yy2, yy3, yy4, yy5], _, [c0, c1, c2, c3, c4, c5], _ =>
    have k0 : Tryz.prog.cellsOf 5 = 1 := by kernel_rfl
    obtain ⟨n0, e0, _, w0⟩ := DataW.trod_int Tryz.underlying5 (hf 0 _ rfl)
    obtain ⟨u0, rfl, hu0⟩ := nat8_of_wf w0
    replace e0 : List.take (Tryz.prog.cellsOf 5) (List.drop 0 [c0, c1, c2, c3, c4, c5]) = [.int .u8 u0] := e0
    rw [k0] at e0
    replace e0 : [c0] = [.int .u8 u0] := e0
    simp only [List.cons.injEq, and_true] at e0
    have k1 : Tryz.prog.cellsOf 9 = 1 := by kernel_rfl
    obtain ⟨u1, e1, hy1, _⟩ := DataW.trod_string Tryz.underlying9 (hf 1 _ rfl)
    have hz1 : u1.size ≤ 1048576 := by
      have hb := bulk_agg (j := 1) rfl hw
      rw [hy1] at hb
      exact bulk_string hb
    replace e1 : List.take (Tryz.prog.cellsOf 9) (List.drop 1 [c0, c1, c2, c3, c4, c5]) = [.string u1] := e1
    rw [k1] at e1
    replace e1 : [c1] = [.string u1] := e1
    simp only [List.cons.injEq, and_true] at e1
    have k2 : Tryz.prog.cellsOf 4 = 1 := by kernel_rfl
    obtain ⟨u2, e2, _⟩ := DataW.trod_bool Tryz.underlying4 (hf 2 _ rfl)
    replace e2 : List.take (Tryz.prog.cellsOf 4) (List.drop 2 [c0, c1, c2, c3, c4, c5]) = [.bool u2] := e2
    rw [k2] at e2
    replace e2 : [c2] = [.bool u2] := e2
    simp only [List.cons.injEq, and_true] at e2
    have k3 : Tryz.prog.cellsOf 22 = 1 := by kernel_rfl
    obtain ⟨n3, e3, _, w3⟩ := DataW.trod_int Tryz.underlying22 (hf 3 _ rfl)
    obtain ⟨u3, rfl, hu3⟩ := nat64_of_wf w3
    replace e3 : List.take (Tryz.prog.cellsOf 22) (List.drop 3 [c0, c1, c2, c3, c4, c5]) = [.int .u64 u3] := e3
    rw [k3] at e3
    replace e3 : [c3] = [.int .u64 u3] := e3
    simp only [List.cons.injEq, and_true] at e3
    have k4 : Tryz.prog.cellsOf 22 = 1 := by kernel_rfl
    obtain ⟨n4, e4, _, w4⟩ := DataW.trod_int Tryz.underlying22 (hf 4 _ rfl)
    obtain ⟨u4, rfl, hu4⟩ := nat64_of_wf w4
    replace e4 : List.take (Tryz.prog.cellsOf 22) (List.drop 4 [c0, c1, c2, c3, c4, c5]) = [.int .u64 u4] := e4
    rw [k4] at e4
    replace e4 : [c4] = [.int .u64 u4] := e4
    simp only [List.cons.injEq, and_true] at e4
    have k5 : Tryz.prog.cellsOf 9 = 1 := by kernel_rfl
    obtain ⟨u5, e5, hy5, _⟩ := DataW.trod_string Tryz.underlying9 (hf 5 _ rfl)
    have hz5 : u5.size ≤ 1048576 := by
      have hb := bulk_agg (j := 5) rfl hw
      rw [hy5] at hb
      exact bulk_string hb
    replace e5 : List.take (Tryz.prog.cellsOf 9) (List.drop 5 [c0, c1, c2, c3, c4, c5]) = [.string u5] := e5
    rw [k5] at e5
    replace e5 : [c5] = [.string u5] := e5
    simp only [List.cons.injEq, and_true] at e5
    clear hf
    obtain rfl := e0
    obtain rfl := e1
    obtain rfl := e2
    obtain rfl := e3
    obtain rfl := e4
    obtain rfl := e5
    exact ⟨⟨u0, u1, u2, u3, u4, u5⟩, ⟨(by show u0 < 256; omega), (show u1.size ≤ 1073741824 by omega), (show u3 < 18446744073709551616 by omega), (show u4 < 18446744073709551616 by omega), (show u5.size ≤ 1073741824 by omega)⟩, rfl⟩
set_option maxRecDepth 20000 in
theorem open_gotm (fuel : Nat) (cs : List Value) (x : DataW H × List MemPlace) (h : DataW.trod enc Tryz.prog w base spare held fuel 64 cs = some x) (hw : Rows.uptoBulk x.1 ≤ 1048576) : ∃ c : Mg.Got, c.Good ∧ cs = Mg.Got.cells c := by
  obtain ⟨xs, n, _, hx, hl, hlen, hf⟩ := DataW.trod_struct Tryz.underlying64 h
  rw [show Tryz.prog.cellsOf 64 = 4 by kernel_rfl] at hl
  rw [hx] at hw
  clear h hx
  match xs, hlen, cs, hl with
  | [yy0, yy1], _, [c0, c1, c2, c3], _ =>
    have k0 : Tryz.prog.cellsOf 62 = 3 := by kernel_rfl
    obtain ⟨y0, hok0, e0⟩ := open_verm _ _ _ (hf 0 _ rfl) (bulk_agg (j := 0) rfl hw)
    replace e0 : List.take (Tryz.prog.cellsOf 62) (List.drop 0 [c0, c1, c2, c3]) = Mg.Ver.cells y0 := e0
    rw [k0] at e0
    replace e0 : [c0, c1, c2] = Mg.Ver.cells y0 := e0
    simp only [List.cons.injEq, and_true] at e0
    have k1 : Tryz.prog.cellsOf 36 = 1 := by kernel_rfl
    obtain ⟨u1, e1, _, w1⟩ := DataW.trod_int Tryz.underlying36 (hf 1 _ rfl)
    have hu1 := i64_of_wf w1
    replace e1 : List.take (Tryz.prog.cellsOf 36) (List.drop 3 [c0, c1, c2, c3]) = [.int .i64 u1] := e1
    rw [k1] at e1
    replace e1 : [c3] = [.int .i64 u1] := e1
    simp only [List.cons.injEq, and_true] at e1
    clear hf
    obtain ⟨rfl, rfl, rfl⟩ := e0
    obtain rfl := e1
    exact ⟨⟨y0, u1⟩, ⟨hok0, hu1⟩, rfl⟩
set_option maxRecDepth 20000 in
theorem open_cellm (fuel : Nat) (cs : List Value) (x : DataW H × List MemPlace) (h : DataW.trod enc Tryz.prog w base spare held fuel 70 cs = some x) (hw : Rows.uptoBulk x.1 ≤ 1048576) : ∃ c : RowX, (ok64 c.r.last ∧ ((∀ v ∈ c.r.l, v.Good) ∧ c.r.l.length ≤ 1048576) ∧ ArgL w 3 c.a c.cap (c.r.l.map Mg.Ver.cells)) ∧ cs = [.int .u64 c.r.last, .slice c.a c.r.l.length c.cap] := by
  obtain ⟨xs, n, _, hx, hl, hlen, hf⟩ := DataW.trod_struct Tryz.underlying70 h
  rw [show Tryz.prog.cellsOf 70 = 2 by kernel_rfl] at hl
  rw [hx] at hw
  clear h hx
  match xs, hlen, cs, hl with
  | [yy0, yy1], _, [c0, c1], _ =>
    have k0 : Tryz.prog.cellsOf 22 = 1 := by kernel_rfl
    obtain ⟨n0, e0, _, w0⟩ := DataW.trod_int Tryz.underlying22 (hf 0 _ rfl)
    obtain ⟨u0, rfl, hu0⟩ := nat64_of_wf w0
    replace e0 : List.take (Tryz.prog.cellsOf 22) (List.drop 0 [c0, c1]) = [.int .u64 u0] := e0
    rw [k0] at e0
    replace e0 : [c0] = [.int .u64 u0] := e0
    simp only [List.cons.injEq, and_true] at e0
    have k1 : Tryz.prog.cellsOf 68 = 1 := by kernel_rfl
    obtain ⟨a1, cap1, l1, e1, hok1, hrow1, hlb1, hnil1⟩ := open_row_bulk (size := 3) Mg.Ver.cells Mg.Ver.Good 1048576 Tryz.underlying68 (by kernel_rfl) (by decide) open_verm (hf 1 _ rfl) (bulk_agg (j := 1) rfl hw)
    replace e1 : List.take (Tryz.prog.cellsOf 68) (List.drop 1 [c0, c1]) = [.slice a1 l1.length cap1] := e1
    rw [k1] at e1
    replace e1 : [c1] = [.slice a1 l1.length cap1] := e1
    simp only [List.cons.injEq, and_true] at e1
    clear hf
    obtain rfl := e0
    obtain rfl := e1
    exact ⟨⟨⟨⟨#[]⟩, u0, l1⟩, a1, cap1⟩, ⟨(show u0 < 18446744073709551616 by omega), ⟨hok1, hlb1⟩, ArgL.ofRow hrow1 (fun _ => rfl) one_ver hnil1⟩, rfl⟩
set_option maxRecDepth 20000 in
theorem open_rowx (fuel : Nat) (cs : List Value) (x : DataW H × List MemPlace) (h : DataW.trod enc Tryz.prog w base spare held fuel 72 cs = some x) (hw : Rows.uptoBulk x.1 ≤ 1048576) : ∃ c : RowX, c.Ok w ∧ cs = RowX.cells c := by
  obtain ⟨xs, n, _, hx, hl, hlen, hf⟩ := DataW.trod_struct Tryz.underlying72 h
  rw [show Tryz.prog.cellsOf 72 = 3 by kernel_rfl] at hl
  rw [hx] at hw
  clear h hx
  match xs, hlen, cs, hl with
  | [yy0, yy1], _, [c0, c1, c2], _ =>
    have k0 : Tryz.prog.cellsOf 9 = 1 := by kernel_rfl
    obtain ⟨u0, e0, hy0, _⟩ := DataW.trod_string Tryz.underlying9 (hf 0 _ rfl)
    have hz0 : u0.size ≤ 1048576 := by
      have hb := bulk_agg (j := 0) rfl hw
      rw [hy0] at hb
      exact bulk_string hb
    replace e0 : List.take (Tryz.prog.cellsOf 9) (List.drop 0 [c0, c1, c2]) = [.string u0] := e0
    rw [k0] at e0
    replace e0 : [c0] = [.string u0] := e0
    simp only [List.cons.injEq, and_true] at e0
    have k1 : Tryz.prog.cellsOf 70 = 2 := by kernel_rfl
    obtain ⟨y1, hok1, e1⟩ := open_cellm _ _ _ (hf 1 _ rfl) (bulk_agg (j := 1) rfl hw)
    replace e1 : List.take (Tryz.prog.cellsOf 70) (List.drop 1 [c0, c1, c2]) = [.int .u64 y1.r.last, .slice y1.a y1.r.l.length y1.cap] := e1
    rw [k1] at e1
    replace e1 : [c1, c2] = [.int .u64 y1.r.last, .slice y1.a y1.r.l.length y1.cap] := e1
    simp only [List.cons.injEq, and_true] at e1
    clear hf
    obtain rfl := e0
    obtain ⟨rfl, rfl⟩ := e1
    exact ⟨⟨⟨u0, y1.r.last, y1.r.l⟩, y1.a, y1.cap⟩, ⟨⟨(show u0.size ≤ 1073741824 by omega), hok1.1, hok1.2.1⟩, hok1.2.2⟩, rfl⟩
/-- A question with its slices. -/
structure AskX where
  a : Mg.Ask
  s : MS
abbrev AskX.cells (y : AskX) : List Value := [.int .u32 y.a.shard, .slice y.s.reads.1 y.a.reads.length y.s.reads.2, .slice y.s.readAt.1 y.a.readAt.length y.s.readAt.2, .slice y.s.edits.1 y.a.edits.length y.s.edits.2, .slice y.s.editAt.1 y.a.editAt.length y.s.editAt.2, .bool y.a.list, .string y.a.pre, .bool y.a.give, .bool y.a.take, .int .u64 y.a.range.frm, .int .u64 y.a.range.top]
structure AskX.Ok (w : World) (y : AskX) : Prop where
  reads : ArgL w 2 y.s.reads.1 y.s.reads.2 (y.a.reads.map Mg.Rd.cells)
  readAt : ArgL w 1 y.s.readAt.1 y.s.readAt.2 (y.a.readAt.map (fun a : Int => [Value.int .i64 a]))
  edits : ArgL w 6 y.s.edits.1 y.s.edits.2 (y.a.edits.map Mg.Ed.cells)
  editAt : ArgL w 1 y.s.editAt.1 y.s.editAt.2 (y.a.editAt.map (fun a : Int => [Value.int .i64 a]))
  fshard : y.a.shard < 4294967296
  freads : (∀ a ∈ y.a.reads, a.Good) ∧ y.a.reads.length ≤ 1048576
  freadAt : (∀ a ∈ y.a.readAt, -9223372036854775808 ≤ a ∧ a ≤ 9223372036854775807) ∧ y.a.readAt.length ≤ 1048576
  fedits : (∀ a ∈ y.a.edits, a.Good) ∧ y.a.edits.length ≤ 1048576
  feditAt : (∀ a ∈ y.a.editAt, -9223372036854775808 ≤ a ∧ a ≤ 9223372036854775807) ∧ y.a.editAt.length ≤ 1048576
  fpre : okT y.a.pre
  frange : y.a.range.Good
/-- What was told, with its slices. -/
structure ToldX where
  a : Mg.Told
  s : MS
abbrev ToldX.cells (y : ToldX) : List Value := [.int .u32 y.a.shard, .slice y.s.got.1 y.a.got.length y.s.got.2, .slice y.s.numbers.1 y.a.numbers.length y.s.numbers.2, .slice y.s.names.1 y.a.names.length y.s.names.2]
structure ToldX.Ok (w : World) (y : ToldX) : Prop where
  got : ArgL w 4 y.s.got.1 y.s.got.2 (y.a.got.map Mg.Got.cells)
  numbers : ArgL w 1 y.s.numbers.1 y.s.numbers.2 (y.a.numbers.map (fun a : Nat => [Value.int .u64 a]))
  names : ArgL w 1 y.s.names.1 y.s.names.2 (y.a.names.map (fun a : ByteArray => [Value.string a]))
  fshard : y.a.shard < 4294967296
  fgot : (∀ a ∈ y.a.got, a.Good) ∧ y.a.got.length ≤ 1048576
  fnumbers : (∀ a ∈ y.a.numbers, ok64 a) ∧ y.a.numbers.length ≤ 1048576
  fnames : (∀ a ∈ y.a.names, okT a) ∧ y.a.names.length ≤ 1048576
set_option maxRecDepth 20000 in
theorem open_ask (fuel : Nat) (cs : List Value) (x : DataW H × List MemPlace) (h : DataW.trod enc Tryz.prog w base spare held fuel 33 cs = some x) (hw : Rows.uptoBulk x.1 ≤ 1048576) : ∃ c : AskX, c.Ok w ∧ cs = AskX.cells c := by
  obtain ⟨xs, n, _, hx, hl, hlen, hf⟩ := DataW.trod_struct Tryz.underlying33 h
  rw [show Tryz.prog.cellsOf 33 = 11 by kernel_rfl] at hl
  rw [hx] at hw
  clear h hx
  match xs, hlen, cs, hl with
  | [yy0, yy1, yy2, yy3, yy4, yy5, yy6, yy7, yy8, yy9], _, [c0, c1, c2, c3, c4, c5, c6, c7, c8, c9, c10], _ =>
    have k0 : Tryz.prog.cellsOf 26 = 1 := by kernel_rfl
    obtain ⟨n0, e0, _, w0⟩ := DataW.trod_int Tryz.underlying26 (hf 0 _ rfl)
    obtain ⟨u0, rfl, hu0⟩ := nat32_of_wf w0
    replace e0 : List.take (Tryz.prog.cellsOf 26) (List.drop 0 [c0, c1, c2, c3, c4, c5, c6, c7, c8, c9, c10]) = [.int .u32 u0] := e0
    rw [k0] at e0
    replace e0 : [c0] = [.int .u32 u0] := e0
    simp only [List.cons.injEq, and_true] at e0
    have k1 : Tryz.prog.cellsOf 27 = 1 := by kernel_rfl
    obtain ⟨a1, cap1, l1, e1, hok1, hrow1, hlb1, hnil1⟩ := open_row_bulk (size := 2) Mg.Rd.cells Mg.Rd.Good 1048576 Tryz.underlying27 (by kernel_rfl) (by decide) open_rd (hf 1 _ rfl) (bulk_agg (j := 1) rfl hw)
    replace e1 : List.take (Tryz.prog.cellsOf 27) (List.drop 1 [c0, c1, c2, c3, c4, c5, c6, c7, c8, c9, c10]) = [.slice a1 l1.length cap1] := e1
    rw [k1] at e1
    replace e1 : [c1] = [.slice a1 l1.length cap1] := e1
    simp only [List.cons.injEq, and_true] at e1
    have k2 : Tryz.prog.cellsOf 28 = 1 := by kernel_rfl
    obtain ⟨a2, cap2, l2, e2, hok2, hrow2, hlb2, hnil2⟩ := open_row_bulk (size := 1) (fun a : Int => [Value.int .i64 a]) (fun c : Int => -9223372036854775808 ≤ c ∧ c ≤ 9223372036854775807) 1048576 Tryz.underlying28 (by kernel_rfl) (by decide) open_i64 (hf 2 _ rfl) (bulk_agg (j := 2) rfl hw)
    replace e2 : List.take (Tryz.prog.cellsOf 28) (List.drop 2 [c0, c1, c2, c3, c4, c5, c6, c7, c8, c9, c10]) = [.slice a2 l2.length cap2] := e2
    rw [k2] at e2
    replace e2 : [c2] = [.slice a2 l2.length cap2] := e2
    simp only [List.cons.injEq, and_true] at e2
    have k3 : Tryz.prog.cellsOf 29 = 1 := by kernel_rfl
    obtain ⟨a3, cap3, l3, e3, hok3, hrow3, hlb3, hnil3⟩ := open_row_bulk (size := 6) Mg.Ed.cells Mg.Ed.Good 1048576 Tryz.underlying29 (by kernel_rfl) (by decide) open_ed (hf 3 _ rfl) (bulk_agg (j := 3) rfl hw)
    replace e3 : List.take (Tryz.prog.cellsOf 29) (List.drop 3 [c0, c1, c2, c3, c4, c5, c6, c7, c8, c9, c10]) = [.slice a3 l3.length cap3] := e3
    rw [k3] at e3
    replace e3 : [c3] = [.slice a3 l3.length cap3] := e3
    simp only [List.cons.injEq, and_true] at e3
    have k4 : Tryz.prog.cellsOf 28 = 1 := by kernel_rfl
    obtain ⟨a4, cap4, l4, e4, hok4, hrow4, hlb4, hnil4⟩ := open_row_bulk (size := 1) (fun a : Int => [Value.int .i64 a]) (fun c : Int => -9223372036854775808 ≤ c ∧ c ≤ 9223372036854775807) 1048576 Tryz.underlying28 (by kernel_rfl) (by decide) open_i64 (hf 4 _ rfl) (bulk_agg (j := 4) rfl hw)
    replace e4 : List.take (Tryz.prog.cellsOf 28) (List.drop 4 [c0, c1, c2, c3, c4, c5, c6, c7, c8, c9, c10]) = [.slice a4 l4.length cap4] := e4
    rw [k4] at e4
    replace e4 : [c4] = [.slice a4 l4.length cap4] := e4
    simp only [List.cons.injEq, and_true] at e4
    have k5 : Tryz.prog.cellsOf 4 = 1 := by kernel_rfl
    obtain ⟨u5, e5, _⟩ := DataW.trod_bool Tryz.underlying4 (hf 5 _ rfl)
    replace e5 : List.take (Tryz.prog.cellsOf 4) (List.drop 5 [c0, c1, c2, c3, c4, c5, c6, c7, c8, c9, c10]) = [.bool u5] := e5
    rw [k5] at e5
    replace e5 : [c5] = [.bool u5] := e5
    simp only [List.cons.injEq, and_true] at e5
    have k6 : Tryz.prog.cellsOf 9 = 1 := by kernel_rfl
    obtain ⟨u6, e6, hy6, _⟩ := DataW.trod_string Tryz.underlying9 (hf 6 _ rfl)
    have hz6 : u6.size ≤ 1048576 := by
      have hb := bulk_agg (j := 6) rfl hw
      rw [hy6] at hb
      exact bulk_string hb
    replace e6 : List.take (Tryz.prog.cellsOf 9) (List.drop 6 [c0, c1, c2, c3, c4, c5, c6, c7, c8, c9, c10]) = [.string u6] := e6
    rw [k6] at e6
    replace e6 : [c6] = [.string u6] := e6
    simp only [List.cons.injEq, and_true] at e6
    have k7 : Tryz.prog.cellsOf 4 = 1 := by kernel_rfl
    obtain ⟨u7, e7, _⟩ := DataW.trod_bool Tryz.underlying4 (hf 7 _ rfl)
    replace e7 : List.take (Tryz.prog.cellsOf 4) (List.drop 7 [c0, c1, c2, c3, c4, c5, c6, c7, c8, c9, c10]) = [.bool u7] := e7
    rw [k7] at e7
    replace e7 : [c7] = [.bool u7] := e7
    simp only [List.cons.injEq, and_true] at e7
    have k8 : Tryz.prog.cellsOf 4 = 1 := by kernel_rfl
    obtain ⟨u8, e8, _⟩ := DataW.trod_bool Tryz.underlying4 (hf 8 _ rfl)
    replace e8 : List.take (Tryz.prog.cellsOf 4) (List.drop 8 [c0, c1, c2, c3, c4, c5, c6, c7, c8, c9, c10]) = [.bool u8] := e8
    rw [k8] at e8
    replace e8 : [c8] = [.bool u8] := e8
    simp only [List.cons.injEq, and_true] at e8
    have k9 : Tryz.prog.cellsOf 31 = 2 := by kernel_rfl
    obtain ⟨y9, hok9, e9⟩ := open_rng _ _ _ (hf 9 _ rfl) (bulk_agg (j := 9) rfl hw)
    replace e9 : List.take (Tryz.prog.cellsOf 31) (List.drop 9 [c0, c1, c2, c3, c4, c5, c6, c7, c8, c9, c10]) = Mg.Rng.cells y9 := e9
    rw [k9] at e9
    replace e9 : [c9, c10] = Mg.Rng.cells y9 := e9
    simp only [List.cons.injEq, and_true] at e9
    clear hf
    obtain rfl := e0
    obtain rfl := e1
    obtain rfl := e2
    obtain rfl := e3
    obtain rfl := e4
    obtain rfl := e5
    obtain rfl := e6
    obtain rfl := e7
    obtain rfl := e8
    obtain ⟨rfl, rfl⟩ := e9
    exact ⟨⟨⟨u0, l1, l2, l3, l4, u5, u6, u7, u8, y9⟩, { MS0 with reads := (a1, cap1), readAt := (a2, cap2), edits := (a3, cap3), editAt := (a4, cap4) }⟩, ⟨ArgL.ofRow hrow1 (fun _ => rfl) one_rd hnil1, ArgL.ofRow hrow2 (fun _ => rfl) one_i64 hnil2, ArgL.ofRow hrow3 (fun _ => rfl) one_ed hnil3, ArgL.ofRow hrow4 (fun _ => rfl) one_i64 hnil4, (by show u0 < 4294967296; omega), ⟨hok1, hlb1⟩, ⟨hok2, hlb2⟩, ⟨hok3, hlb3⟩, ⟨hok4, hlb4⟩, (show u6.size ≤ 1073741824 by omega), hok9⟩, rfl⟩
set_option maxRecDepth 20000 in
theorem open_told (fuel : Nat) (cs : List Value) (x : DataW H × List MemPlace) (h : DataW.trod enc Tryz.prog w base spare held fuel 41 cs = some x) (hw : Rows.uptoBulk x.1 ≤ 1048576) : ∃ c : ToldX, c.Ok w ∧ cs = ToldX.cells c := by
  obtain ⟨xs, n, _, hx, hl, hlen, hf⟩ := DataW.trod_struct Tryz.underlying41 h
  rw [show Tryz.prog.cellsOf 41 = 4 by kernel_rfl] at hl
  rw [hx] at hw
  clear h hx
  match xs, hlen, cs, hl with
  | [yy0, yy1, yy2, yy3], _, [c0, c1, c2, c3], _ =>
    have k0 : Tryz.prog.cellsOf 26 = 1 := by kernel_rfl
    obtain ⟨n0, e0, _, w0⟩ := DataW.trod_int Tryz.underlying26 (hf 0 _ rfl)
    obtain ⟨u0, rfl, hu0⟩ := nat32_of_wf w0
    replace e0 : List.take (Tryz.prog.cellsOf 26) (List.drop 0 [c0, c1, c2, c3]) = [.int .u32 u0] := e0
    rw [k0] at e0
    replace e0 : [c0] = [.int .u32 u0] := e0
    simp only [List.cons.injEq, and_true] at e0
    have k1 : Tryz.prog.cellsOf 37 = 1 := by kernel_rfl
    obtain ⟨a1, cap1, l1, e1, hok1, hrow1, hlb1, hnil1⟩ := open_row_bulk (size := 4) Mg.Got.cells Mg.Got.Good 1048576 Tryz.underlying37 (by kernel_rfl) (by decide) open_gotm (hf 1 _ rfl) (bulk_agg (j := 1) rfl hw)
    replace e1 : List.take (Tryz.prog.cellsOf 37) (List.drop 1 [c0, c1, c2, c3]) = [.slice a1 l1.length cap1] := e1
    rw [k1] at e1
    replace e1 : [c1] = [.slice a1 l1.length cap1] := e1
    simp only [List.cons.injEq, and_true] at e1
    have k2 : Tryz.prog.cellsOf 38 = 1 := by kernel_rfl
    obtain ⟨a2, cap2, l2, e2, hok2, hrow2, hlb2, hnil2⟩ := open_row_bulk (size := 1) (fun a : Nat => [Value.int .u64 a]) ok64 1048576 Tryz.underlying38 (by kernel_rfl) (by decide) open_u64 (hf 2 _ rfl) (bulk_agg (j := 2) rfl hw)
    replace e2 : List.take (Tryz.prog.cellsOf 38) (List.drop 2 [c0, c1, c2, c3]) = [.slice a2 l2.length cap2] := e2
    rw [k2] at e2
    replace e2 : [c2] = [.slice a2 l2.length cap2] := e2
    simp only [List.cons.injEq, and_true] at e2
    have k3 : Tryz.prog.cellsOf 39 = 1 := by kernel_rfl
    obtain ⟨a3, cap3, l3, e3, hok3, hrow3, hlb3, hnil3⟩ := open_row_bulk (size := 1) (fun a : ByteArray => [Value.string a]) okT 1048576 Tryz.underlying39 (by kernel_rfl) (by decide) open_name (hf 3 _ rfl) (bulk_agg (j := 3) rfl hw)
    replace e3 : List.take (Tryz.prog.cellsOf 39) (List.drop 3 [c0, c1, c2, c3]) = [.slice a3 l3.length cap3] := e3
    rw [k3] at e3
    replace e3 : [c3] = [.slice a3 l3.length cap3] := e3
    simp only [List.cons.injEq, and_true] at e3
    clear hf
    obtain rfl := e0
    obtain rfl := e1
    obtain rfl := e2
    obtain rfl := e3
    exact ⟨⟨⟨u0, l1, l2, l3⟩, { MS0 with got := (a1, cap1), numbers := (a2, cap2), names := (a3, cap3) }⟩, ⟨ArgL.ofRow hrow1 (fun _ => rfl) one_got hnil1, ArgL.ofRow hrow2 (fun _ => rfl) one_u64 hnil2, ArgL.ofRow hrow3 (fun _ => rfl) one_str hnil3, (by show u0 < 4294967296; omega), ⟨hok1, hlb1⟩, ⟨hok2, hlb2⟩, ⟨hok3, hlb3⟩⟩, rfl⟩
theorem rowsA_of {l : List RowX} (h : ∀ c ∈ l, c.Ok w) : RowsA w (l.map RowX.r) (l.map RowX.cells) := by
  refine ⟨by simp, fun i hi => ?_⟩
  have hi' : i < l.length := by simpa using hi
  refine ⟨l[i].a, l[i].cap, ?_, ?_⟩
  · rw [List.getElem?_map, List.getElem?_eq_getElem hi']
    simp [RowX.cells]
  · have := (h l[i] (List.getElem_mem _)).2
    simpa using this
set_option maxRecDepth 20000 in
theorem open_msg (fuel : Nat) (cs : List Value) (x : DataW H × List MemPlace) (h : DataW.trod enc Tryz.prog w base spare held fuel 43 cs = some x) (hw : Rows.uptoBulk x.1 ≤ 1048576) : ∃ (s : MS) (m : Mg.Msg), MsgA w s m ∧ m.Fine ∧ cs = s.cells m := by
  obtain ⟨xs, n, _, hx, hl, hlen, hf⟩ := DataW.trod_struct Tryz.underlying43 h
  rw [show Tryz.prog.cellsOf 43 = 28 by kernel_rfl] at hl
  rw [hx] at hw
  clear h hx
  match xs, hlen, cs, hl with
  | [yy0, yy1, yy2, yy3, yy4, yy5, yy6, yy7, yy8, yy9, yy10, yy11, yy12], _, [c0, c1, c2, c3, c4, c5, c6, c7, c8, c9, c10, c11, c12, c13, c14, c15, c16, c17, c18, c19, c20, c21, c22, c23, c24, c25, c26, c27], _ =>
    have k0 : Tryz.prog.cellsOf 5 = 1 := by kernel_rfl
    obtain ⟨n0, e0, _, w0⟩ := DataW.trod_int Tryz.underlying5 (hf 0 _ rfl)
    obtain ⟨u0, rfl, hu0⟩ := nat8_of_wf w0
    replace e0 : List.take (Tryz.prog.cellsOf 5) (List.drop 0 [c0, c1, c2, c3, c4, c5, c6, c7, c8, c9, c10, c11, c12, c13, c14, c15, c16, c17, c18, c19, c20, c21, c22, c23, c24, c25, c26, c27]) = [.int .u8 u0] := e0
    rw [k0] at e0
    replace e0 : [c0] = [.int .u8 u0] := e0
    simp only [List.cons.injEq, and_true] at e0
    have k1 : Tryz.prog.cellsOf 24 = 2 := by kernel_rfl
    obtain ⟨y1, hok1, e1⟩ := open_tx _ _ _ (hf 1 _ rfl) (bulk_agg (j := 1) rfl hw)
    replace e1 : List.take (Tryz.prog.cellsOf 24) (List.drop 1 [c0, c1, c2, c3, c4, c5, c6, c7, c8, c9, c10, c11, c12, c13, c14, c15, c16, c17, c18, c19, c20, c21, c22, c23, c24, c25, c26, c27]) = [.int .u64 y1.life, .int .u64 y1.n] := e1
    rw [k1] at e1
    replace e1 : [c1, c2] = [.int .u64 y1.life, .int .u64 y1.n] := e1
    simp only [List.cons.injEq, and_true] at e1
    have k2 : Tryz.prog.cellsOf 24 = 2 := by kernel_rfl
    obtain ⟨y2, hok2, e2⟩ := open_tx _ _ _ (hf 2 _ rfl) (bulk_agg (j := 2) rfl hw)
    replace e2 : List.take (Tryz.prog.cellsOf 24) (List.drop 3 [c0, c1, c2, c3, c4, c5, c6, c7, c8, c9, c10, c11, c12, c13, c14, c15, c16, c17, c18, c19, c20, c21, c22, c23, c24, c25, c26, c27]) = [.int .u64 y2.life, .int .u64 y2.n] := e2
    rw [k2] at e2
    replace e2 : [c3, c4] = [.int .u64 y2.life, .int .u64 y2.n] := e2
    simp only [List.cons.injEq, and_true] at e2
    have k3 : Tryz.prog.cellsOf 22 = 1 := by kernel_rfl
    obtain ⟨n3, e3, _, w3⟩ := DataW.trod_int Tryz.underlying22 (hf 3 _ rfl)
    obtain ⟨u3, rfl, hu3⟩ := nat64_of_wf w3
    replace e3 : List.take (Tryz.prog.cellsOf 22) (List.drop 5 [c0, c1, c2, c3, c4, c5, c6, c7, c8, c9, c10, c11, c12, c13, c14, c15, c16, c17, c18, c19, c20, c21, c22, c23, c24, c25, c26, c27]) = [.int .u64 u3] := e3
    rw [k3] at e3
    replace e3 : [c5] = [.int .u64 u3] := e3
    simp only [List.cons.injEq, and_true] at e3
    have k4 : Tryz.prog.cellsOf 25 = 1 := by kernel_rfl
    obtain ⟨a4, cap4, l4, e4, hok4, hrow4, hlb4, hnil4⟩ := open_row_bulk (size := 1) (fun a : Nat => [Value.int .u32 a]) (fun c : Nat => c < 4294967296) 1048576 Tryz.underlying25 (by kernel_rfl) (by decide) open_u32 (hf 4 _ rfl) (bulk_agg (j := 4) rfl hw)
    replace e4 : List.take (Tryz.prog.cellsOf 25) (List.drop 6 [c0, c1, c2, c3, c4, c5, c6, c7, c8, c9, c10, c11, c12, c13, c14, c15, c16, c17, c18, c19, c20, c21, c22, c23, c24, c25, c26, c27]) = [.slice a4 l4.length cap4] := e4
    rw [k4] at e4
    replace e4 : [c6] = [.slice a4 l4.length cap4] := e4
    simp only [List.cons.injEq, and_true] at e4
    have k5 : Tryz.prog.cellsOf 33 = 11 := by kernel_rfl
    obtain ⟨y5, hok5, e5⟩ := open_ask _ _ _ (hf 5 _ rfl) (bulk_agg (j := 5) rfl hw)
    replace e5 : List.take (Tryz.prog.cellsOf 33) (List.drop 7 [c0, c1, c2, c3, c4, c5, c6, c7, c8, c9, c10, c11, c12, c13, c14, c15, c16, c17, c18, c19, c20, c21, c22, c23, c24, c25, c26, c27]) = AskX.cells y5 := e5
    rw [k5] at e5
    replace e5 : [c7, c8, c9, c10, c11, c12, c13, c14, c15, c16, c17] = AskX.cells y5 := e5
    simp only [List.cons.injEq, and_true] at e5
    have k6 : Tryz.prog.cellsOf 34 = 1 := by kernel_rfl
    obtain ⟨a6, cap6, l6, e6, hok6, hrow6, hlb6, hnil6⟩ := open_row_bulk (size := 3) RowX.cells (RowX.Ok w) 1048576 Tryz.underlying34 (by kernel_rfl) (by decide) open_rowx (hf 6 _ rfl) (bulk_agg (j := 6) rfl hw)
    replace e6 : List.take (Tryz.prog.cellsOf 34) (List.drop 18 [c0, c1, c2, c3, c4, c5, c6, c7, c8, c9, c10, c11, c12, c13, c14, c15, c16, c17, c18, c19, c20, c21, c22, c23, c24, c25, c26, c27]) = [.slice a6 l6.length cap6] := e6
    rw [k6] at e6
    replace e6 : [c18] = [.slice a6 l6.length cap6] := e6
    simp only [List.cons.injEq, and_true] at e6
    have k7 : Tryz.prog.cellsOf 22 = 1 := by kernel_rfl
    obtain ⟨n7, e7, _, w7⟩ := DataW.trod_int Tryz.underlying22 (hf 7 _ rfl)
    obtain ⟨u7, rfl, hu7⟩ := nat64_of_wf w7
    replace e7 : List.take (Tryz.prog.cellsOf 22) (List.drop 19 [c0, c1, c2, c3, c4, c5, c6, c7, c8, c9, c10, c11, c12, c13, c14, c15, c16, c17, c18, c19, c20, c21, c22, c23, c24, c25, c26, c27]) = [.int .u64 u7] := e7
    rw [k7] at e7
    replace e7 : [c19] = [.int .u64 u7] := e7
    simp only [List.cons.injEq, and_true] at e7
    have k8 : Tryz.prog.cellsOf 35 = 1 := by kernel_rfl
    obtain ⟨a8, cap8, l8, e8, hok8, hrow8, hlb8, hnil8⟩ := open_row_bulk (size := 2) Mg.Rng.cells Mg.Rng.Good 1048576 Tryz.underlying35 (by kernel_rfl) (by decide) open_rng (hf 8 _ rfl) (bulk_agg (j := 8) rfl hw)
    replace e8 : List.take (Tryz.prog.cellsOf 35) (List.drop 20 [c0, c1, c2, c3, c4, c5, c6, c7, c8, c9, c10, c11, c12, c13, c14, c15, c16, c17, c18, c19, c20, c21, c22, c23, c24, c25, c26, c27]) = [.slice a8 l8.length cap8] := e8
    rw [k8] at e8
    replace e8 : [c20] = [.slice a8 l8.length cap8] := e8
    simp only [List.cons.injEq, and_true] at e8
    have k9 : Tryz.prog.cellsOf 4 = 1 := by kernel_rfl
    obtain ⟨u9, e9, _⟩ := DataW.trod_bool Tryz.underlying4 (hf 9 _ rfl)
    replace e9 : List.take (Tryz.prog.cellsOf 4) (List.drop 21 [c0, c1, c2, c3, c4, c5, c6, c7, c8, c9, c10, c11, c12, c13, c14, c15, c16, c17, c18, c19, c20, c21, c22, c23, c24, c25, c26, c27]) = [.bool u9] := e9
    rw [k9] at e9
    replace e9 : [c21] = [.bool u9] := e9
    simp only [List.cons.injEq, and_true] at e9
    have k10 : Tryz.prog.cellsOf 36 = 1 := by kernel_rfl
    obtain ⟨u10, e10, _, w10⟩ := DataW.trod_int Tryz.underlying36 (hf 10 _ rfl)
    have hu10 := i64_of_wf w10
    replace e10 : List.take (Tryz.prog.cellsOf 36) (List.drop 22 [c0, c1, c2, c3, c4, c5, c6, c7, c8, c9, c10, c11, c12, c13, c14, c15, c16, c17, c18, c19, c20, c21, c22, c23, c24, c25, c26, c27]) = [.int .i64 u10] := e10
    rw [k10] at e10
    replace e10 : [c22] = [.int .i64 u10] := e10
    simp only [List.cons.injEq, and_true] at e10
    have k11 : Tryz.prog.cellsOf 41 = 4 := by kernel_rfl
    obtain ⟨y11, hok11, e11⟩ := open_told _ _ _ (hf 11 _ rfl) (bulk_agg (j := 11) rfl hw)
    replace e11 : List.take (Tryz.prog.cellsOf 41) (List.drop 23 [c0, c1, c2, c3, c4, c5, c6, c7, c8, c9, c10, c11, c12, c13, c14, c15, c16, c17, c18, c19, c20, c21, c22, c23, c24, c25, c26, c27]) = ToldX.cells y11 := e11
    rw [k11] at e11
    replace e11 : [c23, c24, c25, c26] = ToldX.cells y11 := e11
    simp only [List.cons.injEq, and_true] at e11
    have k12 : Tryz.prog.cellsOf 5 = 1 := by kernel_rfl
    obtain ⟨n12, e12, _, w12⟩ := DataW.trod_int Tryz.underlying5 (hf 12 _ rfl)
    obtain ⟨u12, rfl, hu12⟩ := nat8_of_wf w12
    replace e12 : List.take (Tryz.prog.cellsOf 5) (List.drop 27 [c0, c1, c2, c3, c4, c5, c6, c7, c8, c9, c10, c11, c12, c13, c14, c15, c16, c17, c18, c19, c20, c21, c22, c23, c24, c25, c26, c27]) = [.int .u8 u12] := e12
    rw [k12] at e12
    replace e12 : [c27] = [.int .u8 u12] := e12
    simp only [List.cons.injEq, and_true] at e12
    clear hf
    obtain rfl := e0
    obtain ⟨rfl, rfl⟩ := e1
    obtain ⟨rfl, rfl⟩ := e2
    obtain rfl := e3
    obtain rfl := e4
    obtain ⟨rfl, rfl, rfl, rfl, rfl, rfl, rfl, rfl, rfl, rfl, rfl⟩ := e5
    obtain rfl := e6
    obtain rfl := e7
    obtain rfl := e8
    obtain rfl := e9
    obtain rfl := e10
    obtain ⟨rfl, rfl, rfl, rfl⟩ := e11
    obtain rfl := e12
    exact ⟨⟨(a4, cap4), y5.s.reads, y5.s.readAt, y5.s.edits, y5.s.editAt, (a6, cap6), (a8, cap8), y11.s.got, y11.s.numbers, y11.s.names⟩, ⟨u0, y1, y2, u3, l4, y5.a, l6.map RowX.r, u7, l8, u9, u10, y11.a, u12⟩,
      ⟨ArgL.ofRow hrow4 (fun _ => rfl) one_u32 hnil4, hok5.reads, hok5.readAt, hok5.edits, hok5.editAt, ⟨_, ArgL.ofRow hrow6 (fun _ => rfl) rowx_one hnil6, rowsA_of hok6⟩, ArgL.ofRow hrow8 (fun _ => rfl) one_rng hnil8, hok11.got, hok11.numbers, hok11.names⟩,
      ⟨(by show u0 < 256; omega), hok1, hok2, (show u3 < 18446744073709551616 by omega), ⟨hok4, hlb4⟩, hok5.fshard, hok5.freads, hok5.freadAt, hok5.fedits, hok5.feditAt, hok5.fpre, hok5.frange, ⟨fun r hr => (by obtain ⟨c, hc, rfl⟩ := List.mem_map.1 hr; exact (hok6 c hc).1), by simpa using hlb6⟩, (show u7 < 18446744073709551616 by omega), ⟨hok8, hlb8⟩, hu10, hok11.fshard, hok11.fgot, hok11.fnumbers, hok11.fnames, (by show u12 < 256; omega)⟩, by simp⟩
set_option maxRecDepth 100000 in
/-- A message that was handed in, by value. -/
theorem open_msgv {r : Reach} {b0 : Nat} {v : Value} {fuel : Nat} {x : DataW H × List MemPlace} (hv : Value.okWide Tryz.prog w r b0 43 v) (h : DataW.trod enc Tryz.prog w base spare held fuel 43 v.cells.toList = some x)
    (hw : Rows.uptoBulk x.1 ≤ 1048576) : ∃ (s : MS) (m : Mg.Msg), v = .agg (MV s m) ∧ MsgA w s m ∧ m.Fine := by
  obtain ⟨cs, rfl, hsz⟩ := okWide_struct Tryz.underlying43 hv
  obtain ⟨s, m, h1, h2, he⟩ := open_msg fuel _ x h hw
  refine ⟨s, m, ?_, h1, h2⟩
  obtain ⟨l⟩ := cs
  simp only [Value.cells] at he
  subst he
  rfl
end

end Go.Proofs.YtjgnomjjphkfbaaGreat
