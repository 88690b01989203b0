/-
  COPIES of rows of numbers, texts, truths, as the statements make them.
-/
import Derived.Test.YtdceefbhkonndaaWireRef2
import Derived.Test.YtdceefbhkonndaaRowMore
namespace Go.Proofs.Ytdceefbhkonndaa
open Go.RowKit

theorem u64Info : (Try.prog.info? 29).map (fun i => (i.zero, i.size, i.bytes)) = some (some (.int .u64 0), 1, 8) := by kernel_rfl
theorem i64Info : (Try.prog.info? 2).map (fun i => (i.zero, i.size, i.bytes)) = some (some (.int .i64 0), 1, 8) := by kernel_rfl
theorem strInfo : (Try.prog.info? 9).map (fun i => (i.zero, i.size, i.bytes)) = some (some (.string ⟨#[]⟩), 1, 16) := by kernel_rfl
theorem boolInfo : (Try.prog.info? 4).map (fun i => (i.zero, i.size, i.bytes)) = some (some (.bool false), 1, 1) := by kernel_rfl
/-- What a copy leaves. -/
def Copied {α : Type} (T E : TypeId) (f : α → List Value) (w : World) (a : Option Addr) (cap : Nat) (xs : List α) (s' : Option Addr) (cap' : Nat) (w' : World) : Prop :=
  (appSem #[T, T] T #[.slice (some ⟨w.heap.size, 0, none⟩) 0 0, .slice a xs.length cap]).run Try.prog (w.alloc (.cells #[] E (0, 0))) = .ok (.slice s' xs.length cap') w' ∧ RowIs w' 1 s' (xs.map f) ∧ Own w.heap.size w w'
theorem copy_map {α : Type} {T E : TypeId} {z : Value} {bytes : Nat} (f : α → List Value) (g : α → Value) (hfg : ∀ x, f x = [g x]) (h1 : ∀ x, (g x).oneCell' = true) (hI : (Try.prog.info? E).map (fun i => (i.zero, i.size, i.bytes)) = some (some z, 1, bytes)) (ht : Try.prog.underlying T = some (.slice E))
    (hzs : z.cells.size = 1) (hb : bytes ≤ 16) (w : World) (a : Option Addr) (cap : Nat) (xs : List α) (h : RowIs w 1 a (xs.map f)) (hn : xs.length ≤ 1073741824) (hnil : a = none → cap = 0) :
    ∃ s' cap' w', Copied T E f w a cap xs s' cap' w' := by
  obtain ⟨i0, hi, hz0, hz1, hz2⟩ := info_parts hI
  have e : xs.map f = (xs.map g).map fun v => [v] := by
    rw [List.map_map]
    exact List.map_congr_left fun x _ => hfg x
  obtain ⟨s', cap', w', hr, hs, ho⟩ := copy_run (P := Try.prog) ht hi hz0 hz1 hz2 hzs w a cap (xs.map g) (by rw [← e]; exact h) (by intro u hu; obtain ⟨x, _, rfl⟩ := List.mem_map.1 hu; exact h1 x) (by simpa using hn) hb hnil
  rw [List.length_map] at hr
  exact ⟨s', cap', w', hr, by rw [e]; exact hs, ho⟩
theorem copy_u (w : World) (a : Option Addr) (cap : Nat) (xs : List Nat) (h : RowIs w 1 a (xs.map ucell)) (hn : xs.length ≤ 1073741824) (hnil : a = none → cap = 0) : ∃ s' cap' w', Copied 22 29 ucell w a cap xs s' cap' w' :=
  copy_map ucell (fun x => .int .u64 x) (fun _ => rfl) (fun _ => rfl) u64Info Try.underlying22 rfl (by decide) w a cap xs h hn hnil
theorem copy_i (w : World) (a : Option Addr) (cap : Nat) (xs : List Int) (h : RowIs w 1 a (xs.map icell)) (hn : xs.length ≤ 1073741824) (hnil : a = none → cap = 0) : ∃ s' cap' w', Copied 23 2 icell w a cap xs s' cap' w' :=
  copy_map icell (fun x => .int .i64 x) (fun _ => rfl) (fun _ => rfl) i64Info Try.underlying23 rfl (by decide) w a cap xs h hn hnil
theorem copy_t (w : World) (a : Option Addr) (cap : Nat) (xs : List ByteArray) (h : RowIs w 1 a (xs.map tcell)) (hn : xs.length ≤ 1073741824) (hnil : a = none → cap = 0) : ∃ s' cap' w', Copied 24 9 tcell w a cap xs s' cap' w' :=
  copy_map tcell (fun x => .string x) (fun _ => rfl) (fun _ => rfl) strInfo Try.underlying24 rfl (by decide) w a cap xs h hn hnil
theorem copy_b (w : World) (a : Option Addr) (cap : Nat) (xs : List Bool) (h : RowIs w 1 a (xs.map bcell)) (hn : xs.length ≤ 1073741824) (hnil : a = none → cap = 0) : ∃ s' cap' w', Copied 25 4 bcell w a cap xs s' cap' w' :=
  copy_map bcell (fun x => .bool x) (fun _ => rfl) (fun _ => rfl) boolInfo Try.underlying25 rfl (by decide) w a cap xs h hn hnil
/-- The bytes of a list, in two. -/
theorem list_two (w : World) (a : Option Addr) (cap : Nat) (xs : List ByteArray) (h : RowIs w 1 a (xs.map tcell)) (hz : sizes xs ≤ 1073741824) (hlen : xs.length ≤ 1073741824) :
    Calls Try.prog 16 #[.slice a xs.length cap] w fun e w' => e = .returned (.string (S (Wr.uv xs.length) ++ S (tvs xs))) ∧ Below w.heap.size w w' := by
  rw [S_append]; exact list_any w a cap xs h hz hlen
/-- Four rows, as they were handed in. -/
structure Four (w : World) (us : List Nat) (ns : List Int) (ts : List ByteArray) (bs : List Bool) (a0 a1 a2 a3 : Option Addr) (c0 c1 c2 c3 : Nat) : Prop where
  u : RowIs w 1 a0 (us.map ucell)
  n : RowIs w 1 a1 (ns.map icell)
  t : RowIs w 1 a2 (ts.map tcell)
  b : RowIs w 1 a3 (bs.map bcell)
  n0 : a0 = none → c0 = 0
  n1 : a1 = none → c1 = 0
  n2 : a2 = none → c2 = 0
  n3 : a3 = none → c3 = 0
  u64 : ∀ x ∈ us, x < 18446744073709551616
  i64 : ∀ x ∈ ns, -9223372036854775808 ≤ x ∧ x ≤ 9223372036854775807
theorem Four.keep {w w' : World} {us : List Nat} {ns : List Int} {ts : List ByteArray} {bs : List Bool} {a0 a1 a2 a3 : Option Addr} {c0 c1 c2 c3 : Nat} (h : Four w us ns ts bs a0 a1 a2 a3 c0 c1 c2 c3) (hb : Below w.heap.size w w') : Four w' us ns ts bs a0 a1 a2 a3 c0 c1 c2 c3 :=
  ⟨h.u.keep hb, h.n.keep hb, h.t.keep hb, h.b.keep hb, h.n0, h.n1, h.n2, h.n3, h.u64, h.i64⟩

end Go.Proofs.Ytdceefbhkonndaa
