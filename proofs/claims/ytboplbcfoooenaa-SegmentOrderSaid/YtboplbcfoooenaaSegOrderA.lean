/-
  WHAT SegmentOrder IS HANDED: pieces of records, elder segments; the lists that it makes of them.
-/
import Derived.Test.YtboplbcfoooenaaSegOrderP
import Derived.Test.YtboplbcfoooenaaSegArgs
import Derived.Test.YtboplbcfoooenaaSegRow
import Derived.Test.YtboplbcfoooenaaLists
namespace Go.Proofs.Ytboplbcfoooenaa
open Go.RowKit

theorem nat32_of_wf {a : Int} (h : (Lit.int .u32 a).wf = true) : ∃ n : Nat, a = n ∧ n ≤ 4294967295 := by
  have := wf_bounds h
  rw [show IntKind.u32.min = 0 from by decide, show IntKind.u32.max = 4294967295 from by decide] at this
  exact ⟨a.toNat, by omega, by omega⟩
/-- A piece of records. -/
structure PieceA where
  a : Option Addr
  cap : Nat
  recs : List ByteArray
instance : Inhabited PieceA := ⟨⟨none, 0, []⟩⟩
def PieceA.cells (y : PieceA) : List Value := [.slice y.a y.recs.length y.cap]
def okPA (w : World) (y : PieceA) : Prop := RowIs w 1 y.a (y.recs.map tcell) ∧ y.recs.length ≤ 140737488351232 ∧ ∀ r ∈ y.recs, r.size ≤ 140737488351232

section
open Go.ChangeShapes Go.WideShapes Go.ChangeAt
variable {H : Type} {enc : TypeId × Value → H} {w : World} {base : Nat} {spare : Nat → Bool} {held : Bool}
set_option maxRecDepth 20000 in
theorem open_piece (fuel : Nat) (cs : List Value) (x : DataW H × List MemPlace) (h : DataW.trod enc Try.prog w base spare held fuel 26 cs = some x) (hw : ∀ n ∈ x.1.weights Try.prog 26, n ≤ 140737488351232) : ∃ c : PieceA, okPA w c ∧ cs = c.cells := by
  obtain ⟨a, cap, l, hcs, hok, hrow, hlc, hcm, hlb, _⟩ := open_row_more (size := 1) tcell (fun t => t.size ≤ 140737488351232) 140737488351232 Try.underlying26 (by kernel_rfl) (by decide) (open_text Try.underlying9) h hw
  have hlz : l.length ≤ 140737488351232 := by
    rw [show Try.prog.bytesOf 9 = 16 by kernel_rfl] at hlb
    omega
  exact ⟨⟨a, cap, l⟩, ⟨hrow, hlz, hok⟩, hcs⟩
theorem open_8 (fuel : Nat) (cs : List Value) (x : DataW H × List MemPlace) (h : DataW.trod enc Try.prog w base spare held fuel 5 cs = some x) (_ : ∀ n ∈ x.1.weights Try.prog 5, n ≤ 140737488351232) : ∃ c : Nat, c < 256 ∧ cs = [Value.int .u8 c] := by
  obtain ⟨n, rfl, _, hw⟩ := DataW.trod_int Try.underlying5 h
  obtain ⟨c, rfl, hc⟩ := nat8_of_wf hw
  exact ⟨c, by omega, rfl⟩
end

theorem bang_p (l : List PieceA) (i : Nat) (h : i < l.length) : l[i]! = l[i] := by simp [h]
theorem bang_a (l : List SegA) (i : Nat) (h : i < l.length) : l[i]! = l[i] := by simp [h]
/-- Which number a piece begins with. -/
def pFirst (ps : List PieceA) (first : Nat) (i : Nat) : Nat := 1 + first + ((ps.take i).map (·.recs.length)).sum
theorem pFirst_zero (ps : List PieceA) (first : Nat) : pFirst ps first 0 = 1 + first := by simp [pFirst]
theorem pFirst_succ (ps : List PieceA) (first : Nat) {i : Nat} (h : i < ps.length) : pFirst ps first (i + 1) = pFirst ps first i + (ps[i]!).recs.length := by
  unfold pFirst
  rw [List.take_add_one, List.getElem?_eq_getElem h, bang_p ps i h, List.map_append, List.sum_append]
  simp only [Option.toList, List.map_cons, List.map_nil, List.sum_cons, List.sum_nil]; omega
theorem pFirst_le {ps : List PieceA} (first : Nat) (hb : ∀ y ∈ ps, y.recs.length ≤ 140737488351232) : ∀ {i : Nat}, i ≤ ps.length → pFirst ps first i ≤ 1 + first + i * 140737488351232
  | 0, _ => by rw [pFirst_zero]; omega
  | i + 1, h => by
    have h1 := pFirst_le first hb (i := i) (by omega)
    rw [pFirst_succ ps first (by omega)]
    have h2 := hb (ps[i]!) (by rw [bang_p ps i (by omega)]; exact List.getElem_mem _)
    omega
/-- A piece, as a segment. -/
def pit (ps : List PieceA) (g first : Nat) (i : Nat) : It := ⟨if i = 0 then 1 else 0, g, pFirst ps first i, ⟨#[]⟩, (ps[i]!).a, (ps[i]!).recs.length, (ps[i]!).cap, 0, true⟩
def eit (g : Nat) (y : SegA) : It := ⟨y.x.kind, y.x.gen % g, y.x.first, y.x.t, y.a, y.x.recs.length, y.cap, y.x.used, y.x.whole⟩
/-- So many pieces. -/
def upto (ps : List PieceA) (g first : Nat) (i : Nat) : List (It × Int) := (List.range i).map fun j => (pit ps g first j, (j : Int))
theorem upto_length (ps : List PieceA) (g first i : Nat) : (upto ps g first i).length = i := by simp [upto]
theorem upto_succ (ps : List PieceA) (g first i : Nat) : upto ps g first (i + 1) = upto ps g first i ++ [(pit ps g first i, (i : Int))] := by
  unfold upto; rw [List.range_succ, List.map_append]; rfl
theorem upto_orig (ps : List PieceA) (g first : Nat) (E : List It) : upto ps g first ps.length ++ E.map (fun e => (e, (-1 : Int))) = Sg.orig (pit ps g first) ps.length E := rfl

theorem segmInfo : (Try.prog.info? 28).map (fun i => (i.zero, i.size, i.bytes)) = some (some (.agg #[.int .u8 0, .int .u64 0, .int .u64 0, .string ⟨#[]⟩, .slice none 0 0, .int .i64 0, .bool false]), 7, 80) := by kernel_rfl
theorem icells_one (y : It) : ∀ u ∈ icells y, u.oneCell' = true := by
  intro u hu
  simp only [icells, List.mem_cons, List.not_mem_nil, or_false] at hu
  rcases hu with rfl | rfl | rfl | rfl | rfl | rfl | rfl <;> rfl

/-- Segments, and who they are: two lists of one's own. -/
structure Two (w W : World) (T : List (It × Int)) (sa pa : Option Addr) (cs cp : Nat) : Prop where
  seg : OL w W 28 7 sa cs (T.map fun t => icells t.1)
  plc : OL w W 3 1 pa cp (T.map fun t => [Value.int .i64 t.2])
  ap : Apart sa pa
  own : Own w.heap.size w W
theorem Two.keep {w W W2 : World} {T : List (It × Int)} {sa pa : Option Addr} {cs cp : Nat} (h : Two w W T sa pa cs cp) (hb : Below W.heap.size W W2) : Two w W2 T sa pa cs cp :=
  ⟨h.seg.keep hb, h.plc.keep hb, h.ap, h.own.trans hb⟩
theorem Two.nil (w : World) {W : World} (hO : Own w.heap.size w W) : Two w W [] none none 0 0 := ⟨OL.nil _ _ _ _, OL.nil _ _ _ _, Apart.none _, hO⟩
abbrev appS := appSem #[22, 22] 22
abbrev appI := appSem #[29, 29] 29
theorem Two.pushS {w W : World} {T : List (It × Int)} {sa pa : Option Addr} {cs cp : Nat} (h : Two w W T sa pa cs cp) (hT : T.length ≤ 1000) (x : It) :
    ∃ sa' cs' W1, (appS #[.slice sa T.length cs, .slice (some ⟨W.heap.size, 0, none⟩) 1 1]).run Try.prog (W.alloc (.cells #[.int .u8 x.kind, .int .u64 x.gen, .int .u64 x.first, .string x.t, .slice x.ra x.n x.rcap, .int .i64 x.used, .bool x.whole] 28 (0, 0))) = .ok (.slice sa' (T.length + 1) cs') W1 ∧
      OL w W1 28 7 sa' cs' ((T.map fun t => icells t.1) ++ [icells x]) ∧ OL w W1 3 1 pa cp (T.map fun t => [Value.int .i64 t.2]) ∧ Apart sa' pa ∧ Own w.heap.size w W1 ∧ Keeps W W1 sa sa' := by
  obtain ⟨i0, hin, hz0, hz1, hz2⟩ := info_parts segmInfo
  obtain ⟨sa', cs', W1, hr, hL, hO, hK⟩ := ol_push (P := Try.prog) Try.underlying22 hin hz0 hz1 hz2 rfl (by decide) (by decide) h.own h.seg (icells x) rfl (icells_one x) (by rw [List.length_map]; omega)
  rw [List.length_map] at hr
  obtain ⟨h1, h2⟩ := h.plc.other hK h.ap
  exact ⟨sa', cs', W1, hr, hL, h1, h2, hO, hK⟩
theorem pushP {w W : World} {T : List (It × Int)} {x : It} {sa pa : Option Addr} {cs cp : Nat} (hT : T.length ≤ 1000) (hL : OL w W 28 7 sa cs ((T.map fun t => icells t.1) ++ [icells x])) (hP : OL w W 3 1 pa cp (T.map fun t => [Value.int .i64 t.2])) (hA : Apart sa pa) (hO : Own w.heap.size w W) (n : Int) :
    ∃ pa' cp' W2, (appI #[.slice pa T.length cp, .slice (some ⟨W.heap.size, 0, none⟩) 1 1]).run Try.prog (W.alloc (.cells #[.int .i64 n] 3 (0, 0))) = .ok (.slice pa' (T.length + 1) cp') W2 ∧
      Two w W2 (T ++ [(x, n)]) sa pa' cs cp' ∧ Keeps W W2 pa pa' := by
  obtain ⟨i0, hin, hz0, hz1, hz2⟩ := info_parts intInfo
  obtain ⟨pa', cp', W2, hr, hL2, hO2, hK⟩ := ol_push (P := Try.prog) Try.underlying29 hin hz0 hz1 hz2 rfl (by decide) (by decide) hO hP [.int .i64 n] rfl (by intro u hu; simp at hu; subst hu; rfl) (by rw [List.length_map]; omega)
  rw [List.length_map] at hr
  obtain ⟨h1, h2⟩ := hL.other hK hA.symm
  refine ⟨pa', cp', W2, hr, ⟨?_, ?_, h2.symm, hO2⟩, hK⟩
  · rw [List.map_append]; exact h1
  · rw [List.map_append]; exact hL2

/-- All pieces, and so many elder ones behind them. -/
def behind (ps : List PieceA) (g first : Nat) (el : List SegA) (j : Nat) : List (It × Int) := upto ps g first ps.length ++ ((el.take j).map (eit g)).map fun e => (e, (-1 : Int))
theorem behind_zero (ps : List PieceA) (g first : Nat) (el : List SegA) : behind ps g first el 0 = upto ps g first ps.length := by simp [behind]
theorem behind_succ (ps : List PieceA) (g first : Nat) (el : List SegA) {j : Nat} (h : j < el.length) : behind ps g first el (j + 1) = behind ps g first el j ++ [(eit g el[j]!, (-1 : Int))] := by
  unfold behind
  rw [List.take_add_one, List.getElem?_eq_getElem h, bang_a el j h, List.map_append, List.map_append, List.append_assoc]
  rfl
theorem behind_all (ps : List PieceA) (g first : Nat) (el : List SegA) : behind ps g first el el.length = Sg.orig (pit ps g first) ps.length (el.map (eit g)) := by
  unfold behind; rw [List.take_of_length_le (Nat.le_refl _)]; rfl
theorem behind_length {ps : List PieceA} {g first : Nat} {el : List SegA} {j : Nat} (h : j ≤ el.length) : (behind ps g first el j).length = ps.length + j := by
  unfold behind
  rw [List.length_append, upto_length, List.length_map, List.length_map, List.length_take]; omega

/-- The lists that are chosen from, and those that are chosen, stand apart. -/
structure Cross (la wa sa pa : Option Addr) : Prop where
  ls : Apart la sa
  lp : Apart la pa
  ws : Apart wa sa
  wp : Apart wa pa
theorem OL.intAt {w W : World} {T : List (It × Int)} {gp op cp : Nat} (h : OL w W 3 1 (some ⟨gp, op, none⟩) cp (T.map fun t => [Value.int .i64 t.2])) (k : Nat) (hk : k < T.length) : W.cell? ⟨gp, op + k, none⟩ = some (.int .i64 (T[k]).2) := by
  obtain ⟨g, off, e, hc⟩ := RowIs.cell1 (f := fun t : It × Int => Value.int .i64 t.2) h.row k hk
  injection e with e
  injection e with e1 e2 _
  subst e1 e2
  exact hc
theorem OL.segAt {w W : World} {T : List (It × Int)} {gs os cs : Nat} (h : OL w W 28 7 (some ⟨gs, os, none⟩) cs (T.map fun t => icells t.1)) (k : Nat) (hk : k < T.length) :
    W.cell? ⟨gs, os + k * 7, none⟩ = some (.int .u8 (T[k]).1.kind) ∧ W.cell? ⟨gs, os + k * 7 + 1, none⟩ = some (.int .u64 (T[k]).1.gen) ∧ W.cell? ⟨gs, os + k * 7 + 2, none⟩ = some (.int .u64 (T[k]).1.first) ∧
    W.cell? ⟨gs, os + k * 7 + 3, none⟩ = some (.string (T[k]).1.t) ∧ W.cell? ⟨gs, os + k * 7 + 4, none⟩ = some (.slice (T[k]).1.ra (T[k]).1.n (T[k]).1.rcap) ∧ W.cell? ⟨gs, os + k * 7 + 5, none⟩ = some (.int .i64 (T[k]).1.used) ∧ W.cell? ⟨gs, os + k * 7 + 6, none⟩ = some (.bool (T[k]).1.whole) := by
  obtain ⟨g, off, e, hc⟩ := h.row k (by simpa using hk)
  injection e with e
  injection e with e1 e2 _
  subst e1 e2
  rw [List.getElem_map] at hc
  exact ⟨hc.cell 0 (by simp [icells]), hc.cell 1 (by simp [icells]), hc.cell 2 (by simp [icells]), hc.cell 3 (by simp [icells]), hc.cell 4 (by simp [icells]), hc.cell 5 (by simp [icells]), hc.cell 6 (by simp [icells])⟩
theorem map_cut {β : Type} (f : It × Int → β) (T : List (It × Int)) (k : Nat) : (T.map f).take k ++ (T.map f).drop (k + 1) = (T.take k ++ T.drop (k + 1)).map f := by
  rw [List.map_append, List.map_take, List.map_drop]
theorem perm_step {U T O : List (It × Int)} (h : (U ++ T).Perm O) (k : Nat) (hk : k < T.length) : ((U ++ [T[k]]) ++ (T.take k ++ T.drop (k + 1))).Perm O := by
  refine List.Perm.trans ?_ h
  rw [List.append_assoc]
  refine List.Perm.append_left U ?_
  have e : T = T.take k ++ T[k] :: T.drop (k + 1) := by rw [← List.drop_eq_getElem_cons hk, List.take_append_drop]
  conv => rhs; rw [e]
  rw [List.singleton_append]
  exact List.perm_middle.symm
theorem drewB (W : World) : Below W.heap.size W W.drew := (Own.refl W).drew.below
/-- One is chosen: it goes behind the chosen ones, and out of the others. -/
theorem pick {w W : World} {T U : List (It × Int)} {gs os gp op cs cp cl cw : Nat} {la wa : Option Addr} (hT : Two w W T (some ⟨gs, os, none⟩) (some ⟨gp, op, none⟩) cs cp) (hU : Two w W U la wa cl cw) (hX : Cross la wa (some ⟨gs, os, none⟩) (some ⟨gp, op, none⟩)) (k : Nat) (hk : k < T.length) (hn : U.length + T.length ≤ 1000) (A B : Option Addr) (hA : (if cs = k + 1 then some (⟨gs, os, none⟩ : Addr) else some ⟨gs, os + (k + 1) * 7, none⟩) = A) (hB : (if cp = k + 1 then some (⟨gp, op, none⟩ : Addr) else some ⟨gp, op + (k + 1), none⟩) = B) :
    ∃ la' cl' W1 wa' cw' W2 s1 c1 W3 s2 c2 W4 p1 d1 W5 p2 d2 W6,
      (appSem #[22, 22] 22 #[.slice la U.length cl, .slice (some ⟨W.heap.size, 0, none⟩) 1 1]).run Try.prog (W.alloc (.cells #[.int .u8 (T[k]).1.kind, .int .u64 (T[k]).1.gen, .int .u64 (T[k]).1.first, .string (T[k]).1.t, .slice (T[k]).1.ra (T[k]).1.n (T[k]).1.rcap, .int .i64 (T[k]).1.used, .bool (T[k]).1.whole] 28 (0, 0))) = .ok (.slice la' (U.length + 1) cl') W1 ∧
      W1.cell? ⟨gp, op + k, none⟩ = some (.int .i64 (T[k]).2) ∧
      (appSem #[29, 29] 29 #[.slice wa U.length cw, .slice (some ⟨W1.heap.size, 0, none⟩) 1 1]).run Try.prog (W1.alloc (.cells #[.int .i64 (T[k]).2] 3 (0, 0))) = .ok (.slice wa' (U.length + 1) cw') W2 ∧
      (appSem #[22, 22] 22 #[.slice (some ⟨W2.heap.size, 0, none⟩) 0 0, .slice (some ⟨gs, os, none⟩) k cs]).run Try.prog (W2.alloc (.cells #[] 28 (0, 0))).drew = .ok (.slice s1 k c1) W3 ∧
      (appSem #[22, 22] 22 #[.slice s1 k c1, .slice A (T.length - (k + 1)) (cs - (k + 1))]).run Try.prog W3 = .ok (.slice s2 (T.length - 1) c2) W4 ∧
      (appSem #[29, 29] 29 #[.slice (some ⟨W4.heap.size, 0, none⟩) 0 0, .slice (some ⟨gp, op, none⟩) k cp]).run Try.prog (W4.alloc (.cells #[] 3 (0, 0))).drew = .ok (.slice p1 k d1) W5 ∧
      (appSem #[29, 29] 29 #[.slice p1 k d1, .slice B (T.length - (k + 1)) (cp - (k + 1))]).run Try.prog W5 = .ok (.slice p2 (T.length - 1) d2) W6 ∧
      Two w W6 (T.take k ++ T.drop (k + 1)) s2 p2 c2 d2 ∧ Two w W6 (U ++ [T[k]]) la' wa' cl' cw' ∧ Cross la' wa' s2 p2 := by
  obtain ⟨la', cl', W1, hr1, hL1, hP1, hA1, hO1, hK1⟩ := hU.pushS (by omega) (T[k]).1
  obtain ⟨ts1, x1⟩ := hT.seg.other hK1 hX.ls
  obtain ⟨tp1, x2⟩ := hT.plc.other hK1 hX.lp
  obtain ⟨wa', cw', W2, hr2, hU2, hK2⟩ := pushP (by omega) hL1 hP1 hA1 hO1 (T[k]).2
  obtain ⟨ts2, x3⟩ := ts1.other hK2 hX.ws
  obtain ⟨tp2, x4⟩ := tp1.other hK2 hX.wp
  obtain ⟨i0, hin, hz0, hz1, hz2⟩ := info_parts segmInfo
  obtain ⟨i1, hjn, hy0, hy1, hy2⟩ := info_parts intInfo
  have hU2' := hU2.keep (drewB W2)
  obtain ⟨s1, c1, W3, s2, c2, W4, hr3, hr4, hS4, hO4, hK4⟩ := ol_cut (P := Try.prog) Try.underlying22 hin hz0 hz1 hz2 rfl (by decide) (by decide) hU2'.own (ts2.keep (drewB W2)) (by intro x hx; obtain ⟨y, _, rfl⟩ := List.mem_map.1 hx; exact icells_one _) (by rw [List.length_map]; omega) k (by rw [List.length_map]; exact hk) A hA
  rw [List.length_map] at hr4
  obtain ⟨us4, y1⟩ := hU2'.seg.other hK4 (Apart.none _)
  obtain ⟨up4, y2⟩ := hU2'.plc.other hK4 (Apart.none _)
  obtain ⟨tp4, y3⟩ := (tp2.keep (drewB W2)).other hK4 (Apart.none _)
  obtain ⟨p1, d1, W5, p2, d2, W6, hr5, hr6, hS6, hO6, hK6⟩ := ol_cut (P := Try.prog) Try.underlying29 hjn hy0 hy1 hy2 rfl (by decide) (by decide) hO4.drew (tp4.keep (drewB W4)) (by intro x hx; obtain ⟨y, _, rfl⟩ := List.mem_map.1 hx; intro u hu; simp at hu; subst hu; rfl) (by rw [List.length_map]; omega) k (by rw [List.length_map]; exact hk) B (by rw [Nat.mul_one]; exact hB)
  rw [List.length_map] at hr6
  obtain ⟨us6, z1⟩ := (us4.keep (drewB W4)).other hK6 (Apart.none _)
  obtain ⟨up6, z2⟩ := (up4.keep (drewB W4)).other hK6 (Apart.none _)
  obtain ⟨ts6, z3⟩ := (hS4.keep (drewB W4)).other hK6 (Apart.none _)
  rw [map_cut] at hS6 ts6
  exact ⟨la', cl', W1, wa', cw', W2, s1, c1, W3, s2, c2, W4, p1, d1, W5, p2, d2, W6, hr1, tp1.intAt k hk, hr2, hr3, hr4, hr5, hr6, ⟨ts6, hS6, z3.symm, hO6⟩, ⟨us6, up6, hU2.ap, hO6⟩, ⟨y1.symm, z1.symm, y2.symm, z2.symm⟩⟩

theorem SliceIs.noCap {w : World} {e : TypeId} {size : Nat} {n cap : Nat} {xs : List Value} (h : SliceIs w e size none n cap xs) : cap = 0 := by
  rcases h.2 with ⟨_, _, h⟩ | ⟨g, off, cur, h, _⟩
  · exact h
  · cases h
/-- 'append([]Segment{}, l...)'. -/
theorem copy_segs {w W : World} {U : List (It × Int)} {la wa : Option Addr} {cl cw : Nat} (hU : Two w W U la wa cl cw) (hn : U.length ≤ 1000) :
    ∃ s c W2, (appSem #[22, 22] 22 #[.slice (some ⟨W.heap.size, 0, none⟩) 0 0, .slice la U.length cl]).run Try.prog (W.alloc (.cells #[] 28 (0, 0))) = .ok (.slice s U.length c) W2 ∧ RowIs W2 7 s ((U.map Prod.fst).map icells) ∧ Below W.heap.size W W2 := by
  obtain ⟨i0, hin, hz0, hz1, hz2⟩ := info_parts segmInfo
  have hSE : SliceIs (W.alloc (.cells #[] 28 (0, 0))) 28 7 (some ⟨W.heap.size, 0, none⟩) 0 0 [] := ⟨by simp, .inr ⟨W.heap.size, 0, #[], rfl, heap_alloc_new W _, Nat.le_refl _, by decide, by simp, by simp⟩⟩
  have hbw := ((Own.refl W).alloc (.cells #[] 28 (0, 0))).below
  obtain ⟨s', cap', w2, hr2, hS2, hU2, hb2⟩ := append_row (P := Try.prog) Try.underlying22 hin hz0 hz1 hz2 rfl (by decide) (W.alloc (.cells #[] 28 (0, 0))) (some ⟨W.heap.size, 0, none⟩) 0 0 [] hSE la cl (U.map fun t => icells t.1) (hU.seg.row.keep hbw) (by intro x hx; obtain ⟨y, _, rfl⟩ := List.mem_map.1 hx; rfl) (by intro x hx; obtain ⟨y, _, rfl⟩ := List.mem_map.1 hx; exact icells_one _) (by rw [List.length_map]; omega) (by decide) (fun e => by have h := hU.seg.sl; rw [e] at h; exact h.noCap)
  rw [Nat.zero_add, List.length_map] at hr2 hS2
  rw [List.nil_append] at hS2
  have hrow2 := hS2.rowF (by intro x hx; obtain ⟨y, _, rfl⟩ := List.mem_map.1 hx; rfl) (by rw [List.length_map])
  refine ⟨s', cap', w2, hr2, by rw [List.map_map]; exact hrow2, ?_⟩
  exact (((Upd.refl W []).alloc (.cells #[] 28 (0, 0))).trans hU2 (fun x hx => by simp at hx; exact .inr (by omega))).below
/-- What stands there is a log of pieces, and elder ones among them. -/
theorem mixed_here {T : List (It × Int)} {ps : List PieceA} {g first : Nat} {el : List SegA} (h : T.Perm (Sg.orig (pit ps g first) ps.length (el.map (eit g)))) (h0 : 0 < ps.length) (h12 : ps.length ≤ 12) (hg : 0 < g) (hf : first < 4294967296) (hb : ∀ i, i < ps.length → (ps[i]!).recs.length ≤ 140737488351232) (hn : ∀ j, j + 1 < ps.length → (ps[j]!).recs.length ≠ 0) :
    Sg.Mixed (T.map Prod.fst) g ps.length (Sg.place T) (pFirst ps first) := by
  have hle : ∀ i, i ≤ ps.length → pFirst ps first i ≤ 1 + first + i * 140737488351232 := fun i hi => pFirst_le first (fun y hy => by obtain ⟨k, hk, rfl⟩ := List.getElem_of_mem hy; rw [← bang_p ps k hk]; exact hb k hk) hi
  refine Sg.mixed_of h g (pFirst ps first) h0 rfl (fun i hi _ => by simp [pit]; omega) (fun i _ => rfl) (fun i _ => rfl) (fun i hi => ?_) (fun i _ => rfl) (fun e he => ?_) (fun i hi => ?_) ?_
  · unfold It.next
    show (pFirst ps first i + (ps[i]!).recs.length) % 18446744073709551616 = _
    rw [← pFirst_succ ps first hi]
    have := hle (i + 1) (by omega)
    exact Nat.mod_eq_of_lt (by omega)
  · obtain ⟨y, _, rfl⟩ := List.mem_map.1 he
    exact Nat.mod_lt _ hg
  · rw [pFirst_succ ps first (by omega)]
    have := hn i hi
    omega
  · have e := pFirst_succ ps first (i := ps.length - 1) (by omega)
    rw [Nat.sub_add_cancel h0] at e
    omega
theorem orig_ok {ps : List PieceA} {g first : Nat} {el : List SegA} {w : World} (h12 : ps.length ≤ 12) (hf : first < 4294967296) (hg : g < 18446744073709551616) (hb : ∀ i, i < ps.length → okPA w ps[i]!) (he : ∀ i, i < el.length → okSA w el[i]!) :
    ∀ t ∈ Sg.orig (pit ps g first) ps.length (el.map (eit g)), okI t.1 := by
  intro t ht
  rcases Sg.orig_mem ht with ⟨i, hi, rfl⟩ | ⟨e, hE, rfl⟩
  · have h1 := pFirst_le (ps := ps) first (fun y hy => by obtain ⟨k, hk, rfl⟩ := List.getElem_of_mem hy; rw [← bang_p ps k hk]; exact (hb k hk).2.1) (i := i) (by omega)
    have h2 := (hb i hi).2.1
    refine ⟨?_, hg, ?_, ?_⟩
    · show (if i = 0 then 1 else 0) < 256
      split <;> decide
    · show pFirst ps first i < _
      omega
    · show (ps[i]!).recs.length ≤ _
      omega
  · obtain ⟨y, hy, rfl⟩ := List.mem_map.1 hE
    obtain ⟨k, hk, rfl⟩ := List.getElem_of_mem hy
    have h := (he k hk).1
    rw [bang_a el k hk] at h
    exact ⟨h.kind, Nat.lt_of_le_of_lt (Nat.mod_le _ _) h.gen, h.first, h.n⟩

end Go.Proofs.Ytboplbcfoooenaa
