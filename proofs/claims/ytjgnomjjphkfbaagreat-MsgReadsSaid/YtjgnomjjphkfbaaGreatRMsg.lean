/-
  Joined out of the texts MsgMsg MsgLight MsgParts MsgNext MsgTold MsgAsk MsgState MsgHead.
-/
import Derived.Test.YtjgnomjjphkfbaaGreatRList
import Derived.Test.YtjgnomjjphkfbaaGreatRPlain
namespace Go.Proofs.YtjgnomjjphkfbaaGreat
open Go.RowKit

/-- The nine lists of a message, as a message's cells hold them. -/
structure MS where
  parts : Option Addr × Nat
  reads : Option Addr × Nat
  readAt : Option Addr × Nat
  edits : Option Addr × Nat
  editAt : Option Addr × Nat
  rows : Option Addr × Nat
  own : Option Addr × Nat
  got : Option Addr × Nat
  numbers : Option Addr × Nat
  names : Option Addr × Nat
/-- A message's 28 cells. -/
abbrev MS.cells (s : MS) (x : Mg.Msg) : List Value :=
  [.int .u8 x.kind, .int .u64 x.tx.life, .int .u64 x.tx.n, .int .u64 x.low.life, .int .u64 x.low.n, .int .u64 x.map, .slice s.parts.1 x.parts.length s.parts.2,
   .int .u32 x.ask.shard, .slice s.reads.1 x.ask.reads.length s.reads.2, .slice s.readAt.1 x.ask.readAt.length s.readAt.2, .slice s.edits.1 x.ask.edits.length s.edits.2, .slice s.editAt.1 x.ask.editAt.length s.editAt.2,
   .bool x.ask.list, .string x.ask.pre, .bool x.ask.give, .bool x.ask.take, .int .u64 x.ask.range.frm, .int .u64 x.ask.range.top,
   .slice s.rows.1 x.rows.length s.rows.2, .int .u64 x.next, .slice s.own.1 x.own.length s.own.2, .bool x.commit, .int .i64 x.err,
   .int .u32 x.told.shard, .slice s.got.1 x.told.got.length s.got.2, .slice s.numbers.1 x.told.numbers.length s.numbers.2, .slice s.names.1 x.told.names.length s.names.2, .int .u8 x.state]
/-- A message's lists in memory. -/
structure MsgL (w : World) (s : MS) (x : Mg.Msg) : Prop where
  parts : ListT (fun w g o (a : Nat) => CellT w g o (.int .u32 a)) 1 w s.parts.1 x.parts
  reads : ListT (fun w g o a => CellsT w g o (Mg.Rd.cells a)) 2 w s.reads.1 x.ask.reads
  readAt : ListT (fun w g o (a : Int) => CellT w g o (.int .i64 a)) 1 w s.readAt.1 x.ask.readAt
  edits : ListT (fun w g o a => CellsT w g o (Mg.Ed.cells a)) 6 w s.edits.1 x.ask.edits
  editAt : ListT (fun w g o (a : Int) => CellT w g o (.int .i64 a)) 1 w s.editAt.1 x.ask.editAt
  rows : ListT RowT 3 w s.rows.1 x.rows
  own : ListT (fun w g o a => CellsT w g o (Mg.Rng.cells a)) 2 w s.own.1 x.own
  got : ListT (fun w g o a => CellsT w g o (Mg.Got.cells a)) 4 w s.got.1 x.told.got
  numbers : ListT (fun w g o (a : Nat) => CellT w g o (.int .u64 a)) 1 w s.numbers.1 x.told.numbers
  names : ListT (fun w g o (a : ByteArray) => CellT w g o (.string a)) 1 w s.names.1 x.told.names
theorem MsgL.keep {B : Nat} {w w' : World} {s : MS} {x : Mg.Msg} (h : MsgL w s x) (f : FrW B w w') : MsgL w' s x :=
  ⟨h.parts.keep fun _ _ _ h => h.keep f, h.reads.keep fun _ _ _ h => h.keep f, h.readAt.keep fun _ _ _ h => h.keep f, h.edits.keep fun _ _ _ h => h.keep f, h.editAt.keep fun _ _ _ h => h.keep f,
   h.rows.keep fun _ _ _ h => h.keep f, h.own.keep fun _ _ _ h => h.keep f, h.got.keep fun _ _ _ h => h.keep f, h.numbers.keep fun _ _ _ h => h.keep f, h.names.keep fun _ _ _ h => h.keep f⟩
/-- A message in block m. -/
structure MsgT (w : World) (m : Nat) (s : MS) (x : Mg.Msg) : Prop where
  cells : CellsT w m 0 (s.cells x)
  lists : MsgL w s x
theorem MsgT.keep {B : Nat} {w w' : World} {m : Nat} {s : MS} {x : Mg.Msg} (h : MsgT w m s x) (f : FrW B w w') : MsgT w' m s x := ⟨h.cells.keep f, h.lists.keep f⟩
/-- What Go's types say of a message, and how long it may be here. -/
structure Mg.Msg.Good (x : Mg.Msg) : Prop where
  kind : x.kind < 256
  tx : x.tx.Good
  low : x.low.Good
  map : ok64 x.map
  parts : (∀ a ∈ x.parts, a < 4294967296) ∧ x.parts.length ≤ 100000
  shard : x.ask.shard < 4294967296
  reads : (∀ a ∈ x.ask.reads, a.Good) ∧ x.ask.reads.length ≤ 100000
  readAt : (∀ a ∈ x.ask.readAt, -9223372036854775808 ≤ a ∧ a ≤ 9223372036854775807) ∧ x.ask.readAt.length ≤ 100000
  edits : (∀ a ∈ x.ask.edits, a.Good) ∧ x.ask.edits.length ≤ 100000
  editAt : (∀ a ∈ x.ask.editAt, -9223372036854775808 ≤ a ∧ a ≤ 9223372036854775807) ∧ x.ask.editAt.length ≤ 100000
  pre : okT x.ask.pre
  range : x.ask.range.Good
  rows : (∀ a ∈ x.rows, a.Good) ∧ x.rows.length ≤ 100000
  next : ok64 x.next
  own : (∀ a ∈ x.own, a.Good) ∧ x.own.length ≤ 100000
  err : -9223372036854775808 ≤ x.err ∧ x.err ≤ 9223372036854775807
  tshard : x.told.shard < 4294967296
  got : (∀ a ∈ x.told.got, a.Good) ∧ x.told.got.length ≤ 100000
  numbers : (∀ a ∈ x.told.numbers, ok64 a) ∧ x.told.numbers.length ≤ 100000
  names : (∀ a ∈ x.told.names, okT a) ∧ x.told.names.length ≤ 100000
  state : x.state < 256

set_option maxRecDepth 20000 in
set_option maxHeartbeats 2000000 in
theorem lowW (B k m : Nat) (bs : List UInt8) (bad : Bool) (s : MS) (x : Mg.Msg) (w : World) (h : CdAt B k bs bad m w) (hx : MsgT w m s x) (ok : x.Good) (hlen : bs.length + (Mg.cTx.enc x.low).length ≤ 1073741824) :
    Calls Tryz.prog 83 #[.pointer (some ⟨k, 0, none⟩)] w fun e w' => e = .returned (.tuple #[]) ∧ CdAt B k (bs ++ Mg.cTx.enc x.low) (bad || !Mg.cTx.fit x.low) m w' ∧ FrW B w w' := by
  obtain ⟨d0, d3, d4, dz⟩ := h.cells
  have H1 := Lib.hid (txidW B k m bs bad m (0 + 3) x.low w h (hx.cells.sub 3 (fun j v hj => by
    match j, hj with
    | 0, hj => simpa using hj
    | 1, hj => simpa using hj)) ok.low hlen)
  clear h hx ok hlen
  go_enter Tryz.func83, Tryz.ntmps83
  go_wp2_with fail
  refine H1.out.mono ?_
  rintro e w1 ⟨rfl, hc1, hf1⟩
  have HC := Lib.hid hc1
  have HF := Lib.hid hf1
  clear hc1 hf1 d0 d3 d4 dz
  go_wp2_with fail
  exact bodyPost_end (v := .tuple #[]) (by simp [results, Tryz.results83, go_sem]) rfl ⟨rfl, HC.out, HF.out⟩

end Go.Proofs.YtjgnomjjphkfbaaGreat

namespace Go.Proofs.YtjgnomjjphkfbaaGreat
open Go.RowKit

namespace Mg
/-- A row within Go's types, of lists and texts that were handed in. -/
structure Row.Fine (x : Row) : Prop where
  p : okT x.p
  last : ok64 x.last
  l : (∀ v ∈ x.l, v.Good) ∧ x.l.length ≤ 1048576
/-- A message within Go's types, of lists and texts that were handed in. -/
structure Msg.Fine (x : Msg) : Prop where
  kind : x.kind < 256
  tx : x.tx.Good
  low : x.low.Good
  map : ok64 x.map
  parts : (∀ a ∈ x.parts, a < 4294967296) ∧ x.parts.length ≤ 1048576
  shard : x.ask.shard < 4294967296
  reads : (∀ a ∈ x.ask.reads, a.Good) ∧ x.ask.reads.length ≤ 1048576
  readAt : (∀ a ∈ x.ask.readAt, -9223372036854775808 ≤ a ∧ a ≤ 9223372036854775807) ∧ x.ask.readAt.length ≤ 1048576
  edits : (∀ a ∈ x.ask.edits, a.Good) ∧ x.ask.edits.length ≤ 1048576
  editAt : (∀ a ∈ x.ask.editAt, -9223372036854775808 ≤ a ∧ a ≤ 9223372036854775807) ∧ x.ask.editAt.length ≤ 1048576
  pre : okT x.ask.pre
  range : x.ask.range.Good
  rows : (∀ a ∈ x.rows, a.Fine) ∧ x.rows.length ≤ 1048576
  next : ok64 x.next
  own : (∀ a ∈ x.own, a.Good) ∧ x.own.length ≤ 1048576
  err : -9223372036854775808 ≤ x.err ∧ x.err ≤ 9223372036854775807
  tshard : x.told.shard < 4294967296
  got : (∀ a ∈ x.told.got, a.Good) ∧ x.told.got.length ≤ 1048576
  numbers : (∀ a ∈ x.told.numbers, ok64 a) ∧ x.told.numbers.length ≤ 1048576
  names : (∀ a ∈ x.told.names, okT a) ∧ x.told.names.length ≤ 1048576
  state : x.state < 256
def lists (x : Msg) : Nat := x.parts.length + x.ask.reads.length + x.ask.readAt.length + x.ask.edits.length + x.ask.editAt.length + x.rows.length + x.own.length + x.told.got.length + x.told.numbers.length + x.told.names.length
end Mg

end Go.Proofs.YtjgnomjjphkfbaaGreat

namespace Go.Proofs.YtjgnomjjphkfbaaGreat
open Go.RowKit

set_option maxRecDepth 20000 in
set_option maxHeartbeats 2000000 in
theorem rowsW (B k m : Nat) (bs : List UInt8) (bad : Bool) (s : MS) (x : Mg.Msg) (w : World) (h : CdAt B k bs bad m w) (hx : MsgT w m s x) (ok : x.Good) (hlen : bs.length + ((Mg.list 512 Mg.cRow).enc x.rows).length ≤ 1073741824) :
    Calls Tryz.prog 86 #[.pointer (some ⟨k, 0, none⟩)] w fun e w' => e = .returned (.tuple #[]) ∧ CdAt B k (bs ++ (Mg.list 512 Mg.cRow).enc x.rows) (bad || !(Mg.list 512 Mg.cRow).fit x.rows) m w' ∧ FrW B w w' := by
  obtain ⟨d0, d3, d4, dz⟩ := h.cells
  have H1 := Lib.hid (listW_row B k m bs bad m (0 + 18) s.rows.1 s.rows.2 x.rows w h (hx.cells.at 18 rfl) hx.lists.rows ok.rows.1 ok.rows.2 hlen)
  clear h hx ok hlen
  go_enter Tryz.func86, Tryz.ntmps86
  go_wp2_with fail
  refine H1.out.mono ?_
  rintro e w1 ⟨rfl, hc1, hf1⟩
  have HC := Lib.hid hc1
  have HF := Lib.hid hf1
  clear hc1 hf1 d0 d3 d4 dz
  go_wp2_with fail
  exact bodyPost_end (v := .tuple #[]) (by simp [results, Tryz.results86, go_sem]) rfl ⟨rfl, HC.out, HF.out⟩

set_option maxRecDepth 20000 in
set_option maxHeartbeats 2000000 in
theorem commitW (B k m : Nat) (bs : List UInt8) (bad : Bool) (s : MS) (x : Mg.Msg) (w : World) (h : CdAt B k bs bad m w) (hx : MsgT w m s x) (hlen : bs.length ≤ 1073741824) :
    Calls Tryz.prog 88 #[.pointer (some ⟨k, 0, none⟩)] w fun e w' => e = .returned (.tuple #[]) ∧ CdAt B k (bs ++ Mg.truth.enc x.commit) bad m w' ∧ FrW B w w' := by
  obtain ⟨d0, d3, d4, dz⟩ := h.cells
  have H1 := Lib.hid (truthW B k m bs bad m (0 + 21) x.commit w h (hx.cells.at 21 rfl) hlen)
  clear h hx hlen
  go_enter Tryz.func88, Tryz.ntmps88
  go_wp2_with fail
  refine H1.out.mono ?_
  rintro e w1 ⟨rfl, hc1, hf1⟩
  have HC := Lib.hid hc1
  have HF := Lib.hid hf1
  clear hc1 hf1 d0 d3 d4 dz
  go_wp2_with fail
  exact bodyPost_end (v := .tuple #[]) (by simp [results, Tryz.results88, go_sem]) rfl ⟨rfl, HC.out, HF.out⟩

set_option maxRecDepth 20000 in
set_option maxHeartbeats 2000000 in
theorem errW (B k m : Nat) (bs : List UInt8) (bad : Bool) (s : MS) (x : Mg.Msg) (w : World) (h : CdAt B k bs bad m w) (hx : MsgT w m s x) (ok : x.Good) (hlen : bs.length ≤ 1073741824) :
    Calls Tryz.prog 89 #[.pointer (some ⟨k, 0, none⟩)] w fun e w' => e = .returned (.tuple #[]) ∧ CdAt B k (bs ++ (Mg.int 9999).enc x.err) (bad || !(Mg.int 9999).fit x.err) m w' ∧ FrW B w w' := by
  obtain ⟨d0, d3, d4, dz⟩ := h.cells
  have H1 := Lib.hid (numW_errno B k m bs bad m (0 + 22) x.err 9999 w h (hx.cells.at 22 rfl) ok.err (by decide) hlen)
  have HW := Lib.hid (wrap_enc 9999 x.err)
  clear h hx ok hlen
  go_enter Tryz.func89, Tryz.ntmps89
  go_wp2_with fail
  refine H1.out.mono ?_
  rintro e w1 ⟨rfl, hc1, hf1⟩
  have HC := Lib.hid hc1
  have HF := Lib.hid hf1
  clear hc1 hf1 d0 d3 d4 dz
  go_wp2_with fail
  refine bodyPost_end (v := .tuple #[]) (by simp [results, Tryz.results89, go_sem]) rfl ⟨rfl, ?_, HF.out⟩
  rw [← HW.out]
  exact HC.out

end Go.Proofs.YtjgnomjjphkfbaaGreat

namespace Go.Proofs.YtjgnomjjphkfbaaGreat
open Go.RowKit

set_option maxRecDepth 20000 in
set_option maxHeartbeats 2000000 in
theorem nextW (B k m : Nat) (bs : List UInt8) (bad : Bool) (s : MS) (x : Mg.Msg) (w : World) (h : CdAt B k bs bad m w) (hx : MsgT w m s x) (ok : x.Good) (hlen : bs.length + (Mg.cNext.enc (x.next, x.own)).length ≤ 1073741824) :
    Calls Tryz.prog 87 #[.pointer (some ⟨k, 0, none⟩)] w fun e w' => e = .returned (.tuple #[]) ∧ CdAt B k (bs ++ Mg.cNext.enc (x.next, x.own)) (bad || !Mg.cNext.fit (x.next, x.own)) m w' ∧ FrW B w w' := by
  have he : Mg.cNext.enc (x.next, x.own) = Wr.uv x.next ++ (Mg.list 512 Mg.cRng).enc x.own := rfl
  have hf : Mg.cNext.fit (x.next, x.own) = (decide (x.next ≤ 18446744073709551615) && (Mg.list 512 Mg.cRng).fit x.own) := rfl
  rw [he] at hlen
  simp only [List.length_append] at hlen
  have HL := Lib.hid hlen
  have HX := Lib.hid hx
  have HOK := Lib.hid ok
  obtain ⟨d0, d3, d4, dz⟩ := h.cells
  have H1 := Lib.hid (numW_u64 B k m bs bad m (0 + 19) x.next 18446744073709551615 w h (hx.cells.at 19 rfl) ok.next (by decide) (by omega))
  clear h hx ok hlen
  go_enter Tryz.func87, Tryz.ntmps87
  go_wp2_with fail
  refine H1.out.mono ?_
  rintro e w1 ⟨rfl, hc1, hf1⟩
  clear d0 d3 d4 dz
  obtain ⟨d0, d3, d4, dz⟩ := hc1.cells
  have HF1 := Lib.hid hf1
  have H2 := Lib.hid (listW_span B k m _ _ m (0 + 20) s.own.1 s.own.2 x.own w1 hc1 ((HX.out.cells.keep hf1).at 20 rfl) (HX.out.lists.keep hf1).own HOK.out.own.1 HOK.out.own.2 (by have := HL.out; simp only [List.length_append]; omega))
  clear hc1 hf1
  go_wp2_with fail
  refine H2.out.mono ?_
  rintro e w2 ⟨rfl, hc2, hf2⟩
  have HF2 := Lib.hid (HF1.out.trans hf2)
  have HC := Lib.hid hc2
  clear hc2 hf2 d0 d3 d4 dz
  go_wp2_with fail
  refine bodyPost_end (v := .tuple #[]) (by simp [results, Tryz.results87, go_sem]) rfl ⟨rfl, ?_, HF2.out⟩
  have hc := HC.out
  rw [he, hf]
  generalize (Mg.list 512 Mg.cRng).fit x.own = fl at *
  generalize (Mg.list 512 Mg.cRng).enc x.own = el at *
  simpa only [List.append_assoc, Bool.not_and, Bool.or_assoc] using hc

end Go.Proofs.YtjgnomjjphkfbaaGreat

namespace Go.Proofs.YtjgnomjjphkfbaaGreat
open Go.RowKit

set_option maxRecDepth 20000 in
set_option maxHeartbeats 2000000 in
theorem toldW (B k m : Nat) (bs : List UInt8) (bad : Bool) (s : MS) (x : Mg.Msg) (w : World) (h : CdAt B k bs bad m w) (hx : MsgT w m s x) (ok : x.Good) (hlen : bs.length + (Mg.cTold.enc x.told).length ≤ 1073741824) :
    Calls Tryz.prog 90 #[.pointer (some ⟨k, 0, none⟩)] w fun e w' => e = .returned (.tuple #[]) ∧ CdAt B k (bs ++ Mg.cTold.enc x.told) (bad || !Mg.cTold.fit x.told) m w' ∧ FrW B w w' := by
  have he : Mg.cTold.enc x.told = Wr.uv x.told.shard ++ ((Mg.list 512 Mg.cGot).enc x.told.got ++ ((Mg.list 512 (Mg.num Mg.All)).enc x.told.numbers ++ (Mg.list 512 (Mg.text 129)).enc x.told.names)) := rfl
  have hf : Mg.cTold.fit x.told = (decide (x.told.shard ≤ 4294967295) && ((Mg.list 512 Mg.cGot).fit x.told.got && ((Mg.list 512 (Mg.num Mg.All)).fit x.told.numbers && (Mg.list 512 (Mg.text 129)).fit x.told.names))) := rfl
  rw [he] at hlen
  simp only [List.length_append] at hlen
  have HL := Lib.hid hlen
  have HX := Lib.hid hx
  have HOK := Lib.hid ok
  obtain ⟨d0, d3, d4, dz⟩ := h.cells
  have H1 := Lib.hid (numW_u32 B k m bs bad m (0 + 23) x.told.shard 4294967295 w h (hx.cells.at 23 rfl) ok.tshard (by decide) (by omega))
  clear h hx ok hlen
  go_enter Tryz.func90, Tryz.ntmps90
  go_wp2_with fail
  refine H1.out.mono ?_
  rintro e w1 ⟨rfl, hc1, hf1⟩
  have HF1 := Lib.hid hf1
  have H2 := Lib.hid (listW_got B k m _ _ m (0 + 24) s.got.1 s.got.2 x.told.got w1 hc1 ((HX.out.cells.keep hf1).at 24 rfl) (HX.out.lists.keep hf1).got HOK.out.got.1 HOK.out.got.2 (by have := HL.out; simp only [List.length_append]; omega))
  clear hc1 hf1 d0 d3 d4 dz
  go_wp2_with fail
  refine H2.out.mono ?_
  rintro e w2 ⟨rfl, hc2, hf2⟩
  have HF2 := Lib.hid (HF1.out.trans hf2)
  have H3 := Lib.hid (listW_number B k m _ _ m (0 + 25) s.numbers.1 s.numbers.2 x.told.numbers w2 hc2 ((HX.out.cells.keep HF2.out).at 25 rfl) (HX.out.lists.keep HF2.out).numbers HOK.out.numbers.1 HOK.out.numbers.2 (by have := HL.out; simp only [List.length_append]; omega))
  clear hc2 hf2
  go_wp2_with fail
  refine H3.out.mono ?_
  rintro e w3 ⟨rfl, hc3, hf3⟩
  have HF3 := Lib.hid (HF2.out.trans hf3)
  have H4 := Lib.hid (listW_name B k m _ _ m (0 + 26) s.names.1 s.names.2 x.told.names w3 hc3 ((HX.out.cells.keep HF3.out).at 26 rfl) (HX.out.lists.keep HF3.out).names HOK.out.names.1 HOK.out.names.2 (by have := HL.out; simp only [List.length_append]; omega))
  clear hc3 hf3
  go_wp2_with fail
  refine H4.out.mono ?_
  rintro e w4 ⟨rfl, hc4, hf4⟩
  have HF4 := Lib.hid (HF3.out.trans hf4)
  have HC := Lib.hid hc4
  clear hc4 hf4
  go_wp2_with fail
  refine bodyPost_end (v := .tuple #[]) (by simp [results, Tryz.results90, go_sem]) rfl ⟨rfl, ?_, HF4.out⟩
  have hc := HC.out
  rw [he, hf]
  generalize (Mg.list 512 Mg.cGot).fit x.told.got = f1 at *
  generalize (Mg.list 512 Mg.cGot).enc x.told.got = e1 at *
  generalize (Mg.list 512 (Mg.num Mg.All)).fit x.told.numbers = f2 at *
  generalize (Mg.list 512 (Mg.num Mg.All)).enc x.told.numbers = e2 at *
  generalize (Mg.list 512 (Mg.text 129)).fit x.told.names = f3 at *
  generalize (Mg.list 512 (Mg.text 129)).enc x.told.names = e3 at *
  simpa only [List.append_assoc, Bool.not_and, Bool.or_assoc] using hc

end Go.Proofs.YtjgnomjjphkfbaaGreat

namespace Go.Proofs.YtjgnomjjphkfbaaGreat
open Go.RowKit

set_option maxRecDepth 20000 in
set_option maxHeartbeats 4000000 in
theorem askW (B k m : Nat) (bs : List UInt8) (bad : Bool) (s : MS) (x : Mg.Msg) (w : World) (h : CdAt B k bs bad m w) (hx : MsgT w m s x) (ok : x.Good) (hlen : bs.length + (Mg.cAsk.enc x.ask).length ≤ 1073741824) :
    Calls Tryz.prog 85 #[.pointer (some ⟨k, 0, none⟩)] w fun e w' => e = .returned (.tuple #[]) ∧ CdAt B k (bs ++ Mg.cAsk.enc x.ask) (bad || !Mg.cAsk.fit x.ask) m w' ∧ FrW B w w' := by
  have he : Mg.cAsk.enc x.ask = Wr.uv x.ask.shard ++ ((Mg.list 512 Mg.cRd).enc x.ask.reads ++ ((Mg.list 512 (Mg.int 512)).enc x.ask.readAt ++ ((Mg.list 512 Mg.cEd).enc x.ask.edits ++ ((Mg.list 512 (Mg.int 512)).enc x.ask.editAt ++ ([Wr.bool x.ask.list] ++ ((Mg.text 129).enc x.ask.pre ++ ([Wr.bool x.ask.give] ++ ([Wr.bool x.ask.take] ++ (Mg.cRng.enc x.ask.range))))))))) := rfl
  have hf : Mg.cAsk.fit x.ask = (decide (x.ask.shard ≤ 4294967295) && ((Mg.list 512 Mg.cRd).fit x.ask.reads && ((Mg.list 512 (Mg.int 512)).fit x.ask.readAt && ((Mg.list 512 Mg.cEd).fit x.ask.edits && ((Mg.list 512 (Mg.int 512)).fit x.ask.editAt && (true && ((Mg.text 129).fit x.ask.pre && (true && (true && (Mg.cRng.fit x.ask.range)))))))))) := rfl
  rw [he] at hlen
  simp only [List.length_append] at hlen
  have HL := Lib.hid hlen
  have HX := Lib.hid hx
  have HOK := Lib.hid ok
  obtain ⟨d0, d3, d4, dz⟩ := h.cells
  have H1 := Lib.hid (numW_u32 B k m bs bad m (0 + 7) x.ask.shard 4294967295 w h (hx.cells.at 7 rfl) ok.shard (by decide) (by omega))
  clear h hx ok hlen
  go_enter Tryz.func85, Tryz.ntmps85
  go_wp2_with fail
  refine H1.out.mono ?_
  rintro e w1 ⟨rfl, hc1, hf1⟩
  have HF1 := Lib.hid hf1
  have H2 := Lib.hid (listW_read B k m _ _ m (0 + 8) s.reads.1 s.reads.2 x.ask.reads w1 hc1 ((HX.out.cells.keep HF1.out).at 8 rfl) (HX.out.lists.keep HF1.out).reads HOK.out.reads.1 HOK.out.reads.2 (by have := HL.out; simp only [List.length_append]; omega))
  clear hc1 hf1 d0 d3 d4 dz
  go_wp2_with fail
  refine H2.out.mono ?_
  rintro e w2 ⟨rfl, hc2, hf2⟩
  have HF2 := Lib.hid (HF1.out.trans hf2)
  have H3 := Lib.hid (listW_place B k m _ _ m (0 + 9) s.readAt.1 s.readAt.2 x.ask.readAt w2 hc2 ((HX.out.cells.keep HF2.out).at 9 rfl) (HX.out.lists.keep HF2.out).readAt HOK.out.readAt.1 HOK.out.readAt.2 (by have := HL.out; simp only [List.length_append]; omega))
  clear hc2 hf2
  go_wp2_with fail
  refine H3.out.mono ?_
  rintro e w3 ⟨rfl, hc3, hf3⟩
  have HF3 := Lib.hid (HF2.out.trans hf3)
  have H4 := Lib.hid (listW_edit B k m _ _ m (0 + 10) s.edits.1 s.edits.2 x.ask.edits w3 hc3 ((HX.out.cells.keep HF3.out).at 10 rfl) (HX.out.lists.keep HF3.out).edits HOK.out.edits.1 HOK.out.edits.2 (by have := HL.out; simp only [List.length_append]; omega))
  clear hc3 hf3
  go_wp2_with fail
  refine H4.out.mono ?_
  rintro e w4 ⟨rfl, hc4, hf4⟩
  have HF4 := Lib.hid (HF3.out.trans hf4)
  have H5 := Lib.hid (listW_place B k m _ _ m (0 + 11) s.editAt.1 s.editAt.2 x.ask.editAt w4 hc4 ((HX.out.cells.keep HF4.out).at 11 rfl) (HX.out.lists.keep HF4.out).editAt HOK.out.editAt.1 HOK.out.editAt.2 (by have := HL.out; simp only [List.length_append]; omega))
  clear hc4 hf4
  go_wp2_with fail
  refine H5.out.mono ?_
  rintro e w5 ⟨rfl, hc5, hf5⟩
  have HF5 := Lib.hid (HF4.out.trans hf5)
  have H6 := Lib.hid (truthW B k m _ _ m (0 + 12) x.ask.list w5 hc5 ((HX.out.cells.keep HF5.out).at 12 rfl)  (by have := HL.out; simp only [List.length_append]; omega))
  clear hc5 hf5
  go_wp2_with fail
  refine H6.out.mono ?_
  rintro e w6 ⟨rfl, hc6, hf6⟩
  have HF6 := Lib.hid (HF5.out.trans hf6)
  have H7 := Lib.hid (nameW B k m _ _ m (0 + 13) x.ask.pre w6 hc6 ((HX.out.cells.keep HF6.out).at 13 rfl) HOK.out.pre (by have := HL.out; simp only [List.length_append]; omega))
  clear hc6 hf6
  go_wp2_with fail
  refine H7.out.mono ?_
  rintro e w7 ⟨rfl, hc7, hf7⟩
  have HF7 := Lib.hid (HF6.out.trans hf7)
  have H8 := Lib.hid (truthW B k m _ _ m (0 + 14) x.ask.give w7 hc7 ((HX.out.cells.keep HF7.out).at 14 rfl)  (by have := HL.out; simp only [List.length_append]; omega))
  clear hc7 hf7
  go_wp2_with fail
  refine H8.out.mono ?_
  rintro e w8 ⟨rfl, hc8, hf8⟩
  have HF8 := Lib.hid (HF7.out.trans hf8)
  have H9 := Lib.hid (truthW B k m _ _ m (0 + 15) x.ask.take w8 hc8 ((HX.out.cells.keep HF8.out).at 15 rfl)  (by have := HL.out; simp only [List.length_append]; omega))
  clear hc8 hf8
  go_wp2_with fail
  refine H9.out.mono ?_
  rintro e w9 ⟨rfl, hc9, hf9⟩
  have HF9 := Lib.hid (HF8.out.trans hf9)
  have H10 := Lib.hid (spanW B k m _ _ m (0 + 16) x.ask.range w9 hc9 ((HX.out.cells.keep HF9.out).sub 16 (fun j v hj => by
    match j, hj with
    | 0, hj => simpa using hj
    | 1, hj => simpa using hj)) HOK.out.range (by have := HL.out; simp only [List.length_append]; omega))
  clear hc9 hf9
  go_wp2_with fail
  refine H10.out.mono ?_
  rintro e w10 ⟨rfl, hc10, hf10⟩
  have HF10 := Lib.hid (HF9.out.trans hf10)
  have HC := Lib.hid hc10
  clear hc10 hf10
  go_wp2_with fail
  refine bodyPost_end (v := .tuple #[]) (by simp [results, Tryz.results85, go_sem]) rfl ⟨rfl, ?_, HF10.out⟩
  have hc := HC.out
  rw [he, hf]
  generalize (Mg.list 512 Mg.cRd).fit x.ask.reads = f0 at *
  generalize (Mg.list 512 Mg.cRd).enc x.ask.reads = e0 at *
  generalize (Mg.list 512 (Mg.int 512)).fit x.ask.readAt = f1 at *
  generalize (Mg.list 512 (Mg.int 512)).enc x.ask.readAt = e1 at *
  generalize (Mg.list 512 Mg.cEd).fit x.ask.edits = f2 at *
  generalize (Mg.list 512 Mg.cEd).enc x.ask.edits = e2 at *
  generalize (Mg.list 512 (Mg.int 512)).fit x.ask.editAt = f3 at *
  generalize (Mg.list 512 (Mg.int 512)).enc x.ask.editAt = e3 at *
  generalize (Mg.text 129).fit x.ask.pre = f5 at *
  generalize (Mg.text 129).enc x.ask.pre = e5 at *
  generalize Mg.cRng.fit x.ask.range = f8 at *
  generalize Mg.cRng.enc x.ask.range = e8 at *
  simpa only [List.append_assoc, Bool.not_and, Bool.or_assoc, Bool.true_and] using hc

end Go.Proofs.YtjgnomjjphkfbaaGreat

namespace Go.Proofs.YtjgnomjjphkfbaaGreat
open Go.RowKit

set_option maxRecDepth 20000 in
set_option maxHeartbeats 2000000 in
theorem stateW (B k m : Nat) (bs : List UInt8) (bad : Bool) (s : MS) (x : Mg.Msg) (w : World) (h : CdAt B k bs bad m w) (hx : MsgT w m s x) (ok : x.Good) (hlen : bs.length ≤ 1073741824) :
    Calls Tryz.prog 91 #[.pointer (some ⟨k, 0, none⟩)] w fun e w' => e = .returned (.tuple #[]) ∧ CdAt B k (bs ++ (Mg.num 3).enc x.state) ((bad || !(Mg.num 3).fit x.state) || !decide (1 ≤ x.state)) m w' ∧ FrW B w w' := by
  obtain ⟨d0, d3, d4, dz⟩ := h.cells
  have HX := Lib.hid hx
  have hxI : (0 : Int) ≤ x.state ∧ (x.state : Int) < 256 := by have := ok.state; omega
  have H1 := Lib.hid (numW_u8 B k m bs bad m (0 + 27) x.state 3 w h (hx.cells.at 27 rfl) ok.state (by decide) hlen)
  obtain ⟨b1, hb1⟩ : ∃ b : Bool, b = (bad || !decide (x.state ≤ 3)) := ⟨_, rfl⟩
  rw [← hb1] at H1
  have HB1 := Lib.hid hb1
  have hpre : decide ((x.state : Int) < 1) = !decide (1 ≤ x.state) := by
    by_cases hh : 1 ≤ x.state
    · rw [decide_eq_true hh, decide_eq_false (by omega)]; rfl
    · rw [decide_eq_false hh, decide_eq_true (by omega)]; rfl
  clear h hx ok hlen hb1
  go_enter Tryz.func91, Tryz.ntmps91
  go_wp2_with fail
  refine H1.out.mono ?_
  rintro e w1 ⟨rfl, hc1, hf1⟩
  clear d0 d3 d4 dz
  obtain ⟨d0, d3, d4, dz⟩ := hc1.cells
  have c0 := ((HX.out.cells.keep hf1).at 27 rfl).cell
  obtain ⟨hcd, hfr⟩ := hc1.bad (b1 || !decide (1 ≤ x.state))
  have HC := Lib.hid hcd
  have HF := Lib.hid (hf1.trans hfr)
  clear hc1 hf1 hcd hfr
  have hfin : ((bad || !(Mg.num 3).fit x.state) || !decide (1 ≤ x.state)) = (b1 || !decide (1 ≤ x.state)) := by rw [HB1.out]; rfl
  have HFIN := Lib.hid hfin
  clear hfin
  cases b1 with
  | true =>
    clear hpre
    go_wp2_with fail
    refine bodyPost_end (v := .tuple #[]) (by simp [results, Tryz.results91, go_sem]) rfl ⟨rfl, ?_, HF.out⟩
    rw [HFIN.out]
    exact HC.out
  | false =>
    rw [Bool.false_or] at HC HF
    obtain ⟨b2, hb2⟩ : ∃ b, b = !decide (1 ≤ x.state) := ⟨_, rfl⟩
    rw [← hb2] at hpre HC HF
    have HB2 := Lib.hid hb2
    clear hb2
    go_wp2_with fail
    refine bodyPost_end (v := .tuple #[]) (by simp [results, Tryz.results91, go_sem]) rfl ⟨rfl, ?_, HF.out⟩
    rw [HFIN.out, Bool.false_or, ← HB2.out]
    exact HC.out

end Go.Proofs.YtjgnomjjphkfbaaGreat

namespace Go.Proofs.YtjgnomjjphkfbaaGreat
open Go.RowKit

set_option maxRecDepth 20000 in
set_option maxHeartbeats 2000000 in
theorem headW (B k m : Nat) (bs : List UInt8) (bad : Bool) (s : MS) (x : Mg.Msg) (w : World) (h : CdAt B k bs bad m w) (hx : MsgT w m s x) (ok : x.Good) (hlen : bs.length + (Mg.cHead.enc (x.map, x.parts)).length ≤ 1073741824) :
    Calls Tryz.prog 84 #[.pointer (some ⟨k, 0, none⟩)] w fun e w' => e = .returned (.tuple #[]) ∧ CdAt B k (bs ++ Mg.cHead.enc (x.map, x.parts)) (bad || !Mg.cHead.fit (x.map, x.parts)) m w' ∧ FrW B w w' := by
  obtain ⟨w0, hw0⟩ : ∃ w0, w0 = w.alloc (.cells #[.pointer (some ⟨k, 0, none⟩)] 111 (0, 0)) := ⟨_, rfl⟩
  have hb0 : Below w.heap.size w w0 := by rw [hw0]; exact ((Own.refl w).alloc _).below
  have hx0 : w0.heap[w.heap.size]? = some (.cells #[.pointer (some ⟨k, 0, none⟩)] 111 (0, 0)) := by rw [hw0]; exact heap_alloc_new w _
  have HBX : Hid (CellT w0 w.heap.size 0 (.pointer (some ⟨k, 0, none⟩))) := Lib.hid ⟨_, _, _, hx0, rfl, by decide, by decide⟩
  have HCD := Lib.hid (h.keep hb0)
  have HF0 := Lib.hid (FrW.of_below B hb0)
  have HX := Lib.hid (hx.keep (FrW.of_below B hb0))
  have HOK := Lib.hid ok
  have HW0 := Lib.hid hw0
  clear h hx ok hb0 hx0 hw0
  go_enter Tryz.func84, Tryz.ntmps84
  have HL := Lib.hid hlen
  clear hlen
  go_upto_region 1 with (fail)
  rw [← HW0.out]
  clear HW0
  generalize w.heap.size = bx at *
  have he : Mg.cHead.enc (x.map, x.parts) = Wr.uv x.map ++ (Mg.list 512 (Mg.num 4294967295)).enc x.parts := rfl
  have hf : Mg.cHead.fit (x.map, x.parts) = (decide (x.map ≤ 18446744073709551615) && (Mg.list 512 (Mg.num 4294967295)).fit x.parts) := rfl
  rw [he, List.length_append] at HL
  have HCd := Lib.hid (HCD.out.keep (Own.refl w0).drew.below)
  have H1 := Lib.hid (numW_u64 B k m bs bad m (0 + 5) x.map 18446744073709551615 w0.drew HCd.out ((HX.out.keep (FrW.refl B w0).drew).cells.at 5 rfl) HOK.out.map (by decide) (by have := HL.out; omega))
  have hS0 : w0.drew.cell? ⟨bx, 0, none⟩ = some (.pointer (some ⟨k, 0, none⟩)) ∧ w0.drew.cell? ⟨k, 4, none⟩ = some (.pointer (some ⟨m, 0, none⟩)) := ⟨HBX.out.cell, HCD.out.cells.2.2.1⟩
  go_region_held3 (fun wz => wz.cell? ⟨bx, 0, none⟩ = some (.pointer (some ⟨k, 0, none⟩)) ∧ wz.cell? ⟨k, 4, none⟩ = some (.pointer (some ⟨m, 0, none⟩)))
    (first | exact hS0 | exact hS1 | fail)
    (first
    | (go_at_call 105
       (refine H1.out.mono ?_)
       rintro e w1 ⟨rfl, hc1, hf1⟩
       have HC1 := Lib.hid hc1
       have HF1 := Lib.hid ((FrW.refl B w0).drew.trans hf1)
       have hS1 : w1.cell? ⟨bx, 0, none⟩ = some (.pointer (some ⟨k, 0, none⟩)) ∧ w1.cell? ⟨k, 4, none⟩ = some (.pointer (some ⟨m, 0, none⟩)) := ⟨(HBX.out.keep HF1.out).cell, hc1.cells.2.2.1⟩
       clear hc1 hf1))
  have H2 := Lib.hid (listW_shard B k m bx _ _ m (0 + 6) s.parts.1 s.parts.2 x.parts w1.drew (HC1.out.keep (Own.refl w1).drew.below) ((HX.out.keep HF1.out.drew).cells.at 6 rfl) (HX.out.keep HF1.out.drew).lists.parts HOK.out.parts.1 (HBX.out.keep HF1.out.drew) HOK.out.parts.2 (by have := HL.out; simp only [List.length_append]; omega))
  have hS2 : w1.drew.cell? ⟨bx, 0, none⟩ = some (.pointer (some ⟨k, 0, none⟩)) ∧ w1.drew.cell? ⟨k, 4, none⟩ = some (.pointer (some ⟨m, 0, none⟩)) := hS1
  clear hS0
  go_upto_region 2 with (fail)
  go_region_held3 (fun wz => wz.cell? ⟨bx, 0, none⟩ = some (.pointer (some ⟨k, 0, none⟩)) ∧ wz.cell? ⟨k, 4, none⟩ = some (.pointer (some ⟨m, 0, none⟩)))
    (first | exact hS2 | exact hS3 | fail)
    (first
    | (go_at_call 106
       (refine H2.out.mono ?_)
       rintro e w2 ⟨rfl, hc2, hf2⟩
       have HC2 := Lib.hid hc2
       have HF2 := Lib.hid (HF0.out.trans (HF1.out.drew.trans hf2))
       have hS3 : w2.cell? ⟨bx, 0, none⟩ = some (.pointer (some ⟨k, 0, none⟩)) ∧ w2.cell? ⟨k, 4, none⟩ = some (.pointer (some ⟨m, 0, none⟩)) := ⟨(HBX.out.keep (HF1.out.drew.trans hf2)).cell, hc2.cells.2.2.1⟩
       clear hc2 hf2))
  go_wp2_with fail
  refine bodyPost_end (v := .tuple #[]) (by simp [results, Tryz.results84, go_sem]) rfl ⟨rfl, ?_, HF2.out⟩
  have hc := HC2.out
  rw [he, hf]
  generalize (Mg.list 512 (Mg.num 4294967295)).fit x.parts = f1 at *
  generalize (Mg.list 512 (Mg.num 4294967295)).enc x.parts = e1 at *
  simpa only [List.append_assoc, Bool.not_and, Bool.or_assoc] using hc

end Go.Proofs.YtjgnomjjphkfbaaGreat
