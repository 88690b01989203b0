/-
  Joined out of the texts MsgClone MsgPM MsgGoes MsgRdP MsgRdP2 MsgRdH MsgRdG MsgRead MsgArg.
-/
import Derived.Test.YtjgnomjjphkfbaaGreatRRdLx
import Derived.Test.YtjgnomjjphkfbaaGreatRRd
import Derived.Maps.Own
import Derived.Maps.OwnOps
import Derived.Maps.Views
import Derived.Deep.DeepCutAuto
import Derived.Test.YtjgnomjjphkfbaaGreatRMsg
namespace Go.Proofs.YtjgnomjjphkfbaaGreat
open Go.RowKit
attribute [local go_sem ↓ high] appSem_eq

/-- A slice of an argument: its elements' cells. -/
structure ArgL (w : World) (size : Nat) (a : Option Addr) (cap : Nat) (xs : List (List Value)) : Prop where
  row : RowIs w size a xs
  all : ∀ x ∈ xs, x.length = size
  one : ∀ x ∈ xs, ∀ u ∈ x, u.oneCell' = true
  nil : a = none → cap = 0
theorem ArgL.keep {w w' : World} {size : Nat} {a : Option Addr} {cap : Nat} {xs : List (List Value)} (h : ArgL w size a cap xs) (hb : Below w.heap.size w w') : ArgL w' size a cap xs := ⟨h.row.keep hb, h.all, h.one, h.nil⟩
theorem clone_facts {E T : TypeId} {size bytes : Nat} {z : Value} {i : TypeInfo} (ht : Tryz.prog.underlying T = some (.slice E)) (hi : Tryz.prog.info? E = some i) (hz : i.zero = some z) (hsize : i.size = size) (hby : i.bytes = bytes) (hzs : z.cells.size = size) (h0 : 0 < size) (hb : bytes ≤ 256)
    (ad : Addr) (cap : Nat) (xs : List (List Value)) (w : World) (h : ArgL w size (some ad) cap xs) (hl : xs.length ≤ 100000) :
    ∃ s' cap' w', (appSem #[T, T] T #[.slice (some ⟨w.heap.size, 0, none⟩) 0 0, .slice (some ad) xs.length cap]).run Tryz.prog (w.alloc (.cells #[] E (0, 0))) = .ok (.slice s' xs.length cap') w' ∧ OL w w' E size s' cap' xs ∧ Below w.heap.size w w' := by
  have hnil : SliceIs (w.alloc (.cells #[] E (0, 0))) E size (some ⟨w.heap.size, 0, none⟩) 0 0 [] := by
    have := SliceIs.new w E size 0 [] (by simp) (by decide)
    exact this
  obtain ⟨s', cap', w', hrun, hS, hU, hB⟩ := append_row (P := Tryz.prog) ht hi hz hsize hby hzs h0 (w.alloc (.cells #[] E (0, 0))) (some ⟨w.heap.size, 0, none⟩) 0 0 [] hnil (some ad) cap xs (h.row.keep ((Below.refl _ w).alloc (Nat.le_refl _) _)) h.all h.one (by omega) hb (by simp)
  rw [Nat.zero_add] at hrun hS
  rw [List.nil_append] at hS
  refine ⟨s', cap', w', hrun, ⟨hS, fun k hk => ?_, h.all⟩, (((Own.refl w).alloc (.cells #[] E (0, 0))).upd hU (by simp)).below⟩
  rcases hB k hk with h1 | h1
  · simp at h1; omega
  · simp at h1; omega

theorem infc_parts : (Tryz.prog.info? 26).map (fun i => (i.zero, i.size, i.bytes)) = some (some (.int .u32 0), 1, 4) := by kernel_rfl
theorem eqn_parts (w : World) : (binOp .eql 25 (.slice none 0 0) (.slice none 0 0)).run Tryz.prog w = .ok (.bool true) w := by kernel_rfl
theorem eqs_parts (a : Addr) (n c : Nat) (w : World) : (binOp .eql 25 (.slice (some a) n c) (.slice none 0 0)).run Tryz.prog w = .ok (.bool false) w := by kernel_rfl
set_option maxRecDepth 20000 in
set_option maxHeartbeats 1000000 in
theorem clone_parts (a : Option Addr) (cap : Nat) (xs : List (List Value)) (w : World) (h : ArgL w 1 a cap xs) (hl : xs.length ≤ 100000) :
    Calls Tryz.prog 65 #[.slice a xs.length cap] w fun e w' => ∃ a' cap', e = .returned (.slice a' xs.length cap') ∧ OL w w' 26 1 a' cap' xs ∧ Below w.heap.size w w' := by
  obtain ⟨inf, hin, hz0, hz1, hz2⟩ := info_parts infc_parts
  cases a with
  | none =>
    have hc := h.nil rfl
    have hx : xs = [] := by
      cases xs with
      | nil => rfl
      | cons v r => obtain ⟨g, off, e, _⟩ := h.row 0 (by simp); cases e
    subst hx hc
    have hnl := eqn_parts w
    clear h hl
    go_enter Tryz.func65, Tryz.ntmps65
    go_wp2_with fail
    go_ret
    exact ⟨none, 0, rfl, OL.nil _ _ _ _, Below.refl _ _⟩
  | some ad =>
    obtain ⟨s', cap', w', hrun, hol, hb⟩ := clone_facts (T := 25) Tryz.underlying25 hin hz0 hz1 hz2 rfl (by decide) (by decide) ad cap xs w h hl
    have HOL := Lib.hid hol
    have HB := Lib.hid hb
    have hsl := eqs_parts ad xs.length cap w
    clear h hl hol hb
    go_enter Tryz.func65, Tryz.ntmps65
    go_wp2_with fail
    go_ret
    exact ⟨s', cap', rfl, HOL.out, HB.out⟩

theorem infc_reads : (Tryz.prog.info? 67).map (fun i => (i.zero, i.size, i.bytes)) = some (some (.agg #[.string ⟨#[]⟩, .int .u64 0]), 2, 24) := by kernel_rfl
theorem eqn_reads (w : World) : (binOp .eql 27 (.slice none 0 0) (.slice none 0 0)).run Tryz.prog w = .ok (.bool true) w := by kernel_rfl
theorem eqs_reads (a : Addr) (n c : Nat) (w : World) : (binOp .eql 27 (.slice (some a) n c) (.slice none 0 0)).run Tryz.prog w = .ok (.bool false) w := by kernel_rfl
set_option maxRecDepth 20000 in
set_option maxHeartbeats 1000000 in
theorem clone_reads (a : Option Addr) (cap : Nat) (xs : List (List Value)) (w : World) (h : ArgL w 2 a cap xs) (hl : xs.length ≤ 100000) :
    Calls Tryz.prog 66 #[.slice a xs.length cap] w fun e w' => ∃ a' cap', e = .returned (.slice a' xs.length cap') ∧ OL w w' 67 2 a' cap' xs ∧ Below w.heap.size w w' := by
  obtain ⟨inf, hin, hz0, hz1, hz2⟩ := info_parts infc_reads
  cases a with
  | none =>
    have hc := h.nil rfl
    have hx : xs = [] := by
      cases xs with
      | nil => rfl
      | cons v r => obtain ⟨g, off, e, _⟩ := h.row 0 (by simp); cases e
    subst hx hc
    have hnl := eqn_reads w
    clear h hl
    go_enter Tryz.func66, Tryz.ntmps66
    go_wp2_with fail
    go_ret
    exact ⟨none, 0, rfl, OL.nil _ _ _ _, Below.refl _ _⟩
  | some ad =>
    obtain ⟨s', cap', w', hrun, hol, hb⟩ := clone_facts (T := 27) Tryz.underlying27 hin hz0 hz1 hz2 rfl (by decide) (by decide) ad cap xs w h hl
    have HOL := Lib.hid hol
    have HB := Lib.hid hb
    have hsl := eqs_reads ad xs.length cap w
    clear h hl hol hb
    go_enter Tryz.func66, Tryz.ntmps66
    go_wp2_with fail
    go_ret
    exact ⟨s', cap', rfl, HOL.out, HB.out⟩

theorem infc_ints : (Tryz.prog.info? 3).map (fun i => (i.zero, i.size, i.bytes)) = some (some (.int .i64 0), 1, 8) := by kernel_rfl
theorem eqn_ints (w : World) : (binOp .eql 28 (.slice none 0 0) (.slice none 0 0)).run Tryz.prog w = .ok (.bool true) w := by kernel_rfl
theorem eqs_ints (a : Addr) (n c : Nat) (w : World) : (binOp .eql 28 (.slice (some a) n c) (.slice none 0 0)).run Tryz.prog w = .ok (.bool false) w := by kernel_rfl
set_option maxRecDepth 20000 in
set_option maxHeartbeats 1000000 in
theorem clone_ints (a : Option Addr) (cap : Nat) (xs : List (List Value)) (w : World) (h : ArgL w 1 a cap xs) (hl : xs.length ≤ 100000) :
    Calls Tryz.prog 67 #[.slice a xs.length cap] w fun e w' => ∃ a' cap', e = .returned (.slice a' xs.length cap') ∧ OL w w' 3 1 a' cap' xs ∧ Below w.heap.size w w' := by
  obtain ⟨inf, hin, hz0, hz1, hz2⟩ := info_parts infc_ints
  cases a with
  | none =>
    have hc := h.nil rfl
    have hx : xs = [] := by
      cases xs with
      | nil => rfl
      | cons v r => obtain ⟨g, off, e, _⟩ := h.row 0 (by simp); cases e
    subst hx hc
    have hnl := eqn_ints w
    clear h hl
    go_enter Tryz.func67, Tryz.ntmps67
    go_wp2_with fail
    go_ret
    exact ⟨none, 0, rfl, OL.nil _ _ _ _, Below.refl _ _⟩
  | some ad =>
    obtain ⟨s', cap', w', hrun, hol, hb⟩ := clone_facts (T := 28) Tryz.underlying28 hin hz0 hz1 hz2 rfl (by decide) (by decide) ad cap xs w h hl
    have HOL := Lib.hid hol
    have HB := Lib.hid hb
    have hsl := eqs_ints ad xs.length cap w
    clear h hl hol hb
    go_enter Tryz.func67, Tryz.ntmps67
    go_wp2_with fail
    go_ret
    exact ⟨s', cap', rfl, HOL.out, HB.out⟩

theorem infc_edits : (Tryz.prog.info? 59).map (fun i => (i.zero, i.size, i.bytes)) = some (some (.agg #[.int .u8 0, .string ⟨#[]⟩, .bool false, .int .u64 0, .int .u64 0, .string ⟨#[]⟩]), 6, 64) := by kernel_rfl
theorem eqn_edits (w : World) : (binOp .eql 29 (.slice none 0 0) (.slice none 0 0)).run Tryz.prog w = .ok (.bool true) w := by kernel_rfl
theorem eqs_edits (a : Addr) (n c : Nat) (w : World) : (binOp .eql 29 (.slice (some a) n c) (.slice none 0 0)).run Tryz.prog w = .ok (.bool false) w := by kernel_rfl
set_option maxRecDepth 20000 in
set_option maxHeartbeats 1000000 in
theorem clone_edits (a : Option Addr) (cap : Nat) (xs : List (List Value)) (w : World) (h : ArgL w 6 a cap xs) (hl : xs.length ≤ 100000) :
    Calls Tryz.prog 68 #[.slice a xs.length cap] w fun e w' => ∃ a' cap', e = .returned (.slice a' xs.length cap') ∧ OL w w' 59 6 a' cap' xs ∧ Below w.heap.size w w' := by
  obtain ⟨inf, hin, hz0, hz1, hz2⟩ := info_parts infc_edits
  cases a with
  | none =>
    have hc := h.nil rfl
    have hx : xs = [] := by
      cases xs with
      | nil => rfl
      | cons v r => obtain ⟨g, off, e, _⟩ := h.row 0 (by simp); cases e
    subst hx hc
    have hnl := eqn_edits w
    clear h hl
    go_enter Tryz.func68, Tryz.ntmps68
    go_wp2_with fail
    go_ret
    exact ⟨none, 0, rfl, OL.nil _ _ _ _, Below.refl _ _⟩
  | some ad =>
    obtain ⟨s', cap', w', hrun, hol, hb⟩ := clone_facts (T := 29) Tryz.underlying29 hin hz0 hz1 hz2 rfl (by decide) (by decide) ad cap xs w h hl
    have HOL := Lib.hid hol
    have HB := Lib.hid hb
    have hsl := eqs_edits ad xs.length cap w
    clear h hl hol hb
    go_enter Tryz.func68, Tryz.ntmps68
    go_wp2_with fail
    go_ret
    exact ⟨s', cap', rfl, HOL.out, HB.out⟩

theorem infc_rows : (Tryz.prog.info? 72).map (fun i => (i.zero, i.size, i.bytes)) = some (some (.agg #[.string ⟨#[]⟩, .int .u64 0, .slice none 0 0]), 3, 48) := by kernel_rfl
theorem eqn_rows (w : World) : (binOp .eql 34 (.slice none 0 0) (.slice none 0 0)).run Tryz.prog w = .ok (.bool true) w := by kernel_rfl
theorem eqs_rows (a : Addr) (n c : Nat) (w : World) : (binOp .eql 34 (.slice (some a) n c) (.slice none 0 0)).run Tryz.prog w = .ok (.bool false) w := by kernel_rfl
set_option maxRecDepth 20000 in
set_option maxHeartbeats 1000000 in
theorem clone_rows (a : Option Addr) (cap : Nat) (xs : List (List Value)) (w : World) (h : ArgL w 3 a cap xs) (hl : xs.length ≤ 100000) :
    Calls Tryz.prog 69 #[.slice a xs.length cap] w fun e w' => ∃ a' cap', e = .returned (.slice a' xs.length cap') ∧ OL w w' 72 3 a' cap' xs ∧ Below w.heap.size w w' := by
  obtain ⟨inf, hin, hz0, hz1, hz2⟩ := info_parts infc_rows
  cases a with
  | none =>
    have hc := h.nil rfl
    have hx : xs = [] := by
      cases xs with
      | nil => rfl
      | cons v r => obtain ⟨g, off, e, _⟩ := h.row 0 (by simp); cases e
    subst hx hc
    have hnl := eqn_rows w
    clear h hl
    go_enter Tryz.func69, Tryz.ntmps69
    go_wp2_with fail
    go_ret
    exact ⟨none, 0, rfl, OL.nil _ _ _ _, Below.refl _ _⟩
  | some ad =>
    obtain ⟨s', cap', w', hrun, hol, hb⟩ := clone_facts (T := 34) Tryz.underlying34 hin hz0 hz1 hz2 rfl (by decide) (by decide) ad cap xs w h hl
    have HOL := Lib.hid hol
    have HB := Lib.hid hb
    have hsl := eqs_rows ad xs.length cap w
    clear h hl hol hb
    go_enter Tryz.func69, Tryz.ntmps69
    go_wp2_with fail
    go_ret
    exact ⟨s', cap', rfl, HOL.out, HB.out⟩

theorem infc_own : (Tryz.prog.info? 31).map (fun i => (i.zero, i.size, i.bytes)) = some (some (.agg #[.int .u64 0, .int .u64 0]), 2, 16) := by kernel_rfl
theorem eqn_own (w : World) : (binOp .eql 35 (.slice none 0 0) (.slice none 0 0)).run Tryz.prog w = .ok (.bool true) w := by kernel_rfl
theorem eqs_own (a : Addr) (n c : Nat) (w : World) : (binOp .eql 35 (.slice (some a) n c) (.slice none 0 0)).run Tryz.prog w = .ok (.bool false) w := by kernel_rfl
set_option maxRecDepth 20000 in
set_option maxHeartbeats 1000000 in
theorem clone_own (a : Option Addr) (cap : Nat) (xs : List (List Value)) (w : World) (h : ArgL w 2 a cap xs) (hl : xs.length ≤ 100000) :
    Calls Tryz.prog 70 #[.slice a xs.length cap] w fun e w' => ∃ a' cap', e = .returned (.slice a' xs.length cap') ∧ OL w w' 31 2 a' cap' xs ∧ Below w.heap.size w w' := by
  obtain ⟨inf, hin, hz0, hz1, hz2⟩ := info_parts infc_own
  cases a with
  | none =>
    have hc := h.nil rfl
    have hx : xs = [] := by
      cases xs with
      | nil => rfl
      | cons v r => obtain ⟨g, off, e, _⟩ := h.row 0 (by simp); cases e
    subst hx hc
    have hnl := eqn_own w
    clear h hl
    go_enter Tryz.func70, Tryz.ntmps70
    go_wp2_with fail
    go_ret
    exact ⟨none, 0, rfl, OL.nil _ _ _ _, Below.refl _ _⟩
  | some ad =>
    obtain ⟨s', cap', w', hrun, hol, hb⟩ := clone_facts (T := 35) Tryz.underlying35 hin hz0 hz1 hz2 rfl (by decide) (by decide) ad cap xs w h hl
    have HOL := Lib.hid hol
    have HB := Lib.hid hb
    have hsl := eqs_own ad xs.length cap w
    clear h hl hol hb
    go_enter Tryz.func70, Tryz.ntmps70
    go_wp2_with fail
    go_ret
    exact ⟨s', cap', rfl, HOL.out, HB.out⟩

theorem infc_vers : (Tryz.prog.info? 62).map (fun i => (i.zero, i.size, i.bytes)) = some (some (.agg #[.int .u64 0, .int .u8 0, .string ⟨#[]⟩]), 3, 32) := by kernel_rfl
theorem eqn_vers (w : World) : (binOp .eql 68 (.slice none 0 0) (.slice none 0 0)).run Tryz.prog w = .ok (.bool true) w := by kernel_rfl
theorem eqs_vers (a : Addr) (n c : Nat) (w : World) : (binOp .eql 68 (.slice (some a) n c) (.slice none 0 0)).run Tryz.prog w = .ok (.bool false) w := by kernel_rfl
set_option maxRecDepth 20000 in
set_option maxHeartbeats 1000000 in
theorem clone_vers (a : Option Addr) (cap : Nat) (xs : List (List Value)) (w : World) (h : ArgL w 3 a cap xs) (hl : xs.length ≤ 100000) :
    Calls Tryz.prog 71 #[.slice a xs.length cap] w fun e w' => ∃ a' cap', e = .returned (.slice a' xs.length cap') ∧ OL w w' 62 3 a' cap' xs ∧ Below w.heap.size w w' := by
  obtain ⟨inf, hin, hz0, hz1, hz2⟩ := info_parts infc_vers
  cases a with
  | none =>
    have hc := h.nil rfl
    have hx : xs = [] := by
      cases xs with
      | nil => rfl
      | cons v r => obtain ⟨g, off, e, _⟩ := h.row 0 (by simp); cases e
    subst hx hc
    have hnl := eqn_vers w
    clear h hl
    go_enter Tryz.func71, Tryz.ntmps71
    go_wp2_with fail
    go_ret
    exact ⟨none, 0, rfl, OL.nil _ _ _ _, Below.refl _ _⟩
  | some ad =>
    obtain ⟨s', cap', w', hrun, hol, hb⟩ := clone_facts (T := 68) Tryz.underlying68 hin hz0 hz1 hz2 rfl (by decide) (by decide) ad cap xs w h hl
    have HOL := Lib.hid hol
    have HB := Lib.hid hb
    have hsl := eqs_vers ad xs.length cap w
    clear h hl hol hb
    go_enter Tryz.func71, Tryz.ntmps71
    go_wp2_with fail
    go_ret
    exact ⟨s', cap', rfl, HOL.out, HB.out⟩

theorem infc_got : (Tryz.prog.info? 64).map (fun i => (i.zero, i.size, i.bytes)) = some (some (.agg #[.int .u64 0, .int .u8 0, .string ⟨#[]⟩, .int .i64 0]), 4, 40) := by kernel_rfl
theorem eqn_got (w : World) : (binOp .eql 37 (.slice none 0 0) (.slice none 0 0)).run Tryz.prog w = .ok (.bool true) w := by kernel_rfl
theorem eqs_got (a : Addr) (n c : Nat) (w : World) : (binOp .eql 37 (.slice (some a) n c) (.slice none 0 0)).run Tryz.prog w = .ok (.bool false) w := by kernel_rfl
set_option maxRecDepth 20000 in
set_option maxHeartbeats 1000000 in
theorem clone_got (a : Option Addr) (cap : Nat) (xs : List (List Value)) (w : World) (h : ArgL w 4 a cap xs) (hl : xs.length ≤ 100000) :
    Calls Tryz.prog 72 #[.slice a xs.length cap] w fun e w' => ∃ a' cap', e = .returned (.slice a' xs.length cap') ∧ OL w w' 64 4 a' cap' xs ∧ Below w.heap.size w w' := by
  obtain ⟨inf, hin, hz0, hz1, hz2⟩ := info_parts infc_got
  cases a with
  | none =>
    have hc := h.nil rfl
    have hx : xs = [] := by
      cases xs with
      | nil => rfl
      | cons v r => obtain ⟨g, off, e, _⟩ := h.row 0 (by simp); cases e
    subst hx hc
    have hnl := eqn_got w
    clear h hl
    go_enter Tryz.func72, Tryz.ntmps72
    go_wp2_with fail
    go_ret
    exact ⟨none, 0, rfl, OL.nil _ _ _ _, Below.refl _ _⟩
  | some ad =>
    obtain ⟨s', cap', w', hrun, hol, hb⟩ := clone_facts (T := 37) Tryz.underlying37 hin hz0 hz1 hz2 rfl (by decide) (by decide) ad cap xs w h hl
    have HOL := Lib.hid hol
    have HB := Lib.hid hb
    have hsl := eqs_got ad xs.length cap w
    clear h hl hol hb
    go_enter Tryz.func72, Tryz.ntmps72
    go_wp2_with fail
    go_ret
    exact ⟨s', cap', rfl, HOL.out, HB.out⟩

theorem infc_numbers : (Tryz.prog.info? 22).map (fun i => (i.zero, i.size, i.bytes)) = some (some (.int .u64 0), 1, 8) := by kernel_rfl
theorem eqn_numbers (w : World) : (binOp .eql 38 (.slice none 0 0) (.slice none 0 0)).run Tryz.prog w = .ok (.bool true) w := by kernel_rfl
theorem eqs_numbers (a : Addr) (n c : Nat) (w : World) : (binOp .eql 38 (.slice (some a) n c) (.slice none 0 0)).run Tryz.prog w = .ok (.bool false) w := by kernel_rfl
set_option maxRecDepth 20000 in
set_option maxHeartbeats 1000000 in
theorem clone_numbers (a : Option Addr) (cap : Nat) (xs : List (List Value)) (w : World) (h : ArgL w 1 a cap xs) (hl : xs.length ≤ 100000) :
    Calls Tryz.prog 73 #[.slice a xs.length cap] w fun e w' => ∃ a' cap', e = .returned (.slice a' xs.length cap') ∧ OL w w' 22 1 a' cap' xs ∧ Below w.heap.size w w' := by
  obtain ⟨inf, hin, hz0, hz1, hz2⟩ := info_parts infc_numbers
  cases a with
  | none =>
    have hc := h.nil rfl
    have hx : xs = [] := by
      cases xs with
      | nil => rfl
      | cons v r => obtain ⟨g, off, e, _⟩ := h.row 0 (by simp); cases e
    subst hx hc
    have hnl := eqn_numbers w
    clear h hl
    go_enter Tryz.func73, Tryz.ntmps73
    go_wp2_with fail
    go_ret
    exact ⟨none, 0, rfl, OL.nil _ _ _ _, Below.refl _ _⟩
  | some ad =>
    obtain ⟨s', cap', w', hrun, hol, hb⟩ := clone_facts (T := 38) Tryz.underlying38 hin hz0 hz1 hz2 rfl (by decide) (by decide) ad cap xs w h hl
    have HOL := Lib.hid hol
    have HB := Lib.hid hb
    have hsl := eqs_numbers ad xs.length cap w
    clear h hl hol hb
    go_enter Tryz.func73, Tryz.ntmps73
    go_wp2_with fail
    go_ret
    exact ⟨s', cap', rfl, HOL.out, HB.out⟩

theorem infc_names : (Tryz.prog.info? 9).map (fun i => (i.zero, i.size, i.bytes)) = some (some (.string ⟨#[]⟩), 1, 16) := by kernel_rfl
theorem eqn_names (w : World) : (binOp .eql 39 (.slice none 0 0) (.slice none 0 0)).run Tryz.prog w = .ok (.bool true) w := by kernel_rfl
theorem eqs_names (a : Addr) (n c : Nat) (w : World) : (binOp .eql 39 (.slice (some a) n c) (.slice none 0 0)).run Tryz.prog w = .ok (.bool false) w := by kernel_rfl
set_option maxRecDepth 20000 in
set_option maxHeartbeats 1000000 in
theorem clone_names (a : Option Addr) (cap : Nat) (xs : List (List Value)) (w : World) (h : ArgL w 1 a cap xs) (hl : xs.length ≤ 100000) :
    Calls Tryz.prog 74 #[.slice a xs.length cap] w fun e w' => ∃ a' cap', e = .returned (.slice a' xs.length cap') ∧ OL w w' 9 1 a' cap' xs ∧ Below w.heap.size w w' := by
  obtain ⟨inf, hin, hz0, hz1, hz2⟩ := info_parts infc_names
  cases a with
  | none =>
    have hc := h.nil rfl
    have hx : xs = [] := by
      cases xs with
      | nil => rfl
      | cons v r => obtain ⟨g, off, e, _⟩ := h.row 0 (by simp); cases e
    subst hx hc
    have hnl := eqn_names w
    clear h hl
    go_enter Tryz.func74, Tryz.ntmps74
    go_wp2_with fail
    go_ret
    exact ⟨none, 0, rfl, OL.nil _ _ _ _, Below.refl _ _⟩
  | some ad =>
    obtain ⟨s', cap', w', hrun, hol, hb⟩ := clone_facts (T := 39) Tryz.underlying39 hin hz0 hz1 hz2 rfl (by decide) (by decide) ad cap xs w h hl
    have HOL := Lib.hid hol
    have HB := Lib.hid hb
    have hsl := eqs_names ad xs.length cap w
    clear h hl hol hb
    go_enter Tryz.func74, Tryz.ntmps74
    go_wp2_with fail
    go_ret
    exact ⟨s', cap', rfl, HOL.out, HB.out⟩

end Go.Proofs.YtjgnomjjphkfbaaGreat

namespace Go.Proofs.YtjgnomjjphkfbaaGreat
open Go.RowKit Go.Maps

theorem u8_keyed : Keyed Tryz.prog 5 := int_keyed Tryz.underlying5
theorem u8_wf (i : Nat) (h : i < 256) : (Lit.int .u8 (i : Int)).wf = true := by
  simp only [Lit.wf, Bool.and_eq_true, decide_eq_true_eq]
  rw [show IntKind.u8.min = 0 from by decide, show IntKind.u8.max = 255 from by decide]
  omega
theorem u8_key (i : Nat) (h : i < 256) : keyOf Tryz.prog 5 (.int .u8 i) = some (.int .u8 i) := keyOf_int_mk Tryz.underlying5 (u8_wf i h)
/-- How a slice of functions reads: as itself. -/
def RV (v : Value) : Option (DataW Value × List MemPlace) := some (.held v, [])
theorem zero_fns (W : World) : (zeroValue 149).run Tryz.prog W = .ok (.slice none 0 0) W := by kernel_rfl
/-- What the map tells. -/
def PMap (W : World) (b n : Nat) (F : Nat → Option Value) : Prop :=
  ∃ D : DataW Value, W.ownsMap Tryz.prog 5 RV b n D ∧ IsMap D ∧ ∀ i : Nat, i < 256 → ∀ zd, D.atKey (.int .u8 (i : Int)) zd = match F i with
    | some v => .held v
    | none => zd
theorem PMap.made (w : World) : PMap (w.alloc (.map #[] 0)) w.heap.size 0 (fun _ => none) :=
  ⟨.map [], World.ownsMap_made _ _ _ _, isMap_empty, fun _ _ _ => rfl⟩
theorem PMap.kept {w w' : World} {b n : Nat} {F : Nat → Option Value} (h : PMap w b n F) (hg : w'.heap[b]? = w.heap[b]?) : PMap w' b n F := by
  obtain ⟨D, ⟨es, clock, hb, F, hs, hD⟩, hS⟩ := h
  exact ⟨D, ⟨es, clock, hg.trans hb, F, hs, hD⟩, hS⟩
theorem PMap.lt {w : World} {b n : Nat} {F : Nat → Option Value} (h : PMap w b n F) : b < w.heap.size := by
  obtain ⟨D, ho, _⟩ := h; exact ho.lt
theorem PMap.alloc {w : World} {b n : Nat} {F : Nat → Option Value} (h : PMap w b n F) (o : Obj) : PMap (w.alloc o) b n F := h.kept (Below.heap_alloc _ _ _ h.lt)
theorem u8lit_ne {x y : Nat} (h : x ≠ y) : (Lit.int .u8 (x : Int)) ≠ (Lit.int .u8 (y : Int)) := fun e => h (by injection e with _ e; omega)
/-- One entry more. -/
theorem PMap.put {w : World} {b n : Nat} {F : Nat → Option Value} (h : PMap w b n F) (hn : n < 100) (i : Nat) (hi : i < 256) (v : Value) :
    ∃ w', (Instr.mapUpdate 150 (.map (some b)) (.int .u8 (i : Int)) v).run Tryz.prog w = .ok () w' ∧ PMap w' b (n + 1) (fun j => if j = i then some v else F j) ∧ Upd w w' [b] := by
  obtain ⟨D, ho, hm, hS⟩ := h
  obtain ⟨w', hr, ho', hg⟩ := ho.update u8_keyed Tryz.underlying150 (by have : maxLen = 9223372036854775807 := rfl; omega) (u8_key i hi) (val := v) (d := .held v) (ps := []) rfl
  refine ⟨w', hr, ⟨_, ho', hm.put _ _, fun j hj zd => ?_⟩, ⟨hg.os, hg.tape, hg.output, hg.size, fun k hk hF => hg.block k hk (fun e => hF (by cases e; simp))⟩⟩
  by_cases e : j = i
  · subst e
    simp only [if_true]
    exact atKey_put_same hm (u8_keyed.key (u8_key _ hj)) _ _
  · simp only [e, if_false]
    rw [atKey_put_other (u8lit_ne e)]
    exact hS j hj zd
theorem held_inv {v : Value} {y : DataW Value × List MemPlace} (h : RV v = some y) : y.1 = .held v := by
  unfold RV at h; cases h; rfl
/-- What is looked up. -/
theorem PMap.look {w : World} {b n : Nat} {F : Nat → Option Value} (h : PMap w b n F) (i : Nat) (hi : i < 256) :
    (Instr.lookup 150 (.map (some b)) (.int .u8 (i : Int)) true).run Tryz.prog w = .ok (match F i with
      | some v => .tuple #[v, .bool true]
      | none => .tuple #[.slice none 0 0, .bool false]) w := by
  obtain ⟨D, ⟨es, clock, hb, hF, hs, rfl⟩, hm, hS⟩ := h
  have hS := hS i hi
  rcases fit_look true u8_keyed Tryz.underlying150 (zero_fns w) hb hF (u8_key i hi) with ⟨hrun, _, hat⟩ | ⟨e0, y, _, _, hrun, hRv, hat, _⟩
  · cases hf : F i with
    | none => exact hrun
    | some v =>
      rw [hf] at hS
      have h1 := hS .nil
      rw [hat] at h1
      cases h1
  · cases hf : F i with
    | none =>
      rw [hf] at hS
      have h1 := hS .nil
      rw [hat, held_inv hRv] at h1
      cases h1
    | some v =>
      rw [hf] at hS
      have h1 := hS .nil
      rw [hat, held_inv hRv] at h1
      cases h1
      exact hrun

/-- A function that holds the coder at block k. -/
abbrev fnv (k f : Nat) : Value := .func (.func f) #[.pointer (some ⟨k, 0, none⟩)] #[]
abbrev fLow : Nat := 83
abbrev fHead : Nat := 84
abbrev fAsk : Nat := 85
abbrev fRows : Nat := 86
abbrev fNext : Nat := 87
abbrev fCommit : Nat := 88
abbrev fErr : Nat := 89
abbrev fTold : Nat := 90
abbrev fState : Nat := 91
/-- Of which parts a message of a kind is. -/
def partsOf : Nat → List Nat
  | 1 => [fLow, fHead, fAsk, fRows, fNext]
  | 2 => [fRows, fCommit, fErr, fTold]
  | 3 => [fLow, fCommit]
  | 6 => [fLow, fState]
  | _ => []
def known (i : Nat) : Bool := decide (1 ≤ i ∧ i ≤ 6)
/-- What the parts' map tells, once it is made. -/
structure Parts (W : World) (B b k : Nat) : Prop where
  yes : ∀ i, known i = true → ∃ g, B ≤ g ∧ W.heap[g]? = some (.cells ((partsOf i).map (fnv k)).toArray 1 (0, 0)) ∧ (Instr.lookup 150 (.map (some b)) (.int .u8 (i : Int)) true).run Tryz.prog W = .ok (.tuple #[.slice (some ⟨g, 0, none⟩) (partsOf i).length (partsOf i).length, .bool true]) W
  no : ∀ i, i < 256 → known i = false → (Instr.lookup 150 (.map (some b)) (.int .u8 (i : Int)) true).run Tryz.prog W = .ok (.tuple #[.slice none 0 0, .bool false]) W
theorem known_cases {i : Nat} (h : known i = true) : i = 1 ∨ i = 2 ∨ i = 3 ∨ i = 4 ∨ i = 5 ∨ i = 6 := by
  have := of_decide_eq_true h; omega
theorem PMap.step {w W : World} {b n : Nat} {F : Nat → Option Value} (h : PMap W b n F) (hb : w.heap.size ≤ b) (hB : Below w.heap.size w W) (hn : n < 100) (i : Nat) (hi : i < 256) (cs : Array Value) (v : Value) :
    ∃ w', (Instr.mapUpdate 150 (.map (some b)) (.int .u8 (i : Int)) v).run Tryz.prog (W.alloc (.cells cs 1 (0, 0))) = .ok () w' ∧ PMap w' b (n + 1) (fun j => if j = i then some v else F j) ∧ Below w.heap.size w w' ∧
      w'.heap[W.heap.size]? = some (.cells cs 1 (0, 0)) ∧ (∀ g, g < W.heap.size → g ≠ b → w'.heap[g]? = W.heap[g]?) ∧ W.heap.size < w'.heap.size := by
  obtain ⟨w', hr, hp, hu⟩ := (h.alloc (.cells cs 1 (0, 0))).put hn i hi v
  have hlt := h.lt
  refine ⟨w', hr, hp, ⟨hu.os.trans hB.os, hu.tape.trans hB.tape, hu.output.trans hB.output, Nat.le_trans hB.size (by have := hu.size; simp at this; omega), fun g hg => ?_⟩, ?_, fun g hg hne => ?_, by have := hu.size; simp at this; omega⟩
  · rw [hu.keep g (by have := hB.size; simp; omega) (by simp; omega), Below.heap_alloc _ _ _ (by have := hB.size; omega)]
    exact hB.block g hg
  · rw [hu.keep W.heap.size (by simp) (by simp; omega)]
    exact heap_alloc_new W _
  · rw [hu.keep g (by simp; omega) (by simpa using hne), Below.heap_alloc _ _ _ hg]
/-- The six entries. -/
theorem parts_made (w : World) (k : Nat) : ∃ W1 W2 W3 W4 W5 W6 : World,
    (Instr.mapUpdate 150 (.map (some w.heap.size)) (.int .u8 1) (.slice (some ⟨w.heap.size + 1, 0, none⟩) 5 5)).run Tryz.prog ((w.alloc (.map #[] 0)).alloc (.cells #[fnv k fLow, fnv k fHead, fnv k fAsk, fnv k fRows, fnv k fNext] 1 (0, 0))) = .ok () W1 ∧
    (Instr.mapUpdate 150 (.map (some w.heap.size)) (.int .u8 2) (.slice (some ⟨W1.heap.size, 0, none⟩) 4 4)).run Tryz.prog (W1.alloc (.cells #[fnv k fRows, fnv k fCommit, fnv k fErr, fnv k fTold] 1 (0, 0))) = .ok () W2 ∧
    (Instr.mapUpdate 150 (.map (some w.heap.size)) (.int .u8 3) (.slice (some ⟨W2.heap.size, 0, none⟩) 2 2)).run Tryz.prog (W2.alloc (.cells #[fnv k fLow, fnv k fCommit] 1 (0, 0))) = .ok () W3 ∧
    (Instr.mapUpdate 150 (.map (some w.heap.size)) (.int .u8 4) (.slice (some ⟨W3.heap.size, 0, none⟩) 0 0)).run Tryz.prog (W3.alloc (.cells #[] 1 (0, 0))) = .ok () W4 ∧
    (Instr.mapUpdate 150 (.map (some w.heap.size)) (.int .u8 5) (.slice (some ⟨W4.heap.size, 0, none⟩) 0 0)).run Tryz.prog (W4.alloc (.cells #[] 1 (0, 0))) = .ok () W5 ∧
    (Instr.mapUpdate 150 (.map (some w.heap.size)) (.int .u8 6) (.slice (some ⟨W5.heap.size, 0, none⟩) 2 2)).run Tryz.prog (W5.alloc (.cells #[fnv k fLow, fnv k fState] 1 (0, 0))) = .ok () W6 ∧
    Below w.heap.size w W6 ∧ Parts W6 w.heap.size w.heap.size k := by
  have B0 : Below w.heap.size w (w.alloc (.map #[] 0)) := ((Own.refl w).alloc _).below
  have s0 : (w.alloc (.map #[] 0)).heap.size = w.heap.size + 1 := by simp
  obtain ⟨W1, r1, p1, B1, n1, k1, z1⟩ := (PMap.made w).step (Nat.le_refl _) B0 (by decide) 1 (by decide) #[fnv k fLow, fnv k fHead, fnv k fAsk, fnv k fRows, fnv k fNext] (.slice (some ⟨w.heap.size + 1, 0, none⟩) 5 5)
  obtain ⟨W2, r2, p2, B2, n2, k2, z2⟩ := p1.step (Nat.le_refl _) B1 (by decide) 2 (by decide) #[fnv k fRows, fnv k fCommit, fnv k fErr, fnv k fTold] (.slice (some ⟨W1.heap.size, 0, none⟩) 4 4)
  obtain ⟨W3, r3, p3, B3, n3, k3, z3⟩ := p2.step (Nat.le_refl _) B2 (by decide) 3 (by decide) #[fnv k fLow, fnv k fCommit] (.slice (some ⟨W2.heap.size, 0, none⟩) 2 2)
  obtain ⟨W4, r4, p4, B4, n4, k4, z4⟩ := p3.step (Nat.le_refl _) B3 (by decide) 4 (by decide) #[] (.slice (some ⟨W3.heap.size, 0, none⟩) 0 0)
  obtain ⟨W5, r5, p5, B5, n5, k5, z5⟩ := p4.step (Nat.le_refl _) B4 (by decide) 5 (by decide) #[] (.slice (some ⟨W4.heap.size, 0, none⟩) 0 0)
  obtain ⟨W6, r6, p6, B6, n6, k6, z6⟩ := p5.step (Nat.le_refl _) B5 (by decide) 6 (by decide) #[fnv k fLow, fnv k fState] (.slice (some ⟨W5.heap.size, 0, none⟩) 2 2)
  rw [s0] at n1 k1 z1
  refine ⟨W1, W2, W3, W4, W5, W6, r1, r2, r3, r4, r5, r6, B6, ⟨fun i hi => ?_, fun i hi hk => ?_⟩⟩
  · rcases known_cases hi with rfl | rfl | rfl | rfl | rfl | rfl
    · exact ⟨w.heap.size + 1, by omega, by rw [k6 _ (by omega) (by omega), k5 _ (by omega) (by omega), k4 _ (by omega) (by omega), k3 _ (by omega) (by omega), k2 _ (by omega) (by omega)]; exact n1, p6.look 1 (by decide)⟩
    · exact ⟨W1.heap.size, by omega, by rw [k6 _ (by omega) (by omega), k5 _ (by omega) (by omega), k4 _ (by omega) (by omega), k3 _ (by omega) (by omega)]; exact n2, p6.look 2 (by decide)⟩
    · exact ⟨W2.heap.size, by omega, by rw [k6 _ (by omega) (by omega), k5 _ (by omega) (by omega), k4 _ (by omega) (by omega)]; exact n3, p6.look 3 (by decide)⟩
    · exact ⟨W3.heap.size, by omega, by rw [k6 _ (by omega) (by omega), k5 _ (by omega) (by omega)]; exact n4, p6.look 4 (by decide)⟩
    · exact ⟨W4.heap.size, by omega, by rw [k6 _ (by omega) (by omega)]; exact n5, p6.look 5 (by decide)⟩
    · exact ⟨W5.heap.size, by omega, n6, p6.look 6 (by decide)⟩
  · have h := p6.look i hi
    have hk : ¬ (1 ≤ i ∧ i ≤ 6) := of_decide_eq_false hk
    simp only [show ¬ i = 1 by omega, show ¬ i = 2 by omega, show ¬ i = 3 by omega, show ¬ i = 4 by omega, show ¬ i = 5 by omega, show ¬ i = 6 by omega, if_false] at h
    exact h

end Go.Proofs.YtjgnomjjphkfbaaGreat

namespace Go.Proofs.YtjgnomjjphkfbaaGreat
open Go.RowKit

/-- Rows of functions stay. -/
def KeepFn (w w' : World) : Prop := ∀ (g : Nat) (cs : Array Value), w.heap[g]? = some (.cells cs 1 (0, 0)) → w'.heap[g]? = some (.cells cs 1 (0, 0))
theorem parts_fn (kind : Nat) (hk : known kind = true) (i : Nat) (h : i < (partsOf kind).length) : (partsOf kind)[i] = fLow ∨ (partsOf kind)[i] = fHead ∨ (partsOf kind)[i] = fAsk ∨ (partsOf kind)[i] = fRows ∨ (partsOf kind)[i] = fNext ∨ (partsOf kind)[i] = fCommit ∨ (partsOf kind)[i] = fErr ∨ (partsOf kind)[i] = fTold ∨ (partsOf kind)[i] = fState := by
  have hm : (partsOf kind)[i] ∈ partsOf kind := List.getElem_mem h
  generalize (partsOf kind)[i] = f at *
  rcases known_cases hk with rfl | rfl | rfl | rfl | rfl | rfl <;> simp [partsOf] at hm <;> omega
structure GoesHyp (k m : Nat) (w : World) (K : Nat → World → Prop) (T : Nat → Nat → Nat → Bool → World → Prop) (J : Nat → Nat → World → Prop) : Prop where
  c0 : w.cell? ⟨k, 4, none⟩ = some (.pointer (some ⟨m, 0, none⟩))
  num : Calls Tryz.prog 82 #[.pointer (some ⟨k, 0, none⟩), .pointer (some ⟨m, 0, none⟩), .int .u64 255] w fun e w1 => e = .returned (.tuple #[]) ∧ ∃ kind : Nat, kind < 256 ∧ K kind w1
  kind : ∀ kind w1, K kind w1 → w1.cell? ⟨k, 4, none⟩ = some (.pointer (some ⟨m, 0, none⟩)) ∧ w1.cell? ⟨m, 0, none⟩ = some (.int .u8 (kind : Int)) ∧ (∃ v, w1.cell? ⟨k, 3, none⟩ = some v) ∧ w1.frozen? ⟨k, 3, none⟩ = false
  keep : ∀ kind w1 w2, K kind w1 → Below w1.heap.size w1 w2 → K kind w2
  tx : ∀ kind w1, K kind w1 → known kind = true → Calls Tryz.prog 92 #[.pointer (some ⟨k, 0, none⟩), .pointer (some ⟨m, 0 + 1, none⟩)] w1 fun e w2 => e = .returned (.tuple #[]) ∧ ∃ (life n : Nat) (bad : Bool), T kind life n bad w2 ∧ KeepFn w1 w2
  txc : ∀ kind life n bad w2, T kind life n bad w2 → w2.cell? ⟨k, 4, none⟩ = some (.pointer (some ⟨m, 0, none⟩)) ∧ w2.cell? ⟨k, 3, none⟩ = some (.bool bad) ∧ w2.frozen? ⟨k, 3, none⟩ = false ∧ w2.cell? ⟨m, 1, none⟩ = some (.int .u64 (life : Int)) ∧ w2.cell? ⟨m, 2, none⟩ = some (.int .u64 (n : Int))
  txj : ∀ kind life n bad w2 b, T kind life n bad w2 → b = (bad || !decide (1 ≤ life ∧ 1 ≤ n)) → J kind 0 (w2.setCell ⟨k, 3, none⟩ (.bool b)) ∧ KeepFn w2 (w2.setCell ⟨k, 3, none⟩ (.bool b))
  part : ∀ kind i w2 (h : i < (partsOf kind).length), known kind = true → J kind i w2 → Calls Tryz.prog ((partsOf kind)[i]) #[.pointer (some ⟨k, 0, none⟩)] w2 fun e w3 => e = .returned (.tuple #[]) ∧ J kind (i + 1) w3 ∧ KeepFn w2 w3

set_option maxRecDepth 20000 in
set_option maxHeartbeats 8000000 in
theorem goes_gen (k m : Nat) (w : World) (K : Nat → World → Prop) (T : Nat → Nat → Nat → Bool → World → Prop) (J : Nat → Nat → World → Prop) (h : GoesHyp k m w K T J) :
    Calls Tryz.prog 52 #[.pointer (some ⟨k, 0, none⟩)] w fun e w' => e = .returned (.tuple #[]) ∧ ∃ kind : Nat, kind < 256 ∧ ((known kind = false ∧ ∃ w2, K kind w2 ∧ w' = w2.setCell ⟨k, 3, none⟩ (.bool true)) ∨ (known kind = true ∧ J kind (partsOf kind).length w')) := by
  have H := Lib.hid h
  have HN := Lib.hid h.num
  have c0 := h.c0
  clear h
  have hmm := @run_makeMap Tryz.prog
  go_enter Tryz.func52, Tryz.ntmps52
  go_wp2_with fail
  refine HN.out.mono ?_
  rintro e w1 ⟨rfl, kind, hk, hK⟩
  clear c0 HN
  obtain ⟨W1, W2, W3, W4, W5, W6, r1, r2, r3, r4, r5, r6, hB, hP⟩ := parts_made w1 k
  have hK6 := H.out.keep _ _ _ hK hB
  obtain ⟨c4, c0, ⟨v3, c3⟩, f3⟩ := H.out.kind _ _ hK6
  have HK6 := Lib.hid hK6
  have HKD := Lib.hid hk
  cases hkn : known kind with
  | false =>
    have hlook := hP.no kind hk hkn
    have HKN := Lib.hid hkn
    clear hK6 hP hB hK hk hkn
    go_wp2_with fail
    exact bodyPost_ret (v := .tuple #[]) (by simp [results, Tryz.results52, go_sem]) rfl ⟨rfl, kind, HKD.out, .inl ⟨HKN.out, W6, HK6.out, rfl⟩⟩
  | true =>
    obtain ⟨g, hgB, hg, hlook⟩ := hP.yes kind hkn
    have HKN := Lib.hid hkn
    have HTX := Lib.hid (H.out.tx kind W6 hK6 hkn)
    have HG := Lib.hid hg
    clear hK6 hP hB hK hk hgB
    have hln : (partsOf kind).length ≤ 5 := by rcases known_cases hkn with rfl | rfl | rfl | rfl | rfl | rfl <;> decide
    obtain ⟨np, hnp⟩ : ∃ np, np = (partsOf kind).length := ⟨_, rfl⟩
    rw [← hnp] at hlook hln
    have hnI : (0 : Int) ≤ np ∧ (np : Int) ≤ 5 := by omega
    have HNP := Lib.hid hnp
    clear hkn hg hnp
    go_wp2_with fail
    refine HTX.out.mono ?_
    rintro e w2 ⟨rfl, life, n, bad, hT, hkf⟩
    clear HTX hlook r1 r2 r3 r4 r5 r6 c4 c0 c3 f3
    obtain ⟨c4, c3, f3, cl, cn⟩ := H.out.txc _ _ _ _ _ hT
    obtain ⟨b, hb⟩ : ∃ b : Bool, b = (bad || !decide (1 ≤ life ∧ 1 ≤ n)) := ⟨_, rfl⟩
    obtain ⟨hJ, hkf2⟩ := H.out.txj kind life n bad w2 b hT hb
    have HJ := Lib.hid hJ
    have HG2 := Lib.hid (hkf2 _ _ (hkf _ _ HG.out))
    clear hT hkf hkf2 hJ HG
    have hpl : decide ((life : Int) < 1) = !decide (1 ≤ life) := by
      by_cases hh : 1 ≤ life
      · rw [decide_eq_true hh, decide_eq_false (by omega)]; rfl
      · rw [decide_eq_false hh, decide_eq_true (by omega)]; rfl
    have hpn : decide ((n : Int) < 1) = !decide (1 ≤ n) := by
      by_cases hh : 1 ≤ n
      · rw [decide_eq_true hh, decide_eq_false (by omega)]; rfl
      · rw [decide_eq_false hh, decide_eq_true (by omega)]; rfl
    rw [Bool.decide_and] at hb
    obtain ⟨w3, hw3⟩ : ∃ w3, w3 = w2.setCell ⟨k, 3, none⟩ (.bool b) := ⟨_, rfl⟩
    rw [← hw3] at HJ HG2
    have HW3 := Lib.hid hw3
    clear hw3
    go_upto_region 6 with (fail)
    go_cut [] (fun wx => wx = w3)
    case first =>
      cases bad with
      | true =>
        rw [Bool.true_or] at hb
        subst hb
        clear hpl hpn
        go_wp2_with fail
        go_meet
        exact HW3.out.symm
      | false =>
        rw [Bool.false_or] at hb
        cases hl : decide (1 ≤ life) with
        | false =>
          rw [hl] at hb hpl
          have : b = true := by simpa using hb
          subst this
          clear hb hpn hl
          rw [Bool.not_false] at hpl
          go_wp2_with fail
          go_meet
          exact HW3.out.symm
        | true =>
          rw [hl, Bool.true_and] at hb
          rw [hl, Bool.not_true] at hpl
          rw [← hb] at hpn
          clear hb hl
          go_wp2_with fail
          go_meet
          exact HW3.out.symm
    case rest =>
    subst hcut
    clear hpl hpn cl cn c4 c3 f3 hb
    go_wp2_with fail
    go_loopw [105] (fun vi wr => ∃ i : Nat, i ≤ np ∧ vi = .int .i64 i ∧ J kind i wr ∧ wr.heap[g]? = some (.cells ((partsOf kind).map (fnv k)).toArray 1 (0, 0))) (fun vi _ => np - (intOf vi).toNat)
    case atStart => exact ⟨0, Nat.zero_le _, rfl, HJ.out, HG2.out⟩
    case round =>
      obtain ⟨i, hi, rfl, hJi, hgi⟩ := hrel
      have HGI := Lib.hid hgi
      by_cases hlt : i < np
      · have hip : i < (partsOf kind).length := by rw [← HNP.out]; exact hlt
        obtain ⟨fx, hfx⟩ : ∃ fx, fx = (partsOf kind)[i] := ⟨_, rfl⟩
        have HC := Lib.hid (H.out.part kind i wr hip HKN.out hJi)
        rw [← hfx] at HC
        have ci : wr.cell? ⟨g, i, none⟩ = some (fnv k fx) := by
          rw [cell_of_row _ _ _ _ _ _ hgi, hfx]
          simp [hip]
        have hiI : (0 : Int) ≤ i ∧ (i : Int) < np := by omega
        have hfv := parts_fn kind HKN.out i hip
        rw [← hfx] at hfv
        clear hgi hJi hfx hip
        rcases hfv with rfl | rfl | rfl | rfl | rfl | rfl | rfl | rfl | rfl
        all_goals
          go_wp2_with fail
          refine HC.out.mono ?_
          rintro e w5 ⟨rfl, hJ5, hkf5⟩
          have HJ5 := Lib.hid hJ5
          have HG5 := Lib.hid (hkf5 _ _ HGI.out)
          clear hJ5 hkf5 HC ci HGI
          go_wp2_with fail
          go_roundw
          case rel => exact ⟨i + 1, by omega, by go_num, HJ5.out, HG5.out⟩
          case measure => simp [intOf]; omega
      · obtain rfl : i = np := by omega
        have HJI := Lib.hid hJi
        clear hgi hJi
        go_wp2_with fail
        refine bodyPost_end (v := .tuple #[]) (by simp [results, Tryz.results52, go_sem]) rfl ⟨rfl, kind, HKD.out, .inr ⟨HKN.out, ?_⟩⟩
        rw [← HNP.out]
        exact HJI.out

end Go.Proofs.YtjgnomjjphkfbaaGreat

namespace Go.Proofs.YtjgnomjjphkfbaaGreat
open Go.RowKit

/-- The lists of a message that is read: each is the call's own. -/
structure MsgO (w W : World) (s : MS) (x : Mg.Msg) : Prop where
  parts : OL w W 26 1 s.parts.1 s.parts.2 (x.parts.map (fun a : Nat => [Value.int .u32 a]))
  reads : OL w W 67 2 s.reads.1 s.reads.2 (x.ask.reads.map Mg.Rd.cells)
  readAt : OL w W 3 1 s.readAt.1 s.readAt.2 (x.ask.readAt.map (fun a : Int => [Value.int .i64 a]))
  edits : OL w W 59 6 s.edits.1 s.edits.2 (x.ask.edits.map Mg.Ed.cells)
  editAt : OL w W 3 1 s.editAt.1 s.editAt.2 (x.ask.editAt.map (fun a : Int => [Value.int .i64 a]))
  rows : ∃ xs, OL w W 72 3 s.rows.1 s.rows.2 xs ∧ RowsO w W x.rows xs
  own : OL w W 31 2 s.own.1 s.own.2 (x.own.map Mg.Rng.cells)
  got : OL w W 64 4 s.got.1 s.got.2 (x.told.got.map Mg.Got.cells)
  numbers : OL w W 22 1 s.numbers.1 s.numbers.2 (x.told.numbers.map (fun a : Nat => [Value.int .u64 a]))
  names : OL w W 9 1 s.names.1 s.names.2 (x.told.names.map (fun a : ByteArray => [Value.string a]))
theorem MsgO.upd {w W W2 : World} {s : MS} {x : Mg.Msg} {F : List Nat} (h : MsgO w W s x) (hu : Upd W W2 F) (hF : ∀ b ∈ F, b < w.heap.size) : MsgO w W2 s x :=
  ⟨h.parts.updB hu hF, h.reads.updB hu hF, h.readAt.updB hu hF, h.edits.updB hu hF, h.editAt.updB hu hF, by
    obtain ⟨xs, h1, h2⟩ := h.rows
    exact ⟨xs, h1.updB hu hF, h2.updB hu (fun b hb => .inl (hF b hb))⟩, h.own.updB hu hF, h.got.updB hu hF, h.numbers.updB hu hF, h.names.updB hu hF⟩
def MS0 : MS := ⟨(none, 0), (none, 0), (none, 0), (none, 0), (none, 0), (none, 0), (none, 0), (none, 0), (none, 0), (none, 0)⟩
theorem MsgO.nil (w W : World) (x : Mg.Msg) (h : x = Mg.msg0) : MsgO w W MS0 x := by
  subst h
  exact ⟨OL.nil _ _ _ _, OL.nil _ _ _ _, OL.nil _ _ _ _, OL.nil _ _ _ _, OL.nil _ _ _ _, ⟨[], OL.nil _ _ _ _, RowsO.nil _ _⟩, OL.nil _ _ _ _, OL.nil _ _ _ _, OL.nil _ _ _ _, OL.nil _ _ _ _⟩
/-- A message that is read, in block m. -/
structure RM (w0 : World) (k rb m : Nat) (st : Option (List UInt8)) (bad : Bool) (s : MS) (x : Mg.Msg) (w : World) : Prop where
  rc : RcAt k rb m m st bad (s.cells x) 43 w
  ls : MsgO w0 w s x
  kl : k < w0.heap.size
  rl : rb < w0.heap.size
  ml : m < w0.heap.size
  le : w0.heap.size ≤ w.heap.size
theorem RM.two {w0 : World} {k rb m : Nat} {st : Option (List UInt8)} {bad : Bool} {s : MS} {x : Mg.Msg} {w : World} (h : RM w0 k rb m st bad s x w) : ∀ b ∈ [rb, m], b < w0.heap.size := by
  intro b hb
  simp at hb
  rcases hb with rfl | rfl
  · exact h.rl
  · exact h.ml
theorem RM.cell {w0 : World} {k rb m : Nat} {st : Option (List UInt8)} {bad : Bool} {s : MS} {x : Mg.Msg} {w : World} (h : RM w0 k rb m st bad s x w) (i : Nat) {v : Value} (hi : (s.cells x)[i]? = some v) : w.cell? ⟨m, i, none⟩ = some v := h.rc.cell i v hi
theorem RM.keepFn {w0 : World} {k rb m : Nat} {st : Option (List UInt8)} {bad : Bool} {s : MS} {x : Mg.Msg} {w w' : World} (h : RM w0 k rb m st bad s x w) (hu : Upd w w' [rb, m]) : KeepFn w w' := by
  intro g cs hg
  refine (hu.keep g (blk_lt hg) ?_).trans hg
  simp only [List.mem_cons, List.not_mem_nil, or_false, not_or]
  refine ⟨fun e => ?_, fun e => ?_⟩
  · subst e
    obtain ⟨s, e, h1, _⟩ := h.rc.rd
    unfold RdIs at h1
    rw [h1] at hg
    injection hg with hg
    injection hg with _ ht
    exact absurd ht (by decide)
  · subst e
    rw [h.rc.blk] at hg
    injection hg with hg
    injection hg with _ ht
    exact absurd ht (by decide)

set_option maxRecDepth 20000 in
set_option maxHeartbeats 4000000 in
theorem lowM (w0 : World) (k rb m : Nat) (st : Option (List UInt8)) (bad : Bool) (s : MS) (x : Mg.Msg) (w : World) (h : RM w0 k rb m st bad s x w) :
    Calls Tryz.prog 83 #[.pointer (some ⟨k, 0, none⟩)] w fun e w' => e = .returned (.tuple #[]) ∧ ∃ (v : Mg.Tx) (st' : Option (List UInt8)) (s' : MS), Step Mg.cTx.dec st v st' ∧ RM w0 k rb m st' bad s' { x with low := v } w' ∧ Upd w w' [rb, m] := by
  have HM := Lib.hid h
  obtain ⟨d0, d3, d4, dz⟩ := h.rc.cells
  have H1 := Lib.hid (txidR k rb m m (0 + 3) st bad _ _ w h.rc (Nat.le_of_ble_eq_true rfl))
  clear h
  go_enter Tryz.func83, Tryz.ntmps83
  go_wp2_with fail
  refine H1.out.mono ?_
  rintro e w1 ⟨rfl, x1, s1, hs1, _, hr1, hu1⟩
  have HS1 := Lib.hid hs1
  have HU1 := Lib.hid hu1
  have hr1 : RcAt k rb m m s1 bad (MS.cells s { x with low := x1 }) 43 w1 := hr1
  have HO1 : Hid (MsgO w0 w1 s { x with low := x1 }) := Lib.hid (by
    have q := MsgO.upd HM.out.ls hu1 HM.out.two
    exact ⟨q.parts, q.reads, q.readAt, q.edits, q.editAt, q.rows, q.own, q.got, q.numbers, q.names⟩)
  clear hs1 hu1
  clear d0 d3 d4 dz
  have HR := Lib.hid hr1
  clear hr1
  go_wp2_with fail
  exact bodyPost_end (v := .tuple #[]) (by simp [results, Tryz.results83, go_sem]) rfl ⟨rfl, x1, s1, s, HS1.out, ⟨HR.out, HO1.out, HM.out.kl, HM.out.rl, HM.out.ml, Nat.le_trans HM.out.le HU1.out.size⟩, HU1.out⟩

set_option maxRecDepth 20000 in
set_option maxHeartbeats 4000000 in
theorem rowsM (w0 : World) (k rb m : Nat) (st : Option (List UInt8)) (bad : Bool) (s : MS) (x : Mg.Msg) (w : World) (h : RM w0 k rb m st bad s x w) :
    Calls Tryz.prog 86 #[.pointer (some ⟨k, 0, none⟩)] w fun e w' => e = .returned (.tuple #[]) ∧ ∃ (v : List Mg.Row) (st' : Option (List UInt8)) (s' : MS), Step (Mg.list 512 Mg.cRow).dec st v st' ∧ RM w0 k rb m st' bad s' { x with rows := v } w' ∧ Upd w w' [rb, m] := by
  have HM := Lib.hid h
  obtain ⟨d0, d3, d4, dz⟩ := h.rc.cells
  have H1 := Lib.hid (listR_row k rb m m (0 + 18) st bad _ _ _ _ _ w h.rc rfl)
  clear h
  go_enter Tryz.func86, Tryz.ntmps86
  go_wp2_with fail
  refine H1.out.mono ?_
  rintro e w1 ⟨rfl, x1, xs1, a1, c1, s1, hs1, _, _, hr1, ho1, hw1, hu1⟩
  have HS1 := Lib.hid hs1
  have HU1 := Lib.hid hu1
  have hr1 : RcAt k rb m m s1 bad (MS.cells { s with rows := (a1, c1) } { x with rows := x1 }) 43 w1 := hr1
  have HO1 : Hid (MsgO w0 w1 { s with rows := (a1, c1) } { x with rows := x1 }) := Lib.hid (by
    have q := MsgO.upd HM.out.ls hu1 HM.out.two
    exact ⟨q.parts, q.reads, q.readAt, q.edits, q.editAt, ⟨xs1, ho1.base HM.out.le, hw1.base HM.out.le⟩, q.own, q.got, q.numbers, q.names⟩)
  clear hs1 hu1 ho1 hw1
  clear d0 d3 d4 dz
  have HR := Lib.hid hr1
  clear hr1
  go_wp2_with fail
  exact bodyPost_end (v := .tuple #[]) (by simp [results, Tryz.results86, go_sem]) rfl ⟨rfl, x1, s1, { s with rows := (a1, c1) }, HS1.out, ⟨HR.out, HO1.out, HM.out.kl, HM.out.rl, HM.out.ml, Nat.le_trans HM.out.le HU1.out.size⟩, HU1.out⟩

set_option maxRecDepth 20000 in
set_option maxHeartbeats 4000000 in
theorem nextM (w0 : World) (k rb m : Nat) (st : Option (List UInt8)) (bad : Bool) (s : MS) (x : Mg.Msg) (w : World) (h : RM w0 k rb m st bad s x w) :
    Calls Tryz.prog 87 #[.pointer (some ⟨k, 0, none⟩)] w fun e w' => e = .returned (.tuple #[]) ∧ ∃ (v : Nat × List Mg.Rng) (st' : Option (List UInt8)) (s' : MS), Step Mg.cNext.dec st v st' ∧ RM w0 k rb m st' bad s' { x with next := v.1, own := v.2 } w' ∧ Upd w w' [rb, m] := by
  have HM := Lib.hid h
  obtain ⟨d0, d3, d4, dz⟩ := h.rc.cells
  have H1 := Lib.hid (numR_u64 k rb m m (0 + 19) st bad _ _ 18446744073709551615 w h.rc (Nat.le_of_ble_eq_true rfl) (by decide))
  clear h
  go_enter Tryz.func87, Tryz.ntmps87
  go_wp2_with fail
  refine H1.out.mono ?_
  rintro e w1 ⟨rfl, x1, s1, hs1, _, hr1, hu1⟩
  have HS1 := Lib.hid hs1
  have HU1 := Lib.hid hu1
  have hr1 : RcAt k rb m m s1 bad (MS.cells s { x with next := x1 }) 43 w1 := hr1
  have HO1 : Hid (MsgO w0 w1 s { x with next := x1 }) := Lib.hid (by
    have q := MsgO.upd HM.out.ls hu1 HM.out.two
    exact ⟨q.parts, q.reads, q.readAt, q.edits, q.editAt, q.rows, q.own, q.got, q.numbers, q.names⟩)
  clear hs1 hu1
  clear d0 d3 d4 dz
  obtain ⟨d0, d3, d4, dz⟩ := hr1.cells
  have H2 := Lib.hid (listR_span k rb m m (0 + 20) s1 bad _ _ _ _ _ w1 hr1 rfl)
  clear hr1
  go_wp2_with fail
  refine H2.out.mono ?_
  rintro e w2 ⟨rfl, x2, a2, c2, s2, hs2, _, _, hr2, ho2, hu2⟩
  clear d0 d3 d4 dz
  have HS2 := Lib.hid hs2
  have HU2 := Lib.hid (HU1.out.two hu2)
  have hr2 : RcAt k rb m m s2 bad (MS.cells { s with own := (a2, c2) } { x with next := x1, own := x2 }) 43 w2 := hr2
  have HO2 : Hid (MsgO w0 w2 { s with own := (a2, c2) } { x with next := x1, own := x2 }) := Lib.hid (by
    have q := MsgO.upd HO1.out hu2 HM.out.two
    exact ⟨q.parts, q.reads, q.readAt, q.edits, q.editAt, q.rows, ho2.base (Nat.le_trans HM.out.le HU1.out.size), q.got, q.numbers, q.names⟩)
  clear hs2 hu2 ho2
  have HR := Lib.hid hr2
  clear hr2
  go_wp2_with fail
  exact bodyPost_end (v := .tuple #[]) (by simp [results, Tryz.results87, go_sem]) rfl ⟨rfl, (x1, x2), s2, { s with own := (a2, c2) }, Step.seqD HS1.out HS2.out, ⟨HR.out, HO2.out, HM.out.kl, HM.out.rl, HM.out.ml, Nat.le_trans HM.out.le HU2.out.size⟩, HU2.out⟩

set_option maxRecDepth 20000 in
set_option maxHeartbeats 4000000 in
theorem commitM (w0 : World) (k rb m : Nat) (st : Option (List UInt8)) (bad : Bool) (s : MS) (x : Mg.Msg) (w : World) (h : RM w0 k rb m st bad s x w) :
    Calls Tryz.prog 88 #[.pointer (some ⟨k, 0, none⟩)] w fun e w' => e = .returned (.tuple #[]) ∧ ∃ (v : Bool) (st' : Option (List UInt8)) (s' : MS), Step Mg.truth.dec st v st' ∧ RM w0 k rb m st' bad s' { x with commit := v } w' ∧ Upd w w' [rb, m] := by
  have HM := Lib.hid h
  obtain ⟨d0, d3, d4, dz⟩ := h.rc.cells
  have H1 := Lib.hid (truthR k rb m m (0 + 21) st bad _ _ w h.rc (Nat.le_of_ble_eq_true rfl))
  clear h
  go_enter Tryz.func88, Tryz.ntmps88
  go_wp2_with fail
  refine H1.out.mono ?_
  rintro e w1 ⟨rfl, x1, s1, hs1, hr1, hu1⟩
  have HS1 := Lib.hid hs1
  have HU1 := Lib.hid hu1
  have hr1 : RcAt k rb m m s1 bad (MS.cells s { x with commit := x1 }) 43 w1 := hr1
  have HO1 : Hid (MsgO w0 w1 s { x with commit := x1 }) := Lib.hid (by
    have q := MsgO.upd HM.out.ls hu1 HM.out.two
    exact ⟨q.parts, q.reads, q.readAt, q.edits, q.editAt, q.rows, q.own, q.got, q.numbers, q.names⟩)
  clear hs1 hu1
  clear d0 d3 d4 dz
  have HR := Lib.hid hr1
  clear hr1
  go_wp2_with fail
  exact bodyPost_end (v := .tuple #[]) (by simp [results, Tryz.results88, go_sem]) rfl ⟨rfl, x1, s1, s, HS1.out, ⟨HR.out, HO1.out, HM.out.kl, HM.out.rl, HM.out.ml, Nat.le_trans HM.out.le HU1.out.size⟩, HU1.out⟩

set_option maxRecDepth 20000 in
set_option maxHeartbeats 4000000 in
theorem errM (w0 : World) (k rb m : Nat) (st : Option (List UInt8)) (bad : Bool) (s : MS) (x : Mg.Msg) (w : World) (h : RM w0 k rb m st bad s x w) :
    Calls Tryz.prog 89 #[.pointer (some ⟨k, 0, none⟩)] w fun e w' => e = .returned (.tuple #[]) ∧ ∃ (v : Int) (st' : Option (List UInt8)) (s' : MS), Step (Mg.int 9999).dec st v st' ∧ RM w0 k rb m st' bad s' { x with err := v } w' ∧ Upd w w' [rb, m] := by
  have HM := Lib.hid h
  obtain ⟨d0, d3, d4, dz⟩ := h.rc.cells
  have H1 := Lib.hid (numR_errno k rb m m (0 + 22) st bad _ _ 9999 w h.rc (Nat.le_of_ble_eq_true rfl) (by decide))
  clear h
  go_enter Tryz.func89, Tryz.ntmps89
  go_wp2_with fail
  refine H1.out.mono ?_
  rintro e w1 ⟨rfl, x1, s1, hs1, _, hr1, hu1⟩
  have HS1 := Lib.hid hs1
  have HU1 := Lib.hid hu1
  have hr1 : RcAt k rb m m s1 bad (MS.cells s { x with err := ((x1 : Nat) : Int) }) 43 w1 := hr1
  have HO1 : Hid (MsgO w0 w1 s { x with err := ((x1 : Nat) : Int) }) := Lib.hid (by
    have q := MsgO.upd HM.out.ls hu1 HM.out.two
    exact ⟨q.parts, q.reads, q.readAt, q.edits, q.editAt, q.rows, q.own, q.got, q.numbers, q.names⟩)
  clear hs1 hu1
  clear d0 d3 d4 dz
  have HR := Lib.hid hr1
  clear hr1
  go_wp2_with fail
  exact bodyPost_end (v := .tuple #[]) (by simp [results, Tryz.results89, go_sem]) rfl ⟨rfl, ((x1 : Nat) : Int), s1, s, HS1.out.intD, ⟨HR.out, HO1.out, HM.out.kl, HM.out.rl, HM.out.ml, Nat.le_trans HM.out.le HU1.out.size⟩, HU1.out⟩

end Go.Proofs.YtjgnomjjphkfbaaGreat

namespace Go.Proofs.YtjgnomjjphkfbaaGreat
open Go.RowKit

set_option maxRecDepth 20000 in
set_option maxHeartbeats 4000000 in
theorem askM (w0 : World) (k rb m : Nat) (st : Option (List UInt8)) (bad : Bool) (s : MS) (x : Mg.Msg) (w : World) (h : RM w0 k rb m st bad s x w) :
    Calls Tryz.prog 85 #[.pointer (some ⟨k, 0, none⟩)] w fun e w' => e = .returned (.tuple #[]) ∧ ∃ (v : Mg.Ask) (st' : Option (List UInt8)) (s' : MS), Step Mg.cAsk.dec st v st' ∧ RM w0 k rb m st' bad s' { x with ask := { x.ask with shard := v.shard, reads := v.reads, readAt := v.readAt, edits := v.edits, editAt := v.editAt, list := v.list, pre := v.pre, give := v.give, take := v.take, range := v.range } } w' ∧ Upd w w' [rb, m] := by
  have HM := Lib.hid h
  obtain ⟨d0, d3, d4, dz⟩ := h.rc.cells
  have H1 := Lib.hid (numR_u32 k rb m m (0 + 7) st bad _ _ 4294967295 w h.rc (Nat.le_of_ble_eq_true rfl) (by decide))
  clear h
  go_enter Tryz.func85, Tryz.ntmps85
  go_wp2_with fail
  refine H1.out.mono ?_
  rintro e w1 ⟨rfl, x1, s1, hs1, _, hr1, hu1⟩
  have HS1 := Lib.hid hs1
  have HU1 := Lib.hid hu1
  have hr1 : RcAt k rb m m s1 bad (MS.cells s { x with ask := { x.ask with shard := x1 } }) 43 w1 := hr1
  have HO1 : Hid (MsgO w0 w1 s { x with ask := { x.ask with shard := x1 } }) := Lib.hid (by
    have q := MsgO.upd HM.out.ls hu1 HM.out.two
    exact ⟨q.parts, q.reads, q.readAt, q.edits, q.editAt, q.rows, q.own, q.got, q.numbers, q.names⟩)
  clear hs1 hu1
  clear d0 d3 d4 dz
  obtain ⟨d0, d3, d4, dz⟩ := hr1.cells
  have H2 := Lib.hid (listR_read k rb m m (0 + 8) s1 bad _ _ _ _ _ w1 hr1 rfl)
  clear hr1
  go_wp2_with fail
  refine H2.out.mono ?_
  rintro e w2 ⟨rfl, x2, a2, c2, s2, hs2, _, _, hr2, ho2, hu2⟩
  clear d0 d3 d4 dz
  have HS2 := Lib.hid hs2
  have HU2 := Lib.hid (HU1.out.two hu2)
  have hr2 : RcAt k rb m m s2 bad (MS.cells { s with reads := (a2, c2) } { x with ask := { x.ask with shard := x1, reads := x2 } }) 43 w2 := hr2
  have HO2 : Hid (MsgO w0 w2 { s with reads := (a2, c2) } { x with ask := { x.ask with shard := x1, reads := x2 } }) := Lib.hid (by
    have q := MsgO.upd HO1.out hu2 HM.out.two
    exact ⟨q.parts, ho2.base (Nat.le_trans HM.out.le HU1.out.size), q.readAt, q.edits, q.editAt, q.rows, q.own, q.got, q.numbers, q.names⟩)
  clear hs2 hu2 ho2
  obtain ⟨d0, d3, d4, dz⟩ := hr2.cells
  have H3 := Lib.hid (listR_place k rb m m (0 + 9) s2 bad _ _ _ _ _ w2 hr2 rfl)
  clear hr2
  go_wp2_with fail
  refine H3.out.mono ?_
  rintro e w3 ⟨rfl, x3, a3, c3, s3, hs3, _, _, hr3, ho3, hu3⟩
  clear d0 d3 d4 dz
  have HS3 := Lib.hid hs3
  have HU3 := Lib.hid (HU2.out.two hu3)
  have hr3 : RcAt k rb m m s3 bad (MS.cells { s with reads := (a2, c2), readAt := (a3, c3) } { x with ask := { x.ask with shard := x1, reads := x2, readAt := x3 } }) 43 w3 := hr3
  have HO3 : Hid (MsgO w0 w3 { s with reads := (a2, c2), readAt := (a3, c3) } { x with ask := { x.ask with shard := x1, reads := x2, readAt := x3 } }) := Lib.hid (by
    have q := MsgO.upd HO2.out hu3 HM.out.two
    exact ⟨q.parts, q.reads, ho3.base (Nat.le_trans HM.out.le HU2.out.size), q.edits, q.editAt, q.rows, q.own, q.got, q.numbers, q.names⟩)
  clear hs3 hu3 ho3
  obtain ⟨d0, d3, d4, dz⟩ := hr3.cells
  have H4 := Lib.hid (listR_edit k rb m m (0 + 10) s3 bad _ _ _ _ _ w3 hr3 rfl)
  clear hr3
  go_wp2_with fail
  refine H4.out.mono ?_
  rintro e w4 ⟨rfl, x4, a4, c4, s4, hs4, _, _, hr4, ho4, hu4⟩
  clear d0 d3 d4 dz
  have HS4 := Lib.hid hs4
  have HU4 := Lib.hid (HU3.out.two hu4)
  have hr4 : RcAt k rb m m s4 bad (MS.cells { s with reads := (a2, c2), readAt := (a3, c3), edits := (a4, c4) } { x with ask := { x.ask with shard := x1, reads := x2, readAt := x3, edits := x4 } }) 43 w4 := hr4
  have HO4 : Hid (MsgO w0 w4 { s with reads := (a2, c2), readAt := (a3, c3), edits := (a4, c4) } { x with ask := { x.ask with shard := x1, reads := x2, readAt := x3, edits := x4 } }) := Lib.hid (by
    have q := MsgO.upd HO3.out hu4 HM.out.two
    exact ⟨q.parts, q.reads, q.readAt, ho4.base (Nat.le_trans HM.out.le HU3.out.size), q.editAt, q.rows, q.own, q.got, q.numbers, q.names⟩)
  clear hs4 hu4 ho4
  obtain ⟨d0, d3, d4, dz⟩ := hr4.cells
  have H5 := Lib.hid (listR_place k rb m m (0 + 11) s4 bad _ _ _ _ _ w4 hr4 rfl)
  clear hr4
  go_wp2_with fail
  refine H5.out.mono ?_
  rintro e w5 ⟨rfl, x5, a5, c5, s5, hs5, _, _, hr5, ho5, hu5⟩
  clear d0 d3 d4 dz
  have HS5 := Lib.hid hs5
  have HU5 := Lib.hid (HU4.out.two hu5)
  have hr5 : RcAt k rb m m s5 bad (MS.cells { s with reads := (a2, c2), readAt := (a3, c3), edits := (a4, c4), editAt := (a5, c5) } { x with ask := { x.ask with shard := x1, reads := x2, readAt := x3, edits := x4, editAt := x5 } }) 43 w5 := hr5
  have HO5 : Hid (MsgO w0 w5 { s with reads := (a2, c2), readAt := (a3, c3), edits := (a4, c4), editAt := (a5, c5) } { x with ask := { x.ask with shard := x1, reads := x2, readAt := x3, edits := x4, editAt := x5 } }) := Lib.hid (by
    have q := MsgO.upd HO4.out hu5 HM.out.two
    exact ⟨q.parts, q.reads, q.readAt, q.edits, ho5.base (Nat.le_trans HM.out.le HU4.out.size), q.rows, q.own, q.got, q.numbers, q.names⟩)
  clear hs5 hu5 ho5
  obtain ⟨d0, d3, d4, dz⟩ := hr5.cells
  have H6 := Lib.hid (truthR k rb m m (0 + 12) s5 bad _ _ w5 hr5 (Nat.le_of_ble_eq_true rfl))
  clear hr5
  go_wp2_with fail
  refine H6.out.mono ?_
  rintro e w6 ⟨rfl, x6, s6, hs6, hr6, hu6⟩
  clear d0 d3 d4 dz
  have HS6 := Lib.hid hs6
  have HU6 := Lib.hid (HU5.out.two hu6)
  have hr6 : RcAt k rb m m s6 bad (MS.cells { s with reads := (a2, c2), readAt := (a3, c3), edits := (a4, c4), editAt := (a5, c5) } { x with ask := { x.ask with shard := x1, reads := x2, readAt := x3, edits := x4, editAt := x5, list := x6 } }) 43 w6 := hr6
  have HO6 : Hid (MsgO w0 w6 { s with reads := (a2, c2), readAt := (a3, c3), edits := (a4, c4), editAt := (a5, c5) } { x with ask := { x.ask with shard := x1, reads := x2, readAt := x3, edits := x4, editAt := x5, list := x6 } }) := Lib.hid (by
    have q := MsgO.upd HO5.out hu6 HM.out.two
    exact ⟨q.parts, q.reads, q.readAt, q.edits, q.editAt, q.rows, q.own, q.got, q.numbers, q.names⟩)
  clear hs6 hu6
  obtain ⟨d0, d3, d4, dz⟩ := hr6.cells
  have H7 := Lib.hid (nameR k rb m m (0 + 13) s6 bad _ _ w6 hr6 (Nat.le_of_ble_eq_true rfl))
  clear hr6
  go_wp2_with fail
  refine H7.out.mono ?_
  rintro e w7 ⟨rfl, x7, s7, hs7, _, hr7, hu7⟩
  clear d0 d3 d4 dz
  have HS7 := Lib.hid hs7
  have HU7 := Lib.hid (HU6.out.two hu7)
  have hr7 : RcAt k rb m m s7 bad (MS.cells { s with reads := (a2, c2), readAt := (a3, c3), edits := (a4, c4), editAt := (a5, c5) } { x with ask := { x.ask with shard := x1, reads := x2, readAt := x3, edits := x4, editAt := x5, list := x6, pre := x7 } }) 43 w7 := hr7
  have HO7 : Hid (MsgO w0 w7 { s with reads := (a2, c2), readAt := (a3, c3), edits := (a4, c4), editAt := (a5, c5) } { x with ask := { x.ask with shard := x1, reads := x2, readAt := x3, edits := x4, editAt := x5, list := x6, pre := x7 } }) := Lib.hid (by
    have q := MsgO.upd HO6.out hu7 HM.out.two
    exact ⟨q.parts, q.reads, q.readAt, q.edits, q.editAt, q.rows, q.own, q.got, q.numbers, q.names⟩)
  clear hs7 hu7
  obtain ⟨d0, d3, d4, dz⟩ := hr7.cells
  have H8 := Lib.hid (truthR k rb m m (0 + 14) s7 bad _ _ w7 hr7 (Nat.le_of_ble_eq_true rfl))
  clear hr7
  go_wp2_with fail
  refine H8.out.mono ?_
  rintro e w8 ⟨rfl, x8, s8, hs8, hr8, hu8⟩
  clear d0 d3 d4 dz
  have HS8 := Lib.hid hs8
  have HU8 := Lib.hid (HU7.out.two hu8)
  have hr8 : RcAt k rb m m s8 bad (MS.cells { s with reads := (a2, c2), readAt := (a3, c3), edits := (a4, c4), editAt := (a5, c5) } { x with ask := { x.ask with shard := x1, reads := x2, readAt := x3, edits := x4, editAt := x5, list := x6, pre := x7, give := x8 } }) 43 w8 := hr8
  have HO8 : Hid (MsgO w0 w8 { s with reads := (a2, c2), readAt := (a3, c3), edits := (a4, c4), editAt := (a5, c5) } { x with ask := { x.ask with shard := x1, reads := x2, readAt := x3, edits := x4, editAt := x5, list := x6, pre := x7, give := x8 } }) := Lib.hid (by
    have q := MsgO.upd HO7.out hu8 HM.out.two
    exact ⟨q.parts, q.reads, q.readAt, q.edits, q.editAt, q.rows, q.own, q.got, q.numbers, q.names⟩)
  clear hs8 hu8
  obtain ⟨d0, d3, d4, dz⟩ := hr8.cells
  have H9 := Lib.hid (truthR k rb m m (0 + 15) s8 bad _ _ w8 hr8 (Nat.le_of_ble_eq_true rfl))
  clear hr8
  go_wp2_with fail
  refine H9.out.mono ?_
  rintro e w9 ⟨rfl, x9, s9, hs9, hr9, hu9⟩
  clear d0 d3 d4 dz
  have HS9 := Lib.hid hs9
  have HU9 := Lib.hid (HU8.out.two hu9)
  have hr9 : RcAt k rb m m s9 bad (MS.cells { s with reads := (a2, c2), readAt := (a3, c3), edits := (a4, c4), editAt := (a5, c5) } { x with ask := { x.ask with shard := x1, reads := x2, readAt := x3, edits := x4, editAt := x5, list := x6, pre := x7, give := x8, take := x9 } }) 43 w9 := hr9
  have HO9 : Hid (MsgO w0 w9 { s with reads := (a2, c2), readAt := (a3, c3), edits := (a4, c4), editAt := (a5, c5) } { x with ask := { x.ask with shard := x1, reads := x2, readAt := x3, edits := x4, editAt := x5, list := x6, pre := x7, give := x8, take := x9 } }) := Lib.hid (by
    have q := MsgO.upd HO8.out hu9 HM.out.two
    exact ⟨q.parts, q.reads, q.readAt, q.edits, q.editAt, q.rows, q.own, q.got, q.numbers, q.names⟩)
  clear hs9 hu9
  obtain ⟨d0, d3, d4, dz⟩ := hr9.cells
  have H10 := Lib.hid (spanR k rb m m (0 + 16) s9 bad _ _ w9 hr9 (Nat.le_of_ble_eq_true rfl))
  clear hr9
  go_wp2_with fail
  refine H10.out.mono ?_
  rintro e w10 ⟨rfl, x10, s10, hs10, _, hr10, hu10⟩
  clear d0 d3 d4 dz
  have HS10 := Lib.hid hs10
  have HU10 := Lib.hid (HU9.out.two hu10)
  have hr10 : RcAt k rb m m s10 bad (MS.cells { s with reads := (a2, c2), readAt := (a3, c3), edits := (a4, c4), editAt := (a5, c5) } { x with ask := { x.ask with shard := x1, reads := x2, readAt := x3, edits := x4, editAt := x5, list := x6, pre := x7, give := x8, take := x9, range := x10 } }) 43 w10 := hr10
  have HO10 : Hid (MsgO w0 w10 { s with reads := (a2, c2), readAt := (a3, c3), edits := (a4, c4), editAt := (a5, c5) } { x with ask := { x.ask with shard := x1, reads := x2, readAt := x3, edits := x4, editAt := x5, list := x6, pre := x7, give := x8, take := x9, range := x10 } }) := Lib.hid (by
    have q := MsgO.upd HO9.out hu10 HM.out.two
    exact ⟨q.parts, q.reads, q.readAt, q.edits, q.editAt, q.rows, q.own, q.got, q.numbers, q.names⟩)
  clear hs10 hu10
  have HR := Lib.hid hr10
  clear hr10
  go_wp2_with fail
  exact bodyPost_end (v := .tuple #[]) (by simp [results, Tryz.results85, go_sem]) rfl ⟨rfl, ⟨x1, x2, x3, x4, x5, x6, x7, x8, x9, x10⟩, s10, { s with reads := (a2, c2), readAt := (a3, c3), edits := (a4, c4), editAt := (a5, c5) }, Step.isoD (Step.seqD HS1.out (Step.seqD HS2.out (Step.seqD HS3.out (Step.seqD HS4.out (Step.seqD HS5.out (Step.seqD HS6.out (Step.seqD HS7.out (Step.seqD HS8.out (Step.seqD HS9.out (HS10.out)))))))))), ⟨HR.out, HO10.out, HM.out.kl, HM.out.rl, HM.out.ml, Nat.le_trans HM.out.le HU10.out.size⟩, HU10.out⟩

set_option maxRecDepth 20000 in
set_option maxHeartbeats 4000000 in
theorem toldM (w0 : World) (k rb m : Nat) (st : Option (List UInt8)) (bad : Bool) (s : MS) (x : Mg.Msg) (w : World) (h : RM w0 k rb m st bad s x w) :
    Calls Tryz.prog 90 #[.pointer (some ⟨k, 0, none⟩)] w fun e w' => e = .returned (.tuple #[]) ∧ ∃ (v : Mg.Told) (st' : Option (List UInt8)) (s' : MS), Step Mg.cTold.dec st v st' ∧ RM w0 k rb m st' bad s' { x with told := { x.told with shard := v.shard, got := v.got, numbers := v.numbers, names := v.names } } w' ∧ Upd w w' [rb, m] := by
  have HM := Lib.hid h
  obtain ⟨d0, d3, d4, dz⟩ := h.rc.cells
  have H1 := Lib.hid (numR_u32 k rb m m (0 + 23) st bad _ _ 4294967295 w h.rc (Nat.le_of_ble_eq_true rfl) (by decide))
  clear h
  go_enter Tryz.func90, Tryz.ntmps90
  go_wp2_with fail
  refine H1.out.mono ?_
  rintro e w1 ⟨rfl, x1, s1, hs1, _, hr1, hu1⟩
  have HS1 := Lib.hid hs1
  have HU1 := Lib.hid hu1
  have hr1 : RcAt k rb m m s1 bad (MS.cells s { x with told := { x.told with shard := x1 } }) 43 w1 := hr1
  have HO1 : Hid (MsgO w0 w1 s { x with told := { x.told with shard := x1 } }) := Lib.hid (by
    have q := MsgO.upd HM.out.ls hu1 HM.out.two
    exact ⟨q.parts, q.reads, q.readAt, q.edits, q.editAt, q.rows, q.own, q.got, q.numbers, q.names⟩)
  clear hs1 hu1
  clear d0 d3 d4 dz
  obtain ⟨d0, d3, d4, dz⟩ := hr1.cells
  have H2 := Lib.hid (listR_got k rb m m (0 + 24) s1 bad _ _ _ _ _ w1 hr1 rfl)
  clear hr1
  go_wp2_with fail
  refine H2.out.mono ?_
  rintro e w2 ⟨rfl, x2, a2, c2, s2, hs2, _, _, hr2, ho2, hu2⟩
  clear d0 d3 d4 dz
  have HS2 := Lib.hid hs2
  have HU2 := Lib.hid (HU1.out.two hu2)
  have hr2 : RcAt k rb m m s2 bad (MS.cells { s with got := (a2, c2) } { x with told := { x.told with shard := x1, got := x2 } }) 43 w2 := hr2
  have HO2 : Hid (MsgO w0 w2 { s with got := (a2, c2) } { x with told := { x.told with shard := x1, got := x2 } }) := Lib.hid (by
    have q := MsgO.upd HO1.out hu2 HM.out.two
    exact ⟨q.parts, q.reads, q.readAt, q.edits, q.editAt, q.rows, q.own, ho2.base (Nat.le_trans HM.out.le HU1.out.size), q.numbers, q.names⟩)
  clear hs2 hu2 ho2
  obtain ⟨d0, d3, d4, dz⟩ := hr2.cells
  have H3 := Lib.hid (listR_number k rb m m (0 + 25) s2 bad _ _ _ _ _ w2 hr2 rfl)
  clear hr2
  go_wp2_with fail
  refine H3.out.mono ?_
  rintro e w3 ⟨rfl, x3, a3, c3, s3, hs3, _, _, hr3, ho3, hu3⟩
  clear d0 d3 d4 dz
  have HS3 := Lib.hid hs3
  have HU3 := Lib.hid (HU2.out.two hu3)
  have hr3 : RcAt k rb m m s3 bad (MS.cells { s with got := (a2, c2), numbers := (a3, c3) } { x with told := { x.told with shard := x1, got := x2, numbers := x3 } }) 43 w3 := hr3
  have HO3 : Hid (MsgO w0 w3 { s with got := (a2, c2), numbers := (a3, c3) } { x with told := { x.told with shard := x1, got := x2, numbers := x3 } }) := Lib.hid (by
    have q := MsgO.upd HO2.out hu3 HM.out.two
    exact ⟨q.parts, q.reads, q.readAt, q.edits, q.editAt, q.rows, q.own, q.got, ho3.base (Nat.le_trans HM.out.le HU2.out.size), q.names⟩)
  clear hs3 hu3 ho3
  obtain ⟨d0, d3, d4, dz⟩ := hr3.cells
  have H4 := Lib.hid (listR_name k rb m m (0 + 26) s3 bad _ _ _ _ _ w3 hr3 rfl)
  clear hr3
  go_wp2_with fail
  refine H4.out.mono ?_
  rintro e w4 ⟨rfl, x4, a4, c4, s4, hs4, _, _, hr4, ho4, hu4⟩
  clear d0 d3 d4 dz
  have HS4 := Lib.hid hs4
  have HU4 := Lib.hid (HU3.out.two hu4)
  have hr4 : RcAt k rb m m s4 bad (MS.cells { s with got := (a2, c2), numbers := (a3, c3), names := (a4, c4) } { x with told := { x.told with shard := x1, got := x2, numbers := x3, names := x4 } }) 43 w4 := hr4
  have HO4 : Hid (MsgO w0 w4 { s with got := (a2, c2), numbers := (a3, c3), names := (a4, c4) } { x with told := { x.told with shard := x1, got := x2, numbers := x3, names := x4 } }) := Lib.hid (by
    have q := MsgO.upd HO3.out hu4 HM.out.two
    exact ⟨q.parts, q.reads, q.readAt, q.edits, q.editAt, q.rows, q.own, q.got, q.numbers, ho4.base (Nat.le_trans HM.out.le HU3.out.size)⟩)
  clear hs4 hu4 ho4
  have HR := Lib.hid hr4
  clear hr4
  go_wp2_with fail
  exact bodyPost_end (v := .tuple #[]) (by simp [results, Tryz.results90, go_sem]) rfl ⟨rfl, ⟨x1, x2, x3, x4⟩, s4, { s with got := (a2, c2), numbers := (a3, c3), names := (a4, c4) }, Step.isoD (Step.seqD HS1.out (Step.seqD HS2.out (Step.seqD HS3.out (HS4.out)))), ⟨HR.out, HO4.out, HM.out.kl, HM.out.rl, HM.out.ml, Nat.le_trans HM.out.le HU4.out.size⟩, HU4.out⟩

end Go.Proofs.YtjgnomjjphkfbaaGreat

namespace Go.Proofs.YtjgnomjjphkfbaaGreat
open Go.RowKit

section
variable {w0 w w' : World} {k rb m : Nat} {st : Option (List UInt8)} {bad : Bool} {s : MS} {x : Mg.Msg}
theorem RM.keep (h : RM w0 k rb m st bad s x w) (hb : Below w.heap.size w w') : RM w0 k rb m st bad s x w' :=
  ⟨h.rc.keep hb, h.ls.upd (Upd.of_below [] hb) (by simp), h.kl, h.rl, h.ml, Nat.le_trans h.le hb.size⟩
theorem RcAt.badSet {g : Nat} {cs : List Value} {t : TypeId} (h : RcAt k rb m g st bad cs t w) (b : Bool) : RcAt k rb m g st b cs t (w.setCell ⟨k, 3, none⟩ (.bool b)) :=
  ⟨by rw [heap_set _ h.cd]; rfl, h.rd.keep (heap_setCell_other _ _ _ _ (fun e => h.kr e.symm)), (heap_setCell_other _ _ _ _ h.gk).trans h.blk, h.gk, h.gr, h.kr⟩
theorem RM.badSet (h : RM w0 k rb m st bad s x w) (b : Bool) : RM w0 k rb m st b s x (w.setCell ⟨k, 3, none⟩ (.bool b)) ∧ Upd w (w.setCell ⟨k, 3, none⟩ (.bool b)) [rb, m, k] := by
  have hu : Upd w (w.setCell ⟨k, 3, none⟩ (.bool b)) [rb, m, k] := (Upd.refl w _).setCell (.inl (by simp)) _
  refine ⟨⟨h.rc.badSet b, h.ls.upd hu (fun c hc => ?_), h.kl, h.rl, h.ml, Nat.le_trans h.le hu.size⟩, hu⟩
  simp at hc
  rcases hc with rfl | rfl | rfl
  · exact h.rl
  · exact h.ml
  · exact h.kl
end

set_option maxRecDepth 20000 in
set_option maxHeartbeats 4000000 in
theorem stateM (w0 : World) (k rb m : Nat) (st : Option (List UInt8)) (bad : Bool) (s : MS) (x : Mg.Msg) (w : World) (h : RM w0 k rb m st bad s x w) :
    Calls Tryz.prog 91 #[.pointer (some ⟨k, 0, none⟩)] w fun e w' => e = .returned (.tuple #[]) ∧ ∃ (v : Nat) (st' : Option (List UInt8)), Step (Mg.num 3).dec st v st' ∧ RM w0 k rb m st' (bad || !decide (1 ≤ v)) s { x with state := v } w' ∧ Upd w w' [rb, m, k] := by
  have HM := Lib.hid h
  obtain ⟨d0, d3, d4, dz⟩ := h.rc.cells
  have H1 := Lib.hid (numR_u8 k rb m m (0 + 27) st bad _ _ 3 w h.rc (Nat.le_of_ble_eq_true rfl) (by decide))
  clear h
  go_enter Tryz.func91, Tryz.ntmps91
  go_wp2_with fail
  refine H1.out.mono ?_
  rintro e w1 ⟨rfl, x1, s1, hs1, hx1, hr1, hu1⟩
  have HS1 := Lib.hid hs1
  have HM1 : RM w0 k rb m s1 bad s { x with state := x1 } w1 := ⟨hr1, by
    have q := HM.out.ls.upd hu1 HM.out.two
    exact ⟨q.parts, q.reads, q.readAt, q.edits, q.editAt, q.rows, q.own, q.got, q.numbers, q.names⟩, HM.out.kl, HM.out.rl, HM.out.ml, Nat.le_trans HM.out.le hu1.size⟩
  clear d0 d3 d4 dz
  obtain ⟨d0, d3, d4, dz⟩ := HM1.rc.cells
  have c0 : w1.cell? ⟨m, 0 + 27, none⟩ = some (.int .u8 (x1 : Int)) := HM1.cell 27 rfl
  obtain ⟨b, hb⟩ : ∃ b : Bool, b = (bad || !decide (1 ≤ x1)) := ⟨_, rfl⟩
  obtain ⟨hm2, hu2⟩ := HM1.badSet b
  have HM2 := Lib.hid hm2
  have HU : Hid (Upd w (w1.setCell ⟨k, 3, none⟩ (.bool b)) [rb, m, k]) := Lib.hid ((hu1.mono (by intro y hy; simp at hy; rcases hy with rfl | rfl <;> simp)).two hu2)
  have HB := Lib.hid hb
  have hxI : (0 : Int) ≤ x1 ∧ (x1 : Int) ≤ 3 := by omega
  have hpre : decide ((x1 : Int) < 1) = !decide (1 ≤ x1) := by
    by_cases hh : 1 ≤ x1
    · rw [decide_eq_true hh, decide_eq_false (by omega)]; rfl
    · rw [decide_eq_false hh, decide_eq_true (by omega)]; rfl
  clear hs1 hr1 hu1 HM1 hm2 hu2 hx1
  cases bad with
  | true =>
    rw [Bool.true_or] at hb
    subst hb
    clear hpre
    go_wp2_with fail
    refine bodyPost_end (v := .tuple #[]) (by simp [results, Tryz.results91, go_sem]) rfl ⟨rfl, x1, s1, HS1.out, ?_, HU.out⟩
    rw [← HB.out]
    exact HM2.out
  | false =>
    rw [Bool.false_or] at hb
    rw [← hb] at hpre
    clear hb
    go_wp2_with fail
    refine bodyPost_end (v := .tuple #[]) (by simp [results, Tryz.results91, go_sem]) rfl ⟨rfl, x1, s1, HS1.out, ?_, HU.out⟩
    rw [← HB.out]
    exact HM2.out

set_option maxRecDepth 20000 in
set_option maxHeartbeats 4000000 in
theorem headM (w0 : World) (k rb m : Nat) (st : Option (List UInt8)) (bad : Bool) (s : MS) (x : Mg.Msg) (w : World) (h : RM w0 k rb m st bad s x w) :
    Calls Tryz.prog 84 #[.pointer (some ⟨k, 0, none⟩)] w fun e w' => e = .returned (.tuple #[]) ∧ ∃ (v : Nat × List Nat) (st' : Option (List UInt8)) (s' : MS), Step Mg.cHead.dec st v st' ∧ RM w0 k rb m st' bad s' { x with map := v.1, parts := v.2 } w' ∧ Upd w w' [rb, m] := by
  obtain ⟨wb, hwb⟩ : ∃ wb, wb = w.alloc (.cells #[.pointer (some ⟨k, 0, none⟩)] 111 (0, 0)) := ⟨_, rfl⟩
  have hb0 : Below w.heap.size w wb := by rw [hwb]; exact ((Own.refl w).alloc _).below
  have hx0 : wb.heap[w.heap.size]? = some (.cells #[.pointer (some ⟨k, 0, none⟩)] 111 (0, 0)) := by rw [hwb]; exact heap_alloc_new w _
  have HBX : Hid (CellT wb w.heap.size 0 (.pointer (some ⟨k, 0, none⟩))) := Lib.hid ⟨_, _, _, hx0, rfl, by decide, by decide⟩
  have HM := Lib.hid ((h.keep hb0).keep (Own.refl wb).drew.below)
  have HU0 : Hid (Upd w wb.drew [rb, m]) := Lib.hid (Upd.of_below _ (hb0.trans ((Own.refl wb).drew.below.mono hb0.size)))
  have HNE : Hid (w.heap.size ≠ rb ∧ w.heap.size ≠ m) := Lib.hid (by
    have h1 := h.rl; have h2 := h.ml; have h3 := h.le
    omega)
  have HW0 := Lib.hid hwb
  have H1 := Lib.hid (numR_u64 k rb m m (0 + 5) st bad _ _ 18446744073709551615 wb.drew HM.out.rc (Nat.le_of_ble_eq_true rfl) (by decide))
  clear h hb0 hx0 hwb
  go_enter Tryz.func84, Tryz.ntmps84
  go_upto_region 1 with (fail)
  rw [← HW0.out]
  clear HW0
  generalize w.heap.size = bx at *
  have hS0 : wb.drew.cell? ⟨bx, 0, none⟩ = some (.pointer (some ⟨k, 0, none⟩)) ∧ wb.drew.cell? ⟨k, 4, none⟩ = some (.pointer (some ⟨m, 0, none⟩)) := ⟨HBX.out.cell, HM.out.rc.cells.2.2.1⟩
  go_region_held3 (fun wz => wz.cell? ⟨bx, 0, none⟩ = some (.pointer (some ⟨k, 0, none⟩)) ∧ wz.cell? ⟨k, 4, none⟩ = some (.pointer (some ⟨m, 0, none⟩)))
    (first | exact hS0 | exact hS1 | fail)
    (first
    | (go_at_call 105
       (refine H1.out.mono ?_)
       rintro e w1 ⟨rfl, x1, s1, hs1, _, hr1, hu1⟩
       have HS1 := Lib.hid hs1
       have HU1 := Lib.hid (HU0.out.two hu1)
       have HUB := Lib.hid hu1
       have HR1 := Lib.hid hr1
       have hS1 : w1.cell? ⟨bx, 0, none⟩ = some (.pointer (some ⟨k, 0, none⟩)) ∧ w1.cell? ⟨k, 4, none⟩ = some (.pointer (some ⟨m, 0, none⟩)) := ⟨(HBX.out.updF ((Upd.refl wb [rb, m]).drew.two hu1) (by simp; exact HNE.out)).cell, hr1.cells.2.2.1⟩
       clear hs1 hr1 hu1))
  have HM1 : Hid (RM w0 k rb m s1 bad s { x with map := x1 } w1.drew) := Lib.hid (RM.keep ⟨HR1.out, by
    have q := HM.out.ls.upd HUB.out HM.out.two
    exact ⟨q.parts, q.reads, q.readAt, q.edits, q.editAt, q.rows, q.own, q.got, q.numbers, q.names⟩, HM.out.kl, HM.out.rl, HM.out.ml, Nat.le_trans HM.out.le HUB.out.size⟩ (Own.refl w1).drew.below)
  have H2 := Lib.hid (listR_shard k rb m m (0 + 6) bx s1 bad _ _ _ _ _ w1.drew HM1.out.rc ((HBX.out.updF ((Upd.refl wb [rb, m]).drew.two HUB.out) (by simp; exact HNE.out)).updF (Upd.refl w1 []).drew (by simp)) HNE.out.1 HNE.out.2 rfl)
  have hS2 : w1.drew.cell? ⟨bx, 0, none⟩ = some (.pointer (some ⟨k, 0, none⟩)) ∧ w1.drew.cell? ⟨k, 4, none⟩ = some (.pointer (some ⟨m, 0, none⟩)) := hS1
  have HUC := HUB
  clear hS0 HR1 HUB
  go_upto_region 2 with (fail)
  go_region_held3 (fun wz => wz.cell? ⟨bx, 0, none⟩ = some (.pointer (some ⟨k, 0, none⟩)) ∧ wz.cell? ⟨k, 4, none⟩ = some (.pointer (some ⟨m, 0, none⟩)))
    (first | exact hS2 | exact hS3 | fail)
    (first
    | (go_at_call 106
       (refine H2.out.mono ?_)
       rintro e w2 ⟨rfl, x2, a2, c2, s2, hs2, _, _, hr2, ho2, hu2⟩
       have HS2 := Lib.hid hs2
       have HM2 : Hid (RM w0 k rb m s2 bad { s with parts := (a2, c2) } { x with map := x1, parts := x2 } w2) := Lib.hid ⟨hr2, by
         have q := HM1.out.ls.upd hu2 HM1.out.two
         exact ⟨ho2.base HM1.out.le, q.reads, q.readAt, q.edits, q.editAt, q.rows, q.own, q.got, q.numbers, q.names⟩, HM.out.kl, HM.out.rl, HM.out.ml, Nat.le_trans HM1.out.le hu2.size⟩
       have HU2 := Lib.hid (HU1.out.drew.two hu2)
       have hS3 : w2.cell? ⟨bx, 0, none⟩ = some (.pointer (some ⟨k, 0, none⟩)) ∧ w2.cell? ⟨k, 4, none⟩ = some (.pointer (some ⟨m, 0, none⟩)) := ⟨(((HBX.out.updF ((Upd.refl wb [rb, m]).drew.two HUC.out) (by simp; exact HNE.out)).updF (Upd.refl w1 []).drew (by simp)).updF hu2 (by simp; exact HNE.out)).cell, hr2.cells.2.2.1⟩
       clear hs2 hr2 ho2 hu2))
  go_wp2_with fail
  exact bodyPost_end (v := .tuple #[]) (by simp [results, Tryz.results84, go_sem]) rfl ⟨rfl, (x1, x2), s2, _, Step.seqD HS1.out HS2.out, HM2.out, HU2.out⟩

end Go.Proofs.YtjgnomjjphkfbaaGreat

namespace Go.Proofs.YtjgnomjjphkfbaaGreat
open Go.RowKit

namespace Mg
/-- A number of a transaction that may not be. -/
def b0 (t : Tx) : Bool := !decide (1 ≤ t.life ∧ 1 ≤ t.n)
def PreR (st0 : Option (List UInt8)) (kind : Nat) (t : Tx) (sta : Option (List UInt8)) : Prop := ∃ st1, Step (num 255).dec st0 kind st1 ∧ Step cTx.dec st1 t sta
/-- What the parts of a kind have read, part by part. -/
def QR (t : Tx) (sta st : Option (List UInt8)) (x : Msg) (b : Bool) : Nat → Nat → Prop
  | 1, 1 => ∃ low, Step cTx.dec sta low st ∧ x = { msg0 with kind := 1, tx := t, low := low } ∧ b = b0 t
  | 1, 2 => ∃ low s1 hd, Step cTx.dec sta low s1 ∧ Step cHead.dec s1 hd st ∧ x = { msg0 with kind := 1, tx := t, low := low, map := hd.1, parts := hd.2 } ∧ b = b0 t
  | 1, 3 => ∃ low s1 hd s2 ask, Step cTx.dec sta low s1 ∧ Step cHead.dec s1 hd s2 ∧ Step cAsk.dec s2 ask st ∧ x = { msg0 with kind := 1, tx := t, low := low, map := hd.1, parts := hd.2, ask := ask } ∧ b = b0 t
  | 1, 4 => ∃ low s1 hd s2 ask s3 rows, Step cTx.dec sta low s1 ∧ Step cHead.dec s1 hd s2 ∧ Step cAsk.dec s2 ask s3 ∧ Step (list 512 cRow).dec s3 rows st ∧ x = { msg0 with kind := 1, tx := t, low := low, map := hd.1, parts := hd.2, ask := ask, rows := rows } ∧ b = b0 t
  | 1, 5 => ∃ v, Step c1.dec sta v st ∧ x = { msg0 with kind := 1, tx := t, low := v.1, map := v.2.1.1, parts := v.2.1.2, ask := v.2.2.1, rows := v.2.2.2.1, next := v.2.2.2.2.1, own := v.2.2.2.2.2 } ∧ b = b0 t
  | 2, 1 => ∃ rows, Step (list 512 cRow).dec sta rows st ∧ x = { msg0 with kind := 2, tx := t, rows := rows } ∧ b = b0 t
  | 2, 2 => ∃ rows s1 c, Step (list 512 cRow).dec sta rows s1 ∧ Step truth.dec s1 c st ∧ x = { msg0 with kind := 2, tx := t, rows := rows, commit := c } ∧ b = b0 t
  | 2, 3 => ∃ rows s1 c s2 e, Step (list 512 cRow).dec sta rows s1 ∧ Step truth.dec s1 c s2 ∧ Step (int 9999).dec s2 e st ∧ x = { msg0 with kind := 2, tx := t, rows := rows, commit := c, err := e } ∧ b = b0 t
  | 2, 4 => ∃ v, Step c2.dec sta v st ∧ x = { msg0 with kind := 2, tx := t, rows := v.1, commit := v.2.1, err := v.2.2.1, told := v.2.2.2 } ∧ b = b0 t
  | 3, 1 => ∃ low, Step cTx.dec sta low st ∧ x = { msg0 with kind := 3, tx := t, low := low } ∧ b = b0 t
  | 3, 2 => ∃ v, Step c3.dec sta v st ∧ x = { msg0 with kind := 3, tx := t, low := v.1, commit := v.2 } ∧ b = b0 t
  | 6, 1 => ∃ low, Step cTx.dec sta low st ∧ x = { msg0 with kind := 6, tx := t, low := low } ∧ b = b0 t
  | 6, 2 => ∃ v, Step c6.dec sta v st ∧ x = { msg0 with kind := 6, tx := t, low := v.1, state := v.2 } ∧ b = (b0 t || !decide (1 ≤ v.2))
  | kind, 0 => st = sta ∧ x = { msg0 with kind := kind, tx := t } ∧ b = b0 t
  | _, _ => False
/-- What reading a message has come to. -/
def Fin (st0 st : Option (List UInt8)) (x : Msg) (b : Bool) : Prop := match st0.bind decP with
  | some p => st = some p.2 ∧ x = p.1 ∧ b = false
  | none => st = none ∨ b = true
def Body (sta st : Option (List UInt8)) (kind : Nat) (t : Tx) (x : Msg) (b : Bool) : Prop := match sta.bind (decB kind t) with
  | some p => st = some p.2 ∧ x = p.1 ∧ b = b0 t
  | none => (st = none ∨ b = true) ∧ (b0 t = true → b = true)
theorem fin_of {st0 sta st : Option (List UInt8)} {kind : Nat} {t : Tx} {x : Msg} {b : Bool} (hk : known kind = true) (hp : PreR st0 kind t sta) (hb : Body sta st kind t x b) : Fin st0 st x b := by
  have hk : 1 ≤ kind ∧ kind ≤ 6 := of_decide_eq_true hk
  obtain ⟨st1, h1, h2⟩ := hp
  unfold Fin
  cases st0 with
  | none =>
    cases h1.off
    cases h2.off
    exact hb.1
  | some r0 =>
    simp only [Option.bind_some]
    cases st1 with
    | none =>
      cases h2.off
      unfold decP
      rw [h1.fails]
      exact hb.1
    | some r1 =>
      obtain ⟨r, e, hd⟩ := h1.got
      cases e
      unfold decP
      rw [hd]
      simp only [hk, and_self, if_true]
      cases sta with
      | none =>
        rw [h2.fails]
        exact hb.1
      | some r2 =>
        obtain ⟨r, e, hd2⟩ := h2.got
        cases e
        rw [hd2]
        simp only
        unfold Body at hb
        simp only [Option.bind_some] at hb
        by_cases hl : 1 ≤ t.life ∧ 1 ≤ t.n
        · rw [if_pos hl]
          have e0 : b0 t = false := by unfold b0; rw [decide_eq_true hl]; rfl
          rw [e0] at hb
          cases hdb : decB kind t r2 with
          | none => rw [hdb] at hb; exact hb.1
          | some p => rw [hdb] at hb; exact hb
        · rw [if_neg hl]
          have e0 : b0 t = true := by unfold b0; rw [decide_eq_false hl]; rfl
          simp only
          cases hdb : decB kind t r2 with
          | none => rw [hdb] at hb; exact .inr (hb.2 e0)
          | some p => rw [hdb] at hb; exact .inr (hb.2.2.trans e0)
theorem body_map {α : Type} {c : Codec α} {sta st : Option (List UInt8)} {v : α} {kind : Nat} {t : Tx} {x : Msg} (f : α → Msg) (hd : ∀ r, decB kind t r = (c.dec r).map fun p => (f p.1, p.2)) (hs : Step c.dec sta v st) (hx : x = f v) : Body sta st kind t x (b0 t) := by
  unfold Body
  cases sta with
  | none => cases hs.off; exact ⟨.inl rfl, fun h => h⟩
  | some r =>
    simp only [Option.bind_some]
    rw [hd]
    cases st with
    | none => rw [hs.fails]; exact ⟨.inl rfl, fun h => h⟩
    | some r' =>
      obtain ⟨r1, e, h1⟩ := hs.got
      cases e
      rw [h1]
      exact ⟨rfl, hx, by trivial⟩
theorem fin_known {st0 sta st : Option (List UInt8)} {kind : Nat} {t : Tx} {x : Msg} {b : Bool} (hk : known kind = true) (hp : PreR st0 kind t sta) (hq : QR t sta st x b kind (partsOf kind).length) : Fin st0 st x b := by
  refine fin_of hk hp ?_
  rcases known_cases hk with rfl | rfl | rfl | rfl | rfl | rfl
  · obtain ⟨v, hs, rfl, rfl⟩ := hq
    exact body_map (c := c1) (fun v => { msg0 with kind := 1, tx := t, low := v.1, map := v.2.1.1, parts := v.2.1.2, ask := v.2.2.1, rows := v.2.2.2.1, next := v.2.2.2.2.1, own := v.2.2.2.2.2 }) (fun r => by unfold decB; rw [if_pos rfl]) hs rfl
  · obtain ⟨v, hs, rfl, rfl⟩ := hq
    exact body_map (c := c2) (fun v => { msg0 with kind := 2, tx := t, rows := v.1, commit := v.2.1, err := v.2.2.1, told := v.2.2.2 }) (fun r => by unfold decB; rw [if_neg (by decide), if_pos rfl]) hs rfl
  · obtain ⟨v, hs, rfl, rfl⟩ := hq
    exact body_map (c := c3) (fun v => { msg0 with kind := 3, tx := t, low := v.1, commit := v.2 }) (fun r => by unfold decB; rw [if_neg (by decide), if_neg (by decide), if_pos rfl]) hs rfl
  · obtain ⟨rfl, rfl, rfl⟩ := hq
    exact body_map (c := nothing) (v := ()) (fun _ => { msg0 with kind := 4, tx := t }) (fun r => by unfold decB; rw [if_neg (by decide), if_neg (by decide), if_neg (by decide), if_neg (by decide)]; rfl) (by cases st <;> first | rfl | exact ⟨rfl, rfl⟩) rfl
  · obtain ⟨rfl, rfl, rfl⟩ := hq
    exact body_map (c := nothing) (v := ()) (fun _ => { msg0 with kind := 5, tx := t }) (fun r => by unfold decB; rw [if_neg (by decide), if_neg (by decide), if_neg (by decide), if_neg (by decide)]; rfl) (by cases st <;> first | rfl | exact ⟨rfl, rfl⟩) rfl
  · obtain ⟨v, hs, rfl, rfl⟩ := hq
    unfold Body
    cases sta with
    | none => cases hs.off; exact ⟨.inl rfl, fun h => by rw [h]; rfl⟩
    | some r =>
      simp only [Option.bind_some]
      unfold decB
      rw [if_neg (by decide), if_neg (by decide), if_neg (by decide), if_pos rfl]
      cases st with
      | none => rw [hs.fails]; exact ⟨.inl rfl, fun h => by rw [h]; rfl⟩
      | some r' =>
        obtain ⟨r1, e, h1⟩ := hs.got
        cases e
        rw [h1]
        simp only [Option.bind_some]
        by_cases h1 : 1 ≤ v.2
        · rw [if_pos h1, decide_eq_true h1]
          exact ⟨rfl, rfl, by simp⟩
        · rw [if_neg h1, decide_eq_false h1]
          exact ⟨.inr (by simp), fun _ => by simp⟩
theorem fin_unknown {st0 st1 : Option (List UInt8)} {kind : Nat} (hk : known kind = false) (h1 : Step (num 255).dec st0 kind st1) (st : Option (List UInt8)) (x : Msg) : Fin st0 st x true := by
  have hk : ¬ (1 ≤ kind ∧ kind ≤ 6) := of_decide_eq_false hk
  unfold Fin
  cases st0 with
  | none => exact .inr (by trivial)
  | some r0 =>
    simp only [Option.bind_some]
    unfold decP
    cases st1 with
    | none => rw [h1.fails]; exact .inr (by trivial)
    | some r1 =>
      obtain ⟨r, e, hd⟩ := h1.got
      cases e
      rw [hd]
      simp only [hk, if_false]
      exact .inr (by trivial)
end Mg

section
variable {w0 w w' : World} {k rb m : Nat} {st : Option (List UInt8)} {bad : Bool} {s : MS} {x : Mg.Msg}
theorem RM.keepFn3 (h : RM w0 k rb m st bad s x w) (hu : Upd w w' [rb, m, k]) : KeepFn w w' := by
  intro g cs hg
  refine (hu.keep g (blk_lt hg) ?_).trans hg
  simp only [List.mem_cons, List.not_mem_nil, or_false, not_or]
  refine ⟨fun e => ?_, fun e => ?_, fun e => ?_⟩
  · subst e
    obtain ⟨s, e, h1, _⟩ := h.rc.rd
    unfold RdIs at h1
    rw [h1] at hg
    injection hg with hg
    injection hg with _ ht
    exact absurd ht (by decide)
  · subst e
    rw [h.rc.blk] at hg
    injection hg with hg
    injection hg with _ ht
    exact absurd ht (by decide)
  · subst e
    rw [h.rc.cd] at hg
    injection hg with hg
    injection hg with _ ht
    exact absurd ht (by decide)
/-- A part has been read. -/
def JR (w0 : World) (k rb m : Nat) (st0 : Option (List UInt8)) (w : World) (kind i : Nat) (w' : World) : Prop :=
  ∃ (t : Mg.Tx) (sta st : Option (List UInt8)) (s : MS) (x : Mg.Msg) (b : Bool), Mg.PreR st0 kind t sta ∧ Mg.QR t sta st x b kind i ∧ RM w0 k rb m st b s x w' ∧ Upd w w' [rb, m, k]
theorem up3 (hu : Upd w w' [rb, m]) : Upd w w' [rb, m, k] := hu.mono (by intro y hy; simp at hy; rcases hy with rfl | rfl <;> simp)
end
theorem goesR_hyp (w0 : World) (k rb m : Nat) (st0 : Option (List UInt8)) (w : World) (h : RM w0 k rb m st0 false MS0 Mg.msg0 w) :
    GoesHyp k m w (fun kind w1 => ∃ st1, Step (Mg.num 255).dec st0 kind st1 ∧ RM w0 k rb m st1 false MS0 { Mg.msg0 with kind := kind } w1 ∧ Upd w w1 [rb, m, k])
      (fun kind life n bad w2 => bad = false ∧ ∃ sta, Mg.PreR st0 kind ⟨life, n⟩ sta ∧ RM w0 k rb m sta false MS0 { Mg.msg0 with kind := kind, tx := ⟨life, n⟩ } w2 ∧ Upd w w2 [rb, m, k])
      (JR w0 k rb m st0 w) where
  c0 := h.rc.cells.2.2.1
  num := by
    refine (numR_u8 k rb m m 0 st0 false _ _ 255 w h.rc (Nat.le_of_ble_eq_true rfl) (by decide)).mono ?_
    rintro e w1 ⟨rfl, x, st1, h1, h2, h3, h4⟩
    refine ⟨rfl, x, by omega, st1, h1, ⟨h3, ?_, h.kl, h.rl, h.ml, Nat.le_trans h.le h4.size⟩, up3 h4⟩
    have q := h.ls.upd h4 h.two
    exact ⟨q.parts, q.reads, q.readAt, q.edits, q.editAt, q.rows, q.own, q.got, q.numbers, q.names⟩
  kind := by
    rintro kind w1 ⟨st1, _, hr, _⟩
    exact ⟨hr.rc.cells.2.2.1, hr.cell 0 rfl, ⟨_, hr.rc.cells.2.1⟩, hr.rc.cells.2.2.2⟩
  keep := by
    rintro kind w1 w2 ⟨st1, h1, hr, hu⟩ hb
    exact ⟨st1, h1, hr.keep hb, hu.two (Upd.of_below _ hb)⟩
  tx := by
    rintro kind w1 ⟨st1, h1, hr, hu⟩ _
    refine (txidR k rb m m (0 + 1) st1 false _ _ w1 hr.rc (Nat.le_of_ble_eq_true rfl)).mono ?_
    rintro e w2 ⟨rfl, t, st2, h2, _, h3, h4⟩
    refine ⟨rfl, t.life, t.n, false, ⟨rfl, st2, ⟨st1, h1, h2⟩, ⟨h3, ?_, h.kl, h.rl, h.ml, Nat.le_trans hr.le h4.size⟩, hu.two (up3 h4)⟩, hr.keepFn h4⟩
    have q := hr.ls.upd h4 hr.two
    exact ⟨q.parts, q.reads, q.readAt, q.edits, q.editAt, q.rows, q.own, q.got, q.numbers, q.names⟩
  txc := by
    rintro kind life n bad w2 ⟨rfl, sta, _, hr, _⟩
    exact ⟨hr.rc.cells.2.2.1, hr.rc.cells.2.1, hr.rc.cells.2.2.2, hr.cell 1 rfl, hr.cell 2 rfl⟩
  txj := by
    rintro kind life n bad w2 b ⟨rfl, sta, hp, hr, hu⟩ hb
    obtain ⟨h1, h2⟩ := hr.badSet b
    refine ⟨⟨⟨life, n⟩, sta, sta, MS0, _, b, hp, ?_, h1, hu.two h2⟩, hr.keepFn3 h2⟩
    have hb : b = Mg.b0 ⟨life, n⟩ := by rw [hb]; rfl
    match kind with
    | 0 => exact ⟨rfl, rfl, hb⟩
    | 1 => exact ⟨rfl, rfl, hb⟩
    | 2 => exact ⟨rfl, rfl, hb⟩
    | 3 => exact ⟨rfl, rfl, hb⟩
    | 4 => exact ⟨rfl, rfl, hb⟩
    | 5 => exact ⟨rfl, rfl, hb⟩
    | 6 => exact ⟨rfl, rfl, hb⟩
    | kind + 7 => exact ⟨rfl, rfl, hb⟩
  part := by
    rintro kind i w2 hi hk ⟨t, sta, st, s, x, b, hp, hq, hr, hu⟩
    rcases known_cases hk with rfl | rfl | rfl | rfl | rfl | rfl
    · match i, hi with
      | 0, _ =>
        refine (lowM w0 k rb m st b s x w2 hr).mono ?_
        rintro e w3 ⟨rfl, v, st', s', h1, h2, h3⟩
        obtain ⟨rfl, rfl, rfl⟩ := hq
        exact ⟨rfl, ⟨t, st, st', s', _, _, hp, ⟨v, h1, rfl, rfl⟩, h2, hu.two (up3 h3)⟩, hr.keepFn h3⟩
      | 1, _ =>
        refine (headM w0 k rb m st b s x w2 hr).mono ?_
        rintro e w3 ⟨rfl, v, st', s', h1, h2, h3⟩
        obtain ⟨low, g1, rfl, rfl⟩ := hq
        exact ⟨rfl, ⟨t, sta, st', s', _, _, hp, ⟨low, st, v, g1, h1, rfl, rfl⟩, h2, hu.two (up3 h3)⟩, hr.keepFn h3⟩
      | 2, _ =>
        refine (askM w0 k rb m st b s x w2 hr).mono ?_
        rintro e w3 ⟨rfl, v, st', s', h1, h2, h3⟩
        obtain ⟨low, s1, hd, g1, g2, rfl, rfl⟩ := hq
        exact ⟨rfl, ⟨t, sta, st', s', _, _, hp, ⟨low, s1, hd, st, v, g1, g2, h1, rfl, rfl⟩, h2, hu.two (up3 h3)⟩, hr.keepFn h3⟩
      | 3, _ =>
        refine (rowsM w0 k rb m st b s x w2 hr).mono ?_
        rintro e w3 ⟨rfl, v, st', s', h1, h2, h3⟩
        obtain ⟨low, s1, hd, s2, ask, g1, g2, g3, rfl, rfl⟩ := hq
        exact ⟨rfl, ⟨t, sta, st', s', _, _, hp, ⟨low, s1, hd, s2, ask, st, v, g1, g2, g3, h1, rfl, rfl⟩, h2, hu.two (up3 h3)⟩, hr.keepFn h3⟩
      | 4, _ =>
        refine (nextM w0 k rb m st b s x w2 hr).mono ?_
        rintro e w3 ⟨rfl, v, st', s', h1, h2, h3⟩
        obtain ⟨low, s1, hd, s2, ask, s3, rows, g1, g2, g3, g4, rfl, rfl⟩ := hq
        exact ⟨rfl, ⟨t, sta, st', s', _, _, hp, ⟨(low, hd, ask, rows, v), Step.seqD g1 (Step.seqD g2 (Step.seqD g3 (Step.seqD g4 h1))), rfl, rfl⟩, h2, hu.two (up3 h3)⟩, hr.keepFn h3⟩
    · match i, hi with
      | 0, _ =>
        refine (rowsM w0 k rb m st b s x w2 hr).mono ?_
        rintro e w3 ⟨rfl, v, st', s', h1, h2, h3⟩
        obtain ⟨rfl, rfl, rfl⟩ := hq
        exact ⟨rfl, ⟨t, st, st', s', _, _, hp, ⟨v, h1, rfl, rfl⟩, h2, hu.two (up3 h3)⟩, hr.keepFn h3⟩
      | 1, _ =>
        refine (commitM w0 k rb m st b s x w2 hr).mono ?_
        rintro e w3 ⟨rfl, v, st', s', h1, h2, h3⟩
        obtain ⟨low, g1, rfl, rfl⟩ := hq
        exact ⟨rfl, ⟨t, sta, st', s', _, _, hp, ⟨low, st, v, g1, h1, rfl, rfl⟩, h2, hu.two (up3 h3)⟩, hr.keepFn h3⟩
      | 2, _ =>
        refine (errM w0 k rb m st b s x w2 hr).mono ?_
        rintro e w3 ⟨rfl, v, st', s', h1, h2, h3⟩
        obtain ⟨low, s1, hd, g1, g2, rfl, rfl⟩ := hq
        exact ⟨rfl, ⟨t, sta, st', s', _, _, hp, ⟨low, s1, hd, st, v, g1, g2, h1, rfl, rfl⟩, h2, hu.two (up3 h3)⟩, hr.keepFn h3⟩
      | 3, _ =>
        refine (toldM w0 k rb m st b s x w2 hr).mono ?_
        rintro e w3 ⟨rfl, v, st', s', h1, h2, h3⟩
        obtain ⟨low, s1, hd, s2, ask, g1, g2, g3, rfl, rfl⟩ := hq
        exact ⟨rfl, ⟨t, sta, st', s', _, _, hp, ⟨(low, hd, ask, v), Step.seqD g1 (Step.seqD g2 (Step.seqD g3 h1)), rfl, rfl⟩, h2, hu.two (up3 h3)⟩, hr.keepFn h3⟩
    · match i, hi with
      | 0, _ =>
        refine (lowM w0 k rb m st b s x w2 hr).mono ?_
        rintro e w3 ⟨rfl, v, st', s', h1, h2, h3⟩
        obtain ⟨rfl, rfl, rfl⟩ := hq
        exact ⟨rfl, ⟨t, st, st', s', _, _, hp, ⟨v, h1, rfl, rfl⟩, h2, hu.two (up3 h3)⟩, hr.keepFn h3⟩
      | 1, _ =>
        refine (commitM w0 k rb m st b s x w2 hr).mono ?_
        rintro e w3 ⟨rfl, v, st', s', h1, h2, h3⟩
        obtain ⟨low, g1, rfl, rfl⟩ := hq
        exact ⟨rfl, ⟨t, sta, st', s', _, _, hp, ⟨(low, v), Step.seqD g1 h1, rfl, rfl⟩, h2, hu.two (up3 h3)⟩, hr.keepFn h3⟩
    · exact absurd hi (by simp [partsOf])
    · exact absurd hi (by simp [partsOf])
    · match i, hi with
      | 0, _ =>
        refine (lowM w0 k rb m st b s x w2 hr).mono ?_
        rintro e w3 ⟨rfl, v, st', s', h1, h2, h3⟩
        obtain ⟨rfl, rfl, rfl⟩ := hq
        exact ⟨rfl, ⟨t, st, st', s', _, _, hp, ⟨v, h1, rfl, rfl⟩, h2, hu.two (up3 h3)⟩, hr.keepFn h3⟩
      | 1, _ =>
        refine (stateM w0 k rb m st b s x w2 hr).mono ?_
        rintro e w3 ⟨rfl, v, st', h1, h2, h3⟩
        obtain ⟨low, g1, rfl, rfl⟩ := hq
        exact ⟨rfl, ⟨t, sta, st', s, _, _, hp, ⟨(low, v), Step.seqD g1 h1, rfl, rfl⟩, h2, hu.two h3⟩, hr.keepFn3 h3⟩
/-- goes, while it reads. -/
theorem goesR (w0 : World) (k rb m : Nat) (st0 : Option (List UInt8)) (w : World) (h : RM w0 k rb m st0 false MS0 Mg.msg0 w) :
    Calls Tryz.prog 52 #[.pointer (some ⟨k, 0, none⟩)] w fun e w' => e = .returned (.tuple #[]) ∧ ∃ (st : Option (List UInt8)) (b : Bool) (s : MS) (x : Mg.Msg), Mg.Fin st0 st x b ∧ RM w0 k rb m st b s x w' ∧ Upd w w' [rb, m, k] := by
  refine (goes_gen k m w _ _ _ (goesR_hyp w0 k rb m st0 w h)).mono ?_
  rintro e w' ⟨rfl, kind, hk, ⟨hkn, w2, ⟨st1, h1, hr, hu⟩, rfl⟩ | ⟨hkn, t, sta, st, s, x, b, hp, hq, hr, hu⟩⟩
  · obtain ⟨h2, h3⟩ := hr.badSet true
    exact ⟨rfl, st1, true, MS0, _, Mg.fin_unknown hkn h1 _ _, h2, hu.two h3⟩
  · exact ⟨rfl, st, b, s, x, Mg.fin_known hkn hp hq, hr, hu⟩

end Go.Proofs.YtjgnomjjphkfbaaGreat

namespace Go.Proofs.YtjgnomjjphkfbaaGreat
open Go.RowKit

theorem end_more (w : World) (b : Nat) (s : ByteArray) (hs : s.toList.isEmpty = false) (h : RdIs w b s 0) :
    Calls Tryz.prog 77 #[.pointer (some ⟨b, 0, none⟩)] w fun x w' => x = .returned (.int .i64 7) ∧ w' = w.setCell ⟨b, 1, none⟩ (.int .i64 7) := by
  have HE := Lib.hid (fun w e h => err_any w b s e h)
  have H := Lib.hid h
  obtain ⟨c0, c1, c2, f0, f1⟩ := h.cells
  clear h
  go_enter Tryz.func77, Tryz.ntmps77
  go_wp2_with fail
  refine (HE.out _ _ H.out).mono ?_
  rintro x w' ⟨rfl, rfl⟩
  go_wp2_with fail
  refine (HE.out _ _ (H.out.setE 7)).mono ?_
  rintro x w' ⟨rfl, rfl⟩
  go_wp2_with fail
  go_ret
  exact ⟨rfl, rfl⟩
theorem endR (w : World) (rb : Nat) (st : Option (List UInt8)) (h : RdSt w rb st) :
    Calls Tryz.prog 77 #[.pointer (some ⟨rb, 0, none⟩)] w fun x w' => ∃ e : Nat, x = .returned (.int .i64 e) ∧ ((e : Int) != 0) = !decide (st = some []) ∧ Upd w w' [rb] := by
  obtain ⟨s, e, h1, hs, ⟨rfl, rfl⟩ | ⟨rfl, he⟩⟩ := h
  · by_cases h0 : L s = []
    · have hs0 : s = ⟨#[]⟩ := Mg.L_inj h0
      subst hs0
      refine (end_ok w rb h1).mono ?_
      rintro x w' ⟨rfl, rfl⟩
      exact ⟨0, rfl, by rw [h0]; rfl, Upd.refl _ _⟩
    · refine (end_more w rb s ?_ h1).mono ?_
      · have : L s = s.data.toList := rfl
        rw [this, ← ByteArray.toList_eq] at h0
        cases hq : s.toList with
        | nil => exact absurd hq h0
        | cons a b => rfl
      · rintro x w' ⟨rfl, rfl⟩
        exact ⟨7, rfl, by simp [h0], (Upd.refl w [rb]).setCell (.inl (by simp)) _⟩
  · refine (end_fault w rb s e h1 (by simpa using he)).mono ?_
    rintro x w' ⟨rfl, rfl⟩
    exact ⟨e, rfl, by rw [he]; rfl, Upd.refl _ _⟩

namespace Mg
/-- The message that bytes are, if they are not too many. -/
def decF (s : List UInt8) : Option Msg := if s.length ≤ 65536 then dec s else none
end Mg
/-- A message, by value: its cells. -/
def MV (s : MS) (x : Mg.Msg) : Array Value := (s.cells x).toArray

theorem MsgO.base {w0 w W : World} {s : MS} {x : Mg.Msg} (h : MsgO w W s x) (hw : w0.heap.size ≤ w.heap.size) : MsgO w0 W s x :=
  ⟨h.parts.base hw, h.reads.base hw, h.readAt.base hw, h.edits.base hw, h.editAt.base hw, by
    obtain ⟨xs, h1, h2⟩ := h.rows
    exact ⟨xs, h1.base hw, h2.base hw⟩, h.own.base hw, h.got.base hw, h.numbers.base hw, h.names.base hw⟩
theorem MV_size (s : MS) (x : Mg.Msg) : (MV s x).size = 28 := rfl
theorem MV_one (s : MS) (x : Mg.Msg) : ∀ v ∈ (MV s x).toList, v.oneCell' = true := by
  intro v hv
  unfold MV at hv
  simp only [MS.cells, List.mem_cons, List.not_mem_nil, or_false] at hv
  rcases hv with rfl | rfl | rfl | rfl | rfl | rfl | rfl | rfl | rfl | rfl | rfl | rfl | rfl | rfl | rfl | rfl | rfl | rfl | rfl | rfl | rfl | rfl | rfl | rfl | rfl | rfl | rfl | rfl <;> rfl
theorem sizeMsg : (Tryz.prog.info? 43).map (·.size) = some 28 := by kernel_rfl
theorem fin_some {s : List UInt8} {st : Option (List UInt8)} {x : Mg.Msg} (h : Mg.Fin (some s) st x false) (hst : st = some []) (hl : s.length ≤ 65536) : Mg.decF s = some x := by
  unfold Mg.Fin at h
  simp only [Option.bind_some] at h
  unfold Mg.decF Mg.dec
  rw [if_pos hl]
  cases hd : Mg.decP s with
  | none =>
    rw [hd] at h
    rcases h with h | h
    · rw [hst] at h; cases h
    · cases h
  | some p =>
    rw [hd] at h
    obtain ⟨m, r⟩ := p
    obtain ⟨h1, h2, _⟩ := h
    rw [hst] at h1
    cases h1
    simp only at h2
    simp only [if_true]
    rw [h2]
theorem fin_none {s : List UInt8} {st : Option (List UInt8)} {x : Mg.Msg} {b : Bool} (h : Mg.Fin (some s) st x b) (hn : b = true ∨ st ≠ some [] ∨ 65536 < s.length) : Mg.decF s = none := by
  unfold Mg.Fin at h
  simp only [Option.bind_some] at h
  unfold Mg.decF Mg.dec
  by_cases hl : s.length ≤ 65536
  · rw [if_pos hl]
    cases hd : Mg.decP s with
    | none => rfl
    | some p =>
      rw [hd] at h
      obtain ⟨m, r⟩ := p
      obtain ⟨h1, h2, h3⟩ := h
      simp only
      rw [if_neg]
      rintro rfl
      rcases hn with h4 | h4 | h4
      · rw [h3] at h4; cases h4
      · exact h4 h1
      · omega
  · rw [if_neg hl]

set_option maxRecDepth 20000 in
set_option maxHeartbeats 8000000 in
theorem read_any (s : ByteArray) (hs : s.size ≤ 1073741824) (w : World) :
    Calls Tryz.prog 43 #[.string s] w fun e w' => ∃ sl : MS, e = .returned (.tuple #[.agg (MV sl ((Mg.decF (L s)).getD Mg.msg0)), .bool (Mg.decF (L s)).isSome]) ∧ MsgO w w' sl ((Mg.decF (L s)).getD Mg.msg0) ∧ Below w.heap.size w w' := by
  obtain ⟨w1, hw1⟩ : ∃ w1, w1 = w.alloc (.cells (MS0.cells Mg.msg0).toArray 43 (0, 0)) := ⟨_, rfl⟩
  have hb1 : Own w.heap.size w w1 := by rw [hw1]; exact (Own.refl w).alloc _
  have hm1 : w1.heap[w.heap.size]? = some (.cells (MS0.cells Mg.msg0).toArray 43 (0, 0)) := by rw [hw1]; exact heap_alloc_new w _
  have HN := Lib.hid (new_any w1 s)
  rw [hw1] at HN
  have HW1 := Lib.hid hw1
  have HB1 := Lib.hid hb1
  have HM1 := Lib.hid hm1
  have hsI : (0 : Int) ≤ s.size ∧ (s.size : Int) ≤ 1073741824 := by omega
  have HSZ := Lib.hid hs
  obtain ⟨R, hR⟩ : ∃ R, R = Mg.decF (L s) := ⟨_, rfl⟩
  rw [← hR]
  have HRR := Lib.hid hR
  clear hb1 hm1 hw1 hs hR
  go_enter Tryz.func43, Tryz.ntmps43
  go_wp2_with fail
  refine HN.out.mono ?_
  rw [← HW1.out]
  rintro e w2 ⟨rfl, hrd, hb2, hlt⟩
  obtain ⟨w3, hw3⟩ : ∃ w3, w3 = w2.alloc (.cells #[.pointer (some ⟨w1.heap.size, 0, none⟩), .pointer none, .slice none 0 0, .bool false, .pointer (some ⟨w.heap.size, 0, none⟩)] 118 (0, 0)) := ⟨_, rfl⟩
  have hb3 : Below w2.heap.size w2 w3 := by rw [hw3]; exact ((Own.refl w2).alloc _).below
  have hk3 : w3.heap[w2.heap.size]? = some (.cells #[.pointer (some ⟨w1.heap.size, 0, none⟩), .pointer none, .slice none 0 0, .bool false, .pointer (some ⟨w.heap.size, 0, none⟩)] 118 (0, 0)) := by rw [hw3]; exact heap_alloc_new w2 _
  have hmlt : w.heap.size < w1.heap.size := blk_lt HM1.out
  have hRM : RM w3 w2.heap.size w1.heap.size w.heap.size (some (L s)) false MS0 Mg.msg0 w3 := by
    refine ⟨⟨hk3, ⟨s, 0, hrd.keep (hb3.block _ hlt), HSZ.out, .inl ⟨rfl, rfl⟩⟩, ?_, by omega, by omega, by omega⟩, MsgO.nil _ _ _ rfl, blk_lt hk3, Nat.lt_of_lt_of_le hlt hb3.size, ?_, Nat.le_refl _⟩
    · rw [hb3.block _ (by omega), hb2.block _ hmlt]; exact HM1.out
    · have := hb3.size; omega
  have HG := Lib.hid (goesR _ _ _ _ _ _ hRM)
  have HW3 := Lib.hid hw3
  have hbw3 : Below w.heap.size w w3 := HB1.out.below.trans ((hb2.mono (by omega)).trans (hb3.mono (by omega)))
  have HBW := Lib.hid hbw3
  have HK3 := Lib.hid (show w.heap.size ≤ w3.heap.size ∧ w.heap.size ≤ w2.heap.size ∧ w.heap.size ≤ w1.heap.size from by have := hb3.size; omega)
  clear hrd hb2 hlt hw3 hb3 hk3 hmlt hRM hbw3 HN HW1
  go_wp2_with fail
  rw [← HW3.out]
  refine HG.out.mono ?_
  rintro e w4 ⟨rfl, st, b, sl, x, hfin, hrm, hup⟩
  have HFIN := Lib.hid hfin
  obtain ⟨d0, d3, d4, dz⟩ := hrm.rc.cells
  have hb4 : Below w.heap.size w w4 := HBW.out.trans ⟨hup.os, hup.tape, hup.output, hup.size, fun i hi => by
    have h1 := HK3.out
    exact hup.keep i (by omega) (by simp; omega)⟩
  have HB4 := Lib.hid hb4
  have HRM := Lib.hid hrm
  have HBLK : Hid (w4.heap[w.heap.size]? = some (.cells (MV sl x) 43 (0, 0))) := Lib.hid hrm.rc.blk
  have HEN := Lib.hid (endR w4 w1.heap.size st hrm.rc.rd)
  clear hfin hup hb4 hrm HG HW3
  cases b with
  | true =>
    have HRN : Hid (R = none) := Lib.hid (HRR.out.trans (fin_none HFIN.out (.inl rfl)))
    clear HEN
    go_wp2_with (first | (refine wpList_store_all rfl 43 (.tmp 2) (.tmp 28) rfl w.heap.size (MV MS0 Mg.msg0) rfl rfl 43 _ HBLK.out (by rw [MV_size]; exact sizeMsg) rfl (MV_one _ _) ?_; intro w5 hp5; have HP5 := Lib.hid hp5; clear hp5))
    refine bodyPost_ret (results_cell_tmp_row rfl _ _ w.heap.size _ _ _ _ rfl HP5.out.here Tryz.underlying43 rfl (by kernel_rfl)) rfl ⟨MS0, ?_, ?_, ?_⟩
    · rw [HRN.out]; rfl
    · rw [HRN.out]; exact MsgO.nil _ _ _ rfl
    · exact HB4.out.trans ⟨HP5.out.os, HP5.out.tape, HP5.out.output, by rw [HP5.out.size]; exact Nat.le_refl _, fun i hi => HP5.out.other i (by omega)⟩
  | false =>
    go_wp2_with fail
    refine HEN.out.mono ?_
    rintro e w5 ⟨ec, rfl, hec, hu5⟩
    clear HEN d0 d3 d4 dz
    have HBLK5 : Hid (w5.heap[w.heap.size]? = some (.cells (MV sl x) 43 (0, 0))) := Lib.hid ((hu5.keep _ (blk_lt HBLK.out) (by have := HRM.out.rc.gr; simpa using this)).trans HBLK.out)
    have HB5 : Hid (Below w.heap.size w w5) := Lib.hid (HB4.out.trans ⟨hu5.os, hu5.tape, hu5.output, hu5.size, fun i hi => hu5.keep i (by have := HB4.out.size; omega) (by have := HK3.out; simp; omega)⟩)
    have HLS : Hid (MsgO w w5 sl x) := Lib.hid (MsgO.base ((HRM.out.ls).upd hu5 (by have := HRM.out.rl; simpa using this)) HK3.out.1)
    clear hu5
    by_cases hok : st = some [] ∧ s.size ≤ 65536
    · have HRS : Hid (R = some x) := Lib.hid (HRR.out.trans (fin_some HFIN.out hok.1 (by rw [L_size]; exact hok.2)))
      rw [hok.1] at hec
      have hle : ¬ ((65536 : Int) < s.size) := by omega
      rw [decide_eq_true rfl, Bool.not_true] at hec
      have HC : Hid (CellsAt w5 w.heap.size 0 (MV sl x).toList) := Lib.hid ⟨_, _, _, HBLK5.out, by simp, by rw [List.drop_zero, List.take_length]⟩
      clear hok
      go_wp2_with (first
        | (refine wpList_load_at rfl 43 (.tmp 2) rfl w.heap.size 0 rfl (MV sl x).toList _ HC.out Tryz.underlying43 rfl sizeMsg ?_)
        | (refine wpList_store_same rfl 43 (.tmp 2) (.tmp 29) rfl w.heap.size (MV sl x) rfl (by first | rfl | simp) 43 HBLK5.out (by rw [MV_size]; exact sizeMsg) (MV_one _ _) ?_))
      refine bodyPost_ret (results_cell_tmp_row rfl _ _ w.heap.size _ _ _ _ rfl HBLK5.out Tryz.underlying43 rfl (by kernel_rfl)) rfl ⟨sl, ?_, ?_, HB5.out⟩
      · rw [HRS.out]; rfl
      · rw [HRS.out]; exact HLS.out
    · have HRN : Hid (R = none) := Lib.hid (HRR.out.trans (fin_none HFIN.out (.inr (by
        rw [L_size]
        by_cases h1 : st = some []
        · exact .inr (by have : ¬ s.size ≤ 65536 := fun h2 => hok ⟨h1, h2⟩
                         omega)
        · exact .inl h1))))
      by_cases h1 : st = some []
      · have h2 : (65536 : Int) < s.size := by
          have : ¬ s.size ≤ 65536 := fun h2 => hok ⟨h1, h2⟩
          omega
        rw [h1, decide_eq_true rfl, Bool.not_true] at hec
        clear hok h1
        go_wp2_with (first | (refine wpList_store_all rfl 43 (.tmp 2) (.tmp 28) rfl w.heap.size (MV MS0 Mg.msg0) rfl rfl 43 _ HBLK5.out (by rw [MV_size]; exact sizeMsg) rfl (MV_one _ _) ?_; intro w6 hp6; have HP6 := Lib.hid hp6; clear hp6))
        refine bodyPost_ret (results_cell_tmp_row rfl _ _ w.heap.size _ _ _ _ rfl HP6.out.here Tryz.underlying43 rfl (by kernel_rfl)) rfl ⟨MS0, ?_, ?_, ?_⟩
        · rw [HRN.out]; rfl
        · rw [HRN.out]; exact MsgO.nil _ _ _ rfl
        · exact HB5.out.trans ⟨HP6.out.os, HP6.out.tape, HP6.out.output, by rw [HP6.out.size]; exact Nat.le_refl _, fun i hi => HP6.out.other i (by omega)⟩
      · rw [decide_eq_false h1, Bool.not_false] at hec
        clear hok h1
        go_wp2_with (first | (refine wpList_store_all rfl 43 (.tmp 2) (.tmp 28) rfl w.heap.size (MV MS0 Mg.msg0) rfl rfl 43 _ HBLK5.out (by rw [MV_size]; exact sizeMsg) rfl (MV_one _ _) ?_; intro w6 hp6; have HP6 := Lib.hid hp6; clear hp6))
        refine bodyPost_ret (results_cell_tmp_row rfl _ _ w.heap.size _ _ _ _ rfl HP6.out.here Tryz.underlying43 rfl (by kernel_rfl)) rfl ⟨MS0, ?_, ?_, ?_⟩
        · rw [HRN.out]; rfl
        · rw [HRN.out]; exact MsgO.nil _ _ _ rfl
        · exact HB5.out.trans ⟨HP6.out.os, HP6.out.tape, HP6.out.output, by rw [HP6.out.size]; exact Nat.le_refl _, fun i hi => HP6.out.other i (by omega)⟩

end Go.Proofs.YtjgnomjjphkfbaaGreat

namespace Go.Proofs.YtjgnomjjphkfbaaGreat
open Go.RowKit

/-- Rows of an argument: their cells, and their versions. -/
def RowsA (w : World) (l : List Mg.Row) (xs : List (List Value)) : Prop :=
  xs.length = l.length ∧ ∀ (i : Nat) (h : i < l.length), ∃ (s : Option Addr) (cap : Nat), xs[i]? = some [.string l[i].p, .int .u64 l[i].last, .slice s l[i].l.length cap] ∧ ArgL w 3 s cap (l[i].l.map Mg.Ver.cells)
theorem RowsA.keep {w w' : World} {l : List Mg.Row} {xs : List (List Value)} (h : RowsA w l xs) (hb : Below w.heap.size w w') : RowsA w' l xs :=
  ⟨h.1, fun i hi => by
    obtain ⟨s, cap, h1, h2⟩ := h.2 i hi
    exact ⟨s, cap, h1, h2.keep hb⟩⟩
theorem OL.arg {w W : World} {E : TypeId} {size : Nat} {s : Option Addr} {cap : Nat} {xs : List (List Value)} (h : OL w W E size s cap xs) (h1 : ∀ x ∈ xs, ∀ u ∈ x, u.oneCell' = true) : ArgL W size s cap xs := by
  refine ⟨h.row, h.all, h1, fun e => ?_⟩
  rcases h.sl.2 with ⟨_, _, h3⟩ | ⟨g, off, cur, h3, _⟩
  · exact h3
  · rw [e] at h3; cases h3
theorem one_map {α : Type} (f : α → List Value) (hf : ∀ a, ∀ u ∈ f a, u.oneCell' = true) (l : List α) : ∀ x ∈ l.map f, ∀ u ∈ x, u.oneCell' = true := by
  intro x hx u hu
  obtain ⟨a, _, rfl⟩ := List.mem_map.1 hx
  exact hf a u hu
theorem one_u32 : ∀ a, ∀ u ∈ (fun a : Nat => [Value.int .u32 a]) a, u.oneCell' = true := by
  intro a u hu
  simp at hu
  first
  | (subst hu; rfl)
  | (rcases hu with rfl | rfl <;> rfl)
  | (rcases hu with rfl | rfl | rfl <;> rfl)
  | (rcases hu with rfl | rfl | rfl | rfl <;> rfl)
  | (rcases hu with rfl | rfl | rfl | rfl | rfl | rfl <;> rfl)
theorem one_i64 : ∀ a, ∀ u ∈ (fun a : Int => [Value.int .i64 a]) a, u.oneCell' = true := by
  intro a u hu
  simp at hu
  first
  | (subst hu; rfl)
  | (rcases hu with rfl | rfl <;> rfl)
  | (rcases hu with rfl | rfl | rfl <;> rfl)
  | (rcases hu with rfl | rfl | rfl | rfl <;> rfl)
  | (rcases hu with rfl | rfl | rfl | rfl | rfl | rfl <;> rfl)
theorem one_u64 : ∀ a, ∀ u ∈ (fun a : Nat => [Value.int .u64 a]) a, u.oneCell' = true := by
  intro a u hu
  simp at hu
  first
  | (subst hu; rfl)
  | (rcases hu with rfl | rfl <;> rfl)
  | (rcases hu with rfl | rfl | rfl <;> rfl)
  | (rcases hu with rfl | rfl | rfl | rfl <;> rfl)
  | (rcases hu with rfl | rfl | rfl | rfl | rfl | rfl <;> rfl)
theorem one_str : ∀ a, ∀ u ∈ (fun a : ByteArray => [Value.string a]) a, u.oneCell' = true := by
  intro a u hu
  simp at hu
  first
  | (subst hu; rfl)
  | (rcases hu with rfl | rfl <;> rfl)
  | (rcases hu with rfl | rfl | rfl <;> rfl)
  | (rcases hu with rfl | rfl | rfl | rfl <;> rfl)
  | (rcases hu with rfl | rfl | rfl | rfl | rfl | rfl <;> rfl)
theorem one_rd : ∀ a, ∀ u ∈ Mg.Rd.cells a, u.oneCell' = true := by
  intro a u hu
  simp at hu
  first
  | (subst hu; rfl)
  | (rcases hu with rfl | rfl <;> rfl)
  | (rcases hu with rfl | rfl | rfl <;> rfl)
  | (rcases hu with rfl | rfl | rfl | rfl <;> rfl)
  | (rcases hu with rfl | rfl | rfl | rfl | rfl | rfl <;> rfl)
theorem one_ed : ∀ a, ∀ u ∈ Mg.Ed.cells a, u.oneCell' = true := by
  intro a u hu
  simp at hu
  first
  | (subst hu; rfl)
  | (rcases hu with rfl | rfl <;> rfl)
  | (rcases hu with rfl | rfl | rfl <;> rfl)
  | (rcases hu with rfl | rfl | rfl | rfl <;> rfl)
  | (rcases hu with rfl | rfl | rfl | rfl | rfl | rfl <;> rfl)
theorem one_rng : ∀ a, ∀ u ∈ Mg.Rng.cells a, u.oneCell' = true := by
  intro a u hu
  simp at hu
  first
  | (subst hu; rfl)
  | (rcases hu with rfl | rfl <;> rfl)
  | (rcases hu with rfl | rfl | rfl <;> rfl)
  | (rcases hu with rfl | rfl | rfl | rfl <;> rfl)
  | (rcases hu with rfl | rfl | rfl | rfl | rfl | rfl <;> rfl)
theorem one_ver : ∀ a, ∀ u ∈ Mg.Ver.cells a, u.oneCell' = true := by
  intro a u hu
  simp at hu
  first
  | (subst hu; rfl)
  | (rcases hu with rfl | rfl <;> rfl)
  | (rcases hu with rfl | rfl | rfl <;> rfl)
  | (rcases hu with rfl | rfl | rfl | rfl <;> rfl)
  | (rcases hu with rfl | rfl | rfl | rfl | rfl | rfl <;> rfl)
theorem one_got : ∀ a, ∀ u ∈ Mg.Got.cells a, u.oneCell' = true := by
  intro a u hu
  simp at hu
  first
  | (subst hu; rfl)
  | (rcases hu with rfl | rfl <;> rfl)
  | (rcases hu with rfl | rfl | rfl <;> rfl)
  | (rcases hu with rfl | rfl | rfl | rfl <;> rfl)
  | (rcases hu with rfl | rfl | rfl | rfl | rfl | rfl <;> rfl)
structure MsgA (w : World) (s : MS) (x : Mg.Msg) : Prop where
  parts : ArgL w 1 s.parts.1 s.parts.2 (x.parts.map (fun a : Nat => [Value.int .u32 a]))
  reads : ArgL w 2 s.reads.1 s.reads.2 (x.ask.reads.map Mg.Rd.cells)
  readAt : ArgL w 1 s.readAt.1 s.readAt.2 (x.ask.readAt.map (fun a : Int => [Value.int .i64 a]))
  edits : ArgL w 6 s.edits.1 s.edits.2 (x.ask.edits.map Mg.Ed.cells)
  editAt : ArgL w 1 s.editAt.1 s.editAt.2 (x.ask.editAt.map (fun a : Int => [Value.int .i64 a]))
  rows : ∃ xs, ArgL w 3 s.rows.1 s.rows.2 xs ∧ RowsA w x.rows xs
  own : ArgL w 2 s.own.1 s.own.2 (x.own.map Mg.Rng.cells)
  got : ArgL w 4 s.got.1 s.got.2 (x.told.got.map Mg.Got.cells)
  numbers : ArgL w 1 s.numbers.1 s.numbers.2 (x.told.numbers.map (fun a : Nat => [Value.int .u64 a]))
  names : ArgL w 1 s.names.1 s.names.2 (x.told.names.map (fun a : ByteArray => [Value.string a]))
theorem MsgA.keep {w w' : World} {s : MS} {x : Mg.Msg} (h : MsgA w s x) (hb : Below w.heap.size w w') : MsgA w' s x :=
  ⟨h.parts.keep hb, h.reads.keep hb, h.readAt.keep hb, h.edits.keep hb, h.editAt.keep hb, by
    obtain ⟨xs, h1, h2⟩ := h.rows
    exact ⟨xs, h1.keep hb, h2.keep hb⟩, h.own.keep hb, h.got.keep hb, h.numbers.keep hb, h.names.keep hb⟩
theorem rows_one {l : List Mg.Row} {xs : List (List Value)} (h : xs.length = l.length) (hx : ∀ (i : Nat) (h : i < l.length), ∃ (s : Option Addr) (cap : Nat), xs[i]? = some [.string l[i].p, .int .u64 l[i].last, .slice s l[i].l.length cap]) : ∀ x ∈ xs, ∀ u ∈ x, u.oneCell' = true := by
  intro x hm u hu
  obtain ⟨i, hi, rfl⟩ := List.getElem_of_mem hm
  obtain ⟨s, cap, h1⟩ := hx i (by rw [← h]; exact hi)
  rw [List.getElem?_eq_getElem hi] at h1
  rw [Option.some.inj h1] at hu
  simp at hu
  rcases hu with rfl | rfl | rfl <;> rfl
theorem MsgO.arg {w W : World} {s : MS} {x : Mg.Msg} (h : MsgO w W s x) : MsgA W s x :=
  ⟨h.parts.arg (one_map _ one_u32 _), h.reads.arg (one_map _ one_rd _), h.readAt.arg (one_map _ one_i64 _), h.edits.arg (one_map _ one_ed _), h.editAt.arg (one_map _ one_i64 _), by
    obtain ⟨xs, h1, h2⟩ := h.rows
    refine ⟨xs, h1.arg (rows_one h2.1 fun i hi => ?_), h2.1, fun i hi => ?_⟩
    · obtain ⟨s, cap, h3, _⟩ := h2.2 i hi
      exact ⟨s, cap, h3⟩
    · obtain ⟨s, cap, h3, h4⟩ := h2.2 i hi
      exact ⟨s, cap, h3, h4.arg (one_map _ one_ver _)⟩, h.own.arg (one_map _ one_rng _), h.got.arg (one_map _ one_got _), h.numbers.arg (one_map _ one_u64 _), h.names.arg (one_map _ one_str _)⟩

end Go.Proofs.YtjgnomjjphkfbaaGreat
