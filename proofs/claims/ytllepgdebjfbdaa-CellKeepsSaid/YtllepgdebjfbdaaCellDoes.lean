/-
  THE WALK of the statements' does for layer 17: an act, by the program, and by the document.
-/
import Derived.Test.YtllepgdebjfbdaaCellWorks
import Derived.Deep.RegionHeld3
import Derived.Deep.CutBlock
import Derived.Deep.DeepCutAuto
namespace Go.Proofs.Ytllepgdebjfbdaa
open Go.RowKit

/-- What an act makes of a cell. -/
def actF (c : Cl.Cel) (a : Xct) : Cl.Cel × Nat :=
  if a.kind % 3 = 0 then Cl.put c a.any a.want a.t else if a.kind % 3 = 1 then Cl.delete c a.any a.want else Cl.destroy c a.n
def DoesOut (w : World) (ao : Option Addr) (lo : List Cl.Ver) (r : Cl.Cel × Nat) (e : Ending) (w' : World) : Prop := ∃ ax cx ay cy, e = .returned (.tuple #[.agg #[.int .u64 r.1.last, .slice ax r.1.l.length cx], .agg #[.int .u64 r.1.last, .slice ay r.1.l.length cy], .int .i64 r.2, .int .i64 r.2]) ∧
  VFresh w w' ax cx r.1.l ∧ VersAt w' ay r.1.l ∧ (ay = none → cy = 0) ∧ ((ay = ao ∧ r.1.l = lo) ∨ ∀ k ∈ blks ay, w.heap.size ≤ k)
/-- Four boxes behind each other. -/
structure Boxes4 (w W : World) (o0 o1 o2 o3 : Obj) : Prop where
  own : Own w.heap.size w W
  b0 : W.heap[w.heap.size]? = some o0
  b1 : W.heap[w.heap.size + 1]? = some o1
  b2 : W.heap[w.heap.size + 2]? = some o2
  b3 : W.heap[w.heap.size + 3]? = some o3
  lt : w.heap.size + 3 < W.heap.size
theorem boxes4 (w : World) (o0 o1 o2 o3 : Obj) : Boxes4 w ((((w.alloc o0).alloc o1).alloc o2).alloc o3) o0 o1 o2 o3 := by
  have h := boxes3 w o0 o1 o2
  have h3 := heap_alloc_new (((w.alloc o0).alloc o1).alloc o2) o3
  rw [World.size_alloc, World.size_alloc, World.size_alloc] at h3
  exact ⟨h.own.alloc _, (Below.heap_alloc _ _ _ (blk_lt h.b0)).trans h.b0, (Below.heap_alloc _ _ _ (blk_lt h.b1)).trans h.b1, (Below.heap_alloc _ _ _ (blk_lt h.b2)).trans h.b2, h3, by simp⟩
theorem Boxes4.keep {w W W' : World} {o0 o1 o2 o3 : Obj} (h : Boxes4 w W o0 o1 o2 o3) (hb : Below W.heap.size W W') : Boxes4 w W' o0 o1 o2 o3 :=
  ⟨h.own.trans hb, (hb.block _ (blk_lt h.b0)).trans h.b0, (hb.block _ (blk_lt h.b1)).trans h.b1, (hb.block _ (blk_lt h.b2)).trans h.b2, (hb.block _ (blk_lt h.b3)).trans h.b3, Nat.lt_of_lt_of_le h.lt hb.size⟩
theorem act_cells {w : World} {b : Nat} {k wt n : Int} {y : Bool} {t : ByteArray} (h : w.heap[b]? = some (.cells #[.int .u8 k, .bool y, .int .u64 wt, .int .u64 n, .string t] 27 (0, 0))) :
    w.cell? ⟨b, 0, none⟩ = some (.int .u8 k) ∧ w.cell? ⟨b, 1, none⟩ = some (.bool y) ∧ w.cell? ⟨b, 2, none⟩ = some (.int .u64 wt) ∧ w.cell? ⟨b, 3, none⟩ = some (.int .u64 n) ∧ w.cell? ⟨b, 4, none⟩ = some (.string t) := by
  refine ⟨?_, ?_, ?_, ?_, ?_⟩
  all_goals rw [cell_of_row w b _ _ _ _ h]; rfl

theorem Boxes4.setB2 {w W : World} {o0 o1 o3 : Obj} {n : Int} {a : Option Addr} {k cap : Nat} (h : Boxes4 w W o0 o1 (.cells #[.int .u64 n, .slice a k cap] 25 (0, 0)) o3) (n' : Int) (a' : Option Addr) (k' cap' : Nat) :
    Boxes4 w ((W.setCell ⟨w.heap.size + 1 + 1, 0, none⟩ (.int .u64 n')).setCell ⟨w.heap.size + 1 + 1, 1, none⟩ (.slice a' k' cap')) o0 o1 (.cells #[.int .u64 n', .slice a' k' cap'] 25 (0, 0)) o3 :=
  ⟨(h.own.setCell (by simp; omega) _).setCell (by simp; omega) _, ((Below.heap_setCell _ _ _ _ (by simp; omega)).trans (Below.heap_setCell _ _ _ _ (by simp; omega))).trans h.b0, ((Below.heap_setCell _ _ _ _ (by simp)).trans (Below.heap_setCell _ _ _ _ (by simp))).trans h.b1,
    setCel h.b2 n' a' k' cap', ((Below.heap_setCell _ _ _ _ (by simp)).trans (Below.heap_setCell _ _ _ _ (by simp))).trans h.b3, by have := h.lt; simpa [World.setCell] using this⟩
theorem VFresh.over0 {w w2 : World} {b : Nat} {a : Option Addr} {cap : Nat} {l : List Cl.Ver} (h : VFresh w w2 a cap l) (hb : w.heap.size ≤ b) (hn : b ∉ blks a) (u v : Value) : VFresh w ((w2.setCell ⟨b, 0, none⟩ u).setCell ⟨b, 1, none⟩ v) a cap l := by
  have hu : Upd w2 ((w2.setCell ⟨b, 0, none⟩ u).setCell ⟨b, 1, none⟩ v) [b] := ((Upd.refl _ _).setCell (.inl (by simp)) _).setCell (.inl (by simp)) _
  exact ⟨h.is.keep fun k hk => hu.keep k (h.is.lt k hk) (by simp; intro e; subst e; exact hn hk), h.new, h.own.upd hu (by simpa using hb)⟩
theorem does_upd (w w4 : World) (u1 u2 u3 u4 u5 u6 : Value) : Upd w4 (((((((w4.setCell ⟨w.heap.size + 1 + 1 + 1, 0, none⟩ u1).setCell ⟨w.heap.size + 1 + 1 + 1, 1, none⟩ u2).setCell ⟨w.heap.size + 1 + 1, 0, none⟩ u3).setCell ⟨w.heap.size + 1 + 1, 1, none⟩ u4).setCell ⟨w.heap.size + 1 + 1 + 1, 0, none⟩ u5).setCell ⟨w.heap.size + 1 + 1 + 1, 1, none⟩ u6).drew) [w.heap.size + 1 + 1, w.heap.size + 1 + 1 + 1] :=
  (((((((Upd.refl _ _).setCell (.inl (by simp)) _).setCell (.inl (by simp)) _).setCell (.inl (by simp)) _).setCell (.inl (by simp)) _).setCell (.inl (by simp)) _).setCell (.inl (by simp)) _).drew
theorem does_fresh {w w4 : World} {a : Option Addr} {cap : Nat} {l : List Cl.Ver} {u1 u2 u3 u4 u5 u6 : Value} (h : VFresh w w4 a cap l) (hn : ∀ k ∈ blks a, w.heap.size + 3 < k) :
    VFresh w (((((((w4.setCell ⟨w.heap.size + 1 + 1 + 1, 0, none⟩ u1).setCell ⟨w.heap.size + 1 + 1 + 1, 1, none⟩ u2).setCell ⟨w.heap.size + 1 + 1, 0, none⟩ u3).setCell ⟨w.heap.size + 1 + 1, 1, none⟩ u4).setCell ⟨w.heap.size + 1 + 1 + 1, 0, none⟩ u5).setCell ⟨w.heap.size + 1 + 1 + 1, 1, none⟩ u6).drew) a cap l := by
  have hu := does_upd w w4 u1 u2 u3 u4 u5 u6
  exact ⟨h.is.keep fun k hk => hu.keep k (h.is.lt k hk) (by have := hn k hk; simp; omega), h.new, h.own.upd hu (by simp; omega)⟩
theorem does_vers {w w4 : World} {a s : Option Addr} {l lo : List Cl.Ver} {u1 u2 u3 u4 u5 u6 : Value} (h : VersAt w4 s l) (h0 : VersAt w a lo) (hO : Own w.heap.size w w4) (hn : (s = a ∧ l = lo) ∨ ∀ k ∈ blks s, w.heap.size + 3 < k) :
    VersAt (((((((w4.setCell ⟨w.heap.size + 1 + 1 + 1, 0, none⟩ u1).setCell ⟨w.heap.size + 1 + 1 + 1, 1, none⟩ u2).setCell ⟨w.heap.size + 1 + 1, 0, none⟩ u3).setCell ⟨w.heap.size + 1 + 1, 1, none⟩ u4).setCell ⟨w.heap.size + 1 + 1 + 1, 0, none⟩ u5).setCell ⟨w.heap.size + 1 + 1 + 1, 1, none⟩ u6).drew) s l := by
  have hu := does_upd w w4 u1 u2 u3 u4 u5 u6
  rcases hn with ⟨rfl, rfl⟩ | hn
  · exact h0.keep (hO.upd hu (by simp; omega)).below
  · intro i hi
    obtain ⟨g, off, rfl, hc⟩ := h i hi
    exact ⟨g, off, rfl, hc.keep (hu.keep g hc.lt (by have := hn g (by simp); simp; omega))⟩
theorem drew_heap (w : World) : w.drew.heap = w.heap := rfl
theorem does_b2 {w w4 : World} {o0 o1 : Obj} {n n3 : Int} {a a3 : Option Addr} {k cap k3 cap3 : Nat} (h : Boxes4 w w4 o0 o1 (.cells #[.int .u64 n, .slice a k cap] 25 (0, 0)) (.cells #[.int .u64 n3, .slice a3 k3 cap3] 25 (0, 0)))
    (u1 u2 : Value) (n' : Int) (a' : Option Addr) (k' cap' : Nat) (u5 u6 : Value) :
    (((((((w4.setCell ⟨w.heap.size + 1 + 1 + 1, 0, none⟩ u1).setCell ⟨w.heap.size + 1 + 1 + 1, 1, none⟩ u2).setCell ⟨w.heap.size + 1 + 1, 0, none⟩ (.int .u64 n')).setCell ⟨w.heap.size + 1 + 1, 1, none⟩ (.slice a' k' cap')).setCell ⟨w.heap.size + 1 + 1 + 1, 0, none⟩ u5).setCell ⟨w.heap.size + 1 + 1 + 1, 1, none⟩ u6).drew).heap[w.heap.size + 1 + 1]? = some (.cells #[.int .u64 n', .slice a' k' cap'] 25 (0, 0)) := by
  rw [drew_heap]
  rw [Below.heap_setCell _ _ _ _ (by simp), Below.heap_setCell _ _ _ _ (by simp)]
  refine setCel (n := n) (a := a) (k := k) (cap := cap) ?_ n' a' k' cap'
  rw [Below.heap_setCell _ _ _ _ (by simp), Below.heap_setCell _ _ _ _ (by simp)]
  exact h.b2
theorem does_b3 {w w4 : World} {o0 o1 o2 : Obj} {n3 : Int} {a3 : Option Addr} {k3 cap3 : Nat} (h : Boxes4 w w4 o0 o1 o2 (.cells #[.int .u64 n3, .slice a3 k3 cap3] 25 (0, 0)))
    (n1 : Int) (a1 : Option Addr) (k1 cap1 : Nat) (u3 u4 : Value) (n' : Int) (a' : Option Addr) (k' cap' : Nat) :
    (((((((w4.setCell ⟨w.heap.size + 1 + 1 + 1, 0, none⟩ (.int .u64 n1)).setCell ⟨w.heap.size + 1 + 1 + 1, 1, none⟩ (.slice a1 k1 cap1)).setCell ⟨w.heap.size + 1 + 1, 0, none⟩ u3).setCell ⟨w.heap.size + 1 + 1, 1, none⟩ u4).setCell ⟨w.heap.size + 1 + 1 + 1, 0, none⟩ (.int .u64 n')).setCell ⟨w.heap.size + 1 + 1 + 1, 1, none⟩ (.slice a' k' cap')).drew).heap[w.heap.size + 1 + 1 + 1]? = some (.cells #[.int .u64 n', .slice a' k' cap'] 25 (0, 0)) := by
  rw [drew_heap]
  refine setCel (n := n1) (a := a1) (k := k1) (cap := cap1) ?_ n' a' k' cap'
  rw [Below.heap_setCell _ _ _ _ (by simp), Below.heap_setCell _ _ _ _ (by simp)]
  exact setCel h.b3 n1 a1 k1 cap1
theorem cell_set2 {w : World} {b k p : Nat} {v u1 u2 : Value} (h : w.cell? ⟨b, k, none⟩ = some v) (hb : b ≠ p) : ((w.setCell ⟨p, 0, none⟩ u1).setCell ⟨p, 1, none⟩ u2).cell? ⟨b, k, none⟩ = some v := by
  rw [World.cell?_of_block (w := w) ((Below.heap_setCell _ _ _ _ (by simpa using hb)).trans (Below.heap_setCell _ _ _ _ (by simpa using hb)))]; exact h
set_option maxRecDepth 20000 in
set_option maxHeartbeats 4000000 in
theorem does_any (w : World) (c : Cl.Cel) (a : Option Addr) (cap : Nat) (x : Xct) (h : VersAt w a c.l) (ok : ∀ v ∈ c.l, okV v) (okx : okA x) (hn : c.l.length ≤ 1000) (hnil : a = none → cap = 0) (hl : c.last < 18446744073709551616) :
    Calls Try.prog 7 #[.agg #[.int .u64 c.last, .slice a c.l.length cap], .agg #[.int .u8 x.kind, .bool x.any, .int .u64 x.want, .int .u64 x.n, .string x.t]] w fun e w' => DoesOut w a c.l (actF c x) e w' := by
  have HB := Lib.hid (boxes4 w (.cells #[.int .u64 c.last, .slice a c.l.length cap] 25 (0, 0)) (.cells #[.int .u8 x.kind, .bool x.any, .int .u64 x.want, .int .u64 x.n, .string x.t] 27 (0, 0)) (.cells #[.int .u64 0, .slice none 0 0] 25 (0, 0)) (.cells #[.int .u64 0, .slice none 0 0] 25 (0, 0)))
  have H := Lib.hid h
  have HNIL := Lib.hid hnil
  have HN := Lib.hid hn
  have HOK := Lib.hid ok
  have HLAST := Lib.hid hl
  have HX := Lib.hid okx
  have hkI : (0 : Int) ≤ x.kind ∧ (x.kind : Int) ≤ 255 := by have := okx.1; omega
  clear h hn hnil hl ok okx
  by_cases k0 : x.kind % 3 = 0
  · have hk3 : (x.kind : Int).tmod 3 = 0 := by rw [Int.tmod_eq_emod_of_nonneg (by omega)]; omega
    have HE := Lib.hid (show actF c x = Cl.put c x.any x.want x.t by unfold actF; rw [if_pos k0])
    have HPUT := Lib.hid (fun (wz : World) (s : Option Addr) (cz : Nat) (hz : VersAt wz s c.l) (hnz : s = none → cz = 0) => put_any wz c s cz x.any x.want x.t HX.out.2.2.2 hz HOK.out HN.out hnz HLAST.out HX.out.2.1)
    have HREF := Lib.hid (fun (wz : World) (hz : VersAt wz a c.l) => rput_any wz c a cap x.any x.want x.t HX.out.2.1 HX.out.2.2.2 hz HOK.out HN.out HNIL.out HLAST.out)
    generalize Cl.put c x.any x.want x.t = r at *
    obtain ⟨⟨rl, rv⟩, re⟩ := r
    clear k0
    go_enter Try.func7, Try.ntmps7
    go_upto_region 5 with fail
    obtain ⟨k0, k1⟩ := cell_cells HB.out.b0
    obtain ⟨a0, a1, a2, a3, a4⟩ := act_cells HB.out.b1
    have HV := Lib.hid (H.out.keep HB.out.own.below)
    have l3 := HB.out.lt
    generalize ((((w.alloc (.cells #[.int .u64 c.last, .slice a c.l.length cap] 25 (0, 0))).alloc (.cells #[.int .u8 x.kind, .bool x.any, .int .u64 x.want, .int .u64 x.n, .string x.t] 27 (0, 0))).alloc (.cells #[.int .u64 0, .slice none 0 0] 25 (0, 0))).alloc (.cells #[.int .u64 0, .slice none 0 0] 25 (0, 0))) = W at *
    go_region_held3 (fun w' => w'.cell? ⟨w.heap.size, 0, none⟩ = some (.int .u64 c.last) ∧ w'.cell? ⟨w.heap.size, 1, none⟩ = some (.slice a c.l.length cap) ∧ w'.cell? ⟨w.heap.size + 1, 1, none⟩ = some (.bool x.any) ∧ w'.cell? ⟨w.heap.size + 1, 2, none⟩ = some (.int .u64 x.want) ∧ w'.cell? ⟨w.heap.size + 1, 4, none⟩ = some (.string x.t)) (first | exact ⟨k0, k1, a1, a2, a4⟩ | exact ⟨p0, p1, b1, b2, b4⟩ | exact ⟨q0, q1, d1, d2, d4⟩ | exact ⟨cell_set2 q0 (by omega), cell_set2 q1 (by omega), cell_set2 d1 (by omega), cell_set2 d2 (by omega), cell_set2 d4 (by omega)⟩ | assumption | go_keep)
      (first
      | (go_at_call 9
         refine (copied_any _ c a cap (by first | exact HV.out.keep (Below.refl _ _).drew | exact HV.out) HN.out HNIL.out).mono ?_
         rintro e w1 ⟨s1, c1, rfl, hf⟩
         have HF1 := Lib.hid hf
         have HB1 := Lib.hid (HB.out.keep ((Below.refl _ _).drew.trans hf.own.below))
         obtain ⟨p0, p1⟩ := cell_cells HB1.out.b0
         obtain ⟨b0, b1, b2, b3, b4⟩ := act_cells HB1.out.b1
         clear hf)
      | (go_at_call 19
         refine (HPUT.out _ s1 c1 (by first | exact HF1.out.vers | exact HF1.out.vers.keep (Below.refl _ _).drew) HF1.out.nil).mono ?_
         rintro e w2 ⟨s2, c2, rfl, hf⟩
         have HF2 := Lib.hid (hf.up HB1.out.own)
         have HNB : Hid (∀ k ∈ blks s2, w.heap.size + 3 < k) := Lib.hid fun k hk => Nat.lt_of_lt_of_le HB1.out.lt (hf.new k hk)
         have HB2 := Lib.hid (HB1.out.keep hf.own.below)
         obtain ⟨q0, q1⟩ := cell_cells HB2.out.b0
         obtain ⟨d0, d1, d2, d3, d4⟩ := act_cells HB2.out.b1
         obtain ⟨r0, r1, f0, f1, l2⟩ := celBox HB2.out.b2
         clear hf))
    clear k0 k1 a0 a1 a2 a3 a4 p0 p1 b0 b1 b2 b3 b4 HF1 HB1 HB HV
    have hB3 := HB2.out.setB2 rl s2 rv.length c2
    have HF3 := Lib.hid (HF2.out.over0 (b := w.heap.size + 1 + 1) (by omega) (fun hk => by have := HNB.out _ hk; omega) (.int .u64 rl) (.slice s2 rv.length c2))
    have HB3 := Lib.hid hB3
    clear hB3 HB2 HF2 q0 q1 d0 d1 d2 d3 d4 r0 r1 f0 f1 l2 l3
    generalize (w2.setCell ⟨w.heap.size + 1 + 1, 0, none⟩ (.int .u64 rl)).setCell ⟨w.heap.size + 1 + 1, 1, none⟩ (.slice s2 rv.length c2) = W3 at *
    obtain ⟨k0, k1⟩ := cell_cells HB3.out.b0
    obtain ⟨a0, a1, a2, a3, a4⟩ := act_cells HB3.out.b1
    go_wp2_with fail
    refine (HREF.out _ (H.out.keep HB3.out.own.below)).mono ?_
    rintro e w4 ⟨s4, c4, rfl, hv4, hn4, hb4, hor⟩
    have HB4 := Lib.hid (HB3.out.keep hb4)
    have HF4 := Lib.hid (HF3.out.keep hb4)
    have HV4 := Lib.hid hv4
    have HN4 := Lib.hid hn4
    have HOR := Lib.hid hor
    have LW := Lib.hid HB3.out.lt
    clear hor hv4 hn4 hb4 HB3 HF3 k0 k1 a0 a1 a2 a3 a4
    obtain ⟨r0, r1, f0, f1, l2⟩ := celBox HB4.out.b2
    obtain ⟨y0, y1, g0, g1, l3⟩ := celBox HB4.out.b3
    go_wp2_with fail
    go_region
    all_goals go_wp2_with fail
    have z2 := does_b2 HB4.out (.int .u64 rl) (.slice s4 rv.length c4) rl s2 rv.length c2 (.int .u64 rl) (.slice s4 rv.length c4)
    have z3 := does_b3 HB4.out rl s4 rv.length c4 (.int .u64 rl) (.slice s2 rv.length c2) rl s4 rv.length c4
    have hFF := does_fresh (u1 := .int .u64 rl) (u2 := .slice s4 rv.length c4) (u3 := .int .u64 rl) (u4 := .slice s2 rv.length c2) (u5 := .int .u64 rl) (u6 := .slice s4 rv.length c4) HF4.out HNB.out
    have hVV := does_vers (u1 := .int .u64 rl) (u2 := .slice s4 rv.length c4) (u3 := .int .u64 rl) (u4 := .slice s2 rv.length c2) (u5 := .int .u64 rl) (u6 := .slice s4 rv.length c4) HV4.out H.out HF4.out.own (HOR.out.imp id fun h k hk => Nat.lt_of_lt_of_le LW.out (h k hk))
    generalize (((((((w4.setCell ⟨w.heap.size + 1 + 1 + 1, 0, none⟩ (.int .u64 rl)).setCell ⟨w.heap.size + 1 + 1 + 1, 1, none⟩ (.slice s4 rv.length c4)).setCell ⟨w.heap.size + 1 + 1, 0, none⟩ (.int .u64 rl)).setCell ⟨w.heap.size + 1 + 1, 1, none⟩ (.slice s2 rv.length c2)).setCell ⟨w.heap.size + 1 + 1 + 1, 0, none⟩ (.int .u64 rl)).setCell ⟨w.heap.size + 1 + 1 + 1, 1, none⟩ (.slice s4 rv.length c4)).drew) = wz at *
    obtain ⟨i0, i1⟩ := cell_cells z2
    obtain ⟨j0, j1⟩ := cell_cells z3
    refine bodyPost_ret (v := .tuple #[.agg #[.int .u64 rl, .slice s2 rv.length c2], .agg #[.int .u64 rl, .slice s4 rv.length c4], .int .i64 re, .int .i64 re]) (by simp [results, Try.results7, go_sem, i0, i1, j0, j1]) rfl ⟨s2, c2, s4, c4, by rw [HE.out], ?_, ?_, HN4.out, by rw [HE.out]; exact HOR.out.imp id fun h k hk => by have := h k hk; have := LW.out; omega⟩
    · rw [HE.out]
      exact hFF
    · rw [HE.out]
      exact hVV
  · by_cases k1 : x.kind % 3 = 1
    · have hk3 : (x.kind : Int).tmod 3 = 1 := by rw [Int.tmod_eq_emod_of_nonneg (by omega)]; omega
      have HE := Lib.hid (show actF c x = Cl.delete c x.any x.want by unfold actF; rw [if_neg k0, if_pos k1])
      have HPUT := Lib.hid (fun (wz : World) (s : Option Addr) (cz : Nat) (hz : VersAt wz s c.l) (hnz : s = none → cz = 0) => delete_any wz c s cz x.any x.want hz HOK.out HN.out hnz HLAST.out HX.out.2.1)
      have HREF := Lib.hid (fun (wz : World) (hz : VersAt wz a c.l) => rdelete_any wz c a cap x.any x.want HX.out.2.1 hz HOK.out HN.out HNIL.out HLAST.out)
      generalize Cl.delete c x.any x.want = r at *
      obtain ⟨⟨rl, rv⟩, re⟩ := r
      clear k0 k1
      go_enter Try.func7, Try.ntmps7
      go_upto_region 8 with fail
      obtain ⟨k0, k1⟩ := cell_cells HB.out.b0
      obtain ⟨a0, a1, a2, a3, a4⟩ := act_cells HB.out.b1
      have HV := Lib.hid (H.out.keep HB.out.own.below)
      have l3 := HB.out.lt
      generalize ((((w.alloc (.cells #[.int .u64 c.last, .slice a c.l.length cap] 25 (0, 0))).alloc (.cells #[.int .u8 x.kind, .bool x.any, .int .u64 x.want, .int .u64 x.n, .string x.t] 27 (0, 0))).alloc (.cells #[.int .u64 0, .slice none 0 0] 25 (0, 0))).alloc (.cells #[.int .u64 0, .slice none 0 0] 25 (0, 0))) = W at *
      go_region_held3 (fun w' => w'.cell? ⟨w.heap.size, 0, none⟩ = some (.int .u64 c.last) ∧ w'.cell? ⟨w.heap.size, 1, none⟩ = some (.slice a c.l.length cap) ∧ w'.cell? ⟨w.heap.size + 1, 1, none⟩ = some (.bool x.any) ∧ w'.cell? ⟨w.heap.size + 1, 2, none⟩ = some (.int .u64 x.want)) (first | exact ⟨k0, k1, a1, a2⟩ | exact ⟨p0, p1, b1, b2⟩ | exact ⟨q0, q1, d1, d2⟩ | exact ⟨cell_set2 q0 (by omega), cell_set2 q1 (by omega), cell_set2 d1 (by omega), cell_set2 d2 (by omega)⟩ | assumption | go_keep)
        (first
        | (go_at_call 9
           refine (copied_any _ c a cap (by first | exact HV.out.keep (Below.refl _ _).drew | exact HV.out) HN.out HNIL.out).mono ?_
           rintro e w1 ⟨s1, c1, rfl, hf⟩
           have HF1 := Lib.hid hf
           have HB1 := Lib.hid (HB.out.keep ((Below.refl _ _).drew.trans hf.own.below))
           obtain ⟨p0, p1⟩ := cell_cells HB1.out.b0
           obtain ⟨b0, b1, b2, b3, b4⟩ := act_cells HB1.out.b1
           clear hf)
        | (go_at_call 20
           refine (HPUT.out _ s1 c1 (by first | exact HF1.out.vers | exact HF1.out.vers.keep (Below.refl _ _).drew) HF1.out.nil).mono ?_
           rintro e w2 ⟨s2, c2, rfl, hf⟩
           have HF2 := Lib.hid (hf.up HB1.out.own)
           have HNB : Hid (∀ k ∈ blks s2, w.heap.size + 3 < k) := Lib.hid fun k hk => Nat.lt_of_lt_of_le HB1.out.lt (hf.new k hk)
           have HB2 := Lib.hid (HB1.out.keep hf.own.below)
           obtain ⟨q0, q1⟩ := cell_cells HB2.out.b0
           obtain ⟨d0, d1, d2, d3, d4⟩ := act_cells HB2.out.b1
           obtain ⟨r0, r1, f0, f1, l2⟩ := celBox HB2.out.b2
           clear hf))
      clear k0 k1 a0 a1 a2 a3 a4 p0 p1 b0 b1 b2 b3 b4 HF1 HB1 HB HV
      have hB3 := HB2.out.setB2 rl s2 rv.length c2
      have HF3 := Lib.hid (HF2.out.over0 (b := w.heap.size + 1 + 1) (by omega) (fun hk => by have := HNB.out _ hk; omega) (.int .u64 rl) (.slice s2 rv.length c2))
      have HB3 := Lib.hid hB3
      clear hB3 HB2 HF2 q0 q1 d0 d1 d2 d3 d4 r0 r1 f0 f1 l2 l3
      generalize (w2.setCell ⟨w.heap.size + 1 + 1, 0, none⟩ (.int .u64 rl)).setCell ⟨w.heap.size + 1 + 1, 1, none⟩ (.slice s2 rv.length c2) = W3 at *
      obtain ⟨k0, k1⟩ := cell_cells HB3.out.b0
      obtain ⟨a0, a1, a2, a3, a4⟩ := act_cells HB3.out.b1
      go_wp2_with fail
      refine (HREF.out _ (H.out.keep HB3.out.own.below)).mono ?_
      rintro e w4 ⟨s4, c4, rfl, hv4, hn4, hb4, hor⟩
      have HB4 := Lib.hid (HB3.out.keep hb4)
      have HF4 := Lib.hid (HF3.out.keep hb4)
      have HV4 := Lib.hid hv4
      have HN4 := Lib.hid hn4
      have HOR := Lib.hid hor
      have LW := Lib.hid HB3.out.lt
      clear hor hv4 hn4 hb4 HB3 HF3 k0 k1 a0 a1 a2 a3 a4
      obtain ⟨r0, r1, f0, f1, l2⟩ := celBox HB4.out.b2
      obtain ⟨y0, y1, g0, g1, l3⟩ := celBox HB4.out.b3
      go_wp2_with fail
      go_region
      all_goals go_wp2_with fail
      have z2 := does_b2 HB4.out (.int .u64 rl) (.slice s4 rv.length c4) rl s2 rv.length c2 (.int .u64 rl) (.slice s4 rv.length c4)
      have z3 := does_b3 HB4.out rl s4 rv.length c4 (.int .u64 rl) (.slice s2 rv.length c2) rl s4 rv.length c4
      have hFF := does_fresh (u1 := .int .u64 rl) (u2 := .slice s4 rv.length c4) (u3 := .int .u64 rl) (u4 := .slice s2 rv.length c2) (u5 := .int .u64 rl) (u6 := .slice s4 rv.length c4) HF4.out HNB.out
      have hVV := does_vers (u1 := .int .u64 rl) (u2 := .slice s4 rv.length c4) (u3 := .int .u64 rl) (u4 := .slice s2 rv.length c2) (u5 := .int .u64 rl) (u6 := .slice s4 rv.length c4) HV4.out H.out HF4.out.own (HOR.out.imp id fun h k hk => Nat.lt_of_lt_of_le LW.out (h k hk))
      generalize (((((((w4.setCell ⟨w.heap.size + 1 + 1 + 1, 0, none⟩ (.int .u64 rl)).setCell ⟨w.heap.size + 1 + 1 + 1, 1, none⟩ (.slice s4 rv.length c4)).setCell ⟨w.heap.size + 1 + 1, 0, none⟩ (.int .u64 rl)).setCell ⟨w.heap.size + 1 + 1, 1, none⟩ (.slice s2 rv.length c2)).setCell ⟨w.heap.size + 1 + 1 + 1, 0, none⟩ (.int .u64 rl)).setCell ⟨w.heap.size + 1 + 1 + 1, 1, none⟩ (.slice s4 rv.length c4)).drew) = wz at *
      obtain ⟨i0, i1⟩ := cell_cells z2
      obtain ⟨j0, j1⟩ := cell_cells z3
      refine bodyPost_ret (v := .tuple #[.agg #[.int .u64 rl, .slice s2 rv.length c2], .agg #[.int .u64 rl, .slice s4 rv.length c4], .int .i64 re, .int .i64 re]) (by simp [results, Try.results7, go_sem, i0, i1, j0, j1]) rfl ⟨s2, c2, s4, c4, by rw [HE.out], ?_, ?_, HN4.out, by rw [HE.out]; exact HOR.out.imp id fun h k hk => by have := h k hk; have := LW.out; omega⟩
      · rw [HE.out]
        exact hFF
      · rw [HE.out]
        exact hVV
    · have hk3 : (x.kind : Int).tmod 3 = 2 := by rw [Int.tmod_eq_emod_of_nonneg (by omega)]; omega
      have HE := Lib.hid (show actF c x = Cl.destroy c x.n by unfold actF; rw [if_neg k0, if_neg k1])
      have HPUT := Lib.hid (fun (wz : World) (s : Option Addr) (cz : Nat) (hz : VersAt wz s c.l) (hnz : s = none → cz = 0) => destroy_any wz c s cz x.n hz HOK.out HN.out hnz HLAST.out)
      have HREF := Lib.hid (fun (wz : World) (hz : VersAt wz a c.l) => rdestroy_any wz c a cap x.n hz HOK.out HN.out HNIL.out HLAST.out)
      generalize Cl.destroy c x.n = r at *
      obtain ⟨⟨rl, rv⟩, re⟩ := r
      clear k0 k1
      go_enter Try.func7, Try.ntmps7
      go_upto_region 2 with fail
      obtain ⟨k0, k1⟩ := cell_cells HB.out.b0
      obtain ⟨a0, a1, a2, a3, a4⟩ := act_cells HB.out.b1
      have HV := Lib.hid (H.out.keep HB.out.own.below)
      have l3 := HB.out.lt
      generalize ((((w.alloc (.cells #[.int .u64 c.last, .slice a c.l.length cap] 25 (0, 0))).alloc (.cells #[.int .u8 x.kind, .bool x.any, .int .u64 x.want, .int .u64 x.n, .string x.t] 27 (0, 0))).alloc (.cells #[.int .u64 0, .slice none 0 0] 25 (0, 0))).alloc (.cells #[.int .u64 0, .slice none 0 0] 25 (0, 0))) = W at *
      go_region_held3 (fun w' => w'.cell? ⟨w.heap.size, 0, none⟩ = some (.int .u64 c.last) ∧ w'.cell? ⟨w.heap.size, 1, none⟩ = some (.slice a c.l.length cap) ∧ w'.cell? ⟨w.heap.size + 1, 3, none⟩ = some (.int .u64 x.n)) (first | exact ⟨k0, k1, a3⟩ | exact ⟨p0, p1, b3⟩ | exact ⟨q0, q1, d3⟩ | exact ⟨cell_set2 q0 (by omega), cell_set2 q1 (by omega), cell_set2 d3 (by omega)⟩ | assumption | go_keep)
        (first
        | (go_at_call 9
           refine (copied_any _ c a cap (by first | exact HV.out.keep (Below.refl _ _).drew | exact HV.out) HN.out HNIL.out).mono ?_
           rintro e w1 ⟨s1, c1, rfl, hf⟩
           have HF1 := Lib.hid hf
           have HB1 := Lib.hid (HB.out.keep ((Below.refl _ _).drew.trans hf.own.below))
           obtain ⟨p0, p1⟩ := cell_cells HB1.out.b0
           obtain ⟨b0, b1, b2, b3, b4⟩ := act_cells HB1.out.b1
           clear hf)
        | (go_at_call 21
           refine (HPUT.out _ s1 c1 (by first | exact HF1.out.vers | exact HF1.out.vers.keep (Below.refl _ _).drew) HF1.out.nil).mono ?_
           rintro e w2 ⟨s2, c2, rfl, hf⟩
           have HF2 := Lib.hid (hf.up HB1.out.own)
           have HNB : Hid (∀ k ∈ blks s2, w.heap.size + 3 < k) := Lib.hid fun k hk => Nat.lt_of_lt_of_le HB1.out.lt (hf.new k hk)
           have HB2 := Lib.hid (HB1.out.keep hf.own.below)
           obtain ⟨q0, q1⟩ := cell_cells HB2.out.b0
           obtain ⟨d0, d1, d2, d3, d4⟩ := act_cells HB2.out.b1
           obtain ⟨r0, r1, f0, f1, l2⟩ := celBox HB2.out.b2
           clear hf))
      clear k0 k1 a0 a1 a2 a3 a4 p0 p1 b0 b1 b2 b3 b4 HF1 HB1 HB HV
      have hB3 := HB2.out.setB2 rl s2 rv.length c2
      have HF3 := Lib.hid (HF2.out.over0 (b := w.heap.size + 1 + 1) (by omega) (fun hk => by have := HNB.out _ hk; omega) (.int .u64 rl) (.slice s2 rv.length c2))
      have HB3 := Lib.hid hB3
      clear hB3 HB2 HF2 q0 q1 d0 d1 d2 d3 d4 r0 r1 f0 f1 l2 l3
      generalize (w2.setCell ⟨w.heap.size + 1 + 1, 0, none⟩ (.int .u64 rl)).setCell ⟨w.heap.size + 1 + 1, 1, none⟩ (.slice s2 rv.length c2) = W3 at *
      obtain ⟨k0, k1⟩ := cell_cells HB3.out.b0
      obtain ⟨a0, a1, a2, a3, a4⟩ := act_cells HB3.out.b1
      go_wp2_with fail
      refine (HREF.out _ (H.out.keep HB3.out.own.below)).mono ?_
      rintro e w4 ⟨s4, c4, rfl, hv4, hn4, hb4, hor⟩
      have HB4 := Lib.hid (HB3.out.keep hb4)
      have HF4 := Lib.hid (HF3.out.keep hb4)
      have HV4 := Lib.hid hv4
      have HN4 := Lib.hid hn4
      have HOR := Lib.hid hor
      have LW := Lib.hid HB3.out.lt
      clear hor hv4 hn4 hb4 HB3 HF3 k0 k1 a0 a1 a2 a3 a4
      obtain ⟨r0, r1, f0, f1, l2⟩ := celBox HB4.out.b2
      obtain ⟨y0, y1, g0, g1, l3⟩ := celBox HB4.out.b3
      go_wp2_with fail
      go_region
      all_goals go_wp2_with fail
      have z2 := does_b2 HB4.out (.int .u64 rl) (.slice s4 rv.length c4) rl s2 rv.length c2 (.int .u64 rl) (.slice s4 rv.length c4)
      have z3 := does_b3 HB4.out rl s4 rv.length c4 (.int .u64 rl) (.slice s2 rv.length c2) rl s4 rv.length c4
      have hFF := does_fresh (u1 := .int .u64 rl) (u2 := .slice s4 rv.length c4) (u3 := .int .u64 rl) (u4 := .slice s2 rv.length c2) (u5 := .int .u64 rl) (u6 := .slice s4 rv.length c4) HF4.out HNB.out
      have hVV := does_vers (u1 := .int .u64 rl) (u2 := .slice s4 rv.length c4) (u3 := .int .u64 rl) (u4 := .slice s2 rv.length c2) (u5 := .int .u64 rl) (u6 := .slice s4 rv.length c4) HV4.out H.out HF4.out.own (HOR.out.imp id fun h k hk => Nat.lt_of_lt_of_le LW.out (h k hk))
      generalize (((((((w4.setCell ⟨w.heap.size + 1 + 1 + 1, 0, none⟩ (.int .u64 rl)).setCell ⟨w.heap.size + 1 + 1 + 1, 1, none⟩ (.slice s4 rv.length c4)).setCell ⟨w.heap.size + 1 + 1, 0, none⟩ (.int .u64 rl)).setCell ⟨w.heap.size + 1 + 1, 1, none⟩ (.slice s2 rv.length c2)).setCell ⟨w.heap.size + 1 + 1 + 1, 0, none⟩ (.int .u64 rl)).setCell ⟨w.heap.size + 1 + 1 + 1, 1, none⟩ (.slice s4 rv.length c4)).drew) = wz at *
      obtain ⟨i0, i1⟩ := cell_cells z2
      obtain ⟨j0, j1⟩ := cell_cells z3
      refine bodyPost_ret (v := .tuple #[.agg #[.int .u64 rl, .slice s2 rv.length c2], .agg #[.int .u64 rl, .slice s4 rv.length c4], .int .i64 re, .int .i64 re]) (by simp [results, Try.results7, go_sem, i0, i1, j0, j1]) rfl ⟨s2, c2, s4, c4, by rw [HE.out], ?_, ?_, HN4.out, by rw [HE.out]; exact HOR.out.imp id fun h k hk => by have := h k hk; have := LW.out; omega⟩
      · rw [HE.out]
        exact hFF
      · rw [HE.out]
        exact hVV

end Go.Proofs.Ytllepgdebjfbdaa
