/-
  STEPS OF DISKS: those that were handed in, opened; what a disk in memory answers; the statements' small known answers.
-/
import Derived.Test.YtickdhlhafifhaaDiskCrash
import Derived.Test.YtickdhlhafifhaaBytes8
import Derived.OpenShut
import Derived.Below
namespace Go.Proofs.Ytickdhlhafifhaa
open Go.RowKit

attribute [local go_sem ↓ high] appSem_eq

/-- A step, as a statement is handed it. -/
structure Xst where
  kind : Nat
  file : Int
  n : Int
  m : Int
  s : ByteArray
  b : UInt8
instance : Inhabited Xst := ⟨⟨0, 0, 0, 0, ⟨#[]⟩, 0⟩⟩
def scells (x : Xst) : List Value := [.int .u8 x.kind, .int .i64 x.file, .int .i64 x.n, .int .i64 x.m, .string x.s, .int .u8 (by8 x.b)]
structure okX (x : Xst) : Prop where
  kind : x.kind < 256
  f1 : -9223372036854775808 ≤ x.file
  f2 : x.file ≤ 9223372036854775807
  n1 : -9223372036854775808 ≤ x.n
  n2 : x.n ≤ 9223372036854775807
  m1 : -9223372036854775808 ≤ x.m
  m2 : x.m ≤ 9223372036854775807
  s : x.s.size ≤ 140737488355328
section
variable {H : Type} {enc : TypeId × Value → H} {w : World} {base : Nat} {spare : Nat → Bool} {held : Bool}
open Go.ChangeShapes in
theorem open_step (fuel : Nat) (cs : List Value) (x : DataW H × List MemPlace) (h : DataW.trod enc Try.prog w base spare held fuel 32 cs = some x) (hw : ∀ n ∈ x.1.weights Try.prog 32, n ≤ 140737488351232) : ∃ c : Xst, okX c ∧ cs = scells c := by
  obtain ⟨xs, n, _, hx, hl, hlen, hf⟩ := DataW.trod_struct Try.underlying32 h
  rw [show Try.prog.cellsOf 32 = 6 by kernel_rfl] at hl
  match xs, hlen, cs, hl with
  | [y0, y1, y2, y3, y4, y5], _, [c0, c1, c2, c3, c4, c5], _ =>
    have k0 : Try.prog.cellsOf 5 = 1 := by kernel_rfl
    have k1 : Try.prog.cellsOf 3 = 1 := by kernel_rfl
    have k4 : Try.prog.cellsOf 9 = 1 := by kernel_rfl
    obtain ⟨n0, e0, _, w0⟩ := DataW.trod_int Try.underlying5 (hf 0 _ rfl)
    obtain ⟨n1, e1, _, w1⟩ := DataW.trod_int Try.underlying3 (hf 1 _ rfl)
    obtain ⟨n2, e2, _, w2⟩ := DataW.trod_int Try.underlying3 (hf 2 _ rfl)
    obtain ⟨n3, e3, _, w3⟩ := DataW.trod_int Try.underlying3 (hf 3 _ rfl)
    obtain ⟨n4, e4, hy, _⟩ := DataW.trod_string Try.underlying9 (hf 4 _ rfl)
    obtain ⟨n5, e5, _, w5⟩ := DataW.trod_int Try.underlying5 (hf 5 _ rfl)
    obtain ⟨u0, rfl, hu0⟩ := nat8_of_wf w0
    obtain ⟨u5, rfl, hu5⟩ := nat8_of_wf w5
    have b1 := wf_bounds w1
    have b2 := wf_bounds w2
    have b3 := wf_bounds w3
    rw [show IntKind.i64.min = -9223372036854775808 from by decide, show IntKind.i64.max = 9223372036854775807 from by decide] at b1 b2 b3
    have hz : n4.size ≤ 140737488351232 := by
      refine hw _ ?_
      rw [hx]
      simp only [DataW.weights, Try.underlying32, hy]
      exact DataW.weights_mem_each (j := 4) rfl rfl _ (by simp [DataW.weights])
    have h8 : by8 (UInt8.ofNat u5) = (u5 : Int) := by unfold by8; rw [UInt8.toNat_ofNat']; omega
    refine ⟨⟨u0, n1, n2, n3, n4, UInt8.ofNat u5⟩, ⟨(show u0 < 256 by omega), b1.1, b1.2, b2.1, b2.2, b3.1, b3.2, (show n4.size ≤ 140737488355328 by omega)⟩, ?_⟩
    clear h hf
    simp_all [scells]
end

def StepsAt (w : World) (a : Option Addr) (l : List Xst) : Prop := RowIs w 6 a (l.map scells)
theorem StepsAt.at {w : World} {a : Option Addr} {l : List Xst} (h : StepsAt w a l) (i : Nat) (hi : i < l.length) :
    ∃ g off, a = some ⟨g, off, none⟩ ∧ g < w.heap.size ∧ w.cell? ⟨g, off + i * 6, none⟩ = some (.int .u8 l[i].kind) ∧ w.cell? ⟨g, off + i * 6 + 1, none⟩ = some (.int .i64 l[i].file) ∧ w.cell? ⟨g, off + i * 6 + 2, none⟩ = some (.int .i64 l[i].n) ∧
      w.cell? ⟨g, off + i * 6 + 3, none⟩ = some (.int .i64 l[i].m) ∧ w.cell? ⟨g, off + i * 6 + 4, none⟩ = some (.string l[i].s) ∧ w.cell? ⟨g, off + i * 6 + 5, none⟩ = some (.int .u8 (by8 l[i].b)) := by
  obtain ⟨g, off, ha, hc⟩ := h i (by simpa using hi)
  rw [List.getElem_map] at hc
  exact ⟨g, off, ha, hc.lt, hc.cell 0 (by simp [scells]), hc.cell 1 (by simp [scells]), hc.cell 2 (by simp [scells]), hc.cell 3 (by simp [scells]), hc.cell 4 (by simp [scells]), hc.cell 5 (by simp [scells])⟩

/-! ### Heavy -/
def ssum (l : List Xst) : Nat := (l.map (·.s.size)).sum
theorem ssum_take_succ (l : List Xst) (k : Nat) (h : k < l.length) : ssum (l.take (k + 1)) = ssum (l.take k) + l[k].s.size := by
  unfold ssum; rw [List.take_succ_eq_append_getElem h, List.map_append, List.sum_append]; simp
theorem ssum_take_le (l : List Xst) (k : Nat) : ssum (l.take k) ≤ ssum l := by
  conv => rhs; rw [← List.take_append_drop k l]
  unfold ssum
  rw [List.map_append, List.sum_append]; omega
def heavyB (l : List Xst) : Bool := decide (4096 < ssum l) || decide (100 < l.length)
theorem heavy_any (w : World) (a : Option Addr) (cap : Nat) (l : List Xst) (h : StepsAt w a l) (ok : ∀ x ∈ l, okX x) (hl : l.length ≤ 9223372036854775807) :
    Calls Try.prog 8 #[.slice a l.length cap] w fun e w' => e = .returned (.bool (heavyB l)) ∧ w' = w := by
  have HR := Lib.hid h
  have HOK := Lib.hid ok
  have hlI : (0 : Int) ≤ l.length ∧ (l.length : Int) ≤ 9223372036854775807 := by omega
  clear h ok hl
  go_enter Try.func8, Try.ntmps8
  go_wp2_with fail
  go_loopw [3, 4] (fun vn vi wr => ∃ k : Nat, k ≤ l.length ∧ vi = .int .i64 k ∧ vn = .int .i64 (ssum (l.take k)) ∧ ssum (l.take k) ≤ 4096 ∧ wr = w) (fun _ vi _ => l.length - (intOf vi).toNat)
  case atStart => exact ⟨0, Nat.zero_le _, rfl, rfl, Nat.zero_le _, rfl⟩
  case round =>
    obtain ⟨k, hk, rfl, rfl, hs, rfl⟩ := hrel
    by_cases hlt : k < l.length
    · obtain ⟨g, off, rfl, hg, c0, c1, c2, c3, c4, c5⟩ := HR.out.at k hlt
      have hz := (HOK.out l[k] (List.getElem_mem hlt)).s
      have hss := ssum_take_succ l k hlt
      have hkI : (0 : Int) ≤ k ∧ (k : Int) < l.length := by omega
      by_cases hbig : 4096 < ssum (l.take (k + 1))
      · have HB : Hid (heavyB l = true) := Lib.hid (by have := ssum_take_le l (k + 1); unfold heavyB; simp; left; omega)
        have hI : (0 : Int) ≤ (ssum (l.take k) : Nat) ∧ ((ssum (l.take k) : Nat) : Int) ≤ 4096 ∧ (4096 : Int) < (ssum (l.take k) : Nat) + (l[k].s.size : Int) ∧ (l[k].s.size : Int) ≤ 140737488355328 := by omega
        clear hss hbig hz hs
        generalize ssum (l.take k) = q at *
        generalize l[k] = x at *
        go_wp2_with fail
        go_ret
        exact ⟨by rw [HB.out]; rfl, rfl⟩
      · have hI : (0 : Int) ≤ (ssum (l.take k) : Nat) ∧ ((ssum (l.take k) : Nat) : Int) ≤ 4096 ∧ ((ssum (l.take k) : Nat) : Int) + (l[k].s.size : Int) ≤ 4096 := by omega
        have hadd : ((ssum (l.take k) : Nat) : Int) + (l[k].s.size : Int) = (ssum (l.take (k + 1)) : Nat) := by omega
        have HS2 := Lib.hid (show ssum (l.take (k + 1)) ≤ 4096 by omega)
        clear hss hbig hz hs
        generalize hq2 : ssum (l.take (k + 1)) = q2 at *
        have HQ2 := Lib.hid hq2
        clear hq2
        generalize ssum (l.take k) = q at *
        generalize l[k] = x at *
        go_wp2_with fail
        go_roundw
        case rel => exact ⟨k + 1, by omega, by go_num, by rw [HQ2.out], by rw [HQ2.out]; exact HS2.out, trivial⟩
        case measure => simp [intOf]; omega
    · obtain rfl : k = l.length := by omega
      rw [List.take_length] at hs ⊢
      have HB : Hid (heavyB l = decide ((100 : Int) < l.length)) := Lib.hid (by
        unfold heavyB
        rw [decide_eq_false (by omega), Bool.false_or]
        rw [decide_eq_decide]; omega)
      clear hs
      go_wp2_with fail
      go_ret
      exact ⟨by rw [HB.out]; rfl, rfl⟩

/-! ### What a disk in memory answers -/
theorem read_has {w : World} {p : Nat} {d : Dk.D} {F : List Nat} (h : DHas w p d F) (ok : d.ok) (file : Int) :
    Calls Try.prog 19 #[.pointer (some ⟨p, 0, none⟩), .int .i64 file] w fun e w' => e = .returned (.tuple #[.string (Dk.read d file).1, .int .i64 (Dk.read d file).2]) ∧ w' = w := by
  obtain ⟨a, cap, vs, rfl, hB, hS, hC⟩ := h
  refine (read_any hB ok.n1 file).mono ?_
  rintro e w' ⟨rfl, rfl⟩
  refine ⟨?_, rfl⟩
  have e : (decide (0 ≤ file) && decide (file < (d.n : Int))) = d.is file := rfl
  rw [e]
  unfold Dk.read
  split
  · rfl
  · split <;> rfl
theorem room_has {w : World} {p : Nat} {d : Dk.D} {F : List Nat} (h : DHas w p d F) (ok : d.ok) :
    Calls Try.prog 20 #[.pointer (some ⟨p, 0, none⟩)] w fun e w' => e = .returned (.int .i64 d.left) ∧ w' = w := by
  obtain ⟨a, cap, vs, rfl, hB, hS, hC⟩ := h
  exact room_any hB ok.n1 ok.room ok.total_now
theorem files_has {w : World} {p : Nat} {d : Dk.D} {F : List Nat} (h : DHas w p d F) (ok : d.ok) :
    Calls Try.prog 32 #[.pointer (some ⟨p, 0, none⟩)] w fun e w' => e = .returned (.int .i64 d.n) ∧ w' = w := by
  obtain ⟨a, cap, vs, rfl, hB, hS, hC⟩ := h
  exact files_any hB ok.n1
theorem loose_has {w : World} {p : Nat} {d : Dk.D} {F : List Nat} (h : DHas w p d F) (ok : d.ok) :
    Calls Try.prog 18 #[.pointer (some ⟨p, 0, none⟩)] w fun e w' => e = .returned (.int .i64 d.loose.length) ∧ w' = w := by
  obtain ⟨a, cap, vs, rfl, hB, hS, hC⟩ := h
  exact loose_any hB ok.n1
theorem DStep.size {w w' : World} {p : Nat} {d : Dk.D} {F : List Nat} (h : DStep w w' p d F) : w.heap.size ≤ w'.heap.size := by obtain ⟨F', _, hu, _⟩ := h; exact hu.size
/-- A disk of the call's own: all of its blocks were made since. -/
def Mine (w0 w : World) (p : Nat) (d : Dk.D) : Prop := ∃ F, DHas w p d F ∧ (∀ k ∈ F, w0.heap.size ≤ k) ∧ Own w0.heap.size w0 w
theorem Mine.new {w0 w w' : World} {p : Nat} {d : Dk.D} (hO : Own w0.heap.size w0 w) (h : DHas w' p d [p]) (hp : w.heap.size ≤ p) (hb : Below w.heap.size w w') : Mine w0 w' p d := ⟨[p], h, fun k hk => by simp at hk; subst hk; exact Nat.le_trans hO.size hp, hO.trans hb⟩
theorem Mine.step {w0 w w' : World} {p : Nat} {d d' : Dk.D} {F : List Nat} (h : DHas w p d F) (hF : ∀ k ∈ F, w0.heap.size ≤ k) (hO : Own w0.heap.size w0 w) (s : DStep w w' p d' F) : Mine w0 w' p d' := by
  obtain ⟨F', h', hu, hk⟩ := s
  exact ⟨F', h', fun k hx => (hk k hx).elim (hF k) (fun h => Nat.le_trans hO.size h), hO.upd hu hF⟩
theorem Mine.write {w0 w : World} {p : Nat} {d : Dk.D} (h : Mine w0 w p d) (ok : d.ok) (hl : d.loose.length ≤ 100000) (file : Int) (s : ByteArray) (hs : s.size ≤ 1073741824) :
    Calls Try.prog 11 #[.pointer (some ⟨p, 0, none⟩), .int .i64 file, .string s] w fun e w' => e = .returned (.int .i64 (Dk.write d file s).2) ∧ Mine w0 w' p (Dk.write d file s).1 := by
  obtain ⟨F, hd, hF, hO⟩ := h
  exact (write_has hd ok hl file s hs).mono fun e w' ⟨he, hs⟩ => ⟨he, Mine.step hd hF hO hs⟩
theorem Mine.cut {w0 w : World} {p : Nat} {d : Dk.D} (h : Mine w0 w p d) (ok : d.ok) (hl : d.loose.length ≤ 100000) (file m : Int) (hm1 : -9223372036854775808 ≤ m) (hm2 : m ≤ 9223372036854775807) :
    Calls Try.prog 38 #[.pointer (some ⟨p, 0, none⟩), .int .i64 file, .int .i64 m] w fun e w' => e = .returned (.int .i64 (Dk.cut d file m).2) ∧ Mine w0 w' p (Dk.cut d file m).1 := by
  obtain ⟨F, hd, hF, hO⟩ := h
  exact (cut_has hd ok hl file m hm1 hm2).mono fun e w' ⟨he, hs⟩ => ⟨he, Mine.step hd hF hO hs⟩
theorem Mine.sync {w0 w : World} {p : Nat} {d : Dk.D} (h : Mine w0 w p d) (ok : d.ok) :
    Calls Try.prog 16 #[.pointer (some ⟨p, 0, none⟩)] w fun e w' => e = .returned (.int .i64 (Dk.sync d).2) ∧ Mine w0 w' p (Dk.sync d).1 := by
  obtain ⟨F, hd, hF, hO⟩ := h
  exact (sync_has hd ok).mono fun e w' ⟨he, hs⟩ => ⟨he, Mine.step hd hF hO hs⟩
theorem Mine.fuse {w0 w : World} {p : Nat} {d : Dk.D} (h : Mine w0 w p d) (ok : d.ok) (n : Int) :
    Calls Try.prog 15 #[.pointer (some ⟨p, 0, none⟩), .int .i64 n] w fun e w' => e = .returned (.int .i64 0) ∧ Mine w0 w' p (Dk.fused d n) := by
  obtain ⟨F, hd, hF, hO⟩ := h
  exact (fuse_has hd ok n).mono fun e w' ⟨he, hs⟩ => ⟨he, Mine.step hd hF hO hs⟩
theorem Mine.crash {w0 w : World} {p : Nat} {d : Dk.D} (h : Mine w0 w p d) (ok : d.ok) (hl : d.loose.length ≤ 100000) (x y : Int) :
    Calls Try.prog 12 #[.pointer (some ⟨p, 0, none⟩), .int .i64 x, .int .i64 y] w fun e w' => e = .returned (.int .i64 0) ∧ Mine w0 w' p (Dk.crash d x y) := by
  obtain ⟨F, hd, hF, hO⟩ := h
  exact (crash_has hd ok hl x y).mono fun e w' ⟨he, hs⟩ => ⟨he, Mine.step hd hF hO hs⟩
theorem Mine.has {w0 w : World} {p : Nat} {d : Dk.D} (h : Mine w0 w p d) : ∃ F, DHas w p d F := by obtain ⟨F, hd, _⟩ := h; exact ⟨F, hd⟩
theorem Mine.own {w0 w : World} {p : Nat} {d : Dk.D} (h : Mine w0 w p d) : Own w0.heap.size w0 w := by obtain ⟨F, _, _, ho⟩ := h; exact ho
theorem Mine.keep {w0 w w' : World} {p : Nat} {d : Dk.D} (h : Mine w0 w p d) (hb : Below w.heap.size w w') : Mine w0 w' p d := by
  obtain ⟨F, hd, hF, ho⟩ := h
  exact ⟨F, hd.own hb, hF, ho.trans hb⟩

end Go.Proofs.Ytickdhlhafifhaa
