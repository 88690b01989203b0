/-
  THE WALK of the statement CellPlays.
-/
import Derived.Test.YtigbjmhlcacijaaCellActs
import Derived.Deep.CutBlock
import Derived.Deep.DeepCutAuto
namespace Go.Proofs.Ytigbjmhlcacijaa
open Go.RowKit

theorem alloc_keep (w : World) (o : Obj) : Below w.heap.size w (w.alloc o) := ((Own.refl w).alloc o).below
theorem CBox.facts {w : World} {b : Nat} {c : Cl.Cel} {a : Option Addr} {cap : Nat} (h : CBox w b c a cap) :
    w.cell? ⟨b, 0, none⟩ = some (.int .u64 c.last) ∧ w.cell? ⟨b, 1, none⟩ = some (.slice a c.l.length cap) ∧ w.frozen? ⟨b, 0, none⟩ = false ∧ w.frozen? ⟨b, 1, none⟩ = false ∧ b < w.heap.size := celBox h.box
/-- The cells of an act. -/
structure ActAt (w : World) (g p : Nat) (x : Xct) : Prop where
  q0 : w.cell? ⟨g, p, none⟩ = some (.int .u8 x.kind)
  q1 : w.cell? ⟨g, p + 1, none⟩ = some (.bool x.any)
  q2 : w.cell? ⟨g, p + 2, none⟩ = some (.int .u64 x.want)
  q3 : w.cell? ⟨g, p + 3, none⟩ = some (.int .u64 x.n)
  q4 : w.cell? ⟨g, p + 4, none⟩ = some (.string x.t)
  lt : g < w.heap.size
theorem ActAt.keep {w w' : World} {g p : Nat} {x : Xct} (h : ActAt w g p x) (hb : Below w.heap.size w w') : ActAt w' g p x :=
  ⟨cell_keep hb h.q0 h.lt, cell_keep hb h.q1 h.lt, cell_keep hb h.q2 h.lt, cell_keep hb h.q3 h.lt, cell_keep hb h.q4 h.lt, Nat.lt_of_lt_of_le h.lt hb.size⟩
theorem VFresh.below {w w' : World} {a : Option Addr} {cap : Nat} {l : List Cl.Ver} (h : VFresh w w' a cap l) (o : Obj) : Below w.heap.size w (w'.alloc o) := (h.own.alloc o).below
theorem old_new {s s3 : Option Addr} {P : Prop} {b n m : Nat} (h : (s = s3 ∧ P) ∨ ∀ k ∈ blks s, m ≤ k) (h3 : ∀ k ∈ blks s3, n ≤ k) (hn : b < n) (hm : b < m) : ∀ k ∈ blks s, b < k := fun k hk => by
  rcases h with ⟨rfl, _⟩ | h
  · exact Nat.lt_of_lt_of_le hn (h3 k hk)
  · exact Nat.lt_of_lt_of_le hm (h k hk)
/-- The world behind an act's play: nothing of what was there has turned, nor what the play made. -/
structure Mid (W6 wz w7 wx : World) : Prop where
  old : Below W6.heap.size W6 wx
  new : ∀ k, wz.heap.size ≤ k → k < w7.heap.size → wx.heap[k]? = w7.heap[k]?
theorem mid_a {W6 wz w7 : World} (hz : Below W6.heap.size W6 wz) (h7 : Below wz.heap.size wz w7) (o o' : Obj) : Mid W6 wz w7 ((w7.alloc o).alloc o') :=
  ⟨((⟨hz, hz.size⟩ : Own W6.heap.size W6 wz).trans h7 |>.alloc o |>.alloc o').below, fun k _ h => (Below.heap_alloc _ _ _ (by simp; omega)).trans (Below.heap_alloc _ _ _ h)⟩
theorem mid_b {W6 wz w7 : World} (hz : Below W6.heap.size W6 wz) (h7 : Below wz.heap.size wz w7) {k : Nat} (h1 : W6.heap.size ≤ k) (h2 : k < wz.heap.size) (u v : Value) (o : Obj) : Mid W6 wz w7 (((w7.setCell ⟨k, 0, none⟩ u).setCell ⟨k, 1, none⟩ v).alloc o) :=
  ⟨((⟨hz, hz.size⟩ : Own W6.heap.size W6 wz).trans h7 |>.setCell (p := ⟨k, 0, none⟩) h1 u |>.setCell (p := ⟨k, 1, none⟩) h1 v |>.alloc o).below, fun j hj h => (Below.heap_alloc _ _ _ (by simpa [World.setCell] using h)).trans ((Below.heap_setCell _ _ _ _ (by simp; omega)).trans (Below.heap_setCell _ _ _ _ (by simp; omega)))⟩
theorem mid_c {W6 wz w7 : World} (hz : Below W6.heap.size W6 wz) (h7 : Below wz.heap.size wz w7) {k k' : Nat} (h1 : W6.heap.size ≤ k) (h2 : k < wz.heap.size) (h3 : W6.heap.size ≤ k') (h4 : k' < wz.heap.size) (u v u' v' : Value) :
    Mid W6 wz w7 ((((w7.setCell ⟨k, 0, none⟩ u).setCell ⟨k, 1, none⟩ v).setCell ⟨k', 0, none⟩ u').setCell ⟨k', 1, none⟩ v') :=
  ⟨((⟨hz, hz.size⟩ : Own W6.heap.size W6 wz).trans h7 |>.setCell (p := ⟨k, 0, none⟩) h1 u |>.setCell (p := ⟨k, 1, none⟩) h1 v |>.setCell (p := ⟨k', 0, none⟩) h3 u' |>.setCell (p := ⟨k', 1, none⟩) h3 v').below,
    fun j hj h => ((Below.heap_setCell _ _ _ _ (by simp; omega)).trans (Below.heap_setCell _ _ _ _ (by simp; omega))).trans ((Below.heap_setCell _ _ _ _ (by simp; omega)).trans (Below.heap_setCell _ _ _ _ (by simp; omega)))⟩
/-- Boxes that were laid ahead of the play. -/
theorem one_box {W6 w7 : World} (h : Below (W6.alloc (.cells #[.int .u64 0, .slice none 0 0] 27 (0, 0))).drew.heap.size (W6.alloc (.cells #[.int .u64 0, .slice none 0 0] 27 (0, 0))).drew w7) : w7.heap[W6.heap.size]? = some (.cells #[.int .u64 0, .slice none 0 0] 27 (0, 0)) :=
  (h.block _ (show W6.heap.size < (W6.alloc (.cells #[.int .u64 0, .slice none 0 0] 27 (0, 0))).heap.size by simp)).trans (heap_alloc_new W6 (.cells #[.int .u64 0, .slice none 0 0] 27 (0, 0)))
theorem two_boxes {W6 w7 : World} (h : Below ((W6.alloc (.cells #[.int .u64 0, .slice none 0 0] 27 (0, 0))).alloc (.cells #[.int .u64 0, .slice none 0 0] 27 (0, 0))).drew.heap.size ((W6.alloc (.cells #[.int .u64 0, .slice none 0 0] 27 (0, 0))).alloc (.cells #[.int .u64 0, .slice none 0 0] 27 (0, 0))).drew w7) : w7.heap[W6.heap.size]? = some (.cells #[.int .u64 0, .slice none 0 0] 27 (0, 0)) ∧ w7.heap[W6.heap.size + 1]? = some (.cells #[.int .u64 0, .slice none 0 0] 27 (0, 0)) := by
  have h1 := heap_alloc_new W6 (.cells #[.int .u64 0, .slice none 0 0] 27 (0, 0))
  have h2 := heap_alloc_new (W6.alloc (.cells #[.int .u64 0, .slice none 0 0] 27 (0, 0))) (.cells #[.int .u64 0, .slice none 0 0] 27 (0, 0))
  rw [World.size_alloc] at h2
  exact ⟨(h.block _ (show W6.heap.size < ((W6.alloc (.cells #[.int .u64 0, .slice none 0 0] 27 (0, 0))).alloc (.cells #[.int .u64 0, .slice none 0 0] 27 (0, 0))).heap.size by simp; omega)).trans ((Below.heap_alloc _ _ _ (by simp)).trans h1), (h.block _ (show W6.heap.size + 1 < ((W6.alloc (.cells #[.int .u64 0, .slice none 0 0] 27 (0, 0))).alloc (.cells #[.int .u64 0, .slice none 0 0] 27 (0, 0))).heap.size by simp)).trans h2⟩
/-- What an act's play gives, by the program and by the document. -/
structure Played (W6 wz w7 : World) (d c : Cl.Cel) (s3 sx sy : Option Addr) (cx cy : Nat) : Prop where
  hz : Below W6.heap.size W6 wz
  h7 : Below wz.heap.size wz w7
  fx : VFresh wz w7 sx cx d.l
  vy : VersAt w7 sy d.l
  ny : sy = none → cy = 0
  oy : (sy = s3 ∧ d.l = c.l) ∨ ∀ k ∈ blks sy, wz.heap.size ≤ k
theorem set_other (w : World) {j k : Nat} (h : j ≠ k) (u v : Value) : ((w.setCell ⟨k, 0, none⟩ u).setCell ⟨k, 1, none⟩ v).heap[j]? = w.heap[j]? :=
  (Below.heap_setCell _ _ _ _ (by simpa using h)).trans (Below.heap_setCell _ _ _ _ (by simpa using h))
/-- Where an act's play has laid its cells. -/
def PlCut (W6 : World) (b : Nat) (d : Cl.Cel) (re : Nat) (v9 v10 v11 v12 : Value) (wx : World) : Prop := ∃ bx b_ sx cx sy cy, v9 = .pointer (some ⟨bx, 0, none⟩) ∧ v10 = .pointer (some ⟨b_, 0, none⟩) ∧ v11 = .int .i64 re ∧ v12 = .int .i64 re ∧
  Below W6.heap.size W6 wx ∧ CBox wx bx d sx cx ∧ CBox wx b_ d sy cy ∧ W6.heap.size ≤ bx ∧ W6.heap.size ≤ b_ ∧ (∀ k ∈ blks sx, b < k) ∧ ∀ k ∈ blks sy, b < k
theorem pl_close {W4 W6 wz w7 wx wr : World} {b bx b_ : Nat} {d c : Cl.Cel} {s3 sx sy : Option Addr} {c3 cx cy re : Nat} (hp : Played W6 wz w7 d c s3 sx sy cx cy) (hm : Mid W6 wz w7 wx) (hb : b < wr.heap.size) (hb6 : b < W6.heap.size)
    (f3 : VFresh wr W4 s3 c3 c.l) (v3 : VersAt W6 s3 c.l) (h1 : W6.heap.size ≤ bx) (h2 : W6.heap.size ≤ b_)
    (x1 : wx.heap[bx]? = some (.cells #[.int .u64 d.last, .slice sx d.l.length cx] 27 (0, 0))) (x2 : wx.heap[b_]? = some (.cells #[.int .u64 d.last, .slice sy d.l.length cy] 27 (0, 0))) :
    PlCut W6 b d re (.pointer (some ⟨bx, 0, none⟩)) (.pointer (some ⟨b_, 0, none⟩)) (.int .i64 re) (.int .i64 re) wx := by
  have hkx : ∀ k ∈ blks sx, wz.heap.size ≤ k ∧ k < w7.heap.size := fun k hk => ⟨hp.fx.new k hk, hp.fx.is.lt k hk⟩
  have hvx : VersAt wx sx d.l := fun i hi => by
    obtain ⟨g, off, rfl, hc⟩ := hp.fx.vers i hi
    exact ⟨g, off, rfl, hc.keep (hm.new g (hkx g (by simp)).1 (hkx g (by simp)).2)⟩
  have hz6 := hp.hz.size
  have hvy : VersAt wx sy d.l := by
    rcases hp.oy with ⟨rfl, hl⟩ | hk
    · rw [hl]; exact v3.keep hm.old
    · intro i hi
      obtain ⟨g, off, rfl, hc⟩ := hp.vy i hi
      exact ⟨g, off, rfl, hc.keep (hm.new g (hk g (by simp)) hc.lt)⟩
  refine ⟨bx, b_, sx, cx, sy, cy, rfl, rfl, rfl, rfl, hm.old, ⟨x1, hvx, hp.fx.nil⟩, ⟨x2, hvy, hp.ny⟩, h1, h2, fun k hk => by have := (hkx k hk).1; omega, ?_⟩
  exact old_new hp.oy f3.new hb (Nat.lt_of_lt_of_le hb6 hz6)
def plCel (w : World) (i b : Nat) (wr : World) : Prop := ∃ hs a cap, Cl.okHs hs i ∧ CBox wr b (Cl.celOf hs) a cap ∧ Own w.heap.size w wr ∧ ∀ k ∈ blks a, b < k

set_option maxRecDepth 20000 in
set_option maxHeartbeats 4000000 in
theorem cellPlays_any (w : World) (al : Option Addr) (capl : Nat) (l : List Xct) (n : Nat) (hl : ActsAt w al l) (okl : ∀ x ∈ l, okA x) (hm : l.length ≤ 9223372036854775807) (hn : n < 18446744073709551616) :
    Calls Try.prog 3 #[.slice al l.length capl, .int .u64 n] w fun e w' => e = .returned (.bool true) ∧ Below w.heap.size w w' := by
  have HHV := Lib.hid (heavy_any w ⟨0, []⟩ none 0 al capl l (RowIs.nil _ _ _) (by simp) hl okl (by simp) hm)
  have hmI : (0 : Int) ≤ l.length ∧ (l.length : Int) ≤ 9223372036854775807 := by omega
  have HL := Lib.hid hl
  have HOK := Lib.hid okl
  have HNN := Lib.hid hn
  clear hl okl hm hn
  go_enter Try.func3, Try.ntmps3
  go_wp2_with fail
  refine HHV.out.mono ?_
  rintro e w1 ⟨⟨b, rfl, hlen⟩, hb⟩
  have HO1 := Lib.hid ((Own.refl w).trans hb)
  clear hb HHV
  cases b with
  | true =>
    clear hlen
    go_wp2_with fail
    refine (works_any _).mono ?_
    rintro e w2 ⟨rfl, hb⟩
    have HO2 := Lib.hid (HO1.out.trans hb)
    clear hb
    go_wp2_with fail
    go_ret
    exact ⟨rfl, HO2.out.below⟩
  | false =>
    have HLEN := Lib.hid (hlen rfl).2
    clear hlen
    go_wp2_with fail
    have hO2 := HO1.out.alloc (.cells #[.int .u64 0, .slice none 0 0] 27 (0, 0))
    have hC2 : CBox (w1.alloc (.cells #[.int .u64 0, .slice none 0 0] 27 (0, 0))) w1.heap.size (Cl.celOf []) none 0 := ⟨heap_alloc_new w1 (.cells #[.int .u64 0, .slice none 0 0] 27 (0, 0)), RowIs.nil _ _ _, fun _ => rfl⟩
    have HC2 := Lib.hid hC2
    have HO2 := Lib.hid hO2
    have HB1 := Lib.hid HO1.out.size
    clear hC2 hO2
    generalize w1.alloc (.cells #[.int .u64 0, .slice none 0 0] 27 (0, 0)) = W at *
    generalize w1.heap.size = b at *
    go_loopw [6] (fun vi wr => ∃ i : Nat, i ≤ l.length ∧ vi = .int .i64 i ∧ plCel w i b wr) (fun vi _ => l.length - (intOf vi).toNat)
    case atStart => exact ⟨0, Nat.zero_le _, rfl, [], none, 0, Cl.okHs.nil, HC2.out, HO2.out, by simp⟩
    case round =>
      clear HC2 HO2
      obtain ⟨i, hi, rfl, hs, a, cap, hok, hc, hO, hne⟩ := hrel
      have HO := Lib.hid hO
      by_cases hlt : i < l.length
      · have hiI : (0 : Int) ≤ i ∧ (i : Int) < l.length := by omega
        have hi1000 : i < 1000 := by have := HLEN.out; omega
        obtain ⟨gl, ofl, rfl, q0, q1, q2, q3, q4, hgl⟩ := ActsAt.at (RowIs.keep HL.out hO.below) i hlt
        have hact : ActAt wr gl (ofl + i * 5) l[i] := ⟨q0, q1, q2, q3, q4, hgl⟩
        clear q0 q1 q2 q3 q4 hgl
        have HX := Lib.hid (HOK.out l[i] (List.getElem_mem hlt))
        have HA := Lib.hid (act_hist hs i hi1000 hok l[i])
        have HH := Lib.hid (celOf_ok hs i hi1000 hok)
        generalize l[i] = x at *
        have HC := Lib.hid hc
        have HQ := Lib.hid hact
        clear hact
        have HI := Lib.hid hi1000
        clear hc hO hok hi1000
        generalize Cl.celOf hs = c at *
        obtain ⟨k0, k1, f0, f1, lb⟩ := HC.out.facts
        go_wp2_with fail
        refine (copied_any _ c a cap HC.out.vers HH.out.2.1 HC.out.nil).mono ?_
        rintro e w3 ⟨s3, c3, rfl, hf3⟩
        have HN4 := Lib.hid (CBox.new hf3)
        have HC4 := Lib.hid (HC.out.keep (hf3.below (.cells #[.int .u64 c.last, .slice s3 c.l.length c3] 27 (0, 0))))
        have HQ4 := Lib.hid (HQ.out.keep (hf3.below (.cells #[.int .u64 c.last, .slice s3 c.l.length c3] 27 (0, 0))))
        have HO4 := Lib.hid (HO.out.trans (hf3.below (.cells #[.int .u64 c.last, .slice s3 c.l.length c3] 27 (0, 0))))
        have hb7 : wr.heap.size ≤ w3.heap.size := hf3.own.size
        have HF4 := Lib.hid (hf3.keep (alloc_keep w3 (.cells #[.int .u64 c.last, .slice s3 c.l.length c3] 27 (0, 0))))
        clear hf3 HC HQ HO k0 k1 f0 f1
        obtain ⟨k0, k1, f0, f1, lb4⟩ := HC4.out.facts
        go_wp2_with fail
        generalize w3.alloc (.cells #[.int .u64 c.last, .slice s3 c.l.length c3] 27 (0, 0)) = W4 at *
        generalize w3.heap.size = b7 at *
        refine (copied_any _ c a cap HC4.out.vers HH.out.2.1 HC4.out.nil).mono ?_
        rintro e w5 ⟨s5, c5, rfl, hf5⟩
        have HN6 := Lib.hid (CBox.new hf5)
        have HM6 := Lib.hid (HN4.out.keep (hf5.below (.cells #[.int .u64 c.last, .slice s5 c.l.length c5] 27 (0, 0))))
        have HC6 := Lib.hid (HC4.out.keep (hf5.below (.cells #[.int .u64 c.last, .slice s5 c.l.length c5] 27 (0, 0))))
        have HQ6 := Lib.hid (HQ4.out.keep (hf5.below (.cells #[.int .u64 c.last, .slice s5 c.l.length c5] 27 (0, 0))))
        have HO6 := Lib.hid (HO4.out.trans (hf5.below (.cells #[.int .u64 c.last, .slice s5 c.l.length c5] 27 (0, 0))))
        have hb8 : W4.heap.size ≤ w5.heap.size := hf5.own.size
        have lb7 := blk_lt HN4.out.box
        clear hf5 HC4 HQ4 HO4 HN4 k0 k1 f0 f1
        go_upto_region 9 with fail
        generalize w5.alloc (.cells #[.int .u64 c.last, .slice s5 c.l.length c5] 27 (0, 0)) = W6 at *
        generalize w5.heap.size = b8 at *
        obtain ⟨k0, k1, _, _, lb6⟩ := HM6.out.facts
        obtain ⟨q0, q1, q2, q3, q4, hgl⟩ := HQ6.out
        have lb6b : b < W6.heap.size := blk_lt HC6.out.box
        have HD := Lib.hid (fun (wz : World) (hz : VersAt wz s3 c.l) => does_any wz c s3 c3 x hz HH.out.1 HX.out HH.out.2.1 HM6.out.nil HH.out.2.2)
        have HA2 : Hid (∀ c', (actF c x).1 = c' → ∃ hs', c' = Cl.celOf hs' ∧ Cl.okHs hs' (i + 1)) := Lib.hid fun c' h => by obtain ⟨hs', e, h2⟩ := HA.out; exact ⟨hs', h ▸ e, h2⟩
        clear HA
        generalize actF c x = r at *
        obtain ⟨⟨rl, rv⟩, re⟩ := r
        have HD2 : Hid (∀ wz, Below W6.heap.size W6 wz → Calls Try.prog 10 #[.agg #[.int .u64 c.last, .slice s3 c.l.length c3], .agg #[.int .u8 x.kind, .bool x.any, .int .u64 x.want, .int .u64 x.n, .string x.t]] wz fun e w7 =>
            ∃ sx cx sy cy, e = .returned (.tuple #[.agg #[.int .u64 rl, .slice sx rv.length cx], .agg #[.int .u64 rl, .slice sy rv.length cy], .int .i64 re, .int .i64 re]) ∧ Played W6 wz w7 ⟨rl, rv⟩ c s3 sx sy cx cy) := Lib.hid (fun wz hbz => (HD.out _ (HM6.out.vers.keep hbz)).mono (by
          rintro e w7 ⟨sx, cx, sy, cy, rfl, hfx, hvy, hny, hoy⟩
          exact ⟨sx, cx, sy, cy, rfl, hbz, hfx.own.below, hfx, hvy, hny, hoy⟩))
        clear HD
        have hx1 : ¬ b7 = W6.heap.size := by omega
        have hx2 : ¬ b7 = W6.heap.size + 1 := by omega
        have hx3 : ¬ gl = W6.heap.size := by omega
        have hx4 : ¬ gl = W6.heap.size + 1 := by omega
        have hy1 : ¬ W6.heap.size = b7 := by omega
        have hy2 : ¬ W6.heap.size + 1 = b7 := by omega
        have hy3 : ¬ W6.heap.size = gl := by omega
        have hy4 : ¬ W6.heap.size + 1 = gl := by omega
        have hv3 := HM6.out.vers
        have HV3 := Lib.hid hv3
        clear hv3
        go_cut [9, 10, 11, 12] (fun v9 v10 v11 v12 wx => PlCut W6 b ⟨rl, rv⟩ re v9 v10 v11 v12 wx)
        case first =>
          clear HNN HO1 HLEN HB1 HI HX HH HL HN6 HO6 HA2
          go_region_held3 (fun w' => w'.cell? ⟨b7, 0, none⟩ = some (.int .u64 c.last) ∧ w'.cell? ⟨b7, 1, none⟩ = some (.slice s3 c.l.length c3) ∧ w'.cell? ⟨gl, ofl + i * 5, none⟩ = some (.int .u8 x.kind) ∧ w'.cell? ⟨gl, ofl + i * 5 + 1, none⟩ = some (.bool x.any) ∧ w'.cell? ⟨gl, ofl + i * 5 + 2, none⟩ = some (.int .u64 x.want) ∧ w'.cell? ⟨gl, ofl + i * 5 + 3, none⟩ = some (.int .u64 x.n) ∧ w'.cell? ⟨gl, ofl + i * 5 + 4, none⟩ = some (.string x.t))
            (first | exact ⟨k0, k1, q0, q1, q2, q3, q4⟩ | exact hS7 | assumption | go_keep)
            (first
            | (go_at_call 10
               refine (HD2.out _ (by first | exact (Below.refl _ _).drew | exact (alloc_keep _ _).drew | exact ((alloc_keep _ _).trans ((alloc_keep _ _).mono (by simp))).drew)).mono ?_
               rintro e w7 ⟨sx, cx, sy, cy, rfl, hp⟩
               have HP := Lib.hid hp
               have hb67 := hp.hz.trans (hp.h7.mono hp.hz.size)
               have hm7 := HM6.out.keep hb67
               have hq7 := HQ6.out.keep hb67
               have hS7 := And.intro hm7.facts.1 (And.intro hm7.facts.2.1 (And.intro hq7.q0 (And.intro hq7.q1 (And.intro hq7.q2 (And.intro hq7.q3 hq7.q4)))))
               have lt7 : b7 < w7.heap.size := blk_lt hm7.box
               have ltg : gl < w7.heap.size := hq7.lt
               have hz1 : ¬ b7 = w7.heap.size := by omega
               have hz3 : ¬ gl = w7.heap.size := by omega
               have hz5 : ¬ w7.heap.size = b7 := by omega
               have hz6 : ¬ w7.heap.size = gl := by omega
               first
                 | (have e0 := two_boxes hp.h7
                    have E0 := Lib.hid e0
                    obtain ⟨m0, m1, m2, m3, m4⟩ := celBox e0.1
                    obtain ⟨n0, n1, n2, n3, n4⟩ := celBox e0.2
                    clear e0 hp hb67 hm7 hq7)
                 | (have e0 := one_box hp.h7
                    have E0 := Lib.hid e0
                    obtain ⟨m0, m1, m2, m3, m4⟩ := celBox e0
                    clear e0 hp hb67 hm7 hq7)
                 | clear hp hb67 hm7 hq7))
          all_goals go_wp2_with fail
          all_goals go_meet
          · refine pl_close HP.out (mid_a HP.out.hz HP.out.h7 _ _) lb lb6b HF4.out HV3.out (Nat.le_trans HP.out.hz.size HP.out.h7.size) (by have := Nat.le_trans HP.out.hz.size HP.out.h7.size; omega) ?_ ?_
            · exact (Below.heap_alloc _ _ _ (by simp)).trans (heap_alloc_new w7 _)
            · have h := heap_alloc_new (w7.alloc (.cells #[.int .u64 rl, .slice sx rv.length cx] 27 (0, 0))) (.cells #[.int .u64 rl, .slice sy rv.length cy] 27 (0, 0))
              rw [World.size_alloc] at h
              exact h
          · refine pl_close HP.out (mid_a HP.out.hz HP.out.h7 _ _) lb lb6b HF4.out HV3.out (by have := Nat.le_trans HP.out.hz.size HP.out.h7.size; omega) (Nat.le_trans HP.out.hz.size HP.out.h7.size) ?_ ?_
            · have h := heap_alloc_new (w7.alloc (.cells #[.int .u64 rl, .slice sy rv.length cy] 27 (0, 0))) (.cells #[.int .u64 rl, .slice sx rv.length cx] 27 (0, 0))
              rw [World.size_alloc] at h
              exact h
            · exact (Below.heap_alloc _ _ _ (by simp)).trans (heap_alloc_new w7 _)
          · refine pl_close HP.out (mid_b HP.out.hz HP.out.h7 (Nat.le_refl _) (show W6.heap.size < (W6.alloc (.cells #[.int .u64 0, .slice none 0 0] 27 (0, 0))).heap.size by simp) _ _ _) lb lb6b HF4.out HV3.out (Nat.le_refl _) (Nat.le_trans HP.out.hz.size HP.out.h7.size) ?_ ?_
            · exact (Below.heap_alloc _ _ _ (by have := blk_lt E0.out; simpa [World.setCell] using this)).trans (setCel E0.out _ _ _ _)
            · have h := heap_alloc_new ((w7.setCell ⟨W6.heap.size, 0, none⟩ (.int .u64 rl)).setCell ⟨W6.heap.size, 1, none⟩ (.slice sx rv.length cx)) (.cells #[.int .u64 rl, .slice sy rv.length cy] 27 (0, 0))
              have hs : ((w7.setCell ⟨W6.heap.size, 0, none⟩ (.int .u64 rl)).setCell ⟨W6.heap.size, 1, none⟩ (.slice sx rv.length cx)).heap.size = w7.heap.size := by simp [World.setCell]
              rw [hs] at h
              exact h
          · refine pl_close HP.out (mid_c HP.out.hz HP.out.h7 (Nat.le_refl _) (show W6.heap.size < ((W6.alloc (.cells #[.int .u64 0, .slice none 0 0] 27 (0, 0))).alloc (.cells #[.int .u64 0, .slice none 0 0] 27 (0, 0))).heap.size by simp; omega) (by omega) (show W6.heap.size + 1 < ((W6.alloc (.cells #[.int .u64 0, .slice none 0 0] 27 (0, 0))).alloc (.cells #[.int .u64 0, .slice none 0 0] 27 (0, 0))).heap.size by simp) _ _ _ _) lb lb6b HF4.out HV3.out (Nat.le_refl _) (by omega) ?_ ?_
            · exact (set_other _ (by omega) _ _).trans (setCel E0.out.1 _ _ _ _)
            · exact setCel ((set_other _ (by omega) _ _).trans E0.out.2) _ _ _ _
          · refine pl_close HP.out (mid_b HP.out.hz HP.out.h7 (Nat.le_refl _) (show W6.heap.size < (W6.alloc (.cells #[.int .u64 0, .slice none 0 0] 27 (0, 0))).heap.size by simp) _ _ _) lb lb6b HF4.out HV3.out (Nat.le_trans HP.out.hz.size HP.out.h7.size) (Nat.le_refl _) ?_ ?_
            · have h := heap_alloc_new ((w7.setCell ⟨W6.heap.size, 0, none⟩ (.int .u64 rl)).setCell ⟨W6.heap.size, 1, none⟩ (.slice sy rv.length cy)) (.cells #[.int .u64 rl, .slice sx rv.length cx] 27 (0, 0))
              have hs : ((w7.setCell ⟨W6.heap.size, 0, none⟩ (.int .u64 rl)).setCell ⟨W6.heap.size, 1, none⟩ (.slice sy rv.length cy)).heap.size = w7.heap.size := by simp [World.setCell]
              rw [hs] at h
              exact h
            · exact (Below.heap_alloc _ _ _ (by have := blk_lt E0.out; simpa [World.setCell] using this)).trans (setCel E0.out _ _ _ _)
          · refine pl_close HP.out (mid_c HP.out.hz HP.out.h7 (by omega) (show W6.heap.size + 1 < ((W6.alloc (.cells #[.int .u64 0, .slice none 0 0] 27 (0, 0))).alloc (.cells #[.int .u64 0, .slice none 0 0] 27 (0, 0))).heap.size by simp) (Nat.le_refl _) (show W6.heap.size < ((W6.alloc (.cells #[.int .u64 0, .slice none 0 0] 27 (0, 0))).alloc (.cells #[.int .u64 0, .slice none 0 0] 27 (0, 0))).heap.size by simp; omega) _ _ _ _) lb lb6b HF4.out HV3.out (by omega) (Nat.le_refl _) ?_ ?_
            · exact (set_other _ (by omega) _ _).trans (setCel E0.out.2 _ _ _ _)
            · exact setCel ((set_other _ (by omega) _ _).trans E0.out.1) _ _ _ _
        case rest =>
          obtain ⟨bx, b_, sx, cx, sy, cy, rfl, rfl, rfl, rfl, hold, hbx, hby, hlx, hly, hox, hoy⟩ := hcut
          clear HD2 HV3 hx1 hx2 hx3 hx4 hy1 hy2 hy3 hy4 k0 k1 q0 q1 q2 q3 q4 hgl
          have HMC := Lib.hid (HM6.out.keep hold)
          have HNC := Lib.hid (HN6.out.keep hold)
          have HCC := Lib.hid (HC6.out.keep hold)
          have HOC := Lib.hid (HO6.out.trans hold)
          have HBX := Lib.hid hbx
          have HBY := Lib.hid hby
          have HOX := Lib.hid hox
          have HOY := Lib.hid hoy
          have HLX := Lib.hid (show b < bx ∧ b < b_ by omega)
          obtain ⟨hs', hd, hk'⟩ := HA2.out _ rfl
          have hi2 : i + 1 < 1000 := by have := HLEN.out; omega
          have hH2 := celOf_ok hs' (i + 1) hi2 hk'
          have hmay := Cl.may_celOf hs' hk'.1
          rw [← hd] at hH2 hmay
          have HH2 := Lib.hid hH2
          have HMAY := Lib.hid hmay
          have HHD := Lib.hid (And.intro hd hk')
          clear hd hk' hH2 hmay HA2
          clear hold hbx hby hlx hly hox hoy HM6 HN6 HC6 HO6 HQ6
          obtain ⟨x0, x1, xf0, xf1, xl⟩ := HBX.out.facts
          obtain ⟨y0, y1, yf0, yf1, yl⟩ := HBY.out.facts
          go_wp2_with fail
          refine (rsame_any _ rl rl sx sy cx cy rv rv HBX.out.vers HBY.out.vers HH2.out.2.1 HH2.out.2.1).mono ?_
          rintro e w8 ⟨rfl, hb⟩
          rw [sameC_refl]
          replace HMC := Lib.hid (HMC.out.keep hb)
          replace HNC := Lib.hid (HNC.out.keep hb)
          replace HCC := Lib.hid (HCC.out.keep hb)
          replace HOC := Lib.hid (HOC.out.trans hb)
          replace HBX := Lib.hid (HBX.out.keep hb)
          replace HBY := Lib.hid (HBY.out.keep hb)
          clear hb x0 x1 xf0 xf1 xl y0 y1 yf0 yf1 yl
          obtain ⟨x0, x1, xf0, xf1, xl⟩ := HMC.out.facts
          obtain ⟨y0, y1, yf0, yf1, yl⟩ := HNC.out.facts
          go_wp2_with fail
          refine (rsame_any _ c.last c.last s3 s5 c3 c5 c.l c.l HMC.out.vers HNC.out.vers HH.out.2.1 HH.out.2.1).mono ?_
          rintro e w9 ⟨rfl, hb⟩
          rw [sameC_refl]
          replace HCC := Lib.hid (HCC.out.keep hb)
          replace HOC := Lib.hid (HOC.out.trans hb)
          replace HBX := Lib.hid (HBX.out.keep hb)
          replace HBY := Lib.hid (HBY.out.keep hb)
          clear hb x0 x1 xf0 xf1 xl y0 y1 yf0 yf1 yl HMC HNC
          obtain ⟨k0, k1, kf0, kf1, kl⟩ := HCC.out.facts
          obtain ⟨x0, x1, xf0, xf1, xl⟩ := HBX.out.facts
          obtain ⟨y0, y1, yf0, yf1, yl⟩ := HBY.out.facts
          have hnb1 : ¬ b = bx := by have := HLX.out; omega
          have hnb2 : ¬ b = b_ := by have := HLX.out; omega
          have hnb3 : ¬ bx = b := by omega
          have hnb4 : ¬ b_ = b := by omega
          go_wp2_with fail
          have hput := HCC.out.put (d := ⟨rl, rv⟩) HBY.out.vers HBY.out.nil (fun hk => by have := HOY.out b hk; omega)
          have hobx := HBX.out.other (b' := b) hnb1 (fun hk => by have := HOX.out b hk; omega) (.int .u64 rl) (.slice sy rv.length cy)
          have hoby := HBY.out.other (b' := b) hnb2 (fun hk => by have := HOY.out b hk; omega) (.int .u64 rl) (.slice sy rv.length cy)
          have hoo := (HOC.out.setCell (p := ⟨b, 0, none⟩) HB1.out (.int .u64 rl)).setCell (p := ⟨b, 1, none⟩) HB1.out (.slice sy rv.length cy)
          have HCP := Lib.hid hput
          replace HBX := Lib.hid hobx
          replace HBY := Lib.hid hoby
          replace HOC := Lib.hid hoo
          clear hput hobx hoby hoo HCC k0 k1 kf0 kf1 kl x0 x1 xf0 xf1 xl y0 y1 yf0 yf1 yl
          generalize (w9.setCell ⟨b, 0, none⟩ (.int .u64 rl)).setCell ⟨b, 1, none⟩ (.slice sy rv.length cy) = WB at *
          refine (read_any _ ⟨rl, rv⟩ sx cx n HBX.out.vers HH2.out.1 HH2.out.2.1 HH2.out.2.2 HNN.out).mono ?_
          rintro e wa ⟨rfl, hb⟩
          have HRR := Lib.hid (show ∃ q, Cl.read ⟨rl, rv⟩ n = q from ⟨_, rfl⟩)
          have HREF := Lib.hid (fun (wz : World) (hz : VersAt wz sy rv) => rread_any wz ⟨rl, rv⟩ sy cy n hz HH2.out.1 HH2.out.2.1 HH2.out.2.2 HNN.out)
          clear HRR
          generalize Cl.read ⟨rl, rv⟩ n = rr at *
          have hbb := hb.trans ((alloc_keep wa (.cells #[.int .u64 rr.1.n, .int .u8 rr.1.st, .string rr.1.t] 37 (0, 0))).mono hb.size)
          replace HCP := Lib.hid (HCP.out.keep hbb)
          replace HBX := Lib.hid (HBX.out.keep hbb)
          have HBY2 := Lib.hid (HBY.out.keep hb)
          replace HBY := Lib.hid (HBY.out.keep hbb)
          replace HOC := Lib.hid (HOC.out.trans hbb)
          have hV := heap_alloc_new wa (.cells #[.int .u64 rr.1.n, .int .u8 rr.1.st, .string rr.1.t] 37 (0, 0))
          have HVV := Lib.hid hV
          clear hb hbb hV
          obtain ⟨y0, y1, yf0, yf1, yl⟩ := HBY2.out.facts
          go_wp2_with fail
          refine (HREF.out _ HBY.out.vers).mono ?_
          rintro e wd ⟨rfl, hb⟩
          have hbb := hb.trans ((alloc_keep wd (.cells #[.int .u64 rr.1.n, .int .u8 rr.1.st, .string rr.1.t] 37 (0, 0))).mono hb.size)
          obtain ⟨v0, v1, v2⟩ := ver_cells ((hb.block _ (blk_lt HVV.out)).trans HVV.out)
          have vl := Nat.lt_of_lt_of_le (blk_lt HVV.out) hb.size
          replace HCP := Lib.hid (HCP.out.keep hbb)
          have HBX2 := Lib.hid (HBX.out.keep hb)
          replace HBX := Lib.hid (HBX.out.keep hbb)
          replace HOC := Lib.hid (HOC.out.trans hbb)
          clear hb hbb HBY2 y0 y1 yf0 yf1 yl
          obtain ⟨x0, x1, xf0, xf1, xl⟩ := HBX2.out.facts
          go_wp2_with fail
          refine (may_any _ ⟨rl, rv⟩ sx cx HBX.out.vers HH2.out.1 HH2.out.2.2 (Nat.le_trans HH2.out.2.1 (by decide))).mono ?_
          rintro e we ⟨rfl, hb⟩
          rw [HMAY.out]
          replace HCP := Lib.hid (HCP.out.keep hb)
          replace HOC := Lib.hid (HOC.out.trans hb)
          clear hb
          go_wp2_with fail
          go_roundw
          case rel => exact ⟨i + 1, by omega, rfl, hs', sy, cy, HHD.out.2, by rw [← HHD.out.1]; exact HCP.out, HOC.out, HOY.out⟩
          case measure => simp only [intOf]; omega
      · have hiI : (i : Int) = l.length := by omega
        clear hO hc hok hne
        go_wp2_with fail
        refine (works_any _).mono ?_
        rintro e w2 ⟨rfl, hb⟩
        have HO2 := Lib.hid (HO.out.trans hb)
        clear hb
        go_wp2_with fail
        go_ret
        exact ⟨rfl, HO2.out.below⟩

end Go.Proofs.Ytigbjmhlcacijaa
