/-
  THE WALK of the document's answer for layer 9: Copy.
-/
import Derived.Test.YtickdhlhafifhaaDiskRef7
import Derived.Deep.RegionWith
namespace Go.Proofs.Ytickdhlhafifhaa
open Go.RowKit

attribute [local go_sem ↓ high] appSem_eq

/-- What a copy of the answer's disk comes to: two rows, in memory W. -/
structure Twin (w W : World) (d : Dk.D) (sa : Option Addr) (sc : Nat) (la : Option Addr) (lc : Nat) : Prop where
  sure : SliceIs W 9 1 sa d.n sc (d.sure.map Value.string)
  loose : SliceIs W 73 4 la d.loose.length lc (d.loose.map ccells).flatten
  own : Own w.heap.size w W
  fl : ∀ k ∈ blks la, w.heap.size ≤ k
theorem Twin.box {w W : World} {d : Dk.D} {sa la : Option Addr} {sc lc : Nat} (h : Twin w W d sa sc la lc) :
    RBox (W.alloc (.cells #[.slice sa d.n sc, .slice la d.loose.length lc, .int .i64 d.room, .int .i64 d.fuse] 71 (0, 0))) W.heap.size d sa sc la lc ∧ Own w.heap.size w (W.alloc (.cells #[.slice sa d.n sc, .slice la d.loose.length lc, .int .i64 d.room, .int .i64 d.fuse] 71 (0, 0))) :=
  ⟨⟨heap_alloc_new W _, h.sure.alloc _, h.loose.alloc _⟩, h.own.alloc _⟩
def QCells (w V : World) (q : Nat) : Prop := V.cell? ⟨q, 0, none⟩ = w.cell? ⟨q, 0, none⟩ ∧ V.cell? ⟨q, 1, none⟩ = w.cell? ⟨q, 1, none⟩ ∧ V.cell? ⟨q, 2, none⟩ = w.cell? ⟨q, 2, none⟩ ∧ V.cell? ⟨q, 3, none⟩ = w.cell? ⟨q, 3, none⟩
structure SRow (w W V : World) (d : Dk.D) (p : Nat) (s : Option Addr) (k : Nat) : Prop where
  row : SliceIs V 9 1 s d.n k (d.sure.map Value.string)
  own : Own w.heap.size w V
  upd : Upd W V [p]
  new : ∀ z ∈ blks s, z = p ∨ W.heap.size ≤ z
structure CRow (w W V : World) (d : Dk.D) (p : Nat) (s : Option Addr) (k : Nat) : Prop where
  row : SliceIs V 73 4 s d.loose.length k (d.loose.map ccells).flatten
  own : Own w.heap.size w V
  upd : Upd W V [p]
  new : ∀ z ∈ blks s, z = p ∨ W.heap.size ≤ z
section
variable {w : World} {q : Nat} {d : Dk.D} {sa la : Option Addr} {sc lc : Nat}
theorem RBox.cellsAt (h : RBox w q d sa sc la lc) {V : World} (hO : Own w.heap.size w V) : V.cell? ⟨q, 0, none⟩ = some (.slice sa d.n sc) ∧ V.cell? ⟨q, 1, none⟩ = some (.slice la d.loose.length lc) ∧ V.cell? ⟨q, 2, none⟩ = some (.int .i64 d.room) ∧ V.cell? ⟨q, 3, none⟩ = some (.int .i64 d.fuse) := by
  obtain ⟨c0, c1, c2, c3, _, _, _, _⟩ := (h.keep hO.below).facts
  exact ⟨c0, c1, c2, c3⟩
theorem one_s (h : RBox w q d sa sc la lc) (hn : d.n ≤ 1000000) (W : World) (hO : Own w.heap.size w W) (p : Nat) (hp : w.heap.size ≤ p) (he : W.heap[p]? = some (.cells #[] 9 (0, 0))) : ∃ s k V, (appSem #[34, 34] 34 #[.slice (some ⟨p, 0, none⟩) 0 0, .slice sa d.n sc]).run Try.prog W = .ok (.slice s d.n k) V ∧ SRow w W V d p s k := by
  obtain ⟨s, k, V, hr, hs, hu, hk⟩ := copy_sAt W p he sa d.n sc d.sure (h.keep hO.below).sure rfl hn
  exact ⟨s, k, V, hr, hs, hO.upd hu (by simpa using hp), hu, hk⟩
theorem one_c (h : RBox w q d sa sc la lc) (hn : d.loose.length ≤ 1000000) (W : World) (hO : Own w.heap.size w W) (p : Nat) (hp : w.heap.size ≤ p) (he : W.heap[p]? = some (.cells #[] 73 (0, 0))) : ∃ s k V, (appSem #[69, 69] 69 #[.slice (some ⟨p, 0, none⟩) 0 0, .slice la d.loose.length lc]).run Try.prog W = .ok (.slice s d.loose.length k) V ∧ CRow w W V d p s k := by
  obtain ⟨s, k, V, hr, hs, hu, hk⟩ := copy_cAt W p he la d.loose.length lc d.loose (h.keep hO.below).loose rfl hn
  exact ⟨s, k, V, hr, hs, hO.upd hu (by simpa using hp), hu, hk⟩
theorem tw_sc {W V W2 V2 : World} {p p2 : Nat} {s s2 : Option Addr} {k k2 : Nat} (h1 : SRow w W V d p s k) (h2 : CRow w W2 V2 d p2 s2 k2) (hB : Below V.heap.size V W2) (hW : w.heap.size ≤ W2.heap.size) (hp2 : w.heap.size ≤ p2) (hne : ∀ z ∈ blks s, z ≠ p2) : Twin w V2 d s k s2 k2 :=
  ⟨(h1.row.keep fun z hz => hB.block z (h1.row.lt z hz)).keep fun z hz => h2.upd.keep z (Nat.lt_of_lt_of_le (h1.row.lt z hz) hB.size) (by simpa using hne z hz), h2.row, h2.own, fun z hz => (h2.new z hz).elim (fun e => by omega) (fun e => by omega)⟩
theorem tw_cs {W V W2 V2 : World} {p p2 : Nat} {s s2 : Option Addr} {k k2 : Nat} (h1 : CRow w W V d p s k) (h2 : SRow w W2 V2 d p2 s2 k2) (hB : Below V.heap.size V W2) (hW : w.heap.size ≤ W.heap.size) (hp : w.heap.size ≤ p) (hne : ∀ z ∈ blks s, z ≠ p2) : Twin w V2 d s2 k2 s k :=
  ⟨h2.row, (h1.row.keep fun z hz => hB.block z (h1.row.lt z hz)).keep fun z hz => h2.upd.keep z (Nat.lt_of_lt_of_le (h1.row.lt z hz) hB.size) (by simpa using hne z hz), h2.own, fun z hz => (h1.new z hz).elim (fun e => by omega) (fun e => by omega)⟩
end
set_option maxRecDepth 20000 in
set_option maxHeartbeats 4000000 in
theorem rcopy {w : World} {q : Nat} {d : Dk.D} {sa la : Option Addr} {sc lc : Nat} (h : RBox w q d sa sc la lc) (ok : d.ok) (hl : d.loose.length ≤ 100000) :
    Calls Try.prog 30 #[.pointer (some ⟨q, 0, none⟩)] w fun e w' => ∃ q2 sa2 sc2 la2 lc2, e = .returned (.pointer (some ⟨q2, 0, none⟩)) ∧ RBox w' q2 d sa2 sc2 la2 lc2 ∧ Below w.heap.size w w' ∧ w.heap.size ≤ q2 ∧ ∀ k ∈ blks la2, w.heap.size ≤ k := by
  obtain ⟨c0, c1, c2, c3, f0, f1, f3, hq⟩ := h.facts
  have hdn : d.n ≤ 1000000 := by have := ok.n2; omega
  have hll : d.loose.length ≤ 1000000 := by omega
  have o1 : Own w.heap.size w (w.alloc (.cells #[] 9 (0, 0))).drew := ((Own.refl w).alloc _).drew
  have o2 : Own w.heap.size w ((w.alloc (.cells #[] 9 (0, 0))).alloc (.cells #[] 73 (0, 0))).drew := (((Own.refl w).alloc _).alloc _).drew
  have o3 : Own w.heap.size w (w.alloc (.cells #[] 73 (0, 0))).drew := ((Own.refl w).alloc _).drew
  have o4 : Own w.heap.size w ((w.alloc (.cells #[] 73 (0, 0))).alloc (.cells #[] 9 (0, 0))).drew := (((Own.refl w).alloc _).alloc _).drew
  obtain ⟨sA1, kA1, VA1, rA1, RA1⟩ := one_s h hdn (w.alloc (.cells #[] 9 (0, 0))).drew o1 w.heap.size (by omega) (heap_alloc_new w _)
  obtain ⟨sA2, kA2, VA2, rA2, RA2⟩ := one_c h hll (VA1.alloc (.cells #[] 73 (0, 0))) (RA1.own.alloc _) VA1.heap.size (by have := RA1.own.size; omega) (heap_alloc_new VA1 _)
  obtain ⟨sB1, kB1, VB1, rB1, RB1⟩ := one_s h hdn ((w.alloc (.cells #[] 9 (0, 0))).alloc (.cells #[] 73 (0, 0))).drew o2 w.heap.size (by omega) (heap_alloc2_old w _ _)
  obtain ⟨sB2, kB2, VB2, rB2, RB2⟩ := one_c h hll VB1 RB1.own (w.heap.size + 1) (by have := RB1.own.size; omega) ((RB1.upd.keep (w.heap.size + 1) (by simp) (by simp)).trans (heap_alloc2_new w _ _))
  obtain ⟨sC1, kC1, VC1, rC1, RC1⟩ := one_c h hll ((w.alloc (.cells #[] 9 (0, 0))).alloc (.cells #[] 73 (0, 0))).drew o2 (w.heap.size + 1) (by omega) (heap_alloc2_new w _ _)
  obtain ⟨sC2, kC2, VC2, rC2, RC2⟩ := one_s h hdn VC1 RC1.own w.heap.size (by have := RC1.own.size; omega) ((RC1.upd.keep w.heap.size (by simp; omega) (by simp)).trans (heap_alloc2_old w _ _))
  obtain ⟨sD1, kD1, VD1, rD1, RD1⟩ := one_c h hll (w.alloc (.cells #[] 73 (0, 0))).drew o3 w.heap.size (by omega) (heap_alloc_new w _)
  obtain ⟨sD2, kD2, VD2, rD2, RD2⟩ := one_s h hdn (VD1.alloc (.cells #[] 9 (0, 0))) (RD1.own.alloc _) VD1.heap.size (by have := RD1.own.size; omega) (heap_alloc_new VD1 _)
  obtain ⟨sE1, kE1, VE1, rE1, RE1⟩ := one_c h hll ((w.alloc (.cells #[] 73 (0, 0))).alloc (.cells #[] 9 (0, 0))).drew o4 w.heap.size (by omega) (heap_alloc2_old w _ _)
  obtain ⟨sE2, kE2, VE2, rE2, RE2⟩ := one_s h hdn VE1 RE1.own (w.heap.size + 1) (by have := RE1.own.size; omega) ((RE1.upd.keep (w.heap.size + 1) (by simp) (by simp)).trans (heap_alloc2_new w _ _))
  obtain ⟨sF1, kF1, VF1, rF1, RF1⟩ := one_s h hdn ((w.alloc (.cells #[] 73 (0, 0))).alloc (.cells #[] 9 (0, 0))).drew o4 (w.heap.size + 1) (by omega) (heap_alloc2_new w _ _)
  obtain ⟨sF2, kF2, VF2, rF2, RF2⟩ := one_c h hll VF1 RF1.own w.heap.size (by have := RF1.own.size; omega) ((RF1.upd.keep w.heap.size (by simp; omega) (by simp)).trans (heap_alloc2_old w _ _))
  have TA := Lib.hid (tw_sc RA1 RA2 ((Own.refl VA1).alloc _).below (by have := RA1.own.size; simp; omega) (by have := RA1.own.size; omega) (fun z hz e => by have := RA1.row.lt z hz; omega))
  have TB := Lib.hid (tw_sc RB1 RB2 (Below.refl _ _) (by have := RB1.own.size; omega) (by have := RB1.own.size; omega) (fun z hz e => by rcases RB1.new z hz with h | h <;> first | omega | (simp at h; omega)))
  have TC := Lib.hid (tw_cs RC1 RC2 (Below.refl _ _) (by simp; omega) (by omega) (fun z hz e => by rcases RC1.new z hz with h | h <;> first | omega | (simp at h; omega)))
  have TD := Lib.hid (tw_cs RD1 RD2 ((Own.refl VD1).alloc _).below (by simp) (by omega) (fun z hz e => by have := RD1.row.lt z hz; omega))
  have TE := Lib.hid (tw_cs RE1 RE2 (Below.refl _ _) (by simp; omega) (by omega) (fun z hz e => by rcases RE1.new z hz with h | h <;> first | omega | (simp at h; omega)))
  have TF := Lib.hid (tw_sc RF1 RF2 (Below.refl _ _) (by have := RF1.own.size; omega) (by have := RF1.own.size; omega) (fun z hz e => by rcases RF1.new z hz with h | h <;> first | omega | (simp at h; omega)))
  have qA1 := (h.keep RA1.own.below).facts.2.2.2.2.2.2.2
  obtain ⟨xA10, xA11, xA12, xA13⟩ := h.cellsAt RA1.own
  have qA2 := (h.keep RA2.own.below).facts.2.2.2.2.2.2.2
  obtain ⟨xA20, xA21, xA22, xA23⟩ := h.cellsAt RA2.own
  have qB1 := (h.keep RB1.own.below).facts.2.2.2.2.2.2.2
  obtain ⟨xB10, xB11, xB12, xB13⟩ := h.cellsAt RB1.own
  have qB2 := (h.keep RB2.own.below).facts.2.2.2.2.2.2.2
  obtain ⟨xB20, xB21, xB22, xB23⟩ := h.cellsAt RB2.own
  have qC1 := (h.keep RC1.own.below).facts.2.2.2.2.2.2.2
  obtain ⟨xC10, xC11, xC12, xC13⟩ := h.cellsAt RC1.own
  have qC2 := (h.keep RC2.own.below).facts.2.2.2.2.2.2.2
  obtain ⟨xC20, xC21, xC22, xC23⟩ := h.cellsAt RC2.own
  have qD1 := (h.keep RD1.own.below).facts.2.2.2.2.2.2.2
  obtain ⟨xD10, xD11, xD12, xD13⟩ := h.cellsAt RD1.own
  have qD2 := (h.keep RD2.own.below).facts.2.2.2.2.2.2.2
  obtain ⟨xD20, xD21, xD22, xD23⟩ := h.cellsAt RD2.own
  have qE1 := (h.keep RE1.own.below).facts.2.2.2.2.2.2.2
  obtain ⟨xE10, xE11, xE12, xE13⟩ := h.cellsAt RE1.own
  have qE2 := (h.keep RE2.own.below).facts.2.2.2.2.2.2.2
  obtain ⟨xE20, xE21, xE22, xE23⟩ := h.cellsAt RE2.own
  have qF1 := (h.keep RF1.own.below).facts.2.2.2.2.2.2.2
  obtain ⟨xF10, xF11, xF12, xF13⟩ := h.cellsAt RF1.own
  have qF2 := (h.keep RF2.own.below).facts.2.2.2.2.2.2.2
  obtain ⟨xF20, xF21, xF22, xF23⟩ := h.cellsAt RF2.own
  clear RA1 RA2 RB1 RB2 RC1 RC2 RD1 RD2 RE1 RE2 RF1 RF2 o1 o2 o3 o4 h ok hl hdn hll
  go_enter Try.func30, Try.ntmps30
  go_wp2_with fail
  go_region
  all_goals go_wp2_with fail
  all_goals go_ret
  all_goals first | exact ⟨_, _, _, _, _, rfl, TA.out.box.1, TA.out.box.2.below, TA.out.own.size, TA.out.fl⟩ | exact ⟨_, _, _, _, _, rfl, TB.out.box.1, TB.out.box.2.below, TB.out.own.size, TB.out.fl⟩ | exact ⟨_, _, _, _, _, rfl, TC.out.box.1, TC.out.box.2.below, TC.out.own.size, TC.out.fl⟩ | exact ⟨_, _, _, _, _, rfl, TD.out.box.1, TD.out.box.2.below, TD.out.own.size, TD.out.fl⟩ | exact ⟨_, _, _, _, _, rfl, TE.out.box.1, TE.out.box.2.below, TE.out.own.size, TE.out.fl⟩ | exact ⟨_, _, _, _, _, rfl, TF.out.box.1, TF.out.box.2.below, TF.out.own.size, TF.out.fl⟩

end Go.Proofs.Ytickdhlhafifhaa
