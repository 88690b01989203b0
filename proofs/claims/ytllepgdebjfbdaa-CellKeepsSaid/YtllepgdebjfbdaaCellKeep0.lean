/-
  WHAT THE WALK OF CellKeeps LEANS ON: a cell, its texts, its states.
-/
import Derived.Test.YtllepgdebjfbdaaCellPlay0
import Derived.BigQuiet
namespace Go.Proofs.Ytllepgdebjfbdaa
open Go.RowKit
attribute [local go_sem ↓ high] appSem_eq

def hText (h : Nat × ByteArray) : Value := .string h.2
def hState (h : Nat × ByteArray) : Value := .int .u8 h.1
/-- A cell of a history, its texts, its states. -/
structure KpAt (w wr : World) (b : Nat) (hs : Cl.Hist) (a : Option Addr) (cap : Nat) (ta : Option Addr) (tcap : Nat) (sa : Option Addr) (scap : Nat) : Prop where
  box : wr.heap[b]? = some (.cells #[.int .u64 hs.length, .slice a (Cl.celOf hs).l.length cap] 25 (0, 0))
  cv : SliceIs wr 35 3 a (Cl.celOf hs).l.length cap ((Cl.celOf hs).l.map vcells).flatten
  cn : ∀ k ∈ blks a, b < k
  tv : SliceIs wr 9 1 ta hs.length tcap (hs.map hText)
  tn : ∀ k ∈ blks ta, b < k
  sv : SliceIs wr 5 1 sa hs.length scap (hs.map hState)
  sn : ∀ k ∈ blks sa, b < k
  own : Own w.heap.size w wr
theorem KpAt.keep {w wr wx : World} {b : Nat} {hs : Cl.Hist} {a ta sa : Option Addr} {cap tcap scap : Nat} (h : KpAt w wr b hs a cap ta tcap sa scap) (hb : Below wr.heap.size wr wx) : KpAt w wx b hs a cap ta tcap sa scap :=
  ⟨(hb.block _ (blk_lt h.box)).trans h.box, h.cv.keep fun k hk => hb.block k (h.cv.lt k hk), h.cn, h.tv.keep fun k hk => hb.block k (h.tv.lt k hk), h.tn, h.sv.keep fun k hk => hb.block k (h.sv.lt k hk), h.sn, h.own.trans hb⟩
theorem KpAt.cbox {w wr : World} {b : Nat} {hs : Cl.Hist} {a ta sa : Option Addr} {cap tcap scap : Nat} (h : KpAt w wr b hs a cap ta tcap sa scap) : CBox wr b (Cl.celOf hs) a cap :=
  ⟨h.box, h.cv.rowF (vcells_len _) (by simp), fun e => by subst e; exact h.cv.nil_cap⟩
theorem SliceIs.apart {w : World} {e1 e2 s1 s2 n1 n2 c1 c2 : Nat} {a1 a2 : Option Addr} {x1 x2 : List Value} (h1 : SliceIs w e1 s1 a1 n1 c1 x1) (h2 : SliceIs w e2 s2 a2 n2 c2 x2) (he : e1 ≠ e2) : ∀ k ∈ blks a1, k ∉ blks a2 := fun k hk => by
  rcases h1.2 with ⟨rfl, _⟩ | ⟨g, off, cur, rfl, hg, _⟩
  · simp at hk
  · simp at hk; subst hk; exact h2.ne hg he
theorem strInfo : (Try.prog.info? 9).map (fun i => (i.zero, i.size, i.bytes)) = some (some (.string ⟨#[]⟩), 1, 16) := by kernel_rfl
theorem byteInfo : (Try.prog.info? 5).map (fun i => (i.zero, i.size, i.bytes)) = some (some (.int .u8 0), 1, 1) := by kernel_rfl
/-- One element more, in a slice of the call's own. -/
theorem app_one {T E : TypeId} {z : Value} {bytes : Nat} (hI : (Try.prog.info? E).map (fun i => (i.zero, i.size, i.bytes)) = some (some z, 1, bytes)) (ht : Try.prog.underlying T = some (.slice E)) (hzs : z.cells.size = 1) (hb : bytes ≤ 256)
    (w : World) (sa : Option Addr) (n cap : Nat) (xs : List Value) (hS : SliceIs w E 1 sa n cap xs) (v : Value) (hv : v.oneCell' = true) (hn : n ≤ 1000000) :
    ∃ s' cap' w', (appSem #[T, T] T #[.slice sa n cap, .slice (some ⟨w.heap.size, 0, none⟩) 1 1]).run Try.prog (w.alloc (.cells #[v] E (0, 0))) = .ok (.slice s' (n + 1) cap') w' ∧ SliceIs w' E 1 s' (n + 1) cap' (xs ++ [v]) ∧ Upd w w' (blks sa) ∧ (∀ k ∈ blks s', k ∈ blks sa ∨ w.heap.size ≤ k) := by
  obtain ⟨i0, hi, hz0, hz1, hz2⟩ := info_parts hI
  have hrow : RowIs (w.alloc (.cells #[v] E (0, 0))) 1 (some ⟨w.heap.size, 0, none⟩) [[v]] := fun i hi => by
    have : i = 0 := by simp at hi; omega
    subst this
    exact ⟨w.heap.size, 0, rfl, CellsAt.new w [v] E (0, 0)⟩
  obtain ⟨s', cap', w', hr, hs, hu, hk⟩ := append_row (P := Try.prog) ht hi hz0 hz1 hz2 hzs (by decide) (w.alloc (.cells #[v] E (0, 0))) sa n cap xs (hS.alloc _) (some ⟨w.heap.size, 0, none⟩) 1 [[v]] hrow (by simp) (by simpa using hv) (by simp; omega) hb (by simp)
  exact ⟨s', cap', w', hr, by simpa using hs, ((Upd.refl w (blks sa)).alloc _).trans hu (fun k hk => .inl hk), fun k hk' => (hk k hk').imp id fun h => by simp at h; omega⟩
/-- One text, and its state, more. -/
theorem kp_more {w W : World} {b n : Nat} {hs : Cl.Hist} {d : Cl.Cel} {a ta sa : Option Addr} {cap tcap scap : Nat} {st : Nat} {t : ByteArray} (hn : hs.length = n) (hn2 : n ≤ 1000) (hd : d = Cl.celOf (hs ++ [(st, t)]))
    (box : W.heap[b]? = some (.cells #[.int .u64 d.last, .slice a d.l.length cap] 25 (0, 0))) (cv : SliceIs W 35 3 a d.l.length cap (d.l.map vcells).flatten) (cn : ∀ k ∈ blks a, b < k)
    (tv : SliceIs W 9 1 ta n tcap (hs.map hText)) (tn : ∀ k ∈ blks ta, b < k) (sv : SliceIs W 5 1 sa n scap (hs.map hState)) (sn : ∀ k ∈ blks sa, b < k) (own : Own w.heap.size w W) (hwb : w.heap.size ≤ b) :
    ∃ ta' tcap' w6 sa' scap' w7, (appSem #[44, 44] 44 #[.slice ta n tcap, .slice (some ⟨W.heap.size, 0, none⟩) 1 1]).run Try.prog (W.alloc (.cells #[.string t] 9 (0, 0))) = .ok (.slice ta' (n + 1) tcap') w6 ∧
      (appSem #[45, 45] 45 #[.slice sa n scap, .slice (some ⟨w6.heap.size, 0, none⟩) 1 1]).run Try.prog (w6.alloc (.cells #[.int .u8 st] 5 (0, 0))) = .ok (.slice sa' (n + 1) scap') w7 ∧
      KpAt w w7 b (hs ++ [(st, t)]) a cap ta' tcap' sa' scap' := by
  subst hn hd
  have hlb := blk_lt box
  obtain ⟨ta', tcap', w6, hr6, hs6, hu6, hk6⟩ := app_one strInfo Try.underlying44 rfl (by decide) W ta _ tcap _ tv (.string t) rfl (by omega)
  have sv6 : SliceIs w6 5 1 sa hs.length scap (hs.map hState) := sv.keep fun k hk => hu6.keep k (sv.lt k hk) (sv.apart tv (by decide) k hk)
  have cv6 := cv.keep (w' := w6) fun k hk => hu6.keep k (cv.lt k hk) (cv.apart tv (by decide) k hk)
  have box6 := (hu6.keep b hlb (fun h => by have := tn b h; omega)).trans box
  have tn6 : ∀ k ∈ blks ta', b < k := fun k hk => (hk6 k hk).elim (tn k) (fun h => by omega)
  obtain ⟨sa', scap', w7, hr7, hs7, hu7, hk7⟩ := app_one byteInfo Try.underlying45 rfl (by decide) w6 sa _ scap _ sv6 (.int .u8 st) rfl (by omega)
  have hlb6 := blk_lt box6
  refine ⟨ta', tcap', w6, sa', scap', w7, hr6, hr7, ?_, ?_, cn, ?_, tn6, ?_, fun k hk => (hk7 k hk).elim (sn k) (fun h => by omega), ?_⟩
  · have e : ((Cl.celOf (hs ++ [(st, t)])).last : Int) = (((hs ++ [(st, t)]).length : Nat) : Int) := rfl
    rw [← e]
    exact (hu7.keep b hlb6 (fun h => by have := sn b h; omega)).trans box6
  · exact cv6.keep fun k hk => hu7.keep k (cv6.lt k hk) (cv6.apart sv6 (by decide) k hk)
  · have := hs6.keep (w' := w7) fun k hk => hu7.keep k (hs6.lt k hk) (hs6.apart sv6 (by decide) k hk)
    simpa [hText] using this
  · simpa [hState] using hs7
  · exact (own.upd hu6 (fun k hk => by have := tn k hk; omega)).upd hu7 (fun k hk => by have := sn k hk; omega)
/-- A state is turned. -/
theorem SliceIs.set1 {w : World} {e g off n cap : Nat} {xs : List Value} (h : SliceIs w e 1 (some ⟨g, off, none⟩) n cap xs) (k : Nat) (v : Value) : SliceIs (w.setCell ⟨g, off + k, none⟩ v) e 1 (some ⟨g, off, none⟩) n cap (xs.set k v) := by
  rcases h.2 with ⟨h', _⟩ | ⟨g', off', cur, h', hg, r1, r2, r3, r4⟩
  · cases h'
  cases h'
  refine ⟨by rw [List.length_set]; exact h.1, .inr ⟨g, off, _, rfl, setCell_row (k := off + k) hg v, r1, r2, by simpa using r3, ?_⟩⟩
  rw [← r4]
  simp only [Array.set!_eq_setIfInBounds, Array.toList_setIfInBounds]
  rw [drop_take_set]
theorem KpAt.putNo {w wr : World} {b : Nat} {hs : Cl.Hist} {a ta sa s4 : Option Addr} {cap tcap scap c4 : Nat} (h : KpAt w wr b hs a cap ta tcap sa scap) (hs4 : SliceIs wr 35 3 s4 (Cl.celOf hs).l.length c4 ((Cl.celOf hs).l.map vcells).flatten) (hn : ∀ k ∈ blks s4, b < k) (hb : w.heap.size ≤ b) :
    KpAt w ((wr.setCell ⟨b, 0, none⟩ (.int .u64 (Cl.celOf hs).last)).setCell ⟨b, 1, none⟩ (.slice s4 (Cl.celOf hs).l.length c4)) b hs s4 c4 ta tcap sa scap :=
  ⟨setCel h.box _ _ _ _, hs4.keep fun k hk => set_other _ (by have := hn k hk; omega) _ _, hn, h.tv.keep fun k hk => set_other _ (by have := h.tn k hk; omega) _ _, h.tn, h.sv.keep fun k hk => set_other _ (by have := h.sn k hk; omega) _ _, h.sn,
    (h.own.setCell (p := ⟨b, 0, none⟩) hb _).setCell (p := ⟨b, 1, none⟩) hb _⟩
theorem SliceIs.stateAt {w : World} {sa : Option Addr} {scap : Nat} {hs : Cl.Hist} (h : SliceIs w 5 1 sa hs.length scap (hs.map hState)) (k : Nat) (hk : k < hs.length) :
    ∃ g off, sa = some ⟨g, off, none⟩ ∧ w.cell? ⟨g, off + k, none⟩ = some (.int .u8 (hs[k]).1) ∧ w.frozen? ⟨g, off + k, none⟩ = false ∧ g < w.heap.size := by
  obtain ⟨g, off, rfl⟩ := h.there (by omega)
  have hc := h.cells.cell k (by simpa using hk)
  refine ⟨g, off, rfl, by simpa [hState] using hc, ?_, h.lt g (by simp)⟩
  rcases h.2 with ⟨h', _⟩ | ⟨g', off', cur, h', hg, _⟩
  · cases h'
  cases h'
  exact frozen_of_row w g _ _ _ hg
theorem SliceIs.textAt {w : World} {sa : Option Addr} {scap : Nat} {hs : Cl.Hist} (h : SliceIs w 9 1 sa hs.length scap (hs.map hText)) (k : Nat) (hk : k < hs.length) :
    ∃ g off, sa = some ⟨g, off, none⟩ ∧ w.cell? ⟨g, off + k, none⟩ = some (.string (hs[k]).2) ∧ g < w.heap.size := by
  obtain ⟨g, off, rfl⟩ := h.there (by omega)
  have hc := h.cells.cell k (by simpa using hk)
  exact ⟨g, off, rfl, by simpa [hText] using hc, h.lt g (by simp)⟩
theorem KpAt.putLive {w wr : World} {b kk gs os : Nat} {hs : Cl.Hist} {a ta s4 : Option Addr} {cap tcap scap c4 : Nat} (h : KpAt w wr b hs a cap ta tcap (some ⟨gs, os, none⟩) scap) (hk : kk < hs.length) (d : Cl.Cel) (hd : d = Cl.celOf (hs.set kk (3, (hs[kk]).2)))
    (hs4 : SliceIs wr 35 3 s4 d.l.length c4 (d.l.map vcells).flatten) (hn : ∀ k ∈ blks s4, b < k) (hgs : gs ∉ blks s4) (hb : w.heap.size ≤ b) :
    KpAt w (((wr.setCell ⟨gs, os + kk, none⟩ (.int .u8 3)).setCell ⟨b, 0, none⟩ (.int .u64 d.last)).setCell ⟨b, 1, none⟩ (.slice s4 d.l.length c4)) b (hs.set kk (3, (hs[kk]).2)) s4 c4 ta tcap (some ⟨gs, os, none⟩) scap := by
  have hgb : b < gs := h.sn gs (by simp)
  have hlen : (hs.set kk (3, (hs[kk]).2)).length = hs.length := by simp
  have e : (d.last : Int) = (((hs.set kk (3, (hs[kk]).2)).length : Nat) : Int) := by rw [hd]; rfl
  have hl : d.l.length = (Cl.celOf (hs.set kk (3, (hs[kk]).2))).l.length := by rw [hd]
  have h1 : (wr.setCell ⟨gs, os + kk, none⟩ (.int .u8 3)).heap[b]? = _ := (Below.heap_setCell _ _ _ _ (by simp; omega)).trans h.box
  have tn' : gs ∉ blks ta := h.sv.apart h.tv (by decide) gs (by simp)
  refine ⟨?_, ?_, hn, ?_, h.tn, ?_, h.sn, ?_⟩
  · rw [← e, ← hl]; exact setCel h1 _ _ _ _
  · rw [← hd]
    exact (hs4.keep (w' := wr.setCell ⟨gs, os + kk, none⟩ (.int .u8 3)) fun k hk => Below.heap_setCell _ _ _ _ (by simp; intro e; subst e; exact hgs hk)).keep fun k hk => set_other _ (by have := hn k hk; omega) _ _
  · have e2 : (hs.set kk (3, (hs[kk]).2)).map hText = hs.map hText := by
      rw [List.map_set]
      have : hText (3, (hs[kk]).2) = (hs.map hText)[kk]'(by simpa using hk) := by simp [hText]
      rw [this, List.set_getElem_self]
    rw [e2, hlen]
    exact (h.tv.keep (w' := wr.setCell ⟨gs, os + kk, none⟩ (.int .u8 3)) fun k hk => Below.heap_setCell _ _ _ _ (by simp; intro e; subst e; exact tn' hk)).keep fun k hk => set_other _ (by have := h.tn k hk; omega) _ _
  · have e3 : (hs.set kk (3, (hs[kk]).2)).map hState = (hs.map hState).set kk (.int .u8 3) := by rw [List.map_set]; rfl
    rw [e3, hlen]
    exact (h.sv.set1 kk (.int .u8 3)).keep fun k hk => set_other _ (by have := h.sn k hk; omega) _ _
  · exact ((h.own.setCell (p := ⟨gs, os + kk, none⟩) (by simp; omega) _).setCell (p := ⟨b, 0, none⟩) hb _).setCell (p := ⟨b, 1, none⟩) hb _
open Cl in
theorem put_fine (hs : Hist) (ok : ∀ h ∈ hs, okH h) (hl : hs.length ≤ 1000) (any : Bool) (want : Nat) (t : ByteArray) : ∃ d re fine, put (celOf hs) any want t = (d, re) ∧ (fine = ((any || decide (want = now (celOf hs))) && decide (t.size ≤ 4096))) ∧ re ≤ 171 ∧
    ((fine = true ∧ re = 0 ∧ d = celOf (hs ++ [(1, t)]) ∧ okH (1, t)) ∨ (fine = false ∧ re ≠ 0 ∧ d = celOf hs)) := by
  rw [put_celOf hs ok (by omega)]
  by_cases h1 : 4096 < t.size
  · rw [if_pos h1]; exact ⟨_, _, false, rfl, by simp; omega, by decide, .inr ⟨rfl, by decide, rfl⟩⟩
  · rw [if_neg h1]
    by_cases h2 : any = false ∧ want ≠ now (celOf hs)
    · rw [if_pos h2]; exact ⟨_, _, false, rfl, by simp [h2.1, h2.2], by decide, .inr ⟨rfl, by decide, rfl⟩⟩
    · rw [if_neg h2]
      refine ⟨_, _, true, rfl, ?_, by decide, .inl ⟨rfl, rfl, rfl, Nat.le_refl 1, (show 1 ≤ 3 by decide), fun _ => (show t.size ≤ 4096 by omega)⟩⟩
      cases any with
      | true => simp; omega
      | false => simp at h2; simp [h2]; omega
open Cl in
theorem delete_fine (hs : Hist) (ok : ∀ h ∈ hs, okH h) (hl : hs.length ≤ 1000) (any : Bool) (want : Nat) : ∃ d re fine, delete (celOf hs) any want = (d, re) ∧ (fine = ((any || decide (want = now (celOf hs))) && decide (0 < now (celOf hs)))) ∧ re ≤ 171 ∧
    ((fine = true ∧ re = 0 ∧ d = celOf (hs ++ [(2, ⟨#[]⟩)]) ∧ okH (2, ⟨#[]⟩)) ∨ (fine = false ∧ re ≠ 0 ∧ d = celOf hs)) := by
  rw [delete_celOf hs ok (by omega)]
  by_cases h1 : now (celOf hs) = 0
  · rw [if_pos h1]; exact ⟨_, _, false, rfl, by simp [h1], by decide, .inr ⟨rfl, by decide, rfl⟩⟩
  · rw [if_neg h1]
    by_cases h2 : any = false ∧ want ≠ now (celOf hs)
    · rw [if_pos h2]; exact ⟨_, _, false, rfl, by simp [h2.1, h2.2], by decide, .inr ⟨rfl, by decide, rfl⟩⟩
    · rw [if_neg h2]
      refine ⟨_, _, true, rfl, ?_, by decide, .inl ⟨rfl, rfl, rfl, (show 1 ≤ 2 by decide), (show 2 ≤ 3 by decide), fun e => by cases e⟩⟩
      cases any with
      | true => simp; omega
      | false => simp at h2; simp [h2]; omega
def KpIs (w : World) (i b : Nat) (hs : Cl.Hist) (vt vs : Value) (wr : World) : Prop := ∃ a cap ta tcap sa scap, Cl.okHs hs i ∧ vt = .slice ta hs.length tcap ∧ vs = .slice sa hs.length scap ∧ KpAt w wr b hs a cap ta tcap sa scap


end Go.Proofs.Ytllepgdebjfbdaa
