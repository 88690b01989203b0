/-
  THE WALKS: slices.AppendSeq, Collect, SortedFunc at what maps.Keys hands back.
-/
import Derived.Test.YtjanjjkgnilhoaaGreatDoorLkKeys
import Derived.Test.YtjanjjkgnilhoaaGreatDoorLkTake
namespace Go.Proofs.YtjanjjkgnilhoaaGreatDoor
open Go.RowKit Go.Maps Go.Shelf

attribute [local go_sem] Oper.semAt_some

theorem own_grown {B C : Nat} {w W W' : World} {row : Option Nat} (h : Own B w W) (hB : B ≤ C) (hg : W.grownBy W' row) (hr : ∀ r, row = some r → C ≤ r ∧ ∃ o : Obj, W.heap[r]? = some o ∧ o.isCells = false) : Own B w W' :=
  h.upd (F := row.toList) ⟨hg.os, hg.tape, hg.output, hg.size, fun k hk hF => hg.block k hk (fun e => hF (by rw [← e]; simp))⟩ (fun x hx => by have := (hr x (by simpa using hx)).1; omega)
theorem cells_grown {C : Nat} {W W' : World} {row : Option Nat} (hg : W.grownBy W' row) (hr : ∀ r, row = some r → C ≤ r ∧ ∃ o : Obj, W.heap[r]? = some o ∧ o.isCells = false) {k : Nat} {cs : Array Value} {t : TypeId} {fr : Nat × Nat}
    (hk : W.heap[k]? = some (.cells cs t fr)) : W'.heap[k]? = W.heap[k]? := by
  refine hg.block k (blk_lt hk) (fun e => ?_)
  obtain ⟨_, o, ho, hc⟩ := hr k e.symm
  rw [hk] at ho; cases ho; cases hc
theorem slice_grown {C : Nat} {W W' : World} {row : Option Nat} (hg : W.grownBy W' row) (hr : ∀ r, row = some r → C ≤ r ∧ ∃ o : Obj, W.heap[r]? = some o ∧ o.isCells = false) {e : TypeId} {size : Nat} {a : Option Addr} {n cap : Nat} {xs : List Value}
    (h : SliceIs W e size a n cap xs) : SliceIs W' e size a n cap xs := by
  refine h.keep fun k hk => ?_
  rcases h.2 with ⟨rfl, _⟩ | ⟨g, off, cur, rfl, hgc, _⟩
  · simp at hk
  · simp at hk; subst hk; exact cells_grown hg hr hgc
theorem SliceIs.isCells {w : World} {e : TypeId} {size : Nat} {a : Option Addr} {n cap : Nat} {xs : List Value} (h : SliceIs w e size a n cap xs) : ∀ k ∈ blks a, ∃ cs t fr, w.heap[k]? = some (.cells cs t fr) := by
  intro k hk
  rcases h.2 with ⟨rfl, _⟩ | ⟨g, off, cur, rfl, hgc, _⟩
  · simp at hk
  · simp at hk; subst hk; exact ⟨_, _, _, hgc⟩
theorem keepsFrom_upd {C : Nat} {W W' : World} {F : List Nat} (h : Upd W W' F) (hF : ∀ k ∈ F, ∃ cs t fr, W.heap[k]? = some (.cells cs t fr)) : KeepsFrom C W W' :=
  ⟨h.size, fun k o _ hk ho => (h.keep k (Array.getElem?_eq_some_iff.1 hk).1 (fun hf => by
    obtain ⟨cs, t, fr, h1⟩ := hF k hf
    rw [hk] at h1; cases h1; cases ho)).trans hk⟩
theorem keepsWalks_upd {W W' : World} {F : List Nat} (h : Upd W W' F) (hF : ∀ k ∈ F, ∃ cs t fr, W.heap[k]? = some (.cells cs t fr)) : KeepsWalks W W' :=
  ⟨h.size, fun k o hk ho => (h.keep k (Array.getElem?_eq_some_iff.1 hk).1 (fun hf => by
    obtain ⟨cs, t, fr, h1⟩ := hF k hf
    rw [hk] at h1; cases h1; cases ho)).trans hk⟩
theorem heap_set1 {w : World} {g : Nat} {v u : Value} {t : TypeId} (hg : w.heap[g]? = some (.cells #[u] t (0, 0))) : (w.setCell ⟨g, 0, none⟩ v).heap[g]? = some (.cells #[v] t (0, 0)) := by
  rw [heap_set v hg]; rfl

/-- Between two rounds. -/
def ColI (w : World) (pre : List Tb.Tx) (W : World) : Prop :=
  ∃ s cap, W.heap[w.heap.size]? = some (.cells #[.slice s pre.length cap] 50 (0, 0)) ∧ OL w W 35 2 s cap (pre.map tcells) ∧ Own w.heap.size w W
theorem colI_own (w : World) (C : Nat) (hC : w.heap.size ≤ C) : OwnFrom C (ColI w) := fun pre W W' row h hg hr => by
  obtain ⟨s, cap, h1, h2, h3⟩ := h
  exact ⟨s, cap, (cells_grown hg hr h1).trans h1, ⟨slice_grown hg hr h2.sl, h2.far, h2.all⟩, own_grown h3 hC hg hr⟩
/-- The round's own box. -/
def ColA (w : World) (sv : Value) (x : Tb.Tx) (a' : Act) (W : World) : Prop :=
  ∃ R, w.heap.size + 1 ≤ R ∧ W.heap[R]? = some (.cells #[.int .u64 x.life, .int .u64 x.n] 35 (0, 0)) ∧
    a' = { tmps := #[.slice none 0 0, sv, .pointer (some ⟨w.heap.size, 0, none⟩), undef, .slice none 0 0, .pointer (some ⟨R, 0, none⟩), sv, .agg #[.int .u64 x.life, .int .u64 x.n], undef, undef, undef, undef, undef], defers := [] }
theorem colA_own (w : World) (sv : Value) (C : Nat) (x : Tb.Tx) (a' : Act) : OwnFrom C (fun (_ : Unit) W => ColA w sv x a' W) := fun _ W W' row h hg hr => by
  obtain ⟨R, h1, h2, h3⟩ := h
  exact ⟨R, h1, (cells_grown hg hr h2).trans h2, h3⟩

attribute [local go_sem ↓ high] appSem_eq
set_option maxRecDepth 100000 in
set_option maxHeartbeats 2000000 in
theorem appseq_any (Bm b n : Nat) (D : DataW Unit) (X : Lh.St) (hX : X.length ≤ 4096) (w : World) (hS : SaysR w D X) (hm : w.heap[Bm]? = some (.cells #[.map (some b)] 55 (0, 0))) (hown : w.ownsMap Tryz.prog 35 RS b n D) :
    Calls Tryz.prog 63 #[.slice none 0 0, .func (.func 47) #[] #[.pointer (some ⟨Bm, 0, none⟩)]] w fun e w' =>
      (∃ s cap ss, e = .returned (.slice s ss.length cap) ∧ KeyS X ss ∧ OL w w' 35 2 s cap (ss.map tcells)) ∧ Own w.heap.size w w' := by
  refine (callsIn_wide (n := 6)).1 ?_
  refine callsIn_of_wp_marks Tryz.func63 rfl trivial ?_ rfl
  simp only [Tryz.ntmps63, List.size_toArray, List.length_cons, List.length_nil, Nat.reduceAdd, Nat.reduceSub, Array.replicate_succ, Array.replicate_zero, List.push_toArray, List.append_toArray, List.nil_append, List.cons_append]
  gi_wp2
  obtain ⟨W0, hW0⟩ : ∃ W0, w.alloc (.cells #[.slice none 0 0] 50) = W0 := ⟨_, rfl⟩
  have h00 : ColI w [] W0 := by
    subst hW0
    exact ⟨none, 0, heap_alloc_new w _, OL.nil _ _ _ _, (Own.refl w).alloc _⟩
  have hB0 : Below w.heap.size w W0 := by subst hW0; exact (Below.refl _ w).alloc (Nat.le_refl _) _
  have hsz : W0.heap.size = w.heap.size + 1 := by subst hW0; simp
  have hS0 : SaysR W0 D X := hS.keep fun k hk _ => hB0.block k hk
  have hm0 := (hB0.block _ (blk_lt hm)).trans hm
  have hown0 := below_owns hown hB0
  rw [hW0]
  clear hW0 hS hown hm hB0
  refine wpIn_rangeFunc_ownH rfl (by decide) (gf := 47) (lb := #[.pointer (some ⟨Bm, 0, none⟩)]) rfl trivial (enters_of Tryz.func47 (by kernel_rfl) rfl)
    (keys_stops 5 Bm b n D X hX W0 hS0 hm0 hown0) (Kp := KeepsWalks) (fun h k => h.trans k)
    (fun W l o o' hl ho hc hw => KeepsWalks.putObj _ ho hw) (Below.refl _ _) (fun _ => rfl)
    (ColI w) (fun _ _ _ => False) (colI_own w _ (by omega)) (fun c xs W W' row h => h.elim) h00 (ColA w (.func (.func 47) #[] #[.pointer (some ⟨Bm, 0, none⟩)])) (colA_own w _ _) ?assign ?body ?done ?stop
  case assign =>
    rintro l pre x W K hI hK
    have hI' := hI
    obtain ⟨s, cap, h1, h2, h3⟩ := hI
    have hs1 : w.heap.size + 1 ≤ W.heap.size := blk_lt h1
    simp only [tval]
    gi_wp2
    have hb := (Below.refl W.heap.size W).alloc (Nat.le_refl _) (.cells #[.int .u64 x.life, .int .u64 x.n] 35)
    refine hK _ _ (keepsFrom_upd (Upd.of_below [] hb) (by simp)) (keepsWalks_upd (Upd.of_below [] hb) (by simp)) ⟨s, cap, (hb.block _ (blk_lt h1)).trans h1, h2.keep hb, h3.trans hb⟩ ⟨W.heap.size, hs1, heap_alloc_new W _, rfl⟩
  case body =>
    rintro l pre x a' W hl ⟨r, hr⟩ hI ⟨R, hR, hr1, rfl⟩ hlen
    obtain ⟨s, cap, g1, g2, g3⟩ := hI
    have c1 : W.cell? ⟨w.heap.size, 0, none⟩ = some (.slice s pre.length cap) := by rw [cell_of_row _ _ _ _ _ _ g1]; rfl
    have f1 := frozen_zero (i := 0) g1
    have r0 : W.cell? ⟨R, 0, none⟩ = some (.int .u64 x.life) := by rw [cell_of_row _ _ _ _ _ _ hr1]; rfl
    have r1 : W.cell? ⟨R, 1, none⟩ = some (.int .u64 x.n) := by rw [cell_of_row _ _ _ _ _ _ hr1]; rfl
    obtain ⟨s', cap', W2, hrun, hOL2, hO2, hkp⟩ := tx_push g3 g2 x (by omega)
    have hne := g2.sl.ne g1 (by decide)
    have k1 : W2.heap[w.heap.size]? = some (.cells #[.slice s pre.length cap] 50 (0, 0)) := (hkp.upd.keep _ (blk_lt g1) hne).trans g1
    have d1 : W2.cell? ⟨w.heap.size, 0, none⟩ = some (.slice s pre.length cap) := by rw [cell_of_row _ _ _ _ _ _ k1]; rfl
    have d2 := frozen_zero (i := 0) k1
    have G1 := Lib.hid g1
    have G2 := Lib.hid g2
    have K1 := Lib.hid k1
    have HOL2 := Lib.hid hOL2
    have HO2 := Lib.hid hO2
    have HKP := Lib.hid hkp
    clear g1 g2 g3 hr1 hr k1 hOL2 hO2 hkp hne h00 hS0 hm0 hown0
    gi_wp2
    have hu : Upd W (W2.setCell ⟨w.heap.size, 0, none⟩ (.slice s' (pre.length + 1) cap')) (w.heap.size :: blks s) := (HKP.out.upd.mono (fun x hx => by simp [hx])).setCell (p := ⟨w.heap.size, 0, none⟩) (.inl (by simp)) _
    have hcl : ∀ k ∈ w.heap.size :: blks s, ∃ cs t fr, W.heap[k]? = some (.cells cs t fr) := fun k hk => by
      rcases List.mem_cons.1 hk with rfl | hk
      · exact ⟨_, _, _, G1.out⟩
      · exact G2.out.sl.isCells k hk
    refine ⟨keepsFrom_upd hu hcl, keepsWalks_upd hu hcl, s', cap', ?_, ⟨?_, HOL2.out.far, HOL2.out.all⟩, HO2.out.setCell (p := ⟨w.heap.size, 0, none⟩) (Nat.le_refl _) _⟩
    · rw [heap_set1 K1.out]; simp
    · have hne := HOL2.out.sl.ne K1.out (by decide)
      exact HOL2.out.sl.keep fun k hk => heap_setCell_other _ _ _ _ (fun e => hne (by have e2 : k = w.heap.size := e; rw [← e2]; exact hk))
  case done =>
    rintro D xs W hD hS hI hK
    obtain ⟨s, cap, g1, g2, g3⟩ := hI
    have c1 : W.cell? ⟨w.heap.size, 0, none⟩ = some (.slice s xs.length cap) := by rw [cell_of_row _ _ _ _ _ _ g1]; rfl
    have G2 := Lib.hid g2
    have G3 := Lib.hid g3
    have HK := Lib.hid hK
    have HS := Lib.hid hS
    clear g1 g2 g3 hS hK h00 hS0 hm0 hown0
    gi_wp2
    refine ⟨by simp, .inl ⟨_, _, rfl, run_takeDeferred HK.out, ?_⟩⟩
    have hg := grownBy_putObj' W D (.deferred none)
    have hr : ∀ r, some D = some r → w.heap.size + 1 ≤ r ∧ ∃ o : Obj, W.heap[r]? = some o ∧ o.isCells = false := fun r e => by cases e; exact ⟨by omega, _, HK.out, rfl⟩
    refine ⟨_, results_tmp rfl _ _ _, ⟨s, cap, xs, rfl, HS.out, slice_grown hg hr G2.out.sl, G2.out.far, G2.out.all⟩, own_grown G3.out (by omega) hg hr⟩
  case stop =>
    rintro D c xs W hD hS hX hK
    exact hX.elim

theorem coll_any (Bm b n : Nat) (D : DataW Unit) (X : Lh.St) (hX : X.length ≤ 4096) (w : World) (hS : SaysR w D X) (hm : w.heap[Bm]? = some (.cells #[.map (some b)] 55 (0, 0))) (hown : w.ownsMap Tryz.prog 35 RS b n D) :
    Calls Tryz.prog 46 #[.func (.func 47) #[] #[.pointer (some ⟨Bm, 0, none⟩)]] w fun e w' =>
      (∃ s cap ss, e = .returned (.slice s ss.length cap) ∧ KeyS X ss ∧ OL w w' 35 2 s cap (ss.map tcells)) ∧ Own w.heap.size w w' := by
  have HC := Lib.hid (appseq_any Bm b n D X hX w hS hm hown)
  clear hS hm hown hX
  go_enter Tryz.func46, Tryz.ntmps46
  go_wp2_with fail
  refine HC.out.mono ?_
  rintro e w1 ⟨⟨s, cap, ss, rfl, hk, ho⟩, hO⟩
  have HK := Lib.hid hk
  have HOL := Lib.hid ho
  have HO := Lib.hid hO
  clear hk ho hO HC
  go_wp2_with fail
  go_ret
  exact ⟨⟨s, cap, ss, rfl, HK.out, HOL.out⟩, HO.out⟩
theorem keyS_keys {X : Lh.St} (hok : ∀ e ∈ X, In e.1 ∧ okL e.2) {ss m : List Tb.Tx} (h : KeyS X ss) (h1 : Tb.Srt m) (h2 : ∀ t, t ∈ m ↔ t ∈ ss) : m = Lh.keys X :=
  Tb.Srt.ext h1 (Lh.keys_srt X) (fun t => by
    rw [h2, Lh.keys_row]
    constructor
    · intro ht; exact (h.2.1 t ht).2
    · intro hr
      obtain ⟨y, hy⟩ := List.exists_mem_of_ne_nil _ hr
      exact h.2.2 t (hok _ (Lh.mem_row.1 hy)).1 hr)
set_option maxRecDepth 20000 in
set_option maxHeartbeats 1000000 in
theorem sorted_any {w : World} {q b n Bm : Nat} {X : Lh.St} (h : LkAt w q b X n) (hm : w.heap[Bm]? = some (.cells #[.map (some b)] 55 (0, 0))) :
    Calls Tryz.prog 31 #[.func (.func 47) #[] #[.pointer (some ⟨Bm, 0, none⟩)], .func (.func 33) #[] #[]] w fun e w' =>
      (∃ s cap, e = .returned (.slice s (Lh.keys X).length cap) ∧ RowIs w' 2 s ((Lh.keys X).map tcells)) ∧ Below w.heap.size w w' := by
  obtain ⟨D, hown, hM, hS⟩ := h.map
  have HC := Lib.hid (coll_any Bm b n D X h.most w hS hm hown)
  have HL := Lib.hid h
  clear hS hm hown h hM
  go_enter Tryz.func31, Tryz.ntmps31
  go_wp2_with fail
  refine HC.out.mono ?_
  rintro e w1 ⟨⟨s, cap, ss, rfl, hk, ho⟩, hO⟩
  have HK := Lib.hid hk
  have HOL := Lib.hid ho
  have HO := Lib.hid hO
  have hln : ss.length ≤ 4096 := by
    have h1 := nodup_le (m := Lh.keys X) hk.1 (fun t ht => Lh.keys_row.2 (hk.2.1 t ht).2)
    have h2 := keys_len X
    have := HL.out.most
    omega
  clear hk ho hO HC
  cases s with
  | none =>
    have HSN := Lib.hid (fun wz => sort_none (.func (.func 33) #[] #[]) wz)
    have hz : ss = [] ∧ cap = 0 := by
      rcases HOL.out.sl.2 with ⟨_, h1, h2⟩ | ⟨_, _, _, h1, _⟩
      · exact ⟨by simpa using h1, h2⟩
      · cases h1
    obtain ⟨rfl, rfl⟩ := hz
    have HKK : Hid ([] = Lh.keys X) := Lib.hid (keyS_keys HL.out.ok HK.out List.Pairwise.nil (fun t => Iff.rfl))
    clear hln
    go_wp2_with fail
    refine (HSN.out _).mono ?_
    rintro e w6 ⟨rfl, rfl⟩
    go_wp2_with fail
    go_ret
    exact ⟨⟨none, 0, by rw [← HKK.out]; rfl, by rw [← HKK.out]; exact RowIs.nil _ _ _⟩, HO.out.below⟩
  | some ad =>
    obtain ⟨g, off, rfl⟩ : ∃ g off, ad = ⟨g, off, none⟩ := by
      rcases HOL.out.sl.2 with ⟨h1, _⟩ | ⟨g, off, _, h1, _⟩
      · cases h1
      · exact ⟨g, off, by injection h1⟩
    have hsl := HOL.out.sl
    rw [List.length_map] at hsl
    have HST := Lib.hid (sort_tx ss HK.out.1 (by omega) g off cap w1 hsl)
    have HF := Lib.hid (HOL.out.far g (by simp))
    clear hsl hln
    go_wp2_with fail
    refine HST.out.mono ?_
    rintro e w6 ⟨rfl, m, hm1, hm2, hm3, hm4, hm5⟩
    have HKK := Lib.hid (keyS_keys HL.out.ok HK.out hm1 hm2)
    have HM3 := Lib.hid hm3
    have HM4 := Lib.hid hm4
    have HO6 := Lib.hid (HO.out.upd hm5 (by simp; exact HF.out))
    clear hm1 hm2 hm3 hm4 hm5
    go_wp2_with fail
    go_ret
    exact ⟨⟨_, cap, by rw [← HKK.out, HM3.out]; rfl, by rw [← HKK.out]; exact HM4.out⟩, HO6.out.below⟩

end Go.Proofs.YtjanjjkgnilhoaaGreatDoor
