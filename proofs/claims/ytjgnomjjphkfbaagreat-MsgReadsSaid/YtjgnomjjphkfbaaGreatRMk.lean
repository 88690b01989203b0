/-
  Joined out of the texts MsgMk MsgMk1.
-/
import Derived.Test.YtjgnomjjphkfbaaGreatRCpx
import Derived.Test.YtjgnomjjphkfbaaGreatShelf
import Derived.Deep.RegionHeld3
namespace Go.Proofs.YtjgnomjjphkfbaaGreat
open Go.RowKit

theorem repeat_zero : ∀ c : Nat, Lib.repeatL [(0 : UInt8)] c = List.replicate c 0
  | 0 => rfl
  | c + 1 => by
    have := repeat_zero c
    simp only [Lib.repeatL] at this ⊢
    rw [List.replicate_succ]
    simpa using this
theorem run_min2 (P : Program) (w : World) (t : TypeId) (p q : Int) : (Builtin.min_ #[t, t] t #[.int .i64 p, .int .i64 q]).run P w = .ok (.int .i64 (min p q)) w := by
  have e : Builtin.min2 (.int .i64 p) (.int .i64 q) = pure (.int .i64 (min p q)) := by
    simp only [Builtin.min2]
    congr 2
    split <;> omega
  simp [Builtin.min_, e]
set_option maxRecDepth 20000 in
set_option maxHeartbeats 1000000 in
theorem masked_any (s : ByteArray) (w : World) (hs : s.size ≤ 1073741824) :
    Calls Tryz.prog 41 #[.string s] w fun e w' => e = .returned (.string (Mg.hide s)) ∧ Below w.heap.size w w' := by
  have hsI : (0 : Int) ≤ s.size ∧ (s.size : Int) ≤ 1073741824 := by omega
  obtain ⟨n, hn⟩ : ∃ n, n = min 5 s.size := ⟨_, rfl⟩
  have hmin : (Builtin.min_ #[3, 3] 3 #[.int .i64 5, .int .i64 s.size]).run Tryz.prog w = .ok (.int .i64 (n : Int)) w := by
    have := run_min2 Tryz.prog w 3 5 s.size
    rw [this]
    have e : min (5 : Int) (s.size : Int) = n := by omega
    rw [e]
  have hnI : (0 : Int) ≤ n ∧ (n : Int) ≤ s.size := by omega
  obtain ⟨c, hc⟩ : ∃ c : Nat, c = s.size - n := ⟨_, rfl⟩
  have hsub : (s.size : Int) - n = c := by omega
  have hwr : IntKind.i64.wrap (c : Int) = c := by rw [IntKind.wrap_i64]; omega
  have HRP := Lib.hid (fun wz => Tryz.strings_Repeat ⟨#[0]⟩ c wz (by omega) (by show 1 * c ≤ _; omega))
  have HF : Hid (∀ r : ByteArray, r = ⟨(Lib.repeatL [(0 : UInt8)] c).toArray⟩ → s.extract 0 n ++ r = Mg.hide s) := Lib.hid (by
    rintro r rfl
    apply Mg.L_inj
    rw [Mg.L_hide]
    have e1 : L (s.extract 0 n ++ (⟨(Lib.repeatL [(0 : UInt8)] c).toArray⟩ : ByteArray)) = L (s.extract 0 n) ++ Lib.repeatL [(0 : UInt8)] c := by
      unfold L
      rw [ByteArray.data_append, Array.toList_append]
    rw [e1, L_extract, repeat_zero, L_size, hc]
    congr 1
    · rw [hn]
      by_cases h : s.size ≤ 5
      · rw [Nat.min_eq_right h, List.take_of_length_le (by rw [L_size]; exact Nat.le_refl _), List.take_of_length_le (by rw [L_size]; exact h)]
      · rw [Nat.min_eq_left (by omega)]
    · congr 1
      omega)
  obtain ⟨r, hr⟩ : ∃ r : ByteArray, r = ⟨(Lib.repeatL [(0 : UInt8)] c).toArray⟩ := ⟨_, rfl⟩
  have hrs : r.size = c := by
    rw [hr, repeat_zero]
    simp [ByteArray.size]
  have hes : (s.extract 0 n).size = n := by rw [← L_size, L_extract, List.length_take, L_size]; omega
  have hcat : ¬ 9223372036854775807 < (s.extract 0 n).size + r.size := by omega
  have HRP2 : Hid (∀ wz, Calls Tryz.prog 75 #[.string ⟨#[0]⟩, .int .i64 c] wz fun e w' => e = .returned (.string r) ∧ Below wz.heap.size wz w') := Lib.hid (fun wz => by rw [hr]; exact HRP.out wz)
  have HFR := Lib.hid (HF.out r hr)
  obtain ⟨a, hex⟩ : ∃ a, s.extract 0 n = a := ⟨_, rfl⟩
  rw [hex] at hcat HFR
  clear hn hc hs hr HRP HF hrs hes
  go_enter Tryz.func41, Tryz.ntmps41
  go_wp2_with fail
  go_region_held3 (fun _ => True)
    (first | exact True.intro | fail)
    (first
    | (go_at_call 75
       (refine (HRP2.out _).mono ?_)
       rintro e w2 ⟨rfl, hb2⟩
       have HB2 := Lib.hid ((Own.refl w).drew.below.trans hb2)
       clear hb2))
  go_wp2_with fail
  refine bodyPost_ret (v := .string (a ++ r)) (by simp [results, Tryz.results41, go_sem]) rfl ⟨?_, HB2.out⟩
  rw [HFR.out]

end Go.Proofs.YtjgnomjjphkfbaaGreat

namespace Go.Proofs.YtjgnomjjphkfbaaGreat
open Go.RowKit

/-- The first i are turned. -/
def upI {α : Type} (f : α → α) (i : Nat) (l : List α) : List α := (l.take i).map f ++ l.drop i
section
variable {α : Type} {f : α → α} {l : List α}
theorem upI_zero : upI f 0 l = l := by simp [upI]
theorem upI_all : upI f l.length l = l.map f := by simp [upI]
theorem upI_len (i : Nat) (h : i ≤ l.length) : (upI f i l).length = l.length := by simp [upI]; omega
theorem upI_at (i : Nat) (h : i < l.length) : (upI f i l)[i]? = some l[i] := by
  unfold upI
  rw [List.getElem?_append_right (by simp; omega), List.length_map, List.length_take, Nat.min_eq_left (by omega), Nat.sub_self, List.getElem?_drop]
  simp [h]
theorem upI_next (i : Nat) (h : i < l.length) : upI f (i + 1) l = (upI f i l).set i (f l[i]) := by
  unfold upI
  have hl : ((l.take i).map f).length = i := by simp; omega
  rw [List.take_succ_eq_append_getElem h, List.map_append, List.set_append_right _ _ (by omega), hl, Nat.sub_self, List.drop_eq_getElem_cons h, List.set_cons_zero, List.append_assoc]
  rfl
end
/-- Mask's message: its block, the result's block; its lists. -/
structure MK (w W : World) (b : Nat) (s : MS) (x0 x : Mg.Msg) (xs : List (List Value)) : Prop where
  blk : W.heap[b]? = some (.cells (MV s x0) 43 (0, 0))
  two : W.heap[b + 1]? = some (.cells (MV MS0 Mg.msg0) 43 (0, 0))
  new : w.heap.size ≤ b
  bel : Below w.heap.size w W
  ls : MsgO w W s x
  rw : OL w W 72 3 s.rows.1 s.rows.2 xs
  ro : RowsO w W x.rows xs
  ap : RowsAp xs x.rows.length
section
variable {w W W' : World} {b : Nat} {s : MS} {x0 x : Mg.Msg} {xs : List (List Value)}
theorem MsgO.keep {w W W2 : World} {s : MS} {x : Mg.Msg} (h : MsgO w W s x) (hb : Below W.heap.size W W2) : MsgO w W2 s x := h.upd (Upd.of_below [] hb) (by simp)
theorem MK.keep (h : MK w W b s x0 x xs) (hb : Below W.heap.size W W') : MK w W' b s x0 x xs :=
  ⟨(hb.block b (blk_lt h.blk)).trans h.blk, (hb.block _ (blk_lt h.two)).trans h.two, h.new, h.bel.trans (hb.mono h.bel.size), h.ls.keep hb, h.rw.keep hb, h.ro.updB (Upd.of_below [] hb) (by simp), h.ap⟩
theorem MK.cell (h : MK w W b s x0 x xs) (i : Nat) {v : Value} (hv : (s.cells x0)[i]? = some v) : W.cell? ⟨b, i, none⟩ = some v := by
  rw [cell_of_row _ _ _ _ _ _ h.blk]
  unfold MV
  simpa using hv
theorem set_below {g i : Nat} (v : Value) (hg : w.heap.size ≤ g) (hb : Below w.heap.size w W) : Below w.heap.size w (W.setCell ⟨g, i, none⟩ v) :=
  hb.trans ⟨rfl, rfl, rfl, by simp [World.setCell], fun k hk => heap_setCell_other _ _ _ _ (by show k ≠ g; omega)⟩
theorem RowsO.otherT {W : World} {l : List Mg.Row} {E2 : TypeId} {z2 g off n2 c2 : Nat} {ys : List Value} (h : RowsO w W l xs) (h2 : SliceIs W E2 z2 (some ⟨g, off, none⟩) n2 c2 ys) (hne : 62 ≠ E2) (i : Nat) (v : Value) : RowsO w (W.setCell ⟨g, i, none⟩ v) l xs :=
  ⟨h.1, fun j hj => by
    obtain ⟨s', cap, h1, h3⟩ := h.2 j hj
    exact ⟨s', cap, h1, h3.otherT h2 hne i v⟩⟩
theorem edits_set (l : List Mg.Ed) (i : Nat) (h : i < l.length) : ((l.map Mg.Ed.cells).set i (((l.map Mg.Ed.cells)[i]'(by simpa using h)).set 5 (.string (Mg.hide (l[i]).t)))) = (l.set i (Mg.hideE l[i])).map Mg.Ed.cells := by
  rw [List.map_set, List.getElem_map]
  rfl
theorem got_set (l : List Mg.Got) (i : Nat) (h : i < l.length) : ((l.map Mg.Got.cells).set i (((l.map Mg.Got.cells)[i]'(by simpa using h)).set 2 (.string (Mg.hide (l[i]).v.t)))) = (l.set i (Mg.hideG l[i])).map Mg.Got.cells := by
  rw [List.map_set, List.getElem_map]
  rfl
theorem vers_set (l : List Mg.Ver) (i : Nat) (h : i < l.length) : ((l.map Mg.Ver.cells).set i (((l.map Mg.Ver.cells)[i]'(by simpa using h)).set 2 (.string (Mg.hide (l[i]).t)))) = (l.set i (Mg.hideV l[i])).map Mg.Ver.cells := by
  rw [List.map_set, List.getElem_map]
  rfl
/-- One edit's text is masked. -/
theorem MK.edit (h : MK w W b s x0 x xs) {g off : Nat} (hs : s.edits.1 = some ⟨g, off, none⟩) (i : Nat) (hi : i < x.ask.edits.length) :
    MK w (W.setCell ⟨g, off + i * 6 + 5, none⟩ (.string (Mg.hide (x.ask.edits[i]).t))) b s x0 { x with ask := { x.ask with edits := x.ask.edits.set i (Mg.hideE x.ask.edits[i]) } } xs := by
  have ho := h.ls.edits
  rw [hs] at ho
  have hb : b ≠ g := fun e => by
    have := ho.sl.ne h.blk (by decide)
    simp at this
    exact this e
  have hb2 : b + 1 ≠ g := fun e => by
    have := ho.sl.ne h.two (by decide)
    simp at this
    exact this e
  have hst := ho.store i 5 (by simpa using hi) (by decide) (.string (Mg.hide (x.ask.edits[i]).t))
  rw [edits_set _ i hi] at hst
  refine ⟨(heap_setCell_other _ _ _ _ hb).trans h.blk, (heap_setCell_other _ _ _ _ hb2).trans h.two, h.new, set_below _ (ho.far g (by simp)) h.bel,
    ⟨h.ls.parts.otherT ho.sl (by decide) _ _, h.ls.reads.otherT ho.sl (by decide) _ _, h.ls.readAt.otherT ho.sl (by decide) _ _, by rw [hs]; exact hst, h.ls.editAt.otherT ho.sl (by decide) _ _, ⟨xs, h.rw.otherT ho.sl (by decide) _ _, h.ro.otherT ho.sl (by decide) _ _⟩,
      h.ls.own.otherT ho.sl (by decide) _ _, h.ls.got.otherT ho.sl (by decide) _ _, h.ls.numbers.otherT ho.sl (by decide) _ _, h.ls.names.otherT ho.sl (by decide) _ _⟩,
    h.rw.otherT ho.sl (by decide) _ _, h.ro.otherT ho.sl (by decide) _ _, h.ap⟩
/-- What is told is masked. -/
theorem MK.got (h : MK w W b s x0 x xs) {g off : Nat} (hs : s.got.1 = some ⟨g, off, none⟩) (i : Nat) (hi : i < x.told.got.length) :
    MK w (W.setCell ⟨g, off + i * 4 + 2, none⟩ (.string (Mg.hide (x.told.got[i]).v.t))) b s x0 { x with told := { x.told with got := x.told.got.set i (Mg.hideG x.told.got[i]) } } xs := by
  have ho := h.ls.got
  rw [hs] at ho
  have hb : b ≠ g := fun e => by
    have := ho.sl.ne h.blk (by decide)
    simp at this
    exact this e
  have hb2 : b + 1 ≠ g := fun e => by
    have := ho.sl.ne h.two (by decide)
    simp at this
    exact this e
  have hst := ho.store i 2 (by simpa using hi) (by decide) (.string (Mg.hide (x.told.got[i]).v.t))
  rw [got_set _ i hi] at hst
  refine ⟨(heap_setCell_other _ _ _ _ hb).trans h.blk, (heap_setCell_other _ _ _ _ hb2).trans h.two, h.new, set_below _ (ho.far g (by simp)) h.bel,
    ⟨h.ls.parts.otherT ho.sl (by decide) _ _, h.ls.reads.otherT ho.sl (by decide) _ _, h.ls.readAt.otherT ho.sl (by decide) _ _, h.ls.edits.otherT ho.sl (by decide) _ _, h.ls.editAt.otherT ho.sl (by decide) _ _, ⟨xs, h.rw.otherT ho.sl (by decide) _ _, h.ro.otherT ho.sl (by decide) _ _⟩,
      h.ls.own.otherT ho.sl (by decide) _ _, by rw [hs]; exact hst, h.ls.numbers.otherT ho.sl (by decide) _ _, h.ls.names.otherT ho.sl (by decide) _ _⟩,
    h.rw.otherT ho.sl (by decide) _ _, h.ro.otherT ho.sl (by decide) _ _, h.ap⟩
theorem rowS_eq {j : Nat} {p q : Value} {sv : Option Addr} {n c : Nat} (h : xs[j]? = some [p, q, .slice sv n c]) : rowS xs j = sv := by unfold rowS; rw [h]
/-- One version's text, of one row, is masked. -/
theorem MK.ver (h : MK w W b s x0 x xs) (i k : Nat) (hi : i < x.rows.length) (hk : k < (x.rows[i]).l.length) {g off cv : Nat} (hx : xs[i]? = some [.string (x.rows[i]).p, .int .u64 (x.rows[i]).last, .slice (some ⟨g, off, none⟩) (x.rows[i]).l.length cv]) :
    MK w (W.setCell ⟨g, off + k * 3 + 2, none⟩ (.string (Mg.hide ((x.rows[i]).l[k]).t))) b s x0 { x with rows := x.rows.set i { x.rows[i] with l := (x.rows[i]).l.set k (Mg.hideV (x.rows[i]).l[k]) } } xs := by
  obtain ⟨s1, c1, h1, ho⟩ := h.ro.2 i hi
  rw [hx] at h1
  simp only [Option.some.injEq, List.cons.injEq, Value.slice.injEq, and_true, true_and] at h1
  obtain ⟨rfl, rfl⟩ := h1
  have hb : b ≠ g := fun e => by
    have := ho.sl.ne h.blk (by decide)
    simp at this
    exact this e
  have hb2 : b + 1 ≠ g := fun e => by
    have := ho.sl.ne h.two (by decide)
    simp at this
    exact this e
  have hst := ho.store k 2 (by simpa using hk) (by decide) (.string (Mg.hide ((x.rows[i]).l[k]).t))
  rw [vers_set _ k hk] at hst
  have hro : RowsO w (W.setCell ⟨g, off + k * 3 + 2, none⟩ (.string (Mg.hide ((x.rows[i]).l[k]).t))) (x.rows.set i { x.rows[i] with l := (x.rows[i]).l.set k (Mg.hideV (x.rows[i]).l[k]) }) xs := by
    refine ⟨by rw [List.length_set]; exact h.ro.1, fun j hj => ?_⟩
    rw [List.length_set] at hj
    obtain ⟨s2, c2, q1, q2⟩ := h.ro.2 j hj
    by_cases e : j = i
    · subst e
      rw [List.getElem_set_self]
      exact ⟨some ⟨g, off, none⟩, cv, by rw [hx]; simp, hst⟩
    · rw [List.getElem_set_ne (fun h => e h.symm)]
      refine ⟨s2, c2, q1, q2.updF ((Upd.refl W [g]).setCell (.inl (by simp)) _) (fun m hm hf => ?_)⟩
      simp at hf
      subst hf
      have e1 := rowS_eq q1
      have e2 := rowS_eq hx
      rcases Nat.lt_or_gt_of_ne e with hlt | hgt
      · have := h.ap j i hlt hi
        rw [e1, e2] at this
        exact this m hm (by simp)
      · have := h.ap i j hgt hj
        rw [e1, e2] at this
        exact this m (by simp) hm
  have hrw := h.rw.otherT ho.sl (by decide) (off + k * 3 + 2) (.string (Mg.hide ((x.rows[i]).l[k]).t))
  refine ⟨(heap_setCell_other _ _ _ _ hb).trans h.blk, (heap_setCell_other _ _ _ _ hb2).trans h.two, h.new, set_below _ (ho.far g (by simp)) h.bel,
    ⟨h.ls.parts.otherT ho.sl (by decide) _ _, h.ls.reads.otherT ho.sl (by decide) _ _, h.ls.readAt.otherT ho.sl (by decide) _ _, h.ls.edits.otherT ho.sl (by decide) _ _, h.ls.editAt.otherT ho.sl (by decide) _ _, ⟨xs, hrw, hro⟩,
      h.ls.own.otherT ho.sl (by decide) _ _, h.ls.got.otherT ho.sl (by decide) _ _, h.ls.numbers.otherT ho.sl (by decide) _ _, h.ls.names.otherT ho.sl (by decide) _ _⟩, hrw, hro, ?_⟩
  simpa using h.ap
theorem MK.cast {x2 : Mg.Msg} (h : MK w W b s x0 x xs) (e : x = x2) : MK w W b s x0 x2 xs := e ▸ h
theorem MK.edit_next (i : Nat) (hi : i < x.ask.edits.length) (h : MK w W b s x0 { x with ask := { x.ask with edits := upI Mg.hideE i x.ask.edits } } xs) {g off : Nat} (hs : s.edits.1 = some ⟨g, off, none⟩) :
    MK w (W.setCell ⟨g, off + i * 6 + 5, none⟩ (.string (Mg.hide (x.ask.edits[i]).t))) b s x0 { x with ask := { x.ask with edits := upI Mg.hideE (i + 1) x.ask.edits } } xs := by
  have hl : i < (upI Mg.hideE i x.ask.edits).length := by rw [upI_len i (by omega)]; exact hi
  have e : (upI Mg.hideE i x.ask.edits)[i] = x.ask.edits[i] := by
    have := upI_at (f := Mg.hideE) i hi
    rw [List.getElem?_eq_getElem hl] at this
    exact Option.some.inj this
  have h2 := h.edit hs i hl
  simp only [e] at h2
  exact h2.cast (by rw [upI_next i hi])
theorem MK.got_next (i : Nat) (hi : i < x.told.got.length) (h : MK w W b s x0 { x with told := { x.told with got := upI Mg.hideG i x.told.got } } xs) {g off : Nat} (hs : s.got.1 = some ⟨g, off, none⟩) :
    MK w (W.setCell ⟨g, off + i * 4 + 2, none⟩ (.string (Mg.hide (x.told.got[i]).v.t))) b s x0 { x with told := { x.told with got := upI Mg.hideG (i + 1) x.told.got } } xs := by
  have hl : i < (upI Mg.hideG i x.told.got).length := by rw [upI_len i (by omega)]; exact hi
  have e : (upI Mg.hideG i x.told.got)[i] = x.told.got[i] := by
    have := upI_at (f := Mg.hideG) i hi
    rw [List.getElem?_eq_getElem hl] at this
    exact Option.some.inj this
  have h2 := h.got hs i hl
  simp only [e] at h2
  exact h2.cast (by rw [upI_next i hi])
/-- Row i with its first k versions masked, the rows ahead of it masked whole. -/
def rowsK (l : List Mg.Row) (i k : Nat) (h : i < l.length) : List Mg.Row := (upI Mg.hideR i l).set i { l[i] with l := upI Mg.hideV k (l[i]).l }
theorem rowsK_start (l : List Mg.Row) (i : Nat) (h : i < l.length) : rowsK l i 0 h = upI Mg.hideR i l := by
  unfold rowsK
  rw [upI_zero]
  have := upI_at (f := Mg.hideR) i h
  obtain ⟨h1, h2⟩ := List.getElem?_eq_some_iff.1 this
  apply List.ext_getElem?
  intro j
  by_cases e : i = j
  · subst e
    rw [List.getElem?_set_self h1, this]
  · rw [List.getElem?_set_ne e]
theorem rowsK_done (l : List Mg.Row) (i : Nat) (h : i < l.length) : rowsK l i (l[i]).l.length h = upI Mg.hideR (i + 1) l := by
  unfold rowsK
  rw [upI_all, upI_next i h]
  rfl
theorem rowsK_len (l : List Mg.Row) (i k : Nat) (h : i < l.length) : (rowsK l i k h).length = l.length := by
  unfold rowsK
  rw [List.length_set, upI_len i (by omega)]
theorem rowsK_at (l : List Mg.Row) (i k : Nat) (h : i < l.length) : (rowsK l i k h)[i]? = some { l[i] with l := upI Mg.hideV k (l[i]).l } := by
  unfold rowsK
  rw [List.getElem?_set_self (by rw [upI_len i (by omega)]; exact h)]
theorem MK.ver_next (i k : Nat) (hi : i < x.rows.length) (hk : k < (x.rows[i]).l.length) (h : MK w W b s x0 { x with rows := rowsK x.rows i k hi } xs) {g off cv : Nat} (hx : xs[i]? = some [.string (x.rows[i]).p, .int .u64 (x.rows[i]).last, .slice (some ⟨g, off, none⟩) (x.rows[i]).l.length cv]) :
    MK w (W.setCell ⟨g, off + k * 3 + 2, none⟩ (.string (Mg.hide ((x.rows[i]).l[k]).t))) b s x0 { x with rows := rowsK x.rows i (k + 1) hi } xs := by
  have hl : i < (rowsK x.rows i k hi).length := by rw [rowsK_len]; exact hi
  have e : (rowsK x.rows i k hi)[i] = { x.rows[i] with l := upI Mg.hideV k (x.rows[i]).l } := by
    have := rowsK_at x.rows i k hi
    rw [List.getElem?_eq_getElem hl] at this
    exact Option.some.inj this
  have hk2 : k < ((rowsK x.rows i k hi)[i]).l.length := by
    rw [e]
    show k < (upI Mg.hideV k (x.rows[i]).l).length
    rw [upI_len k (by omega)]
    exact hk
  have hx2 : xs[i]? = some [.string ((rowsK x.rows i k hi)[i]).p, .int .u64 ((rowsK x.rows i k hi)[i]).last, .slice (some ⟨g, off, none⟩) ((rowsK x.rows i k hi)[i]).l.length cv] := by
    simp only [e]
    rw [upI_len k (by omega)]
    exact hx
  have e2 : (((rowsK x.rows i k hi)[i]).l[k]) = (x.rows[i]).l[k] := by
    have h1 := upI_at (f := Mg.hideV) k hk
    have h2 : (((rowsK x.rows i k hi)[i]).l)[k]? = some ((x.rows[i]).l[k]) := by rw [e]; exact h1
    rw [List.getElem?_eq_getElem hk2] at h2
    exact Option.some.inj h2
  have h2 := MK.ver (x := { x with rows := rowsK x.rows i k hi }) h i k hl hk2 hx2
  simp only [e2] at h2
  refine h2.cast ?_
  have e3 : (rowsK x.rows i k hi).set i { (rowsK x.rows i k hi)[i] with l := ((rowsK x.rows i k hi)[i]).l.set k (Mg.hideV ((x.rows[i]).l[k])) } = rowsK x.rows i (k + 1) hi := by
    rw [e]
    unfold rowsK
    rw [List.set_set]
    show (upI Mg.hideR i x.rows).set i { x.rows[i] with l := (upI Mg.hideV k (x.rows[i]).l).set k (Mg.hideV ((x.rows[i]).l[k])) } = _
    rw [upI_next k hk]
  rw [e3]
theorem MsgO.putB {w0 w1 w2 : World} {s : MS} {x : Mg.Msg} {b : Nat} {cs vs : Array Value} {fr : Nat × Nat} {t2 : TypeId} (h : MsgO w0 w1 s x) (hb : w1.heap[b]? = some (.cells cs 43 fr)) (hp : PutAt w1 w2 b vs t2) : MsgO w0 w2 s x := by
  obtain ⟨xs, h1, h2⟩ := h.rows
  refine ⟨h.parts.putM hb (by decide) hp, h.reads.putM hb (by decide) hp, h.readAt.putM hb (by decide) hp, h.edits.putM hb (by decide) hp, h.editAt.putM hb (by decide) hp, ⟨xs, h1.putM hb (by decide) hp, h2.keep fun s' n cap ys h3 _ k hk => hp.other k ?_⟩,
    h.own.putM hb (by decide) hp, h.got.putM hb (by decide) hp, h.numbers.putM hb (by decide) hp, h.names.putM hb (by decide) hp⟩
  rintro rfl
  exact h3.ne hb (by decide) hk
theorem MK.start {w0 w1 w2 : World} {s0 : MS} (hm : MsgO w0 w1 s x) (hr : OL w0 w1 72 3 s.rows.1 s.rows.2 xs) (hro : RowsO w0 w1 x.rows xs) (ha : RowsAp xs x.rows.length) (h1 : w1.heap[b]? = some (.cells (MV s0 x) 43 (0, 0))) (h2 : w1.heap[b + 1]? = some (.cells (MV MS0 Mg.msg0) 43 (0, 0)))
    (hp : PutAt w1 w2 b (MV s x) 43) (hb0 : Below w.heap.size w w0) (hb1 : Below w0.heap.size w0 w1) (hn : w.heap.size ≤ b) : MK w w2 b s x x xs := by
  refine ⟨hp.here, (hp.other _ (by omega)).trans h2, hn, ?_, (hm.putB h1 hp).base hb0.size, (hr.putM h1 (by decide) hp).base hb0.size, RowsO.base (hro.keep fun s' n cap ys h3 _ k hk => hp.other k ?_) hb0.size, ha⟩
  · exact (hb0.trans (hb1.mono hb0.size)).trans ⟨hp.os, hp.tape, hp.output, by rw [hp.size]; exact Nat.le_refl _, fun k hk => hp.other k (by omega)⟩
  · rintro rfl
    exact h3.ne h1 (by decide) hk
theorem OL.thaw {E : TypeId} {z g off cap : Nat} {ys : List (List Value)} (h : OL w W E z (some ⟨g, off, none⟩) cap ys) (i : Nat) : W.frozen? ⟨g, i, none⟩ = false := by
  rcases h.sl.2 with ⟨h', _⟩ | ⟨g', off', cur, h', hg, _⟩
  · cases h'
  · cases h'
    exact frozen_of_row W g _ _ _ hg
theorem MK.edit_nextT (i : Nat) (hi : i < x.ask.edits.length) (h : MK w W b s x0 { x with ask := { x.ask with edits := upI Mg.hideE i x.ask.edits } } xs) {g off : Nat} (hs : s.edits.1 = some ⟨g, off, none⟩) {tx : ByteArray} (ht : ∀ h, tx = (x.ask.edits[i]'h).t) :
    MK w (W.setCell ⟨g, off + i * 6 + 5, none⟩ (.string (Mg.hide tx))) b s x0 { x with ask := { x.ask with edits := upI Mg.hideE (i + 1) x.ask.edits } } xs := by
  rw [ht hi]
  exact h.edit_next i hi hs
theorem MK.got_nextT (i : Nat) (hi : i < x.told.got.length) (h : MK w W b s x0 { x with told := { x.told with got := upI Mg.hideG i x.told.got } } xs) {g off : Nat} (hs : s.got.1 = some ⟨g, off, none⟩) {tx : ByteArray} (ht : ∀ h, tx = (x.told.got[i]'h).v.t) :
    MK w (W.setCell ⟨g, off + i * 4 + 2, none⟩ (.string (Mg.hide tx))) b s x0 { x with told := { x.told with got := upI Mg.hideG (i + 1) x.told.got } } xs := by
  rw [ht hi]
  exact h.got_next i hi hs
theorem MK.ver_nextT (i k : Nat) (hi : i < x.rows.length) (hk : k < (x.rows[i]).l.length) (h : MK w W b s x0 { x with rows := rowsK x.rows i k hi } xs) {g off cv : Nat} (hx : xs[i]? = some [.string (x.rows[i]).p, .int .u64 (x.rows[i]).last, .slice (some ⟨g, off, none⟩) (x.rows[i]).l.length cv]) {tx : ByteArray} (ht : tx = ((x.rows[i]).l[k]).t) :
    MK w (W.setCell ⟨g, off + k * 3 + 2, none⟩ (.string (Mg.hide tx))) b s x0 { x with rows := rowsK x.rows i (k + 1) hi } xs := by
  rw [ht]
  exact h.ver_next i k hi hk hx
theorem MK.cellL (h : MK w W b s x0 x xs) {g off : Nat} (hr : s.rows.1 = some ⟨g, off, none⟩) {i : Nat} {p q v : Value} (hx : xs[i]? = some [p, q, v]) : W.cell? ⟨g, off + i * 3 + 1 + 1, none⟩ = some v := by
  have ho := h.rw
  rw [hr] at ho
  obtain ⟨h1, h2⟩ := List.getElem?_eq_some_iff.1 hx
  obtain ⟨g', off', e, hc⟩ := ho.row i h1
  cases e
  rw [h2] at hc
  exact hc.cell 2 (by simp)
theorem MK.rowsAt (h : MK w W b s x0 x xs) (i : Nat) (hi : i < x.rows.length) : ∃ g off sv cv, s.rows.1 = some ⟨g, off, none⟩ ∧ xs[i]? = some [.string (x.rows[i]).p, .int .u64 (x.rows[i]).last, .slice sv (x.rows[i]).l.length cv] := by
  obtain ⟨sv, cv, h1, _⟩ := h.ro.2 i hi
  obtain ⟨h2, _⟩ := List.getElem?_eq_some_iff.1 h1
  obtain ⟨g, off, e, _⟩ := h.rw.row i h2
  exact ⟨g, off, sv, cv, e, h1⟩
theorem MK.verAt (i k : Nat) (hi : i < x.rows.length) (hk : k < (x.rows[i]).l.length) (h : MK w W b s x0 { x with rows := rowsK x.rows i k hi } xs) {sv : Option Addr} {cv : Nat} (hx : xs[i]? = some [.string (x.rows[i]).p, .int .u64 (x.rows[i]).last, .slice sv (x.rows[i]).l.length cv]) :
    ∃ g off, sv = some ⟨g, off, none⟩ ∧ W.cell? ⟨g, off + k * 3 + 2, none⟩ = some (.string ((x.rows[i]).l[k]).t) ∧ ∀ j, W.frozen? ⟨g, j, none⟩ = false := by
  have hl : i < (rowsK x.rows i k hi).length := by rw [rowsK_len]; exact hi
  have e : (rowsK x.rows i k hi)[i] = { x.rows[i] with l := upI Mg.hideV k (x.rows[i]).l } := by
    have := rowsK_at x.rows i k hi
    rw [List.getElem?_eq_getElem hl] at this
    exact Option.some.inj this
  obtain ⟨s2, c2, h1, ho⟩ := h.ro.2 i hl
  rw [hx] at h1
  simp only [e, Option.some.injEq, List.cons.injEq, Value.slice.injEq, and_true, true_and] at h1
  obtain ⟨rfl, _, rfl⟩ := h1
  simp only [e] at ho
  have hlen : k < (upI Mg.hideV k (x.rows[i]).l).length := by rw [upI_len k (by omega)]; exact hk
  obtain ⟨g, off, rfl, hc⟩ := ho.row k (by simpa using hlen)
  refine ⟨g, off, rfl, ?_, fun j => ho.thaw j⟩
  have e2 : (upI Mg.hideV k (x.rows[i]).l)[k] = (x.rows[i]).l[k] := by
    have := upI_at (f := Mg.hideV) k hk
    rw [List.getElem?_eq_getElem hlen] at this
    exact Option.some.inj this
  simp only [List.getElem_map, e2] at hc
  exact hc.cell 2 (by simp)
theorem MV_mask (s : MS) (x : Mg.Msg) : MV s (Mg.mask x) = MV s x := by
  unfold MV MS.cells Mg.mask
  simp only [List.length_map]
end

end Go.Proofs.YtjgnomjjphkfbaaGreat
