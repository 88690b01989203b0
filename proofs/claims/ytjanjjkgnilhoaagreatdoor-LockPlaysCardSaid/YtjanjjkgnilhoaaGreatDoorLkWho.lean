/-
  THE WALK of (*lock.Locks).Who: a walk through the map, in whatever order it goes; then the sort.
-/
import Derived.Test.YtjanjjkgnilhoaaGreatDoorLkSort2
import Derived.Test.YtjanjjkgnilhoaaGreatDoorLkLib
namespace Go.Proofs.YtjanjjkgnilhoaaGreatDoor
open Go.RowKit Go.Maps

theorem nodup_le : ∀ {l m : List Tb.Tx}, l.Nodup → (∀ x ∈ l, x ∈ m) → l.length ≤ m.length
  | [], _, _, _ => Nat.zero_le _
  | a :: l, m, hn, h => by
    obtain ⟨h1, h2⟩ := List.nodup_cons.1 hn
    have ha := h a (by simp)
    have ih := nodup_le (m := m.erase a) h2 (fun x hx => (List.mem_erase_of_ne (fun e => h1 (by rw [← e]; exact hx))).2 (h x (List.mem_cons_of_mem _ hx)))
    rw [List.length_erase_of_mem ha] at ih
    have := List.length_pos_of_mem ha
    simp only [List.length_cons]; omega
theorem ins_len (t : Tb.Tx) : ∀ l : List Tb.Tx, (Tb.ins t l).length ≤ l.length + 1
  | [] => by simp [Tb.ins]
  | a :: l => by
    unfold Tb.ins
    split
    · simp
    · split
      · simp
      · have := ins_len t l
        simp only [List.length_cons]; omega
theorem keys_len : ∀ X : Lh.St, (Lh.keys X).length ≤ X.length
  | [] => Nat.le_refl _
  | e :: X => by
    have h1 := keys_len X
    have h2 := ins_len e.1 (Lh.keys X)
    show (Tb.ins e.1 (Lh.keys X)).length ≤ _
    simp only [List.length_cons]; omega
theorem who_len (X : Lh.St) (x : LV) : (Lh.who X x).length ≤ X.length := Nat.le_trans (List.length_filter_le _ _) (keys_len X)
/-- One passed over. -/
theorem Keys.skip {F : Tb.Tx → Bool} {D : DataW Unit} {left : Lit → Bool} {acc : List Tb.Tx} (h : Keys F D left acc) (t : Tb.Tx) (ht : In t) (h0 : F t = false) : Keys F D (fun z => left z && !z.sameKey (tlit t)) acc := by
  refine ⟨fun kl hk => h.sub kl (by simp at hk; exact hk.1), h.nodup, fun x hx => ?_, fun x hx hx0 => ?_⟩
  · obtain ⟨h1, h2, h3⟩ := h.ok x hx
    exact ⟨h1, h2, by rw [h3]; rfl⟩
  · have e : x ≠ t := fun e => by rw [e, h0] at hx0; cases hx0
    rcases h.all x hx hx0 with h1 | h1
    · refine .inl ?_
      try simp only
      rw [h1, sameKey_ne (fun e2 => e (tlit_inj hx ht e2))]; rfl
    · exact .inr h1
theorem iter_ne {W : World} {b r n : Nat} {D : DataW Unit} {left : Lit → Bool} {ct : Nat} (h : W.ranges Tryz.prog 35 RS b r n D left ct) {e : TypeId} {k : Nat} {a : Option Addr} {m c : Nat} {xs : List Value} (hs : SliceIs W e k a m c xs) : r ∉ blks a := by
  obtain ⟨es, clock, since, seen, c0, _, _, _, _, hr, _⟩ := h
  rcases hs.2 with ⟨rfl, _⟩ | ⟨g, off, cur, rfl, hg, _⟩
  · simp
  · intro hk; simp at hk; subst hk; rw [hr] at hg; cases hg
theorem map_ne {W : World} {b r n : Nat} {D : DataW Unit} {left : Lit → Bool} {ct : Nat} (h : W.ranges Tryz.prog 35 RS b r n D left ct) {e : TypeId} {k : Nat} {a : Option Addr} {m c : Nat} {xs : List Value} (hs : SliceIs W e k a m c xs) : b ∉ blks a := by
  obtain ⟨es, clock, since, seen, c0, hb, _⟩ := h
  exact slice_ne_map hs hb
theorem grown_none {w w' : World} (h : w.grownBy w' none) : Below w.heap.size w w' := ⟨h.os, h.tape, h.output, h.size, fun k hk => h.block k hk (by simp)⟩
theorem grown_of {w w' : World} (h : Below w.heap.size w w') : w.grownBy w' none := ⟨h.os, h.tape, h.output, h.size, fun k hk _ => h.block k hk⟩
theorem txInfo : (Tryz.prog.info? 35).map (fun i => (i.zero, i.size, i.bytes)) = some (some (.agg #[.int .u64 0, .int .u64 0]), 2, 16) := by kernel_rfl
theorem tx_info : ∃ i, Tryz.prog.info? 35 = some i ∧ i.zero = some (.agg #[.int .u64 0, .int .u64 0]) ∧ i.size = 2 ∧ i.bytes = 16 := by
  have h := txInfo
  cases hi : Tryz.prog.info? 35 with
  | none => rw [hi] at h; cases h
  | some i =>
    rw [hi] at h
    simp only [Option.map_some, Option.some.injEq, Prod.mk.injEq] at h
    exact ⟨i, rfl, h.1, h.2.1, h.2.2⟩
/-- A transaction's number pushed behind a list of one's own. -/
theorem tx_push {w W : World} (hO : Own w.heap.size w W) {s : Option Addr} {cap : Nat} {acc : List Tb.Tx} (h : OL w W 35 2 s cap (acc.map tcells)) (t : Tb.Tx) (hn : acc.length ≤ 100000) :
    ∃ s' cap' W2, (appSem #[50, 50] 50 #[.slice s acc.length cap, .slice (some ⟨W.heap.size, 0, none⟩) 1 1]).run Tryz.prog (W.alloc (.cells #[.int .u64 t.life, .int .u64 t.n] 35 (0, 0))) = .ok (.slice s' (acc.length + 1) cap') W2 ∧
      OL w W2 35 2 s' cap' ((acc ++ [t]).map tcells) ∧ Own w.heap.size w W2 ∧ Keeps W W2 s s' := by
  obtain ⟨i, hi, hz, hsize, hby⟩ := tx_info
  have := ol_push (P := Tryz.prog) (T := 50) Tryz.underlying50 hi hz hsize hby rfl (by decide) (by decide) hO h (tcells t) rfl (by intro u hu; simp [tcells] at hu; rcases hu with rfl | rfl <;> rfl) (by simpa using hn)
  rw [List.length_map] at this
  rw [List.map_append, List.map_cons, List.map_nil]
  exact this
theorem keeps_ranges {W W2 : World} {s s' : Option Addr} (k : Keeps W W2 s s') {b r n : Nat} {D : DataW Unit} {left : Lit → Bool} {ct : Nat} (h : W.ranges Tryz.prog 35 RS b r n D left ct) (hb : b ∉ blks s) (hr : r ∉ blks s) : W2.ranges Tryz.prog 35 RS b r n D left ct := by
  have h1 := h.owns.lt
  have h2 := h.lt
  obtain ⟨es, clock, since, seen, c0, hbb, F, hs, hD, hrr, rest⟩ := h
  exact ⟨es, clock, since, seen, c0, (k.upd.keep b h1 hb).trans hbb, F, hs, hD, (k.upd.keep r h2 hr).trans hrr, rest⟩

attribute [local go_sem ↓ high] appSem_eq
set_option maxRecDepth 20000 in
set_option maxHeartbeats 4000000 in
theorem who_any {w : World} {q b n : Nat} {X : Lh.St} (h : LkAt w q b X n) (hly : Lay w) (x : LV) (hx : okL x) : Calls Tryz.prog 18 #[.pointer (some ⟨q, 0, none⟩), x.val] w fun e w' => (∃ s cap, e = .returned (.slice s (Lh.who X x).length cap) ∧ RowIs w' 2 s ((Lh.who X x).map tcells)) ∧ Below w.heap.size w w' := by
  obtain ⟨w0, hw0⟩ : ∃ w0, w0 = w.alloc (.cells #[.int .u8 x.kind, .string x.p, .int .u64 x.frm, .int .u64 x.top] 25 (0, 0)) := ⟨_, rfl⟩
  have hb0 : Own w.heap.size w w0 := by rw [hw0]; exact (Own.refl w).alloc _
  have hx0 : w0.heap[w.heap.size]? = some (.cells #[.int .u8 x.kind, .string x.p, .int .u64 x.frm, .int .u64 x.top] 25 (0, 0)) := by rw [hw0]; exact heap_alloc_new w _
  have hs0 : w.heap.size < w0.heap.size := blk_lt hx0
  have hL0 : LkAt w0 q b X n := h.keep hb0.below
  have hly0 : Lay w0 := hly.keep hb0.below
  have HL := Lib.hid hL0
  have HLY := Lib.hid hly0
  have HX0 := Lib.hid hx0
  have HB0 := Lib.hid hb0
  have HN := Lib.hid (none_any hL0)
  obtain ⟨D, hown, hM, hS⟩ := hL0.map
  have HS := Lib.hid hS
  have c0 : w0.cell? ⟨q, 0, none⟩ = some (.map (some b)) := by rw [cell_of_row _ _ _ _ _ _ hL0.box]; rfl
  have HW0 := Lib.hid hw0
  have HHX := Lib.hid hx
  have HML := Lib.hid hL0.most
  clear h hly hb0 hx0 hL0 hly0 hM hS hs0 hx
  go_enter Tryz.func18, Tryz.ntmps18
  go_wp2_with fail
  rw [← hw0]
  refine HN.out.mono ?_
  rintro e w1 ⟨rfl, rfl⟩
  clear hw0
  go_wp2_with (first
    | (at_range; refine wpList_range_own _ rfl _ 55 rfl 35 36 tx_keyed Tryz.underlying55 RS b n D rfl hown ?_; intro w4 hrg0 hg0 hs0)
    | go_in)
  go_frame
  have hO4 : Own w1.heap.size w1 w4 := ⟨grown_none hg0, by omega⟩
  have HO4 := Lib.hid hO4
  have hK0 : Keys (fun t => Lh.hits x (Lh.row X t)) D (Maps.has D) [] := Keys.start (fun t ht h0 => HS.out.all t ht (fun e => by rw [e] at h0; cases h0))
  have HK0 := Lib.hid hK0
  have hbig := Lib.hid hO4.size
  clear hg0 hs0 hown hO4 hK0 c0
  go_loopw [4] (fun v4 wr => ∃ (left : Lit → Bool) (ct : Nat) (acc : List Tb.Tx) (s : Option Addr) (cap : Nat), v4 = .slice s acc.length cap ∧ wr.ranges Tryz.prog 35 RS b w1.heap.size n D left ct ∧ Keys (fun t => Lh.hits x (Lh.row X t)) D left acc ∧ OL w1 wr 35 2 s cap (acc.map tcells) ∧ Own w1.heap.size w1 wr) (fun _ wr => wr.rangeLeft b w1.heap.size)
  case atStart => exact ⟨_, _, [], none, 0, rfl, hrg0, HK0.out, OL.nil _ _ _ _, HO4.out⟩
  case round =>
    clear hrg0 HO4 HK0 hbig
    obtain ⟨left, ct, acc, s, cap, rfl, hrg, hK, hOL, hO⟩ := hrel
    have HK := Lib.hid hK
    have HOL := Lib.hid hOL
    have HO := Lib.hid hO
    have hacc : acc.length ≤ 4096 := Nat.le_trans (nodup_le hK.nodup (fun t ht => Lh.mem_keys.2 (by
      obtain ⟨_, h2, _⟩ := hK.ok t ht
      obtain ⟨y, hy, _⟩ := List.any_eq_true.1 h2
      exact ⟨y, Lh.mem_row.1 hy⟩))) (Nat.le_trans (keys_len X) HML.out)
    have HAC := Lib.hid hacc
    clear hK hOL hO hacc
    go_wp2_with (first
      | (at_next; refine wpList_next_ranges _ rfl _ rfl 35 tx_keyed RS id id (fun key _ _ => ⟨key, rfl⟩) (fun v y _ => ⟨v, rfl⟩) b w1.heap.size n D left ct rfl hrg ?_ ?_)
      | go_in)
    · intro _ hleft
      clear hrg
      have hd := HK.out.done hleft
      have HD := Lib.hid hd
      clear hd hleft HK
      have HWho : Hid (∀ m, Tb.Srt m → (∀ t, t ∈ m ↔ t ∈ acc) → m = Lh.who X x) := Lib.hid (fun m h1 h2 => Tb.Srt.ext h1 (Lh.who_srt X x) (fun t => by
        rw [h2, Lh.mem_who]
        obtain ⟨d1, d2, d3⟩ := HD.out
        constructor
        · intro ht
          obtain ⟨y, hy, hc⟩ := List.any_eq_true.1 (d2 t ht).2
          exact ⟨y, Lh.mem_row.1 hy, hc⟩
        · rintro ⟨y, h3, h4⟩
          exact d3 t (HL.out.ok _ h3).1 (List.any_eq_true.2 ⟨y, Lh.mem_row.2 h3, h4⟩)))
      cases s with
      | none =>
        have HSN := Lib.hid (fun wz => sort_none (.func (.func 33) #[] #[]) wz)
        have hz : acc = [] ∧ cap = 0 := by
          rcases HOL.out.sl.2 with ⟨_, h1, h2⟩ | ⟨_, _, _, h1, _⟩
          · exact ⟨by simpa using h1, h2⟩
          · cases h1
        obtain ⟨rfl, rfl⟩ := hz
        have hw : [] = Lh.who X x := HWho.out [] List.Pairwise.nil (fun t => Iff.rfl)
        have HWN := Lib.hid hw
        clear hw
        go_wp2_with fail
        refine (HSN.out _).mono ?_
        rintro e w6 ⟨rfl, rfl⟩
        go_wp2_with fail
        go_ret
        exact ⟨⟨none, 0, by rw [← HWN.out]; rfl, by rw [← HWN.out]; exact RowIs.nil _ _ _⟩, HB0.out.below.trans (HO.out.below.mono HB0.out.size)⟩
      | some ad =>
        obtain ⟨g, off, rfl⟩ : ∃ g off, ad = ⟨g, off, none⟩ := by
          rcases HOL.out.sl.2 with ⟨h1, _⟩ | ⟨g, off, _, h1, _⟩
          · cases h1
          · exact ⟨g, off, by injection h1⟩
        have hsl := HOL.out.sl
        rw [List.length_map] at hsl
        have HST := Lib.hid (sort_tx acc HD.out.1 (by have := HAC.out; omega) g off cap wr hsl)
        have hfar := HOL.out.far g (by simp)
        have HF := Lib.hid hfar
        clear hsl hfar
        go_wp2_with fail
        refine HST.out.mono ?_
        rintro e w6 ⟨rfl, m, hm1, hm2, hm3, hm4, hm5⟩
        have hw := HWho.out m hm1 hm2
        have HM1 := Lib.hid hw
        have HM3 := Lib.hid hm3
        have HM4 := Lib.hid hm4
        have HO6 := Lib.hid (HO.out.upd hm5 (by simp; exact HF.out))
        clear hw hm1 hm2 hm3 hm4 hm5
        go_wp2_with fail
        go_ret
        exact ⟨⟨_, cap, by rw [← HM1.out, HM3.out]; rfl, by rw [← HM1.out]; exact HM4.out⟩, HB0.out.below.trans (HO6.out.below.mono HB0.out.size)⟩
    · intro key v kl y1 y2 wn ct1 hkey hlk hv hat hrg1 hlt hg1 hs1 hen
      obtain ⟨t, rfl, hin, hne⟩ := HS.out.only kl (HK.out.sub kl hlk)
      have ek : key = tval t := tx_keyed.inj hkey (tkey t hin)
      obtain ⟨a', cap', e1, e2⟩ := HS.out.val t hin
      have ev : v = .slice a' (Lh.row X t).length cap' := by
        have h1 := hat .nil
        rw [e1] at h1
        refine RS_inv e2 (ps := y2) ?_
        rw [h1]; exact hv
      have HLK := Lib.hid hlk
      have HIN := Lib.hid hin
      have HRG := Lib.hid hrg1
      have HRO := Lib.hid hrg
      have HLT := Lib.hid hlt
      have hON : Own w1.heap.size w1 wn := HO.out.upd (grown_upd hg1) (by simp)
      have HON := Lib.hid hON
      have hOLn : OL w1 wn 35 2 s cap (acc.map tcells) := ⟨HOL.out.sl.keep (fun k hk => (grown_upd hg1).keep k (HOL.out.sl.lt k hk) (by simp; intro e; subst e; exact iter_ne hrg HOL.out.sl hk)), HOL.out.far, HOL.out.all⟩
      have HOLN := Lib.hid hOLn
      have hrow := SliceIs.rowL e2
      have HROW := Lib.hid hrow
      have hrl : (Lh.row X t).length ≤ 4096 := by
        have := Lh.drop_length X t
        have := HML.out
        omega
      have HRL := Lib.hid hrl
      clear hkey hlk hv hat hrg1 hlt hg1 hs1 hin hne e1 e2 hON hOLn hrow hrl hrg HO HOL
      subst ek ev
      have hkv : tval t = .agg #[.int .u64 t.life, .int .u64 t.n] := rfl
      rw [hkv] at hen
      have HCON : Hid (∀ wz, Below w1.heap.size w1 wz → Calls Tryz.prog 35 #[.slice a' (Lh.row X t).length cap', .func (.func 36) #[] #[.pointer (some ⟨w.heap.size, 0, none⟩)]] wz fun e w' => e = .returned (.bool (Lh.hits x (Lh.row X t))) ∧ Below wz.heap.size wz w') := Lib.hid (fun wz hb => conf_has a' cap' (Lh.row X t) wz x HHX.out w.heap.size ((hb.block _ (blk_lt HX0.out)).trans HX0.out) (HLY.out.keep hb) (HROW.out.keep hb) (by have := HRL.out; omega) (row_okL HL.out.ok t))
      have HOA := Lib.hid (HON.out.alloc (.cells #[.int .u64 t.life, .int .u64 t.n] 35 (0, 0)))
      clear hkv
      simp only [tval]
      go_wp2_with fail
      refine (HCON.out _ HOA.out.below).mono ?_
      rintro e w5 ⟨rfl, hb5⟩
      have HO5 := Lib.hid (HOA.out.trans hb5)
      have hB5 : Below wn.heap.size wn w5 := ((Below.refl _ wn).alloc (Nat.le_refl _) _).trans (hb5.mono (by simp))
      have hOL5 := HOLN.out.keep hB5
      have hrg5 := HRG.out.kept (grown_of hB5) (by simp) (by simp)
      have hX := hb5.block wn.heap.size (by simp)
      rw [heap_alloc_new] at hX
      have k0 : w5.cell? ⟨wn.heap.size, 0, none⟩ = some (.int .u64 t.life) := by rw [cell_of_row _ _ _ _ _ _ hX]; rfl
      have k1 : w5.cell? ⟨wn.heap.size, 1, none⟩ = some (.int .u64 t.n) := by rw [cell_of_row _ _ _ _ _ _ hX]; rfl
      have HRG5 := Lib.hid hrg5
      have HOL5 := Lib.hid hOL5
      clear hb5 hB5 hOL5 hrg5 hX hen HCON HOA
      cases hh : Lh.hits x (Lh.row X t) with
      | true =>
        obtain ⟨s', cap2, W2, hrun, hOL2, hO2, hkeep⟩ := tx_push HO5.out HOL5.out t (by have := HAC.out; omega)
        have HOL2 := Lib.hid hOL2
        have HO2 := Lib.hid hO2
        have HR2 := Lib.hid (keeps_ranges hkeep HRG5.out (map_ne HRG5.out HOL5.out.sl) (iter_ne HRG5.out HOL5.out.sl))
        have HHH := Lib.hid hh
        clear hOL2 hO2 hkeep hh
        go_wp2_with fail
        go_roundw
        case rel => exact ⟨_, ct1, acc ++ [t], s', cap2, by simp, HR2.out, HK.out.snoc t HIN.out HHH.out HLK.out, HOL2.out, HO2.out⟩
        case measure => rw [HR2.out.left_eq, HRO.out.left_eq]; exact HLT.out
      | false =>
        have HHH := Lib.hid hh
        clear hh
        go_wp2_with fail
        go_roundw
        case rel => exact ⟨_, ct1, acc, s, cap, rfl, HRG5.out, HK.out.skip t HIN.out HHH.out, HOL5.out, HO5.out⟩
        case measure => rw [HRG5.out.left_eq, HRO.out.left_eq]; exact HLT.out

end Go.Proofs.YtjanjjkgnilhoaaGreatDoor
