/-
  THE WALKS of what lock leans on: compare; ContainsFunc with its closures. (gen22l.py printed the second half.)
-/
import Derived.Test.YtjanjjkgnilhoaaGreatDoorLkMap
import Derived.Test.YtjanjjkgnilhoaaGreatDoorLkConf2
namespace Go.Proofs.YtjanjjkgnilhoaaGreatDoor
open Go.RowKit

theorem clo_who (x : LV) (hx : okL x) (xb : Nat) (y : LV) (hy : okL y) (w : World) (hl : Lay w) (hxb : w.heap[xb]? = some (.cells #[.int .u8 x.kind, .string x.p, .int .u64 x.frm, .int .u64 x.top] 25 (0, 0))) :
    Calls Tryz.prog 36 #[y.val, .pointer (some ⟨xb, 0, none⟩)] w fun e w' => e = .returned (.bool (Lk.conf x.l y.l)) ∧ Below w.heap.size w w' := by
  obtain ⟨c0, c1, c2, c3⟩ := lock_box hxb
  have hlt := blk_lt hxb
  have HO := Lib.hid ((Own.refl w).alloc (.cells #[.int .u8 y.kind, .string y.p, .int .u64 y.frm, .int .u64 y.top] 25 (0, 0)))
  have HC := Lib.hid (fun wz (hb : Below w.heap.size w wz) => conf_any x y hx hy wz (hl.keep hb))
  have e0 := heap_alloc_new w (.cells #[.int .u8 y.kind, .string y.p, .int .u64 y.frm, .int .u64 y.top] 25 (0, 0))
  have hne : ¬ xb = w.heap.size := by omega
  generalize Lk.conf x.l y.l = r at *
  clear hx hy hl hxb e0
  go_enter Tryz.func36, Tryz.ntmps36
  go_wp2_with fail
  refine (HC.out _ HO.out.below).mono ?_
  rintro e w1 ⟨rfl, hb⟩
  go_wp2_with fail
  go_ret
  exact ⟨rfl, (HO.out.trans hb).below⟩
theorem clo_take (x : Tb.Tx) (xb : Nat) (y : Tb.Tx) (w : World) (hxb : w.heap[xb]? = some (.cells #[.int .u64 x.life, .int .u64 x.n] 35 (0, 0))) :
    Calls Tryz.prog 25 #[.agg #[.int .u64 y.life, .int .u64 y.n], .pointer (some ⟨xb, 0, none⟩)] w fun e w' => e = .returned (.bool (decide (y ≠ x))) ∧ Below w.heap.size w w' := by
  have c0 : w.cell? ⟨xb, 0, none⟩ = some (.int .u64 x.life) := by rw [cell_of_row _ _ _ _ _ _ hxb]; rfl
  have c1 : w.cell? ⟨xb, 1, none⟩ = some (.int .u64 x.n) := by rw [cell_of_row _ _ _ _ _ _ hxb]; rfl
  have hlt := blk_lt hxb
  have HO := Lib.hid ((Own.refl w).alloc (.cells #[.int .u64 y.life, .int .u64 y.n] 35 (0, 0)))
  have hne : ¬ xb = w.heap.size := by omega
  obtain ⟨yl, yn⟩ := y
  obtain ⟨xl, xn⟩ := x
  clear hxb
  by_cases hl : yl = xl
  · subst hl
    by_cases hn : yn = xn
    · subst hn
      rw [show decide ((⟨yl, yn⟩ : Tb.Tx) ≠ ⟨yl, yn⟩) = false from by simp]
      go_enter Tryz.func25, Tryz.ntmps25
      go_wp2_with fail
      go_ret
      exact ⟨rfl, HO.out.below⟩
    · have hnI : ¬ (yn : Int) = xn := by omega
      rw [show decide ((⟨yl, yn⟩ : Tb.Tx) ≠ ⟨yl, xn⟩) = true from by simp [hn]]
      clear hn
      go_enter Tryz.func25, Tryz.ntmps25
      go_wp2_with fail
      go_ret
      exact ⟨by simp [go_sem], HO.out.below⟩
  · have hlI : ¬ (yl : Int) = xl := by omega
    rw [show decide ((⟨yl, yn⟩ : Tb.Tx) ≠ ⟨xl, xn⟩) = true from by simp [hl]]
    clear hl
    go_enter Tryz.func25, Tryz.ntmps25
    go_wp2_with fail
    go_ret
    exact ⟨by simp [go_sem], HO.out.below⟩

set_option maxRecDepth 20000 in
set_option maxHeartbeats 1000000 in
theorem conf_index (a : Option Addr) (cap : Nat) (l : List LV) (w : World) (x : LV) (hx : okL x) (xb : Nat) (hxb : w.heap[xb]? = some (.cells #[.int .u8 x.kind, .string x.p, .int .u64 x.frm, .int .u64 x.top] 25 (0, 0))) (hly : Lay w) (hr : RowIs w 4 a (l.map LV.cells)) (hl : l.length ≤ 10000) (hok : ∀ y ∈ l, okL y) :
    Calls Tryz.prog 50 #[.slice a l.length cap, .func (.func 36) #[] #[.pointer (some ⟨xb, 0, none⟩)]] w fun e w' => (∃ r : Int, e = .returned (.int .i64 r) ∧ Hid (0 ≤ r ↔ l.any (fun y => Lk.conf x.l y.l) = true)) ∧ Below w.heap.size w w' := by
  have HR := Lib.hid hr
  have hlI : (0 : Int) ≤ l.length ∧ (l.length : Int) ≤ 10000 := by omega
  have HC := Lib.hid (fun wz (hb : Below w.heap.size w wz) i (h : i < l.length) => clo_who x hx xb (l[i]) (hok _ (List.getElem_mem _)) wz (hly.keep hb) ((hb.block _ (blk_lt hxb)).trans hxb))
  have HO := Lib.hid (Own.refl w)
  clear hr hl hok hx hxb hly
  go_enter Tryz.func50, Tryz.ntmps50
  go_wp2_with fail
  go_loopw [8] (fun vi wr => ∃ i : Nat, i ≤ l.length ∧ vi = .int .i64 i ∧ (∀ k (h : k < l.length), k < i → (fun y => Lk.conf x.l y.l) l[k] = false) ∧ Own w.heap.size w wr) (fun vi _ => l.length - (intOf vi).toNat)
  case atStart => exact ⟨0, Nat.zero_le _, rfl, fun k _ h => by omega, HO.out⟩
  case round =>
    clear HO
    obtain ⟨i, hi, rfl, hk, hO⟩ := hrel
    have HO := Lib.hid hO
    have HK := Lib.hid hk
    clear hO hk
    by_cases hlt : i < l.length
    · obtain ⟨g, off, rfl, hc⟩ := HR.out.keep HO.out.below i (by simpa using hlt)
      have hiI : (0 : Int) ≤ i ∧ (i : Int) < l.length := by omega
      have HT := Lib.hid hlt
      have hC := HC.out wr HO.out.below i hlt
      obtain ⟨t, ht⟩ : ∃ t, t = l[i]'hlt := ⟨_, rfl⟩
      have HTT : Hid (t = l[i]'hlt) := Lib.hid ht
      rw [← ht] at hC
      have hce : (l.map LV.cells)[i]'(by simpa using hlt) = LV.cells t := by rw [List.getElem_map, ht]
      rw [hce] at hc
      have c0 : wr.cell? ⟨g, off + i * 4, none⟩ = some (.int .u8 t.kind) := hc.cell 0 (by simp [LV.cells])
      have c1 : wr.cell? ⟨g, off + i * 4 + 1, none⟩ = some (.string t.p) := hc.cell 1 (by simp [LV.cells])
      have c2 : wr.cell? ⟨g, off + i * 4 + 2, none⟩ = some (.int .u64 t.frm) := hc.cell 2 (by simp [LV.cells])
      have c3 : wr.cell? ⟨g, off + i * 4 + 3, none⟩ = some (.int .u64 t.top) := hc.cell 3 (by simp [LV.cells])
      have HCC := Lib.hid hC
      clear hce hc ht hC
      go_wp2_with fail
      refine HCC.out.mono ?_
      rintro e w1 ⟨rfl, hb⟩
      have HO1 := Lib.hid (HO.out.trans hb)
      clear hb c0 c1 c2 c3 HCC
      cases hp : Lk.conf x.l t.l with
      | true =>
        have HPF := Lib.hid hp
        clear hp
        go_wp2_with fail
        go_ret
        refine ⟨⟨i, rfl, Lib.hid ?_⟩, HO1.out.below⟩
        refine ⟨fun _ => ?_, fun _ => by omega⟩
        rw [List.any_eq_true]
        exact ⟨l[i]'HT.out, List.getElem_mem _, by rw [← HTT.out]; exact HPF.out⟩
      | false =>
        have HPF := Lib.hid hp
        clear hp
        go_wp2_with fail
        go_roundw
        case rel =>
          refine ⟨i + 1, by omega, by go_num, fun k h hk => ?_, HO1.out⟩
          by_cases e : k = i
          · subst e; rw [← HTT.out]; exact HPF.out
          · exact HK.out k h (by omega)
        case measure => simp [intOf]; omega
    · obtain rfl : i = l.length := by omega
      go_wp2_with fail
      go_ret
      refine ⟨⟨-1, rfl, Lib.hid ?_⟩, HO.out.below⟩
      refine ⟨fun h => by omega, fun h => ?_⟩
      obtain ⟨t, ht, hp⟩ : ∃ t, t ∈ l ∧ Lk.conf x.l t.l = true := by first | exact List.any_eq_true.1 h | simpa using h
      obtain ⟨k, hk, rfl⟩ := List.getElem_of_mem ht
      have h2 := HK.out k hk hk
      first | (rw [h2] at hp; cases hp) | (simp_all)
theorem conf_has (a : Option Addr) (cap : Nat) (l : List LV) (w : World) (x : LV) (hx : okL x) (xb : Nat) (hxb : w.heap[xb]? = some (.cells #[.int .u8 x.kind, .string x.p, .int .u64 x.frm, .int .u64 x.top] 25 (0, 0))) (hly : Lay w) (hr : RowIs w 4 a (l.map LV.cells)) (hl : l.length ≤ 10000) (hok : ∀ y ∈ l, okL y) :
    Calls Tryz.prog 35 #[.slice a l.length cap, .func (.func 36) #[] #[.pointer (some ⟨xb, 0, none⟩)]] w fun e w' => e = .returned (.bool (l.any (fun y => Lk.conf x.l y.l))) ∧ Below w.heap.size w w' := by
  have HC := Lib.hid (conf_index a cap l w x hx xb hxb hly hr hl hok)
  clear hr hl hok hx hxb hly
  generalize hb : l.any (fun y => Lk.conf x.l y.l) = b at *
  have HBB := Lib.hid hb
  clear hb
  go_enter Tryz.func35, Tryz.ntmps35
  go_wp2_with fail
  refine HC.out.mono ?_
  rintro e w1 ⟨⟨r, rfl, hr⟩, hb⟩
  have HRR := hr
  have HB := Lib.hid hb
  clear hr hb
  go_wp2_with fail
  go_ret
  refine ⟨?_, HB.out⟩
  have h := HRR.out
  have e : decide (0 ≤ r) = b := by rw [Bool.eq_iff_iff, decide_eq_true_eq]; exact h
  rw [← e]; simp [go_sem]

set_option maxRecDepth 20000 in
set_option maxHeartbeats 1000000 in
theorem other_index (a : Option Addr) (cap : Nat) (l : List Tb.Tx) (w : World) (x : Tb.Tx) (xb : Nat) (hxb : w.heap[xb]? = some (.cells #[.int .u64 x.life, .int .u64 x.n] 35 (0, 0))) (hr : RowIs w 2 a (l.map tcells)) (hl : l.length ≤ 10000)  :
    Calls Tryz.prog 41 #[.slice a l.length cap, .func (.func 25) #[] #[.pointer (some ⟨xb, 0, none⟩)]] w fun e w' => (∃ r : Int, e = .returned (.int .i64 r) ∧ Hid (0 ≤ r ↔ l.any (fun s => decide (s ≠ x)) = true)) ∧ Below w.heap.size w w' := by
  have HR := Lib.hid hr
  have hlI : (0 : Int) ≤ l.length ∧ (l.length : Int) ≤ 10000 := by omega
  have HC := Lib.hid (fun wz (hb : Below w.heap.size w wz) i (h : i < l.length) => clo_take x xb (l[i]) wz ((hb.block _ (blk_lt hxb)).trans hxb))
  have HO := Lib.hid (Own.refl w)
  clear hr hl hxb
  go_enter Tryz.func41, Tryz.ntmps41
  go_wp2_with fail
  go_loopw [8] (fun vi wr => ∃ i : Nat, i ≤ l.length ∧ vi = .int .i64 i ∧ (∀ k (h : k < l.length), k < i → (fun s => decide (s ≠ x)) l[k] = false) ∧ Own w.heap.size w wr) (fun vi _ => l.length - (intOf vi).toNat)
  case atStart => exact ⟨0, Nat.zero_le _, rfl, fun k _ h => by omega, HO.out⟩
  case round =>
    clear HO
    obtain ⟨i, hi, rfl, hk, hO⟩ := hrel
    have HO := Lib.hid hO
    have HK := Lib.hid hk
    clear hO hk
    by_cases hlt : i < l.length
    · obtain ⟨g, off, rfl, hc⟩ := HR.out.keep HO.out.below i (by simpa using hlt)
      have hiI : (0 : Int) ≤ i ∧ (i : Int) < l.length := by omega
      have HT := Lib.hid hlt
      have hC := HC.out wr HO.out.below i hlt
      obtain ⟨t, ht⟩ : ∃ t, t = l[i]'hlt := ⟨_, rfl⟩
      have HTT : Hid (t = l[i]'hlt) := Lib.hid ht
      rw [← ht] at hC
      have hce : (l.map tcells)[i]'(by simpa using hlt) = tcells t := by rw [List.getElem_map, ht]
      rw [hce] at hc
      have c0 : wr.cell? ⟨g, off + i * 2, none⟩ = some (.int .u64 t.life) := hc.cell 0 (by simp [tcells])
      have c1 : wr.cell? ⟨g, off + i * 2 + 1, none⟩ = some (.int .u64 t.n) := hc.cell 1 (by simp [tcells])
      have HCC := Lib.hid hC
      clear hce hc ht hC
      go_wp2_with fail
      refine HCC.out.mono ?_
      rintro e w1 ⟨rfl, hb⟩
      have HO1 := Lib.hid (HO.out.trans hb)
      clear hb c0 c1 HCC
      cases hp : decide (t ≠ x) with
      | true =>
        have HPF := Lib.hid hp
        clear hp
        go_wp2_with fail
        go_ret
        refine ⟨⟨i, rfl, Lib.hid ?_⟩, HO1.out.below⟩
        refine ⟨fun _ => ?_, fun _ => by omega⟩
        rw [List.any_eq_true]
        exact ⟨l[i]'HT.out, List.getElem_mem _, by rw [← HTT.out]; exact HPF.out⟩
      | false =>
        have HPF := Lib.hid hp
        clear hp
        go_wp2_with fail
        go_roundw
        case rel =>
          refine ⟨i + 1, by omega, by go_num, fun k h hk => ?_, HO1.out⟩
          by_cases e : k = i
          · subst e; rw [← HTT.out]; exact HPF.out
          · exact HK.out k h (by omega)
        case measure => simp [intOf]; omega
    · obtain rfl : i = l.length := by omega
      go_wp2_with fail
      go_ret
      refine ⟨⟨-1, rfl, Lib.hid ?_⟩, HO.out.below⟩
      refine ⟨fun h => by omega, fun h => ?_⟩
      obtain ⟨t, ht, hp⟩ : ∃ t, t ∈ l ∧ decide (t ≠ x) = true := by first | exact List.any_eq_true.1 h | simpa using h
      obtain ⟨k, hk, rfl⟩ := List.getElem_of_mem ht
      have h2 := HK.out k hk hk
      first | (rw [h2] at hp; cases hp) | (simp_all)
theorem other_has (a : Option Addr) (cap : Nat) (l : List Tb.Tx) (w : World) (x : Tb.Tx) (xb : Nat) (hxb : w.heap[xb]? = some (.cells #[.int .u64 x.life, .int .u64 x.n] 35 (0, 0))) (hr : RowIs w 2 a (l.map tcells)) (hl : l.length ≤ 10000)  :
    Calls Tryz.prog 24 #[.slice a l.length cap, .func (.func 25) #[] #[.pointer (some ⟨xb, 0, none⟩)]] w fun e w' => e = .returned (.bool (l.any (fun s => decide (s ≠ x)))) ∧ Below w.heap.size w w' := by
  have HC := Lib.hid (other_index a cap l w x xb hxb hr hl )
  clear hr hl hxb
  generalize hb : l.any (fun s => decide (s ≠ x)) = b at *
  have HBB := Lib.hid hb
  clear hb
  go_enter Tryz.func24, Tryz.ntmps24
  go_wp2_with fail
  refine HC.out.mono ?_
  rintro e w1 ⟨⟨r, rfl, hr⟩, hb⟩
  have HRR := hr
  have HB := Lib.hid hb
  clear hr hb
  go_wp2_with fail
  go_ret
  refine ⟨?_, HB.out⟩
  have h := HRR.out
  have e : decide (0 ≤ r) = b := by rw [Bool.eq_iff_iff, decide_eq_true_eq]; exact h
  rw [← e]; simp [go_sem]

end Go.Proofs.YtjanjjkgnilhoaaGreatDoor
