/-
  THE WALK of (*lock.Locks).Take.
-/
import Derived.Test.YtjanjjkgnilhoaaGreatDoorLkWho
namespace Go.Proofs.YtjanjjkgnilhoaaGreatDoor
open Go.RowKit Go.Maps

theorem take_may {X : Lh.St} {t : Tb.Tx} {l : List LV} {i : Nat} (h : i < l.length) (h1 : Lk.may l[i].l = false) (h2 : ∀ k (hk : k < l.length), k < i → Lk.may l[k].l = true) : Lh.take X t l = (i, 2, X) := by
  have e : Lh.first (fun y => !Lk.may y.l) l = some i := Lh.first_some.2 ⟨h, by rw [h1]; rfl, fun j hj => by rw [h2 j (by omega) hj]; rfl⟩
  unfold Lh.take; rw [e]
theorem take_busy {X : Lh.St} {t : Tb.Tx} {l : List LV} {i : Nat} (hm : ∀ k (hk : k < l.length), Lk.may l[k].l = true) (h : i < l.length) (h1 : Lh.busy X t l[i] = true) (h2 : ∀ k (hk : k < l.length), k < i → Lh.busy X t l[k] = false) : Lh.take X t l = (i, 9, X) := by
  have e0 : Lh.first (fun y => !Lk.may y.l) l = none := Lh.first_none.2 fun y hy => by
    obtain ⟨k, hk, rfl⟩ := List.getElem_of_mem hy
    rw [hm k hk]; rfl
  have e : Lh.first (Lh.busy X t) l = some i := Lh.first_some.2 ⟨h, h1, fun j hj => h2 j (by omega) hj⟩
  unfold Lh.take; rw [e0]; simp only; rw [e]
theorem take_none {X : Lh.St} {t : Tb.Tx} {l : List LV} (hm : ∀ k (hk : k < l.length), Lk.may l[k].l = true) (h2 : ∀ k (hk : k < l.length), Lh.busy X t l[k] = false) : Lh.take X t l = if Lh.Most < (Lh.put X t l).length then (0, 4, X) else (0, 0, Lh.put X t l) := by
  have e0 : Lh.first (fun y => !Lk.may y.l) l = none := Lh.first_none.2 fun y hy => by
    obtain ⟨k, hk, rfl⟩ := List.getElem_of_mem hy
    rw [hm k hk]; rfl
  have e : Lh.first (Lh.busy X t) l = none := Lh.first_none.2 fun y hy => by
    obtain ⟨k, hk, rfl⟩ := List.getElem_of_mem hy
    exact h2 k hk
  unfold Lh.take; rw [e0]; simp only; rw [e]
/-- A lock pushed behind a list of one's own. -/
theorem lk_push {w W : World} (hO : Own w.heap.size w W) {s : Option Addr} {cap : Nat} {acc : List LV} (h : OL w W 25 4 s cap (acc.map LV.cells)) (y : LV) (hn : acc.length ≤ 100000) :
    ∃ s' cap' W2, (appSem #[36, 36] 36 #[.slice s acc.length cap, .slice (some ⟨W.heap.size, 0, none⟩) 1 1]).run Tryz.prog (W.alloc (.cells #[.int .u8 y.kind, .string y.p, .int .u64 y.frm, .int .u64 y.top] 25 (0, 0))) = .ok (.slice s' (acc.length + 1) cap') W2 ∧
      OL w W2 25 4 s' cap' ((acc ++ [y]).map LV.cells) ∧ Own w.heap.size w W2 ∧ Keeps W W2 s s' := by
  obtain ⟨i, hi, hz, hsize, hby⟩ := lk_info
  have := ol_push (P := Tryz.prog) (T := 36) Tryz.underlying36 hi hz hsize hby rfl (by decide) (by decide) hO h y.cells rfl (lcells_one [y] _ (by simp)) (by simpa using hn)
  rw [List.length_map] at this
  rw [List.map_append, List.map_cons, List.map_nil]
  exact this

theorem frozen_zero {w : World} {g i : Nat} {cs : Array Value} {t : TypeId} (hg : w.heap[g]? = some (.cells cs t (0, 0))) : w.frozen? ⟨g, i, none⟩ = false := by
  simp [World.frozen?, hg]
/-- The number laid down anew, as it stood. -/
theorem LkAt.reset {W : World} {q b n : Nat} {X : Lh.St} (h : LkAt W q b X n) {v : Int} (hv : v = X.length) : LkAt (W.setCell ⟨q, 1, none⟩ (.int .i64 v)) q b X n := by
  refine h.keep ⟨rfl, rfl, rfl, by simp, fun k hk => ?_⟩
  by_cases e : k = q
  · subst e
    rw [heap_set _ h.box, h.box, hv]; rfl
  · exact heap_setCell_other _ _ _ _ e
attribute [local go_sem ↓ high] appSem_eq
set_option maxRecDepth 20000 in
set_option maxHeartbeats 8000000 in
theorem take_any {w : World} {q b n : Nat} {X : Lh.St} (h : LkAt w q b X n) (hly : Lay w) (hn : n < 100000) (t : Tb.Tx) (ht : In t) (s : Option Addr) (cap : Nat) (l : List LV) (hr : RowIs w 4 s (l.map LV.cells)) (hok : ∀ y ∈ l, okL y) (hlen : l.length ≤ 5000) :
    Calls Tryz.prog 9 #[.pointer (some ⟨q, 0, none⟩), .agg #[.int .u64 t.life, .int .u64 t.n], .slice s l.length cap] w fun e w' => e = .returned (.tuple #[.int .i64 (Lh.take X t l).1, .int .i64 (Lh.take X t l).2.1]) ∧ LkAt w' q b (Lh.take X t l).2.2 (n + 1) ∧ Upd w w' [q, b] := by
  obtain ⟨w0, hw0⟩ : ∃ w0, w0 = w.alloc (.cells #[.int .u64 t.life, .int .u64 t.n] 35 (0, 0)) := ⟨_, rfl⟩
  have hb0 : Own w.heap.size w w0 := by rw [hw0]; exact (Own.refl w).alloc _
  have hx0 : w0.heap[w.heap.size]? = some (.cells #[.int .u64 t.life, .int .u64 t.n] 35 (0, 0)) := by rw [hw0]; exact heap_alloc_new w _
  have hL0 : LkAt w0 q b X n := h.keep hb0.below
  have HL := Lib.hid hL0
  have HLY : Hid (Lay w0) := Lib.hid (hly.keep hb0.below)
  have HX0 := Lib.hid hx0
  have HB0 := Lib.hid hb0
  have HN := Lib.hid (none_any hL0)
  have HR : Hid (RowIs w0 4 s (l.map LV.cells)) := Lib.hid (hr.keep hb0.below)
  have HOK := Lib.hid hok
  have HLEN := Lib.hid hlen
  have HNN := Lib.hid hn
  have HIN := Lib.hid ht
  have HO0 := Lib.hid (Own.refl w0)
  have HTR : Hid (∀ r, Lh.take X t l = r → Lh.take X t l = r) := Lib.hid (fun _ h => h)
  obtain ⟨T, hT⟩ : ∃ T, T = Lh.take X t l := ⟨_, rfl⟩
  rw [← hT]
  have HT := Lib.hid hT
  have hlI : (0 : Int) ≤ l.length ∧ (l.length : Int) ≤ 5000 := by omega
  clear h hly hb0 hx0 hL0 hr hok hlen hn ht hT HTR
  go_enter Tryz.func9, Tryz.ntmps9
  go_wp2_with fail
  rw [← hw0]
  refine HN.out.mono ?_
  rintro e w1 ⟨rfl, rfl⟩
  clear hw0 HN
  go_wp2_with fail
  go_loopw [20] (fun vi wr => ∃ i : Nat, i ≤ l.length ∧ vi = .int .i64 i ∧ (∀ k (hk : k < l.length), k < i → Lk.may l[k].l = true) ∧ Own w1.heap.size w1 wr) (fun vi _ => l.length - (intOf vi).toNat)
  case atStart => exact ⟨0, Nat.zero_le _, rfl, fun k _ h => by omega, HO0.out⟩
  case round =>
    clear HO0
    obtain ⟨i, hi, rfl, hk, hO⟩ := hrel
    have HO := Lib.hid hO
    have HK := Lib.hid hk
    clear hO hk
    by_cases hlt : i < l.length
    · obtain ⟨g, off, rfl, hc⟩ := HR.out.keep HO.out.below i (by simpa using hlt)
      have hiI : (0 : Int) ≤ i ∧ (i : Int) < l.length := by omega
      have HLT := Lib.hid hlt
      obtain ⟨y, hy⟩ : ∃ y, y = l[i]'hlt := ⟨_, rfl⟩
      have HY : Hid (y = l[i]'hlt) := Lib.hid hy
      have hoy : okL y := by rw [hy]; exact HOK.out _ (List.getElem_mem _)
      have hce : (l.map LV.cells)[i]'(by simpa using hlt) = LV.cells y := by rw [List.getElem_map, hy]
      rw [hce] at hc
      have c0 : wr.cell? ⟨g, off + i * 4, none⟩ = some (.int .u8 y.kind) := hc.cell 0 (by simp [LV.cells])
      have c1 : wr.cell? ⟨g, off + i * 4 + 1, none⟩ = some (.string y.p) := hc.cell 1 (by simp [LV.cells])
      have c2 : wr.cell? ⟨g, off + i * 4 + 2, none⟩ = some (.int .u64 y.frm) := hc.cell 2 (by simp [LV.cells])
      have c3 : wr.cell? ⟨g, off + i * 4 + 3, none⟩ = some (.int .u64 y.top) := hc.cell 3 (by simp [LV.cells])
      have HOA := Lib.hid (HO.out.alloc (.cells #[.int .u8 y.kind, .string y.p, .int .u64 y.frm, .int .u64 y.top] 25 (0, 0)))
      have HC := Lib.hid (lmay_any y hoy _ (HLY.out.keep HOA.out.below))
      clear hce hc hy hoy
      go_wp2_with fail
      refine HC.out.mono ?_
      rintro e w5 ⟨rfl, hb5⟩
      have HO5 := Lib.hid (HOA.out.trans hb5)
      clear hb5 HOA HC c0 c1 c2 c3
      cases hm : Lk.may y.l with
      | false =>
        have hTT : T = (i, 2, X) := HT.out.trans (take_may HLT.out (by rw [← HY.out]; exact hm) HK.out)
        have HTT := Lib.hid hTT
        clear hm hTT
        go_wp2_with fail
        refine bodyPost_ret (v := .tuple #[.int .i64 i, .int .i64 2]) (by simp [results, Tryz.results9, go_sem]) rfl ⟨by rw [HTT.out]; rfl, ?_, ?_⟩
        · rw [HTT.out]; exact (HL.out.keep HO5.out.below).mono (Nat.le_succ _)
        · exact Upd.of_below _ (HB0.out.below.trans (HO5.out.below.mono HB0.out.size))
      | true =>
        have HMM := Lib.hid hm
        clear hm
        go_wp2_with fail
        go_roundw
        case rel =>
          refine ⟨i + 1, by omega, by go_num, fun k h hk => ?_, HO5.out⟩
          by_cases e : k = i
          · subst e; rw [← HY.out]; exact HMM.out
          · exact HK.out k h (by omega)
        case measure => simp [intOf]; omega
    · obtain rfl : i = l.length := by omega
      have HM : Hid (∀ k (hk : k < l.length), Lk.may l[k].l = true) := Lib.hid (fun k hk => HK.out k hk hk)
      have HOL1 := Lib.hid HO.out
      clear HK hi hlt HO
      go_wp2_with fail
      go_loopw [32] (fun vi wr => ∃ i : Nat, i ≤ l.length ∧ vi = .int .i64 i ∧ (∀ k (hk : k < l.length), k < i → Lh.busy X t l[k] = false) ∧ Own w1.heap.size w1 wr) (fun vi _ => l.length - (intOf vi).toNat)
      case atStart => exact ⟨0, Nat.zero_le _, rfl, fun k _ h => by omega, HOL1.out⟩
      case round =>
        clear HOL1
        obtain ⟨i, hi, rfl, hk, hO⟩ := hrel
        have HO := Lib.hid hO
        have HK := Lib.hid hk
        clear hO hk
        by_cases hlt : i < l.length
        · obtain ⟨g, off, rfl, hc⟩ := HR.out.keep HO.out.below i (by simpa using hlt)
          have hiI : (0 : Int) ≤ i ∧ (i : Int) < l.length := by omega
          have HLT := Lib.hid hlt
          obtain ⟨y, hy⟩ : ∃ y, y = l[i]'hlt := ⟨_, rfl⟩
          have HY : Hid (y = l[i]'hlt) := Lib.hid hy
          have hoy : okL y := by rw [hy]; exact HOK.out _ (List.getElem_mem _)
          have hce : (l.map LV.cells)[i]'(by simpa using hlt) = LV.cells y := by rw [List.getElem_map, hy]
          rw [hce] at hc
          have c0 : wr.cell? ⟨g, off + i * 4, none⟩ = some (.int .u8 y.kind) := hc.cell 0 (by simp [LV.cells])
          have c1 : wr.cell? ⟨g, off + i * 4 + 1, none⟩ = some (.string y.p) := hc.cell 1 (by simp [LV.cells])
          have c2 : wr.cell? ⟨g, off + i * 4 + 2, none⟩ = some (.int .u64 y.frm) := hc.cell 2 (by simp [LV.cells])
          have c3 : wr.cell? ⟨g, off + i * 4 + 3, none⟩ = some (.int .u64 y.top) := hc.cell 3 (by simp [LV.cells])
          have HOA := Lib.hid (HO.out.alloc (.cells #[.int .u8 y.kind, .string y.p, .int .u64 y.frm, .int .u64 y.top] 25 (0, 0)))
          have HC := Lib.hid (who_any (HL.out.keep HOA.out.below) (HLY.out.keep HOA.out.below) y hoy)
          clear hce hc hy hoy
          go_wp2_with fail
          refine HC.out.mono ?_
          rintro e w5 ⟨⟨s5, cap5, rfl, hr5⟩, hb5⟩
          have HO5 := Lib.hid (HOA.out.trans hb5)
          have HC2 := Lib.hid (other_has s5 cap5 (Lh.who X y) w5 t w.heap.size ((HO5.out.below.block _ (blk_lt HX0.out)).trans HX0.out) hr5 (by have := who_len X y; have := HL.out.most; omega))
          clear hb5 HOA HC c0 c1 c2 c3 hr5
          go_wp2_with fail
          refine HC2.out.mono ?_
          rintro e w6 ⟨rfl, hb6⟩
          have HO6 := Lib.hid (HO5.out.trans hb6)
          clear hb6 HO5 HC2
          have hbs : (Lh.who X y).any (fun s => decide (s ≠ t)) = Lh.busy X t y := rfl
          rw [hbs]
          cases hm : Lh.busy X t y with
          | true =>
            have hTT : T = (i, 9, X) := HT.out.trans (take_busy HM.out HLT.out (by rw [← HY.out]; exact hm) HK.out)
            have HTT := Lib.hid hTT
            clear hm hTT hbs
            go_wp2_with fail
            refine bodyPost_ret (v := .tuple #[.int .i64 i, .int .i64 9]) (by simp [results, Tryz.results9, go_sem]) rfl ⟨by rw [HTT.out]; rfl, ?_, ?_⟩
            · rw [HTT.out]; exact (HL.out.keep HO6.out.below).mono (Nat.le_succ _)
            · exact Upd.of_below _ (HB0.out.below.trans (HO6.out.below.mono HB0.out.size))
          | false =>
            have HMM := Lib.hid hm
            clear hm hbs
            go_wp2_with fail
            go_roundw
            case rel =>
              refine ⟨i + 1, by omega, by go_num, fun k h hk => ?_, HO6.out⟩
              by_cases e : k = i
              · subst e; rw [← HY.out]; exact HMM.out
              · exact HK.out k h (by omega)
            case measure => simp [intOf]; omega
        · obtain rfl : i = l.length := by omega
          have HB : Hid (∀ k (hk : k < l.length), Lh.busy X t l[k] = false) := Lib.hid (fun k hk => HK.out k hk hk)
          have hTT := HT.out.trans (take_none HM.out HB.out)
          have HTT := Lib.hid hTT
          have HOQ := Lib.hid HO.out
          clear HK hi hlt HO HB hTT HT HM
          have HLQ := Lib.hid (HL.out.keep HOQ.out.drew.below)
          have hbox := HLQ.out.box
          have c0 : wr.drew.cell? ⟨q, 0, none⟩ = some (.map (some b)) := by rw [cell_of_row _ _ _ _ _ _ hbox]; rfl
          have hbt := (HOQ.out.drew.below.block _ (blk_lt HX0.out)).trans HX0.out
          have d0 : wr.drew.cell? ⟨w.heap.size, 0, none⟩ = some (.int .u64 t.life) := by rw [cell_of_row _ _ _ _ _ _ hbt]; rfl
          have d1 : wr.drew.cell? ⟨w.heap.size, 1, none⟩ = some (.int .u64 t.n) := by rw [cell_of_row _ _ _ _ _ _ hbt]; rfl
          obtain ⟨a0, cap0, hlook, hsl⟩ := HLQ.out.look HIN.out
          have hrl : (Lh.row X t).length ≤ 4096 := by
            have := Lh.drop_length X t
            have := HL.out.most
            omega
          have HCL := Lib.hid (clone_lock a0 cap0 (Lh.row X t) wr.drew hsl (by omega))
          have HRL := Lib.hid hrl
          clear hbox hbt hsl hrl
          go_wp2_with fail
          go_region_held3 (fun w' => w'.cell? ⟨q, 0, none⟩ = some (.map (some b)) ∧ w'.cell? ⟨w.heap.size, 0, none⟩ = some (.int .u64 t.life) ∧ w'.cell? ⟨w.heap.size, 1, none⟩ = some (.int .u64 t.n)) (first | exact And.intro c0 (And.intro d0 d1) | exact And.intro c0' (And.intro d0' d1'))
            (first
            | (go_at_call 26
               (with_reducible refine HCL.out.mono ?_)
               rintro e w7 ⟨⟨a7, cap7, rfl, hs7, hf7⟩, hO7⟩
               have HO7 := Lib.hid (HOQ.out.drew.trans hO7.below)
               have HS7 := Lib.hid hs7
               have HF7 := Lib.hid (fun k hk => Nat.le_trans HOQ.out.size (hf7 k hk))
               have hbox := (HL.out.keep HO7.out.below).box
               have c0' : w7.cell? ⟨q, 0, none⟩ = some (.map (some b)) := by rw [cell_of_row _ _ _ _ _ _ hbox]; rfl
               have hbt := (HO7.out.below.block _ (blk_lt HX0.out)).trans HX0.out
               have d0' : w7.cell? ⟨w.heap.size, 0, none⟩ = some (.int .u64 t.life) := by rw [cell_of_row _ _ _ _ _ _ hbt]; rfl
               have d1' : w7.cell? ⟨w.heap.size, 1, none⟩ = some (.int .u64 t.n) := by rw [cell_of_row _ _ _ _ _ _ hbt]; rfl
               clear hs7 hf7 hO7 hbox hbt))
          clear hlook c0 d0 d1 c0' d0' d1' HCL
          go_wp2_with fail
          go_loopw [53, 12] (fun vi va wr => ∃ (i : Nat) (sa : Option Addr) (ca : Nat), i ≤ l.length ∧ vi = .int .i64 i ∧ va = .slice sa (Lh.add (Lh.row X t) (l.take i)).length ca ∧ OL w1 wr 25 4 sa ca ((Lh.add (Lh.row X t) (l.take i)).map LV.cells) ∧ Own w1.heap.size w1 wr) (fun vi _ _ => l.length - (intOf vi).toNat)
          case atStart => exact ⟨0, a7, cap7, Nat.zero_le _, rfl, rfl, ⟨by simpa [Lh.add_nil, lflat] using HS7.out, HF7.out, lcells_len _⟩, HO7.out⟩
          case round =>
            clear HO7 HS7 HF7 HOQ HLQ
            obtain ⟨i, sa, ca, hi, rfl, rfl, hOL, hO⟩ := hrel
            have HO := Lib.hid hO
            have HOL := Lib.hid hOL
            have hal : (Lh.add (Lh.row X t) (l.take i)).length ≤ 9096 := by
              obtain ⟨r, h1, h2, _⟩ := Lh.add_pre (l.take i) (Lh.row X t)
              have := HRL.out
              have := HLEN.out
              rw [h1]; simp at h2 ⊢; omega
            have HAL := Lib.hid hal
            clear hO hOL hal
            by_cases hlt : i < l.length
            · obtain ⟨g, off, rfl, hc⟩ := HR.out.keep HO.out.below i (by simpa using hlt)
              have hiI : (0 : Int) ≤ i ∧ (i : Int) < l.length := by omega
              have HLT := Lib.hid hlt
              obtain ⟨y, hy⟩ : ∃ y, y = l[i]'hlt := ⟨_, rfl⟩
              have hsn : l.take (i + 1) = l.take i ++ [y] := by rw [hy]; exact (List.take_append_getElem hlt).symm
              have HADD : Hid (Lh.add (Lh.row X t) (l.take (i + 1)) = if y ∈ Lh.add (Lh.row X t) (l.take i) then Lh.add (Lh.row X t) (l.take i) else Lh.add (Lh.row X t) (l.take i) ++ [y]) := Lib.hid (by rw [hsn, Lh.add_snoc])
              have hce : (l.map LV.cells)[i]'(by simpa using hlt) = LV.cells y := by rw [List.getElem_map, hy]
              rw [hce] at hc
              have c0 : wr.cell? ⟨g, off + i * 4, none⟩ = some (.int .u8 y.kind) := hc.cell 0 (by simp [LV.cells])
              have c1 : wr.cell? ⟨g, off + i * 4 + 1, none⟩ = some (.string y.p) := hc.cell 1 (by simp [LV.cells])
              have c2 : wr.cell? ⟨g, off + i * 4 + 2, none⟩ = some (.int .u64 y.frm) := hc.cell 2 (by simp [LV.cells])
              have c3 : wr.cell? ⟨g, off + i * 4 + 3, none⟩ = some (.int .u64 y.top) := hc.cell 3 (by simp [LV.cells])
              have HOA := Lib.hid (HO.out.alloc (.cells #[.int .u8 y.kind, .string y.p, .int .u64 y.frm, .int .u64 y.top] 25 (0, 0)))
              generalize Lh.add (Lh.row X t) (l.take i) = acc at *
              have hOLA := HOL.out.keep ((Below.refl _ wr).alloc (Nat.le_refl _) (.cells #[.int .u8 y.kind, .string y.p, .int .u64 y.frm, .int .u64 y.top] 25 (0, 0)))
              have HOLA := Lib.hid hOLA
              have HC := Lib.hid (has_lock y sa ca acc _ (by simpa using hOLA.row) (by have := HAL.out; omega))
              clear hce hc hy hsn hOLA
              go_wp2_with fail
              refine HC.out.mono ?_
              rintro e w5 ⟨rfl, hb5⟩
              have HO5 := Lib.hid (HOA.out.trans hb5)
              have HOL5 := Lib.hid (HOLA.out.keep hb5)
              have hX := hb5.block wr.heap.size (by simp)
              rw [heap_alloc_new] at hX
              obtain ⟨k0, k1, k2, k3⟩ := lock_box hX
              clear hb5 HOA HC c0 c1 c2 c3 hX HOLA
              cases hm : hasL acc y with
              | true =>
                have hadd := HADD.out
                rw [if_pos (of_decide_eq_true hm)] at hadd
                have HADD2 := Lib.hid hadd
                clear hm hadd HADD
                go_wp2_with fail
                go_roundw
                case rel =>
                  exact ⟨i + 1, sa, ca, by omega, by go_num, by rw [HADD2.out], by rw [HADD2.out]; exact HOL5.out, HO5.out⟩
                case measure => simp [intOf]; omega
              | false =>
                have hadd := HADD.out
                rw [if_neg (of_decide_eq_false hm)] at hadd
                have HADD2 := Lib.hid hadd
                obtain ⟨s', cap2, W2, hrun, hOL2, hO2, _⟩ := lk_push HO5.out HOL5.out y (by have := HAL.out; omega)
                have HOL2 := Lib.hid hOL2
                have HO2 := Lib.hid hO2
                clear hm hadd HADD hOL2 hO2
                go_wp2_with fail
                go_roundw
                case rel =>
                  exact ⟨i + 1, s', cap2, by omega, by go_num, by rw [HADD2.out]; simp, by rw [HADD2.out]; exact HOL2.out, HO2.out⟩
                case measure => simp [intOf]; omega
            · obtain rfl : i = l.length := by omega
              generalize hA : Lh.add (Lh.row X t) (List.take l.length l) = A at *
              have HAE : Hid (A = Lh.add (Lh.row X t) l) := Lib.hid (by rw [← hA, List.take_length])
              clear hA hi hlt
              have HL1 := Lib.hid (HL.out.keep HO.out.drew.below)
              have hbox := HL1.out.box
              have c0 : wr.drew.cell? ⟨q, 0, none⟩ = some (.map (some b)) := by rw [cell_of_row _ _ _ _ _ _ hbox]; rfl
              have c1 : wr.drew.cell? ⟨q, 1, none⟩ = some (.int .i64 X.length) := by rw [cell_of_row _ _ _ _ _ _ hbox]; rfl
              have hbt := (HO.out.drew.below.block _ (blk_lt HX0.out)).trans HX0.out
              have d0 : wr.drew.cell? ⟨w.heap.size, 0, none⟩ = some (.int .u64 t.life) := by rw [cell_of_row _ _ _ _ _ _ hbt]; rfl
              have d1 : wr.drew.cell? ⟨w.heap.size, 1, none⟩ = some (.int .u64 t.n) := by rw [cell_of_row _ _ _ _ _ _ hbt]; rfl
              obtain ⟨a0, cap0, hlook, _⟩ := HL1.out.look HIN.out
              have hnum : (Lh.put X t l).length + (Lh.row X t).length = X.length + A.length := by rw [HAE.out]; exact Lh.put_length X t l
              have hle : (Lh.row X t).length ≤ A.length := by rw [HAE.out, Lh.add_news]; simp
              have hXm := HL.out.most
              have hnI : (0 : Int) ≤ A.length ∧ (A.length : Int) ≤ 9096 ∧ (0 : Int) ≤ (Lh.row X t).length ∧ ((Lh.row X t).length : Int) ≤ A.length ∧ (0 : Int) ≤ X.length ∧ (X.length : Int) ≤ 4096 := by
                have := HAL.out; omega
              have HNUM := Lib.hid hnum
              clear hbox hbt hle hXm
              go_wp2_with fail
              go_region_held3 (fun w' => w'.cell? ⟨q, 0, none⟩ = some (.map (some b)) ∧ w'.cell? ⟨w.heap.size, 0, none⟩ = some (.int .u64 t.life) ∧ w'.cell? ⟨w.heap.size, 1, none⟩ = some (.int .u64 t.n)) (exact And.intro c0 (And.intro d0 d1)) (fail)
              clear hlook
              by_cases hf : Lh.Most < (Lh.put X t l).length
              · have hfI : (4096 : Int) < X.length + ((A.length : Int) - (Lh.row X t).length) := by
                  have : Lh.Most = 4096 := rfl
                  omega
                have hTT := HTT.out
                rw [if_pos hf] at hTT
                have HT2 := Lib.hid hTT
                clear hTT hf hnum HTT
                go_wp2_with fail
                refine bodyPost_ret (v := .tuple #[.int .i64 0, .int .i64 4]) (by simp [results, Tryz.results9, go_sem]) rfl ⟨by rw [HT2.out]; rfl, ?_, ?_⟩
                · rw [HT2.out]; exact HL1.out.mono (Nat.le_succ _)
                · exact Upd.of_below _ (HB0.out.below.trans (HO.out.drew.below.mono HB0.out.size))
              · have hfI : (X.length : Int) + ((A.length : Int) - (Lh.row X t).length) ≤ 4096 := by
                  have : Lh.Most = 4096 := rfl
                  omega
                have hTT := HTT.out
                rw [if_neg hf] at hTT
                have HT2 := Lib.hid hTT
                have HPM : Hid ((Lh.put X t l).length ≤ 4096) := Lib.hid (by have : Lh.Most = 4096 := rfl; omega)
                clear hTT hf hnum HTT
                by_cases hA0 : A = []
                · have hr0 : ((Lh.row X t).length : Int) = 0 := by
                    have h1 := HAE.out
                    rw [hA0, Lh.add_news] at h1
                    rw [(List.append_eq_nil_iff.1 h1.symm).1]; rfl
                  have HR0 := Lib.hid hr0
                  have HPN : Hid (Lh.put X t l = X) := Lib.hid (Lh.put_none (by rw [← HAE.out]; exact hA0))
                  have hf1 : wr.frozen? ⟨q, 1, none⟩ = false := frozen_zero (i := 1) HL1.out.box
                  clear hr0
                  subst hA0
                  go_wp2_with fail
                  refine bodyPost_ret (v := .tuple #[.int .i64 0, .int .i64 0]) (by simp [results, Tryz.results9, go_sem]) rfl ⟨by rw [HT2.out]; rfl, ?_, ?_⟩
                  · rw [HT2.out]
                    simp only [HPN.out]
                    exact (LkAt.reset (W := wr.drew) HL1.out (by have := HR0.out; omega)).mono (Nat.le_succ _)
                  · exact (Upd.of_below _ (HB0.out.below.trans (HO.out.drew.below.mono HB0.out.size))).trans ((Upd.refl wr.drew [q, b]).setCell (p := ⟨q, 1, none⟩) (.inl (by simp)) _) (fun x hx => .inl hx)
                · have hAI : (0 : Int) < A.length := by have := List.length_pos_iff.2 hA0; omega
                  have hL2 := HL.out.keep HO.out.drew.drew.below
                  have e0 : wr.drew.drew.cell? ⟨q, 0, none⟩ = some (.map (some b)) := by rw [cell_of_row _ _ _ _ _ _ hL2.box]; rfl
                  have hbt := (HO.out.drew.drew.below.block _ (blk_lt HX0.out)).trans HX0.out
                  have e1 : wr.drew.drew.cell? ⟨w.heap.size, 0, none⟩ = some (.int .u64 t.life) := by rw [cell_of_row _ _ _ _ _ _ hbt]; rfl
                  have e2 : wr.drew.drew.cell? ⟨w.heap.size, 1, none⟩ = some (.int .u64 t.n) := by rw [cell_of_row _ _ _ _ _ _ hbt]; rfl
                  obtain ⟨W', hrun, hU, hsz, hfin⟩ := hL2.store (by have := HNN.out; omega) HIN.out (a := sa) (cap := ca) hA0 (by have := HOL.out.sl; rw [List.length_map] at this; exact this.keep fun _ _ => rfl)
                  have hbx : W'.heap[q]? = some (.cells #[.map (some b), .int .i64 X.length] 57 (0, 0)) := (hU.keep q hL2.lt.1 (by simp; exact hL2.ne)).trans hL2.box
                  have m1 : W'.cell? ⟨q, 1, none⟩ = some (.int .i64 X.length) := by rw [cell_of_row _ _ _ _ _ _ hbx]; rfl
                  have hf1 : W'.frozen? ⟨q, 1, none⟩ = false := frozen_zero (i := 1) hbx
                  have HBX := Lib.hid hbx
                  have HU := Lib.hid hU
                  have HFIN := Lib.hid hfin
                  clear hL2 hbt hU hsz hfin hbx
                  go_wp2_with fail
                  go_region
                  all_goals
                    clear hrun e0 e1 e2 c0 c1 d0 d1
                    go_wp2_with fail
                    refine bodyPost_ret (v := .tuple #[.int .i64 0, .int .i64 0]) (by simp [results, Tryz.results9, go_sem]) rfl ⟨by rw [HT2.out]; rfl, ?_, ?_⟩
                    · rw [HT2.out]
                      refine HFIN.out _ (Lh.put X t l) (by rw [Lh.row_put_same, HAE.out]) (fun s hs => Lh.row_put_other X hs l) (fun e he => ?_) HPM.out ?_ ((Upd.refl W' [q]).setCell (p := ⟨q, 1, none⟩) (.inl (by simp)) _)
                      · rcases List.mem_append.1 he with h1 | h1
                        · exact HL.out.ok e h1
                        · obtain ⟨y, hy, rfl⟩ := List.mem_map.1 h1
                          exact ⟨HIN.out, HOK.out y (Lh.news_mem _ _ y hy)⟩
                      · have hv : (X.length : Int) + (A.length - (Lh.row X t).length) = (Lh.put X t l).length := by have := HNUM.out; omega
                        rw [heap_set _ HBX.out, hv]; rfl
                    · have h1 : Upd w wr.drew.drew [q, b] := Upd.of_below _ (HB0.out.below.trans (HO.out.drew.drew.below.mono HB0.out.size))
                      exact (h1.trans HU.out (fun x hx => .inl (by simp at hx; simp [hx]))).trans ((Upd.refl W' [q, b]).setCell (p := ⟨q, 1, none⟩) (.inl (by simp)) _) (fun x hx => .inl hx)

end Go.Proofs.YtjanjjkgnilhoaaGreatDoor
