/-
  THE WALK of (*lock.Locks).All.
-/
import Derived.Test.YtjanjjkgnilhoaaGreatDoorLkColl
namespace Go.Proofs.YtjanjjkgnilhoaaGreatDoor
open Go.RowKit Go.Maps

namespace Lh
def rowE (X : St) (t : Tb.Tx) : List (Tb.Tx × LV) := (row X t).map fun y => (t, y)
theorem rows_le : ∀ (ks : List Tb.Tx) (X : St), ks.Nodup → (ks.flatMap (rowE X)).length ≤ X.length
  | [], X, _ => Nat.zero_le _
  | k :: ks, X, h => by
    obtain ⟨h1, h2⟩ := List.nodup_cons.1 h
    have e : ks.flatMap (rowE X) = ks.flatMap (rowE (drop X k)) := by
      rw [List.flatMap_def, List.flatMap_def]
      congr 1
      refine List.map_congr_left fun t ht => ?_
      unfold rowE
      rw [row_drop_other X (fun e => h1 (by rw [← e]; exact ht))]
    have ih := rows_le ks (drop X k) h2
    have := drop_length X k
    rw [List.flatMap_cons, List.length_append, e]
    have : (rowE X k).length = (row X k).length := by unfold rowE; simp
    omega
/-- What has come when i of those who hold any were gone over, and j locks of the next one. -/
def part (X : St) (i j : Nat) : List (Tb.Tx × LV) := ((keys X).take i).flatMap (rowE X) ++ (if h : i < (keys X).length then (rowE X ((keys X)[i])).take j else [])
theorem part_zero (X : St) : part X 0 0 = [] := by unfold part; split <;> simp
theorem part_all (X : St) : part X (keys X).length 0 = all X := by
  unfold part all
  rw [dif_neg (by omega), List.take_length, List.append_nil]; rfl
theorem part_in {X : St} {i j : Nat} (h : i < (keys X).length) (hj : j < (row X (keys X)[i]).length) : part X i (j + 1) = part X i j ++ [((keys X)[i], (row X (keys X)[i])[j])] := by
  unfold part
  rw [dif_pos h, dif_pos h, List.append_assoc]
  congr 1
  have hl : j < (rowE X (keys X)[i]).length := by unfold rowE; simpa using hj
  rw [← List.take_append_getElem hl]
  congr 2
  simp [rowE]
theorem part_next {X : St} {i : Nat} (h : i < (keys X).length) : part X i (row X (keys X)[i]).length = part X (i + 1) 0 := by
  have e : (rowE X (keys X)[i]).take (row X (keys X)[i]).length = rowE X (keys X)[i] := List.take_of_length_le (by unfold rowE; simp)
  unfold part
  rw [dif_pos h, e, ← List.take_append_getElem h, List.flatMap_append]
  split <;> simp
theorem part_len {X : St} {i j : Nat} (h : i < (keys X).length) : (part X i j).length ≤ X.length := by
  have h1 := rows_le ((keys X).take (i + 1)) X (List.Nodup.sublist (List.take_sublist _ _) (keys_srt X).nodup)
  have h2 : (part X i j).length ≤ (((keys X).take (i + 1)).flatMap (rowE X)).length := by
    unfold part
    rw [dif_pos h, ← List.take_append_getElem h, List.flatMap_append]
    simp only [List.flatMap_cons, List.flatMap_nil, List.append_nil, List.length_append, List.length_take]
    omega
  omega
theorem part_len0 (X : St) (i : Nat) : (part X i 0).length ≤ X.length := by
  have h1 := rows_le ((keys X).take i) X (List.Nodup.sublist (List.take_sublist _ _) (keys_srt X).nodup)
  unfold part
  split <;> simpa using h1
theorem all_len (X : St) : (all X).length ≤ X.length := by rw [← part_all]; exact part_len0 X _
end Lh
def ecells (e : Tb.Tx × LV) : List Value := [.int .u64 e.1.life, .int .u64 e.1.n, .int .u8 e.2.kind, .string e.2.p, .int .u64 e.2.frm, .int .u64 e.2.top]
theorem ecells_len (l : List (Tb.Tx × LV)) : ∀ x ∈ l.map ecells, x.length = 6 := by intro x hx; obtain ⟨y, _, rfl⟩ := List.mem_map.1 hx; rfl
theorem loInfo : (Tryz.prog.info? 59).map (fun i => (i.zero, i.size, i.bytes)) = some (some (.agg #[.int .u64 0, .int .u64 0, .int .u8 0, .string ⟨#[]⟩, .int .u64 0, .int .u64 0]), 6, 56) := by kernel_rfl
theorem lo_info : ∃ i, Tryz.prog.info? 59 = some i ∧ i.zero = some (.agg #[.int .u64 0, .int .u64 0, .int .u8 0, .string ⟨#[]⟩, .int .u64 0, .int .u64 0]) ∧ i.size = 6 ∧ i.bytes = 56 := by
  have h := loInfo
  cases hi : Tryz.prog.info? 59 with
  | none => rw [hi] at h; cases h
  | some i =>
    rw [hi] at h
    simp only [Option.map_some, Option.some.injEq, Prod.mk.injEq] at h
    exact ⟨i, rfl, h.1, h.2.1, h.2.2⟩
/-- A held lock pushed behind a list of one's own. -/
theorem lo_push {w W : World} (hO : Own w.heap.size w W) {s : Option Addr} {cap : Nat} {acc : List (Tb.Tx × LV)} (h : OL w W 59 6 s cap (acc.map ecells)) (t : Tb.Tx) (y : LV) (hn : acc.length ≤ 100000) :
    ∃ s' cap' W2, (appSem #[31, 31] 31 #[.slice s acc.length cap, .slice (some ⟨W.heap.size, 0, none⟩) 1 1]).run Tryz.prog (W.alloc (.cells #[.int .u64 t.life, .int .u64 t.n, .int .u8 y.kind, .string y.p, .int .u64 y.frm, .int .u64 y.top] 59 (0, 0))) = .ok (.slice s' (acc.length + 1) cap') W2 ∧
      OL w W2 59 6 s' cap' ((acc ++ [(t, y)]).map ecells) ∧ Own w.heap.size w W2 ∧ Keeps W W2 s s' := by
  obtain ⟨i, hi, hz, hsize, hby⟩ := lo_info
  have := ol_push (P := Tryz.prog) (T := 31) Tryz.underlying31 hi hz hsize hby rfl (by decide) (by decide) hO h (ecells (t, y)) rfl (by intro u hu; simp [ecells] at hu; rcases hu with rfl | rfl | rfl | rfl | rfl | rfl <;> rfl) (by simpa using hn)
  rw [List.length_map] at this
  rw [List.map_append, List.map_cons, List.map_nil]
  exact this

attribute [local go_sem ↓ high] appSem_eq
set_option maxRecDepth 20000 in
set_option maxHeartbeats 4000000 in
theorem all_any {w : World} {q b n : Nat} {X : Lh.St} (h : LkAt w q b X n) :
    Calls Tryz.prog 15 #[.pointer (some ⟨q, 0, none⟩)] w fun e w' => (∃ s cap, e = .returned (.slice s (Lh.all X).length cap) ∧ OL w w' 59 6 s cap ((Lh.all X).map ecells)) ∧ Below w.heap.size w w' := by
  have HL := Lib.hid h
  have HN := Lib.hid (none_any h)
  have c0 : w.cell? ⟨q, 0, none⟩ = some (.map (some b)) := by rw [cell_of_row _ _ _ _ _ _ h.box]; rfl
  have HK := Lib.hid (fun wz => keys_any (some b) wz)
  have hbw : Below w.heap.size w (w.alloc (.cells #[.map (some b)] 55)) := (Below.refl _ w).alloc (Nat.le_refl _) _
  have HO1 := Lib.hid ((Own.refl w).alloc (.cells #[.map (some b)] 55))
  have HSO := Lib.hid (sorted_any (h.keep hbw) (heap_alloc_new w (.cells #[.map (some b)] 55)))
  have hkl : (Lh.keys X).length ≤ 4096 := by have := keys_len X; have := h.most; omega
  have hkI : (0 : Int) ≤ (Lh.keys X).length ∧ ((Lh.keys X).length : Int) ≤ 4096 := by omega
  have HKL := Lib.hid hkl
  clear h hbw hkl
  go_enter Tryz.func15, Tryz.ntmps15
  go_wp2_with fail
  refine HN.out.mono ?_
  rintro e w1 ⟨rfl, rfl⟩
  go_wp2_with fail
  refine (HK.out _).mono ?_
  rintro e w2 ⟨rfl, rfl⟩
  go_wp2_with fail
  refine HSO.out.mono ?_
  rintro e w3 ⟨⟨ks, kcap, rfl, hkr⟩, hb3⟩
  have HO3 := Lib.hid (HO1.out.trans hb3)
  have HKR := Lib.hid hkr
  clear hkr hb3 HO1 HSO HK HN c0
  go_wp2_with fail
  go_loopw [16, 2] (fun vi vo wr => ∃ (i : Nat) (so : Option Addr) (co : Nat), i ≤ (Lh.keys X).length ∧ vi = .int .i64 i ∧ vo = .slice so (Lh.part X i 0).length co ∧ OL w3 wr 59 6 so co ((Lh.part X i 0).map ecells) ∧ Own w3.heap.size w3 wr) (fun vi _ _ => (Lh.keys X).length - (intOf vi).toNat)
  case atStart => exact ⟨0, none, 0, Nat.zero_le _, rfl, by rw [Lh.part_zero]; rfl, by rw [Lh.part_zero]; exact OL.nil _ _ _ _, Own.refl _⟩
  case round =>
    obtain ⟨wo, hwo⟩ : ∃ wo, wo = wr := ⟨_, rfl⟩
    subst hwo
    obtain ⟨i, so, co, hi, rfl, rfl, hOL, hO⟩ := hrel
    have HO := Lib.hid hO
    have HOL := Lib.hid hOL
    clear hO hOL
    by_cases hlt : i < (Lh.keys X).length
    · obtain ⟨g, off, rfl, hc⟩ := HKR.out.keep HO.out.below i (by simpa using hlt)
      have hiI : (0 : Int) ≤ i ∧ (i : Int) < (Lh.keys X).length := by omega
      obtain ⟨t, ht⟩ : ∃ t, t = (Lh.keys X)[i]'hlt := ⟨_, rfl⟩
      have hce : ((Lh.keys X).map tcells)[i]'(by simpa using hlt) = tcells t := by rw [List.getElem_map, ht]
      rw [hce] at hc
      have c0 : wo.cell? ⟨g, off + i * 2, none⟩ = some (.int .u64 t.life) := hc.cell 0 (by simp [tcells])
      have c1 : wo.cell? ⟨g, off + i * 2 + 1, none⟩ = some (.int .u64 t.n) := hc.cell 1 (by simp [tcells])
      have hin : In t := by
        obtain ⟨y, hy⟩ := Lh.mem_keys.1 (show t ∈ Lh.keys X by rw [ht]; exact List.getElem_mem _)
        exact (HL.out.ok _ hy).1
      have HOA := Lib.hid (HO.out.alloc (.cells #[.int .u64 t.life, .int .u64 t.n] 35 (0, 0))).drew
      have hbx : ((wo.alloc (.cells #[.int .u64 t.life, .int .u64 t.n] 35 (0, 0))).drew).heap[wo.heap.size]? = some (.cells #[.int .u64 t.life, .int .u64 t.n] 35 (0, 0)) := heap_alloc_new wo _
      have hLr := HL.out.keep (HO3.out.below.trans (HOA.out.below.mono HO3.out.size))
      have k0 : ((wo.alloc (.cells #[.int .u64 t.life, .int .u64 t.n] 35 (0, 0))).drew).cell? ⟨q, 0, none⟩ = some (.map (some b)) := by rw [cell_of_row _ _ _ _ _ _ hLr.box]; rfl
      have k1 : ((wo.alloc (.cells #[.int .u64 t.life, .int .u64 t.n] 35 (0, 0))).drew).cell? ⟨wo.heap.size, 0, none⟩ = some (.int .u64 t.life) := by rw [cell_of_row _ _ _ _ _ _ hbx]; rfl
      have k2 : ((wo.alloc (.cells #[.int .u64 t.life, .int .u64 t.n] 35 (0, 0))).drew).cell? ⟨wo.heap.size, 1, none⟩ = some (.int .u64 t.n) := by rw [cell_of_row _ _ _ _ _ _ hbx]; rfl
      obtain ⟨a0, cap0, hlook, hsl⟩ := hLr.look hin
      have hrl : (Lh.row X t).length ≤ 4096 := by
        have := Lh.drop_length X t
        have := HL.out.most
        omega
      have hrI : (0 : Int) ≤ (Lh.row X t).length ∧ ((Lh.row X t).length : Int) ≤ 4096 := by omega
      have HBX := Lib.hid hbx
      have HSL := Lib.hid hsl
      have HOL2 := Lib.hid (HOL.out.keep (((Below.refl _ wo).alloc (Nat.le_refl _) (.cells #[.int .u64 t.life, .int .u64 t.n] 35 (0, 0))).drew))
      have HPI : Hid (∀ j (hj : j < (Lh.row X t).length), Lh.part X i (j + 1) = Lh.part X i j ++ [(t, (Lh.row X t)[j])]) := Lib.hid (fun j hj => by subst ht; exact Lh.part_in hlt hj)
      have HPN : Hid (Lh.part X i (Lh.row X t).length = Lh.part X (i + 1) 0) := Lib.hid (by subst ht; exact Lh.part_next hlt)
      have HPL : Hid (∀ j, (Lh.part X i j).length ≤ 4096) := Lib.hid (fun j => Nat.le_trans (Lh.part_len hlt) HL.out.most)
      clear hce hc ht hin hLr hsl hrl hbx
      go_wp2_with fail
      go_region_held3 (fun w' => w'.cell? ⟨q, 0, none⟩ = some (.map (some b)) ∧ w'.cell? ⟨wo.heap.size, 0, none⟩ = some (.int .u64 t.life) ∧ w'.cell? ⟨wo.heap.size, 1, none⟩ = some (.int .u64 t.n)) (exact And.intro k0 (And.intro k1 k2)) (fail)
      clear hlook c0 c1 k0 k1 k2
      go_wp2_with fail
      go_loopw [27, 2] (fun vj vo wz => ∃ (j : Nat) (sj : Option Addr) (cj : Nat), j ≤ (Lh.row X t).length ∧ vj = .int .i64 j ∧ vo = .slice sj (Lh.part X i j).length cj ∧ OL w3 wz 59 6 sj cj ((Lh.part X i j).map ecells) ∧ Own w3.heap.size w3 wz ∧ SliceIs wz 25 4 a0 (Lh.row X t).length cap0 (lflat (Lh.row X t)) ∧ wz.heap[wo.heap.size]? = some (.cells #[.int .u64 t.life, .int .u64 t.n] 35 (0, 0))) (fun vj _ _ => (Lh.row X t).length - (intOf vj).toNat)
      case atStart => exact ⟨0, so, co, Nat.zero_le _, rfl, rfl, HOL2.out, HOA.out, HSL.out, HBX.out⟩
      case round =>
        clear HOL2 HOA HSL HBX HOL HO
        obtain ⟨j, sj, cj, hj, rfl, rfl, hOL, hO, hsl, hbx⟩ := hrel
        have HO := Lib.hid hO
        have HOL := Lib.hid hOL
        have HBX := Lib.hid hbx
        have HSL := Lib.hid hsl
        clear hO hOL
        by_cases hlj : j < (Lh.row X t).length
        · obtain ⟨g2, off2, rfl, hc⟩ := (SliceIs.rowL hsl) j (by simpa using hlj)
          have hjI : (0 : Int) ≤ j ∧ (j : Int) < (Lh.row X t).length := by omega
          obtain ⟨y, hy⟩ : ∃ y, y = (Lh.row X t)[j]'hlj := ⟨_, rfl⟩
          have hce : ((Lh.row X t).map LV.cells)[j]'(by simpa using hlj) = LV.cells y := by rw [List.getElem_map, hy]
          rw [hce] at hc
          have c0 : wr.cell? ⟨g2, off2 + j * 4, none⟩ = some (.int .u8 y.kind) := hc.cell 0 (by simp [LV.cells])
          have c1 : wr.cell? ⟨g2, off2 + j * 4 + 1, none⟩ = some (.string y.p) := hc.cell 1 (by simp [LV.cells])
          have c2 : wr.cell? ⟨g2, off2 + j * 4 + 2, none⟩ = some (.int .u64 y.frm) := hc.cell 2 (by simp [LV.cells])
          have c3 : wr.cell? ⟨g2, off2 + j * 4 + 3, none⟩ = some (.int .u64 y.top) := hc.cell 3 (by simp [LV.cells])
          have b0 : (wr.alloc (.cells #[.int .u8 y.kind, .string y.p, .int .u64 y.frm, .int .u64 y.top] 25 (0, 0))).cell? ⟨wo.heap.size, 0, none⟩ = some (.int .u64 t.life) := by rw [cell_of_row _ _ _ _ _ _ ((((Below.refl _ wr).alloc (Nat.le_refl _) _).block _ (blk_lt hbx)).trans hbx)]; rfl
          have b1 : (wr.alloc (.cells #[.int .u8 y.kind, .string y.p, .int .u64 y.frm, .int .u64 y.top] 25 (0, 0))).cell? ⟨wo.heap.size, 1, none⟩ = some (.int .u64 t.n) := by rw [cell_of_row _ _ _ _ _ _ ((((Below.refl _ wr).alloc (Nat.le_refl _) _).block _ (blk_lt hbx)).trans hbx)]; rfl
          have hb6 := (Below.refl wr.heap.size wr).alloc (Nat.le_refl _) (.cells #[.int .u8 y.kind, .string y.p, .int .u64 y.frm, .int .u64 y.top] 25 (0, 0))
          have hOL6 := HOL.out.keep hb6
          have hbx6 := (hb6.block _ (blk_lt hbx)).trans hbx
          obtain ⟨s', cap2, W2, hrun, hOL7, hO7, hkp⟩ := lo_push (HO.out.trans hb6) hOL6 t y (by have := HPL.out j; omega)
          rw [World.size_alloc] at hrun
          have HK1 : Hid (W2.heap[wo.heap.size]? = some (.cells #[.int .u64 t.life, .int .u64 t.n] 35 (0, 0))) := Lib.hid ((hkp.upd.keep _ (blk_lt hbx6) (hOL6.sl.ne hbx6 (by decide))).trans hbx6)
          have HK2 : Hid (SliceIs W2 25 4 (some ⟨g2, off2, none⟩) (Lh.row X t).length cap0 (lflat (Lh.row X t))) := Lib.hid (by
            have h6 := hsl.alloc (.cells #[.int .u8 y.kind, .string y.p, .int .u64 y.frm, .int .u64 y.top] 25 (0, 0))
            refine h6.keep fun k hk => hkp.upd.keep k (h6.lt k hk) ?_
            rcases h6.2 with ⟨e, _⟩ | ⟨g, off, cur, e, hg, _⟩
            · cases e
            · cases e
              simp at hk; subst hk
              exact hOL6.sl.ne hg (by decide))
          have HOL7 := Lib.hid hOL7
          have HO7 := Lib.hid hO7
          have HPJ : Hid (Lh.part X i (j + 1) = Lh.part X i j ++ [(t, y)]) := Lib.hid (by rw [hy]; exact HPI.out j hlj)
          clear hce hc hy hb6 hOL6 hbx6 hOL7 hO7 hkp hsl hbx
          go_wp2_with fail
          go_roundw
          case rel => exact ⟨j + 1, s', cap2, by omega, by go_num, by rw [HPJ.out]; simp, by rw [HPJ.out]; exact HOL7.out, HO7.out, HK2.out, HK1.out⟩
          case measure => simp [intOf]; omega
        · obtain rfl : j = (Lh.row X t).length := by omega
          clear hsl hbx
          go_wp2_with fail
          go_roundw
          case rel => exact ⟨i + 1, sj, cj, by omega, by go_num, by rw [← HPN.out], by rw [← HPN.out]; exact HOL.out, HO.out⟩
          case measure => simp [intOf]; omega
    · obtain rfl : i = (Lh.keys X).length := by omega
      go_wp2_with fail
      go_ret
      refine ⟨⟨so, co, ?_, ?_⟩, (HO3.out.trans HO.out.below).below⟩
      · rw [← Lh.part_all]; rfl
      have := HOL.out; rw [Lh.part_all] at this
      exact ⟨this.sl, fun k hk => Nat.le_trans HO3.out.size (this.far k hk), this.all⟩

end Go.Proofs.YtjanjjkgnilhoaaGreatDoor
