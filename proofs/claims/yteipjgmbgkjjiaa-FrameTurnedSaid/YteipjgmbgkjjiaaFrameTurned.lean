/-
  THE WALK of the statement FrameTurned.
-/
import Derived.Test.YteipjgmbgkjjiaaFrameCuts
set_option linter.unusedVariables false
set_option linter.unusedSimpArgs false
namespace Go.Proofs.Yteipjgmbgkjjiaa
open Go.RowKit

theorem bit_test (t : BitVec 32) (i : Nat) : (w32 (t >>> i &&& 1#32) == 1) = t.getLsbD i := by
  rw [show (1 : Int) = w32 1#32 from rfl, eq32, Crc.bit_take]
  cases t.getLsbD i <;> rfl
theorem low_cell (p : Nat) (hp : p < 3) : ([.int .i64 4, .int .i64 12, .int .i64 16] : List Value)[p]? = some (.int .i64 (Frm.lowOf p)) := by
  obtain rfl | rfl | rfl : p = 0 ∨ p = 1 ∨ p = 2 := by omega
  all_goals rfl
theorem bits_cell (p : Nat) (hp : p < 3) (n : Nat) : ([.int .i64 64, .int .i64 32, .int .i64 (8 * (n : Int))] : List Value)[p]? = some (.int .i64 ((if p = 0 then 64 else if p = 1 then 32 else 8 * n : Nat) : Int)) := by
  obtain rfl | rfl | rfl : p = 0 ∨ p = 1 ∨ p = 2 := by omega
  all_goals simp

theorem cnt_le (t : BitVec 32) (i : Nat) : Frm.cnt t i ≤ i := by
  induction i with
  | zero => exact Nat.le_refl _
  | succ q ih => rw [Frm.cnt]; split <;> omega

set_option maxRecDepth 20000 in
set_option maxHeartbeats 4000000 in
theorem frameTurned_any (w : World) (a : Option Addr) (cap : Nat) (l : List ByteArray) (which at_ part : Nat) (turns : BitVec 32) (h : TextsAt w a l) (hc : l.length ≤ 9223372036854775807) (hz : ∀ t ∈ l, t.size ≤ 140737488351232) (hwh : which ≤ 65535) (hat : at_ ≤ 65535) (hpt : part ≤ 255) :
    Calls Try.prog 5 #[.slice a l.length cap, .int .u16 which, .int .u16 at_, .int .u32 (w32 turns), .int .u8 part] w fun e w' => e = .returned (.bool true) ∧ Below w.heap.size w w' := by
  have H := Lib.hid h
  have HV := Lib.hid (heavy_any w a cap l h hc hz)
  have hatI : (0 : Int) ≤ at_ ∧ (at_ : Int) ≤ 65535 := by omega
  have hwhI : (0 : Int) ≤ which ∧ (which : Int) ≤ 65535 := by omega
  have hptI : (0 : Int) ≤ part ∧ (part : Int) ≤ 255 := by omega
  have HMX : Hid ((l.length : Int) ≤ 9223372036854775807) := Lib.hid (by omega)
  clear h hc hz hwh hat hpt
  go_enter Try.func5, Try.ntmps5
  go_wp2_with fail
  refine HV.out.mono ?_
  rintro e w' ⟨⟨b, rfl, hb⟩, rfl⟩
  cases b with
  | true =>
    go_wp2_with fail
    refine (alive10 _).mono ?_
    rintro e w' ⟨rfl, hb⟩
    go_wp2
    go_ret
    exact ⟨rfl, hb⟩
  | false =>
    by_cases h0 : l.length = 0
    · have h00 : ((l.length : Int) == 0) = true := by rw [h0]; rfl
      clear h0 hb
      go_wp2_with fail
      refine (alive10 _).mono ?_
      rintro e w' ⟨rfl, hb⟩
      go_wp2
      go_ret
      exact ⟨rfl, hb⟩
    have h00 : ((l.length : Int) == 0) = false := beq_eq_false_iff_ne.2 (by omega)
    obtain ⟨hl, hz⟩ := hb rfl
    have HL := Lib.hid hl
    have HZ := Lib.hid (show ∀ t ∈ l, t.size ≤ 4096 from fun t ht => by have := size_le_sizes l t ht; omega)
    have HROW := Lib.hid (row_any w a cap l 7 H.out hl hz (by decide))
    have HT6 : Hid (∀ t ∈ l.map L, t.length ≤ 65536) := Lib.hid (by
      intro t ht
      obtain ⟨x, hx, rfl⟩ := List.mem_map.1 ht
      rw [L_size]; have := HZ.out x hx; omega)
    have HRL : Hid ((Frm.recs (l.map L) 7).length = l.length) := Lib.hid (by rw [Frm.recs_length, List.length_map])
    have HBL : Hid ((S (Frm.bytes (Frm.recs (l.map L) 7))).size = Frm.lens (l.map L)) := Lib.hid (by rw [S_size, Frm.bytes_length])
    have hlens : Frm.lens (l.map L) ≤ 60 * 4112 := by
      have : ∀ m : List ByteArray, (∀ t ∈ m, t.size ≤ 4096) → Frm.lens (m.map L) ≤ m.length * 4112 := by
        intro m hm
        induction m with
        | nil => simp [Frm.lens]
        | cons x m ih =>
          have h1 := ih (fun t ht => hm t (by simp [ht]))
          have h2 := hm x (by simp)
          have e := L_size x
          simp only [List.map_cons, Frm.lens, List.length_cons]; omega
      have := this l HZ.out
      omega
    have hlI : (1 : Int) ≤ l.length ∧ (l.length : Int) ≤ 60 := by omega
    have HP := Lib.hid (show 0 < l.length by omega)
    clear hb hl hz h0
    go_wp2_with fail
    refine HROW.out.mono ?_
    rintro e w1 ⟨aw, cw, rfl, hrow, hb1, _⟩
    have HR := Lib.hid hrow
    have HO : Hid (Own w.heap.size w w1) := Lib.hid ((Own.refl w).trans hb1)
    have H1 := Lib.hid (H.out.keep hb1)
    have HLB : Hid (L (S (Frm.bytes (Frm.recs (l.map L) 7))) = Frm.bytes (Frm.recs (l.map L) 7)) := Lib.hid rfl
    generalize S (Frm.bytes (Frm.recs (l.map L) 7)) = s at *
    have hss : s.size ≤ 60 * 4112 := by rw [HBL.out]; exact hlens
    have hsI : (s.size : Int) ≤ 246720 := by omega
    obtain ⟨k, hk, hkl⟩ : ∃ k : Nat, (which : Int) % (l.length : Int) = k ∧ k < l.length :=
      ⟨which % l.length, by rw [Int.natCast_emod], Nat.mod_lt _ HP.out⟩
    have hkI : (0 : Int) ≤ k ∧ (k : Int) < l.length := by omega
    clear hrow hb1
    go_wp2_with fail
    rw [hk]
    clear hk
    go_loop [15, 16] (fun vf vi => ∃ i : Nat, i ≤ k ∧ vi = .int .i64 i ∧ vf = .int .i64 (Frm.lens ((l.map L).take i))) (fun _ vi => k - (intOf vi).toNat)
    case atStart => exact ⟨0, Nat.zero_le _, rfl, rfl⟩
    case round =>
      obtain ⟨i, hi, rfl, rfl⟩ := hrel
      have hlt : i < l.length := by omega
      obtain ⟨g, off, rfl, hcl⟩ := H1.out.at i hlt
      have hti := HZ.out l[i] (List.getElem_mem hlt)
      have hle := Frm.lens_take_le (l.map L) i
      have HLS : Hid (Frm.lens ((l.map L).take (i + 1)) = Frm.lens ((l.map L).take i) + (16 + l[i].size)) := Lib.hid (by
        rw [Frm.lens_take_succ _ _ (by simpa using hlt), map_size l i hlt, L_size])
      by_cases hik : i < k
      · have hiI : (0 : Int) ≤ i ∧ (i : Int) < k := by omega
        generalize Frm.lens ((l.map L).take i) = E at *
        generalize l[i] = tx at *
        have htI : (0 : Int) ≤ tx.size ∧ (tx.size : Int) ≤ 4096 := by omega
        have hfI : (0 : Int) ≤ E ∧ (E : Int) ≤ 246720 := by omega
        have hilI : (i : Int) < l.length := by omega
        clear hti hle
        go_wp2_with fail
        go_round
        case rel => exact ⟨i + 1, by omega, by go_num, by rw [HLS.out]; go_num⟩
        case measure => simp [intOf]; omega
      · obtain rfl : i = k := by omega
        have hconv : ∀ w : World, (convert 9 53 (.string s)).run Try.prog w = _ := fun w => run_bytes_of_string w 9 53 5 s Try.und9 Try.und32 Try.und5
        simp only [byteRow_of] at hconv
        have hcap := grownCap_ge w1 s.size 0 5
        have hsz : (byteRow (L s) (grownCap w1 s.size 0 5)).size = grownCap w1 s.size 0 5 := byteRow_size _ _ (by rw [L_size]; exact hcap)
        have HCP := Lib.hid hcap
        obtain ⟨p, hp, hp3⟩ : ∃ p : Nat, (part : Int) % 3 = p ∧ p < 3 := ⟨part % 3, by omega, by omega⟩
        have hlow := low_cell p hp3
        have hbits := bits_cell p hp3 l[i].size
        have HLOW : Hid (Frm.lens ((l.map L).take i) + Frm.lowOf p + (if p = 0 then 64 else if p = 1 then 32 else 8 * l[i].size) / 8 ≤ s.size ∧ Frm.lowOf p ≤ 16) := Lib.hid (by
          have h1 := Frm.lens_take_le (l.map L) (i + 1)
          rw [HLS.out, ← HBL.out] at h1
          unfold Frm.lowOf
          obtain rfl | rfl | rfl : p = 0 ∨ p = 1 ∨ p = 2 := by omega
          all_goals (simp; omega))
        have HBT : Hid (Frm.bitsOf p ((l.map L)[i]'(by simpa using hlt)) = (if p = 0 then 64 else if p = 1 then 32 else 8 * l[i].size)) := Lib.hid (by
          rw [map_size l i hlt]; unfold Frm.bitsOf; rw [L_size])
        have hBb : (if p = 0 then 64 else if p = 1 then 32 else 8 * l[i].size) ≤ 32768 := by split; omega; split; omega; omega
        have hB8 : (if p = 0 then 64 else if p = 1 then 32 else 8 * l[i].size) % 8 = 0 := by split; rfl; split; rfl; omega
        generalize (if p = 0 then 64 else if p = 1 then 32 else 8 * l[i].size) = B at *
        have hLw := HLOW.out.2
        generalize hlow' : Frm.lowOf p = Lw at *
        have HLW := Lib.hid hlow'
        have HP3 := Lib.hid hp3
        have hpI : (0 : Int) ≤ p ∧ (p : Int) < 3 := by omega
        have hLI : (0 : Int) ≤ Lw ∧ (Lw : Int) ≤ 16 := by omega
        have hBI : (0 : Int) ≤ B ∧ (B : Int) ≤ 32768 := by omega
        have hfromI : (0 : Int) ≤ Frm.lens ((l.map L).take i) ∧ (Frm.lens ((l.map L).take i) : Int) ≤ 246720 := by omega
        generalize l[i] = tx at *
        have htI : (0 : Int) ≤ tx.size ∧ (tx.size : Int) ≤ 4096 := by omega
        have hglt := block_lt_of_cell hcl
        have hcl2 : ∀ X Y : Obj, ((w1.alloc X).alloc Y).cell? ⟨g, off + i, none⟩ = some (.string tx) := fun X Y => by
          rw [(((Below.refl w1.heap.size w1).alloc (Nat.le_refl _) X).alloc (by simp) Y).cell hglt, hcl]
        have hge : ¬ (i : Int) < i := by omega
        have hilI : (i : Int) < l.length := by omega
        generalize hEq : Frm.lens ((l.map L).take i) = E at *
        have HEQ := Lib.hid hEq
        clear hEq hti hle hlow' hp3 hLw hBb hcap hlens hss
        have hposI : (E : Int) + Lw + (B : Int) / 8 ≤ s.size := by have := HLOW.out.1; omega
        have hmax : ∀ w, (Builtin.max_ #[3, 3] 3 #[.int .i64 ((B : Int) - 31), .int .i64 1]).run Try.prog w = .ok (.int .i64 ((max (B - 31) 1 : Nat) : Int)) w := by
          intro w
          have e : ((max (B - 31) 1 : Nat) : Int) = max ((B : Int) - 31) 1 := by omega
          rw [e]
          have m2 : ∀ a b : Int, Builtin.max2 (.int .i64 a) (.int .i64 b) = pure (.int .i64 (max a b)) := by
            intro a b
            simp only [Builtin.max2]
            congr 2
            split <;> omega
          simp [Builtin.max_, m2]
        have hm1 : 1 ≤ max (B - 31) 1 ∧ max (B - 31) 1 ≤ 32768 := by omega
        generalize max (B - 31) 1 = m at *
        obtain ⟨j, hj, hjm⟩ : ∃ j : Nat, (at_ : Int) % (m : Int) = j ∧ j ≤ 65535 :=
          ⟨at_ % m, by rw [Int.natCast_emod], by have := Nat.mod_lt at_ (show 0 < m by omega); omega⟩
        have hmI : (1 : Int) ≤ m ∧ (m : Int) ≤ 32768 := by omega
        have hjI : (0 : Int) ≤ j ∧ (j : Int) ≤ 65535 := by omega
        clear hm1 hjm
        go_wp2_with fail
        have hWb : ((((w1.alloc (.cells (byteRow (L s) (grownCap w1 s.size 0 5)) 5 (grownCap w1 s.size 0 5, grownCap w1 s.size 0 5 + 1))).alloc (.cells #[.int .i64 4, .int .i64 12, .int .i64 16] 3)).alloc (.cells #[.int .i64 64, .int .i64 32, .int .i64 (8 * (tx.size : Int))] 3)).drew).heap[w1.heap.size]? = some (.cells (byteRow (L s) (grownCap w1 s.size 0 5)) 5 (grownCap w1 s.size 0 5, grownCap w1 s.size 0 5 + 1)) := by
          rw [heap_drew, Below.heap_alloc _ _ _ (by simp <;> omega), Below.heap_alloc _ _ _ (by simp)]; exact heap_alloc_new w1 _
        have HWB := Lib.hid hWb
        have HWO : Hid (Own w.heap.size w ((((w1.alloc (.cells (byteRow (L s) (grownCap w1 s.size 0 5)) 5 (grownCap w1 s.size 0 5, grownCap w1 s.size 0 5 + 1))).alloc (.cells #[.int .i64 4, .int .i64 12, .int .i64 16] 3)).alloc (.cells #[.int .i64 64, .int .i64 32, .int .i64 (8 * (tx.size : Int))] 3)).drew)) := Lib.hid (((HO.out.alloc _).alloc _).alloc _).drew
        have HWR : Hid (SliceIs ((((w1.alloc (.cells (byteRow (L s) (grownCap w1 s.size 0 5)) 5 (grownCap w1 s.size 0 5, grownCap w1 s.size 0 5 + 1))).alloc (.cells #[.int .i64 4, .int .i64 12, .int .i64 16] 3)).alloc (.cells #[.int .i64 64, .int .i64 32, .int .i64 (8 * (tx.size : Int))] 3)).drew) 24 2 aw l.length cw (rrow (Frm.recs (l.map L) 7))) := Lib.hid (((HR.out.alloc _).alloc _).alloc _).drew
        generalize ((((w1.alloc (.cells (byteRow (L s) (grownCap w1 s.size 0 5)) 5 (grownCap w1 s.size 0 5, grownCap w1 s.size 0 5 + 1))).alloc (.cells #[.int .i64 4, .int .i64 12, .int .i64 16] 3)).alloc (.cells #[.int .i64 64, .int .i64 32, .int .i64 (8 * (tx.size : Int))] 3)).drew) = W at *
        have hg1 : w.heap.size ≤ w1.heap.size := HO.out.size
        generalize grownCap w1 s.size 0 5 = cp at *
        have hBE := HLOW.out.1
        have hPB : Hid (∀ q, q < B → (8 * (E + Lw) + q) / 8 < s.size) := Lib.hid (by intro q hq; omega)
        clear hB8
        clear hWb hconv hmax hj hcl hcl2 hlow hbits hsz hBE
        go_loopw [21, 22] (fun vn vi wr => ∃ q : Nat, q ≤ 32 ∧ vi = .int .i64 q ∧ vn = .int .i64 (Frm.cnt turns q) ∧ (q = 0 ∨ j + q ≤ B) ∧ Own w.heap.size w wr ∧ wr.heap[w1.heap.size]? = some (.cells (byteRow (Frm.flips (L s) (8 * (E + Lw) + j) turns q) cp) 5 (cp, cp + 1)) ∧
          SliceIs wr 24 2 aw l.length cw (rrow (Frm.recs (l.map L) 7))) (fun _ vi _ => 32 - (intOf vi).toNat)
        case atStart => exact ⟨0, by omega, rfl, rfl, .inl rfl, HWO.out, HWB.out, HWR.out⟩
        case round =>
          clear HWO HWB HWR
          obtain ⟨q, hq, rfl, rfl, hjq, hO, hblk, hrow⟩ := hrel
          have HJQ := Lib.hid hjq
          have HOq := Lib.hid hO
          have HB := Lib.hid hblk
          have HRq := Lib.hid hrow
          clear hjq hO hblk hrow
          have hqI : (0 : Int) ≤ q ∧ (q : Int) ≤ 32 := by omega
          by_cases hgo : q < 32 ∧ j + q < B
          · obtain ⟨hq32, hqB⟩ := hgo
            have hqI1 : (q : Int) < 32 := by omega
            have hqI2 : (j : Int) + q < B := by omega
            have hin : (8 * (E + Lw) + j + q) / 8 < (Frm.flips (L s) (8 * (E + Lw) + j) turns q).length := by
              rw [Frm.flips_length, L_size]; have := hPB.out (j + q) hqB; rwa [← Nat.add_assoc] at this
            have hix : (8 * (E + Lw) + j + q) / 8 = E + Lw + (j + q) / 8 := by omega
            have hrm : (8 * (E + Lw) + j + q) % 8 = (j + q) % 8 := by omega
            have HIN : Hid ((8 * (E + Lw) + j + q) / 8 < (Frm.flips (L s) (8 * (E + Lw) + j) turns q).length) := Lib.hid hin
            have HFS : Hid (Frm.flips (L s) (8 * (E + Lw) + j) turns (q + 1) = if turns.getLsbD q then (Frm.flips (L s) (8 * (E + Lw) + j) turns q).set ((8 * (E + Lw) + j + q) / 8) ((Frm.flips (L s) (8 * (E + Lw) + j) turns q)[(8 * (E + Lw) + j + q) / 8] ^^^ (1 <<< UInt8.ofNat ((8 * (E + Lw) + j + q) % 8))) else Frm.flips (L s) (8 * (E + Lw) + j) turns q) := Lib.hid (by
              rw [Frm.flips]
              split
              · unfold Frm.flipAt; rw [dif_pos hin]; rfl
              · rfl)
            have hls : (Frm.flips (L s) (8 * (E + Lw) + j) turns q).length = s.size := by rw [Frm.flips_length, L_size]
            have HLS2 := Lib.hid hls
            generalize Frm.flips (L s) (8 * (E + Lw) + j) turns q = F at *
            have ht := bit_test turns q
            have hinI : (E : Int) + Lw + ((j : Int) + q) / 8 < s.size := by have := HIN.out; rw [HLS2.out, hix] at this; omega
            have hcell : wr.cell? ⟨w1.heap.size, E + Lw + (j + q) / 8, none⟩ = some (.int .u8 (by8 (F[(8 * (E + Lw) + j + q) / 8]'HIN.out))) := by
              rw [cell_of_row _ _ _ _ _ _ HB.out, ← hix, byteRow_get _ _ _ HIN.out]
            have hfr : wr.frozen? ⟨w1.heap.size, E + Lw + (j + q) / 8, none⟩ = false := frozen_past (by have := HIN.out; rw [HLS2.out, hix] at this; have := HCP.out; omega) HB.out
            have HIX := Lib.hid hix
            have HRM := Lib.hid hrm
            have HCN : Hid (Frm.cnt turns (q + 1) = Frm.cnt turns q + if turns.getLsbD q then 1 else 0) := Lib.hid rfl
            have hcb := cnt_le turns q
            have hcI : (0 : Int) ≤ (Frm.cnt turns q : Int) ∧ (Frm.cnt turns q : Int) ≤ 32 := by omega
            clear hin hix hrm hls hcb
            have HW1 := Lib.hid (show w.heap.size ≤ w1.heap.size from hg1)
            have HNE := Lib.hid (fun x hx (e : x = w1.heap.size) => HRq.out.ne HB.out (by decide) (e ▸ hx))
            cases hb : turns.getLsbD q with
            | true =>
              rw [hb] at ht HCN HFS
              clear hb
              go_wp2_with fail
              go_roundw
              case rel =>
                refine ⟨q + 1, by omega, by go_num, by rw [HCN.out]; go_num, .inr (by omega), HOq.out.setCell HW1.out _, ?_, HRq.out.keep fun x hx => heap_setCell_other _ _ _ _ (HNE.out x hx)⟩
                rw [heap_set _ HB.out, HFS.out, ← HIX.out, ← HRM.out]
                simp only [if_true]
                rw [byteRow_set _ _ _ _ HIN.out]
                rfl
              case measure => simp [intOf]; omega
            | false =>
              rw [hb] at ht HCN HFS
              clear hb hcell hfr
              go_wp2_with fail
              go_roundw
              case rel => exact ⟨q + 1, by omega, by go_num, by rw [HCN.out]; go_num, .inr (by omega), HOq.out, by rw [HFS.out]; exact HB.out, HRq.out⟩
              case measure => simp [intOf]; omega
          · by_cases hq32 : q < 32
            · have hqI1 : (q : Int) < 32 := by omega
              have hqI2 : ¬ (j : Int) + q < B := by omega
              clear hgo hq32
              have hlF : (Frm.flips (L s) (8 * (E + Lw) + j) turns q).length = s.size := by rw [Frm.flips_length, L_size]
              have hstr : (convert 53 9 (.slice (some ⟨w1.heap.size, 0, none⟩) s.size cp)).run Try.prog wr = .ok (.string (S (Frm.flips (L s) (8 * (E + Lw) + j) turns q))) wr := run_string_of (P := Try.prog) wr 53 9 5 w1.heap.size cp _ _ _ _ s.size hlF.symm Try.und32 Try.und5 Try.und9 HB.out (fun j hj => byteRow_get _ _ _ hj)
              have hszF : (S (Frm.flips (L s) (8 * (E + Lw) + j) turns q)).size ≤ 1073741824 := by rw [S_size, hlF]; omega
              have hLF : L (S (Frm.flips (L s) (8 * (E + Lw) + j) turns q)) = Frm.flips (L s) (8 * (E + Lw) + j) turns q := rfl
              by_cases hz : Frm.cnt turns q = 0
              · have hzI : ((Frm.cnt turns q : Int) == 0) = true := by rw [hz]; rfl
                have HSC := Lib.hid (fun w => scan_no (s := S (Frm.flips (L s) (8 * (E + Lw) + j) turns q)) (first := 7) (by rw [hLF, Frm.flips_none _ _ _ _ hz, HLB.out]; exact Frm.scan_row _ _ (by decide) HT6.out) HRL.out rfl rfl hszF (by decide) w)
                clear hz hszF hLF hlF
                generalize S (Frm.flips (L s) (8 * (E + Lw) + j) turns q) = sF at *
                generalize Frm.cnt turns q = cn at *
                go_wp2_with fail
                refine (HSC.out _).mono ?_
                rintro e w2 ⟨a1, cap1, rfl, hs1, hb2⟩
                have HS1 := Lib.hid hs1
                have HO2 := Lib.hid (HOq.out.trans hb2)
                have HR2 := Lib.hid (HRq.out.keep (w' := w2) fun k hk => hb2.block k (HRq.out.lt k hk))
                clear hs1 hb2
                go_wp2_with fail
                refine (rec_same_n _ a1 aw cap1 cw l.length _ HRL.out (by omega) HS1.out HR2.out).mono ?_
                rintro e w4 ⟨rfl, hb2⟩
                have HO4 := Lib.hid (HO2.out.trans hb2)
                clear hb2
                go_wp2_with fail
                refine (alive10 _).mono ?_
                rintro e w6 ⟨rfl, hb2⟩
                have HO6 := Lib.hid (HO4.out.trans hb2)
                clear hb2
                go_wp2_with fail
                go_ret
                exact ⟨rfl, HO6.out.below⟩
              · have hzI : ((Frm.cnt turns q : Int) == 0) = false := beq_eq_false_iff_ne.2 (by omega)
                have hnR : ((Frm.recs (l.map L) 7).take i).length = i := by rw [List.length_take, HRL.out]; omega
                have HNR := Lib.hid hnR
                have HSC := Lib.hid (fun w => scan_no (s := S (Frm.flips (L s) (8 * (E + Lw) + j) turns q)) (first := 7) (l := (Frm.recs (l.map L) 7).take i) (u0 := E) (e0 := 101) (by
                  rw [hLF, HLB.out, ← HEQ.out, ← HLW.out]
                  exact Frm.scan_flips (l.map L) 7 i p j q turns (by decide) HT6.out (by simpa using hkl) HP3.out hq (by rw [HBT.out]; exact HJQ.out) hz) hnR rfl rfl hszF (by decide) w)
                have hmt : ∀ w, _ := fun w => run_cut_recs w aw l.length cw i (by have := HR.out.bound.1; omega)
                clear hz hszF hLF hlF hnR
                generalize S (Frm.flips (L s) (8 * (E + Lw) + j) turns q) = sF at *
                generalize Frm.cnt turns q = cn at *
                go_wp2_with fail
                refine (HSC.out _).mono ?_
                rintro e w2 ⟨a1, cap1, rfl, hs1, hb2⟩
                have HS1 := Lib.hid hs1
                have HO2 := Lib.hid (HOq.out.trans hb2)
                have HR2 := Lib.hid (HRq.out.keep (w' := w2) fun k hk => hb2.block k (HRq.out.lt k hk))
                clear hs1 hb2
                go_wp2_with fail
                have hst := HR2.out.take i (by omega)
                rw [rrow_take] at hst
                refine (rec_same_n _ a1 aw cap1 cw i _ HNR.out (by omega) HS1.out hst).mono ?_
                rintro e w4 ⟨rfl, hb2⟩
                have HO4 := Lib.hid (HO2.out.trans hb2)
                clear hb2 hst
                go_wp2_with fail
                refine (alive10 _).mono ?_
                rintro e w6 ⟨rfl, hb2⟩
                have HO6 := Lib.hid (HO4.out.trans hb2)
                clear hb2
                go_wp2_with fail
                go_ret
                exact ⟨rfl, HO6.out.below⟩
            · have hqI1 : ¬ (q : Int) < 32 := by omega
              clear hgo hq32
              have hlF : (Frm.flips (L s) (8 * (E + Lw) + j) turns q).length = s.size := by rw [Frm.flips_length, L_size]
              have hstr : (convert 53 9 (.slice (some ⟨w1.heap.size, 0, none⟩) s.size cp)).run Try.prog wr = .ok (.string (S (Frm.flips (L s) (8 * (E + Lw) + j) turns q))) wr := run_string_of (P := Try.prog) wr 53 9 5 w1.heap.size cp _ _ _ _ s.size hlF.symm Try.und32 Try.und5 Try.und9 HB.out (fun j hj => byteRow_get _ _ _ hj)
              have hszF : (S (Frm.flips (L s) (8 * (E + Lw) + j) turns q)).size ≤ 1073741824 := by rw [S_size, hlF]; omega
              have hLF : L (S (Frm.flips (L s) (8 * (E + Lw) + j) turns q)) = Frm.flips (L s) (8 * (E + Lw) + j) turns q := rfl
              by_cases hz : Frm.cnt turns q = 0
              · have hzI : ((Frm.cnt turns q : Int) == 0) = true := by rw [hz]; rfl
                have HSC := Lib.hid (fun w => scan_no (s := S (Frm.flips (L s) (8 * (E + Lw) + j) turns q)) (first := 7) (by rw [hLF, Frm.flips_none _ _ _ _ hz, HLB.out]; exact Frm.scan_row _ _ (by decide) HT6.out) HRL.out rfl rfl hszF (by decide) w)
                clear hz hszF hLF hlF
                generalize S (Frm.flips (L s) (8 * (E + Lw) + j) turns q) = sF at *
                generalize Frm.cnt turns q = cn at *
                go_wp2_with fail
                refine (HSC.out _).mono ?_
                rintro e w2 ⟨a1, cap1, rfl, hs1, hb2⟩
                have HS1 := Lib.hid hs1
                have HO2 := Lib.hid (HOq.out.trans hb2)
                have HR2 := Lib.hid (HRq.out.keep (w' := w2) fun k hk => hb2.block k (HRq.out.lt k hk))
                clear hs1 hb2
                go_wp2_with fail
                refine (rec_same_n _ a1 aw cap1 cw l.length _ HRL.out (by omega) HS1.out HR2.out).mono ?_
                rintro e w4 ⟨rfl, hb2⟩
                have HO4 := Lib.hid (HO2.out.trans hb2)
                clear hb2
                go_wp2_with fail
                refine (alive10 _).mono ?_
                rintro e w6 ⟨rfl, hb2⟩
                have HO6 := Lib.hid (HO4.out.trans hb2)
                clear hb2
                go_wp2_with fail
                go_ret
                exact ⟨rfl, HO6.out.below⟩
              · have hzI : ((Frm.cnt turns q : Int) == 0) = false := beq_eq_false_iff_ne.2 (by omega)
                have hnR : ((Frm.recs (l.map L) 7).take i).length = i := by rw [List.length_take, HRL.out]; omega
                have HNR := Lib.hid hnR
                have HSC := Lib.hid (fun w => scan_no (s := S (Frm.flips (L s) (8 * (E + Lw) + j) turns q)) (first := 7) (l := (Frm.recs (l.map L) 7).take i) (u0 := E) (e0 := 101) (by
                  rw [hLF, HLB.out, ← HEQ.out, ← HLW.out]
                  exact Frm.scan_flips (l.map L) 7 i p j q turns (by decide) HT6.out (by simpa using hkl) HP3.out hq (by rw [HBT.out]; exact HJQ.out) hz) hnR rfl rfl hszF (by decide) w)
                have hmt : ∀ w, _ := fun w => run_cut_recs w aw l.length cw i (by have := HR.out.bound.1; omega)
                clear hz hszF hLF hlF hnR
                generalize S (Frm.flips (L s) (8 * (E + Lw) + j) turns q) = sF at *
                generalize Frm.cnt turns q = cn at *
                go_wp2_with fail
                refine (HSC.out _).mono ?_
                rintro e w2 ⟨a1, cap1, rfl, hs1, hb2⟩
                have HS1 := Lib.hid hs1
                have HO2 := Lib.hid (HOq.out.trans hb2)
                have HR2 := Lib.hid (HRq.out.keep (w' := w2) fun k hk => hb2.block k (HRq.out.lt k hk))
                clear hs1 hb2
                go_wp2_with fail
                have hst := HR2.out.take i (by omega)
                rw [rrow_take] at hst
                refine (rec_same_n _ a1 aw cap1 cw i _ HNR.out (by omega) HS1.out hst).mono ?_
                rintro e w4 ⟨rfl, hb2⟩
                have HO4 := Lib.hid (HO2.out.trans hb2)
                clear hb2 hst
                go_wp2_with fail
                refine (alive10 _).mono ?_
                rintro e w6 ⟨rfl, hb2⟩
                have HO6 := Lib.hid (HO4.out.trans hb2)
                clear hb2
                go_wp2_with fail
                go_ret
                exact ⟨rfl, HO6.out.below⟩

end Go.Proofs.Yteipjgmbgkjjiaa
