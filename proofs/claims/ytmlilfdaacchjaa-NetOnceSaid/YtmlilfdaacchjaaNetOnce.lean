/-
  THE WALK of the statement NetOnce.
-/
import Derived.Test.YtmlilfdaacchjaaNetOnce0
import Derived.Carry
import Derived.Deep.CutBlock
import Derived.Deep.RegionHeld3
import Derived.Deep.DeepCutAuto
namespace Go.Proofs.Ytmlilfdaacchjaa
open Go.RowKit Go.Maps

theorem put_none (a : Act) (v : Value) : a.put none v = a := rfl
theorem wrap_sum (q a : Int) (hq : 0 ≤ q ∧ q ≤ 1024) (ha : 0 ≤ a ∧ a ≤ 1024) : IntKind.i64.wrap (q + a) = q + a := IntWalk.i64_in (q + a) (by omega)
theorem wrap_dif (s b : Int) (hq : 0 ≤ s ∧ s ≤ 2048) (hb : 0 ≤ b ∧ b ≤ 1024) : IntKind.i64.wrap (s - b) = s - b := IntWalk.i64_in (s - b) (by omega)

set_option maxRecDepth 20000 in
set_option maxHeartbeats 4000000 in
theorem netOnce_any (w : World) (a : Option Addr) (cap : Nat) (l : List Cmd) (h : CmdsAt w a cap l) :
    Calls Try.prog 4 #[.slice a l.length cap] w fun e w' => e = .returned (.bool true) ∧ Below w.heap.size w w' := by
  have H := Lib.hid h
  clear h
  have HL : Hid (Two w w NoR NoR []) := Two.start w
  have hmm := @run_makeMap Try.prog
  go_enter Try.func4, Try.ntmps4
  go_wp2_with fail
  refine (heavy_any w a cap l H.out).mono ?_
  rintro e w' ⟨⟨b, rfl, hb⟩, rfl⟩
  cases b with
  | true =>
    go_wp2_with fail
    refine (alive21 _).mono ?_
    rintro e w' ⟨rfl, hb⟩
    go_wp2
    go_ret
    exact ⟨rfl, hb⟩
  | false =>
    have h2 : (l.length : Int) ≤ 200 := by have := hb rfl; omega
    clear hb
    go_wp2_with fail
    refine (two_new NoR.loc HL.out).mono ?_
    rintro e w1 ⟨rfl, hL⟩
    replace HL := Lib.hid hL
    clear hL
    have HS1 : Hid (w.heap.size ≤ w1.heap.size) := Lib.hid HL.out.own.size
    go_wp2_with fail
    have HL2 : Hid (Two w (w1.alloc (.map #[] 0)) (NetR w.heap.size []) (MapR w1.heap.size 0 []) []) := Lib.hid ((HL.out.swap.make (NetR.loc _ _) ((Below.refl _ _).alloc (Nat.le_refl _) _) (F := [w1.heap.size]) ⟨rfl, OnceMap.made w1⟩ (by simp)).swap)
    clear HL
    clear hmm
    go_loopw [5] (fun vi wr => ∃ (i : Nat) (L : List Gram), i ≤ l.length ∧ vi = .int .i64 i ∧ L.length ≤ 1024 ∧ (∀ g ∈ L, g.text.size ≤ maxLen) ∧ Two w wr (NetR w.heap.size L) (MapR w1.heap.size i L) []) (fun vi _ => l.length - (intOf vi).toNat)
    case atStart => exact ⟨0, [], Nat.zero_le _, rfl, by simp, by simp, HL2.out⟩
    case round =>
      clear HL2
      obtain ⟨i, L, hi, rfl, hL, hsz, hT⟩ := hrel
      have HLL : Hid (L.length ≤ 1024) := Lib.hid hL
      have HSZ := Lib.hid hsz
      have HT := Lib.hid hT
      clear hT hL hsz
      by_cases hlt : i < l.length
      · obtain ⟨g, off, rfl, hc⟩ := (H.out.keep HT.out.own).at i hlt
        have hok := H.out.1 l[i] (List.getElem_mem hlt)
        generalize l[i] = c at hc hok
        have HC := Lib.hid hc
        have HOK := Lib.hid hok
        clear hc hok
        have hI : (0 : Int) ≤ i ∧ (i : Int) < l.length := by omega
        go_upto_region 11 with (first
          | (refine wpList_load_at rfl 35 (.tmp 32) rfl g (off + i * 5) rfl (ccells c) _ HC.out Try.underlying35 rfl (by kernel_rfl) ?_)
          | (refine wpList_store_all rfl 35 (.tmp 6) (.tmp 33) rfl wr.heap.size _ rfl rfl 35 _ (heap_alloc_new _ _) (by kernel_rfl) rfl (by intro v hv; exact ccells_one _ v (by simpa using hv)) ?_; intro w2 hp
             have hT2 := HT.out.laid (NetR.loc _ _) (MapR.loc _ _ _) hp
             have HT2 := Lib.hid hT2
             clear hp HT hT2))
        clear HC
        go_wp2_with fail
        refine (two_all_k (MapR.loc _ _ _) HT2.out).mono ?_
        rintro e w3 ⟨aw, cw, K1, rfl, hT3, hS3⟩
        have HT3 := Lib.hid (show Two w w3 _ _ (_ :: K1) from hT3)
        have HS3 := Lib.hid hS3
        have k0 := HT3.out.cmd0
        clear hT3 hS3 HT2
        have HM : Hid (((c.dodo : Int) % 8) < 8 ∧ 0 ≤ ((c.dodo : Int) % 8)) := Lib.hid (by omega)
        generalize hm : ((c.dodo : Int) % 8) = m at *
        have hp := HOK.out.2
        have HP := Lib.hid hp
        clear hp
        have k4 := HT3.out.cmd4
        have hfin : m = 4 ∨ m = 5 ∨ m = 6 ∨ m = 7 ∨ m < 4 := by have := HM.out; omega
        rcases hfin with rfl | rfl | rfl | rfl | hm4
        iterate 2
          · go_wp2_with fail
            refine (two_take_any (MapR.loc _ _ _) _ HP.out HT3.out).mono ?_
            rintro e w4 ⟨rfl, hT4⟩
            have HT4 := Lib.hid hT4
            clear k0 k4 hT4 HT3
            rcases Nat.eq_zero_or_pos L.length with h0 | h0
            · have hcode : dropCode L.length = 3 := if_pos h0
              rw [hcode]
              generalize tOut c.pick L = T at *
              go_wp2_with (first
                | (refine wpList_store_all rfl 33 (.tmp 8) (.tmp 59) rfl w4.heap.size _ rfl rfl 33 _ (heap_alloc_new _ _) (by kernel_rfl) rfl (by intro v hv; simp at hv; rcases hv with rfl | rfl | rfl <;> rfl) ?_; intro w5 hp
                   have hT5 := HT4.out.laid (NetR.loc _ _) (MapR.loc _ _ _) hp
                   have HT5 := Lib.hid ((hT5.forget (K' := []) (by simp)).mapMono (NetR.loc _ _) (Nat.le_succ i))
                   clear hp HT4 hT5))
              go_roundw
              case rel =>
                obtain rfl : L = [] := List.eq_nil_of_length_eq_zero h0
                exact ⟨i + 1, [], by omega, by go_num, by simp, by simp, HT5.out⟩
              case measure => simp [intOf]; omega
            · have hcode : dropCode L.length = 0 := if_neg (by omega)
              rw [hcode]
              have hk := pickOf_lt c.pick L.length h0
              have hgs : (tOut c.pick L).text.size ≤ maxLen := by rw [tOut_at c.pick L hk]; exact HSZ.out _ (List.getElem_mem hk)
              have hle := cnt_le (gval (tOut c.pick L)) L
              have hce : cnt (gval (tOut c.pick L)) (L.eraseIdx (pickOf c.pick L.length)) + 1 = cnt (gval (tOut c.pick L)) L := by rw [tOut_at c.pick L hk]; exact cnt_erase_same L _ hk
              have hco : ∀ key, key ≠ gval (tOut c.pick L) → cnt key (L.eraseIdx (pickOf c.pick L.length)) = cnt key L := by rw [tOut_at c.pick L hk]; exact cnt_erase_other L _ hk
              have HLE : Hid ((L.eraseIdx (pickOf c.pick L.length)).length ≤ 1024 ∧ ∀ x ∈ L.eraseIdx (pickOf c.pick L.length), x.text.size ≤ maxLen) := Lib.hid ⟨by have := HLL.out; rw [List.length_eraseIdx]; split <;> omega, fun x hx => HSZ.out x ((List.eraseIdx_sublist ..).subset hx)⟩
              have hcI : (0 : Int) ≤ (cnt (gval (tOut c.pick L)) (L.eraseIdx (pickOf c.pick L.length)) : Int) ∧ (cnt (gval (tOut c.pick L)) (L.eraseIdx (pickOf c.pick L.length)) : Int) ≤ 1024 := by have := HLL.out; omega
              generalize L.eraseIdx (pickOf c.pick L.length) = L2 at *
              generalize tOut c.pick L = T at *
              generalize hq0 : cnt (gval T) L = q0 at *
              generalize hq1 : cnt (gval T) L2 = q1 at *
              have HGS := Lib.hid hgs
              have HCO := Lib.hid hco
              clear hk hle hgs hco hcode h0
              go_upto_region 19 with (first
                | (refine wpList_store_all rfl 33 (.tmp 8) (.tmp 59) rfl w4.heap.size _ rfl rfl 33 _ (heap_alloc_new _ _) (by kernel_rfl) rfl (by intro v hv; simp at hv; rcases hv with rfl | rfl | rfl <;> rfl) ?_; intro w5 hp
                   have hT5 := HT4.out.laid (NetR.loc _ _) (MapR.loc _ _ _) hp
                   have c1 := hT5.cell (List.mem_cons_self ..) 0 (v := .int .u32 (w32 T.frm)) rfl
                   have c2 := hT5.cell (List.mem_cons_self ..) 1 (v := .int .u32 (w32 T.to)) rfl
                   have c3 := hT5.cell (List.mem_cons_self ..) 2 (v := .string T.text) rfl
                   have HT5 := Lib.hid hT5
                   clear hp HT4 hT5))
              have hdr : OnceMap w5.drew w1.heap.size i L := HT5.out.map.kept rfl
              obtain ⟨v0, st, w6, w7, r1, r2, r3, r4, hm7, hu7⟩ := hdr.step (by omega) T HGS.out L2 ((q0 : Int) - 1) (by omega) (by omega) HCO.out
              rw [hq0] at r1 r3
              have hT7 := (HT5.out.drew (NetR.loc _ _) (MapR.loc _ _ _)).turned (NetR.loc _ _) hu7 hm7
              have r5 := hm7.look T HGS.out
              rw [hq1] at r5
              have d1 := hT7.cell (List.mem_cons_self ..) 0 (v := .int .u32 (w32 T.frm)) rfl
              have d2 := hT7.cell (List.mem_cons_self ..) 1 (v := .int .u32 (w32 T.to)) rfl
              have d3 := hT7.cell (List.mem_cons_self ..) 2 (v := .string T.text) rfl
              have HT7 := Lib.hid (hT7.forget (K' := []) (by simp))
              obtain rfl : q0 = q1 + 1 := by omega
              have hq : (((q1 + 1 : Nat) : Int) - 1) = q1 := by omega
              rw [hq] at r4
              clear hT7 hm7 hu7 hdr hq0 hq1 hce hq HT5
              go_region
              all_goals
                go_wp2_with fail
                go_roundw
                case rel => exact ⟨i + 1, L2, by omega, by go_num, HLE.out.1, HLE.out.2, HT7.out⟩
                case measure => simp [intOf]; omega
        iterate 2
          · go_wp2_with fail
            first
              | (refine (two_drop_w (MapR.loc _ _ _) _ HP.out HLL.out HSZ.out HT3.out).mono ?_)
              | (refine (two_double_w (MapR.loc _ _ _) _ HP.out HLL.out HSZ.out HT3.out).mono ?_)
            rintro e w4 ⟨q, L2, rfl, hW, hT4⟩
            have HT4 := Lib.hid hT4
            have HT3' := HT3
            clear k0 k4 hT4 HT3
            rcases hW with ⟨h0, rfl, rfl⟩ | ⟨h0, rfl, rfl⟩ | ⟨h0, rfl, hl2, hs2, hc2, ho2⟩
            · obtain rfl : L = [] := List.eq_nil_of_length_eq_zero h0
              clear h0
              go_wp2_with fail
              refine (two_all_k (MapR.loc _ _ _) HT4.out).mono ?_
              rintro e w5 ⟨an, cn, K2, rfl, hT5, hS5⟩
              have HT5 := Lib.hid ((hT5.forget (K' := []) (by simp)).mapMono (NetR.loc _ _) (Nat.le_succ i))
              clear hT5 hS5 HT4
              go_wp2_with fail
              go_roundw
              case rel => exact ⟨i + 1, [], by omega, by go_num, by simp, by simp, HT5.out⟩
              case measure => simp [intOf]; omega
            · have hlI : (0 : Int) < L.length ∧ (L.length : Int) ≤ 1024 := by have := HLL.out; omega
              have hne : ((L.length : Int) == 0) = false := beq_eq_false_iff_ne.2 (by omega)
              clear h0
              go_wp2_with fail
              refine (two_all_k (MapR.loc _ _ _) HT4.out).mono ?_
              rintro e w5 ⟨an, cn, K2, rfl, hT5, hS5⟩
              have HT5 := Lib.hid ((hT5.forget (K' := []) (by simp)).mapMono (NetR.loc _ _) (Nat.le_succ i))
              clear hT5 hS5 HT4
              go_wp2_with fail
              go_roundw
              case rel => exact ⟨i + 1, L, by omega, by go_num, HLL.out, HSZ.out, HT5.out⟩
              case measure => simp [intOf]; omega
            · have hlI : (0 : Int) < L.length ∧ (L.length : Int) ≤ 1024 := by have := HLL.out; omega
              have hne : ((L.length : Int) == 0) = false := beq_eq_false_iff_ne.2 (by omega)
              have hk := pickOf_lt c.pick L.length h0
              obtain ⟨gw, ow, rfl⟩ := (HS3.out w3 (fun p hp => HT3'.out.got (List.mem_cons_of_mem _ hp))).there h0
              have hl2I : (L2.length : Int) ≤ 1024 := by omega
              have HLE := Lib.hid (And.intro hl2 hs2)
              have hgs : (tOut c.pick L).text.size ≤ maxLen := by rw [tOut_at c.pick L hk]; exact HSZ.out _ (List.getElem_mem hk)
              have HGS := Lib.hid hgs
              have HCO := Lib.hid ho2
              have HC2 := Lib.hid hc2
              have hcI : (0 : Int) ≤ (cnt (gval (tOut c.pick L)) L : Int) ∧ (cnt (gval (tOut c.pick L)) L : Int) ≤ 1024 := by have := cnt_le (gval (tOut c.pick L)) L; omega
              have hcJ : (0 : Int) ≤ (cnt (gval (tOut c.pick L)) L2 : Int) ∧ (cnt (gval (tOut c.pick L)) L2 : Int) ≤ 1024 := by have := cnt_le (gval (tOut c.pick L)) L2; omega
              have hmax := fun w => run_max0 Try.prog w 3 c.pick
              have hmx : ((max c.pick 0).toNat : Int) ≤ 9223372036854775807 := by have := HP.out; omega
              obtain ⟨mx, hmm⟩ : ∃ mx, mx = (max c.pick 0).toNat := ⟨_, rfl⟩
              obtain ⟨k, hkk⟩ : ∃ k, k = pickOf c.pick L.length := ⟨_, rfl⟩
              have HK : Hid ((mx : Int) % (L.length : Int) = (k : Int)) := Lib.hid (by rw [hmm, hkk]; rfl)
              have hTk : tOut c.pick L = L[k]'(by omega) := by subst hkk; exact tOut_at c.pick L hk
              have HEL : Hid (∀ w'', (∀ p ∈ K1, w''.heap[p.1]? = some p.2) → CellsAt w'' gw (ow + k * 3) (gcells (tOut c.pick L))) := Lib.hid (fun w'' hk' => by rw [hTk]; exact (HS3.out w'' hk').elem k (by omega))
              have hkI : (0 : Int) ≤ k ∧ (k : Int) < L.length := by omega
              rw [← hmm] at hmx hmax
              clear hmm hkk hTk hk hl2 hs2 hgs ho2 hc2 h0 HS3 HT3'
              generalize tOut c.pick L = T at *
              generalize hq0 : cnt (gval T) L = q0 at *
              generalize hq1 : cnt (gval T) L2 = q1 at *
              have HQ0 := Lib.hid hq0
              have HQ1 := Lib.hid hq1
              clear hq0 hq1
              go_wp2_with fail
              refine (two_all_k (MapR.loc _ _ _) HT4.out).mono ?_
              rintro e w5 ⟨an, cn, K2, rfl, hT5, hS5⟩
              have k4 := (show Two w w5 _ _ (_ :: (K1 ++ K2)) from hT5).cmd4
              have HE5 := Lib.hid (HEL.out w5 (fun p hp => hT5.got (List.mem_append_left _ (List.mem_cons_of_mem _ hp))))
              have HT5 := Lib.hid (hT5.forget (K' := []) (by simp))
              have hkm := HK.out
              clear hT5 hS5 HT4 HEL HK
              go_upto_region 33 with (first
                | (refine wpList_load_at rfl 33 (.tmp 110) rfl gw (ow + k * 3) rfl (gcells T) _ HE5.out Try.underlying33 rfl (by kernel_rfl) ?_)
                | (refine wpList_store_all rfl 33 (.tmp 12) (.tmp 111) rfl w5.heap.size _ rfl rfl 33 _ (heap_alloc_new _ _) (by kernel_rfl) rfl (by intro v hv; exact gcells_one _ v (by simpa using hv)) ?_; intro w6 hp
                   have hT6 := HT5.out.laid (NetR.loc _ _) (MapR.loc _ _ _) hp
                   have c1 := hT6.cell (List.mem_cons_self ..) 0 (v := .int .u32 (w32 T.frm)) rfl
                   have c2 := hT6.cell (List.mem_cons_self ..) 1 (v := .int .u32 (w32 T.to)) rfl
                   have c3 := hT6.cell (List.mem_cons_self ..) 2 (v := .string T.text) rfl
                   have HT6 := Lib.hid hT6
                   clear hp HT5 hT6))
              have hdr : OnceMap w6.drew w1.heap.size i L := HT6.out.map.kept rfl
              obtain ⟨s, hs⟩ : ∃ s, s = (q0 : Int) + L2.length := ⟨_, rfl⟩
              obtain ⟨r, hr⟩ : ∃ r, r = s - (L.length : Int) := ⟨_, rfl⟩
              have hrI : r ≤ 100000 := by omega
              have hw1 : IntKind.i64.wrap ((q0 : Int) + L2.length) = s := by rw [hs]; exact wrap_sum _ _ hcI ⟨Int.natCast_nonneg _, hl2I⟩
              have hw2 : IntKind.i64.wrap (s - L.length) = r := by rw [hr]; exact wrap_dif _ _ (by omega) ⟨Int.natCast_nonneg _, hlI.2⟩
              obtain ⟨w7, r1, r2, hm7, hu7⟩ := hdr.update (by omega) T HGS.out L2 r (by rw [hr, hs, HC2.out, HQ1.out]) hrI HCO.out
              rw [HQ0.out] at r1
              have HT7 := Lib.hid (((HT6.out.drew (NetR.loc _ _) (MapR.loc _ _ _)).turned (NetR.loc _ _) hu7 hm7).forget (K' := []) (by simp))
              clear hs hr hrI hm7 hu7 hdr HT6 hkm hmax
              rw [put_none]
              go_region
              all_goals
                go_wp2_with fail
                go_roundw
                case rel => exact ⟨i + 1, L2, by omega, by go_num, HLE.out.1, HLE.out.2, HT7.out⟩
                case measure => simp [intOf]; omega
        · have c1 := HT3.out.cmd1
          have c2 := HT3.out.cmd2
          have c3 := HT3.out.cmd3
          go_wp2_with fail
          refine (two_send3 (MapR.loc _ _ _) c.g HT3.out).mono ?_
          rintro e w4 ⟨rfl, hT4⟩
          have HT4 := Lib.hid hT4
          clear c1 c2 c3 k0 k4 hT4 HT3
          by_cases hfull : 1024 ≤ L.length
          · have hcode : sendCode L.length = 4 := if_pos hfull
            rw [hcode]
            have hT5 := HT4.out
            rw [if_pos hfull] at hT5
            have HT5 := Lib.hid ((hT5.forget (K' := []) (by simp)).mapMono (NetR.loc _ _) (Nat.le_succ i))
            clear HT4 hT5 hfull hcode
            go_wp2_with fail
            go_roundw
            case rel => exact ⟨i + 1, L, by omega, by go_num, HLL.out, HSZ.out, HT5.out⟩
            case measure => simp [intOf]; omega
          · have hcode : sendCode L.length = 0 := if_neg hfull
            rw [hcode]
            have hT5 := HT4.out
            rw [if_neg hfull] at hT5
            have c1 := hT5.cmd1
            have c2 := hT5.cmd2
            have c3 := hT5.cmd3
            have HT5 := Lib.hid hT5
            have hle := cnt_le (gval c.g) L
            have hcn := cnt_snoc_same L c.g
            have hcI : (0 : Int) ≤ (cnt (gval c.g) L : Int) ∧ (cnt (gval c.g) L : Int) ≤ 1024 := by have := HLL.out; omega
            have hdr : OnceMap w4.drew w1.heap.size i L := hT5.map.kept rfl
            obtain ⟨v0, st, w5, w6, r1, r2, r3, r4, hm6, hu6⟩ := hdr.step (by omega) c.g HOK.out.1.2 (L ++ [c.g]) ((cnt (gval c.g) L : Int) + 1) (by rw [hcn]; omega) (by omega) (cnt_snoc_other L c.g)
            have HT6 := Lib.hid (((hT5.drew (NetR.loc _ _) (MapR.loc _ _ _)).turned (NetR.loc _ _) hu6 hm6).forget (K' := []) (by simp))
            have HF := Lib.hid hfull
            clear HT4 hT5 hcode hfull hle hcn hdr hm6 hu6 HT5
            generalize cnt (gval c.g) L = c0 at *
            go_wp2_with fail
            go_region
            all_goals
              go_wp2_with fail
              go_roundw
              case rel => exact ⟨i + 1, L ++ [c.g], by omega, by go_num, by have := HF.out; simp; omega, by
                intro x hx
                rcases List.mem_append.1 hx with h | h
                · exact HSZ.out x h
                · simp at h; subst h; exact HOK.out.1.2, HT6.out⟩
              case measure => simp [intOf]; omega
      · obtain rfl : i = l.length := by omega
        have h2N : Hid (l.length ≤ 200) := Lib.hid (by omega)
        go_wp2_with fail
        refine (two_all_k (MapR.loc _ _ _) HT.out).mono ?_
        rintro e w3 ⟨al, cl, K1, rfl, hT3, hS3⟩
        have HT3 : Hid (Two w w3 (NetR w.heap.size L) (MapR w1.heap.size (l.length + 0) (L.drop 0)) K1) := Lib.hid (by simpa using hT3)
        have HS3 := Lib.hid hS3
        clear hT3 hS3 HT
        go_wp2_with fail
        go_loopw [14] (fun vj wr => ∃ (j : Nat), j ≤ L.length ∧ vj = .int .i64 j ∧ Two w wr (NetR w.heap.size L) (MapR w1.heap.size (l.length + j) (L.drop j)) K1) (fun vj _ => L.length - (intOf vj).toNat)
        case atStart => exact ⟨0, Nat.zero_le _, rfl, HT3.out⟩
        case round =>
          clear HT3
          obtain ⟨j, hj, rfl, hT4⟩ := hrel
          have hLI : (L.length : Int) ≤ 1024 := by have := HLL.out; omega
          by_cases hlt2 : j < L.length
          · obtain ⟨gl, ol, rfl⟩ := (HS3.out wr (fun p hp => hT4.got hp)).there (by omega)
            have hE := (HS3.out wr (fun p hp => hT4.got hp)).elem j hlt2
            have hjI : (0 : Int) ≤ j ∧ (j : Int) < L.length := by omega
            have hgs : L[j].text.size ≤ maxLen := HSZ.out _ (List.getElem_mem hlt2)
            have hce := cnt_drop_same L j hlt2
            have hco := cnt_drop_other L j hlt2
            have hle := cnt_le (gval L[j]) (L.drop j)
            rw [List.length_drop] at hle
            have HSZ2 : Hid (l.length + j < 100000) := Lib.hid (by have := HLL.out; have := h2N.out; omega)
            have hdr : OnceMap wr.drew w1.heap.size (l.length + j) (L.drop j) := hT4.map.kept rfl
            generalize L[j] = T at *
            obtain ⟨L2, hL2⟩ : ∃ L2, L.drop (j + 1) = L2 := ⟨_, rfl⟩
            rw [hL2] at hce hco
            have HL2 := Lib.hid hL2
            clear hL2
            obtain ⟨v0, st, w5, w6, r1, r2, r3, r4, hm6, hu6⟩ := hdr.step HSZ2.out T hgs L2 ((cnt (gval T) (L.drop j) : Int) - 1) (by omega) (by omega) hco
            have HT6 := Lib.hid ((hT4.drew (NetR.loc _ _) (MapR.loc _ _ _)).turned (NetR.loc _ _) hu6 hm6)
            have hcI : (0 : Int) ≤ (cnt (gval T) (L.drop j) : Int) ∧ (cnt (gval T) (L.drop j) : Int) ≤ 1024 := by omega
            have c1 : wr.cell? ⟨gl, ol + j * 3, none⟩ = some (.int .u32 (w32 T.frm)) := hE.cell 0 (by simp [gcells])
            have c2 : wr.cell? ⟨gl, ol + j * 3 + 1, none⟩ = some (.int .u32 (w32 T.to)) := hE.cell 1 (by simp [gcells])
            have c3 : wr.cell? ⟨gl, ol + j * 3 + 2, none⟩ = some (.string T.text) := hE.cell 2 (by simp [gcells])
            clear hE hgs hce hco hle hdr hm6 hu6 hT4
            generalize cnt (gval T) (L.drop j) = q0 at *
            go_wp2_with fail
            go_region
            all_goals
              go_wp2_with fail
              go_roundw
              case rel => exact ⟨j + 1, by omega, by go_num, by rw [HL2.out]; exact HT6.out⟩
              case measure => simp [intOf]; omega
          · obtain rfl : j = L.length := by omega
            have hmp := hT4.map
            rw [List.drop_length] at hmp
            obtain ⟨D, hown, hM, hS⟩ := hmp.out
            have HB := Lib.hid hT4.own
            clear hT4 hmp
            go_wp2_with (first
              | (at_range; refine wpList_range_own _ rfl _ 50 rfl 33 3 gram_keyed Try.underlying50 _ w1.heap.size (l.length + L.length) D rfl hown ?_; intro w4 hrg0 hg0 hs0)
              | go_in)
            go_frame
            have HB0 : Hid (Below w.heap.size w w4) := Lib.hid (HB.out.trans ((grown_none hg0).mono HB.out.size))
            have hr1 : w.heap.size ≤ wr.heap.size := HB.out.size
            generalize wr.heap.size = r0 at *
            have HR1 := Lib.hid hr1
            clear hg0 hs0 HB hown hr1
            go_loopw [16] (fun _ wq => ∃ (left : Lit → Bool) (ct : Nat), wq.ranges Try.prog 33 (plainElem Try.prog 3) w1.heap.size r0 (l.length + L.length) D left ct ∧ Below w.heap.size w wq) (fun _ wq => wq.rangeLeft w1.heap.size r0)
            case atStart => exact ⟨_, _, hrg0, HB0.out⟩
            case round =>
              clear hrg0 HB0
              obtain ⟨left, ct, hrg, hbw⟩ := hrel
              have HBW := Lib.hid hbw
              clear hbw
              go_wp2_with (first
                | (at_next; refine wpList_next_ranges _ rfl _ rfl 33 gram_keyed (plainElem Try.prog 3) id (Value.int .i64) (fun key _ _ => ⟨key, rfl⟩) (fun v y hv => by obtain ⟨c, rfl, _⟩ := plainElem_int_inv Try.underlying3 hv; exact ⟨c, rfl⟩) w1.heap.size r0 (l.length + L.length) D left ct rfl hrg ?_ ?_)
                | go_in)
              · intro _ _
                clear hrg
                go_wp2_with fail
                refine (alive21 _).mono ?_
                rintro e w' ⟨rfl, hb⟩
                go_wp2
                go_ret
                exact ⟨rfl, HBW.out.trans (hb.mono HBW.out.size)⟩
              · intro x c kl y1 y2 wn ct1 hkey _ hv hat hrg1 hlt3 hg1 hs1 hen
                obtain ⟨c', ec, hy, _⟩ := plainElem_int_inv Try.underlying3 hv
                cases ec
                have hc0 : c = 0 := by
                  have h1 := hat (.lit (.int .i64 0))
                  obtain rfl := congrArg Prod.fst hy
                  rw [hS x kl hkey, cnt_nil] at h1
                  injection h1 with h1
                  injection h1 with _ h1
                  exact h1.symm
                subst hc0
                have HBN := Lib.hid (HBW.out.trans (grown_at hg1 HBW.out.size HR1.out))
                have HRG := Lib.hid hrg1
                have HRO := Lib.hid hrg
                have HLT := Lib.hid hlt3
                clear hkey hv hat hrg1 hlt3 hg1 hs1 hrg hy HBW
                go_wp2_with fail
                go_roundw
                case rel => exact ⟨_, _, HRG.out, HBN.out⟩
                case measure => rw [HRG.out.left_eq, HRO.out.left_eq]; exact HLT.out

end Go.Proofs.Ytmlilfdaacchjaa
