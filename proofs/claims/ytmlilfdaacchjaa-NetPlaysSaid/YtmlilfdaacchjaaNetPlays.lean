/-
  THE WALK of the statement NetPlays.
-/
import Derived.Test.YtmlilfdaacchjaaNetPlay0
import Derived.Deep.CutBlock
import Derived.Deep.RegionHeld3
import Derived.Deep.DeepCutAuto
namespace Go.Proofs.Ytmlilfdaacchjaa
open Go.RowKit

set_option maxRecDepth 20000 in
set_option maxHeartbeats 4000000 in
theorem netPlays_any (w : World) (a : Option Addr) (cap : Nat) (l : List Cmd) (node : BitVec 32) (h : CmdsAt w a cap l) :
    Calls Try.prog 3 #[.slice a l.length cap, .int .u32 (w32 node)] w fun e w' => e = .returned (.bool true) ∧ Below w.heap.size w w' := by
  have H := Lib.hid h
  clear h
  have HL : Hid (Two w w NoR NoR []) := Two.start w
  go_enter Try.func3, Try.ntmps3
  go_wp2_with fail
  refine (heavy_any w a cap l H.out).mono ?_
  rintro e w' ⟨⟨b, rfl, hb⟩, rfl⟩
  cases b with
  | true =>
    go_wp2_with fail
    refine (alive21 _).mono ?_
    rintro e w' ⟨rfl, hb⟩
    go_wp2
    go_ret
    exact ⟨rfl, hb⟩
  | false =>
    have h2 : (l.length : Int) ≤ 200 := by have := hb rfl; omega
    clear hb
    go_wp2_with fail
    refine (two_new NoR.loc HL.out).mono ?_
    rintro e w1 ⟨rfl, hL⟩
    replace HL := Lib.hid hL
    clear hL
    have HL0 := HL.out.own
    go_wp2_with fail
    have HL2 := Lib.hid ((HL.out.swap.ref (NetR.loc _ _)).swap)
    clear HL
    go_loopw [7] (fun vi wr => ∃ (i : Nat) (L : List Gram), i ≤ l.length ∧ vi = .int .i64 i ∧ L.length ≤ 1024 ∧ Two w wr (NetR w.heap.size L) (RefR w1.heap.size L) []) (fun vi _ => l.length - (intOf vi).toNat)
    case atStart => exact ⟨0, [], Nat.zero_le _, rfl, by simp, HL2.out⟩
    case round =>
      clear HL2
      obtain ⟨i, L, hi, rfl, hL, hT⟩ := hrel
      have HLL : Hid (L.length ≤ 1024) := Lib.hid hL
      have HT := Lib.hid hT
      clear hT hL
      by_cases hlt : i < l.length
      · obtain ⟨g, off, rfl, hc⟩ := (H.out.keep HT.out.own).at i hlt
        have hok := H.out.1 l[i] (List.getElem_mem hlt)
        generalize l[i] = c at hc hok
        have HC := Lib.hid hc
        have HOK := Lib.hid hok
        clear hc hok
        have hI : (0 : Int) ≤ i ∧ (i : Int) < l.length := by omega
        go_upto_block 2 with (first
          | (refine wpList_load_at rfl 35 (.tmp 34) rfl g (off + i * 5) rfl (ccells c) _ HC.out Try.underlying35 rfl (by kernel_rfl) ?_)
          | (refine wpList_store_all rfl 35 (.tmp 8) (.tmp 35) rfl wr.heap.size _ rfl rfl 35 _ (heap_alloc_new _ _) (by kernel_rfl) rfl (by intro v hv; exact ccells_one _ v (by simpa using hv)) ?_; intro w2 hp
             have hT2 := HT.out.laid (NetR.loc _ _) (RefR.loc _ _) hp
             have k0 := hT2.cmd0
             have HT2 := Lib.hid hT2
             clear hp HT hT2))
        clear HC
        go_cut [9] (fun vf wx => vf = .bool true ∧ ∃ L' : List Gram, L'.length ≤ 1024 ∧ Two w wx (NetR w.heap.size L') (RefR w1.heap.size L') [])
        case first =>
          have HM : Hid (((c.dodo : Int) % 8) < 8 ∧ 0 ≤ ((c.dodo : Int) % 8)) := Lib.hid (by omega)
          generalize ((c.dodo : Int) % 8) = m at *
          have hp := HOK.out.2
          have HP := Lib.hid hp
          clear hp k0
          have k4 := HT2.out.cmd4
          have hfin : m = 4 ∨ m = 5 ∨ m = 6 ∨ m = 7 ∨ m < 4 := by have := HM.out; omega
          rcases hfin with rfl | rfl | rfl | rfl | hm4
          iterate 2
            · go_wp2_with fail
              refine (two_take_any (RefR.loc _ _) _ HP.out HT2.out).mono ?_
              rintro e w3 ⟨rfl, hT⟩
              have HT3 := Lib.hid hT
              clear k4 hT HT2
              go_wp2_with (first
                | (refine wpList_store_all rfl 33 (.tmp 10) (.tmp 56) rfl w3.heap.size _ rfl rfl 33 _ (heap_alloc_new _ _) (by kernel_rfl) rfl (by intro v hv; simp at hv; rcases hv with rfl | rfl | rfl <;> rfl) ?_; intro w4 hp
                   have hT4 := HT3.out.laid (NetR.loc _ _) (RefR.loc _ _) hp
                   have k4 := hT4.cell (List.mem_cons_of_mem _ (List.mem_cons_self ..)) 4 (v := .int .i64 c.pick) rfl
                   have HT4 := Lib.hid hT4
                   clear hp HT3 hT4))
              refine (two_rtake_any (NetR.loc _ _) _ HP.out HT4.out.swap).mono ?_
              rintro e w5 ⟨rfl, hT⟩
              have HT5 := Lib.hid hT
              clear k4 hT HT4
              go_wp2_with (first
                | (refine wpList_store_all rfl 33 (.tmp 12) (.tmp 63) rfl w5.heap.size _ rfl rfl 33 _ (heap_alloc_new _ _) (by kernel_rfl) rfl (by intro v hv; simp at hv; rcases hv with rfl | rfl | rfl <;> rfl) ?_; intro w6 hp
                   have hT6 := HT5.out.laid (RefR.loc _ _) (NetR.loc _ _) hp
                   have HC1 := Lib.hid (hT6.at3 (List.mem_cons_self ..))
                   have HC2 := Lib.hid (hT6.at3 (List.mem_cons_of_mem _ (List.mem_cons_self ..)))
                   have HT6 := Lib.hid hT6
                   clear hp HT5 hT6)
                | (refine wpList_load_at rfl 33 (.tmp 10) rfl w3.heap.size 0 rfl _ _ HC2.out Try.underlying33 rfl (by kernel_rfl) ?_)
                | (refine wpList_load_at rfl 33 (.tmp 12) rfl w5.heap.size 0 rfl _ _ HC1.out Try.underlying33 rfl (by kernel_rfl) ?_))
              go_meet
              exact ⟨rfl, _, by have := HLL.out; rw [List.length_eraseIdx]; split <;> omega, HT6.out.swap.forget (by simp)⟩
          · go_wp2_with fail
            refine (two_rtake_any (NetR.loc _ _) _ HP.out HT2.out.swap).mono ?_
            rintro e w3 ⟨rfl, hT⟩
            have HT3 := Lib.hid hT.swap
            clear k4 hT HT2
            have k4 := HT3.out.cmd4
            go_wp2_with (first
              | (refine wpList_store_all rfl 33 (.tmp 14) (.tmp 80) rfl w3.heap.size _ rfl rfl 33 _ (heap_alloc_new _ _) (by kernel_rfl) rfl (by intro v hv; simp at hv; rcases hv with rfl | rfl | rfl <;> rfl) ?_; intro w4 hp
                 have hT4 := HT3.out.laid (NetR.loc _ _) (RefR.loc _ _) hp
                 have k4 := hT4.cell (List.mem_cons_of_mem _ (List.mem_cons_self ..)) 4 (v := .int .i64 c.pick) rfl
                 have HT4 := Lib.hid hT4
                 clear hp HT3 hT4))
            refine (two_drop (RefR.loc _ _) _ HP.out HT4.out).mono ?_
            rintro e w5 ⟨rfl, hT⟩
            have HT5 := Lib.hid hT
            clear k4 hT HT4
            go_wp2_with fail
            go_meet
            exact ⟨rfl, _, by have := HLL.out; rw [List.length_eraseIdx]; split <;> omega, HT5.out.forget (by simp)⟩
          · go_wp2_with fail
            have HA := Lib.hid (two_double (RefR.loc _ _) _ HP.out (HT2.out.drew (NetR.loc _ _) (RefR.loc _ _)))
            go_region_with (first
              | (go_at_call 12; with_reducible refine HA.out.mono ?_; rintro e w3 ⟨rfl, hT⟩
                 have HT3 := Lib.hid hT
                 have k43 := hT.cmd4
                 clear hT)
              | (go_at_call 13; with_reducible refine (two_rdouble (NetR.loc _ _) _ HP.out HT3.out.swap).mono ?_; rintro e w4 ⟨rfl, hT⟩
                 have HT4 := Lib.hid hT.swap
                 clear hT))
            all_goals (go_wp2_with fail; go_meet; exact ⟨rfl, _, dblLen L _ HLL.out, HT4.out.forget (by simp)⟩)
          · go_wp2_with fail
            have c1 := HT2.out.cmd1
            have c2 := HT2.out.cmd2
            have c3 := HT2.out.cmd3
            have HA := Lib.hid (two_send3 (RefR.loc _ _) c.g (HT2.out.drew (NetR.loc _ _) (RefR.loc _ _)))
            go_region_with (first
              | (go_at_call 14; with_reducible refine HA.out.mono ?_; rintro e w3 ⟨rfl, hT⟩
                 have HT3 := Lib.hid hT
                 have d1 := hT.cmd1
                 have d2 := hT.cmd2
                 have d3 := hT.cmd3
                 clear hT)
              | (go_at_call 15; with_reducible refine (two_rsend3 (NetR.loc _ _) c.g HT3.out.swap).mono ?_; rintro e w4 ⟨rfl, hT⟩
                 have HT4 := Lib.hid hT.swap
                 clear hT))
            all_goals (go_wp2_with fail; go_meet; exact ⟨rfl, _, by have := HLL.out; split <;> simp <;> omega, HT4.out.forget (by simp)⟩)
        case rest =>
          clear HLL
          obtain ⟨rfl, L', hl', hT'⟩ := hcut
          obtain ⟨F, a', cap', hF, hR⟩ := hT'.swap.first
          have hx : wc.cell? ⟨w1.heap.size, 0, none⟩ = some (.slice a' L'.length cap') := by rw [cell_of_row _ _ _ _ _ _ hR.here]; rfl
          have HR := Lib.hid hR
          have HT' := Lib.hid hT'
          have HL' := Lib.hid hl'
          have hlI : (L'.length : Int) ≤ 1024 := by omega
          clear hR hF hT' hl'
          go_wp2_with fail
          go_loop [16, 17] (fun vm vk => ∃ k : Nat, k ≤ L'.length ∧ vk = .int .i64 k ∧ vm = .int .i64 (toCount node (L'.take k))) (fun _ vk => L'.length - (intOf vk).toNat)
          case atStart => exact ⟨0, Nat.zero_le _, rfl, rfl⟩
          case round =>
            obtain ⟨k, hk, rfl, rfl⟩ := hrel
            by_cases hlt2 : k < L'.length
            · obtain ⟨g2, off2, rfl⟩ := HR.out.row.there (by omega)
              have hi2 : (0 : Int) ≤ k ∧ (k : Int) < L'.length := by omega
              have hcl : wc.cell? ⟨g2, off2 + k * 3 + 1, none⟩ = some (.int .u32 (w32 L'[k].to)) := (HR.out.row.elem k hlt2).cell 1 (by simp [gcells])
              have hcnt : (toCount node (L'.take k) : Int) ≤ 1024 := by have := toCount_le node (L'.take k); simp at this; omega
              have HCT := Lib.hid (toCount_succ node L' k hlt2)
              have he : (w32 L'[k].to == w32 node) = (L'[k].to == node) := eq32 _ _
              cases hb : (L'[k].to == node) with
              | true =>
                rw [hb] at he HCT
                go_wp2_with fail
                go_round
                case rel => exact ⟨k + 1, by omega, by go_num, by rw [HCT.out]; go_num⟩
                case measure => simp [intOf]; omega
              | false =>
                rw [hb] at he HCT
                go_wp2_with fail
                go_round
                case rel => exact ⟨k + 1, by omega, by go_num, by rw [HCT.out]; simp⟩
                case measure => simp [intOf]; omega
            · obtain rfl : k = L'.length := by omega
              have hmany : L'.take L'.length = L' := List.take_length ..
              rw [hmany]
              clear hmany
              go_wp2_with fail
              have HA := Lib.hid (two_all (HT'.out.drew (NetR.loc _ _) (RefR.loc _ _)))
              go_region_held3 (fun w' => w'.cell? ⟨w1.heap.size, 0, none⟩ = some (.slice a' L'.length cap')) (first | exact hx | exact hx3 | exact hx6 | assumption)
                (first
                | (go_at_call 17
                   (with_reducible refine HA.out.mono ?_)
                   rintro e w3 ⟨a3, cap3, rfl, hs, hb, hn⟩
                   have HT3 := Lib.hid (HT'.out.below (NetR.loc _ _) (RefR.loc _ _) ((Below.refl _ _).drew.trans hb))
                   have HS3 := Lib.hid hs
                   have HR3 := Lib.hid (HR.out.row.keep fun k hk => hb.block k (HR.out.row.lt k hk))
                   have hx3 : w3.cell? ⟨w1.heap.size, 0, none⟩ = some (.slice a' L'.length cap') := by rw [cell_of_row _ _ _ _ _ _ ((hb.block _ (blk_lt HR.out.here)).trans HR.out.here)]; rfl
                   clear hs hb hn)
                | (go_at_call 16; with_reducible refine (same_eq _ a3 a' cap3 cap' L' HL'.out HS3.out HR3.out).mono ?_; rintro e w4 ⟨rfl, nq, rfl⟩)
                | (go_at_call 18; with_reducible refine (two_len (HT3.out.below (NetR.loc _ _) (RefR.loc _ _) (below_drewN _ _))).mono ?_; rintro e w5 ⟨rfl, rfl⟩)
                | (go_at_call 19; with_reducible refine (two_to node (HT3.out.below (NetR.loc _ _) (RefR.loc _ _) (below_drewN _ _))).mono ?_; rintro e w6 ⟨rfl, hb⟩
                   have hx6 : w6.cell? ⟨w1.heap.size, 0, none⟩ = some (.slice a' L'.length cap') := by rw [hb.cell (block_lt_of_cell hx3)]; exact hx3
                   have HT6 := Lib.hid ((HT3.out.below (NetR.loc _ _) (RefR.loc _ _) (below_drewN _ _)).below (NetR.loc _ _) (RefR.loc _ _) hb)
                   clear hb))
              go_wp2_with fail
              go_roundw
              case rel => exact ⟨i + 1, L', by omega, by go_num, HL'.out, HT6.out⟩
              case measure => simp [intOf]; omega
      · obtain rfl : i = l.length := by omega
        go_wp2_with fail
        refine (alive21 _).mono ?_
        rintro e w' ⟨rfl, hb⟩
        have HT3 := Lib.hid (HT.out.below (NetR.loc _ _) (RefR.loc _ _) hb)
        clear hb
        go_wp2
        go_ret
        exact ⟨rfl, HT3.out.own⟩

end Go.Proofs.Ytmlilfdaacchjaa
