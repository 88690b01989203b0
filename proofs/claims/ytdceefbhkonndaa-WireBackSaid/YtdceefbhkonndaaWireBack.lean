/-
  THE WALK of the statement WireBack.
-/
import Derived.Test.YtdceefbhkonndaaWireList
import Derived.Deep.RegionHeld3
namespace Go.Proofs.Ytdceefbhkonndaa
open Go.RowKit
attribute [local go_sem ↓ high] appSem_eq

theorem uvs_drop (us : List Nat) (i : Nat) (h : i < us.length) : uvs (us.drop i) = Wr.uv us[i] ++ uvs (us.drop (i + 1)) := by
  rw [List.drop_eq_getElem_cons h, uvs, List.flatMap_cons]; rfl
theorem ivs_drop (ns : List Int) (i : Nat) (h : i < ns.length) : ivs (ns.drop i) = Wr.uv (Wr.zig ns[i]) ++ ivs (ns.drop (i + 1)) := by
  rw [List.drop_eq_getElem_cons h, ivs, List.flatMap_cons]; rfl
theorem bvs_drop (bs : List Bool) (i : Nat) (h : i < bs.length) : bvs (bs.drop i) = Wr.bool bs[i] :: bvs (bs.drop (i + 1)) := by
  rw [List.drop_eq_getElem_cons h, bvs, List.map_cons]; rfl
theorem upd_cell {w w' : World} {b g off : Nat} {v : Value} (u : Upd w w' [b]) (hg : g < w.heap.size) (hne : g ≠ b) (h : w.cell? ⟨g, off, none⟩ = some v) : w'.cell? ⟨g, off, none⟩ = some v := by
  rw [World.cell?_of_block (w := w) (u.keep g hg (by simpa using hne))]; exact h

set_option maxRecDepth 20000 in
set_option maxHeartbeats 4000000 in
theorem wireBack_any (w : World) (us : List Nat) (ns : List Int) (ts : List ByteArray) (bs : List Bool) (a0 a1 a2 a3 : Option Addr) (c0 c1 c2 c3 : Nat) (h : Four w us ns ts bs a0 a1 a2 a3 c0 c1 c2 c3)
    (hu : us.length ≤ 140737488351232) (hn : ns.length ≤ 140737488351232) (ht : ts.length ≤ 140737488351232) (hb : bs.length ≤ 140737488351232) (hz : ∀ t ∈ ts, t.size ≤ 140737488351232) :
    Calls Try.prog 5 #[.slice a0 us.length c0, .slice a1 ns.length c1, .slice a2 ts.length c2, .slice a3 bs.length c3] w fun e w' => e = .returned (.bool true) ∧ Below w.heap.size w w' := by
  have H := Lib.hid h
  have huI : (0 : Int) ≤ us.length ∧ (us.length : Int) ≤ 140737488351232 := by omega
  have hnI : (0 : Int) ≤ ns.length ∧ (ns.length : Int) ≤ 140737488351232 := by omega
  have htI : (0 : Int) ≤ ts.length ∧ (ts.length : Int) ≤ 140737488351232 := by omega
  have hbI : (0 : Int) ≤ bs.length ∧ (bs.length : Int) ≤ 140737488351232 := by omega
  have HTOT := Lib.hid (total_any w a2 c2 ts h.t (by omega) hz)
  clear h hu hn ht hb hz
  by_cases hbig : (200 : Int) < (us.length : Int) + ns.length + ts.length + bs.length
  · go_enter Try.func5, Try.ntmps5
    go_wp2_with fail
    refine (alive08 _).mono ?_
    rintro e w' ⟨rfl, hb⟩
    go_wp2_with fail
    go_ret
    exact ⟨rfl, hb⟩
  go_enter Try.func5, Try.ntmps5
  go_wp2_with fail
  refine HTOT.out.mono ?_
  rintro e w' ⟨⟨N, rfl, hN1, hN2, _⟩, rfl⟩
  by_cases hN : 4096 < N
  · have hNI : (4096 : Int) < N := by omega
    clear hN
    go_wp2_with fail
    refine (alive08 _).mono ?_
    rintro e w' ⟨rfl, hb⟩
    go_wp2_with fail
    go_ret
    exact ⟨rfl, hb⟩
  have hNI : ¬ (4096 : Int) < N := by omega
  have HSZ : Hid (sizes ts ≤ 4096) := Lib.hid (by have := hN2 (by omega); omega)
  have HLEN : Hid (us.length ≤ 200 ∧ ns.length ≤ 200 ∧ ts.length ≤ 200 ∧ bs.length ≤ 200) := Lib.hid (by omega)
  clear hN hN1 hN2 hbig
  have HO : Hid (Own w'.heap.size w' w') := Lib.hid (Own.refl _)
  have HL1 : Hid ((uvs us).length ≤ 2000) := Lib.hid (by have := uvs_le us; have := HLEN.out; omega)
  have HL2 : Hid ((ivs ns).length ≤ 2000) := Lib.hid (by have := ivs_le ns; have := HLEN.out; omega)
  have HL3 : Hid ((tvs ts).length ≤ 6096) := Lib.hid (by have := tvs_le ts; have := HSZ.out; have := HLEN.out; omega)
  have HL4 : Hid ((bvs bs).length ≤ 200) := Lib.hid (by have := HLEN.out; simp [bvs]; omega)
  have HL5 : Hid ((lvs ts).length ≤ 6106) := Lib.hid (by
    have := HL3.out; have h2 : (Wr.uv ts.length).length ≤ 10 := Wr.uvF_length 10 _
    unfold lvs; rw [List.length_append]; omega)
  have hk1 : ¬ 9223372036854775807 < (S (uvs us)).size + (S (lvs ts)).size := by
    have := HL1.out; have := HL5.out; rw [S_size, S_size]; omega
  have hk2 : ¬ 9223372036854775807 < (S (uvs us) ++ S (lvs ts)).size + (S (ivs ns)).size := by
    have := HL1.out; have := HL5.out; have := HL2.out; rw [ByteArray.size_append, S_size, S_size, S_size]; omega
  have hk3 : ¬ 9223372036854775807 < (S (uvs us) ++ S (lvs ts) ++ S (ivs ns)).size + (S (bvs bs)).size := by
    have := HL1.out; have := HL5.out; have := HL2.out; have := HL4.out; rw [ByteArray.size_append, ByteArray.size_append, S_size, S_size, S_size, S_size]; omega
  have hk4 : ¬ 9223372036854775807 < (S (uvs us) ++ S (lvs ts) ++ S (ivs ns) ++ S (bvs bs)).size + (S (tvs ts)).size := by
    have := HL1.out; have := HL5.out; have := HL2.out; have := HL4.out; have := HL3.out; rw [ByteArray.size_append, ByteArray.size_append, ByteArray.size_append, S_size, S_size, S_size, S_size, S_size]; omega
  have HCAT : Hid (S (uvs us) ++ S (lvs ts) ++ S (ivs ns) ++ S (bvs bs) ++ S (tvs ts) = S (uvs us ++ (lvs ts ++ (ivs ns ++ (bvs bs ++ tvs ts))))) := Lib.hid (by
    rw [S_append, S_append, S_append, S_append]; simp [List.append_assoc])
  obtain ⟨s1, d1, w1, hr, hs, ho⟩ := copy_u _ a0 c0 us (H.out.keep HO.out.below).u (by have := HLEN.out; omega) H.out.n0
  change (appSem _ _ _).run _ _ = _ at hr
  have HS := Lib.hid hs
  replace HO := Lib.hid (HO.out.trans ho.below)
  clear hs ho
  go_wp2_with fail
  refine (uints_any _ s1 d1 us HS.out H.out.u64 (by have := HLEN.out; omega)).mono ?_
  rintro e w2 ⟨rfl, hb2⟩
  replace HO := Lib.hid (HO.out.trans hb2)
  clear hb2 hr HS
  obtain ⟨s1, d1, w1, hr, hs, ho⟩ := copy_t _ a2 c2 ts (H.out.keep HO.out.below).t (by have := HLEN.out; omega) H.out.n2
  change (appSem _ _ _).run _ _ = _ at hr
  have HS := Lib.hid hs
  replace HO := Lib.hid (HO.out.trans ho.below)
  clear hs ho
  go_wp2_with fail
  refine (list_any _ s1 d1 ts HS.out (by have := HSZ.out; omega) (by have := HLEN.out; omega)).mono ?_
  rintro e w2 ⟨rfl, hb2⟩
  replace HO := Lib.hid (HO.out.trans hb2)
  clear hb2 hr HS
  obtain ⟨s1, d1, w1, hr, hs, ho⟩ := copy_i _ a1 c1 ns (H.out.keep HO.out.below).n (by have := HLEN.out; omega) H.out.n1
  change (appSem _ _ _).run _ _ = _ at hr
  have HS := Lib.hid hs
  replace HO := Lib.hid (HO.out.trans ho.below)
  clear hs ho
  go_wp2_with fail
  refine (ints_any _ s1 d1 ns HS.out H.out.i64 (by have := HLEN.out; omega)).mono ?_
  rintro e w2 ⟨rfl, hb2⟩
  replace HO := Lib.hid (HO.out.trans hb2)
  clear hb2 hr HS
  obtain ⟨s1, d1, w1, hr, hs, ho⟩ := copy_b _ a3 c3 bs (H.out.keep HO.out.below).b (by have := HLEN.out; omega) H.out.n3
  change (appSem _ _ _).run _ _ = _ at hr
  have HS := Lib.hid hs
  replace HO := Lib.hid (HO.out.trans ho.below)
  clear hs ho
  go_wp2_with fail
  refine (bools_any _ s1 d1 bs HS.out (by have := HLEN.out; omega)).mono ?_
  rintro e w2 ⟨rfl, hb2⟩
  replace HO := Lib.hid (HO.out.trans hb2)
  clear hb2 hr HS
  obtain ⟨s1, d1, w1, hr, hs, ho⟩ := copy_t _ a2 c2 ts (H.out.keep HO.out.below).t (by have := HLEN.out; omega) H.out.n2
  change (appSem _ _ _).run _ _ = _ at hr
  have HS := Lib.hid hs
  replace HO := Lib.hid (HO.out.trans ho.below)
  clear hs ho
  go_wp2_with fail
  refine (texts_any _ s1 d1 ts HS.out (by have := HSZ.out; omega) (by have := HLEN.out; omega)).mono ?_
  rintro e w2 ⟨rfl, hb2⟩
  replace HO := Lib.hid (HO.out.trans hb2)
  clear hb2 hr HS
  go_wp2_with fail
  refine (new_any _ _).mono ?_
  rintro e w3 ⟨rfl, hr, hb2, _⟩
  rw [HCAT.out] at hr
  have HR := Lib.hid hr
  have HBG := Lib.hid HO.out.size
  replace HO := Lib.hid (HO.out.trans hb2)
  clear hr hb2 hk1 hk2 hk3 hk4 HCAT
  generalize w2.heap.size = b at *
  go_wp2_with fail
  go_loopw [11] (fun vi wr => ∃ k : Nat, k ≤ us.length ∧ vi = .int .i64 k ∧ RdIs wr b (S (uvs (us.drop k) ++ (lvs ts ++ (ivs ns ++ (bvs bs ++ tvs ts))))) 0 ∧ Own w'.heap.size w' wr) (fun vi _ => us.length - (intOf vi).toNat)
  case atStart => exact ⟨0, Nat.zero_le _, rfl, HR.out, HO.out⟩
  case round =>
    clear HR HO
    obtain ⟨k, hk, rfl, hR, hO⟩ := hrel
    have HO := Lib.hid hO
    clear hO
    by_cases hlt : k < us.length
    · obtain ⟨g, off, rfl, hc⟩ := (H.out.keep HO.out.below).u.cell1 (f := fun x => .int .u64 (x : Nat)) k hlt
      have hgo : g < w'.heap.size := by
        obtain ⟨g', off', e, hc'⟩ := H.out.u.cell1 (f := fun x => .int .u64 (x : Nat)) k hlt
        cases e; exact block_lt_of_cell hc'
      have hgb : g ≠ b := by have := HBG.out; omega
      have hgw : g < wr.heap.size := by have := HO.out.size; omega
      have HGB := Lib.hid (show g ≠ b ∧ g < wr.heap.size from ⟨hgb, hgw⟩)
      have hkI : (0 : Int) ≤ k ∧ (k : Int) < us.length := by omega
      rw [uvs_drop us k hlt, List.append_assoc] at hR
      have hx := H.out.u64 us[k] (List.getElem_mem hlt)
      have hbd : (Wr.uv us[k] ++ (uvs (us.drop (k + 1)) ++ (lvs ts ++ (ivs ns ++ (bvs bs ++ tvs ts))))).length ≤ 1073741824 := by
        have h1 := uvs_le (us.drop (k + 1)); have h2 : (Wr.uv us[k]).length ≤ 10 := Wr.uvF_length 10 _
        have := HL2.out; have := HL3.out; have := HL4.out; have := HL5.out; have := HLEN.out
        rw [List.length_drop] at h1
        simp only [List.length_append]; omega
      have hrd := uint_read wr.drew b _ us[k] (by rw [S_size]; exact hbd) hR
      rw [uRes_uv us[k] _ hx] at hrd
      clear hbd hx
      generalize us[k] = x at *
      have HRD := Lib.hid (hrd)
      clear hrd hR hgo hgb hgw
      go_wp2_with fail
      go_region_held3 (fun w' => w'.cell? ⟨g, off + k, none⟩ = some (.int .u64 (x : Nat))) (first | exact hc | exact hc3)
        (first
        | (go_at_call 18
           (with_reducible refine HRD.out.mono ?_)
           rintro e w4 ⟨rfl, hR4, hU4⟩
           have hc3 : w4.cell? ⟨g, off + k, none⟩ = some (.int .u64 (x : Nat)) := upd_cell hU4 HGB.out.2 HGB.out.1 hc
           have HR4 := Lib.hid hR4
           have HO4 := Lib.hid (HO.out.drew.upd1 hU4 HBG.out)
           clear hR4 hU4))
      go_wp2_with fail
      go_roundw
      case rel => exact ⟨k + 1, by omega, by go_num, HR4.out, HO4.out⟩
      case measure => simp [intOf]; omega
    · obtain rfl : k = us.length := by omega
      rw [List.drop_length] at hR
      have HR := Lib.hid (show RdIs wr b (S (lvs ts ++ (ivs ns ++ (bvs bs ++ tvs ts)))) 0 from hR)
      clear hlt hk hR
      go_wp2_with fail
      refine (list_read _ b ts _ _ 4096 HR.out (by have := HL2.out; have := HL3.out; have := HL4.out; have := HL5.out; simp only [List.length_append]; omega) (Int.le_refl _) (by have := HLEN.out; omega) (fun t ht => by have := size_le_sizes ts t ht; have := HSZ.out; omega) (by decide) (by decide)).mono ?_
      rintro e w5 ⟨al, cl, rfl, hrow, hr, hu⟩
      have HRW := Lib.hid hrow
      replace HR := Lib.hid hr
      replace HO := Lib.hid (HO.out.upd1 hu HBG.out)
      clear hrow hr hu
      go_wp2_with fail
      refine (rSame_any _ al a2 cl c2 ts ts HRW.out (H.out.keep HO.out.below).t (by have := HLEN.out; omega) (by have := HLEN.out; omega)).mono ?_
      rintro e w6 ⟨rfl, hb2⟩
      replace HR := Lib.hid (HR.out.keep (hb2.block _ (blk_lt HR.out)))
      replace HO := Lib.hid (HO.out.trans hb2)
      clear hb2
      go_wp2_with fail
      go_loopw [12] (fun vi wr => ∃ k : Nat, k ≤ ns.length ∧ vi = .int .i64 k ∧ RdIs wr b (S (ivs (ns.drop k) ++ (bvs bs ++ tvs ts))) 0 ∧ Own w'.heap.size w' wr) (fun vi _ => ns.length - (intOf vi).toNat)
      case atStart => exact ⟨0, Nat.zero_le _, rfl, HR.out, HO.out⟩
      case round =>
        clear HR HO
        obtain ⟨k, hk, rfl, hR, hO⟩ := hrel
        have HO := Lib.hid hO
        clear hO
        by_cases hlt : k < ns.length
        · obtain ⟨g, off, rfl, hc⟩ := (H.out.keep HO.out.below).n.cell1 (f := fun x => .int .i64 x) k hlt
          have hgo : g < w'.heap.size := by
            obtain ⟨g', off', e, hc'⟩ := H.out.n.cell1 (f := fun x => .int .i64 x) k hlt
            cases e; exact block_lt_of_cell hc'
          have hgb : g ≠ b := by have := HBG.out; omega
          have hgw : g < wr.heap.size := by have := HO.out.size; omega
          have HGB := Lib.hid (show g ≠ b ∧ g < wr.heap.size from ⟨hgb, hgw⟩)
          have hkI : (0 : Int) ≤ k ∧ (k : Int) < ns.length := by omega
          rw [ivs_drop ns k hlt, List.append_assoc] at hR
          obtain ⟨hx1, hx2⟩ := H.out.i64 ns[k] (List.getElem_mem hlt)
          have hbd : (Wr.uv (Wr.zig ns[k]) ++ (ivs (ns.drop (k + 1)) ++ (bvs bs ++ tvs ts))).length ≤ 1073741824 := by
            have h1 := ivs_le (ns.drop (k + 1)); have h2 : (Wr.uv (Wr.zig ns[k])).length ≤ 10 := Wr.uvF_length 10 _
            have := HL3.out; have := HL4.out; have := HLEN.out
            rw [List.length_drop] at h1
            simp only [List.length_append]; omega
          have hrd := int_read wr.drew b _ ns[k] ns[k] (by rw [S_size]; exact hbd) hR
          rw [iRes_iv ns[k] _ hx1 hx2] at hrd
          clear hbd hx1 hx2
          generalize ns[k] = x at *
          have HRD := Lib.hid (hrd)
          clear hrd hR hgo hgb hgw
          go_wp2_with fail
          go_region_held3 (fun w' => w'.cell? ⟨g, off + k, none⟩ = some (.int .i64 x)) (first | exact hc | exact hc3)
            (first
            | (go_at_call 19
               (with_reducible refine HRD.out.mono ?_)
               rintro e w4 ⟨rfl, hR4, hU4⟩
               have hc3 : w4.cell? ⟨g, off + k, none⟩ = some (.int .i64 x) := upd_cell hU4 HGB.out.2 HGB.out.1 hc
               have HR4 := Lib.hid hR4
               have HO4 := Lib.hid (HO.out.drew.upd1 hU4 HBG.out)
               clear hR4 hU4))
          go_wp2_with fail
          go_roundw
          case rel => exact ⟨k + 1, by omega, by go_num, HR4.out, HO4.out⟩
          case measure => simp [intOf]; omega
        · obtain rfl : k = ns.length := by omega
          rw [List.drop_length] at hR
          have HR := Lib.hid (show RdIs wr b (S (bvs bs ++ tvs ts)) 0 from hR)
          clear hlt hk hR
          go_wp2_with fail
          go_loopw [13] (fun vi wr => ∃ k : Nat, k ≤ bs.length ∧ vi = .int .i64 k ∧ RdIs wr b (S (bvs (bs.drop k) ++ tvs ts)) 0 ∧ Own w'.heap.size w' wr) (fun vi _ => bs.length - (intOf vi).toNat)
          case atStart => exact ⟨0, Nat.zero_le _, rfl, HR.out, HO.out⟩
          case round =>
            clear HR HO
            obtain ⟨k, hk, rfl, hR, hO⟩ := hrel
            have HO := Lib.hid hO
            clear hO
            by_cases hlt : k < bs.length
            · obtain ⟨g, off, rfl, hc⟩ := (H.out.keep HO.out.below).b.cell1 (f := fun x => .bool x) k hlt
              have hgo : g < w'.heap.size := by
                obtain ⟨g', off', e, hc'⟩ := H.out.b.cell1 (f := fun x => .bool x) k hlt
                cases e; exact block_lt_of_cell hc'
              have hgb : g ≠ b := by have := HBG.out; omega
              have hgw : g < wr.heap.size := by have := HO.out.size; omega
              have HGB := Lib.hid (show g ≠ b ∧ g < wr.heap.size from ⟨hgb, hgw⟩)
              have hkI : (0 : Int) ≤ k ∧ (k : Int) < bs.length := by omega
              rw [bvs_drop bs k hlt, List.cons_append] at hR
              have hbd : (Wr.bool bs[k] :: (bvs (bs.drop (k + 1)) ++ tvs ts)).length ≤ 1073741824 := by
                have := HL3.out; have := HLEN.out
                have h1 : (bvs (bs.drop (k + 1))).length ≤ bs.length := by simp [bvs]
                simp only [List.length_append, List.length_cons]; omega
              have hrd := bool_read wr.drew b _ (by rw [S_size]; exact hbd) hR
              rw [bRes_bv] at hrd
              clear hbd
              generalize bs[k] = x at *
              have HRD := Lib.hid (hrd)
              clear hrd hR hgo hgb hgw
              go_wp2_with fail
              go_region_held3 (fun w' => w'.cell? ⟨g, off + k, none⟩ = some (.bool x)) (first | exact hc | exact hc3)
                (first
                | (go_at_call 26
                   (with_reducible refine HRD.out.mono ?_)
                   rintro e w4 ⟨rfl, hR4, hU4⟩
                   have hc3 : w4.cell? ⟨g, off + k, none⟩ = some (.bool x) := upd_cell hU4 HGB.out.2 HGB.out.1 hc
                   have HR4 := Lib.hid hR4
                   have HO4 := Lib.hid (HO.out.drew.upd1 hU4 HBG.out)
                   clear hR4 hU4))
              go_wp2_with fail
              go_roundw
              case rel => exact ⟨k + 1, by omega, by go_num, HR4.out, HO4.out⟩
              case measure => simp [intOf]; omega
            · obtain rfl : k = bs.length := by omega
              rw [List.drop_length] at hR
              have HR := Lib.hid (show RdIs wr b (S (tvs ts)) 0 from hR)
              clear hlt hk hR
              go_wp2_with fail
              go_loopw [14] (fun vi wr => ∃ k : Nat, k ≤ ts.length ∧ vi = .int .i64 k ∧ RdIs wr b (S (tvs (ts.drop k))) 0 ∧ Own w'.heap.size w' wr) (fun vi _ => ts.length - (intOf vi).toNat)
              case atStart => exact ⟨0, Nat.zero_le _, rfl, HR.out, HO.out⟩
              case round =>
                clear HR HO
                obtain ⟨k, hk, rfl, hR, hO⟩ := hrel
                have HO := Lib.hid hO
                clear hO
                by_cases hlt : k < ts.length
                · obtain ⟨g, off, rfl, hc⟩ := (H.out.keep HO.out.below).t.cell1 (f := fun x => .string x) k hlt
                  have hgo : g < w'.heap.size := by
                    obtain ⟨g', off', e, hc'⟩ := H.out.t.cell1 (f := fun x => .string x) k hlt
                    cases e; exact block_lt_of_cell hc'
                  have hgb : g ≠ b := by have := HBG.out; omega
                  have hgw : g < wr.heap.size := by have := HO.out.size; omega
                  have HGB := Lib.hid (show g ≠ b ∧ g < wr.heap.size from ⟨hgb, hgw⟩)
                  have hkI : (0 : Int) ≤ k ∧ (k : Int) < ts.length := by omega
                  rw [tvs_drop ts k hlt] at hR
                  have hsz := size_le_sizes ts ts[k] (List.getElem_mem hlt)
                  have hbd : (Wr.txt (L ts[k]) ++ tvs (ts.drop (k + 1))).length ≤ 1073741824 := by
                    have := HL3.out; have h1 := tvs_drop_le ts k; rw [tvs_drop ts k hlt] at h1; omega
                  have hx : ts[k].size ≤ 4096 := by have := HSZ.out; omega
                  have hrd := text_read wr.drew b _ (ts[k].size : Int) (by rw [S_size]; exact hbd) (by omega) (by omega) hR
                  rw [tRes_tv ts[k] _ _ (by omega) (Int.le_refl _)] at hrd
                  clear hbd hsz
                  generalize ts[k] = x at *
                  have hxI : (0 : Int) ≤ x.size ∧ (x.size : Int) ≤ 4096 := by omega
                  clear hx
                  have HRD := Lib.hid (hrd)
                  clear hrd hR hgo hgb hgw
                  go_wp2_with fail
                  go_region_held3 (fun w' => w'.cell? ⟨g, off + k, none⟩ = some (.string x)) (first | exact hc | exact hc3)
                    (first
                    | (go_at_call 20
                       (with_reducible refine HRD.out.mono ?_)
                       rintro e w4 ⟨rfl, hR4, hU4⟩
                       have hc3 : w4.cell? ⟨g, off + k, none⟩ = some (.string x) := upd_cell hU4 HGB.out.2 HGB.out.1 hc
                       have HR4 := Lib.hid hR4
                       have HO4 := Lib.hid (HO.out.drew.upd1 hU4 HBG.out)
                       clear hR4 hU4))
                  go_wp2_with fail
                  go_roundw
                  case rel => exact ⟨k + 1, by omega, by go_num, HR4.out, HO4.out⟩
                  case measure => simp [intOf]; omega
                · obtain rfl : k = ts.length := by omega
                  rw [List.drop_length] at hR
                  have HR := Lib.hid (show RdIs wr b ⟨#[]⟩ 0 from hR)
                  clear hlt hk hR
                  go_wp2_with fail
                  refine (err_any _ _ _ _ HR.out).mono ?_
                  rintro e w7 ⟨rfl, rfl⟩
                  go_wp2_with fail
                  refine (left_any _ _ _ _ HR.out).mono ?_
                  rintro e w7 ⟨rfl, rfl⟩
                  go_wp2_with fail
                  refine (end_ok _ _ HR.out).mono ?_
                  rintro e w7 ⟨rfl, rfl⟩
                  go_wp2_with fail
                  refine (alive08 _).mono ?_
                  rintro e w8 ⟨rfl, hb2⟩
                  replace HO := Lib.hid (HO.out.trans hb2)
                  clear hb2
                  go_wp2_with fail
                  go_ret
                  exact ⟨rfl, HO.out.below⟩

end Go.Proofs.Ytdceefbhkonndaa
