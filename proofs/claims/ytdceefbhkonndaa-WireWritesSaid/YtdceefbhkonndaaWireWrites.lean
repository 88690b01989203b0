/-
  THE WALK of the statement WireWrites.
-/
import Derived.Test.YtdceefbhkonndaaWireCopy
namespace Go.Proofs.Ytdceefbhkonndaa
open Go.RowKit
attribute [local go_sem ↓ high] appSem_eq

set_option maxRecDepth 20000 in
set_option maxHeartbeats 4000000 in
theorem wireWrites_any (w : World) (us : List Nat) (ns : List Int) (ts : List ByteArray) (bs : List Bool) (a0 a1 a2 a3 : Option Addr) (c0 c1 c2 c3 : Nat) (h : Four w us ns ts bs a0 a1 a2 a3 c0 c1 c2 c3)
    (hu : us.length ≤ 140737488351232) (hn : ns.length ≤ 140737488351232) (ht : ts.length ≤ 140737488351232) (hb : bs.length ≤ 140737488351232) (hz : ∀ t ∈ ts, t.size ≤ 140737488351232) :
    Calls Try.prog 3 #[.slice a0 us.length c0, .slice a1 ns.length c1, .slice a2 ts.length c2, .slice a3 bs.length c3] w fun e w' => e = .returned (.bool true) ∧ Below w.heap.size w w' := by
  have H := Lib.hid h
  have huI : (0 : Int) ≤ us.length ∧ (us.length : Int) ≤ 140737488351232 := by omega
  have hnI : (0 : Int) ≤ ns.length ∧ (ns.length : Int) ≤ 140737488351232 := by omega
  have htI : (0 : Int) ≤ ts.length ∧ (ts.length : Int) ≤ 140737488351232 := by omega
  have hbI : (0 : Int) ≤ bs.length ∧ (bs.length : Int) ≤ 140737488351232 := by omega
  have HTOT := Lib.hid (total_any w a2 c2 ts h.t (by omega) hz)
  clear h hu hn ht hb hz
  by_cases hbig : (200 : Int) < (us.length : Int) + ns.length + ts.length + bs.length
  · go_enter Try.func3, Try.ntmps3
    go_wp2_with fail
    refine (alive08 _).mono ?_
    rintro e w' ⟨rfl, hb⟩
    go_wp2_with fail
    go_ret
    exact ⟨rfl, hb⟩
  go_enter Try.func3, Try.ntmps3
  go_wp2_with fail
  refine HTOT.out.mono ?_
  rintro e w' ⟨⟨N, rfl, hN1, hN2, _⟩, rfl⟩
  by_cases hN : 4096 < N
  · have hNI : (4096 : Int) < N := by omega
    clear hN
    go_wp2_with fail
    refine (alive08 _).mono ?_
    rintro e w' ⟨rfl, hb⟩
    go_wp2_with fail
    go_ret
    exact ⟨rfl, hb⟩
  have hNI : ¬ (4096 : Int) < N := by omega
  have HSZ : Hid (sizes ts ≤ 4096) := Lib.hid (by have := hN2 (by omega); omega)
  have HLEN : Hid (us.length ≤ 200 ∧ ns.length ≤ 200 ∧ ts.length ≤ 200 ∧ bs.length ≤ 200) := Lib.hid (by omega)
  clear hN hN1 hN2 hbig
  go_wp2_with fail
  have HO : Hid (Own w'.heap.size w' w') := Lib.hid (Own.refl _)
  go_loopw [9, 13] (fun vs vi wr => ∃ k : Nat, k ≤ us.length ∧ vi = .int .i64 k ∧ vs = .string (S (uvs (us.take k))) ∧ Own w'.heap.size w' wr) (fun _ vi _ => us.length - (intOf vi).toNat)
  case atStart => exact ⟨0, Nat.zero_le _, rfl, rfl, HO.out⟩
  case round =>
    clear HO
    obtain ⟨k, hk, rfl, rfl, hO⟩ := hrel
    have HO := Lib.hid hO
    clear hO
    by_cases hlt : k < us.length
    · obtain ⟨g, off, rfl, hc⟩ := (H.out.keep HO.out.below).u.cell1 (f := fun x => .int .u64 (x : Nat)) k hlt
      have hkI : (0 : Int) ≤ k ∧ (k : Int) < us.length := by omega
      have HT : Hid (S (uvs (us.take (k + 1))) = S (uvs (us.take k)) ++ S (Wr.uv us[k])) := Lib.hid (by
        rw [S_append, List.take_succ_eq_append_getElem hlt, uvs, List.flatMap_append]; simp [uvs])
      have hle := uvs_le (us.take k)
      have hcat : ¬ 9223372036854775807 < (S (uvs (us.take k))).size + (S (Wr.uv us[k])).size := by
        have := HLEN.out; have h2 : (Wr.uv us[k]).length ≤ 10 := Wr.uvF_length 10 _; rw [List.length_take] at hle; rw [S_size, S_size]; omega
      clear hle
      have HU := Lib.hid (fun w => rUint_any w us[k] (H.out.u64 _ (List.getElem_mem hlt)))
      generalize us[k] = x at *
      generalize S (uvs (us.take k)) = b0 at *
      generalize S (Wr.uv x) = b1 at *
      go_wp2_with fail
      refine (HU.out _).mono ?_
      rintro e w2 ⟨rfl, hb2⟩
      have HO2 := Lib.hid (HO.out.trans hb2)
      clear hb2
      go_wp2_with fail
      go_roundw
      case rel => exact ⟨k + 1, by omega, by go_num, by rw [HT.out], HO2.out⟩
      case measure => simp [intOf]; omega
    · obtain rfl : k = us.length := by omega
      rw [List.take_length]
      clear hlt hk
      go_wp2_with fail
      go_loopw [10, 14] (fun vs vi wr => ∃ k : Nat, k ≤ ns.length ∧ vi = .int .i64 k ∧ vs = .string (S (ivs (ns.take k))) ∧ Own w'.heap.size w' wr) (fun _ vi _ => ns.length - (intOf vi).toNat)
      case atStart => exact ⟨0, Nat.zero_le _, rfl, rfl, HO.out⟩
      case round =>
        clear HO
        obtain ⟨k, hk, rfl, rfl, hO⟩ := hrel
        have HO := Lib.hid hO
        clear hO
        by_cases hlt : k < ns.length
        · obtain ⟨g, off, rfl, hc⟩ := (H.out.keep HO.out.below).n.cell1 (f := fun x => .int .i64 x) k hlt
          have hkI : (0 : Int) ≤ k ∧ (k : Int) < ns.length := by omega
          have HT : Hid (S (ivs (ns.take (k + 1))) = S (ivs (ns.take k)) ++ S (Wr.uv (Wr.zig ns[k]))) := Lib.hid (by
            rw [S_append, List.take_succ_eq_append_getElem hlt, ivs, List.flatMap_append]; simp [ivs])
          have hle := ivs_le (ns.take k)
          have hcat : ¬ 9223372036854775807 < (S (ivs (ns.take k))).size + (S (Wr.uv (Wr.zig ns[k]))).size := by
            have := HLEN.out; have h2 : (Wr.uv (Wr.zig ns[k])).length ≤ 10 := Wr.uvF_length 10 _; rw [List.length_take] at hle; rw [S_size, S_size]; omega
          clear hle
          obtain ⟨hx1, hx2⟩ := H.out.i64 _ (List.getElem_mem hlt)
          generalize ns[k] = x at *
          have HZ := Lib.hid (fun w => rZig_any w x hx1 hx2)
          have HU := Lib.hid (fun w => rUint_any w (Wr.zig x) (Wr.zig_lt x hx1 hx2))
          generalize S (ivs (ns.take k)) = b0 at *
          generalize S (Wr.uv (Wr.zig x)) = b1 at *
          go_wp2_with fail
          refine (HZ.out _).mono ?_
          rintro e w2 ⟨rfl, rfl⟩
          go_wp2_with fail
          refine (HU.out _).mono ?_
          rintro e w2 ⟨rfl, hb2⟩
          have HO2 := Lib.hid (HO.out.trans hb2)
          clear hb2
          go_wp2_with fail
          go_roundw
          case rel => exact ⟨k + 1, by omega, by go_num, by rw [HT.out], HO2.out⟩
          case measure => simp [intOf]; omega
        · obtain rfl : k = ns.length := by omega
          rw [List.take_length]
          clear hlt hk
          go_wp2_with fail
          go_loopw [11, 15] (fun vs vi wr => ∃ k : Nat, k ≤ ts.length ∧ vi = .int .i64 k ∧ vs = .string (S (tvs (ts.take k))) ∧ Own w'.heap.size w' wr) (fun _ vi _ => ts.length - (intOf vi).toNat)
          case atStart => exact ⟨0, Nat.zero_le _, rfl, rfl, HO.out⟩
          case round =>
            clear HO
            obtain ⟨k, hk, rfl, rfl, hO⟩ := hrel
            have HO := Lib.hid hO
            clear hO
            by_cases hlt : k < ts.length
            · obtain ⟨g, off, rfl, hc⟩ := (H.out.keep HO.out.below).t.cell1 (f := fun x => .string x) k hlt
              have hkI : (0 : Int) ≤ k ∧ (k : Int) < ts.length := by omega
              have hsz := size_le_sizes ts ts[k] (List.getElem_mem hlt)
              have hle2 := sizes_take_le ts k
              have HT : Hid (S (tvs (ts.take (k + 1))) = S (tvs (ts.take k)) ++ S (Wr.txt (L ts[k]))) := Lib.hid (by
                rw [S_append, List.take_succ_eq_append_getElem hlt, tvs, List.flatMap_append]; simp [tvs])
              have hle := tvs_le (ts.take k)
              have hcat : ¬ 9223372036854775807 < (S (tvs (ts.take k))).size + (S (Wr.txt (L ts[k]))).size := by
                have := HLEN.out; have := HSZ.out; have h2 : (Wr.uv (L ts[k]).length).length ≤ 10 := Wr.uvF_length 10 _; have e := L_size ts[k]
                have e2 : (Wr.txt (L ts[k])).length = (Wr.uv (L ts[k]).length).length + (L ts[k]).length := by simp [Wr.txt]
                rw [List.length_take] at hle; rw [S_size, S_size]; omega
              clear hle
              have HU := Lib.hid (fun w => rText_any w ts[k] (by have := HSZ.out; omega))
              clear hsz hle2
              generalize ts[k] = x at *
              generalize S (tvs (ts.take k)) = b0 at *
              generalize S (Wr.txt (L x)) = b1 at *
              go_wp2_with fail
              refine (HU.out _).mono ?_
              rintro e w2 ⟨rfl, hb2⟩
              have HO2 := Lib.hid (HO.out.trans hb2)
              clear hb2
              go_wp2_with fail
              go_roundw
              case rel => exact ⟨k + 1, by omega, by go_num, by rw [HT.out], HO2.out⟩
              case measure => simp [intOf]; omega
            · obtain rfl : k = ts.length := by omega
              rw [List.take_length]
              clear hlt hk
              go_wp2_with fail
              go_loopw [12, 16] (fun vs vi wr => ∃ k : Nat, k ≤ bs.length ∧ vi = .int .i64 k ∧ vs = .string (S (bvs (bs.take k))) ∧ Own w'.heap.size w' wr) (fun _ vi _ => bs.length - (intOf vi).toNat)
              case atStart => exact ⟨0, Nat.zero_le _, rfl, rfl, HO.out⟩
              case round =>
                clear HO
                obtain ⟨k, hk, rfl, rfl, hO⟩ := hrel
                have HO := Lib.hid hO
                clear hO
                by_cases hlt : k < bs.length
                · obtain ⟨g, off, rfl, hc⟩ := (H.out.keep HO.out.below).b.cell1 (f := fun x => .bool x) k hlt
                  have hkI : (0 : Int) ≤ k ∧ (k : Int) < bs.length := by omega
                  have hl : (bvs (bs.take k)).length ≤ 200 := by have := HLEN.out; simp [bvs]; omega
                  have hcat : ¬ 9223372036854775807 < (S (bvs (bs.take k))).size + 1 := by rw [S_size]; omega
                  clear hl
                  cases hx : bs[k] with
                  | true =>
                    rw [hx] at hc
                    have HT : Hid (S (bvs (bs.take (k + 1))) = S (bvs (bs.take k)) ++ ⟨#[1]⟩) := Lib.hid (by
                      have e : (⟨#[1]⟩ : ByteArray) = S [1] := rfl
                      rw [e, S_append, List.take_succ_eq_append_getElem hlt, bvs, List.map_append, hx]; rfl)
                    clear hx
                    generalize S (bvs (bs.take k)) = b0 at *
                    go_wp2_with fail
                    go_roundw
                    case rel => exact ⟨k + 1, by omega, by go_num, by rw [HT.out], HO.out⟩
                    case measure => simp [intOf]; omega
                  | false =>
                    rw [hx] at hc
                    have HT : Hid (S (bvs (bs.take (k + 1))) = S (bvs (bs.take k)) ++ ⟨#[0]⟩) := Lib.hid (by
                      have e : (⟨#[0]⟩ : ByteArray) = S [0] := rfl
                      rw [e, S_append, List.take_succ_eq_append_getElem hlt, bvs, List.map_append, hx]; rfl)
                    clear hx
                    generalize S (bvs (bs.take k)) = b0 at *
                    go_wp2_with fail
                    go_roundw
                    case rel => exact ⟨k + 1, by omega, by go_num, by rw [HT.out], HO.out⟩
                    case measure => simp [intOf]; omega
                · obtain rfl : k = bs.length := by omega
                  rw [List.take_length]
                  clear hlt hk
                  obtain ⟨s1, d1, w1, hr, hs, ho⟩ := copy_u _ a0 c0 us (H.out.keep HO.out.below).u (by have := HLEN.out; omega) H.out.n0
                  change (appSem _ _ _).run _ _ = _ at hr
                  have HS := Lib.hid hs
                  replace HO := Lib.hid (HO.out.trans ho.below)
                  clear hs ho
                  go_wp2_with fail
                  refine (uints_any _ s1 d1 us HS.out H.out.u64 (by have := HLEN.out; omega)).mono ?_
                  rintro e w2 ⟨rfl, hb2⟩
                  replace HO := Lib.hid (HO.out.trans hb2)
                  clear hb2 hr HS
                  obtain ⟨s1, d1, w1, hr, hs, ho⟩ := copy_i _ a1 c1 ns (H.out.keep HO.out.below).n (by have := HLEN.out; omega) H.out.n1
                  change (appSem _ _ _).run _ _ = _ at hr
                  have HS := Lib.hid hs
                  replace HO := Lib.hid (HO.out.trans ho.below)
                  clear hs ho
                  go_wp2_with fail
                  refine (ints_any _ s1 d1 ns HS.out H.out.i64 (by have := HLEN.out; omega)).mono ?_
                  rintro e w2 ⟨rfl, hb2⟩
                  replace HO := Lib.hid (HO.out.trans hb2)
                  clear hb2 hr HS
                  obtain ⟨s1, d1, w1, hr, hs, ho⟩ := copy_t _ a2 c2 ts (H.out.keep HO.out.below).t (by have := HLEN.out; omega) H.out.n2
                  change (appSem _ _ _).run _ _ = _ at hr
                  have HS := Lib.hid hs
                  replace HO := Lib.hid (HO.out.trans ho.below)
                  clear hs ho
                  go_wp2_with fail
                  refine (texts_any _ s1 d1 ts HS.out (by have := HSZ.out; omega) (by have := HLEN.out; omega)).mono ?_
                  rintro e w2 ⟨rfl, hb2⟩
                  replace HO := Lib.hid (HO.out.trans hb2)
                  clear hb2 hr HS
                  obtain ⟨s1, d1, w1, hr, hs, ho⟩ := copy_b _ a3 c3 bs (H.out.keep HO.out.below).b (by have := HLEN.out; omega) H.out.n3
                  change (appSem _ _ _).run _ _ = _ at hr
                  have HS := Lib.hid hs
                  replace HO := Lib.hid (HO.out.trans ho.below)
                  clear hs ho
                  go_wp2_with fail
                  refine (bools_any _ s1 d1 bs HS.out (by have := HLEN.out; omega)).mono ?_
                  rintro e w2 ⟨rfl, hb2⟩
                  replace HO := Lib.hid (HO.out.trans hb2)
                  clear hb2 hr HS
                  have hcat : ¬ 9223372036854775807 < (S (Wr.uv ts.length)).size + (S (tvs ts)).size := by
                    have h1 := tvs_le ts
                    have h2 : (Wr.uv ts.length).length ≤ 10 := Wr.uvF_length 10 _
                    have := HSZ.out; have := HLEN.out
                    rw [S_size, S_size]; omega
                  obtain ⟨s1, d1, w1, hr, hs, ho⟩ := copy_t _ a2 c2 ts (H.out.keep HO.out.below).t (by have := HLEN.out; omega) H.out.n2
                  change (appSem _ _ _).run _ _ = _ at hr
                  have HS := Lib.hid hs
                  replace HO := Lib.hid (HO.out.trans ho.below)
                  clear hs ho
                  go_wp2_with fail
                  refine (list_two _ s1 d1 ts HS.out (by have := HSZ.out; omega) (by have := HLEN.out; omega)).mono ?_
                  rintro e w2 ⟨rfl, hb2⟩
                  replace HO := Lib.hid (HO.out.trans hb2)
                  clear hb2 hr HS
                  have HU := Lib.hid (fun w => rUint_any w ts.length (by have := HLEN.out; omega))
                  go_wp2_with fail
                  refine (HU.out _).mono ?_
                  rintro e w2 ⟨rfl, hb2⟩
                  replace HO := Lib.hid (HO.out.trans hb2)
                  clear hb2
                  go_wp2_with fail
                  refine (alive08 _).mono ?_
                  rintro e w2 ⟨rfl, hb2⟩
                  replace HO := Lib.hid (HO.out.trans hb2)
                  clear hb2
                  go_wp2_with fail
                  go_ret
                  exact ⟨rfl, HO.out.below⟩

end Go.Proofs.Ytdceefbhkonndaa
