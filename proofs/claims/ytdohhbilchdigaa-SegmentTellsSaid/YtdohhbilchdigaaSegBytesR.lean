/-
  THE WALK of the document's answer for layer 11: Bytes.
-/
import Derived.Test.YtdohhbilchdigaaSegBytes
import Derived.Test.YtdohhbilchdigaaMark
namespace Go.Proofs.Ytdohhbilchdigaa
open Go.RowKit

attribute [local go_sem ↓ high] appSem_eq

theorem MarkIs.blks_ge {w : World} {base : Nat} {e : TypeId} {a : Option Addr} {n cap : Nat} {l : List UInt8} (h : MarkIs w base e a n cap l) : ∀ y ∈ blks a, base ≤ y := by
  obtain ⟨_, ⟨rfl, _⟩ | ⟨g, _, _, rfl, hbg, _⟩⟩ := h
  · simp [blks]
  · intro y hy; simp [blks] at hy; omega

set_option maxRecDepth 20000 in
set_option maxHeartbeats 1000000 in
theorem rseg_bytes (w : World) (x : Sx) (a : Option Addr) (cap : Nat) (ok : okS x) (hr : RowIs w 1 a (x.recs.map tcell)) :
    Calls Try.prog 15 #[.agg #[.int .u8 x.kind, .int .u64 x.gen, .int .u64 x.first, .string x.t, .slice a x.recs.length cap, .int .i64 x.used, .bool x.whole]] w fun e w' => e = .returned (.tuple #[.string (S (Sg.bytes x.seg).1), .int .i64 (Sg.bytes x.seg).2]) ∧ Below w.heap.size w w' := by
  obtain ⟨i0, hi, hz0, hz1, hz2⟩ := info_parts byteInfo
  have hO := Own.refl w
  have HOK := Lib.hid ok
  have HR := Lib.hid hr
  have hn60 := ok.n
  have hnI : (0 : Int) ≤ x.recs.length ∧ (x.recs.length : Int) ≤ 60 := by omega
  have hsz := ok.sz
  have HHD := Lib.hid (fun w => rseg_head w x.kind x.gen x.first x.t ok.kind ok.gen ok.first (by omega))
  clear ok hr hsz
  go_enter Try.func15, Try.ntmps15
  go_wp2_with fail
  have hB0 : SegBox (w.alloc (.cells #[.int .u8 x.kind, .int .u64 x.gen, .int .u64 x.first, .string x.t, .slice a x.recs.length cap, .int .i64 x.used, .bool x.whole] 28 (0, 0))) w.heap.size x a cap := heap_alloc_new w _
  have HB0 := Lib.hid hB0
  replace hO := hO.alloc (.cells #[.int .u8 x.kind, .int .u64 x.gen, .int .u64 x.first, .string x.t, .slice a x.recs.length cap, .int .i64 x.used, .bool x.whole] 28 (0, 0))
  clear hB0
  refine (HHD.out _).mono ?_
  rintro e w1 ⟨rfl, hb1⟩
  have HO1 := Lib.hid (hO.trans hb1)
  have HB1 := Lib.hid (HB0.out.keep hb1)
  clear hb1 hO HB0 HHD
  cases hm : Sg.may x.kind x.gen x.first (L x.t) with
  | false =>
    rw [head_no hm]
    have HE := Lib.hid (bytes_no hm)
    clear hm
    go_wp2_with fail
    go_ret2
    exact ⟨by rw [HE.out]; rfl, HO1.out.below⟩
  | true =>
    rw [(head_yes HOK.out hm).1]
    obtain ⟨m1, m2, m3⟩ := Sg.may_parts hm
    obtain ⟨c0, c1, c2, c3, c4, c5, c6, hl⟩ := HB1.out.facts
    have hw := IntWalk.u64_in (x.recs.length : Int) (by omega)
    have hfI : (1 : Int) ≤ x.first ∧ (x.first : Int) ≤ 281474976710656 := by unfold Sg.Top at m3; omega
    have hsub : IntKind.u64.wrap (IntKind.u64.wrap ((x.first : Int) + x.recs.length) - 1) = (x.first : Int) + x.recs.length - 1 := by rw [IntKind.wrap_u64, IntKind.wrap_u64]; omega
    have HM := Lib.hid hm
    clear hm m1 m2
    by_cases hbig : Sg.Top < x.first + x.recs.length - 1
    · have HE := Lib.hid (bytes_big HOK.out HM.out hbig)
      have hbI : (281474976710656 : Int) < (x.first : Int) + x.recs.length - 1 := by unfold Sg.Top at hbig m3; omega
      clear hbig m3
      have hn0 : (0 : Int) < x.recs.length := by omega
      go_wp2_with fail
      go_ret2
      exact ⟨by rw [HE.out]; rfl, HO1.out.below⟩
    · have HE := Lib.hid (bytes_yes HOK.out HM.out hbig)
      have hbI : (x.first : Int) + x.recs.length - 1 ≤ 281474976710656 := by unfold Sg.Top at hbig m3; omega
      clear hbig m3
      have hs0 : S (Frm.enc x.first (Sg.hText x.kind x.gen (L x.t))) = S (segUp x 0) := by unfold segUp; simp [Frm.recs, Frm.bytes]
      rw [hs0]
      have hz0 := segUp_length HOK.out HM.out 0
      have hp0 : 0 < (segUp x 0).length := by unfold segUp; rw [List.length_append, Frm.enc_length]; omega
      obtain ⟨cap0, W0, hconv, hmk0, hbw0⟩ := MarkIs.of_bytes (P := Try.prog) w1 9 39 5 (S (segUp x 0)) Try.underlying9 Try.underlying39 Try.underlying5 (by rw [S_size]; unfold maxLen; omega)
      have hl0 : (S (segUp x 0)).size = (segUp x 0).length := S_size _
      rw [hl0] at hconv hmk0
      have HO2 := Lib.hid (HO1.out.trans hbw0)
      have HB2 := Lib.hid (HB1.out.keep hbw0)
      have HMK := Lib.hid hmk0
      have HO2S := Lib.hid hbw0.size
      have HS1 := Lib.hid HO1.out.size
      have HSL : Hid (w.heap.size < w1.heap.size) := Lib.hid (blk_lt HB1.out)
      clear hs0 hmk0 hbw0 hz0 hl0
      go_wp2_with fail
      · go_loopw [6, 7] (fun vs vi wr => ∃ (k n : Nat) (ab : Option Addr) (cb : Nat), k ≤ x.recs.length ∧ vi = .int .i64 k ∧ vs = .slice ab n cb ∧ 0 < n ∧ MarkIs wr w1.heap.size 5 ab n cb (segUp x k) ∧ Own w.heap.size w wr ∧ SegBox wr w.heap.size x a cap ∧ w1.heap.size ≤ wr.heap.size) (fun _ vi _ => x.recs.length - (intOf vi).toNat)
        case atStart => exact ⟨0, _, _, _, Nat.zero_le _, rfl, rfl, by omega, HMK.out, HO2.out, HB2.out, HO2S.out⟩
        case round =>
          clear c0 c1 c2 c3 c4 c5 c6 hl HMK hconv hp0 HO2 HB2
          obtain ⟨k, n, ab, cb, hk, rfl, rfl, hn, hmk, hO, hB, hws⟩ := hrel
          have HO := Lib.hid hO
          have HB := Lib.hid hB
          have HMK := Lib.hid hmk
          have HWS := Lib.hid hws
          have hln := hmk.1
          have hup := segUp_length HOK.out HM.out k
          have hnI : (0 : Int) < n ∧ (n : Int) ≤ 100000 := by omega
          have hnb : n ≤ 100000 := by omega
          clear hO hB hmk hln hup hws
          obtain ⟨c0, c1, c2, c3, c4, c5, c6, hl⟩ := HB.out.facts
          by_cases hlt : k < x.recs.length
          · obtain ⟨g, off, rfl, hc⟩ := (HR.out.keep HO.out.below).cell1 (f := fun x => .string x) k hlt
            have hxs := size_le_sizes x.recs x.recs[k] (List.getElem_mem hlt)
            have hoks := HOK.out.sz
            have hkI : (0 : Int) ≤ k ∧ (k : Int) < x.recs.length := by omega
            have hwk : IntKind.u64.wrap (k : Int) = k := IntWalk.u64_in _ (by omega)
            have hfk : x.first + k < 18446744073709551616 := by omega
            have hadd : IntKind.u64.wrap ((x.first : Int) + k) = ((x.first + k : Nat) : Int) := by rw [IntKind.wrap_u64]; omega
            have HT : Hid (segUp x (k + 1) = segUp x k ++ L (S (Frm.enc (x.first + k) (L x.recs[k])))) := Lib.hid (by
              rw [L_S, segUp_succ (by have := HOK.out.first; unfold Frm.M64; omega) k hlt, Nat.mod_eq_of_lt (by unfold Frm.M64; exact hfk)])
            have hsz : (S (Frm.enc (x.first + k) (L x.recs[k]))).size ≤ 10000 := by rw [S_size, Frm.enc_length, L_size]; omega
            have HEN := Lib.hid (fun w => (Int.natCast_add x.first k) ▸ ref_enc (x.first + k) x.recs[k] w hfk (by omega))
            clear hxs hoks hfk
            generalize S (Frm.enc (x.first + k) (L x.recs[k])) = b1 at *
            generalize x.recs[k] = tk at *
            go_wp2_with fail
            go_region_with (go_at_call 26; (with_reducible refine (HEN.out _).mono ?_); rintro e w3 ⟨rfl, hb3⟩; have HB3 := Lib.hid hb3; clear hb3)
            all_goals
              have hb4 : Below wr.heap.size wr w3 := ((Own.refl wr).drew.trans HB3.out).below
              have HB4 := Lib.hid hb4
              obtain ⟨ab', cb', w4, hr, hmk4, hup4⟩ := run_append_mark (P := Try.prog) w3 w1.heap.size 39 9 39 5 i0 Try.underlying39 Try.underlying9 hi hz0 hz1 hz2 ab n cb (segUp x k) (HMK.out.keep hb4) b1 (by omega) (Nat.le_trans HWS.out hb4.size)
              change (appSem _ _ _).run _ _ = _ at hr
              have HMK4 := Lib.hid hmk4
              have HUP4 := Lib.hid hup4
              clear hb4 HB3 hmk4 hup4
              go_wp2_with fail
              go_roundw
              case rel =>
                have hO4 := (HO.out.trans HB4.out).upd HUP4.out (fun y hy => Nat.le_trans HS1.out (HMK.out.blks_ge y hy))
                refine ⟨k + 1, n + b1.size, ab', cb', by omega, by go_num, rfl, by omega, by rw [HT.out]; exact HMK4.out, hO4, ?_, Nat.le_trans HWS.out (Nat.le_trans HB4.out.size HUP4.out.size)⟩
                refine ((HUP4.out.keep _ (by have := HB4.out.size; have := HWS.out; have := HSL.out; omega) (fun hy => by have := HMK.out.blks_ge _ hy; have := HSL.out; omega)).trans (HB4.out.block _ (by have := HWS.out; have := HSL.out; omega))).trans HB.out
              case measure => simp [intOf]; omega
          · obtain rfl : k = x.recs.length := by omega
            have hcv := HMK.out.text (P := Try.prog) 39 9 Try.underlying39 Try.underlying5 Try.underlying9 hn
            go_wp2_with fail
            go_ret2
            exact ⟨by rw [HE.out]; unfold segUp; rw [List.take_length]; rfl, HO.out.below⟩
      · go_loopw [6, 7] (fun vs vi wr => ∃ (k n : Nat) (ab : Option Addr) (cb : Nat), k ≤ x.recs.length ∧ vi = .int .i64 k ∧ vs = .slice ab n cb ∧ 0 < n ∧ MarkIs wr w1.heap.size 5 ab n cb (segUp x k) ∧ Own w.heap.size w wr ∧ SegBox wr w.heap.size x a cap ∧ w1.heap.size ≤ wr.heap.size) (fun _ vi _ => x.recs.length - (intOf vi).toNat)
        case atStart => exact ⟨0, _, _, _, Nat.zero_le _, rfl, rfl, by omega, HMK.out, HO2.out, HB2.out, HO2S.out⟩
        case round =>
          clear c0 c1 c2 c3 c4 c5 c6 hl HMK hconv hp0 HO2 HB2
          obtain ⟨k, n, ab, cb, hk, rfl, rfl, hn, hmk, hO, hB, hws⟩ := hrel
          have HO := Lib.hid hO
          have HB := Lib.hid hB
          have HMK := Lib.hid hmk
          have HWS := Lib.hid hws
          have hln := hmk.1
          have hup := segUp_length HOK.out HM.out k
          have hnI : (0 : Int) < n ∧ (n : Int) ≤ 100000 := by omega
          have hnb : n ≤ 100000 := by omega
          clear hO hB hmk hln hup hws
          obtain ⟨c0, c1, c2, c3, c4, c5, c6, hl⟩ := HB.out.facts
          obtain rfl : k = x.recs.length := by omega
          have hcv := HMK.out.text (P := Try.prog) 39 9 Try.underlying39 Try.underlying5 Try.underlying9 hn
          go_wp2_with fail
          go_ret2
          exact ⟨by rw [HE.out]; unfold segUp; rw [List.take_length]; rfl, HO.out.below⟩

end Go.Proofs.Ytdohhbilchdigaa
