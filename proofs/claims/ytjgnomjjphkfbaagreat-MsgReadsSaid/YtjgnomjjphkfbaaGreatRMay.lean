/-
  Joined out of the texts MsgWrite MsgMay MsgBack0 MsgAl0 MsgAlive.
-/
import Derived.Test.YtjgnomjjphkfbaaGreatRWr
import Derived.Test.YtjgnomjjphkfbaaGreatRMask
import Derived.Test.YtjgnomjjphkfbaaGreatRGo
import Derived.Test.YtjgnomjjphkfbaaGreatREq
import Derived.Test.YtjgnomjjphkfbaaGreatRCd
namespace Go.Proofs.YtjgnomjjphkfbaaGreat
open Go.RowKit

/-- What Same's walk says (XMsgSm). -/
def SameAny : Prop := ∀ (s s2 : MS) (x y : Mg.Msg) (w : World), MsgA w s x → MsgA w s2 y → x.Good → y.Good →
    Calls Tryz.prog 13 #[.agg (MV s x), .agg (MV s2 y)] w fun e w' => e = .returned (.bool (decide (x = y))) ∧ Below w.heap.size w w'
theorem Mg.good_getD (s : List UInt8) : ((Mg.decF s).getD Mg.msg0).Good := by
  cases hd : Mg.decF s with
  | none => exact Mg.good0
  | some y =>
    unfold Mg.decF at hd
    split at hd
    · exact Mg.fit_good (Mg.dec_some hd).2
    · cases hd
def ldMsg (a : Addr) := loadVar 43 a
theorem ldMsg_eq (a : Addr) : loadVar 43 a = ldMsg a := rfl
theorem ldMsg_run (w : World) (b : Nat) (s : MS) (x : Mg.Msg) (h : w.heap[b]? = some (.cells (MV s x) 43 (0, 0))) : (ldMsg ⟨b, 0, none⟩).run Tryz.prog w = .ok (.agg (MV s x)) w := by
  have := run_loadVar_agg (P := Tryz.prog) w b 0 28 43 43 (MV s x) (0, 0) _ h Tryz.underlying43 rfl (by kernel_rfl) (by rw [MV_size]; decide)
  rw [List.drop_zero, List.take_of_length_le (by rw [Array.length_toList, MV_size]; exact Nat.le_refl _)] at this
  exact this

attribute [local go_sem ↓ high] ldMsg_eq
set_option maxRecDepth 20000 in
set_option maxHeartbeats 8000000 in
theorem write_any (hS : SameAny) (s : MS) (x : Mg.Msg) (w : World) (ha : MsgA w s x) (ok : x.Good) (hlen : (Mg.enc x).length ≤ 1073741824) :
    Calls Tryz.prog 20 #[.agg (MV s x)] w fun e w' => (∃ t, e = .returned (.tuple #[.string t, .bool (Mg.may x)]) ∧ (Mg.may x = true → t = S (Mg.enc x))) ∧ Below w.heap.size w w' := by
  obtain ⟨w1, hw1⟩ : ∃ w1, w1 = w.alloc (.cells (MV s x) 43 (0, 0)) := ⟨_, rfl⟩
  have hb1 : Below w.heap.size w w1 := by rw [hw1]; exact ((Own.refl w).alloc _).below
  have hm1 : w1.heap[w.heap.size]? = some (.cells (MV s x) 43 (0, 0)) := by rw [hw1]; exact heap_alloc_new w _
  have HA0 := Lib.hid ha
  have HS := Lib.hid hS
  have HM1 := Lib.hid hm1
  have HB1 := Lib.hid hb1
  have HA1 := Lib.hid (ha.keep hb1)
  have HOK := Lib.hid ok
  have HLEN := Lib.hid hlen
  have hc : CellsAt w1 w.heap.size 0 (MV s x).toList := ⟨_, _, _, hm1, by simp, by rw [List.drop_zero, List.take_length]⟩
  have hcp := copied_any s x w1 (ha.keep hb1) ok
  rw [hw1] at hc hcp
  have HC := Lib.hid hc
  have HCP := Lib.hid hcp
  have HW1 := Lib.hid hw1
  clear hb1 hm1 ha ok hlen hc hcp hw1 hS
  go_enter Tryz.func20, Tryz.ntmps20
  go_wp2_with (refine wpList_load_at rfl 43 (.tmp 1) rfl w.heap.size 0 rfl (MV s x).toList _ HC.out Tryz.underlying43 rfl sizeMsg ?_)
  refine HCP.out.mono ?_
  rw [← HW1.out]
  rintro e w2 ⟨s2, rfl, hmo, _, hb2⟩
  clear HCP HC HW1
  have HMO := Lib.hid hmo
  have HB2 := Lib.hid hb2
  clear hmo hb2
  go_wp2_with (refine wpList_store_all rfl 43 (.tmp 4) (.tmp 10) rfl w2.heap.size (MV s2 x) rfl rfl 43 _ (heap_alloc_new w2 _) (by rw [MV_size]; exact sizeMsg) rfl (MV_one _ _) ?_; intro w4 hp4)
  have hb4 : Below w2.heap.size w2 w4 := (((Own.refl w2).alloc _).put hp4 (Nat.le_refl _)).below
  have hm4 := hp4.here
  have hz4 : w4.heap.size = w2.heap.size + 1 := by rw [hp4.size, World.size_alloc]
  obtain ⟨w5, hw5⟩ : ∃ w5, w5 = w4.alloc (.cells #[.pointer none, .pointer none, .slice none 0 0, .bool false, .pointer (some ⟨w2.heap.size, 0, none⟩)] 118 (0, 0)) := ⟨_, rfl⟩
  have hb5 : Below w4.heap.size w4 w5 := by rw [hw5]; exact ((Own.refl w4).alloc _).below
  have hk5 : w5.heap[w4.heap.size]? = some (.cells #[.pointer none, .pointer none, .slice none 0 0, .bool false, .pointer (some ⟨w2.heap.size, 0, none⟩)] 118 (0, 0)) := by rw [hw5]; exact heap_alloc_new w4 _
  have hm5 : w5.heap[w2.heap.size]? = some (.cells (MV s2 x) 43 (0, 0)) := by rw [hb5.block _ (by omega)]; exact hm4
  have hmt : MsgT w5 w2.heap.size s2 x := MsgT.of hm5 ((HMO.out.keep hb4).keep hb5)
  have HG := Lib.hid (goesW w4.heap.size w4.heap.size w2.heap.size s2 x w5 (CdAt.new (Nat.le_refl _) hb5.size hk5) hmt HOK.out HLEN.out)
  have hbw : Below w.heap.size w w5 := HB1.out.trans ((HB2.out.mono HB1.out.size).trans ((hb4.mono (Nat.le_trans HB1.out.size HB2.out.size)).trans (hb5.mono (by have := HB1.out.size; have := HB2.out.size; omega))))
  have HBW := Lib.hid hbw
  have HW5 := Lib.hid hw5
  have HZ := Lib.hid (show w1.heap.size ≤ w2.heap.size ∧ w.heap.size < w1.heap.size ∧ w4.heap.size = w2.heap.size + 1 ∧ w4.heap.size ≤ w5.heap.size from ⟨HB2.out.size, blk_lt HM1.out, hz4, hb5.size⟩)
  have HM5 : Hid (w5.heap[w.heap.size]? = some (.cells (MV s x) 43 (0, 0))) := Lib.hid (by
    have := HB2.out.size
    have := blk_lt HM1.out
    rw [hb5.block _ (by omega), hb4.block _ (by omega), HB2.out.block _ (by omega)]; exact HM1.out)
  have HA5 : Hid (MsgA w5 s x) := Lib.hid (((HA1.out.keep HB2.out).keep hb4).keep hb5)
  clear hp4 hb4 hm4 hz4 hb5 hm5 hmt hbw hw5 HB1 HB2 HA1 HM1 HMO
  go_wp2_with fail
  rw [← HW5.out]
  refine HG.out.mono ?_
  rintro e w6 ⟨rfl, bs, bad, hcd, hfr, h0, hle, hor⟩
  have HT := Lib.hid (cd_text w4.heap.size w4.heap.size w2.heap.size bs bad w6 hcd h0 (by have := HLEN.out; omega))
  have HCD := Lib.hid hcd
  have HFR := Lib.hid hfr
  have HOR := Lib.hid hor
  have HLE := Lib.hid (Nat.le_trans hle HLEN.out)
  clear hcd hfr h0 hor HG HW5 hk5 hle
  go_wp2_with fail
  refine HT.out.mono ?_
  rintro e w7 ⟨rfl, hfr7, hbad⟩
  have hlow : Below w.heap.size w w7 := HBW.out.trans ((HFR.out.below HZ.out.2.2.2 |>.mono (by have := HZ.out; omega)).trans (hfr7.below (Nat.le_trans HZ.out.2.2.2 HFR.out.size) |>.mono (by have := HZ.out; omega)))
  have HLOW := Lib.hid hlow
  have hm7 : w7.heap[w.heap.size]? = some (.cells (MV s x) 43 (0, 0)) := by
    rw [hfr7.low _ (by have := HZ.out; omega) (by have := HZ.out; have := HFR.out.size; omega), HFR.out.low _ (by have := HZ.out; omega) (by have := HZ.out; omega)]
    exact HM5.out
  have HM7 := Lib.hid hm7
  have ha7 : MsgA w7 s x := HA0.out.keep hlow
  have HA7 := Lib.hid ha7
  have hbsz : (0 : Int) ≤ bs.length ∧ (bs.length : Int) ≤ 1073741824 := by have := HLE.out; omega
  have hssz : (S bs).size = bs.length := S_size bs
  have HSS := Lib.hid hssz
  obtain ⟨t, ht⟩ : ∃ t, t = S bs := ⟨_, rfl⟩
  have HTT := Lib.hid ht
  rw [← ht] at hssz
  rw [← ht]
  clear hlow hm7 ha7 hfr7 HFR HBW HM5 HA5 HT HCD ht
  rw [← hssz] at hbsz
  by_cases hgo : bad = false ∧ bs.length ≤ 65536
  · obtain ⟨rfl, hle⟩ := hgo
    have hle2 : ¬ (65536 : Int) < t.size := by omega
    obtain ⟨hbs, hfit⟩ : bs = Mg.enc x ∧ Mg.fits x = true := by
      rcases HOR.out with ⟨h1, h2⟩ | ⟨h1, _⟩
      · refine ⟨h1, ?_⟩
        cases hf : Mg.fits x with
        | true => rfl
        | false => rw [hf] at h2; cases h2
      · cases h1
    have HMAY := Lib.hid (Mg.may_of_written hfit (by rw [← hbs]; exact hle))
    have HRD := read_any t (by omega) w7
    rw [show L t = Mg.enc x from by rw [HTT.out, L_S]; exact hbs] at HRD
    obtain ⟨rv, hrv⟩ : ∃ rv, rv = (Mg.decF (Mg.enc x)).getD Mg.msg0 := ⟨_, rfl⟩
    obtain ⟨rb, hrb⟩ : ∃ rb, rb = (Mg.decF (Mg.enc x)).isSome := ⟨_, rfl⟩
    rw [← hrv, ← hrb] at HRD
    have hmay := HMAY.out
    rw [← hrv, ← hrb] at hmay
    have HMAY2 := Lib.hid hmay
    have hgood : rv.Good := by rw [hrv]; exact Mg.good_getD _
    have HGOOD := Lib.hid hgood
    have HRD2 := Lib.hid HRD
    have HENC : Hid (t = S (Mg.enc x)) := Lib.hid (by rw [HTT.out, hbs])
    clear HRD hmay hgood hrv hrb hbs hfit HMAY HTT HSS
    go_wp2_with fail
    refine HRD2.out.mono ?_
    rintro e w8 ⟨s3, rfl, hmo3, hb8⟩
    have hz8 := HZ.out
    have h78 : w.heap.size < w7.heap.size := blk_lt HM7.out
    have hb9 : ∀ w9, PutAt (w8.alloc (.cells Z28 43 (0, 0))) w9 w8.heap.size (MV s3 rv) 43 → Below w8.heap.size w8 w9 := fun w9 hp9 => (((Own.refl w8).alloc _).put hp9 (Nat.le_refl _)).below
    have HB9 := Lib.hid hb9
    have HM8 := Lib.hid ((hb8.block _ h78).trans HM7.out)
    have HA8 := Lib.hid (HA7.out.keep hb8)
    have HMO3 := Lib.hid hmo3
    have HL8 := Lib.hid (HLOW.out.trans (hb8.mono HLOW.out.size))
    clear hb9 hb8 hmo3 HRD2 HA7 HM7 HLOW
    cases rb with
    | false =>
      go_wp2_with (refine wpList_store_all rfl 43 (.tmp 7) (.tmp 31) rfl w8.heap.size (MV s3 rv) rfl rfl 43 _ (heap_alloc_new w8 _) (by rw [MV_size]; exact sizeMsg) rfl (MV_one _ _) ?_; intro w9 hp9; have HP9 := Lib.hid hp9; clear hp9)
      have hb9 := HB9.out _ HP9.out
      exact bodyPost_ret (v := .tuple #[.string t, .bool false]) (by simp [results, Tryz.results20, go_sem]) rfl ⟨⟨t, by rw [← HMAY2.out]; rfl, fun _ => HENC.out⟩, HL8.out.trans (hb9.mono HL8.out.size)⟩
    | true =>
      go_wp2_with (refine wpList_store_all rfl 43 (.tmp 7) (.tmp 31) rfl w8.heap.size (MV s3 rv) rfl rfl 43 _ (heap_alloc_new w8 _) (by rw [MV_size]; exact sizeMsg) rfl (MV_one _ _) ?_; intro w9 hp9; have r1 := ldMsg_run _ _ _ _ hp9.here; have r2 := ldMsg_run w9 _ _ _ (((HB9.out _ hp9).block _ (blk_lt HM8.out)).trans HM8.out); have HP9 := Lib.hid hp9; clear hp9)
      have hb9 := HB9.out _ HP9.out
      refine (HS.out s3 s rv x w9 (((HMO3.out.keep hb9)).arg) (HA8.out.keep hb9) HGOOD.out HOK.out).mono ?_
      rintro e w10 ⟨rfl, hb10⟩
      go_wp2_with fail
      exact bodyPost_ret (v := .tuple #[.string t, .bool (decide (rv = x))]) (by simp [results, Tryz.results20, go_sem]) rfl ⟨⟨t, by rw [← HMAY2.out]; rfl, fun _ => HENC.out⟩, HL8.out.trans ((hb9.mono HL8.out.size).trans (hb10.mono (Nat.le_trans HL8.out.size hb9.size)))⟩
  · have hmay : Mg.may x = false := Mg.may_not (by
      rcases HOR.out with ⟨h1, h2⟩ | ⟨_, h2⟩
      · cases hf : Mg.fits x with
        | false => exact .inl rfl
        | true =>
          rw [hf] at h2
          have : ¬ bs.length ≤ 65536 := fun h => hgo ⟨h2, h⟩
          exact .inr (by rw [← h1]; omega)
      · exact .inl h2)
    have HMAY := Lib.hid hmay
    cases bad with
    | true =>
      go_wp2_with fail
      exact bodyPost_ret (v := .tuple #[.string (ByteArray.mk #[]), .bool false]) (by simp [results, Tryz.results20, go_sem]) rfl ⟨⟨_, by rw [HMAY.out], fun h => (by rw [HMAY.out] at h; cases h)⟩, HLOW.out⟩
    | false =>
      have hgt : (65536 : Int) < t.size := by
        have : ¬ bs.length ≤ 65536 := fun h => hgo ⟨rfl, h⟩
        omega
      go_wp2_with fail
      exact bodyPost_ret (v := .tuple #[.string (ByteArray.mk #[]), .bool false]) (by simp [results, Tryz.results20, go_sem]) rfl ⟨⟨_, by rw [HMAY.out], fun h => (by rw [HMAY.out] at h; cases h)⟩, HLOW.out⟩

end Go.Proofs.YtjgnomjjphkfbaaGreat

namespace Go.Proofs.YtjgnomjjphkfbaaGreat
open Go.RowKit

/-- The error that Decode answers. -/
def Mg.decE (R : Option Mg.Msg) : Int := if R.isSome = true then 0 else 7
/-- What Encode answers. -/
def Mg.encR (x : Mg.Msg) : Value := .tuple (if Mg.may x = true then #[.string (S (Mg.enc x)), .int .i64 0] else #[.string (ByteArray.mk #[]), .int .i64 2])

set_option maxRecDepth 20000 in
set_option maxHeartbeats 4000000 in
theorem may_any (hS : SameAny) (s : MS) (x : Mg.Msg) (w : World) (ha : MsgA w s x) (ok : x.Good) (hlen : (Mg.enc x).length ≤ 1073741824) :
    Calls Tryz.prog 11 #[.agg (MV s x)] w fun e w' => e = .returned (.bool (Mg.may x)) ∧ Below w.heap.size w w' := by
  obtain ⟨w1, hw1⟩ : ∃ w1, w1 = w.alloc (.cells (MV s x) 43 (0, 0)) := ⟨_, rfl⟩
  have hb1 : Below w.heap.size w w1 := by rw [hw1]; exact ((Own.refl w).alloc _).below
  have hm1 : w1.heap[w.heap.size]? = some (.cells (MV s x) 43 (0, 0)) := by rw [hw1]; exact heap_alloc_new w _
  have hc : CellsAt w1 w.heap.size 0 (MV s x).toList := ⟨_, _, _, hm1, by simp, by rw [List.drop_zero, List.take_length]⟩
  have hcp := write_any hS s x w1 (ha.keep hb1) ok hlen
  rw [hw1] at hc hcp
  have HB1 := Lib.hid hb1
  have HC := Lib.hid hc
  have HCP := Lib.hid hcp
  have HW1 := Lib.hid hw1
  clear hb1 hm1 ha ok hlen hc hcp hw1
  go_enter Tryz.func11, Tryz.ntmps11
  go_wp2_with (refine wpList_load_at rfl 43 (.tmp 1) rfl w.heap.size 0 rfl (MV s x).toList _ HC.out Tryz.underlying43 rfl sizeMsg ?_)
  refine HCP.out.mono ?_
  rw [← HW1.out]
  rintro e w2 ⟨⟨t, rfl, ht⟩, hb2⟩
  go_wp2_with fail
  exact bodyPost_ret (v := .bool (Mg.may x)) (by simp [results, Tryz.results11, go_sem]) rfl ⟨rfl, HB1.out.trans (hb2.mono HB1.out.size)⟩

set_option maxRecDepth 20000 in
set_option maxHeartbeats 4000000 in
theorem encode_any (hS : SameAny) (s : MS) (x : Mg.Msg) (w : World) (ha : MsgA w s x) (ok : x.Good) (hlen : (Mg.enc x).length ≤ 1073741824) :
    Calls Tryz.prog 9 #[.agg (MV s x)] w fun e w' => e = .returned (Mg.encR x) ∧ Below w.heap.size w w' := by
  obtain ⟨w1, hw1⟩ : ∃ w1, w1 = w.alloc (.cells (MV s x) 43 (0, 0)) := ⟨_, rfl⟩
  have hb1 : Below w.heap.size w w1 := by rw [hw1]; exact ((Own.refl w).alloc _).below
  have hm1 : w1.heap[w.heap.size]? = some (.cells (MV s x) 43 (0, 0)) := by rw [hw1]; exact heap_alloc_new w _
  have hc : CellsAt w1 w.heap.size 0 (MV s x).toList := ⟨_, _, _, hm1, by simp, by rw [List.drop_zero, List.take_length]⟩
  have hcp := write_any hS s x w1 (ha.keep hb1) ok hlen
  rw [hw1] at hc hcp
  have HB1 := Lib.hid hb1
  have HC := Lib.hid hc
  have HCP := Lib.hid hcp
  have HW1 := Lib.hid hw1
  clear hb1 hm1 ha ok hlen hc hcp hw1
  go_enter Tryz.func9, Tryz.ntmps9
  go_wp2_with (refine wpList_load_at rfl 43 (.tmp 1) rfl w.heap.size 0 rfl (MV s x).toList _ HC.out Tryz.underlying43 rfl sizeMsg ?_)
  refine HCP.out.mono ?_
  rw [← HW1.out]
  rintro e w2 ⟨⟨t, rfl, ht⟩, hb2⟩
  cases hm : Mg.may x with
  | true =>
    have HT := Lib.hid (ht hm)
    clear ht
    go_wp2_with fail
    exact bodyPost_ret (v := .tuple #[.string t, .int .i64 0]) (by simp [results, Tryz.results9, go_sem]) rfl ⟨by unfold Mg.encR; rw [if_pos hm, HT.out], HB1.out.trans (hb2.mono HB1.out.size)⟩
  | false =>
    go_wp2_with fail
    exact bodyPost_ret (v := .tuple #[.string (ByteArray.mk #[]), .int .i64 2]) (by simp [results, Tryz.results9, go_sem]) rfl ⟨by unfold Mg.encR; rw [if_neg (by rw [hm]; decide)], HB1.out.trans (hb2.mono HB1.out.size)⟩

attribute [local go_sem ↓ high] ldMsg_eq
set_option maxRecDepth 20000 in
set_option maxHeartbeats 4000000 in
theorem decode_any (s : ByteArray) (hs : s.size ≤ 1073741824) (w : World) :
    Calls Tryz.prog 17 #[.string s] w fun e w' => ∃ sl : MS, e = .returned (.tuple #[.agg (MV sl ((Mg.decF (L s)).getD Mg.msg0)), .int .i64 (Mg.decE (Mg.decF (L s)))]) ∧ MsgO w w' sl ((Mg.decF (L s)).getD Mg.msg0) ∧ Below w.heap.size w w' := by
  obtain ⟨w1, hw1⟩ : ∃ w1, w1 = w.alloc (.cells Z28 43 (0, 0)) := ⟨_, rfl⟩
  have hb1 : Below w.heap.size w w1 := by rw [hw1]; exact ((Own.refl w).alloc _).below
  have hm1 : w1.heap[w.heap.size]? = some (.cells Z28 43 (0, 0)) := by rw [hw1]; exact heap_alloc_new w _
  have hrd := read_any s hs w1
  obtain ⟨R, hR⟩ : ∃ R, R = Mg.decF (L s) := ⟨_, rfl⟩
  rw [← hR] at hrd
  rw [← hR]
  rw [hw1] at hrd
  have HB1 := Lib.hid hb1
  have HRD := Lib.hid hrd
  have HW1 := Lib.hid hw1
  have HM1 := Lib.hid hm1
  clear hb1 hm1 hrd hw1 hR
  go_enter Tryz.func17, Tryz.ntmps17
  go_wp2_with fail
  refine HRD.out.mono ?_
  rw [show w.alloc (.cells Z28 43 (0, 0)) = w1 from HW1.out.symm]
  rintro e w2 ⟨sl, rfl, hmo, hb2⟩
  obtain ⟨x, hx⟩ : ∃ x, x = R.getD Mg.msg0 := ⟨_, rfl⟩
  rw [← hx] at hmo
  rw [← hx]
  obtain ⟨b, hb⟩ : ∃ b, b = R.isSome := ⟨_, rfl⟩
  rw [← hb]
  have HX := Lib.hid hx
  have HBB := Lib.hid hb
  have HB2 := Lib.hid hb2
  have HMO := Lib.hid hmo
  have h1 := blk_lt HM1.out
  have hm2 := (hb2.block _ h1).trans HM1.out
  have HM2 := Lib.hid hm2
  have H1 := Lib.hid h1
  clear hx hb hb2 hmo h1 hm2 HM1 HW1 HRD
  have hup : ∀ w3 w4 vs vs4, PutAt (w2.alloc (.cells Z28 43 (0, 0))) w3 w2.heap.size vs 43 → PutAt w3 w4 w.heap.size vs4 43 → Upd w2 w4 [w.heap.size] := fun w3 w4 vs vs4 h3 h4 => (((Upd.refl w2 _).alloc _).put h3 (.inr (Nat.le_refl _))).put h4 (.inl (by simp))
  have HUP := Lib.hid hup
  have hbl : ∀ w4, Upd w2 w4 [w.heap.size] → Below w.heap.size w w4 := fun w4 h => HB1.out.trans ((HB2.out.mono HB1.out.size).trans ⟨h.os, h.tape, h.output, h.size, fun i hi => h.keep i (by have := HB2.out.size; have := HB1.out.size; omega) (by simp; omega)⟩)
  have HBL := Lib.hid hbl
  clear hup hbl
  cases b with
  | true =>
    go_wp2_with (first
      | (refine wpList_store_all rfl 43 (.tmp 4) (.tmp 9) rfl w2.heap.size (MV sl x) rfl rfl 43 _ (heap_alloc_new w2 _) (by rw [MV_size]; exact sizeMsg) rfl (MV_one _ _) ?_; intro w3 hp3; have HP3 := Lib.hid hp3; have r3 := ldMsg_run _ _ _ _ hp3.here; have HM3 : Hid (w3.heap[w.heap.size]? = some (.cells Z28 43 (0, 0))) := Lib.hid ((hp3.other _ (by have := H1.out; have := HB2.out.size; omega)).trans ((Below.heap_alloc w2 _ _ (by have := H1.out; have := HB2.out.size; omega)).trans HM2.out)); clear hp3)
      | (refine wpList_store_all rfl 43 (.tmp 2) (.tmp 14) rfl w.heap.size (MV sl x) rfl (by first | rfl | simp) 43 Z28 HM3.out (by rw [MV_size]; exact sizeMsg) rfl (MV_one _ _) ?_; intro w4 hp4; have HP4 := Lib.hid hp4; clear hp4))
    have hu := HUP.out _ _ _ _ HP3.out HP4.out
    exact bodyPost_ret (results_cell_tmp_row rfl _ _ w.heap.size _ _ _ _ rfl HP4.out.here Tryz.underlying43 rfl (by kernel_rfl)) rfl ⟨sl, by unfold Mg.decE; rw [← HX.out, ← HBB.out]; rfl, by rw [← HX.out]; exact (HMO.out.upd hu (by have := H1.out; simpa using this)).base HB1.out.size, HBL.out _ hu⟩
  | false =>
    go_wp2_with (first
      | (refine wpList_store_all rfl 43 (.tmp 4) (.tmp 9) rfl w2.heap.size (MV sl x) rfl rfl 43 _ (heap_alloc_new w2 _) (by rw [MV_size]; exact sizeMsg) rfl (MV_one _ _) ?_; intro w3 hp3; have HP3 := Lib.hid hp3; have HM3 : Hid (w3.heap[w.heap.size]? = some (.cells Z28 43 (0, 0))) := Lib.hid ((hp3.other _ (by have := H1.out; have := HB2.out.size; omega)).trans ((Below.heap_alloc w2 _ _ (by have := H1.out; have := HB2.out.size; omega)).trans HM2.out)); clear hp3)
      | (refine wpList_store_all rfl 43 (.tmp 2) (.tmp 13) rfl w.heap.size (MV MS0 Mg.msg0) rfl rfl 43 Z28 HM3.out (by rw [MV_size]; exact sizeMsg) rfl (MV_one _ _) ?_; intro w4 hp4; have HP4 := Lib.hid hp4; clear hp4))
    have hu := HUP.out _ _ _ _ HP3.out HP4.out
    have hx0 : x = Mg.msg0 := by
      have hn : R = none := by
        have := HBB.out
        cases hR : R with
        | none => rfl
        | some y => rw [hR] at this; cases this
      rw [HX.out, hn]; rfl
    exact bodyPost_ret (results_cell_tmp_row rfl _ _ w.heap.size _ _ _ _ rfl HP4.out.here Tryz.underlying43 rfl (by kernel_rfl)) rfl ⟨MS0, by unfold Mg.decE; rw [← HX.out, hx0, ← HBB.out]; rfl, by rw [← HX.out, hx0]; exact MsgO.nil _ _ _ rfl, HBL.out _ hu⟩

end Go.Proofs.YtjgnomjjphkfbaaGreat

namespace Go.Proofs.YtjgnomjjphkfbaaGreat
open Go.RowKit

namespace Mg
theorem encR_may {x : Msg} (h : may x = true) : encR x = .tuple #[.string (S (enc x)), .int .i64 0] := by
  unfold encR
  rw [if_pos h]
theorem encR_not {x : Msg} (h : may x = false) : encR x = .tuple #[.string (ByteArray.mk #[]), .int .i64 2] := by
  unfold encR
  rw [if_neg (by rw [h]; decide)]
end Mg
end Go.Proofs.YtjgnomjjphkfbaaGreat

namespace Go.Proofs.YtjgnomjjphkfbaaGreat
open Go.RowKit
namespace Mg
def ack : Msg := { msg0 with kind := 4, tx := ⟨1, 2⟩ }
theorem ack_may : may ack = true := by decide +kernel
theorem ack_enc : enc ack = [4, 1, 2] := by decide +kernel
theorem ack_dec : decF [4, 1, 2] = some ack := by
  have h := may_of_written (x := ack) (by decide +kernel) (by decide +kernel)
  rw [ack_may, ack_enc] at h
  simp only [Bool.and_eq_true, decide_eq_true_eq] at h
  obtain ⟨h1, h2⟩ := h
  obtain ⟨y, hy⟩ := Option.isSome_iff_exists.1 h1
  rw [hy] at h2 ⊢
  exact congrArg some h2
theorem ack0_dec : decF [4, 1, 0] = none := by decide +kernel
def ackc : Msg := { msg0 with kind := 4, tx := ⟨1, 2⟩, commit := true }
theorem ackc_mayn : may ackc = false := by decide +kernel
theorem ackc_len : (enc ackc).length ≤ 1073741824 := by decide +kernel
def prep : Msg := { msg0 with kind := 1, tx := ⟨1, 2⟩, ask := { ask0 with edits := [⟨0, S [], false, 0, 0, S [49, 50, 51, 52, 53, 54, 55]⟩] } }
def tolda : Msg := { msg0 with kind := 6, tx := ⟨1, 2⟩, state := 1 }
theorem tolda_may : may tolda = true := by decide +kernel
theorem tolda_len : (enc tolda).length ≤ 1073741824 := by decide +kernel
def toldb : Msg := { msg0 with kind := 6, tx := ⟨1, 2⟩ }
theorem toldb_may : may toldb = false := by decide +kernel
theorem toldb_len : (enc toldb).length ≤ 1073741824 := by decide +kernel
theorem prep_good : prep.Good := good_of (by decide) (by decide +kernel) (by decide +kernel) (by decide) (by decide +kernel) (.inl (by decide +kernel)) (by decide +kernel) (by decide) (by decide +kernel) (by decide +kernel) (.inr rfl) (by decide)
theorem prep_hide : hide (S [49, 50, 51, 52, 53, 54, 55]) = S [49, 50, 51, 52, 53, 0, 0] := by decide +kernel
end Mg
end Go.Proofs.YtjgnomjjphkfbaaGreat

namespace Go.Proofs.YtjgnomjjphkfbaaGreat
open Go.RowKit

theorem MsgA.bare {W : World} {x : Mg.Msg} (hp : x.parts = []) (ha : x.ask = Mg.ask0) (hr : x.rows = []) (ho : x.own = []) (ht : x.told = Mg.told0) : MsgA W MS0 x := by
  have a := (MsgO.nil W W Mg.msg0 rfl).arg
  refine ⟨?_, ?_, ?_, ?_, ?_, ?_, ?_, ?_, ?_, ?_⟩
  · rw [hp]; exact a.parts
  · rw [ha]; exact a.reads
  · rw [ha]; exact a.readAt
  · rw [ha]; exact a.edits
  · rw [ha]; exact a.editAt
  · rw [hr]; exact a.rows
  · rw [ho]; exact a.own
  · rw [ht]; exact a.got
  · rw [ht]; exact a.numbers
  · rw [ht]; exact a.names
theorem ArgL.single {w : World} {g : Nat} {T : TypeId} {c : List Value} {cap : Nat} (h : w.heap[g]? = some (.cells c.toArray T (0, 0))) (h1 : ∀ u ∈ c, u.oneCell' = true) : ArgL w c.length (some ⟨g, 0, none⟩) cap [c] := by
  refine ⟨fun i hi => ?_, fun x hx => ?_, fun x hx => ?_, fun e => (by cases e)⟩
  · obtain rfl : i = 0 := by simpa using hi
    exact ⟨g, 0, rfl, c.toArray, T, _, h, by simp, by simp⟩
  · rw [List.mem_singleton.1 hx]
  · rw [List.mem_singleton.1 hx]; exact h1
theorem Mg.bare_good {x : Mg.Msg} (hk : x.kind < 256) (ht : Mg.cTx.fit x.tx = true) (hl : x.low = ⟨0, 0⟩) (hm : x.map = 0) (hp : x.parts = []) (ha : x.ask = Mg.ask0) (hr : x.rows = []) (hn : x.next = 0) (ho : x.own = []) (he : x.err = 0) (hd : x.told = Mg.told0) (hs : x.state < 256) : x.Good :=
  Mg.good_of hk ht (by rw [hl]; decide) (by rw [hm]; decide) (by rw [hp]; decide) (.inr ha) (by rw [hr]; decide) (by rw [hn]; decide) (by rw [ho]; decide) (by rw [he]; decide) (.inr hd) hs
theorem Mg.ackc_encR : Mg.encR Mg.ackc = .tuple #[.string ⟨#[]⟩, .int .i64 2] := by
  unfold Mg.encR
  rw [if_neg (by rw [Mg.ackc_mayn]; decide)]
theorem Mg.ack_encR : Mg.encR Mg.ack = .tuple #[.string ⟨#[4, 1, 2]⟩, .int .i64 0] := by
  unfold Mg.encR
  rw [if_pos Mg.ack_may, Mg.ack_enc]
  rfl

set_option maxRecDepth 20000 in
set_option maxHeartbeats 8000000 in
theorem alive_any (hS : SameAny) (w : World) :
    Calls Tryz.prog 8 #[] w fun e w' => e = .returned (.bool true) ∧ Below w.heap.size w w' := by
  have HS := Lib.hid hS
  clear hS
  have hack : Mg.ack.Good := Mg.fit_good (by decide +kernel)
  have HACK := Lib.hid hack
  clear hack
  go_enter Tryz.func8, Tryz.ntmps8
  go_wp2_with fail
  refine (encode_any HS.out MS0 Mg.ack _ (MsgA.bare rfl rfl rfl rfl rfl) HACK.out (by decide +kernel)).mono ?_
  rintro e w1 ⟨rfl, hb1⟩
  rw [Mg.ack_encR]
  have hT1 : w1.heap[w.heap.size]? = some (.cells #[.int .u64 1, .int .u64 2] 24 (0, 0)) := (hb1.block _ (by simp)).trans (heap_alloc_new w _)
  have HT1 := Lib.hid hT1
  have HB1 : Hid (Below w.heap.size w w1) := Lib.hid (((Own.refl w).alloc _).below.trans (hb1.mono (by simp)))
  clear hb1 hT1
  go_wp2_with fail
  have hd := decode_any ⟨#[4, 1, 2]⟩ (by decide) w1
  rw [show L ⟨#[4, 1, 2]⟩ = [4, 1, 2] from rfl, Mg.ack_dec] at hd
  simp only [Option.getD_some] at hd
  rw [show Mg.decE (some Mg.ack) = 0 from rfl] at hd
  refine hd.mono ?_
  clear hd
  rintro e w2 ⟨sl, rfl, _, hb2⟩
  have hT2 := (hb2.block _ (blk_lt HT1.out)).trans HT1.out
  have HT2 := Lib.hid hT2
  have HB2 := Lib.hid (HB1.out.trans (hb2.mono HB1.out.size))
  clear hb2 hT2
  go_wp2_with (refine wpList_store_all rfl 43 (.tmp 4) (.tmp 20) rfl w2.heap.size (MV sl Mg.ack) rfl rfl 43 _ (heap_alloc_new w2 _) (by rw [MV_size]; exact sizeMsg) rfl (MV_one _ _) ?_; intro w3 hp3; have HB3 : Hid (Below w2.heap.size w2 w3) := Lib.hid (((Own.refl w2).alloc _).put hp3 (Nat.le_refl _)).below; have HM3 : Hid (w3.heap[w2.heap.size]? = some (.cells (MV sl Mg.ack) 43 (0, 0))) := Lib.hid hp3.here; have t0 : w3.cell? ⟨w.heap.size, 0, none⟩ = some (.int .u64 1) := (by rw [cell_of_row _ _ _ _ _ _ ((HB3.out.block _ (blk_lt HT2.out)).trans HT2.out)]; rfl); have t1 : w3.cell? ⟨w.heap.size, 1, none⟩ = some (.int .u64 2) := (by rw [cell_of_row _ _ _ _ _ _ ((HB3.out.block _ (blk_lt HT2.out)).trans HT2.out)]; rfl); clear hp3)
  refine (encode_any HS.out MS0 Mg.ackc w3 (MsgA.bare rfl rfl rfl rfl rfl) (Mg.bare_good (by decide) (by decide +kernel) rfl rfl rfl rfl rfl rfl rfl rfl rfl (by decide)) Mg.ackc_len).mono ?_
  rintro e w4 ⟨rfl, hb4⟩
  rw [Mg.ackc_encR]
  have HB4 := Lib.hid (HB2.out.trans ((HB3.out.mono HB2.out.size).trans (hb4.mono (Nat.le_trans HB2.out.size HB3.out.size))))
  have HT4 := Lib.hid ((hb4.block _ (blk_lt ((HB3.out.block _ (blk_lt HT2.out)).trans HT2.out))).trans ((HB3.out.block _ (blk_lt HT2.out)).trans HT2.out))
  have HM4 := Lib.hid ((hb4.block _ (blk_lt HM3.out)).trans HM3.out)
  clear hb4 t0 t1
  have hd := decode_any ⟨#[4, 1, 0]⟩ (by decide) w4
  rw [show L ⟨#[4, 1, 0]⟩ = [4, 1, 0] from rfl, Mg.ack0_dec] at hd
  simp only [Option.getD_none] at hd
  rw [show Mg.decE none = 7 from rfl] at hd
  go_wp2_with fail
  refine hd.mono ?_
  clear hd
  rintro e w5 ⟨sl5, rfl, _, hb5⟩
  have HT5 := Lib.hid ((hb5.block _ (blk_lt HT4.out)).trans HT4.out)
  have HM5 := Lib.hid ((hb5.block _ (blk_lt HM4.out)).trans HM4.out)
  have HB5 := Lib.hid (HB4.out.trans (hb5.mono HB4.out.size))
  clear hb5
  go_wp2_with (refine wpList_store_all rfl 43 (.tmp 8) (.tmp 30) rfl w5.heap.size (MV sl5 Mg.msg0) rfl rfl 43 _ (heap_alloc_new w5 _) (by rw [MV_size]; exact sizeMsg) rfl (MV_one _ _) ?_; intro w6 hp6; have HB6 : Hid (Below w5.heap.size w5 w6) := Lib.hid (((Own.refl w5).alloc _).put hp6 (Nat.le_refl _)).below; have t0 : w6.cell? ⟨w.heap.size, 0, none⟩ = some (.int .u64 1) := (by rw [cell_of_row _ _ _ _ _ _ ((HB6.out.block _ (blk_lt HT5.out)).trans HT5.out)]; rfl); have t1 : w6.cell? ⟨w.heap.size, 1, none⟩ = some (.int .u64 2) := (by rw [cell_of_row _ _ _ _ _ _ ((HB6.out.block _ (blk_lt HT5.out)).trans HT5.out)]; rfl); clear hp6)
  obtain ⟨w7, hw7⟩ : ∃ w7, w7 = w6.alloc (.cells (Mg.Ed.cells ⟨0, S [], false, 0, 0, S [49, 50, 51, 52, 53, 54, 55]⟩).toArray 59 (0, 0)) := ⟨_, rfl⟩
  have hb7 : Below w6.heap.size w6 w7 := by rw [hw7]; exact ((Own.refl w6).alloc _).below
  have hg7 : w7.heap[w6.heap.size]? = some (.cells (Mg.Ed.cells ⟨0, S [], false, 0, 0, S [49, 50, 51, 52, 53, 54, 55]⟩).toArray 59 (0, 0)) := by rw [hw7]; exact heap_alloc_new w6 _
  have ha7 : MsgA w7 { MS0 with edits := (some ⟨w6.heap.size, 0, none⟩, 1) } Mg.prep := by
    have a := (MsgO.nil w7 w7 Mg.msg0 rfl).arg
    exact ⟨a.parts, a.reads, a.readAt, ArgL.single hg7 (one_ed _), a.editAt, a.rows, a.own, a.got, a.numbers, a.names⟩
  have hmk := mask_any _ Mg.prep w7 ha7 Mg.prep_good
  rw [hw7] at hmk
  refine hmk.mono ?_
  rw [show w6.alloc (.cells (Mg.Ed.cells ⟨0, S [], false, 0, 0, S [49, 50, 51, 52, 53, 54, 55]⟩).toArray 59 (0, 0)) = w7 from hw7.symm]
  rintro e w8 ⟨s8, rfl, hmo8, hb8⟩
  have HB7 : Hid (Below w.heap.size w w7) := Lib.hid (HB5.out.trans ((HB6.out.mono HB5.out.size).trans (hb7.mono (Nat.le_trans HB5.out.size HB6.out.size))))
  have hT6 := (HB6.out.block _ (blk_lt HT5.out)).trans HT5.out
  have hM6 := (HB6.out.block _ (blk_lt HM5.out)).trans HM5.out
  have hT7 := (hb7.block _ (blk_lt hT6)).trans hT6
  have hM7 := (hb7.block _ (blk_lt hM6)).trans hM6
  have HT8 := Lib.hid ((hb8.block _ (blk_lt hT7)).trans hT7)
  have HM8 := Lib.hid ((hb8.block _ (blk_lt hM7)).trans hM7)
  have HB8 := Lib.hid (HB7.out.trans (hb8.mono HB7.out.size))
  have HMO8 := Lib.hid hmo8
  clear hb7 hg7 ha7 hmk hmo8 hb8 hT6 hM6 hT7 hM7 hw7 t0 t1
  obtain ⟨ge, oe, he, hce⟩ := HMO8.out.edits.row 0 (by decide)
  have HCE : Hid (CellsAt w8 ge oe (Mg.Ed.cells ⟨0, S [], false, 0, 0, S [49, 50, 51, 52, 53, 0, 0]⟩)) := Lib.hid (by
    have e1 : (((Mg.mask Mg.prep).ask.edits.map Mg.Ed.cells)[0]'(by decide)) = Mg.Ed.cells ⟨0, S [], false, 0, 0, S [49, 50, 51, 52, 53, 0, 0]⟩ := by
      show Mg.Ed.cells ⟨0, S [], false, 0, 0, Mg.hide (S [49, 50, 51, 52, 53, 54, 55])⟩ = _
      rw [Mg.prep_hide]
    rw [e1] at hce
    simpa using hce)
  have HE := Lib.hid he
  clear he hce
  have hend : ∀ w9, PutAt (w8.alloc (.cells Z28 43 (0, 0))) w9 w8.heap.size (MV s8 (Mg.mask Mg.prep)) 43 → Below w8.heap.size w8 w9 ∧ w9.cell? ⟨w2.heap.size, 0, none⟩ = some (.int .u8 4) ∧ w9.cell? ⟨w2.heap.size, 1, none⟩ = some (.int .u64 1) ∧ w9.cell? ⟨w2.heap.size, 2, none⟩ = some (.int .u64 2) ∧ w9.cell? ⟨w.heap.size, 0, none⟩ = some (.int .u64 1) ∧ w9.cell? ⟨w.heap.size, 1, none⟩ = some (.int .u64 2) ∧ w9.cell? ⟨w8.heap.size, 10, none⟩ = some (.slice (some ⟨ge, oe, none⟩) 1 s8.edits.2) ∧ w9.cell? ⟨ge, oe + 5, none⟩ = some (.string ⟨#[49, 50, 51, 52, 53, 0, 0]⟩) := fun w9 hp => by
    have hb : Below w8.heap.size w8 w9 := (((Own.refl w8).alloc _).put hp (Nat.le_refl _)).below
    have hm := (hb.block _ (blk_lt HM8.out)).trans HM8.out
    have ht := (hb.block _ (blk_lt HT8.out)).trans HT8.out
    refine ⟨hb, ?_, ?_, ?_, ?_, ?_, ?_, (HCE.out.keep (hb.block _ HCE.out.lt)).cell 5 (by decide)⟩
    · rw [cell_of_row _ _ _ _ _ _ hm]; rfl
    · rw [cell_of_row _ _ _ _ _ _ hm]; rfl
    · rw [cell_of_row _ _ _ _ _ _ hm]; rfl
    · rw [cell_of_row _ _ _ _ _ _ ht]; rfl
    · rw [cell_of_row _ _ _ _ _ _ ht]; rfl
    · rw [cell_of_row _ _ _ _ _ _ hp.here, ← HE.out]; rfl
  have HEND := Lib.hid hend
  clear hend
  go_wp2_with (refine wpList_store_all rfl 43 (.tmp 10) (.tmp 37) rfl w8.heap.size (MV s8 (Mg.mask Mg.prep)) rfl rfl 43 _ (heap_alloc_new w8 _) (by rw [MV_size]; exact sizeMsg) rfl (MV_one _ _) ?_; intro w9 hp9; obtain ⟨hb9, k0, k1, k2, t0, t1, m10, x5⟩ := HEND.out _ hp9; have HB9 := Lib.hid hb9; clear hb9 hp9)
  have HL9 := Lib.hid (HB8.out.trans (HB9.out.mono HB8.out.size))
  have HT9 := Lib.hid ((HB9.out.block _ (blk_lt HT8.out)).trans HT8.out)
  clear k0 k1 k2 m10 x5 t0 t1
  refine (may_any HS.out MS0 Mg.tolda w9 (MsgA.bare rfl rfl rfl rfl rfl) (Mg.bare_good (by decide) (by decide +kernel) rfl rfl rfl rfl rfl rfl rfl rfl rfl (by decide)) Mg.tolda_len).mono ?_
  rintro e w10 ⟨rfl, hb10⟩
  rw [Mg.tolda_may]
  have t0 : w10.cell? ⟨w.heap.size, 0, none⟩ = some (.int .u64 1) := by rw [cell_of_row _ _ _ _ _ _ ((hb10.block _ (blk_lt HT9.out)).trans HT9.out)]; rfl
  have t1 : w10.cell? ⟨w.heap.size, 1, none⟩ = some (.int .u64 2) := by rw [cell_of_row _ _ _ _ _ _ ((hb10.block _ (blk_lt HT9.out)).trans HT9.out)]; rfl
  have HL10 := Lib.hid (HL9.out.trans (hb10.mono HL9.out.size))
  clear hb10
  go_wp2_with fail
  refine (may_any HS.out MS0 Mg.toldb w10 (MsgA.bare rfl rfl rfl rfl rfl) (Mg.bare_good (by decide) (by decide +kernel) rfl rfl rfl rfl rfl rfl rfl rfl rfl (by decide)) Mg.toldb_len).mono ?_
  rintro e w11 ⟨rfl, hb11⟩
  rw [Mg.toldb_may]
  go_wp2_with fail
  exact bodyPost_ret (v := .bool true) (by simp [results, Tryz.results8, go_sem]) rfl ⟨rfl, HL10.out.trans (hb11.mono HL10.out.size)⟩

end Go.Proofs.YtjgnomjjphkfbaaGreat
