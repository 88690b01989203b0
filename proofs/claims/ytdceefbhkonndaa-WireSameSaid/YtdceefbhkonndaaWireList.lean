/-
  WHAT WAS WRITTEN IS READ: each call of a reader on bytes that begin with what was written; and the walk of List.
-/
import Derived.Test.YtdceefbhkonndaaWireCopy
namespace Go.Proofs.Ytdceefbhkonndaa
open Go.RowKit
attribute [local go_sem ↓ high] appSem_eq

theorem L_drop (s : ByteArray) (n : Nat) : L (s.extract n s.size) = (L s).drop n := by
  unfold L
  rw [ByteArray.data_extract, Array.toList_extract]
  simp [List.extract]
  have : s.data.size = s.size := rfl
  rw [List.take_of_length_le (by simp [this])]
theorem S_drop (a r : List UInt8) (n m : Nat) (h : a.length = n) (hm : (a ++ r).length = m) : (S (a ++ r)).extract n m = S r := by
  have e : (S (a ++ r)).size = m := by rw [S_size]; exact hm
  subst e h
  rw [← S_L ((S (a ++ r)).extract a.length (S (a ++ r)).size), L_drop, L_S, List.drop_append_of_le_length (Nat.le_refl _), List.drop_length]
  rfl
theorem S_part (a t r : List UInt8) (n m : Nat) (h : a.length = n) (hm : n + t.length = m) : (S (a ++ t ++ r)).extract n m = S t := by
  subst h hm
  rw [← S_L ((S (a ++ t ++ r)).extract a.length (a.length + t.length))]
  congr 1
  unfold L S
  rw [ByteArray.data_extract, Array.toList_extract]
  simp [List.extract]
theorem uRes_uv (x : Nat) (r : List UInt8) (hx : x < 18446744073709551616) : uRes (S (Wr.uv x ++ r)) x = (x, S r, 0) := by
  unfold uRes
  rw [L_S, Wr.rd_uv x r hx]
  simp only [if_true]
  rw [if_neg (Nat.lt_irrefl x), S_drop _ _ _ _ rfl (by rw [S_size])]
theorem iRes_iv (x : Int) (r : List UInt8) (h1 : -9223372036854775808 ≤ x) (h2 : x ≤ 9223372036854775807) : iRes (S (Wr.uv (Wr.zig x) ++ r)) x x = (x, S r, 0) := by
  unfold iRes
  rw [L_S, Wr.rd_uv _ r (Wr.zig_lt x h1 h2)]
  simp only [if_true]
  rw [Wr.zag_zig, if_neg (by omega), S_drop _ _ _ _ rfl (by rw [S_size])]
theorem bRes_bv (b : Bool) (r : List UInt8) : bRes (S (Wr.bool b :: r)) = (b, S r, 0) := by
  have e : (S (Wr.bool b :: r)).extract 1 (S (Wr.bool b :: r)).size = S r := S_drop [Wr.bool b] r 1 _ rfl (by rw [S_size]; rfl)
  unfold bRes
  rw [L_S]
  cases b
  · show (if 1 < (0 : UInt8).toNat then _ else _) = _
    rw [if_neg (by decide), e]; rfl
  · show (if 1 < (1 : UInt8).toNat then _ else _) = _
    rw [if_neg (by decide), e]; rfl
theorem sRes_uv (n : Nat) (r : List UInt8) (most : Int) (hn : n < 18446744073709551616) (hm : (n : Int) ≤ most) (hr : n ≤ r.length) : sRes (S (Wr.uv n ++ r)) most = (n, (Wr.uv n).length, 0) := by
  unfold sRes
  rw [L_S, Wr.rd_uv n r hn]
  simp only [if_true]
  rw [if_neg (by omega), if_neg (by rw [S_size, List.length_append]; omega)]
theorem cRes_uv (n : Nat) (r : List UInt8) (most : Int) (hn : n < 18446744073709551616) (hm : (n : Int) ≤ most) (hr : n ≤ r.length) : cRes (S (Wr.uv n ++ r)) most = (n, S r, 0) := by
  unfold cRes
  rw [sRes_uv n r most hn hm hr]
  simp only [if_true]
  rw [S_drop _ _ _ _ rfl (by rw [S_size])]
theorem tRes_tv (t : ByteArray) (r : List UInt8) (most : Int) (ht : t.size ≤ 1073741824) (hm : (t.size : Int) ≤ most) : tRes (S (Wr.txt (L t) ++ r)) most = (t, S r, 0) := by
  unfold tRes
  have e : Wr.txt (L t) ++ r = Wr.uv t.size ++ (L t ++ r) := by unfold Wr.txt; rw [L_size, List.append_assoc]
  rw [e, sRes_uv t.size _ most (by omega) hm (by rw [List.length_append, L_size]; omega)]
  simp only [if_true]
  rw [← List.append_assoc, S_part _ _ _ _ _ rfl (by rw [L_size]), S_L, S_drop (Wr.uv t.size ++ L t) r _ _ (by rw [List.length_append, L_size]) (by rw [S_size])]
theorem tvs_ge (ts : List ByteArray) : ts.length ≤ (tvs ts).length := by
  induction ts with
  | nil => simp
  | cons x xs ih =>
    show _ ≤ ((Wr.uv (L x).length ++ L x) ++ tvs xs).length
    have h1 : 1 ≤ (Wr.uv (L x).length).length := Wr.uvF_pos 9 _
    rw [List.length_append, List.length_append, List.length_cons]; omega
theorem tvs_cons (t : ByteArray) (ts : List ByteArray) : tvs (t :: ts) = Wr.txt (L t) ++ tvs ts := by simp [tvs]
theorem tvs_drop (ts : List ByteArray) (i : Nat) (h : i < ts.length) : tvs (ts.drop i) = Wr.txt (L ts[i]) ++ tvs (ts.drop (i + 1)) := by
  rw [List.drop_eq_getElem_cons h, tvs_cons]
theorem tvs_drop_le (ts : List ByteArray) (i : Nat) : (tvs (ts.drop i)).length ≤ (tvs ts).length := by
  conv => rhs; rw [← List.take_append_drop i ts]
  unfold tvs
  rw [List.flatMap_append, List.length_append]; omega

/-- What List leaves. -/
def ListDone (w : World) (b : Nat) (ts : List ByteArray) (r : List UInt8) (e : Ending) (w' : World) : Prop :=
  ∃ a cap, e = .returned (.slice a ts.length cap) ∧ RowIs w' 1 a (ts.map tcell) ∧ RdIs w' b (S r) 0 ∧ Upd w w' [b]
set_option maxHeartbeats 1000000 in
theorem list_read (w : World) (b : Nat) (ts : List ByteArray) (r : List UInt8) (most each : Int) (h : RdIs w b (S (lvs ts ++ r)) 0) (hl : (lvs ts ++ r).length ≤ 1073741824) (hm : (ts.length : Int) ≤ most) (hm2 : most ≤ 9223372036854775807) (he : ∀ t ∈ ts, (t.size : Int) ≤ each) (he1 : -9223372036854775808 ≤ each) (he2 : each ≤ 9223372036854775807) :
    Calls Try.prog 25 #[.pointer (some ⟨b, 0, none⟩), .int .i64 most, .int .i64 each] w (ListDone w b ts r) := by
  obtain ⟨i0, hi, hz0, hz1, hz2⟩ := info_parts strInfo
  have hle := tvs_ge ts
  have e0 : lvs ts ++ r = Wr.uv ts.length ++ (tvs ts ++ r) := by unfold lvs; rw [List.append_assoc]
  rw [e0, List.length_append, List.length_append] at hl
  rw [e0] at h
  have hC := count_read w b _ most (by rw [S_size, List.length_append, List.length_append]; omega) (by omega) hm2 h
  rw [cRes_uv ts.length _ most (by omega) hm (by rw [List.length_append]; omega)] at hC
  have HC := Lib.hid hC
  have HBLT := Lib.hid (blk_lt h)
  have HLE : Hid ((tvs ts).length + r.length ≤ 1073741824) := Lib.hid (by omega)
  have HEA := Lib.hid he
  have HE12 := Lib.hid (show -9223372036854775808 ≤ each ∧ each ≤ 9223372036854775807 from ⟨he1, he2⟩)
  have hlI : (0 : Int) ≤ ts.length ∧ (ts.length : Int) ≤ 1073741824 := by omega
  clear hC h hl e0 hle he hm hm2
  go_enter Try.func25, Try.ntmps25
  go_wp2_with fail
  refine HC.out.mono ?_
  rintro e w1 ⟨rfl, hR, hU⟩
  have HR := Lib.hid hR
  have HU := Lib.hid hU
  clear hR hU
  go_wp2_with fail
  go_loopw [6, 10] (fun vl vi wr => ∃ (i : Nat) (a : Option Addr) (cap : Nat), i ≤ ts.length ∧ vi = .int .i64 i ∧ vl = .slice a i cap ∧ SliceIs wr 9 1 a i cap ((ts.take i).map Value.string) ∧ (∀ k ∈ blks a, w.heap.size ≤ k) ∧ RdIs wr b (S (tvs (ts.drop i) ++ r)) 0 ∧ Upd w wr [b])
    (fun _ vi _ => ts.length - (intOf vi).toNat)
  case atStart => exact ⟨0, none, 0, Nat.zero_le _, rfl, rfl, SliceIs.nil _ _ _, by simp, HR.out, HU.out⟩
  case round =>
    clear HR HU HC
    obtain ⟨i, a, cap, hi', rfl, rfl, hS, hbk, hR, hU⟩ := hrel
    by_cases hlt : i < ts.length
    · have hiI : (0 : Int) ≤ i ∧ (i : Int) < ts.length := by omega
      rw [tvs_drop ts i hlt] at hR
      have hd := tvs_drop_le ts i
      have hd2 := tvs_drop_le ts (i + 1)
      rw [tvs_drop ts i hlt] at hd
      have hts : (Wr.txt (L ts[i])).length = (Wr.uv (L ts[i]).length).length + (L ts[i]).length := by simp [Wr.txt]
      have hsz := L_size ts[i]
      have hle := HLE.out
      rw [List.length_append] at hd
      have hea := HEA.out ts[i] (List.getElem_mem hlt)
      have hT := text_read wr b _ each (by rw [S_size, List.append_assoc, List.length_append, List.length_append]; omega) HE12.out.1 HE12.out.2 hR
      rw [List.append_assoc, tRes_tv ts[i] _ each (by omega) hea] at hT
      have HT := Lib.hid hT
      have HS := Lib.hid hS
      have HBK := Lib.hid hbk
      have HU := Lib.hid hU
      have HTK : Hid ((ts.take (i + 1)).map Value.string = (ts.take i).map Value.string ++ [.string ts[i]]) := Lib.hid (by rw [List.take_succ_eq_append_getElem hlt, List.map_append]; rfl)
      clear hR hd hd2 hts hsz hle hea hT hS hbk hU
      generalize ts[i] = t at *
      go_wp2_with fail
      refine HT.out.mono ?_
      rintro e w2 ⟨rfl, hR2, hU2⟩
      have hS2 := HS.out.keep (w' := w2) fun k hk => hU2.keep k (HS.out.lt k hk) (by simp; intro e; have := HBK.out k hk; have := HBLT.out; omega)
      have hUa := HU.out.trans hU2 (fun x hx => .inl hx)
      obtain ⟨b', cp', w3, hr, hS3, hU3, hbk3⟩ := run_append_slice (P := Try.prog) (w2.alloc (.cells #[.string t] 9)) 24 24 9 i0 (.string ⟨#[]⟩) 1 16 Try.underlying24 hi hz0 hz1 hz2 rfl (by decide) a i cap _ (hS2.alloc _) ⟨w2.heap.size, 0, none⟩ 1 1 [.string t] rfl (by
          intro j u hj
          match j, hj with
          | 0, hj => simp at hj; subst hj; simp [Addr.add])
        (by intro u hu; simp at hu; subst hu; rfl) (by unfold maxLen; omega) (by omega)
      change (appSem _ _ _).run _ _ = _ at hr
      have hRk : RdIs w3 b (S (tvs (ts.drop (i + 1)) ++ r)) 0 := (hR2.alloc _).keep (hU3.keep b (by have := blk_lt hR2; simp; omega) (fun hx => by have := HBK.out b hx; have := HBLT.out; omega))
      have HS3 := Lib.hid hS3
      have HR3 := Lib.hid hRk
      have HBK3 : Hid (∀ k ∈ blks b', w.heap.size ≤ k) := Lib.hid (fun k hk => by
        rcases hbk3 k hk with h | h
        · exact HBK.out k h
        · have := hUa.size; simp at h; omega)
      have HU3 := Lib.hid ((hUa.alloc (.cells #[.string t] 9)).trans hU3 (fun x hx => .inr (HBK.out x hx)))
      clear hR2 hU2 hS2 hUa hS3 hU3 hbk3 hRk
      go_wp2_with fail
      go_roundw
      case rel => exact ⟨i + 1, b', cp', by omega, by go_num, rfl, by rw [HTK.out]; exact HS3.out, HBK3.out, HR3.out, HU3.out⟩
      case measure => simp [intOf]; omega
    · obtain rfl : i = ts.length := by omega
      rw [List.take_length] at hS
      rw [List.drop_length] at hR
      have HR := Lib.hid (show RdIs wr b (S r) 0 from hR)
      have HRow : Hid (RowIs wr 1 a (ts.map tcell)) := Lib.hid (by
        have := hS.rowIs1 (by simp)
        rw [List.map_map] at this
        exact this)
      have HU := Lib.hid hU
      clear hS hR hbk hU
      go_wp2_with fail
      refine (err_any _ _ _ _ HR.out).mono ?_
      rintro e w2 ⟨rfl, rfl⟩
      go_wp2_with fail
      go_ret
      exact ⟨a, cap, rfl, HRow.out, HR.out, HU.out⟩

end Go.Proofs.Ytdceefbhkonndaa
