/-
  Joined out of the texts SegNum MsgGet0 MsgGet1 MsgGet2 MsgGet3 MsgGet4 MsgGet5.
-/
import Derived.Test.YtjgnomjjphkfbaaGreatRWire
import Derived.Test.YtjgnomjjphkfbaaGreatRRd
import Derived.Test.YtjgnomjjphkfbaaGreatRMay
import Derived.Test.YtjgnomjjphkfbaaGreatREq
import Derived.Test.YtjgnomjjphkfbaaGreatRRdLx
import Derived.Test.YtjgnomjjphkfbaaGreatRREnc
namespace Go.Proofs.YtjgnomjjphkfbaaGreat
open Go.RowKit

set_option maxRecDepth 20000 in
set_option maxHeartbeats 1000000 in
theorem rnum_any (s : ByteArray) (w : World) (hs : s.size ≤ 1073741824) :
    Calls Tryz.prog 102 #[.string s] w fun e w' => e = .returned (rdV (Wr.rd (L s))) ∧ w' = w := by
  have hsI : (s.size : Int) ≤ 1073741824 := by omega
  have HS := Lib.hid hs
  clear hs
  go_enter Tryz.func102, Tryz.ntmps102
  go_wp2_with fail
  go_loop [5, 6, 7] (fun vx vp vi => ∃ i x p : Nat, i ≤ s.size ∧ i ≤ 9 ∧ vi = .int .i64 i ∧ vx = .int .u64 x ∧ vp = .int .u64 p ∧ p = 128 ^ i ∧ x < p ∧ Wr.rd (L s) = Wr.rdG ((L s).drop i) i x) (fun _ _ vi => s.size - (intOf vi).toNat)
  case atStart => exact ⟨0, 0, 1, Nat.zero_le _, by decide, rfl, rfl, rfl, rfl, by decide, rfl⟩
  case round =>
    obtain ⟨i, x, p, hi, hi10, rfl, rfl, rfl, hp, hx, hr⟩ := hrel
    have hp63 := Wr.pow128 i hi10
    rw [← hp] at hp63
    have HP := Lib.hid hp
    by_cases hlt : i < s.size
    · have hiI : (0 : Int) ≤ i ∧ (i : Int) < s.size := by omega
      have hget := L_get s i hlt
      have hdr : (L s).drop i = s[i] :: (L s).drop (i + 1) := by
        rw [List.drop_eq_getElem_cons (by rw [L_size]; exact hlt), hget]
      rw [hdr] at hr
      have hc255 := s[i].toNat_lt
      rw [Wr.rdG, ← hp] at hr
      have hsv : ∃ v, s[i].toNat = v := ⟨_, rfl⟩
      obtain ⟨v, hv⟩ := hsv
      rw [hv] at hr hc255
      have hvI : (0 : Int) ≤ v ∧ (v : Int) ≤ 255 := by omega
      have hvw : IntKind.u64.wrap (v : Int) = v := IntWalk.u64_in _ (by omega)
      have htm : (v : Int).tmod 128 = (v : Int) % 128 := Int.tmod_eq_emod_of_nonneg (by omega)
      have hmul : (v % 128) * p ≤ 127 * p := Nat.mul_le_mul_right _ (by omega)
      have hcast : ((v : Int) % 128) * (p : Int) = ((v % 128 * p : Nat) : Int) := by push_cast; rfl
      have hadd : IntKind.u64.wrap ((x : Int) + IntKind.u64.wrap ((v : Int) % 128 * p)) = (((x + v % 128 * p) % 18446744073709551616 : Nat) : Int) := by
        rw [IntKind.wrap_u64, IntKind.wrap_u64, hcast]; omega
      clear hdr hget hcast hp
      by_cases h1 : i = 9 ∧ 1 < v
      · obtain ⟨rfl, h1⟩ := h1
        rw [if_pos (.inl ⟨rfl, h1⟩)] at hr
        have HR := Lib.hid hr
        have hg : (1 : Int) < v := by omega
        clear hr hadd hmul h1
        go_wp2_with fail
        refine bodyPost_ret (v := .tuple #[.int .u64 (0), .int .i64 (0), .int .i64 7]) (by simp [results, Tryz.results102, go_sem]) rfl ⟨by rw [HR.out]; rfl, rfl⟩
      · by_cases h2 : 0 < i ∧ v = 0
        · obtain ⟨h2, rfl⟩ := h2
          rw [if_pos (.inr ⟨h2, rfl⟩)] at hr
          have HR := Lib.hid hr
          have h2I : (0 : Int) < i := by omega
          clear hr hadd hmul h1
          go_wp2_with fail
          refine bodyPost_ret (v := .tuple #[.int .u64 (0), .int .i64 (0), .int .i64 7]) (by simp [results, Tryz.results102, go_sem]) rfl ⟨by rw [HR.out]; rfl, rfl⟩
        · rw [if_neg (by omega)] at hr
          have HR := Lib.hid hr
          have hbad1 : i = 0 ∨ (0 : Int) < i ∧ ((v : Int) == 0) = false := by
            by_cases h0 : 0 < i
            · right; exact ⟨by omega, by rw [beq_eq_false_iff_ne]; omega⟩
            · left; omega
          have HN9 : Hid (¬ v < 128 → i < 9) := Lib.hid (by intro h; omega)
          have HRX : Hid ((x + v % 128 * p) % 18446744073709551616 < p * 128) := Lib.hid (by
            refine Nat.lt_of_le_of_lt (Nat.mod_le _ _) ?_; omega)
          by_cases h9 : i = 9
          · subst h9
            have hv1 : (v : Int) ≤ 1 := by omega
            have b1 : ((v : Int) == 0) = false := by rw [beq_eq_false_iff_ne]; omega
            have b2 : decide ((1 : Int) < v) = false := by rw [decide_eq_false_iff_not]; omega
            rw [if_pos (by omega)] at HR
            clear hbad1 h1 h2 hr hx hmul HN9
            go_wp2_with fail
            refine bodyPost_ret (v := rdV (Wr.rd (L s))) (by rw [HR.out]; simp [results, Tryz.results102, go_sem, rdV, Wr.M64]) rfl ⟨rfl, rfl⟩
          · have b2 : ((i : Int) == 9) = false := by rw [beq_eq_false_iff_ne]; omega
            clear h1 h2 hr hx hmul h9
            by_cases h128 : v < 128
            · rw [if_pos h128] at HR
              have h128I : (v : Int) < 128 := by omega
              clear h128 HN9
              rcases hbad1 with rfl | ⟨h0I, b1⟩
              all_goals
                go_wp2_with fail
                refine bodyPost_ret (v := rdV (Wr.rd (L s))) (by rw [HR.out]; simp [results, Tryz.results102, go_sem, rdV, Wr.M64]) rfl ⟨rfl, rfl⟩
            · rw [if_neg h128] at HR
              have h128I : (128 : Int) ≤ v := by omega
              have h9 := HN9.out h128
              have hpn := Wr.pow128 (i + 1) (by omega)
              rw [Nat.pow_succ, ← HP.out] at hpn
              have hpw : IntKind.u64.wrap ((p : Int) * 128) = ((p * 128 : Nat) : Int) := by rw [IntKind.wrap_u64]; push_cast; omega
              clear h128 hp63
              rcases hbad1 with rfl | ⟨h0I, b1⟩
              all_goals
                go_wp2_with fail
                go_round
                case rel => first | exact ⟨i + 1, (x + v % 128 * p) % 18446744073709551616, p * 128, by omega, by omega, by go_num, by first | rfl | rw [hadd], by first | rfl | rw [hpw], by rw [Nat.pow_succ, ← HP.out], HRX.out, HR.out⟩ | exact ⟨0 + 1, (x + v % 128 * p) % 18446744073709551616, p * 128, by omega, by omega, by go_num, by first | rfl | rw [hadd], by first | rfl | rw [hpw], by rw [Nat.pow_succ, ← HP.out], HRX.out, HR.out⟩
                case measure => simp [intOf]; omega
    · obtain rfl : i = s.size := by omega
      have hd : (L s).drop s.size = [] := List.drop_of_length_le (by rw [L_size]; exact Nat.le_refl _)
      rw [hd] at hr
      have HR := Lib.hid (show Wr.rd (L s) = (0, 0, 6) from hr)
      clear hr hd hx
      go_wp2_with fail
      refine bodyPost_ret (v := rdV (Wr.rd (L s))) (by rw [HR.out]; simp [results, Tryz.results102, go_sem, rdV]) rfl ⟨rfl, rfl⟩
end Go.Proofs.YtjgnomjjphkfbaaGreat

namespace Go.Proofs.YtjgnomjjphkfbaaGreat
open Go.RowKit

/-- The reader at block rb: what is left to be read; none: a fault. -/
def RfSt (w : World) (rb : Nat) (st : Option (List UInt8)) : Prop :=
  ∃ (s : ByteArray) (e : Nat), w.heap[rb]? = some (.cells #[.string s, .int .i64 e] 101 (0, 0)) ∧ s.size ≤ 1073741824 ∧ e ≤ 100 ∧ ((st = some (L s) ∧ e = 0) ∨ (st = none ∧ e ≠ 0))
theorem RfSt.keep {w w' : World} {rb : Nat} {st : Option (List UInt8)} (h : RfSt w rb st) (hb : w'.heap[rb]? = w.heap[rb]?) : RfSt w' rb st := by
  obtain ⟨s, e, h1, h2⟩ := h
  exact ⟨s, e, hb.trans h1, h2⟩
theorem RfSt.lt {w : World} {rb : Nat} {st : Option (List UInt8)} (h : RfSt w rb st) : rb < w.heap.size := by
  obtain ⟨s, e, h1, h2⟩ := h
  exact blk_lt h1
/-- The fault's cell. -/
theorem RfSt.err {w : World} {rb : Nat} {st : Option (List UInt8)} (h : RfSt w rb st) : ∃ e : Nat, w.cell? ⟨rb, 1, none⟩ = some (.int .i64 e) ∧ ((e : Int) == 0) = st.isSome := by
  obtain ⟨s, e, h1, _, _, ⟨rfl, rfl⟩ | ⟨rfl, he⟩⟩ := h
  · exact ⟨0, by rw [cell_of_row _ _ _ _ _ _ h1]; rfl, rfl⟩
  · exact ⟨e, by rw [cell_of_row _ _ _ _ _ _ h1]; rfl, beq_eq_false_iff_ne.2 (by omega)⟩

set_option maxRecDepth 20000 in
set_option maxHeartbeats 4000000 in
theorem gnum (w : World) (rb : Nat) (s : ByteArray) (e : Nat) (h : w.heap[rb]? = some (.cells #[.string s, .int .i64 e] 101 (0, 0))) (hs : s.size ≤ 1073741824) (he : e ≤ 100) :
    Calls Tryz.prog 78 #[.pointer (some ⟨rb, 0, none⟩)] w fun v w' =>
      (∃ x n : Nat, v = .returned (.tuple #[.int .u64 x, .int .i64 n, .bool true]) ∧ e = 0 ∧ Wr.rd (L s) = (x, n, 0) ∧ n ≤ s.size ∧ x < 18446744073709551616 ∧ w' = w) ∨
      (∃ e' : Nat, v = .returned (.tuple #[.int .u64 0, .int .i64 0, .bool false]) ∧ e' ≠ 0 ∧ e' ≤ 100 ∧ (e ≠ 0 ∨ (Wr.rd (L s)).2.2 ≠ 0) ∧ w'.heap[rb]? = some (.cells #[.string s, .int .i64 e'] 101 (0, 0)) ∧ Upd w w' [rb]) := by
  have H := Lib.hid h
  have c0 : w.cell? ⟨rb, 0, none⟩ = some (.string s) := by rw [cell_of_row _ _ _ _ _ _ h]; rfl
  have c1 : w.cell? ⟨rb, 1, none⟩ = some (.int .i64 e) := by rw [cell_of_row _ _ _ _ _ _ h]; rfl
  have f1 : w.frozen? ⟨rb, 1, none⟩ = false := frozen_of_row w rb 1 _ _ h
  have hlt := blk_lt h
  have heI : (0 : Int) ≤ e ∧ (e : Int) ≤ 100 := by omega
  have HN := Lib.hid (rnum_any s w hs)
  have HHE := Lib.hid he
  clear h hs he
  by_cases hz : e = 0
  · subst hz
    obtain ⟨x, n, er, hr, hc⟩ := rd_cases s
    have HR := Lib.hid hr
    have HC := Lib.hid hc
    clear hr
    go_enter Tryz.func78, Tryz.ntmps78
    go_wp2_with fail
    refine HN.out.mono ?_
    rintro v w' ⟨rfl, rfl⟩
    rw [HR.out]
    unfold rdV
    rcases hc with ⟨rfl, h1, h2, _, h4, _⟩ | ⟨rfl, rfl, h3⟩
    · go_wp2_with fail
      exact bodyPost_ret (v := .tuple #[.int .u64 x, .int .i64 n, .bool true]) (by simp [results, Tryz.results78, go_sem]) rfl (.inl ⟨x, n, rfl, (by first | rfl | trivial), HR.out, h2, h4, rfl⟩)
    · have hne : ((er : Int) != 0) = true := by rw [bne_iff_ne]; omega
      have herI : (6 : Int) ≤ er ∧ (er : Int) ≤ 7 := by omega
      have HH3 := Lib.hid h3
      clear h3
      go_wp2_with fail
      exact bodyPost_ret (v := .tuple #[.int .u64 0, .int .i64 0, .bool false]) (by simp [results, Tryz.results78, go_sem]) rfl (.inr ⟨er, rfl, by have := HH3.out; omega, by have := HH3.out; omega, .inr (by rw [HR.out]; have := HH3.out; show er ≠ 0; omega), by rw [heap_set _ H.out]; rfl, (Upd.refl _ _).setCell (.inl (by simp)) _⟩)
  · have hne : ((e : Int) != 0) = true := by rw [bne_iff_ne]; omega
    have HZ := Lib.hid hz
    clear hz
    go_enter Tryz.func78, Tryz.ntmps78
    go_wp2_with fail
    exact bodyPost_ret (v := .tuple #[.int .u64 0, .int .i64 0, .bool false]) (by simp [results, Tryz.results78, go_sem]) rfl (.inr ⟨e, rfl, HZ.out, HHE.out, .inl HZ.out, H.out, Upd.refl _ _⟩)

set_option maxRecDepth 20000 in
set_option maxHeartbeats 4000000 in
theorem guint (w : World) (rb : Nat) (st : Option (List UInt8)) (most : Nat) (hm : most < 18446744073709551616) (h : RfSt w rb st) :
    Calls Tryz.prog 44 #[.pointer (some ⟨rb, 0, none⟩), .int .u64 most] w fun e w' => ∃ (x : Nat) (st' : Option (List UInt8)), e = .returned (.int .u64 x) ∧ x ≤ most ∧ Step (Mg.num most).dec st x st' ∧ RfSt w' rb st' ∧ Upd w w' [rb] := by
  obtain ⟨s, e, h1, hs, he, hst⟩ := h
  have HG := Lib.hid (gnum w rb s e h1 hs he)
  have HH1 := Lib.hid h1
  have HHS := Lib.hid hs
  have HST := Lib.hid hst
  have hmI : (0 : Int) ≤ most ∧ (most : Int) < 18446744073709551616 := by omega
  have c0 : w.cell? ⟨rb, 0, none⟩ = some (.string s) := by rw [cell_of_row _ _ _ _ _ _ h1]; rfl
  have c1 : w.cell? ⟨rb, 1, none⟩ = some (.int .i64 e) := by rw [cell_of_row _ _ _ _ _ _ h1]; rfl
  have f0 : w.frozen? ⟨rb, 0, none⟩ = false := frozen_of_row w rb 0 _ _ h1
  have f1 : w.frozen? ⟨rb, 1, none⟩ = false := frozen_of_row w rb 1 _ _ h1
  have hlt := blk_lt h1
  have hsI : (0 : Int) ≤ s.size ∧ (s.size : Int) ≤ 1073741824 := by omega
  clear h1 hs hst he hm
  go_enter Tryz.func44, Tryz.ntmps44
  go_wp2_with fail
  refine HG.out.mono ?_
  rintro v w' (⟨x, n, rfl, rfl, hr, hn, hx, rfl⟩ | ⟨e', rfl, hne, hle, hbad, hb, hu⟩)
  · have HRD := Lib.hid hr
    have hnI : (0 : Int) ≤ n ∧ (n : Int) ≤ s.size := by omega
    have hxI : (0 : Int) ≤ x ∧ (x : Int) < 18446744073709551616 := by omega
    have hso : st = some (L s) := by
      rcases HST.out with ⟨h, _⟩ | ⟨_, h⟩
      · exact h
      · exact absurd rfl h
    have HSO := Lib.hid hso
    clear hr hso HG
    by_cases hgt : (most : Int) < x
    · go_wp2_with fail
      exact bodyPost_ret (v := .int .u64 0) (by simp [results, Tryz.results44, go_sem]) rfl (⟨0, none, rfl, Nat.zero_le _, by rw [HSO.out]; exact Step.bad (by simp only [Mg.num, HRD.out]; rw [if_neg (by omega)]), ⟨s, 80, by rw [heap_set _ HH1.out]; rfl, HHS.out, by decide, .inr ⟨rfl, by decide⟩⟩, (Upd.refl _ _).setCell (.inl (by simp)) _⟩)
    · have hds : (s.extract n s.size).size ≤ 1073741824 := Nat.le_trans (from_size _ _) HHS.out
      go_wp2_with fail
      exact bodyPost_ret (v := .int .u64 x) (by simp [results, Tryz.results44, go_sem]) rfl (⟨x, some ((L s).drop n), rfl, by omega, by rw [HSO.out]; exact Step.ok (by simp only [Mg.num, HRD.out]; rw [if_pos ⟨True.intro, by omega⟩]), ⟨s.extract n s.size, 0, by rw [heap_set _ HH1.out]; rfl, hds, by decide, .inl ⟨by rw [L_from], rfl⟩⟩, (Upd.refl _ _).setCell (.inl (by simp)) _⟩)
  · have HB := Lib.hid hb
    have HU := Lib.hid hu
    have hstep : Step (Mg.num most).dec st 0 none := by
      rcases HST.out with ⟨h, h0⟩ | ⟨h, h0⟩
      · rw [h]
        refine Step.bad ?_
        have hq : (Wr.rd (L s)).2.2 ≠ 0 := by
          rcases hbad with h | h
          · exact absurd h0 h
          · exact h
        simp only [Mg.num]
        rw [if_neg (fun h => hq h.1)]
      · rw [h]; exact Step.fault _
    have HSP := Lib.hid hstep
    clear hb hu hstep hbad HG c0 c1 f0 f1
    go_wp2_with fail
    exact bodyPost_ret (v := .int .u64 0) (by simp [results, Tryz.results44, go_sem]) rfl (⟨0, none, rfl, Nat.zero_le _, HSP.out, ⟨s, e', HB.out, HHS.out, hle, .inr ⟨rfl, hne⟩⟩, HU.out⟩)

set_option maxRecDepth 20000 in
set_option maxHeartbeats 4000000 in
theorem gcount (w : World) (rb : Nat) (st : Option (List UInt8)) (most : Nat) (hm : most ≤ 1073741824) (h : RfSt w rb st) :
    Calls Tryz.prog 45 #[.pointer (some ⟨rb, 0, none⟩), .int .i64 most] w fun e w' => ∃ (x : Nat) (st' : Option (List UInt8)), e = .returned (.int .i64 x) ∧ x ≤ most ∧ (st' = none → x = 0) ∧ Step (Mg.cnt most) st x st' ∧ (∀ r, st' = some r → x ≤ r.length) ∧ (st' = none → ∀ s, st = some s → ∃ (t : ByteArray) (e : Nat), L t = s ∧ e ≠ 0 ∧ w'.heap[rb]? = some (.cells #[.string t, .int .i64 e] 101 (0, 0))) ∧ RfSt w' rb st' ∧ Upd w w' [rb] := by
  obtain ⟨s, e, h1, hs, he, hst⟩ := h
  have HG := Lib.hid (gnum w rb s e h1 hs he)
  have HH1 := Lib.hid h1
  have HHS := Lib.hid hs
  have HST := Lib.hid hst
  have hmI : (0 : Int) ≤ most ∧ (most : Int) ≤ 1073741824 := by omega
  have hmw : ¬ (most : Int) < 0 := by omega
  have c0 : w.cell? ⟨rb, 0, none⟩ = some (.string s) := by rw [cell_of_row _ _ _ _ _ _ h1]; rfl
  have c1 : w.cell? ⟨rb, 1, none⟩ = some (.int .i64 e) := by rw [cell_of_row _ _ _ _ _ _ h1]; rfl
  have f0 : w.frozen? ⟨rb, 0, none⟩ = false := frozen_of_row w rb 0 _ _ h1
  have f1 : w.frozen? ⟨rb, 1, none⟩ = false := frozen_of_row w rb 1 _ _ h1
  have hlt := blk_lt h1
  have hsI : (0 : Int) ≤ s.size ∧ (s.size : Int) ≤ 1073741824 := by omega
  clear h1 hs hst he hm
  go_enter Tryz.func45, Tryz.ntmps45
  go_wp2_with fail
  refine HG.out.mono ?_
  rintro v w' (⟨x, n, rfl, rfl, hr, hn, hx, rfl⟩ | ⟨e', rfl, hne, hle, hbad, hb, hu⟩)
  · have HRD := Lib.hid hr
    have hnI : (0 : Int) ≤ n ∧ (n : Int) ≤ s.size := by omega
    have hxI : (0 : Int) ≤ x ∧ (x : Int) < 18446744073709551616 := by omega
    have hso : st = some (L s) := by
      rcases HST.out with ⟨h, _⟩ | ⟨_, h⟩
      · exact h
      · exact absurd rfl h
    have HSO := Lib.hid hso
    have hlen : ((L s).drop n).length = s.size - n := by rw [List.length_drop, L_size]
    have HLN := Lib.hid hlen
    clear hr hso HG hlen
    have hq : ∀ e' : Nat, e' ≠ 0 → ∀ (v : World), v.heap[rb]? = some (.cells #[.string s, .int .i64 e'] 101 (0, 0)) → ∀ s', st = some s' → ∃ (t : ByteArray) (e : Nat), L t = s' ∧ e ≠ 0 ∧ v.heap[rb]? = some (.cells #[.string t, .int .i64 e] 101 (0, 0)) := fun e' he' v hv s' hs' => ⟨s, e', by rw [HSO.out] at hs'; exact Option.some.inj hs', he', hv⟩
    have HQ := Lib.hid hq
    clear hq
    by_cases hgt : (most : Int) < x
    · have hst5 : (w'.setCell ⟨rb, 1, none⟩ (.int .i64 5)).heap[rb]? = some (.cells #[.string s, .int .i64 (5 : Nat)] 101 (0, 0)) := by rw [heap_set _ HH1.out]; rfl
      have HS5 := Lib.hid hst5
      clear hst5
      go_wp2_with fail
      exact bodyPost_ret (v := .int .i64 0) (by simp [results, Tryz.results45, go_sem]) rfl (⟨0, none, rfl, Nat.zero_le _, fun _ => rfl, by rw [HSO.out]; exact Step.bad (by unfold Mg.cnt; simp only [Mg.num, HRD.out]; rw [if_neg (by omega)]), fun r h => (by cases h), fun _ => HQ.out 5 (by decide) _ HS5.out, ⟨s, 5, HS5.out, HHS.out, by decide, .inr ⟨rfl, by decide⟩⟩, (Upd.refl _ _).setCell (.inl (by simp)) _⟩)
    · by_cases hlong : (s.size : Int) - n < x
      · have hst5 : (w'.setCell ⟨rb, 1, none⟩ (.int .i64 6)).heap[rb]? = some (.cells #[.string s, .int .i64 (6 : Nat)] 101 (0, 0)) := by rw [heap_set _ HH1.out]; rfl
        have HS5 := Lib.hid hst5
        clear hst5
        go_wp2_with fail
        exact bodyPost_ret (v := .int .i64 0) (by simp [results, Tryz.results45, go_sem]) rfl (⟨0, none, rfl, Nat.zero_le _, fun _ => rfl, by rw [HSO.out]; exact Step.bad (by unfold Mg.cnt; simp only [Mg.num, HRD.out]; rw [if_pos ⟨True.intro, by omega⟩]; simp only; rw [if_neg (by rw [HLN.out]; omega)]), fun r h => (by cases h), fun _ => HQ.out 6 (by decide) _ HS5.out, ⟨s, 6, HS5.out, HHS.out, by decide, .inr ⟨rfl, by decide⟩⟩, (Upd.refl _ _).setCell (.inl (by simp)) _⟩)
      · have hds : (s.extract n s.size).size ≤ 1073741824 := Nat.le_trans (from_size _ _) HHS.out
        go_wp2_with fail
        exact bodyPost_ret (v := .int .i64 x) (by simp [results, Tryz.results45, go_sem]) rfl (⟨x, some ((L s).drop n), rfl, by omega, fun h => (by cases h), by rw [HSO.out]; exact Step.ok (by unfold Mg.cnt; simp only [Mg.num, HRD.out]; rw [if_pos ⟨True.intro, by omega⟩]; simp only; rw [if_pos (by rw [HLN.out]; omega)]), fun r h => (by cases h; rw [HLN.out]; omega), fun h => (by cases h), ⟨s.extract n s.size, 0, by rw [heap_set _ HH1.out]; rfl, hds, by decide, .inl ⟨by rw [L_from], rfl⟩⟩, (Upd.refl _ _).setCell (.inl (by simp)) _⟩)
  · have HB := Lib.hid hb
    have HU := Lib.hid hu
    have hstep : Step (Mg.cnt most) st 0 none ∧ (∀ s', st = some s' → L s = s') := by
      rcases HST.out with ⟨h, h0⟩ | ⟨h, h0⟩
      · refine ⟨?_, fun s' h2 => (by rw [h] at h2; exact Option.some.inj h2)⟩
        rw [h]
        refine Step.bad ?_
        have hq : (Wr.rd (L s)).2.2 ≠ 0 := by
          rcases hbad with h | h
          · exact absurd h0 h
          · exact h
        unfold Mg.cnt
        simp only [Mg.num]
        rw [if_neg (fun h => hq h.1)]
      · exact ⟨by rw [h]; exact Step.fault _, fun s' h2 => (by rw [h] at h2; cases h2)⟩
    have HSP := Lib.hid hstep
    clear hb hu hstep hbad HG c0 c1 f0 f1
    go_wp2_with fail
    exact bodyPost_ret (v := .int .i64 0) (by simp [results, Tryz.results45, go_sem]) rfl (⟨0, none, rfl, Nat.zero_le _, fun _ => rfl, HSP.out.1, fun r h => (by cases h), fun _ s' h => ⟨s, e', HSP.out.2 s' h, hne, HB.out⟩, ⟨s, e', HB.out, HHS.out, hle, .inr ⟨rfl, hne⟩⟩, HU.out⟩)

end Go.Proofs.YtjgnomjjphkfbaaGreat

namespace Go.Proofs.YtjgnomjjphkfbaaGreat
open Go.RowKit

theorem text_of_cnt {most x : Nat} {s r : List UInt8} (h : Mg.cnt most s = some (x, r)) : (Mg.text most).dec s = some (⟨(r.take x).toArray⟩, r.drop x) := by
  unfold Mg.cnt at h
  simp only [Mg.text]
  cases hd : (Mg.num most).dec s with
  | none => rw [hd] at h; cases h
  | some p =>
    obtain ⟨y, q⟩ := p
    rw [hd] at h
    simp only at h ⊢
    split at h
    · rename_i hc
      cases h
      rw [if_pos hc]
    · cases h
theorem text_of_none {most : Nat} {s : List UInt8} (h : Mg.cnt most s = none) : (Mg.text most).dec s = none := by
  unfold Mg.cnt at h
  simp only [Mg.text]
  cases hd : (Mg.num most).dec s with
  | none => rfl
  | some p =>
    obtain ⟨y, q⟩ := p
    rw [hd] at h
    simp only at h ⊢
    split at h
    · cases h
    · rename_i hc
      rw [if_neg hc]

set_option maxRecDepth 20000 in
set_option maxHeartbeats 4000000 in
theorem gtext (w : World) (rb : Nat) (st : Option (List UInt8)) (most : Nat) (hm : most ≤ 1073741824) (h : RfSt w rb st) :
    Calls Tryz.prog 79 #[.pointer (some ⟨rb, 0, none⟩), .int .i64 most] w fun e w' => ∃ (x : ByteArray) (st' : Option (List UInt8)), e = .returned (.string x) ∧ x.size ≤ most ∧ Step (Mg.text most).dec st x st' ∧ RfSt w' rb st' ∧ Upd w w' [rb] := by
  have HC := Lib.hid (gcount w rb st most hm h)
  obtain ⟨s, e, h1, hs, he, hst⟩ := h
  have c0 : w.cell? ⟨rb, 0, none⟩ = some (.string s) := by rw [cell_of_row _ _ _ _ _ _ h1]; rfl
  have hsI : (0 : Int) ≤ s.size ∧ (s.size : Int) ≤ 1073741824 := by omega
  have HHS := Lib.hid hs
  clear h1 hs he hst hm
  go_enter Tryz.func79, Tryz.ntmps79
  go_wp2_with fail
  refine HC.out.mono ?_
  rintro v w1 ⟨n, st1, rfl, hn, hn0, hstep, hlen, _, hrf, hu⟩
  clear HC c0
  obtain ⟨s1, e1, k1, ks, ke, kst⟩ := hrf
  have d0 : w1.cell? ⟨rb, 0, none⟩ = some (.string s1) := by rw [cell_of_row _ _ _ _ _ _ k1]; rfl
  have d1 : w1.cell? ⟨rb, 1, none⟩ = some (.int .i64 e1) := by rw [cell_of_row _ _ _ _ _ _ k1]; rfl
  have f0 : w1.frozen? ⟨rb, 0, none⟩ = false := frozen_of_row w1 rb 0 _ _ k1
  have hlt := blk_lt k1
  have HK := Lib.hid k1
  have HU := Lib.hid hu
  have HN := Lib.hid hn
  have HSTEP := Lib.hid hstep
  have HKS := Lib.hid ks
  have HKE := Lib.hid ke
  have hsI1 : (0 : Int) ≤ s1.size ∧ (s1.size : Int) ≤ 1073741824 := by omega
  clear k1 hu hn hstep ks ke hn0
  rcases kst with ⟨rfl, rfl⟩ | ⟨rfl, hz⟩
  · have hnl := hlen _ rfl
    rw [L_size] at hnl
    have hnI : (0 : Int) ≤ n ∧ (n : Int) ≤ s1.size := by omega
    have HNL := Lib.hid hnl
    have ht : (s1.extract 0 n).size ≤ most := by
      rw [← L_size, L_extract, List.length_take]
      have := HN.out
      omega
    have HT := Lib.hid ht
    have hds : (s1.extract n s1.size).size ≤ 1073741824 := Nat.le_trans (from_size _ _) HKS.out
    have HDS := Lib.hid hds
    have hsp : Step (Mg.text most).dec st (s1.extract 0 n) (some (L (s1.extract n s1.size))) := by
      obtain ⟨r, e, hd⟩ := HSTEP.out.got
      rw [e]
      refine Step.ok ?_
      rw [text_of_cnt hd, L_from]
      congr 2
      apply Mg.L_inj
      rw [L_extract]
    have HSP := Lib.hid hsp
    clear hlen hnl ht hds hsp
    go_wp2_with fail
    exact bodyPost_ret (v := .string (s1.extract 0 n)) (by simp [results, Tryz.results79, go_sem]) rfl (⟨s1.extract 0 n, _, rfl, HT.out, HSP.out, ⟨s1.extract n s1.size, 0, by rw [heap_set _ HK.out]; rfl, HDS.out, by decide, .inl ⟨rfl, rfl⟩⟩, HU.out.setCell (.inl (by simp)) _⟩)
  · have hne : ((e1 : Int) != 0) = true := by rw [bne_iff_ne]; omega
    have HZ := Lib.hid hz
    have hsp : Step (Mg.text most).dec st ⟨#[]⟩ none := by
      cases st with
      | none => exact Step.fault _
      | some r => exact Step.bad (text_of_none HSTEP.out.fails)
    have HSP := Lib.hid hsp
    clear hlen hz hsp
    go_wp2_with fail
    exact bodyPost_ret (v := .string ⟨#[]⟩) (by simp [results, Tryz.results79, go_sem]) rfl (⟨⟨#[]⟩, none, rfl, Nat.zero_le _, HSP.out, ⟨s, e1, by rw [heap_set _ HK.out]; rfl, HHS.out, HKE.out, .inr ⟨rfl, HZ.out⟩⟩, HU.out.setCell (.inl (by simp)) _⟩)

set_option maxRecDepth 20000 in
set_option maxHeartbeats 4000000 in
theorem gbool (w : World) (rb : Nat) (st : Option (List UInt8)) (h : RfSt w rb st) :
    Calls Tryz.prog 49 #[.pointer (some ⟨rb, 0, none⟩)] w fun e w' => ∃ (x : Bool) (st' : Option (List UInt8)), e = .returned (.bool x) ∧ Step Mg.truth.dec st x st' ∧ RfSt w' rb st' ∧ Upd w w' [rb] := by
  obtain ⟨s, e, h1, hs, he, hst⟩ := h
  have c0 : w.cell? ⟨rb, 0, none⟩ = some (.string s) := by rw [cell_of_row _ _ _ _ _ _ h1]; rfl
  have c1 : w.cell? ⟨rb, 1, none⟩ = some (.int .i64 e) := by rw [cell_of_row _ _ _ _ _ _ h1]; rfl
  have f0 : w.frozen? ⟨rb, 0, none⟩ = false := frozen_of_row w rb 0 _ _ h1
  have f1 : w.frozen? ⟨rb, 1, none⟩ = false := frozen_of_row w rb 1 _ _ h1
  have hlt := blk_lt h1
  have hsI : (0 : Int) ≤ s.size ∧ (s.size : Int) ≤ 1073741824 := by omega
  have HH1 := Lib.hid h1
  have HHS := Lib.hid hs
  have HHE := Lib.hid he
  clear h1 hs he
  rcases hst with ⟨rfl, rfl⟩ | ⟨rfl, hz⟩
  · by_cases h0 : s.size = 0
    · have hl : L s = [] := List.eq_nil_of_length_eq_zero (by rw [L_size]; exact h0)
      have HSP : Hid (Step Mg.truth.dec (some (L s)) false none) := Lib.hid (Step.bad (by rw [hl]; rfl))
      have h0I : ((s.size : Int) == 0) = true := by rw [h0]; rfl
      clear h0 hl
      go_enter Tryz.func49, Tryz.ntmps49
      go_wp2_with fail
      exact bodyPost_ret (v := .bool false) (by simp [results, Tryz.results49, go_sem]) rfl (⟨false, none, rfl, HSP.out, ⟨s, 6, by rw [heap_set _ HH1.out]; rfl, HHS.out, by decide, .inr ⟨rfl, by decide⟩⟩, (Upd.refl _ _).setCell (.inl (by simp)) _⟩)
    · have hpos : 0 < s.size := by omega
      have h0I : ((s.size : Int) == 0) = false := beq_eq_false_iff_ne.2 (by omega)
      have hpI : (0 : Int) < s.size := by omega
      have hl : L s = s[0] :: (L s).drop 1 := by
        have := List.drop_eq_getElem_cons (l := L s) (i := 0) (by rw [L_size]; exact hpos)
        rw [List.drop_zero, L_get s 0 hpos] at this
        exact this
      have HL := Lib.hid hl
      have hcI : (0 : Int) ≤ s[0].toNat ∧ (s[0].toNat : Int) < 256 := by have := s[0].toNat_lt; omega
      by_cases hbig : (1 : Int) < s[0].toNat
      · have HSP : Hid (Step Mg.truth.dec (some (L s)) false none) := Lib.hid (Step.bad (by rw [HL.out]; simp only [Mg.truth]; rw [if_neg (by omega)]))
        clear h0 hl
        go_enter Tryz.func49, Tryz.ntmps49
        go_wp2_with fail
        exact bodyPost_ret (v := .bool false) (by simp [results, Tryz.results49, go_sem]) rfl (⟨false, none, rfl, HSP.out, ⟨s, 7, by rw [heap_set _ HH1.out]; rfl, HHS.out, by decide, .inr ⟨rfl, by decide⟩⟩, (Upd.refl _ _).setCell (.inl (by simp)) _⟩)
      · have hds : (s.extract 1 s.size).size ≤ 1073741824 := Nat.le_trans (from_size _ _) HHS.out
        have HDS := Lib.hid hds
        have HSP : Hid (Step Mg.truth.dec (some (L s)) (decide (s[0] = 1)) (some (L (s.extract 1 s.size)))) := Lib.hid (Step.ok (by
          rw [L_from]
          have e : Mg.truth.dec (s[0] :: (L s).drop 1) = some (decide (s[0] = 1), (L s).drop 1) := by
            simp only [Mg.truth]
            rw [if_pos (by omega)]
          rw [← HL.out] at e
          exact e))
        have hcc : ((s[0].toNat : Int) == 1) = decide (s[0] = 1) := by
          by_cases h : s[0] = 1
          · rw [h]; rfl
          · rw [decide_eq_false h]
            exact beq_eq_false_iff_ne.2 (fun h2 => h (by
              apply UInt8.toNat_inj.1
              have : s[0].toNat = 1 := by omega
              rw [this]; rfl))
        obtain ⟨bc, hbc⟩ : ∃ b, b = decide (s[0] = 1) := ⟨_, rfl⟩
        rw [← hbc] at hcc
        have HBC := Lib.hid hbc
        clear h0 hl hds hbc
        have HFIN : Hid (∃ st', Step Mg.truth.dec (some (L s)) bc st' ∧ RfSt (w.setCell ⟨rb, 0, none⟩ (.string (s.extract 1 s.size))) rb st' ∧ Upd w (w.setCell ⟨rb, 0, none⟩ (.string (s.extract 1 s.size))) [rb]) := Lib.hid ⟨_, by rw [HBC.out]; exact HSP.out, ⟨s.extract 1 s.size, 0, by rw [heap_set _ HH1.out]; rfl, HDS.out, by decide, .inl ⟨rfl, rfl⟩⟩, (Upd.refl _ _).setCell (.inl (by simp)) _⟩
        cases bc with
        | false =>
          go_enter Tryz.func49, Tryz.ntmps49
          go_wp2_with fail
          exact bodyPost_ret (v := .bool false) (by simp [results, Tryz.results49, go_sem]) rfl (by
            obtain ⟨st', h1, h2, h3⟩ := HFIN.out
            first
            | exact ⟨false, st', rfl, h1, h2, h3⟩
            | exact .inl ⟨rfl, st', h1, h2, h3⟩)
        | true =>
          go_enter Tryz.func49, Tryz.ntmps49
          go_wp2_with fail
          exact bodyPost_ret (v := .bool true) (by simp [results, Tryz.results49, go_sem]) rfl (by
            obtain ⟨st', h1, h2, h3⟩ := HFIN.out
            first
            | exact ⟨true, st', rfl, h1, h2, h3⟩
            | exact .inr ⟨rfl, st', h1, h2, h3⟩)
  · have hne : ((e : Int) != 0) = true := by rw [bne_iff_ne]; omega
    have HZ := Lib.hid hz
    clear hz
    go_enter Tryz.func49, Tryz.ntmps49
    go_wp2_with fail
    exact bodyPost_ret (v := .bool false) (by simp [results, Tryz.results49, go_sem]) rfl (⟨false, none, rfl, Step.fault _, ⟨s, e, HH1.out, HHS.out, HHE.out, .inr ⟨rfl, HZ.out⟩⟩, Upd.refl _ _⟩)

set_option maxRecDepth 20000 in
set_option maxHeartbeats 4000000 in
theorem gend (w : World) (rb : Nat) (st : Option (List UInt8)) (h : RfSt w rb st) :
    Calls Tryz.prog 51 #[.pointer (some ⟨rb, 0, none⟩)] w fun v w' => ∃ e : Nat, v = .returned (.int .i64 e) ∧ ((e : Int) != 0) = !decide (st = some []) ∧ Upd w w' [rb] := by
  obtain ⟨s, e, h1, hs, he, hst⟩ := h
  have c0 : w.cell? ⟨rb, 0, none⟩ = some (.string s) := by rw [cell_of_row _ _ _ _ _ _ h1]; rfl
  have c1 : w.cell? ⟨rb, 1, none⟩ = some (.int .i64 e) := by rw [cell_of_row _ _ _ _ _ _ h1]; rfl
  have f1 : w.frozen? ⟨rb, 1, none⟩ = false := frozen_of_row w rb 1 _ _ h1
  have hlt := blk_lt h1
  have HH1 := Lib.hid h1
  clear h1 hs he
  rcases hst with ⟨rfl, rfl⟩ | ⟨rfl, hz⟩
  · by_cases h0 : s = ⟨#[]⟩
    · have HR : Hid ((((0 : Nat) : Int) != 0) = !decide ((some (L s)) = some [])) := Lib.hid (by rw [h0]; rfl)
      have hq : s.toList.isEmpty = true := by rw [h0, ByteArray.toList_eq]; rfl
      clear h0
      go_enter Tryz.func51, Tryz.ntmps51
      go_wp2_with fail
      exact bodyPost_ret (v := .int .i64 (0 : Nat)) (by simp [results, Tryz.results51, go_sem]) rfl (⟨0, rfl, HR.out, Upd.refl _ _⟩)
    · have HR : Hid ((((7 : Nat) : Int) != 0) = !decide ((some (L s)) = some [])) := Lib.hid (by
        rw [decide_eq_false (fun h => h0 (Mg.L_inj (Option.some.inj h)))]
        rfl)
      have hq : s.toList.isEmpty = false := by
        cases hz : s.toList with
        | nil => exact absurd (Mg.L_inj (show L s = L ⟨#[]⟩ by rw [ByteArray.toList_eq] at hz; exact hz)) h0
        | cons a l => rfl
      clear h0
      go_enter Tryz.func51, Tryz.ntmps51
      go_wp2_with fail
      exact bodyPost_ret (v := .int .i64 (7 : Nat)) (by simp [results, Tryz.results51, go_sem]) rfl (⟨7, rfl, HR.out, (Upd.refl _ _).setCell (.inl (by simp)) _⟩)
  · have hne : ((e : Int) == 0) = false := beq_eq_false_iff_ne.2 (by omega)
    have HR : Hid (((e : Int) != 0) = !decide ((none : Option (List UInt8)) = some [])) := Lib.hid (by rw [decide_eq_false (by simp)]; exact bne_iff_ne.2 (by omega))
    clear hz
    go_enter Tryz.func51, Tryz.ntmps51
    go_wp2_with fail
    exact bodyPost_ret (v := .int .i64 e) (by simp [results, Tryz.results51, go_sem]) rfl (⟨e, rfl, HR.out, Upd.refl _ _⟩)

end Go.Proofs.YtjgnomjjphkfbaaGreat

namespace Go.Proofs.YtjgnomjjphkfbaaGreat
open Go.RowKit

/-- The reading side at block gb, its reader at rb. -/
structure GtAt (gb rb : Nat) (st : Option (List UInt8)) (w : World) : Prop where
  blk : w.heap[gb]? = some (.cells #[.pointer (some ⟨rb, 0, none⟩)] 103 (0, 0))
  rd : RfSt w rb st
  ne : gb ≠ rb
section
variable {gb rb : Nat} {st st' : Option (List UInt8)} {w w' : World} {F : List Nat}
theorem GtAt.lts (h : GtAt gb rb st w) : gb < w.heap.size ∧ rb < w.heap.size := ⟨blk_lt h.blk, h.rd.lt⟩
theorem GtAt.cell (h : GtAt gb rb st w) : w.cell? ⟨gb, 0, none⟩ = some (.pointer (some ⟨rb, 0, none⟩)) := by rw [cell_of_row _ _ _ _ _ _ h.blk]; rfl
theorem GtAt.keep (h : GtAt gb rb st w) (hb : Below w.heap.size w w') : GtAt gb rb st w' := ⟨(hb.block _ h.lts.1).trans h.blk, h.rd.keep (hb.block _ h.lts.2), h.ne⟩
theorem GtAt.read (h : GtAt gb rb st w) (hr : RfSt w' rb st') (hu : Upd w w' [rb]) : GtAt gb rb st' w' := ⟨(hu.keep gb h.lts.1 (by simp; exact h.ne)).trans h.blk, hr, h.ne⟩
theorem GtAt.upd (h : GtAt gb rb st w) (hu : Upd w w' F) (hF : gb ∉ F ∧ rb ∉ F) : GtAt gb rb st w' := ⟨(hu.keep gb h.lts.1 hF.1).trans h.blk, h.rd.keep (hu.keep rb h.lts.2 hF.2), h.ne⟩
theorem GtAt.uint (h : GtAt gb rb st w) (most : Nat) (hm : most < 18446744073709551616) :
    Calls Tryz.prog 44 #[.pointer (some ⟨rb, 0, none⟩), .int .u64 most] w fun e w' => ∃ (x : Nat) (st' : Option (List UInt8)), e = .returned (.int .u64 x) ∧ x ≤ most ∧ Step (Mg.num most).dec st x st' ∧ GtAt gb rb st' w' ∧ Upd w w' [rb] :=
  (guint w rb st most hm h.rd).mono fun _ _ ⟨x, st', h1, h2, h3, h4, h5⟩ => ⟨x, st', h1, h2, h3, h.read h4 h5, h5⟩
theorem GtAt.text (h : GtAt gb rb st w) (most : Nat) (hm : most ≤ 1073741824) :
    Calls Tryz.prog 79 #[.pointer (some ⟨rb, 0, none⟩), .int .i64 most] w fun e w' => ∃ (x : ByteArray) (st' : Option (List UInt8)), e = .returned (.string x) ∧ x.size ≤ most ∧ Step (Mg.text most).dec st x st' ∧ GtAt gb rb st' w' ∧ Upd w w' [rb] :=
  (gtext w rb st most hm h.rd).mono fun _ _ ⟨x, st', h1, h2, h3, h4, h5⟩ => ⟨x, st', h1, h2, h3, h.read h4 h5, h5⟩
/-- (∃ over truths would be parted by the walk.) -/
def TruthGot (gb rb : Nat) (st : Option (List UInt8)) (w : World) (e : Ending) (w' : World) : Prop := ∃ (x : Bool) (st' : Option (List UInt8)), e = .returned (.bool x) ∧ Step Mg.truth.dec st x st' ∧ GtAt gb rb st' w' ∧ Upd w w' [rb]
theorem GtAt.truth (h : GtAt gb rb st w) :
    Calls Tryz.prog 49 #[.pointer (some ⟨rb, 0, none⟩)] w (TruthGot gb rb st w) :=
  (gbool w rb st h.rd).mono fun _ _ ⟨x, st', h1, h2, h3, h4⟩ => ⟨x, st', h1, h2, h.read h3 h4, h4⟩
theorem GtAt.count (h : GtAt gb rb st w) :
    Calls Tryz.prog 45 #[.pointer (some ⟨rb, 0, none⟩), .int .i64 (512 : Nat)] w fun e w' => ∃ (n : Nat) (st' : Option (List UInt8)), e = .returned (.int .i64 n) ∧ n ≤ 512 ∧ (st' = none → n = 0) ∧ Step (Mg.cnt 512) st n st' ∧ GtAt gb rb st' w' ∧ Upd w w' [rb] :=
  (gcount w rb st 512 (by decide) h.rd).mono fun _ _ ⟨x, st', h1, h2, h3, h4, _, _, h5, h6⟩ => ⟨x, st', h1, h2, h3, h4, h.read h5 h6, h6⟩

/-- What i rounds come to: all was read; or one was not, and the list is none. -/
def Rou {α : Type} (c : Mg.Codec α) (st st1 : Option (List UInt8)) (n i : Nat) (l : List α) (sti : Option (List UInt8)) : Prop :=
  Rounds c.dec st1 n i l sti ∨ (sti = none ∧ Step (Mg.list 512 c).dec st l none)
section
variable {α : Type} {c : Mg.Codec α} {n i : Nat} {st st1 sti st2 : Option (List UInt8)} {l : List α} {a : α}
theorem Rou.start (h : st1 = none → n = 0) : Rou c st st1 n 0 [] st1 := .inl (Rounds.start h)
theorem Rou.go (h : Rou c st st1 n i l sti) (hc : Step (Mg.cnt 512) st n st1) (hi : i < n) (hs : sti.isSome = true) (ha : Step c.dec sti a st2) : Rou c st st1 n (i + 1) (l ++ [a]) st2 := by
  rcases h with h | ⟨rfl, _⟩
  · cases st2 with
    | none => exact .inr ⟨rfl, h.fail hi ha hc⟩
    | some r => exact .inl (h.next ha)
  · cases hs
theorem Rou.fin (h : Rou c st st1 n i l sti) (hc : Step (Mg.cnt 512) st n st1) (hi : i ≤ n) (hx : ¬ (i < n ∧ sti.isSome = true)) : Step (Mg.list 512 c).dec st l sti := by
  rcases h with h | ⟨rfl, h⟩
  · by_cases e : i = n
    · subst e; exact h.done hc
    · have hs : sti = none := by
        cases sti with
        | none => rfl
        | some r => exact absurd ⟨by omega, rfl⟩ hx
      subst hs
      cases st1 with
      | none => have := h.2.1; omega
      | some r1 => obtain ⟨ri, e1, _⟩ := h; cases e1
  · exact h
end

/-- It holds now, and whatever is done to blocks of F. -/
def Lat (W : World) (F : List Nat) (P : World → Prop) : Prop := ∀ W2, Upd W W2 F → P W2
theorem Lat.now {W : World} {F : List Nat} {P : World → Prop} (h : Lat W F P) : P W := h W (Upd.refl _ _)
theorem Lat.next {W W' : World} {F : List Nat} {P : World → Prop} (h : Lat W F P) (hu : Upd W W' F) : Lat W' F P := fun W2 h2 => h W2 (hu.trans h2 (fun _ hb => .inl hb))
theorem Lat.two {W : World} {F : List Nat} {P Q : World → Prop} (h : Lat W F P) (k : Lat W F Q) : Lat W F (fun W => P W ∧ Q W) := fun W2 h2 => ⟨h W2 h2, k W2 h2⟩
theorem Lat.turn {W : World} {F : List Nat} {P Q : World → Prop} (h : Lat W F P) (k : ∀ W, P W → Q W) : Lat W F Q := fun W2 h2 => k W2 (h W2 h2)
/-- A result's block, and what the call leaves. -/
def Rst (w : World) (rb : Nat) (Z : Array Value) (T : TypeId) (W : World) : Prop := W.heap[w.heap.size]? = some (.cells Z T (0, 0)) ∧ Upd w W [rb]
theorem Rst.start (w : World) (rb : Nat) (Z : Array Value) (T : TypeId) (h : rb < w.heap.size) : Lat (w.alloc (.cells Z T (0, 0))) [rb] (Rst w rb Z T) := fun W2 h2 =>
  ⟨(h2.keep _ (by rw [World.size_alloc]; omega) (by simp; omega)).trans (heap_alloc_new w _), ((Upd.refl w [rb]).alloc _).trans h2 (fun _ hb => .inl hb)⟩
theorem Lat.upd (w : World) (F : List Nat) : Lat w F (fun W => Upd w W F) := fun _ h2 => h2
theorem Lat.ol {w W : World} {F : List Nat} {E : TypeId} {size : Nat} {s : Option Addr} {cap : Nat} {xs : List (List Value)} (h : OL w W E size s cap xs) (hF : ∀ b ∈ F, b < w.heap.size) : Lat W F (fun W2 => OL w W2 E size s cap xs) := fun _ h2 => h.updB h2 hF
theorem Lat.ro {w W : World} {F : List Nat} {l : List Mg.Row} {xs : List (List Value)} (h : RowsO w W l xs) (hF : ∀ b ∈ F, b < w.heap.size) : Lat W F (fun W2 => RowsO w W2 l xs) := fun _ h2 => h.updB h2 (fun b hb => .inl (hF b hb))
theorem upd_drop {w W : World} {rb g : Nat} (h : Upd w W [rb, g]) (hg : w.heap.size ≤ g) : Upd w W [rb] := ⟨h.os, h.tape, h.output, h.size, fun i hi hb => h.keep i hi (fun hm => by
  rcases List.mem_cons.1 hm with e | e
  · exact hb (by rw [e]; exact List.mem_singleton.2 rfl)
  · have := List.mem_singleton.1 e; omega)⟩
/-- A struct at block yb is being filled. -/
structure GB (gb rb yb : Nat) (st : Option (List UInt8)) (cs : Array Value) (T : TypeId) (P : World → Prop) (W : World) : Prop where
  g : GtAt gb rb st W
  y : W.heap[yb]? = some (.cells cs T (0, 0))
  ny : gb ≠ yb ∧ rb ≠ yb
  p : Lat W [rb, yb] P
section
variable {yb : Nat} {cs cs' : Array Value} {T : TypeId} {P Q : World → Prop}
theorem GB.fresh {W : World} (h : GtAt gb rb st W) (hp : Lat W [rb] P) (cs : Array Value) (T : TypeId) : GB gb rb W.heap.size st cs T P (W.alloc (.cells cs T (0, 0))) := by
  have h1 := h.lts
  refine ⟨h.keep ((Own.refl W).alloc _).below, heap_alloc_new W _, by omega, fun W2 h2 => hp W2 (upd_drop ((Upd.refl W [rb, W.heap.size]).alloc _ |>.trans h2 (fun _ hb => .inl hb)) (Nat.le_refl _))⟩
theorem GB.read {W : World} (h : GB gb rb yb st cs T P W) (hg : GtAt gb rb st' w') (hu : Upd W w' [rb]) : GB gb rb yb st' cs T P w' :=
  ⟨hg, (hu.keep yb (blk_lt h.y) (by simp; exact fun e => h.ny.2 e.symm)).trans h.y, h.ny, h.p.next (hu.mono (by simp))⟩
theorem GB.put {W : World} (h : GB gb rb yb st cs T P W) (k : Nat) (v : Value) (he : cs.setIfInBounds k v = cs') : GB gb rb yb st cs' T P (W.setCell ⟨yb, k, none⟩ v) := by
  have hu : Upd W (W.setCell ⟨yb, k, none⟩ v) [yb] := (Upd.refl W [yb]).setCell (.inl (by simp)) _
  refine ⟨h.g.upd hu (by simp; exact h.ny), by rw [heap_set _ h.y, he], h.ny, h.p.next (hu.mono (by simp))⟩
theorem GB.cell {W : World} (h : GB gb rb yb st cs T P W) (k : Nat) (v : Value) (hk : cs[k]? = some v) : W.cell? ⟨yb, k, none⟩ = some v := by rw [cell_of_row _ _ _ _ _ _ h.y]; exact hk
theorem GB.thaw {W : World} (h : GB gb rb yb st cs T P W) (k : Nat) : W.frozen? ⟨yb, k, none⟩ = false := frozen_of_row W yb k _ _ h.y
theorem GB.lt {W : World} (h : GB gb rb yb st cs T P W) : yb < W.heap.size := blk_lt h.y
theorem GB.drew {W : World} (h : GB gb rb yb st cs T P W) : GB gb rb yb st cs T P W.drew :=
  ⟨h.g.keep (Own.refl W).drew.below, h.y, h.ny, h.p.next (Upd.refl W [rb, yb]).drew⟩
theorem GB.more {W : World} (h : GB gb rb yb st cs T P W) (hq : Lat W [rb, yb] Q) : GB gb rb yb st cs T (fun W => P W ∧ Q W) W := ⟨h.g, h.y, h.ny, h.p.two hq⟩
theorem GB.turn {W : World} (h : GB gb rb yb st cs T P W) (k : ∀ W, P W → Q W) : GB gb rb yb st cs T Q W := ⟨h.g, h.y, h.ny, h.p.turn k⟩
theorem GB.alloc {W : World} (h : GB gb rb yb st cs T P W) (o : Obj) : GB gb rb yb st cs T P (W.alloc o) :=
  ⟨h.g.keep ((Own.refl W).alloc _).below, (Below.heap_alloc _ _ _ h.lt).trans h.y, h.ny, h.p.next ((Upd.refl W [rb, yb]).alloc _)⟩
/-- Behind an append to a list of blocks that are new since W0. -/
theorem GB.app {W0 v w6 : World} (h : GB gb rb yb st cs T (fun W => Upd W0 W [rb, yb]) v) {F : List Nat} (hu : Upd v w6 F) (hF : ∀ b ∈ F, W0.heap.size ≤ b) (hlt : gb < W0.heap.size ∧ rb < W0.heap.size ∧ yb < W0.heap.size) : GB gb rb yb st cs T (fun W => Upd W0 W [rb, yb]) w6 :=
  ⟨h.g.upd hu ⟨fun hb => by have := hF _ hb; omega, fun hb => by have := hF _ hb; omega⟩, (hu.keep yb h.lt (fun hb => by have := hF _ hb; omega)).trans h.y, h.ny, fun _ h2 => (h.p.now.trans hu (fun b hb => .inr (hF b hb))).trans h2 (fun _ hb => .inl hb)⟩
/-- Behind a call that left all but the reader. -/
theorem GB.upd {W : World} (h : GB gb rb yb st cs T P W) {F : List Nat} (hg : GtAt gb rb st' w') (hu : Upd W w' F) (hF : ∀ b ∈ F, b = rb ∨ b ≠ yb ∧ W.heap.size ≤ b) : GB gb rb yb st' cs T P w' := by
  have hu2 : Upd W w' [rb] := ⟨hu.os, hu.tape, hu.output, hu.size, fun i hi hb => hu.keep i hi (fun hm => by
    rcases hF i hm with e | ⟨_, e⟩
    · exact hb (by rw [e]; exact List.mem_singleton.2 rfl)
    · omega)⟩
  exact h.read hg hu2
end
end

/-- A new block, filled at once. -/
theorem GB.make {W : World} {gb rb n : Nat} {st : Option (List UInt8)} {P : World → Prop} (h : GtAt gb rb st W) (hp : Lat W [rb] P) (Z cs : Array Value) (T : TypeId) (hZ : Z.size = n) (hcs : cs.size = n) (hi : (Tryz.prog.info? T).map (·.size) = some n) (h1 : ∀ u ∈ cs.toList, u.oneCell' = true) :
    ∃ v, (storeVar T ⟨W.heap.size, 0, none⟩ (.agg cs)).run Tryz.prog (W.alloc (.cells Z T (0, 0))) = .ok () v ∧ GB gb rb W.heap.size st cs T P v ∧ Upd W v [rb] ∧ v.heap.size = W.heap.size + 1 := by
  have hf := GB.fresh h hp Z T
  obtain ⟨v, e, q⟩ := st_part (P := Tryz.prog) (W.alloc (.cells Z T (0, 0))) T (.agg cs) W.heap.size 0 cs rfl T Z cs (heap_alloc_new W _) n n hcs hZ hi (by omega) h1 (whole_eq _ _ n hcs hZ)
  have hu : Upd (W.alloc (.cells Z T (0, 0))) v [W.heap.size] := ⟨q.os, q.tape, q.output, Nat.le_of_eq q.size.symm, fun k _ hf => q.other k (by simpa using hf)⟩
  refine ⟨v, e, ⟨hf.g.upd hu (by simp; exact hf.ny), q.here, hf.ny, hf.p.next (hu.mono (by simp))⟩, ((Upd.refl W [rb]).alloc _).trans hu (fun b hb => .inr (by rw [List.mem_singleton.1 hb]; exact Nat.le_refl _)), by rw [q.size, World.size_alloc]⟩
/-- The struct goes to the result's block. -/
theorem GB.back {w v : World} {gb rb yb n : Nat} {st : Option (List UInt8)} {cs Z : Array Value} {T : TypeId} {P : World → Prop} (h : GB gb rb yb st cs T P v) (hP : ∀ W, P W → Rst w rb Z T W) (hcs : cs.size = n) (hZ : Z.size = n) (hi : (Tryz.prog.info? T).map (·.size) = some n) (h1 : ∀ u ∈ cs.toList, u.oneCell' = true) (hw : gb < w.heap.size ∧ rb < w.heap.size) :
    ∃ zz, (storeVar T ⟨w.heap.size, 0, none⟩ (.agg cs)).run Tryz.prog v = .ok () zz ∧ zz.heap[w.heap.size]? = some (.cells cs T (0, 0)) ∧ GtAt gb rb st zz ∧ Upd w zz [rb] ∧ Upd v zz [w.heap.size] := by
  have hr := hP _ h.p.now
  obtain ⟨zz, e, q⟩ := st_part (P := Tryz.prog) v T (.agg cs) w.heap.size 0 cs rfl T Z cs hr.1 n n hcs hZ hi (by omega) h1 (whole_eq _ _ n hcs hZ)
  have hu : Upd v zz [w.heap.size] := ⟨q.os, q.tape, q.output, Nat.le_of_eq q.size.symm, fun k _ hf => q.other k (by simpa using hf)⟩
  exact ⟨zz, e, q.here, h.g.upd hu (by simp; omega), hr.2.put q (.inr (Nat.le_refl _)), hu⟩

end Go.Proofs.YtjgnomjjphkfbaaGreat

namespace Go.Proofs.YtjgnomjjphkfbaaGreat
open Go.RowKit
def ldVer (a : Addr) := loadVar 62 a
theorem ldVer_eq (a : Addr) : loadVar 62 a = ldVer a := rfl
def stVer (a : Addr) (v : Value) := storeVar 62 a v
theorem stVer_eq (a : Addr) (v : Value) : storeVar 62 a v = stVer a v := rfl
section
attribute [local go_sem ↓ high] stVer_eq
attribute [local go_sem ↓ high] ldVer_eq

set_option maxRecDepth 20000 in
set_option maxHeartbeats 4000000 in
theorem g_version (gb rb : Nat) (st : Option (List UInt8)) (w : World) (h : GtAt gb rb st w) :
    Calls Tryz.prog 81 #[.pointer (some ⟨gb, 0, none⟩)] w fun e w' => ∃ (v : Mg.Ver) (st' : Option (List UInt8)), e = .returned (.agg #[.int .u64 v.n, .int .u8 v.st, .string v.t]) ∧ Step Mg.cVer.dec st v st' ∧ GtAt gb rb st' w' ∧ Upd w w' [rb] := by
  have HLT := Lib.hid h.lts
  obtain ⟨w0, hw0⟩ : ∃ y, y = w.alloc (.cells #[.int .u64 0, .int .u8 0, .string ⟨#[]⟩] 62 (0, 0)) := ⟨_, rfl⟩
  have HW0 := Lib.hid hw0
  have hg0 : GtAt gb rb st w0 := by rw [hw0]; exact h.keep ((Own.refl w).alloc _).below
  have hp0 : Lat w0 [rb] (Rst w rb #[.int .u64 0, .int .u8 0, .string ⟨#[]⟩] 62) := by rw [hw0]; exact Rst.start w rb _ _ h.lts.2
  have HG0 := Lib.hid hg0
  have HP0 := Lib.hid hp0
  clear hw0 hg0 hp0 h
  have ch := HG0.out.cell
  go_enter Tryz.func81, Tryz.ntmps81
  go_upto_region 1 with (fail)
  rw [← HW0.out]
  clear HW0
  clear ch
  have ch1 := (HG0.out).cell
  have HC1 := Lib.hid ((HG0.out).uint 18446744073709551615 (by decide))
  go_wp2_with fail
  refine HC1.out.mono ?_
  rintro e w1 ⟨x1, s1, rfl, hx1, hs1, hg1, hu1⟩
  have HX1 := Lib.hid hx1
  have HS1 := Lib.hid hs1
  have hxI1 : (0 : Int) ≤ x1 ∧ (x1 : Int) ≤ 18446744073709551615 := by omega
  clear HC1 ch1 hx1 hs1
  obtain ⟨v1, rv1, hb1, huv1, hsv1⟩ := GB.make hg1 (HP0.out.next hu1) #[.int .u64 0, .int .u8 0, .string ⟨#[]⟩] #[.int .u64 x1, .int .u8 0, .string ⟨#[]⟩] 62 (n := 3) rfl rfl (by kernel_rfl) (by exact List.all_eq_true.1 rfl)
  change (stVer _ _).run _ _ = _ at rv1
  have HB1 := Lib.hid hb1
  have HUV1 := Lib.hid huv1
  have HSV1 := Lib.hid hsv1
  clear hb1 huv1 hsv1 hg1 hu1
  go_upto_region 2 with (fail)
  clear rv1
  have ch2 := (HB1.out.g).cell
  have HC2 := Lib.hid ((HB1.out.g).uint 255 (by decide))
  go_wp2_with fail
  refine HC2.out.mono ?_
  rintro e w2 ⟨x2, s2, rfl, hx2, hs2, hg2, hu2⟩
  have HX2 := Lib.hid hx2
  have HS2 := Lib.hid hs2
  have hxI2 : (0 : Int) ≤ x2 ∧ (x2 : Int) ≤ 255 := by omega
  clear HC2 ch2 hx2 hs2
  have hb2 := HB1.out.read hg2 hu2
  have q2 := hb2.cell 1 _ rfl
  have f2 := hb2.thaw 1
  have l2 := hb2.lt
  have HB2 := Lib.hid (hb2.put (cs' := #[.int .u64 x1, .int .u8 x2, .string ⟨#[]⟩]) 1 (.int .u8 x2) rfl)
  clear hb2 hg2 hu2
  go_upto_region 3 with (fail)
  generalize w2.setCell ⟨w1.heap.size, 1, none⟩ (.int .u8 x2) = v2 at *
  clear q2 f2 l2
  have ch3 := (HB2.out.g).cell
  have HC3 := Lib.hid ((HB2.out.g).text 4096 (by decide))
  go_wp2_with fail
  refine HC3.out.mono ?_
  rintro e w3 ⟨x3, s3, rfl, hx3, hs3, hg3, hu3⟩
  have HX3 := Lib.hid hx3
  have HS3 := Lib.hid hs3
  clear HC3 ch3 hx3 hs3
  have hb3 := HB2.out.read hg3 hu3
  have q3 := hb3.cell 2 _ rfl
  have f3 := hb3.thaw 2
  have l3 := hb3.lt
  have HB3 := Lib.hid (hb3.put (cs' := #[.int .u64 x1, .int .u8 x2, .string x3]) 2 (.string x3) rfl)
  clear hb3 hg3 hu3
  go_upto_region 4 with (fail)
  generalize w3.setCell ⟨w1.heap.size, 2, none⟩ (.string x3) = v3 at *
  clear q3 f3 l3
  have gl : (ldVer ⟨w1.heap.size, 0, none⟩).run Tryz.prog v3 = .ok (.agg #[.int .u64 x1, .int .u8 x2, .string x3]) v3 := run_loadVar_agg v3 _ 0 3 _ 62 #[.int .u64 x1, .int .u8 x2, .string x3] (0, 0) _ HB3.out.y Tryz.underlying62 rfl (by kernel_rfl) (show 0 + 3 ≤ 3 by decide)
  obtain ⟨zz, rz, hz0, hgz, huz, hul⟩ := HB3.out.back (fun _ h => h) rfl rfl (by kernel_rfl) (by exact List.all_eq_true.1 rfl) HLT.out
  change (stVer _ _).run _ _ = _ at rz
  have HZ0 := Lib.hid hz0
  have HGZ := Lib.hid hgz
  have HUZ := Lib.hid huz
  have HUL := Lib.hid hul
  clear hz0 hgz huz hul 
  go_wp2_with fail
  exact bodyPost_ret (results_cell_row rfl _ _ w.heap.size _ _ _ _ rfl HZ0.out Tryz.underlying62 rfl (by kernel_rfl)) rfl ⟨⟨x1, x2, x3⟩, s3, rfl, Step.isoD (Step.seqD HS1.out (Step.seqD HS2.out HS3.out)), HGZ.out, HUZ.out⟩
end
end Go.Proofs.YtjgnomjjphkfbaaGreat

namespace Go.Proofs.YtjgnomjjphkfbaaGreat
open Go.RowKit
attribute [local go_sem ↓ high] appSem_eq

set_option maxRecDepth 20000 in
set_option maxHeartbeats 4000000 in
theorem g_places (gb rb : Nat) (st : Option (List UInt8)) (w : World) (h : GtAt gb rb st w) :
    Calls Tryz.prog 80 #[.pointer (some ⟨gb, 0, none⟩)] w fun e w' => ∃ (l : List Int) (s : Option Addr) (cap : Nat) (st' : Option (List UInt8)), e = .returned (.slice s l.length cap) ∧ Step (Mg.list 512 (Mg.int 512)).dec st l st' ∧ l.length ≤ 512 ∧ GtAt gb rb st' w' ∧ OL w w' 3 1 s cap (l.map (fun a : Int => [Value.int .i64 a])) ∧ Upd w w' [rb] := by
  obtain ⟨inf1, hin1, hz01, hz11, hz21⟩ := info_parts inf_place
  have HIN1 := Lib.hid (And.intro hin1 (And.intro hz01 (And.intro hz11 hz21)))
  clear hin1 hz01 hz11 hz21
  have HH := Lib.hid h
  have HLT := Lib.hid h.lts
  clear h
  go_enter Tryz.func80, Tryz.ntmps80
  have ch1 := (HH.out).cell
  have HC1 := Lib.hid ((HH.out).count)
  go_wp2_with fail
  refine HC1.out.mono ?_
  rintro e w1 ⟨n1, s1, rfl, hn1, hz1, hs1, hg1, hu1⟩
  have HN1 := Lib.hid hn1
  have HZ1 := Lib.hid hz1
  have HS1 := Lib.hid hs1
  have hnI1 : (0 : Int) ≤ n1 ∧ (n1 : Int) ≤ 512 := by omega
  clear HC1 ch1 hn1 hz1 hs1
  have HG1 := Lib.hid hg1
  have HU1 := Lib.hid hu1
  clear hg1 hu1
  go_wp2_with fail
  go_loopw [3, 5] (fun vs vi wr => ∃ (i : Nat) (l : List Int) (s : Option Addr) (cap : Nat) (sti : Option (List UInt8)), i ≤ n1 ∧ vi = .int .i64 i ∧ vs = .slice s i cap ∧ l.length = i ∧ Rou (Mg.int 512) st s1 n1 i l sti ∧ GtAt gb rb sti wr ∧ OL w wr 3 1 s cap (l.map (fun a : Int => [Value.int .i64 a])) ∧ Upd w wr [rb]) (fun _ vi _ => n1 - (intOf vi).toNat)
  case atStart => exact ⟨0, [], none, 0, s1, Nat.zero_le _, rfl, rfl, rfl, Rou.start HZ1.out, HG1.out, OL.nil _ _ _ _, HU1.out⟩
  case round =>
    obtain ⟨i, l, s, cap, sti, hi, rfl, rfl, hl, hro, hgr, hol, hur⟩ := hrel
    have HL := Lib.hid hl
    have HRO := Lib.hid hro
    have HGR := Lib.hid hgr
    have HOL := Lib.hid hol
    have HUR := Lib.hid hur
    clear hl hro hgr hol hur HG1 HU1
    have ch := HGR.out.cell
    obtain ⟨ec, hec, hez⟩ := HGR.out.rd.err
    obtain ⟨b, hb⟩ : ∃ b, b = (decide (i < n1) && sti.isSome) := ⟨_, rfl⟩
    have HBQ := Lib.hid hb
    have HI := Lib.hid hi
    clear hb
    go_upto_region 4 with (fail)
    go_cut [23] (fun v wx => v = .bool b ∧ wx = wr)
    case first =>
      by_cases hlt : i < n1
      · have hltI : (i : Int) < n1 := by omega
        have hez2 : ((ec : Int) == 0) = b := by rw [hez, HBQ.out, decide_eq_true hlt]; rfl
        clear hez hlt
        go_wp2_with fail
        go_meet
        exact ⟨rfl, rfl⟩
      · have hltI : ¬ (i : Int) < n1 := by omega
        have hbf : b = false := by rw [HBQ.out, decide_eq_false hlt]; rfl
        subst hbf
        clear hez hlt
        go_wp2_with fail
        go_meet
        exact ⟨rfl, rfl⟩
    case rest =>
    obtain ⟨rfl, hwc⟩ := hcut
    subst hwc
    clear hec hez ch
    cases b with
    | true =>
      have hgo : i < n1 ∧ sti.isSome = true := by have := HBQ.out; simpa using this.symm
      have HGO := Lib.hid hgo
      have hiI : (0 : Int) ≤ i ∧ (i : Int) < n1 := by omega
      clear hgo
      have ch2 := (HGR.out).cell
      have HC2 := Lib.hid ((HGR.out).uint 512 (by decide))
      go_wp2_with fail
      refine HC2.out.mono ?_
      rintro e w2 ⟨x2, s2, rfl, hx2, hs2, hg2, hu2⟩
      have HX2 := Lib.hid hx2
      have HS2 := Lib.hid hs2
      have hxI2 : (0 : Int) ≤ x2 ∧ (x2 : Int) ≤ 512 := by omega
      clear HC2 ch2 hx2 hs2
      have HUW := Lib.hid hu2
      have hol2 := HOL.out.updB HUW.out (fun b hb => by rw [List.mem_singleton.1 hb]; exact HLT.out.2)
      obtain ⟨s4, cap4, w4, hrun, hol4, hk4⟩ := ol_push2 (P := Tryz.prog) (T := 28) Tryz.underlying28 HIN1.out.1 HIN1.out.2.1 HIN1.out.2.2.1 HIN1.out.2.2.2 rfl (by decide) (by decide) (w := w) (W := w2) (HUR.out.two HUW.out).size hol2 [.int .i64 x2] rfl (fun u hu => List.all_eq_true.1 (show ([.int .i64 x2] : List Value).all (fun v => v.oneCell') = true from rfl) u hu) (by have := HL.out; have := HN1.out; have := HGO.out.1; simp; omega)
      rw [List.length_map, HL.out] at hrun
      have hrun2 : (appSem #[28, 28] 28 #[.slice s i cap, .slice (some ⟨w2.heap.size, 0, none⟩) 1 1]).run Tryz.prog (w2.alloc (.cells #[.int .i64 x2] 3 (0, 0))) = .ok (.slice s4 (i + 1) cap4) w4 := hrun
      have HG4 := Lib.hid (hg2.upd hk4.upd ⟨fun hb => (by have := HOL.out.far _ hb; have := HLT.out; omega), fun hb => (by have := HOL.out.far _ hb; have := HLT.out; omega)⟩)
      have HOL4 : Hid (OL w w4 3 1 s4 cap4 ((l ++ [(x2 : Int)]).map (fun a : Int => [Value.int .i64 a]))) := Lib.hid (by rw [List.map_append]; exact hol4)
      have HU4 := Lib.hid ((HUR.out.two HUW.out).trans hk4.upd (fun b hb => .inr (HOL.out.far b hb)))
      clear hol2 hol4 hk4 hrun hg2 hu2
      go_wp2_with fail
      go_roundw
      case rel => exact ⟨i + 1, l ++ [(x2 : Int)], s4, cap4, _, HGO.out.1, by go_num, rfl, by simp; exact HL.out, HRO.out.go HS1.out HGO.out.1 HGO.out.2 (HS2.out.intD), HG4.out, HOL4.out, HU4.out⟩
      case measure => simp [intOf]; omega
    | false =>
      have HFI := Lib.hid (HRO.out.fin HS1.out HI.out (fun h => by have h2 := HBQ.out; rw [decide_eq_true h.1, h.2] at h2; cases h2))
      go_wp2_with fail
      exact bodyPost_ret (v := .slice s i cap) (by simp [results, Tryz.results80, go_sem]) rfl ⟨l, s, cap, sti, by rw [HL.out], HFI.out, by have := HL.out; have := HI.out; have := HN1.out; omega, HGR.out, HOL.out, HUR.out⟩

set_option maxRecDepth 20000 in
set_option maxHeartbeats 4000000 in
theorem g_spans (gb rb : Nat) (st : Option (List UInt8)) (w : World) (h : GtAt gb rb st w) :
    Calls Tryz.prog 48 #[.pointer (some ⟨gb, 0, none⟩)] w fun e w' => ∃ (l : List Mg.Rng) (s : Option Addr) (cap : Nat) (st' : Option (List UInt8)), e = .returned (.slice s l.length cap) ∧ Step (Mg.list 512 Mg.cRng).dec st l st' ∧ l.length ≤ 512 ∧ GtAt gb rb st' w' ∧ OL w w' 31 2 s cap (l.map Mg.Rng.cells) ∧ Upd w w' [rb] := by
  obtain ⟨inf1, hin1, hz01, hz11, hz21⟩ := info_parts inf_span
  have HIN1 := Lib.hid (And.intro hin1 (And.intro hz01 (And.intro hz11 hz21)))
  clear hin1 hz01 hz11 hz21
  have HH := Lib.hid h
  have HLT := Lib.hid h.lts
  clear h
  go_enter Tryz.func48, Tryz.ntmps48
  have ch1 := (HH.out).cell
  have HC1 := Lib.hid ((HH.out).count)
  go_wp2_with fail
  refine HC1.out.mono ?_
  rintro e w1 ⟨n1, s1, rfl, hn1, hz1, hs1, hg1, hu1⟩
  have HN1 := Lib.hid hn1
  have HZ1 := Lib.hid hz1
  have HS1 := Lib.hid hs1
  have hnI1 : (0 : Int) ≤ n1 ∧ (n1 : Int) ≤ 512 := by omega
  clear HC1 ch1 hn1 hz1 hs1
  have HG1 := Lib.hid hg1
  have HU1 := Lib.hid hu1
  clear hg1 hu1
  go_wp2_with fail
  go_loopw [3, 5] (fun vs vi wr => ∃ (i : Nat) (l : List Mg.Rng) (s : Option Addr) (cap : Nat) (sti : Option (List UInt8)), i ≤ n1 ∧ vi = .int .i64 i ∧ vs = .slice s i cap ∧ l.length = i ∧ Rou Mg.cRng st s1 n1 i l sti ∧ GtAt gb rb sti wr ∧ OL w wr 31 2 s cap (l.map Mg.Rng.cells) ∧ Upd w wr [rb]) (fun _ vi _ => n1 - (intOf vi).toNat)
  case atStart => exact ⟨0, [], none, 0, s1, Nat.zero_le _, rfl, rfl, rfl, Rou.start HZ1.out, HG1.out, OL.nil _ _ _ _, HU1.out⟩
  case round =>
    obtain ⟨i, l, s, cap, sti, hi, rfl, rfl, hl, hro, hgr, hol, hur⟩ := hrel
    have HL := Lib.hid hl
    have HRO := Lib.hid hro
    have HGR := Lib.hid hgr
    have HOL := Lib.hid hol
    have HUR := Lib.hid hur
    clear hl hro hgr hol hur HG1 HU1
    have ch := HGR.out.cell
    obtain ⟨ec, hec, hez⟩ := HGR.out.rd.err
    obtain ⟨b, hb⟩ : ∃ b, b = (decide (i < n1) && sti.isSome) := ⟨_, rfl⟩
    have HBQ := Lib.hid hb
    have HI := Lib.hid hi
    clear hb
    go_upto_region 4 with (fail)
    go_cut [24] (fun v wx => v = .bool b ∧ wx = wr)
    case first =>
      by_cases hlt : i < n1
      · have hltI : (i : Int) < n1 := by omega
        have hez2 : ((ec : Int) == 0) = b := by rw [hez, HBQ.out, decide_eq_true hlt]; rfl
        clear hez hlt
        go_wp2_with fail
        go_meet
        exact ⟨rfl, rfl⟩
      · have hltI : ¬ (i : Int) < n1 := by omega
        have hbf : b = false := by rw [HBQ.out, decide_eq_false hlt]; rfl
        subst hbf
        clear hez hlt
        go_wp2_with fail
        go_meet
        exact ⟨rfl, rfl⟩
    case rest =>
    obtain ⟨rfl, hwc⟩ := hcut
    subst hwc
    clear hec hez ch
    cases b with
    | true =>
      have hgo : i < n1 ∧ sti.isSome = true := by have := HBQ.out; simpa using this.symm
      have HGO := Lib.hid hgo
      have hiI : (0 : Int) ≤ i ∧ (i : Int) < n1 := by omega
      clear hgo
      have ch2 := (HGR.out).cell
      have HC2 := Lib.hid ((HGR.out).uint 18446744073709551615 (by decide))
      go_wp2_with fail
      refine HC2.out.mono ?_
      rintro e w2 ⟨x2, s2, rfl, hx2, hs2, hg2, hu2⟩
      have HX2 := Lib.hid hx2
      have HS2 := Lib.hid hs2
      have hxI2 : (0 : Int) ≤ x2 ∧ (x2 : Int) ≤ 18446744073709551615 := by omega
      clear HC2 ch2 hx2 hs2
      have hp2 := Lat.upd wc [rb]
      obtain ⟨v2, hv2⟩ : ∃ y, y = w2.alloc (.cells #[.int .u64 x2, .int .u64 0] 31 (0, 0)) := ⟨_, rfl⟩
      have HB2 : Hid (GB gb rb w2.heap.size s2 #[.int .u64 x2, .int .u64 0] 31 (fun W => Upd wc W [rb]) v2) := Lib.hid (by rw [hv2]; exact GB.fresh hg2 (hp2.next hu2) _ _)
      go_upto_region 7 with (fail)
      rw [← hv2]
      clear hv2 hg2 hu2
      clear hp2
      have ch3 := (HB2.out.g).cell
      have HC3 := Lib.hid ((HB2.out.g).uint 18446744073709551615 (by decide))
      go_wp2_with fail
      refine HC3.out.mono ?_
      rintro e w3 ⟨x3, s3, rfl, hx3, hs3, hg3, hu3⟩
      have HX3 := Lib.hid hx3
      have HS3 := Lib.hid hs3
      have hxI3 : (0 : Int) ≤ x3 ∧ (x3 : Int) ≤ 18446744073709551615 := by omega
      clear HC3 ch3 hx3 hs3
      have hb3 := HB2.out.read hg3 hu3
      have q3 := hb3.cell 1 _ rfl
      have f3 := hb3.thaw 1
      have l3 := hb3.lt
      have HB3 := Lib.hid (hb3.put (cs' := #[.int .u64 x2, .int .u64 x3]) 1 (.int .u64 x3) rfl)
      clear hb3 hg3 hu3
      go_upto_region 8 with (fail)
      generalize w3.setCell ⟨w2.heap.size, 1, none⟩ (.int .u64 x3) = v3 at *
      clear q3 f3 l3
      have HUW := Lib.hid HB3.out.p.now
      have q0 := HB3.out.cell 0 _ rfl
      have q1 := HB3.out.cell 1 _ rfl
      have hol2 := HOL.out.updB HUW.out (fun b hb => by rw [List.mem_singleton.1 hb]; exact HLT.out.2)
      obtain ⟨s4, cap4, w4, hrun, hol4, hk4⟩ := ol_push2 (P := Tryz.prog) (T := 35) Tryz.underlying35 HIN1.out.1 HIN1.out.2.1 HIN1.out.2.2.1 HIN1.out.2.2.2 rfl (by decide) (by decide) (w := w) (W := v3) (HUR.out.two HUW.out).size hol2 [.int .u64 x2, .int .u64 x3] rfl (fun u hu => List.all_eq_true.1 (show ([.int .u64 x2, .int .u64 x3] : List Value).all (fun v => v.oneCell') = true from rfl) u hu) (by have := HL.out; have := HN1.out; have := HGO.out.1; simp; omega)
      rw [List.length_map, HL.out] at hrun
      have hrun2 : (appSem #[35, 35] 35 #[.slice s i cap, .slice (some ⟨v3.heap.size, 0, none⟩) 1 1]).run Tryz.prog (v3.alloc (.cells #[.int .u64 x2, .int .u64 x3] 31 (0, 0))) = .ok (.slice s4 (i + 1) cap4) w4 := hrun
      have HG4 := Lib.hid (HB3.out.g.upd hk4.upd ⟨fun hb => (by have := HOL.out.far _ hb; have := HLT.out; omega), fun hb => (by have := HOL.out.far _ hb; have := HLT.out; omega)⟩)
      have HOL4 : Hid (OL w w4 31 2 s4 cap4 ((l ++ [(⟨x2, x3⟩ : Mg.Rng)]).map Mg.Rng.cells)) := Lib.hid (by rw [List.map_append]; exact hol4)
      have HU4 := Lib.hid ((HUR.out.two HUW.out).trans hk4.upd (fun b hb => .inr (HOL.out.far b hb)))
      clear hol2 hol4 hk4 hrun
      go_wp2_with fail
      go_roundw
      case rel => exact ⟨i + 1, l ++ [(⟨x2, x3⟩ : Mg.Rng)], s4, cap4, _, HGO.out.1, by go_num, rfl, by simp; exact HL.out, HRO.out.go HS1.out HGO.out.1 HGO.out.2 ((show Step Mg.cRng.dec sti (⟨x2, x3⟩ : Mg.Rng) s3 from Step.isoD (Step.seqD HS2.out HS3.out))), HG4.out, HOL4.out, HU4.out⟩
      case measure => simp [intOf]; omega
    | false =>
      have HFI := Lib.hid (HRO.out.fin HS1.out HI.out (fun h => by have h2 := HBQ.out; rw [decide_eq_true h.1, h.2] at h2; cases h2))
      go_wp2_with fail
      exact bodyPost_ret (v := .slice s i cap) (by simp [results, Tryz.results48, go_sem]) rfl ⟨l, s, cap, sti, by rw [HL.out], HFI.out, by have := HL.out; have := HI.out; have := HN1.out; omega, HGR.out, HOL.out, HUR.out⟩

end Go.Proofs.YtjgnomjjphkfbaaGreat

namespace Go.Proofs.YtjgnomjjphkfbaaGreat
open Go.RowKit
attribute [local go_sem ↓ high] appSem_eq

set_option maxRecDepth 20000 in
set_option maxHeartbeats 4000000 in
theorem g_rows (gb rb : Nat) (st : Option (List UInt8)) (w : World) (h : GtAt gb rb st w) :
    Calls Tryz.prog 47 #[.pointer (some ⟨gb, 0, none⟩)] w fun e w' => ∃ (l : List Mg.Row) (xs : List (List Value)) (s : Option Addr) (cap : Nat) (st' : Option (List UInt8)), e = .returned (.slice s l.length cap) ∧ Step (Mg.list 512 Mg.cRow).dec st l st' ∧ l.length ≤ 512 ∧ GtAt gb rb st' w' ∧ OL w w' 72 3 s cap xs ∧ RowsO w w' l xs ∧ Upd w w' [rb] := by
  obtain ⟨inf1, hin1, hz01, hz11, hz21⟩ := info_parts inf_row
  have HIN1 := Lib.hid (And.intro hin1 (And.intro hz01 (And.intro hz11 hz21)))
  clear hin1 hz01 hz11 hz21
  obtain ⟨inf2, hin2, hz02, hz12, hz22⟩ := info_parts inf_version
  have HIN2 := Lib.hid (And.intro hin2 (And.intro hz02 (And.intro hz12 hz22)))
  clear hin2 hz02 hz12 hz22
  have HH := Lib.hid h
  have HLT := Lib.hid h.lts
  clear h
  go_enter Tryz.func47, Tryz.ntmps47
  have ch1 := (HH.out).cell
  have HC1 := Lib.hid ((HH.out).count)
  go_wp2_with fail
  refine HC1.out.mono ?_
  rintro e w1 ⟨n1, s1, rfl, hn1, hz1, hs1, hg1, hu1⟩
  have HN1 := Lib.hid hn1
  have HZ1 := Lib.hid hz1
  have HS1 := Lib.hid hs1
  have hnI1 : (0 : Int) ≤ n1 ∧ (n1 : Int) ≤ 512 := by omega
  clear HC1 ch1 hn1 hz1 hs1
  have HG1 := Lib.hid hg1
  have HU1 := Lib.hid hu1
  clear hg1 hu1
  go_wp2_with fail
  go_loopw [3, 5, 7, 8] (fun vs vi _ _ wr => ∃ (i : Nat) (l : List Mg.Row) (xs : List (List Value)) (s : Option Addr) (cap : Nat) (sti : Option (List UInt8)), i ≤ n1 ∧ vi = .int .i64 i ∧ vs = .slice s i cap ∧ l.length = i ∧ Rou Mg.cRow st s1 n1 i l sti ∧ GtAt gb rb sti wr ∧ OL w wr 72 3 s cap xs ∧ RowsO w wr l xs ∧ Upd w wr [rb]) (fun _ vi _ _ _ => n1 - (intOf vi).toNat)
  case atStart => exact ⟨0, [], [], none, 0, s1, Nat.zero_le _, rfl, rfl, rfl, Rou.start HZ1.out, HG1.out, OL.nil _ _ _ _, RowsO.nil _ _, HU1.out⟩
  case round =>
    obtain ⟨i, l, xs, s, cap, sti, hi, rfl, rfl, hl, hro, hgr, hol, hrw, hur⟩ := hrel
    have HL := Lib.hid hl
    have HRO := Lib.hid hro
    have HGR := Lib.hid hgr
    have HLX : Hid (xs.length = i) := Lib.hid (hrw.1.trans hl)
    have HOL := Lib.hid hol
    have HRW := Lib.hid hrw
    have HUR := Lib.hid hur
    clear hl hro hgr hol hrw hur HG1 HU1
    have ch := (HGR.out).cell
    obtain ⟨ec, hec, hez⟩ := (HGR.out).rd.err
    obtain ⟨b, hb⟩ : ∃ b, b = (decide (i < n1) && sti.isSome) := ⟨_, rfl⟩
    have HBQ := Lib.hid hb
    have HI := Lib.hid hi
    clear hb
    go_upto_region 4 with (fail)
    go_cut [27] (fun v wx => v = .bool b ∧ wx = wr)
    case first =>
      by_cases hlt : i < n1
      · have hltI : (i : Int) < n1 := by omega
        have hez2 : ((ec : Int) == 0) = b := by rw [hez, HBQ.out, decide_eq_true hlt]; rfl
        clear hez hlt
        go_wp2_with fail
        go_meet
        exact ⟨rfl, rfl⟩
      · have hltI : ¬ (i : Int) < n1 := by omega
        have hbf : b = false := by rw [HBQ.out, decide_eq_false hlt]; rfl
        subst hbf
        clear hez hlt
        go_wp2_with fail
        go_meet
        exact ⟨rfl, rfl⟩
    case rest =>
    obtain ⟨rfl, hwc⟩ := hcut
    subst hwc
    clear hec hez ch
    cases b with
    | true =>
      have hgo : i < n1 ∧ sti.isSome = true := by have := HBQ.out; simpa using this.symm
      have HGO := Lib.hid hgo
      have hiI : (0 : Int) ≤ i ∧ (i : Int) < n1 := by omega
      clear hgo
      obtain ⟨wo, hwo⟩ : ∃ wo, wo = wc := ⟨_, rfl⟩
      subst hwo
      have ch2 := (HGR.out).cell
      have HC2 := Lib.hid ((HGR.out).text 129 (by decide))
      go_wp2_with fail
      refine HC2.out.mono ?_
      rintro e w2 ⟨x2, s2, rfl, hx2, hs2, hg2, hu2⟩
      have HX2 := Lib.hid hx2
      have HS2 := Lib.hid hs2
      clear HC2 ch2 hx2 hs2
      have hp2 := Lat.upd wo [rb]
      obtain ⟨v2, hv2⟩ : ∃ y, y = w2.alloc (.cells #[.string x2, .int .u64 0, .slice none 0 0] 72 (0, 0)) := ⟨_, rfl⟩
      have HB2 : Hid (GB gb rb w2.heap.size s2 #[.string x2, .int .u64 0, .slice none 0 0] 72 (fun W => Upd wo W [rb]) v2) := Lib.hid (by rw [hv2]; exact GB.fresh hg2 (hp2.next hu2) _ _)
      go_upto_region 7 with (fail)
      rw [← hv2]
      clear hv2 hg2 hu2
      clear hp2
      have ch3 := (HB2.out.g).cell
      have HC3 := Lib.hid ((HB2.out.g).uint 18446744073709551615 (by decide))
      go_wp2_with fail
      refine HC3.out.mono ?_
      rintro e w3 ⟨x3, s3, rfl, hx3, hs3, hg3, hu3⟩
      have HX3 := Lib.hid hx3
      have HS3 := Lib.hid hs3
      have hxI3 : (0 : Int) ≤ x3 ∧ (x3 : Int) ≤ 18446744073709551615 := by omega
      clear HC3 ch3 hx3 hs3
      have hb3 := HB2.out.read hg3 hu3
      have q3 := hb3.cell 1 _ rfl
      have f3 := hb3.thaw 1
      have l3 := hb3.lt
      have HB3 := Lib.hid (hb3.put (cs' := #[.string x2, .int .u64 x3, .slice none 0 0]) 1 (.int .u64 x3) rfl)
      clear hb3 hg3 hu3
      go_upto_region 8 with (fail)
      generalize w3.setCell ⟨w2.heap.size, 1, none⟩ (.int .u64 x3) = v3 at *
      clear q3 f3 l3
      have ch4 := (HB3.out.g).cell
      have HC4 := Lib.hid ((HB3.out.g).count)
      go_wp2_with fail
      refine HC4.out.mono ?_
      rintro e w4 ⟨n4, s4, rfl, hn4, hz4, hs4, hg4, hu4⟩
      have HN4 := Lib.hid hn4
      have HZ4 := Lib.hid hz4
      have HS4 := Lib.hid hs4
      have hnI4 : (0 : Int) ≤ n4 ∧ (n4 : Int) ≤ 512 := by omega
      clear HC4 ch4 hn4 hz4 hs4
      have HB4 := Lib.hid (HB3.out.read hg4 hu4)
      clear hg4 hu4
      go_wp2_with fail
      obtain ⟨W0, hW0⟩ : ∃ y, y = w4 := ⟨_, rfl⟩
      subst hW0
      clear HB3
      have HLW : Hid (gb < W0.heap.size ∧ rb < W0.heap.size ∧ w2.heap.size < W0.heap.size) := Lib.hid ⟨HB4.out.g.lts.1, HB4.out.g.lts.2, HB4.out.lt⟩
      go_loopw [8] (fun vk wr => ∃ (k : Nat) (m : List Mg.Ver) (a : Option Addr) (c : Nat) (stk : Option (List UInt8)), k ≤ n4 ∧ vk = .int .i64 k ∧ m.length = k ∧ Rou Mg.cVer s3 s4 n4 k m stk ∧ GB gb rb w2.heap.size stk #[.string x2, .int .u64 x3, .slice a k c] 72 (fun W => Upd W0 W [rb, w2.heap.size]) wr ∧ OL W0 wr 62 3 a c (m.map Mg.Ver.cells)) (fun vk _ => n4 - (intOf vk).toNat)
      case atStart => exact ⟨0, [], none, 0, s4, Nat.zero_le _, rfl, rfl, Rou.start HZ4.out, ⟨HB4.out.g, HB4.out.y, HB4.out.ny, Lat.upd _ _⟩, OL.nil _ _ _ _⟩
      case round =>
        obtain ⟨k, m, a, c, stk, hi, rfl, hl, hro, hgb, hol⟩ := hrel
        have HL2 := Lib.hid hl
        have HRO2 := Lib.hid hro
        have HGB := Lib.hid hgb
        have HOL2 := Lib.hid hol
        clear hl hro hgb hol
        have ch := (HGB.out.g).cell
        obtain ⟨ec, hec, hez⟩ := (HGB.out.g).rd.err
        obtain ⟨b2, hb⟩ : ∃ b, b = (decide (k < n4) && stk.isSome) := ⟨_, rfl⟩
        have HBQ2 := Lib.hid hb
        have HI2 := Lib.hid hi
        clear hb
        go_upto_region 10 with (fail)
        go_cut [60] (fun v wx => v = .bool b2 ∧ wx = wr)
        case first =>
          by_cases hlt : k < n4
          · have hltI : (k : Int) < n4 := by omega
            have hez2 : ((ec : Int) == 0) = b2 := by rw [hez, HBQ2.out, decide_eq_true hlt]; rfl
            clear hez hlt
            go_wp2_with fail
            go_meet
            exact ⟨rfl, rfl⟩
          · have hltI : ¬ (k : Int) < n4 := by omega
            have hbf : b2 = false := by rw [HBQ2.out, decide_eq_false hlt]; rfl
            subst hbf
            clear hez hlt
            go_wp2_with fail
            go_meet
            exact ⟨rfl, rfl⟩
        case rest =>
        obtain ⟨rfl, hwc⟩ := hcut
        subst hwc
        clear hec hez ch
        cases b2 with
        | true =>
          have hgo : k < n4 ∧ stk.isSome = true := by have := HBQ2.out; simpa using this.symm
          have HGO2 := Lib.hid hgo
          have hiI2 : (0 : Int) ≤ k ∧ (k : Int) < n4 := by omega
          clear hgo
          have ch := HGB.out.g.cell
          have HC5 := Lib.hid (g_version gb rb stk wc HGB.out.g)
          go_wp2_with fail
          refine HC5.out.mono ?_
          rintro e w5 ⟨v5, s5, rfl, hs5, hg5, hu5⟩
          have HS5 := Lib.hid hs5
          have HB5 := Lib.hid (HGB.out.read hg5 hu5)
          have hol5 := (HOL2.out.updB hu5 (fun b hb => by rw [List.mem_singleton.1 hb]; exact HLW.out.2.1)).keep ((Own.refl w5).alloc (.cells #[.int .u64 v5.n, .int .u8 v5.st, .string v5.t] 62 (0, 0))).below
          have hsz5 : W0.heap.size ≤ w5.heap.size := HB5.out.p.now.size
          have hbk5 : (w5.alloc (.cells #[.int .u64 v5.n, .int .u8 v5.st, .string v5.t] 62 (0, 0))).heap[w5.heap.size]? = some (.cells #[.int .u64 v5.n, .int .u8 v5.st, .string v5.t] 62 (0, 0)) := heap_alloc_new w5 _
          have HB6 := Lib.hid (HB5.out.alloc (.cells #[.int .u64 v5.n, .int .u8 v5.st, .string v5.t] 62 (0, 0)))
          clear HC5 ch hs5 hg5 hu5
          go_upto_region 13 with (fail)
          obtain ⟨v6, hv6⟩ : ∃ y, y = w5.alloc (.cells #[.int .u64 v5.n, .int .u8 v5.st, .string v5.t] 62 (0, 0)) := ⟨_, rfl⟩
          rw [← hv6] at hol5 hbk5 HB6
          rw [← hv6]
          have hsv6 : v6.heap.size = w5.heap.size + 1 := by rw [hv6]; exact World.size_alloc _ _
          have hsz6 : W0.heap.size ≤ v6.heap.size := by omega
          clear hv6 hsv6
          obtain ⟨s_4, cap4, w_4, hrun, hol4, hk4⟩ := ol_push2 (P := Tryz.prog) (T := 68) Tryz.underlying68 HIN2.out.1 HIN2.out.2.1 HIN2.out.2.2.1 HIN2.out.2.2.2 rfl (by decide) (by decide) (w := W0) (W := v6) hsz6 hol5 [.int .u64 v5.n, .int .u8 v5.st, .string v5.t] rfl (fun u hu => List.all_eq_true.1 (show ([.int .u64 v5.n, .int .u8 v5.st, .string v5.t] : List Value).all (fun v => v.oneCell') = true from rfl) u hu) (by have := HL2.out; have := HN4.out; have := HGO2.out.1; simp; omega)
          rw [List.length_map, HL2.out] at hrun
          have hrun2 : (appSem #[68, 68] 68 #[.slice a k c, .slice (some ⟨v6.heap.size, 0, none⟩) 1 1]).run Tryz.prog (v6.alloc (.cells #[.int .u64 v5.n, .int .u8 v5.st, .string v5.t] 62 (0, 0))) = .ok (.slice s_4 (k + 1) cap4) w_4 := hrun
          have p0 : v6.cell? ⟨w5.heap.size, 0, none⟩ = some (.int .u64 v5.n) := by rw [cell_of_row _ _ _ _ _ _ hbk5]; rfl
          have p1 : v6.cell? ⟨w5.heap.size, 1, none⟩ = some (.int .u8 v5.st) := by rw [cell_of_row _ _ _ _ _ _ hbk5]; rfl
          have p2 : v6.cell? ⟨w5.heap.size, 2, none⟩ = some (.string v5.t) := by rw [cell_of_row _ _ _ _ _ _ hbk5]; rfl
          have p3 := HB6.out.cell 2 _ rfl
          have HB7 := Lib.hid (HB6.out.app hk4.upd (fun b hb => HOL2.out.far b hb) HLW.out)
          have p4 := HB7.out.cell 2 _ rfl
          have f4 := HB7.out.thaw 2
          have l4 := HB7.out.lt
          have HB8 := Lib.hid (HB7.out.put (cs' := #[.string x2, .int .u64 x3, .slice s_4 (k + 1) cap4]) 2 (.slice s_4 (k + 1) cap4) rfl)
          have HOL4 : Hid (OL W0 (w_4.setCell ⟨w2.heap.size, 2, none⟩ (.slice s_4 (k + 1) cap4)) 62 3 s_4 cap4 ((m ++ [v5]).map Mg.Ver.cells)) := Lib.hid (by
            rw [List.map_append]
            exact hol4.updB ((Upd.refl w_4 [w2.heap.size]).setCell (.inl (by simp)) _) (fun b hb => by rw [List.mem_singleton.1 hb]; exact HLW.out.2.2))
          clear hol5 hbk5 hol4 hk4 hrun HB7
          go_wp2_with fail
          go_roundw
          case rel => exact ⟨k + 1, m ++ [v5], s_4, cap4, s5, HGO2.out.1, by go_num, by simp; exact HL2.out, HRO2.out.go HS4.out HGO2.out.1 HGO2.out.2 HS5.out, HB8.out, HOL4.out⟩
          case measure => simp [intOf]; omega
        | false =>
          have HFI2 := Lib.hid (HRO2.out.fin HS4.out HI2.out (fun h => by have h2 := HBQ2.out; rw [decide_eq_true h.1, h.2] at h2; cases h2))
          have HUW : Hid (Upd wo wc [rb]) := Lib.hid (HB4.out.p _ HGB.out.p.now)
          have hol2 := HOL.out.updB HUW.out (fun b hb => by rw [List.mem_singleton.1 hb]; exact HLT.out.2)
          have hrw2 : RowsO w wc (l ++ [⟨x2, x3, m⟩]) (xs ++ [[.string x2, .int .u64 x3, .slice a m.length c]]) := (HRW.out.updB HUW.out (fun b hb => .inl (by rw [List.mem_singleton.1 hb]; exact HLT.out.2))).push ⟨x2, x3, m⟩ (HOL2.out.base (Nat.le_trans HUR.out.size (HB4.out.p.now).size))
          rw [HL2.out] at hrw2
          obtain ⟨s4q, cap4, w4q, hrun, hol4, hk4⟩ := ol_push2 (P := Tryz.prog) (T := 34) Tryz.underlying34 HIN1.out.1 HIN1.out.2.1 HIN1.out.2.2.1 HIN1.out.2.2.2 rfl (by decide) (by decide) (w := w) (W := wc) (HUR.out.two HUW.out).size hol2 [.string x2, .int .u64 x3, .slice a k c] rfl (fun u hu => List.all_eq_true.1 (show ([.string x2, .int .u64 x3, .slice a k c] : List Value).all (fun v => v.oneCell') = true from rfl) u hu) (by have := HLX.out; have := HN1.out; have := HGO.out.1; omega)
          rw [HLX.out] at hrun
          have hrun2 : (appSem #[34, 34] 34 #[.slice s i cap, .slice (some ⟨wc.heap.size, 0, none⟩) 1 1]).run Tryz.prog (wc.alloc (.cells #[.string x2, .int .u64 x3, .slice a k c] 72 (0, 0))) = .ok (.slice s4q (i + 1) cap4) w4q := hrun
          have HG4 := Lib.hid (HGB.out.g.upd hk4.upd ⟨fun hb => (by have := HOL.out.far _ hb; have := HLT.out; omega), fun hb => (by have := HOL.out.far _ hb; have := HLT.out; omega)⟩)
          have HOL4 := Lib.hid hol4
          have HRW4 : Hid (RowsO w w4q (l ++ [⟨x2, x3, m⟩]) (xs ++ [[.string x2, .int .u64 x3, .slice a k c]])) := Lib.hid (hrw2.keep (fun s' n c' ys h1 h2 b hb => hk4.upd.keep b (h1.lt b hb) (h1.apart hol2.sl (by decide) b hb)))
          have HU4 := Lib.hid ((HUR.out.two HUW.out).trans hk4.upd (fun b hb => .inr (HOL.out.far b hb)))
          have q0 := HGB.out.cell 0 _ rfl
          have q1 := HGB.out.cell 1 _ rfl
          have q2 := HGB.out.cell 2 _ rfl
          have HSR : Hid (Step Mg.cRow.dec sti (⟨x2, x3, m⟩ : Mg.Row) stk) := Lib.hid (Step.isoD (Step.seqD HS2.out (Step.seqD HS3.out HFI2.out)))
          clear hol2 hrw2 hol4 hk4 hrun
          go_wp2_with fail
          go_roundw
          case rel => exact ⟨i + 1, l ++ [⟨x2, x3, m⟩], _, s4q, cap4, stk, HGO.out.1, by go_num, rfl, by simp; exact HL.out, HRO.out.go HS1.out HGO.out.1 HGO.out.2 HSR.out, HG4.out, HOL4.out, HRW4.out, HU4.out⟩
          case measure => simp [intOf]; omega
    | false =>
      have HFI := Lib.hid (HRO.out.fin HS1.out HI.out (fun h => by have h2 := HBQ.out; rw [decide_eq_true h.1, h.2] at h2; cases h2))
      go_wp2_with fail
      exact bodyPost_ret (v := .slice s i cap) (by simp [results, Tryz.results47, go_sem]) rfl ⟨l, xs, s, cap, sti, by rw [HL.out], HFI.out, by have := HL.out; have := HI.out; have := HN1.out; omega, HGR.out, HOL.out, HRW.out, HUR.out⟩

end Go.Proofs.YtjgnomjjphkfbaaGreat
