/-
  THE WALK of the statement NetFull.
-/
import Derived.Test.YtmlilfdaacchjaaNetAlive
namespace Go.Proofs.Ytmlilfdaacchjaa
open Go.RowKit

/-! ### What none answers -/
set_option maxRecDepth 20000 in
theorem nil_send (w : World) : Calls Try.prog 14 #[.pointer none, .agg #[.int .u32 0, .int .u32 0, .string ⟨#[]⟩]] w fun e w' => e = .returned (.int .i64 1) ∧ Below w.heap.size w w' := by
  go_enter Try.func14, Try.ntmps14
  go_wp2_with (go_at_call 25; refine (net_none_nil _).mono ?_; rintro e w' ⟨rfl, rfl⟩)
  go_ret
  exact ⟨rfl, (Below.refl _ _).alloc (Nat.le_refl _) _⟩

set_option maxRecDepth 20000 in
set_option maxHeartbeats 400000 in
theorem nil_take (w : World) (p : Int) : Calls Try.prog 9 #[.pointer none, .int .i64 p] w fun e w' => e = .returned (.tuple #[.agg #[.int .u32 0, .int .u32 0, .string ⟨#[]⟩], .int .i64 1]) ∧ Below w.heap.size w w' := by
  have HB1 := Lib.hid (heap_alloc2_new w (.cells #[.pointer none] 26) (.cells #[.int .u32 0, .int .u32 0, .string ⟨#[]⟩] 33))
  go_enter Try.func9, Try.ntmps9
  go_wp2_with (first
    | (go_at_call 20; go_in)
    | (go_at_call 25; refine (net_none_nil _).mono ?_; rintro e w' ⟨rfl, rfl⟩)
    | (refine wpList_load_row rfl 33 (.tmp 4) rfl (w.heap.size + 1) rfl 33 _ (0, 0) _ HB1.out Try.underlying33 rfl (by kernel_rfl) ?_)
    | (refine wpList_store_same rfl 33 (.tmp 4) (.tmp 10) rfl (w.heap.size + 1) _ rfl rfl 33 HB1.out (by kernel_rfl) (by intro v hv; simp at hv; rcases hv with rfl | rfl | rfl <;> rfl) ?_))
  refine bodyPost_ret (results_cell_tmp_row rfl _ _ (w.heap.size + 1) _ _ _ _ rfl HB1.out Try.underlying33 rfl (by kernel_rfl)) rfl ⟨rfl, ?_⟩
  exact ((Below.refl _ _).alloc (Nat.le_refl _) _).alloc (by simp) _

set_option maxRecDepth 20000 in
theorem nil_drop (w : World) (p : Int) : Calls Try.prog 11 #[.pointer none, .int .i64 p] w fun e w' => e = .returned (.int .i64 1) ∧ Below w.heap.size w w' := by
  go_enter Try.func11, Try.ntmps11
  go_wp2_with fail
  refine (nil_take _ _).mono ?_
  rintro e w1 ⟨rfl, hb⟩
  go_wp2
  go_ret
  exact ⟨rfl, hb.trans (((Below.refl _ _).alloc (Nat.le_refl _) _).mono hb.size)⟩

set_option maxRecDepth 20000 in
set_option maxHeartbeats 400000 in
theorem nil_double (w : World) (p : Int) : Calls Try.prog 12 #[.pointer none, .int .i64 p] w fun e w' => e = .returned (.int .i64 1) ∧ Below w.heap.size w w' := by
  go_enter Try.func12, Try.ntmps12
  go_wp2_with (first
    | (go_at_call 20; go_in)
    | (go_at_call 25; refine (net_none_nil _).mono ?_; rintro e w' ⟨rfl, rfl⟩))
  go_ret
  exact ⟨rfl, (Below.refl _ _).alloc (Nat.le_refl _) _⟩
set_option maxRecDepth 20000 in
theorem nil_all (w : World) : Calls Try.prog 17 #[.pointer none] w fun e w' => e = .returned (.slice none 0 0) ∧ w = w' := by
  go_enter Try.func17, Try.ntmps17
  go_wp2
  go_ret
  exact ⟨rfl, rfl⟩
set_option maxRecDepth 20000 in
theorem nil_len (w : World) : Calls Try.prog 18 #[.pointer none] w fun e w' => e = .returned (.int .i64 0) ∧ w = w' := by
  go_enter Try.func18, Try.ntmps18
  go_wp2
  go_ret
  exact ⟨rfl, rfl⟩
set_option maxRecDepth 20000 in
theorem nil_to (w : World) (n : Int) : Calls Try.prog 19 #[.pointer none, .int .u32 n] w fun e w' => e = .returned (.int .i64 0) ∧ w = w' := by
  go_enter Try.func19, Try.ntmps19
  go_wp2_with fail
  refine (nil_all _).mono ?_
  rintro e w' ⟨rfl, rfl⟩
  go_wp2_with fail
  go_loop [4, 10] (fun vm vi => vm = .int .i64 0 ∧ vi = .int .i64 0) (fun _ _ => 0)
  case atStart => exact ⟨rfl, rfl⟩
  case round =>
    obtain ⟨rfl, rfl⟩ := hrel
    go_wp2
    go_ret
    exact ⟨rfl, rfl⟩

theorem w32_ofNat (i : Nat) (h : i < 4294967296) : w32 (BitVec.ofNat 32 i) = i := u32_lit i h
theorem two_send_num {w0 w : World} {b : Nat} {l : List Gram} (i : Nat) (hi : i < 4294967296) (h : Two w0 w (NetR b l) NoR []) : Calls Try.prog 14 #[.pointer (some ⟨b, 0, none⟩), .agg #[.int .u32 i, .int .u32 0, .string ⟨#[]⟩]] w fun e w' => e = .returned (.int .i64 (sendCode l.length)) ∧ Two w0 w' (NetR b (if 1024 ≤ l.length then l else l ++ [⟨BitVec.ofNat 32 i, 0#32, ⟨#[]⟩⟩])) NoR [] := by
  have := two_send NoR.loc ⟨BitVec.ofNat 32 i, 0#32, ⟨#[]⟩⟩ h
  simp only [gcells, w32_ofNat i hi] at this
  exact this

theorem dbl_len (l : List Gram) (o : Option Gram) (h : l.length ≤ 1024) : (if 1024 ≤ l.length then l else l ++ o.toList).length ≤ 1024 := by
  split
  · exact h
  · cases o <;> simp <;> omega
set_option maxRecDepth 20000 in
set_option maxHeartbeats 2000000 in
theorem netFull_any (over : Int) (w : World) (ho : -128 ≤ over ∧ over ≤ 127) :
    Calls Try.prog 5 #[.int .i8 over] w fun e w' => e = .returned (.bool true) ∧ Below w.heap.size w w' := by
  have HL : Hid (Two w w NoR NoR []) := Two.start w
  obtain ⟨k, hk, hk1, hk2⟩ : ∃ k : Nat, (1024 : Int) + over = k ∧ 896 ≤ k ∧ k ≤ 1151 := ⟨(1024 + over).toNat, by omega, by omega, by omega⟩
  go_enter Try.func5, Try.ntmps5
  go_wp2_with fail
  refine (two_new NoR.loc HL.out).mono ?_
  rintro e w1 ⟨rfl, hL⟩
  replace HL := Lib.hid hL
  clear hL
  go_wp2_with fail
  have HK := Lib.hid hk
  clear hk
  go_loopw [6] (fun vi wr => ∃ (i : Nat) (l : List Gram), vi = .int .i64 i ∧ i ≤ k ∧ l.length = min i 1024 ∧ Two w wr (NetR w.heap.size l) NoR []) (fun vi _ => k - (intOf vi).toNat)
  case atStart => exact ⟨0, [], rfl, by omega, by simp, HL.out⟩
  case round =>
    clear HL
    obtain ⟨i, l, rfl, hi, hl, hL⟩ := hrel
    have HL := Lib.hid hL
    have HLN := Lib.hid hl
    clear hL
    by_cases hlt : i < k
    · have hiI : (i : Int) < k := by omega
      have HS := Lib.hid (two_send_num i (by omega) HL.out)
      by_cases hfull : i < 1024
      · have hi1 : (i : Int) < 1024 := by omega
        have hs : sendCode l.length = 0 := by unfold sendCode; rw [if_neg (by omega)]
        rw [hs] at HS
        clear hs hl
        go_wp2_with fail
        refine HS.out.mono ?_
        rintro e w2 ⟨rfl, hL⟩
        rw [if_neg (by have := HLN.out; omega)] at hL
        have HL2 := Lib.hid hL
        clear hL HS HL
        go_wp2
        go_roundw
        case rel => exact ⟨i + 1, _, by go_num, by omega, by have := HLN.out; simp; omega, HL2.out⟩
        case measure => simp [intOf]; omega
      · have hi1 : 1024 ≤ (i : Int) := by omega
        have hs : sendCode l.length = 4 := by unfold sendCode; rw [if_pos (by omega)]
        rw [hs] at HS
        clear hs hl
        go_wp2_with fail
        refine HS.out.mono ?_
        rintro e w2 ⟨rfl, hL⟩
        rw [if_pos (by have := HLN.out; omega)] at hL
        have HL2 := Lib.hid hL
        clear hL HS HL
        go_wp2
        go_roundw
        case rel => exact ⟨i + 1, l, by go_num, by omega, by have := HLN.out; omega, HL2.out⟩
        case measure => simp [intOf]; omega
    · obtain rfl : i = k := by omega
      have HD := Lib.hid (two_double NoR.loc 0 (by omega) HL.out)
      have hd : doubleCode l.length = if 0 ≤ over then 4 else 0 := by
        have := HK.out
        unfold doubleCode sendCode
        rw [if_neg (by omega)]
        by_cases h0 : 0 ≤ over
        · rw [if_pos (by omega), if_pos h0]
        · rw [if_neg (by omega), if_neg h0]
      rw [hd] at HD
      have hlen : Hid (l.length ≤ 1024) := Lib.hid (by omega)
      clear hd hl
      by_cases h0 : 0 ≤ over
      · rw [if_pos h0] at HD
        go_wp2_with fail
        refine HD.out.mono ?_
        rintro e w2 ⟨rfl, hL⟩
        have hle2 : (if 1024 ≤ l.length then l else l ++ (l[pickOf 0 l.length]?).toList).length ≤ 1024 := dbl_len l _ hlen.out
        generalize (if 1024 ≤ l.length then l else l ++ (l[pickOf 0 l.length]?).toList) = l2 at hL hle2
        have HL2 := Lib.hid hL
        have HLE := Lib.hid hle2
        clear hL HD HL hle2
        go_wp2_with fail
        refine (nil_take _ _).mono ?_
        rintro e w3 ⟨rfl, hb⟩
        have HL3 := Lib.hid (HL2.out.below (NetR.loc _ _) NoR.loc hb)
        clear hb HL2
        go_wp2_with fail
        have HL4 := Lib.hid (HL3.out.alloc (NetR.loc _ _) NoR.loc (.cells #[.int .u32 0, .int .u32 0, .string ⟨#[]⟩] 33))
        refine (two_len HL4.out).mono ?_
        rintro e w5 ⟨rfl, rfl⟩
        have hlenI : ((l2.length : Nat) : Int) ≤ 1024 := by have := HLE.out; omega
        clear HL3
        go_wp2_with fail
        refine (nil_send _).mono ?_
        rintro e w6 ⟨rfl, hb⟩
        have HL5 := Lib.hid (HL4.out.below (NetR.loc _ _) NoR.loc hb)
        clear hb HL4
        go_wp2_with fail
        refine (nil_drop _ _).mono ?_
        rintro e w7 ⟨rfl, hb⟩
        have HL6 := Lib.hid (HL5.out.below (NetR.loc _ _) NoR.loc hb)
        clear hb HL5
        go_wp2_with fail
        refine (nil_double _ _).mono ?_
        rintro e w8 ⟨rfl, hb⟩
        have HL7 := Lib.hid (HL6.out.below (NetR.loc _ _) NoR.loc hb)
        clear hb HL6
        go_wp2_with fail
        refine (nil_all _).mono ?_
        rintro e w9 ⟨rfl, rfl⟩
        go_wp2_with fail
        refine (nil_len _).mono ?_
        rintro e w9 ⟨rfl, rfl⟩
        go_wp2_with fail
        refine (nil_to _ _).mono ?_
        rintro e w9 ⟨rfl, rfl⟩
        go_wp2_with fail
        refine (alive21 _).mono ?_
        rintro e w9 ⟨rfl, hb⟩
        have HL8 := Lib.hid (HL7.out.below (NetR.loc _ _) NoR.loc hb)
        clear hb HL7
        go_wp2
        go_ret
        exact ⟨rfl, HL8.out.own⟩
      · rw [if_neg h0] at HD
        have h0' : over < 0 := by omega
        go_wp2_with fail
        refine HD.out.mono ?_
        rintro e w2 ⟨rfl, hL⟩
        have hle2 : (if 1024 ≤ l.length then l else l ++ (l[pickOf 0 l.length]?).toList).length ≤ 1024 := dbl_len l _ hlen.out
        generalize (if 1024 ≤ l.length then l else l ++ (l[pickOf 0 l.length]?).toList) = l2 at hL hle2
        have HL2 := Lib.hid hL
        have HLE := Lib.hid hle2
        clear hL HD HL hle2
        go_wp2_with fail
        refine (nil_take _ _).mono ?_
        rintro e w3 ⟨rfl, hb⟩
        have HL3 := Lib.hid (HL2.out.below (NetR.loc _ _) NoR.loc hb)
        clear hb HL2
        go_wp2_with fail
        have HL4 := Lib.hid (HL3.out.alloc (NetR.loc _ _) NoR.loc (.cells #[.int .u32 0, .int .u32 0, .string ⟨#[]⟩] 33))
        refine (two_len HL4.out).mono ?_
        rintro e w5 ⟨rfl, rfl⟩
        have hlenI : ((l2.length : Nat) : Int) ≤ 1024 := by have := HLE.out; omega
        clear HL3
        go_wp2_with fail
        refine (nil_send _).mono ?_
        rintro e w6 ⟨rfl, hb⟩
        have HL5 := Lib.hid (HL4.out.below (NetR.loc _ _) NoR.loc hb)
        clear hb HL4
        go_wp2_with fail
        refine (nil_drop _ _).mono ?_
        rintro e w7 ⟨rfl, hb⟩
        have HL6 := Lib.hid (HL5.out.below (NetR.loc _ _) NoR.loc hb)
        clear hb HL5
        go_wp2_with fail
        refine (nil_double _ _).mono ?_
        rintro e w8 ⟨rfl, hb⟩
        have HL7 := Lib.hid (HL6.out.below (NetR.loc _ _) NoR.loc hb)
        clear hb HL6
        go_wp2_with fail
        refine (nil_all _).mono ?_
        rintro e w9 ⟨rfl, rfl⟩
        go_wp2_with fail
        refine (nil_len _).mono ?_
        rintro e w9 ⟨rfl, rfl⟩
        go_wp2_with fail
        refine (nil_to _ _).mono ?_
        rintro e w9 ⟨rfl, rfl⟩
        go_wp2_with fail
        refine (alive21 _).mono ?_
        rintro e w9 ⟨rfl, hb⟩
        have HL8 := Lib.hid (HL7.out.below (NetR.loc _ _) NoR.loc hb)
        clear hb HL7
        go_wp2
        go_ret
        exact ⟨congrArg (fun b => Ending.returned (Value.bool b)) (show (!decide (0 ≤ over)) = true by simp; omega), HL8.out.own⟩

end Go.Proofs.Ytmlilfdaacchjaa
