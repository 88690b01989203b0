/-
  THE WALKS of package cell: find.
-/
import Derived.Test.YtllepgdebjfbdaaCellPut
namespace Go.Proofs.Ytllepgdebjfbdaa
open Go.RowKit

set_option maxHeartbeats 1000000 in
theorem find1_any (w : World) (b : Nat) (n : Nat) (v : Cl.Ver) (hb : w.heap[b]? = some (.cells #[.int .u64 n] 22 (0, 0))) :
    Calls Try.prog 33 #[.agg #[.int .u64 v.n, .int .u8 v.st, .string v.t], .pointer (some ⟨b, 0, none⟩)] w fun e w' => e = .returned (.bool (decide (v.n = n))) ∧ Below w.heap.size w w' := by
  have hc := cell_of_row w b 0 _ _ _ hb
  simp only [List.getElem?_toArray, List.getElem?_cons_zero] at hc
  have hlt := blk_lt hb
  have HO := Lib.hid ((Own.refl w).alloc (.cells #[.int .u64 v.n, .int .u8 v.st, .string v.t] 35 (0, 0)))
  clear hb
  by_cases he : v.n = n
  · subst he
    go_enter Try.func33, Try.ntmps33
    go_wp2_with fail
    go_ret
    exact ⟨by simp, HO.out.below⟩
  · have HE := Lib.hid he
    have heI : ((v.n : Int) == (n : Int)) = false := by simp; omega
    clear he
    go_enter Try.func33, Try.ntmps33
    go_wp2_with fail
    go_ret
    exact ⟨by simp [HE.out], HO.out.below⟩

def idx (n : Nat) (l : List Cl.Ver) : Int := match Cl.at_ n l with | some i => (i : Nat) | none => -1
set_option maxRecDepth 20000 in
set_option maxHeartbeats 1000000 in
theorem index_any (w : World) (a : Option Addr) (cap : Nat) (l : List Cl.Ver) (b n : Nat) (h : VersAt w a l) (hb : w.heap[b]? = some (.cells #[.int .u64 n] 22 (0, 0))) (hn : l.length ≤ 1000) :
    Calls Try.prog 32 #[.slice a l.length cap, .func (Fn.func 33) #[] #[.pointer (some ⟨b, 0, none⟩)]] w fun e w' => e = .returned (.int .i64 (idx n l)) ∧ Below w.heap.size w w' := by
  have H := Lib.hid h
  have HB := Lib.hid hb
  have hnI : (0 : Int) ≤ l.length ∧ (l.length : Int) ≤ 1000 := by omega
  clear h hb hn
  go_enter Try.func32, Try.ntmps32
  go_wp2_with fail
  go_loopw [8] (fun vi wr => ∃ i : Nat, i ≤ l.length ∧ vi = .int .i64 i ∧ Cl.at_ n l = (Cl.at_ n (l.drop i)).map (· + i) ∧ Below w.heap.size w wr) (fun vi _ => l.length - (intOf vi).toNat)
  case atStart => exact ⟨0, Nat.zero_le _, rfl, by simp, Below.refl _ _⟩
  case round =>
    obtain ⟨i, hi, rfl, ht, hO⟩ := hrel
    have HT := Lib.hid ht
    have HO := Lib.hid hO
    by_cases hlt : i < l.length
    · have hiI : (0 : Int) ≤ i ∧ (i : Int) < l.length := by omega
      obtain ⟨g, off, rfl, k0, k1, k2, hgl⟩ := (H.out.keep hO).at i hlt
      have HD := Lib.hid (show l.drop i = l[i] :: l.drop (i + 1) from List.drop_eq_getElem_cons hlt)
      clear ht hO
      generalize l[i] = v at *
      go_wp2_with fail
      refine (find1_any _ b n v ((HO.out.block _ (blk_lt HB.out)).trans HB.out)).mono ?_
      rintro e w1 ⟨rfl, hb1⟩
      have HO1 := Lib.hid (HO.out.trans (hb1.mono HO.out.size))
      clear hb1
      by_cases he : v.n = n
      · have HE := Lib.hid (show idx n l = i by unfold idx; rw [HT.out, HD.out, Cl.at_, if_pos he]; simp)
        simp only [he, decide_true]
        clear he
        go_wp2_with fail
        go_ret
        exact ⟨by rw [HE.out]; rfl, HO1.out⟩
      · have HE := Lib.hid (show Cl.at_ n l = (Cl.at_ n (l.drop (i + 1))).map (· + (i + 1)) by
          rw [HT.out, HD.out, Cl.at_, if_neg he, Option.map_map]
          congr 1
          funext x
          simp only [Function.comp]; omega)
        simp only [he, decide_false]
        clear he
        go_wp2_with fail
        go_roundw
        case rel => exact ⟨i + 1, by omega, rfl, HE.out, HO1.out⟩
        case measure => simp only [intOf]; omega
    · have hiI : (i : Int) = l.length := by omega
      have HE := Lib.hid (show idx n l = -1 by unfold idx; rw [ht, List.drop_of_length_le (by omega)]; rfl)
      clear ht hO
      go_wp2_with fail
      go_ret
      exact ⟨by rw [HE.out]; rfl, HO.out⟩

theorem find_dead {c : Cl.Cel} {n : Nat} (h : Cl.may c = false) : Cl.find c n = (0, 2) := by unfold Cl.find; rw [if_pos h]
theorem find_none {c : Cl.Cel} {n : Nat} (h : Cl.may c = true) (h1 : Cl.at_ n c.l = none) : Cl.find c n = (0, 3) := by unfold Cl.find; rw [h, if_neg (by decide), h1]
theorem find_some {c : Cl.Cel} {n i : Nat} (h : Cl.may c = true) (h1 : Cl.at_ n c.l = some i) : Cl.find c n = if (c.l.getD i default).st = 1 then (i, 0) else (0, 171) := by unfold Cl.find; rw [h, if_neg (by decide), h1]

set_option maxRecDepth 20000 in
set_option maxHeartbeats 2000000 in
theorem find_any (w : World) (c : Cl.Cel) (a : Option Addr) (cap : Nat) (n : Nat) (h : VersAt w a c.l) (ok : ∀ v ∈ c.l, okV v) (hn : c.l.length ≤ 1000) (hl : c.last < 18446744073709551616) :
    Calls Try.prog 25 #[.agg #[.int .u64 c.last, .slice a c.l.length cap], .int .u64 n] w fun e w' => e = .returned (.tuple #[.int .i64 (Cl.find c n).1, .int .i64 (Cl.find c n).2]) ∧ Below w.heap.size w w' := by
  have HB := Lib.hid (boxes2 w (.cells #[.int .u64 c.last, .slice a c.l.length cap] 25 (0, 0)) (.cells #[.int .u64 n] 22 (0, 0)))
  have H := Lib.hid h
  have HN := Lib.hid hn
  have hnI : (0 : Int) ≤ c.l.length ∧ (c.l.length : Int) ≤ 1000 := by omega
  have HOK := Lib.hid ok
  have HLAST := Lib.hid hl
  clear h hn hl ok
  go_enter Try.func25, Try.ntmps25
  go_wp2_with fail
  refine (index_any _ a cap c.l (w.heap.size + 1) n (H.out.keep HB.out.own.below) HB.out.b1 HN.out).mono ?_
  rintro e w1 ⟨rfl, hb1⟩
  have HB1 := Lib.hid (HB.out.keep hb1)
  clear hb1 HB
  obtain ⟨k0, k1⟩ := cell_cells HB1.out.b0
  go_wp2_with fail
  refine (may_any _ c a cap (H.out.keep HB1.out.own.below) HOK.out HLAST.out (by have := HN.out; omega)).mono ?_
  rintro e w2 ⟨rfl, hb1⟩
  have HB2 := Lib.hid (HB1.out.keep hb1)
  clear hb1 HB1 k0 k1
  obtain ⟨k0, k1⟩ := cell_cells HB2.out.b0
  by_cases hm : Cl.may c = true
  · rw [hm]
    cases hat : Cl.at_ n c.l with
    | none =>
      have hi : idx n c.l = -1 := by unfold idx; rw [hat]
      have HE := Lib.hid (find_none hm hat)
      rw [hi]
      clear hm hat hi
      go_wp2_with fail
      refine bodyPost_ret (v := .tuple #[.int .i64 0, .int .i64 3]) (by simp [results, Try.results25, go_sem]) rfl ⟨by rw [HE.out]; rfl, HB2.out.own.below⟩
    | some i =>
      have hi : idx n c.l = i := by unfold idx; rw [hat]
      obtain ⟨hlt, _⟩ := Cl.at_lt n c.l i hat
      have hfs := find_some hm hat
      rw [List.getD_eq_getElem?_getD, List.getElem?_eq_getElem hlt, Option.getD_some] at hfs
      have HE := Lib.hid hfs
      obtain ⟨g, off, rfl, q0, q1, q2, hgl⟩ := (H.out.keep HB2.out.own.below).at i hlt
      have hiI : (0 : Int) ≤ i ∧ (i : Int) < c.l.length := by omega
      rw [hi]
      clear hm hat hi hfs
      generalize c.l[i] = v at *
      by_cases hs : v.st = 1
      · have hsI : (v.st : Int) = 1 := by omega
        have HE2 := Lib.hid (show Cl.find c n = (i, 0) by rw [HE.out, if_pos hs])
        clear hs
        go_wp2_with fail
        refine bodyPost_ret (v := .tuple #[.int .i64 i, .int .i64 0]) (by simp [results, Try.results25, go_sem]) rfl ⟨by rw [HE2.out]; rfl, HB2.out.own.below⟩
      · have hsI : ((v.st : Int) == 1) = false := by simp; omega
        have HE2 := Lib.hid (show Cl.find c n = (0, 171) by rw [HE.out, if_neg hs])
        clear hs
        go_wp2_with fail
        refine bodyPost_ret (v := .tuple #[.int .i64 0, .int .i64 171]) (by simp [results, Try.results25, go_sem]) rfl ⟨by rw [HE2.out]; rfl, HB2.out.own.below⟩
  · have hm' : Cl.may c = false := by simpa using hm
    have HE := Lib.hid (find_dead (n := n) hm')
    rw [hm']
    clear hm hm'
    go_wp2_with fail
    refine bodyPost_ret (v := .tuple #[.int .i64 0, .int .i64 2]) (by simp [results, Try.results25, go_sem]) rfl ⟨by rw [HE.out]; rfl, HB2.out.own.below⟩

end Go.Proofs.Ytllepgdebjfbdaa
