/-
  THE WALK of layer 11's alive: the answers that the document fixes.
-/
import Derived.Test.YtboplbcfoooenaaSegRow
import Derived.Test.YtboplbcfoooenaaSegSmall
import Derived.Test.YtboplbcfoooenaaSegParse
namespace Go.Proofs.Ytboplbcfoooenaa
open Go.RowKit

attribute [local go_sem ↓ high] appSem_eq

def abc : List UInt8 := [97, 98, 99]
theorem abc_may : Sg.may 1 1 1 abc = true := by decide
theorem abc_uv : Wr.uv 1 = [1] := by rfl
theorem abc_text : Sg.hText 1 1 abc = [1, 1, 97, 98, 99] := by unfold Sg.hText; rw [abc_uv]; rfl
theorem abc_head : Sg.head 1 1 1 abc = (Frm.enc 1 [1, 1, 97, 98, 99], 0) := by
  unfold Sg.head
  rw [if_neg (by rw [abc_may]; simp), abc_text, if_neg (by decide)]
theorem abc_no : Sg.may 0 1 1 abc = false := by decide
theorem abc_parse : Sg.parse (Frm.enc 1 [1, 1, 97, 98, 99]) = (⟨1, 1, 1, abc, [], 21, true⟩, 0) := by
  have h := Sg.parse_head 1 1 1 abc [] abc_may (by rw [abc_text]; decide)
  rw [List.append_nil, abc_text] at h
  rw [h]
  have e : (Frm.scan [] 1).1 = [] := by rfl
  simp only [e]
  rfl
theorem abc_size : (S (Frm.enc 1 [1, 1, 97, 98, 99])).size = 21 := by rw [S_size, Frm.enc_length]; rfl

/-- Three segments, a log's. -/
def three (a b : Option Addr) : List It := [⟨0, 1, 3, ⟨#[]⟩, a, 1, 1, 0, true⟩, ⟨1, 1, 1, ⟨#[]⟩, b, 2, 2, 0, true⟩, ⟨0, 1, 4, ⟨#[]⟩, none, 0, 0, 0, false⟩]
theorem three_row (a b : Option Addr) : Sg.RowOf (three a b) [1, 0, 2] 0 := by
  have hb : Sg.bst (three a b) (three a b).length = some 1 := by rfl
  unfold Sg.RowOf
  rw [hb]
  refine ⟨[0, 2], rfl, rfl, ?_⟩
  refine .step (by rfl) ?_ (.step (by rfl) ?_ (.cut (by rfl)))
  · exact ⟨by show 0 < 3; decide, by rfl, fun i hi => by omega⟩
  · refine ⟨by show 2 < 3; decide, by rfl, fun i hi => ?_⟩
    have h : i = 0 ∨ i = 1 := by omega
    rcases h with rfl | rfl <;> rfl
theorem three_at (W : World) (a b : Option Addr) : RowIs (W.alloc (.cells #[.int .u8 0, .int .u64 1, .int .u64 3, .string ⟨#[]⟩, .slice a 1 1, .int .i64 0, .bool true, .int .u8 1, .int .u64 1, .int .u64 1, .string ⟨#[]⟩, .slice b 2 2, .int .i64 0, .bool true, .int .u8 0, .int .u64 1, .int .u64 4, .string ⟨#[]⟩, .slice none 0 0, .int .i64 0, .bool false] 28 (0, 0))) 7 (some ⟨W.heap.size, 0, none⟩) ((three a b).map icells) := fun i hi => by
  have h3 : i < 3 := hi
  have h : i = 0 ∨ i = 1 ∨ i = 2 := by omega
  rcases h with rfl | rfl | rfl <;> exact ⟨_, 0, rfl, _, _, _, heap_alloc_new W _, (by simp [three, icells]), by rfl⟩
theorem three_ok (a b : Option Addr) : ∀ x ∈ three a b, okI x := fun x hx => by
  simp only [three, List.mem_cons, List.not_mem_nil, or_false] at hx
  rcases hx with rfl | rfl | rfl <;> exact ⟨by simp, by simp, by simp, by simp⟩
theorem places_new (W : World) (t : TypeId) : RowIs (W.alloc (.cells #[.int .i64 1, .int .i64 0, .int .i64 2] t (0, 0))) 1 (some ⟨W.heap.size, 0, none⟩) (([1, 0, 2] : List Nat).map pcell) := RowIs.new W [.int .i64 1, .int .i64 0, .int .i64 2] t (0, 0)
theorem none_row : Sg.RowOf [] [] 3 := by
  have hb : Sg.bst [] ([] : List It).length = none := rfl
  unfold Sg.RowOf
  rw [hb]
  exact ⟨rfl, rfl⟩

set_option maxRecDepth 20000 in
set_option maxHeartbeats 4000000 in
theorem alive11 (w : World) : Calls Try.prog 5 #[] w fun e w' => e = .returned (.bool true) ∧ Below w.heap.size w w' := by
  have hO := Own.refl w
  have HH : Hid (∀ wz, Calls Try.prog 10 #[.int .u8 1, .int .u64 1, .int .u64 1, .string ⟨#[97, 98, 99]⟩] wz fun e w' => e = .returned (.tuple #[.string (S (Frm.enc 1 [1, 1, 97, 98, 99])), .int .i64 0]) ∧ Below wz.heap.size wz w') := Lib.hid (fun wz => by
    have h := seg_head wz 1 1 1 ⟨#[97, 98, 99]⟩ (by decide) (by decide) (by decide) (by decide)
    rw [show L (⟨#[97, 98, 99]⟩ : ByteArray) = abc from rfl, abc_head] at h
    exact h)
  have HH2 : Hid (∀ wz, Calls Try.prog 10 #[.int .u8 0, .int .u64 1, .int .u64 1, .string ⟨#[97, 98, 99]⟩] wz fun e w' => e = .returned (.tuple #[.string (S []), .int .i64 2]) ∧ Below wz.heap.size wz w') := Lib.hid (fun wz => by
    have h := seg_head wz 0 1 1 ⟨#[97, 98, 99]⟩ (by decide) (by decide) (by decide) (by decide)
    rw [show L (⟨#[97, 98, 99]⟩ : ByteArray) = abc from rfl, head_no abc_no] at h
    exact h)
  have HP : Hid (∀ wz, Calls Try.prog 11 #[.string (S (Frm.enc 1 [1, 1, 97, 98, 99]))] wz fun e w' => ∃ a cap, e = .returned (.tuple #[.agg #[.int .u8 1, .int .u64 1, .int .u64 1, .string ⟨#[97, 98, 99]⟩, .slice a 0 cap, .int .i64 21, .bool true], .int .i64 0]) ∧ Below wz.heap.size wz w') := Lib.hid (fun wz => by
    refine (seg_parse (S (Frm.enc 1 [1, 1, 97, 98, 99])) wz (by rw [abc_size]; decide)).mono fun e w' h => ?_
    unfold ParseOut at h
    rw [L_S, abc_parse] at h
    obtain ⟨a, cap, he, _, hb, _⟩ := h
    exact ⟨a, cap, he, hb⟩)
  have hsz := abc_size
  generalize S (Frm.enc 1 [1, 1, 97, 98, 99]) = s at *
  go_enter Try.func5, Try.ntmps5
  go_wp2_with fail
  refine (HH.out _).mono ?_
  rintro e w1 ⟨rfl, hb1⟩
  have HO1 := Lib.hid (hO.trans hb1)
  clear hb1 hO HH
  go_wp2_with fail
  refine (HP.out _).mono ?_
  rintro e w2 ⟨ap, cp, rfl, hb2⟩
  have HO2 := Lib.hid (HO1.out.trans hb2)
  clear hb2 HO1 HP
  go_wp2_with fail
  have hX2 : SBox (w2.alloc (.cells #[.int .u8 1, .int .u64 1, .int .u64 1, .string ⟨#[97, 98, 99]⟩, .slice ap 0 cp, .int .i64 21, .bool true] 28 (0, 0))) w2.heap.size 1 1 1 ⟨#[97, 98, 99]⟩ ap 0 cp 21 true := heap_alloc_new w2 _
  have hO2 := HO2.out.alloc (.cells #[.int .u8 1, .int .u64 1, .int .u64 1, .string ⟨#[97, 98, 99]⟩, .slice ap 0 cp, .int .i64 21, .bool true] 28 (0, 0))
  have HXL : Hid (w.heap.size ≤ w2.heap.size) := Lib.hid HO2.out.size
  clear HO2
  refine (HH2.out _).mono ?_
  rintro e w3 ⟨rfl, hb3⟩
  have HX3 := Lib.hid (hX2.keep (hb3.block _ (blk_lt hX2)))
  have HO3 := Lib.hid (hO2.trans hb3)
  clear hb3 hX2 hO2 HH2
  generalize w2.heap.size = bx at *
  go_wp2_with fail
  have h3 := three_at ((w3.alloc (.cells #[.string ⟨#[99]⟩] 9 (0, 0))).alloc (.cells #[.string ⟨#[97]⟩, .string ⟨#[98]⟩] 9 (0, 0))) (some ⟨w3.heap.size, 0, none⟩) (some ⟨w3.heap.size + 1, 0, none⟩)
  rw [World.size_alloc, World.size_alloc] at h3
  have hX4 := HX3.out.keep (w' := ((w3.alloc (.cells #[.string ⟨#[99]⟩] 9 (0, 0))).alloc (.cells #[.string ⟨#[97]⟩, .string ⟨#[98]⟩] 9 (0, 0))).alloc (.cells #[.int .u8 0, .int .u64 1, .int .u64 3, .string ⟨#[]⟩, .slice (some ⟨w3.heap.size, 0, none⟩) 1 1, .int .i64 0, .bool true, .int .u8 1, .int .u64 1, .int .u64 1, .string ⟨#[]⟩, .slice (some ⟨w3.heap.size + 1, 0, none⟩) 2 2, .int .i64 0, .bool true, .int .u8 0, .int .u64 1, .int .u64 4, .string ⟨#[]⟩, .slice none 0 0, .int .i64 0, .bool false] 28 (0, 0))) (((((Own.refl w3).alloc _).alloc _).alloc _).below.block _ (blk_lt HX3.out))
  have hO4 := (((HO3.out.alloc (.cells #[.string ⟨#[99]⟩] 9 (0, 0))).alloc (.cells #[.string ⟨#[97]⟩, .string ⟨#[98]⟩] 9 (0, 0))).alloc (.cells #[.int .u8 0, .int .u64 1, .int .u64 3, .string ⟨#[]⟩, .slice (some ⟨w3.heap.size, 0, none⟩) 1 1, .int .i64 0, .bool true, .int .u8 1, .int .u64 1, .int .u64 1, .string ⟨#[]⟩, .slice (some ⟨w3.heap.size + 1, 0, none⟩) 2 2, .int .i64 0, .bool true, .int .u8 0, .int .u64 1, .int .u64 4, .string ⟨#[]⟩, .slice none 0 0, .int .i64 0, .bool false] 28 (0, 0)))
  refine (seg_row _ _ 3 (three (some ⟨w3.heap.size, 0, none⟩) (some ⟨w3.heap.size + 1, 0, none⟩)) h3 (by show 3 ≤ 100000; decide) (three_ok _ _)).mono ?_
  rintro e w4 ⟨ra, rc, row, er, rfl, hro, _, hrow, hb4⟩
  obtain ⟨rfl, rfl⟩ := hro.uniq (three_row _ _)
  have HX5 := Lib.hid (hX4.keep (hb4.block _ (blk_lt hX4)))
  have HO5 := Lib.hid (hO4.trans hb4)
  have HROW := Lib.hid hrow
  clear h3 hX4 hO4 hro hrow hb4 HX3 HO3
  go_wp2_with fail
  refine (seg_row _ none 0 [] (RowIs.nil _ _ _) (by decide) (by simp)).mono ?_
  rintro e w5 ⟨ra2, rc2, row, er, rfl, hro, _, _, hb5⟩
  obtain ⟨rfl, rfl⟩ := hro.uniq none_row
  have HX6 := Lib.hid (HX5.out.keep (hb5.block _ (blk_lt HX5.out)))
  have HO6 := Lib.hid (HO5.out.trans hb5)
  have HROW6 := Lib.hid (HROW.out.keep hb5)
  clear hro hb5 HX5 HO5 HROW
  obtain ⟨c0, c1, c2, c3, c4, c5, c6, f0, f1, f2, f3, f4, f5, f6⟩ := HX6.out.facts
  have hbl := blk_lt HX6.out
  have hszI : (s.size : Int) = 21 := by omega
  clear f0 f1 f2 f3 f4 f5 f6 hsz
  go_wp2_with fail
  have hb6 := ((Own.refl w5).alloc (.cells #[.int .i64 1, .int .i64 0, .int .i64 2] 3 (0, 0))).below
  refine (rseg_places _ [1, 0, 2] ra (some ⟨w5.heap.size, 0, none⟩) rc 3 (HROW6.out.keep hb6) (places_new w5 _) (by decide)).mono ?_
  rintro e w7 ⟨rfl, hb7⟩
  have hX7 := (HX6.out.keep (hb6.block _ (blk_lt HX6.out)))
  have hX8 := hX7.keep (hb7.block _ (blk_lt hX7))
  have HO7 := Lib.hid ((HO6.out.alloc (.cells #[.int .i64 1, .int .i64 0, .int .i64 2] 3 (0, 0))).trans hb7)
  clear c0 c1 c2 c3 c4 c5 c6 hbl hb6 hb7 hX7 HX6 HO6 HROW6
  obtain ⟨c0, c1, c2, c3, c4, c5, c6, f0, f1, f2, f3, f4, f5, f6⟩ := hX8.facts
  clear f0 f1 f2 f3 f4 f5 f6 hX8
  have HNX := Lib.hid (fun wz => seg_next wz 1 1 1 0 cp ⟨#[97, 98, 99]⟩ ap 21 true (by decide))
  go_wp2_with fail
  refine (HNX.out _).mono ?_
  rintro e w8 ⟨rfl, hb8⟩
  have HO8 := Lib.hid (HO7.out.trans hb8)
  clear hb8 HO7
  go_wp2_with fail
  go_ret
  exact ⟨rfl, HO8.out.below⟩

end Go.Proofs.Ytboplbcfoooenaa
