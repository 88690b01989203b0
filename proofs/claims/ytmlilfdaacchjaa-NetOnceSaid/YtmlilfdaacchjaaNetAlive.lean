/-
  THE WALKS of the statements' small known answers for layer 21, and of NetFull.
-/
import Derived.Test.YtmlilfdaacchjaaNetTwo
namespace Go.Proofs.Ytmlilfdaacchjaa
open Go.RowKit

/-- The messages of the known answers. -/
def ga : Gram := ⟨0#32, 1#32, ⟨#[97]⟩⟩
def gb : Gram := ⟨0#32, 2#32, ⟨#[98]⟩⟩
def gc : Gram := ⟨0#32, 1#32, ⟨#[99]⟩⟩

set_option maxRecDepth 20000 in
set_option maxHeartbeats 2000000 in
theorem alive21 (w : World) :
    Calls Try.prog 7 #[] w fun e w' => e = .returned (.bool true) ∧ Below w.heap.size w w' := by
  have s0 : sendCode 0 = 0 := rfl
  have s1 : sendCode 1 = 0 := rfl
  have s2 : sendCode 2 = 0 := rfl
  have s3 : doubleCode 2 = 0 := rfl
  have HL : Hid (Two w w NoR NoR []) := Two.start w
  go_enter Try.func7, Try.ntmps7
  go_wp2_with fail
  refine (two_new NoR.loc HL.out).mono ?_
  rintro e w1 ⟨rfl, hL⟩
  replace HL : Hid (Two w w1 (NetR w.heap.size []) NoR []) := Lib.hid hL
  clear hL
  go_wp2_with fail
  refine (two_send NoR.loc ga HL.out).mono ?_
  rintro e w1 ⟨rfl, hL⟩
  replace HL : Hid (Two w w1 (NetR w.heap.size [ga]) NoR []) := Lib.hid hL
  clear hL
  go_wp2_with fail
  refine (two_send NoR.loc gb HL.out).mono ?_
  rintro e w1 ⟨rfl, hL⟩
  replace HL : Hid (Two w w1 (NetR w.heap.size [ga, gb]) NoR []) := Lib.hid hL
  clear hL
  go_wp2_with fail
  refine (two_send NoR.loc gc HL.out).mono ?_
  rintro e w1 ⟨rfl, hL⟩
  replace HL : Hid (Two w w1 (NetR w.heap.size [ga, gb, gc]) NoR []) := Lib.hid hL
  clear hL
  go_wp2_with fail
  refine (two_take NoR.loc 4 (by omega) 1 rfl (by decide) HL.out).mono ?_
  rintro e w1 ⟨rfl, hL⟩
  rw [show (gcells ([ga, gb, gc][1]'(by decide))).toArray = #[.int .u32 0, .int .u32 2, .string ⟨#[98]⟩] from rfl]
  replace HL : Hid (Two w w1 (NetR w.heap.size [ga, gc]) NoR []) := Lib.hid hL
  clear hL
  go_wp2_with fail
  have hL1 := HL.out.alloc (NetR.loc _ _) NoR.loc (.cells #[.int .u32 0, .int .u32 2, .string ⟨#[98]⟩] 33)
  have HL1 := Lib.hid hL1
  clear hL1 HL
  generalize w1.heap.size = B5 at *
  generalize w1.alloc (.cells #[.int .u32 0, .int .u32 2, .string ⟨#[98]⟩] 33) = W1 at *
  refine (two_double NoR.loc 0 (by omega) HL1.out).mono ?_
  rintro e w2 ⟨rfl, hL⟩
  have HL2 : Hid (Two w w2 (NetR w.heap.size [ga, gc, ga]) NoR _) := Lib.hid hL
  clear hL HL1
  go_wp2_with fail
  refine (two_all HL2.out).mono ?_
  rintro e w3 ⟨a, cap, rfl, hs, hb, hn⟩
  have hL3 := HL2.out.below (NetR.loc _ _) NoR.loc hb
  obtain ⟨g, off, rfl⟩ := hs.there (by decide)
  have hB5 := hL3.got (k := B5) (o := .cells #[.int .u32 0, .int .u32 2, .string ⟨#[98]⟩] 33) (by simp)
  have c5 : w3.cell? ⟨B5, 2, none⟩ = some (.string ⟨#[98]⟩) := by rw [cell_of_row _ _ _ _ _ _ hB5]; rfl
  have hc := hs.cells
  have c0 : w3.cell? ⟨g, off + 2, none⟩ = some (.string ⟨#[97]⟩) := hc.cell 2 (by decide)
  have c1 : w3.cell? ⟨g, off + 3 + 2, none⟩ = some (.string ⟨#[99]⟩) := hc.cell 5 (by decide)
  have c2 : w3.cell? ⟨g, off + 6 + 2, none⟩ = some (.string ⟨#[97]⟩) := hc.cell 8 (by decide)
  have HL3 := Lib.hid hL3
  clear hL3 HL2 hs hb hn hB5 hc
  go_wp2_with fail
  refine (two_to 1#32 HL3.out).mono ?_
  rintro e w4 ⟨rfl, hb⟩
  rw [show ((toCount 1#32 [ga, gc, ga] : Nat) : Int) = 3 from by decide]
  have HL4 := Lib.hid (HL3.out.below (NetR.loc _ _) NoR.loc hb)
  clear hb HL3
  go_wp2_with fail
  refine (two_len HL4.out).mono ?_
  rintro e w5 ⟨rfl, rfl⟩
  go_wp2_with fail
  go_ret
  exact ⟨rfl, HL4.out.own⟩

end Go.Proofs.Ytmlilfdaacchjaa
