/-
  THE WALKS of package cell: May, Now, Size.
-/
import Derived.Test.YtllepgdebjfbdaaCellHist
import Derived.Test.YtllepgdebjfbdaaRowMore
import Derived.Test.YtllepgdebjfbdaaBytes8
namespace Go.Proofs.Ytllepgdebjfbdaa
open Go.RowKit

/-- A version's cells. -/
def vcells (v : Cl.Ver) : List Value := [.int .u64 v.n, .int .u8 v.st, .string v.t]
/-- The versions of a cell lie there. -/
def VersAt (w : World) (a : Option Addr) (l : List Cl.Ver) : Prop := RowIs w 3 a (l.map vcells)
theorem VersAt.keep {w w' : World} {a : Option Addr} {l : List Cl.Ver} (h : VersAt w a l) (hb : Below w.heap.size w w') : VersAt w' a l := RowIs.keep h hb
theorem VersAt.at {w : World} {a : Option Addr} {l : List Cl.Ver} (h : VersAt w a l) (i : Nat) (hi : i < l.length) : ∃ g off, a = some ⟨g, off, none⟩ ∧ w.cell? ⟨g, off + i * 3, none⟩ = some (.int .u64 l[i].n) ∧ w.cell? ⟨g, off + i * 3 + 1, none⟩ = some (.int .u8 l[i].st) ∧ w.cell? ⟨g, off + i * 3 + 2, none⟩ = some (.string l[i].t) ∧ g < w.heap.size := by
  obtain ⟨g, off, ha, hc⟩ := h i (by simpa using hi)
  have hc' : CellsAt w g (off + i * 3) (vcells l[i]) := by simpa using hc
  exact ⟨g, off, ha, hc'.cell 0 (by simp [vcells]), hc'.cell 1 (by simp [vcells]), hc'.cell 2 (by simp [vcells]), hc'.lt⟩
/-- Numbers and texts are no larger than Go's. -/
def okV (v : Cl.Ver) : Prop := v.n < 18446744073709551616 ∧ v.st ≤ 255 ∧ v.t.size ≤ 140737488351232
theorem empty_text (t : ByteArray) : t.toList.isEmpty = decide (t.size = 0) := by
  rw [ByteArray.toList_eq]
  have e : t.size = t.data.toList.length := by rw [Array.length_toList]; rfl
  rw [e]
  cases t.data.toList <;> simp
theorem cell_cells {w : World} {b : Nat} {last : Int} {a : Option Addr} {n cap : Nat} (h : w.heap[b]? = some (.cells #[.int .u64 last, .slice a n cap] 25 (0, 0))) :
    w.cell? ⟨b, 0, none⟩ = some (.int .u64 last) ∧ w.cell? ⟨b, 1, none⟩ = some (.slice a n cap) := by
  constructor
  all_goals rw [cell_of_row w b _ _ _ _ h]; rfl

set_option maxHeartbeats 1000000 in
theorem may_any (w : World) (c : Cl.Cel) (a : Option Addr) (cap : Nat) (h : VersAt w a c.l) (ok : ∀ v ∈ c.l, okV v) (hl : c.last < 18446744073709551616) (hn : c.l.length ≤ 9223372036854775807) :
    Calls Try.prog 12 #[.agg #[.int .u64 c.last, .slice a c.l.length cap]] w fun e w' => e = .returned (.bool (Cl.may c)) ∧ Below w.heap.size w w' := by
  have H := Lib.hid h
  have HOK := Lib.hid ok
  have hlI : (0 : Int) ≤ c.last ∧ (c.last : Int) ≤ 18446744073709551615 := by omega
  have hnI : (0 : Int) ≤ c.l.length ∧ (c.l.length : Int) ≤ 9223372036854775807 := by omega
  have hbx := heap_alloc_new w (.cells #[.int .u64 c.last, .slice a c.l.length cap] 25 (0, 0))
  have HBX := Lib.hid hbx
  have HO := Lib.hid ((Own.refl w).alloc (.cells #[.int .u64 c.last, .slice a c.l.length cap] 25 (0, 0)))
  clear h ok hl hn hbx
  go_enter Try.func12, Try.ntmps12
  go_wp2_with fail
  go_loopw [3, 10] (fun vx vi wr => ∃ i x : Nat, i ≤ c.l.length ∧ vi = .int .i64 i ∧ vx = .int .u64 x ∧ x < 18446744073709551616 ∧ Cl.mayF 0 c.l = Cl.mayF x (c.l.drop i) ∧ wr.heap[w.heap.size]? = some (.cells #[.int .u64 c.last, .slice a c.l.length cap] 25 (0, 0)) ∧ Own w.heap.size w wr)
    (fun _ vi _ => c.l.length - (intOf vi).toNat)
  case atStart => exact ⟨0, 0, Nat.zero_le _, rfl, rfl, by decide, rfl, HBX.out, HO.out⟩
  case round =>
    clear HBX HO
    obtain ⟨i, x, hi, rfl, rfl, hx, hf, hb, hO⟩ := hrel
    have HB := Lib.hid hb
    have HO := Lib.hid hO
    have hxI : (0 : Int) ≤ x ∧ (x : Int) ≤ 18446744073709551615 := by omega
    by_cases hlt : i < c.l.length
    · have hiI : (0 : Int) ≤ i ∧ (i : Int) < c.l.length := by omega
      obtain ⟨g, off, rfl, k0, k1, k2, _⟩ := (H.out.keep hO.below).at i hlt
      have o := HOK.out c.l[i] (List.getElem_mem hlt)
      rw [List.drop_eq_getElem_cons hlt, Cl.mayF] at hf
      have hf2 : Cl.verOk x c.l[i] = false → Cl.may c = false := fun e => by
        unfold Cl.may
        rw [hf, e]; simp
      have HF := Lib.hid hf
      have HF2 := Lib.hid hf2
      obtain ⟨o1, o2, o3⟩ := o
      have h1I : (0 : Int) ≤ c.l[i].n ∧ (c.l[i].n : Int) ≤ 18446744073709551615 := by omega
      have h2I : (0 : Int) ≤ c.l[i].st ∧ (c.l[i].st : Int) ≤ 255 := by omega
      have h3I : (0 : Int) ≤ c.l[i].t.size ∧ (c.l[i].t.size : Int) ≤ 140737488351232 := by omega
      have hem := empty_text c.l[i].t
      have HO1 := Lib.hid o1
      clear hb hO hx hf hf2 o1 o2 o3
      generalize hv : c.l[i] = v at *
      clear hv
      by_cases b1 : v.n ≤ x
      · have b1I : (v.n : Int) ≤ x := by omega
        have HE := Lib.hid (HF2.out (by unfold Cl.verOk; simp; omega))
        clear b1
        go_wp2_with fail
        go_ret
        exact ⟨by rw [HE.out]; rfl, (HO.out.alloc _).below⟩
      · have b1I : (x : Int) < v.n := by omega
        by_cases b2 : v.st < 1
        · have b2I : (v.st : Int) < 1 := by omega
          have b2J : ¬ ((v.st : Int) = 1) := by omega
          have HE := Lib.hid (HF2.out (by unfold Cl.verOk; simp; omega))
          clear b1 b2
          go_wp2_with fail
          go_ret
          exact ⟨by rw [HE.out]; rfl, (HO.out.alloc _).below⟩
        · have b2I : (1 : Int) ≤ v.st := by omega
          by_cases b3 : 3 < v.st
          · have b3I : (3 : Int) < v.st := by omega
            have b3J : ¬ ((v.st : Int) = 1) := by omega
            have HE := Lib.hid (HF2.out (by unfold Cl.verOk; simp; omega))
            clear b1 b2 b3
            go_wp2_with fail
            go_ret
            exact ⟨by rw [HE.out]; rfl, (HO.out.alloc _).below⟩
          · have b3I : (v.st : Int) ≤ 3 := by omega
            by_cases b4 : v.st = 1
            · have b4I : (v.st : Int) = 1 := by omega
              by_cases b5 : 4096 < v.t.size
              · have b5I : (4096 : Int) < v.t.size := by omega
                have HE := Lib.hid (HF2.out (by unfold Cl.verOk; simp [b4]; omega))
                clear b1 b2 b3 b4 b5
                go_wp2_with fail
                go_ret
                exact ⟨by rw [HE.out]; rfl, (HO.out.alloc _).below⟩
              · have b5I : (v.t.size : Int) ≤ 4096 := by omega
                have hok : Cl.verOk x v = true := by unfold Cl.verOk; simp [b4]; omega
                have HE := Lib.hid hok
                clear b1 b2 b3 b4 b5 hok
                go_wp2_with fail
                go_roundw
                case rel =>
                  refine ⟨i + 1, v.n, by omega, rfl, rfl, by omega, ?_, ?_, HO.out.alloc _⟩
                  · rw [HF.out, if_pos HE.out]
                  · rw [Below.heap_alloc _ _ _ (blk_lt HB.out)]; exact HB.out
                case measure => simp only [intOf]; omega
            · have b4I : ¬ ((v.st : Int) = 1) := by omega
              have b4J : ((v.st : Int) == 1) = false := by simp; omega
              by_cases b5 : v.t.size = 0
              · have hok : Cl.verOk x v = true := by unfold Cl.verOk; simp [b4, b5]; omega
                have HE := Lib.hid hok
                clear b1 b2 b3 b4 hok
                go_wp2_with fail
                go_roundw
                case rel =>
                  refine ⟨i + 1, v.n, by omega, rfl, rfl, by omega, ?_, ?_, HO.out.alloc _⟩
                  · rw [HF.out, if_pos HE.out]
                  · rw [Below.heap_alloc _ _ _ (blk_lt HB.out)]; exact HB.out
                case measure => simp only [intOf]; omega
              · have HE := Lib.hid (HF2.out (by unfold Cl.verOk; simp [b4, b5]))
                clear b1 b2 b3 b4
                go_wp2_with fail
                go_ret
                exact ⟨by rw [HE.out]; rfl, (HO.out.alloc _).below⟩
    · have hiI : (i : Int) = c.l.length := by omega
      have hm : Cl.may c = (decide (c.l.length ≤ 8) && decide (x = c.last)) := by
        unfold Cl.may
        rw [hf, List.drop_of_length_le (by omega)]
        unfold Cl.mayF
        congr 1
      have HM := Lib.hid hm
      obtain ⟨ck0, ck1⟩ := cell_cells hb
      by_cases h8 : c.l.length ≤ 8
      · have h8I : (c.l.length : Int) ≤ 8 := by omega
        by_cases hx : x = c.last
        · have HE := Lib.hid (show Cl.may c = true by rw [HM.out]; simp [h8, hx])
          subst hx
          clear hm hf hlt hb hO h8
          go_wp2_with fail
          go_ret
          exact ⟨by rw [HE.out]; rfl, HO.out.below⟩
        · have HE := Lib.hid (show Cl.may c = false by rw [HM.out]; simp [h8, hx])
          have hxI : ((c.last : Int) == (x : Int)) = false := by simp; omega
          clear hm hf hx hlt hb hO h8
          go_wp2_with fail
          go_ret
          exact ⟨by rw [HE.out]; rfl, HO.out.below⟩
      · have h8I : (8 : Int) < c.l.length := by omega
        have HE := Lib.hid (show Cl.may c = false by rw [HM.out]; simp [h8])
        clear hm hf hx hlt hb hO h8
        go_wp2_with fail
        go_ret
        exact ⟨by rw [HE.out]; rfl, HO.out.below⟩

end Go.Proofs.Ytllepgdebjfbdaa
