/-
  THE WALKS of the statements' own helpers for layer 17: copied, heavy, works.
-/
import Derived.Test.YtllepgdebjfbdaaCellRefE
namespace Go.Proofs.Ytllepgdebjfbdaa
open Go.RowKit
attribute [local go_sem ↓ high] appSem_eq

set_option maxHeartbeats 1000000 in
theorem copied_any (w : World) (c : Cl.Cel) (a : Option Addr) (cap : Nat) (h : VersAt w a c.l) (hn : c.l.length ≤ 1000) (hnil : a = none → cap = 0) :
    Calls Try.prog 9 #[.agg #[.int .u64 c.last, .slice a c.l.length cap]] w fun e w' => KeptOut w c e w' := by
  have HB := Lib.hid (boxes2 w (.cells #[.int .u64 c.last, .slice a c.l.length cap] 25 (0, 0)) (.cells #[.int .u64 0, .slice none 0 0] 25 (0, 0)))
  obtain ⟨s1, c1, w3, hr3, hs3, hu3, hk3⟩ := vapp _ none 0 0 [] (SliceIs.nil _ _ _) a cap c.l (h.keep HB.out.own.below) (by omega) hnil
  rw [Nat.zero_add, List.nil_append] at hs3
  rw [Nat.zero_add] at hr3
  have hb := HB.out.keep hu3.below
  have l2 := hb.lt
  have l1 : w.heap.size < w3.heap.size := by omega
  obtain ⟨k0, k1, r0, r1, f2, f3⟩ := hb.facts
  have f1 := frozen_of_row w3 w.heap.size 1 _ _ hb.b0
  have HF : Hid (VFresh w w3 s1 c1 c.l) := Lib.hid ⟨hs3, fun k hk => by
    rcases hk3 k hk with h | h
    · simp at h
    · exact Nat.le_trans HB.out.own.size h, hb.own⟩
  have HNEW : Hid (∀ k ∈ blks s1, w.heap.size + 1 < k) := Lib.hid fun k hk => by
    rcases hk3 k hk with h | h
    · simp at h
    · have := HB.out.lt; omega
  clear hs3 hu3 hk3 hb h hn hnil HB
  go_enter Try.func9, Try.ntmps9
  go_wp2_with fail
  refine bodyPost_ret (v := .agg #[.int .u64 c.last, .slice s1 c.l.length c1]) (by simp [results, Try.results9, go_sem, k0, k1, r0, r1, f1, f2, f3, l1, l2]) rfl ⟨s1, c1, rfl, ?_⟩
  have hu : Upd w3 (((w3.setCell ⟨w.heap.size, 1, none⟩ (.slice s1 c.l.length c1)).setCell ⟨w.heap.size + 1, 0, none⟩ (.int .u64 c.last)).setCell ⟨w.heap.size + 1, 1, none⟩ (.slice s1 c.l.length c1)) [w.heap.size, w.heap.size + 1] :=
    (((Upd.refl _ _).setCell (.inl (by simp)) _).setCell (.inl (by simp)) _).setCell (.inl (by simp)) _
  exact ⟨HF.out.is.keep fun k hk => hu.keep k (HF.out.is.lt k hk) (by have := HNEW.out k hk; simp; omega), HF.out.new, HF.out.own.upd hu (by simp)⟩

/-- A call of a cell that was handed in. -/
structure Xct where
  kind : Nat
  any : Bool
  want : Nat
  n : Nat
  t : ByteArray
instance : Inhabited Xct := ⟨⟨0, false, 0, 0, ⟨#[]⟩⟩⟩
def acells (a : Xct) : List Value := [.int .u8 a.kind, .bool a.any, .int .u64 a.want, .int .u64 a.n, .string a.t]
def okA (a : Xct) : Prop := a.kind ≤ 255 ∧ a.want < 18446744073709551616 ∧ a.n < 18446744073709551616 ∧ a.t.size ≤ 140737488351232
def ActsAt (w : World) (a : Option Addr) (l : List Xct) : Prop := RowIs w 5 a (l.map acells)
theorem ActsAt.at {w : World} {a : Option Addr} {l : List Xct} (h : ActsAt w a l) (i : Nat) (hi : i < l.length) : ∃ g off, a = some ⟨g, off, none⟩ ∧ w.cell? ⟨g, off + i * 5, none⟩ = some (.int .u8 l[i].kind) ∧ w.cell? ⟨g, off + i * 5 + 1, none⟩ = some (.bool l[i].any) ∧ w.cell? ⟨g, off + i * 5 + 2, none⟩ = some (.int .u64 l[i].want) ∧
    w.cell? ⟨g, off + i * 5 + 3, none⟩ = some (.int .u64 l[i].n) ∧ w.cell? ⟨g, off + i * 5 + 4, none⟩ = some (.string l[i].t) ∧ g < w.heap.size := by
  obtain ⟨g, off, ha, hc⟩ := h i (by simpa using hi)
  have hc' : CellsAt w g (off + i * 5) (acells l[i]) := by simpa using hc
  exact ⟨g, off, ha, hc'.cell 0 (by simp [acells]), hc'.cell 1 (by simp [acells]), hc'.cell 2 (by simp [acells]), hc'.cell 3 (by simp [acells]), hc'.cell 4 (by simp [acells]), hc'.lt⟩
def HeavyOut (c : Cl.Cel) (l : List Xct) (e : Ending) : Prop := ∃ b, e = .returned (.bool b) ∧ (b = false → c.l.length ≤ 20 ∧ l.length ≤ 60)
set_option maxRecDepth 20000 in
set_option maxHeartbeats 2000000 in
theorem heavy_any (w : World) (c : Cl.Cel) (a : Option Addr) (cap : Nat) (al : Option Addr) (capl : Nat) (l : List Xct) (h : VersAt w a c.l) (ok : ∀ v ∈ c.l, okV v) (hl : ActsAt w al l) (okl : ∀ x ∈ l, okA x)
    (hn : c.l.length ≤ 9223372036854775807) (hm : l.length ≤ 9223372036854775807) :
    Calls Try.prog 5 #[.agg #[.int .u64 c.last, .slice a c.l.length cap], .slice al l.length capl] w fun e w' => HeavyOut c l e ∧ Below w.heap.size w w' := by
  have HO := Lib.hid ((Own.refl w).alloc (.cells #[.int .u64 c.last, .slice a c.l.length cap] 25 (0, 0)))
  have hnI : (0 : Int) ≤ c.l.length ∧ (c.l.length : Int) ≤ 9223372036854775807 := by omega
  have hmI : (0 : Int) ≤ l.length ∧ (l.length : Int) ≤ 9223372036854775807 := by omega
  have H := Lib.hid h
  have HL := Lib.hid hl
  have HOK := Lib.hid ok
  have HOL := Lib.hid okl
  obtain ⟨ck0, ck1⟩ := cell_cells (heap_alloc_new w (.cells #[.int .u64 c.last, .slice a c.l.length cap] 25 (0, 0)))
  have HV := Lib.hid (h.keep HO.out.below)
  have HVL := Lib.hid (RowIs.keep hl HO.out.below)
  have hlw : w.heap.size < (w.alloc (.cells #[.int .u64 c.last, .slice a c.l.length cap] 25 (0, 0))).heap.size := by simp
  clear h hl ok okl hn hm H HL
  go_enter Try.func5, Try.ntmps5
  go_wp2_with fail
  generalize w.alloc (.cells #[.int .u64 c.last, .slice a c.l.length cap] 25 (0, 0)) = W at *
  go_loop [5, 6] (fun vx vi => ∃ i x : Nat, i ≤ 40 ∧ i ≤ c.l.length ∧ vi = .int .i64 i ∧ vx = .int .i64 x ∧ x ≤ i * 140737488351232) (fun _ vi => 40 - (intOf vi).toNat)
  case atStart => exact ⟨0, 0, by omega, by omega, rfl, rfl, by omega⟩
  case round =>
    obtain ⟨i, x, hi, hi2, rfl, rfl, hx⟩ := hrel
    have hxI : (0 : Int) ≤ x ∧ (x : Int) ≤ 5629499534049280 := by omega
    by_cases hlt : i < c.l.length
    · by_cases h40 : i < 40
      · have hiI : (0 : Int) ≤ i ∧ (i : Int) < c.l.length ∧ (i : Int) < 40 := by omega
        obtain ⟨g, off, rfl, k0, k1, k2, hgl⟩   := HV.out.at i hlt
        have ht := (HOK.out c.l[i] (List.getElem_mem hlt)).2.2
        generalize c.l[i] = v at *
        have htI : (0 : Int) ≤ v.t.size ∧ (v.t.size : Int) ≤ 140737488351232 := by omega
        have HX := Lib.hid hx
        clear hx ht h40
        go_wp2_with fail
        go_round
        case rel => exact ⟨i + 1, x + v.t.size, by omega, by omega, by go_num, by go_num, by have := HX.out; omega⟩
        case measure => simp only [intOf]; omega
      · have h1 : (i : Int) < c.l.length := by omega
        have h2 : ¬ ((i : Int) < 40) := by omega
        have hcI : (20 : Int) < c.l.length := by omega
        clear hlt h40
        have HX0 := Lib.hid (show x ≤ 5629499534049280 by omega)
        clear hx
        go_wp2_with fail
        clear hi hi2 h1 h2
        go_loop [5, 7] (fun vx vi => ∃ j y : Nat, j ≤ 100 ∧ j ≤ l.length ∧ vi = .int .i64 j ∧ vx = .int .i64 y ∧ y ≤ 5629499534049280 + j * 140737488351232) (fun _ vi => 100 - (intOf vi).toNat)
        case atStart => exact ⟨0, x, Nat.zero_le _, Nat.zero_le _, rfl, rfl, by have := HX0.out; omega⟩
        case round =>
          obtain ⟨j, y, hj, hj2, rfl, rfl, hy⟩ := hrel
          have hyI : (0 : Int) ≤ y ∧ (y : Int) ≤ 19703248369172480 := by omega
          by_cases hlt2 : j < l.length
          · by_cases h100 : j < 100
            · have hjI : (0 : Int) ≤ j ∧ (j : Int) < l.length ∧ (j : Int) < 100 := by omega
              obtain ⟨g2, off2, rfl, q0, q1, q2, q3, q4, hgl2⟩ := ActsAt.at HVL.out j hlt2
              have ht := (HOL.out l[j] (List.getElem_mem hlt2)).2.2.2
              generalize l[j] = v2 at *
              have htI : (0 : Int) ≤ v2.t.size ∧ (v2.t.size : Int) ≤ 140737488351232 := by omega
              have HY := Lib.hid hy
              clear hy ht h100 hj
              go_wp2_with fail
              go_round
              case rel =>
                refine ⟨j + 1, y + v2.t.size, by omega, by omega, ?_, ?_, by have := HY.out; omega⟩
                · go_num
                · go_num
              case measure => simp only [intOf]; omega
            · have hjI : (j : Int) < l.length ∧ (j : Int) = 100 := by omega
              have hlI : (60 : Int) < l.length := by omega
              have hj2I : (j : Int) < l.length := by omega
              have hj3I : ¬ ((j : Int) < 100) := by omega
              clear hlt2 h100 hj hj2 hy hjI
              go_wp2_with fail
              go_ret
              exact ⟨⟨_, rfl, fun h => by cases h⟩, HO.out.below⟩
          · have hjI : ¬ ((j : Int) < l.length) := by omega
            clear hlt2 hj hj2 hy
            go_wp2_with fail
            go_ret
            exact ⟨⟨_, rfl, fun h => by cases h⟩, HO.out.below⟩
    · have h1 : ¬ ((i : Int) < c.l.length) := by omega
      clear hlt
      have HX0 := Lib.hid (show x ≤ 5629499534049280 by omega)
      clear hx
      go_wp2_with fail
      clear hi hi2 h1
      go_loop [5, 7] (fun vx vi => ∃ j y : Nat, j ≤ 100 ∧ j ≤ l.length ∧ vi = .int .i64 j ∧ vx = .int .i64 y ∧ y ≤ 5629499534049280 + j * 140737488351232) (fun _ vi => 100 - (intOf vi).toNat)
      case atStart => exact ⟨0, x, Nat.zero_le _, Nat.zero_le _, rfl, rfl, by have := HX0.out; omega⟩
      case round =>
        obtain ⟨j, y, hj, hj2, rfl, rfl, hy⟩ := hrel
        have hyI : (0 : Int) ≤ y ∧ (y : Int) ≤ 19703248369172480 := by omega
        by_cases hlt2 : j < l.length
        · by_cases h100 : j < 100
          · have hjI : (0 : Int) ≤ j ∧ (j : Int) < l.length ∧ (j : Int) < 100 := by omega
            obtain ⟨g2, off2, rfl, q0, q1, q2, q3, q4, hgl2⟩ := ActsAt.at HVL.out j hlt2
            have ht := (HOL.out l[j] (List.getElem_mem hlt2)).2.2.2
            generalize l[j] = v2 at *
            have htI : (0 : Int) ≤ v2.t.size ∧ (v2.t.size : Int) ≤ 140737488351232 := by omega
            have HY := Lib.hid hy
            clear hy ht h100 hj
            go_wp2_with fail
            go_round
            case rel =>
              refine ⟨j + 1, y + v2.t.size, by omega, by omega, ?_, ?_, by have := HY.out; omega⟩
              · go_num
              · go_num
            case measure => simp only [intOf]; omega
          · have hjI : (j : Int) < l.length ∧ (j : Int) = 100 := by omega
            have hlI : (60 : Int) < l.length := by omega
            have hj2I : (j : Int) < l.length := by omega
            have hj3I : ¬ ((j : Int) < 100) := by omega
            clear hlt2 h100 hj hj2 hy hjI
            by_cases hc : c.l.length ≤ 20
            · have hcI : (c.l.length : Int) ≤ 20 := by omega
              clear hc
              go_wp2_with fail
              go_ret
              exact ⟨⟨_, rfl, fun h => by cases h⟩, HO.out.below⟩
            · have hcI : (20 : Int) < c.l.length := by omega
              clear hc
              go_wp2_with fail
              go_ret
              exact ⟨⟨_, rfl, fun h => by cases h⟩, HO.out.below⟩
        · have hjI : ¬ ((j : Int) < l.length) := by omega
          clear hlt2 hj hj2 hy
          by_cases hc : c.l.length ≤ 20
          · have hcI : (c.l.length : Int) ≤ 20 := by omega
            by_cases hl : l.length ≤ 60
            · have hlI : (l.length : Int) ≤ 60 := by omega
              have HR := Lib.hid (And.intro hc hl)
              clear hc hl
              by_cases hz : (32768 : Int) < y
              · go_wp2_with fail
                go_ret
                exact ⟨⟨_, rfl, fun h => by cases h⟩, HO.out.below⟩
              · have hzI : (y : Int) ≤ 32768 := by omega
                go_wp2_with fail
                go_ret
                exact ⟨⟨_, rfl, fun _ => HR.out⟩, HO.out.below⟩
            · have hlI : (60 : Int) < l.length := by omega
              clear hl
              go_wp2_with fail
              go_ret
              exact ⟨⟨_, rfl, fun h => by cases h⟩, HO.out.below⟩
          · have hcI : (20 : Int) < c.l.length := by omega
            clear hc
            go_wp2_with fail
            go_ret
            exact ⟨⟨_, rfl, fun h => by cases h⟩, HO.out.below⟩

end Go.Proofs.Ytllepgdebjfbdaa
