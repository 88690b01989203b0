/-
  THE WALK of segment.Row.
-/
import Derived.Test.YtboplbcfoooenaaSegMap
import Derived.Test.YtboplbcfoooenaaSegParse
import Derived.Test.YtboplbcfoooenaaSegSmall
import Derived.Carry
import Derived.Deep.CutBlock
import Derived.Deep.DeepCutAuto
namespace Go.Proofs.Ytboplbcfoooenaa
open Go.RowKit Go.Maps

attribute [local go_sem ↓ high] appSem_eq

theorem intInfo : (Try.prog.info? 3).map (fun i => (i.zero, i.size, i.bytes)) = some (some (.int .i64 0), 1, 8) := by kernel_rfl
/-- An element's cells. -/
theorem RowIs.it {w : World} {a : Option Addr} {l : List It} (h : RowIs w 7 a (l.map icells)) (i : Nat) (hi : i < l.length) : ∃ g off, a = some ⟨g, off, none⟩ ∧
    w.cell? ⟨g, off + i * 7, none⟩ = some (.int .u8 (l[i]!).kind) ∧ w.cell? ⟨g, off + i * 7 + 1, none⟩ = some (.int .u64 (l[i]!).gen) ∧ w.cell? ⟨g, off + i * 7 + 2, none⟩ = some (.int .u64 (l[i]!).first) ∧
    w.cell? ⟨g, off + i * 7 + 3, none⟩ = some (.string (l[i]!).t) ∧ w.cell? ⟨g, off + i * 7 + 4, none⟩ = some (.slice (l[i]!).ra (l[i]!).n (l[i]!).rcap) ∧ w.cell? ⟨g, off + i * 7 + 5, none⟩ = some (.int .i64 (l[i]!).used) ∧ w.cell? ⟨g, off + i * 7 + 6, none⟩ = some (.bool (l[i]!).whole) ∧ g < w.heap.size := by
  obtain ⟨g, off, ha, hc⟩ := h i (by simpa using hi)
  rw [List.getElem_map] at hc
  rw [get_bang l i hi]
  exact ⟨g, off, ha, hc.cell 0 (by simp [icells]), hc.cell 1 (by simp [icells]), hc.cell 2 (by simp [icells]), hc.cell 3 (by simp [icells]), hc.cell 4 (by simp [icells]), hc.cell 5 (by simp [icells]), hc.cell 6 (by simp [icells]), hc.lt⟩
/-- One element in a box of its own. -/
def ItBox (w : World) (b : Nat) (x : It) : Prop := w.heap[b]? = some (.cells #[.int .u8 x.kind, .int .u64 x.gen, .int .u64 x.first, .string x.t, .slice x.ra x.n x.rcap, .int .i64 x.used, .bool x.whole] 28 (0, 0))

def rowLen : Value → Nat
  | .slice _ n _ => n
  | _ => 0
theorem SliceIs.one (w : World) (v : Value) (e : TypeId) : SliceIs (w.alloc (.cells #[v] e (0, 0))) e 1 (some ⟨w.heap.size, 0, none⟩) 1 1 [v] :=
  ⟨rfl, .inr ⟨_, 0, #[v], rfl, heap_alloc_new w _, Nat.le_refl _, by decide, by simp, by simp⟩⟩
/-- Where Row stands behind so many rounds. -/
structure RowAt (w W : World) (l : List It) (g mb at0 at1 : Nat) (taken : Nat → Bool) (rt : List Nat) (ra : Option Addr) (rc : Nat) : Prop where
  lt : at1 < l.length
  row : SliceIs W 3 1 ra (rt.length + 1) rc ((at0 :: rt).map fun i : Nat => .int .i64 i)
  far : ∀ x ∈ blks ra, mb < x
  map : LeftMap W mb l.length (leftF l g taken l.length)
  own : Own w.heap.size w W
  base : w.heap.size ≤ mb
  goes : ∀ r, Sg.Chain l g taken at1 r → Sg.Chain l g (fun _ => false) at0 (rt ++ r)
  cnt : rt.length = Sg.cntT taken l.length
theorem cntT_none (k : Nat) : Sg.cntT (fun _ => false) k = 0 := by
  induction k with
  | zero => rfl
  | succ k ih => unfold Sg.cntT; rw [ih]; rfl
theorem Chain.snoc {l : List It} {g at0 at1 j : Nat} {taken : Nat → Bool} {rt : List Nat} (h : ∀ r, Sg.Chain l g taken at1 r → Sg.Chain l g (fun _ => false) at0 (rt ++ r)) (hw : (l[at1]!).whole = true) (hn : Sg.IsNext (Sg.may1 l g (l[at1]!).next taken) l.length (some j)) :
    ∀ r, Sg.Chain l g (Sg.upd taken j) j r → Sg.Chain l g (fun _ => false) at0 ((rt ++ [j]) ++ r) := fun r hr => by
  rw [List.append_assoc]
  exact h _ (.step hw hn hr)
theorem cnt_step {l : List It} {g tgt j : Nat} {taken : Nat → Bool} {rt : List Nat} (h : rt.length = Sg.cntT taken l.length) (hn : Sg.IsNext (Sg.may1 l g tgt taken) l.length (some j)) : (rt ++ [j]).length = Sg.cntT (Sg.upd taken j) l.length ∧ rt.length < l.length := by
  have e := Sg.cntT_upd taken j (Sg.may1_taken hn.2.1).1 l.length hn.1
  have h2 := Sg.cntT_le (Sg.upd taken j) l.length
  rw [List.length_append, e]
  exact ⟨by simp [h], by omega⟩

set_option maxRecDepth 20000 in
set_option maxHeartbeats 1000000 in
theorem seg_row (w : World) (a : Option Addr) (cap : Nat) (l : List It) (hr : RowIs w 7 a (l.map icells)) (hl : l.length ≤ 100000) (ok : ∀ x ∈ l, okI x) :
    Calls Try.prog 7 #[.slice a l.length cap] w fun e w' => ∃ (ra : Option Addr) (rc : Nat) (row : List Nat) (er : Nat), e = .returned (.tuple #[.slice ra row.length rc, .int .i64 er]) ∧ Sg.RowOf l row er ∧ row.length ≤ 100001 ∧ RowIs w' 1 ra (row.map pcell) ∧ Below w.heap.size w w' := by
  have hO := Own.refl w
  have HR := Lib.hid hr
  have HOK : Hid (∀ i, i < l.length → okI l[i]!) := Lib.hid (fun i hi => by rw [get_bang l i hi]; exact ok _ (List.getElem_mem hi))
  have hlI : (0 : Int) ≤ l.length ∧ (l.length : Int) ≤ 100000 := by omega
  have HL := Lib.hid hl
  have hmm := @run_makeMap Try.prog
  have HO := Lib.hid hO
  clear hr ok hl hO
  go_enter Try.func7, Try.ntmps7
  go_wp2_with fail
  go_loopw [4, 16] (fun va vi wr => ∃ i : Nat, i ≤ l.length ∧ vi = .int .i64 i ∧ va = .int .i64 (atV (Sg.bst l i)) ∧ Own w.heap.size w wr) (fun _ vi _ => l.length - (intOf vi).toNat)
  case atStart => exact ⟨0, Nat.zero_le _, rfl, rfl, HO.out⟩
  case round =>
    clear HO
    obtain ⟨i, hi, rfl, rfl, hO⟩ := hrel
    have HO := Lib.hid hO
    clear hO
    by_cases hlt : i < l.length
    · obtain ⟨g, off, rfl, c0, c1, c2, c3, c4, c5, c6, hg⟩ := (HR.out.keep HO.out.below).it i hlt
      have hiI : (0 : Int) ≤ i ∧ (i : Int) < l.length := by omega
      have HIO := HOK.out i hlt
      have hk256 := HIO.kind
      clear HIO
      by_cases hk : (l[i]!).kind = 1
      · cases hb : Sg.bst l i with
        | none =>
          have HN : Hid (Sg.bst l (i + 1) = some i) := Lib.hid (by rw [Sg.bst_succ, hb]; simp only; rw [if_pos hk])
          have hat : atV (none : Option Nat) = -1 := rfl
          rw [hat]
          have hkI : ((l[i]!).kind : Int) = 1 := by omega
          rw [hkI] at c0
          clear hb hat hk hkI hk256
          generalize l[i]! = x at *
          go_wp2_with fail
          go_quiet (fail)
          go_wp2_with fail
          go_roundw
          case rel => exact ⟨i + 1, by omega, by go_num, by rw [HN.out]; first | rfl | simp [atV], (HO.out.alloc _).drewN _⟩
          case measure => simp [intOf]; omega
        | some j =>
          have hj := Sg.bst_lt l hb
          obtain ⟨g', off', ha', d0, d1, d2, d3, d4, d5, d6, hg'⟩ := (HR.out.keep HO.out.below).it j (by omega)
          injection ha' with ha'
          injection ha' with hga hoff hnn
          subst hga hoff
          have hat : atV (some j) = (j : Int) := rfl
          rw [hat]
          have hjI : (0 : Int) ≤ j ∧ (j : Int) < l.length := by omega
          have hkI : ((l[i]!).kind : Int) = 1 := by omega
          rw [hkI] at c0
          by_cases hgt : (l[j]!).gen < (l[i]!).gen
          · have HN : Hid (Sg.bst l (i + 1) = some i) := Lib.hid (by rw [Sg.bst_succ, hb]; simp only; rw [if_pos ⟨hk, hgt⟩])
            have hgI : ((l[j]!).gen : Int) < (l[i]!).gen := by omega
            clear hb hat hk hkI hk256 hgt hnn d0 d2 d3 d4 d5 d6 hg' hj
            generalize l[i]! = x at *
            generalize l[j]! = y at *
            go_wp2_with fail
            go_quiet (fail)
            go_wp2_with fail
            go_roundw
            case rel => exact ⟨i + 1, by omega, by go_num, by rw [HN.out]; first | rfl | simp [atV], (HO.out.alloc _).drewN _⟩
            case measure => simp [intOf]; omega
          · have HN : Hid (Sg.bst l (i + 1) = some j) := Lib.hid (by rw [Sg.bst_succ, hb]; simp only; rw [if_neg (fun h => hgt h.2)])
            have hgI : ((l[i]!).gen : Int) ≤ (l[j]!).gen := by omega
            clear hb hat hk hkI hk256 hgt hnn d0 d2 d3 d4 d5 d6 hg' hj
            generalize l[i]! = x at *
            generalize l[j]! = y at *
            go_wp2_with fail
            go_quiet (fail)
            go_wp2_with fail
            go_roundw
            case rel => exact ⟨i + 1, by omega, by go_num, by rw [HN.out]; first | rfl | simp [atV], (HO.out.alloc _).drewN _⟩
            case measure => simp [intOf]; omega
      · have HN : Hid (atV (Sg.bst l (i + 1)) = atV (Sg.bst l i)) := Lib.hid (by
          rw [Sg.bst_succ]
          cases hb : Sg.bst l i with
          | none => simp only; rw [if_neg hk]
          | some j => simp only; rw [if_neg (fun h => hk h.1)])
        have hkB : (((l[i]!).kind : Int) == 1) = false := by rw [beq_eq_false_iff_ne]; omega
        clear hk hk256
        generalize l[i]! = x at *
        generalize atV (Sg.bst l i) = av at *
        go_wp2_with fail
        go_quiet (fail)
        go_wp2_with fail
        go_roundw
        case rel => exact ⟨i + 1, by omega, by go_num, by rw [HN.out], (HO.out.alloc _).drewN _⟩
        case measure => simp [intOf]; omega
    · obtain rfl : i = l.length := by omega
      cases hb : Sg.bst l l.length with
      | none =>
        have HB := Lib.hid hb
        have hat : atV (none : Option Nat) = -1 := rfl
        rw [hat]
        clear hb hat
        go_wp2_with fail
        go_ret2
        refine ⟨none, 0, [], 3, rfl, ?_, by simp, RowIs.nil _ _ _, HO.out.below⟩
        unfold Sg.RowOf
        rw [HB.out]
        exact ⟨rfl, rfl⟩
      | some at0 =>
        have HB := Lib.hid hb
        have hlt0 := Sg.bst_lt l hb
        have hat : atV (some at0) = (at0 : Int) := rfl
        have hatI : (0 : Int) ≤ at0 ∧ (at0 : Int) < l.length := by omega
        rw [hat]
        clear hb hat
        have HS1 := Lib.hid HO.out.size
        have HM0 : Hid (LeftMap (wr.alloc (.map #[] 0)) wr.heap.size 0 (leftF l (l[at0]!).gen (fun _ => false) 0)) := Lib.hid (by rw [leftF_zero]; exact LeftMap.made wr)
        have HO1 := Lib.hid (HO.out.alloc (.map #[] 0))
        clear HO
        go_wp2_with fail
        clear hmm
        generalize wr.heap.size = mb at *
        go_loopw [45] (fun vi wq => ∃ i : Nat, i ≤ l.length ∧ vi = .int .i64 i ∧ LeftMap wq mb i (leftF l (l[at0]!).gen (fun _ => false) i) ∧ Own w.heap.size w wq) (fun vi _ => l.length - (intOf vi).toNat)
        case atStart => exact ⟨0, Nat.zero_le _, rfl, HM0.out, HO1.out⟩
        case round =>
          clear HM0 HO1
          obtain ⟨i, hi, rfl, hM, hO⟩ := hrel
          have HM := Lib.hid hM
          have HO := Lib.hid hO
          clear hM hO
          by_cases hlt : i < l.length
          · obtain ⟨g, off, rfl, c0, c1, c2, c3, c4, c5, c6, hg⟩ := (HR.out.keep HO.out.below).it i hlt
            obtain ⟨g', off', ha', d0, d1, d2, d3, d4, d5, d6, hg'⟩ := (HR.out.keep HO.out.below).it at0 hlt0
            injection ha' with ha'
            injection ha' with hga hoff hnn
            subst hga hoff
            have hiI : (0 : Int) ≤ i ∧ (i : Int) < l.length := by omega
            have HFI : Hid ((l[i]!).first < 18446744073709551616) := Lib.hid (HOK.out i hlt).first
            have hi6 : i < 1000000 := by have := HL.out; omega
            clear d0 d2 d3 d4 d5 d6 hnn hg'
            by_cases hk : (l[i]!).kind = 0
            · have hkI : ((l[i]!).kind : Int) = 0 := by omega
              rw [hkI] at c0
              by_cases hge : (l[i]!).gen = (l[at0]!).gen
              · obtain ⟨D, hown, hS⟩ := HM.out
                have HF := Lib.hid (leftF_new ⟨hk, hge⟩)
                have HSS := Lib.hid hS
                have hgI : (((l[i]!).gen : Int) == (l[at0]!).gen) = true := by rw [hge]; simp
                clear hk hkI hge hS
                generalize hlf : leftF l (l[at0]!).gen (fun _ => false) i = FI at *
                generalize hlf1 : leftF l (l[at0]!).gen (fun _ => false) (i + 1) = FJ at *
                generalize l[i]! = x at *
                generalize l[at0]! = y at *
                go_wp2_with fail
                go_quiet (fail)
                go_wp2_with (first
                  | (at_mapUpdate; refine wpList_mapUpdate_own _ rfl _ _ _ 46 rfl 3 25 int_key Try.underlying46 (plainElem Try.prog 25) mb i D rfl (hown.alloc _) (by unfold maxLen; omega) _ _ (.int .i64 i) rfl rfl (place_key i (by omega)) _ [] (plainElem_int Try.underlying25 (num_wf x.first HFI.out)) ?_; intro w6 ho6 hg6)
                  | go_in)
                have HM6 := Lib.hid (LeftMap.stored HSS.out hown.isMap i x.first hi6 ho6 HF.out.1 HF.out.2)
                have HO6 := Lib.hid (((HO.out.alloc (.cells #[.int .u8 0, .int .u64 x.gen, .int .u64 x.first, .string x.t, .slice x.ra x.n x.rcap, .int .i64 x.used, .bool x.whole] 28 (0, 0))).drewN _).upd (grown_upd hg6) (by simpa using HS1.out))
                clear ho6 hg6 hown
                go_wp2_with fail
                go_roundw
                case rel => exact ⟨i + 1, by omega, by go_num, by rw [hlf1]; exact HM6.out, HO6.out⟩
                case measure => simp [intOf]; omega
              · have HF : Hid (leftF l (l[at0]!).gen (fun _ => false) (i + 1) = leftF l (l[at0]!).gen (fun _ => false) i) := Lib.hid (leftF_same (fun h => hge h.2))
                have hgI : (((l[i]!).gen : Int) == (l[at0]!).gen) = false := by rw [beq_eq_false_iff_ne]; omega
                clear hk hkI hge
                generalize hlf : leftF l (l[at0]!).gen (fun _ => false) i = FI at *
                generalize hlf1 : leftF l (l[at0]!).gen (fun _ => false) (i + 1) = FJ at *
                generalize l[i]! = x at *
                generalize l[at0]! = y at *
                go_wp2_with fail
                go_quiet (fail)
                go_wp2_with fail
                go_roundw
                case rel => exact ⟨i + 1, by omega, by go_num, by rw [hlf1, HF.out]; exact (HM.out.mono (Nat.le_succ i)).kept (Below.heap_alloc _ _ _ HM.out.lt), (HO.out.alloc _).drewN _⟩
                case measure => simp [intOf]; omega
            · have HF : Hid (leftF l (l[at0]!).gen (fun _ => false) (i + 1) = leftF l (l[at0]!).gen (fun _ => false) i) := Lib.hid (leftF_same (fun h => hk h.1))
              have hkB : (((l[i]!).kind : Int) == 0) = false := by rw [beq_eq_false_iff_ne]; omega
              clear hk
              generalize hlf : leftF l (l[at0]!).gen (fun _ => false) i = FI at *
              generalize hlf1 : leftF l (l[at0]!).gen (fun _ => false) (i + 1) = FJ at *
              generalize l[i]! = x at *
              generalize l[at0]! = y at *
              go_wp2_with fail
              go_quiet (fail)
              go_wp2_with fail
              go_roundw
              case rel => exact ⟨i + 1, by omega, by go_num, by rw [hlf1, HF.out]; exact (HM.out.mono (Nat.le_succ i)).kept (Below.heap_alloc _ _ _ HM.out.lt), (HO.out.alloc _).drewN _⟩
              case measure => simp [intOf]; omega
          · obtain rfl : i = l.length := by omega
            go_wp2_with fail
            have hgH : (l[at0]!).gen < 18446744073709551616 := (HOK.out at0 hlt0).gen
            obtain ⟨G, hG⟩ : ∃ G, G = (l[at0]!).gen := ⟨_, rfl⟩
            have HG := Lib.hid hG
            have HRA : Hid (RowAt w (wr.alloc (.cells #[.int .i64 at0] 3 (0, 0))) l G mb at0 at0 (fun _ => false) [] (some ⟨wr.heap.size, 0, none⟩) 1) := Lib.hid
              ⟨hlt0, SliceIs.one _ _ _, by simp; exact HM.out.lt, by rw [hG]; exact HM.out.kept (Below.heap_alloc _ _ _ HM.out.lt), HO.out.alloc _, HS1.out, fun r hr => hr, by rw [cntT_none]; rfl⟩
            clear HM HO hgH hG
            go_loopw [4, 10] (fun va vr wq => ∃ (at1 : Nat) (taken : Nat → Bool) (rt : List Nat) (ra : Option Addr) (rc : Nat), va = .int .i64 at1 ∧ vr = .slice ra (rt.length + 1) rc ∧ RowAt w wq l G mb at0 at1 taken rt ra rc) (fun _ vr _ => l.length + 1 - rowLen vr)
            case atStart => exact ⟨at0, _, [], _, _, rfl, rfl, HRA.out⟩
            case round =>
              clear HRA hatI
              obtain ⟨at1, taken, rt, ra, rc, rfl, rfl, hra⟩ := hrel
              have HRA := Lib.hid hra
              have hlt1 := hra.lt
              clear hra
              obtain ⟨g, off, rfl, c0, c1, c2, c3, c4, c5, c6, hg⟩ := (HR.out.keep HRA.out.own.below).it at1 hlt1
              have hI1 : (0 : Int) ≤ at1 ∧ (at1 : Int) < l.length := by omega
              have hrtI : (0 : Int) ≤ rt.length ∧ (rt.length : Int) ≤ 100000 := by have := HRA.out.cnt; have := Sg.cntT_le taken l.length; have := HL.out; omega
              cases hwh : (l[at1]!).whole with
              | false =>
                rw [hwh] at c6
                have HCH := Lib.hid (HRA.out.goes [] (.cut hwh))
                clear hwh
                generalize l[at1]! = y at *
                go_wp2_with fail
                go_ret2
                refine ⟨ra, rc, at0 :: rt, 0, rfl, ?_, by simp; omega, ?_, HRA.out.own.below⟩
                · unfold Sg.RowOf
                  rw [HB.out]
                  exact ⟨rt, rfl, rfl, by rw [← HG.out]; simpa using HCH.out⟩
                · have h := HRA.out.row.rowIs1 (by simp)
                  rw [List.map_map] at h
                  exact h
              | true =>
                rw [hwh] at c6
                obtain ⟨W3, hW3⟩ : ∃ W, W = wr := ⟨_, rfl⟩
                subst hW3
                have hyk := HOK.out at1 hlt1
                have HYN : Hid ((l[at1]!).n ≤ 140737488355328) := Lib.hid hyk.n
                obtain ⟨tgt, htgt⟩ : ∃ tgt, tgt = (l[at1]!).next := ⟨_, rfl⟩
                have HNX : Hid (∀ wz, Calls Try.prog 12 #[.agg #[.int .u8 (l[at1]!).kind, .int .u64 (l[at1]!).gen, .int .u64 (l[at1]!).first, .string (l[at1]!).t, .slice (l[at1]!).ra (l[at1]!).n (l[at1]!).rcap, .int .i64 (l[at1]!).used, .bool (l[at1]!).whole]] wz fun e w' => e = .returned (.int .u64 (tgt : Int)) ∧ Below wz.heap.size wz w') := Lib.hid (fun wz => by
                  rw [htgt]
                  exact seg_next wz _ _ _ _ _ _ _ _ _ (by have := HYN.out; omega))
                have HSTOP : Hid (Sg.IsNext (Sg.may1 l G tgt taken) l.length none → Sg.Chain l G (fun _ => false) at0 (rt ++ [])) := Lib.hid (fun hn => HRA.out.goes [] (.stop (by rw [← htgt]; exact hn)))
                have HSTEP : Hid (∀ j, Sg.IsNext (Sg.may1 l G tgt taken) l.length (some j) → ∀ r, Sg.Chain l G (Sg.upd taken j) j r → Sg.Chain l G (fun _ => false) at0 ((rt ++ [j]) ++ r)) := Lib.hid (fun j hn => Chain.snoc HRA.out.goes hwh (by rw [← htgt]; exact hn))
                have HIT : Hid (∀ wz, Below w.heap.size w wz → ∃ g' off', some (⟨g, off, none⟩ : Addr) = some ⟨g', off', none⟩ ∧ _) := Lib.hid (fun wz hb => (HR.out.keep hb).it at1 hlt1)
                rw [hwh] at HNX HIT
                obtain ⟨D, hown, hS⟩ := HRA.out.map
                have HSS := Lib.hid hS
                have HFD := Lib.hid (Found.start hS tgt)
                clear htgt hwh hyk hS
                generalize l[at1]! = y at *
                go_wp2_with (first
                  | (at_range; refine wpList_range_own _ rfl _ 46 rfl 3 25 int_key Try.underlying46 (plainElem Try.prog 25) mb l.length D rfl hown ?_; intro w4 hrg0 hg0 hs0)
                  | go_in)
                go_frame
                have HB4 : Hid (Below W3.heap.size W3 w4) := Lib.hid (grown_none hg0)
                have HR0 := Lib.hid hrg0
                generalize hr0 : W3.heap.size = r0 at *
                clear hg0 hs0 hown c0 c1 c2 c3 c4 c5 c6 hg
                go_loopw [11] (fun vn wz => ∃ (left : Lit → Bool) (ct : Nat) (o : Option Nat), vn = .int .i64 (atV o) ∧ wz.ranges Try.prog 3 (plainElem Try.prog 25) mb r0 l.length D left ct ∧ Found (leftF l G taken l.length) D tgt left o ∧ Below r0 W3 wz) (fun _ wz => wz.rangeLeft mb r0)
                case atStart => exact ⟨_, _, none, rfl, HR0.out, HFD.out, HB4.out⟩
                case round =>
                  clear HR0 HFD HB4 hrg0
                  obtain ⟨left, ct, o, rfl, hrg, hfd, hb⟩ := hrel
                  have HFD := Lib.hid hfd
                  have HB5 := Lib.hid hb
                  clear hfd hb
                  go_wp2_with (first
                    | (at_next; refine wpList_next_ranges_ii _ rfl _ rfl 3 25 .i64 .u64 int_key Try.underlying3 Try.underlying25 mb r0 l.length D left ct rfl hrg ?_ ?_)
                    | go_in)
                  · intro hc0 hl0
                    have HNN := Lib.hid (HFD.out.next hl0)
                    have hown := hrg.owns
                    clear hc0 hl0 HFD hrg
                    cases o with
                    | none =>
                      have hat : atV (none : Option Nat) = -1 := rfl
                      rw [hat]
                      go_wp2_with fail
                      go_ret2
                      refine ⟨ra, rc, at0 :: rt, 0, rfl, ?_, by simp; omega, ?_, (HRA.out.own.trans (by rw [hr0]; exact HB5.out)).below⟩
                      · unfold Sg.RowOf
                        rw [HB.out]
                        exact ⟨rt, rfl, rfl, by rw [← HG.out]; simpa using HSTOP.out HNN.out⟩
                      · have h := (HRA.out.row.keep (w' := wr) (fun k hk => HB5.out.block k (by have := HRA.out.row.lt k hk; omega))).rowIs1 (by simp)
                        rw [List.map_map] at h
                        exact h
                    | some j =>
                      have hat : atV (some j) = (j : Int) := rfl
                      rw [hat]
                      have hj := HNN.out.1
                      have hjI : (0 : Int) ≤ j ∧ (j : Int) < l.length := by omega
                      have hj6 : j < 1000000 := by have := HL.out; omega
                      clear hj hat
                      go_upto_region 27 with (first
                        | (at_delete; refine wpList_delete_own _ rfl _ _ 46 3 rfl 25 int_key Try.underlying46 (plainElem Try.prog 25) mb l.length D rfl hown (.int .i64 j) (.int .i64 j) rfl (place_key j (by omega)) ?_; intro w6 ho6 ht6)
                        | go_in)
                      have hup6 := grown_upd ht6.grown
                      have HM6 : Hid (LeftMap w6 mb l.length (leftF l G (Sg.upd taken j) l.length)) := Lib.hid (LeftMap.strike HSS.out j ho6 (leftF_upd j).1 (leftF_upd j).2)
                      have HS6 := Lib.hid ((HRA.out.row.keep (w' := wr) (fun k hk => HB5.out.block k (by have := HRA.out.row.lt k hk; omega))).keep (w' := w6) (fun k hk => hup6.keep k (by have := HRA.out.row.lt k hk; have := HB5.out.size; omega) (by have := HRA.out.far k hk; simp; omega)))
                      have HO6 := Lib.hid ((HRA.out.own.trans (by rw [hr0]; exact HB5.out)).upd hup6 (by simpa using HRA.out.base))
                      have hmb6 : mb < w6.heap.size := HM6.out.lt
                      clear ho6 ht6 hup6 hown
                      obtain ⟨i0, hin, hz0, hz1, hz2⟩ := info_parts intInfo
                      obtain ⟨rb, cb, w7, hr7, hS7, hU7, hb7⟩ := run_append_slice (P := Try.prog) (w6.alloc (.cells #[.int .i64 j] 3)) 29 29 3 i0 (.int .i64 0) 1 8 Try.underlying29 hin hz0 hz1 hz2 rfl (by decide) ra (rt.length + 1) rc _ (HS6.out.alloc _) ⟨w6.heap.size, 0, none⟩ 1 1 [.int .i64 j] rfl (by
                          intro k u hk
                          match k, hk with
                          | 0, hk => simp at hk; subst hk; simp [Addr.add])
                        (by intro u hu; simp at hu; subst hu; rfl) (by unfold maxLen; omega) (by omega)
                      change (appSem _ _ _).run _ _ = _ at hr7
                      have HS7 := Lib.hid hS7
                      have HU7 := Lib.hid hU7
                      have HB7 := Lib.hid hb7
                      clear hS7 hU7 hb7 hin hz0 hz1 hz2
                      go_wp2_with fail
                      go_roundw
                      case rel =>
                        have hcs := cnt_step HRA.out.cnt HNN.out
                        have hne : (rt ++ [j]).length + 1 = rt.length + 1 + 1 := by simp
                        refine ⟨j, Sg.upd taken j, rt ++ [j], rb, cb, rfl, by rw [hne], HNN.out.1, ?_, ?_, ?_, ?_, HRA.out.base, HSTEP.out j HNN.out, hcs.1⟩
                        · rw [hne]
                          have h := HS7.out
                          have e : (at0 :: (rt ++ [j])).map (fun i : Nat => Value.int .i64 i) = (at0 :: rt).map (fun i : Nat => Value.int .i64 i) ++ [.int .i64 j] := by simp
                          rw [e]; exact h
                        · intro x hx
                          rcases HB7.out x hx with h | h
                          · exact HRA.out.far x h
                          · simp at h; omega
                        · exact (HM6.out.kept (Below.heap_alloc _ _ _ hmb6)).kept (HU7.out.keep mb (by simp; omega) (fun h => by have := HRA.out.far mb h; omega))
                        · exact (HO6.out.alloc _).upd HU7.out (fun x hx => by have := HRA.out.far x hx; have := HRA.out.base; omega)
                      case measure =>
                        have hcs := (cnt_step HRA.out.cnt HNN.out).2
                        simp only [rowLen]; omega
                  · intro x c w5 ct1 hwx hwc hlx hat hrg1 hlt3 hg1 hs1 hen
                    obtain ⟨i, c', rfl, hFi, hat'⟩ := HSS.out.only x (HFD.out.sub _ hlx)
                    have hcc : c = (c' : Int) := by
                      have h := (hat (.lit (.int .u64 0))).symm.trans (hat' _)
                      injection h with h
                      injection h
                    subst hcc
                    have hil := (leftF_some hFi).1
                    have hiI : (0 : Int) ≤ i ∧ (i : Int) < l.length := by omega
                    have HFI := Lib.hid hFi
                    have HLT := Lib.hid hlt3
                    have HRO := Lib.hid hrg
                    have HBN := Lib.hid (HB5.out.trans (grown_at hg1 (by rw [← hr0]; exact HB5.out.size) (Nat.le_refl _)))
                    obtain ⟨g', off', ha', c0, c1, c2, c3, c4, c5, c6, hg'⟩ := HIT.out w5 (HRA.out.own.trans (by rw [hr0]; exact HBN.out)).below
                    injection ha' with ha'
                    injection ha' with hga hoff hnn
                    subst hga hoff
                    clear hwx hwc hlx hat hlt3 hg1 hs1 hrg hat' hFi hil hnn hg'
                    by_cases hct : c' = tgt
                    · have hq : ((c' : Int) == (tgt : Int)) = true := by rw [hct]; simp
                      have HCT := Lib.hid hct
                      clear hct
                      cases o with
                      | none =>
                        have hat : atV (none : Option Nat) = -1 := rfl
                        rw [hat]
                        clear hat
                        go_wp2_with fail
                        refine (HNX.out _).mono ?_
                        rintro e w6 ⟨rfl, hb6⟩
                        have HR6 := Lib.hid (hrg1.kept (grown_of hb6) (by simp) (by simp))
                        have HB6 := Lib.hid (HBN.out.trans (hb6.mono (by rw [← hr0]; exact HBN.out.size)))
                        clear hb6 hrg1
                        go_wp2_with fail
                        go_roundw
                        case rel => exact ⟨_, _, some i, rfl, HR6.out, HFD.out.take i (by rw [← HCT.out]; exact HFI.out) (fun j hj => by cases hj), HB6.out⟩
                        case measure => rw [HR6.out.left_eq, HRO.out.left_eq]; exact HLT.out
                      | some j =>
                        have hat : atV (some j) = (j : Int) := rfl
                        rw [hat]
                        clear hat
                        have hj0 : (0 : Int) ≤ j := by omega
                        by_cases hij : i < j
                        · have hijI : (i : Int) < j := by omega
                          have HIJ := Lib.hid hij
                          clear hij
                          go_wp2_with fail
                          refine (HNX.out _).mono ?_
                          rintro e w6 ⟨rfl, hb6⟩
                          have HR6 := Lib.hid (hrg1.kept (grown_of hb6) (by simp) (by simp))
                          have HB6 := Lib.hid (HBN.out.trans (hb6.mono (by rw [← hr0]; exact HBN.out.size)))
                          clear hb6 hrg1
                          go_wp2_with fail
                          go_roundw
                          case rel => exact ⟨_, _, some i, rfl, HR6.out, HFD.out.take i (by rw [← HCT.out]; exact HFI.out) (fun k hk => by cases hk; exact HIJ.out), HB6.out⟩
                          case measure => rw [HR6.out.left_eq, HRO.out.left_eq]; exact HLT.out
                        · have hijI : (j : Int) ≤ i := by omega
                          have HIJ := Lib.hid hij
                          clear hij
                          go_wp2_with fail
                          refine (HNX.out _).mono ?_
                          rintro e w6 ⟨rfl, hb6⟩
                          have HR6 := Lib.hid (hrg1.kept (grown_of hb6) (by simp) (by simp))
                          have HB6 := Lib.hid (HBN.out.trans (hb6.mono (by rw [← hr0]; exact HBN.out.size)))
                          clear hb6 hrg1
                          go_wp2_with fail
                          go_roundw
                          case rel => exact ⟨_, _, some j, rfl, HR6.out, HFD.out.skip i c' HFI.out (fun _ => ⟨j, rfl, by have := HIJ.out; omega⟩), HB6.out⟩
                          case measure => rw [HR6.out.left_eq, HRO.out.left_eq]; exact HLT.out
                    · have hq : ((c' : Int) == (tgt : Int)) = false := by rw [beq_eq_false_iff_ne]; omega
                      have HCT := Lib.hid hct
                      clear hct
                      generalize hav : atV o = av at *
                      have HAV := Lib.hid hav
                      clear hav
                      go_wp2_with fail
                      refine (HNX.out _).mono ?_
                      rintro e w6 ⟨rfl, hb6⟩
                      have HR6 := Lib.hid (hrg1.kept (grown_of hb6) (by simp) (by simp))
                      have HB6 := Lib.hid (HBN.out.trans (hb6.mono (by rw [← hr0]; exact HBN.out.size)))
                      clear hb6 hrg1
                      go_wp2_with fail
                      go_roundw
                      case rel => exact ⟨_, _, o, by rw [HAV.out], HR6.out, HFD.out.skip i c' HFI.out (fun h => absurd h HCT.out), HB6.out⟩
                      case measure => rw [HR6.out.left_eq, HRO.out.left_eq]; exact HLT.out

end Go.Proofs.Ytboplbcfoooenaa
