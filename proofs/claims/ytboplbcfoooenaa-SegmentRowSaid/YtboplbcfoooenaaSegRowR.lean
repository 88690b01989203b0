/-
  THE WALK of the document's answer for layer 11: Row.
-/
import Derived.Test.YtboplbcfoooenaaSegRow
import Derived.Test.YtboplbcfoooenaaSegNext
import Derived.Deep.RegionHeld3
import Derived.Deep.OwnRows
namespace Go.Proofs.Ytboplbcfoooenaa
open Go.RowKit

attribute [local go_sem ↓ high] appSem_eq

theorem boolInfo : (Try.prog.info? 4).map (fun i => (i.zero, i.size, i.bytes)) = some (some (.bool false), 1, 1) := by kernel_rfl
/-- Which are taken, as a machine holds it. -/
def boolsOf (taken : Nat → Bool) (n : Nat) : List Value := (List.range n).map fun i => .bool (taken i)
def TakenIs (W : World) (tb n : Nat) (taken : Nat → Bool) : Prop := W.heap[tb]? = some (.cells (boolsOf taken n).toArray 4 (0, 0))
theorem TakenIs.cell {W : World} {tb n : Nat} {taken : Nat → Bool} (h : TakenIs W tb n taken) (i : Nat) (hi : i < n) : W.cell? ⟨tb, i, none⟩ = some (.bool (taken i)) := by
  rw [cell_of_row W tb _ _ _ _ h]
  simp [boolsOf, hi]
theorem TakenIs.keep {W W' : World} {tb n : Nat} {taken : Nat → Bool} (h : TakenIs W tb n taken) (hk : W'.heap[tb]? = W.heap[tb]?) : TakenIs W' tb n taken := hk.trans h
theorem TakenIs.set {W : World} {tb n : Nat} {taken : Nat → Bool} (h : TakenIs W tb n taken) (j : Nat) (_ : j < n) : TakenIs (W.setCell ⟨tb, j, none⟩ (.bool true)) tb n (Sg.upd taken j) := by
  unfold TakenIs
  rw [heap_set _ h]
  congr 2
  apply Array.ext'
  simp only [Array.toList_setIfInBounds]
  apply List.ext_getElem
  · simp [boolsOf]
  · intro i h1 h2
    simp only [boolsOf, List.getElem_set, List.getElem_map, List.getElem_range]
    unfold Sg.upd
    by_cases e : j = i
    · rw [if_pos e, decide_eq_true e.symm]; simp
    · rw [if_neg e, decide_eq_false (fun h => e h.symm)]; simp
/-- The least place that may go on, of those from a place on. -/
def FromOn (p : Nat → Bool) (len i : Nat) : Option Nat → Prop
  | none => ∀ k, i ≤ k → k < len → p k = false
  | some j => i ≤ j ∧ j < len ∧ p j = true ∧ ∀ k, i ≤ k → k < j → p k = false
theorem FromOn.start (p : Nat → Bool) (len : Nat) : FromOn p len len none := fun k h1 h2 => by omega
theorem FromOn.yes {p : Nat → Bool} {len i : Nat} (h : p i = true) (hi : i < len) : FromOn p len i (some i) := ⟨Nat.le_refl _, hi, h, fun k h1 h2 => by omega⟩
theorem FromOn.no {p : Nat → Bool} {len i : Nat} {o : Option Nat} (h : FromOn p len (i + 1) o) (hp : p i = false) : FromOn p len i o := by
  cases o with
  | none =>
    intro k h1 h2
    by_cases e : k = i
    · rw [e]; exact hp
    · exact h k (by omega) h2
  | some j =>
    obtain ⟨h1, h2, h3, h4⟩ := h
    exact ⟨by omega, h2, h3, fun k k1 k2 => by
      by_cases e : k = i
      · rw [e]; exact hp
      · exact h4 k (by omega) k2⟩
theorem FromOn.all {p : Nat → Bool} {len : Nat} {o : Option Nat} (h : FromOn p len 0 o) : Sg.IsNext p len o := by
  cases o with
  | none => exact fun i hi => h i (Nat.zero_le _) hi
  | some j => exact ⟨h.2.1, h.2.2.1, fun i hi => h.2.2.2 i (Nat.zero_le _) hi⟩
/-- Where the answer's Row stands behind so many rounds. -/
structure RRowAt (w W : World) (l : List It) (g tb at0 at1 : Nat) (taken : Nat → Bool) (rt : List Nat) (ra : Option Addr) (rc : Nat) : Prop where
  lt : at1 < l.length
  row : SliceIs W 3 1 ra (rt.length + 1) rc ((at0 :: rt).map fun i : Nat => .int .i64 i)
  far : ∀ x ∈ blks ra, tb < x
  tk : TakenIs W tb l.length taken
  own : Own w.heap.size w W
  base : w.heap.size ≤ tb
  goes : ∀ r, Sg.Chain l g taken at1 r → Sg.Chain l g (fun _ => false) at0 (rt ++ r)
  cnt : rt.length = Sg.cntT taken l.length

set_option maxRecDepth 20000 in
theorem made_bools (n : Nat) : madeCells #[Value.bool false] n = (boolsOf (fun _ => false) n).toArray := by
  apply Array.ext
  · simp [size_madeCells, boolsOf]
  · intro i h1 h2
    simp only [madeCells, Array.getElem_map, List.size_toArray, List.length_cons, List.length_nil]
    rw [show ∀ m, m % (0 + 1) = 0 from fun m => Nat.mod_one m]
    simp [boolsOf]

set_option maxRecDepth 20000 in
set_option maxHeartbeats 4000000 in
theorem rseg_row (w : World) (a : Option Addr) (cap : Nat) (l : List It) (hr : RowIs w 7 a (l.map icells)) (hl : l.length ≤ 100000) (ok : ∀ x ∈ l, okI x) :
    Calls Try.prog 8 #[.slice a l.length cap] w fun e w' => ∃ (ra : Option Addr) (rc : Nat) (row : List Nat) (er : Nat), e = .returned (.tuple #[.slice ra row.length rc, .int .i64 er]) ∧ Sg.RowOf l row er ∧ row.length ≤ 100001 ∧ RowIs w' 1 ra (row.map pcell) ∧ Below w.heap.size w w' := by
  have hO := Own.refl w
  have HR := Lib.hid hr
  have HOK : Hid (∀ i, i < l.length → okI l[i]!) := Lib.hid (fun i hi => by rw [get_bang l i hi]; exact ok _ (List.getElem_mem hi))
  have hlI : (0 : Int) ≤ l.length ∧ (l.length : Int) ≤ 100000 := by omega
  have HL := Lib.hid hl
  have hmk := fun wz => run_make_row' (P := Try.prog) 47 4 (.bool false) 1 Try.underlying47 boolInfo rfl .i64 .i64 l.length (by omega) (by omega) wz
  rw [made_bools] at hmk
  have HO := Lib.hid hO
  clear hr ok hl hO
  go_enter Try.func8, Try.ntmps8
  go_wp2_with fail
  go_loopw [4, 5] (fun va vi wr => ∃ i : Nat, i ≤ l.length ∧ vi = .int .i64 i ∧ va = .int .i64 (atV (Sg.bst l i)) ∧ Own w.heap.size w wr) (fun _ vi _ => l.length - (intOf vi).toNat)
  case atStart => exact ⟨0, Nat.zero_le _, rfl, rfl, HO.out⟩
  case round =>
    clear HO
    obtain ⟨i, hi, rfl, rfl, hO⟩ := hrel
    have HO := Lib.hid hO
    clear hO
    by_cases hlt : i < l.length
    · obtain ⟨g, off, rfl, c0, c1, c2, c3, c4, c5, c6, hg⟩ := (HR.out.keep HO.out.below).it i hlt
      have hiI : (0 : Int) ≤ i ∧ (i : Int) < l.length := by omega
      have HIO := HOK.out i hlt
      have hk256 := HIO.kind
      clear HIO hmk
      by_cases hk : (l[i]!).kind = 1
      · have hkI : ((l[i]!).kind : Int) = 1 := by omega
        rw [hkI] at c0
        cases hb : Sg.bst l i with
        | none =>
          have HN : Hid (Sg.bst l (i + 1) = some i) := Lib.hid (by rw [Sg.bst_succ, hb]; simp only; rw [if_pos hk])
          have hat : atV (none : Option Nat) = -1 := rfl
          rw [hat]
          clear hb hat hk hkI hk256
          generalize l[i]! = x at *
          go_wp2_with fail
          go_quiet (fail)
          go_wp2_with fail
          go_roundw
          case rel => exact ⟨i + 1, by omega, by go_num, by rw [HN.out]; first | rfl | simp [atV], HO.out.drewN _⟩
          case measure => simp [intOf]; omega
        | some j =>
          have hj := Sg.bst_lt l hb
          obtain ⟨g', off', ha', d0, d1, d2, d3, d4, d5, d6, hg'⟩ := (HR.out.keep HO.out.below).it j (by omega)
          injection ha' with ha'
          injection ha' with hga hoff hnn
          subst hga hoff
          have hat : atV (some j) = (j : Int) := rfl
          rw [hat]
          have hjI : (0 : Int) ≤ j ∧ (j : Int) < l.length := by omega
          by_cases hgt : (l[j]!).gen < (l[i]!).gen
          · have HN : Hid (Sg.bst l (i + 1) = some i) := Lib.hid (by rw [Sg.bst_succ, hb]; simp only; rw [if_pos ⟨hk, hgt⟩])
            have hgI : ((l[j]!).gen : Int) < (l[i]!).gen := by omega
            clear hb hat hk hkI hk256 hgt hnn d0 d2 d3 d4 d5 d6 hg' hj
            generalize l[i]! = x at *
            generalize l[j]! = y at *
            go_wp2_with fail
            go_quiet (fail)
            go_wp2_with fail
            go_roundw
            case rel => exact ⟨i + 1, by omega, by go_num, by rw [HN.out]; first | rfl | simp [atV], HO.out.drewN _⟩
            case measure => simp [intOf]; omega
          · have HN : Hid (Sg.bst l (i + 1) = some j) := Lib.hid (by rw [Sg.bst_succ, hb]; simp only; rw [if_neg (fun h => hgt h.2)])
            have hgI : ((l[i]!).gen : Int) ≤ (l[j]!).gen := by omega
            clear hb hat hk hkI hk256 hgt hnn d0 d2 d3 d4 d5 d6 hg' hj
            generalize l[i]! = x at *
            generalize l[j]! = y at *
            go_wp2_with fail
            go_quiet (fail)
            go_wp2_with fail
            go_roundw
            case rel => exact ⟨i + 1, by omega, by go_num, by rw [HN.out]; first | rfl | simp [atV], HO.out.drewN _⟩
            case measure => simp [intOf]; omega
      · have HN : Hid (atV (Sg.bst l (i + 1)) = atV (Sg.bst l i)) := Lib.hid (by
          rw [Sg.bst_succ]
          cases hb : Sg.bst l i with
          | none => simp only; rw [if_neg hk]
          | some j => simp only; rw [if_neg (fun h => hk h.1)])
        have hkB : (((l[i]!).kind : Int) == 1) = false := by rw [beq_eq_false_iff_ne]; omega
        clear hk hk256
        generalize l[i]! = x at *
        generalize atV (Sg.bst l i) = av at *
        go_wp2_with fail
        go_quiet (fail)
        go_wp2_with fail
        go_roundw
        case rel => exact ⟨i + 1, by omega, by go_num, by rw [HN.out], HO.out.drewN _⟩
        case measure => simp [intOf]; omega
    · obtain rfl : i = l.length := by omega
      cases hb : Sg.bst l l.length with
      | none =>
        have HB := Lib.hid hb
        have hat : atV (none : Option Nat) = -1 := rfl
        rw [hat]
        clear hb hat
        go_wp2_with fail
        go_ret2
        refine ⟨none, 0, [], 3, rfl, ?_, by simp, RowIs.nil _ _ _, HO.out.below⟩
        unfold Sg.RowOf
        rw [HB.out]
        exact ⟨rfl, rfl⟩
      | some at0 =>
        have HB := Lib.hid hb
        have hlt0 := Sg.bst_lt l hb
        have hat : atV (some at0) = (at0 : Int) := rfl
        have hatI : (0 : Int) ≤ at0 ∧ (at0 : Int) < l.length := by omega
        rw [hat]
        clear hb hat
        obtain ⟨g, off, rfl, c0, c1, c2, c3, c4, c5, c6, hg⟩ := (HR.out.keep HO.out.below).it at0 hlt0
        have hs1 := HO.out.size
        have hG : ∃ G, G = (l[at0]!).gen := ⟨_, rfl⟩
        obtain ⟨G, hG⟩ := hG
        rw [← hG] at c1
        have HG := Lib.hid hG
        have HRA : Hid (RRowAt w ((wr.alloc (.cells (boolsOf (fun _ => false) l.length).toArray 4 (0, 0))).alloc (.cells #[.int .i64 at0] 3 (0, 0))) l G wr.heap.size at0 at0 (fun _ => false) [] (some ⟨wr.heap.size + 1, 0, none⟩) 1) := Lib.hid
          ⟨hlt0, by have h := SliceIs.one (wr.alloc (.cells (boolsOf (fun _ => false) l.length).toArray 4 (0, 0))) (.int .i64 at0) 3; rw [World.size_alloc] at h; exact h, by simp, heap_alloc2_old wr _ _, (HO.out.alloc _).alloc _, hs1, fun r hr => hr, by rw [cntT_none]; rfl⟩
        clear HO hG hs1 c0 c2 c3 c4 c5 c6
        go_wp2_with fail
        generalize wr.heap.size = tb at *
        go_loopw [4, 8] (fun va vr wq => ∃ (at1 : Nat) (taken : Nat → Bool) (rt : List Nat) (ra : Option Addr) (rc : Nat), va = .int .i64 at1 ∧ vr = .slice ra (rt.length + 1) rc ∧ RRowAt w wq l G tb at0 at1 taken rt ra rc) (fun _ vr _ => l.length + 1 - rowLen vr)
        case atStart => exact ⟨at0, _, [], _, _, rfl, rfl, HRA.out⟩
        case round =>
          clear HRA hatI hmk c1
          obtain ⟨at1, taken, rt, ra, rc, rfl, rfl, hra⟩ := hrel
          have HRA := Lib.hid hra
          have hlt1 := hra.lt
          clear hra
          obtain ⟨g1, off1, ha1, d0, d1, d2, d3, d4, d5, d6, hg1⟩ := (HR.out.keep HRA.out.own.below).it at1 hlt1
          injection ha1 with ha1
          injection ha1 with hga hoff hnn
          subst hga hoff
          have hI1 : (0 : Int) ≤ at1 ∧ (at1 : Int) < l.length := by omega
          have hrtI : (0 : Int) ≤ rt.length ∧ (rt.length : Int) ≤ 100000 := by have := HRA.out.cnt; have := Sg.cntT_le taken l.length; have := HL.out; omega
          clear hnn
          cases hwh : (l[at1]!).whole with
          | false =>
            rw [hwh] at d6
            have HCH := Lib.hid (HRA.out.goes [] (.cut hwh))
            clear hwh
            generalize l[at1]! = y at *
            go_wp2_with fail
            go_ret2
            refine ⟨ra, rc, at0 :: rt, 0, rfl, ?_, by simp; omega, ?_, HRA.out.own.below⟩
            · unfold Sg.RowOf
              rw [HB.out]
              exact ⟨rt, rfl, rfl, by rw [← HG.out]; simpa using HCH.out⟩
            · have h := HRA.out.row.rowIs1 (by simp)
              rw [List.map_map] at h
              exact h
          | true =>
            rw [hwh] at d6
            obtain ⟨W3, hW3⟩ : ∃ W, W = wr := ⟨_, rfl⟩
            subst hW3
            have HYN : Hid ((l[at1]!).n ≤ 140737488355328) := Lib.hid (HOK.out at1 hlt1).n
            obtain ⟨tgt, htgt⟩ : ∃ tgt, tgt = (l[at1]!).next := ⟨_, rfl⟩
            have HNX : Hid (∀ wz, Calls Try.prog 13 #[.agg #[.int .u8 (l[at1]!).kind, .int .u64 (l[at1]!).gen, .int .u64 (l[at1]!).first, .string (l[at1]!).t, .slice (l[at1]!).ra (l[at1]!).n (l[at1]!).rcap, .int .i64 (l[at1]!).used, .bool (l[at1]!).whole]] wz fun e w' => e = .returned (.int .u64 (tgt : Int)) ∧ Below wz.heap.size wz w') := Lib.hid (fun wz => by
              rw [htgt]
              exact rseg_next wz _ _ _ _ _ _ _ _ _ (by have := HYN.out; omega))
            have HSTOP : Hid (Sg.IsNext (Sg.may1 l G tgt taken) l.length none → Sg.Chain l G (fun _ => false) at0 (rt ++ [])) := Lib.hid (fun hn => HRA.out.goes [] (.stop (by rw [← htgt]; exact hn)))
            have HSTEP : Hid (∀ j, Sg.IsNext (Sg.may1 l G tgt taken) l.length (some j) → ∀ r, Sg.Chain l G (Sg.upd taken j) j r → Sg.Chain l G (fun _ => false) at0 ((rt ++ [j]) ++ r)) := Lib.hid (fun j hn => Chain.snoc HRA.out.goes hwh (by rw [← htgt]; exact hn))
            rw [hwh] at HNX
            have HWH := Lib.hid hwh
            clear htgt hwh
            go_wp2_with fail
            go_loopw [9, 10] (fun vn vi wz => ∃ (i : Nat) (o : Option Nat), i ≤ l.length ∧ vi = .int .i64 ((i : Int) - 1) ∧ vn = .int .i64 (atV o) ∧ FromOn (Sg.may1 l G tgt taken) l.length i o ∧ Own W3.heap.size W3 wz) (fun _ vi _ => (intOf vi + 1).toNat)
            case atStart => exact ⟨l.length, none, Nat.le_refl _, rfl, rfl, FromOn.start _ _, Own.refl W3⟩
            case round =>
              obtain ⟨i, o, hi, rfl, rfl, hfo, hO⟩ := hrel
              have HFO := Lib.hid hfo
              have HOW := Lib.hid hO
              clear hfo hO d0 d1 d2 d3 d4 d5 d6
              cases i with
              | zero =>
                have HNN := Lib.hid HFO.out.all
                have e1 : (((0 : Nat) : Int) - 1) = -1 := rfl
                rw [e1]
                clear e1 hi HFO
                have HRW := Lib.hid (HRA.out.row.keep (w' := wr) (fun k hk => HOW.out.below.block k (HRA.out.row.lt k hk)))
                have HTK := Lib.hid (HRA.out.tk.keep (W' := wr) (HOW.out.below.block tb (blk_lt HRA.out.tk)))
                have HO2 := Lib.hid (HRA.out.own.trans HOW.out.below)
                cases o with
                | none =>
                  have hat : atV (none : Option Nat) = -1 := rfl
                  rw [hat]
                  clear hat
                  go_wp2_with fail
                  go_ret2
                  refine ⟨ra, rc, at0 :: rt, 0, rfl, ?_, by simp; omega, ?_, HO2.out.below⟩
                  · unfold Sg.RowOf
                    rw [HB.out]
                    exact ⟨rt, rfl, rfl, by rw [← HG.out]; simpa using HSTOP.out HNN.out⟩
                  · have h := HRW.out.rowIs1 (by simp)
                    rw [List.map_map] at h
                    exact h
                | some j =>
                  have hat : atV (some j) = (j : Int) := rfl
                  rw [hat]
                  have hj := HNN.out.1
                  have hjI : (0 : Int) ≤ j ∧ (j : Int) < l.length := by omega
                  have b0 := HTK.out.cell j hj
                  have b1 : wr.frozen? ⟨tb, j, none⟩ = false := frozen_zero HTK.out
                  have HTK2 := Lib.hid (HTK.out.set j hj)
                  have htl : tb < wr.heap.size := blk_lt HTK.out
                  obtain ⟨i0, hin, hz0, hz1, hz2⟩ := info_parts intInfo
                  have hS5 := HRW.out.keep (w' := wr.setCell ⟨tb, j, none⟩ (.bool true)) (fun k hk => Below.heap_setCell _ _ _ _ (by have := HRA.out.far k hk; simp only; omega))
                  obtain ⟨rb, cb, w7, hr7, hS7, hU7, hb7⟩ := run_append_slice (P := Try.prog) ((wr.setCell ⟨tb, j, none⟩ (.bool true)).alloc (.cells #[.int .i64 j] 3)) 29 29 3 i0 (.int .i64 0) 1 8 Try.underlying29 hin hz0 hz1 hz2 rfl (by decide) ra (rt.length + 1) rc _ (hS5.alloc _) ⟨(wr.setCell ⟨tb, j, none⟩ (.bool true)).heap.size, 0, none⟩ 1 1 [.int .i64 j] rfl (by
                      intro k u hk
                      match k, hk with
                      | 0, hk => simp at hk; subst hk; rw [Addr.add_lit, cell_of_row _ _ _ _ _ _ (heap_alloc_new _ _)]; rfl)
                    (by intro u hu; simp at hu; subst hu; rfl) (by unfold maxLen; omega) (by omega)
                  change (appSem _ _ _).run _ _ = _ at hr7
                  have hsz : (wr.setCell ⟨tb, j, none⟩ (.bool true)).heap.size = wr.heap.size := by simp
                  rw [hsz] at hr7
                  clear hsz
                  have HS7 := Lib.hid hS7
                  have HU7 := Lib.hid hU7
                  have HB7 := Lib.hid hb7
                  clear hS7 hU7 hb7 hin hz0 hz1 hz2 hS5 hat hj
                  go_wp2_with fail
                  go_roundw
                  case rel =>
                    have hcs := cnt_step HRA.out.cnt HNN.out
                    have hne : (rt ++ [j]).length + 1 = rt.length + 1 + 1 := by simp
                    refine ⟨j, Sg.upd taken j, rt ++ [j], rb, cb, rfl, by rw [hne], HNN.out.1, ?_, ?_, ?_, ?_, HRA.out.base, HSTEP.out j HNN.out, hcs.1⟩
                    · rw [hne]
                      have h := HS7.out
                      have e : (at0 :: (rt ++ [j])).map (fun i : Nat => Value.int .i64 i) = (at0 :: rt).map (fun i : Nat => Value.int .i64 i) ++ [.int .i64 j] := by simp
                      rw [e]; exact h
                    · intro x hx
                      rcases HB7.out x hx with h | h
                      · exact HRA.out.far x h
                      · simp at h; omega
                    · exact (HTK2.out.keep (Below.heap_alloc _ _ _ (by simpa using htl))).keep (HU7.out.keep tb (by simp; omega) (fun h => by have := HRA.out.far tb h; omega))
                    · exact (((HO2.out.setCell HRA.out.base _).alloc _)).upd HU7.out (fun x hx => by have := HRA.out.far x hx; have := HRA.out.base; omega)
                  case measure =>
                    have hcs := (cnt_step HRA.out.cnt HNN.out).2
                    simp only [rowLen]; omega
              | succ i =>
                have e1 : (((i + 1 : Nat) : Int) - 1) = (i : Int) := by omega
                rw [e1]
                clear e1
                have hil : i < l.length := by omega
                have hiI : (0 : Int) ≤ i ∧ (i : Int) < l.length := by omega
                have hbw := (HRA.out.own.trans HOW.out.below).below
                obtain ⟨g1, off1, ha1, c0, c1, c2, c3, c4, c5, c6, hg2⟩ := (HR.out.keep hbw).it i hil
                injection ha1 with ha1
                injection ha1 with hga hoff hnn
                subst hga hoff
                have b0 := (HRA.out.tk.keep (W' := wr) (HOW.out.below.block tb (blk_lt HRA.out.tk))).cell i hil
                clear hnn hi hbw
                cases htk : taken i with
                | true =>
                  have HP : Hid (Sg.may1 l G tgt taken i = false) := Lib.hid (by unfold Sg.may1; rw [htk]; rfl)
                  rw [htk] at b0
                  clear htk
                  go_wp2_with fail
                  go_quiet (fail)
                  go_wp2_with fail
                  go_roundw
                  case rel => exact ⟨i, o, by omega, by go_num, rfl, HFO.out.no HP.out, HOW.out.drewN _⟩
                  case measure => simp [intOf] <;> omega
                | false =>
                  rw [htk] at b0
                  have HTF := Lib.hid htk
                  have hk256 := (HOK.out i hil).kind
                  by_cases hk : (l[i]!).kind = 0
                  · by_cases hge : (l[i]!).gen = G
                    · have HP0 : Hid (Sg.may1 l G tgt taken i = decide ((l[i]!).first = tgt)) := Lib.hid (by unfold Sg.may1; rw [htk, decide_eq_true hk, decide_eq_true hge]; rfl)
                      have hkI : ((l[i]!).kind : Int) = 0 := by omega
                      have hwh2 : (l[at1]!).whole = true := HWH.out
                      obtain ⟨x, hx⟩ : ∃ x, x = l[i]! := ⟨_, rfl⟩
                      obtain ⟨y, hy⟩ : ∃ y, y = l[at1]! := ⟨_, rfl⟩
                      have HK : Hid (∀ w', Below wr.heap.size wr w' → w'.cell? ⟨tb, i, none⟩ = some (.bool false) ∧ w'.cell? ⟨g, off + i * 7, none⟩ = some (.int .u8 0) ∧ w'.cell? ⟨g, off + i * 7 + 1, none⟩ = some (.int .u64 G) ∧ w'.cell? ⟨g, off + i * 7 + 2, none⟩ = some (.int .u64 x.first) ∧ w'.cell? ⟨g, off + at1 * 7, none⟩ = some (.int .u8 y.kind) ∧ w'.cell? ⟨g, off + at1 * 7 + 1, none⟩ = some (.int .u64 y.gen) ∧ w'.cell? ⟨g, off + at1 * 7 + 2, none⟩ = some (.int .u64 y.first) ∧ w'.cell? ⟨g, off + at1 * 7 + 3, none⟩ = some (.string y.t) ∧ w'.cell? ⟨g, off + at1 * 7 + 4, none⟩ = some (.slice y.ra y.n y.rcap) ∧ w'.cell? ⟨g, off + at1 * 7 + 5, none⟩ = some (.int .i64 y.used) ∧ w'.cell? ⟨g, off + at1 * 7 + 6, none⟩ = some (.bool true)) := Lib.hid (fun w' hb => by
                        have hbw := ((HRA.out.own.trans HOW.out.below).trans hb).below
                        obtain ⟨g2, off2, ha2, e0, e1, e2, e3, e4, e5, e6, _⟩ := (HR.out.keep hbw).it i hil
                        obtain ⟨g3, off3, ha3, f0, f1, f2, f3, f4, f5, f6, _⟩ := (HR.out.keep hbw).it at1 hlt1
                        injection ha2 with ha2
                        injection ha2 with h1 h2 _
                        injection ha3 with ha3
                        injection ha3 with h3 h4 _
                        subst h1 h2 h3 h4
                        have t0 := (HRA.out.tk.keep (W' := w') ((hb.block tb (Nat.lt_of_lt_of_le (blk_lt HRA.out.tk) HOW.out.size)).trans (HOW.out.below.block tb (blk_lt HRA.out.tk)))).cell i hil
                        rw [HTF.out] at t0
                        rw [hkI] at e0
                        rw [hge] at e1
                        rw [hwh2] at f6
                        rw [← hx] at e2
                        rw [← hy] at f0 f1 f2 f3 f4 f5
                        exact ⟨t0, e0, e1, e2, f0, f1, f2, f3, f4, f5, f6⟩)
                      rw [← hy] at HNX
                      rw [← hx] at HP0
                      have HIL := Lib.hid hil
                      have HBW : Hid (Own wr.heap.size wr wr.drew) := Lib.hid (Own.refl wr).drew
                      have hS := HK.out _ HBW.out.below
                      clear htk hk hge hkI hk256 hwh2 c0 c1 c2 c3 c4 c5 c6 b0 hx hy hg2
                      by_cases hft : x.first = tgt
                      · have hq : ((x.first : Int) == (tgt : Int)) = true := by rw [hft]; simp
                        have HF1 : Hid (FromOn (Sg.may1 l G tgt taken) l.length i (some i)) := Lib.hid (FromOn.yes (by rw [HP0.out]; exact decide_eq_true hft) HIL.out)
                        clear hft
                        go_wp2_with fail
                        go_region_held3 (fun w' => w'.cell? ⟨tb, i, none⟩ = some (.bool false) ∧ w'.cell? ⟨g, off + i * 7, none⟩ = some (.int .u8 0) ∧ w'.cell? ⟨g, off + i * 7 + 1, none⟩ = some (.int .u64 G) ∧ w'.cell? ⟨g, off + i * 7 + 2, none⟩ = some (.int .u64 x.first) ∧ w'.cell? ⟨g, off + at1 * 7, none⟩ = some (.int .u8 y.kind) ∧ w'.cell? ⟨g, off + at1 * 7 + 1, none⟩ = some (.int .u64 y.gen) ∧ w'.cell? ⟨g, off + at1 * 7 + 2, none⟩ = some (.int .u64 y.first) ∧ w'.cell? ⟨g, off + at1 * 7 + 3, none⟩ = some (.string y.t) ∧ w'.cell? ⟨g, off + at1 * 7 + 4, none⟩ = some (.slice y.ra y.n y.rcap) ∧ w'.cell? ⟨g, off + at1 * 7 + 5, none⟩ = some (.int .i64 y.used) ∧ w'.cell? ⟨g, off + at1 * 7 + 6, none⟩ = some (.bool true))
                          (first | exact hS | assumption)
                          (first
                          | (go_at_call 13
                             (with_reducible refine (HNX.out _).mono ?_)
                             rintro e wz ⟨rfl, hb⟩
                             replace HBW := Lib.hid (HBW.out.trans hb)
                             have hS := HK.out _ HBW.out.below
                             clear hb))
                        all_goals
                          go_wp2_with fail
                          go_roundw
                          case rel => exact ⟨i, some i, by omega, by go_num, rfl, HF1.out, HOW.out.trans HBW.out.below⟩
                          case measure => simp [intOf] <;> omega
                      · have hq : ((x.first : Int) == (tgt : Int)) = false := by rw [beq_eq_false_iff_ne]; omega
                        have HF1 : Hid (FromOn (Sg.may1 l G tgt taken) l.length i o) := Lib.hid (HFO.out.no (by rw [HP0.out]; exact decide_eq_false hft))
                        clear hft
                        go_wp2_with fail
                        go_region_held3 (fun w' => w'.cell? ⟨tb, i, none⟩ = some (.bool false) ∧ w'.cell? ⟨g, off + i * 7, none⟩ = some (.int .u8 0) ∧ w'.cell? ⟨g, off + i * 7 + 1, none⟩ = some (.int .u64 G) ∧ w'.cell? ⟨g, off + i * 7 + 2, none⟩ = some (.int .u64 x.first) ∧ w'.cell? ⟨g, off + at1 * 7, none⟩ = some (.int .u8 y.kind) ∧ w'.cell? ⟨g, off + at1 * 7 + 1, none⟩ = some (.int .u64 y.gen) ∧ w'.cell? ⟨g, off + at1 * 7 + 2, none⟩ = some (.int .u64 y.first) ∧ w'.cell? ⟨g, off + at1 * 7 + 3, none⟩ = some (.string y.t) ∧ w'.cell? ⟨g, off + at1 * 7 + 4, none⟩ = some (.slice y.ra y.n y.rcap) ∧ w'.cell? ⟨g, off + at1 * 7 + 5, none⟩ = some (.int .i64 y.used) ∧ w'.cell? ⟨g, off + at1 * 7 + 6, none⟩ = some (.bool true))
                          (first | exact hS | assumption)
                          (first
                          | (go_at_call 13
                             (with_reducible refine (HNX.out _).mono ?_)
                             rintro e wz ⟨rfl, hb⟩
                             replace HBW := Lib.hid (HBW.out.trans hb)
                             have hS := HK.out _ HBW.out.below
                             clear hb))
                        all_goals
                          go_wp2_with fail
                          go_roundw
                          case rel => exact ⟨i, o, by omega, by go_num, rfl, HF1.out, HOW.out.trans HBW.out.below⟩
                          case measure => simp [intOf] <;> omega
                    · have HP : Hid (Sg.may1 l G tgt taken i = false) := Lib.hid (by unfold Sg.may1; rw [decide_eq_false hge]; simp)
                      have hkI : ((l[i]!).kind : Int) = 0 := by omega
                      rw [hkI] at c0
                      have hgB : (((l[i]!).gen : Int) == (G : Int)) = false := by rw [beq_eq_false_iff_ne]; omega
                      clear htk hk hge hkI hk256
                      generalize l[i]! = x at *
                      go_wp2_with fail
                      go_quiet (fail)
                      go_wp2_with fail
                      go_roundw
                      case rel => exact ⟨i, o, by omega, by go_num, rfl, HFO.out.no HP.out, HOW.out.drewN _⟩
                      case measure => simp [intOf] <;> omega
                  · have HP : Hid (Sg.may1 l G tgt taken i = false) := Lib.hid (by unfold Sg.may1; rw [decide_eq_false hk]; simp)
                    have hkB : (((l[i]!).kind : Int) == 0) = false := by rw [beq_eq_false_iff_ne]; omega
                    clear htk hk hk256
                    generalize l[i]! = x at *
                    go_wp2_with fail
                    go_quiet (fail)
                    go_wp2_with fail
                    go_roundw
                    case rel => exact ⟨i, o, by omega, by go_num, rfl, HFO.out.no HP.out, HOW.out.drewN _⟩
                    case measure => simp [intOf] <;> omega

end Go.Proofs.Ytboplbcfoooenaa
