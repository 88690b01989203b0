/-
  THE WALKS of the document's answer for layer 9: Sync, Write, Cut.
-/
import Derived.Test.YtickdhlhafifhaaDiskRef3
namespace Go.Proofs.Ytickdhlhafifhaa
open Go.RowKit

attribute [local go_sem ↓ high] appSem_eq

theorem ccells_one (c : Dk.Call) : ∀ u ∈ ccells c, u.oneCell' = true := by
  intro u hu; simp only [ccells, List.mem_cons, List.not_mem_nil, or_false] at hu
  rcases hu with rfl | rfl | rfl | rfl <;> rfl
/-- One call more, in the answer's row. -/
theorem app_call (w : World) (sa : Option Addr) (n cap : Nat) (xs : List Value) (hS : SliceIs w 73 4 sa n cap xs) (c : Dk.Call) (hn : n ≤ 1000000) :
    ∃ s' cap' w', (appSem #[69, 69] 69 #[.slice sa n cap, .slice (some ⟨w.heap.size, 0, none⟩) 1 1]).run Try.prog (w.alloc (.cells #[.int .i64 c.file, .bool c.cut, .int .i64 c.n, .string c.s] 73 (0, 0))) = .ok (.slice s' (n + 1) cap') w' ∧
      SliceIs w' 73 4 s' (n + 1) cap' (xs ++ ccells c) ∧ Upd w w' (blks sa) ∧ (∀ k ∈ blks s', k ∈ blks sa ∨ w.heap.size ≤ k) := by
  obtain ⟨i0, hi, hz0, hz1, hz2⟩ := info_parts callInfo
  have hrow : RowIs (w.alloc (.cells (ccells c).toArray 73 (0, 0))) 4 (some ⟨w.heap.size, 0, none⟩) [ccells c] := fun i hi => by
    have : i = 0 := by simp at hi; omega
    subst this
    exact ⟨w.heap.size, 0, rfl, CellsAt.new w (ccells c) _ (0, 0)⟩
  obtain ⟨s', cap', w', hr, hs, hu, hk⟩ := append_row (P := Try.prog) Try.underlying69 hi hz0 hz1 hz2 rfl (by decide) (w.alloc (.cells (ccells c).toArray 73 (0, 0))) sa n cap xs (hS.alloc _) (some ⟨w.heap.size, 0, none⟩) 1 [ccells c] hrow (by simp [ccells]) (by simpa using ccells_one c) (by simp; omega) (by decide) (by simp)
  exact ⟨s', cap', w', hr, by simpa using hs, ((Upd.refl w (blks sa)).alloc _).trans hu (fun k hk => .inl hk), fun k hk' => (hk k hk').imp id fun h => by simp at h; omega⟩
/-- A call is laid behind the answer's loose ones. -/
theorem radd_mem {w : World} {q : Nat} {d : Dk.D} {sa la : Option Addr} {sc lc : Nat} (h : RBox w q d sa sc la lc) (hl : d.loose.length ≤ 1000000) (c : Dk.Call) :
    ∃ s' cap' w', (appSem #[69, 69] 69 #[.slice la d.loose.length lc, .slice (some ⟨w.heap.size, 0, none⟩) 1 1]).run Try.prog (w.alloc (.cells #[.int .i64 c.file, .bool c.cut, .int .i64 c.n, .string c.s] 73 (0, 0))) = .ok (.slice s' (d.loose.length + 1) cap') w' ∧
      (w'.cell? ⟨q, 1, none⟩ = some (.slice la d.loose.length lc) ∧ w'.frozen? ⟨q, 1, none⟩ = false) ∧ RStep w (w'.setCell ⟨q, 1, none⟩ (.slice s' (d.loose.length + 1) cap')) q (d.add c) la := by
  obtain ⟨s', cap', w', hr, hS, hU, hk⟩ := app_call w la d.loose.length lc _ h.loose c hl
  obtain ⟨n1, n2, n3⟩ := h.ne
  have hq := blk_lt h.box
  have hbx := (hU.keep q hq n2).trans h.box
  refine ⟨s', cap', w', hr, ⟨by rw [cell_of_row w' q _ _ _ _ hbx]; rfl, by simp [World.frozen?, hbx]⟩, ?_⟩
  have hU2 : Upd w (w'.setCell ⟨q, 1, none⟩ (.slice s' (d.loose.length + 1) cap')) (q :: blks la) := (hU.mono (fun x hx => List.mem_cons_of_mem _ hx)).setCell (.inl (by simp)) _
  have hqs : q ∉ blks s' := fun hx => by rcases hk q hx with h | h; · exact n2 h
                                         · omega
  refine ⟨sa, sc, s', cap', ⟨?_, ?_, ?_⟩, hU2, hk⟩
  · rw [heap_set _ hbx]
    have e : (d.add c).loose.length = d.loose.length + 1 := by simp [Dk.D.add]
    rw [e]; rfl
  · exact h.sure.keep fun k hk => hU2.keep k (h.sure.lt k hk) (by simp; exact ⟨fun e => by subst e; exact n1 hk, n3 k hk⟩)
  · have e : (d.add c).loose.length = d.loose.length + 1 := by simp [Dk.D.add]
    have e2 : ((d.add c).loose.map ccells).flatten = (d.loose.map ccells).flatten ++ ccells c := by simp [Dk.D.add]
    rw [e, e2]
    exact hS.keep fun k hk => Below.heap_setCell _ _ _ _ (fun e => hqs (by simp only at e; rw [← e]; exact hk))

theorem RStep.after {w w1 w2 : World} {q : Nat} {d x : Dk.D} {sa la : Option Addr} {sc lc : Nat} (hU : Upd w w1 [q]) (hs : RStep w1 w2 q x la) : RStep w w2 q x la := by
  obtain ⟨sa', sc', la', lc', hB, hU2, hk⟩ := hs
  exact ⟨sa', sc', la', lc', hB, (hU.mono (by simp)).trans hU2 (fun x hx => .inl hx), fun k hx => (hk k hx).imp id (fun h => Nat.le_trans hU.size h)⟩
theorem RStep.kept {w w1 : World} {q : Nat} {x : Dk.D} {sa la : Option Addr} {sc lc : Nat} (hB : RBox w1 q x sa sc la lc) (hU : Upd w w1 [q]) : RStep w w1 q x la := ⟨sa, sc, la, lc, hB, hU.mono (by simp), fun k hx => .inl hx⟩
theorem RStep.then {w w1 w2 : World} {q : Nat} {x : Dk.D} {la : Option Addr} (hs : RStep w w1 q x la) (hb : Below w1.heap.size w1 w2) : RStep w w2 q x la := by
  obtain ⟨sa', sc', la', lc', hB, hU2, hk⟩ := hs
  exact ⟨sa', sc', la', lc', hB.keep hb, hU2.trans (Upd.of_below _ hb) (fun x hx => .inl hx), hk⟩
section
variable {w : World} {q : Nat} {d : Dk.D} {sa la : Option Addr} {sc lc : Nat}
set_option maxRecDepth 20000 in
set_option maxHeartbeats 1000000 in
theorem rsync (h : RBox w q d sa sc la lc) (ok : d.ok) (hl : d.loose.length ≤ 100000) (hcn : cutsNone d.loose) : Calls Try.prog 24 #[.pointer (some ⟨q, 0, none⟩)] w fun e w' => e = .returned (.int .i64 (Dk.sync d).2) ∧ RStep w w' q (Dk.sync d).1 la := by
  have HBU := Lib.hid (rburn h ok)
  have HOK := Lib.hid ok
  have HLL := Lib.hid hl
  have HCN := Lib.hid hcn
  clear h ok hl hcn
  go_enter Try.func24, Try.ntmps24
  go_wp2_with fail
  refine HBU.out.mono ?_
  rintro e w1 ⟨rfl, hB, hU⟩
  have HB := Lib.hid hB
  have HU := Lib.hid hU
  obtain ⟨b1, b2, b3, b4, b5, b6⟩ := Dk.burn_ok HOK.out
  rcases burn_err d with ⟨hb, hf⟩ | ⟨hb, hf⟩
  · have HE : Hid (Dk.sync d = ((Dk.burn d).1, 90)) := Lib.hid (by unfold Dk.sync; rw [if_pos (by rw [hb]; decide)])
    rw [hb]
    clear hB hU b1 b2 b3 b4 b5 b6 hb hf
    go_wp2_with fail
    go_ret
    rw [HE.out]
    exact ⟨rfl, RStep.kept HB.out HU.out⟩
  · have HE : Hid (Dk.sync d = ({ (Dk.burn d).1 with sure := d.now, loose := [] }, 0)) := Lib.hid (by unfold Dk.sync; rw [if_neg (by rw [hb]; decide)])
    have HN := Lib.hid (now_any hB b1 (by rw [b5]; exact HLL.out) (by rw [b5]; exact HCN.out))
    have HBE := Lib.hid (And.intro b2 b3)
    rw [hb]
    clear hB hU b1 b2 b3 b4 b5 b6 hb hf
    go_wp2_with fail
    refine HN.out.mono ?_
    rintro e w2 ⟨a, cap, rfl, hS, hb, hfr⟩
    have hB2 := HB.out.keep hb
    obtain ⟨c0, c1, c2, c3, f0, f1, f3, hq⟩ := hB2.facts
    have HB2 := Lib.hid hB2
    have HS := Lib.hid hS
    have HBB := Lib.hid hb
    have HFR := Lib.hid hfr
    clear hB2 hS hb hfr HN
    go_wp2_with fail
    go_ret
    rw [HE.out]
    refine ⟨rfl, a, cap, none, 0, ⟨?_, ?_, SliceIs.nil _ _ _⟩, ?_, by simp⟩
    · have e : ({ (Dk.burn d).1 with sure := d.now, loose := [] } : Dk.D).n = (Dk.burn d).1.n := by show d.now.length = _; rw [Dk.D.now_length, HBE.out.2]
      rw [e, heap_set _ (heap_set _ HB2.out.box)]; rfl
    · have e : ({ (Dk.burn d).1 with sure := d.now, loose := [] } : Dk.D).n = (Dk.burn d).1.n := by show d.now.length = _; rw [Dk.D.now_length, HBE.out.2]
      rw [e]
      have hx := HS.out
      rw [HBE.out.1] at hx
      have hne : ∀ k ∈ blks a, k ≠ q := fun k hk e => by have := HFR.out k hk; have := blk_lt HB.out.box; omega
      exact hx.keep fun k hk => (Below.heap_setCell _ _ _ _ (by simpa using hne k hk)).trans (Below.heap_setCell _ _ _ _ (by simpa using hne k hk))
    · exact ((((HU.out.trans (Upd.of_below [q] HBB.out) (fun x hx => .inl hx)).setCell (.inl (by simp)) _).setCell (.inl (by simp)) _)).mono (by simp)
set_option maxRecDepth 20000 in
set_option maxHeartbeats 1000000 in
theorem rwrite (h : RBox w q d sa sc la lc) (ok : d.ok) (hl : d.loose.length ≤ 100000) (hcn : cutsNone d.loose) (file : Int) (s : ByteArray) (hs : s.size ≤ 1073741824) :
    Calls Try.prog 22 #[.pointer (some ⟨q, 0, none⟩), .int .i64 file, .string s] w fun e w' => e = .returned (.int .i64 (Dk.write d file s).2) ∧ RStep w w' q (Dk.write d file s).1 la := by
  have HBU := Lib.hid (rburn h ok)
  have HOK := Lib.hid ok
  have HLL := Lib.hid hl
  have HCN := Lib.hid hcn
  have hsI : (0 : Int) ≤ s.size ∧ (s.size : Int) ≤ 1073741824 := by omega
  clear h ok hl hcn hs
  go_enter Try.func22, Try.ntmps22
  go_wp2_with fail
  refine HBU.out.mono ?_
  rintro e w1 ⟨rfl, hB, hU⟩
  have HB := Lib.hid hB
  have HU := Lib.hid hU
  obtain ⟨b1, b2, b3, b4, b5, b6⟩ := Dk.burn_ok HOK.out
  rcases burn_err d with ⟨hb, hf⟩ | ⟨hb, hf⟩
  · have HE := Lib.hid (write_down (file := file) (s := s) (by rw [hb]; decide : (Dk.burn d).2 ≠ 0))
    rw [hb]
    clear hB hU b1 b2 b3 b4 b5 b6 hb hf
    go_wp2_with fail
    go_ret
    rw [HE.out]
    exact ⟨rfl, RStep.kept HB.out HU.out⟩
  · have HBE := Lib.hid hb
    have HI := Lib.hid (ris hB file)
    have hie : (Dk.burn d).1.is file = d.is file := by unfold Dk.D.is; rw [b3]
    rw [hie] at HI
    have HR := Lib.hid (rroom hB b1 (by rw [b5]; exact HLL.out) (by rw [b5]; exact HCN.out))
    have hle : (Dk.burn d).1.left = d.left := by unfold Dk.D.left; rw [b2, b6]
    rw [hle] at HR
    have HL5 := Lib.hid (show (Dk.burn d).1.loose.length ≤ 1000000 by rw [b5]; have := HLL.out; omega)
    have hlI := HOK.out.left
    have hlII : d.left ≤ 4194304 ∧ -4194304 ≤ d.left := hlI
    rw [hb]
    clear hU b1 b2 b3 b4 b5 b6 hb hf hie hle hlI
    cases his : d.is file with
    | false =>
      rw [his] at HI
      have HE := Lib.hid (write_none (s := s) HBE.out his)
      clear hB his
      go_wp2_with fail
      refine HI.out.mono ?_
      rintro e w2 ⟨rfl, hw⟩
      subst w2
      go_wp2_with fail
      go_ret
      rw [HE.out]
      exact ⟨rfl, RStep.kept HB.out HU.out⟩
    | true =>
      rw [his] at HI
      have HIS := Lib.hid his
      by_cases hfull : d.left < s.size
      · have HE := Lib.hid (write_full HBE.out his hfull)
        clear hB his
        go_wp2_with fail
        refine HI.out.mono ?_
        rintro e w2 ⟨rfl, hw⟩
        subst w2
        go_wp2_with fail
        refine HR.out.mono ?_
        rintro e w2 ⟨rfl, hb⟩
        have HBB := Lib.hid hb
        clear hb
        go_wp2_with fail
        go_ret
        rw [HE.out]
        exact ⟨rfl, (RStep.kept HB.out HU.out).then HBB.out⟩
      · have HE := Lib.hid (write_ok' HBE.out his hfull)
        obtain ⟨f, rfl⟩ := Int.eq_ofNat_of_zero_le (Dk.D.is_iff.1 his).1
        clear hB his
        go_wp2_with fail
        refine HI.out.mono ?_
        rintro e w2 ⟨rfl, hw⟩
        subst w2
        go_wp2_with fail
        refine HR.out.mono ?_
        rintro e w2 ⟨rfl, hb⟩
        have hB2 := HB.out.keep hb
        obtain ⟨c0, c1, c2, c3, f0, f1, f3, hq⟩ := hB2.facts
        obtain ⟨s', cap', w3, hr, ⟨y1, y2⟩, hst⟩ := radd_mem hB2 HL5.out ⟨f, false, 0, s⟩
        replace hr : (appSem #[69, 69] 69 #[.slice la (Dk.burn d).1.loose.length lc, .slice (some ⟨w2.heap.size, 0, none⟩) 1 1]).run Try.prog (w2.alloc (.cells #[.int .i64 f, .bool false, .int .i64 0, .string s] 73 (0, 0))) = .ok (.slice s' ((Dk.burn d).1.loose.length + 1) cap') w3 := hr
        have HST := Lib.hid (RStep.after (d := d) (sa := sa) (sc := sc) (lc := lc) (HU.out.trans (Upd.of_below [q] hb) (fun x hx => .inl hx)) hst)
        clear hb hB2 hst HR HI
        go_wp2_with fail
        go_ret
        rw [HE.out]
        exact ⟨rfl, HST.out⟩
set_option maxRecDepth 20000 in
set_option maxHeartbeats 1000000 in
theorem rcut (h : RBox w q d sa sc la lc) (ok : d.ok) (hl : d.loose.length ≤ 100000) (hcn : cutsNone d.loose) (file m : Int) (hm1 : -9223372036854775808 ≤ m) (hm2 : m ≤ 9223372036854775807) :
    Calls Try.prog 23 #[.pointer (some ⟨q, 0, none⟩), .int .i64 file, .int .i64 m] w fun e w' => e = .returned (.int .i64 (Dk.cut d file m).2) ∧ RStep w w' q (Dk.cut d file m).1 la := by
  have HBU := Lib.hid (rburn h ok)
  have HOK := Lib.hid ok
  have HLL := Lib.hid hl
  have HCN := Lib.hid hcn
  clear h ok hl hcn
  go_enter Try.func23, Try.ntmps23
  go_wp2_with fail
  refine HBU.out.mono ?_
  rintro e w1 ⟨rfl, hB, hU⟩
  have HB := Lib.hid hB
  have HU := Lib.hid hU
  obtain ⟨b1, b2, b3, b4, b5, b6⟩ := Dk.burn_ok HOK.out
  rcases burn_err d with ⟨hb, hf⟩ | ⟨hb, hf⟩
  · have HE := Lib.hid (cut_down (file := file) (m := m) (by rw [hb]; decide : (Dk.burn d).2 ≠ 0))
    rw [hb]
    clear hB hU b1 b2 b3 b4 b5 b6 hb hf
    go_wp2_with fail
    go_ret
    rw [HE.out]
    exact ⟨rfl, RStep.kept HB.out HU.out⟩
  · have HBE := Lib.hid hb
    have HI := Lib.hid (ris hB file)
    have hie : (Dk.burn d).1.is file = d.is file := by unfold Dk.D.is; rw [b3]
    rw [hie] at HI
    have HN := Lib.hid (now_any hB b1 (by rw [b5]; exact HLL.out) (by rw [b5]; exact HCN.out))
    have HBF := Lib.hid (And.intro b2 b3)
    have HL5 := Lib.hid (show (Dk.burn d).1.loose.length ≤ 1000000 by rw [b5]; have := HLL.out; omega)
    rw [hb]
    clear hU b1 b2 b3 b4 b5 b6 hb hf hie
    cases his : d.is file with
    | false =>
      rw [his] at HI
      have HE := Lib.hid (cut_none (m := m) HBE.out his)
      clear hB his
      go_wp2_with fail
      refine HI.out.mono ?_
      rintro e w2 ⟨rfl, hw⟩
      subst w2
      go_wp2_with fail
      go_ret
      rw [HE.out]
      exact ⟨rfl, RStep.kept HB.out HU.out⟩
    | true =>
      rw [his] at HI
      have hfi := Dk.D.is_iff.1 his
      obtain ⟨f, rfl⟩ := Int.eq_ofNat_of_zero_le hfi.1
      have hfn : f < d.n := by omega
      have HF := Lib.hid hfn
      have hfI : (0 : Int) ≤ f ∧ (f : Int) < (Dk.burn d).1.n := by rw [HBF.out.2]; omega
      have hzI : (0 : Int) ≤ (Dk.txt d.now f).size ∧ ((Dk.txt d.now f).size : Int) ≤ 4194304 := by have t1 := Dk.txt_le d.now f; have t2 := HOK.out.total_now; unfold Dk.Most at t2; omega
      have HIS := Lib.hid his
      clear hB his hfi hfn
      by_cases hm0 : m < 0
      · have HE := Lib.hid (cut_arg HBE.out HIS.out (.inl hm0))
        go_wp2_with fail
        refine HI.out.mono ?_
        rintro e w2 ⟨rfl, hw⟩
        subst w2
        go_wp2_with fail
        go_ret
        rw [HE.out]
        exact ⟨rfl, RStep.kept HB.out HU.out⟩
      · obtain ⟨k, rfl⟩ := Int.eq_ofNat_of_zero_le (show 0 ≤ m by omega)
        clear hm0
        by_cases hbig : ((Dk.txt d.now f).size : Int) < k
        · have HE := Lib.hid (cut_arg HBE.out HIS.out (.inr hbig))
          go_wp2_with fail
          refine HI.out.mono ?_
          rintro e w2 ⟨rfl, hw⟩
          subst w2
          go_wp2_with fail
          refine HN.out.mono ?_
          rintro e w2 ⟨a, cap, rfl, hS, hb, _⟩
          rw [HBF.out.1] at hS
          obtain ⟨g, off, rfl, hg, hc, _⟩ := hS.at1 f (by rw [Dk.D.now_length]; exact HF.out)
          have HBB := Lib.hid hb
          clear hS hb HN
          go_wp2_with fail
          go_ret
          rw [HE.out]
          exact ⟨rfl, (RStep.kept HB.out HU.out).then HBB.out⟩
        · have HE := Lib.hid (cut_ok' HBE.out HIS.out (show ¬ ((k : Int) < 0 ∨ ((Dk.txt d.now f).size : Int) < k) by omega))
          go_wp2_with fail
          refine HI.out.mono ?_
          rintro e w2 ⟨rfl, hw⟩
          subst w2
          go_wp2_with fail
          refine HN.out.mono ?_
          rintro e w2 ⟨a, cap, rfl, hS, hb, _⟩
          rw [HBF.out.1] at hS
          obtain ⟨g, off, rfl, hg, hc, _⟩ := hS.at1 f (by rw [Dk.D.now_length]; exact HF.out)
          have hB2 := HB.out.keep hb
          obtain ⟨c0, c1, c2, c3, f0, f1, f3, hq⟩ := hB2.facts
          obtain ⟨s', cap', w3, hr, ⟨y1, y2⟩, hst⟩ := radd_mem hB2 HL5.out ⟨f, true, k, Dk.none⟩
          replace hr : (appSem #[69, 69] 69 #[.slice la (Dk.burn d).1.loose.length lc, .slice (some ⟨w2.heap.size, 0, none⟩) 1 1]).run Try.prog (w2.alloc (.cells #[.int .i64 f, .bool true, .int .i64 k, .string ⟨#[]⟩] 73 (0, 0))) = .ok (.slice s' ((Dk.burn d).1.loose.length + 1) cap') w3 := hr
          have HST := Lib.hid (RStep.after (d := d) (sa := sa) (sc := sc) (lc := lc) (HU.out.trans (Upd.of_below [q] hb) (fun x hx => .inl hx)) hst)
          clear hb hB2 hst HN HI hS
          go_wp2_with fail
          go_ret
          rw [HE.out]
          exact ⟨rfl, HST.out⟩
end

end Go.Proofs.Ytickdhlhafifhaa
