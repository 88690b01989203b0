/-
  THE WALKS of the document's answer for layer 9: burn, Is, Room, Read, Fuse, Sync, Write, Cut.
-/
import Derived.Test.YtickdhlhafifhaaDiskRef2
namespace Go.Proofs.Ytickdhlhafifhaa
open Go.RowKit

attribute [local go_sem ↓ high] appSem_eq

theorem callInfo : (Try.prog.info? 73).map (fun i => (i.zero, i.size, i.bytes)) = some (some (.agg #[.int .i64 0, .bool false, .int .i64 0, .string ⟨#[]⟩]), 4, 40) := by kernel_rfl
/-- What a call leaves of the answer's disk. -/
def RStep (w w' : World) (q : Nat) (x : Dk.D) (la : Option Addr) : Prop := ∃ sa sc la' lc, RBox w' q x sa sc la' lc ∧ Upd w w' (q :: blks la) ∧ ∀ k ∈ blks la', k ∈ blks la ∨ w.heap.size ≤ k
section
variable {w : World} {q : Nat} {d : Dk.D} {sa la : Option Addr} {sc lc : Nat}
theorem RBox.ne (h : RBox w q d sa sc la lc) : q ∉ blks sa ∧ q ∉ blks la ∧ ∀ k ∈ blks sa, k ∉ blks la := by
  refine ⟨h.sure.ne h.box (by decide), h.loose.ne h.box (by decide), fun k hk hl => ?_⟩
  rcases h.loose.2 with ⟨h0, _⟩ | ⟨g, off, cur, hr, hg, _⟩
  · rw [h0] at hl; cases hl
  · rw [hr] at hl; simp at hl; subst hl
    exact h.sure.ne hg (by decide) hk
/-- Its own block's writes leave its rows. -/
theorem RBox.rows {w' : World} (h : RBox w q d sa sc la lc) (hu : Upd w w' [q]) : SliceIs w' 9 1 sa d.n sc (d.sure.map Value.string) ∧ SliceIs w' 73 4 la d.loose.length lc (d.loose.map ccells).flatten := by
  obtain ⟨n1, n2, _⟩ := h.ne
  exact ⟨h.sure.keep fun k hk => hu.keep k (h.sure.lt k hk) (by simp; intro e; subst e; exact n1 hk), h.loose.keep fun k hk => hu.keep k (h.loose.lt k hk) (by simp; intro e; subst e; exact n2 hk)⟩
theorem RBox.same (h : RBox w q d sa sc la lc) {w' : World} (hb : Below w.heap.size w w') : RStep w w' q d la := ⟨sa, sc, la, lc, h.keep hb, Upd.of_below _ hb, fun k hk => .inl hk⟩
theorem rburn (h : RBox w q d sa sc la lc) (ok : d.ok) : Calls Try.prog 40 #[.pointer (some ⟨q, 0, none⟩)] w fun e w' => e = .returned (.bool (decide ((Dk.burn d).2 = 0))) ∧ RBox w' q (Dk.burn d).1 sa sc la lc ∧ Upd w w' [q] := by
  obtain ⟨c0, c1, c2, c3, f0, f1, f3, hq⟩ := h.facts
  have h1 := ok.f1
  have h2 := ok.f2
  have HB := Lib.hid h
  clear h ok
  by_cases hf : d.fuse = 0
  · have he : Dk.burn d = (d, 90) := by unfold Dk.burn; rw [if_pos hf]
    rw [he]
    rw [hf] at c3
    clear hf h1 h2
    go_enter Try.func40, Try.ntmps40
    go_wp2_with fail
    go_ret
    exact ⟨rfl, HB.out, Upd.refl _ _⟩
  · by_cases hp : 0 < d.fuse
    · have he : Dk.burn d = ({ d with fuse := d.fuse - 1 }, 0) := by unfold Dk.burn; rw [if_neg hf, if_pos hp]
      rw [he]
      clear hf
      go_enter Try.func40, Try.ntmps40
      go_wp2_with fail
      go_ret
      have hu : Upd w (w.setCell ⟨q, 3, none⟩ (.int .i64 (d.fuse - 1))) [q] := (Upd.refl _ _).setCell (by simp) _
      obtain ⟨r1, r2⟩ := HB.out.rows hu
      exact ⟨rfl, ⟨by rw [heap_set _ HB.out.box]; rfl, r1, r2⟩, hu⟩
    · have he : Dk.burn d = (d, 0) := by unfold Dk.burn; rw [if_neg hf, if_neg hp]
      have hm : d.fuse = -1 := by omega
      rw [he]
      rw [hm] at c3
      clear hf hp h1 h2 hm
      go_enter Try.func40, Try.ntmps40
      go_wp2_with fail
      go_ret
      exact ⟨rfl, HB.out, Upd.refl _ _⟩
theorem ris (h : RBox w q d sa sc la lc) (file : Int) : Calls Try.prog 41 #[.pointer (some ⟨q, 0, none⟩), .int .i64 file] w fun e w' => e = .returned (.bool (d.is file)) ∧ w' = w := by
  obtain ⟨c0, c1, c2, c3, f0, f1, f3, hq⟩ := h.facts
  clear h
  have hie : d.is file = (decide (0 ≤ file) && decide (file < (d.n : Int))) := rfl
  rw [hie]
  go_enter Try.func41, Try.ntmps41
  by_cases hf : 0 ≤ file
  · clear hie
    go_wp2_with fail
    go_ret
    refine ⟨?_, rfl⟩
    simp [hf]
  · have hf' : file < 0 := by omega
    clear hie
    go_wp2_with fail
    go_ret
    refine ⟨?_, rfl⟩
    simp [hf]
    intro h; omega
set_option maxRecDepth 20000 in
set_option maxHeartbeats 1000000 in
theorem rroom (h : RBox w q d sa sc la lc) (ok : d.ok) (hl : d.loose.length ≤ 100000) (hcn : cutsNone d.loose) : Calls Try.prog 42 #[.pointer (some ⟨q, 0, none⟩)] w fun e w' => e = .returned (.int .i64 d.left) ∧ Below w.heap.size w w' := by
  obtain ⟨c0, c1, c2, c3, f0, f1, f3, hq⟩ := h.facts
  have HN := Lib.hid (now_any h ok hl hcn)
  have hrI : (0 : Int) ≤ d.room ∧ (d.room : Int) ≤ 4194304 := by have := ok.room; unfold Dk.Most at this; omega
  have HT := Lib.hid ok.total_now
  have hnI : (1 : Int) ≤ d.n ∧ (d.n : Int) ≤ 16 := by have := ok.n1; have := ok.n2; omega
  have HNL := Lib.hid d.now_length
  have HLE : Hid (d.left = (d.room : Int) - Dk.total d.now) := Lib.hid rfl
  clear h ok hl hcn
  go_enter Try.func42, Try.ntmps42
  go_wp2_with fail
  refine HN.out.mono ?_
  rintro e w1 ⟨a, cap, rfl, hS, hb, _⟩
  have HS := Lib.hid hS
  have HB := Lib.hid hb
  clear hS hb HN
  generalize d.now = nl at *
  go_wp2_with fail
  go_loopw [3, 5] (fun vr vi wr => ∃ k : Nat, k ≤ d.n ∧ vi = .int .i64 k ∧ vr = .int .i64 ((d.room : Int) - Dk.total (nl.take k)) ∧ wr = w1) (fun _ vi _ => d.n - (intOf vi).toNat)
  case atStart => exact ⟨0, Nat.zero_le _, rfl, by simp [Dk.total], rfl⟩
  case round =>
    obtain ⟨k, hk, rfl, rfl, rfl⟩ := hrel
    by_cases hlt : k < d.n
    · have hkI : (0 : Int) ≤ k ∧ (k : Int) < d.n := by omega
      have hkl : k < nl.length := by rw [HNL.out]; exact hlt
      obtain ⟨g, off, rfl, hg, hc, _⟩ := HS.out.at1 k hkl
      have hs : Dk.total (nl.take (k + 1)) = Dk.total (nl.take k) + (Dk.txt nl k).size := by
        rw [List.take_succ_eq_append_getElem hkl]
        unfold Dk.total
        rw [List.map_append, List.sum_append, Dk.txt_get nl k hkl]; simp
      have hle : Dk.total (nl.take (k + 1)) ≤ Dk.total nl := by
        conv => rhs; rw [← List.take_append_drop (k + 1) nl]
        unfold Dk.total
        rw [List.map_append, List.sum_append]; omega
      have ht := HT.out
      unfold Dk.Most at ht
      have HSS : Hid ((d.room : Int) - Dk.total (nl.take (k + 1)) = (d.room : Int) - Dk.total (nl.take k) - (Dk.txt nl k).size) := Lib.hid (by omega)
      have hI : -4194304 ≤ (d.room : Int) - Dk.total (nl.take k) ∧ (d.room : Int) - Dk.total (nl.take k) ≤ 4194304 ∧ ((Dk.txt nl k).size : Int) ≤ 4194304 := by omega
      clear hs hle ht hkl
      generalize (d.room : Int) - Dk.total (nl.take k) = V at *
      generalize Dk.txt nl k = tk at *
      go_wp2_with fail
      go_roundw
      case rel => exact ⟨k + 1, by omega, by go_num, by rw [HSS.out], trivial⟩
      case measure => simp [intOf]; omega
    · obtain rfl : k = d.n := by omega
      rw [List.take_of_length_le (by rw [HNL.out]; exact Nat.le_refl _)]
      go_wp2_with fail
      go_ret
      rw [HLE.out]
      exact ⟨rfl, HB.out⟩
set_option maxRecDepth 20000 in
set_option maxHeartbeats 1000000 in
theorem rread (h : RBox w q d sa sc la lc) (ok : d.ok) (hl : d.loose.length ≤ 100000) (hcn : cutsNone d.loose) (file : Int) : Calls Try.prog 28 #[.pointer (some ⟨q, 0, none⟩), .int .i64 file] w fun e w' => e = .returned (.tuple #[.string (Dk.read d file).1, .int .i64 (Dk.read d file).2]) ∧ Below w.heap.size w w' := by
  obtain ⟨c0, c1, c2, c3, f0, f1, f3, hq⟩ := h.facts
  have HN := Lib.hid (now_any h ok hl hcn)
  have HI := Lib.hid (ris h file)
  have HNL := Lib.hid d.now_length
  have HOK := Lib.hid ok
  clear h ok hl hcn
  by_cases hf : d.fuse = 0
  · have hr : Dk.read d file = (Dk.none, 90) := by unfold Dk.read; rw [if_pos hf]
    rw [hr]
    rw [hf] at c3
    clear hf hr
    go_enter Try.func28, Try.ntmps28
    go_wp2_with fail
    go_ret2
    exact ⟨rfl, Below.refl _ _⟩
  · have hfu : (d.fuse == 0) = false := by rw [beq_eq_false_iff_ne]; exact hf
    cases his : d.is file with
    | false =>
      have hr : Dk.read d file = (Dk.none, 3) := by unfold Dk.read; rw [if_neg hf, if_pos his]
      rw [hr]
      rw [his] at HI
      clear hf hr his
      go_enter Try.func28, Try.ntmps28
      go_wp2_with fail
      refine HI.out.mono ?_
      rintro e w1 ⟨rfl, hw⟩
      subst w1
      go_wp2_with fail
      go_ret2
      exact ⟨rfl, Below.refl _ _⟩
    | true =>
      have hr : Dk.read d file = (Dk.txt d.now file.toNat, 0) := by unfold Dk.read; rw [if_neg hf, if_neg (by simp [his])]
      rw [hr]
      rw [his] at HI
      have hfI := Dk.D.is_iff.1 his
      obtain ⟨f, rfl⟩ := Int.eq_ofNat_of_zero_le hfI.1
      have hft : ((f : Nat) : Int).toNat = f := rfl
      have hfI2 : (0 : Int) ≤ f ∧ (f : Int) < d.n := hfI
      have hnI : (d.n : Int) ≤ 16 := by have := HOK.out.n2; omega
      clear hf hr his hfI
      rw [hft]
      clear hft
      go_enter Try.func28, Try.ntmps28
      go_wp2_with fail
      refine HI.out.mono ?_
      rintro e w1 ⟨rfl, hw⟩
      subst w1
      go_wp2_with fail
      refine HN.out.mono ?_
      rintro e w2 ⟨a, cap, rfl, hS, hb, _⟩
      obtain ⟨g, off, rfl, hg, hc, _⟩ := hS.at1 f (by rw [HNL.out]; omega)
      have HB := Lib.hid hb
      clear hS hb HN
      go_wp2_with fail
      go_ret2
      exact ⟨rfl, HB.out⟩
theorem rfuse (h : RBox w q d sa sc la lc) (n : Int) : Calls Try.prog 25 #[.pointer (some ⟨q, 0, none⟩), .int .i64 n] w fun e w' => e = .returned (.tuple #[]) ∧ RStep w w' q (Dk.fused d n) la := by
  obtain ⟨c0, c1, c2, c3, f0, f1, f3, hq⟩ := h.facts
  have hmax := fun w => run_max2 Try.prog w 3 n (-1)
  have HB := Lib.hid h
  clear h
  go_enter Try.func25, Try.ntmps25
  go_wp2_with fail
  refine bodyPost_end (v := .tuple #[]) (by simp [results, Try.results25, go_sem]) rfl ?_
  have hu : Upd w (w.setCell ⟨q, 3, none⟩ (.int .i64 (max n (-1)))) [q] := (Upd.refl _ _).setCell (by simp) _
  obtain ⟨r1, r2⟩ := HB.out.rows hu
  exact ⟨rfl, sa, sc, la, lc, ⟨by rw [heap_set _ HB.out.box]; rfl, r1, r2⟩, hu.mono (by simp), fun k hk => .inl hk⟩
end

end Go.Proofs.Ytickdhlhafifhaa
