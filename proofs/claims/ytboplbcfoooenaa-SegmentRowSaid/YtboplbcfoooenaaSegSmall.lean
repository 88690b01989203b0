/-
  THE WALKS of the small functions of layer 11's statements: heavy, Same, Places.
-/
import Derived.Test.YtboplbcfoooenaaSegBytes
import Derived.Test.YtboplbcfoooenaaWireRef2
import Derived.Deep.DeepCutAuto
namespace Go.Proofs.Ytboplbcfoooenaa
open Go.RowKit

attribute [local go_sem ↓ high] appSem_eq

/-- How long a segment's texts may be that was handed in. -/
structure okH (x : Sx) : Prop where
  kind : x.kind < 256
  gen : x.gen < 18446744073709551616
  first : x.first < 18446744073709551616
  n : x.recs.length ≤ 140737488355328
  t : x.t.size ≤ 140737488355328
  rs : ∀ r ∈ x.recs, r.size ≤ 140737488355328

set_option maxRecDepth 20000 in
set_option maxHeartbeats 1000000 in
theorem heavy11 (w : World) (x : Sx) (a : Option Addr) (cap : Nat) (ok : okH x) (hr : RowIs w 1 a (x.recs.map tcell)) :
    Calls Try.prog 6 #[.agg #[.int .u8 x.kind, .int .u64 x.gen, .int .u64 x.first, .string x.t, .slice a x.recs.length cap, .int .i64 x.used, .bool x.whole]] w fun e w' => (∃ b, e = .returned (.bool b) ∧ (b = false → okS x)) ∧ Below w.heap.size w w' := by
  have hO := Own.refl w
  have HOK := Lib.hid ok
  have HR := Lib.hid hr
  have hn := ok.n
  have hnI : (0 : Int) ≤ x.recs.length ∧ (x.recs.length : Int) ≤ 140737488355328 := by omega
  have ht := ok.t
  have htI : (0 : Int) ≤ x.t.size ∧ (x.t.size : Int) ≤ 140737488355328 := by omega
  clear ok hr hn ht
  go_enter Try.func6, Try.ntmps6
  go_wp2_with fail
  have hB0 : SegBox (w.alloc (.cells #[.int .u8 x.kind, .int .u64 x.gen, .int .u64 x.first, .string x.t, .slice a x.recs.length cap, .int .i64 x.used, .bool x.whole] 28 (0, 0))) w.heap.size x a cap := heap_alloc_new w _
  have HB0 := Lib.hid hB0
  have HO0 := Lib.hid (hO.alloc (.cells #[.int .u8 x.kind, .int .u64 x.gen, .int .u64 x.first, .string x.t, .slice a x.recs.length cap, .int .i64 x.used, .bool x.whole] 28 (0, 0)))
  clear hB0 hO
  go_loopw [3, 4] (fun vn vi wr => ∃ i n : Nat, i ≤ x.recs.length ∧ vi = .int .i64 i ∧ vn = .int .i64 n ∧ n = x.t.size + sizes (x.recs.take i) ∧ n ≤ 140737488355328 + 8192 ∧ wr = w.alloc (.cells #[.int .u8 x.kind, .int .u64 x.gen, .int .u64 x.first, .string x.t, .slice a x.recs.length cap, .int .i64 x.used, .bool x.whole] 28 (0, 0))) (fun _ vi _ => x.recs.length - (intOf vi).toNat)
  case atStart => exact ⟨0, x.t.size, Nat.zero_le _, rfl, rfl, by simp [sizes], by omega, rfl⟩
  case round =>
    obtain ⟨i, n, hi, rfl, rfl, hn, hle, rfl⟩ := hrel
    obtain ⟨c0, c1, c2, c3, c4, c5, c6, hl⟩ := HB0.out.facts
    have HN := Lib.hid hn
    clear hn
    have hnN : (0 : Int) ≤ n ∧ (n : Int) ≤ 140737488363520 := by omega
    clear hle
    by_cases hb : n ≤ 8192
    · have hbI : (n : Int) ≤ 8192 := by omega
      by_cases hlt : i < x.recs.length
      · obtain ⟨g, off, rfl, hc⟩ := (HR.out.keep HO0.out.below).cell1 (f := fun x => .string x) i hlt
        have hiI : (0 : Int) ≤ i ∧ (i : Int) < x.recs.length := by omega
        have hrs := HOK.out.rs _ (List.getElem_mem hlt)
        have HS := Lib.hid (sizes_take_succ x.recs i hlt)
        generalize x.recs[i] = r at *
        have hrI : (0 : Int) ≤ r.size ∧ (r.size : Int) ≤ 140737488355328 := by omega
        have hw1 : IntKind.i64.wrap ((n : Int) + r.size) = ((n + r.size : Nat) : Int) := by rw [IntWalk.i64_in _ (by omega)]; omega
        clear hrs
        go_wp2_with fail
        go_roundw
        case rel => exact ⟨i + 1, n + r.size, by omega, by go_num, rfl, by rw [HS.out, HN.out]; omega, by omega, (by first | rfl | trivial)⟩
        case measure => simp [intOf]; omega
      · obtain rfl : i = x.recs.length := by omega
        by_cases h60 : x.recs.length ≤ 60
        · have h60I : (x.recs.length : Int) ≤ 60 := by omega
          have HF : Hid (okS x) := Lib.hid ⟨HOK.out.kind, HOK.out.gen, HOK.out.first, h60, by have := HN.out; rw [List.take_length] at this; omega⟩
          clear h60
          go_wp2_with fail
          go_ret
          exact ⟨⟨_, rfl, fun _ => HF.out⟩, HO0.out.below⟩
        · have h60I : (60 : Int) < x.recs.length := by omega
          clear h60
          go_wp2_with fail
          go_ret
          exact ⟨⟨_, rfl, fun h => by simp at h⟩, HO0.out.below⟩
    · have hbI : (8192 : Int) < n := by omega
      clear hb
      by_cases hlt : i < x.recs.length
      · have hiI : (i : Int) < x.recs.length := by omega
        go_wp2_with fail
        go_ret
        exact ⟨⟨_, rfl, fun h => by simp at h⟩, HO0.out.below⟩
      · obtain rfl : i = x.recs.length := by omega
        go_wp2_with fail
        go_ret
        exact ⟨⟨_, rfl, fun h => by simp at h⟩, HO0.out.below⟩

def pcell (n : Nat) : List Value := [.int .i64 n]
set_option maxRecDepth 20000 in
theorem rseg_places (w : World) (l : List Nat) (a b : Option Addr) (ca cb : Nat) (h : RowIs w 1 a (l.map pcell)) (k : RowIs w 1 b (l.map pcell)) (hl : l.length ≤ 1073741824) :
    Calls Try.prog 9 #[.slice a l.length ca, .slice b l.length cb] w fun e w' => e = .returned (.bool true) ∧ Below w.heap.size w w' := by
  have H := Lib.hid h
  have K := Lib.hid k
  have hlI : (0 : Int) ≤ l.length ∧ (l.length : Int) ≤ 1073741824 := by omega
  clear h k hl
  go_enter Try.func9, Try.ntmps9
  go_wp2_with fail
  go_loopw [5] (fun vi wr => ∃ i m0 : Nat, i ≤ l.length ∧ vi = .int .i64 i ∧ wr = w.drewN m0) (fun vi _ => l.length - (intOf vi).toNat)
  case atStart => exact ⟨0, 0, Nat.zero_le _, rfl, rfl⟩
  case round =>
    obtain ⟨i, m0, hi, rfl, rfl⟩ := hrel
    by_cases hlt : i < l.length
    · obtain ⟨g, off, rfl, hc⟩ := H.out.cell1 (f := fun x : Nat => .int .i64 x) i hlt
      obtain ⟨g', off', rfl, hc'⟩ := K.out.cell1 (f := fun x : Nat => .int .i64 x) i hlt
      have hiI : (0 : Int) ≤ i ∧ (i : Int) < l.length := by omega
      generalize l[i] = x at *
      go_wp2_with fail
      refine wp_region_quiet_lit (by kernel_rfl) (by kernel_rfl) ?_
      repeat (quiet_step (fail))
      refine wpQuiet_nil ?_
      intro _ hw'
      obtain ⟨nq, hw''⟩ := hw'
      subst hw''
      rw [World.drewN_drewN]
      go_wp2
      go_roundw
      case rel => exact ⟨i + 1, _, by omega, by go_num, rfl⟩
      case measure => simp [intOf]; omega
    · obtain rfl : i = l.length := by omega
      go_wp2_with fail
      go_ret
      exact ⟨rfl, ((Own.refl w).drewN _).below⟩

end Go.Proofs.Ytboplbcfoooenaa
