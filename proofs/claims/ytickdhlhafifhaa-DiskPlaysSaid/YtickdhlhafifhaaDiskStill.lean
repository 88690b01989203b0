/-
  THE WALK of the statement DiskStill: a disk that stands still does nothing; a fuse counts calls.
-/
import Derived.Test.YtickdhlhafifhaaDiskOrder
namespace Go.Proofs.Ytickdhlhafifhaa
open Go.RowKit

attribute [local go_sem ↓ high] appSem_eq

/-- What a call that writes, cuts or syncs makes of a disk, and its error. -/
def doLow (d : Dk.D) (x : Xst) : Dk.D × Nat := if x.kind % 8 = 0 then Dk.write d x.file x.s else if x.kind % 8 = 1 then Dk.cut d x.file x.n else Dk.sync d
theorem burn_err (d : Dk.D) : ((Dk.burn d).2 = 90 ∧ d.fuse = 0) ∨ ((Dk.burn d).2 = 0 ∧ d.fuse ≠ 0) := by
  have := (burn_fuse d).2
  by_cases h : d.fuse = 0
  · left; rw [this]; simp [h]
  · right; rw [this]; simp [h]
theorem write_facts (d : Dk.D) (ok : d.ok) (f : Int) (s : ByteArray) : (Dk.write d f s).1.fuse = (Dk.burn d).1.fuse ∧ ((Dk.write d f s).2 = 90 ↔ d.fuse = 0) ∧ (Dk.write d f s).2 ≤ 100 ∧ (Dk.write d f s).1.loose.length ≤ d.loose.length + 1 ∧ (Dk.write d f s).1.n = d.n := by
  obtain ⟨b1, b2, b3, b4, b5, b6⟩ := Dk.burn_ok ok
  rcases burn_err d with ⟨h, hf⟩ | ⟨h, hf⟩
  · rw [write_down (by rw [h]; decide)]
    exact ⟨rfl, by simp [hf], by simp, by rw [b5]; omega, b3⟩
  · by_cases h1 : d.is f = false
    · rw [write_none h h1]
      exact ⟨rfl, by simp [hf], by simp, by rw [b5]; omega, b3⟩
    · have h1' : d.is f = true := by simpa using h1
      by_cases h2 : d.left < s.size
      · rw [write_full h h1' h2]
        exact ⟨rfl, by simp [hf], by simp, by rw [b5]; omega, b3⟩
      · rw [write_ok' h h1' h2]
        exact ⟨rfl, by simp [hf], by simp, by unfold Dk.D.add; simp [b5], b3⟩
theorem cut_facts (d : Dk.D) (ok : d.ok) (f m : Int) : (Dk.cut d f m).1.fuse = (Dk.burn d).1.fuse ∧ ((Dk.cut d f m).2 = 90 ↔ d.fuse = 0) ∧ (Dk.cut d f m).2 ≤ 100 ∧ (Dk.cut d f m).1.loose.length ≤ d.loose.length + 1 ∧ (Dk.cut d f m).1.n = d.n := by
  obtain ⟨b1, b2, b3, b4, b5, b6⟩ := Dk.burn_ok ok
  rcases burn_err d with ⟨h, hf⟩ | ⟨h, hf⟩
  · rw [cut_down (by rw [h]; decide)]
    exact ⟨rfl, by simp [hf], by simp, by rw [b5]; omega, b3⟩
  · by_cases h1 : d.is f = false
    · rw [cut_none h h1]
      exact ⟨rfl, by simp [hf], by simp, by rw [b5]; omega, b3⟩
    · have h1' : d.is f = true := by simpa using h1
      obtain ⟨q, rfl⟩ := Int.eq_ofNat_of_zero_le (Dk.D.is_iff.1 h1').1
      by_cases h2 : m < 0 ∨ ((Dk.txt d.now q).size : Int) < m
      · rw [cut_arg h h1' h2]
        exact ⟨rfl, by simp [hf], by simp, by rw [b5]; omega, b3⟩
      · rw [cut_ok' h h1' h2]
        exact ⟨rfl, by simp [hf], by simp, by unfold Dk.D.add; simp [b5], b3⟩
theorem sync_facts (d : Dk.D) (ok : d.ok) : (Dk.sync d).1.fuse = (Dk.burn d).1.fuse ∧ ((Dk.sync d).2 = 90 ↔ d.fuse = 0) ∧ (Dk.sync d).2 ≤ 100 ∧ (Dk.sync d).1.loose.length ≤ d.loose.length + 1 ∧ (Dk.sync d).1.n = d.n := by
  obtain ⟨b1, b2, b3, b4, b5, b6⟩ := Dk.burn_ok ok
  unfold Dk.sync
  rcases burn_err d with ⟨h, hf⟩ | ⟨h, hf⟩
  · rw [if_pos (by rw [h]; decide)]
    exact ⟨rfl, by simp [hf], by simp, by rw [b5]; omega, b3⟩
  · rw [if_neg (by rw [h]; decide)]
    exact ⟨rfl, by simp [hf], by simp, by simp, Dk.D.now_length d⟩
theorem low_facts (d : Dk.D) (ok : d.ok) (x : Xst) : (doLow d x).1.fuse = (if 0 < d.fuse then d.fuse - 1 else d.fuse) ∧ ((doLow d x).2 = 90 ↔ d.fuse = 0) ∧ (doLow d x).2 ≤ 100 ∧ (doLow d x).1.loose.length ≤ d.loose.length + 1 ∧ (doLow d x).1.n = d.n ∧ (doLow d x).1.ok := by
  have hb := (burn_fuse d).1
  unfold doLow
  split
  · have := write_facts d ok x.file x.s; rw [← hb]; exact ⟨this.1, this.2.1, this.2.2.1, this.2.2.2.1, this.2.2.2.2, Dk.write_ok ok _ _⟩
  · split
    · have := cut_facts d ok x.file x.n; rw [← hb]; exact ⟨this.1, this.2.1, this.2.2.1, this.2.2.2.1, this.2.2.2.2, Dk.cut_ok ok _ _⟩
    · have := sync_facts d ok; rw [← hb]; exact ⟨this.1, this.2.1, this.2.2.1, this.2.2.2.1, this.2.2.2.2, Dk.sync_ok ok⟩

set_option maxRecDepth 20000 in
set_option maxHeartbeats 1000000 in
theorem does_low {w0 w : World} {p : Nat} {d : Dk.D} (h : Mine w0 w p d) (ok : d.ok) (hl : d.loose.length ≤ 100000) (x : Xst) (hx : okX x) (hs : x.s.size ≤ 1073741824) (hk : x.kind % 8 ≤ 2) :
    Calls Try.prog 14 #[.pointer (some ⟨p, 0, none⟩), .agg (scells x).toArray] w fun e w' => e = .returned (.int .i64 (doLow d x).2) ∧ Mine w0 w' p (doLow d x).1 := by
  have hM := h.keep ((Own.refl w).alloc (.cells (scells x).toArray 32 (0, 0))).below
  have HW := Lib.hid (hM.write ok hl x.file x.s hs)
  have HC := Lib.hid (hM.cut ok hl x.file x.n hx.n1 hx.n2)
  have HS := Lib.hid (hM.sync ok)
  have hk8 := hx.kind
  clear h hM ok hl hs hx
  show Calls _ _ #[.pointer (some ⟨p, 0, none⟩), .agg #[.int .u8 x.kind, .int .i64 x.file, .int .i64 x.n, .int .i64 x.m, .string x.s, .int .u8 (by8 x.b)]] _ _
  obtain ⟨r, hr⟩ : ∃ r, r = x.kind % 8 := ⟨_, rfl⟩
  have hr8 : r < 3 := by omega
  have ht : (x.kind : Int).tmod 8 = r := by rw [Int.tmod_eq_emod_of_nonneg (by omega)]; omega
  have he : (x.kind : Int) % 8 = r := by omega
  have HR := Lib.hid hr
  clear hk hr
  go_enter Try.func14, Try.ntmps14
  match r, hr8 with
  | 0, _ =>
    have HE : Hid (doLow d x = Dk.write d x.file x.s) := Lib.hid (by unfold doLow; rw [if_pos HR.out.symm])
    go_wp2_with fail
    refine HW.out.mono ?_
    rintro e w2 ⟨rfl, hm⟩
    have HM := Lib.hid hm
    clear hm
    go_wp2_with fail
    go_ret
    rw [HE.out]
    exact ⟨rfl, HM.out⟩
  | 1, _ =>
    have HE : Hid (doLow d x = Dk.cut d x.file x.n) := Lib.hid (by unfold doLow; rw [if_neg (by rw [← HR.out]; decide), if_pos HR.out.symm])
    go_wp2_with fail
    refine HC.out.mono ?_
    rintro e w2 ⟨rfl, hm⟩
    have HM := Lib.hid hm
    clear hm
    go_wp2_with fail
    go_ret
    rw [HE.out]
    exact ⟨rfl, HM.out⟩
  | 2, _ =>
    have HE : Hid (doLow d x = Dk.sync d) := Lib.hid (by unfold doLow; rw [if_neg (by rw [← HR.out]; decide), if_neg (by rw [← HR.out]; decide)])
    go_wp2_with fail
    refine HS.out.mono ?_
    rintro e w2 ⟨rfl, hm⟩
    have HM := Lib.hid hm
    clear hm
    go_wp2_with fail
    go_ret
    rw [HE.out]
    exact ⟨rfl, HM.out⟩

set_option maxRecDepth 20000 in
set_option maxHeartbeats 2000000 in
theorem diskStill_any (w : World) (a : Option Addr) (cap : Nat) (l : List Xst) (n1 : Nat) (h : StepsAt w a l) (ok : ∀ x ∈ l, okX x) (hl : l.length ≤ 9223372036854775807) (h1 : n1 < 256) :
    Calls Try.prog 5 #[.slice a l.length cap, .int .u8 n1] w fun e w' => e = .returned (.bool true) ∧ Below w.heap.size w w' := by
  have HH := Lib.hid (heavy_any w a cap l h ok hl)
  have HR := Lib.hid h
  have HOKX := Lib.hid ok
  have hlI : (0 : Int) ≤ l.length ∧ (l.length : Int) ≤ 9223372036854775807 := by omega
  have hnI : (0 : Int) ≤ n1 ∧ (n1 : Int) ≤ 255 := by omega
  clear h ok hl h1
  go_enter Try.func5, Try.ntmps5
  go_wp2_with fail
  refine HH.out.mono ?_
  rintro e w1 ⟨rfl, hw⟩
  subst w1
  cases hhv : heavyB l with
  | true =>
    clear hhv HH
    go_wp2_with fail
    refine (alive09 w).mono ?_
    rintro e w2 ⟨rfl, hb⟩
    have HB := Lib.hid hb
    clear hb
    go_wp2_with fail
    go_ret
    exact ⟨rfl, HB.out⟩
  | false =>
    have HHV := Lib.hid (heavy_no hhv)
    clear hhv HH
    go_wp2_with fail
    refine (new_has w 2 1024 (by decide) (by decide) (by decide)).mono ?_
    rintro e w1 ⟨rfl, hd, hb1, hlt1⟩
    have hM := Mine.new (Own.refl w) hd (Nat.le_refl _) hb1
    have hok0 : (Dk.new 2 1024).ok := Dk.new_ok 2 1024 (by decide) (by decide) (by decide)
    have HF := Lib.hid (hM.fuse hok0 (n1 : Int))
    have hok1 := Dk.fused_ok hok0 (n1 : Int) (by omega)
    have HOK1 := Lib.hid hok1
    clear hd hb1 hlt1 hok0 hok1 hM
    generalize w.heap.size = p at *
    go_wp2_with fail
    refine HF.out.mono ?_
    rintro e w2 ⟨rfl, hM⟩
    have HM := Lib.hid hM
    clear hM HF
    go_wp2_with fail
    go_loopw [7, 8] (fun vn vi wr => ∃ (k n : Nat) (d : Dk.D), k ≤ l.length ∧ vi = .int .i64 k ∧ vn = .int .i64 n ∧ n ≤ k ∧ Mine w wr p d ∧ d.ok ∧ d.n = 2 ∧ d.fuse = max ((n1 : Int) - n) 0 ∧ d.loose.length ≤ k) (fun _ vi _ => l.length - (intOf vi).toNat)
    case atStart => exact ⟨0, 0, _, Nat.zero_le _, rfl, rfl, Nat.le_refl _, HM.out, HOK1.out, rfl, by show max (n1 : Int) (-1) = _; omega, Nat.zero_le _⟩
    case round =>
      clear HM HOK1
      obtain ⟨k, n, d, hk, rfl, rfl, hnk, hM, hokd, hdn, hfu, hll⟩ := hrel
      have HNK := Lib.hid hnk
      have HM := Lib.hid hM
      have HOKD := Lib.hid hokd
      have HDN := Lib.hid hdn
      have HFU := Lib.hid hfu
      have HLL := Lib.hid hll
      have hnn : (0 : Int) ≤ n ∧ (n : Int) ≤ 100 := by have := HHV.out.2; omega
      clear hnk hM hokd hdn hfu hll
      by_cases hlt : k < l.length
      · obtain ⟨g, off, rfl, hg, c0, c1, c2, c3, c4, c5⟩ := StepsAt.at (RowIs.keep HR.out HM.out.own.below) k hlt
        have hkI : (0 : Int) ≤ k ∧ (k : Int) < l.length := by omega
        have hx := HOKX.out l[k] (List.getElem_mem hlt)
        have hsz := ssum_get HHV.out.1 l[k] (List.getElem_mem hlt)
        generalize l[k] = x at *
        have hk8 := hx.kind
        obtain ⟨r, hr⟩ : ∃ r, r = x.kind % 8 := ⟨_, rfl⟩
        have ht : (x.kind : Int).tmod 8 = r := by rw [Int.tmod_eq_emod_of_nonneg (by omega)]; omega
        have he : (x.kind : Int) % 8 = r := by omega
        by_cases h2 : r ≤ 2
        · have hrI : (0 : Int) ≤ r ∧ (r : Int) ≤ 2 := by omega
          have HDO := Lib.hid (does_low HM.out HOKD.out (by have := HLL.out; have := HHV.out.2; omega) x hx (by omega) (by omega))
          have HLF := Lib.hid (low_facts d HOKD.out x)
          have hfu := HFU.out
          clear hr h2 hsz hx hk8
          by_cases h0 : d.fuse = 0
          · have h90 := HLF.out.2.1.2 h0
            have hnI2 : (n1 : Int) ≤ n := by omega
            rw [h90] at HDO
            have HF2 : Hid ((doLow d x).1.fuse = max ((n1 : Int) - ((n + 1 : Nat) : Int)) 0) := Lib.hid (by rw [HLF.out.1, if_neg (by omega)]; omega)
            clear h0 h90 hfu
            go_wp2_with fail
            refine HDO.out.mono ?_
            rintro e w4 ⟨rfl, hM4⟩
            have HM4 := Lib.hid hM4
            clear hM4
            go_wp2_with fail
            go_roundw
            case rel => exact ⟨k + 1, n + 1, _, by omega, by go_num, by go_num, by have := HNK.out; omega, HM4.out, HLF.out.2.2.2.2.2, by rw [HLF.out.2.2.2.2.1]; exact HDN.out, HF2.out, by have := HLF.out.2.2.2.1; have := HLL.out; omega⟩
            case measure => simp [intOf]; omega
          · have h90 : ¬ (doLow d x).2 = 90 := fun h => h0 (HLF.out.2.1.1 h)
            have hnI2 : (n : Int) < n1 := by omega
            have hcmp : (((doLow d x).2 : Int) == 90) = false := by rw [beq_eq_false_iff_ne]; omega
            have HF2 : Hid ((doLow d x).1.fuse = max ((n1 : Int) - ((n + 1 : Nat) : Int)) 0) := Lib.hid (by rw [HLF.out.1, if_pos (by omega)]; omega)
            have HR90 := Lib.hid HLF.out.2.2.2
            clear h0 h90 hfu HLF
            generalize hd1 : (doLow d x).1 = d1 at *
            generalize (doLow d x).2 = ee at *
            go_wp2_with fail
            refine HDO.out.mono ?_
            rintro e w4 ⟨rfl, hM4⟩
            have HM4 := Lib.hid hM4
            clear hM4
            go_wp2_with fail
            go_roundw
            case rel => exact ⟨k + 1, n + 1, _, by omega, by go_num, by go_num, by have := HNK.out; omega, HM4.out, HR90.out.2.2, by rw [HR90.out.2.1]; exact HDN.out, HF2.out, by have := HR90.out.1; have := HLL.out; omega⟩
            case measure => simp [intOf]; omega
        · have hrI : (2 : Int) < r := by omega
          clear hr h2 hsz hx hk8
          go_wp2_with fail
          go_roundw
          case rel => exact ⟨k + 1, n, d, by omega, by go_num, rfl, by have := HNK.out; omega, HM.out, HOKD.out, HDN.out, HFU.out, by have := HLL.out; omega⟩
          case measure => simp [intOf]; omega
      · obtain rfl : k = l.length := by omega
        have hok := HOKD.out
        obtain ⟨F, hD⟩ := HM.out.has
        have hrd := read_has hD hok 0
        have HRM := Lib.hid (room_has hD hok)
        have HLS := Lib.hid (loose_has hD hok)
        have HFS := Lib.hid (HM.out.fuse hok (-1))
        have hok2 := Dk.fused_ok hok (-1) (by decide)
        have HOK2 := Lib.hid hok2
        have hleft : (Dk.fused d (-1)).left = d.left := rfl
        have hlo : (Dk.fused d (-1)).loose = d.loose := rfl
        have hr2 : Dk.read (Dk.fused d (-1)) 0 = (Dk.txt d.now 0, 0) := read_txt (d := Dk.fused d (-1)) (by show max (-1 : Int) (-1) ≠ 0; decide) 0 (by show 0 < d.n; rw [HDN.out]; decide)
        have HR2 := Lib.hid hr2
        have HLE := Lib.hid (And.intro hleft hlo)
        have hlr := hok.left
        have hlrI : d.left ≤ 4194304 ∧ -4194304 ≤ d.left := hlr
        have hloI : (0 : Int) ≤ d.loose.length ∧ (d.loose.length : Int) ≤ 100 := by have := HLL.out; have := HHV.out.2; omega
        have hfu := HFU.out
        clear hok hD hok2 hleft hlo hr2 hlr
        by_cases h0 : d.fuse = 0
        · have hnI2 : (n1 : Int) ≤ n := by omega
          have hrr : Dk.read d 0 = (Dk.none, 90) := by unfold Dk.read; rw [if_pos h0]
          rw [hrr] at hrd
          have HRD := Lib.hid hrd
          clear hrr hrd h0 hfu
          go_wp2_with fail
          refine HRD.out.mono ?_
          rintro e w4 ⟨rfl, hw⟩
          subst w4
          go_wp2_with fail
          refine HRM.out.mono ?_
          rintro e w4 ⟨rfl, hw⟩
          subst w4
          go_wp2_with fail
          refine HLS.out.mono ?_
          rintro e w4 ⟨rfl, hw⟩
          subst w4
          go_wp2_with fail
          refine HFS.out.mono ?_
          rintro e w5 ⟨rfl, hM5⟩
          obtain ⟨F5, hD5⟩ := hM5.has
          have hrm5 := room_has hD5 HOK2.out
          have hls5 := loose_has hD5 HOK2.out
          have hrd5 := read_has hD5 HOK2.out 0
          rw [HLE.out.1] at hrm5
          rw [HLE.out.2] at hls5
          rw [HR2.out] at hrd5
          have HRM5 := Lib.hid hrm5
          have HLS5 := Lib.hid hls5
          have HRD5 := Lib.hid hrd5
          have HO5 := Lib.hid hM5.own
          clear hM5 hD5 hrm5 hls5 hrd5
          go_wp2_with fail
          refine HRM5.out.mono ?_
          rintro e w4 ⟨rfl, hw⟩
          subst w4
          go_wp2_with fail
          refine HLS5.out.mono ?_
          rintro e w4 ⟨rfl, hw⟩
          subst w4
          go_wp2_with fail
          refine HRD5.out.mono ?_
          rintro e w4 ⟨rfl, hw⟩
          subst w4
          go_wp2_with fail
          refine (alive09 w5).mono ?_
          rintro e w6 ⟨rfl, hb⟩
          have HO6 := Lib.hid (HO5.out.trans hb)
          clear hb
          go_wp2_with fail
          go_ret
          exact ⟨rfl, HO6.out.below⟩
        · have hnI2 : (n : Int) < n1 := by omega
          have hrr : Dk.read d 0 = (Dk.txt d.now 0, 0) := read_txt h0 0 (by rw [HDN.out]; decide)
          rw [hrr] at hrd
          have HRD := Lib.hid hrd
          clear hrr hrd h0 hfu
          go_wp2_with fail
          refine HRD.out.mono ?_
          rintro e w4 ⟨rfl, hw⟩
          subst w4
          go_wp2_with fail
          refine HRM.out.mono ?_
          rintro e w4 ⟨rfl, hw⟩
          subst w4
          go_wp2_with fail
          refine HLS.out.mono ?_
          rintro e w4 ⟨rfl, hw⟩
          subst w4
          go_wp2_with fail
          refine HFS.out.mono ?_
          rintro e w5 ⟨rfl, hM5⟩
          obtain ⟨F5, hD5⟩ := hM5.has
          have hrm5 := room_has hD5 HOK2.out
          have hls5 := loose_has hD5 HOK2.out
          have hrd5 := read_has hD5 HOK2.out 0
          rw [HLE.out.1] at hrm5
          rw [HLE.out.2] at hls5
          rw [HR2.out] at hrd5
          have HRM5 := Lib.hid hrm5
          have HLS5 := Lib.hid hls5
          have HRD5 := Lib.hid hrd5
          have HO5 := Lib.hid hM5.own
          clear hM5 hD5 hrm5 hls5 hrd5
          go_wp2_with fail
          refine HRM5.out.mono ?_
          rintro e w4 ⟨rfl, hw⟩
          subst w4
          go_wp2_with fail
          refine HLS5.out.mono ?_
          rintro e w4 ⟨rfl, hw⟩
          subst w4
          go_wp2_with fail
          refine HRD5.out.mono ?_
          rintro e w4 ⟨rfl, hw⟩
          subst w4
          go_wp2_with fail
          refine (alive09 w5).mono ?_
          rintro e w6 ⟨rfl, hb⟩
          have HO6 := Lib.hid (HO5.out.trans hb)
          clear hb
          go_wp2_with fail
          go_ret
          exact ⟨rfl, HO6.out.below⟩

end Go.Proofs.Ytickdhlhafifhaa
