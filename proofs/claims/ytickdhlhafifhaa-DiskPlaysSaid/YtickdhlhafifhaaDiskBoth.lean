/-
  A DISK AND THE DOCUMENT'S ANSWER, both in memory; the walks of Does, of a disk alone, and of same.
-/
import Derived.Test.YtickdhlhafifhaaDiskRef8
namespace Go.Proofs.Ytickdhlhafifhaa
open Go.RowKit

attribute [local go_sem ↓ high] appSem_eq

theorem DStep.before {w w1 w2 : World} {p : Nat} {d : Dk.D} {F : List Nat} (h : DStep w1 w2 p d F) (hb : Below w.heap.size w w1) : DStep w w2 p d F := by
  obtain ⟨F', hd, hu, hk⟩ := h
  exact ⟨F', hd, (Upd.of_below F hb).trans hu (fun x hx => .inl hx), fun k hx => (hk k hx).imp id (fun h => Nat.le_trans hb.size h)⟩
set_option maxRecDepth 20000 in
set_option maxHeartbeats 1000000 in
theorem does_has {w : World} {p : Nat} {d : Dk.D} {F : List Nat} (h : DHas w p d F) (ok : d.ok) (hl : d.loose.length ≤ 100000) (x : Xst) (hx : okX x) (hs : x.s.size ≤ 1073741824) :
    Calls Try.prog 14 #[.pointer (some ⟨p, 0, none⟩), .agg (scells x).toArray] w fun e w' => e = .returned (.int .i64 (doX d x).2) ∧ DStep w w' p (doX d x).1 F := by
  have hbl := ((Own.refl w).alloc (.cells (scells x).toArray 32 (0, 0))).below
  have hM := h.own hbl
  have HBL := Lib.hid hbl
  have HM0 := Lib.hid hM
  have HW := Lib.hid (write_has hM ok hl x.file x.s hs)
  have HC := Lib.hid (cut_has hM ok hl x.file x.n hx.n1 hx.n2)
  have HS := Lib.hid (sync_has hM ok)
  have HFU := Lib.hid (fuse_has hM ok x.n)
  have HCR := Lib.hid (crash_has hM ok hl x.n x.m)
  have HSP := Lib.hid (spoil_has hM ok hl x.file x.n hx.n1 hx.n2 x.b)
  have HRD := Lib.hid (read_has hM ok x.file)
  have hk8 := hx.kind
  clear h hM ok hl hs hx hbl
  show Calls _ _ #[.pointer (some ⟨p, 0, none⟩), .agg #[.int .u8 x.kind, .int .i64 x.file, .int .i64 x.n, .int .i64 x.m, .string x.s, .int .u8 (by8 x.b)]] _ _
  obtain ⟨r, hr⟩ : ∃ r, r = x.kind % 8 := ⟨_, rfl⟩
  have hr8 : r < 8 := by omega
  have ht : (x.kind : Int).tmod 8 = r := by rw [Int.tmod_eq_emod_of_nonneg (by omega)]; omega
  have he : (x.kind : Int) % 8 = r := by omega
  have HE := Lib.hid (doX_at d x r hr)
  clear hr hk8
  go_enter Try.func14, Try.ntmps14
  match r, hr8 with
  | 0, _ =>
    go_wp2_with fail
    refine HW.out.mono ?_
    rintro e w2 ⟨rfl, hm⟩
    have HM := Lib.hid hm
    clear hm
    go_wp2_with fail
    go_ret
    rw [HE.out]
    exact ⟨rfl, HM.out.before HBL.out⟩
  | 1, _ =>
    go_wp2_with fail
    refine HC.out.mono ?_
    rintro e w2 ⟨rfl, hm⟩
    have HM := Lib.hid hm
    clear hm
    go_wp2_with fail
    go_ret
    rw [HE.out]
    exact ⟨rfl, HM.out.before HBL.out⟩
  | 2, _ =>
    go_wp2_with fail
    refine HS.out.mono ?_
    rintro e w2 ⟨rfl, hm⟩
    have HM := Lib.hid hm
    clear hm
    go_wp2_with fail
    go_ret
    rw [HE.out]
    exact ⟨rfl, HM.out.before HBL.out⟩
  | 3, _ =>
    go_wp2_with fail
    refine HFU.out.mono ?_
    rintro e w2 ⟨rfl, hm⟩
    have HM := Lib.hid hm
    clear hm
    go_wp2_with fail
    go_ret
    rw [HE.out]
    exact ⟨rfl, HM.out.before HBL.out⟩
  | 4, _ =>
    go_wp2_with fail
    refine HCR.out.mono ?_
    rintro e w2 ⟨rfl, hm⟩
    have HM := Lib.hid hm
    clear hm
    go_wp2_with fail
    go_ret
    rw [HE.out]
    exact ⟨rfl, HM.out.before HBL.out⟩
  | 5, _ =>
    go_wp2_with fail
    refine HSP.out.mono ?_
    rintro e w2 ⟨rfl, hm⟩
    have HM := Lib.hid hm
    clear hm
    go_wp2_with fail
    go_ret
    rw [HE.out]
    exact ⟨rfl, HM.out.before HBL.out⟩
  | 6, _ =>
    go_wp2_with fail
    refine HRD.out.mono ?_
    rintro e w2 ⟨rfl, hw⟩
    subst w2
    go_wp2_with fail
    go_ret
    rw [HE.out]
    exact ⟨rfl, (HM0.out.same (Upd.refl _ _)).before HBL.out⟩
  | 7, _ =>
    go_wp2_with fail
    go_ret
    rw [HE.out]
    exact ⟨rfl, (HM0.out.same (Upd.refl _ _)).before HBL.out⟩


/-! ### Both in memory -/
def Typed (w : World) (G : List Nat) : Prop := ∀ k ∈ G, ∃ cs t fr, w.heap[k]? = some (.cells cs t fr) ∧ (t = 63 ∨ t = 67)
theorem RBox.keepU {w w' : World} {q : Nat} {d : Dk.D} {sa la : Option Addr} {sc lc : Nat} {G : List Nat} (h : RBox w q d sa sc la lc) (hu : Upd w w' G) (hG : Typed w G) : RBox w' q d sa sc la lc := by
  have hq : q ∉ G := fun hx => by
    obtain ⟨cs, t, fr, hc, ht⟩ := hG q hx
    rw [h.box] at hc; cases hc; revert ht; decide
  have hne : ∀ {e : TypeId} {size : Nat} {a : Option Addr} {n cap : Nat} {xs : List Value}, SliceIs w e size a n cap xs → e ≠ 63 → e ≠ 67 → ∀ k ∈ blks a, k ∉ G := fun hS h1 h2 k hk hx => by
    obtain ⟨cs, t, fr, hc, ht⟩ := hG k hx
    exact hS.ne hc (by rcases ht with rfl | rfl; exact h1.symm; exact h2.symm) hk
  exact ⟨(hu.keep q (blk_lt h.box) hq).trans h.box, h.sure.keep fun k hk => hu.keep k (h.sure.lt k hk) (hne h.sure (by decide) (by decide) k hk), h.loose.keep fun k hk => hu.keep k (h.loose.lt k hk) (hne h.loose (by decide) (by decide) k hk)⟩
theorem RBox.typed {w : World} {q : Nat} {d : Dk.D} {sa la : Option Addr} {sc lc : Nat} (h : RBox w q d sa sc la lc) : ∀ k ∈ q :: blks la, ∃ cs t fr, w.heap[k]? = some (.cells cs t fr) ∧ (t = 71 ∨ t = 73) := by
  intro k hk
  rcases List.mem_cons.1 hk with rfl | hk
  · exact ⟨_, _, _, h.box, .inl rfl⟩
  · rcases h.loose.2 with ⟨h0, _⟩ | ⟨g, off, cur, hr, hg, _⟩
    · rw [h0] at hk; cases hk
    · rw [hr] at hk; simp at hk; subst hk; exact ⟨_, _, _, hg, .inr rfl⟩
theorem DHas.keepR {w w' : World} {p q : Nat} {d x : Dk.D} {F : List Nat} {sa la : Option Addr} {sc lc : Nat} (h : DHas w p d F) (hr : RBox w q x sa sc la lc) (hu : Upd w w' (q :: blks la)) : DHas w' p d F := by
  refine h.keep hu ?_ ?_
  · intro k hk cs t fr hc
    obtain ⟨cs', t', fr', hc', ht⟩ := hr.typed k hk
    rw [hc] at hc'; cases hc'
    rcases ht with rfl | rfl
    · exact ⟨by decide, by decide⟩
    · exact ⟨by decide, by decide⟩
  · intro k hk hx
    obtain ⟨cs, t, fr, hc, ht⟩ := h.typed k hk
    obtain ⟨cs', t', fr', hc', ht'⟩ := hr.typed k hx
    rw [hc] at hc'; cases hc'
    rcases ht with rfl | rfl <;> (revert ht'; decide)
structure Both (w0 w : World) (p : Nat) (d : Dk.D) (q : Nat) (x : Dk.D) (F : List Nat) (sa : Option Addr) (sc : Nat) (la : Option Addr) (lc : Nat) : Prop where
  disk : DHas w p d F
  ans : RBox w q x sa sc la lc
  fd : ∀ k ∈ F, w0.heap.size ≤ k
  fx : ∀ k ∈ q :: blks la, w0.heap.size ≤ k
  own : Own w0.heap.size w0 w
theorem Both.keep {w0 w w' : World} {p q : Nat} {d x : Dk.D} {F : List Nat} {sa la : Option Addr} {sc lc : Nat} (h : Both w0 w p d q x F sa sc la lc) (hb : Below w.heap.size w w') : Both w0 w' p d q x F sa sc la lc :=
  ⟨h.disk.own hb, h.ans.keep hb, h.fd, h.fx, h.own.trans hb⟩
theorem Both.rstep {w0 w w' : World} {p q : Nat} {d x x' : Dk.D} {F : List Nat} {sa la : Option Addr} {sc lc : Nat} (h : Both w0 w p d q x F sa sc la lc) (s : RStep w w' q x' la) : ∃ sa' sc' la' lc', Both w0 w' p d q x' F sa' sc' la' lc' := by
  obtain ⟨sa', sc', la', lc', hB, hu, hk⟩ := s
  refine ⟨sa', sc', la', lc', h.disk.keepR h.ans hu, hB, h.fd, ?_, h.own.upd hu h.fx⟩
  intro k hx
  rcases List.mem_cons.1 hx with rfl | hx
  · exact h.fx _ (by simp)
  · exact (hk k hx).elim (fun h' => h.fx k (by simp [h'])) (fun h' => Nat.le_trans h.own.size h')
theorem Both.dstep {w0 w w' : World} {p q : Nat} {d d' x : Dk.D} {F : List Nat} {sa la : Option Addr} {sc lc : Nat} (h : Both w0 w p d q x F sa sc la lc) (s : DStep w w' p d' F) : ∃ F', Both w0 w' p d' q x F' sa sc la lc := by
  obtain ⟨F', hD, hu, hk⟩ := s
  exact ⟨F', hD, h.ans.keepU hu h.disk.typed, fun k hx => (hk k hx).elim (h.fd k) (fun h' => Nat.le_trans h.own.size h'), h.fx, h.own.upd hu h.fd⟩
/-- A call on a disk beside them. -/
theorem Both.beside {w0 w w' : World} {p q r : Nat} {d x e e' : Dk.D} {F E : List Nat} {sa la : Option Addr} {sc lc : Nat} (h : Both w0 w p d q x F sa sc la lc) (he : DHas w r e E) (hE : ∀ k ∈ E, w0.heap.size ≤ k) (hd : ∀ k ∈ E, k ∉ F) (s : DStep w w' r e' E) :
    Both w0 w' p d q x F sa sc la lc ∧ ∃ E', DHas w' r e' E' ∧ (∀ k ∈ E', w0.heap.size ≤ k) ∧ ∀ k ∈ E', k ∉ F := by
  obtain ⟨E', hD, hu, hk⟩ := s
  refine ⟨⟨h.disk.keep hu he.noBox (fun k hf hk => hd k hk hf), h.ans.keepU hu he.typed, h.fd, h.fx, h.own.upd hu hE⟩, E', hD, fun k hx => (hk k hx).elim (hE k) (fun h' => Nat.le_trans h.own.size h'), fun k hx hf => ?_⟩
  rcases hk k hx with h' | h'
  · exact hd k h' hf
  · have := h.disk.lt k hf; omega
theorem cutsNone_doX (d : Dk.D) (ok : d.ok) (x : Xst) (h : cutsNone d.loose) : cutsNone (doX d x).1.loose := by
  have hb := (Dk.burn_ok ok).2.2.2.2.1
  unfold doX
  split
  · unfold Dk.write
    split
    · show cutsNone (Dk.burn d).1.loose; rw [hb]; exact h
    split
    · show cutsNone (Dk.burn d).1.loose; rw [hb]; exact h
    split
    · show cutsNone (Dk.burn d).1.loose; rw [hb]; exact h
    · intro c hc
      rcases List.mem_append.1 hc with hc | hc
      · rw [hb] at hc; exact h c hc
      · simp at hc; subst hc; intro e; cases e
  split
  · unfold Dk.cut
    split
    · show cutsNone (Dk.burn d).1.loose; rw [hb]; exact h
    split
    · show cutsNone (Dk.burn d).1.loose; rw [hb]; exact h
    split
    · show cutsNone (Dk.burn d).1.loose; rw [hb]; exact h
    · intro c hc
      rcases List.mem_append.1 hc with hc | hc
      · rw [hb] at hc; exact h c hc
      · simp at hc; subst hc; intro _; rfl
  split
  · unfold Dk.sync
    split
    · show cutsNone (Dk.burn d).1.loose; rw [hb]; exact h
    · intro c hc; cases hc
  split
  · exact h
  split
  · intro c hc; cases hc
  split
  · rw [(spoil_facts d x.file x.n x.b).2]; exact h
  split
  · exact h
  · exact h
set_option maxRecDepth 20000 in
set_option maxHeartbeats 2000000 in
theorem same_any {w0 w : World} {p q : Nat} {d : Dk.D} {F : List Nat} {sa la : Option Addr} {sc lc : Nat} (h : Both w0 w p d q d F sa sc la lc) (ok : d.ok) (hl : d.loose.length ≤ 100000) (hcn : cutsNone d.loose) :
    Calls Try.prog 31 #[.pointer (some ⟨p, 0, none⟩), .pointer (some ⟨q, 0, none⟩)] w fun e w' => e = .returned (.bool true) ∧ Below w.heap.size w w' := by
  have hbd : Below w.heap.size w w.drew := (Below.refl _ _).drew
  obtain ⟨c0, c1, c2, c3, _, _, _, hq⟩ := h.ans.facts
  have HFI := Lib.hid (files_has (h.disk.own hbd) ok)
  have HRM := Lib.hid (room_has (h.disk.own hbd) ok)
  have HRR := Lib.hid (rroom (h.ans.keep hbd) ok hl hcn)
  have HLO := Lib.hid (fun (wz : World) (hz : Below w.heap.size w wz) => loose_has (h.disk.own hz) ok)
  have HRE := Lib.hid (fun (wz : World) (hz : Below w.heap.size w wz) (i : Int) => read_has (h.disk.own hz) ok i)
  have HRX := Lib.hid (fun (wz : World) (hz : Below w.heap.size w wz) (i : Int) => rread (h.ans.keep hz) ok hl hcn i)
  have HCX := Lib.hid (fun (wz : World) (hz : Below w.heap.size w wz) => (h.ans.keep hz).facts)
  have hnI : (1 : Int) ≤ d.n ∧ (d.n : Int) ≤ 16 := by have := ok.n1; have := ok.n2; omega
  have HQ := Lib.hid (And.intro c0 (And.intro c1 hq))
  have hlI := ok.left
  have hlII : d.left ≤ 4194304 ∧ -4194304 ≤ d.left := hlI
  have hll : (d.loose.length : Int) ≤ 100000 := by omega
  clear h ok hl hcn hbd hlI
  go_enter Try.func31, Try.ntmps31
  go_upto_region 1 with (fail)
  go_cut [34] (fun v wx => v = .bool false ∧ Below w.heap.size w wx)
  case first =>
    go_region_held3 (fun w' => w'.cell? ⟨q, 0, none⟩ = some (.slice sa d.n sc) ∧ w'.cell? ⟨q, 1, none⟩ = some (.slice la d.loose.length lc)) (first | (with_reducible exact ⟨c0, c1⟩) | (with_reducible exact ⟨c0', c1'⟩) | exact ⟨c0, c1⟩)
      (first
      | (go_at_call 32
         (with_reducible refine HFI.out.mono ?_)
         rintro e w3 ⟨rfl, hw3⟩
         subst w3)
      | (go_at_call 20
         (with_reducible refine HRM.out.mono ?_)
         rintro e w3 ⟨rfl, hw3⟩
         subst w3)
      | (go_at_call 42
         (with_reducible refine HRR.out.mono ?_)
         rintro e w3 ⟨rfl, hb3⟩
         have hb4 : Below w.heap.size w w3 := (Below.refl _ _).drew.trans hb3
         have c0' := keep_at hb4 HQ.out.1 HQ.out.2.2
         have c1' := keep_at hb4 HQ.out.2.1 HQ.out.2.2
         have HB4 := Lib.hid hb4
         clear hb3 hb4)
      | (go_at_call 18
         (with_reducible refine (HLO.out _ HB4.out).mono ?_)
         rintro e w5 ⟨rfl, hw5⟩
         subst w5))
    all_goals
      go_wp2_with fail
      go_meet
      exact ⟨rfl, HB4.out⟩
  case rest =>
    obtain ⟨rfl, hbc⟩ := hcut
    have HBC := Lib.hid hbc
    clear hbc HFI HRM HRR HLO c0 c1 c2 c3
    go_wp2_with fail
    go_loopw [5] (fun vi wr => ∃ i : Int, -1 ≤ i ∧ i ≤ d.n + 1 ∧ vi = .int .i64 i ∧ Below w.heap.size w wr) (fun vi _ => (d.n + 1 - intOf vi).toNat)
    case atStart => exact ⟨-1, by omega, by omega, rfl, HBC.out⟩
    case round =>
      obtain ⟨i, hi1, hi2, rfl, hb⟩ := hrel
      obtain ⟨c0, c1, c2, c3, _, _, _, _⟩ := HCX.out _ hb
      have HRD := Lib.hid (HRE.out _ hb i)
      have HRR := Lib.hid (HRX.out _ hb i)
      have HB := Lib.hid hb
      clear hb
      by_cases hlt : i ≤ d.n
      · go_wp2_with fail
        refine HRD.out.mono ?_
        rintro e w4 ⟨rfl, hw4⟩
        subst w4
        go_wp2_with fail
        refine HRR.out.mono ?_
        rintro e w4 ⟨rfl, hb4⟩
        have HB4 := Lib.hid (HB.out.trans (hb4.mono HB.out.size))
        clear hb4
        go_wp2_with fail
        go_roundw
        case rel => exact ⟨i + 1, by omega, by omega, rfl, HB4.out⟩
        case measure => simp [intOf]; omega
      · have hgt : (d.n : Int) < i := by omega
        go_wp2_with fail
        go_ret
        exact ⟨rfl, HB.out⟩

end Go.Proofs.Ytickdhlhafifhaa
