/-
  THE WALK of the statement DiskKeeps: behind any crash each file begins with what it had at the last sync.
-/
import Derived.Test.YtickdhlhafifhaaDiskStill
import Derived.Test.YtickdhlhafifhaaDiskSpoil
namespace Go.Proofs.Ytickdhlhafifhaa
open Go.RowKit

attribute [local go_sem ↓ high] appSem_eq

/-- What a step makes of a disk, and its error. -/
def doX (d : Dk.D) (x : Xst) : Dk.D × Nat :=
  if x.kind % 8 = 0 then Dk.write d x.file x.s else if x.kind % 8 = 1 then Dk.cut d x.file x.n else if x.kind % 8 = 2 then Dk.sync d
  else if x.kind % 8 = 3 then (Dk.fused d x.n, 0) else if x.kind % 8 = 4 then (Dk.crash d x.n x.m, 0) else if x.kind % 8 = 5 then Dk.spoil d x.file x.n x.b
  else if x.kind % 8 = 6 then (d, (Dk.read d x.file).2) else (d, 0)
theorem doX_at (d : Dk.D) (x : Xst) (r : Nat) (h : r = x.kind % 8) : doX d x = (if r = 0 then Dk.write d x.file x.s else if r = 1 then Dk.cut d x.file x.n else if r = 2 then Dk.sync d
  else if r = 3 then (Dk.fused d x.n, 0) else if r = 4 then (Dk.crash d x.n x.m, 0) else if r = 5 then Dk.spoil d x.file x.n x.b
  else if r = 6 then (d, (Dk.read d x.file).2) else (d, 0)) := by subst h; rfl
theorem spoil_facts (d : Dk.D) (f i : Int) (b : UInt8) : (Dk.spoil d f i b).1.n = d.n ∧ (Dk.spoil d f i b).1.loose = d.loose := by
  unfold Dk.spoil
  split
  · exact ⟨rfl, rfl⟩
  split
  · exact ⟨rfl, rfl⟩
  split
  · exact ⟨rfl, rfl⟩
  · exact ⟨by unfold Dk.D.n; simp, rfl⟩
theorem doX_facts (d : Dk.D) (ok : d.ok) (x : Xst) (hx : okX x) : (doX d x).1.ok ∧ (doX d x).1.n = d.n ∧ (doX d x).1.loose.length ≤ d.loose.length + 1 := by
  unfold doX
  split
  · have := write_facts d ok x.file x.s; exact ⟨Dk.write_ok ok _ _, this.2.2.2.2, this.2.2.2.1⟩
  split
  · have := cut_facts d ok x.file x.n; exact ⟨Dk.cut_ok ok _ _, this.2.2.2.2, this.2.2.2.1⟩
  split
  · have := sync_facts d ok; exact ⟨Dk.sync_ok ok, this.2.2.2.2, this.2.2.2.1⟩
  split
  · exact ⟨Dk.fused_ok ok _ hx.n2, rfl, Nat.le_succ _⟩
  split
  · exact ⟨Dk.crash_ok ok _ _, Dk.crashed_length _ _ _ _, Nat.zero_le _⟩
  split
  · have := spoil_facts d x.file x.n x.b; exact ⟨Dk.spoil_ok ok _ _ _, this.1, by rw [this.2]; omega⟩
  split
  · exact ⟨ok, rfl, Nat.le_succ _⟩
  · exact ⟨ok, rfl, Nat.le_succ _⟩
theorem Mine.spoil {w0 w : World} {p : Nat} {d : Dk.D} (h : Mine w0 w p d) (ok : d.ok) (hl : d.loose.length ≤ 100000) (file i : Int) (hi1 : -9223372036854775808 ≤ i) (hi2 : i ≤ 9223372036854775807) (b : UInt8) :
    Calls Try.prog 39 #[.pointer (some ⟨p, 0, none⟩), .int .i64 file, .int .i64 i, .int .u8 (by8 b)] w fun e w' => e = .returned (.int .i64 (Dk.spoil d file i b).2) ∧ Mine w0 w' p (Dk.spoil d file i b).1 := by
  obtain ⟨F, hd, hF, hO⟩ := h
  exact (spoil_has hd ok hl file i hi1 hi2 b).mono fun e w' ⟨he, hs⟩ => ⟨he, Mine.step hd hF hO hs⟩

set_option maxRecDepth 20000 in
set_option maxHeartbeats 1000000 in
theorem does_any {w0 w : World} {p : Nat} {d : Dk.D} (h : Mine w0 w p d) (ok : d.ok) (hl : d.loose.length ≤ 100000) (x : Xst) (hx : okX x) (hs : x.s.size ≤ 1073741824) :
    Calls Try.prog 14 #[.pointer (some ⟨p, 0, none⟩), .agg (scells x).toArray] w fun e w' => e = .returned (.int .i64 (doX d x).2) ∧ Mine w0 w' p (doX d x).1 := by
  have hM := h.keep ((Own.refl w).alloc (.cells (scells x).toArray 32 (0, 0))).below
  have HM0 := Lib.hid hM
  have HW := Lib.hid (hM.write ok hl x.file x.s hs)
  have HC := Lib.hid (hM.cut ok hl x.file x.n hx.n1 hx.n2)
  have HS := Lib.hid (hM.sync ok)
  have HFU := Lib.hid (hM.fuse ok x.n)
  have HCR := Lib.hid (hM.crash ok hl x.n x.m)
  have HSP := Lib.hid (hM.spoil ok hl x.file x.n hx.n1 hx.n2 x.b)
  obtain ⟨F, hD⟩ := hM.has
  have HRD := Lib.hid (read_has hD ok x.file)
  have hk8 := hx.kind
  clear h hM ok hl hs hx hD
  show Calls _ _ #[.pointer (some ⟨p, 0, none⟩), .agg #[.int .u8 x.kind, .int .i64 x.file, .int .i64 x.n, .int .i64 x.m, .string x.s, .int .u8 (by8 x.b)]] _ _
  obtain ⟨r, hr⟩ : ∃ r, r = x.kind % 8 := ⟨_, rfl⟩
  have hr8 : r < 8 := by omega
  have ht : (x.kind : Int).tmod 8 = r := by rw [Int.tmod_eq_emod_of_nonneg (by omega)]; omega
  have he : (x.kind : Int) % 8 = r := by omega
  have HE := Lib.hid (doX_at d x r hr)
  clear hr hk8
  go_enter Try.func14, Try.ntmps14
  match r, hr8 with
  | 0, _ =>
    go_wp2_with fail
    refine HW.out.mono ?_
    rintro e w2 ⟨rfl, hm⟩
    have HM := Lib.hid hm
    clear hm
    go_wp2_with fail
    go_ret
    rw [HE.out]
    exact ⟨rfl, HM.out⟩
  | 1, _ =>
    go_wp2_with fail
    refine HC.out.mono ?_
    rintro e w2 ⟨rfl, hm⟩
    have HM := Lib.hid hm
    clear hm
    go_wp2_with fail
    go_ret
    rw [HE.out]
    exact ⟨rfl, HM.out⟩
  | 2, _ =>
    go_wp2_with fail
    refine HS.out.mono ?_
    rintro e w2 ⟨rfl, hm⟩
    have HM := Lib.hid hm
    clear hm
    go_wp2_with fail
    go_ret
    rw [HE.out]
    exact ⟨rfl, HM.out⟩
  | 3, _ =>
    go_wp2_with fail
    refine HFU.out.mono ?_
    rintro e w2 ⟨rfl, hm⟩
    have HM := Lib.hid hm
    clear hm
    go_wp2_with fail
    go_ret
    rw [HE.out]
    exact ⟨rfl, HM.out⟩
  | 4, _ =>
    go_wp2_with fail
    refine HCR.out.mono ?_
    rintro e w2 ⟨rfl, hm⟩
    have HM := Lib.hid hm
    clear hm
    go_wp2_with fail
    go_ret
    rw [HE.out]
    exact ⟨rfl, HM.out⟩
  | 5, _ =>
    go_wp2_with fail
    refine HSP.out.mono ?_
    rintro e w2 ⟨rfl, hm⟩
    have HM := Lib.hid hm
    clear hm
    go_wp2_with fail
    go_ret
    rw [HE.out]
    exact ⟨rfl, HM.out⟩
  | 6, _ =>
    go_wp2_with fail
    refine HRD.out.mono ?_
    rintro e w2 ⟨rfl, hw⟩
    subst w2
    go_wp2_with fail
    go_ret
    rw [HE.out]
    exact ⟨rfl, HM0.out⟩
  | 7, _ =>
    go_wp2_with fail
    go_ret
    rw [HE.out]
    exact ⟨rfl, HM0.out⟩

/-! ### Texts that begin others -/
def pre (s t : ByteArray) : Prop := ∃ u, t = s ++ u
theorem pre.refl (s : ByteArray) : pre s s := ⟨ByteArray.empty, ByteArray.append_empty.symm⟩
theorem pre.trans {s t u : ByteArray} (h : pre s t) (k : pre t u) : pre s u := by
  obtain ⟨a, rfl⟩ := h; obtain ⟨b, rfl⟩ := k
  exact ⟨a ++ b, by rw [ByteArray.append_assoc]⟩
theorem extract_pre (s u : ByteArray) : (s ++ u).extract 0 s.size = s := by
  exact ByteArray.extract_append_eq_left rfl
theorem piece_pre (s : ByteArray) (y : Int) : pre (Dk.piece s y) s := by
  refine ⟨s.extract (min (max y 0).toNat s.size) s.size, ?_⟩
  unfold Dk.piece
  rw [ByteArray.extract_append_extract, Nat.min_eq_left (Nat.zero_le _), Nat.max_eq_right (Nat.min_le_right _ _), ByteArray.extract_zero_size]
theorem pre_run (f : List ByteArray) (c : Dk.Call) (hc : c.cut = false) (hf : c.file < f.length) (i : Nat) : pre (Dk.txt f i) (Dk.txt (Dk.run f c) i) := by
  rw [Dk.run_wr hc, Dk.txt_set _ _ _ _ hf]
  split
  · next e => subst e; exact ⟨c.s, rfl⟩
  · exact pre.refl _
theorem pre_part (f : List ByteArray) (c : Dk.Call) (hc : c.cut = false) (hf : c.file < f.length) (y : Int) (i : Nat) : pre (Dk.txt f i) (Dk.txt (Dk.part f c y) i) ∧ pre (Dk.txt (Dk.part f c y) i) (Dk.txt (Dk.run f c) i) := by
  have e : Dk.part f c y = f.set c.file (Dk.txt f c.file ++ Dk.piece c.s y) := by unfold Dk.part; rw [hc]; rfl
  rw [e, Dk.run_wr hc, Dk.txt_set _ _ _ _ hf, Dk.txt_set _ _ _ _ hf]
  split
  · next h =>
    subst h
    obtain ⟨u, hu⟩ := piece_pre c.s y
    exact ⟨⟨_, rfl⟩, ⟨u, by rw [ByteArray.append_assoc, ← hu]⟩⟩
  · exact ⟨pre.refl _, pre.refl _⟩
def allW (f : List ByteArray) (l : List Dk.Call) : Prop := ∀ c ∈ l, c.cut = false ∧ c.file < f.length
theorem pre_runs : ∀ (l : List Dk.Call) (f : List ByteArray) (_ : allW f l) (i : Nat), pre (Dk.txt f i) (Dk.txt (Dk.runs f l) i)
  | [], _, _, _ => pre.refl _
  | c :: l, f, h, i => by
    have h1 := h c (by simp)
    exact (pre_run f c h1.1 h1.2 i).trans (pre_runs l (Dk.run f c) (fun d hd => by rw [Dk.run_length]; exact h d (by simp [hd])) i)
theorem runs_app (f : List ByteArray) (a b : List Dk.Call) : Dk.runs f (a ++ b) = Dk.runs (Dk.runs f a) b := by simp [Dk.runs]
theorem pre_crashed (f : List ByteArray) (l : List Dk.Call) (h : allW f l) (x y : Int) (i : Nat) : pre (Dk.txt f i) (Dk.txt (Dk.crashed f l x y) i) ∧ pre (Dk.txt (Dk.crashed f l x y) i) (Dk.txt (Dk.runs f l) i) := by
  have ht : ∀ k, allW f (l.take k) := fun k c hc => h c (List.mem_of_mem_take hc)
  have hd : ∀ k (g : List ByteArray) (_ : g.length = f.length), allW g (l.drop k) := fun k g hg c hc => by rw [hg]; exact h c (List.mem_of_mem_drop hc)
  unfold Dk.crashed
  split
  · next hx =>
    have hc := h l[x.toNat] (List.getElem_mem hx.2)
    have hl := Dk.runs_length f (l.take x.toNat)
    have hp := pre_part (Dk.runs f (l.take x.toNat)) l[x.toNat] hc.1 (by rw [hl]; exact hc.2) y i
    refine ⟨(pre_runs _ _ (ht _) i).trans hp.1, hp.2.trans ?_⟩
    have e : Dk.runs f l = Dk.runs (Dk.run (Dk.runs f (l.take x.toNat)) l[x.toNat]) (l.drop (x.toNat + 1)) := by
      conv => lhs; rw [← List.take_append_drop (x.toNat + 1) l]
      rw [runs_app, Dk.runs_take_succ f l x.toNat hx.2]
    rw [e]
    exact pre_runs _ _ (hd _ _ (by rw [Dk.run_length, hl])) i
  · refine ⟨pre_runs _ _ (ht _) i, ?_⟩
    have e : Dk.runs f l = Dk.runs (Dk.runs f (l.take x.toNat)) (l.drop x.toNat) := by
      conv => lhs; rw [← List.take_append_drop x.toNat l]
      rw [runs_app]
    conv => rhs; rw [e]
    exact pre_runs _ _ (hd _ _ (Dk.runs_length _ _)) i
theorem begins_yes (w : World) (s t : ByteArray) (h : pre s t) (hz : t.size ≤ 1073741824) :
    Calls Try.prog 17 #[.string s, .string t] w fun e w' => e = .returned (.bool true) ∧ w' = w := by
  obtain ⟨u, rfl⟩ := h
  have h1 : (0 : Int) ≤ s.size ∧ (s.size : Int) ≤ (s ++ u).size := by rw [ByteArray.size_append]; omega
  have h2 := extract_pre s u
  generalize s ++ u = t at *
  go_enter Try.func17, Try.ntmps17
  go_wp2_with fail
  go_ret
  exact ⟨rfl, rfl⟩

/-! ### A disk, and rows of texts that were made beside it -/
abbrev Txr := Option Addr × Nat × List ByteArray
def RowOf (w : World) (r : Txr) : Prop := SliceIs w 9 1 r.1 3 r.2.1 (r.2.2.map Value.string)
structure With (w0 w : World) (p : Nat) (d : Dk.D) (R : List Txr) : Prop where
  mine : Mine w0 w p d
  rows : ∀ r ∈ R, RowOf w r
theorem With.keep {w0 w w' : World} {p : Nat} {d : Dk.D} {R : List Txr} (h : With w0 w p d R) (hb : Below w.heap.size w w') : With w0 w' p d R :=
  ⟨h.mine.keep hb, fun r hr => (h.rows r hr).keep fun k hk => hb.block k ((h.rows r hr).lt k hk)⟩
theorem With.step {w0 w w' : World} {p : Nat} {d d' : Dk.D} {R : List Txr} {F : List Nat} (hd : DHas w p d F) (hF : ∀ k ∈ F, w0.heap.size ≤ k) (hO : Own w0.heap.size w0 w) (hr : ∀ r ∈ R, RowOf w r) (s : DStep w w' p d' F) : With w0 w' p d' R := by
  have hm := Mine.step hd hF hO s
  obtain ⟨F', _, hu, _⟩ := s
  exact ⟨hm, fun r hx => hd.row hu (hr r hx) (by decide) (by decide)⟩
theorem With.write {w0 w : World} {p : Nat} {d : Dk.D} {R : List Txr} (h : With w0 w p d R) (ok : d.ok) (hl : d.loose.length ≤ 100000) (file : Int) (s : ByteArray) (hs : s.size ≤ 1073741824) :
    Calls Try.prog 11 #[.pointer (some ⟨p, 0, none⟩), .int .i64 file, .string s] w fun e w' => e = .returned (.int .i64 (Dk.write d file s).2) ∧ With w0 w' p (Dk.write d file s).1 R := by
  obtain ⟨F, hd, hF, hO⟩ := h.mine
  exact (write_has hd ok hl file s hs).mono fun e w' ⟨he, hs⟩ => ⟨he, With.step hd hF hO h.rows hs⟩
theorem With.crash {w0 w : World} {p : Nat} {d : Dk.D} {R : List Txr} (h : With w0 w p d R) (ok : d.ok) (hl : d.loose.length ≤ 100000) (x y : Int) :
    Calls Try.prog 12 #[.pointer (some ⟨p, 0, none⟩), .int .i64 x, .int .i64 y] w fun e w' => e = .returned (.int .i64 0) ∧ With w0 w' p (Dk.crash d x y) R := by
  obtain ⟨F, hd, hF, hO⟩ := h.mine
  exact (crash_has hd ok hl x y).mono fun e w' ⟨he, hs⟩ => ⟨he, With.step hd hF hO h.rows hs⟩
theorem With.files {w0 w : World} {p : Nat} {d : Dk.D} {R : List Txr} (h : With w0 w p d R) (ok : d.ok) (hf : d.fuse = -1) (hn : d.n = 3) :
    Calls Try.prog 13 #[.pointer (some ⟨p, 0, none⟩)] w fun e w' => ∃ a cap, e = .returned (.slice a 3 cap) ∧ With w0 w' p d ((a, cap, d.now) :: R) := by
  obtain ⟨F, hd⟩ := h.mine.has
  refine (fil_any hd ok (by rw [hf]; decide)).mono ?_
  rintro e w' ⟨a, cap, rfl, hS, hb, hfr⟩
  rw [hn] at hS
  refine ⟨a, cap, by rw [hn], (h.keep hb).mine, fun r hr => ?_⟩
  rcases List.mem_cons.1 hr with rfl | hr
  · exact hS
  · exact (h.keep hb).rows r hr
theorem RowOf.at {w : World} {r : Txr} (h : RowOf w r) : r.2.2.length = 3 ∧ ∃ g off, r.1 = some ⟨g, off, none⟩ ∧ g < w.heap.size ∧ ∀ k, k < 3 → w.cell? ⟨g, off + k, none⟩ = some (.string (Dk.txt r.2.2 k)) := by
  obtain ⟨a, cap, ts⟩ := r
  have hl : ts.length = 3 := by have := h.1; simpa using this
  refine ⟨hl, ?_⟩
  rcases h.2 with ⟨_, h0, _⟩ | ⟨g, off, cur, hr, hg, _⟩
  · cases h0
  · simp only at hr
    subst hr
    have hc := SliceIs.cells h
    refine ⟨g, off, rfl, hc.lt, fun k hk => ?_⟩
    have := hc.cell k (by simp; omega)
    simp only [List.getElem_map] at this
    rw [this, Dk.txt_get ts k (by omega)]
/-- Behind a sync: writes alone. -/
structure WD (d : Dk.D) (f : List ByteArray) : Prop where
  sure : d.sure = f
  fuse : d.fuse = -1
  all : allW f d.loose
  ok : d.ok
theorem WD.write {d : Dk.D} {f : List ByteArray} (h : WD d f) (file : Int) (s : ByteArray) : WD (Dk.write d file s).1 f ∧ (Dk.write d file s).1.loose.length ≤ d.loose.length + 1 := by
  have hb : Dk.burn d = (d, 0) := by unfold Dk.burn; rw [h.fuse]; rfl
  have hok := Dk.write_ok h.ok file s
  have hf := (write_facts d h.ok file s).2.2.2.1
  refine ⟨?_, hf⟩
  by_cases h1 : d.is file = false
  · rw [write_none (by rw [hb]) h1, hb]; exact h
  · have h1' : d.is file = true := by simpa using h1
    by_cases h2 : d.left < s.size
    · rw [write_full (by rw [hb]) h1' h2, hb]; exact h
    · rw [write_ok' (by rw [hb]) h1' h2] at hok ⊢
      rw [hb] at hok ⊢
      refine ⟨h.sure, h.fuse, ?_, hok⟩
      intro c hc
      rcases List.mem_append.1 hc with hc | hc
      · exact h.all c hc
      · simp only [List.mem_singleton] at hc
        subst hc
        have hi := Dk.D.is_iff.1 h1'
        refine ⟨rfl, ?_⟩
        rw [← h.sure]
        show file.toNat < d.n
        omega
/-- The disk behind a sync that goes. -/
def synced (d : Dk.D) : Dk.D := ⟨d.room, d.now, [], -1⟩
theorem synced_wd {d : Dk.D} (ok : d.ok) : Dk.sync (Dk.fused d (-1)) = (synced d, 0) ∧ WD (synced d) d.now := by
  have ok2 := Dk.fused_ok ok (-1) (by decide)
  have hb : Dk.burn (Dk.fused d (-1)) = (Dk.fused d (-1), 0) := rfl
  have he : Dk.sync (Dk.fused d (-1)) = (synced d, 0) := by unfold Dk.sync; rw [hb]; rfl
  have hok := Dk.sync_ok ok2
  rw [he] at hok
  exact ⟨he, ⟨rfl, rfl, (fun c hc => by cases hc), hok⟩⟩

end Go.Proofs.Ytickdhlhafifhaa
