/-
  THE WALKS of layer 9: Write, Cut, Sync, Fuse, of a disk in memory.
-/
import Derived.Test.YtickdhlhafifhaaDiskClo
import Derived.Test.YtickdhlhafifhaaFlat
namespace Go.Proofs.Ytickdhlhafifhaa
open Go.RowKit

attribute [local go_sem ↓ high] appSem_eq

theorem app_one {T E : TypeId} {z : Value} {bytes : Nat} (hI : (Try.prog.info? E).map (fun i => (i.zero, i.size, i.bytes)) = some (some z, 1, bytes)) (ht : Try.prog.underlying T = some (.slice E)) (hzs : z.cells.size = 1) (hb : bytes ≤ 256)
    (w : World) (sa : Option Addr) (n cap : Nat) (xs : List Value) (hS : SliceIs w E 1 sa n cap xs) (v : Value) (hv : v.oneCell' = true) (hn : n ≤ 1000000) :
    ∃ s' cap' w', (appSem #[T, T] T #[.slice sa n cap, .slice (some ⟨w.heap.size, 0, none⟩) 1 1]).run Try.prog (w.alloc (.cells #[v] E (0, 0))) = .ok (.slice s' (n + 1) cap') w' ∧ SliceIs w' E 1 s' (n + 1) cap' (xs ++ [v]) ∧ Upd w w' (blks sa) ∧ (∀ k ∈ blks s', k ∈ blks sa ∨ w.heap.size ≤ k) := by
  obtain ⟨i0, hi, hz0, hz1, hz2⟩ := info_parts hI
  have hrow : RowIs (w.alloc (.cells #[v] E (0, 0))) 1 (some ⟨w.heap.size, 0, none⟩) [[v]] := fun i hi => by
    have : i = 0 := by simp at hi; omega
    subst this
    exact ⟨w.heap.size, 0, rfl, CellsAt.new w [v] E (0, 0)⟩
  obtain ⟨s', cap', w', hr, hs, hu, hk⟩ := append_row (P := Try.prog) ht hi hz0 hz1 hz2 hzs (by decide) (w.alloc (.cells #[v] E (0, 0))) sa n cap xs (hS.alloc _) (some ⟨w.heap.size, 0, none⟩) 1 [[v]] hrow (by simp) (by simpa using hv) (by simp; omega) hb (by simp)
  exact ⟨s', cap', w', hr, by simpa using hs, ((Upd.refl w (blks sa)).alloc _).trans hu (fun k hk => .inl hk), fun k hk' => (hk k hk').imp id fun h => by simp at h; omega⟩
/-- One text, and its state, more. -/

theorem funcInfo : (Try.prog.info? 67).map (fun i => (i.zero, i.size, i.bytes)) = some (some .nilFunc, 1, 8) := by kernel_rfl
/-- A call is laid behind those that are loose. -/
theorem add_mem {w : World} {p n room : Nat} {nw sr : List ByteArray} {a : Option Addr} {len cap : Nat} {fuse : Int} {vs : List Value} {l : List Dk.Call} {v : Value} {c : Dk.Call}
    (hB : DBox w p n room nw sr a len cap fuse) (hS : SliceIs w 67 1 a len cap vs) (hC : CloRow w vs l) (hlen : len ≤ 1000000) (hv : Clo w v c) :
    ∃ s' cap' w6, (appSem #[61, 61] 61 #[.slice a len cap, .slice (some ⟨w.heap.size, 0, none⟩) 1 1]).run Try.prog (w.alloc (.cells #[v] 67 (0, 0))) = .ok (.slice s' (len + 1) cap') w6 ∧
      DBox w6 p n room nw sr a len cap fuse ∧ DBox (w6.setCell ⟨p, 34, none⟩ (.slice s' (len + 1) cap')) p n room nw sr s' (len + 1) cap' fuse ∧
      SliceIs (w6.setCell ⟨p, 34, none⟩ (.slice s' (len + 1) cap')) 67 1 s' (len + 1) cap' (vs ++ [v]) ∧ CloRow (w6.setCell ⟨p, 34, none⟩ (.slice s' (len + 1) cap')) (vs ++ [v]) (l ++ [c]) ∧
      Upd w (w6.setCell ⟨p, 34, none⟩ (.slice s' (len + 1) cap')) (p :: blks a) ∧ ∀ k ∈ blks s', k ∈ blks a ∨ w.heap.size ≤ k := by
  obtain ⟨s', cap', w6, hr, hs, hu, hk⟩ := app_one funcInfo Try.underlying61 rfl (by decide) w a len cap vs hS v hv.one hlen
  have hpa : p ∉ blks a := hS.ne hB.box (by decide)
  have hB6 := hB.keep (hu.keep p hB.lt hpa)
  have hB7 := hB6.setLoose s' (len + 1) cap'
  have hps : p ∉ blks s' := fun h => by rcases hk p h with h | h; · exact hpa h
                                        · have := hB.lt; omega
  have hS7 := hs.keep (w' := w6.setCell ⟨p, 34, none⟩ (.slice s' (len + 1) cap')) fun k hkk => Below.heap_setCell _ _ _ _ (fun e => hps (by simp only at e; rw [← e]; exact hkk))
  have hU : Upd w (w6.setCell ⟨p, 34, none⟩ (.slice s' (len + 1) cap')) (p :: blks a) := (hu.mono (fun x hx => List.mem_cons_of_mem _ hx)).setCell (.inl (by simp)) _
  have hnb := noBox hB hS
  exact ⟨s', cap', w6, hr, hB6, hB7, hS7, (hC.keep hU hnb).snoc (hv.keep hU hnb), hU, hk⟩

/-- What a call leaves of a disk. -/
def DStep (w w' : World) (p : Nat) (d : Dk.D) (F : List Nat) : Prop := ∃ F', DHas w' p d F' ∧ Upd w w' F ∧ ∀ k ∈ F', k ∈ F ∨ w.heap.size ≤ k
theorem DHas.same {w w' : World} {p : Nat} {d : Dk.D} {F : List Nat} (h : DHas w p d F) (u : Upd w w' []) : DStep w w' p d F :=
  ⟨F, h.keep u (noBox0 w) (by simp), u.mono (by simp), fun k hk => .inl hk⟩
theorem burn_fuse (d : Dk.D) : (Dk.burn d).1.fuse = (if 0 < d.fuse then d.fuse - 1 else d.fuse) ∧ (Dk.burn d).2 = (if d.fuse = 0 then 90 else 0) := by
  unfold Dk.burn
  by_cases h : d.fuse = 0
  · rw [if_pos h]; simp [h]
  · rw [if_neg h]
    by_cases h1 : 0 < d.fuse
    · rw [if_pos h1]; simp [h1, h]
    · rw [if_neg h1]; simp [h1, h]
theorem burns_has {w : World} {p : Nat} {d : Dk.D} {F : List Nat} (h : DHas w p d F) (ok : d.ok) :
    Calls Try.prog 33 #[.pointer (some ⟨p, 0, none⟩)] w fun e w' => e = .returned (.int .i64 (Dk.burn d).2) ∧ DHas w' p (Dk.burn d).1 F ∧ Upd w w' [p] := by
  obtain ⟨a, cap, vs, rfl, hB, hS, hC⟩ := h
  obtain ⟨b1, b2, b3, b4, b5, b6⟩ := Dk.burn_ok ok
  obtain ⟨e1, e2⟩ := burn_fuse d
  refine (burns_any hB ok.n1 ok.f1 ok.f2).mono ?_
  rintro e w' ⟨rfl, hB', hU⟩
  have hpa : p ∉ blks a := hS.ne hB.box (by decide)
  refine ⟨by rw [e2], ⟨a, cap, vs, rfl, ?_, by rw [b5]; exact hS.keep fun k hk => hU.keep k (hS.lt k hk) (by simp; intro e; subst e; exact hpa hk), by rw [b5]; exact hC.keep hU (noBox1 hB)⟩, hU⟩
  rw [b2, b3, b4, b5, b6, e1]; exact hB'

/-- A call is done on the files. -/
theorem lay_mem {w : World} {p n room : Nat} {nw sr : List ByteArray} {a : Option Addr} {len cap : Nat} {fuse : Int} {vs : List Value} {l : List Dk.Call} {v : Value} {c : Dk.Call} {T : ByteArray}
    (hB : DBox w p n room nw sr a len cap fuse) (hS : SliceIs w 67 1 a len cap vs) (hC : CloRow w vs l) (hv : Clo w v c) (hf : c.file < n) (hT : Dk.run nw c = nw.set c.file T) :
    DBox (w.setCell ⟨p, 2 + c.file, none⟩ (.string T)).drew p n room (Dk.run nw c) sr a len cap fuse ∧ SliceIs (w.setCell ⟨p, 2 + c.file, none⟩ (.string T)).drew 67 1 a len cap vs ∧ CloRow (w.setCell ⟨p, 2 + c.file, none⟩ (.string T)).drew vs l ∧
      Clo (w.setCell ⟨p, 2 + c.file, none⟩ (.string T)).drew v c ∧ Upd w (w.setCell ⟨p, 2 + c.file, none⟩ (.string T)).drew [p] := by
  have hu : Upd w (w.setCell ⟨p, 2 + c.file, none⟩ (.string T)).drew [p] := ((Upd.refl w [p]).setCell (by simp) _).drew
  have hpa : p ∉ blks a := hS.ne hB.box (by decide)
  refine ⟨?_, hS.keep fun k hk => hu.keep k (hS.lt k hk) (by simp; intro e; subst e; exact hpa hk), hC.keep hu (noBox1 hB), hv.keep hu (noBox1 hB), hu⟩
  rw [hT]
  exact (hB.setNow c.file hf T).keep rfl
theorem piece_all (s : ByteArray) (hs : s.size ≤ 1073741824) : Dk.piece s 4611686018427387904 = s := by
  unfold Dk.piece
  rw [show min (max (4611686018427387904 : Int) 0).toNat s.size = s.size by omega]
  exact ByteArray.extract_zero_size
theorem write_down {d : Dk.D} {file : Int} {s : ByteArray} (h : (Dk.burn d).2 ≠ 0) : Dk.write d file s = ((Dk.burn d).1, 90) := by unfold Dk.write; rw [if_pos h]
theorem write_none {d : Dk.D} {file : Int} {s : ByteArray} (h : (Dk.burn d).2 = 0) (h1 : d.is file = false) : Dk.write d file s = ((Dk.burn d).1, 3) := by unfold Dk.write; rw [if_neg (by simp [h]), if_pos h1]
theorem write_full {d : Dk.D} {file : Int} {s : ByteArray} (h : (Dk.burn d).2 = 0) (h1 : d.is file = true) (h2 : d.left < s.size) : Dk.write d file s = ((Dk.burn d).1, 4) := by unfold Dk.write; rw [if_neg (by simp [h]), if_neg (by simp [h1]), if_pos h2]
theorem write_ok' {d : Dk.D} {file : Int} {s : ByteArray} (h : (Dk.burn d).2 = 0) (h1 : d.is file = true) (h2 : ¬ d.left < s.size) : Dk.write d file s = ((Dk.burn d).1.add ⟨file.toNat, false, 0, s⟩, 0) := by unfold Dk.write; rw [if_neg (by simp [h]), if_neg (by simp [h1]), if_neg h2]
theorem cut_down {d : Dk.D} {file m : Int} (h : (Dk.burn d).2 ≠ 0) : Dk.cut d file m = ((Dk.burn d).1, 90) := by unfold Dk.cut; rw [if_pos h]
theorem cut_none {d : Dk.D} {file m : Int} (h : (Dk.burn d).2 = 0) (h1 : d.is file = false) : Dk.cut d file m = ((Dk.burn d).1, 3) := by unfold Dk.cut; rw [if_neg (by simp [h]), if_pos h1]
theorem cut_arg {d : Dk.D} {f : Nat} {m : Int} (h : (Dk.burn d).2 = 0) (h1 : d.is f = true) (h2 : m < 0 ∨ ((Dk.txt d.now f).size : Int) < m) : Dk.cut d f m = ((Dk.burn d).1, 2) := by unfold Dk.cut; rw [if_neg (by simp [h]), if_neg (by simp [h1]), if_pos (by simpa using h2)]
theorem cut_ok' {d : Dk.D} {f : Nat} {m : Int} (h : (Dk.burn d).2 = 0) (h1 : d.is f = true) (h2 : ¬ (m < 0 ∨ ((Dk.txt d.now f).size : Int) < m)) : Dk.cut d f m = ((Dk.burn d).1.add ⟨f, true, m.toNat, Dk.none⟩, 0) := by unfold Dk.cut; rw [if_neg (by simp [h]), if_neg (by simp [h1]), if_neg (by simpa using h2)]; rfl
theorem add_now (d : Dk.D) (c : Dk.Call) : (d.add c).now = Dk.run d.now c := Dk.runs_snoc _ _ _
/-- What is left of a call that lays one behind the loose ones. -/
theorem add_step {w w5 W : World} {p : Nat} {d : Dk.D} {a s' : Option Addr} {cap' : Nat} {vs : List Value} {v : Value} {c : Dk.Call} (hU5 : Upd w w5 (p :: blks a))
    (h7 : DBox W p d.n d.room (Dk.run d.now c) d.sure s' (d.loose.length + 1) cap' d.fuse) (hS : SliceIs W 67 1 s' (d.loose.length + 1) cap' (vs ++ [v])) (hC : CloRow W (vs ++ [v]) (d.loose ++ [c])) (hU : Upd w5 W (p :: blks a)) (hk : ∀ k ∈ blks s', k ∈ blks a ∨ w5.heap.size ≤ k) :
    DStep w W p (d.add c) (p :: blks a) := by
  have hl : (d.add c).loose.length = d.loose.length + 1 := by simp [Dk.D.add]
  refine ⟨p :: blks s', ⟨s', cap', vs ++ [v], rfl, ?_, by rw [hl]; exact hS, hC⟩, hU5.trans hU (fun x hx => .inl hx), ?_⟩
  · rw [hl, add_now]; exact h7
  · intro k hkk
    rcases List.mem_cons.1 hkk with rfl | hkk
    · exact .inl (by simp)
    · rcases hk k hkk with h | h
      · exact .inl (List.mem_cons_of_mem _ h)
      · exact .inr (Nat.le_trans hU5.size h)

set_option maxRecDepth 20000 in
set_option maxHeartbeats 1000000 in
theorem write_has {w : World} {p : Nat} {d : Dk.D} {F : List Nat} (h : DHas w p d F) (ok : d.ok) (hl : d.loose.length ≤ 100000) (file : Int) (s : ByteArray) (hs : s.size ≤ 1073741824) :
    Calls Try.prog 11 #[.pointer (some ⟨p, 0, none⟩), .int .i64 file, .string s] w fun e w' => e = .returned (.int .i64 (Dk.write d file s).2) ∧ DStep w w' p (Dk.write d file s).1 F := by
  have H0 : DHas ((w.alloc (.cells #[.int .i64 file] 3 (0, 0))).alloc (.cells #[.string s] 9 (0, 0))) p d F := (h.own (((Own.refl w).alloc _).below)).own ((Own.refl _).alloc _).below
  have hb0 : ((w.alloc (.cells #[.int .i64 file] 3 (0, 0))).alloc (.cells #[.string s] 9 (0, 0))).heap[w.heap.size]? = some (.cells #[.int .i64 file] 3 (0, 0)) := heap_alloc2_old w _ _
  have hb1 : ((w.alloc (.cells #[.int .i64 file] 3 (0, 0))).alloc (.cells #[.string s] 9 (0, 0))).heap[w.heap.size + 1]? = some (.cells #[.string s] 9 (0, 0)) := heap_alloc2_new w _ _
  have hOw : Own w.heap.size w ((w.alloc (.cells #[.int .i64 file] 3 (0, 0))).alloc (.cells #[.string s] 9 (0, 0))) := ((Own.refl w).alloc _).alloc _
  have HBU := Lib.hid (burns_has H0 ok)
  have HPF : Hid (p < w.heap.size) := Lib.hid (by obtain ⟨a, cap, vs, rfl, hB, _⟩ := h; exact hB.lt)
  have HOK := Lib.hid ok
  have HLL := Lib.hid hl
  have HS := Lib.hid hs
  clear h ok hl hs
  go_enter Try.func11, Try.ntmps11
  go_wp2_with fail
  refine HBU.out.mono ?_
  rintro e w2 ⟨rfl, hH, hU⟩
  have hplt : p < w.heap.size := by
    have := HPF.out
    exact this
  have hb02 := (hU.keep _ (blk_lt hb0) (by simp; omega)).trans hb0
  have hb12 := (hU.keep _ (blk_lt hb1) (by simp; omega)).trans hb1
  have hOU : Upd w w2 [p] := (Upd.of_below [p] hOw.below).trans hU (fun x hx => .inl hx)
  have hpF : p ∈ F := by obtain ⟨a, cap, vs, rfl, _⟩ := hH; simp
  have HOU := Lib.hid hOU
  have HPF2 := Lib.hid hpF
  obtain ⟨b1, b2, b3, b4, b5, b6⟩ := Dk.burn_ok HOK.out
  have k0 : w2.cell? ⟨w.heap.size, 0, none⟩ = some (.int .i64 file) := by rw [cell_of_row w2 _ _ _ _ _ hb02]; rfl
  have k1 : w2.cell? ⟨w.heap.size + 1, 0, none⟩ = some (.string s) := by rw [cell_of_row w2 _ _ _ _ _ hb12]; rfl
  have HB0 := Lib.hid hb02
  have HB1 := Lib.hid hb12
  have HH := Lib.hid hH
  clear hb0 hb1 hOw hU hb02 hb12 hOU hpF hH HBU H0
  by_cases hb : (Dk.burn d).2 = 0
  · have hsz : (0 : Int) ≤ s.size ∧ (s.size : Int) ≤ 1073741824 := by have := HS.out; omega
    obtain ⟨a, cap, vs, rfl, hB, hS, hC⟩ := HH.out
    have HI := Lib.hid (is_any hB file)
    have hie : (decide (0 ≤ file) && decide (file < ((Dk.burn d).1.n : Int))) = d.is file := by rw [b3]; rfl
    rw [hie] at HI
    have HR := Lib.hid (fun m => room_any (hB.keep (w' := w2.drewN m) rfl) b1.n1 b1.room (by rw [b2]; exact HOK.out.total_now))
    have hre : ((Dk.burn d).1.room : Int) - Dk.total (Dk.burn d).1.now = d.left := by rw [b2, b6]; rfl
    rw [hre] at HR
    rw [hb]
    have HBE := Lib.hid hb
    have HBB := Lib.hid hB
    have HSS := Lib.hid hS
    have HCC := Lib.hid hC
    have HBF := Lib.hid (And.intro b2 (And.intro b3 (And.intro b5 b1)))
    clear b1 b2 b3 b4 b5 b6 hb hie hre hB hS hC
    cases his : d.is file with
    | false =>
      rw [his] at HI
      have HW := Lib.hid (write_none (s := s) HBE.out his)
      clear his
      go_wp2_with fail
      refine HI.out.mono ?_
      rintro e w3 ⟨rfl, hw⟩
      subst w3
      go_wp2_with fail
      go_ret
      rw [HW.out]
      exact ⟨rfl, _, HH.out, HOU.out.mono (by simp), fun k hk => .inl hk⟩
    | true =>
      rw [his] at HI
      have HIS := Lib.hid his
      clear his
      have hlI := HOK.out.left
      have hlII : d.left ≤ 4194304 ∧ -4194304 ≤ d.left := hlI
      clear hlI
      by_cases hfull : d.left < s.size
      · have HW := Lib.hid (write_full HBE.out HIS.out hfull)
        go_wp2_with fail
        refine HI.out.mono ?_
        rintro e w3 ⟨rfl, hw⟩
        subst w3
        go_wp2_with fail
        go_quiet (first | (go_at_call 20; exact Calls.quiet_of_same (HR.out _)))
        go_wp2_with fail
        go_ret
        rw [HW.out]
        exact ⟨rfl, _, HH.out.keep ((Upd.refl _ []).drewN _) (noBox0 _) (by simp), (HOU.out.drewN _).mono (by simp), fun k hk => .inl hk⟩
      · have HW := Lib.hid (write_ok' HBE.out HIS.out hfull)
        have hfI := Dk.D.is_iff.1 HIS.out
        obtain ⟨f, rfl⟩ := Int.eq_ofNat_of_zero_le hfI.1
        have hf1 : f < d.n := by omega
        have HF := Lib.hid hf1
        clear hfI hf1
        go_wp2_with fail
        refine HI.out.mono ?_
        rintro e w3 ⟨rfl, hw⟩
        subst w3
        go_wp2_with fail
        go_quiet (first | (go_at_call 20; exact Calls.quiet_of_same (HR.out _)))
        go_wp2_with (first | (go_at_call 35; go_in))
        obtain ⟨e1, e2, e3, e4⟩ := HBF.out
        have hB3 := HBB.out.keep (w' := w2.drewN nq) rfl
        have hS3 := HSS.out.keep (w' := w2.drewN nq) fun _ _ => rfl
        have hC3 := HCC.out.keep ((Upd.refl w2 []).drewN nq) (noBox0 _)
        have hf1 : f < (Dk.burn d).1.n := by rw [e2]; exact HF.out
        have hv3 : Clo (w2.drewN nq) (.func (.func 36) #[] #[.pointer (some ⟨w.heap.size, 0, none⟩), .pointer (some ⟨w.heap.size + 1, 0, none⟩)]) ⟨f, false, 0, s⟩ := ⟨w.heap.size, w.heap.size + 1, HB0.out, .inl ⟨rfl, rfl, HB1.out⟩⟩
        obtain ⟨g1, g2, g3, g4, g5⟩ := lay_mem hB3 hS3 hC3 hv3 hf1 (Dk.run_wr rfl)
        have hsz1 : (Dk.txt (Dk.burn d).1.now f).size + s.size ≤ 1073741824 := by have t1 := Dk.txt_le (Dk.burn d).1.now f; have t2 := e4.total_now; unfold Dk.Most at t2; have := hlII.1; omega
        refine (wr_clo hB3 hf1 HB0.out HB1.out _ hsz1).mono ?_
        rw [piece_all s HS.out]
        rintro e w5 ⟨rfl, hw5⟩
        rw [← hw5] at g1 g2 g3 g4 g5
        clear hw5 hsz1 hv3 hB3 hS3 hC3 HBB HSS HCC HH HR HI HB0 HB1 k0 k1
        obtain ⟨s', cap', w6, hr, hB6, hB7, hS7, hC7, hU7, hk7⟩ := add_mem g1 g2 g3 (by rw [e3]; have := HLL.out; omega) g4
        have HFIN := Lib.hid (add_step (((HOU.out.drewN nq).trans g5 (fun x hx => .inl hx)).mono (by simp)) hB7 hS7 hC7 hU7 hk7)
        obtain ⟨x0, x1, x34, x35⟩ := g1.facts
        obtain ⟨y0, y1, y34, y35⟩ := hB6.facts
        have z34 := hB6.frozen 34
        clear e1 e2 e3 e4 hf1 g1 g2 g3 g4 g5 hB7 hS7 hC7 hU7 hk7
        have hI1 := DBox.lt hB6
        clear hB6
        go_wp2_with fail
        refine bodyPost_end (v := .tuple #[]) (by simp [results, Try.results35, go_sem]) rfl ?_
        go_wp2_with fail
        go_ret
        rw [HW.out]
        exact ⟨rfl, HFIN.out⟩
  · have h90 : (Dk.burn d).2 = 90 := by have := (burn_fuse d).2; split at this <;> simp_all
    have HW := Lib.hid (write_down (file := file) (s := s) hb)
    rw [h90]
    clear b1 b2 b3 b4 b5 b6 hb h90
    go_wp2_with fail
    go_ret
    rw [HW.out]
    exact ⟨rfl, F, HH.out, HOU.out.mono (by simpa using HPF2.out), fun k hk => .inl hk⟩

set_option maxRecDepth 20000 in
set_option maxHeartbeats 1000000 in
theorem cut_has {w : World} {p : Nat} {d : Dk.D} {F : List Nat} (h : DHas w p d F) (ok : d.ok) (hl : d.loose.length ≤ 100000) (file m : Int) (hm1 : -9223372036854775808 ≤ m) (hm2 : m ≤ 9223372036854775807) :
    Calls Try.prog 38 #[.pointer (some ⟨p, 0, none⟩), .int .i64 file, .int .i64 m] w fun e w' => e = .returned (.int .i64 (Dk.cut d file m).2) ∧ DStep w w' p (Dk.cut d file m).1 F := by
  have H0 : DHas ((w.alloc (.cells #[.int .i64 file] 3 (0, 0))).alloc (.cells #[.int .i64 m] 3 (0, 0))) p d F := (h.own (((Own.refl w).alloc _).below)).own ((Own.refl _).alloc _).below
  have hb0 : ((w.alloc (.cells #[.int .i64 file] 3 (0, 0))).alloc (.cells #[.int .i64 m] 3 (0, 0))).heap[w.heap.size]? = some (.cells #[.int .i64 file] 3 (0, 0)) := heap_alloc2_old w _ _
  have hb1 : ((w.alloc (.cells #[.int .i64 file] 3 (0, 0))).alloc (.cells #[.int .i64 m] 3 (0, 0))).heap[w.heap.size + 1]? = some (.cells #[.int .i64 m] 3 (0, 0)) := heap_alloc2_new w _ _
  have hOw : Own w.heap.size w ((w.alloc (.cells #[.int .i64 file] 3 (0, 0))).alloc (.cells #[.int .i64 m] 3 (0, 0))) := ((Own.refl w).alloc _).alloc _
  have HBU := Lib.hid (burns_has H0 ok)
  have HPF : Hid (p < w.heap.size) := Lib.hid (by obtain ⟨a, cap, vs, rfl, hB, _⟩ := h; exact hB.lt)
  have HOK := Lib.hid ok
  have HLL := Lib.hid hl
  clear h ok hl
  go_enter Try.func38, Try.ntmps38
  go_wp2_with fail
  refine HBU.out.mono ?_
  rintro e w2 ⟨rfl, hH, hU⟩
  have hplt : p < w.heap.size := by
    have := HPF.out
    exact this
  have hb02 := (hU.keep _ (blk_lt hb0) (by simp; omega)).trans hb0
  have hb12 := (hU.keep _ (blk_lt hb1) (by simp; omega)).trans hb1
  have hOU : Upd w w2 [p] := (Upd.of_below [p] hOw.below).trans hU (fun x hx => .inl hx)
  have hpF : p ∈ F := by obtain ⟨a, cap, vs, rfl, _⟩ := hH; simp
  have HOU := Lib.hid hOU
  have HPF2 := Lib.hid hpF
  obtain ⟨b1, b2, b3, b4, b5, b6⟩ := Dk.burn_ok HOK.out
  have k0 : w2.cell? ⟨w.heap.size, 0, none⟩ = some (.int .i64 file) := by rw [cell_of_row w2 _ _ _ _ _ hb02]; rfl
  have k1 : w2.cell? ⟨w.heap.size + 1, 0, none⟩ = some (.int .i64 m) := by rw [cell_of_row w2 _ _ _ _ _ hb12]; rfl
  have HB0 := Lib.hid hb02
  have HB1 := Lib.hid hb12
  have HH := Lib.hid hH
  clear hb0 hb1 hOw hU hb02 hb12 hOU hpF hH HBU H0
  by_cases hb : (Dk.burn d).2 = 0
  · obtain ⟨a, cap, vs, rfl, hB, hS, hC⟩ := HH.out
    have HI := Lib.hid (is_any hB file)
    have hie : (decide (0 ≤ file) && decide (file < ((Dk.burn d).1.n : Int))) = d.is file := by rw [b3]; rfl
    rw [hie] at HI
    rw [hb]
    have HBE := Lib.hid hb
    have HBB := Lib.hid hB
    have HSS := Lib.hid hS
    have HCC := Lib.hid hC
    have HBF := Lib.hid (And.intro b2 (And.intro b3 (And.intro b5 b1)))
    clear b1 b2 b3 b4 b5 b6 hb hie hB hS hC
    cases his : d.is file with
    | false =>
      rw [his] at HI
      have HW := Lib.hid (cut_none (m := m) HBE.out his)
      clear his
      go_wp2_with fail
      refine HI.out.mono ?_
      rintro e w3 ⟨rfl, hw⟩
      subst w3
      go_wp2_with fail
      go_ret
      rw [HW.out]
      exact ⟨rfl, _, HH.out, HOU.out.mono (by simp), fun k hk => .inl hk⟩
    | true =>
      rw [his] at HI
      have HIS := Lib.hid his
      clear his
      have hfI := Dk.D.is_iff.1 HIS.out
      obtain ⟨f, rfl⟩ := Int.eq_ofNat_of_zero_le hfI.1
      have hf1 : f < d.n := by omega
      have HF := Lib.hid hf1
      have hfI2 : (0 : Int) ≤ f ∧ (f : Int) < 16 := by have := HOK.out.n2; omega
      have hnow := HBB.out.nowAt f (by omega)
      rw [HBF.out.1] at hnow
      have hzI : (0 : Int) ≤ (Dk.txt d.now f).size ∧ ((Dk.txt d.now f).size : Int) ≤ 4194304 := by have t1 := Dk.txt_le d.now f; have t2 := HOK.out.total_now; unfold Dk.Most at t2; omega
      clear hfI hf1
      by_cases hbad : m < 0 ∨ ((Dk.txt d.now f).size : Int) < m
      · have HW := Lib.hid (cut_arg HBE.out HIS.out hbad)
        by_cases hm0 : m < 0
        · clear hbad
          go_wp2_with fail
          refine HI.out.mono ?_
          rintro e w3 ⟨rfl, hw⟩
          subst w3
          go_wp2_with fail
          go_quiet (fail)
          go_wp2_with fail
          go_ret
          rw [HW.out]
          exact ⟨rfl, _, HH.out.keep ((Upd.refl _ []).drewN _) (noBox0 _) (by simp), (HOU.out.drewN _).mono (by simp), fun k hk => .inl hk⟩
        · have hm3 : ((Dk.txt d.now f).size : Int) < m := by omega
          clear hbad
          go_wp2_with fail
          refine HI.out.mono ?_
          rintro e w3 ⟨rfl, hw⟩
          subst w3
          go_wp2_with fail
          go_quiet (fail)
          go_wp2_with fail
          go_ret
          rw [HW.out]
          exact ⟨rfl, _, HH.out.keep ((Upd.refl _ []).drewN _) (noBox0 _) (by simp), (HOU.out.drewN _).mono (by simp), fun k hk => .inl hk⟩
      · have HW := Lib.hid (cut_ok' HBE.out HIS.out hbad)
        obtain ⟨q, rfl⟩ := Int.eq_ofNat_of_zero_le (show 0 ≤ m by omega)
        have hq : q ≤ (Dk.txt d.now f).size := by omega
        have hqI : (0 : Int) ≤ q ∧ (q : Int) ≤ (Dk.txt d.now f).size := by omega
        have HQ := Lib.hid hq
        clear hbad hq
        go_wp2_with fail
        refine HI.out.mono ?_
        rintro e w3 ⟨rfl, hw⟩
        subst w3
        go_wp2_with fail
        go_quiet (fail)
        go_wp2_with (first | (go_at_call 35; go_in))
        obtain ⟨e1, e2, e3, e4⟩ := HBF.out
        have hB3 := HBB.out.keep (w' := w2.drewN nq) rfl
        have hS3 := HSS.out.keep (w' := w2.drewN nq) fun _ _ => rfl
        have hC3 := HCC.out.keep ((Upd.refl w2 []).drewN nq) (noBox0 _)
        have hf1 : f < (Dk.burn d).1.n := by rw [e2]; exact HF.out
        have hv3 : Clo (w2.drewN nq) (.func (.func 46) #[] #[.pointer (some ⟨w.heap.size, 0, none⟩), .pointer (some ⟨w.heap.size + 1, 0, none⟩)]) ⟨f, true, q, Dk.none⟩ := ⟨w.heap.size, w.heap.size + 1, HB0.out, .inr ⟨rfl, rfl, HB1.out⟩⟩
        obtain ⟨g1, g2, g3, g4, g5⟩ := lay_mem hB3 hS3 hC3 hv3 hf1 (Dk.run_ct rfl)
        refine (ct_clo hB3 hf1 HB0.out HB1.out (by rw [e1]; exact HQ.out)).mono ?_
        rintro e w5 ⟨rfl, hw5⟩
        rw [← hw5] at g1 g2 g3 g4 g5
        clear hw5 hv3 hB3 hS3 hC3 HBB HSS HCC HH HI HB0 HB1 k0 k1
        obtain ⟨s', cap', w6, hr, hB6, hB7, hS7, hC7, hU7, hk7⟩ := add_mem g1 g2 g3 (by rw [e3]; have := HLL.out; omega) g4
        have HFIN := Lib.hid (add_step (((HOU.out.drewN nq).trans g5 (fun x hx => .inl hx)).mono (by simp)) hB7 hS7 hC7 hU7 hk7)
        obtain ⟨x0, x1, x34, x35⟩ := g1.facts
        obtain ⟨y0, y1, y34, y35⟩ := hB6.facts
        have z34 := hB6.frozen 34
        clear e1 e2 e3 e4 hf1 g1 g2 g3 g4 g5 hB7 hS7 hC7 hU7 hk7
        have hI1 := DBox.lt hB6
        clear hB6
        go_wp2_with fail
        refine bodyPost_end (v := .tuple #[]) (by simp [results, Try.results35, go_sem]) rfl ?_
        go_wp2_with fail
        go_ret
        rw [HW.out]
        exact ⟨rfl, HFIN.out⟩
  · have h90 : (Dk.burn d).2 = 90 := by have := (burn_fuse d).2; split at this <;> simp_all
    have HW := Lib.hid (cut_down (file := file) (m := m) hb)
    rw [h90]
    clear b1 b2 b3 b4 b5 b6 hb h90
    go_wp2_with fail
    go_ret
    rw [HW.out]
    exact ⟨rfl, F, HH.out, HOU.out.mono (by simpa using HPF2.out), fun k hk => .inl hk⟩

end Go.Proofs.Ytickdhlhafifhaa
