/-
  THE WALKS of layer 9: the answer's New; Copy of a disk.
-/
import Derived.Test.YtickdhlhafifhaaDiskRef6
import Derived.Deep.OwnRows
namespace Go.Proofs.Ytickdhlhafifhaa
open Go.RowKit

attribute [local go_sem ↓ high] appSem_eq

theorem made_strs (n : Nat) : madeCells #[Value.string ⟨#[]⟩] n = ((List.replicate n Dk.none).map Value.string).toArray := by
  apply Array.ext
  · simp [size_madeCells]
  · intro i h1 h2
    simp only [madeCells, Array.getElem_map, List.size_toArray, List.length_cons, List.length_nil]
    rw [show ∀ m, m % (0 + 1) = 0 from fun m => Nat.mod_one m]
    simp
    rfl
theorem rnew_no (w : World) (n room : Int) (h : n < 1 ∨ 16 < n ∨ room < 0 ∨ 4194304 < room) :
    Calls Try.prog 21 #[.int .i64 n, .int .i64 room] w fun e w' => e = .returned (.pointer none) ∧ w' = w := by
  by_cases h1 : n < 1
  · clear h
    go_enter Try.func21, Try.ntmps21
    go_wp2_with fail
    go_ret
    exact ⟨rfl, rfl⟩
  have h1' : 1 ≤ n := by omega
  by_cases h2 : 16 < n
  · clear h h1
    go_enter Try.func21, Try.ntmps21
    go_wp2_with fail
    go_ret
    exact ⟨rfl, rfl⟩
  have h2' : n ≤ 16 := by omega
  by_cases h3 : room < 0
  · clear h h1 h2
    go_enter Try.func21, Try.ntmps21
    go_wp2_with fail
    go_ret
    exact ⟨rfl, rfl⟩
  have h3' : 0 ≤ room := by omega
  have h4 : 4194304 < room := by omega
  clear h h1 h2 h3
  go_enter Try.func21, Try.ntmps21
  go_wp2_with fail
  go_ret
  exact ⟨rfl, rfl⟩
theorem rnew_has (w : World) (n room : Nat) (h1 : 1 ≤ n) (h2 : n ≤ 16) (h3 : room ≤ 4194304) :
    Calls Try.prog 21 #[.int .i64 n, .int .i64 room] w fun e w' => ∃ q sa sc, e = .returned (.pointer (some ⟨q, 0, none⟩)) ∧ RBox w' q (Dk.new n room) sa sc none 0 ∧ Below w.heap.size w w' ∧ w.heap.size ≤ q := by
  have hI : (1 : Int) ≤ n ∧ (n : Int) ≤ 16 ∧ (0 : Int) ≤ room ∧ (room : Int) ≤ 4194304 := by omega
  have hmk := fun wz => run_make_row' (P := Try.prog) 34 9 (.string ⟨#[]⟩) 16 Try.underlying34 strInfo rfl .i64 .i64 n (by omega) (by omega) wz
  rw [made_strs] at hmk
  have HN := Lib.hid (And.intro h1 h2)
  clear h1 h2 h3
  go_enter Try.func21, Try.ntmps21
  go_wp2_with fail
  go_ret
  have hn : (Dk.new n room).n = n := by simp [Dk.new, Dk.D.n]
  have ha : Array.replicate n (Value.string Dk.none) = ((List.replicate n Dk.none).map Value.string).toArray := by simp
  refine ⟨_, some ⟨w.heap.size, 0, none⟩, n, rfl, ⟨?_, ?_, ?_⟩, (((Own.refl w).alloc _).alloc _).below, by simp⟩
  · rw [hn]
    exact heap_alloc2_new w _ _
  · rw [hn, ha]
    have h := (SliceIs.new w 9 1 n ((List.replicate n Dk.none).map Value.string) (by simp) (by have := HN.out.2; unfold maxLen; omega)).alloc (.cells #[.slice (some ⟨w.heap.size, 0, none⟩) n n, .slice none 0 0, .int .i64 room, .int .i64 (-1)] 71 (0, 0))
    exact h
  · exact SliceIs.nil _ _ _

/-! ### A row copied, wherever its new block lies -/
theorem copy_at {T E : TypeId} {z : Value} {size bytes : Nat} (hI : (Try.prog.info? E).map (fun i => (i.zero, i.size, i.bytes)) = some (some z, size, bytes)) (ht : Try.prog.underlying T = some (.slice E)) (hzs : z.cells.size = size) (hsz : 0 < size) (hb : bytes ≤ 256)
    (W : World) (p : Nat) (hE : SliceIs W E size (some ⟨p, 0, none⟩) 0 0 []) (a : Option Addr) (n cap : Nat) (xs : List (List Value)) (hS : SliceIs W E size a n cap xs.flatten) (hn : n = xs.length) (hl : ∀ x ∈ xs, x.length = size) (h1 : ∀ x ∈ xs, ∀ u ∈ x, u.oneCell' = true) (hm : n ≤ 1000000) :
    ∃ s' cap' W', (appSem #[T, T] T #[.slice (some ⟨p, 0, none⟩) 0 0, .slice a n cap]).run Try.prog W = .ok (.slice s' n cap') W' ∧ SliceIs W' E size s' n cap' xs.flatten ∧ Upd W W' [p] ∧ ∀ k ∈ blks s', k = p ∨ W.heap.size ≤ k := by
  obtain ⟨i0, hi, hz0, hz1, hz2⟩ := info_parts hI
  have hrow : RowIs W size a xs := hS.rowF hl hn
  have hnil : a = none → cap = 0 := by
    intro h; rcases hS.2 with ⟨_, _, h⟩ | ⟨g, off, cur, h', _⟩
    · exact h
    · rw [h] at h'; cases h'
  subst hn
  obtain ⟨s', cap', w', hr, hs, hu, hk⟩ := append_row (P := Try.prog) ht hi hz0 hz1 hz2 hzs hsz W (some ⟨p, 0, none⟩) 0 0 [] hE a cap xs hrow hl h1 (by omega) hb hnil
  rw [Nat.zero_add] at hr hs
  rw [List.nil_append] at hs
  exact ⟨s', cap', w', hr, hs, hu.mono (by simp), fun k hk' => (hk k hk').imp (by simp) id⟩
theorem empty_at {w : World} {E : TypeId} {size p : Nat} (h : w.heap[p]? = some (.cells #[] E (0, 0))) : SliceIs w E size (some ⟨p, 0, none⟩) 0 0 [] := ⟨by simp, .inr ⟨p, 0, #[], rfl, h, Nat.le_refl _, by decide, by simp, by simp⟩⟩
theorem copy_sAt (W : World) (p : Nat) (hE : W.heap[p]? = some (.cells #[] 9 (0, 0))) (a : Option Addr) (n cap : Nat) (f : List ByteArray) (hS : SliceIs W 9 1 a n cap (f.map Value.string)) (hn : n = f.length) (hm : n ≤ 1000000) :
    ∃ s' cap' W', (appSem #[34, 34] 34 #[.slice (some ⟨p, 0, none⟩) 0 0, .slice a n cap]).run Try.prog W = .ok (.slice s' n cap') W' ∧ SliceIs W' 9 1 s' n cap' (f.map Value.string) ∧ Upd W W' [p] ∧ ∀ k ∈ blks s', k = p ∨ W.heap.size ≤ k := by
  have := copy_at strInfo Try.underlying34 rfl (by decide) (by decide) W p (empty_at hE) a n cap (f.map fun x => [Value.string x]) (by rw [flat_map1]; exact hS) (by simpa using hn) (by simp) (by simp; intro x _; rfl) hm
  rw [flat_map1] at this
  exact this
theorem copy_cAt (W : World) (p : Nat) (hE : W.heap[p]? = some (.cells #[] 73 (0, 0))) (a : Option Addr) (n cap : Nat) (l : List Dk.Call) (hS : SliceIs W 73 4 a n cap (l.map ccells).flatten) (hn : n = l.length) (hm : n ≤ 1000000) :
    ∃ s' cap' W', (appSem #[69, 69] 69 #[.slice (some ⟨p, 0, none⟩) 0 0, .slice a n cap]).run Try.prog W = .ok (.slice s' n cap') W' ∧ SliceIs W' 73 4 s' n cap' (l.map ccells).flatten ∧ Upd W W' [p] ∧ ∀ k ∈ blks s', k = p ∨ W.heap.size ≤ k :=
  copy_at callInfo Try.underlying69 rfl (by decide) (by decide) W p (empty_at hE) a n cap (l.map ccells) hS (by simpa using hn) (calls4 l) (by simp; intro c _; exact ccells_one c) hm

/-! ### The disk's Copy -/
theorem clone_any (w : World) (a : Option Addr) (n cap : Nat) (vs : List Value) (l : List Dk.Call) (hS : SliceIs w 67 1 a n cap vs) (hC : CloRow w vs l) (hm : n ≤ 1000000) :
    Calls Try.prog 45 #[.slice a n cap] w fun e w' => ∃ s' cap', e = .returned (.slice s' n cap') ∧ SliceIs w' 67 1 s' n cap' vs ∧ Below w.heap.size w w' ∧ ∀ k ∈ blks s', w.heap.size ≤ k := by
  cases a with
  | none =>
    obtain ⟨h1, ⟨_, rfl, rfl⟩ | ⟨g, off, cur, h0, _⟩⟩ := hS
    · have hv : vs = [] := List.eq_nil_of_length_eq_zero (by simpa using h1)
      subst hv
      have heq := Lib.run_eql_slice_nil (P := Try.prog) w 61 67 none 0 0 0 0 Try.underlying61
      go_enter Try.func45, Try.ntmps45
      go_wp2_with fail
      go_ret
      exact ⟨none, 0, rfl, SliceIs.nil _ _ _, Below.refl _ _, by simp⟩
    · cases h0
  | some ad =>
    have hn : vs.length = n := by have := hS.1; omega
    have h1 : ∀ u ∈ vs, u.oneCell' = true := by
      intro u hu
      obtain ⟨i, hi, rfl⟩ := List.getElem_of_mem hu
      exact (hC.2 i (by rw [← hC.1]; exact hi) hi).one
    obtain ⟨s', cap', w', hr, hs, ho, hk⟩ := copy_own funcInfo Try.underlying61 rfl (by decide) (by decide) w (some ad) n cap (vs.map fun v => [v]) (by have e : (vs.map fun v => [v]).flatten = vs := (flat_map1 (fun v => v) vs).trans (by simp); rw [e]; exact hS) (by simpa using hn.symm) (by simp) (by simpa using h1) hm
    have hfl : (vs.map fun v => [v]).flatten = vs := (flat_map1 (fun v => v) vs).trans (by simp)
    rw [hfl] at hs
    have HS := Lib.hid hs
    have HO := Lib.hid ho
    have HK := Lib.hid hk
    clear hS hC hn h1 hs ho hk hfl
    have heq := Lib.run_eql_slice_nil (P := Try.prog) w 61 67 (some ad) n cap 0 0 Try.underlying61
    go_enter Try.func45, Try.ntmps45
    go_wp2_with fail
    go_ret
    exact ⟨s', cap', rfl, HS.out, HO.out.below, HK.out⟩

section
variable {w : World} {p n room : Nat} {nw sr : List ByteArray} {a : Option Addr} {len cap : Nat} {fuse : Int}
variable {ops : Array Oper} {rest : List Oper} {o : Oper} {ac : Act} {Q : Exit → Act → World → Prop}
theorem wp_load_disk (h : DBox w p n room nw sr a len cap fuse) (hgd : o.guard = none) (x : Operand) (ho : o.op = .load 63 x) (hx : ac.eval x = .pointer (some ⟨p, 0, none⟩))
    (k : wpList Try.prog ops Q rest (ac.put o.dst (.agg (dcs n room nw sr a len cap fuse).toArray)) w) : wpList Try.prog ops Q (o :: rest) ac w := by
  refine wpList_load_agg hgd 63 x ho p 0 36 hx 63 _ (0, 0) _ h.box Try.underlying63 rfl (by kernel_rfl) (by rw [List.size_toArray, dcs_length h.l1 h.l2]; decide) ?_
  rw [List.toList_toArray, List.drop_zero, List.take_of_length_le (by rw [dcs_length h.l1 h.l2]; decide)]
  exact k
end
theorem dcs_one (n room : Int) (nw sr : List ByteArray) (a : Option Addr) (len cap : Nat) (fuse : Int) : ∀ v ∈ dcs n room nw sr a len cap fuse, v.oneCell' = true := by
  intro v hv
  unfold dcs at hv
  simp only [List.mem_append, List.mem_cons, List.not_mem_nil, or_false] at hv
  rcases hv with (rfl | rfl) | hv | hv | rfl | rfl
  · rfl
  · rfl
  · exact strs_one _ v hv
  · exact strs_one _ v hv
  · rfl
  · rfl
set_option maxRecDepth 20000 in
set_option maxHeartbeats 2000000 in
theorem copy_has {w : World} {p : Nat} {d : Dk.D} {F : List Nat} (h : DHas w p d F) (ok : d.ok) (hl : d.loose.length ≤ 100000) :
    Calls Try.prog 29 #[.pointer (some ⟨p, 0, none⟩)] w fun e w' => ∃ p2 F2, e = .returned (.pointer (some ⟨p2, 0, none⟩)) ∧ DHas w' p2 d F2 ∧ Below w.heap.size w w' ∧ ∀ k ∈ F2, w.heap.size ≤ k := by
  obtain ⟨a, cap, vs, rfl, hB, hS, hC⟩ := h
  have HN := Lib.hid (none_no hB ok.n1)
  have HCL := Lib.hid (fun (wz : World) (hz : Below w.heap.size w wz) => clone_any wz a d.loose.length cap vs d.loose (hS.keep fun k hk => hz.block k (hS.lt k hk)) (hC.keep (Upd.of_below [] hz) (noBox0 w)) (by omega))
  have HB := Lib.hid hB
  have HC := Lib.hid hC
  clear hB hS hC ok hl
  go_enter Try.func29, Try.ntmps29
  go_wp2_with fail
  refine HN.out.mono ?_
  rintro e w2 ⟨rfl, hw⟩
  subst w2
  go_wp2_with (first
    | (refine wp_load_disk HB.out rfl (.tmp 7) rfl rfl ?_)
    | (refine wpList_store_all rfl 63 (.tmp 3) (.tmp 8) rfl w.heap.size _ rfl rfl 63 _ (heap_alloc_new w _) (by rw [List.size_toArray, dcs_length HB.out.l1 HB.out.l2]; kernel_rfl) (by rw [List.size_toArray, dcs_length HB.out.l1 HB.out.l2]; rfl) (by rw [List.toList_toArray]; exact dcs_one _ _ _ _ _ _ _ _) ?_; intro w3 hp3; have hO3 := ((Own.refl w).alloc _).put hp3 (Nat.le_refl _); have hB3 := HB.out.keep (hO3.below.block p HB.out.lt); obtain ⟨z0, z1, z2, z3⟩ := hB3.facts; have HP3 := Lib.hid hp3; have HO3 := Lib.hid hO3; clear hp3 hO3 hB3))
  refine (HCL.out w3 HO3.out.below).mono ?_
  rintro e w4 ⟨s', cap', rfl, hS, hb, hk⟩
  have hB3 : DBox w3 w.heap.size d.n d.room d.now d.sure a d.loose.length cap d.fuse := ⟨HP3.out.here, HB.out.ln, HB.out.ls, HB.out.n16⟩
  have hB4 := hB3.keep (hb.block _ hB3.lt)
  have h34 := hB4.frozen 34
  obtain ⟨y0, y1, y2, y3⟩ := hB4.facts
  have hlt := hB3.lt
  have HB4 := Lib.hid hB4
  have HS := Lib.hid hS
  have HBW := Lib.hid hb
  have HK := Lib.hid hk
  have HLT := Lib.hid hlt
  clear hS hb hk hB3 hB4 hlt z0 z1 z2 z3 HCL HN
  go_wp2_with fail
  go_ret
  have hne : ∀ k ∈ blks s', k ≠ w.heap.size := fun k hk e => by have := HK.out k hk; have := HLT.out; omega
  have hO := (HO3.out.trans HBW.out).setCell (p := ⟨w.heap.size, 34, none⟩) (Nat.le_refl _) (.slice s' d.loose.length cap')
  refine ⟨w.heap.size, w.heap.size :: blks s', rfl, ⟨s', cap', vs, rfl, HB4.out.setLoose s' d.loose.length cap', HS.out.keep fun k hk => Below.heap_setCell _ _ _ _ (by simpa using hne k hk), HC.out.keep (Upd.of_below [] hO.below) (noBox0 w)⟩, hO.below, ?_⟩
  intro k hk
  rcases List.mem_cons.1 hk with rfl | hk
  · exact Nat.le_refl _
  · have := HK.out k hk; have := HO3.out.size; omega

end Go.Proofs.Ytickdhlhafifhaa
