/-
  THE WALKS of layer 9: the calls that are loose, each done on a disk's files.
-/
import Derived.Test.YtickdhlhafifhaaDiskWalks2
namespace Go.Proofs.Ytickdhlhafifhaa
open Go.RowKit

attribute [local go_sem ↓ high] appSem_eq

theorem run_max2 (P : Program) (w : World) (t : TypeId) (p q : Int) : (Builtin.max_ #[t, t] t #[.int .i64 p, .int .i64 q]).run P w = .ok (.int .i64 (max p q)) w := by
  have e : Builtin.max2 (.int .i64 p) (.int .i64 q) = pure (.int .i64 (max p q)) := by
    simp only [Builtin.max2]
    congr 2
    split <;> omega
  simp [Builtin.max_, e]
theorem run_min2 (P : Program) (w : World) (t : TypeId) (p q : Int) : (Builtin.min_ #[t, t] t #[.int .i64 p, .int .i64 q]).run P w = .ok (.int .i64 (min p q)) w := by
  have e : Builtin.min2 (.int .i64 p) (.int .i64 q) = pure (.int .i64 (min p q)) := by
    simp only [Builtin.min2]
    congr 2
    split <;> omega
  simp [Builtin.min_, e]
/-- What a text's piece is, as the code cuts it. -/
theorem piece_code (s : ByteArray) (b : Int) : 0 ≤ max 0 (min b (s.size : Int)) ∧ max 0 (min b (s.size : Int)) ≤ s.size ∧ s.extract 0 (max 0 (min b (s.size : Int))).toNat = Dk.piece s b := by
  have h : (max 0 (min b (s.size : Int))).toNat = min (max b 0).toNat s.size := by omega
  refine ⟨by omega, by omega, ?_⟩
  rw [h]; rfl
section
variable {w : World} {p n room : Nat} {nw sr : List ByteArray} {a : Option Addr} {len cap : Nat} {fuse : Int}
set_option maxRecDepth 20000 in
set_option maxHeartbeats 1000000 in
theorem wr_clo (h : DBox w p n room nw sr a len cap fuse) {b0 b1 file : Nat} {s : ByteArray} (hf : file < n) (hb0 : w.heap[b0]? = some (.cells #[.int .i64 file] 3 (0, 0))) (hb1 : w.heap[b1]? = some (.cells #[.string s] 9 (0, 0))) (bytes : Int) (hsz : (Dk.txt nw file).size + s.size ≤ 1073741824) :
    Calls Try.prog 36 #[.pointer (some ⟨p, 2, none⟩), .int .i64 bytes, .pointer (some ⟨b0, 0, none⟩), .pointer (some ⟨b1, 0, none⟩)] w fun e w' => e = .returned (.tuple #[]) ∧ w' = (w.setCell ⟨p, 2 + file, none⟩ (.string (Dk.txt nw file ++ Dk.piece s bytes))).drew := by
  have hn := h.n16
  have hc := h.nowAt file (by omega)
  have hfz := h.frozen (2 + file)
  have k0 : w.cell? ⟨b0, 0, none⟩ = some (.int .i64 file) := by rw [cell_of_row w b0 _ _ _ _ hb0]; rfl
  have k1 : w.cell? ⟨b1, 0, none⟩ = some (.string s) := by rw [cell_of_row w b1 _ _ _ _ hb1]; rfl
  have hfI : (0 : Int) ≤ file ∧ (file : Int) < 16 := by omega
  have hmin := fun w => run_min2 Try.prog w 3 bytes s.size
  have hmax := fun w => run_max2 Try.prog w 3 0 (min bytes s.size)
  obtain ⟨pc1, pc2, pc3⟩ := piece_code s bytes
  have hcat : ¬ 9223372036854775807 < (Dk.txt nw file).size + (Dk.piece s bytes).size := by have := Dk.piece_size s bytes; omega
  clear h hb0 hb1 hn hsz
  generalize min bytes (s.size : Int) = m1 at *
  generalize max 0 m1 = m2 at *
  generalize Dk.piece s bytes = pc at *
  generalize Dk.txt nw file = tf at *
  go_enter Try.func36, Try.ntmps36
  go_wp2_with fail
  go_region
  go_wp2_with fail
  refine bodyPost_end (v := .tuple #[]) (by simp [results, Try.results36, go_sem]) rfl ⟨rfl, rfl⟩
set_option maxRecDepth 20000 in
set_option maxHeartbeats 1000000 in
theorem ct_clo (h : DBox w p n room nw sr a len cap fuse) {b0 b1 file k : Nat} (hf : file < n) (hb0 : w.heap[b0]? = some (.cells #[.int .i64 file] 3 (0, 0))) (hb1 : w.heap[b1]? = some (.cells #[.int .i64 k] 3 (0, 0))) (hk : k ≤ (Dk.txt nw file).size) :
    Calls Try.prog 46 #[.pointer (some ⟨p, 2, none⟩), .int .i64 4611686018427387904, .pointer (some ⟨b0, 0, none⟩), .pointer (some ⟨b1, 0, none⟩)] w fun e w' => e = .returned (.tuple #[]) ∧ w' = (w.setCell ⟨p, 2 + file, none⟩ (.string ((Dk.txt nw file).extract 0 k))).drew := by
  have hn := h.n16
  have hc := h.nowAt file (by omega)
  have hfz := h.frozen (2 + file)
  have k0 : w.cell? ⟨b0, 0, none⟩ = some (.int .i64 file) := by rw [cell_of_row w b0 _ _ _ _ hb0]; rfl
  have k1 : w.cell? ⟨b1, 0, none⟩ = some (.int .i64 k) := by rw [cell_of_row w b1 _ _ _ _ hb1]; rfl
  have hfI : (0 : Int) ≤ file ∧ (file : Int) < 16 := by omega
  have hkI : (0 : Int) ≤ k ∧ (k : Int) ≤ (Dk.txt nw file).size := by omega
  clear h hb0 hb1 hn
  generalize Dk.txt nw file = tf at *
  go_enter Try.func46, Try.ntmps46
  go_wp2_with fail
  go_region
  go_wp2_with fail
  refine bodyPost_end (v := .tuple #[]) (by simp [results, Try.results46, go_sem]) rfl ⟨rfl, rfl⟩
theorem ct_clo_no (w : World) (p b0 b1 : Nat) (bytes : Int) (hb : bytes ≤ 4611686018427387903) :
    Calls Try.prog 46 #[.pointer (some ⟨p, 2, none⟩), .int .i64 bytes, .pointer (some ⟨b0, 0, none⟩), .pointer (some ⟨b1, 0, none⟩)] w fun e w' => e = .returned (.tuple #[]) ∧ w' = w := by
  have hne : (bytes == 4611686018427387904) = false := by rw [beq_eq_false_iff_ne]; omega
  go_enter Try.func46, Try.ntmps46
  go_wp2_with fail
  refine bodyPost_end (v := .tuple #[]) (by simp [results, Try.results46, go_sem]) rfl ⟨rfl, rfl⟩
end

/-! ### Disks in memory -/
/-- A call that is loose, in memory: a function, and the boxes of what it holds. -/
def Clo (w : World) (v : Value) (c : Dk.Call) : Prop :=
  ∃ b0 b1, w.heap[b0]? = some (.cells #[.int .i64 c.file] 3 (0, 0)) ∧
    ((c.cut = false ∧ v = .func (.func 36) #[] #[.pointer (some ⟨b0, 0, none⟩), .pointer (some ⟨b1, 0, none⟩)] ∧ w.heap[b1]? = some (.cells #[.string c.s] 9 (0, 0))) ∨
     (c.cut = true ∧ v = .func (.func 46) #[] #[.pointer (some ⟨b0, 0, none⟩), .pointer (some ⟨b1, 0, none⟩)] ∧ w.heap[b1]? = some (.cells #[.int .i64 c.n] 3 (0, 0))))
/-- These blocks are no boxes. -/
def NoBox (w : World) (G : List Nat) : Prop := ∀ k ∈ G, ∀ cs t fr, w.heap[k]? = some (.cells cs t fr) → t ≠ 3 ∧ t ≠ 9
theorem Clo.keep {w w' : World} {v : Value} {c : Dk.Call} {G : List Nat} (h : Clo w v c) (u : Upd w w' G) (hG : NoBox w G) : Clo w' v c := by
  obtain ⟨b0, b1, h0, h1⟩ := h
  have k0 := (u.keep b0 (blk_lt h0) (fun hx => (hG _ hx _ _ _ h0).1 rfl)).trans h0
  refine ⟨b0, b1, k0, ?_⟩
  rcases h1 with ⟨hc, hv, h1⟩ | ⟨hc, hv, h1⟩
  · exact .inl ⟨hc, hv, (u.keep b1 (blk_lt h1) (fun hx => (hG _ hx _ _ _ h1).2 rfl)).trans h1⟩
  · exact .inr ⟨hc, hv, (u.keep b1 (blk_lt h1) (fun hx => (hG _ hx _ _ _ h1).1 rfl)).trans h1⟩
theorem Clo.one {w : World} {v : Value} {c : Dk.Call} (h : Clo w v c) : v.oneCell' = true := by
  obtain ⟨b0, b1, h0, ⟨hc, rfl, h1⟩ | ⟨hc, rfl, h1⟩⟩ := h <;> rfl
def CloRow (w : World) (vs : List Value) (l : List Dk.Call) : Prop := vs.length = l.length ∧ ∀ i (hi : i < l.length) (hv : i < vs.length), Clo w vs[i] l[i]
theorem CloRow.keep {w w' : World} {vs : List Value} {l : List Dk.Call} {G : List Nat} (h : CloRow w vs l) (u : Upd w w' G) (hG : NoBox w G) : CloRow w' vs l := ⟨h.1, fun i hi hv => (h.2 i hi hv).keep u hG⟩
theorem CloRow.nil (w : World) : CloRow w [] [] := ⟨rfl, fun i hi => by simp at hi⟩
theorem CloRow.snoc {w : World} {vs : List Value} {l : List Dk.Call} {v : Value} {c : Dk.Call} (h : CloRow w vs l) (hc : Clo w v c) : CloRow w (vs ++ [v]) (l ++ [c]) := by
  refine ⟨by simp [h.1], fun i hi hv => ?_⟩
  have hl := h.1
  rcases Nat.lt_or_ge i l.length with h1 | h1
  · rw [List.getElem_append_left h1, List.getElem_append_left (by omega)]
    exact h.2 i h1 (by omega)
  · have : i = l.length := by simp at hi; omega
    subst this
    simp only [List.getElem_concat_length]
    rw [List.getElem_append_right (by omega)]
    simpa [hl] using hc
/-- A disk in memory, and the blocks that are its own. -/
def DHas (w : World) (p : Nat) (d : Dk.D) (F : List Nat) : Prop :=
  ∃ a cap vs, F = p :: blks a ∧ DBox w p d.n d.room d.now d.sure a d.loose.length cap d.fuse ∧ SliceIs w 67 1 a d.loose.length cap vs ∧ CloRow w vs d.loose
theorem noBox {w : World} {p n room : Nat} {nw sr : List ByteArray} {a : Option Addr} {len cap len' cap' : Nat} {fuse : Int} {vs : List Value} (h : DBox w p n room nw sr a len cap fuse) (hs : SliceIs w 67 1 a len' cap' vs) : NoBox w (p :: blks a) := by
  intro k hk cs t fr hc
  rcases List.mem_cons.1 hk with rfl | hk
  · rw [h.box] at hc; cases hc; exact ⟨by decide, by decide⟩
  · refine ⟨fun ht => ?_, fun ht => ?_⟩ <;> (subst ht; exact hs.ne hc (by decide) hk)
theorem noBox1 {w : World} {p n room : Nat} {nw sr : List ByteArray} {a : Option Addr} {len cap : Nat} {fuse : Int} (h : DBox w p n room nw sr a len cap fuse) : NoBox w [p] := by
  intro k hk cs t fr hc
  obtain rfl := List.mem_singleton.1 hk
  rw [h.box] at hc; cases hc; exact ⟨by decide, by decide⟩
theorem noBox0 (w : World) : NoBox w [] := by intro k hk; cases hk
theorem DHas.lt {w : World} {p : Nat} {d : Dk.D} {F : List Nat} (h : DHas w p d F) : ∀ k ∈ F, k < w.heap.size := by
  obtain ⟨a, cap, vs, rfl, hB, hS, hC⟩ := h
  intro k hk
  rcases List.mem_cons.1 hk with rfl | hk
  · exact hB.lt
  · exact hS.lt k hk
theorem DHas.noBox {w : World} {p : Nat} {d : Dk.D} {F : List Nat} (h : DHas w p d F) : NoBox w F := by
  obtain ⟨a, cap, vs, rfl, hB, hS, hC⟩ := h
  exact Go.Proofs.Ytickdhlhafifhaa.noBox hB hS
/-- What changes other blocks, and no boxes, leaves a disk. -/
theorem DHas.keep {w w' : World} {p : Nat} {d : Dk.D} {F G : List Nat} (h : DHas w p d F) (u : Upd w w' G) (hG : NoBox w G) (hd : ∀ k ∈ F, k ∉ G) : DHas w' p d F := by
  obtain ⟨a, cap, vs, rfl, hB, hS, hC⟩ := h
  exact ⟨a, cap, vs, rfl, hB.keep (u.keep p hB.lt (hd p (by simp))), hS.keep fun k hk => u.keep k (hS.lt k hk) (hd k (by simp [hk])), hC.keep u hG⟩
theorem DHas.own {w w' : World} {p : Nat} {d : Dk.D} {F : List Nat} (h : DHas w p d F) (b : Below w.heap.size w w') : DHas w' p d F := h.keep (Upd.of_below [] b) (noBox0 w) (by simp)

end Go.Proofs.Ytickdhlhafifhaa
