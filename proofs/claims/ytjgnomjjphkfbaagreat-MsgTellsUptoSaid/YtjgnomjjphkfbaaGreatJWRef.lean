/-
  Joined out of the texts WireAlive WireRef WireRef2.
-/
import Derived.Test.YtjgnomjjphkfbaaGreatJWire
/-
  THE WALK of the statements' small known answers for layer 8.
-/
namespace Go.Proofs.YtjgnomjjphkfbaaGreat
open Go.RowKit

theorem RowIs.new (w : World) (vs : List Value) (t : TypeId) (fr : Nat × Nat) : RowIs (w.alloc (.cells vs.toArray t fr)) 1 (some ⟨w.heap.size, 0, none⟩) (vs.map fun v => [v]) := fun i hi => by
  have hi' : i < vs.length := by simpa using hi
  refine ⟨w.heap.size, 0, rfl, ?_⟩
  have := (CellsAt.new w vs t fr).sub i 1 (by omega)
  rw [Nat.zero_add] at this
  rw [Nat.zero_add, Nat.mul_one]
  have e : (vs.drop i).take 1 = [vs[i]] := by rw [List.drop_eq_getElem_cons hi']; rfl
  rw [e] at this
  simpa using this
theorem below_alloc {w w' : World} {o : Obj} (hb : Below (w.alloc o).heap.size (w.alloc o) w') : Below w.heap.size w w' := ((Own.refl w).alloc o).below.trans (hb.mono (by simp))
theorem al_uints (w : World) :
    Calls Tryz.prog 104 #[.slice (some ⟨w.heap.size, 0, none⟩) 4 4] (w.alloc (.cells #[.int .u64 0, .int .u64 127, .int .u64 128, .int .u64 300] 22)) fun e w' => e = .returned (.string ⟨#[0, 127, 128, 1, 172, 2]⟩) ∧ Below w.heap.size w w' := by
  refine (uints_any _ (some ⟨w.heap.size, 0, none⟩) 4 [0, 127, 128, 300] (RowIs.new w [.int .u64 0, .int .u64 127, .int .u64 128, .int .u64 300] _ _) (by decide) (by decide)).mono ?_
  rintro e w' ⟨rfl, hb⟩
  exact ⟨by rfl, below_alloc hb⟩
theorem al_bools (w : World) :
    Calls Tryz.prog 141 #[.slice (some ⟨w.heap.size, 0, none⟩) 2 2] (w.alloc (.cells #[.bool true, .bool false] 4)) fun e w' => e = .returned (.string ⟨#[1, 0]⟩) ∧ Below w.heap.size w w' := by
  refine (bools_any _ (some ⟨w.heap.size, 0, none⟩) 2 [true, false] (RowIs.new w [.bool true, .bool false] _ _) (by decide)).mono ?_
  rintro e w' ⟨rfl, hb⟩
  exact ⟨by rfl, below_alloc hb⟩
theorem al_read (w : World) (b : Nat) (h : RdIs w b ⟨#[128, 0]⟩ 0) :
    Calls Tryz.prog 103 #[.pointer (some ⟨b, 0, none⟩), .int .u64 9] w fun e w' => e = .returned (.int .u64 0) ∧ RdStep w w' b ⟨#[128, 0]⟩ 7 := by
  have e : uRes ⟨#[128, 0]⟩ 9 = (0, ⟨#[128, 0]⟩, 7) := rfl
  have := uint_read w b ⟨#[128, 0]⟩ 9 (by decide) h
  rw [e] at this
  exact this
theorem Own.upd1 {w0 w w' : World} {b : Nat} (h : Own w0.heap.size w0 w) (u : Upd w w' [b]) (hb : w0.heap.size ≤ b) : Own w0.heap.size w0 w' := h.upd u (by simpa using hb)

end Go.Proofs.YtjgnomjjphkfbaaGreat

/-
  THE WALKS of the document's answer for layer 8: Uint, Zig, Text; and what a copy of a row is.
-/
namespace Go.Proofs.YtjgnomjjphkfbaaGreat
open Go.RowKit
attribute [local go_sem ↓ high] appSem_eq

/-- A row of bytes, as a slice's cells. -/
def bcells (l : List UInt8) : List Value := l.map fun b => .int .u8 (by8 b)
theorem low128 (y : Nat) : (y : Int) % 128 + 128 = by8 (UInt8.ofNat (y % 128 + 128)) := by
  rw [by8_ofNat]; omega
theorem low127 (y : Nat) (h : y < 128) : (y : Int) = by8 (UInt8.ofNat y) := by
  rw [by8_ofNat]; omega
theorem bcells_snoc (l : List UInt8) (c : UInt8) : bcells (l ++ [c]) = bcells l ++ [.int .u8 (by8 c)] := by simp [bcells]
theorem bcells_get (l : List UInt8) (j : Nat) (h : j < l.length) : (bcells l)[j]'(by simpa [bcells] using h) = .int .u8 (by8 l[j]) := by simp [bcells]
theorem news1 {w : World} {v : Value} {t : TypeId} : ∀ j u, [v][j]? = some u → (w.alloc (.cells #[v] t (0, 0))).cell? ((⟨w.heap.size, 0, none⟩ : Addr).add j) = some u := by
  intro j u hj
  match j, hj with
  | 0, hj => simp at hj; subst hj; simp [Addr.add]

set_option maxHeartbeats 1000000 in
theorem rUint_any (w : World) (x : Nat) (hx : x < 18446744073709551616) :
    Calls Tryz.prog 54 #[.int .u64 x] w fun e w' => e = .returned (.string (S (Wr.uv x))) ∧ Below w.heap.size w w' := by
  obtain ⟨i0, hi, hz0, hz1, hz2⟩ := info_parts byteInfo
  have hx10 : x < 128 ^ 10 := Nat.lt_of_lt_of_le hx (by decide)
  go_enter Tryz.func54, Tryz.ntmps54
  go_wp2_with fail
  go_loopw [0, 3] (fun vx vb wr => ∃ (y f : Nat) (l : List UInt8) (a : Option Addr) (cap : Nat), vx = .int .u64 y ∧ vb = .slice a l.length cap ∧ y < 128 ^ f ∧ y < 18446744073709551616 ∧ 1 ≤ f ∧ f ≤ 10 ∧ l ++ Wr.uvF f y = Wr.uv x ∧ l.length ≤ 10 - f ∧
    SliceIs wr 5 1 a l.length cap (bcells l) ∧ (∀ k ∈ blks a, w.heap.size ≤ k) ∧ Own w.heap.size w wr) (fun vx _ _ => (intOf vx).toNat)
  case atStart => exact ⟨x, 10, [], none, 0, rfl, rfl, hx10, hx, by decide, by decide, rfl, by decide, SliceIs.nil _ _ _, by simp, Own.refl w⟩
  case round =>
    obtain ⟨y, f, l, a, cap, rfl, rfl, hyf, hy64, hf1, hf10, hcat, hll, hS, hbk, hO⟩ := hrel
    have hyI : (0 : Int) ≤ y ∧ (y : Int) ≤ 18446744073709551615 := by omega
    have HSL := Lib.hid hS
    have HBK := Lib.hid hbk
    have HO := Lib.hid hO
    have HF := Lib.hid (show y < 128 ^ f ∧ 1 ≤ f ∧ f ≤ 10 ∧ l.length ≤ 10 - f from ⟨hyf, hf1, hf10, hll⟩)
    have HC := Lib.hid hcat
    have hl10 : l.length ≤ 10 := by omega
    clear hS hbk hO hyf hf1 hf10 hll hcat hy64
    by_cases hbig : 128 ≤ y
    · have hbI : (128 : Int) ≤ y := by omega
      have HLOW := Lib.hid (low128 y)
      obtain ⟨b', cp', w2, hr, hS2, hU, hbk2⟩ := run_append_slice (P := Tryz.prog) (wr.alloc (.cells #[.int .u8 ((y : Int) % 128 + 128)] 5)) 76 76 5 i0 (.int .u8 0) 1 1 Tryz.underlying76 hi hz0 hz1 hz2 rfl (by decide) a l.length cap _ (HSL.out.alloc _) ⟨wr.heap.size, 0, none⟩ 1 1 [.int .u8 ((y : Int) % 128 + 128)] rfl news1
        (by intro u hu; simp at hu; subst hu; rfl) (by unfold maxLen; omega) (by omega)
      change (appSem _ _ _).run _ _ = _ at hr
      have hS3 := hS2
      rw [HLOW.out, ← bcells_snoc] at hS3
      have HS2 := Lib.hid hS3
      have HU := Lib.hid hU
      have HBK2 := Lib.hid hbk2
      clear hS2 hS3 hU hbk2
      have hdiv : (y : Int) / 128 = ((y / 128 : Nat) : Int) := by omega
      have HD := Lib.hid hdiv
      clear hdiv
      go_wp2_with fail
      go_roundw
      case rel =>
        obtain ⟨h1, h2, h3, h4⟩ := HF.out
        have hf2 : 2 ≤ f := by
          rcases Nat.lt_or_ge f 2 with h | h
          · obtain rfl : f = 1 := by omega
            simp at h1; omega
          · exact h
        obtain ⟨f', rfl⟩ : ∃ f', f = f' + 1 := ⟨f - 1, by omega⟩
        refine ⟨y / 128, f', l ++ [UInt8.ofNat (y % 128 + 128)], b', cp', by rw [← HD.out], by simp, ?_, by omega, by omega, by omega, ?_, by simp; omega, by simpa using HS2.out, ?_, (HO.out.alloc _).upd HU.out HBK.out⟩
        · rw [Nat.pow_succ] at h1
          exact Nat.div_lt_of_lt_mul (by omega)
        · rw [← HC.out, Wr.uvF_big _ _ (by omega)]; simp
        · intro k hk
          rcases HBK2.out k hk with h | h
          · exact HBK.out k h
          · have := HO.out.size; simp at h; omega
      case measure => simp [intOf]; omega
    · have hbI : ¬ (128 : Int) ≤ y := by omega
      have HLOW := Lib.hid (low127 y (by omega))
      obtain ⟨b', cp', w2, hr, hS2, hU, hbk2⟩ := run_append_slice (P := Tryz.prog) (wr.alloc (.cells #[.int .u8 ((y : Int))] 5)) 76 76 5 i0 (.int .u8 0) 1 1 Tryz.underlying76 hi hz0 hz1 hz2 rfl (by decide) a l.length cap _ (HSL.out.alloc _) ⟨wr.heap.size, 0, none⟩ 1 1 [.int .u8 ((y : Int))] rfl news1
        (by intro u hu; simp at hu; subst hu; rfl) (by unfold maxLen; omega) (by omega)
      change (appSem _ _ _).run _ _ = _ at hr
      have hS3 := hS2
      rw [HLOW.out, ← bcells_snoc] at hS3
      obtain ⟨g, off, rfl⟩ := hS3.there (by omega)
      have hcv := run_convert_bytes_back (P := Tryz.prog) w2 76 9 5 ⟨g, off, none⟩ cp' (l ++ [UInt8.ofNat y]) Tryz.underlying76 Tryz.underlying5 Tryz.underlying9 (fun j hj => by
        have h := hS3.cells.cell j (by simpa [bcells] using hj)
        rw [show (⟨g, off, none⟩ : Addr).add j = ⟨g, off + j, none⟩ from by unfold Addr.add; split <;> simp_all, h, bcells_get _ _ hj]
        rfl)
      rw [List.length_append, List.length_singleton] at hcv
      have HE : Hid ((⟨(l ++ [UInt8.ofNat y]).toArray⟩ : ByteArray) = S (Wr.uv x)) := Lib.hid (by
        obtain ⟨h1, h2, h3, h4⟩ := HF.out
        obtain ⟨f', rfl⟩ : ∃ f', f = f' + 1 := ⟨f - 1, by omega⟩
        rw [← HC.out, Wr.uvF_small _ _ (by omega)]; rfl)
      have HU := Lib.hid hU
      clear hS2 hS3 hU hbk2
      generalize (⟨(l ++ [UInt8.ofNat y]).toArray⟩ : ByteArray) = sR at *
      go_wp2_with fail
      go_ret
      exact ⟨by rw [← HE.out]; rfl, ((HO.out.alloc _).upd HU.out HBK.out).below⟩

end Go.Proofs.YtjgnomjjphkfbaaGreat

/-
  THE WALKS of the document's answer for layer 8: Zig, Text, Same.
-/
namespace Go.Proofs.YtjgnomjjphkfbaaGreat
open Go.RowKit

theorem rText_any (w : World) (t : ByteArray) (ht : t.size ≤ 1073741824) :
    Calls Tryz.prog 127 #[.string t] w fun e w' => e = .returned (.string (S (Wr.txt (L t)))) ∧ Below w.heap.size w w' := by
  have htI : (0 : Int) ≤ t.size ∧ (t.size : Int) ≤ 1073741824 := by omega
  have hcat : ¬ 9223372036854775807 < (S (Wr.uv t.size)).size + t.size := by
    have h2 : (Wr.uv t.size).length ≤ 10 := Wr.uvF_length 10 _
    rw [S_size]; omega
  have HE : Hid (S (Wr.txt (L t)) = S (Wr.uv t.size) ++ t) := Lib.hid (by
    unfold Wr.txt; rw [← S_append, L_size, S_L])
  have HU := Lib.hid (fun w => rUint_any w t.size (by omega))
  clear ht
  generalize S (Wr.uv t.size) = b at *
  go_enter Tryz.func127, Tryz.ntmps127
  go_wp2_with fail
  refine (HU.out _).mono ?_
  rintro e w' ⟨rfl, hb⟩
  go_wp2_with fail
  go_ret
  exact ⟨by rw [HE.out]; rfl, hb⟩

theorem same_str {a b : ByteArray} : (a.toList = b.toList) ↔ a = b := by
  rw [ByteArray.toList_eq, ByteArray.toList_eq]
  exact ⟨fun h => Go.WideShapes.bytes_inj h, fun h => by rw [h]⟩
/-- Two lists of texts. -/
theorem rSame_any (w : World) (a b : Option Addr) (ca cb : Nat) (l m : List ByteArray) (h : RowIs w 1 a (l.map tcell)) (k : RowIs w 1 b (m.map tcell)) (hl : l.length ≤ 1073741824) (hm : m.length ≤ 9223372036854775807) :
    Calls Tryz.prog 64 #[.slice a l.length ca, .slice b m.length cb] w fun e w' => e = .returned (.bool (decide (l = m))) ∧ Below w.heap.size w w' := by
  have H := Lib.hid h
  have K := Lib.hid k
  have hlI : (0 : Int) ≤ l.length ∧ (l.length : Int) ≤ 1073741824 := by omega
  have hmI : (0 : Int) ≤ m.length ∧ (m.length : Int) ≤ 9223372036854775807 := by omega
  clear h k hl hm
  by_cases hlen : l.length = m.length
  · have hlm : ((l.length : Int) != m.length) = false := by rw [hlen]; simp
    have HLEN := Lib.hid hlen
    clear hlen
    go_enter Tryz.func64, Tryz.ntmps64
    go_wp2_with fail
    go_loopw [5] (fun vi wr => ∃ i m0 : Nat, i ≤ l.length ∧ vi = .int .i64 i ∧ l.take i = m.take i ∧ wr = w.drewN m0) (fun vi _ => l.length - (intOf vi).toNat)
    case atStart => exact ⟨0, 0, Nat.zero_le _, rfl, rfl, rfl⟩
    case round =>
      obtain ⟨i, m0, hi, rfl, heq, rfl⟩ := hrel
      have HE := Lib.hid heq
      clear heq
      by_cases hlt : i < l.length
      · have hltm : i < m.length := by have := HLEN.out; omega
        obtain ⟨g, off, rfl, hc⟩ := H.out.cell1 (f := fun x => .string x) i hlt
        obtain ⟨g', off', rfl, hc'⟩ := K.out.cell1 (f := fun x => .string x) i hltm
        have hiI : (0 : Int) ≤ i ∧ (i : Int) < l.length := by omega
        have hiM : (i : Int) < m.length := by omega
        have HN : Hid (l[i] = m[i] → l.take (i + 1) = m.take (i + 1)) := Lib.hid (fun e => by
          rw [List.take_succ_eq_append_getElem hlt, List.take_succ_eq_append_getElem hltm, HE.out, e])
        have HN2 : Hid (l[i] ≠ m[i] → l ≠ m) := Lib.hid (fun e e2 => e (by subst e2; rfl))
        generalize l[i] = x at *
        generalize m[i] = y at *
        by_cases hxy : x = y
        · subst hxy
          go_wp2_with fail
          refine wp_region_quiet_lit (by kernel_rfl) (by kernel_rfl) ?_
          repeat (quiet_step (fail))
          refine wpQuiet_nil ?_
          intro _ hw'
          obtain ⟨nq, hw''⟩ := hw'
          subst hw''
          rw [World.drewN_drewN]
          go_wp2
          go_roundw
          case rel => exact ⟨i + 1, _, by omega, by go_num, HN.out trivial, rfl⟩
          case measure => simp [intOf]; omega
        · have hne : (x.toList == y.toList) = false := beq_eq_false_iff_ne.2 fun e => hxy (same_str.1 e)
          have hne2 : (!(x.toList == y.toList)) = true := by rw [hne]; rfl
          have HD : Hid (decide (l = m) = false) := Lib.hid (decide_eq_false (HN2.out hxy))
          go_wp2_with fail
          refine wp_region_quiet_lit (by kernel_rfl) (by kernel_rfl) ?_
          repeat (quiet_step (fail))
          refine wpQuiet_nil ?_
          intro _ hw'
          obtain ⟨nq, hw''⟩ := hw'
          subst hw''
          rw [World.drewN_drewN]
          go_wp2
          go_ret
          exact ⟨by rw [HD.out]; rfl, (Own.refl w).drewN _ |>.below⟩
      · obtain rfl : i = l.length := by omega
        have HD : Hid (decide (l = m) = true) := Lib.hid (decide_eq_true (by
          have := HE.out
          rwa [List.take_length, HLEN.out, List.take_length] at this))
        go_wp2_with fail
        go_ret
        exact ⟨by rw [HD.out]; rfl, (Own.refl w).drewN _ |>.below⟩
  · have hlm : ((l.length : Int) != m.length) = true := by rw [bne_iff_ne]; omega
    have HD : Hid (decide (l = m) = false) := Lib.hid (decide_eq_false (fun e => hlen (by rw [e])))
    go_enter Tryz.func64, Tryz.ntmps64
    go_wp2_with fail
    go_ret
    exact ⟨by rw [HD.out]; rfl, Below.refl _ _⟩

end Go.Proofs.YtjgnomjjphkfbaaGreat
