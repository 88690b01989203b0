/-
  Joined out of the texts WireAlive WireRef WireRef2.
-/
import Derived.Test.YtjgnomjjphkfbaaGreatRWire
namespace Go.Proofs.YtjgnomjjphkfbaaGreat
open Go.RowKit

theorem RowIs.new (w : World) (vs : List Value) (t : TypeId) (fr : Nat × Nat) : RowIs (w.alloc (.cells vs.toArray t fr)) 1 (some ⟨w.heap.size, 0, none⟩) (vs.map fun v => [v]) := fun i hi => by
  have hi' : i < vs.length := by simpa using hi
  refine ⟨w.heap.size, 0, rfl, ?_⟩
  have := (CellsAt.new w vs t fr).sub i 1 (by omega)
  rw [Nat.zero_add] at this
  rw [Nat.zero_add, Nat.mul_one]
  have e : (vs.drop i).take 1 = [vs[i]] := by rw [List.drop_eq_getElem_cons hi']; rfl
  rw [e] at this
  simpa using this
end Go.Proofs.YtjgnomjjphkfbaaGreat

namespace Go.Proofs.YtjgnomjjphkfbaaGreat
open Go.RowKit
attribute [local go_sem ↓ high] appSem_eq

/-- A row of bytes, as a slice's cells. -/
def bcells (l : List UInt8) : List Value := l.map fun b => .int .u8 (by8 b)
theorem low128 (y : Nat) : (y : Int) % 128 + 128 = by8 (UInt8.ofNat (y % 128 + 128)) := by
  rw [by8_ofNat]; omega
theorem low127 (y : Nat) (h : y < 128) : (y : Int) = by8 (UInt8.ofNat y) := by
  rw [by8_ofNat]; omega
theorem bcells_snoc (l : List UInt8) (c : UInt8) : bcells (l ++ [c]) = bcells l ++ [.int .u8 (by8 c)] := by simp [bcells]
theorem bcells_get (l : List UInt8) (j : Nat) (h : j < l.length) : (bcells l)[j]'(by simpa [bcells] using h) = .int .u8 (by8 l[j]) := by simp [bcells]
theorem news1 {w : World} {v : Value} {t : TypeId} : ∀ j u, [v][j]? = some u → (w.alloc (.cells #[v] t (0, 0))).cell? ((⟨w.heap.size, 0, none⟩ : Addr).add j) = some u := by
  intro j u hj
  match j, hj with
  | 0, hj => simp at hj; subst hj; simp [Addr.add]

set_option maxHeartbeats 1000000 in
theorem rUint_any (w : World) (x : Nat) (hx : x < 18446744073709551616) :
    Calls Tryz.prog 54 #[.int .u64 x] w fun e w' => e = .returned (.string (S (Wr.uv x))) ∧ Below w.heap.size w w' := by
  obtain ⟨i0, hi, hz0, hz1, hz2⟩ := info_parts byteInfo
  have hx10 : x < 128 ^ 10 := Nat.lt_of_lt_of_le hx (by decide)
  go_enter Tryz.func54, Tryz.ntmps54
  go_wp2_with fail
  go_loopw [0, 3] (fun vx vb wr => ∃ (y f : Nat) (l : List UInt8) (a : Option Addr) (cap : Nat), vx = .int .u64 y ∧ vb = .slice a l.length cap ∧ y < 128 ^ f ∧ y < 18446744073709551616 ∧ 1 ≤ f ∧ f ≤ 10 ∧ l ++ Wr.uvF f y = Wr.uv x ∧ l.length ≤ 10 - f ∧
    SliceIs wr 5 1 a l.length cap (bcells l) ∧ (∀ k ∈ blks a, w.heap.size ≤ k) ∧ Own w.heap.size w wr) (fun vx _ _ => (intOf vx).toNat)
  case atStart => exact ⟨x, 10, [], none, 0, rfl, rfl, hx10, hx, by decide, by decide, rfl, by decide, SliceIs.nil _ _ _, by simp, Own.refl w⟩
  case round =>
    obtain ⟨y, f, l, a, cap, rfl, rfl, hyf, hy64, hf1, hf10, hcat, hll, hS, hbk, hO⟩ := hrel
    have hyI : (0 : Int) ≤ y ∧ (y : Int) ≤ 18446744073709551615 := by omega
    have HSL := Lib.hid hS
    have HBK := Lib.hid hbk
    have HO := Lib.hid hO
    have HF := Lib.hid (show y < 128 ^ f ∧ 1 ≤ f ∧ f ≤ 10 ∧ l.length ≤ 10 - f from ⟨hyf, hf1, hf10, hll⟩)
    have HC := Lib.hid hcat
    have hl10 : l.length ≤ 10 := by omega
    clear hS hbk hO hyf hf1 hf10 hll hcat hy64
    by_cases hbig : 128 ≤ y
    · have hbI : (128 : Int) ≤ y := by omega
      have HLOW := Lib.hid (low128 y)
      obtain ⟨b', cp', w2, hr, hS2, hU, hbk2⟩ := run_append_slice (P := Tryz.prog) (wr.alloc (.cells #[.int .u8 ((y : Int) % 128 + 128)] 5)) 76 76 5 i0 (.int .u8 0) 1 1 Tryz.underlying76 hi hz0 hz1 hz2 rfl (by decide) a l.length cap _ (HSL.out.alloc _) ⟨wr.heap.size, 0, none⟩ 1 1 [.int .u8 ((y : Int) % 128 + 128)] rfl news1
        (by intro u hu; simp at hu; subst hu; rfl) (by unfold maxLen; omega) (by omega)
      change (appSem _ _ _).run _ _ = _ at hr
      have hS3 := hS2
      rw [HLOW.out, ← bcells_snoc] at hS3
      have HS2 := Lib.hid hS3
      have HU := Lib.hid hU
      have HBK2 := Lib.hid hbk2
      clear hS2 hS3 hU hbk2
      have hdiv : (y : Int) / 128 = ((y / 128 : Nat) : Int) := by omega
      have HD := Lib.hid hdiv
      clear hdiv
      go_wp2_with fail
      go_roundw
      case rel =>
        obtain ⟨h1, h2, h3, h4⟩ := HF.out
        have hf2 : 2 ≤ f := by
          rcases Nat.lt_or_ge f 2 with h | h
          · obtain rfl : f = 1 := by omega
            simp at h1; omega
          · exact h
        obtain ⟨f', rfl⟩ : ∃ f', f = f' + 1 := ⟨f - 1, by omega⟩
        refine ⟨y / 128, f', l ++ [UInt8.ofNat (y % 128 + 128)], b', cp', by rw [← HD.out], by simp, ?_, by omega, by omega, by omega, ?_, by simp; omega, by simpa using HS2.out, ?_, (HO.out.alloc _).upd HU.out HBK.out⟩
        · rw [Nat.pow_succ] at h1
          exact Nat.div_lt_of_lt_mul (by omega)
        · rw [← HC.out, Wr.uvF_big _ _ (by omega)]; simp
        · intro k hk
          rcases HBK2.out k hk with h | h
          · exact HBK.out k h
          · have := HO.out.size; simp at h; omega
      case measure => simp [intOf]; omega
    · have hbI : ¬ (128 : Int) ≤ y := by omega
      have HLOW := Lib.hid (low127 y (by omega))
      obtain ⟨b', cp', w2, hr, hS2, hU, hbk2⟩ := run_append_slice (P := Tryz.prog) (wr.alloc (.cells #[.int .u8 ((y : Int))] 5)) 76 76 5 i0 (.int .u8 0) 1 1 Tryz.underlying76 hi hz0 hz1 hz2 rfl (by decide) a l.length cap _ (HSL.out.alloc _) ⟨wr.heap.size, 0, none⟩ 1 1 [.int .u8 ((y : Int))] rfl news1
        (by intro u hu; simp at hu; subst hu; rfl) (by unfold maxLen; omega) (by omega)
      change (appSem _ _ _).run _ _ = _ at hr
      have hS3 := hS2
      rw [HLOW.out, ← bcells_snoc] at hS3
      obtain ⟨g, off, rfl⟩ := hS3.there (by omega)
      have hcv := run_convert_bytes_back (P := Tryz.prog) w2 76 9 5 ⟨g, off, none⟩ cp' (l ++ [UInt8.ofNat y]) Tryz.underlying76 Tryz.underlying5 Tryz.underlying9 (fun j hj => by
        have h := hS3.cells.cell j (by simpa [bcells] using hj)
        rw [show (⟨g, off, none⟩ : Addr).add j = ⟨g, off + j, none⟩ from by unfold Addr.add; split <;> simp_all, h, bcells_get _ _ hj]
        rfl)
      rw [List.length_append, List.length_singleton] at hcv
      have HE : Hid ((⟨(l ++ [UInt8.ofNat y]).toArray⟩ : ByteArray) = S (Wr.uv x)) := Lib.hid (by
        obtain ⟨h1, h2, h3, h4⟩ := HF.out
        obtain ⟨f', rfl⟩ : ∃ f', f = f' + 1 := ⟨f - 1, by omega⟩
        rw [← HC.out, Wr.uvF_small _ _ (by omega)]; rfl)
      have HU := Lib.hid hU
      clear hS2 hS3 hU hbk2
      generalize (⟨(l ++ [UInt8.ofNat y]).toArray⟩ : ByteArray) = sR at *
      go_wp2_with fail
      go_ret
      exact ⟨by rw [← HE.out]; rfl, ((HO.out.alloc _).upd HU.out HBK.out).below⟩

end Go.Proofs.YtjgnomjjphkfbaaGreat

namespace Go.Proofs.YtjgnomjjphkfbaaGreat
open Go.RowKit

theorem rText_any (w : World) (t : ByteArray) (ht : t.size ≤ 1073741824) :
    Calls Tryz.prog 127 #[.string t] w fun e w' => e = .returned (.string (S (Wr.txt (L t)))) ∧ Below w.heap.size w w' := by
  have htI : (0 : Int) ≤ t.size ∧ (t.size : Int) ≤ 1073741824 := by omega
  have hcat : ¬ 9223372036854775807 < (S (Wr.uv t.size)).size + t.size := by
    have h2 : (Wr.uv t.size).length ≤ 10 := Wr.uvF_length 10 _
    rw [S_size]; omega
  have HE : Hid (S (Wr.txt (L t)) = S (Wr.uv t.size) ++ t) := Lib.hid (by
    unfold Wr.txt; rw [← S_append, L_size, S_L])
  have HU := Lib.hid (fun w => rUint_any w t.size (by omega))
  clear ht
  generalize S (Wr.uv t.size) = b at *
  go_enter Tryz.func127, Tryz.ntmps127
  go_wp2_with fail
  refine (HU.out _).mono ?_
  rintro e w' ⟨rfl, hb⟩
  go_wp2_with fail
  go_ret
  exact ⟨by rw [HE.out]; rfl, hb⟩

end Go.Proofs.YtjgnomjjphkfbaaGreat
