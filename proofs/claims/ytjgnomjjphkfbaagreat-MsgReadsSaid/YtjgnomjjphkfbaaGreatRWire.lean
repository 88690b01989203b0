/-
  Joined out of the texts Builder WireWrite WireMore WireNum WireRead WireRead2 WireRead3 WireRead4.
-/
import Derived.Test.YtjgnomjjphkfbaaGreatRBase
import Derived.Test.YtjgnomjjphkfbaaGreatShelf
import Derived.Laws.AppendOwn
import Derived.Lib.Builder
import Derived.Laws.Externs
namespace Go.Proofs.YtjgnomjjphkfbaaGreat
open Go.RowKit

attribute [local go_sem ↓ high] appSem_eq

/-- A builder in block b that holds the bytes l. -/
def Bld (B b : Nat) (l : List UInt8) (w : World) : Prop := Lib.IsBuilder 116 5 B b (Lib.byteCells l) w
theorem Bld.new (w : World) : Bld w.heap.size w.heap.size [] (w.alloc (.cells #[.pointer none, .slice none 0 0] 116)) :=
  .inl ⟨Nat.le_refl _, .slice none 0 0, heap_alloc_new _ _, World.ownsRow_nil _ _ _ _, by simp [Value.ownBlock]⟩

theorem bldInfo : (Tryz.prog.info? 116).map (·.size) = some 2 := by kernel_rfl
theorem bldLies : liesAt Tryz.prog Tryz.prog.depth 116 (2 / Tryz.prog.cellsOf 116) 0 116 1 = true := by kernel_rfl
theorem byteInfo : (Tryz.prog.info? 5).map (fun i => (i.zero, i.size, i.bytes)) = some (some (.int .u8 0), 1, 1) := by kernel_rfl
set_option maxRecDepth 20000 in
set_option maxHeartbeats 400000 in
theorem bld_check (B b : Nat) (bs : List Value) (w : World) (h : Lib.IsBuilder 116 5 B b bs w) :
    Calls Tryz.prog 131 #[.pointer (some ⟨b, 0, none⟩)] w fun e w' => e = .returned (.tuple #[]) ∧ Lib.BuilderAt 116 5 B b (.pointer (some ⟨b, 0, none⟩)) bs w' ∧ Below B w w' := by
  obtain ⟨j, hj, hjs⟩ := Option.map_eq_some_iff.1 bldInfo
  rcases h with h | h
  · have h0 := h.cell0
    have hsh := h.shape
    have hfz := h.frozen0
    have H := Lib.hid h
    have r1 := Lib.run_to_unsafe w ⟨b, 0, none⟩ Tryz.underlying114 Tryz.underlying230 hj (by rw [hjs]; decide) hsh (Nat.zero_lt_succ 1)
    have r2 := Lib.run_from_unsafe w ⟨b, 0, none⟩ Tryz.underlying230 Tryz.underlying114 hj hsh bldLies
    clear h
    go_enter Tryz.func131, Tryz.ntmps131
    go_wp2
    rw [run_callFunc_extern Tryz.func144 (by kernel_rfl) (by kernel_rfl) (by kernel_rfl) (e := Extern.AbiNoEscape.same) (by kernel_rfl)]
    rw [Lib.run_noEscape]
    simp only [Result.andThen]
    rw [Oper.upon_value]
    go_wp2
    go_end0
    exact ⟨rfl, H.out.used _, (Below.refl B w).setCell (p := ⟨b, 0, none⟩) H.out.1 _⟩
  · have h0 := h.cell0
    have H := Lib.hid h
    have r1 := Lib.run_neq_ptr_same w ⟨b, 0, none⟩ Tryz.underlying114 hj
    clear h
    go_enter Tryz.func131, Tryz.ntmps131
    go_wp2
    go_end0
    exact ⟨rfl, H.out, Below.refl B _⟩

set_option maxHeartbeats 1000000 in
theorem bld_byte (B b : Nat) (l : List UInt8) (c : UInt8) (w : World) (h : Bld B b l w) (hlen : l.length + 1 ≤ 140737488355328) (hBw : B ≤ w.heap.size) :
    Calls Tryz.prog 136 #[.pointer (some ⟨b, 0, none⟩), .int .u8 (by8 c)] w fun e w' => e = .returned .nilIface ∧ Bld B b (l ++ [c]) w' ∧ Below B w w' := by
  obtain ⟨i0, hi, hz0, hz1, hz2⟩ := info_parts byteInfo
  have HC := Lib.hid (bld_check B b _ w h)
  have HL := Lib.hid hlen
  clear hlen h
  go_enter Tryz.func136, Tryz.ntmps136
  go_wp2_with fail
  refine HC.out.mono ?_
  rintro e w1 ⟨rfl, h1, hb1⟩
  obtain ⟨hB, v, hbk, hown, hne⟩ := h1
  have c0 : w1.cell? ⟨b, 0, none⟩ = some (.pointer (some ⟨b, 0, none⟩)) := by rw [cell_of_row _ _ _ _ _ _ hbk]; rfl
  have c1 : w1.cell? ⟨b, 1, none⟩ = some v := by rw [cell_of_row _ _ _ _ _ _ hbk]; rfl
  obtain ⟨v', w2, hr, hown', hgrow, _⟩ := run_append_own (P := Tryz.prog) (w1.alloc (.cells #[.int .u8 (by8 c)] 5)) B 76 76 5 i0 (.int .u8 0) 1 1 Tryz.underlying76 hi hz0 hz1 hz2 rfl (by decide) v (Lib.byteCells l).length (Lib.byteCells l) (hown.alloc _) ⟨w1.heap.size, 0, none⟩ 1 1 [.int .u8 (by8 c)] rfl
    (by intro j u hj; match j, hj with | 0, hj => simp at hj; subst hj; simp [Addr.add]) (by intro u hu; simp at hu; subst hu; rfl) (by have := HL.out; rw [Lib.byteCells_length]; unfold maxLen; omega) (by have := HL.out; rw [Lib.byteCells_length]; omega) (by have := hb1.size; simp; omega)
  change (appSem _ _ _).run _ _ = _ at hr
  have hlt := blk_lt hbk
  have hb2 : w2.heap[b]? = some (.cells #[.pointer (some ⟨b, 0, none⟩), v] 116 (0, 0)) := by
    rw [hgrow.block b (by simp; omega) (fun e => hne e.symm), Below.heap_alloc w1 _ b hlt]; exact hbk
  have d1 : w2.cell? ⟨b, 1, none⟩ = some v := by rw [cell_of_row _ _ _ _ _ _ hb2]; rfl
  have d2 : w2.frozen? ⟨b, 1, none⟩ = false := by simp [World.frozen?, hb2]
  have HB2 := Lib.hid hb2
  have HO := Lib.hid hown'
  have HN := Lib.hid hne
  have HG := Lib.hid hgrow
  have HB1 := Lib.hid hb1
  have HLt := Lib.hid (fun k hk => (hown.lt k hk).1)
  obtain ⟨a', cap', rfl, _, _⟩ := SliceIs.of_own hown'
  clear hb2 hown' hne hgrow hb1 hown hbk
  go_wp2
  go_ret
  refine ⟨rfl, .inr ?_, ?_⟩
  · exact Lib.BuilderAt.put (T := 116) (e := 5) hB HB2.out (bs' := Lib.byteCells (l ++ [c])) (by have := HO.out; rw [Lib.byteCells_append, List.length_append]; exact this) (by decide)
  · exact ((HB1.out.alloc (by have := HB1.out.size; omega) _).grown HG.out (by have := HB1.out.size; simp; omega) HLt.out).setCell (p := ⟨b, 1, none⟩) hB _

theorem bld_string (B b : Nat) (l : List UInt8) (w : World) (h : Bld B b l w) (hBw : B ≤ w.heap.size) :
    Calls Tryz.prog 53 #[.pointer (some ⟨b, 0, none⟩)] w fun e w' => e = .returned (.string ⟨l.toArray⟩) ∧ Below B w w' :=
  Tryz.Builder_String_any B b l w h hBw

end Go.Proofs.YtjgnomjjphkfbaaGreat

namespace Go.Proofs.YtjgnomjjphkfbaaGreat
open Go.RowKit

/-- Bytes as a text. -/
def S (l : List UInt8) : ByteArray := ⟨l.toArray⟩
theorem L_S (l : List UInt8) : L (S l) = l := rfl
theorem S_L (s : ByteArray) : S (L s) = s := rfl
theorem S_size (l : List UInt8) : (S l).size = l.length := rfl
theorem S_append (a b : List UInt8) : S a ++ S b = S (a ++ b) := by
  have e : L (S a ++ S b) = a ++ b := by rw [L_append, L_S, L_S]
  rw [← e, S_L]

theorem by8_ofNat (n : Nat) : by8 (UInt8.ofNat n) = ((n % 256 : Nat) : Int) := by
  unfold by8; rw [UInt8.toNat_ofNat']
theorem or128 (y : Nat) : Go.bits .or .u8 ((y : Int) % 256) 128 = by8 (UInt8.ofNat (y % 128 + 128)) := by
  have e : Go.bits .or .u8 ((y : Int) % 256) 128 = IntKind.u8.wrap ((BitVec.ofInt 8 ((y : Int) % 256) ||| BitVec.ofInt 8 128).toNat : Int) := rfl
  have h1 : (BitVec.ofInt 8 ((y : Int) % 256)).toNat = y % 256 := by rw [BitVec.toNat_ofInt]; omega
  have h2 : (BitVec.ofInt 8 128).toNat = 128 := rfl
  rw [e, BitVec.toNat_or, h1, h2, by8_ofNat, IntKind.wrap_u8]
  have hk : ∀ k, k < 256 → k ||| 128 = k % 128 + 128 := by decide +kernel
  rw [hk (y % 256) (Nat.mod_lt _ (by decide))]
  omega

def ucell (x : Nat) : List Value := [.int .u64 x]
/-- The bytes of numbers. -/
def uvs (xs : List Nat) : List UInt8 := xs.flatMap Wr.uv
theorem uvs_le (xs : List Nat) : (uvs xs).length ≤ 10 * xs.length := by
  induction xs with
  | nil => simp [uvs]
  | cons x xs ih =>
    have := Wr.uvF_length 10 x
    unfold uvs at ih
    simp only [uvs, List.flatMap_cons, List.length_append, List.length_cons, Wr.uv]; omega

set_option maxHeartbeats 1000000 in
theorem uints_any (w : World) (a : Option Addr) (cap : Nat) (xs : List Nat) (h : RowIs w 1 a (xs.map ucell)) (h64 : ∀ x ∈ xs, x < 18446744073709551616) (hlen : xs.length ≤ 1073741824) :
    Calls Tryz.prog 104 #[.slice a xs.length cap] w fun e w' => e = .returned (.string (S (uvs xs))) ∧ Below w.heap.size w w' := by
  have hlI : (xs.length : Int) ≤ 1073741824 := by omega
  have H := Lib.hid h
  have H64 := Lib.hid h64
  have HLn := Lib.hid hlen
  have HB0 : Hid (Bld w.heap.size w.heap.size [] (w.alloc (.cells #[.pointer none, .slice none 0 0] 116))) := Lib.hid (Bld.new w)
  clear h h64 hlen
  go_enter Tryz.func104, Tryz.ntmps104
  go_wp2_with fail
  have hO := (Own.refl w).alloc (.cells #[.pointer none, .slice none 0 0] 116)
  have HO0 := Lib.hid hO
  clear hO
  go_loopw [5, 8] (fun _ vi wr => ∃ k : Nat, k ≤ xs.length ∧ vi = .int .i64 k ∧ Bld w.heap.size w.heap.size (uvs (xs.take k)) wr ∧ Own w.heap.size w wr) (fun _ vi _ => xs.length - (intOf vi).toNat)
  case atStart => exact ⟨0, Nat.zero_le _, rfl, HB0.out, HO0.out⟩
  case round =>
    clear HB0 HO0
    obtain ⟨k, hk, rfl, hB, hO⟩ := hrel
    have HB := Lib.hid hB
    have HO := Lib.hid hO
    clear hB hO
    by_cases hlt : k < xs.length
    · obtain ⟨g, off, rfl, hc⟩ := (H.out.keep HO.out.below).cell1 (f := fun x => .int .u64 (x : Nat)) k hlt
      have hx := H64.out xs[k] (List.getElem_mem hlt)
      have HT : Hid (uvs (xs.take (k + 1)) = uvs (xs.take k) ++ Wr.uvF 10 xs[k]) := Lib.hid (by
        rw [List.take_succ_eq_append_getElem hlt, uvs, List.flatMap_append]; simp [uvs, Wr.uv])
      have hle := uvs_le (xs.take k)
      have hkI : (0 : Int) ≤ k ∧ (k : Int) < xs.length := by omega
      have HLE : Hid ((uvs (xs.take k)).length ≤ 10 * 1073741824) := Lib.hid (by have := HLn.out; rw [List.length_take] at hle; omega)
      clear hle
      generalize xs[k] = x at *
      have HX0 : Hid (x < 128 ^ 10) := Lib.hid (Nat.lt_of_lt_of_le hx (by decide))
      have hxI : (0 : Int) ≤ x ∧ (x : Int) ≤ 18446744073709551615 := by omega
      clear hx
      go_wp2_with fail
      go_loopw [5] (fun vx wr => ∃ (y f : Nat) (l : List UInt8), vx = .int .u64 y ∧ y < 128 ^ f ∧ 1 ≤ f ∧ f ≤ 10 ∧ (y : Int) ≤ 18446744073709551615 ∧ l ++ Wr.uvF f y = uvs (xs.take k) ++ Wr.uvF 10 x ∧ l.length ≤ (uvs (xs.take k)).length + (10 - f) ∧ Bld w.heap.size w.heap.size l wr ∧ Own w.heap.size w wr) (fun vx _ => (intOf vx).toNat)
      case atStart => exact ⟨x, 10, uvs (xs.take k), rfl, HX0.out, by decide, by decide, hxI.2, rfl, by omega, HB.out, HO.out⟩
      case round =>
        obtain ⟨y, f, l, rfl, hyf, hf1, hf2, hyI, hcat, hll, hB, hO⟩ := hrel
        have hy0 : (0 : Int) ≤ y := Int.natCast_nonneg _
        have HC := Lib.hid hcat
        have HLL : Hid (l.length + 1 ≤ 140737488355328) := Lib.hid (by have := HLE.out; omega)
        have HLL2 := Lib.hid hll
        have HB1 := Lib.hid hB
        have HO1 := Lib.hid hO
        have HF := Lib.hid (show y < 128 ^ f ∧ 1 ≤ f ∧ f ≤ 10 from ⟨hyf, hf1, hf2⟩)
        clear hcat hll hB hO hyf hf1 hf2 HB HO
        by_cases hbig : 127 < y
        · have hbI : (127 : Int) < y := by omega
          have HBy := Lib.hid (fun w1 h1 => bld_byte w.heap.size w.heap.size l (UInt8.ofNat (y % 128 + 128)) w1 h1 HLL.out)
          have HOr := Lib.hid (or128 y)
          go_wp2_with fail
          rw [HOr.out]
          refine (HBy.out _ HB1.out HO1.out.size).mono ?_
          rintro e w2 ⟨rfl, hB2, hb2⟩
          have HB2 := Lib.hid hB2
          have HO2 := Lib.hid (show Own w.heap.size w w2 from ⟨HO1.out.below.trans hb2, Nat.le_trans HO1.out.size hb2.size⟩)
          clear hB2 hb2
          have hdiv : (y : Int) / 128 = ((y / 128 : Nat) : Int) := by omega
          have HD := Lib.hid hdiv
          clear hdiv
          go_wp2_with fail
          go_roundw
          case rel =>
            obtain ⟨h1, h2, h3⟩ := HF.out
            have hf2 : 2 ≤ f := by
              rcases Nat.lt_or_ge f 2 with h | h
              · obtain rfl : f = 1 := by omega
                simp at h1; omega
              · exact h
            obtain ⟨f', rfl⟩ : ∃ f', f = f' + 1 := ⟨f - 1, by omega⟩
            refine ⟨y / 128, f', l ++ [UInt8.ofNat (y % 128 + 128)], by rw [← HD.out], ?_, by omega, by omega, by omega, ?_, ?_, HB2.out, HO2.out⟩
            · rw [Nat.pow_succ] at h1
              exact Nat.div_lt_of_lt_mul (by omega)
            · rw [← HC.out, Wr.uvF_big _ _ (by omega)]; simp
            · have := HLL2.out; simp; omega
          case measure => simp [intOf]; omega
        · have hbI : (y : Int) ≤ 127 := by omega
          have HE : Hid (l ++ [UInt8.ofNat y] = uvs (xs.take (k + 1))) := Lib.hid (by
            obtain ⟨h1, h2, h3⟩ := HF.out
            obtain ⟨f', rfl⟩ : ∃ f', f = f' + 1 := ⟨f - 1, by omega⟩
            rw [HT.out, ← HC.out, Wr.uvF_small _ _ (by omega)])
          have HBy := Lib.hid (fun w1 h1 => bld_byte w.heap.size w.heap.size l (UInt8.ofNat y) w1 h1 HLL.out)
          have HV : Hid ((y : Int) = by8 (UInt8.ofNat y)) := Lib.hid (by rw [by8_ofNat]; omega)
          go_wp2_with fail
          rw [HV.out]
          refine (HBy.out _ HB1.out HO1.out.size).mono ?_
          rintro e w2 ⟨rfl, hB2, hb2⟩
          have hB3 := hB2
          rw [HE.out] at hB3
          have HB2 := Lib.hid hB3
          have HO2 := Lib.hid (show Own w.heap.size w w2 from ⟨HO1.out.below.trans hb2, Nat.le_trans HO1.out.size hb2.size⟩)
          clear hB2 hB3 hb2
          go_wp2_with fail
          go_roundw
          case rel => exact ⟨k + 1, by omega, by go_num, HB2.out, HO2.out⟩
          case measure => simp [intOf]; omega
    · obtain rfl : k = xs.length := by omega
      have hB := HB.out
      rw [List.take_length] at hB
      replace HB := Lib.hid hB
      clear hB
      go_wp2_with fail
      refine (bld_string _ _ _ _ HB.out HO.out.size).mono ?_
      rintro e w2 ⟨rfl, hb2⟩
      have HB2 := Lib.hid (HO.out.below.trans hb2)
      clear hb2
      go_wp2_with fail
      go_ret
      exact ⟨rfl, HB2.out⟩

end Go.Proofs.YtjgnomjjphkfbaaGreat

namespace Go.Proofs.YtjgnomjjphkfbaaGreat
open Go.RowKit

theorem RowIs.one {w : World} {g : Nat} {v : Value} {t : TypeId} {fr : Nat × Nat} (h : w.heap[g]? = some (.cells #[v] t fr)) : RowIs w 1 (some ⟨g, 0, none⟩) [[v]] := fun i hi => by
  obtain rfl : i = 0 := by simpa using hi
  exact ⟨g, 0, rfl, ⟨_, _, _, h, by simp, by simp⟩⟩
/-- One number, in a row that the caller has made. -/
theorem uints_one (w : World) (v : Int) (x : Nat) (hv : v = x) (hx : x < 18446744073709551616) :
    Calls Tryz.prog 104 #[.slice (some ⟨w.heap.size, 0, none⟩) 1 1] (w.alloc (.cells #[.int .u64 v] 22)) fun e w' => e = .returned (.string (S (Wr.uv x))) ∧ Below w.heap.size w w' := by
  subst hv
  refine (uints_any (w.alloc (.cells #[.int .u64 x] 22)) (some ⟨w.heap.size, 0, none⟩) 1 [x] (RowIs.one (heap_alloc_new w _)) (by simpa using hx) (by simp)).mono ?_
  rintro e w' ⟨rfl, hb⟩
  refine ⟨by simp [uvs], ?_⟩
  exact ((Own.refl w).alloc _).below.trans (hb.mono (by simp))

def tcell (t : ByteArray) : List Value := [.string t]
def bcell (b : Bool) : List Value := [.bool b]
def tvs (ts : List ByteArray) : List UInt8 := ts.flatMap fun t => Wr.txt (L t)
def bvs (bs : List Bool) : List UInt8 := bs.map Wr.bool
/-- How many bytes texts have. -/
def sizes (l : List ByteArray) : Nat := (l.map (·.size)).sum
theorem tvs_le (ts : List ByteArray) : (tvs ts).length ≤ 10 * ts.length + sizes ts := by
  induction ts with
  | nil => simp [tvs]
  | cons x xs ih =>
    have h1 : (Wr.uv (L x).length).length ≤ 10 := Wr.uvF_length 10 _
    have e := L_size x
    have e2 : sizes (x :: xs) = x.size + sizes xs := by simp [sizes]
    show ((Wr.uv (L x).length ++ L x) ++ tvs xs).length ≤ _
    rw [List.length_append, List.length_append, List.length_cons, e2]; omega
theorem sizes_take_le (l : List ByteArray) (k : Nat) : sizes (l.take k) ≤ sizes l := by
  conv => rhs; rw [← List.take_append_drop k l]
  unfold sizes
  rw [List.map_append, List.sum_append]; omega
theorem size_le_sizes (l : List ByteArray) (t : ByteArray) (h : t ∈ l) : t.size ≤ sizes l := by
  induction l with
  | nil => cases h
  | cons x l ih =>
    unfold sizes at ih ⊢
    rcases List.mem_cons.1 h with rfl | h
    · simp
    · have := ih h; simp; omega

set_option maxHeartbeats 1000000 in
theorem texts_any (w : World) (a : Option Addr) (cap : Nat) (xs : List ByteArray) (h : RowIs w 1 a (xs.map tcell)) (hz : sizes xs ≤ 1073741824) (hlen : xs.length ≤ 1073741824) :
    Calls Tryz.prog 149 #[.slice a xs.length cap] w fun e w' => e = .returned (.string (S (tvs xs))) ∧ Below w.heap.size w w' := by
  have hlI : (xs.length : Int) ≤ 1073741824 := by omega
  have H := Lib.hid h
  have HZ := Lib.hid hz
  have HLn := Lib.hid hlen
  clear h hz hlen
  go_enter Tryz.func149, Tryz.ntmps149
  go_wp2_with fail
  go_loopw [2, 7] (fun vs vi wr => ∃ k : Nat, k ≤ xs.length ∧ vi = .int .i64 k ∧ vs = .string (S (tvs (xs.take k))) ∧ Own w.heap.size w wr) (fun _ vi _ => xs.length - (intOf vi).toNat)
  case atStart => exact ⟨0, Nat.zero_le _, rfl, rfl, Own.refl w⟩
  case round =>
    obtain ⟨k, hk, rfl, rfl, hO⟩ := hrel
    have HO := Lib.hid hO
    clear hO
    by_cases hlt : k < xs.length
    · obtain ⟨g, off, rfl, hc⟩ := (H.out.keep HO.out.below).cell1 (f := fun x => .string x) k hlt
      have hxs := size_le_sizes xs xs[k] (List.getElem_mem hlt)
      have hx1 : xs[k].size ≤ 1073741824 := Nat.le_trans hxs HZ.out
      have HT : Hid (S (tvs (xs.take (k + 1))) = S (tvs (xs.take k)) ++ (S (Wr.uv xs[k].size) ++ xs[k])) := Lib.hid (by
        rw [← S_L xs[k], S_append, S_L, S_append, List.take_succ_eq_append_getElem hlt, tvs, List.flatMap_append]; simp [tvs, Wr.txt])
      have hle := tvs_le (xs.take k)
      have hle2 := sizes_take_le xs k
      have hkI : (0 : Int) ≤ k ∧ (k : Int) < xs.length := by omega
      have h2 : (Wr.uv xs[k].size).length ≤ 10 := Wr.uvF_length 10 _
      have hcat1 : ¬ 9223372036854775807 < (S (Wr.uv xs[k].size)).size + xs[k].size := by rw [S_size]; omega
      have hcat : ¬ 9223372036854775807 < (S (tvs (xs.take k))).size + (S (Wr.uv xs[k].size) ++ xs[k]).size := by
        have := HLn.out; have := HZ.out; rw [List.length_take] at hle; rw [ByteArray.size_append, S_size, S_size]; omega
      clear hle hxs hle2 h2
      generalize xs[k] = x at *
      have hxI : (0 : Int) ≤ x.size ∧ (x.size : Int) ≤ 1073741824 := by omega
      have HU := Lib.hid (fun w => uints_one w x.size x.size rfl (by omega))
      clear hx1
      generalize S (tvs (xs.take k)) = b0 at *
      generalize S (Wr.uv x.size) = b1 at *
      go_wp2_with fail
      refine (HU.out _).mono ?_
      rintro e w2 ⟨rfl, hb2⟩
      have HO2 := Lib.hid (HO.out.trans hb2)
      clear hb2
      go_wp2_with fail
      go_roundw
      case rel => exact ⟨k + 1, by omega, by go_num, by rw [HT.out], HO2.out⟩
      case measure => simp [intOf]; omega
    · obtain rfl : k = xs.length := by omega
      go_wp2_with fail
      go_ret
      exact ⟨by rw [List.take_length]; rfl, HO.out.below⟩

set_option maxHeartbeats 1000000 in
theorem bools_any (w : World) (a : Option Addr) (cap : Nat) (xs : List Bool) (h : RowIs w 1 a (xs.map bcell)) (hlen : xs.length ≤ 1073741824) :
    Calls Tryz.prog 141 #[.slice a xs.length cap] w fun e w' => e = .returned (.string (S (bvs xs))) ∧ Below w.heap.size w w' := by
  have hlI : (xs.length : Int) ≤ 1073741824 := by omega
  have H := Lib.hid h
  have HLn := Lib.hid hlen
  clear h hlen
  go_enter Tryz.func141, Tryz.ntmps141
  go_wp2_with fail
  go_loopw [2, 8] (fun vs vi wr => ∃ k : Nat, k ≤ xs.length ∧ vi = .int .i64 k ∧ vs = .string (S (bvs (xs.take k))) ∧ Own w.heap.size w wr) (fun _ vi _ => xs.length - (intOf vi).toNat)
  case atStart => exact ⟨0, Nat.zero_le _, rfl, rfl, Own.refl w⟩
  case round =>
    obtain ⟨k, hk, rfl, rfl, hO⟩ := hrel
    have HO := Lib.hid hO
    clear hO
    by_cases hlt : k < xs.length
    · obtain ⟨g, off, rfl, hc⟩ := (H.out.keep HO.out.below).cell1 (f := fun x => .bool x) k hlt
      have HT : Hid (S (bvs (xs.take (k + 1))) = S (bvs (xs.take k)) ++ S (Wr.uv (if xs[k] then 1 else 0))) := Lib.hid (by
        rw [S_append, List.take_succ_eq_append_getElem hlt, bvs, List.map_append]; cases xs[k] <;> rfl)
      have hkI : (0 : Int) ≤ k ∧ (k : Int) < xs.length := by omega
      have hl : (bvs (xs.take k)).length ≤ xs.length := by simp [bvs]; omega
      generalize xs[k] = x at *
      have hl2 : (Wr.uv (if x then 1 else 0)).length ≤ 10 := Wr.uvF_length 10 _
      have hcat : ¬ 9223372036854775807 < (S (bvs (xs.take k))).size + (S (Wr.uv (if x then 1 else 0))).size := by
        have := HLn.out; rw [S_size, S_size]; omega
      clear hl hl2
      generalize S (bvs (xs.take k)) = b0 at *
      cases x with
      | true =>
        have HU := Lib.hid (fun w => uints_one w 1 1 rfl (by decide))
        rw [show (if true = true then 1 else 0) = 1 from rfl] at HT hcat
        generalize S (Wr.uv 1) = b1 at *
        go_wp2_with fail
        refine (HU.out _).mono ?_
        rintro e w2 ⟨rfl, hb2⟩
        have HO2 := Lib.hid (HO.out.trans hb2)
        clear hb2
        go_wp2_with fail
        go_roundw
        case rel => exact ⟨k + 1, by omega, by go_num, by rw [HT.out], HO2.out⟩
        case measure => simp [intOf]; omega
      | false =>
        have HU := Lib.hid (fun w => uints_one w 0 0 rfl (by decide))
        rw [show (if false = true then 1 else 0) = 0 from rfl] at HT hcat
        generalize S (Wr.uv 0) = b1 at *
        go_wp2_with fail
        refine (HU.out _).mono ?_
        rintro e w2 ⟨rfl, hb2⟩
        have HO2 := Lib.hid (HO.out.trans hb2)
        clear hb2
        go_wp2_with fail
        go_roundw
        case rel => exact ⟨k + 1, by omega, by go_num, by rw [HT.out], HO2.out⟩
        case measure => simp [intOf]; omega
    · obtain rfl : k = xs.length := by omega
      go_wp2_with fail
      go_ret
      exact ⟨by rw [List.take_length]; rfl, HO.out.below⟩

end Go.Proofs.YtjgnomjjphkfbaaGreat

namespace Go.Proofs.YtjgnomjjphkfbaaGreat
open Go.RowKit

/-- The spelling of a read. -/
def rdV (r : Nat × Nat × Nat) : Value := .tuple #[.int .u64 r.1, .int .i64 r.2.1, .int .i64 r.2.2]
theorem and127 (v : Nat) (hc : v < 256) : Go.bits .and .u64 (v : Int) 127 = ((v % 128 : Nat) : Int) := by
  have e : Go.bits .and .u64 (v : Int) 127 = IntKind.u64.wrap ((BitVec.ofInt 64 (v : Int) &&& BitVec.ofInt 64 127).toNat : Int) := rfl
  have h1 : (BitVec.ofInt 64 (v : Int)).toNat = v := by rw [BitVec.toNat_ofInt]; omega
  have h2 : (BitVec.ofInt 64 127).toNat = 127 := rfl
  rw [e, BitVec.toNat_and, h1, h2, show (127 : Nat) = 2 ^ 7 - 1 from rfl, Nat.and_two_pow_sub_one_eq_mod, IntKind.wrap_u64]
  omega
theorem or_high (x y k : Nat) (hx : x < 2 ^ k) (hk : k ≤ 63) : Go.bits .or .u64 (x : Int) (IntKind.u64.wrap ((y : Int) * 2 ^ k)) = (((x + y * 2 ^ k) % 18446744073709551616 : Nat) : Int) := by
  have e : ∀ a b : Int, Go.bits .or .u64 a b = IntKind.u64.wrap ((BitVec.ofInt 64 a ||| BitVec.ofInt 64 b).toNat : Int) := fun _ _ => rfl
  have hp : (2 : Nat) ^ k ≤ 2 ^ 63 := Nat.pow_le_pow_right (by decide) hk
  have hx64 : x < 18446744073709551616 := Nat.lt_of_lt_of_le hx (Nat.le_trans hp (by decide))
  have h1 : (BitVec.ofInt 64 (x : Int)).toNat = x := by rw [BitVec.toNat_ofInt]; omega
  have h2 : (BitVec.ofInt 64 (IntKind.u64.wrap ((y : Int) * 2 ^ k))).toNat = y * 2 ^ k % 18446744073709551616 := by
    rw [BitVec.toNat_ofInt, IntKind.wrap_u64]
    have : ((y : Int) * 2 ^ k) = ((y * 2 ^ k : Nat) : Int) := by push_cast; rfl
    rw [this]; omega
  have hm : y * 2 ^ k % 18446744073709551616 = 2 ^ k * (y % 2 ^ (64 - k)) := by
    have h64 : 18446744073709551616 = 2 ^ k * 2 ^ (64 - k) := by rw [← Nat.pow_add, show k + (64 - k) = 64 by omega]
    rw [h64, Nat.mul_comm y, Nat.mul_mod_mul_left]
  have hs : (x + y * 2 ^ k) % 18446744073709551616 = x + y * 2 ^ k % 18446744073709551616 := by
    have hlt : x + y * 2 ^ k % 18446744073709551616 < 18446744073709551616 := by
      rw [hm]
      have h64 : 18446744073709551616 = 2 ^ k * 2 ^ (64 - k) := by rw [← Nat.pow_add, show k + (64 - k) = 64 by omega]
      have hlt : y % 2 ^ (64 - k) < 2 ^ (64 - k) := Nat.mod_lt _ (Nat.pow_pos (by decide))
      have : 2 ^ k * (y % 2 ^ (64 - k) + 1) ≤ 2 ^ k * 2 ^ (64 - k) := Nat.mul_le_mul_left _ hlt
      rw [Nat.mul_add] at this
      omega
    omega
  rw [e, BitVec.toNat_or, h1, h2, hs, hm, Nat.or_comm, ← Nat.two_pow_add_eq_or_of_lt hx, IntKind.wrap_u64]
  rw [← hm]
  have := Nat.mod_lt (y * 2 ^ k) (show 0 < 18446744073709551616 by decide)
  rw [Nat.add_comm, ← hs]
  have := Nat.mod_lt (x + y * 2 ^ k) (show 0 < 18446744073709551616 by decide)
  omega

set_option maxRecDepth 20000 in
set_option maxHeartbeats 1000000 in
theorem number_any (s : ByteArray) (w : World) (hs : s.size ≤ 1073741824) :
    Calls Tryz.prog 135 #[.string s] w fun e w' => e = .returned (rdV (Wr.rd (L s))) ∧ w' = w := by
  have hsI : (s.size : Int) ≤ 1073741824 := by omega
  have HS := Lib.hid hs
  clear hs
  go_enter Tryz.func135, Tryz.ntmps135
  go_wp2_with fail
  go_loop [2, 8] (fun vx vi => ∃ i x : Nat, i ≤ s.size ∧ i ≤ 9 ∧ vi = .int .i64 i ∧ vx = .int .u64 x ∧ x < 2 ^ (7 * i) ∧ Wr.rd (L s) = Wr.rdG ((L s).drop i) i x) (fun _ vi => s.size - (intOf vi).toNat)
  case atStart => exact ⟨0, 0, Nat.zero_le _, by decide, rfl, rfl, by decide, rfl⟩
  case round =>
    obtain ⟨i, x, hi, hi10, rfl, rfl, hx, hr⟩ := hrel
    by_cases hlt : i < s.size
    · have hiI : (0 : Int) ≤ i ∧ (i : Int) < s.size := by omega
      have hget := L_get s i hlt
      have hdr : (L s).drop i = s[i] :: (L s).drop (i + 1) := by
        rw [List.drop_eq_getElem_cons (by rw [L_size]; exact hlt), hget]
      rw [hdr] at hr
      have hc255 := s[i].toNat_lt
      rw [Wr.rdG] at hr
      have hsv : ∃ v, s[i].toNat = v := ⟨_, rfl⟩
      obtain ⟨v, hv⟩ := hsv
      rw [hv] at hr hc255
      have hand := and127 v hc255
      have hor := or_high x (v % 128) (7 * i) hx (by omega)
      have h128 : ((v % 128 * 2 ^ (7 * i) : Nat)) = v % 128 * 128 ^ i := by rw [Nat.pow_mul]
      rw [h128] at hor
      have hvI : (0 : Int) ≤ v ∧ (v : Int) ≤ 255 := by omega
      clear hdr hget h128
      by_cases h1 : i = 9 ∧ 1 < v
      · obtain ⟨rfl, h1⟩ := h1
        rw [if_pos (.inl ⟨rfl, h1⟩)] at hr
        have HR := Lib.hid hr
        have hg : (1 : Int) < v := by omega
        clear hr hor hand
        go_wp2_with fail
        refine bodyPost_ret (v := .tuple #[.int .u64 (0), .int .i64 (0), .int .i64 7]) (by simp [results, Tryz.results135, go_sem]) rfl ⟨by rw [HR.out]; rfl, rfl⟩
      · by_cases h2 : 0 < i ∧ v = 0
        · obtain ⟨h2, rfl⟩ := h2
          rw [if_pos (.inr ⟨h2, rfl⟩)] at hr
          have HR := Lib.hid hr
          clear hr hor hand h1
          by_cases h9 : i = 9
          · subst h9
            go_wp2_with fail
            refine bodyPost_ret (v := .tuple #[.int .u64 (0), .int .i64 (0), .int .i64 7]) (by simp [results, Tryz.results135, go_sem]) rfl ⟨by rw [HR.out]; rfl, rfl⟩
          · have h9' : ((i : Int) == 9) = false := beq_eq_false_iff_ne.2 (by omega)
            clear h9
            go_wp2_with fail
            refine bodyPost_ret (v := .tuple #[.int .u64 (0), .int .i64 (0), .int .i64 7]) (by simp [results, Tryz.results135, go_sem]) rfl ⟨by rw [HR.out]; rfl, rfl⟩
        · rw [if_neg (by omega)] at hr
          have HR := Lib.hid hr
          have hw7 : IntKind.i64.wrap (7 * (i : Int)) = 7 * (i : Int) := IntWalk.i64_in _ (by omega)
          have HRX : Hid (i < 9 → (x + v % 128 * 128 ^ i) % 18446744073709551616 < 2 ^ (7 * (i + 1))) := Lib.hid (by
            intro h9
            rw [Nat.pow_mul, Nat.pow_succ]
            rw [Nat.pow_mul] at hx
            have h1 : v % 128 * 128 ^ i ≤ 127 * 128 ^ i := Nat.mul_le_mul_right _ (by omega)
            have h2 : (2 ^ 7 : Nat) = 128 := rfl
            rw [h2] at hx ⊢
            refine Nat.lt_of_le_of_lt (Nat.mod_le _ _) ?_
            omega)
          have HV9 : Hid (i = 9 → v = 1) := Lib.hid (fun h => by omega)
          clear h1 hr hx
          by_cases h9 : i = 9
          · subst h9
            obtain rfl : v = 1 := HV9.out rfl
            rw [if_pos (by decide)] at HR
            have hor9 : Go.bits .or .u64 (x : Int) 9223372036854775808 = (((x + 1 % 128 * 128 ^ 9) % 18446744073709551616 : Nat) : Int) := hor
            have hand9 : Go.bits .and .u64 1 127 = 1 := hand
            clear hor hand
            go_wp2_with fail
            refine bodyPost_ret (v := rdV (Wr.rd (L s))) (by rw [HR.out]; simp [results, Tryz.results135, go_sem, rdV, Wr.M64]) rfl ⟨rfl, rfl⟩
          · have h9' : ((i : Int) == 9) = false := beq_eq_false_iff_ne.2 (by omega)
            by_cases h0 : i = 0
            · subst h0
              clear h9 h9' h2
              have hor0 : Go.bits .or .u64 (x : Int) ((v : Int) % 128) = (((x + v % 128 * 128 ^ 0) % 18446744073709551616 : Nat) : Int) := by
                rw [← hor]
                congr 1
                rw [IntKind.wrap_u64]; simp; omega
              clear hor
              by_cases h128 : v < 128
              · rw [if_pos h128] at HR
                have h128I : (v : Int) < 128 := by omega
                go_wp2_with fail
                refine bodyPost_ret (v := rdV (Wr.rd (L s))) (by rw [HR.out]; simp [results, Tryz.results135, go_sem, rdV, Wr.M64]) rfl ⟨rfl, rfl⟩
              · rw [if_neg h128] at HR
                have h128I : ¬ (v : Int) < 128 := by omega
                go_wp2_with fail
                go_round
                case rel => exact ⟨1, (x + v % 128 * 128 ^ 0) % 18446744073709551616, by omega, by decide, rfl, by rw [Nat.pow_zero, Nat.mul_one]; congr 1, HRX.out (by decide), HR.out⟩
                case measure => simp [intOf]; omega
            · have h0I : (0 : Int) < i := by omega
              have horI : Go.bits .or .u64 (x : Int) (IntKind.u64.wrap ((v : Int) % 128 * 2 ^ (7 * i))) = (((x + v % 128 * 128 ^ i) % 18446744073709551616 : Nat) : Int) := by
                rw [← hor]; push_cast; rfl
              clear hor
              have hvz : ((v : Int) == 0) = false := beq_eq_false_iff_ne.2 (by omega)
              have HI9 := Lib.hid h9
              clear h9 h0 h2
              by_cases h128 : v < 128
              · rw [if_pos h128] at HR
                have h128I : (v : Int) < 128 := by omega
                go_wp2_with fail
                refine bodyPost_ret (v := rdV (Wr.rd (L s))) (by rw [HR.out]; simp [results, Tryz.results135, go_sem, rdV, Wr.M64]) rfl ⟨rfl, rfl⟩
              · rw [if_neg h128] at HR
                have h128I : ¬ (v : Int) < 128 := by omega
                go_wp2_with fail
                go_round
                case rel => exact ⟨i + 1, (x + v % 128 * 128 ^ i) % 18446744073709551616, by omega, by have := HI9.out; omega, by go_num, by congr 1, HRX.out (by have := HI9.out; omega), HR.out⟩
                case measure => simp [intOf]; omega
    · obtain rfl : i = s.size := by omega
      have hd : (L s).drop s.size = [] := List.drop_of_length_le (by rw [L_size]; exact Nat.le_refl _)
      rw [hd] at hr
      have HR := Lib.hid (show Wr.rd (L s) = (0, 0, 6) from hr)
      clear hr hd hx
      go_wp2_with fail
      refine bodyPost_ret (v := rdV (Wr.rd (L s))) (by rw [HR.out]; simp [results, Tryz.results135, go_sem, rdV]) rfl ⟨rfl, rfl⟩
end Go.Proofs.YtjgnomjjphkfbaaGreat

namespace Go.Proofs.YtjgnomjjphkfbaaGreat
open Go.RowKit

/-- A number that is read: it, its bytes, the fault. -/
theorem rd_cases (s : ByteArray) : ∃ x n e : Nat, Wr.rd (L s) = (x, n, e) ∧ ((e = 0 ∧ 1 ≤ n ∧ n ≤ s.size ∧ n ≤ 10 ∧ x < 18446744073709551616 ∧ (L s).take n = Wr.uv x) ∨ (x = 0 ∧ n = 0 ∧ (e = 6 ∨ e = 7))) := by
  refine ⟨_, _, _, rfl, ?_⟩
  by_cases h : (Wr.rd (L s)).2.2 = 0
  · obtain ⟨h1, h2, h3, h4, h5⟩ := Wr.rd_ok _ h
    rw [L_size] at h3
    exact .inl ⟨h, h2, h3, h4, h5, h1⟩
  · exact .inr (Wr.rdG_err _ _ _ h)

/-- A reader that was made. -/
def RdIs (w : World) (b : Nat) (s : ByteArray) (e : Nat) : Prop := w.heap[b]? = some (.cells #[.string s, .int .i64 e, .bool true] 166 (0, 0))
theorem RdIs.keep {w w' : World} {b : Nat} {s : ByteArray} {e : Nat} (h : RdIs w b s e) (hb : w'.heap[b]? = w.heap[b]?) : RdIs w' b s e := hb.trans h
/-- Memory that is made behind it leaves it. -/
theorem RdIs.keep2 {w : World} {b : Nat} {s : ByteArray} {e : Nat} {o1 o2 : Obj} {n : Nat} (h : RdIs w b s e) (_ : b < n) : RdIs ((w.alloc o1).alloc o2) b s e := by
  have hl := blk_lt h
  exact (Below.heap_alloc _ _ _ (by simp; omega)).trans ((Below.heap_alloc _ _ _ hl).trans h)
/-- What a call leaves: the reader, and nothing else of what was there has turned. -/
theorem RdIs.cells {w : World} {b : Nat} {s : ByteArray} {e : Nat} (h : RdIs w b s e) : w.cell? ⟨b, 0, none⟩ = some (.string s) ∧ w.cell? ⟨b, 1, none⟩ = some (.int .i64 e) ∧ w.cell? ⟨b, 2, none⟩ = some (.bool true) ∧ w.frozen? ⟨b, 0, none⟩ = false ∧ w.frozen? ⟨b, 1, none⟩ = false := by
  refine ⟨?_, ?_, ?_, frozen_of_row w b 0 _ _ h, frozen_of_row w b 1 _ _ h⟩
  all_goals rw [cell_of_row w b _ _ _ _ h]; rfl
theorem RdIs.setS {w : World} {b : Nat} {s : ByteArray} {e : Nat} (h : RdIs w b s e) (s' : ByteArray) : RdIs (w.setCell ⟨b, 0, none⟩ (.string s')) b s' e := by
  unfold RdIs; rw [heap_set _ h]; rfl
theorem RdIs.setE {w : World} {b : Nat} {s : ByteArray} {e : Nat} (h : RdIs w b s e) (e' : Nat) : RdIs (w.setCell ⟨b, 1, none⟩ (.int .i64 e')) b s e' := by
  unfold RdIs; rw [heap_set _ h]; rfl
def RdStep (w w' : World) (b : Nat) (s : ByteArray) (e : Nat) : Prop := RdIs w' b s e ∧ Upd w w' [b]

set_option maxHeartbeats 1000000 in
theorem uint_closure (w : World) (B1 B0 : Nat) (s : ByteArray) (most : Nat) (v : Value) (hs : s.size ≤ 1073741824) (h1 : w.heap[B1]? = some (.cells #[v] 22 (0, 0))) (h0 : w.heap[B0]? = some (.cells #[.int .u64 most] 22 (0, 0))) (hne : B0 ≠ B1) :
    Calls Tryz.prog 134 #[.string s, .pointer (some ⟨B1, 0, none⟩), .pointer (some ⟨B0, 0, none⟩)] w fun e w' =>
      (∃ x n er : Nat, Wr.rd (L s) = (x, n, er) ∧ e = .returned (.tuple #[.int .i64 n, .int .i64 (if er = 0 ∧ most < x then 80 else er : Nat)]) ∧ w' = w.setCell ⟨B1, 0, none⟩ (.int .u64 x)) := by
  have HN := Lib.hid (fun w => number_any s w hs)
  obtain ⟨x, n, er, hr, hc⟩ := rd_cases s
  rw [hr] at HN
  have c1 := cell_of_row w B1 0 _ _ _ h1
  have f1 := frozen_of_row w B1 0 _ _ h1
  have c0 := cell_of_row w B0 0 _ _ _ h0
  simp only [List.getElem?_toArray, List.getElem?_cons_zero] at c1 c0
  have H1 := Lib.hid h1
  have HR := Lib.hid hr
  have HC := Lib.hid hc
  clear hr hs
  go_enter Tryz.func134, Tryz.ntmps134
  go_wp2_with fail
  refine (HN.out _).mono ?_
  rintro e w1 ⟨rfl, rfl⟩
  unfold rdV
  rcases HC.out with ⟨rfl, _⟩ | ⟨rfl, rfl, rfl | rfl⟩
  · by_cases hm : most < x
    · have hmI : (most : Int) < x := by omega
      go_wp2_with fail
      refine bodyPost_ret (v := .tuple #[.int .i64 n, .int .i64 80]) (by simp [results, Tryz.results134, go_sem]) rfl ⟨x, n, 0, HR.out, by rw [if_pos ⟨rfl, hm⟩]; rfl, rfl⟩
    · have hmI : ¬ (most : Int) < x := by omega
      go_wp2_with fail
      refine bodyPost_ret (v := .tuple #[.int .i64 n, .int .i64 0]) (by simp [results, Tryz.results134, go_sem]) rfl ⟨x, n, 0, HR.out, by rw [if_neg (by omega)]; rfl, rfl⟩
  · go_wp2_with fail
    refine bodyPost_ret (v := .tuple #[.int .i64 0, .int .i64 6]) (by simp [results, Tryz.results134, go_sem]) rfl ⟨0, 0, 6, HR.out, by rw [if_neg (by omega)]; rfl, rfl⟩
  · go_wp2_with fail
    refine bodyPost_ret (v := .tuple #[.int .i64 0, .int .i64 7]) (by simp [results, Tryz.results134, go_sem]) rfl ⟨0, 0, 7, HR.out, by rw [if_neg (by omega)]; rfl, rfl⟩

/-- What Uint makes of bytes. -/
def uRes (s : ByteArray) (most : Nat) : Nat × ByteArray × Nat :=
  if (Wr.rd (L s)).2.2 = 0 then (if most < (Wr.rd (L s)).1 then (0, s, 80) else ((Wr.rd (L s)).1, s.extract (Wr.rd (L s)).2.1 s.size, 0)) else (0, s, (Wr.rd (L s)).2.2)
set_option maxHeartbeats 1000000 in
theorem uint_read (w : World) (b : Nat) (s : ByteArray) (most : Nat) (hs : s.size ≤ 1073741824) (h : RdIs w b s 0) :
    Calls Tryz.prog 103 #[.pointer (some ⟨b, 0, none⟩), .int .u64 most] w fun e w' => e = .returned (.int .u64 (uRes s most).1) ∧ RdStep w w' b (uRes s most).2.1 (uRes s most).2.2 := by
  have HB := Lib.hid h
  have hblt := blk_lt h
  have hb1 := heap_alloc2_old w (.cells #[.int .u64 most] 22 (0, 0)) (.cells #[.int .u64 0] 22 (0, 0))
  have hb2 := heap_alloc2_new w (.cells #[.int .u64 most] 22 (0, 0)) (.cells #[.int .u64 0] 22 (0, 0))
  have hC := uint_closure _ (w.heap.size + 1) w.heap.size s most _ hs hb2 hb1 (by omega)
  have HC := Lib.hid hC
  obtain ⟨c0, c1, c2, f0, f1⟩ := h.cells
  have hn1 : b ≠ w.heap.size + 1 := by omega
  clear hC h hb1 hb2
  go_enter Tryz.func103, Tryz.ntmps103
  go_wp2_with (first | (go_at_call 133; go_in))
  refine HC.out.mono ?_
  rintro e w2 ⟨x, n, er, hr, rfl, rfl⟩
  obtain ⟨x', n', er', hr', hcs⟩ := rd_cases s
  rw [hr] at hr'
  cases hr'
  have HR := Lib.hid hr
  have HCS := Lib.hid hcs
  clear hr
  rcases hcs with ⟨rfl, _, hn, _⟩ | ⟨rfl, rfl, he⟩
  · by_cases hm : most < x
    · have HE : Hid (uRes s most = (0, s, 80)) := Lib.hid (by unfold uRes; rw [HR.out]; simp [hm])
      rw [if_pos ⟨rfl, hm⟩]
      clear hm
      go_wp2_with fail
      refine bodyPost_ret (v := .int .u64 (0)) (by simp [results, Tryz.results103, go_sem]) rfl ⟨by rw [HE.out]; rfl, by rw [HE.out]; exact ⟨((HB.out.setE 80).keep2 hblt), (((Upd.refl w [b]).setCell (.inl (by simp)) _).alloc _).alloc _⟩⟩
    · have HE : Hid (uRes s most = (x, s.extract n s.size, 0)) := Lib.hid (by unfold uRes; rw [HR.out]; simp [hm])
      rw [if_neg (by omega)]
      clear hm
      have hnI : (0 : Int) ≤ n ∧ (n : Int) ≤ s.size := by omega
      go_wp2_with fail
      refine bodyPost_ret (v := .int .u64 (x)) (by simp [results, Tryz.results103, go_sem]) rfl ⟨by rw [HE.out], by rw [HE.out]; exact ⟨((HB.out.setS (s.extract n s.size)).keep2 hblt), (((Upd.refl w [b]).setCell (.inl (by simp)) _).alloc _).alloc _⟩⟩
  · rw [if_neg (by omega)]
    rcases he with rfl | rfl
    · have HE : Hid (uRes s most = (0, s, 6)) := Lib.hid (by unfold uRes; rw [HR.out]; simp)
      go_wp2_with fail
      refine bodyPost_ret (v := .int .u64 (0)) (by simp [results, Tryz.results103, go_sem]) rfl ⟨by rw [HE.out]; rfl, by rw [HE.out]; exact ⟨((HB.out.setE 6).keep2 hblt), (((Upd.refl w [b]).setCell (.inl (by simp)) _).alloc _).alloc _⟩⟩
    · have HE : Hid (uRes s most = (0, s, 7)) := Lib.hid (by unfold uRes; rw [HR.out]; simp)
      go_wp2_with fail
      refine bodyPost_ret (v := .int .u64 (0)) (by simp [results, Tryz.results103, go_sem]) rfl ⟨by rw [HE.out]; rfl, by rw [HE.out]; exact ⟨((HB.out.setE 7).keep2 hblt), (((Upd.refl w [b]).setCell (.inl (by simp)) _).alloc _).alloc _⟩⟩

end Go.Proofs.YtjgnomjjphkfbaaGreat

namespace Go.Proofs.YtjgnomjjphkfbaaGreat
open Go.RowKit

theorem RdIs.alloc {w : World} {b : Nat} {s : ByteArray} {e : Nat} (h : RdIs w b s e) (o : Obj) : RdIs (w.alloc o) b s e := (Below.heap_alloc _ _ _ (blk_lt h)).trans h
/-- What Bool makes of bytes. -/
def bRes (s : ByteArray) : Bool × ByteArray × Nat :=
  match L s with
  | [] => (false, s, 6)
  | c :: _ => if 1 < c.toNat then (false, s, 7) else (c.toNat == 1, s.extract 1 s.size, 0)
/-- What the closure of Bool leaves. -/
def BoolDone (w : World) (B1 : Nat) (s : ByteArray) (e : Ending) (w' : World) : Prop :=
  e = .returned (.tuple #[.int .i64 (if (bRes s).2.2 = 0 then 1 else 0 : Nat), .int .i64 (bRes s).2.2]) ∧ (if (bRes s).2.2 = 0 then w' = w.setCell ⟨B1, 0, none⟩ (.bool (bRes s).1) else w' = w)
set_option maxHeartbeats 1000000 in
theorem bool_closure (w : World) (B1 : Nat) (s : ByteArray) (_hs : s.size ≤ 1073741824) (h1 : w.heap[B1]? = some (.cells #[.bool false] 4 (0, 0))) :
    Calls Tryz.prog 150 #[.string s, .pointer (some ⟨B1, 0, none⟩)] w (BoolDone w B1 s) := by
  have c1 := cell_of_row w B1 0 _ _ _ h1
  have f1 := frozen_of_row w B1 0 _ _ h1
  simp only [List.getElem?_toArray, List.getElem?_cons_zero] at c1
  clear _hs h1
  by_cases hz : s.size = 0
  · have HE : Hid (bRes s = (false, s, 6)) := Lib.hid (by
      have : L s = [] := List.eq_nil_of_length_eq_zero (by rw [L_size]; exact hz)
      unfold bRes; rw [this])
    have h0 : s = ByteArray.empty := by rw [← ByteArray.size_eq_zero_iff]; exact hz
    subst h0
    go_enter Tryz.func150, Tryz.ntmps150
    go_wp2_with fail
    refine bodyPost_ret (v := .tuple #[.int .i64 0, .int .i64 6]) (by simp [results, Tryz.results150, go_sem]) rfl (by unfold BoolDone; rw [HE.out]; exact ⟨rfl, rfl⟩)
  · have hpos : 0 < s.size := by omega
    have hd : L s = s[0] :: (L s).drop 1 := by
      have h0 : 0 < (L s).length := by rw [L_size]; exact hpos
      have := List.drop_eq_getElem_cons h0
      rw [L_get s 0 hpos] at this
      simpa using this
    have hne : s.toList.isEmpty = false := by
      rw [ByteArray.toList_eq]
      have hl : 0 < s.data.toList.length := by rw [Array.length_toList]; exact hpos
      cases h : s.data.toList with
      | nil => rw [h] at hl; cases hl
      | cons a b => rfl
    have hposI : (0 : Int) < s.size := by omega
    have hHE : bRes s = if 1 < s[0].toNat then (false, s, 7) else (s[0].toNat == 1, s.extract 1 s.size, 0) := by unfold bRes; rw [hd]
    have hlt := s[0].toNat_lt
    obtain ⟨c, hc⟩ : ∃ c, s[0].toNat = c := ⟨_, rfl⟩
    rw [hc] at hHE hlt
    have hcI : (0 : Int) ≤ c ∧ (c : Int) ≤ 255 := by omega
    clear hd hz hlt
    by_cases h1 : 1 < c
    · rw [if_pos h1] at hHE
      have HE := Lib.hid hHE
      have h1I : (1 : Int) < c := by omega
      clear hHE h1
      go_enter Tryz.func150, Tryz.ntmps150
      go_wp2_with fail
      refine bodyPost_ret (v := .tuple #[.int .i64 0, .int .i64 7]) (by simp [results, Tryz.results150, go_sem]) rfl (by unfold BoolDone; rw [HE.out]; exact ⟨rfl, rfl⟩)
    · rw [if_neg h1] at hHE
      have HE := Lib.hid hHE
      have h1I : ¬ (1 : Int) < c := by omega
      have HCB : Hid (((c : Int) == 1) = (c == 1)) := Lib.hid (by rw [Bool.eq_iff_iff, beq_iff_eq, beq_iff_eq]; omega)
      clear hHE h1
      go_enter Tryz.func150, Tryz.ntmps150
      go_wp2_with fail
      refine bodyPost_ret (v := .tuple #[.int .i64 1, .int .i64 0]) (by simp [results, Tryz.results150, go_sem]) rfl (by unfold BoolDone; rw [HE.out]; refine ⟨rfl, ?_⟩; rw [HCB.out]; rfl)

set_option maxHeartbeats 1000000 in
theorem bool_read (w : World) (b : Nat) (s : ByteArray) (hs : s.size ≤ 1073741824) (h : RdIs w b s 0) :
    Calls Tryz.prog 140 #[.pointer (some ⟨b, 0, none⟩)] w fun e w' => e = .returned (.bool (bRes s).1) ∧ RdStep w w' b (bRes s).2.1 (bRes s).2.2 := by
  have HB := Lib.hid h
  have hblt := blk_lt h
  have hC := bool_closure _ w.heap.size s hs (heap_alloc_new w (.cells #[.bool false] 4 (0, 0)))
  have HC := Lib.hid hC
  obtain ⟨c0, c1, c2, f0, f1⟩ := h.cells
  have hn1 : b ≠ w.heap.size := by omega
  have hcs : bRes s = (false, s, 6) ∨ bRes s = (false, s, 7) ∨ (1 ≤ s.size ∧ ∃ v, bRes s = (v, s.extract 1 s.size, 0)) := by
    unfold bRes
    have hl := L_size s
    revert hl
    cases L s with
    | nil => intro _; simp
    | cons c r =>
      intro hl
      simp only [List.length_cons] at hl
      by_cases h1 : 1 < c.toNat
      · exact .inr (.inl (if_pos h1))
      · exact .inr (.inr ⟨by omega, _, if_neg h1⟩)
  clear hC h
  go_enter Tryz.func140, Tryz.ntmps140
  go_wp2_with (first | (go_at_call 133; go_in))
  refine HC.out.mono ?_
  rintro e w2 hd
  unfold BoolDone at hd
  rcases hcs with he | he | ⟨hn, v, he⟩
  · rw [he] at hd
    obtain ⟨rfl, rfl⟩ := hd
    have HE := Lib.hid he
    clear he
    go_wp2_with fail
    refine bodyPost_ret (v := .bool false) (by simp [results, Tryz.results140, go_sem]) rfl ⟨by rw [HE.out], by rw [HE.out]; exact ⟨(HB.out.setE 6).alloc _, ((Upd.refl w [b]).setCell (.inl (by simp)) _).alloc _⟩⟩
  · rw [he] at hd
    obtain ⟨rfl, rfl⟩ := hd
    have HE := Lib.hid he
    clear he
    go_wp2_with fail
    refine bodyPost_ret (v := .bool false) (by simp [results, Tryz.results140, go_sem]) rfl ⟨by rw [HE.out], by rw [HE.out]; exact ⟨(HB.out.setE 7).alloc _, ((Upd.refl w [b]).setCell (.inl (by simp)) _).alloc _⟩⟩
  · rw [he] at hd
    obtain ⟨rfl, rfl⟩ := hd
    have HE := Lib.hid he
    clear he
    have hnI : (1 : Int) ≤ s.size := by omega
    cases v with
    | true =>
      go_wp2_with fail
      refine bodyPost_ret (v := .bool true) (by simp [results, Tryz.results140, go_sem]) rfl ⟨by rw [HE.out], by rw [HE.out]; exact ⟨(HB.out.setS (s.extract 1 s.size)).alloc _, ((Upd.refl w [b]).setCell (.inl (by simp)) _).alloc _⟩⟩
    | false =>
      go_wp2_with fail
      refine bodyPost_ret (v := .bool false) (by simp [results, Tryz.results140, go_sem]) rfl ⟨by rw [HE.out], by rw [HE.out]; exact ⟨(HB.out.setS (s.extract 1 s.size)).alloc _, ((Upd.refl w [b]).setCell (.inl (by simp)) _).alloc _⟩⟩

end Go.Proofs.YtjgnomjjphkfbaaGreat

namespace Go.Proofs.YtjgnomjjphkfbaaGreat
open Go.RowKit

/-- A size that is read: it, its number's bytes, the fault. -/
def sRes (s : ByteArray) (most : Int) : Nat × Nat × Nat :=
  if (Wr.rd (L s)).2.2 = 0 then (if most < (Wr.rd (L s)).1 then (0, 0, 5) else if s.size - (Wr.rd (L s)).2.1 < (Wr.rd (L s)).1 then (0, 0, 6) else ((Wr.rd (L s)).1, (Wr.rd (L s)).2.1, 0)) else (0, 0, (Wr.rd (L s)).2.2)
theorem sRes_cases (s : ByteArray) (most : Int) : ∃ x n e : Nat, sRes s most = (x, n, e) ∧ ((e = 0 ∧ n + x ≤ s.size) ∨ (x = 0 ∧ n = 0 ∧ (e = 5 ∨ e = 6 ∨ e = 7))) := by
  refine ⟨(sRes s most).1, (sRes s most).2.1, (sRes s most).2.2, rfl, ?_⟩
  obtain ⟨x, n, e, hr, h⟩ := rd_cases s
  unfold sRes
  rw [hr]
  rcases h with ⟨rfl, _, h1, _⟩ | ⟨rfl, rfl, rfl | rfl⟩
  · simp only [if_true]
    split
    · simp
    · split
      · simp
      · simp; omega
  · simp
  · simp

set_option maxHeartbeats 1000000 in
theorem size_any (s : ByteArray) (most : Int) (w : World) (hs : s.size ≤ 1073741824) (hm1 : -9223372036854775808 ≤ most) (hm2 : most ≤ 9223372036854775807) :
    Calls Tryz.prog 147 #[.string s, .int .i64 most] w fun e w' => e = .returned (.tuple #[.int .i64 (sRes s most).1, .int .i64 (sRes s most).2.1, .int .i64 (sRes s most).2.2]) ∧ w' = w := by
  have hsI : (0 : Int) ≤ s.size ∧ (s.size : Int) ≤ 1073741824 := by omega
  have HN := Lib.hid (fun w => number_any s w hs)
  obtain ⟨x, n, er, hr, hc⟩ := rd_cases s
  rw [hr] at HN
  have HR := Lib.hid hr
  have HC := Lib.hid hc
  clear hr hs hc
  go_enter Tryz.func147, Tryz.ntmps147
  go_wp2_with fail
  refine (HN.out _).mono ?_
  rintro e w1 ⟨rfl, rfl⟩
  unfold rdV
  rcases HC.out with ⟨rfl, h1, h2, h3, h4, _⟩ | ⟨rfl, rfl, rfl | rfl⟩
  · have hxI : (0 : Int) ≤ x ∧ (x : Int) ≤ 18446744073709551615 := by omega
    have hnI : (1 : Int) ≤ n ∧ (n : Int) ≤ s.size := by omega
    by_cases hneg : most < 0
    · have HE : Hid (sRes s most = (0, 0, 5)) := Lib.hid (by unfold sRes; rw [HR.out]; simp only [if_true]; rw [if_pos (by omega)])
      go_wp2_with fail
      exact bodyPost_ret (v := .tuple #[.int .i64 0, .int .i64 0, .int .i64 5]) (by simp [results, Tryz.results147, go_sem]) rfl ⟨by rw [HE.out]; rfl, rfl⟩
    · have h0I : (0 : Int) ≤ most := by omega
      by_cases hm : most < x
      · have HE : Hid (sRes s most = (0, 0, 5)) := Lib.hid (by unfold sRes; rw [HR.out]; simp only [if_true]; rw [if_pos hm])
        clear hneg
        go_wp2_with fail
        exact bodyPost_ret (v := .tuple #[.int .i64 0, .int .i64 0, .int .i64 5]) (by simp [results, Tryz.results147, go_sem]) rfl ⟨by rw [HE.out]; rfl, rfl⟩
      · have hmI : ¬ most < (x : Int) := hm
        have hx64 : IntKind.i64.wrap (x : Int) = x := IntWalk.i64_in _ (by omega)
        by_cases hl : s.size - n < x
        · have HE : Hid (sRes s most = (0, 0, 6)) := Lib.hid (by unfold sRes; rw [HR.out]; simp only [if_true]; rw [if_neg hm, if_pos hl])
          have hlI : (s.size : Int) - n < x := by omega
          clear hneg hl
          go_wp2_with fail
          exact bodyPost_ret (v := .tuple #[.int .i64 0, .int .i64 0, .int .i64 6]) (by simp [results, Tryz.results147, go_sem]) rfl ⟨by rw [HE.out]; rfl, rfl⟩
        · have HE : Hid (sRes s most = (x, n, 0)) := Lib.hid (by unfold sRes; rw [HR.out]; simp only [if_true]; rw [if_neg hm, if_neg hl])
          have hlI : ¬ (s.size : Int) - n < x := by omega
          clear hneg hl
          go_wp2_with fail
          exact bodyPost_ret (v := .tuple #[.int .i64 x, .int .i64 n, .int .i64 0]) (by simp [results, Tryz.results147, go_sem]) rfl ⟨by rw [HE.out]; rfl, rfl⟩
  · have HE : Hid (sRes s most = (0, 0, 6)) := Lib.hid (by unfold sRes; rw [HR.out]; simp)
    go_wp2_with fail
    exact bodyPost_ret (v := .tuple #[.int .i64 0, .int .i64 0, .int .i64 6]) (by simp [results, Tryz.results147, go_sem]) rfl ⟨by rw [HE.out]; rfl, rfl⟩
  · have HE : Hid (sRes s most = (0, 0, 7)) := Lib.hid (by unfold sRes; rw [HR.out]; simp)
    go_wp2_with fail
    exact bodyPost_ret (v := .tuple #[.int .i64 0, .int .i64 0, .int .i64 7]) (by simp [results, Tryz.results147, go_sem]) rfl ⟨by rw [HE.out]; rfl, rfl⟩

/-- What the closures of Text and Count leave. -/
def SizeDone (w : World) (B : Nat) (n e : Nat) (v : Value) (x : Ending) (w' : World) : Prop :=
  x = .returned (.tuple #[.int .i64 n, .int .i64 e]) ∧ w' = w.setCell ⟨B, 0, none⟩ v
set_option maxHeartbeats 1000000 in
theorem count_closure (w : World) (B0 B1 : Nat) (s : ByteArray) (most : Int) (v : Value) (hs : s.size ≤ 1073741824) (hm1 : -9223372036854775808 ≤ most) (hm2 : most ≤ 9223372036854775807) (h0 : w.heap[B0]? = some (.cells #[.int .i64 most] 3 (0, 0))) (h1 : w.heap[B1]? = some (.cells #[v] 3 (0, 0))) :
    Calls Tryz.prog 146 #[.string s, .pointer (some ⟨B0, 0, none⟩), .pointer (some ⟨B1, 0, none⟩)] w (SizeDone w B1 (sRes s most).2.1 (sRes s most).2.2 (.int .i64 (sRes s most).1)) := by
  have HN := Lib.hid (fun w => size_any s most w hs hm1 hm2)
  obtain ⟨x, n, er, hr, hc⟩ := sRes_cases s most
  rw [hr] at HN ⊢
  have c1 := cell_of_row w B1 0 _ _ _ h1
  have f1 := frozen_of_row w B1 0 _ _ h1
  have c0 := cell_of_row w B0 0 _ _ _ h0
  simp only [List.getElem?_toArray, List.getElem?_cons_zero] at c1 c0
  clear hr hs h0 h1 hc
  go_enter Tryz.func146, Tryz.ntmps146
  go_wp2_with fail
  refine (HN.out _).mono ?_
  rintro e w1 ⟨rfl, rfl⟩
  go_wp2_with fail
  refine bodyPost_ret (v := .tuple #[.int .i64 n, .int .i64 er]) (by simp [results, Tryz.results146, go_sem]) rfl ⟨rfl, rfl⟩
def TextDone (w : World) (B1 : Nat) (s : ByteArray) (x n er : Nat) (e : Ending) (w' : World) : Prop :=
  e = .returned (.tuple #[.int .i64 (n + x : Nat), .int .i64 er]) ∧ (if er = 0 then w' = w.setCell ⟨B1, 0, none⟩ (.string (s.extract n (n + x))) else w' = w)
set_option maxHeartbeats 1000000 in
theorem text_closure (w : World) (B0 B1 : Nat) (s : ByteArray) (most : Int) (hs : s.size ≤ 1073741824) (hm1 : -9223372036854775808 ≤ most) (hm2 : most ≤ 9223372036854775807) (h0 : w.heap[B0]? = some (.cells #[.int .i64 most] 3 (0, 0))) (h1 : w.heap[B1]? = some (.cells #[.string ⟨#[]⟩] 9 (0, 0)))
    (x n er : Nat) (hr : sRes s most = (x, n, er)) :
    Calls Tryz.prog 151 #[.string s, .pointer (some ⟨B0, 0, none⟩), .pointer (some ⟨B1, 0, none⟩)] w (TextDone w B1 s x n er) := by
  have HN := Lib.hid (fun w => size_any s most w hs hm1 hm2)
  have hc : (er = 0 ∧ n + x ≤ s.size) ∨ (x = 0 ∧ n = 0 ∧ (er = 5 ∨ er = 6 ∨ er = 7)) := by
    obtain ⟨x', n', er', hr', hc⟩ := sRes_cases s most
    rw [hr] at hr'; cases hr'; exact hc
  rw [hr] at HN
  have c1 := cell_of_row w B1 0 _ _ _ h1
  have f1 := frozen_of_row w B1 0 _ _ h1
  have c0 := cell_of_row w B0 0 _ _ _ h0
  simp only [List.getElem?_toArray, List.getElem?_cons_zero] at c1 c0
  clear hr
  have hsI : (0 : Int) ≤ s.size ∧ (s.size : Int) ≤ 1073741824 := by omega
  clear hs h0 h1
  rcases hc with ⟨rfl, hn⟩ | ⟨rfl, rfl, he⟩
  · have hnI : (n : Int) + x ≤ s.size ∧ (0 : Int) ≤ n ∧ (0 : Int) ≤ x := by omega
    clear hn
    go_enter Tryz.func151, Tryz.ntmps151
    go_wp2_with fail
    refine (HN.out _).mono ?_
    rintro e w1 ⟨rfl, rfl⟩
    go_wp2_with fail
    refine bodyPost_ret (v := .tuple #[.int .i64 (n + x : Nat), .int .i64 0]) (by simp [results, Tryz.results151, go_sem]) rfl ⟨rfl, rfl⟩
  · rcases he with rfl | rfl | rfl
    all_goals go_enter Tryz.func151, Tryz.ntmps151
    all_goals go_wp2_with fail
    all_goals refine (HN.out _).mono ?_
    all_goals rintro e w1 ⟨rfl, rfl⟩
    all_goals go_wp2_with fail
    all_goals exact bodyPost_ret (by simp [results, Tryz.results151, go_sem]) rfl ⟨rfl, rfl⟩

/-- What Count makes of bytes. -/
def cRes (s : ByteArray) (most : Int) : Nat × ByteArray × Nat :=
  if (sRes s most).2.2 = 0 then ((sRes s most).1, s.extract (sRes s most).2.1 s.size, 0) else (0, s, (sRes s most).2.2)
set_option maxHeartbeats 1000000 in
theorem count_read (w : World) (b : Nat) (s : ByteArray) (most : Int) (hs : s.size ≤ 1073741824) (hm1 : -9223372036854775808 ≤ most) (hm2 : most ≤ 9223372036854775807) (h : RdIs w b s 0) :
    Calls Tryz.prog 137 #[.pointer (some ⟨b, 0, none⟩), .int .i64 most] w fun e w' => e = .returned (.int .i64 (cRes s most).1) ∧ RdStep w w' b (cRes s most).2.1 (cRes s most).2.2 := by
  have HB := Lib.hid h
  have hblt := blk_lt h
  have hb1 := heap_alloc2_old w (.cells #[.int .i64 most] 3 (0, 0)) (.cells #[.int .i64 0] 3 (0, 0))
  have hb2 := heap_alloc2_new w (.cells #[.int .i64 most] 3 (0, 0)) (.cells #[.int .i64 0] 3 (0, 0))
  have hC := count_closure _ w.heap.size (w.heap.size + 1) s most _ hs hm1 hm2 hb1 hb2
  obtain ⟨c0, c1, c2, f0, f1⟩ := h.cells
  have hn1 : b ≠ w.heap.size + 1 := by omega
  obtain ⟨x, n, er, hr, hc⟩ := sRes_cases s most
  have hE : cRes s most = if er = 0 then (x, s.extract n s.size, 0) else (0, s, er) := by unfold cRes; rw [hr]
  rw [hr] at hC
  have HC := Lib.hid hC
  clear hC h hb1 hb2 hr
  go_enter Tryz.func137, Tryz.ntmps137
  go_wp2_with (first | (go_at_call 133; go_in))
  refine HC.out.mono ?_
  rintro e w2 ⟨rfl, rfl⟩
  rcases hc with ⟨rfl, hn⟩ | ⟨rfl, rfl, he⟩
  · rw [if_pos rfl] at hE
    have HE := Lib.hid hE
    have hnI : (0 : Int) ≤ n ∧ (n : Int) ≤ s.size := by omega
    clear hE
    go_wp2_with fail
    refine bodyPost_ret (v := .int .i64 x) (by simp [results, Tryz.results137, go_sem]) rfl ⟨by first | (rw [HE.out]; done) | (rw [HE.out]; rfl), by rw [HE.out]; exact ⟨((HB.out.setS (s.extract n s.size)).keep2 hblt), (((Upd.refl w [b]).setCell (.inl (by simp)) _).alloc _).alloc _⟩⟩
  · rw [if_neg (by omega)] at hE
    rcases he with rfl | rfl | rfl
    · have HE := Lib.hid hE
      clear hE
      go_wp2_with fail
      refine bodyPost_ret (v := .int .i64 0) (by simp [results, Tryz.results137, go_sem]) rfl ⟨by first | (rw [HE.out]; done) | (rw [HE.out]; rfl), by rw [HE.out]; exact ⟨((HB.out.setE 5).keep2 hblt), (((Upd.refl w [b]).setCell (.inl (by simp)) _).alloc _).alloc _⟩⟩
    · have HE := Lib.hid hE
      clear hE
      go_wp2_with fail
      refine bodyPost_ret (v := .int .i64 0) (by simp [results, Tryz.results137, go_sem]) rfl ⟨by first | (rw [HE.out]; done) | (rw [HE.out]; rfl), by rw [HE.out]; exact ⟨((HB.out.setE 6).keep2 hblt), (((Upd.refl w [b]).setCell (.inl (by simp)) _).alloc _).alloc _⟩⟩
    · have HE := Lib.hid hE
      clear hE
      go_wp2_with fail
      refine bodyPost_ret (v := .int .i64 0) (by simp [results, Tryz.results137, go_sem]) rfl ⟨by first | (rw [HE.out]; done) | (rw [HE.out]; rfl), by rw [HE.out]; exact ⟨((HB.out.setE 7).keep2 hblt), (((Upd.refl w [b]).setCell (.inl (by simp)) _).alloc _).alloc _⟩⟩

/-- What Text makes of bytes. -/
def tRes (s : ByteArray) (most : Int) : ByteArray × ByteArray × Nat :=
  if (sRes s most).2.2 = 0 then (s.extract (sRes s most).2.1 ((sRes s most).2.1 + (sRes s most).1), s.extract ((sRes s most).2.1 + (sRes s most).1) s.size, 0) else (⟨#[]⟩, s, (sRes s most).2.2)
set_option maxHeartbeats 1000000 in
theorem text_read (w : World) (b : Nat) (s : ByteArray) (most : Int) (hs : s.size ≤ 1073741824) (hm1 : -9223372036854775808 ≤ most) (hm2 : most ≤ 9223372036854775807) (h : RdIs w b s 0) :
    Calls Tryz.prog 148 #[.pointer (some ⟨b, 0, none⟩), .int .i64 most] w fun e w' => e = .returned (.string (tRes s most).1) ∧ RdStep w w' b (tRes s most).2.1 (tRes s most).2.2 := by
  have HB := Lib.hid h
  have hblt := blk_lt h
  have hb1 := heap_alloc2_old w (.cells #[.int .i64 most] 3 (0, 0)) (.cells #[.string ⟨#[]⟩] 9 (0, 0))
  have hb2 := heap_alloc2_new w (.cells #[.int .i64 most] 3 (0, 0)) (.cells #[.string ⟨#[]⟩] 9 (0, 0))
  obtain ⟨x, n, er, hr, hc⟩ := sRes_cases s most
  have hC := text_closure _ w.heap.size (w.heap.size + 1) s most hs hm1 hm2 hb1 hb2 x n er hr
  obtain ⟨c0, c1, c2, f0, f1⟩ := h.cells
  have hn1 : b ≠ w.heap.size + 1 := by omega
  have hE : tRes s most = if er = 0 then (s.extract n (n + x), s.extract (n + x) s.size, 0) else (⟨#[]⟩, s, er) := by unfold tRes; rw [hr]
  have HC := Lib.hid hC
  clear hC h hb1 hb2 hr
  go_enter Tryz.func148, Tryz.ntmps148
  go_wp2_with (first | (go_at_call 133; go_in))
  refine HC.out.mono ?_
  rintro e w2 ⟨rfl, hw⟩
  rcases hc with ⟨rfl, hn⟩ | ⟨rfl, rfl, he⟩
  · rw [if_pos rfl] at hE hw
    have HE := Lib.hid hE
    have hnI : (0 : Int) ≤ (n + x : Nat) ∧ ((n + x : Nat) : Int) ≤ s.size := by omega
    clear hE
    subst hw
    generalize n + x = m at *
    go_wp2_with fail
    refine bodyPost_ret (v := .string (s.extract n m)) (by simp [results, Tryz.results148, go_sem]) rfl ⟨by first | (rw [HE.out]; done) | (rw [HE.out]; rfl), by rw [HE.out]; exact ⟨((HB.out.setS (s.extract m s.size)).keep2 hblt), (((Upd.refl w [b]).setCell (.inl (by simp)) _).alloc _).alloc _⟩⟩
  · rw [if_neg (by omega)] at hE hw
    subst hw
    rcases he with rfl | rfl | rfl
    · have HE := Lib.hid hE
      clear hE
      go_wp2_with fail
      refine bodyPost_ret (v := .string ⟨#[]⟩) (by simp [results, Tryz.results148, go_sem]) rfl ⟨by first | (rw [HE.out]; done) | (rw [HE.out]; rfl), by rw [HE.out]; exact ⟨((HB.out.setE 5).keep2 hblt), (((Upd.refl w [b]).setCell (.inl (by simp)) _).alloc _).alloc _⟩⟩
    · have HE := Lib.hid hE
      clear hE
      go_wp2_with fail
      refine bodyPost_ret (v := .string ⟨#[]⟩) (by simp [results, Tryz.results148, go_sem]) rfl ⟨by first | (rw [HE.out]; done) | (rw [HE.out]; rfl), by rw [HE.out]; exact ⟨((HB.out.setE 6).keep2 hblt), (((Upd.refl w [b]).setCell (.inl (by simp)) _).alloc _).alloc _⟩⟩
    · have HE := Lib.hid hE
      clear hE
      go_wp2_with fail
      refine bodyPost_ret (v := .string ⟨#[]⟩) (by simp [results, Tryz.results148, go_sem]) rfl ⟨by first | (rw [HE.out]; done) | (rw [HE.out]; rfl), by rw [HE.out]; exact ⟨((HB.out.setE 7).keep2 hblt), (((Upd.refl w [b]).setCell (.inl (by simp)) _).alloc _).alloc _⟩⟩

end Go.Proofs.YtjgnomjjphkfbaaGreat

namespace Go.Proofs.YtjgnomjjphkfbaaGreat
open Go.RowKit

theorem new_any (w : World) (s : ByteArray) :
    Calls Tryz.prog 76 #[.string s] w fun x w' => x = .returned (.pointer (some ⟨w.heap.size, 0, none⟩)) ∧ RdIs w' w.heap.size s 0 ∧ Below w.heap.size w w' ∧ w.heap.size < w'.heap.size := by
  go_enter Tryz.func76, Tryz.ntmps76
  go_wp2_with fail
  go_ret
  exact ⟨rfl, heap_alloc_new w _, ((Own.refl w).alloc _).below, by simp⟩
theorem err_any (w : World) (b : Nat) (s : ByteArray) (e : Nat) (h : RdIs w b s e) :
    Calls Tryz.prog 101 #[.pointer (some ⟨b, 0, none⟩)] w fun x w' => x = .returned (.int .i64 e) ∧ w' = w := by
  obtain ⟨c0, c1, c2, f0, f1⟩ := h.cells
  clear h
  go_enter Tryz.func101, Tryz.ntmps101
  go_wp2_with fail
  go_ret
  exact ⟨rfl, rfl⟩
theorem end_fault (w : World) (b : Nat) (s : ByteArray) (e : Nat) (h : RdIs w b s e) (he : ((e : Int) == 0) = false) :
    Calls Tryz.prog 77 #[.pointer (some ⟨b, 0, none⟩)] w fun x w' => x = .returned (.int .i64 e) ∧ w' = w := by
  have HE := Lib.hid (fun w h => err_any w b s e h)
  have H := Lib.hid h
  clear h
  go_enter Tryz.func77, Tryz.ntmps77
  go_wp2_with fail
  refine (HE.out _ H.out).mono ?_
  rintro x w' ⟨rfl, rfl⟩
  go_wp2_with fail
  refine (HE.out _ H.out).mono ?_
  rintro x w' ⟨rfl, rfl⟩
  go_wp2_with fail
  go_ret
  exact ⟨rfl, rfl⟩
theorem end_ok (w : World) (b : Nat) (h : RdIs w b ⟨#[]⟩ 0) :
    Calls Tryz.prog 77 #[.pointer (some ⟨b, 0, none⟩)] w fun x w' => x = .returned (.int .i64 0) ∧ w' = w := by
  have HE := Lib.hid (fun w h => err_any w b ⟨#[]⟩ 0 h)
  have H := Lib.hid h
  obtain ⟨c0, c1, c2, f0, f1⟩ := h.cells
  clear h
  go_enter Tryz.func77, Tryz.ntmps77
  go_wp2_with fail
  refine (HE.out _ H.out).mono ?_
  rintro x w' ⟨rfl, rfl⟩
  go_wp2_with fail
  refine (HE.out _ H.out).mono ?_
  rintro x w' ⟨rfl, rfl⟩
  go_wp2_with fail
  go_ret
  exact ⟨rfl, rfl⟩
theorem uint_fault (w : World) (b : Nat) (s : ByteArray) (e : Nat) (m : Nat) (h : RdIs w b s e) (he : ((e : Int) != 0) = true) :
    Calls Tryz.prog 103 #[.pointer (some ⟨b, 0, none⟩), .int .u64 m] w fun x w' => x = .returned (.int .u64 0) ∧ Below w.heap.size w w' := by
  obtain ⟨c0, c1, c2, f0, f1⟩ := h.cells
  have hblt := blk_lt h
  have hbl1 : b < w.heap.size + 1 := by omega
  have hbl2 : b < w.heap.size + 1 + 1 := by omega
  clear h
  go_enter Tryz.func103, Tryz.ntmps103
  go_wp2_with (first | (go_at_call 133; go_in))
  exact bodyPost_ret (by simp [results, Tryz.results103, go_sem]) rfl ⟨rfl, (((Own.refl w).alloc _).alloc _).below⟩
theorem bool_fault (w : World) (b : Nat) (s : ByteArray) (e : Nat) (h : RdIs w b s e) (he : ((e : Int) != 0) = true) :
    Calls Tryz.prog 140 #[.pointer (some ⟨b, 0, none⟩)] w fun x w' => x = .returned (.bool false) ∧ Below w.heap.size w w' := by
  obtain ⟨c0, c1, c2, f0, f1⟩ := h.cells
  have hblt := blk_lt h
  have hbl1 : b < w.heap.size + 1 := by omega
  have hbl2 : b < w.heap.size + 1 + 1 := by omega
  clear h
  go_enter Tryz.func140, Tryz.ntmps140
  go_wp2_with (first | (go_at_call 133; go_in))
  exact bodyPost_ret (by simp [results, Tryz.results140, go_sem]) rfl ⟨rfl, ((Own.refl w).alloc _).below⟩
theorem text_fault (w : World) (b : Nat) (s : ByteArray) (e : Nat) (m : Int) (h : RdIs w b s e) (he : ((e : Int) != 0) = true) :
    Calls Tryz.prog 148 #[.pointer (some ⟨b, 0, none⟩), .int .i64 m] w fun x w' => x = .returned (.string ⟨#[]⟩) ∧ Below w.heap.size w w' := by
  obtain ⟨c0, c1, c2, f0, f1⟩ := h.cells
  have hblt := blk_lt h
  have hbl1 : b < w.heap.size + 1 := by omega
  have hbl2 : b < w.heap.size + 1 + 1 := by omega
  clear h
  go_enter Tryz.func148, Tryz.ntmps148
  go_wp2_with (first | (go_at_call 133; go_in))
  exact bodyPost_ret (by simp [results, Tryz.results148, go_sem]) rfl ⟨rfl, (((Own.refl w).alloc _).alloc _).below⟩
theorem count_fault (w : World) (b : Nat) (s : ByteArray) (e : Nat) (m : Int) (h : RdIs w b s e) (he : ((e : Int) != 0) = true) :
    Calls Tryz.prog 137 #[.pointer (some ⟨b, 0, none⟩), .int .i64 m] w fun x w' => x = .returned (.int .i64 0) ∧ Below w.heap.size w w' := by
  obtain ⟨c0, c1, c2, f0, f1⟩ := h.cells
  have hblt := blk_lt h
  have hbl1 : b < w.heap.size + 1 := by omega
  have hbl2 : b < w.heap.size + 1 + 1 := by omega
  clear h
  go_enter Tryz.func137, Tryz.ntmps137
  go_wp2_with (first | (go_at_call 133; go_in))
  exact bodyPost_ret (by simp [results, Tryz.results137, go_sem]) rfl ⟨rfl, (((Own.refl w).alloc _).alloc _).below⟩
end Go.Proofs.YtjgnomjjphkfbaaGreat
