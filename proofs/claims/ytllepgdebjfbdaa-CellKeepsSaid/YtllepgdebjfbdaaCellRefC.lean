/-
  THE WALK of the document's answer for layer 17: comes.
-/
import Derived.Test.YtllepgdebjfbdaaCellRefB
import Derived.Deep.CutBlock
import Derived.Deep.DeepCutAuto
namespace Go.Proofs.Ytllepgdebjfbdaa
open Go.RowKit
attribute [local go_sem ↓ high] appSem_eq

theorem VersAt.one (w : World) (v : Cl.Ver) (t : TypeId) (fr : Nat × Nat) : VersAt (w.alloc (.cells #[.int .u64 v.n, .int .u8 v.st, .string v.t] t fr)) (some ⟨w.heap.size, 0, none⟩) [v] := fun i hi => by
  have : i = 0 := by simp at hi; omega
  subst this
  exact ⟨w.heap.size, 0, rfl, CellsAt.new w (vcells v) t fr⟩
theorem fresh_close {w w3 wz : World} {a : Option Addr} {n cap : Nat} {l : List Cl.Ver} (hs : SliceIs w3 35 3 a n cap (l.map vcells).flatten) (hn : n = l.length) (hnew : ∀ k ∈ blks a, w.heap.size + 2 < k) (hO : Own w.heap.size w w3)
    (hu : Upd w3 wz [w.heap.size + 1, w.heap.size + 2]) : VFresh w wz a cap l := by
  subst hn
  exact ⟨hs.keep fun k hk => hu.keep k (hs.lt k hk) (by have := hnew k hk; simp; omega), fun k hk => by have := hnew k hk; omega, hO.upd hu (by simp)⟩

set_option maxRecDepth 20000 in
set_option maxHeartbeats 2000000 in
theorem rcomes_any (w : World) (c : Cl.Cel) (a : Option Addr) (cap : Nat) (st : Nat) (t : ByteArray) (h : VersAt w a c.l) (hn : c.l.length ≤ 8) (hnil : a = none → cap = 0) (hl : c.last < 18446744073709551615) :
    Calls Try.prog 31 #[.agg #[.int .u64 c.last, .slice a c.l.length cap], .int .u8 st, .string t] w fun e w' => KeptOut w (Cl.comes c st t) e w' := by
  have hfI : IntKind.u64.wrap ((c.last : Int) + 1) = (c.last : Int) + 1 := IntWalk.u64_in _ (by omega)
  have hB := boxes3 w (.cells #[.int .u64 c.last, .slice a c.l.length cap] 25 (0, 0)) (.cells #[.int .u64 0, .slice none 0 0] 25 (0, 0)) (.cells #[.int .u64 ((c.last : Int) + 1), .slice none 0 0] 25 (0, 0))
  obtain ⟨s1, c1, w1, hr1, hs1, hu1, hk1⟩ := vapp _ none 0 0 [] (SliceIs.nil _ _ _) a cap c.l (h.keep hB.own.below) (by omega) hnil
  have hB1 := hB.keep hu1.below
  rw [Nat.zero_add, List.nil_append] at hs1
  rw [Nat.zero_add] at hr1
  have hnew1 : ∀ k ∈ blks s1, w.heap.size + 2 < k := fun k hk => by
    rcases hk1 k hk with h | h
    · simp at h
    · have := hB.lt; omega
  have HS1 := Lib.hid hs1
  have HNEW1 := Lib.hid hnew1
  have HB1 := Lib.hid hB1
  obtain ⟨k0, k1⟩ := cell_cells hB.b0
  obtain ⟨d0, d1⟩ := cell_cells hB1.b2
  have f2 := frozen_of_row w1 (w.heap.size + 2) 1 _ _ hB1.b2
  have l2 := hB1.lt
  have HN := Lib.hid hn
  clear hs1 hu1 hk1 hB1 hnew1 h hn hnil hl hB
  go_enter Try.func31, Try.ntmps31
  go_upto_region 3 with (fail)
  have hb2 : Boxes3 w (w1.setCell ⟨w.heap.size + 1 + 1, 1, none⟩ (.slice s1 c.l.length c1)) (.cells #[.int .u64 c.last, .slice a c.l.length cap] 25 (0, 0)) (.cells #[.int .u64 0, .slice none 0 0] 25 (0, 0)) (.cells #[.int .u64 ((c.last : Int) + 1), .slice s1 c.l.length c1] 25 (0, 0)) :=
    ⟨HB1.out.own.setCell (by simp; omega) _, (Below.heap_setCell _ _ _ _ (by simp; omega)).trans HB1.out.b0, (Below.heap_setCell _ _ _ _ (by simp)).trans HB1.out.b1, setCell_row HB1.out.b2 _, by have := HB1.out.lt; simpa [World.setCell] using this⟩
  have hs2 : SliceIs (w1.setCell ⟨w.heap.size + 1 + 1, 1, none⟩ (.slice s1 c.l.length c1)) 35 3 s1 c.l.length c1 (c.l.map vcells).flatten := HS1.out.keep fun k hk => Below.heap_setCell _ _ _ _ (by have := HNEW1.out k hk; simp; omega)
  have HB2 := Lib.hid hb2
  have HS2 := Lib.hid hs2
  clear hb2 hs2 d0 d1 f2 l2 HB1 HS1 k0 k1 hr1
  generalize w1.setCell ⟨w.heap.size + 1 + 1, 1, none⟩ (.slice s1 c.l.length c1) = W at *
  obtain ⟨s3, c3, w3, hr3, hs3, hu3, hk3⟩ := vapp (W.alloc (.cells #[.int .u64 ((c.last : Int) + 1), .int .u8 st, .string t] 35 (0, 0))) s1 c.l.length c1 _ (HS2.out.alloc _) (some ⟨W.heap.size, 0, none⟩) 1 [⟨c.last + 1, st, t⟩] (VersAt.one W ⟨c.last + 1, st, t⟩ 35 (0, 0)) (by have := HN.out; simp; omega) (by simp)
  simp only [List.length_singleton] at hr3 hs3
  have hB2a := HB2.out.keep ((Own.refl W).alloc (.cells #[.int .u64 ((c.last : Int) + 1), .int .u8 st, .string t] 35 (0, 0))).below
  have hk : ∀ k, k ≤ w.heap.size + 2 → w3.heap[k]? = (W.alloc (.cells #[.int .u64 ((c.last : Int) + 1), .int .u8 st, .string t] 35 (0, 0))).heap[k]? := fun k hk => hu3.keep k (by have := hB2a.lt; omega) (fun hm => by have := HNEW1.out k hm; omega)
  have hB3 : Boxes3 w w3 _ _ _ := ⟨hB2a.own.upd hu3 (fun k hk => by have := HNEW1.out k hk; omega), (hk _ (by omega)).trans hB2a.b0, (hk _ (by omega)).trans hB2a.b1, (hk _ (by omega)).trans hB2a.b2, by have := hB2a.lt; have := hu3.size; omega⟩
  have hf3 : SliceIs w3 35 3 s3 (c.l.length + 1) c3 ((c.l ++ [Cl.Ver.mk (c.last + 1) st t]).map vcells).flatten := by simpa using hs3
  have hnew3 : ∀ k ∈ blks s3, w.heap.size + 2 < k := fun k hm => by
    rcases hk3 k hm with h | h
    · exact HNEW1.out k h
    · have := hB2a.lt; omega
  obtain ⟨g2, off2, rfl⟩ := hf3.there (by omega)
  obtain ⟨d0, d1⟩ := cell_cells HB2.out.b2
  obtain ⟨e0, e1⟩ := cell_cells hB3.b2
  obtain ⟨r0, r1⟩ := cell_cells hB3.b1
  have f1 := frozen_of_row w3 (w.heap.size + 2) 1 _ _ hB3.b2
  have f2 := frozen_of_row w3 (w.heap.size + 1) 0 _ _ hB3.b1
  have f3 := frozen_of_row w3 (w.heap.size + 1) 1 _ _ hB3.b1
  have l2 := HB2.out.lt
  have l3 := hB3.lt
  have l4 : w.heap.size + 1 < w3.heap.size := by omega
  have HF := Lib.hid hf3
  have HNEW3 := Lib.hid hnew3
  have HB3 := Lib.hid hB3
  have HC : Hid (Cl.comes c st t = ⟨c.last + 1, (c.l ++ [Cl.Ver.mk (c.last + 1) st t]).drop (c.l.length + 1 - 8)⟩) := Lib.hid rfl
  clear hk hB3 hf3 hnew3 hu3 hk3 hs3 hB2a
  by_cases h8 : c.l.length = 8
  · have h8I : (8 : Int) < (c.l.length : Int) + 1 := by omega
    have hcap : ¬ c3 = 1 := by have := HF.out.bound.1; omega
    have hcl : (Cl.comes c st t) = ⟨c.last + 1, (c.l ++ [Cl.Ver.mk (c.last + 1) st t]).drop 1⟩ := by rw [HC.out, h8]
    have hlen : (Cl.comes c st t).l.length = c.l.length := by rw [hcl]; simp
    have HLa : Hid (((Cl.comes c st t).last : Int) = (c.last : Int) + 1) := Lib.hid rfl
    have HL := Lib.hid hlen
    have HCL := Lib.hid hcl
    clear hlen hcl h8
    go_wp2_with fail
    refine bodyPost_ret (v := .agg #[.int .u64 ((c.last : Int) + 1), .slice (some ⟨g2, off2 + 3, none⟩) c.l.length (c3 - 1)]) (by simp [results, Try.results31, go_sem, e0, e1, r0, r1, f1, f2, f3, l2, l3, l4]) rfl ⟨some ⟨g2, off2 + 3, none⟩, c3 - 1, by rw [HL.out, HLa.out], ?_⟩
    have hd := HF.out.drop 1 (by omega)
    rw [flat_drop 3 _ (vcells_len _) 1, ← List.map_drop] at hd
    rw [HCL.out]
    refine fresh_close hd (by simp) (by simpa using HNEW3.out) HB3.out.own ?_
    exact ((((Upd.refl _ _).setCell (.inl (by simp)) _).setCell (.inl (by simp)) _).setCell (.inl (by simp)) _).setCell (.inl (by simp)) _
  · have h8I : (c.l.length : Int) + 1 ≤ 8 := by have := HN.out; omega
    have hcl : (Cl.comes c st t) = ⟨c.last + 1, c.l ++ [Cl.Ver.mk (c.last + 1) st t]⟩ := by rw [HC.out, show c.l.length + 1 - 8 = 0 by have := HN.out; omega]; rfl
    have hlen : (Cl.comes c st t).l.length = c.l.length + 1 := by rw [hcl]; simp
    have HLa : Hid (((Cl.comes c st t).last : Int) = (c.last : Int) + 1) := Lib.hid rfl
    have HL := Lib.hid hlen
    have HCL := Lib.hid hcl
    clear hlen hcl h8
    go_wp2_with fail
    refine bodyPost_ret (v := .agg #[.int .u64 ((c.last : Int) + 1), .slice (some ⟨g2, off2, none⟩) (c.l.length + 1) c3]) (by simp [results, Try.results31, go_sem, e0, e1, r0, r1, f1, f2, f3, l2, l3, l4]) rfl ⟨some ⟨g2, off2, none⟩, c3, by rw [HL.out, HLa.out], ?_⟩
    rw [HCL.out]
    refine fresh_close HF.out (by simp) HNEW3.out HB3.out.own ?_
    exact (((Upd.refl _ _).setCell (.inl (by simp)) _).setCell (.inl (by simp)) _).setCell (.inl (by simp)) _

end Go.Proofs.Ytllepgdebjfbdaa
