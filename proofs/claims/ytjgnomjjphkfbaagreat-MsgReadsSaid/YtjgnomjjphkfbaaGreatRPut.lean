/-
  Joined out of the texts MsgPut MsgPut2.
-/
import Derived.Test.YtjgnomjjphkfbaaGreatRMsg
import Derived.Test.YtjgnomjjphkfbaaGreatRWRef
import Derived.Test.YtjgnomjjphkfbaaGreatRBase
import Derived.Lib.AppendStr
import Derived.Deep.RegionHeld3
import Derived.Test.YtjgnomjjphkfbaaGreatRGo
namespace Go.Proofs.YtjgnomjjphkfbaaGreat
open Go.RowKit

/-- What a call that writes leaves: all that was there ahead of block B, and every block but rows of bytes and its own kind. -/
structure FrP (B : Nat) (w w' : World) : Prop where
  os : w'.os = w.os
  tape : w'.tape = w.tape
  output : w'.output = w.output
  size : w.heap.size ≤ w'.heap.size
  low : ∀ i, i < B → i < w.heap.size → w'.heap[i]? = w.heap[i]?
  typ : ∀ i, i < w.heap.size → (∀ cs fr, w.heap[i]? ≠ some (.cells cs 5 fr)) → (∀ cs fr, w.heap[i]? ≠ some (.cells cs 78 fr)) → w'.heap[i]? = w.heap[i]?
theorem FrP.refl (B : Nat) (w : World) : FrP B w w := ⟨rfl, rfl, rfl, Nat.le_refl _, fun _ _ _ => rfl, fun _ _ _ _ => rfl⟩
theorem FrP.trans {B : Nat} {w w1 w2 : World} (h : FrP B w w1) (k : FrP B w1 w2) : FrP B w w2 :=
  ⟨k.os.trans h.os, k.tape.trans h.tape, k.output.trans h.output, Nat.le_trans h.size k.size,
   fun i hi hs => (k.low i hi (Nat.lt_of_lt_of_le hs h.size)).trans (h.low i hi hs),
   fun i hs h1 h2 => by
    have e := h.typ i hs h1 h2
    exact (k.typ i (Nat.lt_of_lt_of_le hs h.size) (by rw [e]; exact h1) (by rw [e]; exact h2)).trans e⟩
theorem FrP.of_below (B : Nat) {w w1 : World} (h : Below w.heap.size w w1) : FrP B w w1 := ⟨h.os, h.tape, h.output, h.size, fun i _ hs => h.block i hs, fun i hs _ _ => h.block i hs⟩
theorem FrP.drew {B : Nat} {w w1 : World} (h : FrP B w w1) : FrP B w w1.drew := ⟨h.os, h.tape, h.output, h.size, h.low, h.typ⟩
theorem FrP.alloc {B : Nat} {w w1 : World} (h : FrP B w w1) (o : Obj) : FrP B w (w1.alloc o) := h.trans (FrP.of_below B ((Own.refl w1).alloc o).below)
/-- A block of another type stays. -/
theorem FrP.keep {B : Nat} {w w1 : World} (h : FrP B w w1) {i : Nat} {cs : Array Value} {t : TypeId} {fr : Nat × Nat} (hb : w.heap[i]? = some (.cells cs t fr)) (h1 : t ≠ 5) (h2 : t ≠ 78) : w1.heap[i]? = some (.cells cs t fr) := by
  rw [h.typ i (blk_lt hb) (fun cs' fr' e => by rw [hb] at e; cases e; exact h1 rfl) (fun cs' fr' e => by rw [hb] at e; cases e; exact h2 rfl)]
  exact hb
theorem FrP.below {B : Nat} {w w1 : World} (h : FrP B w w1) (hB : B ≤ w.heap.size) : Below B w w1 := ⟨h.os, h.tape, h.output, h.size, fun i hi => h.low i hi (by omega)⟩

/-- The writer at block k: its bytes; whether any may not be. -/
structure PtAt (B k : Nat) (bs : List UInt8) (bad : Bool) (w : World) : Prop where
  lo : B ≤ k
  hi : B ≤ w.heap.size
  ex : ∃ v, w.heap[k]? = some (.cells #[v, .bool bad] 78 (0, 0)) ∧ w.ownsRow B 5 1 v (Lib.byteCells bs).length (Lib.byteCells bs)
theorem own_typeP {w : World} {B : Nat} {e : TypeId} {size : Nat} {v : Value} {n : Nat} {xs : List Value} (h : w.ownsRow B e size v n xs) {i : Nat} (hi : v.ownBlock = some i) : B ≤ i ∧ ∃ cs fr, w.heap[i]? = some (.cells cs e fr) := by
  rcases h.2 with ⟨rfl, _⟩ | ⟨g, cap, cur, rfl, hb, hg, _⟩
  · cases hi
  · simp only [Value.ownBlock, Option.some.injEq] at hi
    subst hi
    exact ⟨hb, cur, _, hg⟩
theorem own_keepP {w w' : World} {B : Nat} {e : TypeId} {size : Nat} {v : Value} {n : Nat} {xs : List Value} (ho : w.ownsRow B e size v n xs) (hkeep : ∀ i, v.ownBlock = some i → w'.heap[i]? = w.heap[i]?) : w'.ownsRow B e size v n xs := by
  refine ⟨ho.1, ?_⟩
  rcases ho.2 with h4 | ⟨g, cap, cur, e1, e2, e3, e4⟩
  · exact .inl h4
  · exact .inr ⟨g, cap, cur, e1, e2, (hkeep g (by rw [e1]; rfl)).trans e3, e4⟩
theorem PtAt.keep {B k : Nat} {bs : List UInt8} {bad : Bool} {w w' : World} (h : PtAt B k bs bad w) (hb : Below w.heap.size w w') : PtAt B k bs bad w' := by
  obtain ⟨v, h1, h3⟩ := h.ex
  refine ⟨h.lo, Nat.le_trans h.hi hb.size, v, (hb.block k (blk_lt h1)).trans h1, own_keepP h3 fun i hi => ?_⟩
  obtain ⟨_, cs, fr, h4⟩ := own_typeP h3 hi
  exact hb.block i (blk_lt h4)
theorem PtAt.set {B k : Nat} {bs : List UInt8} {bad : Bool} {w w' : World} {v : Value} (lo : B ≤ k) (hi : B ≤ w'.heap.size) (hk : w'.heap[k]? = some (.cells #[v, .bool bad] 78 (0, 0)))
    (ho : w.ownsRow B 5 1 v (Lib.byteCells bs).length (Lib.byteCells bs)) (hkeep : ∀ i, v.ownBlock = some i → w'.heap[i]? = w.heap[i]?) : PtAt B k bs bad w' :=
  ⟨lo, hi, v, hk, own_keepP ho hkeep⟩
/-- A cell of the writer's block is stored. -/
theorem FrP.cell {B k : Nat} {w w1 : World} (h : FrP B w w1) {cs : Array Value} {fr : Nat × Nat} (hk : w.heap[k]? = some (.cells cs 78 fr)) (hB : B ≤ k) (o : Nat) (u : Value) : FrP B w (w1.setCell ⟨k, o, none⟩ u) :=
  ⟨h.os, h.tape, h.output, by have := h.size; simpa [World.setCell] using this,
   fun i hi hs => by
    rw [heap_setCell_other _ _ _ _ (by have : i ≠ k := by omega
                                       exact this)]
    exact h.low i hi hs,
   fun i hs h1 h2 => by
    rw [heap_setCell_other _ _ _ _ (by have : i ≠ k := fun e => h2 _ _ (by rw [e]; exact hk)
                                       exact this)]
    exact h.typ i hs h1 h2⟩
theorem strCells_bytesP (t : ByteArray) : Lib.strCells t = Lib.byteCells (L t) := rfl
/-- 'p.b = append(p.b, t...)': what is there behind it. -/
theorem put_push {B k : Nat} {bs : List UInt8} {bad : Bool} {w : World} (h : PtAt B k bs bad w) (t : ByteArray) (hlen : bs.length + t.size ≤ 140737488355328) :
    ∃ v v' w2, (∃ a n c, v' = .slice a n c) ∧ w.heap[k]? = some (.cells #[v, .bool bad] 78 (0, 0)) ∧ (appSem #[76, 9] 76 #[v, .string t]).run Tryz.prog w = .ok v' w2 ∧ w2.heap[k]? = some (.cells #[v, .bool bad] 78 (0, 0)) ∧
      PtAt B k (bs ++ L t) bad (w2.setCell ⟨k, 0, none⟩ v') ∧ FrP B w (w2.setCell ⟨k, 0, none⟩ v') := by
  obtain ⟨i0, hi, hz0, hz1, hz2⟩ := info_parts byteInfo
  obtain ⟨v, hk, ho⟩ := h.ex
  obtain ⟨v', w2, hr, ho2, hgrow, _⟩ := Lib.run_append_own_string (P := Tryz.prog) (w := w) B 76 9 76 5 i0 Tryz.underlying76 Tryz.underlying9 hi hz0 hz1 hz2 v (Lib.byteCells bs).length (Lib.byteCells bs) ho t
    (by rw [Lib.byteCells_length]; unfold maxLen; omega) (by rw [Lib.byteCells_length]; omega) h.hi
  change (appSem _ _ _).run _ _ = _ at hr
  have hne : some k ≠ v.ownBlock := fun e => by
    obtain ⟨_, cs, fr, h2⟩ := own_typeP ho e.symm
    rw [hk] at h2; cases h2
  have hk2 : w2.heap[k]? = some (.cells #[v, .bool bad] 78 (0, 0)) := (hgrow.block k (blk_lt hk) hne).trans hk
  have hf2 : FrP B w w2 := ⟨hgrow.os, hgrow.tape, hgrow.output, hgrow.size,
    fun i hi hs => hgrow.block i hs (fun e => by have := (own_typeP ho e.symm).1; omega),
    fun i hs h1 h2 => hgrow.block i hs (fun e => by obtain ⟨_, cs, fr, h3⟩ := own_typeP ho e.symm; exact h1 cs fr h3)⟩
  refine ⟨v, v', w2, (by obtain ⟨a', c', e, _⟩ := SliceIs.of_own ho2; exact ⟨_, _, _, e⟩), hk, hr, hk2, PtAt.set h.lo ?_ (by rw [heap_set _ hk2]; rfl) (w := w2) ?_ ?_, hf2.cell hk h.lo 0 v'⟩
  · have := hgrow.size
    have := h.hi
    simp [World.setCell]; omega
  · rw [strCells_bytesP] at ho2
    have e : Lib.byteCells (bs ++ L t) = Lib.byteCells bs ++ Lib.byteCells (L t) := by simp [Lib.byteCells]
    have e2 : (Lib.byteCells bs ++ Lib.byteCells (L t)).length = (Lib.byteCells bs).length + t.size := by simp [Lib.byteCells_length]
    rw [e, e2]
    exact ho2
  · intro i hi
    obtain ⟨_, cs, fr, h4⟩ := own_typeP ho2 hi
    rw [heap_setCell_other _ _ _ _ (by
      have : i ≠ k := fun e => by rw [e, hk2] at h4; cases h4
      exact this)]
/-- The mark is stored. -/
theorem PtAt.mark {B k : Nat} {bs : List UInt8} {bad : Bool} {w : World} (h : PtAt B k bs bad w) (q : Bool) : PtAt B k bs q (w.setCell ⟨k, 1, none⟩ (.bool q)) ∧ FrP B w (w.setCell ⟨k, 1, none⟩ (.bool q)) := by
  obtain ⟨v, hk, ho⟩ := h.ex
  refine ⟨PtAt.set h.lo (by simp [World.setCell]; exact h.hi) (by rw [heap_set _ hk]; rfl) ho fun i hi => ?_, (FrP.refl B w).cell hk h.lo _ _⟩
  obtain ⟨_, cs, fr, h4⟩ := own_typeP ho hi
  rw [heap_setCell_other _ _ _ _ (by
    have : i ≠ k := fun e => by rw [e, hk] at h4; cases h4
    exact this)]

section
variable {P : Program} {w : World} {ops : Array Oper} {o : Oper} {a : Act} {Q : Exit → Act → World → Prop}
/-- An append whose outcome is known, at an operation of a region that draws its order. -/
theorem step_append_run {K : Act → World → Prop} {E : Prop} (hgd : o.guard = none) (s x : Operand) (t u : TypeId)
    (ho : o.op = .call { callee := .builtin .append, args := #[s, x], argTypes := #[t, u] }) (hty : o.type = t) (vs vx : Value) (hs : a.eval s = vs) (hx : a.eval x = vx)
    (v' : Value) (w2 : World) (hr : (appSem #[t, u] t #[vs, vx]).run P w = .ok v' w2) (h : K (a.put o.dst v') w2) :
    if Region.wanted o (yielded ops a.tmps) = true then Oper.wp P o a w K Q else E := by
  have hw : Region.wanted o (yielded ops a.tmps) = true := by simp [Region.wanted, hgd]
  rw [if_pos hw]
  change (Builtin.append_ _ _ _).run P w = _ at hr
  unfold Oper.wp execOp
  simp only [ho, hty, resolve, invoke, builtin, Sem.run_bind, Sem.run_pure, Result.andThen_ok, List.map_toArray, List.map_cons, List.map_nil, hs, hx, hr]
  exact h
end

set_option maxRecDepth 20000 in
set_option maxHeartbeats 4000000 in
theorem p_num (B k : Nat) (bs : List UInt8) (bad : Bool) (x most : Nat) (w : World) (h : PtAt B k bs bad w) (hx : x < 18446744073709551616) (hm : most < 18446744073709551616) (hlen : bs.length + (Wr.uv x).length ≤ 2147483648) :
    Calls Tryz.prog 22 #[.pointer (some ⟨k, 0, none⟩), .int .u64 x, .int .u64 most] w fun e w' => e = .returned (.tuple #[]) ∧ PtAt B k (bs ++ Wr.uv x) (bad || !(Mg.num most).fit x) w' ∧ FrP B w w' := by
  have HH := Lib.hid h
  obtain ⟨v, hk, ho⟩ := h.ex
  have d1 : w.cell? ⟨k, 1, none⟩ = some (.bool bad) := by rw [cell_of_row _ _ _ _ _ _ hk]; rfl
  have e1 : w.frozen? ⟨k, 1, none⟩ = false := frozen_of_row w k 1 _ _ hk
  have hklt := blk_lt hk
  have HLEN := Lib.hid hlen
  have HX := Lib.hid hx
  have hxI : (0 : Int) ≤ x ∧ (x : Int) < 18446744073709551616 := by omega
  have hmI : (0 : Int) ≤ most ∧ (most : Int) < 18446744073709551616 := by omega
  clear hx hm
  clear hlen hk ho h
  obtain ⟨q, hq⟩ : ∃ q, q = (bad || !(Mg.num most).fit x) := ⟨_, rfl⟩
  rw [← hq]
  have HQ := Lib.hid hq
  have HM := Lib.hid (HH.out.mark q)
  clear hq
  cases bad with
  | true =>
    have hqe : q = true := by rw [HQ.out]; first | (simp; done) | (simp [Mg.num, Mg.text]; omega)
    subst hqe
    go_enter Tryz.func22, Tryz.ntmps22
    go_upto_region 1 with (fail)
    obtain ⟨w1, hw1⟩ : ∃ y, y = w.setCell ⟨k, 1, none⟩ (.bool true) := ⟨_, rfl⟩
    have HM1 : Hid (PtAt B k bs true w1 ∧ FrP B w w1) := Lib.hid (by rw [hw1]; exact HM.out)
    rw [← hw1]
    clear hw1 d1 e1 hklt
    have hp0 := HM1.out.1.keep (Own.refl w1).drew.below
    obtain ⟨v0, hk0, ho0⟩ := hp0.ex
    have c0 : w1.drew.cell? ⟨k, 0, none⟩ = some v0 := by rw [cell_of_row _ _ _ _ _ _ hk0]; rfl
    have HP0 := Lib.hid hp0
    have HK0 := Lib.hid hk0
    have HCL := Lib.hid (rUint_any w1.drew x HX.out)
    clear hp0 hk0 ho0
    go_region_law (first
      | (refine step_append_run (by rfl) (.tmp 22) (.tmp 24) 76 9 (by rfl) (by rfl) _ _ (by rfl) (by rfl) _ _ hr ?_)
      | (go_simp
         go_at_call 54
         (with_reducible refine HCL.out.mono ?_)
         rintro e w2 ⟨rfl, hb2⟩
         have hp2 := HP0.out.keep hb2
         have hk2 := (hb2.block k (blk_lt HK0.out)).trans HK0.out
         obtain ⟨v1, v', w3, ⟨a', n', c', rfl⟩, hkk, hr, hk3, hpt, hfr⟩ := put_push hp2 (S (Wr.uv x)) (by have := HLEN.out; rw [S_size]; omega)
         rw [hk2] at hkk
         have hv1 : v0 = v1 := by cases hkk; rfl
         subst hv1
         have c0' : w2.cell? ⟨k, 0, none⟩ = some v0 := by rw [cell_of_row _ _ _ _ _ _ hk2]; rfl
         have d2 : w3.cell? ⟨k, 0, none⟩ = some v0 := by rw [cell_of_row _ _ _ _ _ _ hk3]; rfl
         have d3 : w3.frozen? ⟨k, 0, none⟩ = false := frozen_of_row w3 k 0 _ _ hk3
         have d4 := blk_lt hk3
         have HPT := Lib.hid hpt
         have HFR := Lib.hid (HM1.out.2.trans ((FrP.refl B w1).drew.trans ((FrP.of_below B hb2).trans hfr)))
         clear hp2 hkk hpt hfr hk2 hk3 hb2)
      | fail)
    all_goals
      go_wp2_with fail
      exact bodyPost_end (v := .tuple #[]) (by simp [results, Tryz.results22, go_sem]) rfl ⟨rfl, HPT.out, HFR.out⟩
  | false =>
    by_cases hgt : (most : Int) < x
    · have hqe : q = true := by rw [HQ.out]; first | (simp; done) | (simp [Mg.num]; omega)
      subst hqe
      go_enter Tryz.func22, Tryz.ntmps22
      go_upto_region 1 with (fail)
      obtain ⟨w1, hw1⟩ : ∃ y, y = w.setCell ⟨k, 1, none⟩ (.bool true) := ⟨_, rfl⟩
      have HM1 : Hid (PtAt B k bs true w1 ∧ FrP B w w1) := Lib.hid (by rw [hw1]; exact HM.out)
      rw [← hw1]
      clear hw1 d1 e1 hklt
      have hp0 := HM1.out.1.keep (Own.refl w1).drew.below
      obtain ⟨v0, hk0, ho0⟩ := hp0.ex
      have c0 : w1.drew.cell? ⟨k, 0, none⟩ = some v0 := by rw [cell_of_row _ _ _ _ _ _ hk0]; rfl
      have HP0 := Lib.hid hp0
      have HK0 := Lib.hid hk0
      have HCL := Lib.hid (rUint_any w1.drew x HX.out)
      clear hp0 hk0 ho0
      go_region_law (first
        | (refine step_append_run (by rfl) (.tmp 22) (.tmp 24) 76 9 (by rfl) (by rfl) _ _ (by rfl) (by rfl) _ _ hr ?_)
        | (go_simp
           go_at_call 54
           (with_reducible refine HCL.out.mono ?_)
           rintro e w2 ⟨rfl, hb2⟩
           have hp2 := HP0.out.keep hb2
           have hk2 := (hb2.block k (blk_lt HK0.out)).trans HK0.out
           obtain ⟨v1, v', w3, ⟨a', n', c', rfl⟩, hkk, hr, hk3, hpt, hfr⟩ := put_push hp2 (S (Wr.uv x)) (by have := HLEN.out; rw [S_size]; omega)
           rw [hk2] at hkk
           have hv1 : v0 = v1 := by cases hkk; rfl
           subst hv1
           have c0' : w2.cell? ⟨k, 0, none⟩ = some v0 := by rw [cell_of_row _ _ _ _ _ _ hk2]; rfl
           have d2 : w3.cell? ⟨k, 0, none⟩ = some v0 := by rw [cell_of_row _ _ _ _ _ _ hk3]; rfl
           have d3 : w3.frozen? ⟨k, 0, none⟩ = false := frozen_of_row w3 k 0 _ _ hk3
           have d4 := blk_lt hk3
           have HPT := Lib.hid hpt
           have HFR := Lib.hid (HM1.out.2.trans ((FrP.refl B w1).drew.trans ((FrP.of_below B hb2).trans hfr)))
           clear hp2 hkk hpt hfr hk2 hk3 hb2)
        | fail)
      all_goals
        go_wp2_with fail
        exact bodyPost_end (v := .tuple #[]) (by simp [results, Tryz.results22, go_sem]) rfl ⟨rfl, HPT.out, HFR.out⟩
    · have hqe : q = false := by rw [HQ.out]; first | (simp; done) | (simp [Mg.num]; omega)
      subst hqe
      go_enter Tryz.func22, Tryz.ntmps22
      go_upto_region 1 with (fail)
      obtain ⟨w1, hw1⟩ : ∃ y, y = w.setCell ⟨k, 1, none⟩ (.bool false) := ⟨_, rfl⟩
      have HM1 : Hid (PtAt B k bs false w1 ∧ FrP B w w1) := Lib.hid (by rw [hw1]; exact HM.out)
      rw [← hw1]
      clear hw1 d1 e1 hklt
      have hp0 := HM1.out.1.keep (Own.refl w1).drew.below
      obtain ⟨v0, hk0, ho0⟩ := hp0.ex
      have c0 : w1.drew.cell? ⟨k, 0, none⟩ = some v0 := by rw [cell_of_row _ _ _ _ _ _ hk0]; rfl
      have HP0 := Lib.hid hp0
      have HK0 := Lib.hid hk0
      have HCL := Lib.hid (rUint_any w1.drew x HX.out)
      clear hp0 hk0 ho0
      go_region_law (first
        | (refine step_append_run (by rfl) (.tmp 22) (.tmp 24) 76 9 (by rfl) (by rfl) _ _ (by rfl) (by rfl) _ _ hr ?_)
        | (go_simp
           go_at_call 54
           (with_reducible refine HCL.out.mono ?_)
           rintro e w2 ⟨rfl, hb2⟩
           have hp2 := HP0.out.keep hb2
           have hk2 := (hb2.block k (blk_lt HK0.out)).trans HK0.out
           obtain ⟨v1, v', w3, ⟨a', n', c', rfl⟩, hkk, hr, hk3, hpt, hfr⟩ := put_push hp2 (S (Wr.uv x)) (by have := HLEN.out; rw [S_size]; omega)
           rw [hk2] at hkk
           have hv1 : v0 = v1 := by cases hkk; rfl
           subst hv1
           have c0' : w2.cell? ⟨k, 0, none⟩ = some v0 := by rw [cell_of_row _ _ _ _ _ _ hk2]; rfl
           have d2 : w3.cell? ⟨k, 0, none⟩ = some v0 := by rw [cell_of_row _ _ _ _ _ _ hk3]; rfl
           have d3 : w3.frozen? ⟨k, 0, none⟩ = false := frozen_of_row w3 k 0 _ _ hk3
           have d4 := blk_lt hk3
           have HPT := Lib.hid hpt
           have HFR := Lib.hid (HM1.out.2.trans ((FrP.refl B w1).drew.trans ((FrP.of_below B hb2).trans hfr)))
           clear hp2 hkk hpt hfr hk2 hk3 hb2)
        | fail)
      all_goals
        go_wp2_with fail
        exact bodyPost_end (v := .tuple #[]) (by simp [results, Tryz.results22, go_sem]) rfl ⟨rfl, HPT.out, HFR.out⟩

set_option maxRecDepth 20000 in
set_option maxHeartbeats 4000000 in
theorem p_text (B k : Nat) (bs : List UInt8) (bad : Bool) (t : ByteArray) (most : Nat) (w : World) (h : PtAt B k bs bad w) (ht : t.size ≤ 1073741824) (hm : most < 9223372036854775808) (hlen : bs.length + (Wr.txt (L t)).length ≤ 2147483648) :
    Calls Tryz.prog 93 #[.pointer (some ⟨k, 0, none⟩), .string t, .int .i64 most] w fun e w' => e = .returned (.tuple #[]) ∧ PtAt B k (bs ++ Wr.txt (L t)) (bad || !(Mg.text most).fit t) w' ∧ FrP B w w' := by
  have HH := Lib.hid h
  obtain ⟨v, hk, ho⟩ := h.ex
  have d1 : w.cell? ⟨k, 1, none⟩ = some (.bool bad) := by rw [cell_of_row _ _ _ _ _ _ hk]; rfl
  have e1 : w.frozen? ⟨k, 1, none⟩ = false := frozen_of_row w k 1 _ _ hk
  have hklt := blk_lt hk
  have HLEN := Lib.hid hlen
  have HX := Lib.hid ht
  have hxI : (0 : Int) ≤ t.size ∧ (t.size : Int) ≤ 1073741824 := by omega
  have hmI : (0 : Int) ≤ most ∧ (most : Int) < 9223372036854775808 := by omega
  clear ht hm
  clear hlen hk ho h
  obtain ⟨q, hq⟩ : ∃ q, q = (bad || !(Mg.text most).fit t) := ⟨_, rfl⟩
  rw [← hq]
  have HQ := Lib.hid hq
  have HM := Lib.hid (HH.out.mark q)
  clear hq
  cases bad with
  | true =>
    have hqe : q = true := by rw [HQ.out]; first | (simp; done) | (simp [Mg.num, Mg.text]; omega)
    subst hqe
    go_enter Tryz.func93, Tryz.ntmps93
    go_upto_region 1 with (fail)
    obtain ⟨w1, hw1⟩ : ∃ y, y = w.setCell ⟨k, 1, none⟩ (.bool true) := ⟨_, rfl⟩
    have HM1 : Hid (PtAt B k bs true w1 ∧ FrP B w w1) := Lib.hid (by rw [hw1]; exact HM.out)
    rw [← hw1]
    clear hw1 d1 e1 hklt
    have hp0 := HM1.out.1.keep (Own.refl w1).drew.below
    obtain ⟨v0, hk0, ho0⟩ := hp0.ex
    have c0 : w1.drew.cell? ⟨k, 0, none⟩ = some v0 := by rw [cell_of_row _ _ _ _ _ _ hk0]; rfl
    have HP0 := Lib.hid hp0
    have HK0 := Lib.hid hk0
    have HCL := Lib.hid (rText_any w1.drew t HX.out)
    clear hp0 hk0 ho0
    go_region_law (first
      | (refine step_append_run (by rfl) (.tmp 23) (.tmp 25) 76 9 (by rfl) (by rfl) _ _ (by rfl) (by rfl) _ _ hr ?_)
      | (go_simp
         go_at_call 127
         (with_reducible refine HCL.out.mono ?_)
         rintro e w2 ⟨rfl, hb2⟩
         have hp2 := HP0.out.keep hb2
         have hk2 := (hb2.block k (blk_lt HK0.out)).trans HK0.out
         obtain ⟨v1, v', w3, ⟨a', n', c', rfl⟩, hkk, hr, hk3, hpt, hfr⟩ := put_push hp2 (S (Wr.txt (L t))) (by have := HLEN.out; rw [S_size]; omega)
         rw [hk2] at hkk
         have hv1 : v0 = v1 := by cases hkk; rfl
         subst hv1
         have c0' : w2.cell? ⟨k, 0, none⟩ = some v0 := by rw [cell_of_row _ _ _ _ _ _ hk2]; rfl
         have d2 : w3.cell? ⟨k, 0, none⟩ = some v0 := by rw [cell_of_row _ _ _ _ _ _ hk3]; rfl
         have d3 : w3.frozen? ⟨k, 0, none⟩ = false := frozen_of_row w3 k 0 _ _ hk3
         have d4 := blk_lt hk3
         have HPT := Lib.hid hpt
         have HFR := Lib.hid (HM1.out.2.trans ((FrP.refl B w1).drew.trans ((FrP.of_below B hb2).trans hfr)))
         clear hp2 hkk hpt hfr hk2 hk3 hb2)
      | fail)
    all_goals
      go_wp2_with fail
      exact bodyPost_end (v := .tuple #[]) (by simp [results, Tryz.results93, go_sem]) rfl ⟨rfl, HPT.out, HFR.out⟩
  | false =>
    by_cases hgt : (most : Int) < t.size
    · have hqe : q = true := by rw [HQ.out]; first | (simp; done) | (simp [Mg.num, Mg.text]; omega)
      subst hqe
      go_enter Tryz.func93, Tryz.ntmps93
      go_upto_region 1 with (fail)
      obtain ⟨w1, hw1⟩ : ∃ y, y = w.setCell ⟨k, 1, none⟩ (.bool true) := ⟨_, rfl⟩
      have HM1 : Hid (PtAt B k bs true w1 ∧ FrP B w w1) := Lib.hid (by rw [hw1]; exact HM.out)
      rw [← hw1]
      clear hw1 d1 e1 hklt
      have hp0 := HM1.out.1.keep (Own.refl w1).drew.below
      obtain ⟨v0, hk0, ho0⟩ := hp0.ex
      have c0 : w1.drew.cell? ⟨k, 0, none⟩ = some v0 := by rw [cell_of_row _ _ _ _ _ _ hk0]; rfl
      have HP0 := Lib.hid hp0
      have HK0 := Lib.hid hk0
      have HCL := Lib.hid (rText_any w1.drew t HX.out)
      clear hp0 hk0 ho0
      go_region_law (first
        | (refine step_append_run (by rfl) (.tmp 23) (.tmp 25) 76 9 (by rfl) (by rfl) _ _ (by rfl) (by rfl) _ _ hr ?_)
        | (go_simp
           go_at_call 127
           (with_reducible refine HCL.out.mono ?_)
           rintro e w2 ⟨rfl, hb2⟩
           have hp2 := HP0.out.keep hb2
           have hk2 := (hb2.block k (blk_lt HK0.out)).trans HK0.out
           obtain ⟨v1, v', w3, ⟨a', n', c', rfl⟩, hkk, hr, hk3, hpt, hfr⟩ := put_push hp2 (S (Wr.txt (L t))) (by have := HLEN.out; rw [S_size]; omega)
           rw [hk2] at hkk
           have hv1 : v0 = v1 := by cases hkk; rfl
           subst hv1
           have c0' : w2.cell? ⟨k, 0, none⟩ = some v0 := by rw [cell_of_row _ _ _ _ _ _ hk2]; rfl
           have d2 : w3.cell? ⟨k, 0, none⟩ = some v0 := by rw [cell_of_row _ _ _ _ _ _ hk3]; rfl
           have d3 : w3.frozen? ⟨k, 0, none⟩ = false := frozen_of_row w3 k 0 _ _ hk3
           have d4 := blk_lt hk3
           have HPT := Lib.hid hpt
           have HFR := Lib.hid (HM1.out.2.trans ((FrP.refl B w1).drew.trans ((FrP.of_below B hb2).trans hfr)))
           clear hp2 hkk hpt hfr hk2 hk3 hb2)
        | fail)
      all_goals
        go_wp2_with fail
        exact bodyPost_end (v := .tuple #[]) (by simp [results, Tryz.results93, go_sem]) rfl ⟨rfl, HPT.out, HFR.out⟩
    · have hqe : q = false := by rw [HQ.out]; first | (simp; done) | (simp [Mg.num, Mg.text]; omega)
      subst hqe
      go_enter Tryz.func93, Tryz.ntmps93
      go_upto_region 1 with (fail)
      obtain ⟨w1, hw1⟩ : ∃ y, y = w.setCell ⟨k, 1, none⟩ (.bool false) := ⟨_, rfl⟩
      have HM1 : Hid (PtAt B k bs false w1 ∧ FrP B w w1) := Lib.hid (by rw [hw1]; exact HM.out)
      rw [← hw1]
      clear hw1 d1 e1 hklt
      have hp0 := HM1.out.1.keep (Own.refl w1).drew.below
      obtain ⟨v0, hk0, ho0⟩ := hp0.ex
      have c0 : w1.drew.cell? ⟨k, 0, none⟩ = some v0 := by rw [cell_of_row _ _ _ _ _ _ hk0]; rfl
      have HP0 := Lib.hid hp0
      have HK0 := Lib.hid hk0
      have HCL := Lib.hid (rText_any w1.drew t HX.out)
      clear hp0 hk0 ho0
      go_region_law (first
        | (refine step_append_run (by rfl) (.tmp 23) (.tmp 25) 76 9 (by rfl) (by rfl) _ _ (by rfl) (by rfl) _ _ hr ?_)
        | (go_simp
           go_at_call 127
           (with_reducible refine HCL.out.mono ?_)
           rintro e w2 ⟨rfl, hb2⟩
           have hp2 := HP0.out.keep hb2
           have hk2 := (hb2.block k (blk_lt HK0.out)).trans HK0.out
           obtain ⟨v1, v', w3, ⟨a', n', c', rfl⟩, hkk, hr, hk3, hpt, hfr⟩ := put_push hp2 (S (Wr.txt (L t))) (by have := HLEN.out; rw [S_size]; omega)
           rw [hk2] at hkk
           have hv1 : v0 = v1 := by cases hkk; rfl
           subst hv1
           have c0' : w2.cell? ⟨k, 0, none⟩ = some v0 := by rw [cell_of_row _ _ _ _ _ _ hk2]; rfl
           have d2 : w3.cell? ⟨k, 0, none⟩ = some v0 := by rw [cell_of_row _ _ _ _ _ _ hk3]; rfl
           have d3 : w3.frozen? ⟨k, 0, none⟩ = false := frozen_of_row w3 k 0 _ _ hk3
           have d4 := blk_lt hk3
           have HPT := Lib.hid hpt
           have HFR := Lib.hid (HM1.out.2.trans ((FrP.refl B w1).drew.trans ((FrP.of_below B hb2).trans hfr)))
           clear hp2 hkk hpt hfr hk2 hk3 hb2)
        | fail)
      all_goals
        go_wp2_with fail
        exact bodyPost_end (v := .tuple #[]) (by simp [results, Tryz.results93, go_sem]) rfl ⟨rfl, HPT.out, HFR.out⟩

end Go.Proofs.YtjgnomjjphkfbaaGreat

namespace Go.Proofs.YtjgnomjjphkfbaaGreat
open Go.RowKit

namespace Mg
/-- What was written: the thing's bytes where it is fit, and never more than that many. -/
def Wrote {α : Type} (c : Codec α) (x : α) (t : List UInt8) : Prop := t.length ≤ (c.enc x).length ∧ (c.fit x = true → t = c.enc x)
theorem Wrote.self {α : Type} (c : Codec α) (x : α) : Wrote c x (c.enc x) := ⟨Nat.le_refl _, fun _ => rfl⟩
theorem Wrote.seq {α β : Type} {c : Codec α} {d : Codec β} {x : α} {y : β} {s t : List UInt8} (h : Wrote c x s) (k : Wrote d y t) : Wrote (Mg.seq c d) (x, y) (s ++ t) := by
  refine ⟨?_, fun hf => ?_⟩
  · have h1 := h.1
    have h2 := k.1
    simp only [Mg.seq, List.length_append]
    omega
  · have hf' : c.fit x = true ∧ d.fit y = true := by simpa [Mg.seq] using hf
    show s ++ t = c.enc x ++ d.enc y
    rw [h.2 hf'.1, k.2 hf'.2]
def WroteL {α : Type} (c : Codec α) (l : List α) (t : List UInt8) : Prop := t.length ≤ (encs c l).length ∧ (l.all c.fit = true → t = encs c l)
theorem WroteL.nil {α : Type} (c : Codec α) : WroteL c [] [] := ⟨Nat.le_refl _, fun _ => rfl⟩
theorem encs_more {α : Type} (c : Codec α) (l : List α) (a : α) : encs c (l ++ [a]) = encs c l ++ c.enc a := by simp [encs]
theorem WroteL.next {α : Type} {c : Codec α} {l : List α} {i : Nat} {a : α} {s t : List UInt8} (h : WroteL c (l.take i) s) (ha : l[i]? = some a) (k : Wrote c a t) : WroteL c (l.take (i + 1)) (s ++ t) := by
  rw [List.take_add_one, ha]
  refine ⟨?_, fun hf => ?_⟩
  · have h1 := h.1
    have h2 := k.1
    simp only [Option.toList_some, encs_more, List.length_append]
    omega
  · have hf' : (l.take i).all c.fit = true ∧ c.fit a = true := by simpa using hf
    simp only [Option.toList_some, encs_more]
    rw [h.2 hf'.1, k.2 hf'.2]
theorem Wrote.list {α : Type} {c : Codec α} {l : List α} {most : Nat} {t0 t : List UInt8} (h0 : Wrote (num most) l.length t0) (h : WroteL c l t) : Wrote (Mg.list most c) l (t0 ++ t) := by
  refine ⟨?_, fun hf => ?_⟩
  · have h1 := h.1
    have h2 : t0.length ≤ (Wr.uv l.length).length := h0.1
    simp only [Mg.list, List.length_append]
    omega
  · have hf' : (num most).fit l.length = true ∧ l.all c.fit = true := by
      have h2 : (decide (l.length ≤ most) && l.all c.fit) = true := hf
      exact (Bool.and_eq_true _ _).mp h2
    show _ = Wr.uv l.length ++ encs c l
    rw [h.2 hf'.2, h0.2 hf'.1]
    rfl
theorem all_nextF {α : Type} (f : α → Bool) {l : List α} {i : Nat} {a : α} (ha : l[i]? = some a) : (l.take (i + 1)).all f = ((l.take i).all f && f a) := by
  rw [List.take_add_one, ha]
  simp
theorem encs_at {α : Type} (c : Codec α) {l : List α} {i : Nat} {a : α} (ha : l[i]? = some a) : (encs c (l.take i)).length + (c.enc a).length ≤ (encs c l).length := by
  have h1 : encs c (l.take (i + 1)) = encs c (l.take i) ++ c.enc a := by
    rw [List.take_add_one, ha]
    exact encs_more c _ a
  have h2 : encs c l = encs c (l.take (i + 1)) ++ encs c (l.drop (i + 1)) := by
    unfold encs
    rw [← List.flatMap_append, List.take_append_drop]
  rw [h2, h1, List.length_append, List.length_append]
  omega
theorem fit_int_neg {most : Nat} {x : Int} (h : x < 0) : (int most).fit x = false := by
  simp [int]; omega
theorem fit_int_num {most : Nat} {x : Int} (h : ¬ x < 0) : (int most).fit x = (num most).fit x.toNat := by
  have h1 : 0 ≤ x := by omega
  simp only [int, num, decide_eq_true h1, Bool.true_and]
  apply decide_eq_decide.2
  omega
theorem wrote_neg {most : Nat} {x : Int} (h : x < 0) : Wrote (int most) x (Wr.uv 0) := by
  refine ⟨?_, fun hf => ?_⟩
  · have : 1 ≤ ((int most).enc x).length := int_pos _ _
    have e : (Wr.uv 0).length = 1 := rfl
    omega
  · rw [fit_int_neg h] at hf; cases hf
theorem wrote_int {most : Nat} {x : Int} (h : ¬ x < 0) (h2 : x ≤ 9223372036854775807) : Wrote (int most) x (Wr.uv x.toNat) := by
  have e : (int most).enc x = Wr.uv x.toNat := by
    show Wr.uv (x % 18446744073709551616).toNat = _
    congr 1
    omega
  rw [← e]
  exact Wrote.self _ _
end Mg
theorem PtAt.cast {B k : Nat} {bs bs' : List UInt8} {bad bad' : Bool} {w : World} (h : PtAt B k bs bad w) (e1 : bs = bs') (e2 : bad = bad') : PtAt B k bs' bad' w := by
  subst e1 e2
  exact h
theorem run_max2p (P : Program) (w : World) (t : TypeId) (p q : Int) : (Builtin.max_ #[t, t] t #[.int .i64 p, .int .i64 q]).run P w = .ok (.int .i64 (max p q)) w := by
  have e : Builtin.max2 (.int .i64 p) (.int .i64 q) = pure (.int .i64 (max p q)) := by
    simp only [Builtin.max2]
    congr 2
    split <;> omega
  simp [Builtin.max_, e]
/-- What a call leaves that writes x by the codec c. -/
def PutOut {α : Type} (B k : Nat) (bs : List UInt8) (bad : Bool) (c : Mg.Codec α) (x : α) (w : World) (e : Ending) (w' : World) : Prop :=
  e = .returned (.tuple #[]) ∧ (∃ t, Mg.Wrote c x t ∧ PtAt B k (bs ++ t) (bad || !c.fit x) w') ∧ FrP B w w'
theorem pn (B k : Nat) (bs : List UInt8) (bad : Bool) (x most : Nat) (w : World) (h : PtAt B k bs bad w) (hx : x < 18446744073709551616) (hm : most < 18446744073709551616) (hlen : bs.length + ((Mg.num most).enc x).length ≤ 2147483648) :
    Calls Tryz.prog 22 #[.pointer (some ⟨k, 0, none⟩), .int .u64 x, .int .u64 most] w (PutOut B k bs bad (Mg.num most) x w) :=
  (p_num B k bs bad x most w h hx hm hlen).mono fun _ _ h => ⟨h.1, ⟨_, Mg.Wrote.self _ _, h.2.1⟩, h.2.2⟩
theorem pt (B k : Nat) (bs : List UInt8) (bad : Bool) (x : ByteArray) (most : Nat) (w : World) (h : PtAt B k bs bad w) (hx : okT x) (hm : most < 9223372036854775808) (hlen : bs.length + ((Mg.text most).enc x).length ≤ 2147483648) :
    Calls Tryz.prog 93 #[.pointer (some ⟨k, 0, none⟩), .string x, .int .i64 most] w (PutOut B k bs bad (Mg.text most) x w) :=
  (p_text B k bs bad x most w h hx hm hlen).mono fun _ _ h => ⟨h.1, ⟨_, Mg.Wrote.self _ _, h.2.1⟩, h.2.2⟩

set_option maxRecDepth 20000 in
set_option maxHeartbeats 4000000 in
theorem p_int (B k : Nat) (bs : List UInt8) (bad : Bool) (x : Int) (most : Nat) (w : World) (h : PtAt B k bs bad w) (hx : -9223372036854775808 ≤ x ∧ x ≤ 9223372036854775807) (hm : most < 9223372036854775808) (hlen : bs.length + ((Mg.int most).enc x).length ≤ 2147483648) :
    Calls Tryz.prog 60 #[.pointer (some ⟨k, 0, none⟩), .int .i64 x, .int .i64 most] w (PutOut B k bs bad (Mg.int most) x w) := by
  have HH := Lib.hid h
  obtain ⟨v, hk, ho⟩ := h.ex
  have d1 : w.cell? ⟨k, 1, none⟩ = some (.bool bad) := by rw [cell_of_row _ _ _ _ _ _ hk]; rfl
  have e1 : w.frozen? ⟨k, 1, none⟩ = false := frozen_of_row w k 1 _ _ hk
  have hklt := blk_lt hk
  have HLEN := Lib.hid hlen
  have hmax := fun w => run_max2p Tryz.prog w 3 x 0
  have hmI : (0 : Int) ≤ most ∧ (most : Int) < 9223372036854775808 := by omega
  have HXI := Lib.hid hx
  clear hlen hk ho h
  by_cases hneg : x < 0
  · have HNEG := Lib.hid hneg
    cases bad with
    | true =>
      have HM := Lib.hid (HH.out.mark true)
      go_enter Tryz.func60, Tryz.ntmps60
      go_upto_region 1 with (fail)
      obtain ⟨w1, hw1⟩ : ∃ y, y = w.setCell ⟨k, 1, none⟩ (.bool true) := ⟨_, rfl⟩
      have HM1 : Hid (PtAt B k bs true w1 ∧ FrP B w w1) := Lib.hid (by rw [hw1]; exact HM.out)
      rw [← hw1]
      clear hw1 d1 e1 hklt
      rw [show max x 0 = 0 by omega] at hmax
      go_wp2_with fail
      refine (pn B k bs true 0 most w1 HM1.out.1 (by decide) (by omega) (by
        have h1 := HLEN.out
        have h2 : 1 ≤ ((Mg.int most).enc x).length := Mg.int_pos _ _
        have h3 : ((Mg.num most).enc 0).length = 1 := rfl
        omega)).mono ?_
      rintro e w2 ⟨rfl, ⟨t, ht, hp⟩, hf⟩
      go_wp2_with fail
      refine bodyPost_end (v := .tuple #[]) (by simp [results, Tryz.results60, go_sem]) rfl ⟨rfl, ⟨t, ?_, hp.cast rfl (by rw [Mg.fit_int_neg HNEG.out]; simp)⟩, HM1.out.2.trans hf⟩
      have he : t = Wr.uv 0 := ht.2 (by simp [Mg.num])
      rw [he]
      exact Mg.wrote_neg HNEG.out
    | false =>
      have HM := Lib.hid (HH.out.mark true)
      go_enter Tryz.func60, Tryz.ntmps60
      go_upto_region 1 with (fail)
      obtain ⟨w1, hw1⟩ : ∃ y, y = w.setCell ⟨k, 1, none⟩ (.bool true) := ⟨_, rfl⟩
      have HM1 : Hid (PtAt B k bs true w1 ∧ FrP B w w1) := Lib.hid (by rw [hw1]; exact HM.out)
      rw [← hw1]
      clear hw1 d1 e1 hklt
      rw [show max x 0 = 0 by omega] at hmax
      go_wp2_with fail
      refine (pn B k bs true 0 most w1 HM1.out.1 (by decide) (by omega) (by
        have h1 := HLEN.out
        have h2 : 1 ≤ ((Mg.int most).enc x).length := Mg.int_pos _ _
        have h3 : ((Mg.num most).enc 0).length = 1 := rfl
        omega)).mono ?_
      rintro e w2 ⟨rfl, ⟨t, ht, hp⟩, hf⟩
      go_wp2_with fail
      refine bodyPost_end (v := .tuple #[]) (by simp [results, Tryz.results60, go_sem]) rfl ⟨rfl, ⟨t, ?_, hp.cast rfl (by rw [Mg.fit_int_neg HNEG.out]; simp)⟩, HM1.out.2.trans hf⟩
      have he : t = Wr.uv 0 := ht.2 (by simp [Mg.num])
      rw [he]
      exact Mg.wrote_neg HNEG.out
  · have HNEG := Lib.hid hneg
    cases bad with
    | true =>
      have HM := Lib.hid (HH.out.mark true)
      go_enter Tryz.func60, Tryz.ntmps60
      go_upto_region 1 with (fail)
      obtain ⟨w1, hw1⟩ : ∃ y, y = w.setCell ⟨k, 1, none⟩ (.bool true) := ⟨_, rfl⟩
      have HM1 : Hid (PtAt B k bs true w1 ∧ FrP B w w1) := Lib.hid (by rw [hw1]; exact HM.out)
      rw [← hw1]
      clear hw1 d1 e1 hklt
      obtain ⟨n, hn⟩ : ∃ n : Nat, n = x.toNat := ⟨_, rfl⟩
      have hxn : x = (n : Int) := by omega
      rw [hxn, show max (n : Int) 0 = n by omega] at hmax
      have HN := Lib.hid hn
      have HNN := Lib.hid hxn
      have hnI : (0 : Int) ≤ n ∧ (n : Int) ≤ 9223372036854775807 := by omega
      clear hn
      subst hxn
      go_wp2_with fail
      refine (pn B k bs true n most w1 HM1.out.1 (by omega) (by omega) (by
        have h1 := HLEN.out
        have h3 : (Mg.int most).enc (n : Int) = Wr.uv n := by
          show Wr.uv ((n : Int) % 18446744073709551616).toNat = _
          congr 1
          omega
        rw [h3] at h1
        exact h1)).mono ?_
      rintro e w2 ⟨rfl, ⟨t, ht, hp⟩, hf⟩
      go_wp2_with fail
      have hfit : (Mg.int most).fit (n : Int) = (Mg.num most).fit n := by
        have := Mg.fit_int_num (most := most) (x := (n : Int)) (by omega)
        simpa using this
      refine bodyPost_end (v := .tuple #[]) (by simp [results, Tryz.results60, go_sem]) rfl ⟨rfl, ⟨t, ?_, hp.cast rfl (by rw [hfit])⟩, HM1.out.2.trans hf⟩
      have hwi := Mg.wrote_int (most := most) (x := (n : Int)) (by omega) (by omega)
      simp only [Int.toNat_natCast] at hwi
      refine ⟨?_, fun h => ?_⟩
      · exact Nat.le_trans ht.1 (by
          have e : (Mg.int most).enc (n : Int) = Wr.uv n := by
            show Wr.uv ((n : Int) % 18446744073709551616).toNat = _
            congr 1
            omega
          rw [e]
          exact Nat.le_refl _)
      · rw [hfit] at h
        rw [ht.2 h]
        exact hwi.2 (by rw [hfit]; exact h)
    | false =>
      have HM := Lib.hid (HH.out.mark false)
      go_enter Tryz.func60, Tryz.ntmps60
      go_upto_region 1 with (fail)
      obtain ⟨w1, hw1⟩ : ∃ y, y = w.setCell ⟨k, 1, none⟩ (.bool false) := ⟨_, rfl⟩
      have HM1 : Hid (PtAt B k bs false w1 ∧ FrP B w w1) := Lib.hid (by rw [hw1]; exact HM.out)
      rw [← hw1]
      clear hw1 d1 e1 hklt
      obtain ⟨n, hn⟩ : ∃ n : Nat, n = x.toNat := ⟨_, rfl⟩
      have hxn : x = (n : Int) := by omega
      rw [hxn, show max (n : Int) 0 = n by omega] at hmax
      have HN := Lib.hid hn
      have HNN := Lib.hid hxn
      have hnI : (0 : Int) ≤ n ∧ (n : Int) ≤ 9223372036854775807 := by omega
      clear hn
      subst hxn
      go_wp2_with fail
      refine (pn B k bs false n most w1 HM1.out.1 (by omega) (by omega) (by
        have h1 := HLEN.out
        have h3 : (Mg.int most).enc (n : Int) = Wr.uv n := by
          show Wr.uv ((n : Int) % 18446744073709551616).toNat = _
          congr 1
          omega
        rw [h3] at h1
        exact h1)).mono ?_
      rintro e w2 ⟨rfl, ⟨t, ht, hp⟩, hf⟩
      go_wp2_with fail
      have hfit : (Mg.int most).fit (n : Int) = (Mg.num most).fit n := by
        have := Mg.fit_int_num (most := most) (x := (n : Int)) (by omega)
        simpa using this
      refine bodyPost_end (v := .tuple #[]) (by simp [results, Tryz.results60, go_sem]) rfl ⟨rfl, ⟨t, ?_, hp.cast rfl (by rw [hfit])⟩, HM1.out.2.trans hf⟩
      have hwi := Mg.wrote_int (most := most) (x := (n : Int)) (by omega) (by omega)
      simp only [Int.toNat_natCast] at hwi
      refine ⟨?_, fun h => ?_⟩
      · exact Nat.le_trans ht.1 (by
          have e : (Mg.int most).enc (n : Int) = Wr.uv n := by
            show Wr.uv ((n : Int) % 18446744073709551616).toNat = _
            congr 1
            omega
          rw [e]
          exact Nat.le_refl _)
      · rw [hfit] at h
        rw [ht.2 h]
        exact hwi.2 (by rw [hfit]; exact h)

set_option maxRecDepth 20000 in
set_option maxHeartbeats 4000000 in
theorem p_count (B k : Nat) (bs : List UInt8) (bad : Bool) (x : Nat) (w : World) (h : PtAt B k bs bad w) (hx : x ≤ 1048576) (hlen : bs.length + ((Mg.num 512).enc x).length ≤ 2147483648) :
    Calls Tryz.prog 55 #[.pointer (some ⟨k, 0, none⟩), .int .i64 x] w (PutOut B k bs bad (Mg.num 512) x w) := by
  have HC := Lib.hid (pn B k bs bad x 512 w h (by omega) (by decide) hlen)
  have hxI : (0 : Int) ≤ x ∧ (x : Int) ≤ 1048576 := by omega
  clear h hx hlen
  go_enter Tryz.func55, Tryz.ntmps55
  go_wp2_with fail
  refine HC.out.mono ?_
  rintro e w2 ⟨rfl, hp, hf⟩
  go_wp2_with fail
  exact bodyPost_end (v := .tuple #[]) (by simp [results, Tryz.results55, go_sem]) rfl ⟨rfl, hp, hf⟩

set_option maxRecDepth 20000 in
set_option maxHeartbeats 4000000 in
theorem p_truth (B k : Nat) (bs : List UInt8) (bad : Bool) (x : Bool) (w : World) (h : PtAt B k bs bad w) (hlen : bs.length + (Mg.truth.enc x).length ≤ 2147483648) :
    Calls Tryz.prog 59 #[.pointer (some ⟨k, 0, none⟩), .bool x] w (PutOut B k bs bad Mg.truth x w) := by
  cases x with
  | true =>
    have HC := Lib.hid (pn B k bs bad 1 1 w h (by decide) (by decide) hlen)
    clear h hlen
    go_enter Tryz.func59, Tryz.ntmps59
    go_wp2_with fail
    refine HC.out.mono ?_
    rintro e w2 ⟨rfl, hp, hf⟩
    go_wp2_with fail
    exact bodyPost_end (v := .tuple #[]) (by simp [results, Tryz.results59, go_sem]) rfl ⟨rfl, hp, hf⟩
  | false =>
    have HC := Lib.hid (pn B k bs bad 0 1 w h (by decide) (by decide) hlen)
    clear h hlen
    go_enter Tryz.func59, Tryz.ntmps59
    go_wp2_with fail
    refine HC.out.mono ?_
    rintro e w2 ⟨rfl, hp, hf⟩
    go_wp2_with fail
    exact bodyPost_end (v := .tuple #[]) (by simp [results, Tryz.results59, go_sem]) rfl ⟨rfl, hp, hf⟩

set_option maxRecDepth 20000 in
set_option maxHeartbeats 4000000 in
theorem p_tx (B k : Nat) (bs : List UInt8) (bad : Bool) (x : Mg.Tx) (w : World) (h : PtAt B k bs bad w) (ok : x.Good) (hlen : bs.length + (Mg.cTx.enc x).length ≤ 2147483648) :
    Calls Tryz.prog 23 #[.pointer (some ⟨k, 0, none⟩), .agg #[.int .u64 x.life, .int .u64 x.n]] w (PutOut B k bs bad Mg.cTx x w) := by
  have HH := Lib.hid h
  have HOK := Lib.hid ok
  have hln : bs.length + (((Mg.num 4611686018427387904).enc x.life).length + (((Mg.num 4611686018427387904).enc x.n).length)) ≤ 2147483648 := by
    have h1 : Mg.cTx.enc x = (Mg.num 4611686018427387904).enc x.life ++ ((Mg.num 4611686018427387904).enc x.n) := rfl
    rw [h1] at hlen
    simpa only [List.length_append, Nat.add_assoc] using hlen
  have HLN := Lib.hid hln
  obtain ⟨w0, hw0⟩ : ∃ y, y = w.alloc (.cells #[.int .u64 x.life, .int .u64 x.n] 24 (0, 0)) := ⟨_, rfl⟩
  have hb0 : w0.heap[w.heap.size]? = some (.cells #[.int .u64 x.life, .int .u64 x.n] 24 (0, 0)) := by rw [hw0]; exact heap_alloc_new w _
  have HB0 := Lib.hid hb0
  have HP0 : Hid (PtAt B k bs bad w0) := Lib.hid (by rw [hw0]; exact h.keep ((Own.refl w).alloc _).below)
  have HF0 : Hid (FrP B w w0) := Lib.hid (by rw [hw0]; exact (FrP.refl B w).alloc _)
  have HG0 := Lib.hid (FrP.refl B w0)
  have HW0 := Lib.hid hw0
  have c0 : w0.cell? ⟨w.heap.size, 0, none⟩ = some (.int .u64 x.life) := by rw [cell_of_row _ _ _ _ _ _ hb0]; rfl
  have hxI : (0 : Int) ≤ x.life ∧ (x.life : Int) < 18446744073709551616 ∧ (0 : Int) ≤ x.n ∧ (x.n : Int) < 18446744073709551616 := by have := ok.a; have := ok.b; omega
  clear h ok hlen hln hb0 hw0
  go_enter Tryz.func23, Tryz.ntmps23
  go_upto_region 1 with (fail)
  rw [← HW0.out]
  clear HW0
  go_wp2_with fail
  refine (pn B k (bs) (bad) x.life 4611686018427387904 w0 HP0.out HOK.out.a (by decide) (by have k0 := HLN.out; (try simp only [List.length_append] at *); omega)).mono ?_
  rintro e w1 ⟨rfl, ⟨t1, hw, hp⟩, hf⟩
  have HW1 := Lib.hid hw
  have HP1 := Lib.hid hp
  have HG1 := Lib.hid (HG0.out.trans hf)
  clear hw hp hf c0
  have c0 : w1.cell? ⟨w.heap.size, 1, none⟩ = some (.int .u64 x.n) := by rw [cell_of_row _ _ _ _ _ _ (HG1.out.keep HB0.out (by decide) (by decide))]; rfl
  go_wp2_with fail
  refine (pn B k ((bs) ++ t1) ((bad) || !((Mg.num 4611686018427387904)).fit x.life) x.n 4611686018427387904 w1 HP1.out HOK.out.b (by decide) (by have k0 := HLN.out; have k1 := HW1.out.1; (try simp only [List.length_append] at *); omega)).mono ?_
  rintro e w2 ⟨rfl, ⟨t2, hw, hp⟩, hf⟩
  have HW2 := Lib.hid hw
  have HP2 := Lib.hid hp
  have HG2 := Lib.hid (HG1.out.trans hf)
  clear hw hp hf c0
  go_wp2_with fail
  have hfin : (((bad) || !((Mg.num 4611686018427387904)).fit x.life) || !((Mg.num 4611686018427387904)).fit x.n) = (bad || !Mg.cTx.fit x) := by
    show _ = (bad || !(((Mg.num 4611686018427387904)).fit x.life && (((Mg.num 4611686018427387904)).fit x.n)))
    simp only [Bool.not_and, Bool.or_assoc]
  exact bodyPost_end (v := .tuple #[]) (by simp [results, Tryz.results23, go_sem]) rfl ⟨rfl, ⟨t1 ++ (t2), Mg.Wrote.seq HW1.out (HW2.out), HP2.out.cast (by simp only [List.append_assoc]) hfin⟩, HF0.out.trans HG2.out⟩

set_option maxRecDepth 20000 in
set_option maxHeartbeats 4000000 in
theorem p_ver (B k : Nat) (bs : List UInt8) (bad : Bool) (x : Mg.Ver) (w : World) (h : PtAt B k bs bad w) (ok : x.Good) (hlen : bs.length + (Mg.cVer.enc x).length ≤ 2147483648) :
    Calls Tryz.prog 95 #[.pointer (some ⟨k, 0, none⟩), .agg #[.int .u64 x.n, .int .u8 x.st, .string x.t]] w (PutOut B k bs bad Mg.cVer x w) := by
  have HH := Lib.hid h
  have HOK := Lib.hid ok
  have hln : bs.length + (((Mg.num 18446744073709551615).enc x.n).length + (((Mg.num 255).enc x.st).length + (((Mg.text 4096).enc x.t).length))) ≤ 2147483648 := by
    have h1 : Mg.cVer.enc x = (Mg.num 18446744073709551615).enc x.n ++ ((Mg.num 255).enc x.st ++ ((Mg.text 4096).enc x.t)) := rfl
    rw [h1] at hlen
    simpa only [List.length_append, Nat.add_assoc] using hlen
  have HLN := Lib.hid hln
  obtain ⟨w0, hw0⟩ : ∃ y, y = w.alloc (.cells #[.int .u64 x.n, .int .u8 x.st, .string x.t] 62 (0, 0)) := ⟨_, rfl⟩
  have hb0 : w0.heap[w.heap.size]? = some (.cells #[.int .u64 x.n, .int .u8 x.st, .string x.t] 62 (0, 0)) := by rw [hw0]; exact heap_alloc_new w _
  have HB0 := Lib.hid hb0
  have HP0 : Hid (PtAt B k bs bad w0) := Lib.hid (by rw [hw0]; exact h.keep ((Own.refl w).alloc _).below)
  have HF0 : Hid (FrP B w w0) := Lib.hid (by rw [hw0]; exact (FrP.refl B w).alloc _)
  have HG0 := Lib.hid (FrP.refl B w0)
  have HW0 := Lib.hid hw0
  have c0 : w0.cell? ⟨w.heap.size, 0, none⟩ = some (.int .u64 x.n) := by rw [cell_of_row _ _ _ _ _ _ hb0]; rfl
  have hxI : (0 : Int) ≤ x.n ∧ (x.n : Int) < 18446744073709551616 ∧ (0 : Int) ≤ x.st ∧ (x.st : Int) < 256 := by have := ok.a; have := ok.b; omega
  clear h ok hlen hln hb0 hw0
  go_enter Tryz.func95, Tryz.ntmps95
  go_upto_region 1 with (fail)
  rw [← HW0.out]
  clear HW0
  go_wp2_with fail
  refine (pn B k (bs) (bad) x.n 18446744073709551615 w0 HP0.out HOK.out.a (by decide) (by have k0 := HLN.out; (try simp only [List.length_append] at *); omega)).mono ?_
  rintro e w1 ⟨rfl, ⟨t1, hw, hp⟩, hf⟩
  have HW1 := Lib.hid hw
  have HP1 := Lib.hid hp
  have HG1 := Lib.hid (HG0.out.trans hf)
  clear hw hp hf c0
  have c0 : w1.cell? ⟨w.heap.size, 1, none⟩ = some (.int .u8 x.st) := by rw [cell_of_row _ _ _ _ _ _ (HG1.out.keep HB0.out (by decide) (by decide))]; rfl
  go_wp2_with fail
  refine (pn B k ((bs) ++ t1) ((bad) || !((Mg.num 18446744073709551615)).fit x.n) x.st 255 w1 HP1.out (by have := HOK.out.b; omega) (by decide) (by have k0 := HLN.out; have k1 := HW1.out.1; (try simp only [List.length_append] at *); omega)).mono ?_
  rintro e w2 ⟨rfl, ⟨t2, hw, hp⟩, hf⟩
  have HW2 := Lib.hid hw
  have HP2 := Lib.hid hp
  have HG2 := Lib.hid (HG1.out.trans hf)
  clear hw hp hf c0
  have c0 : w2.cell? ⟨w.heap.size, 2, none⟩ = some (.string x.t) := by rw [cell_of_row _ _ _ _ _ _ (HG2.out.keep HB0.out (by decide) (by decide))]; rfl
  go_wp2_with fail
  refine (pt B k (((bs) ++ t1) ++ t2) (((bad) || !((Mg.num 18446744073709551615)).fit x.n) || !((Mg.num 255)).fit x.st) x.t 4096 w2 HP2.out HOK.out.c (by decide) (by have k0 := HLN.out; have k1 := HW1.out.1; have k2 := HW2.out.1; (try simp only [List.length_append] at *); omega)).mono ?_
  rintro e w3 ⟨rfl, ⟨t3, hw, hp⟩, hf⟩
  have HW3 := Lib.hid hw
  have HP3 := Lib.hid hp
  have HG3 := Lib.hid (HG2.out.trans hf)
  clear hw hp hf c0
  go_wp2_with fail
  have hfin : ((((bad) || !((Mg.num 18446744073709551615)).fit x.n) || !((Mg.num 255)).fit x.st) || !((Mg.text 4096)).fit x.t) = (bad || !Mg.cVer.fit x) := by
    show _ = (bad || !(((Mg.num 18446744073709551615)).fit x.n && (((Mg.num 255)).fit x.st && (((Mg.text 4096)).fit x.t))))
    simp only [Bool.not_and, Bool.or_assoc]
  exact bodyPost_end (v := .tuple #[]) (by simp [results, Tryz.results95, go_sem]) rfl ⟨rfl, ⟨t1 ++ (t2 ++ (t3)), Mg.Wrote.seq HW1.out (Mg.Wrote.seq HW2.out (HW3.out)), HP3.out.cast (by simp only [List.append_assoc]) hfin⟩, HF0.out.trans HG3.out⟩

set_option maxRecDepth 20000 in
set_option maxHeartbeats 4000000 in
theorem p_places (wB : World) (k : Nat) (bs : List UInt8) (bad : Bool) (a : Option Addr) (cap : Nat) (l : List (Int)) (w : World) (h : PtAt wB.heap.size k bs bad w) (hb : Below wB.heap.size wB w) (hl : RowIs wB 1 a (l.map (fun a : Int => [Value.int .i64 a]))) (ok : ∀ x ∈ l, -9223372036854775808 ≤ x ∧ x ≤ 9223372036854775807) (hn : l.length ≤ 1048576) (hlen : bs.length + ((Mg.list 512 (Mg.int 512)).enc l).length ≤ 2147483648) :
    Calls Tryz.prog 94 #[.pointer (some ⟨k, 0, none⟩), .slice a l.length cap] w (PutOut wB.heap.size k bs bad (Mg.list 512 (Mg.int 512)) l w) := by
  have hlI : (0 : Int) ≤ l.length ∧ (l.length : Int) ≤ 1048576 := by omega
  have hln : bs.length + ((Wr.uv l.length).length + (Mg.encs (Mg.int 512) l).length) ≤ 2147483648 := by
    have h1 : (Mg.list 512 (Mg.int 512)).enc l = Wr.uv l.length ++ Mg.encs (Mg.int 512) l := rfl
    rw [h1, List.length_append] at hlen
    exact hlen
  have HLN := Lib.hid hln
  have HL := Lib.hid hl
  have HB := Lib.hid hb
  have HOK := Lib.hid ok
  have HC := Lib.hid (p_count wB.heap.size k bs bad l.length w h hn (by have e : (Mg.num 512).enc l.length = Wr.uv l.length := rfl; rw [e]; omega))
  clear h hb hl ok hn hlen hln
  go_enter Tryz.func94, Tryz.ntmps94
  go_wp2_with fail
  refine HC.out.mono ?_
  rintro e w1 ⟨rfl, ⟨t0, ht0, hp⟩, hf⟩
  have he0 : t0.length ≤ (Wr.uv l.length).length := ht0.1
  have HT0 := Lib.hid ht0
  have HE0 := Lib.hid he0
  have HP := Lib.hid hp
  have HF := Lib.hid hf
  clear ht0 he0 hp hf HC
  go_wp2_with fail
  go_loopw [4] (fun vi wr => ∃ (i : Nat) (tt : List UInt8), i ≤ l.length ∧ vi = .int .i64 i ∧ Mg.WroteL (Mg.int 512) (l.take i) tt ∧ PtAt wB.heap.size k ((bs ++ t0) ++ tt) ((bad || !(Mg.num 512).fit l.length) || !(l.take i).all (Mg.int 512).fit) wr ∧ FrP wB.heap.size w wr) (fun vi _ => l.length - (intOf vi).toNat)
  case atStart => exact ⟨0, [], Nat.zero_le _, rfl, Mg.WroteL.nil _, HP.out.cast (by simp) (by simp), HF.out⟩
  case round =>
    clear HP HF
    obtain ⟨i, tt, hi, rfl, htt, hp, hf⟩ := hrel
    have HTT := Lib.hid htt
    have HP0 := Lib.hid hp
    have HF0 := Lib.hid hf
    clear htt hp hf
    by_cases hlt : i < l.length
    · have hiI : (0 : Int) ≤ i ∧ (i : Int) < l.length := by omega
      have hbr : Below wB.heap.size wB wr := HB.out.trans (HF0.out.below HB.out.size)
      have HBR := Lib.hid hbr
      obtain ⟨g, o, rfl, hc⟩ := HL.out i (by simpa using hlt)
      obtain ⟨u, hu⟩ : ∃ u, u = l[i]'hlt := ⟨_, rfl⟩
      have e1 : (l.map (fun a : Int => [Value.int .i64 a]))[i]'(by simpa using hlt) = [.int .i64 u] := by rw [List.getElem_map, hu]
      rw [e1] at hc
      have hc0 := hc.keep (hbr.block _ hc.lt)
      have hug : -9223372036854775808 ≤ u ∧ u ≤ 9223372036854775807 := HOK.out u (by rw [hu]; exact List.getElem_mem _)
      have HUG := Lib.hid hug
      have hlu : l[i]? = some u := by rw [List.getElem?_eq_getElem hlt, hu]
      have HY := Lib.hid hlu
      have hea := Mg.encs_at (Mg.int 512) hlu
      have HEA := Lib.hid hea
      have HCC := Lib.hid hc
      have huI := hug
      clear hc e1 hu hug hlt hlu hea hbr
      have hsplit : ((Mg.int 512).enc u).length = ((Mg.int 512).enc u).length := rfl
      have HSP := Lib.hid hsplit
      clear hsplit
      have c0 : wr.cell? ⟨g, o + i, none⟩ = some (.int .i64 u) := by have := hc0.cell 0 (by simp); simpa using this
      clear hc0
      go_wp2_with fail
      refine (p_int wB.heap.size k ((bs ++ t0) ++ tt) ((bad || !(Mg.num 512).fit l.length) || !(l.take i).all (Mg.int 512).fit) u 512 wr HP0.out HUG.out (by decide) (by have k0 := HLN.out; have ka := HEA.out; have kt := HTT.out.1; have ke := HE0.out; have ks := HSP.out; (try simp only [List.length_append] at *); omega)).mono ?_
      rintro e x1 ⟨rfl, ⟨t1, hw, hp⟩, hf⟩
      have HW1 := Lib.hid hw
      have HP1 := Lib.hid hp
      have HF1 := Lib.hid (HF0.out.trans hf)
      clear hw hp hf c0
      go_wp2_with fail
      go_roundw
      case rel =>
        have hfin : (((bad || !(Mg.num 512).fit l.length) || !(l.take i).all (Mg.int 512).fit) || !(Mg.int 512).fit u) = ((bad || !(Mg.num 512).fit l.length) || !(l.take (i + 1)).all (Mg.int 512).fit) := by
          rw [Mg.all_nextF (Mg.int 512).fit HY.out]
          show _ = ((bad || !(Mg.num 512).fit l.length) || !((l.take i).all (Mg.int 512).fit && ((Mg.int 512).fit u)))
          simp only [Bool.not_and, Bool.or_assoc]
        exact ⟨i + 1, tt ++ (t1), by omega, by go_num, HTT.out.next HY.out (HW1.out), HP1.out.cast (by simp only [List.append_assoc]) hfin, HF1.out⟩
      case measure => simp [intOf]; omega
    · obtain rfl : i = l.length := by omega
      go_wp2_with fail
      have htk := HTT.out
      have hp := HP0.out
      rw [List.take_length] at htk hp
      have hfin : ((bad || !(Mg.num 512).fit l.length) || !l.all (Mg.int 512).fit) = (bad || !(Mg.list 512 (Mg.int 512)).fit l) := by
        show _ = (bad || !((Mg.num 512).fit l.length && l.all (Mg.int 512).fit))
        simp only [Bool.not_and, Bool.or_assoc]
      exact bodyPost_end (v := .tuple #[]) (by simp [results, Tryz.results94, go_sem]) rfl ⟨rfl, ⟨t0 ++ tt, Mg.Wrote.list HT0.out htk, hp.cast (by rw [List.append_assoc]) hfin⟩, HF0.out⟩

set_option maxRecDepth 20000 in
set_option maxHeartbeats 4000000 in
theorem p_spans (wB : World) (k : Nat) (bs : List UInt8) (bad : Bool) (a : Option Addr) (cap : Nat) (l : List (Mg.Rng)) (w : World) (h : PtAt wB.heap.size k bs bad w) (hb : Below wB.heap.size wB w) (hl : RowIs wB 2 a (l.map Mg.Rng.cells)) (ok : ∀ x ∈ l, x.Good) (hn : l.length ≤ 1048576) (hlen : bs.length + ((Mg.list 512 Mg.cRng).enc l).length ≤ 2147483648) :
    Calls Tryz.prog 58 #[.pointer (some ⟨k, 0, none⟩), .slice a l.length cap] w (PutOut wB.heap.size k bs bad (Mg.list 512 Mg.cRng) l w) := by
  have hlI : (0 : Int) ≤ l.length ∧ (l.length : Int) ≤ 1048576 := by omega
  have hln : bs.length + ((Wr.uv l.length).length + (Mg.encs Mg.cRng l).length) ≤ 2147483648 := by
    have h1 : (Mg.list 512 Mg.cRng).enc l = Wr.uv l.length ++ Mg.encs Mg.cRng l := rfl
    rw [h1, List.length_append] at hlen
    exact hlen
  have HLN := Lib.hid hln
  have HL := Lib.hid hl
  have HB := Lib.hid hb
  have HOK := Lib.hid ok
  have HC := Lib.hid (p_count wB.heap.size k bs bad l.length w h hn (by have e : (Mg.num 512).enc l.length = Wr.uv l.length := rfl; rw [e]; omega))
  clear h hb hl ok hn hlen hln
  go_enter Tryz.func58, Tryz.ntmps58
  go_wp2_with fail
  refine HC.out.mono ?_
  rintro e w1 ⟨rfl, ⟨t0, ht0, hp⟩, hf⟩
  have he0 : t0.length ≤ (Wr.uv l.length).length := ht0.1
  have HT0 := Lib.hid ht0
  have HE0 := Lib.hid he0
  have HP := Lib.hid hp
  have HF := Lib.hid hf
  clear ht0 he0 hp hf HC
  go_wp2_with fail
  go_loopw [4] (fun vi wr => ∃ (i : Nat) (tt : List UInt8), i ≤ l.length ∧ vi = .int .i64 i ∧ Mg.WroteL Mg.cRng (l.take i) tt ∧ PtAt wB.heap.size k ((bs ++ t0) ++ tt) ((bad || !(Mg.num 512).fit l.length) || !(l.take i).all Mg.cRng.fit) wr ∧ FrP wB.heap.size w wr) (fun vi _ => l.length - (intOf vi).toNat)
  case atStart => exact ⟨0, [], Nat.zero_le _, rfl, Mg.WroteL.nil _, HP.out.cast (by simp) (by simp), HF.out⟩
  case round =>
    clear HP HF
    obtain ⟨i, tt, hi, rfl, htt, hp, hf⟩ := hrel
    have HTT := Lib.hid htt
    have HP0 := Lib.hid hp
    have HF0 := Lib.hid hf
    clear htt hp hf
    by_cases hlt : i < l.length
    · have hiI : (0 : Int) ≤ i ∧ (i : Int) < l.length := by omega
      have hbr : Below wB.heap.size wB wr := HB.out.trans (HF0.out.below HB.out.size)
      have HBR := Lib.hid hbr
      obtain ⟨g, o, rfl, hc⟩ := HL.out i (by simpa using hlt)
      obtain ⟨u, hu⟩ : ∃ u, u = l[i]'hlt := ⟨_, rfl⟩
      have e1 : (l.map Mg.Rng.cells)[i]'(by simpa using hlt) = Mg.Rng.cells u := by rw [List.getElem_map, hu]
      rw [e1] at hc
      have hc0 := hc.keep (hbr.block _ hc.lt)
      have hug : u.Good := HOK.out u (by rw [hu]; exact List.getElem_mem _)
      have HUG := Lib.hid hug
      have hlu : l[i]? = some u := by rw [List.getElem?_eq_getElem hlt, hu]
      have HY := Lib.hid hlu
      have hea := Mg.encs_at Mg.cRng hlu
      have HEA := Lib.hid hea
      have HCC := Lib.hid hc
      have huI : (0 : Int) ≤ u.frm ∧ (u.frm : Int) < 18446744073709551616 ∧ (0 : Int) ≤ u.top ∧ (u.top : Int) < 18446744073709551616 := by have := hug.a; have := hug.b; omega
      clear hc e1 hu hug hlt hlu hea hbr
      have hsplit : (Mg.cRng.enc u).length = ((Mg.num 18446744073709551615).enc u.frm).length + (((Mg.num 18446744073709551615).enc u.top).length) := by
        have h1 : Mg.cRng.enc u = (Mg.num 18446744073709551615).enc u.frm ++ ((Mg.num 18446744073709551615).enc u.top) := rfl
        rw [h1]; simp only [List.length_append]
      have HSP := Lib.hid hsplit
      clear hsplit
      have c0 : wr.cell? ⟨g, o + i * 2, none⟩ = some (.int .u64 u.frm) := hc0.cell 0 (by simp)
      clear hc0
      go_wp2_with fail
      refine (pn wB.heap.size k ((bs ++ t0) ++ tt) ((bad || !(Mg.num 512).fit l.length) || !(l.take i).all Mg.cRng.fit) u.frm 18446744073709551615 wr HP0.out HUG.out.a (by decide) (by have k0 := HLN.out; have ka := HEA.out; have kt := HTT.out.1; have ke := HE0.out; have ks := HSP.out; (try simp only [List.length_append] at *); omega)).mono ?_
      rintro e x1 ⟨rfl, ⟨t1, hw, hp⟩, hf⟩
      have HW1 := Lib.hid hw
      have HP1 := Lib.hid hp
      have HF1 := Lib.hid (HF0.out.trans hf)
      clear hw hp hf c0
      have hbx : Below wB.heap.size wB x1 := HB.out.trans (HF1.out.below HB.out.size)
      have hc0 := HCC.out.keep (hbx.block _ HCC.out.lt)
      clear hbx
      have c0 : x1.cell? ⟨g, o + i * 2 + 1, none⟩ = some (.int .u64 u.top) := hc0.cell 1 (by simp)
      clear hc0
      go_wp2_with fail
      refine (pn wB.heap.size k (((bs ++ t0) ++ tt) ++ t1) (((bad || !(Mg.num 512).fit l.length) || !(l.take i).all Mg.cRng.fit) || !(Mg.num 18446744073709551615).fit u.frm) u.top 18446744073709551615 x1 HP1.out HUG.out.b (by decide) (by have k0 := HLN.out; have ka := HEA.out; have kt := HTT.out.1; have ke := HE0.out; have ks := HSP.out; have k1 := HW1.out.1; (try simp only [List.length_append] at *); omega)).mono ?_
      rintro e x2 ⟨rfl, ⟨t2, hw, hp⟩, hf⟩
      have HW2 := Lib.hid hw
      have HP2 := Lib.hid hp
      have HF2 := Lib.hid (HF1.out.trans hf)
      clear hw hp hf c0
      go_wp2_with fail
      go_roundw
      case rel =>
        have hfin : ((((bad || !(Mg.num 512).fit l.length) || !(l.take i).all Mg.cRng.fit) || !(Mg.num 18446744073709551615).fit u.frm) || !(Mg.num 18446744073709551615).fit u.top) = ((bad || !(Mg.num 512).fit l.length) || !(l.take (i + 1)).all Mg.cRng.fit) := by
          rw [Mg.all_nextF Mg.cRng.fit HY.out]
          show _ = ((bad || !(Mg.num 512).fit l.length) || !((l.take i).all Mg.cRng.fit && ((Mg.num 18446744073709551615).fit u.frm && ((Mg.num 18446744073709551615).fit u.top))))
          simp only [Bool.not_and, Bool.or_assoc]
        exact ⟨i + 1, tt ++ (t1 ++ (t2)), by omega, by go_num, HTT.out.next HY.out (Mg.Wrote.seq HW1.out (HW2.out)), HP2.out.cast (by simp only [List.append_assoc]) hfin, HF2.out⟩
      case measure => simp [intOf]; omega
    · obtain rfl : i = l.length := by omega
      go_wp2_with fail
      have htk := HTT.out
      have hp := HP0.out
      rw [List.take_length] at htk hp
      have hfin : ((bad || !(Mg.num 512).fit l.length) || !l.all Mg.cRng.fit) = (bad || !(Mg.list 512 Mg.cRng).fit l) := by
        show _ = (bad || !((Mg.num 512).fit l.length && l.all Mg.cRng.fit))
        simp only [Bool.not_and, Bool.or_assoc]
      exact bodyPost_end (v := .tuple #[]) (by simp [results, Tryz.results58, go_sem]) rfl ⟨rfl, ⟨t0 ++ tt, Mg.Wrote.list HT0.out htk, hp.cast (by rw [List.append_assoc]) hfin⟩, HF0.out⟩

end Go.Proofs.YtjgnomjjphkfbaaGreat
