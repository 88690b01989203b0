/-
  THE WALK of the answer's All: an insertion, one by one.
-/
import Derived.Test.YtjanjjkgnilhoaaGreatDoorLkRfM
namespace Go.Proofs.YtjanjjkgnilhoaaGreatDoor
open Go.RowKit Go.Maps

theorem run_cutl_lo (w : World) (a : Option Addr) (len cap l : Nat) (hl : l ≤ len) :
    (Instr.slice 31 (.slice a len cap) (some (.int .i64 (l : Int))) none none).run Tryz.prog w = .ok (.slice (cutAddr a cap l 6) (len - l) (cap - l)) w :=
  run_cut_l (P := Tryz.prog) (size := 6) w Tryz.underlying31 (fun w => by kernel_rfl) a len cap l l rfl hl
theorem run_cuth_lo (w : World) (a : Option Addr) (len cap h : Nat) (hh : h ≤ cap) :
    (Instr.slice 31 (.slice a len cap) none (some (.int .i64 (h : Int))) none).run Tryz.prog w = .ok (.slice a h cap) w :=
  run_cut_h (P := Tryz.prog) (size := 6) w Tryz.underlying31 (fun w => by kernel_rfl) a len cap h h rfl hh
theorem SliceIs.noCap {w : World} {e : TypeId} {size n cap : Nat} {xs : List Value} (h : SliceIs w e size none n cap xs) : n = 0 ∧ cap = 0 := by
  rcases h.2 with ⟨_, h1, h2⟩ | ⟨g, off, cur, h', _⟩
  · exact ⟨h1, h2⟩
  · cases h'
theorem RowIs.takeR {w : World} {size : Nat} {a : Option Addr} {xs : List (List Value)} (h : RowIs w size a xs) (k : Nat) : RowIs w size a (xs.take k) := fun j hj => by
  have hj' : j < xs.length := by simp at hj; omega
  obtain ⟨g', off', ha, hc⟩ := h j hj'
  exact ⟨g', off', ha, by simpa using hc⟩
/-- What lies behind a cut. -/
theorem OL.dropR {w W : World} {E : TypeId} {size : Nat} {s : Option Addr} {cap : Nat} {xs : List (List Value)} (h : OL w W E size s cap xs) (k : Nat) (hk : k ≤ xs.length) : RowIs W size (cutAddr s cap k size) (xs.drop k) ∧ (cutAddr s cap k size = none → cap - k = 0) := by
  have hcap := h.sl.bound.1
  unfold cutAddr
  by_cases hc : cap = k
  · rw [if_pos hc, List.drop_eq_nil_of_le (by omega)]
    exact ⟨RowIs.nil _ _ _, fun _ => by omega⟩
  · rw [if_neg hc]
    cases s with
    | none =>
      have := h.sl.noCap
      omega
    | some ad =>
      obtain ⟨g, off, e⟩ : ∃ g off, ad = ⟨g, off, none⟩ := by
        rcases h.sl.2 with ⟨h', _⟩ | ⟨g', off', cur, h', _⟩
        · cases h'
        · cases h'; exact ⟨_, _, rfl⟩
      subst e
      have hd := h.sl.drop k hk
      rw [flat_drop size xs h.all] at hd
      rw [show (some (⟨g, off, none⟩ : Addr)).map (·.add (k * size)) = some ⟨g, off + k * size, none⟩ by simp [Addr.add_lit]]
      exact ⟨hd.rowF (fun x hx => h.all x (List.mem_of_mem_drop hx)) (by simp), fun e => by cases e⟩
/-- One lock set in behind the k-th. -/
theorem lo_ins {w W : World} (hO : Own w.heap.size w W) {s : Option Addr} {cap : Nat} {l : List (Tb.Tx × LV)} (h : OL w W 59 6 s cap (l.map ecells)) (hn : l.length ≤ 10000) (k : Nat) (hk : k ≤ l.length) (e : Tb.Tx × LV) :
    ∃ s1 c1 W1 s2 c2 W2 s3 c3 W3, (appSem #[31, 31] 31 #[.slice (some ⟨W.heap.size, 0, none⟩) 1 1, .slice (cutAddr s cap k 6) (l.length - k) (cap - k)]).run Tryz.prog (W.alloc (.cells #[.int .u64 e.1.life, .int .u64 e.1.n, .int .u8 e.2.kind, .string e.2.p, .int .u64 e.2.frm, .int .u64 e.2.top] 59 (0, 0))) = .ok (.slice s1 (1 + (l.length - k)) c1) W1 ∧
      (appSem #[31, 31] 31 #[.slice (some ⟨W1.heap.size, 0, none⟩) 0 0, .slice s k cap]).run Tryz.prog (W1.alloc (.cells #[] 59 (0, 0))) = .ok (.slice s2 k c2) W2 ∧
      (appSem #[31, 31] 31 #[.slice s2 k c2, .slice s1 (1 + (l.length - k)) c1]).run Tryz.prog W2 = .ok (.slice s3 (l.length + 1) c3) W3 ∧
      OL w W3 59 6 s3 c3 ((l.take k ++ e :: l.drop k).map ecells) ∧ Own w.heap.size w W3 := by
  obtain ⟨i, hi, hz, hsize, hby⟩ := lo_info
  have ht := Tryz.underlying31
  have hoz : (Value.agg #[.int .u64 0, .int .u64 0, .int .u8 0, .string ⟨#[]⟩, .int .u64 0, .int .u64 0]).cells.size = 6 := rfl
  -- the lock and what lies behind
  have hb1 : Below W.heap.size W (W.alloc (.cells (ecells e).toArray 59 (0, 0))) := ((Own.refl W).alloc _).below
  obtain ⟨hd1, hd2⟩ := (h.keep hb1).dropR k (by simpa using hk)
  have hdl : ((l.map ecells).drop k).length = l.length - k := by simp
  have hS1 : SliceIs (W.alloc (.cells (ecells e).toArray 59 (0, 0))) 59 6 (some ⟨W.heap.size, 0, none⟩) 1 1 (ecells e) := SliceIs.new W 59 6 1 (ecells e) rfl (by decide)
  obtain ⟨s1, c1, W1, hr1, hT1, hU1, hB1⟩ := append_row (T := 31) ht hi hz hsize hby hoz (by decide) _ _ 1 1 _ hS1 (cutAddr s cap k 6) (cap - k) ((l.map ecells).drop k) hd1 (fun x hx => ecells_len l x (List.mem_of_mem_drop hx)) (fun x hx => ecells_one l x (List.mem_of_mem_drop hx)) (by rw [hdl]; omega) (by decide) hd2
  rw [hdl] at hr1 hT1
  have K1 : Keeps W W1 none s1 := by
    refine ⟨((Upd.refl W []).alloc _).trans hU1 (fun x hx => by simp at hx; exact .inr (by omega)), fun b hb => ?_⟩
    rcases hB1 b hb with h2 | h2
    · simp at h2; exact .inr (by omega)
    · simp at h2; exact .inr (by omega)
  obtain ⟨h1, _⟩ := h.other K1 (Apart.none _)
  -- what lies ahead
  have hb2 : Below W1.heap.size W1 (W1.alloc (.cells #[] 59 (0, 0))) := ((Own.refl W1).alloc _).below
  have h2 := h1.keep hb2
  have htl : ((l.map ecells).take k).length = k := by simp; omega
  obtain ⟨s2, c2, W2, hr2, hT2, hU2, hB2⟩ := append_row (T := 31) ht hi hz hsize hby hoz (by decide) _ _ 0 0 _ (SliceIs.new W1 59 6 0 [] rfl (by decide)) s cap ((l.map ecells).take k) (h2.row.takeR k) (fun x hx => ecells_len l x (List.mem_of_mem_take hx)) (fun x hx => ecells_one l x (List.mem_of_mem_take hx)) (by rw [htl]; omega) (by decide) (fun e => by subst e; exact h2.sl.noCap.2)
  rw [htl, Nat.zero_add] at hr2 hT2
  have K2 : Keeps W1 W2 none s2 := by
    refine ⟨((Upd.refl W1 []).alloc _).trans hU2 (fun x hx => by simp at hx; exact .inr (by omega)), fun b hb => ?_⟩
    rcases hB2 b hb with h2 | h2
    · simp at h2; exact .inr (by omega)
    · simp at h2; exact .inr (by omega)
  -- both
  have hrow3 : RowIs W2 6 s1 (ecells e :: (l.map ecells).drop k) := by
    have hT1' : SliceIs W2 59 6 s1 (1 + (l.length - k)) c1 (ecells e ++ ((l.map ecells).drop k).flatten) := hT1.keep fun b hb => K2.upd.keep b (hT1.lt b hb) (by simp)
    refine SliceIs.rowF (xs := ecells e :: (l.map ecells).drop k) (by rw [List.flatten_cons]; exact hT1') (fun x hx => ?_) (by simp; omega)
    rcases List.mem_cons.1 hx with rfl | hx
    · rfl
    · exact ecells_len l x (List.mem_of_mem_drop hx)
  have hone : ∀ x ∈ ecells e :: (l.map ecells).drop k, ∀ u ∈ x, u.oneCell' = true := fun x hx => by
    rcases List.mem_cons.1 hx with rfl | hx
    · exact ecells_one [e] _ (by simp)
    · exact ecells_one l x (List.mem_of_mem_drop hx)
  have hlen : ∀ x ∈ ecells e :: (l.map ecells).drop k, x.length = 6 := fun x hx => by
    rcases List.mem_cons.1 hx with rfl | hx
    · rfl
    · exact ecells_len l x (List.mem_of_mem_drop hx)
  have hcl : (ecells e :: (l.map ecells).drop k).length = 1 + (l.length - k) := by simp; omega
  obtain ⟨s3, c3, W3, hr3, hT3, hU3, hB3⟩ := append_row (T := 31) ht hi hz hsize hby hoz (by decide) W2 s2 k c2 _ hT2 s1 c1 (ecells e :: (l.map ecells).drop k) hrow3 hlen hone (by rw [hcl]; omega) (by decide) (fun e => by subst e; exact hT1.noCap.2)
  rw [hcl, show k + (1 + (l.length - k)) = l.length + 1 by omega] at hr3 hT3
  have K := (K1.trans (s := none) ⟨K2.upd.mono (by simp), fun b hb => by
    rcases K2.new b hb with h2 | h2
    · simp at h2
    · exact .inr h2⟩).trans ⟨hU3, hB3⟩
  refine ⟨s1, c1, W1, s2, c2, W2, s3, c3, W3, hr1, hr2, hr3, ⟨?_, K.far (by simp) hO.size, fun x hx => ecells_len _ x hx⟩, K.own (by simp) hO⟩
  have e1 : ((l.take k ++ e :: l.drop k).map ecells).length = l.length + 1 := by simp; omega
  have e2 : ((l.take k ++ e :: l.drop k).map ecells).flatten = ([] ++ ((l.map ecells).take k).flatten) ++ (ecells e :: (l.map ecells).drop k).flatten := by simp
  rw [e1, e2]
  exact hT3

attribute [local go_sem ↓ high] appSem_eq
set_option maxRecDepth 20000 in
set_option maxHeartbeats 8000000 in
theorem rall_any {w : World} {p : Nat} {X : Lh.St} (h : RfAt w p X) (hX : X.length ≤ 4096) :
    Calls Tryz.prog 16 #[.pointer (some ⟨p, 0, none⟩)] w fun e w' => (∃ s cap, e = .returned (.slice s (Lh.all X).length cap) ∧ OL w w' 59 6 s cap ((Lh.all X).map ecells)) ∧ Below w.heap.size w w' := by
  have HR0 := Lib.hid h
  have HXL := Lib.hid hX
  have hXI : (0 : Int) ≤ X.length ∧ (X.length : Int) ≤ 4096 := by omega
  obtain ⟨s, cap, hbx, hrow⟩ := h.row
  have HBX := Lib.hid hbx
  have HROW := Lib.hid hrow
  clear h hX hbx hrow
  go_enter Tryz.func16, Tryz.ntmps16
  go_wp2_with fail
  go_loopw [4, 3] (fun vi vo wr => ∃ (i : Nat) (s2 : Option Addr) (c2 : Nat), i ≤ X.length ∧ vi = .int .i64 i ∧ vo = .slice s2 (Lh.all (X.take i)).length c2 ∧ OL w wr 59 6 s2 c2 ((Lh.all (X.take i)).map ecells) ∧ Own w.heap.size w wr) (fun vi _ _ => X.length - (intOf vi).toNat)
  case atStart => exact ⟨0, none, 0, Nat.zero_le _, rfl, rfl, OL.nil _ _ _ _, Own.refl _⟩
  case round =>
    obtain ⟨i, s2, c2, hi, rfl, rfl, hOL, hO⟩ := hrel
    have HOL := Lib.hid hOL
    have HO := Lib.hid hO
    clear hOL hO
    have hbx := (HO.out.below.block _ (blk_lt HBX.out)).trans HBX.out
    have e0 : wr.cell? ⟨p, 0, none⟩ = some (.slice s X.length cap) := by rw [cell_of_row _ _ _ _ _ _ hbx]; rfl
    by_cases hlt : i < X.length
    · have hiI : (0 : Int) ≤ i ∧ (i : Int) < X.length := by omega
      obtain ⟨gx, ox, hsx, _⟩ := row_cells HROW.out i hlt
      subst hsx
      obtain ⟨y, hy⟩ : ∃ y, y = X[i]'hlt := ⟨_, rfl⟩
      have HTK : Hid (X.take (i + 1) = X.take i ++ [y]) := Lib.hid (by rw [hy, List.take_append_getElem hlt])
      have hal : (Lh.all (X.take i)).length ≤ 4096 := by
        have h1 := Lh.all_len (X.take i)
        have h2 := HXL.out
        simp at h1; omega
      have HAL := Lib.hid hal
      have HSN : Hid (∀ k, k ≤ (Lh.all (X.take i)).length → (∀ j (h : j < (Lh.all (X.take i)).length), k ≤ j → Tb.lt y.1 (Lh.all (X.take i))[j].1 = true) → (k = 0 ∨ ∃ h : k - 1 < (Lh.all (X.take i)).length, Tb.lt y.1 (Lh.all (X.take i))[k - 1].1 = false) →
          Lh.all (X.take (i + 1)) = (Lh.all (X.take i)).take k ++ y :: (Lh.all (X.take i)).drop k) := Lib.hid (fun k h0 h1 h2 => by
        rw [HTK.out]; exact Lh.all_snoc (X.take i) y.1 y.2 k h0 h1 h2)
      generalize hA : Lh.all (X.take i) = A at *
      have haI : (0 : Int) ≤ A.length ∧ (A.length : Int) ≤ 4096 := by omega
      have HSC : Hid (∀ wz, Below w.heap.size w wz → wz.cell? ⟨p, 0, none⟩ = some (.slice (some ⟨gx, ox, none⟩) X.length cap) ∧ wz.cell? ⟨gx, ox + i * 6, none⟩ = some (.int .u64 y.1.life) ∧ wz.cell? ⟨gx, ox + i * 6 + 1, none⟩ = some (.int .u64 y.1.n) ∧ wz.cell? ⟨gx, ox + i * 6 + 2, none⟩ = some (.int .u8 y.2.kind) ∧ wz.cell? ⟨gx, ox + i * 6 + 3, none⟩ = some (.string y.2.p) ∧ wz.cell? ⟨gx, ox + i * 6 + 4, none⟩ = some (.int .u64 y.2.frm) ∧ wz.cell? ⟨gx, ox + i * 6 + 5, none⟩ = some (.int .u64 y.2.top)) := Lib.hid (fun wz hb => by
        obtain ⟨g1, o1, e1, h1⟩ := row_cells (HROW.out.keep hb) i hlt
        cases e1
        rw [← hy] at h1
        have q1 := (hb.block _ (blk_lt HBX.out)).trans HBX.out
        refine ⟨?_, h1⟩
        rw [cell_of_row _ _ _ _ _ _ q1]; rfl)
      obtain ⟨wo, hwo⟩ : ∃ wo, wo = wr := ⟨_, rfl⟩
      subst hwo
      clear hy hA hal hbx HTK
      go_wp2_with fail
      clear e0
      go_loopw [5] (fun vk wr => ∃ k : Nat, k ≤ A.length ∧ vk = .int .i64 k ∧ (∀ j (h : j < A.length), k ≤ j → Tb.lt y.1 A[j].1 = true) ∧ Below wo.heap.size wo wr) (fun vk _ => (intOf vk).toNat)
      case atStart => exact ⟨A.length, Nat.le_refl _, rfl, fun j h hj => by omega, Below.refl _ _⟩
      case round =>
        obtain ⟨k, hk, rfl, hj, hb⟩ := hrel
        have HJ := Lib.hid hj
        have HB := Lib.hid hb
        clear hj hb
        have hkI : (0 : Int) ≤ k ∧ (k : Int) ≤ A.length := by omega
        have HKL := Lib.hid hk
        obtain ⟨b, hb1, hb2, hb3⟩ : ∃ b : Bool, (k = 0 → b = false) ∧ (∀ h : k - 1 < A.length, 0 < k → b = Tb.lt y.1 A[k - 1].1) ∧ (b = true → 0 < k) := by
          by_cases h0 : k = 0
          · exact ⟨false, fun _ => rfl, fun _ h => by omega, fun h => by cases h⟩
          · exact ⟨Tb.lt y.1 (A[k - 1]'(by omega)).1, fun h => absurd h h0, fun _ _ => rfl, fun _ => by omega⟩
        have HB1 := Lib.hid hb1
        have HB2 := Lib.hid hb2
        have HB3 := Lib.hid hb3
        clear hb1 hb2 hb3 hk
        go_wp2_with fail
        go_cut [36] (fun v wx => v = .bool b ∧ Below wo.heap.size wo wx)
        case first =>
          by_cases h0 : k = 0
          · subst h0
            have hbf := HB1.out rfl
            subst hbf
            clear HB1 HB2 HB3
            go_region
            all_goals
              go_wp2_with fail
              go_meet
              exact ⟨rfl, (HB.out.trans (Below.refl _ wr).drew)⟩
          · obtain ⟨m, hmk⟩ : ∃ m, k = m + 1 := ⟨k - 1, by omega⟩
            have hm : m < A.length := by have := HKL.out; omega
            obtain ⟨z, hz⟩ : ∃ z, z = A[m]'hm := ⟨_, rfl⟩
            have hbz : b = Tb.lt y.1 z.1 := by
              subst hmk
              rw [hz]; exact HB2.out hm (by omega)
            subst hbz
            have hmI : (0 : Int) ≤ m ∧ (m : Int) < A.length := by omega
            have hkm : (k : Int) - 1 = m := by omega
            have hk0 : (0 : Int) < k := by omega
            have hk1 : decide (0 < k) = true := decide_eq_true (by omega)
            have hwr : IntKind.i64.wrap ((k : Int) - 1) = (m : Int) := by rw [IntKind.wrap_i64]; omega
            clear HB1 HB2 HB3 h0 hmk hkm
            obtain ⟨g2, o2, hs2, _⟩ := row_cells HOL.out.row m hm
            subst hs2
            have HSC2 : Hid (∀ wz, Below wo.heap.size wo wz → (wz.cell? ⟨p, 0, none⟩ = some (.slice (some ⟨gx, ox, none⟩) X.length cap) ∧ wz.cell? ⟨gx, ox + i * 6, none⟩ = some (.int .u64 y.1.life) ∧ wz.cell? ⟨gx, ox + i * 6 + 1, none⟩ = some (.int .u64 y.1.n)) ∧ wz.cell? ⟨g2, o2 + m * 6, none⟩ = some (.int .u64 z.1.life) ∧ wz.cell? ⟨g2, o2 + m * 6 + 1, none⟩ = some (.int .u64 z.1.n)) := Lib.hid (fun wz hb => by
              obtain ⟨q0, q1, q2, _⟩ := HSC.out wz (HO.out.trans hb).below
              obtain ⟨g1, o1, e1, c0, c1, _⟩ := row_cells (HOL.out.row.keep hb) m hm
              cases e1
              rw [← hz] at c0 c1
              exact ⟨⟨q0, q1, q2⟩, c0, c1⟩)
            have hS0 := HSC2.out wr.drew HB.out.drew
            have HBF := Lib.hid (fun wz => before_any y.1 z.1 wz)
            clear hz
            go_region_held3 (fun wz => (wz.cell? ⟨p, 0, none⟩ = some (.slice (some ⟨gx, ox, none⟩) X.length cap) ∧ wz.cell? ⟨gx, ox + i * 6, none⟩ = some (.int .u64 y.1.life) ∧ wz.cell? ⟨gx, ox + i * 6 + 1, none⟩ = some (.int .u64 y.1.n)) ∧ wz.cell? ⟨g2, o2 + m * 6, none⟩ = some (.int .u64 z.1.life) ∧ wz.cell? ⟨g2, o2 + m * 6 + 1, none⟩ = some (.int .u64 z.1.n))
              (first | exact hS0 | exact hS1 | fail)
              (first
              | (go_at_call 34
                 (with_reducible refine (HBF.out _).mono ?_)
                 rintro x w9 ⟨rfl, hb9⟩
                 have HB9 := Lib.hid (HB.out.drew.trans (hb9.mono HB.out.size))
                 have hS1 := HSC2.out _ HB9.out
                 clear hb9))
            all_goals
              go_wp2_with fail
              go_meet
              exact ⟨rfl, HB9.out⟩
        case rest =>
        obtain ⟨rfl, hb9⟩ := hcut
        have HB9 := Lib.hid hb9
        clear hb9
        cases b with
        | true =>
          have hk0 := HB3.out rfl
          obtain ⟨m, rfl⟩ : ∃ m, k = m + 1 := ⟨k - 1, by omega⟩
          have hm : m < A.length := by have := HKL.out; omega
          have hltz := HB2.out hm (by omega)
          have HLZ := Lib.hid hltz
          clear hltz hk0
          go_wp2_with fail
          go_roundw
          case rel => exact ⟨m, by omega, by go_num, fun j h hj => by
            by_cases e : j = m
            · subst e; exact HLZ.out.symm
            · exact HJ.out j h (by omega), HB9.out⟩
          case measure => simp [intOf]
        | false =>
          have HEND := Lib.hid (HSN.out k HKL.out HJ.out (by
            by_cases h0 : k = 0
            · exact .inl h0
            · have hm : k - 1 < A.length := by have := HKL.out; omega
              exact .inr ⟨hm, (HB2.out hm (by omega)).symm⟩))
          have HO8 := Lib.hid (HO.out.trans HB9.out)
          obtain ⟨s1, c1, W1, s3, c3, W2, s4, c4, W3, r1, r2, r3, hOL4, hO4⟩ := lo_ins HO8.out.drew (HOL.out.keep (HB9.out.trans (Below.refl _ wc).drew)) (by have := HAL.out; omega) k HKL.out y
          have r1' : (appSem #[31, 31] 31 #[.slice (some ⟨wc.heap.size, 0, none⟩) 1 1, .slice (cutAddr s2 c2 k 6) (A.length - k) (c2 - k)]).run Tryz.prog ((wc.alloc (.cells #[.int .u64 y.1.life, .int .u64 y.1.n, .int .u8 y.2.kind, .string y.2.p, .int .u64 y.2.frm, .int .u64 y.2.top] 59 (0, 0))).drew) = .ok (.slice s1 (1 + (A.length - k)) c1) W1 := r1
          have hcl : ∀ w, _ := fun w => run_cutl_lo w s2 A.length c2 k HKL.out
          have hch : ∀ w, _ := fun w => run_cuth_lo w s2 A.length c2 k (by have h1 := HOL.out.sl.bound.1; have h2 := HKL.out; rw [List.length_map] at h1; omega)
          obtain ⟨q0, q1, q2, q3, q4, q5, q6⟩ := HSC.out wc.drew HO8.out.drew.below
          have HOL4 := Lib.hid hOL4
          have HO4 := Lib.hid hO4
          generalize cutAddr s2 c2 k 6 = Ak at *
          clear HB1 HB2 HB3 HSN HJ r1 hOL4 hO4
          go_wp2_with fail
          go_region
          all_goals
            clear q0 q1 q2 q3 q4 q5 q6 r1' hcl
            go_wp2_with fail
            go_roundw
            case rel => exact ⟨i + 1, s4, c4, by omega, by go_num, by rw [HEND.out]; simp; have := HKL.out; omega, by rw [HEND.out]; exact HOL4.out, HO4.out⟩
            case measure => simp [intOf]; omega
    · obtain rfl : i = X.length := by omega
      have hol := HOL.out
      rw [List.take_length] at hol
      have HOL2 := Lib.hid hol
      clear hol hbx HOL
      simp only [List.take_length]
      go_wp2_with fail
      go_ret
      exact ⟨⟨s2, c2, rfl, HOL2.out⟩, HO.out.below⟩

end Go.Proofs.YtjanjjkgnilhoaaGreatDoor
