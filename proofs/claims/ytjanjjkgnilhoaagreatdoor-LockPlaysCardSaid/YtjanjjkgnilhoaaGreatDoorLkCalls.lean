/-
  CALLS THAT WERE HANDED IN: a slice of them, each with a row of locks, opened; and Heavy.
-/
import Derived.Test.YtjanjjkgnilhoaaGreatDoorLkAlive
import Derived.Test.YtjanjjkgnilhoaaGreatDoorLkArgs
import Derived.Test.YtjanjjkgnilhoaaGreatDoorRowMore
namespace Go.Proofs.YtjanjjkgnilhoaaGreatDoor
open Go.RowKit Go.Maps

/-- A call. -/
structure CV where
  dodo : Nat
  t : Tb.Tx
  a : Option Addr
  cap : Nat
  l : List LV
instance : Inhabited LV := ⟨⟨0, ⟨#[]⟩, 0, 0⟩⟩
instance : Inhabited CV := ⟨⟨0, ⟨0, 0⟩, none, 0, []⟩⟩
def CV.cells (c : CV) : List Value := [.int .u8 c.dodo, .int .u64 c.t.life, .int .u64 c.t.n, .slice c.a c.l.length c.cap]
structure okC (w : World) (c : CV) : Prop where
  dodo : c.dodo < 256
  tx : In c.t
  ok : ∀ y ∈ c.l, okL y ∧ y.p.size ≤ 140737488351232
  row : RowIs w 4 c.a (c.l.map LV.cells)
  len : c.l.length ≤ 140737488351232
  nil : c.a = none → c.cap = 0
structure CallsAt (w : World) (a : Option Addr) (l : List CV) : Prop where
  ok : ∀ c ∈ l, okC w c
  row : RowIs w 4 a (l.map CV.cells)
  len : l.length ≤ 140737488351232
theorem okC.keep {w w' : World} {c : CV} (h : okC w c) (hb : Below w.heap.size w w') : okC w' c := ⟨h.dodo, h.tx, h.ok, h.row.keep hb, h.len, h.nil⟩
theorem CallsAt.keep {w w' : World} {a : Option Addr} {l : List CV} (h : CallsAt w a l) (hb : Below w.heap.size w w') : CallsAt w' a l := ⟨fun c hc => (h.ok c hc).keep hb, h.row.keep hb, h.len⟩

section
open Go.ChangeShapes Go.WideShapes Go.ChangeAt
variable {H : Type} {enc : TypeId × Value → H} {w : World} {base : Nat} {spare : Nat → Bool} {held : Bool}
set_option maxRecDepth 20000 in
theorem open_locke (fuel : Nat) (cs : List Value) (x : DataW H × List MemPlace) (h : DataW.trod enc Tryz.prog w base spare held fuel 25 cs = some x) (hw : ∀ n ∈ x.1.weights Tryz.prog 25, n ≤ 140737488351232) : ∃ c : LV, (okL c ∧ c.p.size ≤ 140737488351232) ∧ cs = c.cells := by
  obtain ⟨xs, n, _, hx, hl, hlen, hf⟩ := DataW.trod_struct Tryz.underlying25 h
  rw [show Tryz.prog.cellsOf 25 = 4 by kernel_rfl] at hl
  match xs, hlen, cs, hl with
  | [y0, y1, y2, y3], _, [c0, c1, c2, c3], _ =>
    have k0 : Tryz.prog.cellsOf 5 = 1 := by kernel_rfl
    have k1 : Tryz.prog.cellsOf 23 = 1 := by kernel_rfl
    have k2 : Tryz.prog.cellsOf 9 = 1 := by kernel_rfl
    obtain ⟨n0, e0, _, w0⟩ := DataW.trod_int Tryz.underlying5 (hf 0 _ rfl)
    obtain ⟨n1, e1, hy, _⟩ := DataW.trod_string Tryz.underlying9 (hf 1 _ rfl)
    obtain ⟨n2, e2, _, w2⟩ := DataW.trod_int Tryz.underlying23 (hf 2 _ rfl)
    obtain ⟨n3, e3, _, w3⟩ := DataW.trod_int Tryz.underlying23 (hf 3 _ rfl)
    obtain ⟨u0, rfl, hu0⟩ := nat8_of_wf w0
    obtain ⟨u2, rfl, hu2⟩ := nat64_of_wf w2
    obtain ⟨u3, rfl, hu3⟩ := nat64_of_wf w3
    have hz : n1.size ≤ 140737488351232 := by
      refine hw _ ?_
      rw [hx]
      simp only [DataW.weights, Tryz.underlying25, hy]
      exact DataW.weights_mem_each (j := 1) rfl rfl _ (by simp [DataW.weights])
    refine ⟨⟨u0, n1, u2, u3⟩, ⟨⟨(show u0 < 256 by omega), (show u2 < 18446744073709551616 by omega), (show u3 < 18446744073709551616 by omega)⟩, hz⟩, ?_⟩
    clear h hf
    simp_all [LV.cells]
set_option maxRecDepth 20000 in
theorem open_callc (fuel : Nat) (cs : List Value) (x : DataW H × List MemPlace) (h : DataW.trod enc Tryz.prog w base spare held fuel 38 cs = some x) (hw : ∀ n ∈ x.1.weights Tryz.prog 38, n ≤ 140737488351232) : ∃ c : CV, okC w c ∧ cs = c.cells := by
  obtain ⟨xs, n, _, hx, hl, hlen, hf⟩ := DataW.trod_struct Tryz.underlying38 h
  rw [show Tryz.prog.cellsOf 38 = 4 by kernel_rfl] at hl
  match xs, hlen, cs, hl with
  | [y0, y1, y2], _, [c0, c1, c2, c3], _ =>
    have k0 : Tryz.prog.cellsOf 5 = 1 := by kernel_rfl
    have k1 : Tryz.prog.cellsOf 23 = 1 := by kernel_rfl
    have k2 : Tryz.prog.cellsOf 35 = 2 := by kernel_rfl
    have k3 : Tryz.prog.cellsOf 36 = 1 := by kernel_rfl
    obtain ⟨n0, e0, _, w0⟩ := DataW.trod_int Tryz.underlying5 (hf 0 _ rfl)
    obtain ⟨zs, n', _, _, hl2, hlen2, hf2⟩ := DataW.trod_struct Tryz.underlying35 (hf 1 _ rfl)
    obtain ⟨a, cap, l, hcs, hok, hrow, hlc, hcm, hlb, hnil⟩ := open_row_more (size := 4) LV.cells (fun c : LV => okL c ∧ c.p.size ≤ 140737488351232) 140737488351232 Tryz.underlying36 (by kernel_rfl) (by decide) open_locke (hf 2 _ rfl) (fun k hk => hw k (by
      rw [hx]
      simp only [DataW.weights, Tryz.underlying38]
      exact DataW.weights_mem_each (j := 2) rfl rfl _ hk))
    match zs, hlen2 with
    | [z0, z1], _ =>
      obtain ⟨n1, e1, _, w1⟩ := DataW.trod_int Tryz.underlying23 (hf2 0 _ rfl)
      obtain ⟨n2, e2, _, w2⟩ := DataW.trod_int Tryz.underlying23 (hf2 1 _ rfl)
      obtain ⟨u0, rfl, hu0⟩ := nat8_of_wf w0
      obtain ⟨u1, rfl, hu1⟩ := nat64_of_wf w1
      obtain ⟨u2, rfl, hu2⟩ := nat64_of_wf w2
      have hlz : l.length ≤ 140737488351232 := by
        rw [show Tryz.prog.bytesOf 25 = 40 by kernel_rfl] at hlb
        omega
      refine ⟨⟨u0, ⟨u1, u2⟩, a, cap, l⟩, ⟨(show u0 < 256 by omega), ⟨(show u1 < 18446744073709551616 by omega), (show u2 < 18446744073709551616 by omega)⟩, hok, hrow, hlz, hnil⟩, ?_⟩
      clear h hf hf2
      simp_all [CV.cells]
set_option maxRecDepth 20000 in
theorem open_calls {v : Value} {r : Reach} {b0 : Nat} (hv : Value.okWide Tryz.prog w r b0 22 v) {fuel : Nat} {x : DataW H × List MemPlace} (h : DataW.trod enc Tryz.prog w base spare held fuel 22 v.cells.toList = some x)
    (hw : ∀ n ∈ x.1.weights Tryz.prog 22, n ≤ 140737488351232) : ∃ (a : Option Addr) (cap : Nat) (l : List CV), v = .slice a l.length cap ∧ CallsAt w a l := by
  obtain ⟨aa, nn, cc, rfl⟩ := Go.WideShapes.okWide_slice Tryz.underlying22 hv
  obtain ⟨a, cap, l, hcs, hok, hrow, hlc, hcm, hlb, _⟩ := open_row_more (size := 4) CV.cells (okC w) 140737488351232 Tryz.underlying22 (by kernel_rfl) (by decide) open_callc h hw
  have hcs' : (Value.slice aa nn cc) = .slice a l.length cap := by simpa [Value.cells] using hcs
  refine ⟨a, cap, l, hcs', hok, hrow, ?_⟩
  rw [show Tryz.prog.bytesOf 38 = 48 by kernel_rfl] at hlb
  omega
end

/-- How many locks are asked for in all. -/
def asked (l : List CV) : Nat := (l.map fun c => c.l.length).sum
theorem asked_snoc (l : List CV) (c : CV) : asked (l ++ [c]) = asked l + c.l.length := by simp [asked]
theorem asked_app (l m : List CV) : asked (l ++ m) = asked l + asked m := by simp [asked]
theorem asked_le {l : List CV} : ∀ (i : Nat), asked (l.take i) ≤ asked l := fun i => by
  conv => rhs; rw [← List.take_append_drop i l, asked_app]
  exact Nat.le_add_right _ _
theorem asked_bound : ∀ {l : List CV} {B : Nat}, (∀ c ∈ l, c.l.length ≤ B) → asked l ≤ l.length * B
  | [], _, _ => by simp [asked]
  | c :: l, B, h => by
    have := asked_bound (l := l) (fun x hx => h x (List.mem_cons_of_mem _ hx))
    have h2 := h c (by simp)
    simp only [asked, List.map_cons, List.sum_cons, List.length_cons] at *
    rw [Nat.succ_mul]; omega
def long (c : CV) : Bool := c.l.any fun y => decide (300 < y.p.size)
def heavy (l : List CV) : Bool := l.any long || decide (100 < asked l) || decide (60 < l.length)

theorem call_at {w : World} {a : Option Addr} {l : List CV} (h : CallsAt w a l) (i : Nat) (hi : i < l.length) : ∃ g off, a = some ⟨g, off, none⟩ ∧
    w.cell? ⟨g, off + i * 4, none⟩ = some (.int .u8 (l[i]'hi).dodo) ∧ w.cell? ⟨g, off + i * 4 + 1, none⟩ = some (.int .u64 (l[i]'hi).t.life) ∧ w.cell? ⟨g, off + i * 4 + 2, none⟩ = some (.int .u64 (l[i]'hi).t.n) ∧ w.cell? ⟨g, off + i * 4 + 3, none⟩ = some (.slice (l[i]'hi).a (l[i]'hi).l.length (l[i]'hi).cap) := by
  obtain ⟨g, off, ha, hc⟩ := h.row i (by simpa using hi)
  have hce : (l.map CV.cells)[i]'(by simpa using hi) = CV.cells (l[i]'hi) := by rw [List.getElem_map]
  rw [hce] at hc
  exact ⟨g, off, ha, hc.cell 0 (by simp [CV.cells]), hc.cell 1 (by simp [CV.cells]), hc.cell 2 (by simp [CV.cells]), hc.cell 3 (by simp [CV.cells])⟩

set_option maxRecDepth 20000 in
set_option maxHeartbeats 8000000 in
theorem heavy_any (a : Option Addr) (cap : Nat) (l : List CV) (w : World) (h : CallsAt w a l) : Calls Tryz.prog 4 #[.slice a l.length cap] w fun e w' => e = .returned (.bool (heavy l)) ∧ w' = w := by
  have HC := Lib.hid h
  have hlI : (0 : Int) ≤ l.length ∧ (l.length : Int) ≤ 140737488351232 := by have := h.len; omega
  have HB : Hid (l.length ≤ 60 → ∀ i, asked (l.take i) ≤ 8444249301073920) := Lib.hid (fun h60 i => by
    have h1 := asked_bound (l := l) (fun c hc => (h.ok c hc).len)
    have h2 := asked_le (l := l) i
    have : l.length * 140737488351232 ≤ 60 * 140737488351232 := Nat.mul_le_mul_right _ h60
    omega)
  obtain ⟨R, hR⟩ : ∃ R, R = heavy l := ⟨_, rfl⟩
  rw [← hR]
  have HR := Lib.hid hR
  clear h hR
  go_enter Tryz.func4, Tryz.ntmps4
  go_wp2_with fail
  go_loopw [3, 4] (fun vn vi wr => ∃ (i : Nat) (z : Int), i ≤ l.length ∧ vi = .int .i64 i ∧ vn = .int .i64 z ∧ (l.length ≤ 60 → z = asked (l.take i)) ∧ (∀ k (hk : k < l.length), k < i → long l[k] = false) ∧ wr = w) (fun _ vi _ => l.length - (intOf vi).toNat)
  case atStart => exact ⟨0, 0, Nat.zero_le _, rfl, rfl, fun _ => by simp [asked], fun k _ h => by omega, rfl⟩
  case round =>
    obtain ⟨i, z, hi, rfl, rfl, hz, hk, hw⟩ := hrel
    subst wr
    have HZ := Lib.hid hz
    have HK := Lib.hid hk
    clear hz hk
    by_cases hlt : i < l.length
    · obtain ⟨g, off, rfl, c0, c1, c2, c3⟩ := call_at HC.out i hlt
      have hiI : (0 : Int) ≤ i ∧ (i : Int) < l.length := by omega
      obtain ⟨c, hc⟩ : ∃ c, c = l[i]'hlt := ⟨_, rfl⟩
      have HCE := Lib.hid hc
      have hok := HC.out.ok c (by rw [hc]; exact List.getElem_mem _)
      rw [← hc] at c0 c1 c2 c3
      have HOK := Lib.hid hok
      have hcl : (0 : Int) ≤ c.l.length ∧ (c.l.length : Int) ≤ 140737488351232 := by have := hok.len; omega
      have hz2 : Hid (l.length ≤ 60 → wrap64 (z + c.l.length) = asked (l.take (i + 1))) := Lib.hid (fun h60 => by
        have h1 := HB.out h60 (i + 1)
        have h2 := HZ.out h60
        have e : asked (l.take (i + 1)) = asked (l.take i) + c.l.length := by rw [← List.take_append_getElem hlt, asked_snoc, ← hc]
        rw [h2, e]
        unfold wrap64
        rw [e] at h1
        omega)
      clear hc hok c0 c1 c2
      go_wp2_with fail
      generalize wrap64 (z + c.l.length) = z2 at *
      go_loopw [5] (fun vj wr => ∃ j : Nat, j ≤ c.l.length ∧ vj = .int .i64 j ∧ (∀ k (hk : k < c.l.length), k < j → (c.l[k]).p.size ≤ 300) ∧ wr = w) (fun vj _ => c.l.length - (intOf vj).toNat)
      case atStart => exact ⟨0, Nat.zero_le _, rfl, fun k _ h => by omega, rfl⟩
      case round =>
        obtain ⟨j, hj, rfl, hk, hw⟩ := hrel
        subst wr
        have HJ := Lib.hid hk
        clear hk
        by_cases hlj : j < c.l.length
        · obtain ⟨g2, off2, ha2, hc2⟩ := HOK.out.row j (by simpa using hlj)
          have hjI : (0 : Int) ≤ j ∧ (j : Int) < c.l.length := by omega
          obtain ⟨y, hy⟩ : ∃ y, y = c.l[j]'hlj := ⟨_, rfl⟩
          have hce : (c.l.map LV.cells)[j]'(by simpa using hlj) = LV.cells y := by rw [List.getElem_map, hy]
          rw [hce] at hc2
          have d1 : w.cell? ⟨g2, off2 + j * 4 + 1, none⟩ = some (.string y.p) := hc2.cell 1 (by simp [LV.cells])
          have HY := Lib.hid hy
          have hys : (0 : Int) ≤ y.p.size ∧ (y.p.size : Int) ≤ 140737488351232 := by have := (HOK.out.ok y (by rw [hy]; exact List.getElem_mem _)).2; omega
          rw [ha2] at c3
          clear hce hc2 hy
          by_cases h3 : 300 < y.p.size
          · have h3I : (300 : Int) < y.p.size := by omega
            have hlong : R = true := by
              rw [HR.out]
              unfold heavy
              have : l.any long = true := List.any_eq_true.2 ⟨c, by rw [HCE.out]; exact List.getElem_mem _, List.any_eq_true.2 ⟨y, by rw [HY.out]; exact List.getElem_mem _, decide_eq_true h3⟩⟩
              rw [this]; rfl
            have HLG := Lib.hid hlong
            clear hlong h3
            go_wp2_with fail
            go_ret
            exact ⟨by rw [HLG.out]; rfl, rfl⟩
          · have h3I : (y.p.size : Int) ≤ 300 := by omega
            have HN3 : Hid (y.p.size ≤ 300) := Lib.hid (by omega)
            clear h3
            go_wp2_with fail
            go_roundw
            case rel =>
              refine ⟨j + 1, by omega, by go_num, fun k h hk => ?_, (by first | trivial | rfl)⟩
              by_cases e : k = j
              · subst e; rw [← HY.out]; exact HN3.out
              · exact HJ.out k h (by omega)
            case measure => simp [intOf]; omega
        · obtain rfl : j = c.l.length := by omega
          go_wp2_with fail
          go_roundw
          case rel =>
            refine ⟨i + 1, z2, by omega, by go_num, (by first | trivial | rfl), hz2.out, fun k h hk => ?_, (by first | trivial | rfl)⟩
            by_cases e : k = i
            · subst e
              rw [← HCE.out]
              unfold long
              rw [Bool.eq_false_iff]
              intro ht
              obtain ⟨y, hy, h3⟩ := List.any_eq_true.1 ht
              obtain ⟨q, hq, rfl⟩ := List.getElem_of_mem hy
              have := HJ.out q hq hq
              have := of_decide_eq_true h3
              omega
            · exact HK.out k h (by omega)
          case measure => simp [intOf]; omega
    · obtain rfl : i = l.length := by omega
      have hany : l.any long = false := by
        rw [Bool.eq_false_iff]
        intro ht
        obtain ⟨c, hc, h3⟩ := List.any_eq_true.1 ht
        obtain ⟨q, hq, rfl⟩ := List.getElem_of_mem hc
        rw [HK.out q hq hq] at h3; cases h3
      have hRR : R = (decide (100 < asked l) || decide (60 < l.length)) := by rw [HR.out]; unfold heavy; rw [hany]; rfl
      have HRR := Lib.hid hRR
      clear hRR hany hi hlt
      by_cases h60 : 60 < l.length
      · have h60I : (60 : Int) < l.length := by omega
        have HT : Hid (R = true) := Lib.hid (by rw [HRR.out, decide_eq_true h60]; simp)
        clear h60
        by_cases h100 : (100 : Int) < z
        · go_wp2_with fail
          go_ret
          exact ⟨by rw [HT.out]; rfl, rfl⟩
        · go_wp2_with fail
          go_ret
          exact ⟨by rw [HT.out]; rfl, rfl⟩
      · have h60I : ¬ (60 : Int) < l.length := by omega
        have hz := HZ.out (by omega)
        rw [List.take_length] at hz
        have HT : Hid (R = decide (100 < asked l)) := Lib.hid (by rw [HRR.out, decide_eq_false h60]; simp)
        clear h60 HZ
        by_cases h100 : 100 < asked l
        · have h100I : (100 : Int) < asked l := by omega
          subst hz
          have HT2 : Hid (R = true) := Lib.hid (by rw [HT.out, decide_eq_true h100])
          clear h100
          go_wp2_with fail
          go_ret
          exact ⟨by rw [HT2.out]; rfl, rfl⟩
        · have h100I : ¬ (100 : Int) < asked l := by omega
          subst hz
          have HT2 : Hid (R = false) := Lib.hid (by rw [HT.out, decide_eq_false h100])
          clear h100
          go_wp2_with fail
          go_ret
          exact ⟨by rw [HT2.out]; rfl, rfl⟩

end Go.Proofs.YtjanjjkgnilhoaaGreatDoor
