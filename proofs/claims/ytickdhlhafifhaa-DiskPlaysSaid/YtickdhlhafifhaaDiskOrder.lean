/-
  THE WALK of the statement DiskOrder: a crash leaves a beginning of the calls alone.
-/
import Derived.Test.YtickdhlhafifhaaDiskLaw
import Derived.Deep.RegionHeld3
import Derived.Deep.CutBlock
import Derived.Deep.DeepCutAuto
namespace Go.Proofs.Ytickdhlhafifhaa
open Go.RowKit

attribute [local go_sem ↓ high] appSem_eq

theorem new_two (w : World) : Calls Try.prog 10 #[.int .i64 3, .int .i64 16384] w fun e w' => e = .returned (.tuple #[.pointer (some ⟨w.heap.size, 0, none⟩), .int .i64 0]) ∧ DHas w' w.heap.size (dof []) [w.heap.size] ∧ Below w.heap.size w w' ∧ w.heap.size < w'.heap.size :=
  new_has w 3 16384 (by decide) (by decide) (by decide)
theorem scells_one (x : Xst) : ∀ u ∈ scells x, u.oneCell' = true := by
  intro u hu; simp only [scells, List.mem_cons, List.not_mem_nil, or_false] at hu
  rcases hu with rfl | rfl | rfl | rfl | rfl | rfl <;> rfl
/-- One step more, in a slice of the call's own. -/
theorem app_step (w : World) (sa : Option Addr) (n cap : Nat) (xs : List Value) (hS : SliceIs w 32 6 sa n cap xs) (x : Xst) (hn : n ≤ 1000000) :
    ∃ s' cap' w', (appSem #[22, 22] 22 #[.slice sa n cap, .slice (some ⟨w.heap.size, 0, none⟩) 1 1]).run Try.prog (w.alloc (.cells #[.int .u8 x.kind, .int .i64 x.file, .int .i64 x.n, .int .i64 x.m, .string x.s, .int .u8 (by8 x.b)] 32 (0, 0))) = .ok (.slice s' (n + 1) cap') w' ∧
      SliceIs w' 32 6 s' (n + 1) cap' (xs ++ scells x) ∧ Upd w w' (blks sa) ∧ (∀ k ∈ blks s', k ∈ blks sa ∨ w.heap.size ≤ k) := by
  obtain ⟨i0, hi, hz0, hz1, hz2⟩ := info_parts stepInfo
  have hrow : RowIs (w.alloc (.cells (scells x).toArray 32 (0, 0))) 6 (some ⟨w.heap.size, 0, none⟩) [scells x] := fun i hi => by
    have : i = 0 := by simp at hi; omega
    subst this
    exact ⟨w.heap.size, 0, rfl, CellsAt.new w (scells x) _ (0, 0)⟩
  obtain ⟨s', cap', w', hr, hs, hu, hk⟩ := append_row (P := Try.prog) Try.underlying22 hi hz0 hz1 hz2 rfl (by decide) (w.alloc (.cells (scells x).toArray 32 (0, 0))) sa n cap xs (hS.alloc _) (some ⟨w.heap.size, 0, none⟩) 1 [scells x] hrow (by simp [scells]) (by simpa using scells_one x) (by simp; omega) (by decide) (by simp)
  exact ⟨s', cap', w', hr, by simpa using hs, ((Upd.refl w (blks sa)).alloc _).trans hu (fun k hk => .inl hk), fun k hk' => (hk k hk').imp id fun h => by simp at h; omega⟩
theorem keep_at {w w' : World} {g k : Nat} {v : Value} (hb : Below w.heap.size w w') (h : w.cell? ⟨g, k, none⟩ = some v) (hg : g < w.heap.size) : w'.cell? ⟨g, k, none⟩ = some v := by
  rw [hb.cell hg]; exact h
/-- What has been taken so far. -/
structure OrdI (w wr : World) (l : List Xst) (p q : Nat) (acc : List Xst) (al : Option Addr) (cap : Nat) : Prop where
  row : SliceIs wr 32 6 al acc.length cap (acc.map scells).flatten
  fresh : ∀ x ∈ blks al, w.heap.size ≤ x
  two : Two w wr p (dof acc) q (dof [])
  ok : (dof acc).ok
  good : Good acc
  oks : ∀ x ∈ acc, x.s.size ≤ 4096
theorem OrdI.grow {w wc w3 : World} {l : List Xst} {p q : Nat} {acc : List Xst} {x : Xst} {al s' : Option Addr} {cap capl cap' : Nat} {wr : World} (h : OrdI w wr l p q acc al capl) (hT : Two w wc p (dof (acc ++ [x])) q (dof [])) (hg : goes acc x) (hx : x.s.size ≤ 4096)
    (hS : SliceIs wc 32 6 al acc.length cap (acc.map scells).flatten) (hS3 : SliceIs w3 32 6 s' (acc.length + 1) cap' ((acc.map scells).flatten ++ scells x)) (hU : Upd wc w3 (blks al)) (hk : ∀ k ∈ blks s', k ∈ blks al ∨ wc.heap.size ≤ k) :
    OrdI w w3 l p q (acc ++ [x]) s' cap' := by
  have hok := Dk.write_ok h.ok x.file x.s
  rw [write_goes hg] at hok
  refine ⟨?_, fun k hx => (hk k hx).elim (h.fresh k) (fun h => Nat.le_trans hT.own.size h), hT.grow hS (by decide) (by decide) (by decide) (by decide) hU h.fresh, hok, h.good.snoc hg, ?_⟩
  · rw [List.length_append, List.map_append, List.flatten_append]
    simpa using hS3
  · intro y hy
    rcases List.mem_append.1 hy with hy | hy
    · exact h.oks y hy
    · simp at hy; subst hy; exact hx
theorem OrdI.stay {w wr wc : World} {l : List Xst} {p q : Nat} {acc : List Xst} {al : Option Addr} {capl : Nat} (h : OrdI w wr l p q acc al capl) (hT : Two w wc p (dof acc) q (dof [])) (hS : SliceIs wc 32 6 al acc.length capl (acc.map scells).flatten) : OrdI w wc l p q acc al capl :=
  ⟨hS, h.fresh, hT, h.ok, h.good, h.oks⟩
theorem piece_code2 (s : ByteArray) (y : Nat) : 0 ≤ min (s.size : Int) (y : Int) ∧ min (s.size : Int) (y : Int) ≤ s.size ∧ s.extract 0 (min (s.size : Int) (y : Int)).toNat = Dk.piece s y := by
  refine ⟨by omega, by omega, ?_⟩
  unfold Dk.piece
  congr 1
  omega
/-- The other disk, so far. -/
structure OrdX (w wr : World) (p q : Nat) (acc : List Xst) (al : Option Addr) (cap k y i : Nat) : Prop where
  row : SliceIs wr 32 6 al acc.length cap (acc.map scells).flatten
  two : Two w wr q (dof (upX acc k y i)) p (dof acc)
  ok : (dof (upX acc k y i)).ok
theorem OrdI.other {w wr : World} {l : List Xst} {p q : Nat} {acc : List Xst} {al : Option Addr} {capl : Nat} (h : OrdI w wr l p q acc al capl) (ok0 : (dof []).ok) (k y : Nat) : OrdX w wr p q acc al capl k y 0 :=
  ⟨h.row, h.two.swap, ok0⟩
theorem OrdX.at {w wr : World} {p q : Nat} {acc : List Xst} {al : Option Addr} {cap k y i : Nat} (h : OrdX w wr p q acc al cap k y i) : StepsAt wr al acc :=
  h.row.rowF (by intro x hx; simp only [List.mem_map] at hx; obtain ⟨z, _, rfl⟩ := hx; rfl) (by simp)
/-- One step of the other disk's. -/
theorem OrdX.write {w wr : World} {p q : Nat} {acc A : List Xst} {x : Xst} {al : Option Addr} {cap k y i : Nat} (h : OrdX w wr p q acc al cap k y i) (h1 : upX acc k y i = A) (h2 : upX acc k y (i + 1) = A ++ [x]) (hg : goes A x) (hl : A.length ≤ 1000) (hx : x.s.size ≤ 4096) :
    Calls Try.prog 11 #[.pointer (some ⟨q, 0, none⟩), .int .i64 x.file, .string x.s] wr fun e w' => e = .returned (.int .i64 0) ∧ OrdX w w' p q acc al cap k y (i + 1) := by
  have ht := h.two
  have hok := h.ok
  rw [h1] at ht hok
  have hok2 := Dk.write_ok hok x.file x.s
  have hw := ht.write hok (by simp [dof]; omega) x.file x.s (by omega)
  rw [write_goes hg] at hw hok2
  refine hw.mono ?_
  rintro e w' ⟨rfl, hT, F, ⟨G, hF, hG⟩, hU⟩
  exact ⟨rfl, hF.row hU h.row (by decide) (by decide), by rw [h2]; exact hT, by rw [h2]; exact hok2⟩
/-- Three texts of a slice. -/
theorem three_at {w : World} {a : Option Addr} {cap : Nat} {t0 t1 t2 : ByteArray} (h : SliceIs w 9 1 a 3 cap ([t0, t1, t2].map Value.string)) :
    ∃ g off, a = some ⟨g, off, none⟩ ∧ g < w.heap.size ∧ w.cell? ⟨g, off, none⟩ = some (.string t0) ∧ w.cell? ⟨g, off + 1, none⟩ = some (.string t1) ∧ w.cell? ⟨g, off + 2, none⟩ = some (.string t2) := by
  rcases h.2 with ⟨_, h0, _⟩ | ⟨g, off, cur, rfl, hg, r⟩
  · cases h0
  · have hc := h.cells
    exact ⟨g, off, rfl, hc.lt, hc.cell 0 (by simp), hc.cell 1 (by simp), hc.cell 2 (by simp)⟩
theorem ssum_get {l : List Xst} (h : ssum l ≤ 4096) (x : Xst) (hx : x ∈ l) : x.s.size ≤ 4096 := by
  induction l with
  | nil => cases hx
  | cons y r ih =>
    have e : ssum (y :: r) = y.s.size + ssum r := by simp [ssum]
    rcases List.mem_cons.1 hx with rfl | hx
    · omega
    · exact ih (by omega) hx
theorem OrdI.start {w wr : World} {l : List Xst} {p q : Nat} (h : Two w wr p (dof []) q (dof [])) (ok : (dof []).ok) : OrdI w wr l p q [] none 0 := ⟨SliceIs.nil _ _ _, by simp, h, ok, Good.nil, by simp⟩
theorem heavy_no {l : List Xst} (h : heavyB l = false) : ssum l ≤ 4096 ∧ l.length ≤ 100 := by
  unfold heavyB at h
  simp only [Bool.or_eq_false_iff, decide_eq_false_iff_not] at h
  omega

set_option maxRecDepth 20000 in
set_option maxHeartbeats 2000000 in
theorem diskOrder_any (w : World) (a : Option Addr) (cap : Nat) (l : List Xst) (n1 n2 : Nat) (h : StepsAt w a l) (ok : ∀ x ∈ l, okX x) (hl : l.length ≤ 9223372036854775807) (h1 : n1 < 256) (h2 : n2 < 65536) :
    Calls Try.prog 3 #[.slice a l.length cap, .int .u8 n1, .int .u16 n2] w fun e w' => e = .returned (.bool true) ∧ Below w.heap.size w w' := by
  have HH := Lib.hid (heavy_any w a cap l h ok hl)
  have HR := Lib.hid h
  have hlI : (0 : Int) ≤ l.length ∧ (l.length : Int) ≤ 9223372036854775807 := by omega
  have hnI : (0 : Int) ≤ n1 ∧ (n1 : Int) ≤ 255 ∧ (0 : Int) ≤ n2 ∧ (n2 : Int) ≤ 65535 := by omega
  clear h ok hl h1 h2
  go_enter Try.func3, Try.ntmps3
  go_wp2_with fail
  refine HH.out.mono ?_
  rintro e w1 ⟨rfl, hw⟩
  subst w1
  cases hhv : heavyB l with
  | true =>
    clear hhv HH
    go_wp2_with fail
    refine (alive09 w).mono ?_
    rintro e w2 ⟨rfl, hb⟩
    have HB := Lib.hid hb
    clear hb
    go_wp2_with fail
    go_ret
    exact ⟨rfl, HB.out⟩
  | false =>
    have HHV := Lib.hid (heavy_no hhv)
    clear hhv HH
    go_wp2_with fail
    refine (new_two w).mono ?_
    rintro e w1 ⟨rfl, hd, hb1, hlt1⟩
    have HD := Lib.hid hd
    have HB1 := Lib.hid hb1
    have HLT1 := Lib.hid hlt1
    clear hd hb1 hlt1
    go_wp2_with fail
    refine (new_two w1).mono ?_
    rintro e w2 ⟨rfl, hx, hb2, hlt2⟩
    have hT : Two w w2 w.heap.size (dof []) w1.heap.size (dof []) := ⟨⟨[w.heap.size], [w1.heap.size], HD.out.own hb2, hx, by simp; have := HLT1.out; omega, by simp, by simp; have := HLT1.out; omega⟩, (((Own.refl w).trans HB1.out).trans hb2)⟩
    have HT := Lib.hid hT
    clear hx hb2 hlt2 hT HD HB1 HLT1
    generalize w.heap.size = p at HT ⊢
    generalize w1.heap.size = q at HT ⊢
    have hOk0 : (dof []).ok := Dk.new_ok 3 16384 (by decide) (by decide) (by decide)
    have HOK0 := Lib.hid hOk0
    clear hOk0
    go_wp2_with fail
    go_loopw [11, 12] (fun vl vi wr => ∃ (k : Nat) (acc : List Xst) (al : Option Addr) (capl : Nat), k ≤ l.length ∧ vi = .int .i64 k ∧ vl = .slice al acc.length capl ∧ acc.length ≤ k ∧ OrdI w wr l p q acc al capl) (fun _ vi _ => l.length - (intOf vi).toNat)
    case atStart => exact ⟨0, [], none, 0, Nat.zero_le _, rfl, rfl, Nat.zero_le _, OrdI.start HT.out HOK0.out⟩
    case round =>
      clear HT
      obtain ⟨k, acc, al, capl, hk, rfl, rfl, hak, hI⟩ := hrel
      have HI := Lib.hid hI
      have HAK := Lib.hid hak
      clear hak
      by_cases hlt : k < l.length
      · obtain ⟨g, off, rfl, hg, c0, c1, c2, c3, c4, c5⟩ := HR.out.at k hlt
        have hkI : (0 : Int) ≤ k ∧ (k : Int) < l.length := by omega
        have hsz := ssum_get HHV.out.1 l[k] (List.getElem_mem hlt)
        generalize l[k] = x at *
        have hbw := hI.two.own.below
        have hlen : acc.length ≤ 100 := by have := HAK.out; have := HHV.out.2; omega
        have hW := (hI.two.keep ((Below.refl wr.heap.size wr).drew)).write hI.ok (by simp [dof]; omega) x.file x.s (by omega)
        have d1 := keep_at hbw c1 hg
        have d4 := keep_at hbw c4 hg
        have HC := Lib.hid (And.intro hg (And.intro c0 (And.intro c1 (And.intro c2 (And.intro c3 (And.intro c4 c5))))))
        have HSZ := Lib.hid hsz
        have HLEN := Lib.hid hlen
        clear c0 c1 c2 c3 c4 c5 hg hbw hsz hlen hI
        by_cases hgo : goes acc x
        · rw [write_goes hgo] at hW
          have HW := Lib.hid hW
          have HGO := Lib.hid hgo
          clear hW hgo
          go_upto_region 11 with (fail)
          go_cut [61] (fun v wx => v = .bool true ∧ Two w wx p (dof (acc ++ [x])) q (dof []) ∧ SliceIs wx 32 6 al acc.length capl (acc.map scells).flatten)
          case first =>
            go_region_held3 (fun w' => w'.cell? ⟨g, off + k * 6 + 1, none⟩ = some (.int .i64 x.file) ∧ w'.cell? ⟨g, off + k * 6 + 4, none⟩ = some (.string x.s)) (first | (with_reducible exact ⟨d1, d4⟩) | (with_reducible exact ⟨d1', d4'⟩) | exact ⟨d1, d4⟩)
              (first
              | (go_at_call 11
                 (with_reducible refine HW.out.mono ?_)
                 rintro e w3 ⟨rfl, hT3, F, ⟨G, hF, hG⟩, hU3⟩
                 have hb3 := hT3.own.below
                 have d1' := keep_at hb3 HC.out.2.2.1 HC.out.1
                 have d4' := keep_at hb3 HC.out.2.2.2.2.2.1 HC.out.1
                 have HS3 := Lib.hid (hF.row hU3 HI.out.row.drew (by decide) (by decide))
                 have HT3 := Lib.hid hT3
                 clear hb3 hT3 hF hG hU3))
            all_goals
              go_wp2_with fail
              go_meet
              exact ⟨rfl, HT3.out, HS3.out⟩
          case rest =>
            obtain ⟨rfl, hT, hS⟩ := hcut
            have hb := hT.own.below
            have d0 := keep_at hb HC.out.2.1 HC.out.1
            have d1 := keep_at hb HC.out.2.2.1 HC.out.1
            have d2 := keep_at hb HC.out.2.2.2.1 HC.out.1
            have d3 := keep_at hb HC.out.2.2.2.2.1 HC.out.1
            have d4 := keep_at hb HC.out.2.2.2.2.2.1 HC.out.1
            have d5 := keep_at hb HC.out.2.2.2.2.2.2 HC.out.1
            obtain ⟨s', cap', w4, hr, hS4, hU4, hk4⟩ := app_step wc al acc.length capl _ hS x (by have := HLEN.out; omega)
            have HO4 := Lib.hid (HI.out.grow hT HGO.out HSZ.out hS hS4 hU4 hk4)
            clear hT hS hb hS4 hU4 hk4 HW
            go_wp2_with fail
            go_roundw
            case rel => exact ⟨k + 1, acc ++ [x], s', cap', by omega, by go_num, by rw [List.length_append]; rfl, by have := HAK.out; rw [List.length_append]; simp; omega, HO4.out⟩
            case measure => simp [intOf]; omega
        · obtain ⟨e, he, he0, he1⟩ := write_stays hgo
          rw [he] at hW
          have HW := Lib.hid hW
          have heI : ((e : Int) == 0) = false := by rw [beq_eq_false_iff_ne]; omega
          clear hW hgo he he0 he1
          go_upto_region 11 with (fail)
          go_cut [61] (fun v wx => v = .bool false ∧ Two w wx p (dof acc) q (dof []) ∧ SliceIs wx 32 6 al acc.length capl (acc.map scells).flatten)
          case first =>
            go_region_held3 (fun w' => w'.cell? ⟨g, off + k * 6 + 1, none⟩ = some (.int .i64 x.file) ∧ w'.cell? ⟨g, off + k * 6 + 4, none⟩ = some (.string x.s)) (first | (with_reducible exact ⟨d1, d4⟩) | (with_reducible exact ⟨d1', d4'⟩) | exact ⟨d1, d4⟩)
              (first
              | (go_at_call 11
                 (with_reducible refine HW.out.mono ?_)
                 rintro e w3 ⟨rfl, hT3, F, ⟨G, hF, hG⟩, hU3⟩
                 have hb3 := hT3.own.below
                 have d1' := keep_at hb3 HC.out.2.2.1 HC.out.1
                 have d4' := keep_at hb3 HC.out.2.2.2.2.2.1 HC.out.1
                 have HS3 := Lib.hid (hF.row hU3 HI.out.row.drew (by decide) (by decide))
                 have HT3 := Lib.hid hT3
                 clear hb3 hT3 hF hG hU3))
            all_goals
              go_wp2_with fail
              go_meet
              exact ⟨rfl, HT3.out, HS3.out⟩
          case rest =>
            obtain ⟨rfl, hT, hS⟩ := hcut
            have HO4 := Lib.hid (HI.out.stay hT hS)
            clear hT hS HW d1 d4
            go_wp2_with fail
            go_roundw
            case rel => exact ⟨k + 1, acc, al, capl, by omega, by go_num, rfl, by have := HAK.out; omega, HO4.out⟩
            case measure => simp [intOf]; omega
      · obtain rfl : k = l.length := by omega
        have HLEN : Hid (acc.length ≤ 100) := Lib.hid (by have := HAK.out; have := HHV.out.2; omega)
        have haI : (0 : Int) ≤ acc.length ∧ (acc.length : Int) ≤ 100 := by have := HLEN.out; omega
        clear hI HAK
        have HX0 := Lib.hid (HI.out.other HOK0.out n1 n2)
        go_upto_block 2 with (fail)
        go_cut [14] (fun _ wx => Two w wx q (dof (xof acc n1 n2)) p (dof acc) ∧ (dof (xof acc n1 n2)).ok)
        case first =>
          go_wp2_with fail
          go_loopw [14] (fun vi wr => ∃ i : Nat, i ≤ acc.length ∧ i ≤ n1 + 1 ∧ vi = .int .i64 i ∧ OrdX w wr p q acc al capl n1 n2 i) (fun vi _ => acc.length - (intOf vi).toNat)
          case atStart => exact ⟨0, Nat.zero_le _, Nat.zero_le _, rfl, HX0.out⟩
          case round =>
            clear HX0
            obtain ⟨i, hi, hi1, rfl, hX⟩ := hrel
            have HX := Lib.hid hX
            clear hX
            by_cases hlt : i < acc.length
            · have hiI : (0 : Int) ≤ i ∧ (i : Int) < acc.length := by omega
              obtain ⟨ga, off, rfl, hg, c0, c1, c2, c3, c4, c5⟩ := HX.out.at.at i hlt
              have hsz := HI.out.oks acc[i] (List.getElem_mem hlt)
              have hgo := HI.out.good i hlt
              have htl : (acc.take i).length ≤ 1000 := by have := HLEN.out; rw [List.length_take]; omega
              rcases Nat.lt_trichotomy i n1 with h1 | h1 | h1
              · have hu := upX_lt (y := n2) h1 hlt
                have HW := Lib.hid (HX.out.write hu.1 hu.2 hgo htl hsz)
                have hL : (i : Int) ≤ n1 := by omega
                have hE : ((i : Int) == (n1 : Int)) = false := by rw [beq_eq_false_iff_ne]; omega
                clear hu hgo htl hsz h1
                generalize acc[i] = x at *
                go_wp2_with fail
                refine HW.out.mono ?_
                rintro e w4 ⟨rfl, hX4⟩
                have HX4 := Lib.hid hX4
                clear hX4
                go_wp2_with fail
                go_roundw
                case rel => exact ⟨i + 1, by omega, by omega, by go_num, HX4.out⟩
                case measure => simp [intOf]; omega
              · subst h1
                have hu := upX_eq (y := n2) hlt
                have HW := Lib.hid (HX.out.write (x := cutX acc[i] n2) hu.1 hu.2 (goes_cut hgo n2) htl (by have := Dk.piece_size acc[i].s n2; show (Dk.piece acc[i].s n2).size ≤ 4096; omega))
                have hmin := fun w => run_min2 Try.prog w 3 acc[i].s.size n2
                obtain ⟨pc1, pc2, pc3⟩ := piece_code2 acc[i].s n2
                have hcf : (cutX acc[i] n2).file = acc[i].file := rfl
                have hcs : (cutX acc[i] n2).s = Dk.piece acc[i].s n2 := rfl
                rw [hcf, hcs] at HW
                clear hu hgo htl hcf hcs
                have hszI : (acc[i].s.size : Int) ≤ 4096 := by omega
                clear hsz
                generalize acc[i] = x at *
                generalize min (x.s.size : Int) (n2 : Int) = mm at *
                generalize Dk.piece x.s n2 = pc at *
                go_wp2_with fail
                refine HW.out.mono ?_
                rintro e w4 ⟨rfl, hX4⟩
                have HX4 := Lib.hid hX4
                clear hX4
                go_wp2_with fail
                go_roundw
                case rel => exact ⟨i + 1, by omega, by omega, by go_num, HX4.out⟩
                case measure => simp [intOf]; omega
              · have hL : ¬ (i : Int) ≤ n1 := by omega
                have hL2 : (n1 : Int) < i := by omega
                have hu := upX_end (y := n2) (acc := acc) (.inr h1) hi
                have h2 := HX.out.two
                have h3 := HX.out.ok
                rw [hu] at h2 h3
                have HE := Lib.hid (And.intro h2 h3)
                clear hu h2 h3 hgo htl hsz h1 c0 c1 c2 c3 c4 c5
                go_wp2_with fail
                go_meet
                exact HE.out
            · obtain rfl : i = acc.length := by omega
              have hu := upX_end (k := n1) (y := n2) (acc := acc) (.inl rfl) (Nat.le_refl _)
              have h2 := HX.out.two
              have h3 := HX.out.ok
              rw [hu] at h2 h3
              have HE := Lib.hid (And.intro h2 h3)
              clear hu h2 h3
              go_wp2_with fail
              go_meet
              exact HE.out
        case rest =>
          obtain ⟨hT, hok⟩ := hcut
          have HC := Lib.hid (hT.swap.crash HI.out.ok (by have := HLEN.out; simp [dof]; omega) n1 n2)
          have HOKX := Lib.hid hok
          clear hT hok
          go_wp2_with fail
          refine HC.out.mono ?_
          rintro e w4 ⟨rfl, hT4⟩
          obtain ⟨F, G, hF, hG, _, _, _⟩ := hT4.ex
          have hok4 := Dk.crash_ok HI.out.ok n1 n2
          have hn4 : (Dk.crash (dof acc) n1 n2).n = 3 := by show (Dk.crashed _ _ _ _).length = 3; rw [Dk.crashed_length]; rfl
          have hF1 := fil_any hF hok4 (by show (-1 : Int) ≠ 0; decide)
          rw [hn4] at hF1
          have HF1 := Lib.hid hF1
          have HG := Lib.hid hG
          have HO4 := Lib.hid hT4.own
          clear hT4 hF hG hok4 hn4 hF1 HC
          go_wp2_with fail
          refine HF1.out.mono ?_
          rintro e w5 ⟨s1, k1, rfl, hS1, hb5, hf5⟩
          have hn5 : (dof (xof acc n1 n2)).n = 3 := rfl
          have hF2 := fil_any (HG.out.own hb5) HOKX.out (by show (-1 : Int) ≠ 0; decide)
          rw [hn5, ← crash_xof] at hF2
          have HF2 := Lib.hid hF2
          have HO5 := Lib.hid (HO4.out.trans hb5)
          have HS1 := Lib.hid hS1
          clear hS1 hb5 hf5 hn5 hF2 HF1
          go_wp2_with fail
          refine HF2.out.mono ?_
          rintro e w6 ⟨s2, k2, rfl, hS2, hb6, hf6⟩
          have HO6 := Lib.hid (HO5.out.trans hb6)
          have hS1 := HS1.out.keep fun q hq => hb6.block q (HS1.out.lt q hq)
          have hnl : (Dk.crash (dof acc) n1 n2).now.length = 3 := by show (Dk.crashed _ _ _ _).length = 3; rw [Dk.crashed_length]; rfl
          clear hf6 hb6 HF2
          generalize (Dk.crash (dof acc) n1 n2).now = nl at *
          match nl, hnl with
          | [t0, t1, t2], _ =>
          obtain ⟨g1, o1, rfl, hg1, x0, x1, x2⟩ := three_at hS1
          obtain ⟨g2, o2, rfl, hg2, y0, y1, y2⟩ := three_at hS2
          have HX := Lib.hid (And.intro hg1 (And.intro x0 (And.intro x1 x2)))
          have HY := Lib.hid (And.intro hg2 (And.intro y0 (And.intro y1 y2)))
          clear hS1 hS2 HS1 hg1 hg2
          go_wp2_with fail
          go_region_held3 (fun w' => w'.cell? ⟨g1, o1, none⟩ = some (.string t0) ∧ w'.cell? ⟨g1, o1 + 1, none⟩ = some (.string t1) ∧ w'.cell? ⟨g1, o1 + 2, none⟩ = some (.string t2) ∧ w'.cell? ⟨g2, o2, none⟩ = some (.string t0) ∧ w'.cell? ⟨g2, o2 + 1, none⟩ = some (.string t1) ∧ w'.cell? ⟨g2, o2 + 2, none⟩ = some (.string t2))
            (first | (with_reducible exact ⟨x0, x1, x2, y0, y1, y2⟩) | (with_reducible exact ⟨x0', x1', x2', y0', y1', y2'⟩) | exact ⟨x0, x1, x2, y0, y1, y2⟩)
            (first
            | (go_at_call 9
               (with_reducible refine (alive09 _).mono ?_)
               rintro e w7 ⟨rfl, hb7⟩
               have x0' := keep_at hb7 HX.out.2.1 HX.out.1
               have x1' := keep_at hb7 HX.out.2.2.1 HX.out.1
               have x2' := keep_at hb7 HX.out.2.2.2 HX.out.1
               have y0' := keep_at hb7 HY.out.2.1 HY.out.1
               have y1' := keep_at hb7 HY.out.2.2.1 HY.out.1
               have y2' := keep_at hb7 HY.out.2.2.2 HY.out.1
               have HO7 := Lib.hid (HO6.out.drew.trans hb7)
               clear hb7))
          all_goals
            go_wp2_with fail
            go_ret
            exact ⟨rfl, HO7.out.below⟩

end Go.Proofs.Ytickdhlhafifhaa
