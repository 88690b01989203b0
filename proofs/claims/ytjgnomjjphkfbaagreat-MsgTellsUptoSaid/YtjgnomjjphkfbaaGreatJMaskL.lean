/-
  Joined out of the texts MsgMaskL.
-/
import Derived.Test.YtjgnomjjphkfbaaGreatJMay
import Derived.Test.YtjgnomjjphkfbaaGreatJHeavy
import Derived.Test.YtjgnomjjphkfbaaGreatJTurned
import Derived.Test.YtjgnomjjphkfbaaGreatJRqS
import Derived.Test.YtjgnomjjphkfbaaGreatJRdL
import Derived.Deep.DeepCutAuto
import Derived.Deep.RegionHeld3
/-
  A MASKED MESSAGE: it may be just if the message may, has as many bytes, is masked by being masked again no more, and hangs on no byte of a text behind its first five: the law's walk.
-/
namespace Go.Proofs.YtjgnomjjphkfbaaGreat
open Go.RowKit

namespace Mg
theorem hide_good {t : ByteArray} (h : okT t) : okT (hide t) := by
  unfold okT at *
  rw [hide_size]
  exact h
theorem hideV_good {v : Ver} (h : v.Good) : (hideV v).Good := ⟨h.a, h.b, hide_good h.c⟩
theorem hideE_good {v : Ed} (h : v.Good) : (hideE v).Good := ⟨h.a, h.b, h.d, h.e, hide_good h.f⟩
theorem hideG_good {v : Got} (h : v.Good) : (hideG v).Good := ⟨hideV_good h.a, h.b⟩
theorem hideR_good {v : Row} (h : v.Good) : (hideR v).Good := ⟨h.a, h.b, fun u hu => (by
  obtain ⟨q, hq, rfl⟩ := List.mem_map.1 hu
  exact hideV_good (h.c q hq)), by show (v.l.map hideV).length ≤ 100000; rw [List.length_map]; exact h.d⟩
theorem map_good {α : Type} {f : α → α} {Q : α → Prop} (h : ∀ a, Q a → Q (f a)) {l : List α} (hl : (∀ a ∈ l, Q a) ∧ l.length ≤ 100000) : (∀ a ∈ l.map f, Q a) ∧ (l.map f).length ≤ 100000 :=
  ⟨fun a ha => (by obtain ⟨q, hq, rfl⟩ := List.mem_map.1 ha; exact h q (hl.1 q hq)), by rw [List.length_map]; exact hl.2⟩
theorem mask_good {x : Msg} (h : x.Good) : (mask x).Good :=
  ⟨h.kind, h.tx, h.low, h.map, h.parts, h.shard, h.reads, h.readAt, map_good (f := hideE) (Q := Ed.Good) (fun _ => hideE_good) h.edits, h.editAt, h.pre, h.range, map_good (f := hideR) (Q := Row.Good) (fun _ => hideR_good) h.rows, h.next, h.own, h.err, h.tshard, map_good (f := hideG) (Q := Got.Good) (fun _ => hideG_good) h.got, h.numbers, h.names, h.state⟩
theorem may_mask (x : Msg) : may (mask x) = may x := by
  unfold may
  rw [mask_fit, mask_len]
theorem encR_mask (x : Msg) : ∃ (tx tm : ByteArray) (ex : Int), encR x = .tuple #[.string tx, .int .i64 ex] ∧ encR (mask x) = .tuple #[.string tm, .int .i64 ex] ∧ tx.size = tm.size ∧ tx.size ≤ 65536 := by
  cases h : may x with
  | true =>
    refine ⟨_, _, _, encR_may h, encR_may (by rw [may_mask]; exact h), ?_, ?_⟩
    · rw [← L_size, ← L_size, L_S, L_S, mask_len]
    · rw [← L_size, L_S]; exact (may_fit h).2
  | false => exact ⟨_, _, _, encR_not h, encR_not (by rw [may_mask]; exact h), rfl, by decide⟩
/-- A message with other edits and other texts that were got. -/
def put (x : Msg) (es : List Ed) (gs : List Got) : Msg := { x with ask := { x.ask with edits := es }, told := { x.told with got := gs } }
theorem put_good {x : Msg} {es : List Ed} {gs : List Got} (h : x.Good) (h1 : (∀ a ∈ es, a.Good) ∧ es.length ≤ 100000) (h2 : (∀ a ∈ gs, a.Good) ∧ gs.length ≤ 100000) : (put x es gs).Good :=
  ⟨h.kind, h.tx, h.low, h.map, h.parts, h.shard, h.reads, h.readAt, h1, h.editAt, h.pre, h.range, h.rows, h.next, h.own, h.err, h.tshard, h2, h.numbers, h.names, h.state⟩
theorem put_mask {x : Msg} {es : List Ed} {gs : List Got} (h1 : es.map hideE = x.ask.edits.map hideE) (h2 : gs.map hideG = x.told.got.map hideG) : mask (put x es gs) = mask x := by
  unfold mask put
  simp only [h1, h2]
theorem turn_E {u : Ed} {r : ByteArray} (h1 : (L r).take 5 = (L u.t).take 5) (h2 : (L r).length = (L u.t).length) : hideE { u with t := r } = hideE u := by
  unfold hideE
  rw [hide_of h1 h2]
theorem turn_G {u : Got} {r : ByteArray} (h1 : (L r).take 5 = (L u.v.t).take 5) (h2 : (L r).length = (L u.v.t).length) : hideG { u with v := { u.v with t := r } } = hideG u := by
  unfold hideG hideV
  rw [hide_of h1 h2]
theorem map_next {α β : Type} {f : α → β} {es l : List α} {i : Nat} {u d : α} (h : es.map f = (l.take i).map f) (hu : l[i]? = some u) (hd : f d = f u) : (es ++ [d]).map f = (l.take (i + 1)).map f := by
  rw [List.take_add_one, hu, List.map_append, List.map_append, h]
  simp [hd]
theorem all_next {α : Type} {Q : α → Prop} {es : List α} {d : α} (h : ∀ e ∈ es, Q e) (hd : Q d) : ∀ e ∈ es ++ [d], Q e := fun e he => by
  rcases List.mem_append.1 he with h1 | h1
  · exact h e h1
  · rw [List.mem_singleton.1 h1]; exact hd
end Mg

theorem below_upd {w W W2 : World} {F : List Nat} (h : Below w.heap.size w W) (u : Upd W W2 F) (hF : ∀ b ∈ F, w.heap.size ≤ b) : Below w.heap.size w W2 :=
  ⟨u.os.trans h.os, u.tape.trans h.tape, u.output.trans h.output, Nat.le_trans h.size u.size, fun i hi => (u.keep i (by have := h.size; omega) (fun hb => by have := hF i hb; omega)).trans (h.block i hi)⟩

attribute [local go_sem ↓ high] ldMsg_eq
attribute [local go_sem ↓ high] neq_bool
attribute [local go_sem ↓ high] appSem_eq
set_option maxRecDepth 20000 in
set_option maxHeartbeats 16000000 in
theorem maskl_any (hS : SameAny) (s : MS) (x : Mg.Msg) (which by0 : Nat) (w : World) (ha : MsgA w s x) (fa : x.Fine) (hwh : which ≤ 255) (hby : by0 ≤ 255) :
    Calls Tryz.prog 6 #[.agg (MV s x), .int .u8 which, .int .u8 by0] w fun e w' => e = .returned (.bool true) ∧ Below w.heap.size w w' := by
  obtain ⟨bb, hbb⟩ : ∃ bb : UInt8, (by0 : Int) = by8 bb := ⟨UInt8.ofNat by0, by unfold by8; simp; omega⟩
  rw [hbb]
  clear hbb hby
  obtain ⟨w0, hw0⟩ : ∃ w0, w0 = w.alloc (.cells (MV s x) 43 (0, 0)) := ⟨_, rfl⟩
  have HW0 := Lib.hid hw0
  have HB1 : Hid (w0.heap[w.heap.size]? = some (.cells (MV s x) 43 (0, 0))) := Lib.hid (by rw [hw0]; exact heap_alloc_new w _)
  have HBW : Hid (Below w.heap.size w w0) := Lib.hid (by rw [hw0]; exact ((Own.refl w).alloc _).below)
  have HO : Hid (∀ wz, Below w0.heap.size w0 wz → Below w.heap.size w wz) := Lib.hid (fun wz hz => HBW.out.trans (hz.mono HBW.out.size))
  have HA : Hid (∀ wz, Below w0.heap.size w0 wz → MsgA wz s x) := Lib.hid (fun wz hz => ha.keep (HO.out _ hz))
  have HL : Hid (∀ wz, Below w0.heap.size w0 wz → (ldMsg ⟨w.heap.size, 0, none⟩).run Tryz.prog wz = .ok (.agg (MV s x)) wz) := Lib.hid (fun wz hz => ldMsg_run wz _ s x ((hz.block _ (blk_lt HB1.out)).trans HB1.out))
  have HS : Hid SameAny := Lib.hid hS
  have HFA := Lib.hid fa
  have hwhI : (0 : Int) ≤ which ∧ (which : Int) ≤ 255 := by omega
  have HX0 := Lib.hid (Below.refl w0.heap.size w0)
  clear hw0 ha fa hwh hS
  go_enter Tryz.func6, Tryz.ntmps6
  go_upto_region 1 with (fail)
  rw [← HW0.out]
  clear HW0
  have ra := HL.out _ HX0.out
  go_wp2_with fail
  refine (heavy_any s x w0 (HA.out _ HX0.out) HFA.out).mono ?_
  rintro e v1 ⟨⟨ha, rfl, hla⟩, hv⟩
  have HX1 := Lib.hid hv
  have HLA := Lib.hid hla
  clear hv hla ra
  cases ha with
  | true =>
    go_wp2_with fail
    refine (alive_any HS.out v1).mono ?_
    rintro e v2 ⟨rfl, hv⟩
    have hvb := HO.out _ (HX1.out.trans (hv.mono HX1.out.size))
    clear hv
    go_wp2_with fail
    exact bodyPost_ret (v := .bool true) (by simp [results, Tryz.results6, go_sem]) rfl ⟨rfl, hvb⟩
  | false =>
    have HGA := Lib.hid (Mg.light_good HFA.out (HLA.out rfl))
    have HNA := Lib.hid (Mg.light_len (HLA.out rfl))
    have HGM := Lib.hid (Mg.mask_good HGA.out)
    have HNM : Hid ((Mg.enc (Mg.mask x)).length ≤ 1073741824) := Lib.hid (by rw [Mg.mask_len]; exact HNA.out)
    have hediI : (0 : Int) ≤ x.ask.edits.length ∧ (x.ask.edits.length : Int) ≤ 100000 := by have := HGA.out.edits.2; omega
    have hgotI : (0 : Int) ≤ x.told.got.length ∧ (x.told.got.length : Int) ≤ 100000 := by have := HGA.out.got.2; omega
    have ra := HL.out _ HX1.out
    go_wp2_with fail
    refine (mask_any s x v1 (HA.out _ HX1.out) HGA.out).mono ?_
    rintro e v2 ⟨sM, rfl, hmo, hv⟩
    have HX2 := Lib.hid (HX1.out.trans (hv.mono HX1.out.size))
    have HMO := Lib.hid hmo.arg
    clear hmo hv ra
    go_wp2_with (refine wpList_store_all rfl 43 (.tmp 7) (.tmp 23) rfl v2.heap.size (MV sM (Mg.mask x)) rfl rfl 43 _ (heap_alloc_new v2 _) (by rw [MV_size]; exact sizeMsg) rfl (MV_one _ _) ?_; intro v3 hp; have hb : Below v2.heap.size v2 v3 := (((Own.refl v2).alloc _).put hp (Nat.le_refl _)).below; have HX3 := Lib.hid (HX2.out.trans (hb.mono HX2.out.size)); have HM3 := Lib.hid hp.here; have HAM := Lib.hid (HMO.out.keep hb); have ra := HL.out _ HX3.out; clear hb hp)
    clear HMO
    have HO3 : Hid (∀ wz, Below v3.heap.size v3 wz → Below w0.heap.size w0 wz) := Lib.hid (fun wz hz => HX3.out.trans (hz.mono HX3.out.size))
    have HLD : Hid (∀ wz, Below v3.heap.size v3 wz → (ldMsg ⟨w.heap.size, 0, none⟩).run Tryz.prog wz = .ok (.agg (MV s x)) wz ∧ (ldMsg ⟨v2.heap.size, 0, none⟩).run Tryz.prog wz = .ok (.agg (MV sM (Mg.mask x))) wz) := Lib.hid (fun wz hz => ⟨HL.out _ (HO3.out _ hz), ldMsg_run wz _ sM (Mg.mask x) ((hz.block _ (blk_lt HM3.out)).trans HM3.out)⟩)
    have HAR : Hid (∀ wz, Below v3.heap.size v3 wz → MsgA wz s x ∧ MsgA wz sM (Mg.mask x)) := Lib.hid (fun wz hz => ⟨HA.out _ (HO3.out _ hz), HAM.out.keep hz⟩)
    have HCE : Hid (∀ wz, Below v3.heap.size v3 wz → wz.cell? ⟨w.heap.size, 10, none⟩ = some (.slice s.edits.1 x.ask.edits.length s.edits.2) ∧ wz.cell? ⟨w.heap.size, 24, none⟩ = some (.slice s.got.1 x.told.got.length s.got.2)) := Lib.hid (fun wz hz => by
      have h1 := ((HO3.out _ hz).block _ (blk_lt HB1.out)).trans HB1.out
      exact ⟨by rw [cell_of_row _ _ _ _ _ _ h1]; rfl, by rw [cell_of_row _ _ _ _ _ _ h1]; rfl⟩)
    have HY3 := Lib.hid (Below.refl v3.heap.size v3)
    obtain ⟨tx, tm, ex, he1, he2, hsz, hsl⟩ := Mg.encR_mask x
    have hne1 : (ex != ex) = false := by simp
    have hne2 : ((tx.size : Int) != tm.size) = false := by rw [hsz]; simp
    have hszI : (0 : Int) ≤ tx.size ∧ (tx.size : Int) ≤ 65536 ∧ (0 : Int) ≤ tm.size ∧ (tm.size : Int) ≤ 65536 := by omega
    have HE1 := Lib.hid he1
    have HE2 := Lib.hid he2
    clear he1 he2 hsz hsl
    refine (encode_any HS.out s x v3 (HAR.out _ HY3.out).1 HGA.out HNA.out).mono ?_
    rintro e v4 ⟨rfl, hv⟩
    rw [HE1.out]
    have HY4 := Lib.hid (HY3.out.trans (hv.mono HY3.out.size))
    clear hv ra
    have rm := (HLD.out _ HY4.out).2
    go_wp2_with fail
    refine (encode_any HS.out sM (Mg.mask x) v4 (HAR.out _ HY4.out).2 HGM.out HNM.out).mono ?_
    rintro e v5 ⟨rfl, hv⟩
    rw [HE2.out]
    have HY5 := Lib.hid (HY4.out.trans (hv.mono HY4.out.size))
    clear hv rm
    have HMK : Hid (∀ wz, Below v3.heap.size v3 wz → Calls Tryz.prog 15 #[.agg (MV sM (Mg.mask x))] wz fun e w' => ∃ s' : MS, e = .returned (.agg (MV s' (Mg.mask x))) ∧ MsgO wz w' s' (Mg.mask x) ∧ Below wz.heap.size wz w') := Lib.hid (fun wz hz => by
      have h := mask_any sM (Mg.mask x) wz (HAR.out _ hz).2 HGM.out
      rw [Mg.mask_mask] at h
      exact h)
    go_upto_region 6 with (fail)
    go_cut [50] (fun c wx => c = .bool false ∧ Below v3.heap.size v3 wx)
    case first =>
      have HD5 : Hid (Below v3.heap.size v3 v5.drew) := Lib.hid (HY5.out.trans ((Own.refl v5).drew.below.mono HY5.out.size))
      have r1 := (HLD.out _ HD5.out).2
      go_region_held3 (fun w' => (ldMsg ⟨v2.heap.size, 0, none⟩).run Tryz.prog w' = .ok (.agg (MV sM (Mg.mask x))) w') (first | (with_reducible exact r1) | (with_reducible exact r2) | (with_reducible exact r3) | fail) (first
        | (go_at_call 15
           (with_reducible refine (HMK.out _ HD5.out).mono ?_)
           rintro e y1 ⟨sQ, rfl, hmq, hv⟩
           have HD6 := Lib.hid (HD5.out.trans (hv.mono HD5.out.size))
           have HMQ := Lib.hid hmq.arg
           have r2 := (HLD.out _ HD6.out).2
           clear hmq hv)
        | (go_at_call 14
           (with_reducible refine (ref_same sQ sM (Mg.mask x) (Mg.mask x) _ HMQ.out (HAR.out _ HD6.out).2 HGM.out HGM.out).mono ?_)
           rintro e y2 ⟨rfl, hv⟩
           rw [decide_eq_true rfl]
           have HD7 := Lib.hid (HD6.out.trans (hv.mono HD6.out.size))
           have r3 := (HLD.out _ HD7.out).2
           clear hv)
        | fail)
      all_goals
        go_wp2_with fail
        go_meet
        exact ⟨rfl, HD7.out⟩
    case rest =>
      obtain ⟨rfl, hcut⟩ := hcut
      have HY6 := Lib.hid hcut
      obtain ⟨v6, hv6⟩ : ∃ y, y = wc := ⟨_, rfl⟩
      subst hv6
      clear hcut hne1 hne2
      have ra := (HLD.out _ HY6.out).1
      go_wp2_with (refine wpList_store_all rfl 43 (.tmp 12) (.tmp 51) rfl v6.heap.size (MV s x) rfl rfl 43 _ (heap_alloc_new v6 _) (by rw [MV_size]; exact sizeMsg) rfl (MV_one _ _) ?_; intro v7 hp; have hb : Below v6.heap.size v6 v7 := (((Own.refl v6).alloc _).put hp (Nat.le_refl _)).below; have HY7 := Lib.hid (HY6.out.trans (hb.mono HY6.out.size)); have HM7 := Lib.hid hp.here; have HSZ := Lib.hid HY6.out.size; clear hb hp)
      clear ra
      obtain ⟨inf0, hin0, hz00, hz10, hz20⟩ := info_parts inf_edit
      have HIN0 := Lib.hid (And.intro hin0 (And.intro hz00 (And.intro hz10 hz20)))
      clear hin0 hz00 hz10 hz20
      obtain ⟨ce, _⟩ := HCE.out _ HY7.out
      go_loopw [13, 14] (fun vs vi wr => ∃ (i : Nat) (es : List Mg.Ed) (a : Option Addr) (cap : Nat), i ≤ x.ask.edits.length ∧ vi = .int .i64 i ∧ vs = .slice a i cap ∧ es.length = i ∧ es.map Mg.hideE = (x.ask.edits.take i).map Mg.hideE ∧ (∀ e ∈ es, e.Good) ∧ OL v7 wr 59 6 a cap (es.map Mg.Ed.cells) ∧ Below v7.heap.size v7 wr) (fun _ vi _ => x.ask.edits.length - (intOf vi).toNat)
      case atStart => exact ⟨0, [], none, 0, Nat.zero_le _, rfl, rfl, rfl, rfl, by simp, OL.nil _ _ _ _, Below.refl _ _⟩
      case round =>
        clear ce
        obtain ⟨i, es, a0, cap0, hi, rfl, rfl, hlen, hmp, hgd, hol, hbr⟩ := hrel
        have HLN0 := Lib.hid hlen
        have HMP0 := Lib.hid hmp
        have HGD0 := Lib.hid hgd
        have HOL0 := Lib.hid hol
        have HBR0 := Lib.hid hbr
        clear hlen hmp hgd hol hbr
        have hyr : Below v3.heap.size v3 wr := HY7.out.trans (HBR0.out.mono HY7.out.size)
        have HYR0 := Lib.hid hyr
        obtain ⟨ce, _⟩ := HCE.out _ hyr
        clear hyr
        by_cases hlt : i < x.ask.edits.length
        · have hiI : (0 : Int) ≤ i ∧ (i : Int) < x.ask.edits.length := by omega
          obtain ⟨g, o, hg, hc⟩ := (HAR.out _ HYR0.out).1.edits.row i (by simpa using hlt)
          rw [hg] at ce
          obtain ⟨u, hu⟩ : ∃ u, u = x.ask.edits[i]'hlt := ⟨_, rfl⟩
          have e1 : (x.ask.edits.map Mg.Ed.cells)[i]'(by simpa using hlt) = Mg.Ed.cells u := by rw [List.getElem_map, hu]
          rw [e1] at hc
          have p0 : wr.cell? ⟨g, o + i * 6, none⟩ = some (.int .u8 u.kind) := hc.cell 0 (by simp)
          have p1 : wr.cell? ⟨g, o + i * 6 + 1, none⟩ = some (.string u.p) := hc.cell 1 (by simp)
          have p2 : wr.cell? ⟨g, o + i * 6 + 2, none⟩ = some (.bool u.any) := hc.cell 2 (by simp)
          have p3 : wr.cell? ⟨g, o + i * 6 + 3, none⟩ = some (.int .u64 u.want) := hc.cell 3 (by simp)
          have p4 : wr.cell? ⟨g, o + i * 6 + 4, none⟩ = some (.int .u64 u.n) := hc.cell 4 (by simp)
          have p5 : wr.cell? ⟨g, o + i * 6 + 5, none⟩ = some (.string u.t) := hc.cell 5 (by simp)
          have hug : u.Good := by rw [hu]; exact HGA.out.edits.1 _ (List.getElem_mem _)
          have HUG := Lib.hid hug
          have HY : Hid (x.ask.edits[i]? = some u) := Lib.hid (by rw [List.getElem?_eq_getElem hlt, hu])
          clear hc e1 hu hug hlt hg
          have hw7 : v7.heap.size ≤ wr.heap.size := HBR0.out.size
          have HW7 := Lib.hid hw7
          clear hw7
          have hi6 : i ≤ 100000 := by omega
          have HI6 := Lib.hid hi6
          clear hi6
          by_cases hwi : (i : Int) = which
          · have hq : ((i : Int) == which) = true := beq_iff_eq.2 hwi
            clear hwi
            go_wp2_with fail
            obtain ⟨w1, hw1⟩ : ∃ y, y = wr.alloc (.cells (Mg.Ed.cells u).toArray 59 (0, 0)) := ⟨_, rfl⟩
            have hblk : w1.heap[wr.heap.size]? = some (.cells (Mg.Ed.cells u).toArray 59 (0, 0)) := by rw [hw1]; exact heap_alloc_new wr _
            have hb1 : Below wr.heap.size wr w1 := by rw [hw1]; exact ((Own.refl wr).alloc _).below
            have hsz1 : w1.heap.size = wr.heap.size + 1 := by rw [hw1]; exact World.size_alloc _ _
            have htu := turned_any u.t bb w1 HUG.out.f
            rw [hw1] at htu
            refine htu.mono ?_
            rw [← hw1]
            clear htu hw1
            rintro e w2 ⟨⟨r, rfl, h5, hl⟩, hv⟩
            have hrz : okT r := by have h1 := HUG.out.f; unfold okT at *; rw [← L_size, hl, L_size]; exact h1
            have hbk2 := (hv.block _ (by rw [hsz1]; omega : wr.heap.size < w1.heap.size)).trans hblk
            have q5 : w2.cell? ⟨wr.heap.size, 5, none⟩ = some (.string u.t) := by rw [cell_of_row _ _ _ _ _ _ hbk2]; rfl
            have f5 : w2.frozen? ⟨wr.heap.size, 5, none⟩ = false := frozen_of_row w2 _ 5 _ _ hbk2
            obtain ⟨w3, hw3⟩ : ∃ y, y = w2.setCell ⟨wr.heap.size, 5, none⟩ (.string r) := ⟨_, rfl⟩
            obtain ⟨d, hd⟩ : ∃ d : Mg.Ed, d = { u with t := r } := ⟨_, rfl⟩
            have hbk3 : w3.heap[wr.heap.size]? = some (.cells (Mg.Ed.cells d).toArray 59 (0, 0)) := by rw [hw3, heap_set _ hbk2, hd]; rfl
            have hb3 : Below wr.heap.size wr w3 := by rw [hw3]; exact below_upd ((hb1.trans (hv.mono (by rw [hsz1]; omega)))) ((Upd.refl w2 [wr.heap.size]).setCell (.inl (by simp)) _) (by simp)
            have hhide : Mg.hideE d = Mg.hideE u := by rw [hd]; exact Mg.turn_E h5 hl
            have hdg : d.Good := by rw [hd]; exact ⟨HUG.out.a, HUG.out.b, HUG.out.d, HUG.out.e, hrz⟩
            have HFIX : Hid ((Mg.hideE d = Mg.hideE u) ∧ d.Good ∧ Below wr.heap.size wr w3) := Lib.hid ⟨hhide, hdg, hb3⟩
            have hs32 : w3.heap.size = w2.heap.size := by rw [hw3]; simp [World.setCell]
            have hol3 := HOL0.out.keep hb3
            obtain ⟨s4, cap4, w4, hrun, hol4, hk4⟩ := ol_push2 (P := Tryz.prog) (T := 29) Tryz.underlying29 HIN0.out.1 HIN0.out.2.1 HIN0.out.2.2.1 HIN0.out.2.2.2 rfl (by decide) (by decide) (w := v7) (W := w3) (Nat.le_trans HW7.out hb3.size) hol3 (Mg.Ed.cells d) rfl (one_ed d) (by rw [List.length_map, HLN0.out]; exact HI6.out)
            rw [List.length_map, HLN0.out, hs32] at hrun
            have HBD : Hid (Below v7.heap.size v7 w4) := Lib.hid (below_upd (HBR0.out.trans (hb3.mono HW7.out)) hk4.upd (fun b hb => HOL0.out.far b hb))
            have HOL4 : Hid (OL v7 w4 59 6 s4 cap4 ((es ++ [d]).map Mg.Ed.cells)) := Lib.hid (by rw [List.map_append]; exact hol4)
            have hrun2 : (appSem #[29, 29] 29 #[.slice a0 i cap0, .slice (some ⟨w2.heap.size, 0, none⟩) 1 1]).run Tryz.prog ((w2.setCell ⟨wr.heap.size, 5, none⟩ (.string r)).alloc (.cells #[.int .u8 u.kind, .string u.p, .bool u.any, .int .u64 u.want, .int .u64 u.n, .string r] 59 (0, 0))) = .ok (.slice s4 (i + 1) cap4) w4 := by
              rw [← hw3]
              rw [hd] at hrun
              exact hrun
            have x0 : (w2.setCell ⟨wr.heap.size, 5, none⟩ (.string r)).cell? ⟨wr.heap.size, 0, none⟩ = some (.int .u8 u.kind) := by rw [← hw3, cell_of_row _ _ _ _ _ _ hbk3, hd]; rfl
            have x1 : (w2.setCell ⟨wr.heap.size, 5, none⟩ (.string r)).cell? ⟨wr.heap.size, 1, none⟩ = some (.string u.p) := by rw [← hw3, cell_of_row _ _ _ _ _ _ hbk3, hd]; rfl
            have x2 : (w2.setCell ⟨wr.heap.size, 5, none⟩ (.string r)).cell? ⟨wr.heap.size, 2, none⟩ = some (.bool u.any) := by rw [← hw3, cell_of_row _ _ _ _ _ _ hbk3, hd]; rfl
            have x3 : (w2.setCell ⟨wr.heap.size, 5, none⟩ (.string r)).cell? ⟨wr.heap.size, 3, none⟩ = some (.int .u64 u.want) := by rw [← hw3, cell_of_row _ _ _ _ _ _ hbk3, hd]; rfl
            have x4 : (w2.setCell ⟨wr.heap.size, 5, none⟩ (.string r)).cell? ⟨wr.heap.size, 4, none⟩ = some (.int .u64 u.n) := by rw [← hw3, cell_of_row _ _ _ _ _ _ hbk3, hd]; rfl
            have x5 : (w2.setCell ⟨wr.heap.size, 5, none⟩ (.string r)).cell? ⟨wr.heap.size, 5, none⟩ = some (.string r) := by rw [← hw3, cell_of_row _ _ _ _ _ _ hbk3, hd]; rfl
            clear hhide hdg hb3 hb1 hbk2 hbk3 hblk hsz1 hs32 hol3 hol4 hk4 hrun hw3 hd hv h5 hl hrz
            go_wp2_with fail
            go_roundw
            case rel =>
              refine ⟨i + 1, es ++ [d], s4, cap4, by omega, by go_num, rfl, by rw [List.length_append, HLN0.out]; rfl, Mg.map_next HMP0.out HY.out HFIX.out.1, Mg.all_next HGD0.out HFIX.out.2.1, HOL4.out, HBD.out⟩
            case measure => simp [intOf]; omega
          · have hq : ((i : Int) == which) = false := beq_eq_false_iff_ne.2 hwi
            clear hwi
            obtain ⟨w1, hw1⟩ : ∃ y, y = wr.alloc (.cells (Mg.Ed.cells u).toArray 59 (0, 0)) := ⟨_, rfl⟩
            have hb1 : Below wr.heap.size wr w1 := by rw [hw1]; exact ((Own.refl wr).alloc _).below
            have hsz1 : w1.heap.size = wr.heap.size + 1 := by rw [hw1]; exact World.size_alloc _ _
            have hol3 := HOL0.out.keep hb1
            obtain ⟨s4, cap4, w4, hrun, hol4, hk4⟩ := ol_push2 (P := Tryz.prog) (T := 29) Tryz.underlying29 HIN0.out.1 HIN0.out.2.1 HIN0.out.2.2.1 HIN0.out.2.2.2 rfl (by decide) (by decide) (w := v7) (W := w1) (Nat.le_trans HW7.out hb1.size) hol3 (Mg.Ed.cells u) rfl (one_ed u) (by rw [List.length_map, HLN0.out]; exact HI6.out)
            rw [List.length_map, HLN0.out, hsz1] at hrun
            have HBD : Hid (Below v7.heap.size v7 w4) := Lib.hid (below_upd (HBR0.out.trans (hb1.mono HW7.out)) hk4.upd (fun b hb => HOL0.out.far b hb))
            have HOL4 : Hid (OL v7 w4 59 6 s4 cap4 ((es ++ [u]).map Mg.Ed.cells)) := Lib.hid (by rw [List.map_append]; exact hol4)
            have hrun2 : (appSem #[29, 29] 29 #[.slice a0 i cap0, .slice (some ⟨wr.heap.size + 1, 0, none⟩) 1 1]).run Tryz.prog ((wr.alloc (.cells #[.int .u8 u.kind, .string u.p, .bool u.any, .int .u64 u.want, .int .u64 u.n, .string u.t] 59 (0, 0))).alloc (.cells #[.int .u8 u.kind, .string u.p, .bool u.any, .int .u64 u.want, .int .u64 u.n, .string u.t] 59 (0, 0))) = .ok (.slice s4 (i + 1) cap4) w4 := by
              rw [hw1] at hrun
              exact hrun
            clear hb1 hsz1 hol3 hol4 hk4 hrun hw1
            go_wp2_with fail
            go_roundw
            case rel =>
              refine ⟨i + 1, es ++ [u], s4, cap4, by omega, by go_num, rfl, by rw [List.length_append, HLN0.out]; rfl, Mg.map_next HMP0.out HY.out rfl, Mg.all_next HGD0.out HUG.out, HOL4.out, HBD.out⟩
            case measure => simp [intOf]; omega
        · obtain rfl : i = x.ask.edits.length := by omega
          have hm := (HBR0.out.block _ (blk_lt HM7.out)).trans HM7.out
          have q10 : wr.cell? ⟨v6.heap.size, 10, none⟩ = some (.slice s.edits.1 x.ask.edits.length s.edits.2) := by rw [cell_of_row _ _ _ _ _ _ hm]; rfl
          have f10 : wr.frozen? ⟨v6.heap.size, 10, none⟩ = false := frozen_of_row wr _ 10 _ _ hm
          obtain ⟨v8, hv8⟩ : ∃ y, y = wr.setCell ⟨v6.heap.size, 10, none⟩ (.slice a0 x.ask.edits.length cap0) := ⟨_, rfl⟩
          have hup : Upd wr v8 [v6.heap.size] := by rw [hv8]; exact (Upd.refl wr [v6.heap.size]).setCell (.inl (by simp)) _
          have hm8 : v8.heap[v6.heap.size]? = some (.cells (MV { s with edits := (a0, cap0) } (Mg.put x es x.told.got)) 43 (0, 0)) := by
            rw [hv8, heap_set _ hm, ← HLN0.out]
            rfl
          have HM8 := Lib.hid hm8
          have HY8 : Hid (Below v3.heap.size v3 v8) := Lib.hid (below_upd HYR0.out hup (fun b hb => by rw [List.mem_singleton.1 hb]; exact HSZ.out))
          have HAE : Hid (ArgL v8 6 a0 cap0 (es.map Mg.Ed.cells)) := Lib.hid ((HOL0.out.updF hup (fun b hb hf => by
            have h1 := HOL0.out.far b hb
            have h2 := blk_lt HM7.out
            rw [List.mem_singleton.1 hf] at h1
            omega)).arg (one_map _ one_ed _))
          have HNB : Hid (∀ g ∈ blks a0, g ≠ v6.heap.size) := Lib.hid (fun g hg => by have h1 := HOL0.out.far g hg; have h2 := blk_lt HM7.out; omega)
          clear hm hup hm8 hlt
          go_upto_region 18 with (fail)
          rw [← hv8]
          clear hv8 q10 f10 ce
          obtain ⟨inf1, hin1, hz01, hz11, hz21⟩ := info_parts inf_got
          have HIN1 := Lib.hid (And.intro hin1 (And.intro hz01 (And.intro hz11 hz21)))
          clear hin1 hz01 hz11 hz21
          obtain ⟨_, ce⟩ := HCE.out _ HY8.out
          go_wp2_with fail
          go_loopw [16, 17] (fun vs vi wr => ∃ (i : Nat) (es : List Mg.Got) (a : Option Addr) (cap : Nat), i ≤ x.told.got.length ∧ vi = .int .i64 i ∧ vs = .slice a i cap ∧ es.length = i ∧ es.map Mg.hideG = (x.told.got.take i).map Mg.hideG ∧ (∀ e ∈ es, e.Good) ∧ OL v8 wr 64 4 a cap (es.map Mg.Got.cells) ∧ Below v8.heap.size v8 wr) (fun _ vi _ => x.told.got.length - (intOf vi).toNat)
          case atStart => exact ⟨0, [], none, 0, Nat.zero_le _, rfl, rfl, rfl, rfl, by simp, OL.nil _ _ _ _, Below.refl _ _⟩
          case round =>
            clear ce
            obtain ⟨i, gs, a1, cap1, hi, rfl, rfl, hlen, hmp, hgd, hol, hbr⟩ := hrel
            have HLN1 := Lib.hid hlen
            have HMP1 := Lib.hid hmp
            have HGD1 := Lib.hid hgd
            have HOL1 := Lib.hid hol
            have HBR1 := Lib.hid hbr
            clear hlen hmp hgd hol hbr
            have hyr : Below v3.heap.size v3 wr := HY8.out.trans (HBR1.out.mono HY8.out.size)
            have HYR1 := Lib.hid hyr
            obtain ⟨_, ce⟩ := HCE.out _ hyr
            clear hyr
            by_cases hlt : i < x.told.got.length
            · have hiI : (0 : Int) ≤ i ∧ (i : Int) < x.told.got.length := by omega
              obtain ⟨g, o, hg, hc⟩ := (HAR.out _ HYR1.out).1.got.row i (by simpa using hlt)
              rw [hg] at ce
              obtain ⟨u, hu⟩ : ∃ u, u = x.told.got[i]'hlt := ⟨_, rfl⟩
              have e1 : (x.told.got.map Mg.Got.cells)[i]'(by simpa using hlt) = Mg.Got.cells u := by rw [List.getElem_map, hu]
              rw [e1] at hc
              have p0 : wr.cell? ⟨g, o + i * 4, none⟩ = some (.int .u64 u.v.n) := hc.cell 0 (by simp)
              have p1 : wr.cell? ⟨g, o + i * 4 + 1, none⟩ = some (.int .u8 u.v.st) := hc.cell 1 (by simp)
              have p2 : wr.cell? ⟨g, o + i * 4 + 2, none⟩ = some (.string u.v.t) := hc.cell 2 (by simp)
              have p3 : wr.cell? ⟨g, o + i * 4 + 3, none⟩ = some (.int .i64 u.err) := hc.cell 3 (by simp)
              have hug : u.Good := by rw [hu]; exact HGA.out.got.1 _ (List.getElem_mem _)
              have HUG := Lib.hid hug
              have HY : Hid (x.told.got[i]? = some u) := Lib.hid (by rw [List.getElem?_eq_getElem hlt, hu])
              clear hc e1 hu hug hlt hg
              have hw7 : v8.heap.size ≤ wr.heap.size := HBR1.out.size
              have HW7 := Lib.hid hw7
              clear hw7
              have hi6 : i ≤ 100000 := by omega
              have HI6 := Lib.hid hi6
              clear hi6
              by_cases hwi : (i : Int) = which
              · have hq : ((i : Int) == which) = true := beq_iff_eq.2 hwi
                clear hwi
                go_wp2_with fail
                obtain ⟨w1, hw1⟩ : ∃ y, y = wr.alloc (.cells (Mg.Got.cells u).toArray 64 (0, 0)) := ⟨_, rfl⟩
                have hblk : w1.heap[wr.heap.size]? = some (.cells (Mg.Got.cells u).toArray 64 (0, 0)) := by rw [hw1]; exact heap_alloc_new wr _
                have hb1 : Below wr.heap.size wr w1 := by rw [hw1]; exact ((Own.refl wr).alloc _).below
                have hsz1 : w1.heap.size = wr.heap.size + 1 := by rw [hw1]; exact World.size_alloc _ _
                have htu := turned_any u.v.t bb w1 HUG.out.a.c
                rw [hw1] at htu
                refine htu.mono ?_
                rw [← hw1]
                clear htu hw1
                rintro e w2 ⟨⟨r, rfl, h5, hl⟩, hv⟩
                have hrz : okT r := by have h1 := HUG.out.a.c; unfold okT at *; rw [← L_size, hl, L_size]; exact h1
                have hbk2 := (hv.block _ (by rw [hsz1]; omega : wr.heap.size < w1.heap.size)).trans hblk
                have q5 : w2.cell? ⟨wr.heap.size, 2, none⟩ = some (.string u.v.t) := by rw [cell_of_row _ _ _ _ _ _ hbk2]; rfl
                have f5 : w2.frozen? ⟨wr.heap.size, 2, none⟩ = false := frozen_of_row w2 _ 2 _ _ hbk2
                obtain ⟨w3, hw3⟩ : ∃ y, y = w2.setCell ⟨wr.heap.size, 2, none⟩ (.string r) := ⟨_, rfl⟩
                obtain ⟨d, hd⟩ : ∃ d : Mg.Got, d = { u with v := { u.v with t := r } } := ⟨_, rfl⟩
                have hbk3 : w3.heap[wr.heap.size]? = some (.cells (Mg.Got.cells d).toArray 64 (0, 0)) := by rw [hw3, heap_set _ hbk2, hd]; rfl
                have hb3 : Below wr.heap.size wr w3 := by rw [hw3]; exact below_upd ((hb1.trans (hv.mono (by rw [hsz1]; omega)))) ((Upd.refl w2 [wr.heap.size]).setCell (.inl (by simp)) _) (by simp)
                have hhide : Mg.hideG d = Mg.hideG u := by rw [hd]; exact Mg.turn_G h5 hl
                have hdg : d.Good := by rw [hd]; exact ⟨⟨HUG.out.a.a, HUG.out.a.b, hrz⟩, HUG.out.b⟩
                have HFIX : Hid ((Mg.hideG d = Mg.hideG u) ∧ d.Good ∧ Below wr.heap.size wr w3) := Lib.hid ⟨hhide, hdg, hb3⟩
                have hs32 : w3.heap.size = w2.heap.size := by rw [hw3]; simp [World.setCell]
                have hol3 := HOL1.out.keep hb3
                obtain ⟨s4, cap4, w4, hrun, hol4, hk4⟩ := ol_push2 (P := Tryz.prog) (T := 37) Tryz.underlying37 HIN1.out.1 HIN1.out.2.1 HIN1.out.2.2.1 HIN1.out.2.2.2 rfl (by decide) (by decide) (w := v8) (W := w3) (Nat.le_trans HW7.out hb3.size) hol3 (Mg.Got.cells d) rfl (one_got d) (by rw [List.length_map, HLN1.out]; exact HI6.out)
                rw [List.length_map, HLN1.out, hs32] at hrun
                have HBD : Hid (Below v8.heap.size v8 w4) := Lib.hid (below_upd (HBR1.out.trans (hb3.mono HW7.out)) hk4.upd (fun b hb => HOL1.out.far b hb))
                have HOL4 : Hid (OL v8 w4 64 4 s4 cap4 ((gs ++ [d]).map Mg.Got.cells)) := Lib.hid (by rw [List.map_append]; exact hol4)
                have hrun2 : (appSem #[37, 37] 37 #[.slice a1 i cap1, .slice (some ⟨w2.heap.size, 0, none⟩) 1 1]).run Tryz.prog ((w2.setCell ⟨wr.heap.size, 2, none⟩ (.string r)).alloc (.cells #[.int .u64 u.v.n, .int .u8 u.v.st, .string r, .int .i64 u.err] 64 (0, 0))) = .ok (.slice s4 (i + 1) cap4) w4 := by
                  rw [← hw3]
                  rw [hd] at hrun
                  exact hrun
                have x0 : (w2.setCell ⟨wr.heap.size, 2, none⟩ (.string r)).cell? ⟨wr.heap.size, 0, none⟩ = some (.int .u64 u.v.n) := by rw [← hw3, cell_of_row _ _ _ _ _ _ hbk3, hd]; rfl
                have x1 : (w2.setCell ⟨wr.heap.size, 2, none⟩ (.string r)).cell? ⟨wr.heap.size, 1, none⟩ = some (.int .u8 u.v.st) := by rw [← hw3, cell_of_row _ _ _ _ _ _ hbk3, hd]; rfl
                have x2 : (w2.setCell ⟨wr.heap.size, 2, none⟩ (.string r)).cell? ⟨wr.heap.size, 2, none⟩ = some (.string r) := by rw [← hw3, cell_of_row _ _ _ _ _ _ hbk3, hd]; rfl
                have x3 : (w2.setCell ⟨wr.heap.size, 2, none⟩ (.string r)).cell? ⟨wr.heap.size, 3, none⟩ = some (.int .i64 u.err) := by rw [← hw3, cell_of_row _ _ _ _ _ _ hbk3, hd]; rfl
                clear hhide hdg hb3 hb1 hbk2 hbk3 hblk hsz1 hs32 hol3 hol4 hk4 hrun hw3 hd hv h5 hl hrz
                go_wp2_with fail
                go_roundw
                case rel =>
                  refine ⟨i + 1, gs ++ [d], s4, cap4, by omega, by go_num, rfl, by rw [List.length_append, HLN1.out]; rfl, Mg.map_next HMP1.out HY.out HFIX.out.1, Mg.all_next HGD1.out HFIX.out.2.1, HOL4.out, HBD.out⟩
                case measure => simp [intOf]; omega
              · have hq : ((i : Int) == which) = false := beq_eq_false_iff_ne.2 hwi
                clear hwi
                obtain ⟨w1, hw1⟩ : ∃ y, y = wr.alloc (.cells (Mg.Got.cells u).toArray 64 (0, 0)) := ⟨_, rfl⟩
                have hb1 : Below wr.heap.size wr w1 := by rw [hw1]; exact ((Own.refl wr).alloc _).below
                have hsz1 : w1.heap.size = wr.heap.size + 1 := by rw [hw1]; exact World.size_alloc _ _
                have hol3 := HOL1.out.keep hb1
                obtain ⟨s4, cap4, w4, hrun, hol4, hk4⟩ := ol_push2 (P := Tryz.prog) (T := 37) Tryz.underlying37 HIN1.out.1 HIN1.out.2.1 HIN1.out.2.2.1 HIN1.out.2.2.2 rfl (by decide) (by decide) (w := v8) (W := w1) (Nat.le_trans HW7.out hb1.size) hol3 (Mg.Got.cells u) rfl (one_got u) (by rw [List.length_map, HLN1.out]; exact HI6.out)
                rw [List.length_map, HLN1.out, hsz1] at hrun
                have HBD : Hid (Below v8.heap.size v8 w4) := Lib.hid (below_upd (HBR1.out.trans (hb1.mono HW7.out)) hk4.upd (fun b hb => HOL1.out.far b hb))
                have HOL4 : Hid (OL v8 w4 64 4 s4 cap4 ((gs ++ [u]).map Mg.Got.cells)) := Lib.hid (by rw [List.map_append]; exact hol4)
                have hrun2 : (appSem #[37, 37] 37 #[.slice a1 i cap1, .slice (some ⟨wr.heap.size + 1, 0, none⟩) 1 1]).run Tryz.prog ((wr.alloc (.cells #[.int .u64 u.v.n, .int .u8 u.v.st, .string u.v.t, .int .i64 u.err] 64 (0, 0))).alloc (.cells #[.int .u64 u.v.n, .int .u8 u.v.st, .string u.v.t, .int .i64 u.err] 64 (0, 0))) = .ok (.slice s4 (i + 1) cap4) w4 := by
                  rw [hw1] at hrun
                  exact hrun
                clear hb1 hsz1 hol3 hol4 hk4 hrun hw1
                go_wp2_with fail
                go_roundw
                case rel =>
                  refine ⟨i + 1, gs ++ [u], s4, cap4, by omega, by go_num, rfl, by rw [List.length_append, HLN1.out]; rfl, Mg.map_next HMP1.out HY.out rfl, Mg.all_next HGD1.out HUG.out, HOL4.out, HBD.out⟩
                case measure => simp [intOf]; omega
            · obtain rfl : i = x.told.got.length := by omega
              have hm := (HBR1.out.block _ (blk_lt HM8.out)).trans HM8.out
              have q24 : wr.cell? ⟨v6.heap.size, 24, none⟩ = some (.slice s.got.1 x.told.got.length s.got.2) := by rw [cell_of_row _ _ _ _ _ _ hm]; rfl
              have f24 : wr.frozen? ⟨v6.heap.size, 24, none⟩ = false := frozen_of_row wr _ 24 _ _ hm
              obtain ⟨v9, hv9⟩ : ∃ y, y = wr.setCell ⟨v6.heap.size, 24, none⟩ (.slice a1 x.told.got.length cap1) := ⟨_, rfl⟩
              have hup : Upd wr v9 [v6.heap.size] := by rw [hv9]; exact (Upd.refl wr [v6.heap.size]).setCell (.inl (by simp)) _
              have hm9 : v9.heap[v6.heap.size]? = some (.cells (MV { s with edits := (a0, cap0), got := (a1, cap1) } (Mg.put x es gs)) 43 (0, 0)) := by
                rw [hv9, heap_set _ hm, ← HLN1.out]
                rfl
              have HM9 := Lib.hid hm9
              have HY9 : Hid (Below v3.heap.size v3 v9) := Lib.hid (below_upd HYR1.out hup (fun b hb => by rw [List.mem_singleton.1 hb]; exact HSZ.out))
              have h68 := blk_lt HM8.out
              have hag : ArgL v9 4 a1 cap1 (gs.map Mg.Got.cells) := (HOL1.out.updF hup (fun b hb hf => by
                have h1 := HOL1.out.far b hb
                rw [List.mem_singleton.1 hf] at h1
                omega)).arg (one_map _ one_got _)
              have hae : ArgL v9 6 a0 cap0 (es.map Mg.Ed.cells) := ⟨fun j hj => (by
                have h1 := (HAE.out.keep HBR1.out).row j hj
                obtain ⟨g, off, e1, h2⟩ := h1
                refine ⟨g, off, e1, h2.keep ?_⟩
                refine hup.keep g h2.lt ?_
                intro hf
                have h3 := List.mem_singleton.1 hf
                exact HNB.out g (by rw [e1]; simp) h3), HAE.out.all, HAE.out.one, HAE.out.nil⟩
              have hA9 := (HAR.out _ HY9.out).1
              have HA9 : Hid (MsgA v9 { s with edits := (a0, cap0), got := (a1, cap1) } (Mg.put x es gs)) := Lib.hid ⟨hA9.parts, hA9.reads, hA9.readAt, hae, hA9.editAt, hA9.rows, hA9.own, hag, hA9.numbers, hA9.names⟩
              have HG9 : Hid (Mg.put x es gs).Good := Lib.hid (Mg.put_good HGA.out ⟨HGD0.out, by rw [HLN0.out]; exact HGA.out.edits.2⟩ ⟨HGD1.out, by rw [HLN1.out]; exact HGA.out.got.2⟩)
              have HQ9 : Hid (Mg.mask (Mg.put x es gs) = Mg.mask x) := Lib.hid (Mg.put_mask (by have h := HMP0.out; rwa [List.take_length] at h) (by have h := HMP1.out; rwa [List.take_length] at h))
              have HMK9 : Hid (∀ wz, Below v9.heap.size v9 wz → Calls Tryz.prog 15 #[.agg (MV { s with edits := (a0, cap0), got := (a1, cap1) } (Mg.put x es gs))] wz fun e w' => ∃ s' : MS, e = .returned (.agg (MV s' (Mg.mask x))) ∧ MsgO wz w' s' (Mg.mask x) ∧ Below wz.heap.size wz w') := Lib.hid (fun wz hz => by
                have h := mask_any _ (Mg.put x es gs) wz (HA9.out.keep hz) HG9.out
                rw [HQ9.out] at h
                exact h)
              have HLD9 : Hid (∀ wz, Below v9.heap.size v9 wz → (ldMsg ⟨v6.heap.size, 0, none⟩).run Tryz.prog wz = .ok (.agg (MV { s with edits := (a0, cap0), got := (a1, cap1) } (Mg.put x es gs))) wz ∧ (ldMsg ⟨v2.heap.size, 0, none⟩).run Tryz.prog wz = .ok (.agg (MV sM (Mg.mask x))) wz) := Lib.hid (fun wz hz => ⟨ldMsg_run wz _ _ _ ((hz.block _ (blk_lt HM9.out)).trans HM9.out), (HLD.out _ (HY9.out.trans (hz.mono HY9.out.size))).2⟩)
              clear hm hup hm9 hag hae hA9 h68 hlt
              go_upto_region 27 with (fail)
              rw [← hv9]
              clear hv9 q24 f24 ce
              have HD0 := Lib.hid ((Own.refl v9).drew.below)
              have r1 := HLD9.out _ HD0.out
              go_region_held3 (fun w' => (ldMsg ⟨v6.heap.size, 0, none⟩).run Tryz.prog w' = .ok (.agg (MV { s with edits := (a0, cap0), got := (a1, cap1) } (Mg.put x es gs))) w' ∧ (ldMsg ⟨v2.heap.size, 0, none⟩).run Tryz.prog w' = .ok (.agg (MV sM (Mg.mask x))) w') (first | (with_reducible exact r1) | (with_reducible exact r2) | (with_reducible exact r3) | (with_reducible exact r4) | fail) (first
                | (go_at_call 15
                   (with_reducible refine (HMK9.out _ HD0.out).mono ?_)
                   rintro e y1 ⟨sQ, rfl, hmq, hv⟩
                   have HD1 := Lib.hid (HD0.out.trans (hv.mono HD0.out.size))
                   have HMQ := Lib.hid hmq.arg
                   have r2 := HLD9.out _ HD1.out
                   clear hmq hv)
                | (go_at_call 14
                   (with_reducible refine (ref_same sQ sM (Mg.mask x) (Mg.mask x) _ HMQ.out (HAR.out _ (HY9.out.trans (HD1.out.mono HY9.out.size))).2 HGM.out HGM.out).mono ?_)
                   rintro e y2 ⟨rfl, hv⟩
                   rw [decide_eq_true rfl]
                   have HD2 := Lib.hid (HD1.out.trans (hv.mono HD1.out.size))
                   have r3 := HLD9.out _ HD2.out
                   clear hv)
                | (go_at_call 8
                   (with_reducible refine (alive_any HS.out _).mono ?_)
                   rintro e y3 ⟨rfl, hv⟩
                   have HD3 := Lib.hid (HD2.out.trans (hv.mono HD2.out.size))
                   have r4 := HLD9.out _ HD3.out
                   clear hv)
                | fail)
              all_goals
                go_wp2_with fail
                exact bodyPost_ret (v := .bool true) (by simp [results, Tryz.results6, go_sem]) rfl ⟨rfl, HO.out _ (HO3.out _ (HY9.out.trans (HD3.out.mono HY9.out.size)))⟩

end Go.Proofs.YtjgnomjjphkfbaaGreat
