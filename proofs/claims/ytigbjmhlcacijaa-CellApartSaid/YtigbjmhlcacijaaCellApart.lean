/-
  THE WALK of the statement CellApart.
-/
import Derived.Test.YtigbjmhlcacijaaCellPlay0
namespace Go.Proofs.Ytigbjmhlcacijaa
open Go.RowKit
attribute [local go_sem ↓ high] appSem_eq

set_option maxRecDepth 20000 in
set_option maxHeartbeats 4000000 in
theorem cellApart_any (w : World) (al : Option Addr) (capl : Nat) (l : List Xct) (n : Nat) (hl : ActsAt w al l) (okl : ∀ x ∈ l, okA x) (hm : l.length ≤ 9223372036854775807) (hn : n < 256) :
    Calls Try.prog 6 #[.slice al l.length capl, .int .u8 n] w fun e w' => e = .returned (.bool true) ∧ Below w.heap.size w w' := by
  have HHV := Lib.hid (heavy_any w ⟨0, []⟩ none 0 al capl l (RowIs.nil _ _ _) (by simp) hl okl (by simp) hm)
  have hmI : (0 : Int) ≤ l.length ∧ (l.length : Int) ≤ 9223372036854775807 := by omega
  have HL := Lib.hid hl
  have HOK := Lib.hid okl
  have hnI : (0 : Int) ≤ n ∧ (n : Int) ≤ 255 := by omega
  clear hl okl hm hn
  go_enter Try.func6, Try.ntmps6
  go_wp2_with fail
  refine HHV.out.mono ?_
  rintro e w1 ⟨⟨b, rfl, hlen⟩, hb⟩
  have HO1 := Lib.hid ((Own.refl w).trans hb)
  clear hb HHV
  cases b with
  | true =>
    clear hlen
    go_wp2_with fail
    refine (works_any _).mono ?_
    rintro e w2 ⟨rfl, hb⟩
    have HO2 := Lib.hid (HO1.out.trans hb)
    clear hb
    go_wp2_with fail
    go_ret
    exact ⟨rfl, HO2.out.below⟩
  | false =>
    have HLEN := Lib.hid (hlen rfl).2
    clear hlen
    go_wp2_with fail
    have hO2 := HO1.out.alloc (.cells #[.int .u64 0, .slice none 0 0] 27 (0, 0))
    have hC2 : CBox (w1.alloc (.cells #[.int .u64 0, .slice none 0 0] 27 (0, 0))) w1.heap.size (Cl.celOf []) none 0 := ⟨heap_alloc_new w1 (.cells #[.int .u64 0, .slice none 0 0] 27 (0, 0)), RowIs.nil _ _ _, fun _ => rfl⟩
    have HC2 := Lib.hid hC2
    have HO2 := Lib.hid hO2
    have HB1 := Lib.hid HO1.out.size
    clear hC2 hO2
    generalize w1.alloc (.cells #[.int .u64 0, .slice none 0 0] 27 (0, 0)) = W at *
    generalize w1.heap.size = b at *
    go_loopw [6] (fun vi wr => ∃ i : Nat, i ≤ l.length ∧ vi = .int .i64 i ∧ plCel w i b wr) (fun vi _ => l.length - (intOf vi).toNat)
    case atStart => exact ⟨0, Nat.zero_le _, rfl, [], none, 0, Cl.okHs.nil, HC2.out, HO2.out, by simp⟩
    case round =>
      clear HC2 HO2
      obtain ⟨i, hi, rfl, hs, a, cap, hok, hc, hO, hne⟩ := hrel
      have HO := Lib.hid hO
      by_cases hlt : i < l.length
      · have hiI : (0 : Int) ≤ i ∧ (i : Int) < l.length := by omega
        have hi1000 : i < 1000 := by have := HLEN.out; omega
        obtain ⟨gl, ofl, rfl, q0, q1, q2, q3, q4, hgl⟩ := ActsAt.at (RowIs.keep HL.out hO.below) i hlt
        have hact : ActAt wr gl (ofl + i * 5) l[i] := ⟨q0, q1, q2, q3, q4, hgl⟩
        clear q0 q1 q2 q3 q4 hgl
        have HX := Lib.hid (HOK.out l[i] (List.getElem_mem hlt))
        have HA := Lib.hid (act_hist hs i hi1000 hok l[i])
        have HH := Lib.hid (celOf_ok hs i hi1000 hok)
        generalize l[i] = x at *
        have HC := Lib.hid hc
        have HQ := Lib.hid hact
        have HNE := Lib.hid hne
        have hkI : (0 : Int) ≤ x.kind ∧ (x.kind : Int) ≤ 255 := by have := HX.out.1; omega
        clear hact hc hO hok hi1000 hne
        generalize Cl.celOf hs = c at *
        obtain ⟨q0, q1, q2, q3, q4, hgl⟩ := HQ.out
        obtain ⟨k0, k1, f0, f1, lb⟩ := HC.out.facts
        go_wp2_with fail
        have hb7 := heap_alloc_new wr (.cells #[.int .u8 x.kind, .bool x.any, .int .u64 x.want, .int .u64 x.n, .string x.t] 34 (0, 0))
        have HC2 := Lib.hid (HC.out.keep (alloc_keep wr (.cells #[.int .u8 x.kind, .bool x.any, .int .u64 x.want, .int .u64 x.n, .string x.t] 34 (0, 0))))
        have HO2 := Lib.hid (HO.out.alloc (.cells #[.int .u8 x.kind, .bool x.any, .int .u64 x.want, .int .u64 x.n, .string x.t] 34 (0, 0)))
        have HB7 := Lib.hid hb7
        clear hb7 HQ q0 q1 q2 q3 q4 hgl k0 k1 f0 f1 HO HC
        have lb2 : b < (wr.alloc (.cells #[.int .u8 x.kind, .bool x.any, .int .u64 x.want, .int .u64 x.n, .string x.t] 34 (0, 0))).heap.size := blk_lt HC2.out.box
        have HW := Lib.hid HO2.out.size
        clear lb
        refine (copied_any _ c a cap HC2.out.vers HH.out.2.1 HC2.out.nil).mono ?_
        rintro e w3 ⟨s3, c3, rfl, hf3⟩
        have HWAS := Lib.hid (CBox.new hf3)
        have hbl := hf3.below (.cells #[.int .u64 c.last, .slice s3 c.l.length c3] 27 (0, 0))
        have HC3 := Lib.hid (HC2.out.keep hbl)
        have HO3 := Lib.hid (HO2.out.trans hbl)
        have HB73 := Lib.hid ((hbl.block _ (blk_lt HB7.out)).trans HB7.out)
        clear hf3 hbl HC2 HO2 HB7
        go_upto_region 10 with fail
        have HB9 := Lib.hid (heap_alloc_new (w3.alloc (.cells #[.int .u64 c.last, .slice s3 c.l.length c3] 27 (0, 0))) (.cells #[.int .u64 0, .slice none 0 0] 27 (0, 0)))
        have HOW := Lib.hid ((Own.refl (w3.alloc (.cells #[.int .u64 c.last, .slice s3 c.l.length c3] 27 (0, 0)))).alloc (.cells #[.int .u64 0, .slice none 0 0] 27 (0, 0)))
        have HSZ := Lib.hid (World.size_alloc w3 (.cells #[.int .u64 c.last, .slice s3 c.l.length c3] 27 (0, 0)))
        rw [World.size_alloc] at HB9 HOW
        have HC4 := Lib.hid (HC3.out.keep (alloc_keep _ (.cells #[.int .u64 0, .slice none 0 0] 27 (0, 0))))
        have HB74 := Lib.hid ((Below.heap_alloc _ (.cells #[.int .u64 0, .slice none 0 0] 27 (0, 0)) _ (blk_lt HB73.out)).trans HB73.out)
        have l7 := blk_lt HB73.out
        have lb3 : b < (w3.alloc (.cells #[.int .u64 c.last, .slice s3 c.l.length c3] 27 (0, 0))).heap.size := blk_lt HC3.out.box
        rw [World.size_alloc] at l7 lb3
        obtain ⟨q0, q1, q2, q3, q4⟩ := act_cells HB74.out
        obtain ⟨k0, k1, f0, f1, lb4⟩ := HC4.out.facts
        generalize w3.heap.size + 1 = b9 at *
        generalize w3.heap.size = b8 at *
        generalize wr.heap.size = b7 at *
        generalize w3.alloc (.cells #[.int .u64 c.last, .slice s3 c.l.length c3] 27 (0, 0)) = W3 at *
        have lb8 : b8 < b9 := by have := blk_lt HWAS.out.box; rw [HSZ.out] at this; exact this
        have HA2 : Hid (∀ c', (actF c x).1 = c' → ∃ hs', c' = Cl.celOf hs' ∧ Cl.okHs hs' (i + 1)) := Lib.hid fun c' h => by obtain ⟨hs', e, h2⟩ := HA.out; exact ⟨hs', h ▸ e, h2⟩
        clear HA HB73
        by_cases k0' : x.kind % 3 = 0
        · have hk3 : (x.kind : Int).tmod 3 = 0 := by rw [Int.tmod_eq_emod_of_nonneg (by omega)]; omega
          have HCON := Lib.hid (fun (wz : World) (hz : VersAt wz a c.l) (hnz : a = none → cap = 0) => put_any wz c a cap x.any x.want x.t HX.out.2.2.2 hz HH.out.1 HH.out.2.1 hnz HH.out.2.2 HX.out.2.1)
          rw [show Cl.put c x.any x.want x.t = actF c x by unfold actF; rw [if_pos k0']] at HCON
          have hk4 : (x.kind : Int) % 3 = 0 := by omega
          clear k0'
          generalize actF c x = r at *
          obtain ⟨⟨rl, rv⟩, re⟩ := r
          generalize W3.alloc (.cells #[.int .u64 0, .slice none 0 0] 27 (0, 0)) = W4 at *
          go_wp2_with fail
          clear hk3 hk4
          refine (HCON.out _ HC4.out.vers HC4.out.nil).mono ?_
          rintro e w5 ⟨sd, cd, rfl, hf⟩
          have hb9 := (hf.own.below.block _ (blk_lt HB9.out)).trans HB9.out
          obtain ⟨d0, d1, df0, df1, dl⟩ := celBox hb9
          have hO5 := ((HOW.out.trans hf.own.below).setCell (p := ⟨b9, 0, none⟩) (Nat.le_refl _) (.int .u64 rl)).setCell (p := ⟨b9, 1, none⟩) (Nat.le_refl _) (.slice sd rv.length cd)
          have hl9 := blk_lt HB9.out
          have hs5 := hf.is.keep (w' := (w5.setCell ⟨b9, 0, none⟩ (.int .u64 rl)).setCell ⟨b9, 1, none⟩ (.slice sd rv.length cd)) (fun k hk => set_other _ (by have := hf.new k hk; omega) _ _)
          have hx5 := setCel hb9 rl sd rv.length cd
          have HO5 := Lib.hid hO5
          have HS5 := Lib.hid hs5
          have HX5 := Lib.hid hx5
          have HND : Hid (∀ k ∈ blks sd, b9 < k) := Lib.hid fun k hk => by have := hf.new k hk; omega
          clear hO5 hs5 hx5 hf hb9 HCON q0 q1 q2 q3 q4 k0 k1 f0 f1 HC4 HB74
          go_wp2_with fail
          clear d0 d1 df0 df1 dl
          generalize (w5.setCell ⟨b9, 0, none⟩ (.int .u64 rl)).setCell ⟨b9, 1, none⟩ (.slice sd rv.length cd) = W5 at *
          obtain ⟨hs', hd, hk'⟩ := HA2.out _ rfl
          have hH2 := celOf_ok hs' (i + 1) (by have := HLEN.out; omega) hk'
          rw [← hd] at hH2
          have HH2 := Lib.hid hH2
          have HHD := Lib.hid (And.intro hd hk')
          clear hd hk' hH2 HA2
          have hnd : sd = none → cd = 0 := fun e => by subst e; exact HS5.out.nil_cap
          refine (copied_any _ ⟨rl, rv⟩ sd cd (HS5.out.rowF (vcells_len rv) (by simp)) HH2.out.2.1 hnd).mono ?_
          rintro e w6 ⟨sn, cn, rfl, hf⟩
          have hbl := hf.below (.cells #[.int .u64 rl, .slice sn rv.length cn] 27 (0, 0))
          have HN7 := Lib.hid (CBox.new (c := ⟨rl, rv⟩) hf)
          have HNN7 : Hid (∀ k ∈ blks sn, W5.heap.size ≤ k) := Lib.hid hf.new
          have HO7 := Lib.hid (HO5.out.trans hbl)
          have HS7 := Lib.hid (HS5.out.keep fun k hk => hbl.block k (HS5.out.lt k hk))
          have HL5 := Lib.hid HS5.out.lt
          have HX7 := Lib.hid ((hbl.block _ (blk_lt HX5.out)).trans HX5.out)
          have hl5 : b9 < W5.heap.size := blk_lt HX5.out
          have hl56 : W5.heap.size ≤ w6.heap.size := hf.own.size
          clear hf hbl HO5 HX5 hnd
          obtain ⟨d0, d1, df0, df1, dl⟩ := celBox HX7.out
          have hrvI : (0 : Int) ≤ rv.length ∧ (rv.length : Int) ≤ 1000 := by have := HH2.out.2.1; simp only at this; omega
          have HAPP : Hid (∀ (wz : World) (l2 : List Cl.Ver), SliceIs wz 37 3 sd rv.length cd (l2.map vcells).flatten → l2.length = rv.length → ∃ s' cap' w', (appSem #[25, 25] 25 #[.slice sd rv.length cd, .slice (some ⟨wz.heap.size, 0, none⟩) 1 1]).run Try.prog (wz.alloc (.cells #[.int .u64 78, .int .u8 0, .string ⟨#[]⟩] 37 (0, 0))) = .ok (.slice s' (rv.length + 1) cap') w' ∧ Upd wz w' (blks sd)) := Lib.hid fun wz l2 hS _ => by
            obtain ⟨s', cap', w', hr, _, hu, _⟩ := vapp (wz.alloc (.cells #[.int .u64 78, .int .u8 0, .string ⟨#[]⟩] 37 (0, 0))) sd rv.length cd _ (hS.alloc _) (some ⟨wz.heap.size, 0, none⟩) 1 [⟨78, 0, ⟨#[]⟩⟩] (VersAt.one wz ⟨78, 0, ⟨#[]⟩⟩ 37 (0, 0)) (by have := HH2.out.2.1; simp only at this; simp; omega) (by simp)
            exact ⟨s', cap', w', hr, (((Upd.refl wz (blks sd)).alloc _).trans hu (fun k hk => .inl hk))⟩
          have hrvz : Hid (rv.length ≤ 1000) := Lib.hid (by have := HH2.out.2.1; simp only at this; exact this)
          generalize hm : rv.length = m at *
          have HM := Lib.hid hm
          clear hm
          by_cases h0 : m = 0
          · subst h0
            go_upto_region 20 with fail
            generalize w6.alloc (.cells #[.int .u64 rl, .slice sn 0 cn] 27 (0, 0)) = W7 at *
            generalize w6.heap.size = b10 at *
            obtain ⟨s9, c9, w9, hr9, hu9⟩ := HAPP.out _ rv HS7.out HM.out
            rw [Nat.zero_add] at hr9
            have HU9 := Lib.hid (hu9)
            have hx9 := (hu9.keep b9 dl (fun hk => by have := HND.out b9 hk; omega)).trans HX7.out
            obtain ⟨t0, t1, tf0, tf1, tl⟩ := celBox hx9
            have HX9 := Lib.hid hx9
            clear hu9 hx9
            go_upto_region 21 with fail
            have HUU : Hid (Upd W7 (w9.setCell ⟨b9, 1, none⟩ (.slice s9 1 c9)) (b9 :: blks sd)) := Lib.hid ((HU9.out.mono (fun _ h => List.mem_cons_of_mem _ h)).setCell (.inl (by simp)) _)
            generalize w9.setCell ⟨b9, 1, none⟩ (.slice s9 1 c9) = WF at *
            clear hr9 t0 t1 tf0 tf1 tl d0 d1 df0 df1 dl HX9 HU9
            have HF := Lib.hid (HO7.out.upd HUU.out (fun k hk => by
              rcases List.mem_cons.1 hk with rfl | hk
              · exact Nat.le_refl _
              · exact Nat.le_of_lt (HND.out k hk)))
            have hbel : Below W3.heap.size W3 WF := by rw [HSZ.out]; exact HF.out.below
            have HCF := Lib.hid (HC3.out.keep hbel)
            have HWF := Lib.hid (HWAS.out.keep hbel)
            have HOF := Lib.hid (HO3.out.trans hbel)
            have HN8 : Hid (CBox WF b10 ⟨rl, rv⟩ sn cn) := Lib.hid (by
              have hk : ∀ k, W5.heap.size ≤ k → k < W7.heap.size → WF.heap[k]? = W7.heap[k]? := fun k h1 h2 => HUU.out.keep k h2 (fun hm => by
                rcases List.mem_cons.1 hm with rfl | hm
                · omega
                · have := HL5.out k hm; omega)
              refine ⟨(hk b10 hl56 (blk_lt HN7.out.box)).trans HN7.out.box, fun i hi => ?_, HN7.out.nil⟩
              obtain ⟨g', off', e, hc⟩ := HN7.out.vers i hi
              subst e
              exact ⟨g', off', rfl, hc.keep (hk g' (HNN7.out g' (by simp)) hc.lt)⟩)
            clear hbel HUU HF HN7 HS7 HX7 HO7 HC3 HWAS HO3
            obtain ⟨k0, k1, f0, f1, lbF⟩ := HCF.out.facts
            obtain ⟨y0, y1, yf0, yf1, ylF⟩ := HWF.out.facts
            go_wp2_with fail
            refine (same_any _ c c a s3 cap c3 HCF.out.vers HWF.out.vers HH.out.2.1 HH.out.2.1).mono ?_
            rintro e wz ⟨rfl, hb⟩
            rw [sameC_refl]
            have HC9 := Lib.hid (HCF.out.keep hb)
            have HN9 := Lib.hid (HN8.out.keep hb)
            have HO9 := Lib.hid (HOF.out.trans hb)
            clear hb HCF HWF HN8 HOF k0 k1 f0 f1 lbF y0 y1 yf0 yf1 ylF
            obtain ⟨k0, k1, f0, f1, lbF⟩ := HC9.out.facts
            obtain ⟨x0, x1, xf0, xf1, xl⟩ := HN9.out.facts
            have hnb : b < W5.heap.size := by omega
            have hnb1 : ¬ b = b10 := by omega
            have hnb2 : ¬ b10 = b := by omega
            have hsn : b ∉ blks sn := fun hk => by have := HNN7.out b hk; omega
            have HP := Lib.hid (HC9.out.put (d := ⟨rl, rv⟩) HN9.out.vers HN9.out.nil hsn)
            have HQ9 := Lib.hid ((HO9.out.setCell (p := ⟨b, 0, none⟩) HB1.out (.int .u64 rl)).setCell (p := ⟨b, 1, none⟩) HB1.out (.slice sn rv.length cn))
            go_wp2_with fail
            go_roundw
            case rel => exact ⟨i + 1, by omega, rfl, hs', sn, cn, HHD.out.2, by rw [← HHD.out.1]; exact HP.out, HQ9.out, fun k hk => by have := HNN7.out k hk; omega⟩
            case measure => simp only [intOf]; omega
          · have hposI : (0 : Int) < m := by omega
            have hpos : 0 < m := by omega
            obtain ⟨g, off, rfl⟩ := HS7.out.there hpos
            have hmod : n % m < m := Nat.mod_lt _ hpos
            have hmodI : (n : Int).tmod (m : Int) = ((n % m : Nat) : Int) := by rw [Int.tmod_eq_emod_of_nonneg (by omega)]; rfl
            have hrvz2 : ¬ ((m : Int) = 0) := by omega
            have hrvz3 : ((m : Int) == 0) = false := by rw [beq_eq_false_iff_ne]; exact hrvz2
            have HMOD := Lib.hid hmod
            generalize n % m = k at *
            have hkI2 : (0 : Int) ≤ k ∧ (k : Int) < m := by omega
            have HS7b : Hid (SliceIs (w6.alloc (.cells #[.int .u64 rl, .slice sn m cn] 27 (0, 0))) 37 3 (some ⟨g, off, none⟩) rv.length cd (rv.map vcells).flatten) := Lib.hid (by rw [HM.out]; exact HS7.out)
            obtain ⟨v0', v1', v2', z0, z1, z2⟩ := HS7b.out.verAt k (by rw [HM.out]; exact HMOD.out)
            have hg : b9 < g := HND.out g (by simp)
            have hg1 : ¬ g = b9 := by omega
            have hg2 : ¬ b9 = g := by omega
            have hgl7 : g < (w6.alloc (.cells #[.int .u64 rl, .slice sn m cn] 27 (0, 0))).heap.size := HS7.out.lt g (by simp)
            have HS8 := Lib.hid (HS7b.out.setV k (by rw [HM.out]; exact HMOD.out) ⟨77, 3, ⟨#[]⟩⟩)
            clear hmod hpos h0
            go_upto_region 20 with fail
            have hx8 : ((((w6.alloc (.cells #[.int .u64 rl, .slice sn m cn] 27 (0, 0))).setCell ⟨g, off + k * 3, none⟩ (.int .u64 77)).setCell ⟨g, off + k * 3 + 1, none⟩ (.int .u8 3)).setCell ⟨g, off + k * 3 + 2, none⟩ (.string ⟨#[]⟩)).heap[b9]? = _ := ((Below.heap_setCell _ _ _ _ (by simpa using hg2)).trans ((Below.heap_setCell _ _ _ _ (by simpa using hg2)).trans (Below.heap_setCell _ _ _ _ (by simpa using hg2)))).trans HX7.out
            have hu8 : Upd (w6.alloc (.cells #[.int .u64 rl, .slice sn m cn] 27 (0, 0))) ((((w6.alloc (.cells #[.int .u64 rl, .slice sn m cn] 27 (0, 0))).setCell ⟨g, off + k * 3, none⟩ (.int .u64 77)).setCell ⟨g, off + k * 3 + 1, none⟩ (.int .u8 3)).setCell ⟨g, off + k * 3 + 2, none⟩ (.string ⟨#[]⟩)) (blks (some ⟨g, off, none⟩)) := (((Upd.refl _ _).setCell (.inl (by simp)) _).setCell (.inl (by simp)) _).setCell (.inl (by simp)) _
            have hs8 : SliceIs ((((w6.alloc (.cells #[.int .u64 rl, .slice sn m cn] 27 (0, 0))).setCell ⟨g, off + k * 3, none⟩ (.int .u64 77)).setCell ⟨g, off + k * 3 + 1, none⟩ (.int .u8 3)).setCell ⟨g, off + k * 3 + 2, none⟩ (.string ⟨#[]⟩)) 37 3 (some ⟨g, off, none⟩) m cd ((rv.set k ⟨77, 3, ⟨#[]⟩⟩).map vcells).flatten := by have := HS8.out; rw [HM.out] at this; exact this
            have HX8 := Lib.hid hx8
            have HU8 := Lib.hid hu8
            have HS9 := Lib.hid hs8
            clear hx8 hu8 hs8 HS8 HS7b v0' v1' v2' z0 z1 z2 d0 d1 df0 df1 dl
            generalize (((w6.alloc (.cells #[.int .u64 rl, .slice sn m cn] 27 (0, 0))).setCell ⟨g, off + k * 3, none⟩ (.int .u64 77)).setCell ⟨g, off + k * 3 + 1, none⟩ (.int .u8 3)).setCell ⟨g, off + k * 3 + 2, none⟩ (.string ⟨#[]⟩) = W8 at *
            generalize w6.alloc (.cells #[.int .u64 rl, .slice sn m cn] 27 (0, 0)) = W7 at *
            generalize w6.heap.size = b10 at *
            obtain ⟨d0, d1, df0, df1, dl⟩ := celBox HX8.out
            obtain ⟨s9, c9, w9, hr9, hu9⟩ := HAPP.out _ (rv.set k ⟨77, 3, ⟨#[]⟩⟩) HS9.out (by rw [List.length_set]; exact HM.out)
            have HU9 := Lib.hid (HU8.out.trans hu9 (fun k hk => .inl hk))
            have hx9 := (hu9.keep b9 dl (fun hk => by have := HND.out b9 hk; omega)).trans HX8.out
            obtain ⟨t0, t1, tf0, tf1, tl⟩ := celBox hx9
            have HX9 := Lib.hid hx9
            clear hu9 hx9
            go_upto_region 21 with fail
            have HUU : Hid (Upd W7 (w9.setCell ⟨b9, 1, none⟩ (.slice s9 (m + 1) c9)) (b9 :: blks (some ⟨g, off, none⟩))) := Lib.hid ((HU9.out.mono (fun _ h => List.mem_cons_of_mem _ h)).setCell (.inl (by simp)) _)
            generalize w9.setCell ⟨b9, 1, none⟩ (.slice s9 (m + 1) c9) = WF at *
            clear hr9 t0 t1 tf0 tf1 tl d0 d1 df0 df1 dl HX9 HU9
            have HF := Lib.hid (HO7.out.upd HUU.out (fun k hk => by
              rcases List.mem_cons.1 hk with rfl | hk
              · exact Nat.le_refl _
              · exact Nat.le_of_lt (HND.out k hk)))
            have hbel : Below W3.heap.size W3 WF := by rw [HSZ.out]; exact HF.out.below
            have HCF := Lib.hid (HC3.out.keep hbel)
            have HWF := Lib.hid (HWAS.out.keep hbel)
            have HOF := Lib.hid (HO3.out.trans hbel)
            have HN8 : Hid (CBox WF b10 ⟨rl, rv⟩ sn cn) := Lib.hid (by
              have hk : ∀ k, W5.heap.size ≤ k → k < W7.heap.size → WF.heap[k]? = W7.heap[k]? := fun k h1 h2 => HUU.out.keep k h2 (fun hm => by
                rcases List.mem_cons.1 hm with rfl | hm
                · omega
                · have := HL5.out k hm; omega)
              refine ⟨(hk b10 hl56 (blk_lt HN7.out.box)).trans HN7.out.box, fun i hi => ?_, HN7.out.nil⟩
              obtain ⟨g', off', e, hc⟩ := HN7.out.vers i hi
              subst e
              exact ⟨g', off', rfl, hc.keep (hk g' (HNN7.out g' (by simp)) hc.lt)⟩)
            clear hbel HUU HF HN7 HS7 HX7 HO7 HC3 HWAS HO3
            obtain ⟨k0, k1, f0, f1, lbF⟩ := HCF.out.facts
            obtain ⟨y0, y1, yf0, yf1, ylF⟩ := HWF.out.facts
            go_wp2_with fail
            refine (same_any _ c c a s3 cap c3 HCF.out.vers HWF.out.vers HH.out.2.1 HH.out.2.1).mono ?_
            rintro e wz ⟨rfl, hb⟩
            rw [sameC_refl]
            have HC9 := Lib.hid (HCF.out.keep hb)
            have HN9 := Lib.hid (HN8.out.keep hb)
            have HO9 := Lib.hid (HOF.out.trans hb)
            clear hb HCF HWF HN8 HOF k0 k1 f0 f1 lbF y0 y1 yf0 yf1 ylF
            obtain ⟨k0, k1, f0, f1, lbF⟩ := HC9.out.facts
            obtain ⟨x0, x1, xf0, xf1, xl⟩ := HN9.out.facts
            have hnb : b < W5.heap.size := by omega
            have hnb1 : ¬ b = b10 := by omega
            have hnb2 : ¬ b10 = b := by omega
            have hsn : b ∉ blks sn := fun hk => by have := HNN7.out b hk; omega
            have HP := Lib.hid (HC9.out.put (d := ⟨rl, rv⟩) HN9.out.vers HN9.out.nil hsn)
            have HQ9 := Lib.hid ((HO9.out.setCell (p := ⟨b, 0, none⟩) HB1.out (.int .u64 rl)).setCell (p := ⟨b, 1, none⟩) HB1.out (.slice sn rv.length cn))
            go_wp2_with fail
            go_roundw
            case rel => exact ⟨i + 1, by omega, rfl, hs', sn, cn, HHD.out.2, by rw [← HHD.out.1]; exact HP.out, HQ9.out, fun k hk => by have := HNN7.out k hk; omega⟩
            case measure => simp only [intOf]; omega
        · by_cases k1' : x.kind % 3 = 1
          · have hk3 : (x.kind : Int).tmod 3 = 1 := by rw [Int.tmod_eq_emod_of_nonneg (by omega)]; omega
            have HCON := Lib.hid (fun (wz : World) (hz : VersAt wz a c.l) (hnz : a = none → cap = 0) => delete_any wz c a cap x.any x.want hz HH.out.1 HH.out.2.1 hnz HH.out.2.2 HX.out.2.1)
            rw [show Cl.delete c x.any x.want = actF c x by unfold actF; rw [if_neg k0', if_pos k1']] at HCON
            have hk4 : (x.kind : Int) % 3 = 1 := by omega
            clear k0' k1'
            generalize actF c x = r at *
            obtain ⟨⟨rl, rv⟩, re⟩ := r
            generalize W3.alloc (.cells #[.int .u64 0, .slice none 0 0] 27 (0, 0)) = W4 at *
            go_wp2_with fail
            clear hk3 hk4
            refine (HCON.out _ HC4.out.vers HC4.out.nil).mono ?_
            rintro e w5 ⟨sd, cd, rfl, hf⟩
            have hb9 := (hf.own.below.block _ (blk_lt HB9.out)).trans HB9.out
            obtain ⟨d0, d1, df0, df1, dl⟩ := celBox hb9
            have hO5 := ((HOW.out.trans hf.own.below).setCell (p := ⟨b9, 0, none⟩) (Nat.le_refl _) (.int .u64 rl)).setCell (p := ⟨b9, 1, none⟩) (Nat.le_refl _) (.slice sd rv.length cd)
            have hl9 := blk_lt HB9.out
            have hs5 := hf.is.keep (w' := (w5.setCell ⟨b9, 0, none⟩ (.int .u64 rl)).setCell ⟨b9, 1, none⟩ (.slice sd rv.length cd)) (fun k hk => set_other _ (by have := hf.new k hk; omega) _ _)
            have hx5 := setCel hb9 rl sd rv.length cd
            have HO5 := Lib.hid hO5
            have HS5 := Lib.hid hs5
            have HX5 := Lib.hid hx5
            have HND : Hid (∀ k ∈ blks sd, b9 < k) := Lib.hid fun k hk => by have := hf.new k hk; omega
            clear hO5 hs5 hx5 hf hb9 HCON q0 q1 q2 q3 q4 k0 k1 f0 f1 HC4 HB74
            go_wp2_with fail
            clear d0 d1 df0 df1 dl
            generalize (w5.setCell ⟨b9, 0, none⟩ (.int .u64 rl)).setCell ⟨b9, 1, none⟩ (.slice sd rv.length cd) = W5 at *
            obtain ⟨hs', hd, hk'⟩ := HA2.out _ rfl
            have hH2 := celOf_ok hs' (i + 1) (by have := HLEN.out; omega) hk'
            rw [← hd] at hH2
            have HH2 := Lib.hid hH2
            have HHD := Lib.hid (And.intro hd hk')
            clear hd hk' hH2 HA2
            have hnd : sd = none → cd = 0 := fun e => by subst e; exact HS5.out.nil_cap
            refine (copied_any _ ⟨rl, rv⟩ sd cd (HS5.out.rowF (vcells_len rv) (by simp)) HH2.out.2.1 hnd).mono ?_
            rintro e w6 ⟨sn, cn, rfl, hf⟩
            have hbl := hf.below (.cells #[.int .u64 rl, .slice sn rv.length cn] 27 (0, 0))
            have HN7 := Lib.hid (CBox.new (c := ⟨rl, rv⟩) hf)
            have HNN7 : Hid (∀ k ∈ blks sn, W5.heap.size ≤ k) := Lib.hid hf.new
            have HO7 := Lib.hid (HO5.out.trans hbl)
            have HS7 := Lib.hid (HS5.out.keep fun k hk => hbl.block k (HS5.out.lt k hk))
            have HL5 := Lib.hid HS5.out.lt
            have HX7 := Lib.hid ((hbl.block _ (blk_lt HX5.out)).trans HX5.out)
            have hl5 : b9 < W5.heap.size := blk_lt HX5.out
            have hl56 : W5.heap.size ≤ w6.heap.size := hf.own.size
            clear hf hbl HO5 HX5 hnd
            obtain ⟨d0, d1, df0, df1, dl⟩ := celBox HX7.out
            have hrvI : (0 : Int) ≤ rv.length ∧ (rv.length : Int) ≤ 1000 := by have := HH2.out.2.1; simp only at this; omega
            have HAPP : Hid (∀ (wz : World) (l2 : List Cl.Ver), SliceIs wz 37 3 sd rv.length cd (l2.map vcells).flatten → l2.length = rv.length → ∃ s' cap' w', (appSem #[25, 25] 25 #[.slice sd rv.length cd, .slice (some ⟨wz.heap.size, 0, none⟩) 1 1]).run Try.prog (wz.alloc (.cells #[.int .u64 78, .int .u8 0, .string ⟨#[]⟩] 37 (0, 0))) = .ok (.slice s' (rv.length + 1) cap') w' ∧ Upd wz w' (blks sd)) := Lib.hid fun wz l2 hS _ => by
              obtain ⟨s', cap', w', hr, _, hu, _⟩ := vapp (wz.alloc (.cells #[.int .u64 78, .int .u8 0, .string ⟨#[]⟩] 37 (0, 0))) sd rv.length cd _ (hS.alloc _) (some ⟨wz.heap.size, 0, none⟩) 1 [⟨78, 0, ⟨#[]⟩⟩] (VersAt.one wz ⟨78, 0, ⟨#[]⟩⟩ 37 (0, 0)) (by have := HH2.out.2.1; simp only at this; simp; omega) (by simp)
              exact ⟨s', cap', w', hr, (((Upd.refl wz (blks sd)).alloc _).trans hu (fun k hk => .inl hk))⟩
            have hrvz : Hid (rv.length ≤ 1000) := Lib.hid (by have := HH2.out.2.1; simp only at this; exact this)
            generalize hm : rv.length = m at *
            have HM := Lib.hid hm
            clear hm
            by_cases h0 : m = 0
            · subst h0
              go_upto_region 20 with fail
              generalize w6.alloc (.cells #[.int .u64 rl, .slice sn 0 cn] 27 (0, 0)) = W7 at *
              generalize w6.heap.size = b10 at *
              obtain ⟨s9, c9, w9, hr9, hu9⟩ := HAPP.out _ rv HS7.out HM.out
              rw [Nat.zero_add] at hr9
              have HU9 := Lib.hid (hu9)
              have hx9 := (hu9.keep b9 dl (fun hk => by have := HND.out b9 hk; omega)).trans HX7.out
              obtain ⟨t0, t1, tf0, tf1, tl⟩ := celBox hx9
              have HX9 := Lib.hid hx9
              clear hu9 hx9
              go_upto_region 21 with fail
              have HUU : Hid (Upd W7 (w9.setCell ⟨b9, 1, none⟩ (.slice s9 1 c9)) (b9 :: blks sd)) := Lib.hid ((HU9.out.mono (fun _ h => List.mem_cons_of_mem _ h)).setCell (.inl (by simp)) _)
              generalize w9.setCell ⟨b9, 1, none⟩ (.slice s9 1 c9) = WF at *
              clear hr9 t0 t1 tf0 tf1 tl d0 d1 df0 df1 dl HX9 HU9
              have HF := Lib.hid (HO7.out.upd HUU.out (fun k hk => by
                rcases List.mem_cons.1 hk with rfl | hk
                · exact Nat.le_refl _
                · exact Nat.le_of_lt (HND.out k hk)))
              have hbel : Below W3.heap.size W3 WF := by rw [HSZ.out]; exact HF.out.below
              have HCF := Lib.hid (HC3.out.keep hbel)
              have HWF := Lib.hid (HWAS.out.keep hbel)
              have HOF := Lib.hid (HO3.out.trans hbel)
              have HN8 : Hid (CBox WF b10 ⟨rl, rv⟩ sn cn) := Lib.hid (by
                have hk : ∀ k, W5.heap.size ≤ k → k < W7.heap.size → WF.heap[k]? = W7.heap[k]? := fun k h1 h2 => HUU.out.keep k h2 (fun hm => by
                  rcases List.mem_cons.1 hm with rfl | hm
                  · omega
                  · have := HL5.out k hm; omega)
                refine ⟨(hk b10 hl56 (blk_lt HN7.out.box)).trans HN7.out.box, fun i hi => ?_, HN7.out.nil⟩
                obtain ⟨g', off', e, hc⟩ := HN7.out.vers i hi
                subst e
                exact ⟨g', off', rfl, hc.keep (hk g' (HNN7.out g' (by simp)) hc.lt)⟩)
              clear hbel HUU HF HN7 HS7 HX7 HO7 HC3 HWAS HO3
              obtain ⟨k0, k1, f0, f1, lbF⟩ := HCF.out.facts
              obtain ⟨y0, y1, yf0, yf1, ylF⟩ := HWF.out.facts
              go_wp2_with fail
              refine (same_any _ c c a s3 cap c3 HCF.out.vers HWF.out.vers HH.out.2.1 HH.out.2.1).mono ?_
              rintro e wz ⟨rfl, hb⟩
              rw [sameC_refl]
              have HC9 := Lib.hid (HCF.out.keep hb)
              have HN9 := Lib.hid (HN8.out.keep hb)
              have HO9 := Lib.hid (HOF.out.trans hb)
              clear hb HCF HWF HN8 HOF k0 k1 f0 f1 lbF y0 y1 yf0 yf1 ylF
              obtain ⟨k0, k1, f0, f1, lbF⟩ := HC9.out.facts
              obtain ⟨x0, x1, xf0, xf1, xl⟩ := HN9.out.facts
              have hnb : b < W5.heap.size := by omega
              have hnb1 : ¬ b = b10 := by omega
              have hnb2 : ¬ b10 = b := by omega
              have hsn : b ∉ blks sn := fun hk => by have := HNN7.out b hk; omega
              have HP := Lib.hid (HC9.out.put (d := ⟨rl, rv⟩) HN9.out.vers HN9.out.nil hsn)
              have HQ9 := Lib.hid ((HO9.out.setCell (p := ⟨b, 0, none⟩) HB1.out (.int .u64 rl)).setCell (p := ⟨b, 1, none⟩) HB1.out (.slice sn rv.length cn))
              go_wp2_with fail
              go_roundw
              case rel => exact ⟨i + 1, by omega, rfl, hs', sn, cn, HHD.out.2, by rw [← HHD.out.1]; exact HP.out, HQ9.out, fun k hk => by have := HNN7.out k hk; omega⟩
              case measure => simp only [intOf]; omega
            · have hposI : (0 : Int) < m := by omega
              have hpos : 0 < m := by omega
              obtain ⟨g, off, rfl⟩ := HS7.out.there hpos
              have hmod : n % m < m := Nat.mod_lt _ hpos
              have hmodI : (n : Int).tmod (m : Int) = ((n % m : Nat) : Int) := by rw [Int.tmod_eq_emod_of_nonneg (by omega)]; rfl
              have hrvz2 : ¬ ((m : Int) = 0) := by omega
              have hrvz3 : ((m : Int) == 0) = false := by rw [beq_eq_false_iff_ne]; exact hrvz2
              have HMOD := Lib.hid hmod
              generalize n % m = k at *
              have hkI2 : (0 : Int) ≤ k ∧ (k : Int) < m := by omega
              have HS7b : Hid (SliceIs (w6.alloc (.cells #[.int .u64 rl, .slice sn m cn] 27 (0, 0))) 37 3 (some ⟨g, off, none⟩) rv.length cd (rv.map vcells).flatten) := Lib.hid (by rw [HM.out]; exact HS7.out)
              obtain ⟨v0', v1', v2', z0, z1, z2⟩ := HS7b.out.verAt k (by rw [HM.out]; exact HMOD.out)
              have hg : b9 < g := HND.out g (by simp)
              have hg1 : ¬ g = b9 := by omega
              have hg2 : ¬ b9 = g := by omega
              have hgl7 : g < (w6.alloc (.cells #[.int .u64 rl, .slice sn m cn] 27 (0, 0))).heap.size := HS7.out.lt g (by simp)
              have HS8 := Lib.hid (HS7b.out.setV k (by rw [HM.out]; exact HMOD.out) ⟨77, 3, ⟨#[]⟩⟩)
              clear hmod hpos h0
              go_upto_region 20 with fail
              have hx8 : ((((w6.alloc (.cells #[.int .u64 rl, .slice sn m cn] 27 (0, 0))).setCell ⟨g, off + k * 3, none⟩ (.int .u64 77)).setCell ⟨g, off + k * 3 + 1, none⟩ (.int .u8 3)).setCell ⟨g, off + k * 3 + 2, none⟩ (.string ⟨#[]⟩)).heap[b9]? = _ := ((Below.heap_setCell _ _ _ _ (by simpa using hg2)).trans ((Below.heap_setCell _ _ _ _ (by simpa using hg2)).trans (Below.heap_setCell _ _ _ _ (by simpa using hg2)))).trans HX7.out
              have hu8 : Upd (w6.alloc (.cells #[.int .u64 rl, .slice sn m cn] 27 (0, 0))) ((((w6.alloc (.cells #[.int .u64 rl, .slice sn m cn] 27 (0, 0))).setCell ⟨g, off + k * 3, none⟩ (.int .u64 77)).setCell ⟨g, off + k * 3 + 1, none⟩ (.int .u8 3)).setCell ⟨g, off + k * 3 + 2, none⟩ (.string ⟨#[]⟩)) (blks (some ⟨g, off, none⟩)) := (((Upd.refl _ _).setCell (.inl (by simp)) _).setCell (.inl (by simp)) _).setCell (.inl (by simp)) _
              have hs8 : SliceIs ((((w6.alloc (.cells #[.int .u64 rl, .slice sn m cn] 27 (0, 0))).setCell ⟨g, off + k * 3, none⟩ (.int .u64 77)).setCell ⟨g, off + k * 3 + 1, none⟩ (.int .u8 3)).setCell ⟨g, off + k * 3 + 2, none⟩ (.string ⟨#[]⟩)) 37 3 (some ⟨g, off, none⟩) m cd ((rv.set k ⟨77, 3, ⟨#[]⟩⟩).map vcells).flatten := by have := HS8.out; rw [HM.out] at this; exact this
              have HX8 := Lib.hid hx8
              have HU8 := Lib.hid hu8
              have HS9 := Lib.hid hs8
              clear hx8 hu8 hs8 HS8 HS7b v0' v1' v2' z0 z1 z2 d0 d1 df0 df1 dl
              generalize (((w6.alloc (.cells #[.int .u64 rl, .slice sn m cn] 27 (0, 0))).setCell ⟨g, off + k * 3, none⟩ (.int .u64 77)).setCell ⟨g, off + k * 3 + 1, none⟩ (.int .u8 3)).setCell ⟨g, off + k * 3 + 2, none⟩ (.string ⟨#[]⟩) = W8 at *
              generalize w6.alloc (.cells #[.int .u64 rl, .slice sn m cn] 27 (0, 0)) = W7 at *
              generalize w6.heap.size = b10 at *
              obtain ⟨d0, d1, df0, df1, dl⟩ := celBox HX8.out
              obtain ⟨s9, c9, w9, hr9, hu9⟩ := HAPP.out _ (rv.set k ⟨77, 3, ⟨#[]⟩⟩) HS9.out (by rw [List.length_set]; exact HM.out)
              have HU9 := Lib.hid (HU8.out.trans hu9 (fun k hk => .inl hk))
              have hx9 := (hu9.keep b9 dl (fun hk => by have := HND.out b9 hk; omega)).trans HX8.out
              obtain ⟨t0, t1, tf0, tf1, tl⟩ := celBox hx9
              have HX9 := Lib.hid hx9
              clear hu9 hx9
              go_upto_region 21 with fail
              have HUU : Hid (Upd W7 (w9.setCell ⟨b9, 1, none⟩ (.slice s9 (m + 1) c9)) (b9 :: blks (some ⟨g, off, none⟩))) := Lib.hid ((HU9.out.mono (fun _ h => List.mem_cons_of_mem _ h)).setCell (.inl (by simp)) _)
              generalize w9.setCell ⟨b9, 1, none⟩ (.slice s9 (m + 1) c9) = WF at *
              clear hr9 t0 t1 tf0 tf1 tl d0 d1 df0 df1 dl HX9 HU9
              have HF := Lib.hid (HO7.out.upd HUU.out (fun k hk => by
                rcases List.mem_cons.1 hk with rfl | hk
                · exact Nat.le_refl _
                · exact Nat.le_of_lt (HND.out k hk)))
              have hbel : Below W3.heap.size W3 WF := by rw [HSZ.out]; exact HF.out.below
              have HCF := Lib.hid (HC3.out.keep hbel)
              have HWF := Lib.hid (HWAS.out.keep hbel)
              have HOF := Lib.hid (HO3.out.trans hbel)
              have HN8 : Hid (CBox WF b10 ⟨rl, rv⟩ sn cn) := Lib.hid (by
                have hk : ∀ k, W5.heap.size ≤ k → k < W7.heap.size → WF.heap[k]? = W7.heap[k]? := fun k h1 h2 => HUU.out.keep k h2 (fun hm => by
                  rcases List.mem_cons.1 hm with rfl | hm
                  · omega
                  · have := HL5.out k hm; omega)
                refine ⟨(hk b10 hl56 (blk_lt HN7.out.box)).trans HN7.out.box, fun i hi => ?_, HN7.out.nil⟩
                obtain ⟨g', off', e, hc⟩ := HN7.out.vers i hi
                subst e
                exact ⟨g', off', rfl, hc.keep (hk g' (HNN7.out g' (by simp)) hc.lt)⟩)
              clear hbel HUU HF HN7 HS7 HX7 HO7 HC3 HWAS HO3
              obtain ⟨k0, k1, f0, f1, lbF⟩ := HCF.out.facts
              obtain ⟨y0, y1, yf0, yf1, ylF⟩ := HWF.out.facts
              go_wp2_with fail
              refine (same_any _ c c a s3 cap c3 HCF.out.vers HWF.out.vers HH.out.2.1 HH.out.2.1).mono ?_
              rintro e wz ⟨rfl, hb⟩
              rw [sameC_refl]
              have HC9 := Lib.hid (HCF.out.keep hb)
              have HN9 := Lib.hid (HN8.out.keep hb)
              have HO9 := Lib.hid (HOF.out.trans hb)
              clear hb HCF HWF HN8 HOF k0 k1 f0 f1 lbF y0 y1 yf0 yf1 ylF
              obtain ⟨k0, k1, f0, f1, lbF⟩ := HC9.out.facts
              obtain ⟨x0, x1, xf0, xf1, xl⟩ := HN9.out.facts
              have hnb : b < W5.heap.size := by omega
              have hnb1 : ¬ b = b10 := by omega
              have hnb2 : ¬ b10 = b := by omega
              have hsn : b ∉ blks sn := fun hk => by have := HNN7.out b hk; omega
              have HP := Lib.hid (HC9.out.put (d := ⟨rl, rv⟩) HN9.out.vers HN9.out.nil hsn)
              have HQ9 := Lib.hid ((HO9.out.setCell (p := ⟨b, 0, none⟩) HB1.out (.int .u64 rl)).setCell (p := ⟨b, 1, none⟩) HB1.out (.slice sn rv.length cn))
              go_wp2_with fail
              go_roundw
              case rel => exact ⟨i + 1, by omega, rfl, hs', sn, cn, HHD.out.2, by rw [← HHD.out.1]; exact HP.out, HQ9.out, fun k hk => by have := HNN7.out k hk; omega⟩
              case measure => simp only [intOf]; omega
          · have hk3 : (x.kind : Int).tmod 3 = 2 := by rw [Int.tmod_eq_emod_of_nonneg (by omega)]; omega
            have HCON := Lib.hid (fun (wz : World) (hz : VersAt wz a c.l) (hnz : a = none → cap = 0) => destroy_any wz c a cap x.n hz HH.out.1 HH.out.2.1 hnz HH.out.2.2)
            rw [show Cl.destroy c x.n = actF c x by unfold actF; rw [if_neg k0', if_neg k1']] at HCON
            have hk4 : (x.kind : Int) % 3 = 2 := by omega
            clear k0' k1'
            generalize actF c x = r at *
            obtain ⟨⟨rl, rv⟩, re⟩ := r
            generalize W3.alloc (.cells #[.int .u64 0, .slice none 0 0] 27 (0, 0)) = W4 at *
            go_wp2_with fail
            clear hk3 hk4
            refine (HCON.out _ HC4.out.vers HC4.out.nil).mono ?_
            rintro e w5 ⟨sd, cd, rfl, hf⟩
            have hb9 := (hf.own.below.block _ (blk_lt HB9.out)).trans HB9.out
            obtain ⟨d0, d1, df0, df1, dl⟩ := celBox hb9
            have hO5 := ((HOW.out.trans hf.own.below).setCell (p := ⟨b9, 0, none⟩) (Nat.le_refl _) (.int .u64 rl)).setCell (p := ⟨b9, 1, none⟩) (Nat.le_refl _) (.slice sd rv.length cd)
            have hl9 := blk_lt HB9.out
            have hs5 := hf.is.keep (w' := (w5.setCell ⟨b9, 0, none⟩ (.int .u64 rl)).setCell ⟨b9, 1, none⟩ (.slice sd rv.length cd)) (fun k hk => set_other _ (by have := hf.new k hk; omega) _ _)
            have hx5 := setCel hb9 rl sd rv.length cd
            have HO5 := Lib.hid hO5
            have HS5 := Lib.hid hs5
            have HX5 := Lib.hid hx5
            have HND : Hid (∀ k ∈ blks sd, b9 < k) := Lib.hid fun k hk => by have := hf.new k hk; omega
            clear hO5 hs5 hx5 hf hb9 HCON q0 q1 q2 q3 q4 k0 k1 f0 f1 HC4 HB74
            go_wp2_with fail
            clear d0 d1 df0 df1 dl
            generalize (w5.setCell ⟨b9, 0, none⟩ (.int .u64 rl)).setCell ⟨b9, 1, none⟩ (.slice sd rv.length cd) = W5 at *
            obtain ⟨hs', hd, hk'⟩ := HA2.out _ rfl
            have hH2 := celOf_ok hs' (i + 1) (by have := HLEN.out; omega) hk'
            rw [← hd] at hH2
            have HH2 := Lib.hid hH2
            have HHD := Lib.hid (And.intro hd hk')
            clear hd hk' hH2 HA2
            have hnd : sd = none → cd = 0 := fun e => by subst e; exact HS5.out.nil_cap
            refine (copied_any _ ⟨rl, rv⟩ sd cd (HS5.out.rowF (vcells_len rv) (by simp)) HH2.out.2.1 hnd).mono ?_
            rintro e w6 ⟨sn, cn, rfl, hf⟩
            have hbl := hf.below (.cells #[.int .u64 rl, .slice sn rv.length cn] 27 (0, 0))
            have HN7 := Lib.hid (CBox.new (c := ⟨rl, rv⟩) hf)
            have HNN7 : Hid (∀ k ∈ blks sn, W5.heap.size ≤ k) := Lib.hid hf.new
            have HO7 := Lib.hid (HO5.out.trans hbl)
            have HS7 := Lib.hid (HS5.out.keep fun k hk => hbl.block k (HS5.out.lt k hk))
            have HL5 := Lib.hid HS5.out.lt
            have HX7 := Lib.hid ((hbl.block _ (blk_lt HX5.out)).trans HX5.out)
            have hl5 : b9 < W5.heap.size := blk_lt HX5.out
            have hl56 : W5.heap.size ≤ w6.heap.size := hf.own.size
            clear hf hbl HO5 HX5 hnd
            obtain ⟨d0, d1, df0, df1, dl⟩ := celBox HX7.out
            have hrvI : (0 : Int) ≤ rv.length ∧ (rv.length : Int) ≤ 1000 := by have := HH2.out.2.1; simp only at this; omega
            have HAPP : Hid (∀ (wz : World) (l2 : List Cl.Ver), SliceIs wz 37 3 sd rv.length cd (l2.map vcells).flatten → l2.length = rv.length → ∃ s' cap' w', (appSem #[25, 25] 25 #[.slice sd rv.length cd, .slice (some ⟨wz.heap.size, 0, none⟩) 1 1]).run Try.prog (wz.alloc (.cells #[.int .u64 78, .int .u8 0, .string ⟨#[]⟩] 37 (0, 0))) = .ok (.slice s' (rv.length + 1) cap') w' ∧ Upd wz w' (blks sd)) := Lib.hid fun wz l2 hS _ => by
              obtain ⟨s', cap', w', hr, _, hu, _⟩ := vapp (wz.alloc (.cells #[.int .u64 78, .int .u8 0, .string ⟨#[]⟩] 37 (0, 0))) sd rv.length cd _ (hS.alloc _) (some ⟨wz.heap.size, 0, none⟩) 1 [⟨78, 0, ⟨#[]⟩⟩] (VersAt.one wz ⟨78, 0, ⟨#[]⟩⟩ 37 (0, 0)) (by have := HH2.out.2.1; simp only at this; simp; omega) (by simp)
              exact ⟨s', cap', w', hr, (((Upd.refl wz (blks sd)).alloc _).trans hu (fun k hk => .inl hk))⟩
            have hrvz : Hid (rv.length ≤ 1000) := Lib.hid (by have := HH2.out.2.1; simp only at this; exact this)
            generalize hm : rv.length = m at *
            have HM := Lib.hid hm
            clear hm
            by_cases h0 : m = 0
            · subst h0
              go_upto_region 20 with fail
              generalize w6.alloc (.cells #[.int .u64 rl, .slice sn 0 cn] 27 (0, 0)) = W7 at *
              generalize w6.heap.size = b10 at *
              obtain ⟨s9, c9, w9, hr9, hu9⟩ := HAPP.out _ rv HS7.out HM.out
              rw [Nat.zero_add] at hr9
              have HU9 := Lib.hid (hu9)
              have hx9 := (hu9.keep b9 dl (fun hk => by have := HND.out b9 hk; omega)).trans HX7.out
              obtain ⟨t0, t1, tf0, tf1, tl⟩ := celBox hx9
              have HX9 := Lib.hid hx9
              clear hu9 hx9
              go_upto_region 21 with fail
              have HUU : Hid (Upd W7 (w9.setCell ⟨b9, 1, none⟩ (.slice s9 1 c9)) (b9 :: blks sd)) := Lib.hid ((HU9.out.mono (fun _ h => List.mem_cons_of_mem _ h)).setCell (.inl (by simp)) _)
              generalize w9.setCell ⟨b9, 1, none⟩ (.slice s9 1 c9) = WF at *
              clear hr9 t0 t1 tf0 tf1 tl d0 d1 df0 df1 dl HX9 HU9
              have HF := Lib.hid (HO7.out.upd HUU.out (fun k hk => by
                rcases List.mem_cons.1 hk with rfl | hk
                · exact Nat.le_refl _
                · exact Nat.le_of_lt (HND.out k hk)))
              have hbel : Below W3.heap.size W3 WF := by rw [HSZ.out]; exact HF.out.below
              have HCF := Lib.hid (HC3.out.keep hbel)
              have HWF := Lib.hid (HWAS.out.keep hbel)
              have HOF := Lib.hid (HO3.out.trans hbel)
              have HN8 : Hid (CBox WF b10 ⟨rl, rv⟩ sn cn) := Lib.hid (by
                have hk : ∀ k, W5.heap.size ≤ k → k < W7.heap.size → WF.heap[k]? = W7.heap[k]? := fun k h1 h2 => HUU.out.keep k h2 (fun hm => by
                  rcases List.mem_cons.1 hm with rfl | hm
                  · omega
                  · have := HL5.out k hm; omega)
                refine ⟨(hk b10 hl56 (blk_lt HN7.out.box)).trans HN7.out.box, fun i hi => ?_, HN7.out.nil⟩
                obtain ⟨g', off', e, hc⟩ := HN7.out.vers i hi
                subst e
                exact ⟨g', off', rfl, hc.keep (hk g' (HNN7.out g' (by simp)) hc.lt)⟩)
              clear hbel HUU HF HN7 HS7 HX7 HO7 HC3 HWAS HO3
              obtain ⟨k0, k1, f0, f1, lbF⟩ := HCF.out.facts
              obtain ⟨y0, y1, yf0, yf1, ylF⟩ := HWF.out.facts
              go_wp2_with fail
              refine (same_any _ c c a s3 cap c3 HCF.out.vers HWF.out.vers HH.out.2.1 HH.out.2.1).mono ?_
              rintro e wz ⟨rfl, hb⟩
              rw [sameC_refl]
              have HC9 := Lib.hid (HCF.out.keep hb)
              have HN9 := Lib.hid (HN8.out.keep hb)
              have HO9 := Lib.hid (HOF.out.trans hb)
              clear hb HCF HWF HN8 HOF k0 k1 f0 f1 lbF y0 y1 yf0 yf1 ylF
              obtain ⟨k0, k1, f0, f1, lbF⟩ := HC9.out.facts
              obtain ⟨x0, x1, xf0, xf1, xl⟩ := HN9.out.facts
              have hnb : b < W5.heap.size := by omega
              have hnb1 : ¬ b = b10 := by omega
              have hnb2 : ¬ b10 = b := by omega
              have hsn : b ∉ blks sn := fun hk => by have := HNN7.out b hk; omega
              have HP := Lib.hid (HC9.out.put (d := ⟨rl, rv⟩) HN9.out.vers HN9.out.nil hsn)
              have HQ9 := Lib.hid ((HO9.out.setCell (p := ⟨b, 0, none⟩) HB1.out (.int .u64 rl)).setCell (p := ⟨b, 1, none⟩) HB1.out (.slice sn rv.length cn))
              go_wp2_with fail
              go_roundw
              case rel => exact ⟨i + 1, by omega, rfl, hs', sn, cn, HHD.out.2, by rw [← HHD.out.1]; exact HP.out, HQ9.out, fun k hk => by have := HNN7.out k hk; omega⟩
              case measure => simp only [intOf]; omega
            · have hposI : (0 : Int) < m := by omega
              have hpos : 0 < m := by omega
              obtain ⟨g, off, rfl⟩ := HS7.out.there hpos
              have hmod : n % m < m := Nat.mod_lt _ hpos
              have hmodI : (n : Int).tmod (m : Int) = ((n % m : Nat) : Int) := by rw [Int.tmod_eq_emod_of_nonneg (by omega)]; rfl
              have hrvz2 : ¬ ((m : Int) = 0) := by omega
              have hrvz3 : ((m : Int) == 0) = false := by rw [beq_eq_false_iff_ne]; exact hrvz2
              have HMOD := Lib.hid hmod
              generalize n % m = k at *
              have hkI2 : (0 : Int) ≤ k ∧ (k : Int) < m := by omega
              have HS7b : Hid (SliceIs (w6.alloc (.cells #[.int .u64 rl, .slice sn m cn] 27 (0, 0))) 37 3 (some ⟨g, off, none⟩) rv.length cd (rv.map vcells).flatten) := Lib.hid (by rw [HM.out]; exact HS7.out)
              obtain ⟨v0', v1', v2', z0, z1, z2⟩ := HS7b.out.verAt k (by rw [HM.out]; exact HMOD.out)
              have hg : b9 < g := HND.out g (by simp)
              have hg1 : ¬ g = b9 := by omega
              have hg2 : ¬ b9 = g := by omega
              have hgl7 : g < (w6.alloc (.cells #[.int .u64 rl, .slice sn m cn] 27 (0, 0))).heap.size := HS7.out.lt g (by simp)
              have HS8 := Lib.hid (HS7b.out.setV k (by rw [HM.out]; exact HMOD.out) ⟨77, 3, ⟨#[]⟩⟩)
              clear hmod hpos h0
              go_upto_region 20 with fail
              have hx8 : ((((w6.alloc (.cells #[.int .u64 rl, .slice sn m cn] 27 (0, 0))).setCell ⟨g, off + k * 3, none⟩ (.int .u64 77)).setCell ⟨g, off + k * 3 + 1, none⟩ (.int .u8 3)).setCell ⟨g, off + k * 3 + 2, none⟩ (.string ⟨#[]⟩)).heap[b9]? = _ := ((Below.heap_setCell _ _ _ _ (by simpa using hg2)).trans ((Below.heap_setCell _ _ _ _ (by simpa using hg2)).trans (Below.heap_setCell _ _ _ _ (by simpa using hg2)))).trans HX7.out
              have hu8 : Upd (w6.alloc (.cells #[.int .u64 rl, .slice sn m cn] 27 (0, 0))) ((((w6.alloc (.cells #[.int .u64 rl, .slice sn m cn] 27 (0, 0))).setCell ⟨g, off + k * 3, none⟩ (.int .u64 77)).setCell ⟨g, off + k * 3 + 1, none⟩ (.int .u8 3)).setCell ⟨g, off + k * 3 + 2, none⟩ (.string ⟨#[]⟩)) (blks (some ⟨g, off, none⟩)) := (((Upd.refl _ _).setCell (.inl (by simp)) _).setCell (.inl (by simp)) _).setCell (.inl (by simp)) _
              have hs8 : SliceIs ((((w6.alloc (.cells #[.int .u64 rl, .slice sn m cn] 27 (0, 0))).setCell ⟨g, off + k * 3, none⟩ (.int .u64 77)).setCell ⟨g, off + k * 3 + 1, none⟩ (.int .u8 3)).setCell ⟨g, off + k * 3 + 2, none⟩ (.string ⟨#[]⟩)) 37 3 (some ⟨g, off, none⟩) m cd ((rv.set k ⟨77, 3, ⟨#[]⟩⟩).map vcells).flatten := by have := HS8.out; rw [HM.out] at this; exact this
              have HX8 := Lib.hid hx8
              have HU8 := Lib.hid hu8
              have HS9 := Lib.hid hs8
              clear hx8 hu8 hs8 HS8 HS7b v0' v1' v2' z0 z1 z2 d0 d1 df0 df1 dl
              generalize (((w6.alloc (.cells #[.int .u64 rl, .slice sn m cn] 27 (0, 0))).setCell ⟨g, off + k * 3, none⟩ (.int .u64 77)).setCell ⟨g, off + k * 3 + 1, none⟩ (.int .u8 3)).setCell ⟨g, off + k * 3 + 2, none⟩ (.string ⟨#[]⟩) = W8 at *
              generalize w6.alloc (.cells #[.int .u64 rl, .slice sn m cn] 27 (0, 0)) = W7 at *
              generalize w6.heap.size = b10 at *
              obtain ⟨d0, d1, df0, df1, dl⟩ := celBox HX8.out
              obtain ⟨s9, c9, w9, hr9, hu9⟩ := HAPP.out _ (rv.set k ⟨77, 3, ⟨#[]⟩⟩) HS9.out (by rw [List.length_set]; exact HM.out)
              have HU9 := Lib.hid (HU8.out.trans hu9 (fun k hk => .inl hk))
              have hx9 := (hu9.keep b9 dl (fun hk => by have := HND.out b9 hk; omega)).trans HX8.out
              obtain ⟨t0, t1, tf0, tf1, tl⟩ := celBox hx9
              have HX9 := Lib.hid hx9
              clear hu9 hx9
              go_upto_region 21 with fail
              have HUU : Hid (Upd W7 (w9.setCell ⟨b9, 1, none⟩ (.slice s9 (m + 1) c9)) (b9 :: blks (some ⟨g, off, none⟩))) := Lib.hid ((HU9.out.mono (fun _ h => List.mem_cons_of_mem _ h)).setCell (.inl (by simp)) _)
              generalize w9.setCell ⟨b9, 1, none⟩ (.slice s9 (m + 1) c9) = WF at *
              clear hr9 t0 t1 tf0 tf1 tl d0 d1 df0 df1 dl HX9 HU9
              have HF := Lib.hid (HO7.out.upd HUU.out (fun k hk => by
                rcases List.mem_cons.1 hk with rfl | hk
                · exact Nat.le_refl _
                · exact Nat.le_of_lt (HND.out k hk)))
              have hbel : Below W3.heap.size W3 WF := by rw [HSZ.out]; exact HF.out.below
              have HCF := Lib.hid (HC3.out.keep hbel)
              have HWF := Lib.hid (HWAS.out.keep hbel)
              have HOF := Lib.hid (HO3.out.trans hbel)
              have HN8 : Hid (CBox WF b10 ⟨rl, rv⟩ sn cn) := Lib.hid (by
                have hk : ∀ k, W5.heap.size ≤ k → k < W7.heap.size → WF.heap[k]? = W7.heap[k]? := fun k h1 h2 => HUU.out.keep k h2 (fun hm => by
                  rcases List.mem_cons.1 hm with rfl | hm
                  · omega
                  · have := HL5.out k hm; omega)
                refine ⟨(hk b10 hl56 (blk_lt HN7.out.box)).trans HN7.out.box, fun i hi => ?_, HN7.out.nil⟩
                obtain ⟨g', off', e, hc⟩ := HN7.out.vers i hi
                subst e
                exact ⟨g', off', rfl, hc.keep (hk g' (HNN7.out g' (by simp)) hc.lt)⟩)
              clear hbel HUU HF HN7 HS7 HX7 HO7 HC3 HWAS HO3
              obtain ⟨k0, k1, f0, f1, lbF⟩ := HCF.out.facts
              obtain ⟨y0, y1, yf0, yf1, ylF⟩ := HWF.out.facts
              go_wp2_with fail
              refine (same_any _ c c a s3 cap c3 HCF.out.vers HWF.out.vers HH.out.2.1 HH.out.2.1).mono ?_
              rintro e wz ⟨rfl, hb⟩
              rw [sameC_refl]
              have HC9 := Lib.hid (HCF.out.keep hb)
              have HN9 := Lib.hid (HN8.out.keep hb)
              have HO9 := Lib.hid (HOF.out.trans hb)
              clear hb HCF HWF HN8 HOF k0 k1 f0 f1 lbF y0 y1 yf0 yf1 ylF
              obtain ⟨k0, k1, f0, f1, lbF⟩ := HC9.out.facts
              obtain ⟨x0, x1, xf0, xf1, xl⟩ := HN9.out.facts
              have hnb : b < W5.heap.size := by omega
              have hnb1 : ¬ b = b10 := by omega
              have hnb2 : ¬ b10 = b := by omega
              have hsn : b ∉ blks sn := fun hk => by have := HNN7.out b hk; omega
              have HP := Lib.hid (HC9.out.put (d := ⟨rl, rv⟩) HN9.out.vers HN9.out.nil hsn)
              have HQ9 := Lib.hid ((HO9.out.setCell (p := ⟨b, 0, none⟩) HB1.out (.int .u64 rl)).setCell (p := ⟨b, 1, none⟩) HB1.out (.slice sn rv.length cn))
              go_wp2_with fail
              go_roundw
              case rel => exact ⟨i + 1, by omega, rfl, hs', sn, cn, HHD.out.2, by rw [← HHD.out.1]; exact HP.out, HQ9.out, fun k hk => by have := HNN7.out k hk; omega⟩
              case measure => simp only [intOf]; omega
      · have hiI : (i : Int) = l.length := by omega
        clear hO hc hok hne
        go_wp2_with fail
        refine (works_any _).mono ?_
        rintro e w2 ⟨rfl, hb⟩
        have HO2 := Lib.hid (HO.out.trans hb)
        clear hb
        go_wp2_with fail
        go_ret
        exact ⟨rfl, HO2.out.below⟩

end Go.Proofs.Ytigbjmhlcacijaa
