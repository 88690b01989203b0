/-
  THE WALKS of the document's answer for layer 9: Spoil, New.
-/
import Derived.Test.YtickdhlhafifhaaDiskRef5
namespace Go.Proofs.Ytickdhlhafifhaa
open Go.RowKit

attribute [local go_sem ↓ high] appSem_eq

theorem MarkIs.move {w w' : World} {base : Nat} {e : TypeId} {g n cap : Nat} {l : List UInt8} (h : MarkIs w base e (some ⟨g, 0, none⟩) n cap l) (hb : w'.heap[g]? = w.heap[g]?) : MarkIs w' base e (some ⟨g, 0, none⟩) n cap l := by
  refine ⟨h.1, ?_⟩
  rcases h.2 with ⟨h1, _⟩ | ⟨g', cur, fz, hg', hbg, hg, rest⟩
  · cases h1
  · cases hg'
    exact .inr ⟨g, cur, fz, rfl, hbg, hb.trans hg, rest⟩
section
variable {w : World} {q : Nat} {d : Dk.D} {sa la : Option Addr} {sc lc : Nat}
set_option maxRecDepth 20000 in
set_option maxHeartbeats 2000000 in
theorem rspoil (h : RBox w q d sa sc la lc) (ok : d.ok) (hl : d.loose.length ≤ 100000) (hcn : cutsNone d.loose) (file i : Int) (hi1 : -9223372036854775808 ≤ i) (hi2 : i ≤ 9223372036854775807) (b : UInt8) :
    Calls Try.prog 27 #[.pointer (some ⟨q, 0, none⟩), .int .i64 file, .int .i64 i, .int .u8 (by8 b)] w fun e w' => e = .returned (.int .i64 (Dk.spoil d file i b).2) ∧ RStep w w' q (Dk.spoil d file i b).1 la := by
  have HI := Lib.hid (ris h file)
  have HN := Lib.hid (now_any h ok hl hcn)
  have HB := Lib.hid h
  have HOK := Lib.hid ok
  have hlI : (0 : Int) ≤ d.loose.length ∧ (d.loose.length : Int) ≤ 100000 := by omega
  clear h ok hl hcn
  go_enter Try.func27, Try.ntmps27
  go_wp2_with fail
  cases his : d.is file with
  | false =>
    rw [his] at HI
    have HE := Lib.hid (spoil_none (i := i) (b := b) his)
    clear his
    refine HI.out.mono ?_
    rintro e w2 ⟨rfl, hw⟩
    subst w2
    go_wp2_with fail
    go_ret
    rw [HE.out]
    exact ⟨rfl, HB.out.same (Below.refl _ _)⟩
  | true =>
    rw [his] at HI
    have hfI := Dk.D.is_iff.1 his
    obtain ⟨f, rfl⟩ := Int.eq_ofNat_of_zero_le hfI.1
    have hfn : f < d.n := by omega
    have HF := Lib.hid hfn
    have hfI2 : (0 : Int) ≤ f ∧ (f : Int) < d.n := hfI
    have hnI : (d.n : Int) ≤ 16 := by have := HOK.out.n2; omega
    have HIS := Lib.hid his
    have hzI : (0 : Int) ≤ (Dk.txt d.now f).size ∧ ((Dk.txt d.now f).size : Int) ≤ 4194304 := by have t1 := Dk.txt_le d.now f; have t2 := HOK.out.total_now; unfold Dk.Most at t2; omega
    clear his hfI hfn
    refine HI.out.mono ?_
    rintro e w2 ⟨rfl, hw⟩
    subst w2
    go_wp2_with fail
    refine HN.out.mono ?_
    rintro e w2 ⟨a, cap, rfl, hS, hb, _⟩
    obtain ⟨g, off, rfl, hg, hc, _⟩ := hS.at1 f (by rw [Dk.D.now_length]; exact HF.out)
    have hB2 := HB.out.keep hb
    obtain ⟨c0, c1, c2, c3, f0, f1, f3, hq⟩ := hB2.facts
    have HBB := Lib.hid hb
    have HB2 := Lib.hid hB2
    clear hS hb hB2 HN HI
    by_cases hbad : i < 0 ∨ ((Dk.txt d.now f).size : Int) ≤ i
    · have HE := Lib.hid (spoil_arg (b := b) HIS.out hbad)
      by_cases hi0 : i < 0
      · clear hbad
        go_wp2_with fail
        go_ret
        rw [HE.out]
        exact ⟨rfl, HB.out.same HBB.out⟩
      · have hi3 : ((Dk.txt d.now f).size : Int) ≤ i := by omega
        clear hbad
        go_wp2_with fail
        go_ret
        rw [HE.out]
        exact ⟨rfl, HB.out.same HBB.out⟩
    · obtain ⟨k, rfl⟩ := Int.eq_ofNat_of_zero_le (show 0 ≤ i by omega)
      have hq2 : k < (Dk.txt d.now f).size := by omega
      have hqI : (0 : Int) ≤ k ∧ (k : Int) < (Dk.txt d.now f).size := by omega
      by_cases hlo : d.loose = []
      · have HE := Lib.hid (spoil_yes (b := b) HIS.out hq2 hlo)
        have HLO := Lib.hid hlo
        have hlen : d.loose.length = 0 := by rw [hlo]; rfl
        rw [hlen] at c1
        have hns : d.now = d.sure := by unfold Dk.D.now; rw [hlo]; rfl
        have HNS := Lib.hid hns
        obtain ⟨cp, W0, hconv, hmk, hbw⟩ := MarkIs.of_bytes (P := Try.prog) w2 9 76 5 (Dk.txt d.now f) Try.underlying9 Try.underlying76 Try.underlying5 (by unfold maxLen; omega)
        have hql : k < (L (Dk.txt d.now f)).length := by rw [L_size]; exact hq2
        obtain ⟨m1, m2, m3, m4⟩ := hmk.byte k hql
        have hms := hmk.set k hql ((L (Dk.txt d.now f))[k] ^^^ b)
        have hTU : Dk.turned (Dk.txt d.sure f) k b = S ((L (Dk.txt d.now f)).set k ((L (Dk.txt d.now f))[k] ^^^ b)) := by
          have hg : (L (Dk.txt d.now f))[k] = (L (Dk.txt d.now f)).getD k 0 := by rw [List.getD_eq_getElem?_getD, List.getElem?_eq_getElem hql]; rfl
          unfold Dk.turned
          rw [hg, hns]
        have HTU := Lib.hid hTU
        have hB0 := HB2.out.keep hbw
        have hb1 : Below w2.heap.size w2 (W0.setCell ⟨w2.heap.size, k, none⟩ (.int .u8 (by8 ((L (Dk.txt d.now f))[k] ^^^ b)))) := hbw.setCell (Nat.le_refl _) _
        have hB1 := HB2.out.keep hb1
        obtain ⟨s', cap', w6, hr, hS6, hO6, hfr6⟩ := copy_s (W0.setCell ⟨w2.heap.size, k, none⟩ (.int .u8 (by8 ((L (Dk.txt d.now f))[k] ^^^ b)))) sa d.n sc d.sure hB1.sure rfl (by omega)
        have hB6 := hB1.keep hO6.below
        have hm6 := hms.move (hO6.below.block w2.heap.size (by simp; exact m3))
        have hbs : (W0.setCell ⟨w2.heap.size, k, none⟩ (.int .u8 (by8 ((L (Dk.txt d.now f))[k] ^^^ b)))).heap.size = W0.heap.size := by simp
        rw [hbs] at hfr6 hr
        have hbb6 : Below w2.heap.size w2 w6 := hb1.trans (hO6.below.mono (by rw [hbs]; exact hbw.size))
        have hqW : q < w2.heap.size := blk_lt HB2.out.box
        clear hbad hq2 hlo hlen hns hTU hmk hms hB1 hO6 hbs hbw
        generalize (L (Dk.txt d.now f))[k] = bq at *
        obtain ⟨y0, y1, y2, y3, e0, e1, e3, _⟩ := hB6.facts
        obtain ⟨x0, x1, x2, x3, _, _, _, _⟩ := hB0.facts
        have hlen2 : d.loose.length = 0 := by rw [HLO.out]; rfl
        rw [hlen2] at x1 y1
        have HB6 := Lib.hid hB6
        have HM6 := Lib.hid hm6
        have HS6 := Lib.hid hS6
        have HFR6 := Lib.hid hfr6
        have HBB6 := Lib.hid hbb6
        have HQW := Lib.hid hqW
        have HM3 := Lib.hid m3
        clear hB6 hm6 hS6 hfr6 hbb6 hB0 hlen2 hqW
        go_wp2_with fail
        have hnq : ∀ z ∈ blks s', z ≠ q := fun z hz e => by have := HFR6.out z hz; have := HM3.out; have := HQW.out; omega
        have hla := HB6.out.ne.2.1
        have hbox7 := heap_set (i := 0) (Value.slice s' d.n cap') HB6.out.box
        have hS7 := HS6.out.keep (w' := w6.setCell ⟨q, 0, none⟩ (.slice s' d.n cap')) fun z hz => Below.heap_setCell _ _ _ _ (by simpa using hnq z hz)
        have hL7 := HB6.out.loose.keep (w' := w6.setCell ⟨q, 0, none⟩ (.slice s' d.n cap')) fun z hz => Below.heap_setCell _ _ _ _ (by simp; intro e; subst e; exact hla hz)
        have hm7 := HM6.out.move (w' := w6.setCell ⟨q, 0, none⟩ (.slice s' d.n cap')) (Below.heap_setCell _ _ _ _ (by simp; have := HQW.out; omega))
        have hu7 : Upd w (w6.setCell ⟨q, 0, none⟩ (.slice s' d.n cap')) [q] := (((Upd.of_below [q] HBB.out).trans (Upd.of_below [q] HBB6.out) (fun x hx => .inl hx))).setCell (.inl (by simp)) _
        have hsz7 : w2.heap.size ≤ (w6.setCell ⟨q, 0, none⟩ (.slice s' d.n cap')).heap.size := by simp; exact HBB6.out.size
        clear c0 c1 c2 c3 f0 f1 f3 y0 y1 y2 y3 e0 e1 e3 x0 x1 x2 x3 hconv hr m1 m2 m3 m4 hb1 hla hc
        generalize w6.setCell ⟨q, 0, none⟩ (.slice s' d.n cap') = w7 at *
        obtain ⟨g7, o7, rfl, hg7, hc7, hf7⟩ := hS7.at1 f (by have := HF.out; exact this)
        have hq0 : w7.cell? ⟨q, 0, none⟩ = some (.slice (some ⟨g7, o7, none⟩) d.n cap') := by rw [cell_of_row w7 q _ _ _ _ hbox7]; rfl
        have hcv := hm7.text (P := Try.prog) 76 9 Try.underlying76 Try.underlying5 Try.underlying9 (by omega)
        have hcv2 := (hm7.move (w' := w7.drew) rfl).text (P := Try.prog) 76 9 Try.underlying76 Try.underlying5 Try.underlying9 (by omega)
        have htu : Dk.turned (Dk.txt d.sure f) k b = ⟨((L (Dk.txt d.now f)).set k (bq ^^^ b)).toArray⟩ := HTU.out
        rw [← htu] at hcv hcv2
        have hgq : g7 ≠ q := hnq g7 (by simp)
        have HS7 := Lib.hid hS7
        have HL7 := Lib.hid hL7
        have HBX7 := Lib.hid hbox7
        have HU7 := Lib.hid hu7
        have HGS : Hid (w.heap.size ≤ g7) := Lib.hid (by have := HFR6.out g7 (by simp); have := HM3.out; have := HBB.out.size; omega)
        clear hS7 hL7 hbox7 hu7 hm7 htu hsz7 hnq
        generalize hT : Dk.turned (Dk.txt d.sure f) k b = T at *
        go_region
        go_wp2_with fail
        go_ret
        rw [HE.out]
        have e1 : ({ d with sure := d.sure.set f T } : Dk.D).n = d.n := by unfold Dk.D.n; simp
        have hgl : g7 ∉ blks la := by
          intro hx
          rcases HL7.out.2 with ⟨h0, _⟩ | ⟨g', off', cur, hrr, hgg, _⟩
          · rw [h0] at hx; cases hx
          · rw [hrr] at hx; simp at hx; subst hx
            exact HS7.out.ne hgg (by decide) (by simp)
        refine ⟨rfl, some ⟨g7, o7, none⟩, cap', la, lc, ⟨?_, ?_, ?_⟩, ?_, fun z hz => .inl hz⟩
        · rw [e1]
          refine Eq.trans (Below.heap_setCell _ _ _ _ (by simpa using Ne.symm hgq)) ?_
          rw [HBX7.out]; rfl
        · rw [e1]
          have h := (HS7.out.set1 f HF.out (.string T)).keep (w' := (w7.setCell ⟨g7, o7 + f, none⟩ (.string T)).drew) fun _ _ => rfl
          rw [map_set_str] at h
          exact h
        · exact HL7.out.keep fun z hz => Below.heap_setCell _ _ _ _ (by simp; intro e; subst e; exact hgl hz)
        · exact ((HU7.out.mono (by simp)).setCell (.inr HGS.out) _).drew
      · have HE := Lib.hid (spoil_busy (b := b) HIS.out hbad hlo)
        have hlp : (0 : Int) < d.loose.length := by have := List.length_pos_iff.2 hlo; omega
        clear hbad hq2 hlo
        go_wp2_with fail
        go_ret
        rw [HE.out]
        exact ⟨rfl, HB.out.same HBB.out⟩
end

end Go.Proofs.Ytickdhlhafifhaa
