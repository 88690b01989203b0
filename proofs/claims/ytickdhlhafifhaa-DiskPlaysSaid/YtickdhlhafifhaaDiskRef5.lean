/-
  THE WALK of the document's answer for layer 9: Crash.
-/
import Derived.Test.YtickdhlhafifhaaDiskRef4
namespace Go.Proofs.Ytickdhlhafifhaa
open Go.RowKit

attribute [local go_sem ↓ high] appSem_eq

theorem crashed_more (f : List ByteArray) (l : List Dk.Call) (x y : Int) (k : Nat) (hk : k ≤ l.length) (h : k = l.length ∨ x < (k : Int)) : Dk.crashed f (l.take k) x y = Dk.crashed f l x y := by
  rcases h with rfl | h
  · rw [List.take_length]
  unfold Dk.crashed
  by_cases h0 : 0 ≤ x
  · have e1 : min x.toNat k = x.toNat := by omega
    rw [dif_pos (by rw [List.length_take]; omega), dif_pos (by omega)]
    simp only [List.take_take, List.getElem_take, e1]
  · rw [dif_neg (by omega), dif_neg (by omega), show x.toNat = 0 by omega]; simp
theorem part_cut (f : List ByteArray) (c : Dk.Call) (y : Int) (h : c.cut = true) : Dk.part f c y = f := by unfold Dk.part; rw [h]; rfl
section
variable {w : World} {q : Nat} {d : Dk.D} {sa la : Option Addr} {sc lc : Nat}
set_option maxRecDepth 20000 in
set_option maxHeartbeats 2000000 in
theorem rcrash (h : RBox w q d sa sc la lc) (ok : d.ok) (hl : d.loose.length ≤ 100000) (hcn : cutsNone d.loose) (x y : Int) :
    Calls Try.prog 26 #[.pointer (some ⟨q, 0, none⟩), .int .i64 x, .int .i64 y] w fun e w' => e = .returned (.tuple #[]) ∧ RStep w w' q (Dk.crash d x y) la := by
  obtain ⟨c0, c1, c2, c3, f0, f1, f3, hq⟩ := h.facts
  obtain ⟨s', cap', w2, hr, hS2, hO2, hfr⟩ := copy_s w sa d.n sc d.sure h.sure rfl (by have := ok.n2; omega)
  have HB := Lib.hid h
  have HOK := Lib.hid ok
  have HCN := Lib.hid hcn
  have hlI : (0 : Int) ≤ d.loose.length ∧ (d.loose.length : Int) ≤ 100000 := by omega
  have HS2 := Lib.hid hS2
  have HO2 := Lib.hid hO2
  have HFR := Lib.hid hfr
  clear h ok hl hcn hS2 hO2 hfr
  go_enter Try.func26, Try.ntmps26
  go_upto_block 0 with (fail)
  go_cut [6] (fun v wx => ∃ a cap, v = .slice a d.n cap ∧ SliceIs wx 9 1 a d.n cap ((Dk.crashed d.sure d.loose x y).map Value.string) ∧ (∀ k ∈ blks a, w.heap.size ≤ k) ∧ Own w.heap.size w wx)
  case first =>
    go_wp2_with fail
    go_loopw [6, 7] (fun vl vi wr => ∃ (k : Nat) (a : Option Addr) (cap : Nat), k ≤ d.loose.length ∧ vi = .int .i64 k ∧ vl = .slice a d.n cap ∧ SliceIs wr 9 1 a d.n cap ((Dk.crashed d.sure (d.loose.take k) x y).map Value.string) ∧ (∀ x ∈ blks a, w.heap.size ≤ x) ∧ Own w.heap.size w wr) (fun _ vi _ => d.loose.length - (intOf vi).toNat)
    case atStart => exact ⟨0, _, _, Nat.zero_le _, rfl, rfl, by rw [List.take_zero, Dk.crashed_zero]; exact HS2.out, HFR.out, HO2.out⟩
    case round =>
      clear HS2 HO2 HFR hr c0 c1 c2 c3 f0 f1 f3
      obtain ⟨k, a, cap, hk, rfl, rfl, hS, hbk, hO⟩ := hrel
      have hBr := HB.out.keep hO.below
      obtain ⟨c0, c1, c2, c3, f0, f1, f3, hq2⟩ := hBr.facts
      have HBK := Lib.hid hbk
      have HO := Lib.hid hO
      by_cases hlt : k < d.loose.length
      · have hkI : (0 : Int) ≤ k ∧ (k : Int) < d.loose.length := by omega
        by_cases hgt : x < (k : Int)
        · have hx := crashed_more d.sure d.loose x y k hk (.inr hgt)
          rw [hx] at hS
          have hle : ¬ (k : Int) ≤ x := by omega
          have HS := Lib.hid hS
          clear hx hS hbk hO hBr
          go_wp2_with fail
          go_meet
          exact ⟨a, cap, rfl, HS.out, HBK.out, HO.out⟩
        · have hle : (k : Int) ≤ x := by omega
          obtain ⟨g, off, rfl, hg, z0, z1, z2, z3⟩ := hBr.callAt k hlt
          obtain ⟨o1, o2, o3⟩ := Dk.okRow_at HOK.out.row k hlt
          have hz := call_size HOK.out k hlt
          have hcn := HCN.out d.loose[k] (List.getElem_mem hlt)
          have ht := Dk.total_runs HOK.out.row HOK.out.tot k (by omega)
          have hrl := Dk.runs_length d.sure (d.loose.take k)
          have hcur := Dk.crashed_all d.sure d.loose x y k (by omega) hle
          have HC2 := Lib.hid (And.intro hg (And.intro c1 (And.intro z0 (And.intro z1 (And.intro z2 (And.intro z3 hq2))))))
          rcases Int.lt_or_eq_of_le hle with hlt2 | heq
          · have HSU := Lib.hid (Dk.crashed_run d.sure d.loose x y k hlt hlt2).1
            rw [hcur] at hS HSU
            generalize d.loose[k] = c at *
            generalize Dk.runs d.sure (d.loose.take k) = fs at *
            have hzz : (Dk.txt fs c.file).size + c.s.size ≤ 1073741824 := by
              rcases hz with hz | hz
              · exact hz
              · rw [hcn hz]
                have t2 := Dk.txt_le fs c.file
                unfold Dk.Most at ht
                have : Dk.none.size = 0 := rfl
                omega
            have hdn := done_any wr.drew a d.n cap fs c c.s.size hS.drew (by rw [hrl]; rfl) HOK.out.n2 o1 o2 hzz
            rw [done_run] at hdn
            have HDN := Lib.hid hdn
            clear o1 o2 o3 hz hcn ht hrl hzz hdn hS hbk hO hBr hcur hgt
            go_wp2_with fail
            go_region_held3 (fun w' => w'.cell? ⟨q, 1, none⟩ = some (.slice (some ⟨g, off, none⟩) d.loose.length lc) ∧ w'.cell? ⟨g, off + k * 4, none⟩ = some (.int .i64 c.file) ∧ w'.cell? ⟨g, off + k * 4 + 1, none⟩ = some (.bool c.cut) ∧ w'.cell? ⟨g, off + k * 4 + 2, none⟩ = some (.int .i64 c.n) ∧ w'.cell? ⟨g, off + k * 4 + 3, none⟩ = some (.string c.s))
              (first | (with_reducible exact ⟨c1, z0, z1, z2, z3⟩) | (with_reducible exact ⟨c1', z0', z1', z2', z3'⟩) | exact ⟨c1, z0, z1, z2, z3⟩)
              (first
              | (go_at_call 44
                 (with_reducible refine HDN.out.mono ?_)
                 rintro e w3 ⟨b', cp', rfl, hS3, hb3, hf3⟩
                 have c1' := keep_at hb3 HC2.out.2.1 HC2.out.2.2.2.2.2.2
                 have z0' := keep_at hb3 HC2.out.2.2.1 HC2.out.1
                 have z1' := keep_at hb3 HC2.out.2.2.2.1 HC2.out.1
                 have z2' := keep_at hb3 HC2.out.2.2.2.2.1 HC2.out.1
                 have z3' := keep_at hb3 HC2.out.2.2.2.2.2.1 HC2.out.1
                 have HS3 := Lib.hid hS3
                 have HF3 : Hid (∀ x ∈ blks b', w.heap.size ≤ x) := Lib.hid (fun x hx => Nat.le_trans HO.out.size (hf3 x hx))
                 have HO3 := Lib.hid (HO.out.drew.trans hb3)
                 clear hS3 hb3 hf3))
            all_goals
              go_wp2_with fail
              go_roundw
              case rel => exact ⟨k + 1, b', cp', by omega, by go_num, rfl, by rw [HSU.out]; exact HS3.out, HF3.out, HO3.out⟩
              case measure => simp [intOf]; omega
          · subst heq
            have HSU := Lib.hid (Dk.crashed_part d.sure d.loose (k : Int) y k hlt rfl).1
            rw [hcur] at hS HSU
            cases hcut : d.loose[k].cut with
            | true =>
              have hpc := part_cut (Dk.runs d.sure (d.loose.take k)) d.loose[k] y hcut
              rw [hpc] at HSU
              rw [hcut] at z1
              have HS := Lib.hid hS
              clear o1 o2 o3 hz hcn ht hrl hS hbk hO hBr hcur hgt hpc hcut HC2
              generalize d.loose[k] = c at *
              go_wp2_with fail
              go_roundw
              case rel => exact ⟨k + 1, a, cap, by omega, by go_num, rfl, by rw [HSU.out]; exact HS.out, HBK.out, HO.out⟩
              case measure => simp [intOf]; omega
            | false =>
              rw [← done_part _ _ _ hcut] at HSU
              have hzz : (Dk.txt (Dk.runs d.sure (d.loose.take k)) d.loose[k].file).size + d.loose[k].s.size ≤ 1073741824 := by
                rcases hz with hz | hz
                · exact hz
                · rw [hcut] at hz; cases hz
              have hdn := done_any wr a d.n cap (Dk.runs d.sure (d.loose.take k)) d.loose[k] y hS (by rw [hrl]; rfl) HOK.out.n2 o1 o2 hzz
              have HDN := Lib.hid hdn
              rw [hcut] at z1 HDN
              clear o1 o2 o3 hz hcn ht hrl hzz hdn hS hbk hO hBr hcur hgt hcut HC2
              generalize Dk.runs d.sure (d.loose.take k) = fs at *
              generalize d.loose[k] = c at *
              go_wp2_with fail
              refine HDN.out.mono ?_
              rintro e w3 ⟨b', cp', rfl, hS3, hb3, hf3⟩
              have HS3 := Lib.hid hS3
              have HF3 : Hid (∀ x ∈ blks b', w.heap.size ≤ x) := Lib.hid (fun x hx => Nat.le_trans HO.out.size (hf3 x hx))
              have HO3 := Lib.hid (HO.out.trans hb3)
              clear hS3 hb3 hf3
              go_wp2_with fail
              go_roundw
              case rel => exact ⟨k + 1, b', cp', by omega, by go_num, rfl, by rw [HSU.out]; exact HS3.out, HF3.out, HO3.out⟩
              case measure => simp [intOf]; omega
      · obtain rfl : k = d.loose.length := by omega
        rw [List.take_length] at hS
        have HS := Lib.hid hS
        clear hS hbk hO hBr
        go_wp2_with fail
        go_meet
        exact ⟨a, cap, rfl, HS.out, HBK.out, HO.out⟩
  case rest =>
    obtain ⟨a, cap, rfl, hS, hbk, hO⟩ := hcut
    have hB2 := HB.out.keep hO.below
    clear c0 c1 c2 c3 f0 f1 f3 hr HS2 HO2 HFR
    obtain ⟨c0, c1, c2, c3, f0, f1, f3, hq2⟩ := hB2.facts
    have HB2 := Lib.hid hB2
    have HS := Lib.hid hS
    have HBK := Lib.hid hbk
    have HO := Lib.hid hO
    clear hB2 hS hbk hO
    go_wp2_with fail
    refine bodyPost_end (v := .tuple #[]) (by simp [results, Try.results26, go_sem]) rfl ?_
    have e : (Dk.crash d x y).n = d.n := by show (Dk.crashed _ _ _ _).length = _; rw [Dk.crashed_length]; rfl
    have hqq := blk_lt HB.out.box
    have hne : ∀ k ∈ blks a, k ≠ q := fun k hk e => by have := HBK.out k hk; omega
    refine ⟨rfl, a, cap, none, 0, ⟨?_, ?_, SliceIs.nil _ _ _⟩, ?_, by simp⟩
    · rw [e, heap_set _ (heap_set _ (heap_set _ HB2.out.box))]; rfl
    · rw [e]
      exact HS.out.keep fun k hk => ((Below.heap_setCell _ _ _ _ (by simpa using hne k hk)).trans (Below.heap_setCell _ _ _ _ (by simpa using hne k hk))).trans (Below.heap_setCell _ _ _ _ (by simpa using hne k hk))
    · exact ((((Upd.of_below [q] HO.out.below).setCell (.inl (by simp)) _).setCell (.inl (by simp)) _).setCell (.inl (by simp)) _).mono (by simp)
end

end Go.Proofs.Ytickdhlhafifhaa
