/-
  THE WALKS of the document's answer for layer 9: Now, Room, burn, Is, Read.
-/
import Derived.Test.YtickdhlhafifhaaDiskRef
import Derived.Deep.RegionHeld3
import Derived.Deep.CutBlock
import Derived.Deep.DeepCutAuto
namespace Go.Proofs.Ytickdhlhafifhaa
open Go.RowKit

attribute [local go_sem ↓ high] appSem_eq

/-- The answer's disk in memory. -/
structure RBox (w : World) (q : Nat) (d : Dk.D) (sa : Option Addr) (sc : Nat) (la : Option Addr) (lc : Nat) : Prop where
  box : w.heap[q]? = some (.cells #[.slice sa d.n sc, .slice la d.loose.length lc, .int .i64 d.room, .int .i64 d.fuse] 71 (0, 0))
  sure : SliceIs w 9 1 sa d.n sc (d.sure.map Value.string)
  loose : SliceIs w 73 4 la d.loose.length lc (d.loose.map ccells).flatten
def RHas (w : World) (q : Nat) (d : Dk.D) (F : List Nat) : Prop := ∃ sa sc la lc, F = q :: (blks sa ++ blks la) ∧ RBox w q d sa sc la lc
theorem RBox.facts {w : World} {q : Nat} {d : Dk.D} {sa la : Option Addr} {sc lc : Nat} (h : RBox w q d sa sc la lc) :
    w.cell? ⟨q, 0, none⟩ = some (.slice sa d.n sc) ∧ w.cell? ⟨q, 1, none⟩ = some (.slice la d.loose.length lc) ∧ w.cell? ⟨q, 2, none⟩ = some (.int .i64 d.room) ∧ w.cell? ⟨q, 3, none⟩ = some (.int .i64 d.fuse) ∧ w.frozen? ⟨q, 0, none⟩ = false ∧ w.frozen? ⟨q, 1, none⟩ = false ∧ w.frozen? ⟨q, 3, none⟩ = false ∧ q < w.heap.size := by
  refine ⟨?_, ?_, ?_, ?_, ?_, ?_, ?_, blk_lt h.box⟩
  all_goals first | (rw [cell_of_row w q _ _ _ _ h.box]; rfl) | simp [World.frozen?, h.box]
theorem RBox.keep {w w' : World} {q : Nat} {d : Dk.D} {sa la : Option Addr} {sc lc : Nat} (h : RBox w q d sa sc la lc) (hb : Below w.heap.size w w') : RBox w' q d sa sc la lc :=
  ⟨(hb.block q (blk_lt h.box)).trans h.box, h.sure.keep fun k hk => hb.block k (h.sure.lt k hk), h.loose.keep fun k hk => hb.block k (h.loose.lt k hk)⟩
theorem calls4 (l : List Dk.Call) : ∀ x ∈ l.map ccells, x.length = 4 := by intro x hx; simp only [List.mem_map] at hx; obtain ⟨c, _, rfl⟩ := hx; rfl
theorem RBox.callAt {w : World} {q : Nat} {d : Dk.D} {sa la : Option Addr} {sc lc : Nat} (h : RBox w q d sa sc la lc) (k : Nat) (hk : k < d.loose.length) :
    ∃ g off, la = some ⟨g, off, none⟩ ∧ g < w.heap.size ∧ w.cell? ⟨g, off + k * 4, none⟩ = some (.int .i64 d.loose[k].file) ∧ w.cell? ⟨g, off + k * 4 + 1, none⟩ = some (.bool d.loose[k].cut) ∧ w.cell? ⟨g, off + k * 4 + 2, none⟩ = some (.int .i64 d.loose[k].n) ∧ w.cell? ⟨g, off + k * 4 + 3, none⟩ = some (.string d.loose[k].s) := by
  obtain ⟨g, off, ha, hc⟩ := h.loose.rowF (calls4 d.loose) (by simp) k (by simpa using hk)
  rw [List.getElem_map] at hc
  exact ⟨g, off, ha, hc.lt, hc.cell 0 (by simp [ccells]), hc.cell 1 (by simp [ccells]), hc.cell 2 (by simp [ccells]), hc.cell 3 (by simp [ccells])⟩
theorem call_size {d : Dk.D} (ok : d.ok) (k : Nat) (hk : k < d.loose.length) : (Dk.txt (Dk.runs d.sure (d.loose.take k)) d.loose[k].file).size + d.loose[k].s.size ≤ 1073741824 ∨ d.loose[k].cut = true := by
  obtain ⟨o1, o2, o3⟩ := Dk.okRow_at ok.row k hk
  cases hc : d.loose[k].cut with
  | true => exact .inr rfl
  | false =>
    left
    have t1 := Dk.total_wr (f := Dk.runs d.sure (d.loose.take k)) hc (by rw [Dk.runs_length]; exact o1)
    have t2 := Dk.txt_le (Dk.runs d.sure (d.loose.take k)) d.loose[k].file
    unfold Dk.Most at o3; omega
/-- A cut holds no text. -/
def cutsNone (l : List Dk.Call) : Prop := ∀ c ∈ l, c.cut = true → c.s = Dk.none

set_option maxRecDepth 20000 in
set_option maxHeartbeats 2000000 in
theorem now_any {w : World} {q : Nat} {d : Dk.D} {sa la : Option Addr} {sc lc : Nat} (h : RBox w q d sa sc la lc) (ok : d.ok) (hl : d.loose.length ≤ 100000) (hcn : cutsNone d.loose) :
    Calls Try.prog 43 #[.pointer (some ⟨q, 0, none⟩)] w fun e w' => ∃ a cap, e = .returned (.slice a d.n cap) ∧ SliceIs w' 9 1 a d.n cap (d.now.map Value.string) ∧ Below w.heap.size w w' ∧ ∀ k ∈ blks a, w.heap.size ≤ k := by
  obtain ⟨c0, c1, c2, c3, f0, f1, f3, hq⟩ := h.facts
  obtain ⟨s', cap', w2, hr, hS2, hO2, hfr⟩ := copy_s w sa d.n sc d.sure h.sure rfl (by have := ok.n2; omega)
  have HB := Lib.hid h
  have HOK := Lib.hid ok
  have HCN := Lib.hid hcn
  have hlI : (0 : Int) ≤ d.loose.length ∧ (d.loose.length : Int) ≤ 100000 := by omega
  have HS2 := Lib.hid hS2
  have HO2 := Lib.hid hO2
  have HFR := Lib.hid hfr
  clear h ok hl hcn hS2 hO2 hfr
  go_enter Try.func43, Try.ntmps43
  go_wp2_with fail
  go_loopw [3, 4] (fun vl vi wr => ∃ (k : Nat) (a : Option Addr) (cap : Nat), k ≤ d.loose.length ∧ vi = .int .i64 k ∧ vl = .slice a d.n cap ∧ SliceIs wr 9 1 a d.n cap ((Dk.runs d.sure (d.loose.take k)).map Value.string) ∧ (∀ x ∈ blks a, w.heap.size ≤ x) ∧ Own w.heap.size w wr) (fun _ vi _ => d.loose.length - (intOf vi).toNat)
  case atStart => exact ⟨0, _, _, Nat.zero_le _, rfl, rfl, HS2.out, HFR.out, HO2.out⟩
  case round =>
    clear HS2 HO2 HFR hr c0 c1 c2 c3 f0 f1 f3
    obtain ⟨k, a, cap, hk, rfl, rfl, hS, hbk, hO⟩ := hrel
    have hBr := HB.out.keep hO.below
    obtain ⟨c0, c1, c2, c3, f0, f1, f3, hq2⟩ := hBr.facts
    have HBK := Lib.hid hbk
    have HO := Lib.hid hO
    by_cases hlt : k < d.loose.length
    · obtain ⟨g, off, rfl, hg, z0, z1, z2, z3⟩ := hBr.callAt k hlt
      have hkI : (0 : Int) ≤ k ∧ (k : Int) < d.loose.length := by omega
      obtain ⟨o1, o2, o3⟩ := Dk.okRow_at HOK.out.row k hlt
      have hz := call_size HOK.out k hlt
      have hcn := HCN.out d.loose[k] (List.getElem_mem hlt)
      have ht := Dk.total_runs HOK.out.row HOK.out.tot k (by omega)
      have hrl := Dk.runs_length d.sure (d.loose.take k)
      have HSU := Lib.hid (Dk.runs_take_succ d.sure d.loose k hlt)
      generalize d.loose[k] = c at *
      generalize Dk.runs d.sure (d.loose.take k) = fs at *
      have hzz : (Dk.txt fs c.file).size + c.s.size ≤ 1073741824 := by
        rcases hz with hz | hz
        · exact hz
        · rw [hcn hz]
          have t2 := Dk.txt_le fs c.file
          unfold Dk.Most at ht
          have : Dk.none.size = 0 := rfl
          omega
      have hdn := done_any wr.drew a d.n cap fs c c.s.size hS.drew (by rw [hrl]; rfl) HOK.out.n2 o1 o2 hzz
      rw [done_run] at hdn
      have HDN := Lib.hid hdn
      have HC := Lib.hid (And.intro hg (And.intro c1 (And.intro z0 (And.intro z1 (And.intro z2 (And.intro z3 hq2))))))
      clear o1 o2 o3 hz hcn ht hrl hzz hdn hS hbk hO hBr
      go_wp2_with fail
      go_region_held3 (fun w' => w'.cell? ⟨q, 1, none⟩ = some (.slice (some ⟨g, off, none⟩) d.loose.length lc) ∧ w'.cell? ⟨g, off + k * 4, none⟩ = some (.int .i64 c.file) ∧ w'.cell? ⟨g, off + k * 4 + 1, none⟩ = some (.bool c.cut) ∧ w'.cell? ⟨g, off + k * 4 + 2, none⟩ = some (.int .i64 c.n) ∧ w'.cell? ⟨g, off + k * 4 + 3, none⟩ = some (.string c.s))
        (first | (with_reducible exact ⟨c1, z0, z1, z2, z3⟩) | (with_reducible exact ⟨c1', z0', z1', z2', z3'⟩) | exact ⟨c1, z0, z1, z2, z3⟩)
        (first
        | (go_at_call 44
           (with_reducible refine HDN.out.mono ?_)
           rintro e w3 ⟨b', cp', rfl, hS3, hb3, hf3⟩
           have c1' := keep_at hb3 HC.out.2.1 HC.out.2.2.2.2.2.2
           have z0' := keep_at hb3 HC.out.2.2.1 HC.out.1
           have z1' := keep_at hb3 HC.out.2.2.2.1 HC.out.1
           have z2' := keep_at hb3 HC.out.2.2.2.2.1 HC.out.1
           have z3' := keep_at hb3 HC.out.2.2.2.2.2.1 HC.out.1
           have HS3 := Lib.hid hS3
           have HF3 : Hid (∀ x ∈ blks b', w.heap.size ≤ x) := Lib.hid (fun x hx => Nat.le_trans HO.out.size (hf3 x hx))
           have HO3 := Lib.hid (HO.out.drew.trans hb3)
           clear hS3 hb3 hf3))
      all_goals
        go_wp2_with fail
        go_roundw
        case rel => exact ⟨k + 1, b', cp', by omega, by go_num, rfl, by rw [HSU.out]; exact HS3.out, HF3.out, HO3.out⟩
        case measure => simp [intOf]; omega
    · obtain rfl : k = d.loose.length := by omega
      rw [List.take_length] at hS
      have HS := Lib.hid hS
      clear hS hbk hO hBr
      go_wp2_with fail
      go_ret
      exact ⟨a, cap, rfl, HS.out, HO.out.below, HBK.out⟩

end Go.Proofs.Ytickdhlhafifhaa
