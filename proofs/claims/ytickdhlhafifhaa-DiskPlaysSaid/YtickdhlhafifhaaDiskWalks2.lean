/-
  THE WALKS of layer 9, more of them: Room, Fuse, the calls that are loose.
-/
import Derived.Test.YtickdhlhafifhaaDiskWalks
namespace Go.Proofs.Ytickdhlhafifhaa
open Go.RowKit

attribute [local go_sem ↓ high] appSem_eq

theorem total_padd (f : List ByteArray) : Dk.total (padd f) = Dk.total f := by
  unfold padd Dk.total
  rw [List.map_append, List.sum_append, List.map_replicate, List.sum_replicate_nat]
  have : Dk.none.size = 0 := rfl
  rw [this]; simp
theorem total_take_succ (f : List ByteArray) (hf : f.length ≤ 16) (k : Nat) (hk : k < 16) : Dk.total ((padd f).take (k + 1)) = Dk.total ((padd f).take k) + (Dk.txt f k).size := by
  have hl := padd_length hf
  have hg := padd_get f k hk
  rw [List.getElem?_eq_getElem (by omega)] at hg
  rw [List.take_succ_eq_append_getElem (by omega)]
  unfold Dk.total
  rw [List.map_append, List.sum_append]
  simp only [Option.some.injEq] at hg
  rw [hg]; simp
theorem total_take_le (f : List ByteArray) (k : Nat) : Dk.total ((padd f).take k) ≤ Dk.total f := by
  rw [← total_padd f]
  conv => rhs; rw [← List.take_append_drop k (padd f)]
  unfold Dk.total
  rw [List.map_append, List.sum_append]; omega
theorem dcs_load {n room : Int} {nw sr : List ByteArray} {a : Option Addr} {len cap : Nat} {fuse : Int} (h1 : nw.length ≤ 16) : ((((dcs n room nw sr a len cap fuse).toArray).toList.drop 2).take 16).toArray = (strs nw).toArray := by
  rw [List.toList_toArray, dcs_take_now h1]

section
variable {w : World} {p n room : Nat} {nw sr : List ByteArray} {a : Option Addr} {len cap : Nat} {fuse : Int}
variable {ops : Array Oper} {rest : List Oper} {o : Oper} {ac : Act} {Q : Exit → Act → World → Prop}
theorem wp_load_now (h : DBox w p n room nw sr a len cap fuse) (hgd : o.guard = none) (x : Operand) (ho : o.op = .load 60 x) (hx : ac.eval x = .pointer (some ⟨p, 2, none⟩))
    (k : wpList Try.prog ops Q rest (ac.put o.dst (.agg (strs nw).toArray)) w) : wpList Try.prog ops Q (o :: rest) ac w := by
  refine wpList_load_agg hgd 60 x ho p 2 16 hx 63 _ (0, 0) _ h.box Try.underlying60 rfl (by kernel_rfl) (by rw [List.size_toArray, dcs_length h.l1 h.l2]; decide) ?_
  rw [List.toList_toArray, dcs_take_now h.l1]
  exact k
theorem wp_load_sure (h : DBox w p n room nw sr a len cap fuse) (hgd : o.guard = none) (x : Operand) (ho : o.op = .load 60 x) (hx : ac.eval x = .pointer (some ⟨p, 18, none⟩))
    (k : wpList Try.prog ops Q rest (ac.put o.dst (.agg (strs sr).toArray)) w) : wpList Try.prog ops Q (o :: rest) ac w := by
  refine wpList_load_agg hgd 60 x ho p 18 16 hx 63 _ (0, 0) _ h.box Try.underlying60 rfl (by kernel_rfl) (by rw [List.size_toArray, dcs_length h.l1 h.l2]; decide) ?_
  rw [List.toList_toArray, dcs_take_sure h.l1 h.l2]
  exact k
theorem wp_store_now (h : DBox w p n room nw sr a len cap fuse) (f : List ByteArray) (hf : f.length = n) (hgd : o.guard = none) (x v : Operand) (ho : o.op = .store 60 x v) (hx : ac.eval x = .pointer (some ⟨p, 2, none⟩)) (hv : ac.eval v = .agg (strs f).toArray)
    (k : ∀ w', DBox w' p n room f sr a len cap fuse → Upd w w' [p] → wpList Try.prog ops Q rest (ac.put o.dst undef) w') : wpList Try.prog ops Q (o :: rest) ac w := by
  have hl : (strs f).length = 16 := strs_length (by rw [hf]; exact h.n16)
  refine wpList_store_agg hgd 60 x v ho p 2 (strs f).toArray hx hv 63 _ h.box (by rw [List.size_toArray, hl]; kernel_rfl) (by rw [List.size_toArray, List.size_toArray, hl, dcs_length h.l1 h.l2]; decide) (by rw [List.toList_toArray]; exact strs_one f) ?_
  have e := dcs_put_now (n := (n : Int)) (room := (room : Int)) (nw := nw) (sr := sr) (a := a) (len := len) (cap := cap) (fuse := fuse) h.l1 f
  rw [List.size_toArray, hl, List.toList_toArray, List.toList_toArray, e]
  exact k _ ⟨setRow_heap _ _ _ _ _ _ h.box, hf, h.ls, h.n16⟩ ((Upd.refl _ _).setRow (by simp) _)
theorem wp_store_sure (h : DBox w p n room nw sr a len cap fuse) (f : List ByteArray) (hf : f.length = n) (hgd : o.guard = none) (x v : Operand) (ho : o.op = .store 60 x v) (hx : ac.eval x = .pointer (some ⟨p, 18, none⟩)) (hv : ac.eval v = .agg (strs f).toArray)
    (k : ∀ w', DBox w' p n room nw f a len cap fuse → Upd w w' [p] → wpList Try.prog ops Q rest (ac.put o.dst undef) w') : wpList Try.prog ops Q (o :: rest) ac w := by
  have hl : (strs f).length = 16 := strs_length (by rw [hf]; exact h.n16)
  refine wpList_store_agg hgd 60 x v ho p 18 (strs f).toArray hx hv 63 _ h.box (by rw [List.size_toArray, hl]; kernel_rfl) (by rw [List.size_toArray, List.size_toArray, hl, dcs_length h.l1 h.l2]; decide) (by rw [List.toList_toArray]; exact strs_one f) ?_
  have e := dcs_put_sure (n := (n : Int)) (room := (room : Int)) (nw := nw) (sr := sr) (a := a) (len := len) (cap := cap) (fuse := fuse) h.l1 h.l2 f
  rw [List.size_toArray, hl, List.toList_toArray, List.toList_toArray, e]
  exact k _ ⟨setRow_heap _ _ _ _ _ _ h.box, h.ln, hf, h.n16⟩ ((Upd.refl _ _).setRow (by simp) _)
end

theorem run_index_files (f : List ByteArray) (w : World) (k : Nat) (hk : k < 16) :
    (Instr.index 60 (.agg (strs f).toArray) (.int .i64 k)).run Try.prog w = .ok (.string (Dk.txt f k)) w := by
  have h1 : (0 : Int) ≤ k ∧ (k : Int) < 16 := by omega
  have h2 : (sizeOf 9).run Try.prog w = .ok 1 w := by kernel_rfl
  have hg := strs_get f k hk
  simp only [Instr.index, asIntOf, Sem.run_bind, Sem.run_pure, Result.andThen_ok, run_underlying Try.underlying60]
  simp [h1, h2, part, hg]

set_option maxRecDepth 20000 in
set_option maxHeartbeats 1000000 in
theorem room_any {w : World} {p n room : Nat} {nw sr : List ByteArray} {a : Option Addr} {len cap : Nat} {fuse : Int} (h : DBox w p n room nw sr a len cap fuse) (h1 : 1 ≤ n) (hr : room ≤ 4194304) (ht : Dk.total nw ≤ 4194304) :
    Calls Try.prog 20 #[.pointer (some ⟨p, 0, none⟩)] w fun e w' => e = .returned (.int .i64 ((room : Int) - Dk.total nw)) ∧ w' = w := by
  obtain ⟨c0, c1, c34, c35⟩ := h.facts
  have HN := Lib.hid (none_no h h1)
  have HB := Lib.hid h
  have hrI : (0 : Int) ≤ room ∧ (room : Int) ≤ 4194304 := by omega
  have HT := Lib.hid ht
  clear h h1 hr ht
  go_enter Try.func20, Try.ntmps20
  go_wp2_with fail
  refine HN.out.mono ?_
  rintro e w2 ⟨rfl, hw⟩
  subst w2
  go_wp2_with (refine wp_load_now HB.out rfl (.tmp 14) rfl rfl ?_)
  go_loopw [3, 16] (fun vr vi wr => ∃ k : Nat, k ≤ 16 ∧ vi = .int .i64 k ∧ vr = .int .i64 ((room : Int) - Dk.total ((padd nw).take k)) ∧ wr = w) (fun _ vi _ => 16 - (intOf vi).toNat)
  case atStart => exact ⟨0, by omega, rfl, by simp [Dk.total], rfl⟩
  case round =>
    obtain ⟨k, hk, rfl, rfl, rfl⟩ := hrel
    by_cases hlt : k < 16
    · have hkI : (0 : Int) ≤ k ∧ (k : Int) < 16 := by omega
      have hs := total_take_succ nw HB.out.l1 k hlt
      have hle := total_take_le nw k
      have hle2 := total_take_le nw (k + 1)
      have ht := HT.out
      have hget := fun w => run_index_files nw w k hlt
      have HS : Hid ((room : Int) - Dk.total ((padd nw).take (k + 1)) = (room : Int) - Dk.total ((padd nw).take k) - (Dk.txt nw k).size) := Lib.hid (by omega)
      have hI : -4194304 ≤ (room : Int) - Dk.total ((padd nw).take k) ∧ (room : Int) - Dk.total ((padd nw).take k) ≤ 4194304 ∧ ((Dk.txt nw k).size : Int) ≤ 4194304 := by omega
      clear hs hle hle2 ht
      generalize (room : Int) - Dk.total ((padd nw).take k) = V at *
      generalize Dk.txt nw k = tk at *
      go_wp2_with fail
      go_roundw
      case rel => exact ⟨k + 1, by omega, by go_num, by rw [HS.out], trivial⟩
      case measure => simp [intOf]; omega
    · obtain rfl : k = 16 := by omega
      rw [List.take_of_length_le (by rw [padd_length HB.out.l1]; exact Nat.le_refl _), total_padd]
      go_wp2_with fail
      go_ret
      exact ⟨rfl, rfl⟩

end Go.Proofs.Ytickdhlhafifhaa
