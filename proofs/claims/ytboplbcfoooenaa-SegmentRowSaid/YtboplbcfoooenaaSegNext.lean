/-
  THE WALKS of layer 11: Next, Bytes; and the document's answer's own.
-/
import Derived.Test.YtboplbcfoooenaaSegHeads
namespace Go.Proofs.Ytboplbcfoooenaa
open Go.RowKit

attribute [local go_sem ↓ high] appSem_eq

/-- A segment, as a statement is handed it. -/
structure Sx where
  kind : Nat
  gen : Nat
  first : Nat
  t : ByteArray
  recs : List ByteArray
  used : Int
  whole : Bool
def Sx.cells (x : Sx) (a : Option Addr) (cap : Nat) : List Value := [.int .u8 x.kind, .int .u64 x.gen, .int .u64 x.first, .string x.t, .slice a x.recs.length cap, .int .i64 x.used, .bool x.whole]
def Sx.seg (x : Sx) : Sg.Seg := ⟨x.kind, x.gen, x.first, L x.t, x.recs.map L, x.used.toNat, x.whole⟩
/-- What next would be. -/
def Sx.next (x : Sx) : Nat := (x.first + x.recs.length) % 18446744073709551616

theorem seg_next (w : World) (kind : Int) (gen first n cap : Nat) (t : ByteArray) (a : Option Addr) (used : Int) (whole : Bool) (hn : n ≤ 9223372036854775807) :
    Calls Try.prog 12 #[.agg #[.int .u8 kind, .int .u64 gen, .int .u64 first, .string t, .slice a n cap, .int .i64 used, .bool whole]] w fun e w' => e = .returned (.int .u64 (((first + n) % 18446744073709551616 : Nat) : Int)) ∧ Below w.heap.size w w' := by
  have hw : IntKind.u64.wrap (n : Int) = n := IntWalk.u64_in _ (by omega)
  have hadd : IntKind.u64.wrap ((first : Int) + (n : Int)) = (((first + n) % 18446744073709551616 : Nat) : Int) := by rw [IntKind.wrap_u64]; omega
  have hO := Own.refl w
  go_enter Try.func12, Try.ntmps12
  go_wp2_with fail
  go_ret
  exact ⟨by first | rfl | rw [hadd], (hO.alloc _).below⟩
theorem rseg_next (w : World) (kind : Int) (gen first n cap : Nat) (t : ByteArray) (a : Option Addr) (used : Int) (whole : Bool) (hn : n ≤ 9223372036854775807) :
    Calls Try.prog 13 #[.agg #[.int .u8 kind, .int .u64 gen, .int .u64 first, .string t, .slice a n cap, .int .i64 used, .bool whole]] w fun e w' => e = .returned (.int .u64 (((first + n) % 18446744073709551616 : Nat) : Int)) ∧ Below w.heap.size w w' := by
  have hw : IntKind.u64.wrap (n : Int) = n := IntWalk.u64_in _ (by omega)
  have hadd : IntKind.u64.wrap ((first : Int) + (n : Int)) = (((first + n) % 18446744073709551616 : Nat) : Int) := by rw [IntKind.wrap_u64]; omega
  have hO := Own.refl w
  go_enter Try.func13, Try.ntmps13
  go_wp2_with fail
  go_ret
  exact ⟨by first | rfl | rw [hadd], (hO.alloc _).below⟩

end Go.Proofs.Ytboplbcfoooenaa
