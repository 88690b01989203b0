/-
  THE WALKS of package wire's Reader: Text, Count.
-/
import Derived.Test.YtboplbcfoooenaaWireRead2
namespace Go.Proofs.Ytboplbcfoooenaa
open Go.RowKit

/-- A size that is read: it, its number's bytes, the fault. -/
def sRes (s : ByteArray) (most : Int) : Nat × Nat × Nat :=
  if (Wr.rd (L s)).2.2 = 0 then (if most < (Wr.rd (L s)).1 then (0, 0, 5) else if s.size - (Wr.rd (L s)).2.1 < (Wr.rd (L s)).1 then (0, 0, 6) else ((Wr.rd (L s)).1, (Wr.rd (L s)).2.1, 0)) else (0, 0, (Wr.rd (L s)).2.2)
theorem sRes_cases (s : ByteArray) (most : Int) : ∃ x n e : Nat, sRes s most = (x, n, e) ∧ ((e = 0 ∧ n + x ≤ s.size) ∨ (x = 0 ∧ n = 0 ∧ (e = 5 ∨ e = 6 ∨ e = 7))) := by
  refine ⟨(sRes s most).1, (sRes s most).2.1, (sRes s most).2.2, rfl, ?_⟩
  obtain ⟨x, n, e, hr, h⟩ := rd_cases s
  unfold sRes
  rw [hr]
  rcases h with ⟨rfl, _, h1, _⟩ | ⟨rfl, rfl, rfl | rfl⟩
  · simp only [if_true]
    split
    · simp
    · split
      · simp
      · simp; omega
  · simp
  · simp

/-- What the closures of Text and Count leave. -/
def SizeDone (w : World) (B : Nat) (n e : Nat) (v : Value) (x : Ending) (w' : World) : Prop :=
  x = .returned (.tuple #[.int .i64 n, .int .i64 e]) ∧ w' = w.setCell ⟨B, 0, none⟩ v
def TextDone (w : World) (B1 : Nat) (s : ByteArray) (x n er : Nat) (e : Ending) (w' : World) : Prop :=
  e = .returned (.tuple #[.int .i64 (n + x : Nat), .int .i64 er]) ∧ (if er = 0 then w' = w.setCell ⟨B1, 0, none⟩ (.string (s.extract n (n + x))) else w' = w)
/-- What Count makes of bytes. -/
def cRes (s : ByteArray) (most : Int) : Nat × ByteArray × Nat :=
  if (sRes s most).2.2 = 0 then ((sRes s most).1, s.extract (sRes s most).2.1 s.size, 0) else (0, s, (sRes s most).2.2)
/-- What Text makes of bytes. -/
def tRes (s : ByteArray) (most : Int) : ByteArray × ByteArray × Nat :=
  if (sRes s most).2.2 = 0 then (s.extract (sRes s most).2.1 ((sRes s most).2.1 + (sRes s most).1), s.extract ((sRes s most).2.1 + (sRes s most).1) s.size, 0) else (⟨#[]⟩, s, (sRes s most).2.2)
end Go.Proofs.Ytboplbcfoooenaa
