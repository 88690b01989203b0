/-
  THE WALK of files: what all files have; and two disks in memory at once.
-/
import Derived.Test.YtickdhlhafifhaaDiskAlive
namespace Go.Proofs.Ytickdhlhafifhaa
open Go.RowKit

attribute [local go_sem ↓ high] appSem_eq

theorem strInfo : (Try.prog.info? 9).map (fun i => (i.zero, i.size, i.bytes)) = some (some (.string ⟨#[]⟩), 1, 16) := by kernel_rfl
theorem stepInfo : (Try.prog.info? 32).map (fun i => (i.zero, i.size, i.bytes)) = some (some (.agg #[.int .u8 0, .int .i64 0, .int .i64 0, .int .i64 0, .string ⟨#[]⟩, .int .u8 0]), 6, 56) := by kernel_rfl
theorem read_txt {d : Dk.D} (hf : d.fuse ≠ 0) (i : Nat) (hi : i < d.n) : Dk.read d i = (Dk.txt d.now i, 0) := by
  unfold Dk.read
  rw [if_neg hf, if_neg (by rw [Bool.not_eq_false]; exact Dk.D.is_iff.2 (by omega))]; rfl

set_option maxRecDepth 20000 in
set_option maxHeartbeats 1000000 in
theorem fil_any {w : World} {p : Nat} {d : Dk.D} {F : List Nat} (h : DHas w p d F) (ok : d.ok) (hf : d.fuse ≠ 0) :
    Calls Try.prog 13 #[.pointer (some ⟨p, 0, none⟩)] w fun e w' => ∃ a cap, e = .returned (.slice a d.n cap) ∧ SliceIs w' 9 1 a d.n cap (d.now.map Value.string) ∧ Below w.heap.size w w' ∧ ∀ k ∈ blks a, w.heap.size ≤ k := by
  have HD := Lib.hid h
  have HOK := Lib.hid ok
  have HF := Lib.hid hf
  have hnI : (1 : Int) ≤ d.n ∧ (d.n : Int) ≤ 16 := by have := ok.n1; have := ok.n2; omega
  have HN16 := Lib.hid ok.n2
  clear h ok hf
  go_enter Try.func13, Try.ntmps13
  go_wp2_with fail
  go_loopw [3, 4] (fun vl vi wr => ∃ (k : Nat) (a : Option Addr) (cap : Nat), k ≤ d.n ∧ vi = .int .i64 k ∧ vl = .slice a k cap ∧ SliceIs wr 9 1 a k cap ((d.now.take k).map Value.string) ∧ (∀ x ∈ blks a, w.heap.size ≤ x) ∧ Own w.heap.size w wr) (fun _ vi _ => d.n - (intOf vi).toNat)
  case atStart => exact ⟨0, none, 0, Nat.zero_le _, rfl, rfl, SliceIs.nil _ _ _, by simp, Own.refl w⟩
  case round =>
    obtain ⟨k, a, cap, hk, rfl, rfl, hS, hbk, hO⟩ := hrel
    have hDr := HD.out.own hO.below
    have HFL := Lib.hid (files_has hDr HOK.out)
    by_cases hlt : k < d.n
    · have hkI : (0 : Int) ≤ k ∧ (k : Int) < d.n := by omega
      have hrd := read_has hDr HOK.out k
      rw [read_txt HF.out k hlt] at hrd
      have HRD := Lib.hid hrd
      have HTK : Hid ((d.now.take (k + 1)).map Value.string = (d.now.take k).map Value.string ++ [.string (Dk.txt d.now k)]) := Lib.hid (by
        have hl : k < d.now.length := by rw [Dk.D.now_length]; exact hlt
        rw [List.take_succ_eq_append_getElem hl, List.map_append, Dk.txt_get _ _ hl]; rfl)
      have hn16 := HN16.out
      generalize Dk.txt d.now k = t at *
      obtain ⟨b', cp', w3, hr, hS3, hU3, hbk3⟩ := app_one strInfo Try.underlying34 rfl (by decide) wr a k cap _ hS (.string t) rfl (by omega)
      have HS3 := Lib.hid hS3
      have HBK3 : Hid (∀ x ∈ blks b', w.heap.size ≤ x) := Lib.hid (fun x hx => by
        rcases hbk3 x hx with h | h
        · exact hbk x h
        · exact Nat.le_trans hO.size h)
      have HO3 := Lib.hid (hO.upd hU3 hbk)
      clear hS hbk hO hDr hrd hn16 hS3 hU3 hbk3
      go_wp2_with fail
      refine HFL.out.mono ?_
      rintro e w2 ⟨rfl, hw⟩
      subst w2
      go_wp2_with fail
      refine HRD.out.mono ?_
      rintro e w2 ⟨rfl, hw⟩
      subst w2
      go_wp2_with fail
      go_roundw
      case rel => exact ⟨k + 1, b', cp', by omega, by go_num, rfl, by rw [HTK.out]; exact HS3.out, HBK3.out, HO3.out⟩
      case measure => simp [intOf]; omega
    · obtain rfl : k = d.n := by omega
      rw [List.take_of_length_le (by rw [Dk.D.now_length]; exact Nat.le_refl _)] at hS
      have HS := Lib.hid hS
      have HBK := Lib.hid hbk
      have HO := Lib.hid hO
      clear hS hbk hO hDr
      go_wp2_with fail
      refine HFL.out.mono ?_
      rintro e w2 ⟨rfl, hw⟩
      subst w2
      go_wp2_with fail
      go_ret
      exact ⟨a, cap, rfl, HS.out, HO.out.below, HBK.out⟩

/-! ### Two disks at once -/
theorem DHas.typed {w : World} {p : Nat} {d : Dk.D} {F : List Nat} (h : DHas w p d F) : ∀ k ∈ F, ∃ cs t fr, w.heap[k]? = some (.cells cs t fr) ∧ (t = 63 ∨ t = 67) := by
  obtain ⟨a, cap, vs, rfl, hB, hS, hC⟩ := h
  intro k hk
  rcases List.mem_cons.1 hk with rfl | hk
  · exact ⟨_, _, _, hB.box, .inl rfl⟩
  · rcases hS.2 with ⟨rfl, _⟩ | ⟨g, off, cur, rfl, hg, r⟩
    · simp at hk
    · simp at hk; subst hk; exact ⟨_, _, _, hg, .inr rfl⟩
/-- A slice of another type is none of a disk's blocks. -/
theorem DHas.apart {w : World} {p : Nat} {d : Dk.D} {F : List Nat} (h : DHas w p d F) {e : TypeId} {size : Nat} {a : Option Addr} {n cap : Nat} {xs : List Value} (hS : SliceIs w e size a n cap xs) (h1 : e ≠ 63) (h2 : e ≠ 67) : ∀ k ∈ F, k ∉ blks a := by
  intro k hk
  obtain ⟨cs, t, fr, hc, ht⟩ := h.typed k hk
  exact hS.ne hc (by rcases ht with rfl | rfl; exact h1.symm; exact h2.symm)
theorem noBoxS {w : World} {e : TypeId} {size : Nat} {a : Option Addr} {n cap : Nat} {xs : List Value} (hS : SliceIs w e size a n cap xs) (h1 : e ≠ 3) (h2 : e ≠ 9) : NoBox w (blks a) := by
  intro k hk cs t fr hc
  refine ⟨fun ht => ?_, fun ht => ?_⟩ <;> (subst ht; exact hS.ne hc (by first | exact h1.symm | exact h2.symm) hk)
structure Two (w0 w : World) (p : Nat) (d : Dk.D) (q : Nat) (x : Dk.D) : Prop where
  ex : ∃ F G, DHas w p d F ∧ DHas w q x G ∧ (∀ k ∈ F, k ∉ G) ∧ (∀ k ∈ F, w0.heap.size ≤ k) ∧ (∀ k ∈ G, w0.heap.size ≤ k)
  own : Own w0.heap.size w0 w
theorem Two.swap {w0 w : World} {p q : Nat} {d x : Dk.D} (h : Two w0 w p d q x) : Two w0 w q x p d := by
  obtain ⟨⟨F, G, h1, h2, h3, h4, h5⟩, ho⟩ := h
  exact ⟨⟨G, F, h2, h1, fun k hk hf => h3 k hf hk, h5, h4⟩, ho⟩
theorem Two.step {w0 w w' : World} {p q : Nat} {d d' x : Dk.D} {F G : List Nat} (h1 : DHas w p d F) (h2 : DHas w q x G) (h3 : ∀ k ∈ F, k ∉ G) (h4 : ∀ k ∈ F, w0.heap.size ≤ k) (h5 : ∀ k ∈ G, w0.heap.size ≤ k) (ho : Own w0.heap.size w0 w) (s : DStep w w' p d' F) : Two w0 w' p d' q x := by
  obtain ⟨F', h', hu, hk⟩ := s
  refine ⟨⟨F', G, h', h2.keep hu h1.noBox (fun k hg hf => h3 k hf hg), fun k hx hg => ?_, fun k hx => (hk k hx).elim (h4 k) (fun h => Nat.le_trans ho.size h), h5⟩, ho.upd hu h4⟩
  rcases hk k hx with h | h
  · exact h3 k h hg
  · have := h2.lt k hg; omega
/-- A call on the first of them. -/
theorem Two.write {w0 w : World} {p q : Nat} {d x : Dk.D} (h : Two w0 w p d q x) (ok : d.ok) (hl : d.loose.length ≤ 100000) (file : Int) (s : ByteArray) (hs : s.size ≤ 1073741824) :
    Calls Try.prog 11 #[.pointer (some ⟨p, 0, none⟩), .int .i64 file, .string s] w fun e w' => e = .returned (.int .i64 (Dk.write d file s).2) ∧ Two w0 w' p (Dk.write d file s).1 q x ∧ ∃ F, (∃ G, DHas w p d F ∧ DHas w q x G) ∧ Upd w w' F := by
  obtain ⟨⟨F, G, h1, h2, h3, h4, h5⟩, ho⟩ := h
  exact (write_has h1 ok hl file s hs).mono fun e w' ⟨he, hs⟩ => ⟨he, Two.step h1 h2 h3 h4 h5 ho hs, F, ⟨G, h1, h2⟩, by obtain ⟨F', _, hu, _⟩ := hs; exact hu⟩
theorem Two.crash {w0 w : World} {p q : Nat} {d x : Dk.D} (h : Two w0 w p d q x) (ok : d.ok) (hl : d.loose.length ≤ 100000) (k y : Int) :
    Calls Try.prog 12 #[.pointer (some ⟨p, 0, none⟩), .int .i64 k, .int .i64 y] w fun e w' => e = .returned (.int .i64 0) ∧ Two w0 w' p (Dk.crash d k y) q x := by
  obtain ⟨⟨F, G, h1, h2, h3, h4, h5⟩, ho⟩ := h
  exact (crash_has h1 ok hl k y).mono fun e w' ⟨he, hs⟩ => ⟨he, Two.step h1 h2 h3 h4 h5 ho hs⟩
theorem Two.keep {w0 w w' : World} {p q : Nat} {d x : Dk.D} (h : Two w0 w p d q x) (hb : Below w.heap.size w w') : Two w0 w' p d q x := by
  obtain ⟨⟨F, G, h1, h2, h3, h4, h5⟩, ho⟩ := h
  exact ⟨⟨F, G, h1.own hb, h2.own hb, h3, h4, h5⟩, ho.trans hb⟩
/-- A slice of another type that grows leaves them. -/
theorem Two.grow {w0 w w' : World} {p q : Nat} {d x : Dk.D} (h : Two w0 w p d q x) {e : TypeId} {size : Nat} {a : Option Addr} {n cap : Nat} {xs : List Value} (hS : SliceIs w e size a n cap xs) (h1 : e ≠ 63) (h2 : e ≠ 67) (h3 : e ≠ 3) (h4 : e ≠ 9) (hu : Upd w w' (blks a)) (hb : ∀ k ∈ blks a, w0.heap.size ≤ k) : Two w0 w' p d q x := by
  obtain ⟨⟨F, G, k1, k2, k3, k4, k5⟩, ho⟩ := h
  have nb := noBoxS hS h3 h4
  exact ⟨⟨F, G, k1.keep hu nb (k1.apart hS h1 h2), k2.keep hu nb (k2.apart hS h1 h2), k3, k4, k5⟩, ho.upd hu hb⟩
/-- .. and a disk's call leaves such a slice. -/
theorem DHas.row {w w' : World} {p : Nat} {d : Dk.D} {F : List Nat} (h : DHas w p d F) (hu : Upd w w' F) {e : TypeId} {size : Nat} {a : Option Addr} {n cap : Nat} {xs : List Value} (hS : SliceIs w e size a n cap xs) (h1 : e ≠ 63) (h2 : e ≠ 67) : SliceIs w' e size a n cap xs :=
  hS.keep fun k hk => hu.keep k (hS.lt k hk) (fun hf => h.apart hS h1 h2 k hf hk)

end Go.Proofs.Ytickdhlhafifhaa
