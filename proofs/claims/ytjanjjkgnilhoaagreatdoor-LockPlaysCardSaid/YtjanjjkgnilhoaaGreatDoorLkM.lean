/-
  PLAIN MATHEMATICS OF PATHS AND LOCKS: which texts are paths, what a path is under, which locks conflict. No program is in sight here.
-/
import Derived.Test.YtjanjjkgnilhoaaGreatDoorBytes8
import Derived.Lib.Split
namespace Go.Proofs.YtjanjjkgnilhoaaGreatDoor

namespace Lk
/-- A text's pieces, at its slashes. -/
def spl : List UInt8 → List (List UInt8)
  | [] => [[]]
  | c :: l => if c = 47 then [] :: spl l else match spl l with
    | p :: r => (c :: p) :: r
    | [] => [[c]]
theorem spl_ne : ∀ s : List UInt8, spl s ≠ []
  | [] => by simp [spl]
  | c :: l => by
    unfold spl
    split
    · simp
    · cases spl l <;> simp
theorem spl_slash (l : List UInt8) : spl (47 :: l) = [] :: spl l := by simp [spl]
theorem spl_cons {c : UInt8} (h : c ≠ 47) (l : List UInt8) : ∃ p r, spl l = p :: r ∧ spl (c :: l) = (c :: p) :: r := by
  cases hs : spl l with
  | nil => exact absurd hs (spl_ne l)
  | cons p r => exact ⟨p, r, rfl, by rw [spl, if_neg h, hs]⟩
/-- Bytes without a slash, ahead. -/
def glue (p : List UInt8) : List (List UInt8) → List (List UInt8)
  | q :: r => (p ++ q) :: r
  | [] => [p]
theorem spl_glue : ∀ (p l : List UInt8), (∀ c ∈ p, c ≠ 47) → spl (p ++ l) = glue p (spl l)
  | [], l, _ => by
    cases hs : spl l with
    | nil => exact absurd hs (spl_ne l)
    | cons q r => rw [List.nil_append, hs]; rfl
  | c :: p, l, h => by
    obtain ⟨q, r, h1, h2⟩ := spl_cons (h c (by simp)) (p ++ l)
    rw [List.cons_append, h2]
    rw [spl_glue p l (fun x hx => h x (by simp [hx]))] at h1
    cases hs : spl l with
    | nil => exact absurd hs (spl_ne l)
    | cons a b =>
      rw [hs] at h1
      unfold glue at h1 ⊢
      injection h1 with e1 e2
      rw [← e1, ← e2]; rfl
theorem spl_none {p : List UInt8} (h : ∀ c ∈ p, c ≠ 47) : spl p = [p] := by
  have := spl_glue p [] h
  rw [List.append_nil] at this
  rw [this]; simp [spl, glue]
theorem spl_at {p : List UInt8} (h : ∀ c ∈ p, c ≠ 47) (l : List UInt8) : spl (p ++ 47 :: l) = p :: spl l := by
  rw [spl_glue p _ h, spl_slash]; simp [glue]
/-- The pieces joined again. -/
def join : List (List UInt8) → List UInt8
  | [] => []
  | [p] => p
  | p :: r => p ++ 47 :: join r
theorem join_cons {p : List UInt8} {r : List (List UInt8)} (h : r ≠ []) : join (p :: r) = p ++ 47 :: join r := by
  cases r with
  | nil => exact absurd rfl h
  | cons a b => rfl
theorem join_spl : ∀ s : List UInt8, join (spl s) = s
  | [] => rfl
  | c :: l => by
    by_cases h : c = 47
    · subst h
      rw [spl_slash, join_cons (spl_ne l), join_spl l]; rfl
    · obtain ⟨p, r, h1, h2⟩ := spl_cons h l
      have ih := join_spl l
      rw [h1] at ih
      rw [h2]
      cases r with
      | nil => rw [← ih]; rfl
      | cons a b => rw [join_cons (by simp)] at ih ⊢; rw [← ih]; rfl
theorem spl_app : ∀ (p r : List UInt8), spl (p ++ 47 :: r) = spl p ++ spl r
  | [], r => by rw [List.nil_append, spl_slash]; rfl
  | c :: p, r => by
    have ih := spl_app p r
    by_cases h : c = 47
    · subst h
      rw [List.cons_append, spl_slash, spl_slash, ih]; rfl
    · obtain ⟨a, b, h1, h2⟩ := spl_cons h p
      obtain ⟨a', b', h3, h4⟩ := spl_cons h (p ++ 47 :: r)
      rw [List.cons_append, h4, h2]
      rw [ih, h1] at h3
      injection h3 with e1 e2
      rw [← e1, ← e2]; rfl
theorem join_app {a b : List (List UInt8)} (ha : a ≠ []) (hb : b ≠ []) : join (a ++ b) = join a ++ 47 :: join b := by
  induction a with
  | nil => exact absurd rfl ha
  | cons p r ih =>
    cases r with
    | nil => rw [List.singleton_append, join_cons hb]; rfl
    | cons x y =>
      have e1 : join (p :: (x :: y ++ b)) = p ++ 47 :: join (x :: y ++ b) := join_cons (by simp)
      have e2 : join (p :: x :: y) = p ++ 47 :: join (x :: y) := join_cons (by simp)
      rw [List.cons_append, e1, ih (by simp), e2]
      simp
/-- What splits off at the front. -/
theorem index_slash : ∀ s : List UInt8, (Lib.index s [47] = -1 ∧ ∀ c ∈ s, c ≠ 47) ∨ ∃ i : Nat, Lib.index s [47] = i ∧ i < s.length ∧ (∀ c ∈ s.take i, c ≠ 47) ∧ s = s.take i ++ 47 :: s.drop (i + 1)
  | [] => .inl ⟨rfl, by simp⟩
  | b :: l => by
    by_cases h : b = 47
    · subst h
      exact .inr ⟨0, by simp [Lib.index], by simp, by simp, by simp⟩
    · have hp : ([47] : List UInt8).isPrefixOf (b :: l) = false := by
        simp [List.isPrefixOf]; exact fun e => h e.symm
      rcases index_slash l with ⟨h1, h2⟩ | ⟨i, h1, h2, h3, h4⟩
      · refine .inl ⟨by rw [Lib.index, hp, h1]; simp, fun c hc => ?_⟩
        rcases List.mem_cons.1 hc with rfl | hc
        · exact h
        · exact h2 c hc
      · refine .inr ⟨i + 1, ?_, by simp; omega, fun c hc => ?_, ?_⟩
        · rw [Lib.index, hp, h1]
          have : ((i : Int) == -1) = false := by rw [beq_eq_false_iff_ne]; omega
          simp only [this]
          simp
        · rw [List.take_succ_cons] at hc
          rcases List.mem_cons.1 hc with rfl | hc
          · exact h
          · exact h3 c hc
        · rw [List.take_succ_cons, List.drop_succ_cons, List.cons_append, ← h4]
theorem splitK_spl : ∀ (k : Nat) (s : List UInt8), s.count 47 ≤ k → Lib.splitK [47] 0 k s = spl s
  | 0, s, h => by
    have h0 : ∀ c ∈ s, c ≠ 47 := fun c hc e => by
      have := List.count_pos_iff.2 (e ▸ hc)
      omega
    rw [spl_none h0]; rfl
  | k + 1, s, h => by
    unfold Lib.splitK
    rcases index_slash s with ⟨h1, h2⟩ | ⟨i, h1, h2, h3, h4⟩
    · rw [h1, spl_none h2]; rfl
    · have : ((i : Int) == -1) = false := by rw [beq_eq_false_iff_ne]; omega
      have hc : (s.drop (i + 1)).count 47 ≤ k := by
        rw [h4, List.count_append, List.count_cons] at h
        simp at h; omega
      rw [h1]
      simp only [this, Bool.false_eq_true, if_false, Int.toNat_natCast, Nat.add_zero, List.length_cons, List.length_nil]
      rw [splitK_spl k _ hc]
      conv => rhs; rw [h4]
      rw [spl_at h3]

def good (c : UInt8) : Bool := (decide (97 ≤ c.toNat) && decide (c.toNat ≤ 122)) || (decide (48 ≤ c.toNat) && decide (c.toNat ≤ 57)) || decide (c.toNat = 46) || decide (c.toNat = 95) || decide (c.toNat = 45)
def pieceB (p : List UInt8) : Bool := decide (1 ≤ p.length) && decide (p.length ≤ 32) && p.all good
def pathB (s : List UInt8) : Bool := decide (s.length ≤ 128) && decide ((spl s).length ≤ 8) && (spl s).all pieceB
/-- A path's pieces; none: it is no path. -/
def pieces (s : List UInt8) : List (List UInt8) := if pathB s = true then spl s else []
theorem pieces_pos (s : List UInt8) : decide (0 < (pieces s).length) = pathB s := by
  unfold pieces
  cases h : pathB s with
  | true => simp; exact List.length_pos_iff.2 (spl_ne s)
  | false => simp
def prefB (s : List UInt8) : Bool := decide (s = []) || pathB s
theorem pathB_nil : pathB [] = false := by rfl
def under (p s : List UInt8) : Bool := prefB p && pathB s && (decide (p = []) || (p ++ [47]).isPrefixOf s)
/-- The document's word for it. -/
def underR (p s : List UInt8) : Bool := prefB p && decide ((pieces p).length < (pieces s).length) && (pieces p).isPrefixOf (pieces s)
theorem under_eq (p s : List UInt8) : underR p s = under p s := by
  unfold underR under
  cases hp : prefB p with
  | false => rfl
  | true =>
    cases hs : pathB s with
    | false =>
      have : pieces s = [] := by unfold pieces; rw [hs]; rfl
      rw [this]; simp
    | true =>
      have hps : pieces s = spl s := by unfold pieces; rw [hs]; rfl
      have hne := List.length_pos_iff.2 (spl_ne s)
      by_cases h0 : p = []
      · subst h0
        have : pieces [] = [] := rfl
        rw [this, hps]
        simp [hne]
      · have hpb : pathB p = true := by
          unfold prefB at hp
          rw [decide_eq_false h0] at hp
          simpa using hp
        have hpp : pieces p = spl p := by unfold pieces; rw [hpb]; rfl
        rw [hps, hpp, decide_eq_false h0]
        simp only [Bool.true_and, Bool.false_or]
        rw [Bool.eq_iff_iff, Bool.and_eq_true, decide_eq_true_eq, List.isPrefixOf_iff_prefix, List.isPrefixOf_iff_prefix]
        constructor
        · rintro ⟨h1, r, h2⟩
          have hr : r ≠ [] := fun e => by rw [e, List.append_nil] at h2; rw [h2] at h1; omega
          refine ⟨join r, ?_⟩
          have h3 := join_spl s
          rw [← h2, join_app (spl_ne p) hr, join_spl] at h3
          rw [← h3]; simp
        · rintro ⟨r, h⟩
          have h1 : s = p ++ 47 :: r := by rw [← h]; simp
          rw [h1, spl_app, List.length_append]
          have := List.length_pos_iff.2 (spl_ne r)
          exact ⟨by omega, ⟨_, rfl⟩⟩

/-- A lock. -/
structure L where
  kind : Nat
  path : List UInt8
  frm : Nat
  top : Nat
deriving DecidableEq, Inhabited
def may (l : L) : Bool := decide (l.frm ≤ l.top) && ((decide (l.kind = 1) || decide (l.kind = 2)) && (pathB l.path && decide (l.frm = l.top)) || decide (l.kind = 3) && (prefB l.path && decide (l.frm = 0) && decide (l.top = 0)) || decide (l.kind = 4) && decide (l.path = []))
def isP (l : L) : Bool := decide (l.kind = 1) || decide (l.kind = 2)
def meet (a b : L) : Bool := decide (a.frm ≤ b.top) && decide (b.frm ≤ a.top)
/-- The document's word: the first one's writing stops the second one. -/
def stops (a b : L) : Bool :=
  if a.kind = 2 then (isP b && decide (a.path = b.path)) || (decide (b.kind = 3) && under b.path a.path)
  else if a.kind = 4 then decide (b.kind = 3) || meet a b
  else false
def conf (a b : L) : Bool := may a && may b && (stops a b || stops b a)
theorem conf_comm (a b : L) : conf a b = conf b a := by
  unfold conf
  rw [Bool.and_comm (may a), Bool.or_comm (stops a b)]
/-- The program's rule for two kinds, the lesser one first. -/
def rule (a b : L) : Bool :=
  if a.kind = 1 ∧ b.kind = 2 ∨ a.kind = 2 ∧ b.kind = 2 then decide (a.path = b.path)
  else if a.kind = 2 ∧ b.kind = 3 then under b.path a.path
  else if (a.kind = 1 ∨ a.kind = 2 ∨ a.kind = 4) ∧ b.kind = 4 then meet a b
  else decide (a.kind = 3 ∧ b.kind = 4)
theorem may_kind {l : L} (h : may l = true) : l.kind = 1 ∨ l.kind = 2 ∨ l.kind = 3 ∨ l.kind = 4 := by
  unfold may at h
  simp only [Bool.and_eq_true, Bool.or_eq_true, decide_eq_true_eq] at h
  omega
theorem meet_comm (a b : L) : meet a b = meet b a := Bool.and_comm ..
theorem rule_stops {a b : L} (ha : may a = true) (hb : may b = true) (h : a.kind ≤ b.kind) : rule a b = (stops a b || stops b a) := by
  have h1 := may_kind ha
  have h2 := may_kind hb
  have hpc : decide (a.path = b.path) = decide (b.path = a.path) := decide_eq_decide.2 ⟨Eq.symm, Eq.symm⟩
  have hm := meet_comm a b
  unfold rule stops isP
  rcases h1 with h1 | h1 | h1 | h1 <;> rcases h2 with h2 | h2 | h2 | h2 <;> simp only [h1, h2] at h ⊢ <;> first | (exfalso; omega) | (simp <;> first | exact hpc | exact hm | rfl | exact fun h => h.symm | exact ⟨Eq.symm, Eq.symm⟩ | (rw [hm]; exact id) | (rw [hm]; exact fun h => h.symm))
theorem conf_rule {a b : L} (ha : may a = true) (hb : may b = true) : conf a b = if b.kind < a.kind then rule b a else rule a b := by
  unfold conf
  rw [ha, hb]
  split
  · rename_i h
    rw [rule_stops hb ha (by omega), Bool.or_comm]; rfl
  · rename_i h
    rw [rule_stops ha hb (by omega)]; rfl
end Lk

end Go.Proofs.YtjanjjkgnilhoaaGreatDoor
