/-
  PLAIN MATHEMATICS OF SEGMENTS: what a head's bytes are, and a segment's; which segment bytes are; what is read of a segment that was cut off. No program is in sight here.
-/
import Derived.Test.YtboplbcfoooenaaFrameRow
import Derived.Test.YtboplbcfoooenaaWireMath
namespace Go.Proofs.Ytboplbcfoooenaa.Sg
open Go.Proofs.Ytboplbcfoooenaa

abbrev Top : Nat := 281474976710656
structure Seg where
  kind : Nat
  gen : Nat
  first : Nat
  text : List UInt8
  recs : List (List UInt8)
  used : Nat
  whole : Bool
def seg0 : Seg := ⟨0, 0, 0, [], [], 0, false⟩
/-- A number that may be. -/
def isNum (n : Nat) : Bool := decide (1 ≤ n) && decide (n ≤ Top)
def may (kind gen first : Nat) (text : List UInt8) : Bool := decide (kind ≤ 1) && isNum gen && isNum first && (decide (kind ≠ 0) || decide (text = []))
/-- The text of a head's record. -/
def hText (kind gen : Nat) (text : List UInt8) : List UInt8 := UInt8.ofNat kind :: (Wr.uv gen ++ text)
/-- A head's bytes, and an error: 0 none, 2 argument, 5 long. -/
def head (kind gen first : Nat) (text : List UInt8) : List UInt8 × Nat :=
  if may kind gen first text = false then ([], 2) else if 65536 < (hText kind gen text).length then ([], 5) else (Frm.enc first (hText kind gen text), 0)
def short (l : List (List UInt8)) : Bool := l.all fun t => decide (t.length ≤ 65536)
/-- A segment's bytes, and an error. -/
def bytes (x : Seg) : List UInt8 × Nat :=
  if (head x.kind x.gen x.first x.text).2 ≠ 0 then ([], (head x.kind x.gen x.first x.text).2)
  else if Top < x.first + x.recs.length - 1 then ([], 2)
  else if short x.recs = false then ([], 5)
  else ((head x.kind x.gen x.first x.text).1 ++ Frm.bytes (Frm.recs x.recs x.first), 0)
/-- The records of numbers that may be. -/
def kept (l : List Frm.Rec) : List (List UInt8) := (l.takeWhile fun r => decide (r.num ≤ Top)).map (·.text)
/-- Which segment bytes are, and an error: 0 none, 7 form; what a frame's head says. -/
def parse (s : List UInt8) : Seg × Nat :=
  if (Frm.dec s).err ≠ 0 then (seg0, (Frm.dec s).err)
  else match (Frm.dec s).r.text with
    | [] => (seg0, 7)
    | k :: t =>
      if (Wr.rd t).2.2 ≠ 0 ∨ may k.toNat (Wr.rd t).1 (Frm.dec s).r.num (t.drop (Wr.rd t).2.1) = false then (seg0, 7)
      else
        let l := kept (Frm.scan (s.drop (Frm.dec s).used) (Frm.dec s).r.num).1
        let used := (Frm.dec s).used + Frm.lens l
        (⟨k.toNat, (Wr.rd t).1, (Frm.dec s).r.num, t.drop (Wr.rd t).2.1, l, used, decide (used = s.length)⟩, 0)

theorem isNum_lt {n : Nat} (h : isNum n = true) : 1 ≤ n ∧ n ≤ Top := by unfold isNum at h; simpa using h
theorem head_ok {kind gen first : Nat} {text : List UInt8} (h : (head kind gen first text).2 = 0) : may kind gen first text = true ∧ (hText kind gen text).length ≤ 65536 ∧ (head kind gen first text).1 = Frm.enc first (hText kind gen text) := by
  unfold head at h ⊢
  by_cases h1 : may kind gen first text = false
  · rw [if_pos h1] at h; cases h
  · rw [if_neg h1] at h ⊢
    by_cases h2 : 65536 < (hText kind gen text).length
    · rw [if_pos h2] at h; cases h
    · rw [if_neg h2]; exact ⟨by simpa using h1, by omega, rfl⟩
theorem may_parts {kind gen first : Nat} {text : List UInt8} (h : may kind gen first text = true) : kind ≤ 1 ∧ (1 ≤ gen ∧ gen ≤ Top) ∧ (1 ≤ first ∧ first ≤ Top) := by
  unfold may at h
  simp only [Bool.and_eq_true, decide_eq_true_eq] at h
  exact ⟨h.1.1.1, isNum_lt h.1.1.2, isNum_lt h.1.2⟩
theorem kept_recs (l : List (List UInt8)) (n : Nat) (h : n + l.length ≤ Top + 1) : kept (Frm.recs l n) = l := by
  unfold kept
  induction l generalizing n with
  | nil => rfl
  | cons t r ih =>
    simp only [List.length_cons] at h
    have e : (n + 1) % Frm.M64 = n + 1 := Nat.mod_eq_of_lt (by unfold Frm.M64 Top at *; omega)
    have hn : decide (n ≤ Top) = true := by simp; omega
    simp only [Frm.recs, e, List.takeWhile_cons, hn, if_true, List.map_cons]
    rw [ih (n + 1) (by omega)]
/-- What is read behind a whole head. -/
theorem parse_head (kind gen first : Nat) (text rest : List UInt8) (hm : may kind gen first text = true) (hl : (hText kind gen text).length ≤ 65536) :
    parse (Frm.enc first (hText kind gen text) ++ rest) =
      (let l := kept (Frm.scan rest first).1
       let used := 16 + (hText kind gen text).length + Frm.lens l
       (⟨kind, gen, first, text, l, used, decide (used = 16 + (hText kind gen text).length + rest.length)⟩, 0)) := by
  obtain ⟨h1, h2, h3⟩ := may_parts hm
  have hd := Frm.dec_enc first (hText kind gen text) rest (by unfold Frm.M64; unfold Top at h3; omega) hl
  have hk : (UInt8.ofNat kind).toNat = kind := by
    simp only [UInt8.toNat_ofNat']; omega
  have hr := Wr.rd_uv gen text (by unfold Wr.M64; unfold Top at h2; omega)
  have hdrop : (Wr.uv gen ++ text).drop (Wr.uv gen).length = text := by simp
  unfold parse
  rw [hd]
  simp only [ne_eq, not_true_eq_false, if_false, hText]
  rw [hr, hk, hdrop]
  simp only [hm, not_true_eq_false, Bool.true_eq_false, or_self, if_false]
  have hdr : (Frm.enc first (UInt8.ofNat kind :: (Wr.uv gen ++ text)) ++ rest).drop (16 + (UInt8.ofNat kind :: (Wr.uv gen ++ text)).length) = rest := by
    rw [← Frm.enc_length first]; simp
  simp only [hdr]
  have hle : (Frm.enc first (UInt8.ofNat kind :: (Wr.uv gen ++ text)) ++ rest).length = 16 + (UInt8.ofNat kind :: (Wr.uv gen ++ text)).length + rest.length := by
    rw [List.length_append, Frm.enc_length]
  simp only [hle]
  rfl

/-- What is read of a segment that was cut off at k, behind its head: m whole records are ahead of k. -/
theorem parse_cut (kind gen first : Nat) (text : List UInt8) (recs : List (List UInt8)) (hm : may kind gen first text = true) (hl : (hText kind gen text).length ≤ 65536) (hs : ∀ t ∈ recs, t.length ≤ 65536) (ht : first + recs.length ≤ Top + 1)
    (k m : Nat) (hk : k ≤ Frm.lens recs) (hmr : m ≤ recs.length) (h1 : Frm.lens (recs.take m) ≤ k) (h2 : ∀ h : m < recs.length, k < Frm.lens (recs.take m) + (16 + recs[m].length)) :
    parse (Frm.enc first (hText kind gen text) ++ (Frm.bytes (Frm.recs recs first)).take k) =
      (⟨kind, gen, first, text, recs.take m, 16 + (hText kind gen text).length + Frm.lens (recs.take m), decide (Frm.lens (recs.take m) = k)⟩, 0) := by
  obtain ⟨_, _, h3⟩ := may_parts hm
  have hf : first < Frm.M64 := by unfold Top at h3; unfold Frm.M64; omega
  rw [parse_head kind gen first text _ hm hl, Frm.scan_cut recs first k m hf hs hmr h1 h2 hk, ← Frm.recs_take recs first hf m hmr, kept_recs _ _ (by simp; omega)]
  simp only
  have e : ((Frm.bytes (Frm.recs recs first)).take k).length = k := by rw [List.length_take, Frm.bytes_length]; omega
  rw [e]
  congr 2
  simp only [decide_eq_decide]
  omega
/-- A head that was cut off is none. -/
theorem parse_torn (kind gen first : Nat) (text rest : List UInt8) (hl : (hText kind gen text).length ≤ 65536) (k : Nat) (hk : k < 16 + (hText kind gen text).length) :
    parse ((Frm.enc first (hText kind gen text) ++ rest).take k) = (seg0, 100) := by
  have e : (Frm.enc first (hText kind gen text) ++ rest).take k = (Frm.enc first (hText kind gen text)).take k := by
    rw [List.take_append_of_le_length (by rw [Frm.enc_length]; omega)]
  rw [e]
  unfold parse
  rw [Frm.dec_cut first _ k hl hk]
  simp

end Go.Proofs.Ytboplbcfoooenaa.Sg
