/-
  Joined out of the texts MsgM MsgT MsgT2 MsgT3.
-/
import Derived.Test.YtjgnomjjphkfbaaGreatRBase
namespace Go.Proofs.YtjgnomjjphkfbaaGreat

namespace Mg
/-- How something is written, whether it may be, how it is read. -/
structure Codec (α : Type) where
  enc : α → List UInt8
  fit : α → Bool
  dec : List UInt8 → Option (α × List UInt8)
structure Codec.Ok {α : Type} (c : Codec α) : Prop where
  back : ∀ a r, c.fit a = true → c.dec (c.enc a ++ r) = some (a, r)
  only : ∀ s a r, c.dec s = some (a, r) → s = c.enc a ++ r ∧ c.fit a = true

def num (most : Nat) : Codec Nat where
  enc x := Wr.uv x
  fit x := decide (x ≤ most)
  dec s := if (Wr.rd s).2.2 = 0 ∧ (Wr.rd s).1 ≤ most then some ((Wr.rd s).1, s.drop (Wr.rd s).2.1) else none
theorem num_ok {most : Nat} (h : most < 18446744073709551616) : (num most).Ok where
  back a r ha := by
    have ha : a ≤ most := by simpa [num] using ha
    have h1 := Wr.rd_uv a r (by unfold Wr.M64; omega)
    simp [num, h1, ha]
  only s a r hd := by
    simp only [num] at hd ⊢
    split at hd
    · rename_i hc
      obtain ⟨h1, h2, h3, _⟩ := Wr.rd_ok s hc.1
      simp only [Option.some.injEq, Prod.mk.injEq] at hd
      obtain ⟨rfl, rfl⟩ := hd
      exact ⟨by rw [← h1, List.take_append_drop], decide_eq_true hc.2⟩
    · cases hd
theorem num_pos (most x : Nat) : 1 ≤ ((num most).enc x).length := Wr.uvF_pos 9 x

/-- A whole number, not below zero; one that is below is written as the number of 64 bits that it is. -/
def int (most : Nat) : Codec Int where
  enc x := Wr.uv (x % 18446744073709551616).toNat
  fit x := decide (0 ≤ x) && decide (x ≤ most)
  dec s := ((num most).dec s).map fun p => ((p.1 : Int), p.2)
theorem int_ok {most : Nat} (h : most < 18446744073709551616) : (int most).Ok where
  back a r ha := by
    simp only [int, Bool.and_eq_true, decide_eq_true_eq] at ha ⊢
    have hm : (a % 18446744073709551616).toNat = a.toNat := by omega
    have := (num_ok h).back a.toNat r (by simp [num]; omega)
    rw [show (num most).enc a.toNat = Wr.uv a.toNat from rfl] at this
    rw [hm, this]
    simp; omega
  only s a r hd := by
    simp only [int, Option.map_eq_some_iff] at hd
    obtain ⟨⟨x, r'⟩, h1, h2⟩ := hd
    simp only [Prod.mk.injEq] at h2
    obtain ⟨rfl, rfl⟩ := h2
    obtain ⟨h3, h4⟩ := (num_ok h).only s x r' h1
    have h4 : x ≤ most := by simpa [num] using h4
    have hm : ((x : Int) % 18446744073709551616).toNat = x := by omega
    refine ⟨?_, by simp [int]; omega⟩
    simp only [int, hm]
    exact h3

def text (most : Nat) : Codec ByteArray where
  enc t := Wr.txt (L t)
  fit t := decide (t.size ≤ most)
  dec s := match (num most).dec s with
    | none => none
    | some (x, r) => if x ≤ r.length then some (⟨(r.take x).toArray⟩, r.drop x) else none
theorem text_ok {most : Nat} (h : most < 18446744073709551616) : (text most).Ok where
  back a r ha := by
    have ha : a.size ≤ most := by simpa [text] using ha
    have e : (text most).enc a ++ r = (num most).enc (L a).length ++ (L a ++ r) := by simp [text, num, Wr.txt]
    have h1 := (num_ok h).back (L a).length (L a ++ r) (by simp [num, ha])
    simp only [e]
    simp only [text, h1]
    rw [if_pos (by simp)]
    simp only [List.take_left, List.drop_left]
  only s a r hd := by
    simp only [text] at hd
    cases hn : (num most).dec s with
    | none => rw [hn] at hd; cases hd
    | some p =>
      obtain ⟨x, r'⟩ := p
      rw [hn] at hd
      simp only at hd
      split at hd
      · rename_i hx
        simp only [Option.some.injEq, Prod.mk.injEq] at hd
        obtain ⟨rfl, rfl⟩ := hd
        obtain ⟨h3, h4⟩ := (num_ok h).only s x r' hn
        have h4 : x ≤ most := by simpa [num] using h4
        have hL : L (⟨(r'.take x).toArray⟩ : ByteArray) = r'.take x := rfl
        have hl : (r'.take x).length = x := by simp; omega
        refine ⟨?_, ?_⟩
        · simp only [text, Wr.txt, hL, hl]
          rw [List.append_assoc, List.take_append_drop]; exact h3
        · simp only [text, decide_eq_true_eq]
          have : (⟨(r'.take x).toArray⟩ : ByteArray).size = (r'.take x).length := by rw [← hL, L_size]
          rw [this, hl]; exact h4
      · cases hd
theorem text_pos (most : Nat) (t : ByteArray) : 1 ≤ ((text most).enc t).length := by
  have h : 1 ≤ (Wr.uv (L t).length).length := Wr.uvF_pos 9 _
  simp only [text, Wr.txt, List.length_append]
  omega

def truth : Codec Bool where
  enc b := [Wr.bool b]
  fit _ := true
  dec s := match s with
    | [] => none
    | c :: r => if c.toNat ≤ 1 then some (decide (c = 1), r) else none
theorem truth_ok : truth.Ok where
  back a r _ := by cases a <;> simp [truth, Wr.bool]
  only s a r hd := by
    cases s with
    | nil => simp [truth] at hd
    | cons c t =>
      simp only [truth] at hd
      split at hd
      · rename_i hc
        simp only [Option.some.injEq, Prod.mk.injEq] at hd
        obtain ⟨rfl, rfl⟩ := hd
        refine ⟨?_, rfl⟩
        have hcc : c = 0 ∨ c = 1 := by
          have : c.toNat = 0 ∨ c.toNat = 1 := by omega
          rcases this with h | h
          · left; exact UInt8.toNat_inj.1 h
          · right; exact UInt8.toNat_inj.1 h
        rcases hcc with rfl | rfl <;> simp [truth, Wr.bool]
      · cases hd

section
variable {α β : Type}
def seq (c : Codec α) (d : Codec β) : Codec (α × β) where
  enc p := c.enc p.1 ++ d.enc p.2
  fit p := c.fit p.1 && d.fit p.2
  dec s := match c.dec s with
    | none => none
    | some (a, r) => match d.dec r with
      | none => none
      | some (b, r') => some ((a, b), r')
theorem seq_ok {c : Codec α} {d : Codec β} (hc : c.Ok) (hd : d.Ok) : (seq c d).Ok where
  back p r h := by
    simp only [seq, Bool.and_eq_true] at h ⊢
    rw [List.append_assoc, hc.back _ _ h.1]
    simp only
    rw [hd.back _ _ h.2]
  only s p r h := by
    simp only [seq] at h
    cases h1 : c.dec s with
    | none => rw [h1] at h; cases h
    | some q =>
      obtain ⟨a, r1⟩ := q
      rw [h1] at h
      simp only at h
      cases h2 : d.dec r1 with
      | none => rw [h2] at h; cases h
      | some q2 =>
        obtain ⟨b, r2⟩ := q2
        rw [h2] at h
        simp only [Option.some.injEq, Prod.mk.injEq] at h
        obtain ⟨rfl, rfl⟩ := h
        obtain ⟨e1, f1⟩ := hc.only _ _ _ h1
        obtain ⟨e2, f2⟩ := hd.only _ _ _ h2
        exact ⟨by simp only [seq]; rw [e1, e2, List.append_assoc], by simp [seq, f1, f2]⟩
/-- The same, under other names. -/
def iso (c : Codec α) (f : α → β) (g : β → α) : Codec β where
  enc b := c.enc (g b)
  fit b := c.fit (g b)
  dec s := (c.dec s).map fun p => (f p.1, p.2)
theorem iso_ok {c : Codec α} {f : α → β} {g : β → α} (hc : c.Ok) (h1 : ∀ a, g (f a) = a) (h2 : ∀ b, f (g b) = b) : (iso c f g).Ok where
  back b r h := by
    simp only [iso] at h ⊢
    rw [hc.back _ _ h]; simp [h2]
  only s b r h := by
    simp only [iso, Option.map_eq_some_iff] at h
    obtain ⟨⟨a, r'⟩, e1, e2⟩ := h
    simp only [Prod.mk.injEq] at e2
    obtain ⟨rfl, rfl⟩ := e2
    have := hc.only _ _ _ e1
    simp only [iso, h1]
    exact this
/-- n of them, one behind the other. -/
def many (d : List UInt8 → Option (α × List UInt8)) : Nat → List UInt8 → Option (List α × List UInt8)
  | 0, s => some ([], s)
  | n + 1, s => match d s with
    | none => none
    | some (a, r) => match many d n r with
      | none => none
      | some (l, r') => some (a :: l, r')
theorem many_snoc (d : List UInt8 → Option (α × List UInt8)) : ∀ (n : Nat) (s : List UInt8), many d (n + 1) s = match many d n s with
    | none => none
    | some (l, r) => match d r with
      | none => none
      | some (a, r') => some (l ++ [a], r')
  | 0, s => by
    simp only [many]
    cases d s with
    | none => rfl
    | some p => obtain ⟨a, r⟩ := p; rfl
  | n + 1, s => by
    rw [many, many]
    cases h : d s with
    | none => rfl
    | some p =>
      obtain ⟨a, r⟩ := p
      simp only
      rw [many_snoc d n r]
      cases many d n r with
      | none => rfl
      | some q =>
        obtain ⟨l, r2⟩ := q
        simp only
        cases d r2 with
        | none => rfl
        | some q3 => obtain ⟨b, r3⟩ := q3; rfl
def encs (c : Codec α) (l : List α) : List UInt8 := l.flatMap c.enc
theorem many_back {c : Codec α} (hc : c.Ok) : ∀ (l : List α) (r : List UInt8), l.all c.fit = true → many c.dec l.length (encs c l ++ r) = some (l, r)
  | [], _, _ => rfl
  | a :: l, r, h => by
    simp only [List.all_cons, Bool.and_eq_true] at h
    have ih := many_back hc l r h.2
    simp only [encs, List.flatMap_cons, List.length_cons, many] at ih ⊢
    rw [List.append_assoc, hc.back _ _ h.1]
    simp only
    rw [ih]
theorem many_only {c : Codec α} (hc : c.Ok) : ∀ (n : Nat) (s : List UInt8) (l : List α) (r : List UInt8), many c.dec n s = some (l, r) → s = encs c l ++ r ∧ l.all c.fit = true ∧ l.length = n
  | 0, s, l, r, h => by
    simp only [many, Option.some.injEq, Prod.mk.injEq] at h
    obtain ⟨rfl, rfl⟩ := h
    simp [encs]
  | n + 1, s, l, r, h => by
    simp only [many] at h
    cases h1 : c.dec s with
    | none => rw [h1] at h; cases h
    | some p =>
      obtain ⟨a, r1⟩ := p
      rw [h1] at h
      simp only at h
      cases h2 : many c.dec n r1 with
      | none => rw [h2] at h; cases h
      | some q =>
        obtain ⟨l2, r2⟩ := q
        rw [h2] at h
        simp only [Option.some.injEq, Prod.mk.injEq] at h
        obtain ⟨rfl, rfl⟩ := h
        obtain ⟨e1, f1⟩ := hc.only _ _ _ h1
        obtain ⟨e2, f2, f3⟩ := many_only hc n _ _ _ h2
        exact ⟨by rw [e1, e2]; simp [encs], by simp [f1, f2], by simp [f3]⟩
theorem encs_len {c : Codec α} (hp : ∀ a, 1 ≤ (c.enc a).length) : ∀ l : List α, l.length ≤ (encs c l).length
  | [] => by simp [encs]
  | a :: l => by
    have h1 := hp a
    have h2 := encs_len hp l
    simp only [encs, List.flatMap_cons, List.length_cons, List.length_append] at h2 ⊢
    omega
/-- A list: how many, and each. -/
def list (most : Nat) (c : Codec α) : Codec (List α) where
  enc l := Wr.uv l.length ++ encs c l
  fit l := decide (l.length ≤ most) && l.all c.fit
  dec s := match (num most).dec s with
    | none => none
    | some (n, r) => if n ≤ r.length then many c.dec n r else none
theorem list_ok {most : Nat} {c : Codec α} (h : most < 18446744073709551616) (hc : c.Ok) (hp : ∀ a, 1 ≤ (c.enc a).length) : (list most c).Ok where
  back l r hf := by
    simp only [list, Bool.and_eq_true, decide_eq_true_eq] at hf ⊢
    have h1 := (num_ok h).back l.length (encs c l ++ r) (by simp [num, hf.1])
    rw [show (num most).enc l.length = Wr.uv l.length from rfl] at h1
    rw [List.append_assoc, h1]
    simp only
    have h2 := encs_len hp l
    rw [if_pos (by simp; omega), many_back hc l r hf.2]
  only s l r hd := by
    simp only [list] at hd
    cases hn : (num most).dec s with
    | none => rw [hn] at hd; cases hd
    | some p =>
      obtain ⟨n, r1⟩ := p
      rw [hn] at hd
      simp only at hd
      split at hd
      · obtain ⟨e1, f1⟩ := (num_ok h).only _ _ _ hn
        obtain ⟨e2, f2, f3⟩ := many_only hc n _ _ _ hd
        subst f3
        have f1 : l.length ≤ most := by simpa [num] using f1
        refine ⟨?_, by simp [list, f1, f2]⟩
        simp only [list]
        rw [List.append_assoc, ← e2]; exact e1
      · cases hd
theorem seq_pos {c : Codec α} (d : Codec β) (hc : ∀ a, 1 ≤ (c.enc a).length) (p : α × β) : 1 ≤ ((seq c d).enc p).length := by
  have := hc p.1
  simp only [seq, List.length_append]; omega
end
def nothing : Codec Unit where
  enc _ := []
  fit _ := true
  dec s := some ((), s)
end Mg

end Go.Proofs.YtjgnomjjphkfbaaGreat

namespace Go.Proofs.YtjgnomjjphkfbaaGreat

namespace Mg
abbrev All : Nat := 18446744073709551615
structure Tx where
  life : Nat
  n : Nat
deriving DecidableEq, Inhabited
structure Rng where
  frm : Nat
  top : Nat
deriving DecidableEq, Inhabited
structure Rd where
  p : ByteArray
  n : Nat
deriving DecidableEq
structure Ed where
  kind : Nat
  p : ByteArray
  any : Bool
  want : Nat
  n : Nat
  t : ByteArray
deriving DecidableEq
structure Ver where
  n : Nat
  st : Nat
  t : ByteArray
deriving DecidableEq
structure Row where
  p : ByteArray
  last : Nat
  l : List Ver
deriving DecidableEq
structure Got where
  v : Ver
  err : Int
deriving DecidableEq
structure Ask where
  shard : Nat
  reads : List Rd
  readAt : List Int
  edits : List Ed
  editAt : List Int
  list : Bool
  pre : ByteArray
  give : Bool
  take : Bool
  range : Rng
deriving DecidableEq
structure Told where
  shard : Nat
  got : List Got
  numbers : List Nat
  names : List ByteArray
deriving DecidableEq
structure Msg where
  kind : Nat
  tx : Tx
  low : Tx
  map : Nat
  parts : List Nat
  ask : Ask
  rows : List Row
  next : Nat
  own : List Rng
  commit : Bool
  err : Int
  told : Told
  state : Nat
deriving DecidableEq

def cTx : Codec Tx := iso (seq (num 4611686018427387904) (num 4611686018427387904)) (fun p => ⟨p.1, p.2⟩) (fun t => (t.life, t.n))
def cRng : Codec Rng := iso (seq (num All) (num All)) (fun p => ⟨p.1, p.2⟩) (fun t => (t.frm, t.top))
def cRd : Codec Rd := iso (seq (text 129) (num All)) (fun p => ⟨p.1, p.2⟩) (fun t => (t.p, t.n))
def cVer : Codec Ver := iso (seq (num All) (seq (num 255) (text 4096))) (fun p => ⟨p.1, p.2.1, p.2.2⟩) (fun t => (t.n, t.st, t.t))
def cEd : Codec Ed := iso (seq (num 255) (seq (text 129) (seq truth (seq (num All) (seq (num All) (text 4096)))))) (fun p => ⟨p.1, p.2.1, p.2.2.1, p.2.2.2.1, p.2.2.2.2.1, p.2.2.2.2.2⟩) (fun t => (t.kind, t.p, t.any, t.want, t.n, t.t))
def cRow : Codec Row := iso (seq (text 129) (seq (num All) (list 512 cVer))) (fun p => ⟨p.1, p.2.1, p.2.2⟩) (fun t => (t.p, t.last, t.l))
def cGot : Codec Got := iso (seq cVer (int 9999)) (fun p => ⟨p.1, p.2⟩) (fun t => (t.v, t.err))
def cAsk : Codec Ask := iso (seq (num 4294967295) (seq (list 512 cRd) (seq (list 512 (int 512)) (seq (list 512 cEd) (seq (list 512 (int 512)) (seq truth (seq (text 129) (seq truth (seq truth cRng)))))))))
  (fun p => ⟨p.1, p.2.1, p.2.2.1, p.2.2.2.1, p.2.2.2.2.1, p.2.2.2.2.2.1, p.2.2.2.2.2.2.1, p.2.2.2.2.2.2.2.1, p.2.2.2.2.2.2.2.2.1, p.2.2.2.2.2.2.2.2.2⟩)
  (fun t => (t.shard, t.reads, t.readAt, t.edits, t.editAt, t.list, t.pre, t.give, t.take, t.range))
def cTold : Codec Told := iso (seq (num 4294967295) (seq (list 512 cGot) (seq (list 512 (num All)) (list 512 (text 129))))) (fun p => ⟨p.1, p.2.1, p.2.2.1, p.2.2.2⟩) (fun t => (t.shard, t.got, t.numbers, t.names))

theorem uv_pos (x : Nat) : 1 ≤ (Wr.uv x).length := Wr.uvF_pos 9 x
theorem int_pos (most : Nat) (x : Int) : 1 ≤ ((int most).enc x).length := uv_pos _
theorem cTx_ok : cTx.Ok := iso_ok (seq_ok (num_ok (by decide)) (num_ok (by decide))) (fun _ => rfl) (fun _ => rfl)
theorem cRng_ok : cRng.Ok := iso_ok (seq_ok (num_ok (by decide)) (num_ok (by decide))) (fun _ => rfl) (fun _ => rfl)
theorem cRng_pos (a : Rng) : 1 ≤ (cRng.enc a).length := seq_pos _ (num_pos _) _
theorem cRd_ok : cRd.Ok := iso_ok (seq_ok (text_ok (by decide)) (num_ok (by decide))) (fun _ => rfl) (fun _ => rfl)
theorem cRd_pos (a : Rd) : 1 ≤ (cRd.enc a).length := seq_pos _ (text_pos _) _
theorem cVer_ok : cVer.Ok := iso_ok (seq_ok (num_ok (by decide)) (seq_ok (num_ok (by decide)) (text_ok (by decide)))) (fun _ => rfl) (fun _ => rfl)
theorem cVer_pos (a : Ver) : 1 ≤ (cVer.enc a).length := seq_pos _ (num_pos _) _
theorem cEd_ok : cEd.Ok := iso_ok (seq_ok (num_ok (by decide)) (seq_ok (text_ok (by decide)) (seq_ok truth_ok (seq_ok (num_ok (by decide)) (seq_ok (num_ok (by decide)) (text_ok (by decide))))))) (fun _ => rfl) (fun _ => rfl)
theorem cEd_pos (a : Ed) : 1 ≤ (cEd.enc a).length := seq_pos _ (num_pos _) _
theorem cRow_ok : cRow.Ok := iso_ok (seq_ok (text_ok (by decide)) (seq_ok (num_ok (by decide)) (list_ok (by decide) cVer_ok cVer_pos))) (fun _ => rfl) (fun _ => rfl)
theorem cRow_pos (a : Row) : 1 ≤ (cRow.enc a).length := seq_pos _ (text_pos _) _
theorem cGot_ok : cGot.Ok := iso_ok (seq_ok cVer_ok (int_ok (by decide))) (fun _ => rfl) (fun _ => rfl)
theorem cGot_pos (a : Got) : 1 ≤ (cGot.enc a).length := seq_pos _ cVer_pos _
theorem cAsk_ok : cAsk.Ok := iso_ok (seq_ok (num_ok (by decide)) (seq_ok (list_ok (by decide) cRd_ok cRd_pos) (seq_ok (list_ok (by decide) (int_ok (by decide)) (int_pos _)) (seq_ok (list_ok (by decide) cEd_ok cEd_pos) (seq_ok (list_ok (by decide) (int_ok (by decide)) (int_pos _))
  (seq_ok truth_ok (seq_ok (text_ok (by decide)) (seq_ok truth_ok (seq_ok truth_ok cRng_ok))))))))) (fun _ => rfl) (fun _ => rfl)
theorem cTold_ok : cTold.Ok := iso_ok (seq_ok (num_ok (by decide)) (seq_ok (list_ok (by decide) cGot_ok cGot_pos) (seq_ok (list_ok (by decide) (num_ok (by decide)) (num_pos _)) (list_ok (by decide) (text_ok (by decide)) (text_pos _))))) (fun _ => rfl) (fun _ => rfl)

def nil : ByteArray := ⟨#[]⟩
def ask0 : Ask := ⟨0, [], [], [], [], false, nil, false, false, ⟨0, 0⟩⟩
def told0 : Told := ⟨0, [], [], []⟩
def msg0 : Msg := ⟨0, ⟨0, 0⟩, ⟨0, 0⟩, 0, [], ask0, [], 0, [], false, 0, told0, 0⟩
/-- A message of what its kind has alone. -/
def only (m : Msg) : Msg :=
  if m.kind = 1 then { msg0 with kind := m.kind, tx := m.tx, low := m.low, map := m.map, parts := m.parts, ask := m.ask, rows := m.rows, next := m.next, own := m.own }
  else if m.kind = 2 then { msg0 with kind := m.kind, tx := m.tx, rows := m.rows, commit := m.commit, err := m.err, told := m.told }
  else if m.kind = 3 then { msg0 with kind := m.kind, tx := m.tx, low := m.low, commit := m.commit }
  else if m.kind = 6 then { msg0 with kind := m.kind, tx := m.tx, low := m.low, state := m.state }
  else { msg0 with kind := m.kind, tx := m.tx }
def cHead : Codec (Nat × List Nat) := seq (num All) (list 512 (num 4294967295))
def cNext : Codec (Nat × List Rng) := seq (num All) (list 512 cRng)
def c1 : Codec (Tx × (Nat × List Nat) × Ask × List Row × (Nat × List Rng)) := seq cTx (seq cHead (seq cAsk (seq (list 512 cRow) cNext)))
def c2 : Codec (List Row × Bool × Int × Told) := seq (list 512 cRow) (seq truth (seq (int 9999) cTold))
def c3 : Codec (Tx × Bool) := seq cTx truth
def c6 : Codec (Tx × Nat) := seq cTx (num 3)
theorem cHead_ok : cHead.Ok := seq_ok (num_ok (by decide)) (list_ok (by decide) (num_ok (by decide)) (num_pos _))
theorem cNext_ok : cNext.Ok := seq_ok (num_ok (by decide)) (list_ok (by decide) cRng_ok cRng_pos)
theorem c1_ok : c1.Ok := seq_ok cTx_ok (seq_ok cHead_ok (seq_ok cAsk_ok (seq_ok (list_ok (by decide) cRow_ok cRow_pos) cNext_ok)))
theorem c2_ok : c2.Ok := seq_ok (list_ok (by decide) cRow_ok cRow_pos) (seq_ok truth_ok (seq_ok (int_ok (by decide)) cTold_ok))
theorem c3_ok : c3.Ok := seq_ok cTx_ok truth_ok
theorem c6_ok : c6.Ok := seq_ok cTx_ok (num_ok (by decide))
end Mg

end Go.Proofs.YtjgnomjjphkfbaaGreat

namespace Go.Proofs.YtjgnomjjphkfbaaGreat

namespace Mg
def body (m : Msg) : List UInt8 :=
  if m.kind = 1 then c1.enc (m.low, (m.map, m.parts), m.ask, m.rows, (m.next, m.own))
  else if m.kind = 2 then c2.enc (m.rows, m.commit, m.err, m.told)
  else if m.kind = 3 then c3.enc (m.low, m.commit)
  else if m.kind = 6 then c6.enc (m.low, m.state)
  else []
def bodyFit (m : Msg) : Bool :=
  if m.kind = 1 then c1.fit (m.low, (m.map, m.parts), m.ask, m.rows, (m.next, m.own))
  else if m.kind = 2 then c2.fit (m.rows, m.commit, m.err, m.told)
  else if m.kind = 3 then c3.fit (m.low, m.commit)
  else if m.kind = 6 then c6.fit (m.low, m.state) && decide (1 ≤ m.state)
  else true
def enc (m : Msg) : List UInt8 := (num 255).enc m.kind ++ (cTx.enc m.tx ++ body m)
/-- May its parts be written? -/
def fits (m : Msg) : Bool := decide (1 ≤ m.kind ∧ m.kind ≤ 6) && (cTx.fit m.tx && decide (1 ≤ m.tx.life ∧ 1 ≤ m.tx.n)) && bodyFit m
def fit (m : Msg) : Bool := fits m && decide (m = only m)
def decB (k : Nat) (t : Tx) (r : List UInt8) : Option (Msg × List UInt8) :=
  if k = 1 then (c1.dec r).map fun p => ({ msg0 with kind := k, tx := t, low := p.1.1, map := p.1.2.1.1, parts := p.1.2.1.2, ask := p.1.2.2.1, rows := p.1.2.2.2.1, next := p.1.2.2.2.2.1, own := p.1.2.2.2.2.2 }, p.2)
  else if k = 2 then (c2.dec r).map fun p => ({ msg0 with kind := k, tx := t, rows := p.1.1, commit := p.1.2.1, err := p.1.2.2.1, told := p.1.2.2.2 }, p.2)
  else if k = 3 then (c3.dec r).map fun p => ({ msg0 with kind := k, tx := t, low := p.1.1, commit := p.1.2 }, p.2)
  else if k = 6 then (c6.dec r).bind fun p => if 1 ≤ p.1.2 then some ({ msg0 with kind := k, tx := t, low := p.1.1, state := p.1.2 }, p.2) else none
  else some ({ msg0 with kind := k, tx := t }, r)
def decP (s : List UInt8) : Option (Msg × List UInt8) :=
  match (num 255).dec s with
  | none => none
  | some (k, r) => if 1 ≤ k ∧ k ≤ 6 then
      match cTx.dec r with
      | none => none
      | some (t, r) => if 1 ≤ t.life ∧ 1 ≤ t.n then decB k t r else none
    else none
theorem decB_back (m : Msg) (r : List UInt8) (hb : bodyFit m = true) (ho : m = only m) : decB m.kind m.tx (body m ++ r) = some (m, r) := by
  unfold decB body bodyFit at *
  unfold only at ho
  by_cases h1 : m.kind = 1
  · simp only [h1, if_true] at hb ho ⊢
    rw [c1_ok.back _ _ hb]
    simp only [Option.map_some]
    rw [← h1] at ho ⊢
    exact congrArg (fun z => some (z, r)) ho.symm
  by_cases h2 : m.kind = 2
  · simp only [h2, if_true] at hb ho ⊢
    simp only [show ¬ (2 = 1) by decide, if_false] at hb ho ⊢
    rw [c2_ok.back _ _ hb]
    simp only [Option.map_some]
    exact congrArg (fun z => some (z, r)) ho.symm
  by_cases h3 : m.kind = 3
  · simp only [h3, if_true] at hb ho ⊢
    simp only [show ¬ (3 = 1) by decide, show ¬ (3 = 2) by decide, if_false] at hb ho ⊢
    rw [c3_ok.back _ _ hb]
    simp only [Option.map_some]
    exact congrArg (fun z => some (z, r)) ho.symm
  by_cases h6 : m.kind = 6
  · simp only [h6, if_true] at hb ho ⊢
    simp only [show ¬ (6 = 1) by decide, show ¬ (6 = 2) by decide, show ¬ (6 = 3) by decide, if_false, Bool.and_eq_true, decide_eq_true_eq] at hb ho ⊢
    rw [c6_ok.back _ _ hb.1]
    simp only [Option.bind_some]
    rw [if_pos hb.2]
    exact congrArg (fun z => some (z, r)) ho.symm
  · simp only [if_neg h1, if_neg h2, if_neg h3, if_neg h6] at hb ho ⊢
    exact congrArg (fun z => some (z, r)) ho.symm
theorem decB_only (k : Nat) (t : Tx) (s : List UInt8) (m : Msg) (r : List UInt8) (h : decB k t s = some (m, r)) : m.kind = k ∧ m.tx = t ∧ s = body m ++ r ∧ bodyFit m = true ∧ m = only m := by
  unfold decB at h
  unfold body bodyFit only
  by_cases h1 : k = 1
  · subst h1
    simp only [if_true, Option.map_eq_some_iff] at h
    obtain ⟨⟨p, r'⟩, e, e2⟩ := h
    simp only [Prod.mk.injEq] at e2
    obtain ⟨rfl, rfl⟩ := e2
    obtain ⟨a1, a2⟩ := c1_ok.only _ _ _ e
    exact ⟨rfl, rfl, by simpa using a1, by simpa using a2, rfl⟩
  by_cases h2 : k = 2
  · subst h2
    simp only [show ¬ (2 = 1) by decide, if_false, if_true, Option.map_eq_some_iff] at h
    obtain ⟨⟨p, r'⟩, e, e2⟩ := h
    simp only [Prod.mk.injEq] at e2
    obtain ⟨rfl, rfl⟩ := e2
    obtain ⟨a1, a2⟩ := c2_ok.only _ _ _ e
    exact ⟨rfl, rfl, by simpa using a1, by simpa using a2, rfl⟩
  by_cases h3 : k = 3
  · subst h3
    simp only [show ¬ (3 = 1) by decide, show ¬ (3 = 2) by decide, if_false, if_true, Option.map_eq_some_iff] at h
    obtain ⟨⟨p, r'⟩, e, e2⟩ := h
    simp only [Prod.mk.injEq] at e2
    obtain ⟨rfl, rfl⟩ := e2
    obtain ⟨a1, a2⟩ := c3_ok.only _ _ _ e
    exact ⟨rfl, rfl, by simpa using a1, by simpa using a2, rfl⟩
  by_cases h6 : k = 6
  · subst h6
    simp only [show ¬ (6 = 1) by decide, show ¬ (6 = 2) by decide, show ¬ (6 = 3) by decide, if_false, if_true, Option.bind_eq_some_iff] at h
    obtain ⟨⟨p, r'⟩, e, e2⟩ := h
    split at e2
    · rename_i hs
      simp only [Option.some.injEq, Prod.mk.injEq] at e2
      obtain ⟨rfl, rfl⟩ := e2
      obtain ⟨a1, a2⟩ := c6_ok.only _ _ _ e
      exact ⟨rfl, rfl, by simpa using a1, by simpa [a2] using hs, rfl⟩
    · cases e2
  · simp only [if_neg h1, if_neg h2, if_neg h3, if_neg h6, Option.some.injEq, Prod.mk.injEq] at h
    obtain ⟨rfl, rfl⟩ := h
    simp only [if_neg h1, if_neg h2, if_neg h3, if_neg h6]
    simp
theorem decP_back (m : Msg) (r : List UInt8) (h : fit m = true) : decP (enc m ++ r) = some (m, r) := by
  unfold fit fits at h
  simp only [Bool.and_eq_true, decide_eq_true_eq] at h
  obtain ⟨⟨⟨h1, h2, h3⟩, h4⟩, h5⟩ := h
  unfold decP enc
  rw [List.append_assoc, (num_ok (by decide)).back m.kind _ (by simp [num]; omega)]
  simp only
  rw [if_pos h1, List.append_assoc, cTx_ok.back _ _ h2]
  simp only
  rw [if_pos h3]
  exact decB_back m r h4 h5
theorem decP_only (s : List UInt8) (m : Msg) (r : List UInt8) (h : decP s = some (m, r)) : s = enc m ++ r ∧ fit m = true := by
  unfold decP at h
  cases hn : (num 255).dec s with
  | none => rw [hn] at h; cases h
  | some p =>
    obtain ⟨k, r1⟩ := p
    rw [hn] at h
    simp only at h
    split at h
    · rename_i hk
      cases ht : cTx.dec r1 with
      | none => rw [ht] at h; cases h
      | some q =>
        obtain ⟨t, r2⟩ := q
        rw [ht] at h
        simp only at h
        split at h
        · rename_i hl
          obtain ⟨e1, e2, e3, e4, e5⟩ := decB_only _ _ _ _ _ h
          obtain ⟨n1, n2⟩ := (num_ok (by decide)).only _ _ _ hn
          obtain ⟨t1, t2⟩ := cTx_ok.only _ _ _ ht
          subst e1 e2
          refine ⟨?_, ?_⟩
          · unfold enc
            rw [List.append_assoc, List.append_assoc, ← e3, ← t1]; exact n1
          · unfold fit fits
            simp only [Bool.and_eq_true, decide_eq_true_eq]
            exact ⟨⟨⟨hk, t2, hl⟩, e4⟩, e5⟩
        · cases h
    · cases h
/-- The message that bytes are. -/
def dec (s : List UInt8) : Option Msg := match decP s with
  | none => none
  | some (m, r) => if r = [] then some m else none
theorem dec_enc (m : Msg) (h : fit m = true) : dec (enc m) = some m := by
  have := decP_back m [] h
  rw [List.append_nil] at this
  unfold dec
  rw [this]; rfl
theorem dec_some {s : List UInt8} {m : Msg} (h : dec s = some m) : s = enc m ∧ fit m = true := by
  unfold dec at h
  cases hp : decP s with
  | none => rw [hp] at h; cases h
  | some p =>
    obtain ⟨m', r⟩ := p
    rw [hp] at h
    simp only at h
    split at h
    · rename_i hr
      subst hr
      simp only [Option.some.injEq] at h
      subst h
      have := decP_only _ _ _ hp
      rw [List.append_nil] at this
      exact this
    · cases h
end Mg

end Go.Proofs.YtjgnomjjphkfbaaGreat

namespace Go.Proofs.YtjgnomjjphkfbaaGreat

namespace Mg
def hide (t : ByteArray) : ByteArray := ⟨((L t).take 5 ++ List.replicate ((L t).length - 5) 0).toArray⟩
theorem L_hide (t : ByteArray) : L (hide t) = (L t).take 5 ++ List.replicate ((L t).length - 5) 0 := rfl
theorem L_inj {a b : ByteArray} (h : L a = L b) : a = b := Go.WideShapes.bytes_inj h
def hideE (e : Ed) : Ed := { e with t := hide e.t }
def hideV (v : Ver) : Ver := { v with t := hide v.t }
def hideR (r : Row) : Row := { r with l := r.l.map hideV }
def hideG (g : Got) : Got := { g with v := hideV g.v }
def mask (m : Msg) : Msg := { m with ask := { m.ask with edits := m.ask.edits.map hideE }, rows := m.rows.map hideR, told := { m.told with got := m.told.got.map hideG } }
end Mg

end Go.Proofs.YtjgnomjjphkfbaaGreat
