/-
  PLAIN MATHEMATICS OF DISKS: files, calls that are loose, what a crash leaves. No program is in sight here.
-/
import Derived.Test.YtickdhlhafifhaaBase
namespace Go.Proofs.Ytickdhlhafifhaa
def S (l : List UInt8) : ByteArray := ⟨l.toArray⟩
theorem L_S (l : List UInt8) : L (S l) = l := rfl
theorem S_L (s : ByteArray) : S (L s) = s := rfl
theorem S_size (l : List UInt8) : (S l).size = l.length := rfl
end Go.Proofs.Ytickdhlhafifhaa
namespace Go.Proofs.Ytickdhlhafifhaa.Dk
open Go.Proofs.Ytickdhlhafifhaa

/-- A call that is loose. -/
structure Call where
  file : Nat
  cut : Bool
  n : Nat
  s : ByteArray
def none : ByteArray := ⟨#[]⟩
/-- A file's text. -/
def txt (f : List ByteArray) (i : Nat) : ByteArray := f.getD i none
/-- A call, done whole. -/
def run (f : List ByteArray) (c : Call) : List ByteArray := if c.cut = true then f.set c.file ((txt f c.file).extract 0 c.n) else f.set c.file (txt f c.file ++ c.s)
/-- So many bytes of a text. -/
def piece (s : ByteArray) (b : Int) : ByteArray := s.extract 0 (min (max b 0).toNat s.size)
/-- A call, of which so many bytes count. -/
def part (f : List ByteArray) (c : Call) (b : Int) : List ByteArray := if c.cut = true then f else f.set c.file (txt f c.file ++ piece c.s b)
def runs (f : List ByteArray) (l : List Call) : List ByteArray := l.foldl run f
def total (f : List ByteArray) : Nat := (f.map (·.size)).sum
structure D where
  room : Nat
  sure : List ByteArray
  loose : List Call
  fuse : Int
def D.now (d : D) : List ByteArray := runs d.sure d.loose
def D.n (d : D) : Nat := d.sure.length
/-- The room that is left. -/
def D.left (d : D) : Int := (d.room : Int) - total d.now
def D.is (d : D) (file : Int) : Bool := decide (0 ≤ file) && decide (file < d.n)
/-- What each call that writes does first: a disk, and an error. -/
def burn (d : D) : D × Nat := if d.fuse = 0 then (d, 90) else if 0 < d.fuse then ({ d with fuse := d.fuse - 1 }, 0) else (d, 0)
def D.add (d : D) (c : Call) : D := { d with loose := d.loose ++ [c] }
def write (d : D) (file : Int) (s : ByteArray) : D × Nat :=
  if (burn d).2 ≠ 0 then ((burn d).1, 90) else if d.is file = false then ((burn d).1, 3) else if d.left < s.size then ((burn d).1, 4) else ((burn d).1.add ⟨file.toNat, false, 0, s⟩, 0)
def cut (d : D) (file n : Int) : D × Nat :=
  if (burn d).2 ≠ 0 then ((burn d).1, 90) else if d.is file = false then ((burn d).1, 3) else if n < 0 ∨ ((txt d.now file.toNat).size : Int) < n then ((burn d).1, 2) else ((burn d).1.add ⟨file.toNat, true, n.toNat, none⟩, 0)
def sync (d : D) : D × Nat := if (burn d).2 ≠ 0 then ((burn d).1, 90) else ({ (burn d).1 with sure := d.now, loose := [] }, 0)
def fused (d : D) (n : Int) : D := { d with fuse := max n (-1) }
/-- What a crash leaves of the files. -/
def crashed (f : List ByteArray) (l : List Call) (calls bytes : Int) : List ByteArray :=
  if h : 0 ≤ calls ∧ calls.toNat < l.length then part (runs f (l.take calls.toNat)) (l[calls.toNat]'h.2) bytes else runs f (l.take calls.toNat)
def crash (d : D) (calls bytes : Int) : D := { d with sure := crashed d.sure d.loose calls bytes, loose := [], fuse := -1 }
/-- A text with one byte turned. -/
def turned (s : ByteArray) (i : Nat) (by_ : UInt8) : ByteArray := S ((L s).set i (((L s).getD i 0) ^^^ by_))
def spoil (d : D) (file i : Int) (by_ : UInt8) : D × Nat :=
  if d.is file = false then (d, 3) else if i < 0 ∨ ((txt d.now file.toNat).size : Int) ≤ i then (d, 2) else if d.loose ≠ [] then (d, 9)
  else ({ d with sure := d.sure.set file.toNat (turned (txt d.sure file.toNat) i.toNat by_) }, 0)
def read (d : D) (file : Int) : ByteArray × Nat := if d.fuse = 0 then (none, 90) else if d.is file = false then (none, 3) else (txt d.now file.toNat, 0)
def new (n room : Nat) : D := ⟨room, List.replicate n none, [], -1⟩

/-! ### What may be -/
def Most : Nat := 4194304
/-- Calls that may be done, one behind the other. -/
def okRow : List ByteArray → List Call → Prop
  | _, [] => True
  | f, c :: l => c.file < f.length ∧ (c.cut = true → c.n ≤ (txt f c.file).size) ∧ total (run f c) ≤ Most ∧ okRow (run f c) l
structure D.ok (d : D) : Prop where
  n1 : 1 ≤ d.n
  n2 : d.n ≤ 16
  room : d.room ≤ Most
  tot : total d.sure ≤ Most
  f1 : -1 ≤ d.fuse
  f2 : d.fuse ≤ 9223372036854775807
  row : okRow d.sure d.loose

theorem run_length (f : List ByteArray) (c : Call) : (run f c).length = f.length := by unfold run; split <;> simp
theorem part_length (f : List ByteArray) (c : Call) (b : Int) : (part f c b).length = f.length := by unfold part; split <;> simp
theorem runs_length (f : List ByteArray) (l : List Call) : (runs f l).length = f.length := by
  unfold runs
  induction l generalizing f with
  | nil => rfl
  | cons c l ih => rw [List.foldl_cons, ih, run_length]
theorem D.now_length (d : D) : d.now.length = d.n := runs_length _ _
theorem runs_snoc (f : List ByteArray) (l : List Call) (c : Call) : runs f (l ++ [c]) = run (runs f l) c := by simp [runs]
theorem runs_take_succ (f : List ByteArray) (l : List Call) (k : Nat) (h : k < l.length) : runs f (l.take (k + 1)) = run (runs f (l.take k)) l[k] := by
  rw [List.take_succ_eq_append_getElem h, runs_snoc]
theorem okRow_at : ∀ {l : List Call} {f : List ByteArray} (_ : okRow f l) (k : Nat) (h : k < l.length),
    l[k].file < f.length ∧ (l[k].cut = true → l[k].n ≤ (txt (runs f (l.take k)) l[k].file).size) ∧ total (run (runs f (l.take k)) l[k]) ≤ Most
  | c :: l, f, h, 0, _ => ⟨h.1, h.2.1, h.2.2.1⟩
  | c :: l, f, h, k + 1, hk => by
    have := okRow_at h.2.2.2 k (by simpa using hk)
    rw [run_length] at this
    exact this
theorem okRow_snoc : ∀ {l : List Call} {f : List ByteArray} {c : Call} (_ : okRow f l) (_ : c.file < f.length) (_ : c.cut = true → c.n ≤ (txt (runs f l) c.file).size) (_ : total (run (runs f l) c) ≤ Most), okRow f (l ++ [c])
  | [], f, c, _, h1, h2, h3 => ⟨h1, h2, h3, trivial⟩
  | x :: l, f, c, h, h1, h2, h3 => ⟨h.1, h.2.1, h.2.2.1, okRow_snoc h.2.2.2 (by rw [run_length]; exact h1) h2 h3⟩
theorem total_runs {l : List Call} {f : List ByteArray} (h : okRow f l) (h0 : total f ≤ Most) : ∀ k, k ≤ l.length → total (runs f (l.take k)) ≤ Most
  | 0, _ => by simpa [runs] using h0
  | k + 1, hk => by rw [runs_take_succ f l k (by omega)]; exact (okRow_at h k (by omega)).2.2
theorem total_set (f : List ByteArray) (i : Nat) (s : ByteArray) (h : i < f.length) : total (f.set i s) + (txt f i).size = total f + s.size := by
  induction f generalizing i with
  | nil => simp at h
  | cons t r ih =>
    cases i with
    | zero => simp [total, txt]; omega
    | succ i =>
      have := ih i (by simpa using h)
      simp [total, txt] at this ⊢
      omega
theorem txt_le (f : List ByteArray) (i : Nat) : (txt f i).size ≤ total f := by
  rcases Nat.lt_or_ge i f.length with h | h
  · have := total_set f i none h
    have e : none.size = 0 := rfl
    omega
  · unfold txt
    rw [List.getD_eq_getElem?_getD, List.getElem?_eq_none h]
    exact Nat.zero_le _
theorem txt_set (f : List ByteArray) (i j : Nat) (s : ByteArray) (h : i < f.length) : txt (f.set i s) j = if i = j then s else txt f j := by
  unfold txt
  simp only [List.getD_eq_getElem?_getD, List.getElem?_set]
  split
  · next e => subst e; simp [h]
  · rfl
theorem txt_get (f : List ByteArray) (i : Nat) (h : i < f.length) : txt f i = f[i] := by
  unfold txt; rw [List.getD_eq_getElem?_getD, List.getElem?_eq_getElem h]; rfl
theorem run_wr {f : List ByteArray} {c : Call} (h : c.cut = false) : run f c = f.set c.file (txt f c.file ++ c.s) := by unfold run; rw [h]; rfl
theorem run_ct {f : List ByteArray} {c : Call} (h : c.cut = true) : run f c = f.set c.file ((txt f c.file).extract 0 c.n) := by unfold run; rw [h]; rfl
theorem total_wr {f : List ByteArray} {c : Call} (h : c.cut = false) (hf : c.file < f.length) : total (run f c) = total f + c.s.size := by
  rw [run_wr h]
  have := total_set f c.file (txt f c.file ++ c.s) hf
  rw [ByteArray.size_append] at this; omega
theorem total_ct {f : List ByteArray} {c : Call} (h : c.cut = true) (hf : c.file < f.length) : total (run f c) ≤ total f := by
  rw [run_ct h]
  have := total_set f c.file ((txt f c.file).extract 0 c.n) hf
  rw [ByteArray.size_extract] at this; omega
theorem piece_size (s : ByteArray) (b : Int) : (piece s b).size ≤ s.size := by unfold piece; rw [ByteArray.size_extract]; omega
theorem total_part {f : List ByteArray} {c : Call} (b : Int) (hf : c.file < f.length) (h : total (run f c) ≤ Most) (h0 : total f ≤ Most) : total (part f c b) ≤ Most := by
  unfold part
  split
  · exact h0
  · next hc =>
    rw [total_wr (by simpa using hc) hf] at h
    have := total_set f c.file (txt f c.file ++ piece c.s b) hf
    have := piece_size c.s b
    rw [ByteArray.size_append] at *; omega
theorem crashed_length (f : List ByteArray) (l : List Call) (x y : Int) : (crashed f l x y).length = f.length := by
  unfold crashed; split
  · rw [part_length, runs_length]
  · rw [runs_length]
theorem crashed_total {f : List ByteArray} {l : List Call} (h : okRow f l) (h0 : total f ≤ Most) (x y : Int) : total (crashed f l x y) ≤ Most := by
  unfold crashed
  split
  · next hx =>
    obtain ⟨h1, h2, h3⟩ := okRow_at h x.toNat hx.2
    exact total_part y (by rw [runs_length]; exact h1) h3 (total_runs h h0 _ (by omega))
  · rcases Nat.lt_or_ge x.toNat l.length with hl | hl
    · exact total_runs h h0 _ (by omega)
    · rw [List.take_of_length_le hl]
      have := total_runs h h0 l.length (Nat.le_refl _)
      rwa [List.take_length] at this

/-! ### What may be stays so -/
section
variable {d : D} (h : d.ok)
include h
theorem D.ok.total_now : total d.now ≤ Most := by
  have := total_runs h.row h.tot d.loose.length (Nat.le_refl _)
  rwa [List.take_length] at this
theorem D.ok.left : (d.left : Int) ≤ 4194304 ∧ -4194304 ≤ d.left := by
  have h1 := h.total_now
  have h2 := h.room
  unfold D.left; unfold Most at h1 h2; omega
theorem burn_ok : (burn d).1.ok ∧ (burn d).1.now = d.now ∧ (burn d).1.n = d.n ∧ (burn d).1.sure = d.sure ∧ (burn d).1.loose = d.loose ∧ (burn d).1.room = d.room := by
  have := h.f1
  have := h.f2
  unfold burn
  split
  · exact ⟨h, rfl, rfl, rfl, rfl, rfl⟩
  split
  · exact ⟨⟨h.n1, h.n2, h.room, h.tot, by show -1 ≤ d.fuse - 1; omega, by show d.fuse - 1 ≤ _; omega, h.row⟩, rfl, rfl, rfl, rfl, rfl⟩
  · exact ⟨h, rfl, rfl, rfl, rfl, rfl⟩
end
theorem D.is_iff {d : D} {file : Int} : d.is file = true ↔ 0 ≤ file ∧ file < d.n := by unfold D.is; simp
theorem D.add_ok {d : D} (h : d.ok) (c : Call) (h1 : c.file < d.n) (h2 : c.cut = true → c.n ≤ (txt d.now c.file).size) (h3 : total (run d.now c) ≤ Most) : (d.add c).ok :=
  ⟨h.n1, h.n2, h.room, h.tot, h.f1, h.f2, okRow_snoc h.row h1 h2 h3⟩
theorem write_ok {d : D} (h : d.ok) (file : Int) (s : ByteArray) : (write d file s).1.ok := by
  obtain ⟨b1, b2, b3, b4, b5, b6⟩ := burn_ok h
  unfold write
  split
  · exact b1
  split
  · exact b1
  split
  · exact b1
  · next h1 h2 h3 =>
    have hi := D.is_iff.1 (by simpa using h2 : d.is file = true)
    refine D.add_ok b1 _ (by rw [b3]; simp only; omega) (by simp) ?_
    rw [total_wr rfl (by rw [D.now_length, b3]; simp only; omega), b2]
    have := h.total_now
    have := h.room
    unfold D.left at h3
    simp only
    omega
theorem cut_ok {d : D} (h : d.ok) (file n : Int) : (cut d file n).1.ok := by
  obtain ⟨b1, b2, b3, b4, b5, b6⟩ := burn_ok h
  unfold cut
  split
  · exact b1
  split
  · exact b1
  split
  · exact b1
  · next h1 h2 h3 =>
    have hi := D.is_iff.1 (by simpa using h2 : d.is file = true)
    refine D.add_ok b1 _ (by rw [b3]; simp only; omega) (by intro _; rw [b2]; simp only; omega) ?_
    have := total_ct (f := (burn d).1.now) (c := ⟨file.toNat, true, n.toNat, none⟩) rfl (by rw [D.now_length, b3]; simp only; omega)
    rw [b2] at this ⊢
    have := h.total_now
    omega
theorem sync_ok {d : D} (h : d.ok) : (sync d).1.ok := by
  obtain ⟨b1, b2, b3, b4, b5, b6⟩ := burn_ok h
  have hn := d.now_length
  unfold sync
  split
  · exact b1
  · exact ⟨by unfold D.n; rw [hn]; exact h.n1, by unfold D.n; rw [hn]; exact h.n2, b1.room, h.total_now, b1.f1, b1.f2, trivial⟩
theorem fused_ok {d : D} (h : d.ok) (n : Int) (hn : n ≤ 9223372036854775807) : (fused d n).ok := ⟨h.n1, h.n2, h.room, h.tot, by unfold fused; simp only; omega, by unfold fused; simp only; omega, h.row⟩
theorem crash_ok {d : D} (h : d.ok) (x y : Int) : (crash d x y).ok := by
  have e : (crash d x y).n = d.n := by unfold crash D.n; simp only; rw [crashed_length]
  exact ⟨by rw [e]; exact h.n1, by rw [e]; exact h.n2, h.room, crashed_total h.row h.tot x y, by show (-1 : Int) ≤ -1; omega, by show (-1 : Int) ≤ _; omega, trivial⟩
theorem turned_size (s : ByteArray) (i : Nat) (b : UInt8) : (turned s i b).size = s.size := by unfold turned; rw [S_size, List.length_set, L_size]
theorem spoil_ok {d : D} (h : d.ok) (file i : Int) (b : UInt8) : (spoil d file i b).1.ok := by
  unfold spoil
  split
  · exact h
  split
  · exact h
  split
  · exact h
  · next h1 h2 h3 =>
    have hi := D.is_iff.1 (by simpa using h1 : d.is file = true)
    have hl : d.loose = [] := by simpa using h3
    refine ⟨by unfold D.n; simp only [List.length_set]; exact h.n1, by unfold D.n; simp only [List.length_set]; exact h.n2, h.room, ?_, h.f1, h.f2, by simp only [hl]; trivial⟩
    have := total_set d.sure file.toNat (turned (txt d.sure file.toNat) i.toNat b) (by unfold D.n at hi; omega)
    rw [turned_size] at this
    have := h.tot
    simp only
    omega
theorem new_ok (n room : Nat) (h1 : 1 ≤ n) (h2 : n ≤ 16) (h3 : room ≤ Most) : (new n room).ok := by
  have e : (new n room).n = n := by simp [new, D.n]
  have t : ∀ n, total (List.replicate n none) = 0 := by intro n; unfold total; simp; exact Nat.mul_zero _
  exact ⟨by rw [e]; exact h1, by rw [e]; exact h2, h3, by show total (List.replicate n none) ≤ _; rw [t]; decide, by show (-1 : Int) ≤ -1; omega, by show (-1 : Int) ≤ _; omega, trivial⟩

end Go.Proofs.Ytickdhlhafifhaa.Dk
