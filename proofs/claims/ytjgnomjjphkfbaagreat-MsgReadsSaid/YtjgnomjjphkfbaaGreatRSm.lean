/-
  Joined out of the texts MsgDead MsgSm.
-/
import Derived.Test.YtjgnomjjphkfbaaGreatREq
import Derived.Deep.DeepCutAuto
namespace Go.Proofs.YtjgnomjjphkfbaaGreat
open Go.RowKit

/-- One operation of a chain whose last word lies in slot 'c' and is 'false': the slot where it lies then. -/
def deadStep (ops : Array Oper) (n : Nat) (c : Tmp) (o : Oper) : Option Tmp :=
  match o.dst with
  | none => none
  | some d => match o.guard with
    | some (j, want) => if want = true ∧ (ops[j]?).bind (·.dst) = some c ∧ d ≠ c then some c else none
    | none => if n ≤ d then none else match o.op with
      | .move (.tmp x) => if x = c then some d else none
      | .assign (.tmp x) => if x = c then some d else none
      | .pick (.tmp x) _ (.const (.bool false)) => if x = c then some d else none
      | _ => none
def deadRun (ops : Array Oper) (n : Nat) : List Oper → Tmp → Option Tmp
  | [], c => some c
  | o :: rest, c => match deadStep ops n c o with
    | some d => deadRun ops n rest d
    | none => none
structure DeadAt (a : Act) (n : Nat) (c : Tmp) : Prop where
  big : n ≤ a.tmps.size
  here : a.tmps[c]? = some (.bool false)
  none : a.defers = []
theorem DeadAt.eval {a : Act} {n c : Nat} (h : DeadAt a n c) : a.eval (.tmp c) = .bool false := by
  simp [Act.eval, Array.getD_eq_getD_getElem?, h.here]
theorem DeadAt.put {a : Act} {n c d : Nat} (h : DeadAt a n c) (hd : ¬ n ≤ d) : DeadAt (a.put (some d) (.bool false)) n d := by
  have := h.big
  refine ⟨by simpa [Act.put] using h.big, ?_, h.none⟩
  simp only [Act.put]
  rw [Array.getElem?_setIfInBounds_self_of_lt (by omega)]
theorem DeadAt.past {a : Act} {n c d : Nat} {v : Value} (h : DeadAt a n c) (hd : d ≠ c) : DeadAt (a.put (some d) v) n c := by
  refine ⟨by simpa [Act.put] using h.big, ?_, h.none⟩
  simp only [Act.put]
  rw [Array.getElem?_setIfInBounds_ne hd]
  exact h.here
theorem wpList_deadStep {P : Program} {ops : Array Oper} {Q : Exit → Act → World → Prop} {rest : List Oper} {o : Oper} {a : Act} {n c d : Nat} {w : World} (ha : DeadAt a n c) (h : deadStep ops n c o = some d) (hk : ∀ a', DeadAt a' n d → wpList P ops Q rest a' w) : wpList P ops Q (o :: rest) a w := by
  unfold deadStep at h
  split at h
  · cases h
  · rename_i e he
    split at h
    · rename_i j want hg
      split at h
      · rename_i hw
        obtain ⟨rfl, hj, hne⟩ := hw
        cases h
        refine wpList_skip ?_ ?_
        · unfold Region.wanted
          rw [hg]
          simp only [yielded, hj, Option.bind_some, ha.here]
          decide
        · rw [he]; exact hk _ (ha.past hne)
      · cases h
    · rename_i hg
      split at h
      · cases h
      · rename_i hn
        split at h
        · rename_i x ho
          split at h
          · rename_i hx
            subst hx
            cases h
            exact wpList_plain hg fun K hK => by
              unfold Oper.wp execOp; rw [ho]
              have := hk _ (ha.put hn)
              rw [← ha.eval, ← he] at this
              exact hK _ _ this
          · cases h
        · rename_i x ho
          split at h
          · rename_i hx
            subst hx
            cases h
            exact wpList_plain hg fun K hK => by
              unfold Oper.wp execOp; rw [ho]
              have := hk _ (ha.put hn)
              rw [← ha.eval, ← he] at this
              exact hK _ _ this
          · cases h
        · rename_i x y ho
          split at h
          · rename_i hx
            subst hx
            cases h
            refine wpList_plain hg fun K hK => ?_
            unfold Oper.wp execOp
            have := hk _ (ha.put hn)
            rw [← he] at this
            simp only [ho, ha.eval, asBool, Sem.run_bind, Sem.run_pure, Result.andThen_ok]
            exact hK _ _ this
          · cases h
        · cases h
theorem wpList_dead {P : Program} {ops : Array Oper} {Q : Exit → Act → World → Prop} (n : Nat) : ∀ (rest : List Oper) (a : Act) {w : World} (c d : Nat) (_ : DeadAt a n c) (_ : deadRun ops n rest c = some d) (_ : ∀ a', DeadAt a' n d → Q .normal a' w), wpList P ops Q rest a w
  | [], a, w, c, d, ha, h, hk => by cases h; exact hk a ha
  | o :: rest, a, w, c, d, ha, h, hk => by
    unfold deadRun at h
    cases hs : deadStep ops n c o with
    | none => rw [hs] at h; cases h
    | some e =>
      rw [hs] at h
      exact wpList_deadStep ha hs fun a' ha' => wpList_dead n rest a' e d ha' h hk

/-- Where the chain's last word lies, by its next operation. -/
def deadHead (ops : Array Oper) (o : Oper) : Option Tmp :=
  match o.guard with
  | some (j, _) => (ops[j]?).bind (·.dst)
  | none => match o.op with
    | .pick (.tmp c) _ _ => some c
    | _ => none
/-- All of it, by looking: the chain's rest 'rest', in a frame of 'n' slots, ends with its word in slot 'd'. -/
def deadAll (ops : Array Oper) (n : Nat) (d : Tmp) (rest : List Oper) (a : Act) : Bool :=
  match rest with
  | [] => false
  | o :: _ => match deadHead ops o with
    | some c => (Nat.ble n a.tmps.size && a.defers.isEmpty) && (match a.tmps[c]? with | some (.bool false) => true | _ => false) && (match deadRun ops n rest c with | some e => Nat.beq e d | none => false)
    | none => false
theorem wpList_deadAll {P : Program} {ops : Array Oper} {Q : Exit → Act → World → Prop} (n d : Nat) (rest : List Oper) (a : Act) {w : World} (h : deadAll ops n d rest a = true) (hk : ∀ a', DeadAt a' n d → Q .normal a' w) : wpList P ops Q rest a w := by
  unfold deadAll at h
  split at h
  · cases h
  · rename_i o r
    split at h
    · rename_i c hc
      simp only [Bool.and_eq_true] at h
      obtain ⟨⟨⟨h1, h0⟩, h2⟩, h3⟩ := h
      refine wpList_dead n _ a c d ⟨Nat.le_of_ble_eq_true h1, ?_, List.isEmpty_iff.1 h0⟩ ?_ hk
      · split at h2
        · assumption
        · cases h2
      · split at h3
        · rename_i e he
          rw [he, Nat.eq_of_beq_eq_true h3]
        · cases h3
    · cases h

theorem results_one {P : Program} {fn : Func} {u : Tmp} (h : fn.results = #[.tmp u]) (tmps : Array Value) (w : World) (v : Value) (hv : tmps[u]? = some v) : (results fn tmps).run P w = .ok v w := by
  have : tmps.getD u undef = v := by simp [Array.getD_eq_getD_getElem?, hv]
  subst this
  simp [results, h, go_sem]

end Go.Proofs.YtjgnomjjphkfbaaGreat

namespace Go.Proofs.YtjgnomjjphkfbaaGreat
open Go.RowKit
attribute [local go_sem ↓ high] ldAsk_eq stAsk_eq ldTold_eq stTold_eq eq_rng eq_tx

set_option maxRecDepth 20000 in
set_option maxHeartbeats 40000000 in
theorem same_any (s s2 : MS) (x y : Mg.Msg) (w : World) (ha : MsgA w s x) (hb : MsgA w s2 y) (ok : x.Good) (ok2 : y.Good) :
    Calls Tryz.prog 13 #[.agg (MV s x), .agg (MV s2 y)] w fun e w' => e = .returned (.bool (decide (x = y))) ∧ Below w.heap.size w w' := by
  obtain ⟨w0, hw0⟩ : ∃ w0, w0 = (w.alloc (.cells (MV s x) 43 (0, 0))).alloc (.cells (MV s2 y) 43 (0, 0)) := ⟨_, rfl⟩
  have HW0 := Lib.hid hw0
  have HB1 : Hid (w0.heap[w.heap.size]? = some (.cells (MV s x) 43 (0, 0))) := Lib.hid (by
    rw [hw0, Below.heap_alloc _ _ _ (by simp)]; exact heap_alloc_new w _)
  have HB2 : Hid (w0.heap[w.heap.size + 1]? = some (.cells (MV s2 y) 43 (0, 0))) := Lib.hid (by
    rw [hw0]
    have := heap_alloc_new (w.alloc (.cells (MV s x) 43 (0, 0))) (.cells (MV s2 y) 43 (0, 0))
    rw [World.size_alloc] at this
    exact this)
  have HBW : Hid (Below w.heap.size w w0) := Lib.hid (by rw [hw0]; exact (((Own.refl w).alloc _).alloc _).below)
  have HA := Lib.hid ha
  have HB := Lib.hid hb
  have HOK := Lib.hid ok
  have HOK2 := Lib.hid ok2
  obtain ⟨R3, hR3⟩ : ∃ R, R = decide (x = y) := ⟨_, rfl⟩
  rw [← hR3]
  have HR3 := Lib.hid hR3
  clear hw0 ha hb ok ok2 hR3
  have hz1 := heap_alloc_new w0 (.cells #[.int .u32 0, .slice none 0 0, .slice none 0 0, .slice none 0 0, .slice none 0 0, .bool false, .string { data := #[] }, .bool false, .bool false, .int .u64 0, .int .u64 0] 33 (0, 0))
  have hA : ((w0.alloc (.cells #[.int .u32 0, .slice none 0 0, .slice none 0 0, .slice none 0 0, .slice none 0 0, .bool false, .string { data := #[] }, .bool false, .bool false, .int .u64 0, .int .u64 0] 33 (0, 0))).alloc (.cells #[.int .u32 0, .slice none 0 0, .slice none 0 0, .slice none 0 0, .slice none 0 0, .bool false, .string { data := #[] }, .bool false, .bool false, .int .u64 0, .int .u64 0] 33 (0, 0))).drew.heap[w0.heap.size]? = some (.cells #[.int .u32 0, .slice none 0 0, .slice none 0 0, .slice none 0 0, .slice none 0 0, .bool false, .string { data := #[] }, .bool false, .bool false, .int .u64 0, .int .u64 0] 33 (0, 0)) ∧ ((w0.alloc (.cells #[.int .u32 0, .slice none 0 0, .slice none 0 0, .slice none 0 0, .slice none 0 0, .bool false, .string { data := #[] }, .bool false, .bool false, .int .u64 0, .int .u64 0] 33 (0, 0))).alloc (.cells #[.int .u32 0, .slice none 0 0, .slice none 0 0, .slice none 0 0, .slice none 0 0, .bool false, .string { data := #[] }, .bool false, .bool false, .int .u64 0, .int .u64 0] 33 (0, 0))).drew.heap[w0.heap.size + 1]? = some (.cells #[.int .u32 0, .slice none 0 0, .slice none 0 0, .slice none 0 0, .slice none 0 0, .bool false, .string { data := #[] }, .bool false, .bool false, .int .u64 0, .int .u64 0] 33 (0, 0)) := by
    constructor
    · exact (Below.heap_alloc _ _ _ (by simp)).trans hz1
    · have := heap_alloc_new (w0.alloc (.cells #[.int .u32 0, .slice none 0 0, .slice none 0 0, .slice none 0 0, .slice none 0 0, .bool false, .string { data := #[] }, .bool false, .bool false, .int .u64 0, .int .u64 0] 33 (0, 0))) (.cells #[.int .u32 0, .slice none 0 0, .slice none 0 0, .slice none 0 0, .slice none 0 0, .bool false, .string { data := #[] }, .bool false, .bool false, .int .u64 0, .int .u64 0] 33 (0, 0))
      rw [World.size_alloc] at this
      exact this
  have hbA : Below w0.heap.size w0 ((w0.alloc (.cells #[.int .u32 0, .slice none 0 0, .slice none 0 0, .slice none 0 0, .slice none 0 0, .bool false, .string { data := #[] }, .bool false, .bool false, .int .u64 0, .int .u64 0] 33 (0, 0))).alloc (.cells #[.int .u32 0, .slice none 0 0, .slice none 0 0, .slice none 0 0, .slice none 0 0, .bool false, .string { data := #[] }, .bool false, .bool false, .int .u64 0, .int .u64 0] 33 (0, 0))).drew := (((Own.refl w0).alloc _).alloc _).drew.below
  have hbA1 : Below w0.heap.size w0 (w0.alloc (.cells #[.int .u32 0, .slice none 0 0, .slice none 0 0, .slice none 0 0, .slice none 0 0, .bool false, .string { data := #[] }, .bool false, .bool false, .int .u64 0, .int .u64 0] 33 (0, 0))).drew := ((Own.refl w0).alloc _).drew.below
  have hbA0 : Below w0.heap.size w0 w0.drew := (Own.refl w0).drew.below
  obtain ⟨W1, s1, q1⟩ := stAsk_run ((w0.alloc (.cells #[.int .u32 0, .slice none 0 0, .slice none 0 0, .slice none 0 0, .slice none 0 0, .bool false, .string { data := #[] }, .bool false, .bool false, .int .u64 0, .int .u64 0] 33 (0, 0))).alloc (.cells #[.int .u32 0, .slice none 0 0, .slice none 0 0, .slice none 0 0, .slice none 0 0, .bool false, .string { data := #[] }, .bool false, .bool false, .int .u64 0, .int .u64 0] 33 (0, 0))).drew w0.heap.size s x _ hA.1 rfl
  obtain ⟨W2, s2', q2⟩ := stAsk_run W1 (w0.heap.size + 1) s2 y _ ((q1.other _ (by omega)).trans hA.2) rfl
  obtain ⟨V1, s3, q3⟩ := stAsk_run ((w0.alloc (.cells #[.int .u32 0, .slice none 0 0, .slice none 0 0, .slice none 0 0, .slice none 0 0, .bool false, .string { data := #[] }, .bool false, .bool false, .int .u64 0, .int .u64 0] 33 (0, 0))).alloc (.cells #[.int .u32 0, .slice none 0 0, .slice none 0 0, .slice none 0 0, .slice none 0 0, .bool false, .string { data := #[] }, .bool false, .bool false, .int .u64 0, .int .u64 0] 33 (0, 0))).drew (w0.heap.size + 1) s x _ hA.2 rfl
  obtain ⟨V2, s4, q4⟩ := stAsk_run V1 w0.heap.size s2 y _ ((q3.other _ (by omega)).trans hA.1) rfl
  have l0 := ldAsk_run (w0.drew) _ s x ((hbA0.block _ (blk_lt HB1.out)).trans HB1.out)
  have m0 := ldAsk_run (w0.drew) _ s2 y ((hbA0.block _ (blk_lt HB2.out)).trans HB2.out)
  have l1 := ldAsk_run ((w0.alloc (.cells #[.int .u32 0, .slice none 0 0, .slice none 0 0, .slice none 0 0, .slice none 0 0, .bool false, .string { data := #[] }, .bool false, .bool false, .int .u64 0, .int .u64 0] 33 (0, 0))).drew) _ s x ((hbA1.block _ (blk_lt HB1.out)).trans HB1.out)
  have m1 := ldAsk_run ((w0.alloc (.cells #[.int .u32 0, .slice none 0 0, .slice none 0 0, .slice none 0 0, .slice none 0 0, .bool false, .string { data := #[] }, .bool false, .bool false, .int .u64 0, .int .u64 0] 33 (0, 0))).drew) _ s2 y ((hbA1.block _ (blk_lt HB2.out)).trans HB2.out)
  have l2 := ldAsk_run (((w0.alloc (.cells #[.int .u32 0, .slice none 0 0, .slice none 0 0, .slice none 0 0, .slice none 0 0, .bool false, .string { data := #[] }, .bool false, .bool false, .int .u64 0, .int .u64 0] 33 (0, 0))).alloc (.cells #[.int .u32 0, .slice none 0 0, .slice none 0 0, .slice none 0 0, .slice none 0 0, .bool false, .string { data := #[] }, .bool false, .bool false, .int .u64 0, .int .u64 0] 33 (0, 0))).drew) _ s x ((hbA.block _ (blk_lt HB1.out)).trans HB1.out)
  have m2 := ldAsk_run (((w0.alloc (.cells #[.int .u32 0, .slice none 0 0, .slice none 0 0, .slice none 0 0, .slice none 0 0, .bool false, .string { data := #[] }, .bool false, .bool false, .int .u64 0, .int .u64 0] 33 (0, 0))).alloc (.cells #[.int .u32 0, .slice none 0 0, .slice none 0 0, .slice none 0 0, .slice none 0 0, .bool false, .string { data := #[] }, .bool false, .bool false, .int .u64 0, .int .u64 0] 33 (0, 0))).drew) _ s2 y ((hbA.block _ (blk_lt HB2.out)).trans HB2.out)
  have m3 := ldAsk_run W1 _ s2 y ((q1.other _ (by have := blk_lt HB2.out; omega)).trans ((hbA.block _ (blk_lt HB2.out)).trans HB2.out))
  have m4 := ldAsk_run V1 _ s2 y ((q3.other _ (by have := blk_lt HB2.out; omega)).trans ((hbA.block _ (blk_lt HB2.out)).trans HB2.out))
  have HT1 := Lib.hid (two_of hbA q1 q2 (Nat.le_refl _) (by omega) (by omega))
  have HT2 := Lib.hid (two_of hbA q3 q4 (by omega) (Nat.le_refl _) (by omega))
  obtain ⟨ax, hax⟩ : ∃ v, v = askV s x := ⟨_, rfl⟩
  obtain ⟨ay, hay⟩ : ∃ v, v = askV s2 y := ⟨_, rfl⟩
  rw [← hax] at l0 l1 l2 s1 s3 HT1 HT2
  rw [← hay] at m0 m1 m2 m3 m4 s2' s4 HT1 HT2
  have HAX := Lib.hid hax
  have HAY := Lib.hid hay
  clear hz1 hA hbA hbA1 hbA0 q1 q2 q3 q4 hax hay
  go_enter Tryz.func13, Tryz.ntmps13
  go_upto_region 1 with (fail)
  rw [← HW0.out]
  clear HW0
  go_cut [5, 6] (fun u v wx => ∃ p q : Nat, u = .pointer (some ⟨p, 0, none⟩) ∧ v = .pointer (some ⟨q, 0, none⟩) ∧ Two w0 wx 33 p q ax ay)
  case first =>
    as_aux_lemma =>
    go_region
    all_goals
      go_wp2_with fail
      go_meet
      first | exact ⟨_, _, rfl, rfl, HT1.out⟩ | exact ⟨_, _, rfl, rfl, HT2.out⟩
  case rest =>
  obtain ⟨p, q, rfl, rfl, htwo⟩ := hcut
  have HTW := Lib.hid htwo
  clear l0 l1 l2 m0 m1 m2 m3 m4 s1 s2' s3 s4 HT1 HT2 htwo
  obtain ⟨wa, hwa⟩ : ∃ y, y = wc := ⟨_, rfl⟩
  subst hwa
  revert u11 u12 u13 u14 u15 u16 u17 u18 u19 u20 u21 u22 u23 u24 u25 u26 u27 u28 u29 u30 u31 u32 u33 u34 u35 u36 u37 u38 u39 u40 u41 u42 u43 u44 u45 u46 u47 u48 u49 u50 u51 u52 u53 u54 u55 u56 u57 u58 u59 u60 u61 u62 u63 u64 u65 u66 u67 u68 u69 u70 u71 u72 u73 u74 u75 u76 u77 u78 u79 u80 u81 u82 u83 u84 u85 u86 u87 u88 u89 u90 u91 u92 u93 u94 u95 u96 u97 u98 u99 u100 u101 u102 u103 u104 u105 u106 u107 u108 u109 u110 u111 u112 u113 u114 u115 u116 u117 u118 u119 u120 u121 u122 u123 u124 u125 u126 u127 u128 u129 u130 u131 u132 u133 u134 u135 u136 u137 u138 u139 u140 u141 u142 u143 u144 u145 u146 u147 u148 u149 u150 u151 u152 u153 u154 u155 u156 u157 u158 u159 u160 u161 u162 u163 u164 u165 u166 u167 u168 u169 u170 u171 u172 u173 u174 u175 u176 u177 u178 u179 u180 u181 u182 u183 u184 u185 u186 u187 u188 u189 u190 u191 u192 u193
  intro z1_11 z1_12 z1_13 z1_14 z1_15 z1_16 z1_17 z1_18 z1_19 z1_20 z1_21 z1_22 z1_23 z1_24 z1_25 z1_26 z1_27 z1_28 z1_29 z1_30 z1_31 z1_32 z1_33 z1_34 z1_35 z1_36 z1_37 z1_38 z1_39 z1_40 z1_41 z1_42 z1_43 z1_44 z1_45 z1_46 z1_47 z1_48 z1_49 z1_50 z1_51 z1_52 z1_53 z1_54 z1_55 z1_56 z1_57 z1_58 z1_59 z1_60 z1_61 z1_62 z1_63 z1_64 z1_65 z1_66 z1_67 z1_68 z1_69 z1_70 z1_71 z1_72 z1_73 z1_74 z1_75 z1_76 z1_77 z1_78 z1_79 z1_80 z1_81 z1_82 z1_83 z1_84 z1_85 z1_86 z1_87 z1_88 z1_89 z1_90 z1_91 z1_92 z1_93 z1_94 z1_95 z1_96 z1_97 z1_98 z1_99 z1_100 z1_101 z1_102 z1_103 z1_104 z1_105 z1_106 z1_107 z1_108 z1_109 z1_110 z1_111 z1_112 z1_113 z1_114 z1_115 z1_116 z1_117 z1_118 z1_119 z1_120 z1_121 z1_122 z1_123 z1_124 z1_125 z1_126 z1_127 z1_128 z1_129 z1_130 z1_131 z1_132 z1_133 z1_134 z1_135 z1_136 z1_137 z1_138 z1_139 z1_140 z1_141 z1_142 z1_143 z1_144 z1_145 z1_146 z1_147 z1_148 z1_149 z1_150 z1_151 z1_152 z1_153 z1_154 z1_155 z1_156 z1_157 z1_158 z1_159 z1_160 z1_161 z1_162 z1_163 z1_164 z1_165 z1_166 z1_167 z1_168 z1_169 z1_170 z1_171 z1_172 z1_173 z1_174 z1_175 z1_176 z1_177 z1_178 z1_179 z1_180 z1_181 z1_182 z1_183 z1_184 z1_185 z1_186 z1_187 z1_188 z1_189 z1_190 z1_191 z1_192 z1_193
  have HBC := Lib.hid (HBW.out.trans (HTW.out.bel.mono HBW.out.size))
  obtain ⟨R1, hR1⟩ : ∃ R, R = decide (x.ask = y.ask) := ⟨_, rfl⟩
  have HR1 := Lib.hid hR1
  have HRR := Lib.hid (hR1.trans (ask_dec x.ask y.ask))
  clear hR1
  go_upto_region 2 with (fail)
  go_cut [7] (fun v wx => v = .bool R1 ∧ Below wa.heap.size wa wx)
  case first =>
    as_aux_lemma =>
    have HP : Hid (wa.heap[p]? = some (.cells (askV s x) 33 (0, 0))) := Lib.hid (by rw [← HAX.out]; exact HTW.out.one)
    have HQ : Hid (wa.heap[q]? = some (.cells (askV s2 y) 33 (0, 0))) := Lib.hid (by rw [← HAY.out]; exact HTW.out.two)
    have g0 := nat_beq x.ask.shard y.ask.shard
    obtain ⟨b0, hb0⟩ : ∃ b, b = decide (x.ask.shard = y.ask.shard) := ⟨_, rfl⟩
    rw [← hb0] at g0
    rw [← hb0] at HRR
    clear hb0
    have HE1 := Lib.hid (fun wz (hz : Below w.heap.size w wz) => equal_reads s.reads.1 s2.reads.1 s.reads.2 s2.reads.2 x.ask.reads y.ask.reads wz (HA.out.reads.keep hz).row (HB.out.reads.keep hz).row HOK.out.reads.2 HOK2.out.reads.2)
    obtain ⟨b1, hb1⟩ : ∃ b, b = decide (x.ask.reads = y.ask.reads) := ⟨_, rfl⟩
    rw [← hb1] at HE1
    rw [← hb1] at HRR
    clear hb1
    have HE2 := Lib.hid (fun wz (hz : Below w.heap.size w wz) => equal_ints s.readAt.1 s2.readAt.1 s.readAt.2 s2.readAt.2 x.ask.readAt y.ask.readAt wz (HA.out.readAt.keep hz).row (HB.out.readAt.keep hz).row HOK.out.readAt.2 HOK2.out.readAt.2)
    obtain ⟨b2, hb2⟩ : ∃ b, b = decide (x.ask.readAt = y.ask.readAt) := ⟨_, rfl⟩
    rw [← hb2] at HE2
    rw [← hb2] at HRR
    clear hb2
    have HE3 := Lib.hid (fun wz (hz : Below w.heap.size w wz) => equal_edits s.edits.1 s2.edits.1 s.edits.2 s2.edits.2 x.ask.edits y.ask.edits wz (HA.out.edits.keep hz).row (HB.out.edits.keep hz).row HOK.out.edits.2 HOK2.out.edits.2)
    obtain ⟨b3, hb3⟩ : ∃ b, b = decide (x.ask.edits = y.ask.edits) := ⟨_, rfl⟩
    rw [← hb3] at HE3
    rw [← hb3] at HRR
    clear hb3
    have HE4 := Lib.hid (fun wz (hz : Below w.heap.size w wz) => equal_ints s.editAt.1 s2.editAt.1 s.editAt.2 s2.editAt.2 x.ask.editAt y.ask.editAt wz (HA.out.editAt.keep hz).row (HB.out.editAt.keep hz).row HOK.out.editAt.2 HOK2.out.editAt.2)
    obtain ⟨b4, hb4⟩ : ∃ b, b = decide (x.ask.editAt = y.ask.editAt) := ⟨_, rfl⟩
    rw [← hb4] at HE4
    rw [← hb4] at HRR
    clear hb4
    have g5 := bool_beq x.ask.list y.ask.list
    obtain ⟨b5, hb5⟩ : ∃ b, b = decide (x.ask.list = y.ask.list) := ⟨_, rfl⟩
    rw [← hb5] at g5
    rw [← hb5] at HRR
    clear hb5
    have g6 := str_beq x.ask.pre y.ask.pre
    obtain ⟨b6, hb6⟩ : ∃ b, b = decide (x.ask.pre = y.ask.pre) := ⟨_, rfl⟩
    rw [← hb6] at g6
    rw [← hb6] at HRR
    clear hb6
    have g7 := bool_beq x.ask.give y.ask.give
    obtain ⟨b7, hb7⟩ : ∃ b, b = decide (x.ask.give = y.ask.give) := ⟨_, rfl⟩
    rw [← hb7] at g7
    rw [← hb7] at HRR
    clear hb7
    have g8 := bool_beq x.ask.take y.ask.take
    obtain ⟨b8, hb8⟩ : ∃ b, b = decide (x.ask.take = y.ask.take) := ⟨_, rfl⟩
    rw [← hb8] at g8
    rw [← hb8] at HRR
    clear hb8
    obtain ⟨b9, hb9⟩ : ∃ b, b = decide (x.ask.range = y.ask.range) := ⟨_, rfl⟩
    have g9 := hb9.symm
    rw [← hb9] at HRR
    clear hb9
    have c0 : wa.cell? ⟨p, 0, none⟩ = some (.int .u32 x.ask.shard) := by rw [cell_of_row _ _ _ _ _ _ (HP.out)]; rfl
    have d0 : wa.cell? ⟨q, 0, none⟩ = some (.int .u32 y.ask.shard) := by rw [cell_of_row _ _ _ _ _ _ (HQ.out)]; rfl
    have c1 : wa.cell? ⟨p, 1, none⟩ = some (.slice s.reads.1 x.ask.reads.length s.reads.2) := by rw [cell_of_row _ _ _ _ _ _ (HP.out)]; rfl
    have d1 : wa.cell? ⟨q, 1, none⟩ = some (.slice s2.reads.1 y.ask.reads.length s2.reads.2) := by rw [cell_of_row _ _ _ _ _ _ (HQ.out)]; rfl
    go_wp2_with fail
    all_goals first
      | (have hh : ¬ b0 = true := by assumption
         have h : b0 = false := by simpa using hh
         go_meet
         exact ⟨by rw [HRR.out, h]; simp, (Below.refl wa.heap.size wa)⟩)
      | skip
    have h : b0 = true := by assumption
    subst h
    refine (HE1.out _ HBC.out).mono ?_
    rintro e v0 ⟨rfl, hv0⟩
    have HV0 := Lib.hid (Below.trans HBC.out (hv0.mono (HBC.out).size))
    have HC0 : Hid (Below wa.heap.size wa v0) := Lib.hid (Below.trans (Below.refl wa.heap.size wa) (hv0.mono (Below.size (Below.refl wa.heap.size wa))))
    clear hv0 HE1 c0 d0 c1 d1
    have c2 : v0.cell? ⟨p, 2, none⟩ = some (.slice s.readAt.1 x.ask.readAt.length s.readAt.2) := by rw [cell_of_row _ _ _ _ _ _ ((HC0.out.block _ (blk_lt HP.out)).trans HP.out)]; rfl
    have d2 : v0.cell? ⟨q, 2, none⟩ = some (.slice s2.readAt.1 y.ask.readAt.length s2.readAt.2) := by rw [cell_of_row _ _ _ _ _ _ ((HC0.out.block _ (blk_lt HQ.out)).trans HQ.out)]; rfl
    go_wp2_with fail
    all_goals first
      | (have hh : ¬ b1 = true := by assumption
         have h : b1 = false := by simpa using hh
         go_meet
         exact ⟨by rw [HRR.out, h]; simp, HC0.out⟩)
      | skip
    have h : b1 = true := by assumption
    subst h
    refine (HE2.out _ HV0.out).mono ?_
    rintro e v1 ⟨rfl, hv1⟩
    have HV1 := Lib.hid (Below.trans HV0.out (hv1.mono (HV0.out).size))
    have HC1 : Hid (Below wa.heap.size wa v1) := Lib.hid (Below.trans HC0.out (hv1.mono (Below.size HC0.out)))
    clear hv1 HE2 c2 d2
    have c3 : v1.cell? ⟨p, 3, none⟩ = some (.slice s.edits.1 x.ask.edits.length s.edits.2) := by rw [cell_of_row _ _ _ _ _ _ ((HC1.out.block _ (blk_lt HP.out)).trans HP.out)]; rfl
    have d3 : v1.cell? ⟨q, 3, none⟩ = some (.slice s2.edits.1 y.ask.edits.length s2.edits.2) := by rw [cell_of_row _ _ _ _ _ _ ((HC1.out.block _ (blk_lt HQ.out)).trans HQ.out)]; rfl
    go_wp2_with fail
    all_goals first
      | (have hh : ¬ b2 = true := by assumption
         have h : b2 = false := by simpa using hh
         go_meet
         exact ⟨by rw [HRR.out, h]; simp, HC1.out⟩)
      | skip
    have h : b2 = true := by assumption
    subst h
    refine (HE3.out _ HV1.out).mono ?_
    rintro e v2 ⟨rfl, hv2⟩
    have HV2 := Lib.hid (Below.trans HV1.out (hv2.mono (HV1.out).size))
    have HC2 : Hid (Below wa.heap.size wa v2) := Lib.hid (Below.trans HC1.out (hv2.mono (Below.size HC1.out)))
    clear hv2 HE3 c3 d3
    have c4 : v2.cell? ⟨p, 4, none⟩ = some (.slice s.editAt.1 x.ask.editAt.length s.editAt.2) := by rw [cell_of_row _ _ _ _ _ _ ((HC2.out.block _ (blk_lt HP.out)).trans HP.out)]; rfl
    have d4 : v2.cell? ⟨q, 4, none⟩ = some (.slice s2.editAt.1 y.ask.editAt.length s2.editAt.2) := by rw [cell_of_row _ _ _ _ _ _ ((HC2.out.block _ (blk_lt HQ.out)).trans HQ.out)]; rfl
    go_wp2_with fail
    all_goals first
      | (have hh : ¬ b3 = true := by assumption
         have h : b3 = false := by simpa using hh
         go_meet
         exact ⟨by rw [HRR.out, h]; simp, HC2.out⟩)
      | skip
    have h : b3 = true := by assumption
    subst h
    refine (HE4.out _ HV2.out).mono ?_
    rintro e v3 ⟨rfl, hv3⟩
    have HV3 := Lib.hid (Below.trans HV2.out (hv3.mono (HV2.out).size))
    have HC3 : Hid (Below wa.heap.size wa v3) := Lib.hid (Below.trans HC2.out (hv3.mono (Below.size HC2.out)))
    clear hv3 HE4 c4 d4
    have c5 : v3.cell? ⟨p, 5, none⟩ = some (.bool x.ask.list) := by rw [cell_of_row _ _ _ _ _ _ ((HC3.out.block _ (blk_lt HP.out)).trans HP.out)]; rfl
    have d5 : v3.cell? ⟨q, 5, none⟩ = some (.bool y.ask.list) := by rw [cell_of_row _ _ _ _ _ _ ((HC3.out.block _ (blk_lt HQ.out)).trans HQ.out)]; rfl
    have c6 : v3.cell? ⟨p, 6, none⟩ = some (.string x.ask.pre) := by rw [cell_of_row _ _ _ _ _ _ ((HC3.out.block _ (blk_lt HP.out)).trans HP.out)]; rfl
    have d6 : v3.cell? ⟨q, 6, none⟩ = some (.string y.ask.pre) := by rw [cell_of_row _ _ _ _ _ _ ((HC3.out.block _ (blk_lt HQ.out)).trans HQ.out)]; rfl
    have c7 : v3.cell? ⟨p, 7, none⟩ = some (.bool x.ask.give) := by rw [cell_of_row _ _ _ _ _ _ ((HC3.out.block _ (blk_lt HP.out)).trans HP.out)]; rfl
    have d7 : v3.cell? ⟨q, 7, none⟩ = some (.bool y.ask.give) := by rw [cell_of_row _ _ _ _ _ _ ((HC3.out.block _ (blk_lt HQ.out)).trans HQ.out)]; rfl
    have c8 : v3.cell? ⟨p, 8, none⟩ = some (.bool x.ask.take) := by rw [cell_of_row _ _ _ _ _ _ ((HC3.out.block _ (blk_lt HP.out)).trans HP.out)]; rfl
    have d8 : v3.cell? ⟨q, 8, none⟩ = some (.bool y.ask.take) := by rw [cell_of_row _ _ _ _ _ _ ((HC3.out.block _ (blk_lt HQ.out)).trans HQ.out)]; rfl
    have c9 : v3.cell? ⟨p, 9, none⟩ = some (.int .u64 x.ask.range.frm) := by rw [cell_of_row _ _ _ _ _ _ ((HC3.out.block _ (blk_lt HP.out)).trans HP.out)]; rfl
    have c10 : v3.cell? ⟨p, 10, none⟩ = some (.int .u64 x.ask.range.top) := by rw [cell_of_row _ _ _ _ _ _ ((HC3.out.block _ (blk_lt HP.out)).trans HP.out)]; rfl
    have d9 : v3.cell? ⟨q, 9, none⟩ = some (.int .u64 y.ask.range.frm) := by rw [cell_of_row _ _ _ _ _ _ ((HC3.out.block _ (blk_lt HQ.out)).trans HQ.out)]; rfl
    have d10 : v3.cell? ⟨q, 10, none⟩ = some (.int .u64 y.ask.range.top) := by rw [cell_of_row _ _ _ _ _ _ ((HC3.out.block _ (blk_lt HQ.out)).trans HQ.out)]; rfl
    go_wp2_with fail
    all_goals first
      | (have hh : ¬ b4 = true := by assumption
         have h : b4 = false := by simpa using hh
         go_meet
         exact ⟨by rw [HRR.out, h]; simp, HC3.out⟩)
      | (have hh : ¬ b5 = true := by assumption
         have h : b5 = false := by simpa using hh
         go_meet
         exact ⟨by rw [HRR.out, h]; simp, HC3.out⟩)
      | (have hh : ¬ b6 = true := by assumption
         have h : b6 = false := by simpa using hh
         go_meet
         exact ⟨by rw [HRR.out, h]; simp, HC3.out⟩)
      | (have hh : ¬ b7 = true := by assumption
         have h : b7 = false := by simpa using hh
         go_meet
         exact ⟨by rw [HRR.out, h]; simp, HC3.out⟩)
      | (have hh : ¬ b8 = true := by assumption
         have h : b8 = false := by simpa using hh
         go_meet
         exact ⟨by rw [HRR.out, h]; simp, HC3.out⟩)
      | skip
    have h : b4 = true := by assumption
    subst h
    have h : b5 = true := by assumption
    subst h
    have h : b6 = true := by assumption
    subst h
    have h : b7 = true := by assumption
    subst h
    have h : b8 = true := by assumption
    subst h
    go_meet
    exact ⟨by rw [HRR.out]; simp, HC3.out⟩
  case rest =>
  obtain ⟨rfl, hb2⟩ := hcut
  obtain ⟨wb, hwb⟩ : ∃ y, y = wc := ⟨_, rfl⟩
  subst hwb
  revert u11 u12 u13 u14 u15 u16 u17 u18 u19 u20 u21 u22 u23 u24 u25 u26 u27 u28 u29 u30 u31 u32 u33 u34 u35 u36 u37 u38 u39 u40 u41 u42 u43 u44 u45 u46 u47 u48 u49 u50 u51 u52 u53 u54 u55 u56 u57 u58 u59 u60 u61 u62 u63 u64 u65 u66 u67 u68 u69 u70 u71 u72 u73 u74 u75 u76 u77 u78 u79 u80 u81 u82 u83 u84 u85 u86 u87 u88 u89 u90 u91 u92 u93 u94 u95 u96 u97 u98 u99 u100 u101 u102 u103 u104 u105 u106 u107 u108 u109 u110 u111 u112 u113 u114 u115 u116 u117 u118 u119 u120 u121 u122 u123 u124 u125 u126 u127 u128 u129 u130 u131 u132 u133 u134 u135 u136 u137 u138 u139 u140 u141 u142 u143 u144 u145 u146 u147 u148 u149 u150 u151 u152 u153 u154 u155 u156 u157 u158 u159 u160 u161 u162 u163 u164 u165 u166 u167 u168 u169 u170 u171 u172 u173 u174 u175 u176 u177 u178 u179 u180 u181 u182 u183 u184 u185 u186 u187 u188 u189 u190 u191 u192 u193
  intro z2_11 z2_12 z2_13 z2_14 z2_15 z2_16 z2_17 z2_18 z2_19 z2_20 z2_21 z2_22 z2_23 z2_24 z2_25 z2_26 z2_27 z2_28 z2_29 z2_30 z2_31 z2_32 z2_33 z2_34 z2_35 z2_36 z2_37 z2_38 z2_39 z2_40 z2_41 z2_42 z2_43 z2_44 z2_45 z2_46 z2_47 z2_48 z2_49 z2_50 z2_51 z2_52 z2_53 z2_54 z2_55 z2_56 z2_57 z2_58 z2_59 z2_60 z2_61 z2_62 z2_63 z2_64 z2_65 z2_66 z2_67 z2_68 z2_69 z2_70 z2_71 z2_72 z2_73 z2_74 z2_75 z2_76 z2_77 z2_78 z2_79 z2_80 z2_81 z2_82 z2_83 z2_84 z2_85 z2_86 z2_87 z2_88 z2_89 z2_90 z2_91 z2_92 z2_93 z2_94 z2_95 z2_96 z2_97 z2_98 z2_99 z2_100 z2_101 z2_102 z2_103 z2_104 z2_105 z2_106 z2_107 z2_108 z2_109 z2_110 z2_111 z2_112 z2_113 z2_114 z2_115 z2_116 z2_117 z2_118 z2_119 z2_120 z2_121 z2_122 z2_123 z2_124 z2_125 z2_126 z2_127 z2_128 z2_129 z2_130 z2_131 z2_132 z2_133 z2_134 z2_135 z2_136 z2_137 z2_138 z2_139 z2_140 z2_141 z2_142 z2_143 z2_144 z2_145 z2_146 z2_147 z2_148 z2_149 z2_150 z2_151 z2_152 z2_153 z2_154 z2_155 z2_156 z2_157 z2_158 z2_159 z2_160 z2_161 z2_162 z2_163 z2_164 z2_165 z2_166 z2_167 z2_168 z2_169 z2_170 z2_171 z2_172 z2_173 z2_174 z2_175 z2_176 z2_177 z2_178 z2_179 z2_180 z2_181 z2_182 z2_183 z2_184 z2_185 z2_186 z2_187 z2_188 z2_189 z2_190 z2_191 z2_192 z2_193
  clear z1_11 z1_12 z1_13 z1_14 z1_15 z1_16 z1_17 z1_18 z1_19 z1_20 z1_21 z1_22 z1_23 z1_24 z1_25 z1_26 z1_27 z1_28 z1_29 z1_30 z1_31 z1_32 z1_33 z1_34 z1_35 z1_36 z1_37 z1_38 z1_39 z1_40 z1_41 z1_42 z1_43 z1_44 z1_45 z1_46 z1_47 z1_48 z1_49 z1_50 z1_51 z1_52 z1_53 z1_54 z1_55 z1_56 z1_57 z1_58 z1_59 z1_60 z1_61 z1_62 z1_63 z1_64 z1_65 z1_66 z1_67 z1_68 z1_69 z1_70 z1_71 z1_72 z1_73 z1_74 z1_75 z1_76 z1_77 z1_78 z1_79 z1_80 z1_81 z1_82 z1_83 z1_84 z1_85 z1_86 z1_87 z1_88 z1_89 z1_90 z1_91 z1_92 z1_93 z1_94 z1_95 z1_96 z1_97 z1_98 z1_99 z1_100 z1_101 z1_102 z1_103 z1_104 z1_105 z1_106 z1_107 z1_108 z1_109 z1_110 z1_111 z1_112 z1_113 z1_114 z1_115 z1_116 z1_117 z1_118 z1_119 z1_120 z1_121 z1_122 z1_123 z1_124 z1_125 z1_126 z1_127 z1_128 z1_129 z1_130 z1_131 z1_132 z1_133 z1_134 z1_135 z1_136 z1_137 z1_138 z1_139 z1_140 z1_141 z1_142 z1_143 z1_144 z1_145 z1_146 z1_147 z1_148 z1_149 z1_150 z1_151 z1_152 z1_153 z1_154 z1_155 z1_156 z1_157 z1_158 z1_159 z1_160 z1_161 z1_162 z1_163 z1_164 z1_165 z1_166 z1_167 z1_168 z1_169 z1_170 z1_171 z1_172 z1_173 z1_174 z1_175 z1_176 z1_177 z1_178 z1_179 z1_180 z1_181 z1_182 z1_183 z1_184 z1_185 z1_186 z1_187 z1_188 z1_189 z1_190 z1_191 z1_192 z1_193
  have HBD := Lib.hid (HBC.out.trans (hb2.mono HBC.out.size))
  have HBB := Lib.hid (HTW.out.bel.trans (hb2.mono HTW.out.bel.size))
  have HM1 := Lib.hid ((HBB.out.block _ (blk_lt HB1.out)).trans HB1.out)
  have HM2 := Lib.hid ((HBB.out.block _ (blk_lt HB2.out)).trans HB2.out)
  clear hb2 HTW HAX HAY HRR HB1 HB2
  clear ax ay
  clear W1 W2 V1 V2
  have HB1 := HM1
  have HB2 := HM2
  have hz1 := heap_alloc_new wb (.cells #[.int .u32 0, .slice none 0 0, .slice none 0 0, .slice none 0 0] 41 (0, 0))
  have hA : ((wb.alloc (.cells #[.int .u32 0, .slice none 0 0, .slice none 0 0, .slice none 0 0] 41 (0, 0))).alloc (.cells #[.int .u32 0, .slice none 0 0, .slice none 0 0, .slice none 0 0] 41 (0, 0))).drew.heap[wb.heap.size]? = some (.cells #[.int .u32 0, .slice none 0 0, .slice none 0 0, .slice none 0 0] 41 (0, 0)) ∧ ((wb.alloc (.cells #[.int .u32 0, .slice none 0 0, .slice none 0 0, .slice none 0 0] 41 (0, 0))).alloc (.cells #[.int .u32 0, .slice none 0 0, .slice none 0 0, .slice none 0 0] 41 (0, 0))).drew.heap[wb.heap.size + 1]? = some (.cells #[.int .u32 0, .slice none 0 0, .slice none 0 0, .slice none 0 0] 41 (0, 0)) := by
    constructor
    · exact (Below.heap_alloc _ _ _ (by simp)).trans hz1
    · have := heap_alloc_new (wb.alloc (.cells #[.int .u32 0, .slice none 0 0, .slice none 0 0, .slice none 0 0] 41 (0, 0))) (.cells #[.int .u32 0, .slice none 0 0, .slice none 0 0, .slice none 0 0] 41 (0, 0))
      rw [World.size_alloc] at this
      exact this
  have hbA : Below wb.heap.size wb ((wb.alloc (.cells #[.int .u32 0, .slice none 0 0, .slice none 0 0, .slice none 0 0] 41 (0, 0))).alloc (.cells #[.int .u32 0, .slice none 0 0, .slice none 0 0, .slice none 0 0] 41 (0, 0))).drew := (((Own.refl wb).alloc _).alloc _).drew.below
  have hbA1 : Below wb.heap.size wb (wb.alloc (.cells #[.int .u32 0, .slice none 0 0, .slice none 0 0, .slice none 0 0] 41 (0, 0))).drew := ((Own.refl wb).alloc _).drew.below
  have hbA0 : Below wb.heap.size wb wb.drew := (Own.refl wb).drew.below
  obtain ⟨W1, s1, q1⟩ := stTold_run ((wb.alloc (.cells #[.int .u32 0, .slice none 0 0, .slice none 0 0, .slice none 0 0] 41 (0, 0))).alloc (.cells #[.int .u32 0, .slice none 0 0, .slice none 0 0, .slice none 0 0] 41 (0, 0))).drew wb.heap.size s x _ hA.1 rfl
  obtain ⟨W2, s2', q2⟩ := stTold_run W1 (wb.heap.size + 1) s2 y _ ((q1.other _ (by omega)).trans hA.2) rfl
  obtain ⟨V1, s3, q3⟩ := stTold_run ((wb.alloc (.cells #[.int .u32 0, .slice none 0 0, .slice none 0 0, .slice none 0 0] 41 (0, 0))).alloc (.cells #[.int .u32 0, .slice none 0 0, .slice none 0 0, .slice none 0 0] 41 (0, 0))).drew (wb.heap.size + 1) s x _ hA.2 rfl
  obtain ⟨V2, s4, q4⟩ := stTold_run V1 wb.heap.size s2 y _ ((q3.other _ (by omega)).trans hA.1) rfl
  have l0 := ldTold_run (wb.drew) _ s x ((hbA0.block _ (blk_lt HB1.out)).trans HB1.out)
  have m0 := ldTold_run (wb.drew) _ s2 y ((hbA0.block _ (blk_lt HB2.out)).trans HB2.out)
  have l1 := ldTold_run ((wb.alloc (.cells #[.int .u32 0, .slice none 0 0, .slice none 0 0, .slice none 0 0] 41 (0, 0))).drew) _ s x ((hbA1.block _ (blk_lt HB1.out)).trans HB1.out)
  have m1 := ldTold_run ((wb.alloc (.cells #[.int .u32 0, .slice none 0 0, .slice none 0 0, .slice none 0 0] 41 (0, 0))).drew) _ s2 y ((hbA1.block _ (blk_lt HB2.out)).trans HB2.out)
  have l2 := ldTold_run (((wb.alloc (.cells #[.int .u32 0, .slice none 0 0, .slice none 0 0, .slice none 0 0] 41 (0, 0))).alloc (.cells #[.int .u32 0, .slice none 0 0, .slice none 0 0, .slice none 0 0] 41 (0, 0))).drew) _ s x ((hbA.block _ (blk_lt HB1.out)).trans HB1.out)
  have m2 := ldTold_run (((wb.alloc (.cells #[.int .u32 0, .slice none 0 0, .slice none 0 0, .slice none 0 0] 41 (0, 0))).alloc (.cells #[.int .u32 0, .slice none 0 0, .slice none 0 0, .slice none 0 0] 41 (0, 0))).drew) _ s2 y ((hbA.block _ (blk_lt HB2.out)).trans HB2.out)
  have m3 := ldTold_run W1 _ s2 y ((q1.other _ (by have := blk_lt HB2.out; omega)).trans ((hbA.block _ (blk_lt HB2.out)).trans HB2.out))
  have m4 := ldTold_run V1 _ s2 y ((q3.other _ (by have := blk_lt HB2.out; omega)).trans ((hbA.block _ (blk_lt HB2.out)).trans HB2.out))
  have HT1 := Lib.hid (two_of hbA q1 q2 (Nat.le_refl _) (by omega) (by omega))
  have HT2 := Lib.hid (two_of hbA q3 q4 (by omega) (Nat.le_refl _) (by omega))
  obtain ⟨ax, hax⟩ : ∃ v, v = toldV s x := ⟨_, rfl⟩
  obtain ⟨ay, hay⟩ : ∃ v, v = toldV s2 y := ⟨_, rfl⟩
  rw [← hax] at l0 l1 l2 s1 s3 HT1 HT2
  rw [← hay] at m0 m1 m2 m3 m4 s2' s4 HT1 HT2
  have HAX := Lib.hid hax
  have HAY := Lib.hid hay
  clear hz1 hA hbA hbA1 hbA0 q1 q2 q3 q4 hax hay
  go_upto_region 3 with (fail)
  go_cut [8, 9] (fun u v wx => ∃ p q : Nat, u = .pointer (some ⟨p, 0, none⟩) ∧ v = .pointer (some ⟨q, 0, none⟩) ∧ Two wb wx 41 p q ax ay)
  case first =>
    as_aux_lemma =>
    go_region
    all_goals
      go_wp2_with fail
      go_meet
      first | exact ⟨_, _, rfl, rfl, HT1.out⟩ | exact ⟨_, _, rfl, rfl, HT2.out⟩
  case rest =>
  obtain ⟨p2, q2, rfl, rfl, htwo⟩ := hcut
  have HTW := Lib.hid htwo
  clear l0 l1 l2 m0 m1 m2 m3 m4 s1 s2' s3 s4 HT1 HT2 htwo
  obtain ⟨we, hwe⟩ : ∃ y, y = wc := ⟨_, rfl⟩
  subst hwe
  revert u11 u12 u13 u14 u15 u16 u17 u18 u19 u20 u21 u22 u23 u24 u25 u26 u27 u28 u29 u30 u31 u32 u33 u34 u35 u36 u37 u38 u39 u40 u41 u42 u43 u44 u45 u46 u47 u48 u49 u50 u51 u52 u53 u54 u55 u56 u57 u58 u59 u60 u61 u62 u63 u64 u65 u66 u67 u68 u69 u70 u71 u72 u73 u74 u75 u76 u77 u78 u79 u80 u81 u82 u83 u84 u85 u86 u87 u88 u89 u90 u91 u92 u93 u94 u95 u96 u97 u98 u99 u100 u101 u102 u103 u104 u105 u106 u107 u108 u109 u110 u111 u112 u113 u114 u115 u116 u117 u118 u119 u120 u121 u122 u123 u124 u125 u126 u127 u128 u129 u130 u131 u132 u133 u134 u135 u136 u137 u138 u139 u140 u141 u142 u143 u144 u145 u146 u147 u148 u149 u150 u151 u152 u153 u154 u155 u156 u157 u158 u159 u160 u161 u162 u163 u164 u165 u166 u167 u168 u169 u170 u171 u172 u173 u174 u175 u176 u177 u178 u179 u180 u181 u182 u183 u184 u185 u186 u187 u188 u189 u190 u191 u192 u193
  intro z3_11 z3_12 z3_13 z3_14 z3_15 z3_16 z3_17 z3_18 z3_19 z3_20 z3_21 z3_22 z3_23 z3_24 z3_25 z3_26 z3_27 z3_28 z3_29 z3_30 z3_31 z3_32 z3_33 z3_34 z3_35 z3_36 z3_37 z3_38 z3_39 z3_40 z3_41 z3_42 z3_43 z3_44 z3_45 z3_46 z3_47 z3_48 z3_49 z3_50 z3_51 z3_52 z3_53 z3_54 z3_55 z3_56 z3_57 z3_58 z3_59 z3_60 z3_61 z3_62 z3_63 z3_64 z3_65 z3_66 z3_67 z3_68 z3_69 z3_70 z3_71 z3_72 z3_73 z3_74 z3_75 z3_76 z3_77 z3_78 z3_79 z3_80 z3_81 z3_82 z3_83 z3_84 z3_85 z3_86 z3_87 z3_88 z3_89 z3_90 z3_91 z3_92 z3_93 z3_94 z3_95 z3_96 z3_97 z3_98 z3_99 z3_100 z3_101 z3_102 z3_103 z3_104 z3_105 z3_106 z3_107 z3_108 z3_109 z3_110 z3_111 z3_112 z3_113 z3_114 z3_115 z3_116 z3_117 z3_118 z3_119 z3_120 z3_121 z3_122 z3_123 z3_124 z3_125 z3_126 z3_127 z3_128 z3_129 z3_130 z3_131 z3_132 z3_133 z3_134 z3_135 z3_136 z3_137 z3_138 z3_139 z3_140 z3_141 z3_142 z3_143 z3_144 z3_145 z3_146 z3_147 z3_148 z3_149 z3_150 z3_151 z3_152 z3_153 z3_154 z3_155 z3_156 z3_157 z3_158 z3_159 z3_160 z3_161 z3_162 z3_163 z3_164 z3_165 z3_166 z3_167 z3_168 z3_169 z3_170 z3_171 z3_172 z3_173 z3_174 z3_175 z3_176 z3_177 z3_178 z3_179 z3_180 z3_181 z3_182 z3_183 z3_184 z3_185 z3_186 z3_187 z3_188 z3_189 z3_190 z3_191 z3_192 z3_193
  clear z2_11 z2_12 z2_13 z2_14 z2_15 z2_16 z2_17 z2_18 z2_19 z2_20 z2_21 z2_22 z2_23 z2_24 z2_25 z2_26 z2_27 z2_28 z2_29 z2_30 z2_31 z2_32 z2_33 z2_34 z2_35 z2_36 z2_37 z2_38 z2_39 z2_40 z2_41 z2_42 z2_43 z2_44 z2_45 z2_46 z2_47 z2_48 z2_49 z2_50 z2_51 z2_52 z2_53 z2_54 z2_55 z2_56 z2_57 z2_58 z2_59 z2_60 z2_61 z2_62 z2_63 z2_64 z2_65 z2_66 z2_67 z2_68 z2_69 z2_70 z2_71 z2_72 z2_73 z2_74 z2_75 z2_76 z2_77 z2_78 z2_79 z2_80 z2_81 z2_82 z2_83 z2_84 z2_85 z2_86 z2_87 z2_88 z2_89 z2_90 z2_91 z2_92 z2_93 z2_94 z2_95 z2_96 z2_97 z2_98 z2_99 z2_100 z2_101 z2_102 z2_103 z2_104 z2_105 z2_106 z2_107 z2_108 z2_109 z2_110 z2_111 z2_112 z2_113 z2_114 z2_115 z2_116 z2_117 z2_118 z2_119 z2_120 z2_121 z2_122 z2_123 z2_124 z2_125 z2_126 z2_127 z2_128 z2_129 z2_130 z2_131 z2_132 z2_133 z2_134 z2_135 z2_136 z2_137 z2_138 z2_139 z2_140 z2_141 z2_142 z2_143 z2_144 z2_145 z2_146 z2_147 z2_148 z2_149 z2_150 z2_151 z2_152 z2_153 z2_154 z2_155 z2_156 z2_157 z2_158 z2_159 z2_160 z2_161 z2_162 z2_163 z2_164 z2_165 z2_166 z2_167 z2_168 z2_169 z2_170 z2_171 z2_172 z2_173 z2_174 z2_175 z2_176 z2_177 z2_178 z2_179 z2_180 z2_181 z2_182 z2_183 z2_184 z2_185 z2_186 z2_187 z2_188 z2_189 z2_190 z2_191 z2_192 z2_193
  have HBE := Lib.hid (HBD.out.trans (HTW.out.bel.mono HBD.out.size))
  obtain ⟨R2, hR2⟩ : ∃ R, R = decide (x.told = y.told) := ⟨_, rfl⟩
  have HR2 := Lib.hid hR2
  have HRR := Lib.hid (hR2.trans (told_dec x.told y.told))
  clear hR2
  go_upto_region 4 with (fail)
  go_cut [10] (fun v wx => v = .bool R2 ∧ Below we.heap.size we wx)
  case first =>
    as_aux_lemma =>
    have HP : Hid (we.heap[p2]? = some (.cells (toldV s x) 41 (0, 0))) := Lib.hid (by rw [← HAX.out]; exact HTW.out.one)
    have HQ : Hid (we.heap[q2]? = some (.cells (toldV s2 y) 41 (0, 0))) := Lib.hid (by rw [← HAY.out]; exact HTW.out.two)
    have g0 := nat_beq x.told.shard y.told.shard
    obtain ⟨b0, hb0⟩ : ∃ b, b = decide (x.told.shard = y.told.shard) := ⟨_, rfl⟩
    rw [← hb0] at g0
    rw [← hb0] at HRR
    clear hb0
    have HE1 := Lib.hid (fun wz (hz : Below w.heap.size w wz) => equal_got s.got.1 s2.got.1 s.got.2 s2.got.2 x.told.got y.told.got wz (HA.out.got.keep hz).row (HB.out.got.keep hz).row HOK.out.got.2 HOK2.out.got.2)
    obtain ⟨b1, hb1⟩ : ∃ b, b = decide (x.told.got = y.told.got) := ⟨_, rfl⟩
    rw [← hb1] at HE1
    rw [← hb1] at HRR
    clear hb1
    have HE2 := Lib.hid (fun wz (hz : Below w.heap.size w wz) => equal_numbers s.numbers.1 s2.numbers.1 s.numbers.2 s2.numbers.2 x.told.numbers y.told.numbers wz (HA.out.numbers.keep hz).row (HB.out.numbers.keep hz).row HOK.out.numbers.2 HOK2.out.numbers.2)
    obtain ⟨b2, hb2⟩ : ∃ b, b = decide (x.told.numbers = y.told.numbers) := ⟨_, rfl⟩
    rw [← hb2] at HE2
    rw [← hb2] at HRR
    clear hb2
    have HE3 := Lib.hid (fun wz (hz : Below w.heap.size w wz) => equal_names s.names.1 s2.names.1 s.names.2 s2.names.2 x.told.names y.told.names wz (HA.out.names.keep hz).row (HB.out.names.keep hz).row HOK.out.names.2 HOK2.out.names.2)
    obtain ⟨b3, hb3⟩ : ∃ b, b = decide (x.told.names = y.told.names) := ⟨_, rfl⟩
    rw [← hb3] at HE3
    rw [← hb3] at HRR
    clear hb3
    have c0 : we.cell? ⟨p2, 0, none⟩ = some (.int .u32 x.told.shard) := by rw [cell_of_row _ _ _ _ _ _ (HP.out)]; rfl
    have d0 : we.cell? ⟨q2, 0, none⟩ = some (.int .u32 y.told.shard) := by rw [cell_of_row _ _ _ _ _ _ (HQ.out)]; rfl
    have c1 : we.cell? ⟨p2, 1, none⟩ = some (.slice s.got.1 x.told.got.length s.got.2) := by rw [cell_of_row _ _ _ _ _ _ (HP.out)]; rfl
    have d1 : we.cell? ⟨q2, 1, none⟩ = some (.slice s2.got.1 y.told.got.length s2.got.2) := by rw [cell_of_row _ _ _ _ _ _ (HQ.out)]; rfl
    go_wp2_with fail
    all_goals first
      | (have hh : ¬ b0 = true := by assumption
         have h : b0 = false := by simpa using hh
         go_meet
         exact ⟨by rw [HRR.out, h]; simp, (Below.refl we.heap.size we)⟩)
      | skip
    have h : b0 = true := by assumption
    subst h
    refine (HE1.out _ HBE.out).mono ?_
    rintro e v0 ⟨rfl, hv0⟩
    have HV0 := Lib.hid (Below.trans HBE.out (hv0.mono (HBE.out).size))
    have HC0 : Hid (Below we.heap.size we v0) := Lib.hid (Below.trans (Below.refl we.heap.size we) (hv0.mono (Below.size (Below.refl we.heap.size we))))
    clear hv0 HE1 c0 d0 c1 d1
    have c2 : v0.cell? ⟨p2, 2, none⟩ = some (.slice s.numbers.1 x.told.numbers.length s.numbers.2) := by rw [cell_of_row _ _ _ _ _ _ ((HC0.out.block _ (blk_lt HP.out)).trans HP.out)]; rfl
    have d2 : v0.cell? ⟨q2, 2, none⟩ = some (.slice s2.numbers.1 y.told.numbers.length s2.numbers.2) := by rw [cell_of_row _ _ _ _ _ _ ((HC0.out.block _ (blk_lt HQ.out)).trans HQ.out)]; rfl
    go_wp2_with fail
    all_goals first
      | (have hh : ¬ b1 = true := by assumption
         have h : b1 = false := by simpa using hh
         go_meet
         exact ⟨by rw [HRR.out, h]; simp, HC0.out⟩)
      | skip
    have h : b1 = true := by assumption
    subst h
    refine (HE2.out _ HV0.out).mono ?_
    rintro e v1 ⟨rfl, hv1⟩
    have HV1 := Lib.hid (Below.trans HV0.out (hv1.mono (HV0.out).size))
    have HC1 : Hid (Below we.heap.size we v1) := Lib.hid (Below.trans HC0.out (hv1.mono (Below.size HC0.out)))
    clear hv1 HE2 c2 d2
    have c3 : v1.cell? ⟨p2, 3, none⟩ = some (.slice s.names.1 x.told.names.length s.names.2) := by rw [cell_of_row _ _ _ _ _ _ ((HC1.out.block _ (blk_lt HP.out)).trans HP.out)]; rfl
    have d3 : v1.cell? ⟨q2, 3, none⟩ = some (.slice s2.names.1 y.told.names.length s2.names.2) := by rw [cell_of_row _ _ _ _ _ _ ((HC1.out.block _ (blk_lt HQ.out)).trans HQ.out)]; rfl
    go_wp2_with fail
    all_goals first
      | (have hh : ¬ b2 = true := by assumption
         have h : b2 = false := by simpa using hh
         go_meet
         exact ⟨by rw [HRR.out, h]; simp, HC1.out⟩)
      | skip
    have h : b2 = true := by assumption
    subst h
    refine (HE3.out _ HV1.out).mono ?_
    rintro e v2 ⟨rfl, hv2⟩
    have HV2 := Lib.hid (Below.trans HV1.out (hv2.mono (HV1.out).size))
    have HC2 : Hid (Below we.heap.size we v2) := Lib.hid (Below.trans HC1.out (hv2.mono (Below.size HC1.out)))
    clear hv2 HE3 c3 d3
    go_wp2_with fail
    go_meet
    exact ⟨by rw [HRR.out]; simp, HC2.out⟩
  case rest =>
  obtain ⟨rfl, hb2⟩ := hcut
  obtain ⟨wf, hwf⟩ : ∃ y, y = wc := ⟨_, rfl⟩
  subst hwf
  revert u11 u12 u13 u14 u15 u16 u17 u18 u19 u20 u21 u22 u23 u24 u25 u26 u27 u28 u29 u30 u31 u32 u33 u34 u35 u36 u37 u38 u39 u40 u41 u42 u43 u44 u45 u46 u47 u48 u49 u50 u51 u52 u53 u54 u55 u56 u57 u58 u59 u60 u61 u62 u63 u64 u65 u66 u67 u68 u69 u70 u71 u72 u73 u74 u75 u76 u77 u78 u79 u80 u81 u82 u83 u84 u85 u86 u87 u88 u89 u90 u91 u92 u93 u94 u95 u96 u97 u98 u99 u100 u101 u102 u103 u104 u105 u106 u107 u108 u109 u110 u111 u112 u113 u114 u115 u116 u117 u118 u119 u120 u121 u122 u123 u124 u125 u126 u127 u128 u129 u130 u131 u132 u133 u134 u135 u136 u137 u138 u139 u140 u141 u142 u143 u144 u145 u146 u147 u148 u149 u150 u151 u152 u153 u154 u155 u156 u157 u158 u159 u160 u161 u162 u163 u164 u165 u166 u167 u168 u169 u170 u171 u172 u173 u174 u175 u176 u177 u178 u179 u180 u181 u182 u183 u184 u185 u186 u187 u188 u189 u190 u191 u192 u193
  intro z4_11 z4_12 z4_13 z4_14 z4_15 z4_16 z4_17 z4_18 z4_19 z4_20 z4_21 z4_22 z4_23 z4_24 z4_25 z4_26 z4_27 z4_28 z4_29 z4_30 z4_31 z4_32 z4_33 z4_34 z4_35 z4_36 z4_37 z4_38 z4_39 z4_40 z4_41 z4_42 z4_43 z4_44 z4_45 z4_46 z4_47 z4_48 z4_49 z4_50 z4_51 z4_52 z4_53 z4_54 z4_55 z4_56 z4_57 z4_58 z4_59 z4_60 z4_61 z4_62 z4_63 z4_64 z4_65 z4_66 z4_67 z4_68 z4_69 z4_70 z4_71 z4_72 z4_73 z4_74 z4_75 z4_76 z4_77 z4_78 z4_79 z4_80 z4_81 z4_82 z4_83 z4_84 z4_85 z4_86 z4_87 z4_88 z4_89 z4_90 z4_91 z4_92 z4_93 z4_94 z4_95 z4_96 z4_97 z4_98 z4_99 z4_100 z4_101 z4_102 z4_103 z4_104 z4_105 z4_106 z4_107 z4_108 z4_109 z4_110 z4_111 z4_112 z4_113 z4_114 z4_115 z4_116 z4_117 z4_118 z4_119 z4_120 z4_121 z4_122 z4_123 z4_124 z4_125 z4_126 z4_127 z4_128 z4_129 z4_130 z4_131 z4_132 z4_133 z4_134 z4_135 z4_136 z4_137 z4_138 z4_139 z4_140 z4_141 z4_142 z4_143 z4_144 z4_145 z4_146 z4_147 z4_148 z4_149 z4_150 z4_151 z4_152 z4_153 z4_154 z4_155 z4_156 z4_157 z4_158 z4_159 z4_160 z4_161 z4_162 z4_163 z4_164 z4_165 z4_166 z4_167 z4_168 z4_169 z4_170 z4_171 z4_172 z4_173 z4_174 z4_175 z4_176 z4_177 z4_178 z4_179 z4_180 z4_181 z4_182 z4_183 z4_184 z4_185 z4_186 z4_187 z4_188 z4_189 z4_190 z4_191 z4_192 z4_193
  clear z3_11 z3_12 z3_13 z3_14 z3_15 z3_16 z3_17 z3_18 z3_19 z3_20 z3_21 z3_22 z3_23 z3_24 z3_25 z3_26 z3_27 z3_28 z3_29 z3_30 z3_31 z3_32 z3_33 z3_34 z3_35 z3_36 z3_37 z3_38 z3_39 z3_40 z3_41 z3_42 z3_43 z3_44 z3_45 z3_46 z3_47 z3_48 z3_49 z3_50 z3_51 z3_52 z3_53 z3_54 z3_55 z3_56 z3_57 z3_58 z3_59 z3_60 z3_61 z3_62 z3_63 z3_64 z3_65 z3_66 z3_67 z3_68 z3_69 z3_70 z3_71 z3_72 z3_73 z3_74 z3_75 z3_76 z3_77 z3_78 z3_79 z3_80 z3_81 z3_82 z3_83 z3_84 z3_85 z3_86 z3_87 z3_88 z3_89 z3_90 z3_91 z3_92 z3_93 z3_94 z3_95 z3_96 z3_97 z3_98 z3_99 z3_100 z3_101 z3_102 z3_103 z3_104 z3_105 z3_106 z3_107 z3_108 z3_109 z3_110 z3_111 z3_112 z3_113 z3_114 z3_115 z3_116 z3_117 z3_118 z3_119 z3_120 z3_121 z3_122 z3_123 z3_124 z3_125 z3_126 z3_127 z3_128 z3_129 z3_130 z3_131 z3_132 z3_133 z3_134 z3_135 z3_136 z3_137 z3_138 z3_139 z3_140 z3_141 z3_142 z3_143 z3_144 z3_145 z3_146 z3_147 z3_148 z3_149 z3_150 z3_151 z3_152 z3_153 z3_154 z3_155 z3_156 z3_157 z3_158 z3_159 z3_160 z3_161 z3_162 z3_163 z3_164 z3_165 z3_166 z3_167 z3_168 z3_169 z3_170 z3_171 z3_172 z3_173 z3_174 z3_175 z3_176 z3_177 z3_178 z3_179 z3_180 z3_181 z3_182 z3_183 z3_184 z3_185 z3_186 z3_187 z3_188 z3_189 z3_190 z3_191 z3_192 z3_193
  have HBF := Lib.hid (HBE.out.trans (hb2.mono HBE.out.size))
  have HBB2 := Lib.hid (HTW.out.bel.trans (hb2.mono HTW.out.bel.size))
  have HP := Lib.hid ((HBB2.out.block _ (blk_lt HM1.out)).trans HM1.out)
  have HQ := Lib.hid ((HBB2.out.block _ (blk_lt HM2.out)).trans HM2.out)
  have hrr := HR3.out.trans (msg_dec x y)
  rw [← HR1.out, ← HR2.out] at hrr
  have HRR0 := Lib.hid hrr
  clear hrr hb2 HTW HAX HAY HRR HB1 HB2 HM1 HM2 HR1 HR2 HR3
  have HRR := HRR0
  clear HRR0
  as_aux_lemma =>
  have g2 := nat_beq x.kind y.kind
  obtain ⟨b2, hb2⟩ : ∃ b, b = decide (x.kind = y.kind) := ⟨_, rfl⟩
  rw [← hb2] at g2
  rw [← hb2] at HRR
  clear hb2
  obtain ⟨b3, hb3⟩ : ∃ b, b = decide (x.tx = y.tx) := ⟨_, rfl⟩
  have g3 := hb3.symm
  rw [← hb3] at HRR
  clear hb3
  obtain ⟨b4, hb4⟩ : ∃ b, b = decide (x.low = y.low) := ⟨_, rfl⟩
  have g4 := hb4.symm
  rw [← hb4] at HRR
  clear hb4
  have g5 := nat_beq x.map y.map
  obtain ⟨b5, hb5⟩ : ∃ b, b = decide (x.map = y.map) := ⟨_, rfl⟩
  rw [← hb5] at g5
  rw [← hb5] at HRR
  clear hb5
  have HE6 := Lib.hid (fun wz (hz : Below w.heap.size w wz) => equal_parts s.parts.1 s2.parts.1 s.parts.2 s2.parts.2 x.parts y.parts wz (HA.out.parts.keep hz).row (HB.out.parts.keep hz).row HOK.out.parts.2 HOK2.out.parts.2)
  obtain ⟨b6, hb6⟩ : ∃ b, b = decide (x.parts = y.parts) := ⟨_, rfl⟩
  rw [← hb6] at HE6
  rw [← hb6] at HRR
  clear hb6
  have HE7 := Lib.hid (fun wz (hz : Below w.heap.size w wz) => eq_rows HA.out HB.out HOK.out HOK2.out hz)
  obtain ⟨b7, hb7⟩ : ∃ b, b = decide (x.rows = y.rows) := ⟨_, rfl⟩
  rw [← hb7] at HE7
  rw [← hb7] at HRR
  clear hb7
  have g8 := nat_beq x.next y.next
  obtain ⟨b8, hb8⟩ : ∃ b, b = decide (x.next = y.next) := ⟨_, rfl⟩
  rw [← hb8] at g8
  rw [← hb8] at HRR
  clear hb8
  have HE9 := Lib.hid (fun wz (hz : Below w.heap.size w wz) => equal_own s.own.1 s2.own.1 s.own.2 s2.own.2 x.own y.own wz (HA.out.own.keep hz).row (HB.out.own.keep hz).row HOK.out.own.2 HOK2.out.own.2)
  obtain ⟨b9, hb9⟩ : ∃ b, b = decide (x.own = y.own) := ⟨_, rfl⟩
  rw [← hb9] at HE9
  rw [← hb9] at HRR
  clear hb9
  have g10 := bool_beq x.commit y.commit
  obtain ⟨b10, hb10⟩ : ∃ b, b = decide (x.commit = y.commit) := ⟨_, rfl⟩
  rw [← hb10] at g10
  rw [← hb10] at HRR
  clear hb10
  have g11 := int_beq x.err y.err
  obtain ⟨b11, hb11⟩ : ∃ b, b = decide (x.err = y.err) := ⟨_, rfl⟩
  rw [← hb11] at g11
  rw [← hb11] at HRR
  clear hb11
  have g12 := nat_beq x.state y.state
  obtain ⟨b12, hb12⟩ : ∃ b, b = decide (x.state = y.state) := ⟨_, rfl⟩
  rw [← hb12] at g12
  rw [← hb12] at HRR
  clear hb12
  have c0 : wf.cell? ⟨w.heap.size, 0, none⟩ = some (.int .u8 x.kind) := by rw [cell_of_row _ _ _ _ _ _ (HP.out)]; rfl
  have d0 : wf.cell? ⟨(w.heap.size + 1), 0, none⟩ = some (.int .u8 y.kind) := by rw [cell_of_row _ _ _ _ _ _ (HQ.out)]; rfl
  have c1 : wf.cell? ⟨w.heap.size, 1, none⟩ = some (.int .u64 x.tx.life) := by rw [cell_of_row _ _ _ _ _ _ (HP.out)]; rfl
  have c2 : wf.cell? ⟨w.heap.size, 2, none⟩ = some (.int .u64 x.tx.n) := by rw [cell_of_row _ _ _ _ _ _ (HP.out)]; rfl
  have d1 : wf.cell? ⟨(w.heap.size + 1), 1, none⟩ = some (.int .u64 y.tx.life) := by rw [cell_of_row _ _ _ _ _ _ (HQ.out)]; rfl
  have d2 : wf.cell? ⟨(w.heap.size + 1), 2, none⟩ = some (.int .u64 y.tx.n) := by rw [cell_of_row _ _ _ _ _ _ (HQ.out)]; rfl
  have c3 : wf.cell? ⟨w.heap.size, 3, none⟩ = some (.int .u64 x.low.life) := by rw [cell_of_row _ _ _ _ _ _ (HP.out)]; rfl
  have c4 : wf.cell? ⟨w.heap.size, 4, none⟩ = some (.int .u64 x.low.n) := by rw [cell_of_row _ _ _ _ _ _ (HP.out)]; rfl
  have d3 : wf.cell? ⟨(w.heap.size + 1), 3, none⟩ = some (.int .u64 y.low.life) := by rw [cell_of_row _ _ _ _ _ _ (HQ.out)]; rfl
  have d4 : wf.cell? ⟨(w.heap.size + 1), 4, none⟩ = some (.int .u64 y.low.n) := by rw [cell_of_row _ _ _ _ _ _ (HQ.out)]; rfl
  have c5 : wf.cell? ⟨w.heap.size, 5, none⟩ = some (.int .u64 x.map) := by rw [cell_of_row _ _ _ _ _ _ (HP.out)]; rfl
  have d5 : wf.cell? ⟨(w.heap.size + 1), 5, none⟩ = some (.int .u64 y.map) := by rw [cell_of_row _ _ _ _ _ _ (HQ.out)]; rfl
  have c6 : wf.cell? ⟨w.heap.size, 6, none⟩ = some (.slice s.parts.1 x.parts.length s.parts.2) := by rw [cell_of_row _ _ _ _ _ _ (HP.out)]; rfl
  have d6 : wf.cell? ⟨(w.heap.size + 1), 6, none⟩ = some (.slice s2.parts.1 y.parts.length s2.parts.2) := by rw [cell_of_row _ _ _ _ _ _ (HQ.out)]; rfl
  repeat' (first
    | (rename_i hh
       have hf := Bool.eq_false_iff.mpr hh
       subst hf
       refine wpList_deadAll 194 4 _ _ (by kernel_rfl) ?_
       intro a2 h2)
    | go_values | go_skip | go_guarded | go_step | go_upon | go_back)
  all_goals try exact bodyPost_ret (v := .bool false) (results_one rfl _ _ _ h2.here) h2.none ⟨by rw [HRR.out]; simp, HBF.out⟩
  have h : R1 = true := by assumption
  subst h
  have h : R2 = true := by assumption
  subst h
  have h : b2 = true := by assumption
  subst h
  have h : b3 = true := by assumption
  subst h
  have h : b4 = true := by assumption
  subst h
  have h : b5 = true := by assumption
  subst h
  refine (HE6.out _ HBF.out).mono ?_
  rintro e v0 ⟨rfl, hv0⟩
  have HV0 := Lib.hid (Below.trans HBF.out (hv0.mono (HBF.out).size))
  have HC0 : Hid (Below wf.heap.size wf v0) := Lib.hid (Below.trans (Below.refl wf.heap.size wf) (hv0.mono (Below.size (Below.refl wf.heap.size wf))))
  clear hv0 HE6 c0 d0 c1 c2 d1 d2 c3 c4 d3 d4 c5 d5 c6 d6
  have c18 : v0.cell? ⟨w.heap.size, 18, none⟩ = some (.slice s.rows.1 x.rows.length s.rows.2) := by rw [cell_of_row _ _ _ _ _ _ ((HC0.out.block _ (blk_lt HP.out)).trans HP.out)]; rfl
  have d18 : v0.cell? ⟨(w.heap.size + 1), 18, none⟩ = some (.slice s2.rows.1 y.rows.length s2.rows.2) := by rw [cell_of_row _ _ _ _ _ _ ((HC0.out.block _ (blk_lt HQ.out)).trans HQ.out)]; rfl
  dsimp only
  repeat' (first
    | (rename_i hh
       have hf := Bool.eq_false_iff.mpr hh
       subst hf
       refine wpList_deadAll 194 4 _ _ (by kernel_rfl) ?_
       intro a2 h2)
    | go_values | go_skip | go_guarded | go_step | go_upon | go_back)
  all_goals try exact bodyPost_ret (v := .bool false) (results_one rfl _ _ _ h2.here) h2.none ⟨by rw [HRR.out]; simp, HV0.out⟩
  have h : b6 = true := by assumption
  subst h
  refine (HE7.out _ HV0.out).mono ?_
  rintro e v1 ⟨rfl, hv1⟩
  have HV1 := Lib.hid (Below.trans HV0.out (hv1.mono (HV0.out).size))
  have HC1 : Hid (Below wf.heap.size wf v1) := Lib.hid (Below.trans HC0.out (hv1.mono (Below.size HC0.out)))
  clear hv1 HE7 c18 d18
  have c19 : v1.cell? ⟨w.heap.size, 19, none⟩ = some (.int .u64 x.next) := by rw [cell_of_row _ _ _ _ _ _ ((HC1.out.block _ (blk_lt HP.out)).trans HP.out)]; rfl
  have d19 : v1.cell? ⟨(w.heap.size + 1), 19, none⟩ = some (.int .u64 y.next) := by rw [cell_of_row _ _ _ _ _ _ ((HC1.out.block _ (blk_lt HQ.out)).trans HQ.out)]; rfl
  have c20 : v1.cell? ⟨w.heap.size, 20, none⟩ = some (.slice s.own.1 x.own.length s.own.2) := by rw [cell_of_row _ _ _ _ _ _ ((HC1.out.block _ (blk_lt HP.out)).trans HP.out)]; rfl
  have d20 : v1.cell? ⟨(w.heap.size + 1), 20, none⟩ = some (.slice s2.own.1 y.own.length s2.own.2) := by rw [cell_of_row _ _ _ _ _ _ ((HC1.out.block _ (blk_lt HQ.out)).trans HQ.out)]; rfl
  dsimp only
  repeat' (first
    | (rename_i hh
       have hf := Bool.eq_false_iff.mpr hh
       subst hf
       refine wpList_deadAll 194 4 _ _ (by kernel_rfl) ?_
       intro a2 h2)
    | go_values | go_skip | go_guarded | go_step | go_upon | go_back)
  all_goals try exact bodyPost_ret (v := .bool false) (results_one rfl _ _ _ h2.here) h2.none ⟨by rw [HRR.out]; simp, HV1.out⟩
  have h : b7 = true := by assumption
  subst h
  have h : b8 = true := by assumption
  subst h
  refine (HE9.out _ HV1.out).mono ?_
  rintro e v2 ⟨rfl, hv2⟩
  have HV2 := Lib.hid (Below.trans HV1.out (hv2.mono (HV1.out).size))
  have HC2 : Hid (Below wf.heap.size wf v2) := Lib.hid (Below.trans HC1.out (hv2.mono (Below.size HC1.out)))
  clear hv2 HE9 c19 d19 c20 d20
  have c21 : v2.cell? ⟨w.heap.size, 21, none⟩ = some (.bool x.commit) := by rw [cell_of_row _ _ _ _ _ _ ((HC2.out.block _ (blk_lt HP.out)).trans HP.out)]; rfl
  have d21 : v2.cell? ⟨(w.heap.size + 1), 21, none⟩ = some (.bool y.commit) := by rw [cell_of_row _ _ _ _ _ _ ((HC2.out.block _ (blk_lt HQ.out)).trans HQ.out)]; rfl
  have c22 : v2.cell? ⟨w.heap.size, 22, none⟩ = some (.int .i64 x.err) := by rw [cell_of_row _ _ _ _ _ _ ((HC2.out.block _ (blk_lt HP.out)).trans HP.out)]; rfl
  have d22 : v2.cell? ⟨(w.heap.size + 1), 22, none⟩ = some (.int .i64 y.err) := by rw [cell_of_row _ _ _ _ _ _ ((HC2.out.block _ (blk_lt HQ.out)).trans HQ.out)]; rfl
  have c27 : v2.cell? ⟨w.heap.size, 27, none⟩ = some (.int .u8 x.state) := by rw [cell_of_row _ _ _ _ _ _ ((HC2.out.block _ (blk_lt HP.out)).trans HP.out)]; rfl
  have d27 : v2.cell? ⟨(w.heap.size + 1), 27, none⟩ = some (.int .u8 y.state) := by rw [cell_of_row _ _ _ _ _ _ ((HC2.out.block _ (blk_lt HQ.out)).trans HQ.out)]; rfl
  dsimp only
  repeat' (first
    | (rename_i hh
       have hf := Bool.eq_false_iff.mpr hh
       subst hf
       refine wpList_deadAll 194 4 _ _ (by kernel_rfl) ?_
       intro a2 h2)
    | go_values | go_skip | go_guarded | go_step | go_upon | go_back)
  all_goals try exact bodyPost_ret (v := .bool false) (results_one rfl _ _ _ h2.here) h2.none ⟨by rw [HRR.out]; simp, HV2.out⟩
  have h : b9 = true := by assumption
  subst h
  have h : b10 = true := by assumption
  subst h
  have h : b11 = true := by assumption
  subst h
  exact bodyPost_ret (v := .bool b12) (by simp [results, Tryz.results13, go_sem]) rfl ⟨by rw [HRR.out]; simp, HV2.out⟩

end Go.Proofs.YtjgnomjjphkfbaaGreat
