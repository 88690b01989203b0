/-
  LAWS FOR 'm[k] op= x' AND FOR A STORE BEHIND IT, over a map that the call itself has made. No program is in sight here.
-/
import Derived.Test.YtmlilfdaacchjaaNetPlay0
import Derived.Maps.Own
import Derived.Maps.OwnOps
import Derived.Maps.Views
import Derived.Maps.RangeWalk
import Derived.WideKeyEntry
import Derived.DeepKeys4
namespace Go.Proofs.Ytmlilfdaacchjaa
open Go.RowKit Go.Maps Go.WideMaps Go.WideElems Go.ChangeMaps Go.MapKept

section
variable {H : Type} {P : Program} {k : TypeId} {R : Value → Option (DataW H × List MemPlace)}
/-- The entry of a key stands ready under a stamp: a store there makes of the map what an update would. -/
def Pend (P : Program) (t k : TypeId) (R : Value → Option (DataW H × List MemPlace)) (b n : Nat) (D : DataW H) (kl : Lit) (st : Nat) (w1 : World) : Prop :=
  ∀ (w2 : World) (val : Value) (d : DataW H) (ps : List MemPlace), w2.heap[b]? = w1.heap[b]? → R val = some (d, ps) →
    ∃ w3, (Instr.entryStore t (.map (some b)) (goInt st) val).run P w2 = .ok () w3 ∧ w3.ownsMap P k R b (n + 1) (D.put kl d) ∧ w2.grownBy w3 (some b)
theorem Pend.keep {t : TypeId} {b n : Nat} {D : DataW H} {kl : Lit} {st : Nat} {w1 w2 : World} (h : Pend P t k R b n D kl st w1) (hb : w2.heap[b]? = w1.heap[b]?) : Pend P t k R b n D kl st w2 :=
  fun w3 val d ps h3 hv => h w3 val d ps (h3.trans hb) hv

theorem World.ownsMap.entry {t e : TypeId} {w : World} {b n : Nat} {D : DataW H} (h : w.ownsMap P k R b n D) (KL : KeyLaw P k) (ht : P.underlying t = some (.map k e)) (hn : n < maxLen) {z : Value} (hz : ∀ u : World, (zeroValue e).run P u = .ok z u)
    {zd : DataW H} {zp : List MemPlace} (hzd : R z = some (zd, zp)) {key : Value} {kl : Lit} (hkey : keyOf P k key = some kl) :
    ∃ (v0 : Value) (st : Nat) (w1 : World), (Instr.mapEntry t (.map (some b)) key).run P w = .ok (.tuple #[v0, goInt st]) w1 ∧ w.grownBy w1 (some b) ∧ Pend P t k R b n D kl st w1 ∧
      ∃ D1, w1.ownsMap P k R b (n + 1) D1 ∧ ∀ kl', D1.atKey kl' zd = D.atKey kl' zd := by
  have hO := h
  obtain ⟨es, clock, hb, F, hs, hD⟩ := h
  have K : Keyed P k := Keyed.of_law KL
  obtain ⟨v0, st, es1, clock1, hrun, _, hst⟩ := entry_then_store (H := H) (R := R) KL ht hz hb F hkey
  refine ⟨v0, st, _, hrun, ⟨rfl, rfl, rfl, by simp [Go.ChangeMaps.setBlock], fun i _ hi => heap_setBlock_other hb _ (fun e => hi (by rw [e]))⟩, ?_, ?_⟩
  · intro w2 val d ps h2 hv
    have h2' : w2.heap[b]? = some (.map es1 clock1) := h2.trans (heap_setBlock_same hb _)
    obtain ⟨es', clock', hs1, hs2⟩ := hst w2 val h2'
    obtain ⟨w', hu, ho, hg⟩ := World.ownsMap.update (H := H) ⟨es, clock, hb, F, hs, hD⟩ K ht hn hkey hv
    rw [hs2] at hu
    cases hu
    obtain ⟨es2, clock2, hb2, F2, hs2', hD2⟩ := ho
    have e1 := hb2.symm.trans (heap_setBlock_same hb _)
    exact ⟨_, hs1, ⟨es2, clock2, (heap_setBlock_same h2' _).trans e1.symm, F2, hs2', hD2⟩, ⟨rfl, rfl, rfl, by simp [Go.ChangeMaps.setBlock], fun i _ hi => heap_setBlock_other h2' _ (fun e => hi (by rw [e]))⟩⟩
  · rcases KL.find w hkey es.toList F.keys with ⟨h1, h2⟩ | ⟨j, e0, h1, h2, h3⟩
    · have hm : (Instr.mapEntry t (.map (some b)) key).run P w = .ok (.tuple #[z, goInt clock]) (Go.ChangeMaps.setBlock w b (.map (es.push ⟨key, z, clock⟩) (clock + 1))) := by
        simp [Instr.mapEntry, run_underlying ht, MapKept.run_getObj_map hb, KL.check w false hkey, h1, hz, MapKept.run_setObj_map _ hb, Result.andThen, Go.ChangeMaps.setBlock]
      have hup : (Instr.mapUpdate t (.map (some b)) key z).run P w = .ok () (Go.ChangeMaps.setBlock w b (.map (es.push ⟨key, z, clock⟩) (clock + 1))) := by
        simp [Instr.mapUpdate, run_underlying ht, MapKept.run_getObj_map hb, KL.check w false hkey, h1, MapKept.run_setObj_map _ hb, Result.andThen, Go.ChangeMaps.setBlock]
      rw [hm] at hrun
      injection hrun with hr1 hr2
      obtain ⟨w', hu, ho, _⟩ := World.ownsMap.update hO K ht hn hkey hzd
      rw [hup] at hu
      cases hu
      refine ⟨_, by rw [← hr2]; exact ho, fun kl' => ?_⟩
      by_cases hk' : kl' = kl
      · subst hk'
        rw [atKey_put_same ⟨_, hD⟩ (K.key hkey)]
        rcases Maps.fit_look false K ht (hz w) hb F hkey with ⟨_, _, hat⟩ | ⟨e1, y, hm1, hk1, _⟩
        · rw [hD, hat zd]
        · exact absurd hk1 (h2 e1 hm1)
      · rw [atKey_put_other hk']
    · have hj : es[j]? = some e0 := by simpa using h2
      have hsame : es.modify j (fun e => { e with key := key }) = es := by
        apply Array.ext'
        rw [Array.toList_modify, Go.ChangeMaps.modify_eq_set _ _ _ _ h2]
        have : ({ e0 with key := key } : MapEntry) = e0 := by rw [← h3]
        rw [this]
        exact set_self _ _ _ h2
      have hm : (Instr.mapEntry t (.map (some b)) key).run P w = .ok (.tuple #[e0.val, goInt e0.born]) (Go.ChangeMaps.setBlock w b (.map es clock)) := by
        simp [Instr.mapEntry, run_underlying ht, MapKept.run_getObj_map hb, KL.check w false hkey, h1, hj, h3, KL.stays w hkey, hsame, MapKept.run_setObj_map _ hb, Result.andThen, Go.ChangeMaps.setBlock]
      rw [hm] at hrun
      injection hrun with hr1 hr2
      exact ⟨D, by rw [← hr2]; exact ⟨es, clock, heap_setBlock_same hb _, F, Nat.le_succ_of_le hs, hD⟩, fun _ => rfl⟩

theorem wpList_mapEntry_own (w : World) {ops : Array Oper} {rest : List Oper} {o : Oper} {a : Act} {Q : Exit → Act → World → Prop} (hg : o.guard = none) (m x : Operand) (t : TypeId) (hop : o.op = Op.mapEntry t m x)
    (e : TypeId) (KL : KeyLaw P k) (ht : P.underlying t = some (.map k e)) (R : Value → Option (DataW H × List MemPlace)) (b n : Nat) (D : DataW H) (z : Value) (hz : ∀ u : World, (zeroValue e).run P u = .ok z u)
    (zd : DataW H) (zp : List MemPlace) (hzd : R z = some (zd, zp)) (hm : a.eval m = .map (some b)) (hown : w.ownsMap P k R b n D) (hn : n < maxLen) (key : Value) (kl : Lit) (hx : a.eval x = key) (hkey : keyOf P k key = some kl)
    (hK : ∀ (v0 : Value) (st : Nat) (w' : World) (D1 : DataW H), w.grownBy w' (some b) → Pend P t k R b n D kl st w' → w'.ownsMap P k R b (n + 1) D1 → (∀ kl', D1.atKey kl' zd = D.atKey kl' zd) → wpList P ops Q rest (a.put o.dst (.tuple #[v0, goInt st])) w') :
    wpList P ops Q (o :: rest) a w := by
  refine wpList_plain hg fun K' hK' => ?_
  obtain ⟨v0, st, w1, hrun, r1, r2, D1, r3, r4⟩ := World.ownsMap.entry hown KL ht hn hz hzd hkey
  unfold Oper.wp
  simp [execOp, hop, hm, hx, hrun, Result.andThen]
  exact hK' _ _ (hK v0 st w1 D1 r1 r2 r3 r4)

theorem wpList_entryStore_own (w : World) {ops : Array Oper} {rest : List Oper} {o : Oper} {a : Act} {Q : Exit → Act → World → Prop} (hg : o.guard = none) (m s v : Operand) (t : TypeId) (hop : o.op = Op.entryStore t m s v)
    (R : Value → Option (DataW H × List MemPlace)) (b n st : Nat) (D : DataW H) (kl : Lit) (hm : a.eval m = .map (some b)) (hs : a.eval s = goInt st) (hp : Pend P t k R b n D kl st w) (val : Value) (hv : a.eval v = val)
    (d : DataW H) (ps : List MemPlace) (hval : R val = some (d, ps))
    (hK : ∀ w', w'.ownsMap P k R b (n + 1) (D.put kl d) → w.grownBy w' (some b) → wpList P ops Q rest (a.put o.dst undef) w') :
    wpList P ops Q (o :: rest) a w := by
  refine wpList_plain hg fun K' hK' => ?_
  obtain ⟨w1, hrun, r1, r2⟩ := hp w val d ps rfl hval
  unfold Oper.wp
  simp [execOp, hop, hm, hs, hv, hrun, Result.andThen]
  exact hK' _ _ (hK w1 r1 r2)
end

end Go.Proofs.Ytmlilfdaacchjaa
