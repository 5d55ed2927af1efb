/- Maps from numbers to truth values. -/
import Derived.Test.YtoplcndiejpipaaFk
import Derived.Maps.RangeWalk
import Derived.Maps.Ext
namespace Go.Proofs.Ytoplcndiejpipaa
open Go.RowKit Go.Maps
open Go.ChangeMaps Go.MapKept Go.WideShapes
open Go.WideElems (Fit rd rg pl rd_key rd_val rg_of other_key)
set_option linter.unusedVariables false
set_option linter.unusedSimpArgs false

/-- A block's value as it stands, as a datum. -/
def RB (v : Value) : Option (DataW Value × List MemPlace) := some (.held v, [])
theorem law3 : Keyed Try.prog 3 := int_keyed Try.underlying3
theorem zero4 (w : World) : (zeroValue 4).run Try.prog w = .ok (.bool false) w := by kernel_rfl
theorem RB_inv {v : Value} {d : DataW Value} {ps : List MemPlace} (h : RB v = some (d, ps)) : d = .held v := by
  unfold RB at h
  injection h with h
  injection h with h _
  exact h.symm
def upd {α : Type} (g : Int → Option α) (k : Int) (v : Option α) : Int → Option α := fun j => if j = k then v else g j
@[simp] theorem upd_same {α : Type} (g : Int → Option α) (k : Int) (v : Option α) : upd g k v k = v := by simp [upd]
theorem upd_other {α : Type} (g : Int → Option α) {k j : Int} (v : Option α) (h : j ≠ k) : upd g k v j = g j := by simp [upd, h]

def valD (z : DataW Value) : Option Value → DataW Value
  | none => z
  | some v => .held v

/-- The datum D holds, at each key, what g says. -/
def Says (D : DataW Value) (g : Int → Option Value) : Prop := ∀ k z, D.atKey (.int .i64 k) z = valD z (g k)
theorem Says.none {D : DataW Value} {g : Int → Option Value} (h : Says D g) {k : Int} (e : g k = .none) : Maps.has D (.int .i64 k) = false :=
  Maps.has_false_of_atKey (fun z => by rw [h, e]; rfl)
theorem Says.some {D : DataW Value} {g : Int → Option Value} (h : Says D g) {k : Int} {v : Value} (e : g k = .some v) : Maps.has D (.int .i64 k) = true :=
  Maps.has_true_of_atKey (y := .held v) (fun z => by rw [h, e]; rfl)
theorem Says.has {D : DataW Value} {g : Int → Option Value} (h : Says D g) (k : Int) : Maps.has D (.int .i64 k) = (g k).isSome := by
  cases e : g k with
  | none => rw [h.none e]; rfl
  | some v => rw [h.some e]; rfl
theorem Says.put {D : DataW Value} {g : Int → Option Value} (h : Says D g) (hm : Maps.IsMap D) (k : Int) (hk : (Lit.int .i64 k).wf = true) (v : Value) : Says (D.put (.int .i64 k) (.held v)) (upd g k (.some v)) := by
  intro j z
  by_cases e : j = k
  · subst e
    rw [Maps.atKey_put_same hm (law3.key (Maps.keyOf_int_mk Try.underlying3 hk)), upd_same]; rfl
  · rw [Maps.atKey_put_other (by simpa using e), upd_other _ _ e, h]
theorem Says.del {D : DataW Value} {g : Int → Option Value} (h : Says D g) (k : Int) : Says (D.del (.int .i64 k)) (upd g k .none) := by
  intro j z
  by_cases e : j = k
  · subst e
    rw [Maps.atKey_del_same, upd_same]; rfl
  · rw [Maps.atKey_del_other (by simpa using e), upd_other _ _ e, h]

/-- Block b is a map that holds what g says, of at most N entries. -/
def MpV (w : World) (b N : Nat) (g : Int → Option Value) : Prop := ∃ D n, n ≤ N ∧ w.ownsMap Try.prog 3 RB b n D ∧ Says D g
theorem MpV.lt {w : World} {b N : Nat} {g : Int → Option Value} (h : MpV w b N g) : b < w.heap.size := by
  obtain ⟨D, n, _, ho, _⟩ := h
  exact ho.lt
theorem MpV.frm {S : Nat → Prop} {w w' : World} {b N : Nat} {g : Int → Option Value} (h : MpV w b N g) (k : Frm S w w') (hn : ¬ S b) : MpV w' b N g := by
  obtain ⟨D, n, h1, ho, h2⟩ := h
  have hl := ho.lt
  obtain ⟨es, clock, hb, F, hs, hD⟩ := ho
  exact ⟨D, n, h1, ⟨es, clock, (k.block b hl hn).trans hb, F, hs, hD⟩, h2⟩
theorem MpV.mono {w : World} {b N N' : Nat} {g : Int → Option Value} (h : MpV w b N g) (hN : N ≤ N') : MpV w b N' g := by
  obtain ⟨D, n, h1, h2⟩ := h
  exact ⟨D, n, Nat.le_trans h1 hN, h2⟩
theorem MpV.made (w : World) : MpV (w.alloc (.map #[] 0)) w.heap.size 0 (fun _ => none) :=
  ⟨_, 0, Nat.le_refl _, World.ownsMap_made w Try.prog 3 RB, fun _ _ => rfl⟩

theorem Frm.of_turned {w w' : World} {b : Nat} (h : w.mapTurned w' b) : Frm (· = b) w w' := by
  obtain ⟨es, c, es', c', hb, rfl⟩ := h
  exact ⟨rfl, rfl, rfl, by simp [setBlock], fun k _ hn => heap_setBlock_other hb _ hn⟩

theorem MpV.alloc {w : World} {b N : Nat} {g : Int → Option Value} (h : MpV w b N g) (o : Obj) : MpV (w.alloc o) b N g := h.frm ((Frm.refl (fun _ => False) _).alloc _) (fun h => h)
theorem MpV.below {w w' : World} {b N : Nat} {g : Int → Option Value} (h : MpV w b N g) (k : Below w.heap.size w w') : MpV w' b N g := h.frm (Frm.of_below (S := fun _ => False) k) (fun h => h)
def trueAt (P : Int → Prop) [DecidablePred P] : Int → Option Value := fun k => if P k then some (.bool true) else none
set_option maxRecDepth 100000 in
theorem MpV.lookb {w : World} {b N : Nat} {P : Int → Prop} [DecidablePred P] (h : MpV w b N (trueAt P)) (k : Int) (hk : (Lit.int .i64 k).wf = true) (q : Bool) (hq : decide (P k) = q) :
    (Instr.lookup 43 (.map (some b)) (.int .i64 k) false).run Try.prog w = .ok (.bool q) w := by
  obtain ⟨D, n, _, ho, hs⟩ := h
  obtain ⟨v', ps, hrun, hv'⟩ := ho.lookup law3 Try.underlying43 (zero4 w) (zd := .held (.bool false)) (zp := []) rfl (Maps.keyOf_int_mk Try.underlying3 hk)
  have e := RB_inv hv'
  rw [hs] at e
  obtain rfl : v' = .bool q := by
    by_cases h0 : P k
    · rw [show trueAt P k = some (.bool true) from by simp [trueAt, h0]] at e
      have e2 : (DataW.held (.bool true) : DataW Value) = .held v' := e
      injection e2 with e2
      rw [← e2, ← hq]; simp [h0]
    · rw [show trueAt P k = none from by simp [trueAt, h0]] at e
      have e2 : (DataW.held (.bool false) : DataW Value) = .held v' := e
      injection e2 with e2
      rw [← e2, ← hq]; simp [h0]
  exact hrun
set_option maxRecDepth 100000 in
theorem MpV.putb {w : World} {b N : Nat} {P P' : Int → Prop} [DecidablePred P] [DecidablePred P'] (h : MpV w b N (trueAt P)) (hN : N < maxLen) (k : Int) (hk : (Lit.int .i64 k).wf = true) (hP : ∀ j, P' j ↔ j = k ∨ P j) :
    ∃ w', (Instr.mapUpdate 43 (.map (some b)) (.int .i64 k) (.bool true)).run Try.prog w = .ok () w' ∧ MpV w' b (N + 1) (trueAt P') ∧ Frm (· = b) w w' := by
  obtain ⟨D, n, hn, ho, hs⟩ := h
  obtain ⟨w', hrun, r1, r2⟩ := ho.update law3 Try.underlying43 (Nat.lt_of_le_of_lt hn hN) (Maps.keyOf_int_mk Try.underlying3 hk) (val := .bool true) (d := .held (.bool true)) (ps := []) rfl
  refine ⟨w', hrun, ⟨_, n + 1, by omega, r1, ?_⟩, (Frm.of_grown r2).mono (fun k e => by cases e; rfl)⟩
  have hp := hs.put (ho.tidy law3).isMap k hk (.bool true)
  have e : trueAt P' = upd (trueAt P) k (some (.bool true)) := by
    funext j
    by_cases e : j = k
    · subst e
      rw [upd_same]
      simp [trueAt, (hP j).2 (.inl rfl)]
    · rw [upd_other _ _ e]
      by_cases h1 : P j
      · simp [trueAt, h1, (hP j).2 (.inr h1)]
      · have : ¬ P' j := fun h2 => by rcases (hP j).1 h2 with h3 | h3; exact e h3; exact h1 h3
        simp [trueAt, h1, this]
  rw [e]
  exact hp
end Go.Proofs.Ytoplcndiejpipaa
