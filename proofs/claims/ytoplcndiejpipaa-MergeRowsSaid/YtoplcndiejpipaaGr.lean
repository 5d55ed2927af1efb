/- What MergeRows keeps in its loop. -/
import Derived.Test.YtoplcndiejpipaaGp
import Derived.Test.YtoplcndiejpipaaMq
namespace Go.Proofs.Ytoplcndiejpipaa
open Go.RowKit
set_option linter.unusedVariables false
set_option linter.unusedSimpArgs false

abbrev OutE (B : Nat) (w : World) (v : Value) (l : List Ev) : Prop := OutG ecells 12 27 (fun S w (e : Ev) x => EV w S e x) B SN w v l
theorem OutG.none {α β : Type} {f : α → β → List Value} {k te : Nat} {X : (Nat → Prop) → World → α → β → Prop} (hX : Lies X) {B : Nat} {S : Nat → Prop} {w : World} {v : Value} {l : List α} (h : OutG f k te X B S w v l) (hS : ∀ j, ¬ S j) : OutG f k te X B SN w v l := by
  obtain ⟨vs, h1, h2, h3, h4⟩ := h
  exact ⟨vs, h1, h2, fun i a b ha hb => hX.mono (h3 i a b ha hb) (fun j hj _ => hS j hj), fun j _ h => h⟩

/-- x, said: their blocks, rows and maps. -/
structure RS (B : Nat) (w : World) (gx gs g0 g1 : Nat) (v0 v1 : Value) (l0 l1 : List Ev) (N : Nat) (f0 f1 : Int → Option Value) : Prop where
  bx : Blk w gx #[v0, v1] 42
  bs : Blk w gs #[.map (some g0), .map (some g1)] 44
  m0 : MpV w g0 N f0
  m1 : MpV w g1 N f1
  r0 : OutE B w v0 l0
  r1 : OutE B w v1 l1
  ge : B ≤ gx ∧ B ≤ gs ∧ B ≤ g0 ∧ B ≤ g1
  ne : gx ≠ gs ∧ gx ≠ g0 ∧ gx ≠ g1 ∧ gs ≠ g0 ∧ gs ≠ g1 ∧ g0 ≠ g1
  a0 : ∀ j, v0.ownBlock = some j → j ≠ gx ∧ j ≠ gs ∧ j ≠ g0 ∧ j ≠ g1
  a1 : ∀ j, v1.ownBlock = some j → j ≠ gx ∧ j ≠ gs ∧ j ≠ g0 ∧ j ≠ g1
  ap : ∀ j, v0.ownBlock = some j → ¬ v1.ownBlock = some j
section
variable {B : Nat} {w w' : World} {gx gs g0 g1 : Nat} {v0 v1 : Value} {l0 l1 : List Ev} {N : Nat} {f0 f1 : Int → Option Value}
theorem RS.below (h : RS B w gx gs g0 g1 v0 v1 l0 l1 N f0 f1) (k : Below w.heap.size w w') : RS B w' gx gs g0 g1 v0 v1 l0 l1 N f0 f1 :=
  ⟨h.bx.below k, h.bs.below k, h.m0.below k, h.m1.below k, h.r0.below liesE k, h.r1.below liesE k, h.ge, h.ne, h.a0, h.a1, h.ap⟩
theorem RS.drew (h : RS B w gx gs g0 g1 v0 v1 l0 l1 N f0 f1) : RS B w.drew gx gs g0 g1 v0 v1 l0 l1 N f0 f1 := h.below ⟨rfl, rfl, rfl, Nat.le_refl _, fun _ _ => rfl⟩
/-- One event more on side 0; W1: the world in which its box is laid, W2 that behind the append. -/
theorem RS.push0 (h : RS B w gx gs g0 g1 v0 v1 l0 l1 N f0 f1) {e : Ev} (he : e.data = [] ∧ e.pk.data = []) {W1 W2 : World} (k1 : Below w.heap.size w W1) {o : Obj} {v' : Value}
    {vs : List (Value × Value)} (h1 : w.ownsRow B 27 12 v0 l0.length (rowsG ecells l0 vs)) (h2 : vs.length = l0.length) (h3 : ∀ (i : Nat) (a : Ev) (b : Value × Value), l0[i]? = some a → vs[i]? = some b → EV w SN a b)
    (hfr : Frm (fun j => v0.ownBlock = some j) (W1.alloc o) W2) (hown : W2.ownsRow B 27 12 v' (l0.length + 1) (rowsG ecells l0 vs ++ ecells e (nilV, nilV))) (hat : v'.ownBlock = v0.ownBlock ∨ v'.ownBlock = some (W1.alloc o).heap.size) :
    RS B (W2.setCell ⟨gx, 0, none⟩ v') gx gs g0 g1 v' v1 (l0 ++ [e]) l1 N f0 f1 := by
  have hl0 := h1.lt
  have hr := (OutG.snoc liesE (T' := SN) (X := fun S w (e : Ev) x => EV w S e x) h1 h2 h3 (fun _ _ h => h) k1 (EV.bare SN W1 e he.1 he.2) (fun j hj => hj.elim) hfr hown hat).none liesE (fun j hj => by rcases hj with hj | hj <;> exact hj.1)
  have F : Frm (fun j => v0.ownBlock = some j) w W2 := ((Frm.of_below (S := fun j => v0.ownBlock = some j) k1).alloc o).trans hfr
  have sz : w.heap.size ≤ W1.heap.size := k1.size
  have n0 : ∀ g, g = gx ∨ g = gs ∨ g = g0 ∨ g = g1 → ¬ v0.ownBlock = some g := fun g hg hv => by
    have := h.a0 g hv
    rcases hg with rfl | rfl | rfl | rfl
    · exact this.1 rfl
    · exact this.2.1 rfl
    · exact this.2.2.1 rfl
    · exact this.2.2.2 rfl
  have hx := h.bx.frm F (n0 gx (.inl rfl))
  have fs := (Frm.refl (· = gx) W2).setg (i := 0) v'
  have ltx := h.bx.lt
  have lts := h.bs.lt
  have lt0 := h.m0.lt
  have lt1 := h.m1.lt
  have nv : ∀ j, v'.ownBlock = some j → j ≠ gx ∧ j ≠ gs ∧ j ≠ g0 ∧ j ≠ g1 ∧ ¬ v1.ownBlock = some j := fun j hj => by
    rcases hat with ha | ha
    · rw [ha] at hj
      exact ⟨(h.a0 j hj).1, (h.a0 j hj).2.1, (h.a0 j hj).2.2.1, (h.a0 j hj).2.2.2, h.ap j hj⟩
    · rw [ha] at hj
      injection hj with hj
      have : w.heap.size ≤ j := by rw [← hj]; exact Nat.le_trans sz (by simp)
      refine ⟨by omega, by omega, by omega, by omega, fun hv => ?_⟩
      have := (h.r1.own j hv).2
      omega
  have r1' : OutE B W2 v1 l1 := h.r1.frm liesE F (fun j hj => hj.elim) (fun j hj hv => h.ap j hv hj)
  refine ⟨?_, (h.bs.frm F (n0 gs (.inr (.inl rfl)))).frm fs (fun e => h.ne.1 e.symm), (h.m0.frm F (n0 g0 (.inr (.inr (.inl rfl))))).frm fs (fun e => h.ne.2.1 e.symm), (h.m1.frm F (n0 g1 (.inr (.inr (.inr rfl))))).frm fs (fun e => h.ne.2.2.1 e.symm), hr.frm liesE fs (fun j hj => hj.elim) (fun j hj e => (nv j hj).1 e), r1'.frm liesE fs (fun j hj => hj.elim) (fun j hj e => (h.a1 j hj).1 e), h.ge, h.ne, fun j hj => ⟨(nv j hj).1, (nv j hj).2.1, (nv j hj).2.2.1, (nv j hj).2.2.2.1⟩, h.a1, fun j hj => (nv j hj).2.2.2.2⟩
  have := hx.set 0 v'
  simpa using this
theorem RS.push1 (h : RS B w gx gs g0 g1 v0 v1 l0 l1 N f0 f1) {e : Ev} (he : e.data = [] ∧ e.pk.data = []) {W1 W2 : World} (k1 : Below w.heap.size w W1) {o : Obj} {v' : Value}
    {vs : List (Value × Value)} (h1 : w.ownsRow B 27 12 v1 l1.length (rowsG ecells l1 vs)) (h2 : vs.length = l1.length) (h3 : ∀ (i : Nat) (a : Ev) (b : Value × Value), l1[i]? = some a → vs[i]? = some b → EV w SN a b)
    (hfr : Frm (fun j => v1.ownBlock = some j) (W1.alloc o) W2) (hown : W2.ownsRow B 27 12 v' (l1.length + 1) (rowsG ecells l1 vs ++ ecells e (nilV, nilV))) (hat : v'.ownBlock = v1.ownBlock ∨ v'.ownBlock = some (W1.alloc o).heap.size) :
    RS B (W2.setCell ⟨gx, 1, none⟩ v') gx gs g0 g1 v0 v' l0 (l1 ++ [e]) N f0 f1 := by
  have hl0 := h1.lt
  have hr := (OutG.snoc liesE (T' := SN) (X := fun S w (e : Ev) x => EV w S e x) h1 h2 h3 (fun _ _ h => h) k1 (EV.bare SN W1 e he.1 he.2) (fun j hj => hj.elim) hfr hown hat).none liesE (fun j hj => by rcases hj with hj | hj <;> exact hj.1)
  have F : Frm (fun j => v1.ownBlock = some j) w W2 := ((Frm.of_below (S := fun j => v1.ownBlock = some j) k1).alloc o).trans hfr
  have sz : w.heap.size ≤ W1.heap.size := k1.size
  have n0 : ∀ g, g = gx ∨ g = gs ∨ g = g0 ∨ g = g1 → ¬ v1.ownBlock = some g := fun g hg hv => by
    have := h.a1 g hv
    rcases hg with rfl | rfl | rfl | rfl
    · exact this.1 rfl
    · exact this.2.1 rfl
    · exact this.2.2.1 rfl
    · exact this.2.2.2 rfl
  have hx := h.bx.frm F (n0 gx (.inl rfl))
  have fs := (Frm.refl (· = gx) W2).setg (i := 1) v'
  have ltx := h.bx.lt
  have lts := h.bs.lt
  have lt0 := h.m0.lt
  have lt1 := h.m1.lt
  have nv : ∀ j, v'.ownBlock = some j → j ≠ gx ∧ j ≠ gs ∧ j ≠ g0 ∧ j ≠ g1 ∧ ¬ v0.ownBlock = some j := fun j hj => by
    rcases hat with ha | ha
    · rw [ha] at hj
      exact ⟨(h.a1 j hj).1, (h.a1 j hj).2.1, (h.a1 j hj).2.2.1, (h.a1 j hj).2.2.2, fun hv => h.ap j hv hj⟩
    · rw [ha] at hj
      injection hj with hj
      have : w.heap.size ≤ j := by rw [← hj]; exact Nat.le_trans sz (by simp)
      refine ⟨by omega, by omega, by omega, by omega, fun hv => ?_⟩
      have := (h.r0.own j hv).2
      omega
  have r0' : OutE B W2 v0 l0 := h.r0.frm liesE F (fun j hj => hj.elim) (fun j hj hv => h.ap j hj hv)
  refine ⟨?_, (h.bs.frm F (n0 gs (.inr (.inl rfl)))).frm fs (fun e => h.ne.1 e.symm), (h.m0.frm F (n0 g0 (.inr (.inr (.inl rfl))))).frm fs (fun e => h.ne.2.1 e.symm), (h.m1.frm F (n0 g1 (.inr (.inr (.inr rfl))))).frm fs (fun e => h.ne.2.2.1 e.symm), r0'.frm liesE fs (fun j hj => hj.elim) (fun j hj e => (h.a0 j hj).1 e), hr.frm liesE fs (fun j hj => hj.elim) (fun j hj e => (nv j hj).1 e), h.ge, h.ne, h.a0, fun j hj => ⟨(nv j hj).1, (nv j hj).2.1, (nv j hj).2.2.1, (nv j hj).2.2.2.1⟩, fun j hj hv => (nv j hv).2.2.2.2 hj⟩
  have := hx.set 1 v'
  simpa using this
theorem RS.map0 (h : RS B w gx gs g0 g1 v0 v1 l0 l1 N f0 f1) {f : Int → Option Value} (hm : MpV w' g0 (N + 1) f) (hf : Frm (· = g0) w w') : RS B w' gx gs g0 g1 v0 v1 l0 l1 (N + 1) f f1 :=
  ⟨h.bx.frm hf (fun e => h.ne.2.1 e), h.bs.frm hf (fun e => h.ne.2.2.2.1 e), hm, (h.m1.frm hf (fun e => h.ne.2.2.2.2.2 e.symm)).mono (by omega), h.r0.frm liesE hf (fun j hj => hj.elim) (fun j hj e => (h.a0 j hj).2.2.1 e), h.r1.frm liesE hf (fun j hj => hj.elim) (fun j hj e => (h.a1 j hj).2.2.1 e), h.ge, h.ne, h.a0, h.a1, h.ap⟩
theorem RS.map1 (h : RS B w gx gs g0 g1 v0 v1 l0 l1 N f0 f1) {f : Int → Option Value} (hm : MpV w' g1 (N + 1) f) (hf : Frm (· = g1) w w') : RS B w' gx gs g0 g1 v0 v1 l0 l1 (N + 1) f0 f :=
  ⟨h.bx.frm hf (fun e => h.ne.2.2.1 e), h.bs.frm hf (fun e => h.ne.2.2.2.2.1 e), (h.m0.frm hf (fun e => h.ne.2.2.2.2.2 e)).mono (by omega), hm, h.r0.frm liesE hf (fun j hj => hj.elim) (fun j hj e => (h.a0 j hj).2.2.2 e), h.r1.frm liesE hf (fun j hj => hj.elim) (fun j hj e => (h.a1 j hj).2.2.2 e), h.ge, h.ne, h.a0, h.a1, h.ap⟩
theorem RS.more (h : RS B w gx gs g0 g1 v0 v1 l0 l1 N f0 f1) {M : Nat} (hM : N ≤ M) : RS B w gx gs g0 g1 v0 v1 l0 l1 M f0 f1 :=
  ⟨h.bx, h.bs, h.m0.mono hM, h.m1.mono hM, h.r0, h.r1, h.ge, h.ne, h.a0, h.a1, h.ap⟩
end
/-- The head of the loop. -/
def sentAt (s : Int) (wl : List (Int × Ev)) (n : Int) : Prop := (s, sentE n) ∈ wl
instance (s : Int) (wl : List (Int × Ev)) : DecidablePred (sentAt s wl) := fun n => inferInstanceAs (Decidable ((s, sentE n) ∈ wl))
def LR (w : World) (gx gs g0 g1 : Nat) (i : Value) (wr : World) : Prop :=
  ∃ (k : Nat) (wl : List (Int × Ev)) (v0 v1 : Value), k ≤ 24 ∧ i = .int .i64 k ∧ wl.length = k ∧ RowOk wl ∧ RS w.heap.size wr gx gs g0 g1 v0 v1 (only 0 wl) (only 1 wl) k (trueAt (sentAt 0 wl)) (trueAt (sentAt 1 wl)) ∧ Below w.heap.size w wr
theorem sentAt_other (s t : Int) (wl : List (Int × Ev)) (e : Ev) (he : e.kind ≠ 5 ∨ s ≠ t) (n : Int) : sentAt s (wl ++ [(t, e)]) n ↔ sentAt s wl n := by
  unfold sentAt
  rw [List.mem_append, List.mem_singleton]
  refine ⟨fun h => ?_, .inl⟩
  rcases h with h | h
  · exact h
  · injection h with h1 h2
    rcases he with he | he
    · exact absurd (by rw [← h2]; rfl) he
    · exact absurd h1 he
theorem sentAt_same (s : Int) (wl : List (Int × Ev)) (m n : Int) : sentAt s (wl ++ [(s, sentE m)]) n ↔ n = m ∨ sentAt s wl n := by
  unfold sentAt
  rw [List.mem_append, List.mem_singleton]
  refine ⟨fun h => ?_, fun h => ?_⟩
  · rcases h with h | h
    · exact .inr h
    · injection h with h1 h2
      have : (sentE n).pk.number = (sentE m).pk.number := by rw [h2]
      exact .inl this
  · rcases h with rfl | h
    · exact .inr rfl
    · exact .inl h
theorem trueAt_congr {P Q : Int → Prop} [DecidablePred P] [DecidablePred Q] (h : ∀ n, P n ↔ Q n) : trueAt P = trueAt Q := by
  funext n
  unfold trueAt
  by_cases hp : P n
  · rw [if_pos hp, if_pos ((h n).1 hp)]
  · rw [if_neg hp, if_neg (fun hq => hp ((h n).2 hq))]
section
variable {B : Nat} {W : World} {gx gs g0 g1 : Nat} {v0 v1 : Value} {wl : List (Int × Ev)} {e : Ev} {N : Nat} {f0 f1 : Int → Option Value}
theorem RS.to0 (h : RS B W gx gs g0 g1 v0 v1 (only 0 wl ++ [e]) (only 1 wl) N f0 f1) : RS B W gx gs g0 g1 v0 v1 (only 0 (wl ++ [(0, e)])) (only 1 (wl ++ [(0, e)])) N f0 f1 := by
  rw [only_app, only_yes, only_app, only_no 1 0 e (by decide), List.append_nil]
  exact h
theorem RS.to1 (h : RS B W gx gs g0 g1 v0 v1 (only 0 wl) (only 1 wl ++ [e]) N f0 f1) : RS B W gx gs g0 g1 v0 v1 (only 0 (wl ++ [(1, e)])) (only 1 (wl ++ [(1, e)])) N f0 f1 := by
  rw [only_app, only_no 0 1 e (by decide), List.append_nil, only_app, only_yes]
  exact h
theorem same_said (wl : List (Int × Ev)) (s t : Int) (e : Ev) (he : e.kind ≠ 5 ∨ s ≠ t) : trueAt (sentAt s (wl ++ [(t, e)])) = trueAt (sentAt s wl) := trueAt_congr (sentAt_other s t wl e he)
end
theorem LR.mk' {w W : World} {gx gs g0 g1 k : Nat} {wl : List (Int × Ev)} {v0 v1 : Value} {s : Int} {e : Ev} {M : Nat} (hk : k < 24) (hwl : wl.length = k) (hok : RowOk (wl ++ [(s, e)])) (hM : M ≤ k + 1)
    (hrs : RS w.heap.size W gx gs g0 g1 v0 v1 (only 0 (wl ++ [(s, e)])) (only 1 (wl ++ [(s, e)])) M (trueAt (sentAt 0 (wl ++ [(s, e)]))) (trueAt (sentAt 1 (wl ++ [(s, e)])))) (hb : Below w.heap.size w W) : ∀ i, i = Value.int .i64 ((k + 1 : Nat) : Int) → LR w gx gs g0 g1 i W :=
  fun i hi => ⟨k + 1, _, v0, v1, hk, hi, by rw [List.length_append, hwl]; rfl, hok, hrs.more hM, hb⟩
theorem drew_below {w w' : World} (h : Below w.drew.heap.size w.drew w') : Below w.heap.size w w' := ⟨h.os, h.tape, h.output, h.size, h.block⟩
end Go.Proofs.Ytoplcndiejpipaa
