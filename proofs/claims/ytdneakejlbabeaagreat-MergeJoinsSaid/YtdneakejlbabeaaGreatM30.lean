/- Parts of the walk: Jp, Jq. -/
import Derived.Test.YtdneakejlbabeaaGreatM00
import Derived.Test.YtdneakejlbabeaaGreatM21
import Derived.Test.YtdneakejlbabeaaGreatM29
import Derived.Test.YtdneakejlbabeaaGreatM41
import Derived.Test.YtdneakejlbabeaaGreatM04
import Derived.Deep.RegionHeld3
import Derived.Deep.RegionLaw
namespace Go.Proofs.YtdneakejlbabeaaGreat
open Go.RowKit
set_option linter.unusedVariables false
set_option linter.unusedSimpArgs false
section
/-- A configuration. -/
structure Cf where
 c0 : Int
 c1 : Int
 c2 : Int
 c3 : Int
 c4 : Int
 c5 : Int
 c6 : Int
abbrev cfL (c : Cf) : List Value := [.int .i64 c.c0, .int .i64 c.c1, .int .i64 c.c2, .int .i64 c.c3, .int .i64 c.c4, .int .i64 c.c5, .int .i64 c.c6]
abbrev cfA (c : Cf) : Value := .agg #[.int .i64 c.c0, .int .i64 c.c1, .int .i64 c.c2, .int .i64 c.c3, .int .i64 c.c4, .int .i64 c.c5, .int .i64 c.c6]
/-- What the parts of a new end are. -/
structure NE (B : Nat) (w : World) (n : Nat) (vD : Value) (go : Nat) (bu : Int) (gi : Nat) (wi : Int) (gs : Nat) : Prop where
 d : w.ownsRow B 3 1 vD n (List.replicate n (.int .i64 0))
 o : ObC w go bu 0 none 0 0 false
 i : IbC w gi wi 0 (-1) (.slice none 0 0) (.slice none 0 0)
 s : CkOk w gs
 ge : B ≤ go ∧ B ≤ gi ∧ B ≤ gs
 bd : 1 ≤ bu ∧ bu ≤ 400 ∧ 1 ≤ wi ∧ wi ≤ 400
theorem NE.below {B : Nat} {w w' : World} {n : Nat} {vD : Value} {go : Nat} {bu : Int} {gi : Nat} {wi : Int} {gs : Nat} (h : NE B w n vD go bu gi wi gs) (k : Below w.heap.size w w') : NE B w' n vD go bu gi wi gs :=
 ⟨own_frm h.d (Frm.of_below (S := fun _ => False) k) (fun _ _ h => h), h.o.below k, h.i.below k, h.s.frm (Frm.of_below (S := fun _ => False) k) (fun h => h), h.ge, h.bd⟩
abbrev ecs0 (c : Cf) (side : Int) (vD : Value) (go gi gs : Nat) : Array Value := #[.int .i64 c.c0, .int .i64 c.c1, .int .i64 c.c2, .int .i64 c.c3, .int .i64 c.c4, .int .i64 c.c5, .int .i64 c.c6, .int .i64 side, .int .i64 0, .slice none 0 0, vD, .int .i64 c.c2, .pointer (some ⟨go, 0, none⟩), .int .i64 0, .slice none 0 0, .pointer (some ⟨gi, 0, none⟩), .pointer (some ⟨gs, 0, none⟩), .slice none 0 0, .slice none 0 0,
 .int .i64 0, .int .i64 0, .int .i64 0, .int .i64 0, .int .i64 0, .int .i64 0, .int .i64 0, .int .i64 0]
def okN (B : Nat) (c : Cf) (side : Int) (n gc : Nat) (t : Tmp) (v : Value) (w : World) : Prop :=
 match t with
 | 1 => v = .int .i64 side
 | 2 => v = .pointer (some ⟨gc, 0, none⟩) ∧ Blk w gc (cfL c).toArray 33
 | 7 => v = cfA c
 | 8 => v = .int .i64 side
 | 9 => v = .pointer (some ⟨gc, 0, none⟩) ∧ w.cell? ⟨gc, 0, none⟩ = some (.int .i64 (n : Int))
 | 10 => v = .int .i64 (n : Int)
 | 11 => (∃ A c, v = .slice A n c) ∧ w.ownsRow B 3 1 v n (List.replicate n (.int .i64 0))
 | 12 => v = .pointer (some ⟨gc, 2, none⟩) ∧ w.cell? ⟨gc, 2, none⟩ = some (.int .i64 c.c2)
 | 13 => v = .int .i64 c.c2
 | 14 => v = .pointer (some ⟨gc, 1, none⟩) ∧ w.cell? ⟨gc, 1, none⟩ = some (.int .i64 c.c1)
 | 15 => v = .int .i64 c.c1
 | 16 => ∃ g bu, v = .pointer (some ⟨g, 0, none⟩) ∧ B ≤ g ∧ 1 ≤ bu ∧ bu ≤ 400 ∧ ObC w g bu 0 none 0 0 false
 | 17 => v = .pointer (some ⟨gc, 2, none⟩) ∧ w.cell? ⟨gc, 2, none⟩ = some (.int .i64 c.c2)
 | 18 => v = .int .i64 c.c2
 | 19 => ∃ g wi, v = .pointer (some ⟨g, 0, none⟩) ∧ B ≤ g ∧ 1 ≤ wi ∧ wi ≤ 400 ∧ IbC w g wi 0 (-1) (.slice none 0 0) (.slice none 0 0)
 | 20 => v = .pointer (some ⟨gc, 6, none⟩) ∧ w.cell? ⟨gc, 6, none⟩ = some (.int .i64 c.c6)
 | 21 => v = .int .i64 c.c6
 | 22 => ∃ g, v = .pointer (some ⟨g, 0, none⟩) ∧ B ≤ g ∧ CkOk w g
 | 23 => ∃ vD go bu gi wi gs, v = .agg (ecs0 c side vD go gi gs) ∧ NE B w n vD go bu gi wi gs
 | 24 => ∃ ge vD go bu gi wi gs, v = .pointer (some ⟨ge, 0, none⟩) ∧ B ≤ ge ∧ Blk w ge (ecs0 c side vD go gi gs) 78 ∧ NE B w n vD go bu gi wi gs
 | 5 => ∃ ge vD go bu gi wi gs, v = .pointer (some ⟨ge, 0, none⟩) ∧ B ≤ ge ∧ Blk w ge (ecs0 c side vD go gi gs) 78 ∧ NE B w n vD go bu gi wi gs
 | _ => True
theorem cell_mono {w w' : World} {p : Addr} {u : Value} (h : w.cell? p = some u) (k : Below w.heap.size w w') : w'.cell? p = some u := (k.cell (World.block_lt_of_cell? w p h)).trans h
theorem okN.mono {B : Nat} {c : Cf} {side : Int} {n gc : Nat} (t : Tmp) (v : Value) (w w' : World) (h : okN B c side n gc t v w) (k : Below w.heap.size w w') : okN B c side n gc t v w' := by
 unfold okN at h ⊢
 split
 ·exact h
 ·exact ⟨h.1, h.2.below k⟩
 ·exact h
 ·exact h
 ·exact ⟨h.1, cell_mono h.2 k⟩
 ·exact h
 ·exact ⟨h.1, own_frm h.2 (Frm.of_below (S := fun _ => False) k) (fun _ _ h => h)⟩
 ·exact ⟨h.1, cell_mono h.2 k⟩
 ·exact h
 ·exact ⟨h.1, cell_mono h.2 k⟩
 ·exact h
 ·obtain ⟨g, bu, h1, h2, h3, h4, h5⟩ := h
  exact ⟨g, bu, h1, h2, h3, h4, h5.below k⟩
 ·exact ⟨h.1, cell_mono h.2 k⟩
 ·exact h
 ·obtain ⟨g, bu, h1, h2, h3, h4, h5⟩ := h
  exact ⟨g, bu, h1, h2, h3, h4, h5.below k⟩
 ·exact ⟨h.1, cell_mono h.2 k⟩
 ·exact h
 ·obtain ⟨g, h1, h2, h3⟩ := h
  exact ⟨g, h1, h2, h3.frm (Frm.of_below (S := fun _ => False) k) (fun h => h)⟩
 ·obtain ⟨vD, go, bu, gi, wi, gs, h1, h2⟩ := h
  exact ⟨vD, go, bu, gi, wi, gs, h1, h2.below k⟩
 ·obtain ⟨ge, vD, go, bu, gi, wi, gs, h1, h2, h3, h4⟩ := h
  exact ⟨ge, vD, go, bu, gi, wi, gs, h1, h2, h3.below k, h4.below k⟩
 ·obtain ⟨ge, vD, go, bu, gi, wi, gs, h1, h2, h3, h4⟩ := h
  exact ⟨ge, vD, go, bu, gi, wi, gs, h1, h2, h3.below k, h4.below k⟩
 ·trivial
section
variable {Q : Exit → Go.Act → World → Prop} {B : Nat} {W : World} {ok : Tmp → Value → World → Prop} {d s : Tmp} {ty : TypeId} {pos : String} {af : Array Edge}
theorem sn_move {u : Value} (hs : ∀ v w, ok s v w → v = u) (hd : ∀ w, ok d u w) : StepOk Tryz.prog Q B W ok { dst := some d, op := .move (.tmp s), type := ty, pos := pos, after := af, guard := none } := by
 intro a w K hB h hK
 have h1 := hs _ _ (h s (by simp [slotsOf, Op.operands, Call.operands]))
 have hK1 := hK u w (fun d' hd' => by injection hd' with hd'; subst hd'; exact hd _) (Below.refl _ _)
 obtain ⟨tmps, df⟩ := a
 simp only at h1 hK1
 have h1' := h1; rw [Array.getD_eq_getD_getElem?] at h1'
 clear h hK hs hd
 go_simp
 exact hK1
theorem sn_assign (hs : ∀ v w, ok s v w → ok d v w) : StepOk Tryz.prog Q B W ok { dst := some d, op := .assign (.tmp s), type := ty, pos := pos, after := af, guard := none } := by
 intro a w K hB h hK
 have h1 := hs _ _ (h s (by simp [slotsOf, Op.operands, Call.operands]))
 have hK1 := hK (a.tmps.getD s undef) w (fun d' hd' => by injection hd' with hd'; subst hd'; exact h1) (Below.refl _ _)
 obtain ⟨tmps, df⟩ := a
 simp only at hK1
 simp only [Act.put] at hK1
 rw [Array.getD_eq_getD_getElem?] at hK1
 clear h hK hs h1
 go_simp
 exact hK1
set_option maxRecDepth 100000 in
theorem sn_field0 {g : Nat} (hs : ∀ v w, ok s v w → v = .pointer (some ⟨g, 0, none⟩) ∧ ok d (.pointer (some ⟨g, 0, none⟩)) w) : StepOk Tryz.prog Q B W ok { dst := some d, op := .fieldAddr 33 (.tmp s) 0, type := ty, pos := pos, after := af, guard := none } := by
 intro a w K hB h hK
 obtain ⟨h1, h2⟩ := hs _ _ (h s (by simp [slotsOf, Op.operands, Call.operands]))
 have hK1 := hK (.pointer (some ⟨g, 0, none⟩)) w (fun d' hd' => by injection hd' with hd'; subst hd'; exact h2) (Below.refl _ _)
 obtain ⟨tmps, df⟩ := a
 simp only at h1 hK1
 have h1' := h1; rw [Array.getD_eq_getD_getElem?] at h1'
 clear h hK hs h2
 go_simp
 exact hK1
set_option maxRecDepth 100000 in
theorem sn_field1 {g : Nat} (hs : ∀ v w, ok s v w → v = .pointer (some ⟨g, 0, none⟩) ∧ ok d (.pointer (some ⟨g, 1, none⟩)) w) : StepOk Tryz.prog Q B W ok { dst := some d, op := .fieldAddr 33 (.tmp s) 1, type := ty, pos := pos, after := af, guard := none } := by
 intro a w K hB h hK
 obtain ⟨h1, h2⟩ := hs _ _ (h s (by simp [slotsOf, Op.operands, Call.operands]))
 have hK1 := hK (.pointer (some ⟨g, 1, none⟩)) w (fun d' hd' => by injection hd' with hd'; subst hd'; exact h2) (Below.refl _ _)
 obtain ⟨tmps, df⟩ := a
 simp only at h1 hK1
 have h1' := h1; rw [Array.getD_eq_getD_getElem?] at h1'
 clear h hK hs h2
 go_simp
 exact hK1
set_option maxRecDepth 100000 in
theorem sn_field2 {g : Nat} (hs : ∀ v w, ok s v w → v = .pointer (some ⟨g, 0, none⟩) ∧ ok d (.pointer (some ⟨g, 2, none⟩)) w) : StepOk Tryz.prog Q B W ok { dst := some d, op := .fieldAddr 33 (.tmp s) 2, type := ty, pos := pos, after := af, guard := none } := by
 intro a w K hB h hK
 obtain ⟨h1, h2⟩ := hs _ _ (h s (by simp [slotsOf, Op.operands, Call.operands]))
 have hK1 := hK (.pointer (some ⟨g, 2, none⟩)) w (fun d' hd' => by injection hd' with hd'; subst hd'; exact h2) (Below.refl _ _)
 obtain ⟨tmps, df⟩ := a
 simp only at h1 hK1
 have h1' := h1; rw [Array.getD_eq_getD_getElem?] at h1'
 clear h hK hs h2
 go_simp
 exact hK1
set_option maxRecDepth 100000 in
theorem sn_field6 {g : Nat} (hs : ∀ v w, ok s v w → v = .pointer (some ⟨g, 0, none⟩) ∧ ok d (.pointer (some ⟨g, 6, none⟩)) w) : StepOk Tryz.prog Q B W ok { dst := some d, op := .fieldAddr 33 (.tmp s) 6, type := ty, pos := pos, after := af, guard := none } := by
 intro a w K hB h hK
 obtain ⟨h1, h2⟩ := hs _ _ (h s (by simp [slotsOf, Op.operands, Call.operands]))
 have hK1 := hK (.pointer (some ⟨g, 6, none⟩)) w (fun d' hd' => by injection hd' with hd'; subst hd'; exact h2) (Below.refl _ _)
 obtain ⟨tmps, df⟩ := a
 simp only at h1 hK1
 have h1' := h1; rw [Array.getD_eq_getD_getElem?] at h1'
 clear h hK hs h2
 go_simp
 exact hK1
theorem sn_load {g k : Nat} {u : Value} (hs : ∀ v w, ok s v w → v = .pointer (some ⟨g, k, none⟩) ∧ w.cell? ⟨g, k, none⟩ = some u) (hd : ∀ w, ok d u w) : StepOk Tryz.prog Q B W ok { dst := some d, op := .load 3 (.tmp s), type := ty, pos := pos, after := af, guard := none } := by
 intro a w K hB h hK
 obtain ⟨h1, h2⟩ := hs _ _ (h s (by simp [slotsOf, Op.operands, Call.operands]))
 have hK1 := hK u w (fun d' hd' => by injection hd' with hd'; subst hd'; exact hd _) (Below.refl _ _)
 obtain ⟨tmps, df⟩ := a
 simp only at h1 hK1
 have h1' := h1; rw [Array.getD_eq_getD_getElem?] at h1'
 clear h hK hs hd
 go_simp
 exact hK1
theorem sn_loadS {g : Nat} {c : Cf} (hs : ∀ v w, ok s v w → v = .pointer (some ⟨g, 0, none⟩) ∧ Blk w g (cfL c).toArray 33) (hd : ∀ w, ok d (cfA c) w) : StepOk Tryz.prog Q B W ok { dst := some d, op := .load 33 (.tmp s), type := ty, pos := pos, after := af, guard := none } := by
 intro a w K hB h hK
 obtain ⟨h1, h2⟩ := hs _ _ (h s (by simp [slotsOf, Op.operands, Call.operands]))
 have hK1 := hK (cfA c) w (fun d' hd' => by injection hd' with hd'; subst hd'; exact hd _) (Below.refl _ _)
 obtain ⟨tmps, df⟩ := a
 simp only at h1 hK1
 have h1' := h1; rw [Array.getD_eq_getD_getElem?] at h1'
 have a0 := h2.cell 0
 have a1 := h2.cell 1
 have a2 := h2.cell 2
 have a3 := h2.cell 3
 have a4 := h2.cell 4
 have a5 := h2.cell 5
 have a6 := h2.cell 6
 simp only [gA, gZ, gC] at a0 a1 a2 a3 a4 a5 a6
 clear h hK hs hd h2
 go_simp
 exact hK1
theorem sn_make {n B0 : Nat} (hB0 : B0 ≤ W.heap.size) (hn : n ≤ 3) (hs : ∀ v w, ok s v w → v = .int .i64 (n : Int)) (hd : ∀ w A c, w.ownsRow B0 3 1 (.slice A n c) n (List.replicate n (.int .i64 0)) → ok d (.slice A n c) w) : StepOk Tryz.prog Q B W ok { dst := some d, op := .makeSlice 66 (.tmp s) (.tmp s), type := ty, pos := pos, after := af, guard := none } := by
 intro a w K hB h hK
 have h1 := hs _ _ (h s (by simp [slotsOf, Op.operands, Call.operands]))
 have hm := make_eq (P := Tryz.prog) 66 3 (.int .i64 0) 8 Tryz.underlying66 Tryz.info3 rfl n (by omega) (by omega) w
 have ho := make_own w B0 3 (.int .i64 0) n (Nat.le_trans hB0 hB.size) (by simp [maxLen]; omega)
 have hK1 := hK (.slice (some ⟨w.heap.size, 0, none⟩) n n) (w.alloc (.cells (madeCells #[.int .i64 0] n) 3)) (fun d' hd' => by injection hd' with hd'; subst hd'; exact hd _ _ _ ho) (ba)
 obtain ⟨tmps, df⟩ := a
 simp only at h1 hK1
 have h1' := h1; rw [Array.getD_eq_getD_getElem?] at h1'
 clear h hK hs hd
 go_simp
 exact hK1
theorem sn_box {c : Cf} {side : Int} {B0 : Nat} (hB0 : B0 ≤ W.heap.size) (hs : ∀ v w, ok s v w → ∃ vD go gi gs, v = .agg (ecs0 c side vD go gi gs) ∧ ∀ w', Below w.heap.size w w' → Blk w' w.heap.size (ecs0 c side vD go gi gs) 78 → B0 ≤ w.heap.size → ok d (.pointer (some ⟨w.heap.size, 0, none⟩)) w') : StepOk Tryz.prog Q B W ok { dst := some d, op := .box 78 (.tmp s), type := ty, pos := pos, after := af, guard := none } := by
 intro a w K hB h hK
 obtain ⟨vD, go, gi, gs, h1, h2⟩ := hs _ _ (h s (by simp [slotsOf, Op.operands, Call.operands]))
 have hK1 := hK (.pointer (some ⟨w.heap.size, 0, none⟩)) (w.alloc (.cells (ecs0 c side vD go gi gs) 78)) (fun d' hd' => by injection hd' with hd'; subst hd'; exact h2 _ (ba) (Blk.new _ _ _) (Nat.le_trans hB0 hB.size)) (ba)
 obtain ⟨tmps, df⟩ := a
 simp only at h1 hK1
 have h1' := h1; rw [Array.getD_eq_getD_getElem?] at h1'
 clear h hK hs h2
 go_simp
 exact hK1
theorem sn_outbox {B0 : Nat} {m : Int} (hB0 : B0 ≤ W.heap.size) (hs : ∀ v w, ok s v w → v = .int .i64 m) (hd : ∀ (w : World) (g : Nat) (bu : Int), B0 ≤ g → 1 ≤ bu → bu ≤ 400 → ObC w g bu 0 none 0 0 false → ok d (.pointer (some ⟨g, 0, none⟩)) w) : StepOk Tryz.prog Q B W ok { dst := some d, op := .call { callee := .value (.func 54), args := #[.tmp s], argTypes := #[3] }, type := ty, pos := pos, after := af, guard := none } := by
 intro a w K hB h hK
 have h1 := hs _ _ (h s (by simp [slotsOf, Op.operands, Call.operands]))
 have hs0 := Nat.le_trans hB0 hB.size
 obtain ⟨tmps, df⟩ := a
 simp only at h1
 have h1' := h1; rw [Array.getD_eq_getD_getElem?] at h1'
 have HK := hid hK
 clear h hK hs
 go_simp
 refine (newoutbox_any m w).mono ?_
 rintro r w' ⟨g, bu, rfl, hg, h2, h3, h4, hb⟩
 exact HK.out _ w' (fun d' hd' => by injection hd' with hd'; subst hd'; exact hd _ _ _ (Nat.le_trans hs0 hg) h2 h3 h4) hb
theorem sn_inbox {B0 : Nat} {m : Int} (hB0 : B0 ≤ W.heap.size) (hs : ∀ v w, ok s v w → v = .int .i64 m) (hd : ∀ (w : World) (g : Nat) (wi : Int), B0 ≤ g → 1 ≤ wi → wi ≤ 400 → IbC w g wi 0 (-1) (.slice none 0 0) (.slice none 0 0) → ok d (.pointer (some ⟨g, 0, none⟩)) w) : StepOk Tryz.prog Q B W ok { dst := some d, op := .call { callee := .value (.func 55), args := #[.tmp s], argTypes := #[3] }, type := ty, pos := pos, after := af, guard := none } := by
 intro a w K hB h hK
 have h1 := hs _ _ (h s (by simp [slotsOf, Op.operands, Call.operands]))
 have hs0 := Nat.le_trans hB0 hB.size
 obtain ⟨tmps, df⟩ := a
 simp only at h1
 have h1' := h1; rw [Array.getD_eq_getD_getElem?] at h1'
 have HK := hid hK
 clear h hK hs
 go_simp
 refine (newinbox_any m w).mono ?_
 rintro r w' ⟨g, wi, rfl, hg, h2, h3, h4, hb⟩
 exact HK.out _ w' (fun d' hd' => by injection hd' with hd'; subst hd'; exact hd _ _ _ (Nat.le_trans hs0 hg) h2 h3 h4) hb
theorem sn_sched {B0 : Nat} {m : Int} (hB0 : B0 ≤ W.heap.size) (hs : ∀ v w, ok s v w → v = .int .i64 m) (hd : ∀ (w : World) (g : Nat), B0 ≤ g → CkOk w g → ok d (.pointer (some ⟨g, 0, none⟩)) w) : StepOk Tryz.prog Q B W ok { dst := some d, op := .call { callee := .value (.func 56), args := #[.tmp s], argTypes := #[3] }, type := ty, pos := pos, after := af, guard := none } := by
 intro a w K hB h hK
 have h1 := hs _ _ (h s (by simp [slotsOf, Op.operands, Call.operands]))
 have hs0 := Nat.le_trans hB0 hB.size
 obtain ⟨tmps, df⟩ := a
 simp only at h1
 have h1' := h1; rw [Array.getD_eq_getD_getElem?] at h1'
 have HK := hid hK
 clear h hK hs
 go_simp
 refine (newsched_any m w).mono ?_
 rintro r w' ⟨g, rfl, hg, h4, hb⟩
 exact HK.out _ w' (fun d' hd' => by injection hd' with hd'; subst hd'; exact hd _ _ (Nat.le_trans hs0 hg) h4) hb
set_option maxRecDepth 100000 in
theorem sn_build {s1 s4 s5 s6 s8 s9 : Tmp} {c : Cf} {side : Int} (h0 : ∀ v w, ok s v w → v = cfA c) (h1 : ∀ v w, ok s1 v w → v = .int .i64 side) (h5 : ∀ v w, ok s5 v w → v = .int .i64 c.c2)
  (hall : ∀ vD vo vi vs w, ok s4 vD w → ok s6 vo w → ok s8 vi w → ok s9 vs w → ∃ go gi gs, (∃ A n c, vD = .slice A n c) ∧ vo = .pointer (some ⟨go, 0, none⟩) ∧ vi = .pointer (some ⟨gi, 0, none⟩) ∧ vs = .pointer (some ⟨gs, 0, none⟩) ∧ ok d (.agg (ecs0 c side vD go gi gs)) w) :
  StepOk Tryz.prog Q B W ok { dst := some d, op := .build 78 #[(0, .tmp s), (1, .tmp s1), (4, .tmp s4), (5, .tmp s5), (6, .tmp s6), (8, .tmp s8), (9, .tmp s9)], type := ty, pos := pos, after := af, guard := none } := by
 intro a w K hB h hK
 have e0 := h0 _ _ (h s (by simp [slotsOf, Op.operands, Call.operands]))
 have e1 := h1 _ _ (h s1 (by simp [slotsOf, Op.operands, Call.operands]))
 have e5 := h5 _ _ (h s5 (by simp [slotsOf, Op.operands, Call.operands]))
 obtain ⟨go, gi, gs, ⟨A, n, cc, e4⟩, e6, e8, e9, h7⟩ := hall _ _ _ _ w (h s4 (by simp [slotsOf, Op.operands, Call.operands])) (h s6 (by simp [slotsOf, Op.operands, Call.operands])) (h s8 (by simp [slotsOf, Op.operands, Call.operands])) (h s9 (by simp [slotsOf, Op.operands, Call.operands]))
 rw [e4] at h7
 have hK1 := hK (.agg (ecs0 c side (.slice A n cc) go gi gs)) w (fun d' hd' => by injection hd' with hd'; subst hd'; exact h7) (Below.refl _ _)
 obtain ⟨tmps, df⟩ := a
 simp only at e0 e1 e4 e5 e6 e8 e9 hK1
 rw [Array.getD_eq_getD_getElem?] at e0 e1 e4 e5 e6 e8 e9
 clear h hK h0 h1 h5 hall h7
 go_simp
 exact hK1
end
end

section
theorem PathAt.base {B B' : Nat} {w : World} {gp gG gW : Nat} {u j b : Bool} {s : Int} {v : Value} {l : List O4} (h : PathAt B w gp gG gW u j b s v l) (hB : B' ≤ B) : PathAt B' w gp gG gW u j b s v l :=
 ⟨h.blk, h.g, h.wd, own_base h.l hB, h.ne, h.own, h.s0, ⟨Nat.le_trans hB h.ge.1, Nat.le_trans hB h.ge.2.1, Nat.le_trans hB h.ge.2.2⟩⟩
theorem Tryz.info119 : (Tryz.prog.info? 119).map (fun i => (i.zero, i.size, i.bytes)) = some (some (.pointer none), 1, 8) := by kernel_rfl
/-- One path more. -/
theorem EndS.putP {o o' : Nat → Nat} {k B : Nat} {w w' : World} {ge : Nat} {x : EndV} (h : EndS o k B w ge x) (s : Stp (fun c => c = k ∨ c = k + 1) o o' w w') {v : Value} {q : PathV} (hb : Blk w' ge (ecs { x with vP := v, ps := x.ps ++ [q] }) 78) (h1 : C1 o' k w' v (x.ps ++ [q])) (h9 : C9 o' k B w' x.ps.length q) (hn : x.ps.length + 1 ≤ 3) : EndS o' k B w' ge { x with vP := v, ps := x.ps ++ [q] } :=
 have kp := h.kp
 ⟨hb, (s.ag _ h.blk.lt).trans h.og, h.ge, h.kp, h1, h.c2.frm s (by omega), h.c3.frm s (by omega), h.c4.frm s (by omega), h.c5.frm s (by omega), h.c6.frm s (by omega), h.c7.frm s (by omega) (by omega), h.c8.frm s (by omega) (by omega), fun i p hi => by
  dsimp only at hi
  by_cases hl : i < x.ps.length
  ·rw [List.getElem?_append_left hl] at hi
   exact (h.c9 i p hi).frm s (by omega)
  ·have h2 := (List.getElem?_eq_some_iff.1 hi).1
   rw [List.length_append, List.length_cons, List.length_nil] at h2
   obtain rfl : i = x.ps.length := by omega
   rw [List.getElem?_append_right (Nat.le_refl _), Nat.sub_self, List.getElem?_cons_zero] at hi
   injection hi with hi
   subst hi
   exact h9, by dsimp only; rw [List.length_append]; exact hn⟩
theorem Blk.ty {w : World} {g : Nat} {cs cs' : Array Value} {t t' : TypeId} (h : Blk w g cs t) (k : Blk w g cs' t') : t = t' := by
 have h1 : w.heap[g]? = _ := h
 have h2 : w.heap[g]? = _ := k
 rw [h1] at h2
 injection h2 with h2
 injection h2
theorem Blk.row {w : World} {g B n : Nat} {cs : Array Value} {t e : TypeId} {v : Value} {xs : List Value} {z : Nat} (h : Blk w g cs t) (k : w.ownsRow B e z v n xs) (hte : t ≠ e) : ¬ v.ownBlock = some g := fun hv => by
 rcases k.2 with ⟨rfl, _⟩ | ⟨g', cap, cur, rfl, _, hg, _⟩
 ·cases hv
 ·injection hv with hv
  have e2 : g' = g := hv
  subst e2
  have h1 : w.heap[g']? = _ := h
  rw [h1] at hg
  injection hg with hg
  injection hg with _ hg
  exact hte hg
/-- Owners of a new end's parts. -/
def own0 (o : Nat → Nat) (H k ge : Nat) (vD : Value) (go gi gs : Nat) : Nat → Nat := fun j => if j < H then o j else if j = ge then k else if vD.ownBlock = some j then k + 2 else if j = go then k + 3 else if j = gi then k + 5 else if j = gs then k + 6 else 0
theorem new_start {o : Nat → Nat} {k B H : Nat} {w : World} {c : Cf} {side : Int} {n ge go gi gs : Nat} {vD : Value} {bu wi : Int} (kp : 0 < k) (hB : B ≤ H) (hge : H ≤ ge) (hbk : Blk w ge (ecs0 c side vD go gi gs) 78) (h : NE H w n vD go bu gi wi gs) :
  EndS (own0 o H k ge vD go gi gs) k B w ge ⟨c.c0, c.c1, c.c2, c.c3, c.c4, c.c5, c.c6, side, 0, .slice none 0 0, [], vD, List.replicate n 0, c.c2, go, bu, 0, .slice none 0 0, [], false, 0, .slice none 0 0, [], gi, wi, 0, -1, .slice none 0 0, [], .slice none 0 0, [], gs, .slice none 0 0, [], .slice none 0 0, [], 0, 0, 0, 0, 0, 0, 0, 0⟩ := by
 obtain ⟨d, ob, ib, sc, ⟨g1, g2, g3⟩, b1, b2, b3, b4⟩ := h
 obtain ⟨sa, sb, hs⟩ := sc
 have t1 : ge ≠ go := fun e => by subst e; exact absurd (hbk.ty ob) (by decide)
 have t2 : ge ≠ gi := fun e => by subst e; exact absurd (hbk.ty ib) (by decide)
 have t3 : ge ≠ gs := fun e => by subst e; exact absurd (hbk.ty hs) (by decide)
 have t4 : go ≠ gi := fun e => by subst e; exact absurd (ob.ty ib) (by decide)
 have t5 : go ≠ gs := fun e => by subst e; exact absurd (ob.ty hs) (by decide)
 have t6 : gi ≠ gs := fun e => by subst e; exact absurd (ib.ty hs) (by decide)
 have d1 := hbk.row d (by decide)
 have d2 := ob.row d (by decide)
 have d3 := ib.row d (by decide)
 have d4 := hs.row d (by decide)
 have og : own0 o H k ge vD go gi gs ge = k := by unfold own0; rw [if_neg (by omega), if_pos rfl]
 have oo : own0 o H k ge vD go gi gs go = k + 3 := by unfold own0; rw [if_neg (by omega), if_neg t1.symm, if_neg d2, if_pos rfl]
 have oi : own0 o H k ge vD go gi gs gi = k + 5 := by unfold own0; rw [if_neg (by omega), if_neg t2.symm, if_neg d3, if_neg t4.symm, if_pos rfl]
 have os : own0 o H k ge vD go gi gs gs = k + 6 := by unfold own0; rw [if_neg (by omega), if_neg t3.symm, if_neg d4, if_neg t5.symm, if_neg t6.symm, if_pos rfl]
 have nl : ∀ (j : Nat), ¬ (Value.slice none 0 0).ownBlock = some j := fun j h => by cases h
 refine ⟨hbk, og, by omega, kp, ⟨Sl.nil _ _, fun j hj => (nl j hj).elim⟩, ⟨?_, fun j hj => ⟨?_, (d.lt j hj).2⟩⟩, ⟨ob, BO.nil _ _, fun j hj => (nl j hj).elim, oo, Nat.le_trans hB g1, fun j hj => (nl j hj).elim⟩, ⟨Sl.nil _ _, fun j hj => (nl j hj).elim, Srt.nil⟩, ⟨?_, fun i hi => ?_⟩, ⟨⟨sa, sb, hs⟩, os, Nat.le_trans hB g3⟩, ⟨OutG.nil _ _ _ _ _ _ _, fun j hj => (nl j hj).elim⟩, ⟨OutG.nil _ _ _ _ _ _ _, fun j hj => (nl j hj).elim⟩, fun i p hi => by simp at hi, by simp⟩
 ·have := own_base d hB
  simpa using this
 ·have := (d.lt j hj).1
  unfold own0
  rw [if_neg (by omega), if_neg (show ¬ j = ge from fun e => d1 (e ▸ hj)), if_pos hj]
 ·exact ⟨ib, BO.nil _ _, Sl.nil _ _, Srt.nil, fun r h => by simp at h, by simp, by simp [frontL], show (0 : Int) ≤ wi ∧ wi ≤ 400 from ⟨by omega, by omega⟩, fun j hj => (nl j hj).elim, fun j hj => (nl j hj).elim, Nat.le_trans hB g2⟩
 ·rcases hi with rfl | hi | hi
  ·exact oi
  ·exact (nl i hi).elim
  ·exact (nl i hi).elim
/-- Half made. -/
def NewI (o : Nat → Nat) (k B : Nat) (w : World) (c : Cf) (gc ge j : Nat) (wr : World) : Prop :=
 ∃ (o' : Nat → Nat) (x : EndV), EndS o' k B wr ge x ∧ Below w.heap.size w wr ∧ Agr w.heap.size o o' ∧ Blk wr gc (cfL c).toArray 33 ∧ wr.ownsRow w.heap.size 119 1 x.vP j (x.ps.map fun p => .pointer (some ⟨p.gp, 0, none⟩)) ∧ x.ps.length = j ∧ said x.ps = 0 ∧ x.es = [] ∧ x.outs = [] ∧ x.due.length = c.c0.toNat ∧ x.c0 = c.c0 ∧ x.now = 0 ∧ x.ob = [] ∧ x.lost = [] ∧ x.got = []
/-- One path more, in memory. -/
theorem NewI.push {o : Nat → Nat} {k B : Nat} {w : World} {c : Cf} {gc ge j : Nat} {wr w2 w7 : World} {o' : Nat → Nat} {x : EndV} {gp gG gW : Nat} {v7 : Value} (hB : B ≤ w.heap.size) (hge : w.heap.size ≤ ge) (hgc : w.heap.size ≤ gc) (hcg : gc ≠ ge)
  (hx : EndS o' k B wr ge x) (hb : Below w.heap.size w wr) (ag : Agr w.heap.size o o') (hbc : Blk wr gc (cfL c).toArray 33) (hown : wr.ownsRow w.heap.size 119 1 x.vP j (x.ps.map fun p => .pointer (some ⟨p.gp, 0, none⟩))) (hps : x.ps.length = j) (hsaid : said x.ps = 0) (hr : x.es = [] ∧ x.outs = [] ∧ x.due.length = c.c0.toNat ∧ x.c0 = c.c0 ∧ x.now = 0 ∧ x.ob = [] ∧ x.lost = [] ∧ x.got = [])
  (hj : j < 3) (hp : PathAt wr.heap.size w2 gp gG gW false false false 0 (.slice none 0 0) []) (hb2 : Below wr.heap.size wr w2) (h7 : w7.ownsRow w.heap.size 119 1 v7 (j + 1) ((x.ps.map fun p => .pointer (some ⟨p.gp, 0, none⟩)) ++ [.pointer (some ⟨gp, 0, none⟩)])) (f7 : Frm (fun i => x.vP.ownBlock = some i) w2 w7) (hat : v7.ownBlock = x.vP.ownBlock ∨ ∀ i, v7.ownBlock = some i → w2.heap.size ≤ i) :
  NewI o k B w c gc ge (j + 1) (w7.setCell ⟨ge, 9, none⟩ v7) := by
 subst hps
 have kp := hx.kp
 have og := hx.og
 have gl := hx.blk.lt
 have ow := hx.c1.ow
 have hvg : ¬ x.vP.ownBlock = some ge := fun e => by have := (ow ge e).1; omega
 have f27 : Frm (fun i => x.vP.ownBlock = some i ∨ i = ge) w2 (w7.setCell ⟨ge, 9, none⟩ v7) := (f7.mono (fun i hi => .inl hi)).setCell (.inl (.inr rfl)) v7
 have fr : Frm (fun i => x.vP.ownBlock = some i ∨ i = ge) wr (w7.setCell ⟨ge, 9, none⟩ v7) := (Frm.of_below hb2).trans f27
 obtain ⟨W, hW⟩ := lx (w7.setCell ⟨ge, 9, none⟩ v7)
 have v7ge : ¬ v7.ownBlock = some ge := fun e => by
  rcases hat with h | h
  ·exact hvg (h ▸ e)
  ·have := h ge e
   have := hb2.size
   omega
 have oW : W.ownsRow w.heap.size 119 1 v7 (x.ps.length + 1) ((x.ps.map fun p => .pointer (some ⟨p.gp, 0, none⟩)) ++ [.pointer (some ⟨gp, 0, none⟩)]) := by
  rw [hW]
  exact own_frm h7 ((Frm.refl (· = ge) w7).setg (i := 9) v7) (fun i hi e => v7ge (e ▸ hi))
 have hv7 : ∀ i, v7.ownBlock = some i → i < wr.heap.size → x.vP.ownBlock = some i := fun i hi hl => by
  rcases hat with h | h
  ·exact h ▸ hi
  ·have := h i hi
   have := hb2.size
   omega
 obtain ⟨q1, q2, q3⟩ := hp.ge
 have l1 := hp.blk.lt
 have l2 := hp.g.lt
 have l3 := hp.wd.lt
 have hnew : ∀ i, wr.heap.size ≤ i → i < w2.heap.size → ¬ v7.ownBlock = some i := fun i h1 h2 h3 => by
  rcases hat with h | h
  ·have := (ow i (h ▸ h3)).2; omega
  ·have := h i h3; omega
 let o2 : Nat → Nat := fun i => if i < wr.heap.size then o' i else if v7.ownBlock = some i then k + 1 else k + 10 + x.ps.length
 have ag2 : Agr wr.heap.size o' o2 := fun i hi => if_pos hi
 have ob7 : ∀ i, v7.ownBlock = some i → o2 i = k + 1 := fun i hi => by
  by_cases hl : i < wr.heap.size
  ·show (if _ then _ else _) = _
   rw [if_pos hl]
   exact (ow i (hv7 i hi hl)).1
  ·show (if _ then _ else _) = _
   rw [if_neg hl, if_pos hi]
 have obn : ∀ i, wr.heap.size ≤ i → i < w2.heap.size → o2 i = k + 10 + x.ps.length := fun i h1 h2 => by
  show (if _ then _ else _) = _
  rw [if_neg (by omega), if_neg (hnew i h1 h2)]
 have st : Stp (fun c => c = k ∨ c = k + 1) o' o2 wr W := ⟨hW ▸ fr.mono (fun i hi => by rcases hi with h | h; exact .inr (ow i h).1; exact .inl (by rw [h]; exact og)), ag2⟩
 have e1 : ((x.ps ++ [(⟨gp, gG, gW, false, false, false, 0, .slice none 0 0, []⟩ : PathV)]).map fun p => (.pointer (some ⟨p.gp, 0, none⟩) : Value)) = (x.ps.map fun p => .pointer (some ⟨p.gp, 0, none⟩)) ++ [.pointer (some ⟨gp, 0, none⟩)] := by simp
 have PA : PathAt B W gp gG gW false false false 0 (.slice none 0 0) [] := by
  refine PathAt.frm (hp.base (Nat.le_trans hB hb.size)) (hW ▸ f27) (fun i hi hT => ?_)
  have hi2 : wr.heap.size ≤ i := by rcases hi with rfl | rfl | rfl | hi; exact q1; exact q2; exact q3; cases hi
  rcases hT with h | h
  ·have := (ow i h).2; omega
  ·omega
 have X := hx.putP st (v := v7) (q := ⟨gp, gG, gW, false, false, false, 0, .slice none 0 0, []⟩) (by rw [hW]; have := ((hx.blk.frm (Frm.of_below (S := fun _ => False) hb2) (fun h => h)).frm f7 hvg).set 9 v7; simpa using this) ⟨by rw [e1, List.length_append]; exact Sl.of_own oW (by intro u hu; rcases List.mem_append.1 hu with h | h; (obtain ⟨p, _, rfl⟩ := List.mem_map.1 h; rfl); (rw [List.mem_singleton.1 h]; rfl)), fun i hi => ⟨ob7 i hi, (oW.lt i hi).2⟩⟩
  ⟨PA, (fun i hi => by
   rcases hi with rfl | rfl | rfl | hi
   ·exact obn _ q1 l1
   ·exact obn _ q2 l2
   ·exact obn _ q3 l3
   ·cases hi), Nat.zero_le _⟩ (by omega)
 rw [← hW]
 refine ⟨o2, _, X, ?_, ag.trans ag2 hb.size, ?_, ?_, ?_, ?_, hr⟩
 ·rw [hW]
  exact Frm.below hb fr hb.size (fun i hi => by rcases hi with h | h; exact (hown.lt i h).1; omega)
 ·rw [hW]
  refine hbc.frm fr (fun h => ?_)
  rcases h with h | h
  ·exact hbc.row hown (by decide) h
  ·exact hcg h
 ·dsimp only
  rw [e1]
  exact oW
 ·simp
 ·have : said (x.ps ++ [(⟨gp, gG, gW, false, false, false, 0, .slice none 0 0, []⟩ : PathV)]) = said x.ps := by unfold said; simp
  rw [this]
  exact hsaid
def NewEndR (o : Nat → Nat) (k B : Nat) (w : World) (n : Nat) (side : Int) (e : Ending) (w' : World) : Prop :=
 ∃ (ge : Nat) (o' : Nat → Nat) (x : EndV), e = .returned (.pointer (some ⟨ge, 0, none⟩)) ∧ EndS o' k B w' ge x ∧ Stp (fun _ => False) o o' w w' ∧ EOk 0 x ∧ x.es = [] ∧ x.outs = []
set_option maxHeartbeats 16000000 in
set_option maxRecDepth 100000 in
theorem newend_any (o : Nat → Nat) (k B : Nat) (w : World) (c : Cf) (n : Nat) (side : Int) (hc : c.c0 = (n : Int)) (hn : 1 ≤ n ∧ n ≤ 3) (hB : B ≤ w.heap.size) (kp : 0 < k) :
  Calls Tryz.prog 38 #[cfA c, .int .i64 side] w fun e w' => NewEndR o k B w n side e w' := by
 obtain ⟨w0, hw0⟩ := lx (w.alloc (.cells (cfL c).toArray 33))
 obtain ⟨gc, hgc⟩ := lx (w.heap.size)
 have BC : Hid (Blk w0 gc (cfL c).toArray 33) := hid (by rw [hw0, hgc]; exact Blk.new _ _ _)
 have B0 : Hid (Below w.heap.size w w0) := hid (by rw [hw0]; exact ba)
 have hw0' : w.alloc (.cells #[.int .i64 c.c0, .int .i64 c.c1, .int .i64 c.c2, .int .i64 c.c3, .int .i64 c.c4, .int .i64 c.c5, .int .i64 c.c6] 33) = w0 := hw0.symm
 have sB : B ≤ w0.heap.size := Nat.le_trans hB B0.out.size
 have HGC := hid hgc
 have HC := hid hc
 have hgc' := hgc.symm
 clear hw0 hc hgc
 go_enter Tryz.func38, Tryz.ntmps38
 go_wp2_with fail
 clear hw0' hgc'
 refine wp_region_each (by kernel_rfl) 43 [1, 2] (by kernel_rfl) (by kernel_rfl) (okN w.heap.size c side n gc) (fun t v w w' h k => okN.mono t v w w' h k) ?_ ?_ ?_
 ·intro t ht
  rcases (by simpa using ht : t = 1 ∨ t = 2) with rfl | rfl
  ·rfl
  ·exact ⟨rfl, BC.out⟩
 ·refine .cons (sn_loadS (g := gc) (c := c) (fun v w h => h) (fun w => rfl)) ?_
  refine .cons (sn_move (u := .int .i64 side) (fun v w h => h) (fun w => rfl)) ?_
  refine .cons (sn_field0 (g := gc) (fun v w h => ⟨h.1, rfl, by have := h.2.cell 0; rw [← HC.out]; exact this⟩)) ?_
  refine .cons (sn_load (g := gc) (k := 0) (fun v w h => h) (fun w => rfl)) ?_
  refine .cons (sn_make (n := n) (B0 := w.heap.size) B0.out.size hn.2 (fun v w h => h) (fun w A c h => ⟨⟨A, c, rfl⟩, h⟩)) ?_
  refine .cons (sn_field2 (g := gc) (fun v w h => ⟨h.1, rfl, h.2.cell 2⟩)) ?_
  refine .cons (sn_load (g := gc) (k := 2) (fun v w h => h) (fun w => rfl)) ?_
  refine .cons (sn_field1 (g := gc) (fun v w h => ⟨h.1, rfl, h.2.cell 1⟩)) ?_
  refine .cons (sn_load (g := gc) (k := 1) (fun v w h => h) (fun w => rfl)) ?_
  refine .cons (sn_outbox (m := c.c1) (B0 := w.heap.size) B0.out.size (fun v w h => h) (fun w g bu h1 h2 h3 h4 => ⟨g, bu, rfl, h1, h2, h3, h4⟩)) ?_
  refine .cons (sn_field2 (g := gc) (fun v w h => ⟨h.1, rfl, h.2.cell 2⟩)) ?_
  refine .cons (sn_load (g := gc) (k := 2) (fun v w h => h) (fun w => rfl)) ?_
  refine .cons (sn_inbox (m := c.c2) (B0 := w.heap.size) B0.out.size (fun v w h => h) (fun w g bu h1 h2 h3 h4 => ⟨g, bu, rfl, h1, h2, h3, h4⟩)) ?_
  refine .cons (sn_field6 (g := gc) (fun v w h => ⟨h.1, rfl, h.2.cell 6⟩)) ?_
  refine .cons (sn_load (g := gc) (k := 6) (fun v w h => h) (fun w => rfl)) ?_
  refine .cons (sn_sched (m := c.c6) (B0 := w.heap.size) B0.out.size (fun v w h => h) (fun w g h1 h2 => ⟨g, rfl, h1, h2⟩)) ?_
  refine .cons (sn_build (c := c) (side := side) (fun v w h => h) (fun v w h => h) (fun v w h => h) (fun vD vo vi vs w h1 h2 h3 h4 => ?_)) ?_
  ·obtain ⟨⟨A, cc, rfl⟩, hd⟩ := h1
   obtain ⟨go, bu, rfl, g1, g2, g3, g4⟩ := h2
   obtain ⟨gi, wi, rfl, i1, i2, i3, i4⟩ := h3
   obtain ⟨gs, rfl, s1, s2⟩ := h4
   exact ⟨go, gi, gs, ⟨A, n, cc, rfl⟩, rfl, rfl, rfl, _, go, bu, gi, wi, gs, rfl, hd, g4, i4, s2, ⟨g1, i1, s1⟩, g2, g3, i2, i3⟩
  refine .cons (sn_box (c := c) (side := side) (B0 := w.heap.size) B0.out.size (fun v w h => ?_)) ?_
  ·obtain ⟨vD, go, bu, gi, wi, gs, rfl, hne⟩ := h
   exact ⟨vD, go, gi, gs, rfl, fun w' hb hk hB' => ⟨_, vD, go, bu, gi, wi, gs, rfl, hB', hk, hne.below hb⟩⟩
  refine .cons (sn_assign (fun v w h => h)) .nil
 ·intro f w1 L hL hf hb
  have hL2 : L = #[cfA c, .int .i64 side, .pointer (some ⟨gc, 0, none⟩), undef, .pointer none, f 5, undef, f 7, f 8, f 9, f 10, f 11, f 12, f 13, f 14, f 15, f 16, f 17, f 18, f 19, f 20, f 21, f 22, f 23, f 24, undef, undef, undef, undef, undef, undef, undef, undef, undef, undef, undef, undef, undef, undef, undef, undef, undef, undef] := hL.trans (by kernel_rfl)
  subst hL2
  clear hL
  obtain ⟨ge, vD, go, bu, gi, wi, gs, h5, hge, hbk, hne⟩ : okN w.heap.size c side n gc 5 (f 5) w1 := hf 5 (by kernel_rfl)
  clear hf
  rw [h5]
  clear h5
  have B1 := hid (bO B0.out hb)
  have BC1 := hid (BC.out.below hb)
  have START : Hid (NewI o k B w c gc ge 0 w1) := hid (by
   refine ⟨_, _, new_start (o := o) kp hB hge hbk hne, B1.out, (fun j hj => by unfold own0; rw [if_pos hj]), BC1.out, World.ownsRow_nil _ _ _ _, rfl, rfl, rfl, rfl, ?_, rfl, rfl, rfl, rfl, rfl⟩
   rw [List.length_replicate, HC.out]
   rfl)
  have hgce : gc ≠ ge := fun e => by have h1 := BC1.out; rw [e] at h1; exact absurd (h1.ty hbk) (by decide)
  have hcw : w.heap.size ≤ gc := by rw [HGC.out]; exact Nat.le_refl _
  have HI := hid Tryz.info119
  clear hbk hne hb
  go_wp2_with fail
  go_loopw [6] (fun i wr => ∃ j : Nat, j ≤ n ∧ i = .int .i64 j ∧ NewI o k B w c gc ge j wr) (fun i _ => n - (intOf i).toNat)
  case atStart => exact ⟨0, Nat.zero_le _, rfl, START.out⟩
  case round =>
   obtain ⟨j, hj, rfl, hI⟩ := hrel
   have HN := hid hI
   obtain ⟨o', x, hx, hbl, hag, hbc, hown, hps, hsaid, hrest⟩ := hI
   have k0 := hbc.cell 0
   simp only [List.getElem?_toArray, List.getElem?_cons_zero, HC.out] at k0
   by_cases hjn : j < n
   ·have j0 : (0 : Int) ≤ (j : Int) := by omega
    have j1 : (j : Int) < (n : Int) := by omega
    have iwj : IntKind.i64.wrap ((j : Int) + 1) = (j : Int) + 1 := iX
    have k1 := hbc.cell 1
    have k2 := hbc.cell 2
    have k3 := hbc.cell 3
    have k4 := hbc.cell 4
    have k5 := hbc.cell 5
    have k6 := hbc.cell 6
    simp only [gA, gZ, gC] at k1 k2 k3 k4 k5 k6
    obtain ⟨AP, cP, hvP, _, _⟩ := hx.c1.r.len
    have c9 := hx.blk.cell 9
    simp only [gA, gZ, gC] at c9
    rw [hvP, hps] at c9
    have gl := hx.blk.lt
    have PUSH : Hid (∀ w2 w7 gp gG gW v7, PathAt wr.heap.size w2 gp gG gW false false false 0 (.slice none 0 0) [] → Below wr.heap.size wr w2 → w7.ownsRow w.heap.size 119 1 v7 (j + 1) ((x.ps.map fun p => .pointer (some ⟨p.gp, 0, none⟩)) ++ [.pointer (some ⟨gp, 0, none⟩)]) → Frm (fun i => x.vP.ownBlock = some i) w2 w7 → (v7.ownBlock = x.vP.ownBlock ∨ ∀ i, v7.ownBlock = some i → w2.heap.size ≤ i) → NewI o k B w c gc ge (j + 1) (w7.setCell ⟨ge, 9, none⟩ v7)) := hid (fun w2 w7 gp gG gW v7 h1 h2 h3 h4 h5 => NewI.push hB hge hcw hgce hx hbl hag hbc hown hps hsaid hrest (by omega) h1 h2 h3 h4 h5)
    have hvg : Hid (¬ x.vP.ownBlock = some ge) := hid (fun e => by have := (hx.c1.ow ge e).1; have := hx.og; omega)
    have HX := hid hx
    have OWN : Hid (wr.ownsRow w.heap.size 119 1 (.slice AP j cP) j (x.ps.map fun p => .pointer (some ⟨p.gp, 0, none⟩))) := hid (by have := hown; rw [hvP, hps] at this; exact this)
    have HV : Hid (x.vP = .slice AP j cP) := hid (by rw [hvP, hps])
    have sw := hbl.size
    clear hx hbl hag hbc hown hps hsaid hrest hvP
    go_wp2_with fail
    first | (go_region_law (first | (rw [if_pos (by rfl)]; go_simp; (with_reducible refine (newpath_any wr.drew _ _ _ _ _ _ _).mono ?_); rintro e w2 ⟨gp, gG, gW, rfl, hp, hb2⟩; have HP : Hid (PathAt wr.heap.size w2 gp gG gW false false false 0 (.slice none 0 0) []) := hid hp; have B2 : Hid (Below wr.heap.size wr w2) := hid (Below.trans (Below.refl wr.heap.size wr).drew hb2); have s2 : wr.heap.size ≤ w2.heap.size := B2.out.size; clear hp hb2; have O2 : Hid (w2.ownsRow w.heap.size 119 1 (.slice AP j cP) j (x.ps.map fun p => .pointer (some ⟨p.gp, 0, none⟩))) := hid (own_frm OWN.out (Frm.of_below (S := fun _ => False) B2.out) (fun _ _ h => h)); have c9b := cell_mono c9 B2.out; have c9c := fun o => cell_in_alloc' c9b o) | (refine step_app (v := .slice AP j cP) w.heap.size (by rfl) _ _ 65 119 (.pointer none) 1 8 (by rfl) Tryz.underlying65 HI.out rfl (by omega) (by omega) (by rfl) (by rfl) (O2.out.alloc _) (Sl.one w2 119 (.pointer (some ⟨gp, 0, none⟩)) rfl) (by omega) (Nat.le_trans (Nat.le_trans sw s2) (by simp)) ?_; intro v7 w7 hown hfr hat; have F7 : Hid (Frm (fun i => x.vP.ownBlock = some i) w2 w7) := hid (by rw [HV.out]; exact ((Frm.refl _ w2).alloc _).trans hfr); have HAT : Hid (v7.ownBlock = x.vP.ownBlock ∨ ∀ i, v7.ownBlock = some i → w2.heap.size ≤ i) := hid (by rw [HV.out]; exact hat.imp id (fun e i hi => by rw [e] at hi; injection hi with hi; rw [← hi]; simp)); have O7 := hid hown; have e9 := (show w7.cell? ⟨ge, 9, none⟩ = wr.cell? ⟨ge, 9, none⟩ from World.cell?_of_block ((F7.out.block ge (Nat.lt_of_lt_of_le gl s2) hvg.out).trans (B2.out.block ge gl))).trans c9; have g9 := (show w7.frozen? ⟨ge, 9, none⟩ = wr.frozen? ⟨ge, 9, none⟩ from World.frozen?_of_block ((F7.out.block ge (Nat.lt_of_lt_of_le gl s2) hvg.out).trans (B2.out.block ge gl))).trans (HX.out.blk.free 9); obtain ⟨A7, c7, rfl⟩ := own_slice' hown; clear hown hfr hat))) | fail
    all_goals
     go_wp2_with fail
     go_roundw
     case rel => exact ⟨j + 1, hjn, by go_num, PUSH.out _ _ _ _ _ _ HP.out B2.out O7.out F7.out HAT.out⟩
     case measure => simp [intOf]; omega
   ·have j1 : ¬ (j : Int) < (n : Int) := by omega
    obtain rfl : j = n := by omega
    clear hx hbl hag hbc hown hps hsaid hrest
    go_wp2_with fail
    go_ret
    obtain ⟨o', x, hx, hbl, hag, hbc, hown, hps, hsaid, r1, r2, r3, r4, r5, r6, r7, r8⟩ := HN.out
    refine ⟨ge, o', x, rfl, hx, ⟨Frm.of_below hbl, hag⟩, ⟨by omega, by rw [r3, HC.out, hps]; rfl, by rw [r4, HC.out, hps], by rw [r5]; omega, by rw [r6]; simp, by rw [r7]; simp, by rw [r8]; simp, by rw [r1]; simp, by rw [r2]; simp, by omega⟩, r1, r2⟩
end
end Go.Proofs.YtdneakejlbabeaaGreat
