/- Parts of the walk: Jp. -/
import Derived.Test.YtdneakejlbabeaaGreatM12
import Derived.Test.YtdneakejlbabeaaGreatM19
import Derived.Test.YtdneakejlbabeaaGreatM36
import Derived.Test.YtdneakejlbabeaaGreatM14
namespace Go.Proofs.YtdneakejlbabeaaGreat
open Go.RowKit
set_option linter.unusedVariables false
set_option linter.unusedSimpArgs false

/-- A configuration. -/
structure Cf where
  c0 : Int
  c1 : Int
  c2 : Int
  c3 : Int
  c4 : Int
  c5 : Int
  c6 : Int
abbrev cfL (c : Cf) : List Value := [.int .i64 c.c0, .int .i64 c.c1, .int .i64 c.c2, .int .i64 c.c3, .int .i64 c.c4, .int .i64 c.c5, .int .i64 c.c6]
abbrev cfA (c : Cf) : Value := .agg #[.int .i64 c.c0, .int .i64 c.c1, .int .i64 c.c2, .int .i64 c.c3, .int .i64 c.c4, .int .i64 c.c5, .int .i64 c.c6]
/-- What the parts of a new end are. -/
structure NE (B : Nat) (w : World) (n : Nat) (vD : Value) (go : Nat) (bu : Int) (gi : Nat) (wi : Int) (gs : Nat) : Prop where
  d : w.ownsRow B 3 1 vD n (List.replicate n (.int .i64 0))
  o : ObC w go bu 0 none 0 0 false
  i : IbC w gi wi 0 (-1) (.slice none 0 0) (.slice none 0 0)
  s : CkOk w gs
  ge : B ≤ go ∧ B ≤ gi ∧ B ≤ gs
  bd : 1 ≤ bu ∧ bu ≤ 400 ∧ 1 ≤ wi ∧ wi ≤ 400
theorem NE.below {B : Nat} {w w' : World} {n : Nat} {vD : Value} {go : Nat} {bu : Int} {gi : Nat} {wi : Int} {gs : Nat} (h : NE B w n vD go bu gi wi gs) (k : Below w.heap.size w w') : NE B w' n vD go bu gi wi gs :=
  ⟨own_frm h.d (Frm.of_below (S := fun _ => False) k) (fun _ _ h => h), h.o.below k, h.i.below k, h.s.frm (Frm.of_below (S := fun _ => False) k) (fun h => h), h.ge, h.bd⟩
abbrev ecs0 (c : Cf) (side : Int) (vD : Value) (go gi gs : Nat) : Array Value := #[.int .i64 c.c0, .int .i64 c.c1, .int .i64 c.c2, .int .i64 c.c3, .int .i64 c.c4, .int .i64 c.c5, .int .i64 c.c6, .int .i64 side, .int .i64 0, .slice none 0 0, vD, .int .i64 c.c2, .pointer (some ⟨go, 0, none⟩), .int .i64 0, .slice none 0 0, .pointer (some ⟨gi, 0, none⟩), .pointer (some ⟨gs, 0, none⟩), .slice none 0 0, .slice none 0 0,
  .int .i64 0, .int .i64 0, .int .i64 0, .int .i64 0, .int .i64 0, .int .i64 0, .int .i64 0, .int .i64 0]
def okN (B : Nat) (c : Cf) (side : Int) (n gc : Nat) (t : Tmp) (v : Value) (w : World) : Prop :=
  match t with
  | 1 => v = .int .i64 side
  | 2 => v = .pointer (some ⟨gc, 0, none⟩) ∧ Blk w gc (cfL c).toArray 33
  | 7 => v = cfA c
  | 8 => v = .int .i64 side
  | 9 => v = .pointer (some ⟨gc, 0, none⟩) ∧ w.cell? ⟨gc, 0, none⟩ = some (.int .i64 (n : Int))
  | 10 => v = .int .i64 (n : Int)
  | 11 => (∃ A c, v = .slice A n c) ∧ w.ownsRow B 3 1 v n (List.replicate n (.int .i64 0))
  | 12 => v = .pointer (some ⟨gc, 2, none⟩) ∧ w.cell? ⟨gc, 2, none⟩ = some (.int .i64 c.c2)
  | 13 => v = .int .i64 c.c2
  | 14 => v = .pointer (some ⟨gc, 1, none⟩) ∧ w.cell? ⟨gc, 1, none⟩ = some (.int .i64 c.c1)
  | 15 => v = .int .i64 c.c1
  | 16 => ∃ g bu, v = .pointer (some ⟨g, 0, none⟩) ∧ B ≤ g ∧ 1 ≤ bu ∧ bu ≤ 400 ∧ ObC w g bu 0 none 0 0 false
  | 17 => v = .pointer (some ⟨gc, 2, none⟩) ∧ w.cell? ⟨gc, 2, none⟩ = some (.int .i64 c.c2)
  | 18 => v = .int .i64 c.c2
  | 19 => ∃ g wi, v = .pointer (some ⟨g, 0, none⟩) ∧ B ≤ g ∧ 1 ≤ wi ∧ wi ≤ 400 ∧ IbC w g wi 0 (-1) (.slice none 0 0) (.slice none 0 0)
  | 20 => v = .pointer (some ⟨gc, 6, none⟩) ∧ w.cell? ⟨gc, 6, none⟩ = some (.int .i64 c.c6)
  | 21 => v = .int .i64 c.c6
  | 22 => ∃ g, v = .pointer (some ⟨g, 0, none⟩) ∧ B ≤ g ∧ CkOk w g
  | 23 => ∃ vD go bu gi wi gs, v = .agg (ecs0 c side vD go gi gs) ∧ NE B w n vD go bu gi wi gs
  | 24 => ∃ ge vD go bu gi wi gs, v = .pointer (some ⟨ge, 0, none⟩) ∧ B ≤ ge ∧ Blk w ge (ecs0 c side vD go gi gs) 78 ∧ NE B w n vD go bu gi wi gs
  | 5 => ∃ ge vD go bu gi wi gs, v = .pointer (some ⟨ge, 0, none⟩) ∧ B ≤ ge ∧ Blk w ge (ecs0 c side vD go gi gs) 78 ∧ NE B w n vD go bu gi wi gs
  | _ => True
theorem cell_mono {w w' : World} {p : Addr} {u : Value} (h : w.cell? p = some u) (k : Below w.heap.size w w') : w'.cell? p = some u := (k.cell (World.block_lt_of_cell? w p h)).trans h
theorem okN.mono {B : Nat} {c : Cf} {side : Int} {n gc : Nat} (t : Tmp) (v : Value) (w w' : World) (h : okN B c side n gc t v w) (k : Below w.heap.size w w') : okN B c side n gc t v w' := by
  unfold okN at h ⊢
  split
  · exact h
  · exact ⟨h.1, h.2.below k⟩
  · exact h
  · exact h
  · exact ⟨h.1, cell_mono h.2 k⟩
  · exact h
  · exact ⟨h.1, own_frm h.2 (Frm.of_below (S := fun _ => False) k) (fun _ _ h => h)⟩
  · exact ⟨h.1, cell_mono h.2 k⟩
  · exact h
  · exact ⟨h.1, cell_mono h.2 k⟩
  · exact h
  · obtain ⟨g, bu, h1, h2, h3, h4, h5⟩ := h
    exact ⟨g, bu, h1, h2, h3, h4, h5.below k⟩
  · exact ⟨h.1, cell_mono h.2 k⟩
  · exact h
  · obtain ⟨g, bu, h1, h2, h3, h4, h5⟩ := h
    exact ⟨g, bu, h1, h2, h3, h4, h5.below k⟩
  · exact ⟨h.1, cell_mono h.2 k⟩
  · exact h
  · obtain ⟨g, h1, h2, h3⟩ := h
    exact ⟨g, h1, h2, h3.frm (Frm.of_below (S := fun _ => False) k) (fun h => h)⟩
  · obtain ⟨vD, go, bu, gi, wi, gs, h1, h2⟩ := h
    exact ⟨vD, go, bu, gi, wi, gs, h1, h2.below k⟩
  · obtain ⟨ge, vD, go, bu, gi, wi, gs, h1, h2, h3, h4⟩ := h
    exact ⟨ge, vD, go, bu, gi, wi, gs, h1, h2, h3.below k, h4.below k⟩
  · obtain ⟨ge, vD, go, bu, gi, wi, gs, h1, h2, h3, h4⟩ := h
    exact ⟨ge, vD, go, bu, gi, wi, gs, h1, h2, h3.below k, h4.below k⟩
  · trivial
section
variable {Q : Exit → Go.Act → World → Prop} {B : Nat} {W : World} {ok : Tmp → Value → World → Prop} {d s : Tmp} {ty : TypeId} {pos : String} {af : Array Edge}
theorem sn_move {u : Value} (hs : ∀ v w, ok s v w → v = u) (hd : ∀ w, ok d u w) : StepOk Tryz.prog Q B W ok { dst := some d, op := .move (.tmp s), type := ty, pos := pos, after := af, guard := none } := by
  intro a w K hB h hK
  have h1 := hs _ _ (h s (by simp [slotsOf, Op.operands, Call.operands]))
  have hK1 := hK u w (fun d' hd' => by injection hd' with hd'; subst hd'; exact hd _) (Below.refl _ _)
  obtain ⟨tmps, df⟩ := a
  simp only at h1 hK1
  have h1' := h1; rw [Array.getD_eq_getD_getElem?] at h1'
  clear h hK hs hd
  go_simp
  exact hK1
theorem sn_assign (hs : ∀ v w, ok s v w → ok d v w) : StepOk Tryz.prog Q B W ok { dst := some d, op := .assign (.tmp s), type := ty, pos := pos, after := af, guard := none } := by
  intro a w K hB h hK
  have h1 := hs _ _ (h s (by simp [slotsOf, Op.operands, Call.operands]))
  have hK1 := hK (a.tmps.getD s undef) w (fun d' hd' => by injection hd' with hd'; subst hd'; exact h1) (Below.refl _ _)
  obtain ⟨tmps, df⟩ := a
  simp only at hK1
  simp only [Act.put] at hK1
  rw [Array.getD_eq_getD_getElem?] at hK1
  clear h hK hs h1
  go_simp
  exact hK1
set_option maxRecDepth 100000 in
theorem sn_field0 {g : Nat} (hs : ∀ v w, ok s v w → v = .pointer (some ⟨g, 0, none⟩) ∧ ok d (.pointer (some ⟨g, 0, none⟩)) w) : StepOk Tryz.prog Q B W ok { dst := some d, op := .fieldAddr 33 (.tmp s) 0, type := ty, pos := pos, after := af, guard := none } := by
  intro a w K hB h hK
  obtain ⟨h1, h2⟩ := hs _ _ (h s (by simp [slotsOf, Op.operands, Call.operands]))
  have hK1 := hK (.pointer (some ⟨g, 0, none⟩)) w (fun d' hd' => by injection hd' with hd'; subst hd'; exact h2) (Below.refl _ _)
  obtain ⟨tmps, df⟩ := a
  simp only at h1 hK1
  have h1' := h1; rw [Array.getD_eq_getD_getElem?] at h1'
  clear h hK hs h2
  go_simp
  exact hK1
set_option maxRecDepth 100000 in
theorem sn_field1 {g : Nat} (hs : ∀ v w, ok s v w → v = .pointer (some ⟨g, 0, none⟩) ∧ ok d (.pointer (some ⟨g, 1, none⟩)) w) : StepOk Tryz.prog Q B W ok { dst := some d, op := .fieldAddr 33 (.tmp s) 1, type := ty, pos := pos, after := af, guard := none } := by
  intro a w K hB h hK
  obtain ⟨h1, h2⟩ := hs _ _ (h s (by simp [slotsOf, Op.operands, Call.operands]))
  have hK1 := hK (.pointer (some ⟨g, 1, none⟩)) w (fun d' hd' => by injection hd' with hd'; subst hd'; exact h2) (Below.refl _ _)
  obtain ⟨tmps, df⟩ := a
  simp only at h1 hK1
  have h1' := h1; rw [Array.getD_eq_getD_getElem?] at h1'
  clear h hK hs h2
  go_simp
  exact hK1
set_option maxRecDepth 100000 in
theorem sn_field2 {g : Nat} (hs : ∀ v w, ok s v w → v = .pointer (some ⟨g, 0, none⟩) ∧ ok d (.pointer (some ⟨g, 2, none⟩)) w) : StepOk Tryz.prog Q B W ok { dst := some d, op := .fieldAddr 33 (.tmp s) 2, type := ty, pos := pos, after := af, guard := none } := by
  intro a w K hB h hK
  obtain ⟨h1, h2⟩ := hs _ _ (h s (by simp [slotsOf, Op.operands, Call.operands]))
  have hK1 := hK (.pointer (some ⟨g, 2, none⟩)) w (fun d' hd' => by injection hd' with hd'; subst hd'; exact h2) (Below.refl _ _)
  obtain ⟨tmps, df⟩ := a
  simp only at h1 hK1
  have h1' := h1; rw [Array.getD_eq_getD_getElem?] at h1'
  clear h hK hs h2
  go_simp
  exact hK1
set_option maxRecDepth 100000 in
theorem sn_field6 {g : Nat} (hs : ∀ v w, ok s v w → v = .pointer (some ⟨g, 0, none⟩) ∧ ok d (.pointer (some ⟨g, 6, none⟩)) w) : StepOk Tryz.prog Q B W ok { dst := some d, op := .fieldAddr 33 (.tmp s) 6, type := ty, pos := pos, after := af, guard := none } := by
  intro a w K hB h hK
  obtain ⟨h1, h2⟩ := hs _ _ (h s (by simp [slotsOf, Op.operands, Call.operands]))
  have hK1 := hK (.pointer (some ⟨g, 6, none⟩)) w (fun d' hd' => by injection hd' with hd'; subst hd'; exact h2) (Below.refl _ _)
  obtain ⟨tmps, df⟩ := a
  simp only at h1 hK1
  have h1' := h1; rw [Array.getD_eq_getD_getElem?] at h1'
  clear h hK hs h2
  go_simp
  exact hK1
theorem sn_load {g k : Nat} {u : Value} (hs : ∀ v w, ok s v w → v = .pointer (some ⟨g, k, none⟩) ∧ w.cell? ⟨g, k, none⟩ = some u) (hd : ∀ w, ok d u w) : StepOk Tryz.prog Q B W ok { dst := some d, op := .load 3 (.tmp s), type := ty, pos := pos, after := af, guard := none } := by
  intro a w K hB h hK
  obtain ⟨h1, h2⟩ := hs _ _ (h s (by simp [slotsOf, Op.operands, Call.operands]))
  have hK1 := hK u w (fun d' hd' => by injection hd' with hd'; subst hd'; exact hd _) (Below.refl _ _)
  obtain ⟨tmps, df⟩ := a
  simp only at h1 hK1
  have h1' := h1; rw [Array.getD_eq_getD_getElem?] at h1'
  clear h hK hs hd
  go_simp
  exact hK1
theorem sn_loadS {g : Nat} {c : Cf} (hs : ∀ v w, ok s v w → v = .pointer (some ⟨g, 0, none⟩) ∧ Blk w g (cfL c).toArray 33) (hd : ∀ w, ok d (cfA c) w) : StepOk Tryz.prog Q B W ok { dst := some d, op := .load 33 (.tmp s), type := ty, pos := pos, after := af, guard := none } := by
  intro a w K hB h hK
  obtain ⟨h1, h2⟩ := hs _ _ (h s (by simp [slotsOf, Op.operands, Call.operands]))
  have hK1 := hK (cfA c) w (fun d' hd' => by injection hd' with hd'; subst hd'; exact hd _) (Below.refl _ _)
  obtain ⟨tmps, df⟩ := a
  simp only at h1 hK1
  have h1' := h1; rw [Array.getD_eq_getD_getElem?] at h1'
  have a0 := h2.cell 0
  have a1 := h2.cell 1
  have a2 := h2.cell 2
  have a3 := h2.cell 3
  have a4 := h2.cell 4
  have a5 := h2.cell 5
  have a6 := h2.cell 6
  simp only [List.getElem?_toArray, List.getElem?_cons_zero, List.getElem?_cons_succ] at a0 a1 a2 a3 a4 a5 a6
  clear h hK hs hd h2
  go_simp
  exact hK1
theorem sn_make {n B0 : Nat} (hB0 : B0 ≤ W.heap.size) (hn : n ≤ 3) (hs : ∀ v w, ok s v w → v = .int .i64 (n : Int)) (hd : ∀ w A c, w.ownsRow B0 3 1 (.slice A n c) n (List.replicate n (.int .i64 0)) → ok d (.slice A n c) w) : StepOk Tryz.prog Q B W ok { dst := some d, op := .makeSlice 66 (.tmp s) (.tmp s), type := ty, pos := pos, after := af, guard := none } := by
  intro a w K hB h hK
  have h1 := hs _ _ (h s (by simp [slotsOf, Op.operands, Call.operands]))
  have hm := make_eq (P := Tryz.prog) 66 3 (.int .i64 0) 8 Tryz.underlying66 Tryz.info3 rfl n (by omega) (by omega) w
  have ho := make_own w B0 3 (.int .i64 0) n (Nat.le_trans hB0 hB.size) (by simp [maxLen]; omega)
  have hK1 := hK (.slice (some ⟨w.heap.size, 0, none⟩) n n) (w.alloc (.cells (madeCells #[.int .i64 0] n) 3)) (fun d' hd' => by injection hd' with hd'; subst hd'; exact hd _ _ _ ho) ((Below.refl _ _).alloc (Nat.le_refl _) _)
  obtain ⟨tmps, df⟩ := a
  simp only at h1 hK1
  have h1' := h1; rw [Array.getD_eq_getD_getElem?] at h1'
  clear h hK hs hd
  go_simp
  exact hK1
theorem sn_box {c : Cf} {side : Int} {B0 : Nat} (hB0 : B0 ≤ W.heap.size) (hs : ∀ v w, ok s v w → ∃ vD go gi gs, v = .agg (ecs0 c side vD go gi gs) ∧ ∀ w', Below w.heap.size w w' → Blk w' w.heap.size (ecs0 c side vD go gi gs) 78 → B0 ≤ w.heap.size → ok d (.pointer (some ⟨w.heap.size, 0, none⟩)) w') : StepOk Tryz.prog Q B W ok { dst := some d, op := .box 78 (.tmp s), type := ty, pos := pos, after := af, guard := none } := by
  intro a w K hB h hK
  obtain ⟨vD, go, gi, gs, h1, h2⟩ := hs _ _ (h s (by simp [slotsOf, Op.operands, Call.operands]))
  have hK1 := hK (.pointer (some ⟨w.heap.size, 0, none⟩)) (w.alloc (.cells (ecs0 c side vD go gi gs) 78)) (fun d' hd' => by injection hd' with hd'; subst hd'; exact h2 _ ((Below.refl _ _).alloc (Nat.le_refl _) _) (Blk.new _ _ _) (Nat.le_trans hB0 hB.size)) ((Below.refl _ _).alloc (Nat.le_refl _) _)
  obtain ⟨tmps, df⟩ := a
  simp only at h1 hK1
  have h1' := h1; rw [Array.getD_eq_getD_getElem?] at h1'
  clear h hK hs h2
  go_simp
  exact hK1
theorem sn_outbox {B0 : Nat} {m : Int} (hB0 : B0 ≤ W.heap.size) (hs : ∀ v w, ok s v w → v = .int .i64 m) (hd : ∀ (w : World) (g : Nat) (bu : Int), B0 ≤ g → 1 ≤ bu → bu ≤ 400 → ObC w g bu 0 none 0 0 false → ok d (.pointer (some ⟨g, 0, none⟩)) w) : StepOk Tryz.prog Q B W ok { dst := some d, op := .call { callee := .value (.func 54), args := #[.tmp s], argTypes := #[3] }, type := ty, pos := pos, after := af, guard := none } := by
  intro a w K hB h hK
  have h1 := hs _ _ (h s (by simp [slotsOf, Op.operands, Call.operands]))
  have hs0 := Nat.le_trans hB0 hB.size
  obtain ⟨tmps, df⟩ := a
  simp only at h1
  have h1' := h1; rw [Array.getD_eq_getD_getElem?] at h1'
  have HK := Lib.hid hK
  clear h hK hs
  go_simp
  refine (newoutbox_any m w).mono ?_
  rintro r w' ⟨g, bu, rfl, hg, h2, h3, h4, hb⟩
  exact HK.out _ w' (fun d' hd' => by injection hd' with hd'; subst hd'; exact hd _ _ _ (Nat.le_trans hs0 hg) h2 h3 h4) hb
theorem sn_inbox {B0 : Nat} {m : Int} (hB0 : B0 ≤ W.heap.size) (hs : ∀ v w, ok s v w → v = .int .i64 m) (hd : ∀ (w : World) (g : Nat) (wi : Int), B0 ≤ g → 1 ≤ wi → wi ≤ 400 → IbC w g wi 0 (-1) (.slice none 0 0) (.slice none 0 0) → ok d (.pointer (some ⟨g, 0, none⟩)) w) : StepOk Tryz.prog Q B W ok { dst := some d, op := .call { callee := .value (.func 55), args := #[.tmp s], argTypes := #[3] }, type := ty, pos := pos, after := af, guard := none } := by
  intro a w K hB h hK
  have h1 := hs _ _ (h s (by simp [slotsOf, Op.operands, Call.operands]))
  have hs0 := Nat.le_trans hB0 hB.size
  obtain ⟨tmps, df⟩ := a
  simp only at h1
  have h1' := h1; rw [Array.getD_eq_getD_getElem?] at h1'
  have HK := Lib.hid hK
  clear h hK hs
  go_simp
  refine (newinbox_any m w).mono ?_
  rintro r w' ⟨g, wi, rfl, hg, h2, h3, h4, hb⟩
  exact HK.out _ w' (fun d' hd' => by injection hd' with hd'; subst hd'; exact hd _ _ _ (Nat.le_trans hs0 hg) h2 h3 h4) hb
theorem sn_sched {B0 : Nat} {m : Int} (hB0 : B0 ≤ W.heap.size) (hs : ∀ v w, ok s v w → v = .int .i64 m) (hd : ∀ (w : World) (g : Nat), B0 ≤ g → CkOk w g → ok d (.pointer (some ⟨g, 0, none⟩)) w) : StepOk Tryz.prog Q B W ok { dst := some d, op := .call { callee := .value (.func 56), args := #[.tmp s], argTypes := #[3] }, type := ty, pos := pos, after := af, guard := none } := by
  intro a w K hB h hK
  have h1 := hs _ _ (h s (by simp [slotsOf, Op.operands, Call.operands]))
  have hs0 := Nat.le_trans hB0 hB.size
  obtain ⟨tmps, df⟩ := a
  simp only at h1
  have h1' := h1; rw [Array.getD_eq_getD_getElem?] at h1'
  have HK := Lib.hid hK
  clear h hK hs
  go_simp
  refine (newsched_any m w).mono ?_
  rintro r w' ⟨g, rfl, hg, h4, hb⟩
  exact HK.out _ w' (fun d' hd' => by injection hd' with hd'; subst hd'; exact hd _ _ (Nat.le_trans hs0 hg) h4) hb
set_option maxRecDepth 100000 in
theorem sn_build {s1 s4 s5 s6 s8 s9 : Tmp} {c : Cf} {side : Int} (h0 : ∀ v w, ok s v w → v = cfA c) (h1 : ∀ v w, ok s1 v w → v = .int .i64 side) (h5 : ∀ v w, ok s5 v w → v = .int .i64 c.c2)
    (hall : ∀ vD vo vi vs w, ok s4 vD w → ok s6 vo w → ok s8 vi w → ok s9 vs w → ∃ go gi gs, (∃ A n c, vD = .slice A n c) ∧ vo = .pointer (some ⟨go, 0, none⟩) ∧ vi = .pointer (some ⟨gi, 0, none⟩) ∧ vs = .pointer (some ⟨gs, 0, none⟩) ∧ ok d (.agg (ecs0 c side vD go gi gs)) w) :
    StepOk Tryz.prog Q B W ok { dst := some d, op := .build 78 #[(0, .tmp s), (1, .tmp s1), (4, .tmp s4), (5, .tmp s5), (6, .tmp s6), (8, .tmp s8), (9, .tmp s9)], type := ty, pos := pos, after := af, guard := none } := by
  intro a w K hB h hK
  have e0 := h0 _ _ (h s (by simp [slotsOf, Op.operands, Call.operands]))
  have e1 := h1 _ _ (h s1 (by simp [slotsOf, Op.operands, Call.operands]))
  have e5 := h5 _ _ (h s5 (by simp [slotsOf, Op.operands, Call.operands]))
  obtain ⟨go, gi, gs, ⟨A, n, cc, e4⟩, e6, e8, e9, h7⟩ := hall _ _ _ _ w (h s4 (by simp [slotsOf, Op.operands, Call.operands])) (h s6 (by simp [slotsOf, Op.operands, Call.operands])) (h s8 (by simp [slotsOf, Op.operands, Call.operands])) (h s9 (by simp [slotsOf, Op.operands, Call.operands]))
  rw [e4] at h7
  have hK1 := hK (.agg (ecs0 c side (.slice A n cc) go gi gs)) w (fun d' hd' => by injection hd' with hd'; subst hd'; exact h7) (Below.refl _ _)
  obtain ⟨tmps, df⟩ := a
  simp only at e0 e1 e4 e5 e6 e8 e9 hK1
  rw [Array.getD_eq_getD_getElem?] at e0 e1 e4 e5 e6 e8 e9
  clear h hK h0 h1 h5 hall h7
  go_simp
  exact hK1
end
end Go.Proofs.YtdneakejlbabeaaGreat
