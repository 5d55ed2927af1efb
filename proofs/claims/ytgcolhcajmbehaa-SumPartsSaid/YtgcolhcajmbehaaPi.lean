/- The operations of SumParts' last region, kind by kind. -/
import Derived.Test.YtgcolhcajmbehaaEachI
import Derived.Test.YtgcolhcajmbehaaAid
import Derived.Deep.AppendLies
namespace Go.Proofs.Ytgcolhcajmbehaa
open Go.RowKit
set_option linter.unusedVariables false
set_option linter.unusedSimpArgs false

def okL (vl : List (Option Value)) (t : Tmp) (v : Value) : Prop := match vl.getD t none with
  | some u => v = u
  | none => True
def OneBox (w : World) (v : Value) (d : Int) : Prop := ∃ g, v = .slice (some ⟨g, 0, none⟩) 1 1 ∧ Blk w g #[.int .u8 d] 5
structure JP (K n : Nat) (b : List Nat) (sel : Tmp → Option Value) (w : World) : Prop where
  c0 : ∀ v, sel 87 = some v → sel 89 = none → w.ownsRow K 5 1 v n (u8s b)
  x0 : ∀ v, sel 88 = some v → sel 89 = none → OneBox w v 0
  a0 : ∀ v, sel 89 = some v → sel 90 = none → w.ownsRow K 5 1 v (n + 1) (u8s (b ++ [0]))
  c1 : ∀ v, sel 93 = some v → sel 95 = none → w.ownsRow K 5 1 v n (u8s b)
  x1 : ∀ v, sel 94 = some v → sel 95 = none → OneBox w v 1
  a1 : ∀ v, sel 95 = some v → sel 96 = none → w.ownsRow K 5 1 v (n + 1) (u8s (b ++ [1]))
  o1 : ∀ v, sel 93 = some v → ∃ u, sel 90 = some u
  o2 : ∀ v, sel 90 = some v → ∃ u, sel 89 = some u
  o3 : ∀ v, sel 95 = some v → ∃ u, sel 93 = some u
theorem OneBox.below {w w' : World} {v : Value} {d : Int} (h : OneBox w v d) (k : Below w.heap.size w w') : OneBox w' v d := by
  obtain ⟨g, h1, h2⟩ := h
  exact ⟨g, h1, h2.below k⟩
theorem OneBox.sl {w : World} {v : Value} {d : Int} (h : OneBox w v d) : Sl w 1 v 1 [.int .u8 d] := by
  obtain ⟨g, rfl, h2⟩ := h
  refine ⟨_, 1, rfl, Nat.le_refl _, by simp [maxLen], rfl, by simp [Value.oneCell'], fun _ => ⟨_, rfl, fun j u hj => ?_⟩⟩
  have ha : (⟨g, 0, none⟩ : Addr).add j = ⟨g, j, none⟩ := by unfold Addr.add; split <;> simp_all
  rw [ha, h2.cell j]
  simpa using hj
theorem OneBox.new (w : World) (d : Int) : OneBox (w.alloc (.cells #[.int .u8 d] 5)) (.slice (some ⟨w.heap.size, 0, none⟩) 1 1) d := ⟨_, rfl, Blk.new w _ 5⟩
theorem own_below {w w' : World} {K m : Nat} {v : Value} {xs : List Value} (h : w.ownsRow K 5 1 v m xs) (k : Below w.heap.size w w') : w'.ownsRow K 5 1 v m xs := by
  refine ⟨h.1, ?_⟩
  rcases h.2 with hn | ⟨g, cap, cur, rfl, hb, hgg, rest⟩
  · exact .inl hn
  · exact .inr ⟨g, cap, cur, rfl, hb, (k.block g (Array.getElem?_eq_some_iff.1 hgg).1).trans hgg, rest⟩
section
variable {K n : Nat} {b : List Nat} {sel : Tmp → Option Value} {w w' : World}
theorem JP.below (h : JP K n b sel w) (k : Below w.heap.size w w') : JP K n b sel w' :=
  ⟨fun v h1 h2 => own_below (h.c0 v h1 h2) k, fun v h1 h2 => (h.x0 v h1 h2).below k, fun v h1 h2 => own_below (h.a0 v h1 h2) k, fun v h1 h2 => own_below (h.c1 v h1 h2) k, fun v h1 h2 => (h.x1 v h1 h2).below k, fun v h1 h2 => own_below (h.a1 v h1 h2) k, h.o1, h.o2, h.o3⟩
theorem sel_ne {d t : Tmp} {u : Value} (h : t ≠ d) : selPut sel (some d) u t = sel t := by simp only [selPut, if_neg h]
theorem sel_eq {d : Tmp} {u : Value} : selPut sel (some d) u d = some u := by simp only [selPut, if_true]
def spots : List Tmp := [87, 88, 89, 90, 93, 94, 95, 96]
theorem JP.put (h : JP K n b sel w) (d : Tmp) (u : Value) (hd : d ∉ spots) : JP K n b (selPut sel (some d) u) w := by
  simp only [spots, List.mem_cons, List.not_mem_nil, or_false, not_or] at hd
  obtain ⟨h1, h2, h3, h4, h5, h6, h7, h8⟩ := hd
  have e1 : selPut sel (some d) u 87 = sel 87 := sel_ne (Ne.symm h1)
  have e2 : selPut sel (some d) u 88 = sel 88 := sel_ne (Ne.symm h2)
  have e3 : selPut sel (some d) u 89 = sel 89 := sel_ne (Ne.symm h3)
  have e4 : selPut sel (some d) u 90 = sel 90 := sel_ne (Ne.symm h4)
  have e5 : selPut sel (some d) u 93 = sel 93 := sel_ne (Ne.symm h5)
  have e6 : selPut sel (some d) u 94 = sel 94 := sel_ne (Ne.symm h6)
  have e7 : selPut sel (some d) u 95 = sel 95 := sel_ne (Ne.symm h7)
  have e8 : selPut sel (some d) u 96 = sel 96 := sel_ne (Ne.symm h8)
  refine ⟨?_, ?_, ?_, ?_, ?_, ?_, ?_, ?_, ?_⟩
  · rw [e1, e3]; exact h.c0
  · rw [e2, e3]; exact h.x0
  · rw [e3, e4]; exact h.a0
  · rw [e5, e7]; exact h.c1
  · rw [e6, e7]; exact h.x1
  · rw [e7, e8]; exact h.a1
  · rw [e5, e4]; exact h.o1
  · rw [e4, e3]; exact h.o2
  · rw [e7, e5]; exact h.o3
def II (BW : World → Prop) (vl : List (Option Value)) (K n : Nat) (b : List Nat) (sel : Tmp → Option Value) (w : World) : Prop := BW w ∧ (∀ t v, sel t = some v → okL vl t v) ∧ JP K n b sel w
theorem ok_put {vl : List (Option Value)} (h : ∀ t v, sel t = some v → okL vl t v) {d : Tmp} {u : Value} (hd : okL vl d u) : ∀ t v, selPut sel (some d) u t = some v → okL vl t v := by
  intro t v ht
  by_cases e : t = d
  · subst e
    rw [sel_eq] at ht
    injection ht with ht
    rw [← ht]
    exact hd
  · rw [sel_ne e] at ht
    exact h t v ht
end

section
variable {Q : Exit → Act → World → Prop} {ops : Array Oper} {BW : World → Prop} {vl : List (Option Value)} {K n : Nat} {b : List Nat} {d s s1 s2 s3 : Tmp} {ty : TypeId} {pos : String} {af : Array Edge} {gu : Option (Nat × Bool)}
theorem pi_move {u1 : Value} (hs1 : ∀ v, okL vl s1 v → v = u1)  (hd : d ∉ spots) (hdv : okL vl d u1) :
    StepI Try.prog Q ops (II BW vl K n b) { dst := some d, op := .move (.tmp s1), type := ty, pos := pos, after := af, guard := gu } := by
  intro a w K' sel hI hval hsl haft hno hw hK
  obtain ⟨hB, hok, hJ⟩ := hI
  obtain ⟨v1, g1⟩ := hsl s1 (by simp [slotsOf, Op.operands, Call.operands])
  have e1 := hs1 v1 (hok s1 v1 g1)
  have h1 := hval s1 v1 g1
  rw [e1] at h1
  have hK1 := hK u1 w ⟨hB, ok_put hok hdv, hJ.put d _ hd⟩
  obtain ⟨tmps, df⟩ := a
  simp only at h1 hK1
  have h1' := h1; rw [Array.getD_eq_getD_getElem?] at h1'
  clear hK hval hsl haft hno hw hok hJ hB hdv hd hs1 g1 e1
  go_simp
  exact hK1
theorem pi_assign {u1 : Value} (hs1 : ∀ v, okL vl s1 v → v = u1)  (hd : d ∉ spots) (hdv : okL vl d u1) :
    StepI Try.prog Q ops (II BW vl K n b) { dst := some d, op := .assign (.tmp s1), type := ty, pos := pos, after := af, guard := gu } := by
  intro a w K' sel hI hval hsl haft hno hw hK
  obtain ⟨hB, hok, hJ⟩ := hI
  obtain ⟨v1, g1⟩ := hsl s1 (by simp [slotsOf, Op.operands, Call.operands])
  have e1 := hs1 v1 (hok s1 v1 g1)
  have h1 := hval s1 v1 g1
  rw [e1] at h1
  have hK1 := hK u1 w ⟨hB, ok_put hok hdv, hJ.put d _ hd⟩
  obtain ⟨tmps, df⟩ := a
  simp only at h1 hK1
  have h1' := h1; rw [Array.getD_eq_getD_getElem?] at h1'
  clear hK hval hsl haft hno hw hok hJ hB hdv hd hs1 g1 e1
  go_simp
  exact hK1
theorem pi_eql {k : IntKind} {x y : Int} {q : Bool} {tt : TypeId} (hs1 : ∀ v, okL vl s1 v → v = .int k x) (hs2 : ∀ v, okL vl s2 v → v = .int k y) (hq : (x == y) = q) (hd : d ∉ spots) (hdv : okL vl d (.bool q)) :
    StepI Try.prog Q ops (II BW vl K n b) { dst := some d, op := .binOp .eql tt (.tmp s1) (.tmp s2) tt, type := ty, pos := pos, after := af, guard := gu } := by
  intro a w K' sel hI hval hsl haft hno hw hK
  obtain ⟨hB, hok, hJ⟩ := hI
  obtain ⟨v1, g1⟩ := hsl s1 (by simp [slotsOf, Op.operands, Call.operands])
  have e1 := hs1 v1 (hok s1 v1 g1)
  have h1 := hval s1 v1 g1
  rw [e1] at h1
  obtain ⟨v2, g2⟩ := hsl s2 (by simp [slotsOf, Op.operands, Call.operands])
  have e2 := hs2 v2 (hok s2 v2 g2)
  have h2 := hval s2 v2 g2
  rw [e2] at h2
  have hK1 := hK (.bool q) w ⟨hB, ok_put hok hdv, hJ.put d _ hd⟩
  obtain ⟨tmps, df⟩ := a
  simp only at h1 h2 hK1
  have h1' := h1; rw [Array.getD_eq_getD_getElem?] at h1'
  have h2' := h2; rw [Array.getD_eq_getD_getElem?] at h2'
  clear hK hval hsl haft hno hw hok hJ hB hdv hd hs1 g1 e1 hs2 g2 e2
  go_simp
  exact hK1
theorem pi_eqlb {x y : Bool} {q : Bool} (hs1 : ∀ v, okL vl s1 v → v = .bool x) (hs2 : ∀ v, okL vl s2 v → v = .bool y) (hq : (x == y) = q) (hd : d ∉ spots) (hdv : okL vl d (.bool q)) :
    StepI Try.prog Q ops (II BW vl K n b) { dst := some d, op := .binOp .eql 4 (.tmp s1) (.tmp s2) 4, type := ty, pos := pos, after := af, guard := gu } := by
  intro a w K' sel hI hval hsl haft hno hw hK
  obtain ⟨hB, hok, hJ⟩ := hI
  obtain ⟨v1, g1⟩ := hsl s1 (by simp [slotsOf, Op.operands, Call.operands])
  have e1 := hs1 v1 (hok s1 v1 g1)
  have h1 := hval s1 v1 g1
  rw [e1] at h1
  obtain ⟨v2, g2⟩ := hsl s2 (by simp [slotsOf, Op.operands, Call.operands])
  have e2 := hs2 v2 (hok s2 v2 g2)
  have h2 := hval s2 v2 g2
  rw [e2] at h2
  have hK1 := hK (.bool q) w ⟨hB, ok_put hok hdv, hJ.put d _ hd⟩
  obtain ⟨tmps, df⟩ := a
  simp only at h1 h2 hK1
  have h1' := h1; rw [Array.getD_eq_getD_getElem?] at h1'
  have h2' := h2; rw [Array.getD_eq_getD_getElem?] at h2'
  clear hK hval hsl haft hno hw hok hJ hB hdv hd hs1 g1 e1 hs2 g2 e2
  go_simp
  exact hK1
theorem pi_neq {k : IntKind} {x y : Int} {q : Bool} {tt : TypeId} (hs1 : ∀ v, okL vl s1 v → v = .int k x) (hs2 : ∀ v, okL vl s2 v → v = .int k y) (hq : (x != y) = q) (hd : d ∉ spots) (hdv : okL vl d (.bool q)) :
    StepI Try.prog Q ops (II BW vl K n b) { dst := some d, op := .binOp .neq tt (.tmp s1) (.tmp s2) tt, type := ty, pos := pos, after := af, guard := gu } := by
  intro a w K' sel hI hval hsl haft hno hw hK
  obtain ⟨hB, hok, hJ⟩ := hI
  obtain ⟨v1, g1⟩ := hsl s1 (by simp [slotsOf, Op.operands, Call.operands])
  have e1 := hs1 v1 (hok s1 v1 g1)
  have h1 := hval s1 v1 g1
  rw [e1] at h1
  obtain ⟨v2, g2⟩ := hsl s2 (by simp [slotsOf, Op.operands, Call.operands])
  have e2 := hs2 v2 (hok s2 v2 g2)
  have h2 := hval s2 v2 g2
  rw [e2] at h2
  have hK1 := hK (.bool q) w ⟨hB, ok_put hok hdv, hJ.put d _ hd⟩
  obtain ⟨tmps, df⟩ := a
  simp only at h1 h2 hK1
  have h1' := h1; rw [Array.getD_eq_getD_getElem?] at h1'
  have h2' := h2; rw [Array.getD_eq_getD_getElem?] at h2'
  clear hK hval hsl haft hno hw hok hJ hB hdv hd hs1 g1 e1 hs2 g2 e2
  go_simp
  exact hK1
theorem pi_add {x : Int} (hs1 : ∀ v, okL vl s1 v → v = .int .i64 x) (hx : IntKind.i64.wrap (x + 1) = x + 1) (hd : d ∉ spots) (hdv : okL vl d (.int .i64 (x + 1))) :
    StepI Try.prog Q ops (II BW vl K n b) { dst := some d, op := .binOp .add 3 (.tmp s1) (.const (.int .i64 1)) 3, type := ty, pos := pos, after := af, guard := gu } := by
  intro a w K' sel hI hval hsl haft hno hw hK
  obtain ⟨hB, hok, hJ⟩ := hI
  obtain ⟨v1, g1⟩ := hsl s1 (by simp [slotsOf, Op.operands, Call.operands])
  have e1 := hs1 v1 (hok s1 v1 g1)
  have h1 := hval s1 v1 g1
  rw [e1] at h1
  have hK1 := hK (.int .i64 (x + 1)) w ⟨hB, ok_put hok hdv, hJ.put d _ hd⟩
  obtain ⟨tmps, df⟩ := a
  simp only at h1 hK1
  have h1' := h1; rw [Array.getD_eq_getD_getElem?] at h1'
  clear hK hval hsl haft hno hw hok hJ hB hdv hd hs1 g1 e1
  go_simp
  exact hK1
theorem pi_index {gb m c i : Nat} (hs1 : ∀ v, okL vl s1 v → v = .slice (some ⟨gb, 0, none⟩) m c) (hs2 : ∀ v, okL vl s2 v → v = .int .i64 i) (hi : i < m) (hd : d ∉ spots) (hdv : okL vl d (.pointer (some ⟨gb, i, none⟩))) :
    StepI Try.prog Q ops (II BW vl K n b) { dst := some d, op := .indexAddr 22 (.tmp s1) (.tmp s2), type := ty, pos := pos, after := af, guard := gu } := by
  intro a w K' sel hI hval hsl haft hno hw hK
  obtain ⟨hB, hok, hJ⟩ := hI
  obtain ⟨v1, g1⟩ := hsl s1 (by simp [slotsOf, Op.operands, Call.operands])
  have e1 := hs1 v1 (hok s1 v1 g1)
  have h1 := hval s1 v1 g1
  rw [e1] at h1
  obtain ⟨v2, g2⟩ := hsl s2 (by simp [slotsOf, Op.operands, Call.operands])
  have e2 := hs2 v2 (hok s2 v2 g2)
  have h2 := hval s2 v2 g2
  rw [e2] at h2
  have i0 : (0 : Int) ≤ (i : Int) := by omega
  have i1 : (i : Int) < (m : Int) := by omega
  have hK1 := hK (.pointer (some ⟨gb, i, none⟩)) w ⟨hB, ok_put hok hdv, hJ.put d _ hd⟩
  obtain ⟨tmps, df⟩ := a
  simp only at h1 h2 hK1
  have h1' := h1; rw [Array.getD_eq_getD_getElem?] at h1'
  have h2' := h2; rw [Array.getD_eq_getD_getElem?] at h2'
  clear hK hval hsl haft hno hw hok hJ hB hdv hd hs1 g1 e1 hs2 g2 e2
  go_simp
  exact hK1
theorem pi_load {gb i : Nat} {u : Value} (hs1 : ∀ v, okL vl s1 v → v = .pointer (some ⟨gb, i, none⟩)) (hc : ∀ w, BW w → w.cell? ⟨gb, i, none⟩ = some u) (hone : u.oneCell' = true) (hd : d ∉ spots) (hdv : okL vl d u) :
    StepI Try.prog Q ops (II BW vl K n b) { dst := some d, op := .load 5 (.tmp s1), type := ty, pos := pos, after := af, guard := gu } := by
  intro a w K' sel hI hval hsl haft hno hw hK
  obtain ⟨hB, hok, hJ⟩ := hI
  obtain ⟨v1, g1⟩ := hsl s1 (by simp [slotsOf, Op.operands, Call.operands])
  have e1 := hs1 v1 (hok s1 v1 g1)
  have h1 := hval s1 v1 g1
  rw [e1] at h1
  have c1 := hc w hB
  clear hc
  have hK1 := hK u w ⟨hB, ok_put hok hdv, hJ.put d _ hd⟩
  obtain ⟨tmps, df⟩ := a
  simp only at h1 hK1
  have h1' := h1; rw [Array.getD_eq_getD_getElem?] at h1'
  clear hK hval hsl haft hno hw hok hJ hB hdv hd hs1 g1 e1
  go_simp
  exact hK1
theorem pi_pick {x y : Bool} (hs1 : ∀ v, okL vl s1 v → v = .bool x) (hs2 : ∀ v, okL vl s2 v → v = .bool y)  (hd : d ∉ spots) (hdv : okL vl d (.bool (x && y))) :
    StepI Try.prog Q ops (II BW vl K n b) { dst := some d, op := .pick (.tmp s1) (.tmp s2) (.const (.bool false)), type := ty, pos := pos, after := af, guard := gu } := by
  intro a w K' sel hI hval hsl haft hno hw hK
  obtain ⟨hB, hok, hJ⟩ := hI
  obtain ⟨v1, g1⟩ := hsl s1 (by simp [slotsOf, Op.operands, Call.operands])
  have e1 := hs1 v1 (hok s1 v1 g1)
  have h1 := hval s1 v1 g1
  rw [e1] at h1
  obtain ⟨v2, g2⟩ := hsl s2 (by simp [slotsOf, Op.operands, Call.operands])
  have e2 := hs2 v2 (hok s2 v2 g2)
  have h2 := hval s2 v2 g2
  rw [e2] at h2
  have hK1 := hK (.bool (x && y)) w ⟨hB, ok_put hok hdv, hJ.put d _ hd⟩
  obtain ⟨tmps, df⟩ := a
  simp only at h1 h2 hK1
  have h1' := h1; rw [Array.getD_eq_getD_getElem?] at h1'
  have h2' := h2; rw [Array.getD_eq_getD_getElem?] at h2'
  clear hK hval hsl haft hno hw hok hJ hB hdv hd hs1 g1 e1 hs2 g2 e2
  go_simp
  exact hK1
theorem pi_of {m : Nat} {vt vb : Value} {l : List Nat} {r : Nat} (hs1 : ∀ v, okL vl s1 v → v = vt) (hs2 : ∀ v, okL vl s2 v → v = vb) (hT : ∀ w, BW w → Sl w 1 vt 256 (u32s (tabN 256))) (hb : ∀ w, BW w → Sl w 1 vb m (u8s l)) (ht2 : ∀ x ∈ tabN 256, x < 4294967296) (hb2 : ∀ x ∈ l, x < 256) (hr : r = ofN (tabN 256) l) (hd : d ∉ spots) (hdv : okL vl d (.int .u32 (r : Nat))) :
    StepI Try.prog Q ops (II BW vl K n b) { dst := some d, op := .call { callee := .value (.func 8), args := #[.tmp s1, .tmp s2], argTypes := #[24, 22] }, type := ty, pos := pos, after := af, guard := gu } := by
  intro a w K' sel hI hval hsl haft hno hw hK
  obtain ⟨hB, hok, hJ⟩ := hI
  obtain ⟨v1, g1⟩ := hsl s1 (by simp [slotsOf, Op.operands, Call.operands])
  have e1 := hs1 v1 (hok s1 v1 g1)
  have h1 := hval s1 v1 g1
  rw [e1] at h1
  obtain ⟨v2, g2⟩ := hsl s2 (by simp [slotsOf, Op.operands, Call.operands])
  have e2 := hs2 v2 (hok s2 v2 g2)
  have h2 := hval s2 v2 g2
  rw [e2] at h2
  have T1 := Lib.hid (hT w hB)
  have T2 := Lib.hid (hb w hB)
  have T3 := Lib.hid ht2
  have T4 := Lib.hid hb2
  have T5 := Lib.hid hr
  clear hT hb ht2 hb2 hr
  have hK1 := hK (.int .u32 (r : Nat)) w ⟨hB, ok_put hok hdv, hJ.put d _ hd⟩
  obtain ⟨tmps, df⟩ := a
  simp only at h1 h2 hK1
  have h1' := h1; rw [Array.getD_eq_getD_getElem?] at h1'
  have h2' := h2; rw [Array.getD_eq_getD_getElem?] at h2'
  clear hK hval hsl haft hno hw hok hJ hB hdv hd hs1 g1 e1 hs2 g2 e2
  go_simp
  refine (of_val w _ _ 256 m (tabN 256) l r T1.out T2.out rfl T3.out T4.out T5.out).mono ?_
  rintro e _ ⟨rfl, rfl⟩
  exact hK1
theorem own_low {w : World} {base base' m : Nat} {v : Value} {xs : List Value} (h : w.ownsRow base 5 1 v m xs) (hb : base' ≤ base) : w.ownsRow base' 5 1 v m xs := own_lower h hb
theorem pi_copy0 {vb : Value} (hs : ∀ v, okL vl 86 v → v = vb) (hb0 : ∀ w, BW w → Sl w 1 vb n (u8s b)) (hn : n ≤ 1000) (hn0 : 0 < n) (hBB : ∀ W w1, BW W → Below W.heap.size W w1 → BW w1) (hBz : ∀ W, BW W → K ≤ W.heap.size) (hdv : ∀ v, okL vl 87 v) :
    StepI Try.prog Q ops (II BW vl K n b) { dst := some 87, op := .call { callee := .value (.func 10), args := #[.tmp 86], argTypes := #[22] }, type := ty, pos := pos, after := af, guard := gu } := by
  intro a w K' sel hI hval hsl haft hno hw hK
  obtain ⟨hB, hok, hJ⟩ := hI
  obtain ⟨v86, g86⟩ := hsl 86 (by simp [slotsOf, Op.operands, Call.operands])
  have h86 := hval 86 v86 g86
  have e1 := hs v86 (hok 86 v86 g86)
  rw [e1] at h86
  have hK1 : ∀ v w', w'.ownsRow w.heap.size 5 1 v n (u8s b) → Below w.heap.size w w' → K' (a.put (some 87) v) w' := fun v w' hon hb => hK v w' ⟨hBB _ _ hB hb, ok_put hok (hdv v), ⟨(fun v hv _ => by rw [sel_eq] at hv; injection hv with hv; rw [← hv]; exact own_low hon (hBz w hB)), (fun v hv h9 => (hJ.x0 v (by rwa [sel_ne (by decide)] at hv) (by rwa [sel_ne (by decide)] at h9)).below hb), (fun v hv h9 => own_below (hJ.a0 v (by rwa [sel_ne (by decide)] at hv) (by rwa [sel_ne (by decide)] at h9)) hb), (fun v hv h9 => own_below (hJ.c1 v (by rwa [sel_ne (by decide)] at hv) (by rwa [sel_ne (by decide)] at h9)) hb), (fun v hv h9 => (hJ.x1 v (by rwa [sel_ne (by decide)] at hv) (by rwa [sel_ne (by decide)] at h9)).below hb), (fun v hv h9 => own_below (hJ.a1 v (by rwa [sel_ne (by decide)] at hv) (by rwa [sel_ne (by decide)] at h9)) hb), (fun v hv => by rw [sel_ne (by decide)] at hv ⊢; exact hJ.o1 v hv), (fun v hv => by rw [sel_ne (by decide)] at hv ⊢; exact hJ.o2 v hv), (fun v hv => by rw [sel_ne (by decide)] at hv ⊢; exact hJ.o3 v hv)⟩⟩
  have T := Lib.hid (hb0 w hB)
  obtain ⟨tmps, df⟩ := a
  simp only at h86 hK1
  have h2 := h86; rw [Array.getD_eq_getD_getElem?] at h2
  clear hK hval hsl haft hno hw hok hJ hB hdv hb0 hBB hBz hs g86
  go_simp
  refine (copy_own w _ n b T.out hn hn0).mono ?_
  rintro e w' ⟨g, c, rfl, hg, hl, hon, hb⟩
  exact hK1 _ w' hon hb
theorem pi_copy1 {vb : Value} (hs : ∀ v, okL vl 92 v → v = vb) (hb0 : ∀ w, BW w → Sl w 1 vb n (u8s b)) (hn : n ≤ 1000) (hn0 : 0 < n) (hBB : ∀ W w1, BW W → Below W.heap.size W w1 → BW w1) (hBz : ∀ W, BW W → K ≤ W.heap.size) (hdv : ∀ v, okL vl 93 v) (ho : ∃ e ∈ af, Region.binds .any e = true ∧ ∃ p, ops[e.on]? = some p ∧ p.dst = some 90) :
    StepI Try.prog Q ops (II BW vl K n b) { dst := some 93, op := .call { callee := .value (.func 10), args := #[.tmp 92], argTypes := #[22] }, type := ty, pos := pos, after := af, guard := gu } := by
  intro a w K' sel hI hval hsl haft hno hw hK
  obtain ⟨hB, hok, hJ⟩ := hI
  obtain ⟨v92, g92⟩ := hsl 92 (by simp [slotsOf, Op.operands, Call.operands])
  have h92 := hval 92 v92 g92
  have e1 := hs v92 (hok 92 v92 g92)
  rw [e1] at h92
  have haf : ∃ u, sel 90 = some u := by obtain ⟨e, he, hb, p, hp, hd⟩ := ho; exact haft e he hb p 90 hp hd
  have hK1 : ∀ v w', w'.ownsRow w.heap.size 5 1 v n (u8s b) → Below w.heap.size w w' → K' (a.put (some 93) v) w' := fun v w' hon hb => hK v w' ⟨hBB _ _ hB hb, ok_put hok (hdv v), ⟨(fun v hv h9 => own_below (hJ.c0 v (by rwa [sel_ne (by decide)] at hv) (by rwa [sel_ne (by decide)] at h9)) hb), (fun v hv h9 => (hJ.x0 v (by rwa [sel_ne (by decide)] at hv) (by rwa [sel_ne (by decide)] at h9)).below hb), (fun v hv h9 => own_below (hJ.a0 v (by rwa [sel_ne (by decide)] at hv) (by rwa [sel_ne (by decide)] at h9)) hb), (fun v hv _ => by rw [sel_eq] at hv; injection hv with hv; rw [← hv]; exact own_low hon (hBz w hB)), (fun v hv h9 => (hJ.x1 v (by rwa [sel_ne (by decide)] at hv) (by rwa [sel_ne (by decide)] at h9)).below hb), (fun v hv h9 => own_below (hJ.a1 v (by rwa [sel_ne (by decide)] at hv) (by rwa [sel_ne (by decide)] at h9)) hb), (fun v hv => by rw [sel_ne (by decide)]; exact haf), (fun v hv => by rw [sel_ne (by decide)] at hv ⊢; exact hJ.o2 v hv), (fun v hv => by exact ⟨_, sel_eq⟩)⟩⟩
  have T := Lib.hid (hb0 w hB)
  obtain ⟨tmps, df⟩ := a
  simp only at h92 hK1
  have h2 := h92; rw [Array.getD_eq_getD_getElem?] at h2
  clear hK hval hsl haft hno hw hok hJ hB hdv hb0 hBB hBz hs g92 ho haf
  go_simp
  refine (copy_own w _ n b T.out hn hn0).mono ?_
  rintro e w' ⟨g, c, rfl, hg, hl, hon, hb⟩
  exact hK1 _ w' hon hb
theorem pi_box0  (hBB : ∀ W w1, BW W → Below W.heap.size W w1 → BW w1) (hdv : ∀ v, okL vl 88 v) :
    StepI Try.prog Q ops (II BW vl K n b) { dst := some 88, op := .buildSlice 22 1 #[(0, .const (.int .u8 0))], type := ty, pos := pos, after := af, guard := gu } := by
  intro a w K' sel hI hval hsl haft hno hw hK
  obtain ⟨hB, hok, hJ⟩ := hI
  have hb : Below w.heap.size w (w.alloc (.cells #[.int .u8 0] 5)) := (Below.refl _ _).alloc (Nat.le_refl _) _
  have hK1 := hK (.slice (some ⟨w.heap.size, 0, none⟩) 1 1) _ ⟨hBB _ _ hB hb, ok_put hok (hdv _), ⟨(fun v hv h9 => own_below (hJ.c0 v (by rwa [sel_ne (by decide)] at hv) (by rwa [sel_ne (by decide)] at h9)) hb), (fun v hv _ => by rw [sel_eq] at hv; injection hv with hv; rw [← hv]; exact OneBox.new w 0), (fun v hv h9 => own_below (hJ.a0 v (by rwa [sel_ne (by decide)] at hv) (by rwa [sel_ne (by decide)] at h9)) hb), (fun v hv h9 => own_below (hJ.c1 v (by rwa [sel_ne (by decide)] at hv) (by rwa [sel_ne (by decide)] at h9)) hb), (fun v hv h9 => (hJ.x1 v (by rwa [sel_ne (by decide)] at hv) (by rwa [sel_ne (by decide)] at h9)).below hb), (fun v hv h9 => own_below (hJ.a1 v (by rwa [sel_ne (by decide)] at hv) (by rwa [sel_ne (by decide)] at h9)) hb), (fun v hv => by rw [sel_ne (by decide)] at hv ⊢; exact hJ.o1 v hv), (fun v hv => by rw [sel_ne (by decide)] at hv ⊢; exact hJ.o2 v hv), (fun v hv => by rw [sel_ne (by decide)] at hv ⊢; exact hJ.o3 v hv)⟩⟩
  obtain ⟨tmps, df⟩ := a
  simp only at hK1
  clear hK hval hsl haft hno hw hok hJ hB hdv hBB hb
  go_simp
  exact hK1
theorem pi_box1  (hBB : ∀ W w1, BW W → Below W.heap.size W w1 → BW w1) (hdv : ∀ v, okL vl 94 v) :
    StepI Try.prog Q ops (II BW vl K n b) { dst := some 94, op := .buildSlice 22 1 #[(0, .const (.int .u8 1))], type := ty, pos := pos, after := af, guard := gu } := by
  intro a w K' sel hI hval hsl haft hno hw hK
  obtain ⟨hB, hok, hJ⟩ := hI
  have hb : Below w.heap.size w (w.alloc (.cells #[.int .u8 1] 5)) := (Below.refl _ _).alloc (Nat.le_refl _) _
  have hK1 := hK (.slice (some ⟨w.heap.size, 0, none⟩) 1 1) _ ⟨hBB _ _ hB hb, ok_put hok (hdv _), ⟨(fun v hv h9 => own_below (hJ.c0 v (by rwa [sel_ne (by decide)] at hv) (by rwa [sel_ne (by decide)] at h9)) hb), (fun v hv h9 => (hJ.x0 v (by rwa [sel_ne (by decide)] at hv) (by rwa [sel_ne (by decide)] at h9)).below hb), (fun v hv h9 => own_below (hJ.a0 v (by rwa [sel_ne (by decide)] at hv) (by rwa [sel_ne (by decide)] at h9)) hb), (fun v hv h9 => own_below (hJ.c1 v (by rwa [sel_ne (by decide)] at hv) (by rwa [sel_ne (by decide)] at h9)) hb), (fun v hv _ => by rw [sel_eq] at hv; injection hv with hv; rw [← hv]; exact OneBox.new w 1), (fun v hv h9 => own_below (hJ.a1 v (by rwa [sel_ne (by decide)] at hv) (by rwa [sel_ne (by decide)] at h9)) hb), (fun v hv => by rw [sel_ne (by decide)] at hv ⊢; exact hJ.o1 v hv), (fun v hv => by rw [sel_ne (by decide)] at hv ⊢; exact hJ.o2 v hv), (fun v hv => by rw [sel_ne (by decide)] at hv ⊢; exact hJ.o3 v hv)⟩⟩
  obtain ⟨tmps, df⟩ := a
  simp only at hK1
  clear hK hval hsl haft hno hw hok hJ hB hdv hBB hb
  go_simp
  exact hK1
theorem app_own {w : World} {base n : Nat} {v : Value} {b : List Nat} {d : Nat} (h : w.ownsRow base 5 1 v n (u8s b ++ [.int .u8 (d : Int)])) : w.ownsRow base 5 1 v n (u8s (b ++ [d])) := by simpa [u8s] using h
/-- A box of one cell lies elsewhere than a row of more. -/
theorem OneBox.apart {w w' : World} {K : Nat} {v u : Value} {xs : List Value} {d : Int} (h : OneBox w v d) (ho : w.ownsRow K 5 1 u n xs) (hn : 2 ≤ n) (hf : Frm (fun j => u.ownBlock = some j) w w') : OneBox w' v d := by
  obtain ⟨g, rfl, hb⟩ := h
  refine ⟨g, rfl, hb.frm hf (fun hu => ?_)⟩
  rcases ho.2 with ⟨rfl, hn0⟩ | ⟨g', cap, cur, rfl, _, hg, hc, _, hs, _⟩
  · cases hu
  · injection hu with hu
    simp only at hu
    subst hu
    unfold Blk at hb
    rw [hb] at hg
    injection hg with hg
    injection hg with hg
    subst hg
    simp at hs
    omega
theorem own_block {w : World} {K m : Nat} {v : Value} {xs : List Value} (h : w.ownsRow K 5 1 v m xs) : ∀ g, v.ownBlock = some g → K ≤ g := fun g hg => (h.lt g hg).1
theorem pi_app0  (hBF : ∀ (W w1 : World) (v : Value), BW W → Frm (fun j => v.ownBlock = some j) W w1 → (∀ g, v.ownBlock = some g → K ≤ g) → BW w1) (hBz : ∀ W, BW W → K ≤ W.heap.size) (hdv : ∀ v, okL vl 89 v) (hn2 : 2 ≤ n) (hn : n ≤ 1000) (hi5 : (Try.prog.info? 5).map (fun i => (i.zero, i.size, i.bytes)) = some (some (.int .u8 0), 1, 1)) :
    StepI Try.prog Q ops (II BW vl K n b) { dst := some 89, op := .call { callee := .builtin .append, args := #[.tmp 87, .tmp 88], argTypes := #[22, 22] }, type := ty, pos := pos, after := af, guard := gu } := by
  intro a w K' sel hI hval hsl haft hno hw hK
  obtain ⟨hB, hok, hJ⟩ := hI
  obtain ⟨v87, g87⟩ := hsl 87 (by simp [slotsOf, Op.operands, Call.operands])
  have h87 := hval 87 v87 g87
  obtain ⟨v88, g88⟩ := hsl 88 (by simp [slotsOf, Op.operands, Call.operands])
  have h88 := hval 88 v88 g88
  have hown := hJ.c0 v87 g87 (hno 89 rfl)
  have hbox := hJ.x0 v88 g88 (hno 89 rfl)
  have hj : ∀ v w', w'.ownsRow K 5 1 v (n + 1) (u8s b ++ [.int .u8 (0 : Nat)]) → Frm (fun j => v87.ownBlock = some j) w w' → JP K n b (selPut sel (some 89) v) w' := fun va w' hon0 hfr => by
    have hon := app_own hon0
    exact ⟨(fun v hv h9 => by rw [sel_eq] at h9; cases h9), (fun v hv h9 => by rw [sel_eq] at h9; cases h9), (fun v hv _ => by rw [sel_eq] at hv; injection hv with hv; rw [← hv]; exact hon), (fun v hv _ => by rw [sel_ne (by decide)] at hv; obtain ⟨u, hu⟩ := hJ.o1 v hv; obtain ⟨u2, hu2⟩ := hJ.o2 u hu; rw [hno 89 rfl] at hu2; cases hu2), (fun v hv h9 => (hJ.x1 v (by rwa [sel_ne (by decide)] at hv) (by rwa [sel_ne (by decide)] at h9)).apart hown hn2 hfr), (fun v hv _ => by rw [sel_ne (by decide)] at hv; obtain ⟨u, hu⟩ := hJ.o3 v hv; obtain ⟨u1, hu1⟩ := hJ.o1 u hu; obtain ⟨u2, hu2⟩ := hJ.o2 u1 hu1; rw [hno 89 rfl] at hu2; cases hu2), (fun v hv => by rw [sel_ne (by decide)] at hv ⊢; exact hJ.o1 v hv), (fun v hv => ⟨_, sel_eq⟩), (fun v hv => by rw [sel_ne (by decide)] at hv ⊢; exact hJ.o3 v hv)⟩
  have st := step_app (P := Try.prog) (ops := ops) (o := { dst := some 89, op := .call { callee := .builtin .append, args := #[.tmp 87, .tmp 88], argTypes := #[22, 22] }, type := ty, pos := pos, after := af, guard := gu }) (a := a) (Q := Q) (W := w) (K := K') (E := True) K hw (.tmp 87) (.tmp 88) 22 5 (.int .u8 0) 1 1 rfl Try.underlying22 hi5 rfl (by omega) (by omega) h87 h88 hown hbox.sl (by omega) (hBz w hB) (fun v w' hon hfr hat => hK v w' ⟨hBF _ _ _ hB hfr (own_block hown), ok_put hok (hdv v), hj v w' hon hfr⟩)
  rw [if_pos hw] at st
  exact st
theorem pi_app1  (hBF : ∀ (W w1 : World) (v : Value), BW W → Frm (fun j => v.ownBlock = some j) W w1 → (∀ g, v.ownBlock = some g → K ≤ g) → BW w1) (hBz : ∀ W, BW W → K ≤ W.heap.size) (hdv : ∀ v, okL vl 95 v) (hn2 : 2 ≤ n) (hn : n ≤ 1000) (hi5 : (Try.prog.info? 5).map (fun i => (i.zero, i.size, i.bytes)) = some (some (.int .u8 0), 1, 1)) :
    StepI Try.prog Q ops (II BW vl K n b) { dst := some 95, op := .call { callee := .builtin .append, args := #[.tmp 93, .tmp 94], argTypes := #[22, 22] }, type := ty, pos := pos, after := af, guard := gu } := by
  intro a w K' sel hI hval hsl haft hno hw hK
  obtain ⟨hB, hok, hJ⟩ := hI
  obtain ⟨v93, g93⟩ := hsl 93 (by simp [slotsOf, Op.operands, Call.operands])
  have h93 := hval 93 v93 g93
  obtain ⟨v94, g94⟩ := hsl 94 (by simp [slotsOf, Op.operands, Call.operands])
  have h94 := hval 94 v94 g94
  have hown := hJ.c1 v93 g93 (hno 95 rfl)
  have hbox := hJ.x1 v94 g94 (hno 95 rfl)
  obtain ⟨u1, hu1⟩ := hJ.o1 v93 g93
  obtain ⟨u2, hu2⟩ := hJ.o2 u1 hu1
  have hj : ∀ v w', w'.ownsRow K 5 1 v (n + 1) (u8s b ++ [.int .u8 (1 : Nat)]) → Frm (fun j => v93.ownBlock = some j) w w' → JP K n b (selPut sel (some 95) v) w' := fun va w' hon0 hfr => by
    have hon := app_own hon0
    exact ⟨(fun v hv h9 => by rw [sel_ne (by decide)] at h9; rw [h9] at hu2; cases hu2), (fun v hv h9 => by rw [sel_ne (by decide)] at h9; rw [h9] at hu2; cases hu2), (fun v hv h9 => by rw [sel_ne (by decide)] at h9; rw [h9] at hu1; cases hu1), (fun v hv h9 => by rw [sel_eq] at h9; cases h9), (fun v hv h9 => by rw [sel_eq] at h9; cases h9), (fun v hv _ => by rw [sel_eq] at hv; injection hv with hv; rw [← hv]; exact hon), (fun v hv => by rw [sel_ne (by decide)] at hv ⊢; exact hJ.o1 v hv), (fun v hv => by rw [sel_ne (by decide)] at hv ⊢; exact hJ.o2 v hv), (fun v hv => by rw [sel_ne (by decide)]; exact ⟨_, g93⟩)⟩
  have st := step_app (P := Try.prog) (ops := ops) (o := { dst := some 95, op := .call { callee := .builtin .append, args := #[.tmp 93, .tmp 94], argTypes := #[22, 22] }, type := ty, pos := pos, after := af, guard := gu }) (a := a) (Q := Q) (W := w) (K := K') (E := True) K hw (.tmp 93) (.tmp 94) 22 5 (.int .u8 0) 1 1 rfl Try.underlying22 hi5 rfl (by omega) (by omega) h93 h94 hown hbox.sl (by omega) (hBz w hB) (fun v w' hon hfr hat => hK v w' ⟨hBF _ _ _ hB hfr (own_block hown), ok_put hok (hdv v), hj v w' hon hfr⟩)
  rw [if_pos hw] at st
  exact st
theorem pi_of0 {vt : Value} {r : Nat} (hs : ∀ v, okL vl 85 v → v = vt) (hT : ∀ w, BW w → Sl w 1 vt 256 (u32s (tabN 256))) (ht2 : ∀ x ∈ tabN 256, x < 4294967296) (hb2 : ∀ x ∈ b ++ [0], x < 256) (hr : r = ofN (tabN 256) (b ++ [0])) (hdv : okL vl 90 (.int .u32 (r : Nat))) :
    StepI Try.prog Q ops (II BW vl K n b) { dst := some 90, op := .call { callee := .value (.func 8), args := #[.tmp 85, .tmp 89], argTypes := #[24, 22] }, type := ty, pos := pos, after := af, guard := gu } := by
  intro a w K' sel hI hval hsl haft hno hw hK
  obtain ⟨hB, hok, hJ⟩ := hI
  obtain ⟨v85, g85⟩ := hsl 85 (by simp [slotsOf, Op.operands, Call.operands])
  have h85 := hval 85 v85 g85
  obtain ⟨v89, g89⟩ := hsl 89 (by simp [slotsOf, Op.operands, Call.operands])
  have h89 := hval 89 v89 g89
  have e1 := hs v85 (hok 85 v85 g85)
  rw [e1] at h85
  have hown := hJ.a0 v89 g89 (hno 90 rfl)
  have T2 := Lib.hid (Sl.of_own hown (u8s_one _))
  have T1 := Lib.hid (hT w hB)
  have T3 := Lib.hid ht2
  have T4 := Lib.hid hb2
  have T5 := Lib.hid hr
  have hK1 := hK (.int .u32 (r : Nat)) w ⟨hB, ok_put hok hdv, ⟨(fun v hv h9 => hJ.c0 v (by rwa [sel_ne (by decide)] at hv) (by rwa [sel_ne (by decide)] at h9)), (fun v hv h9 => hJ.x0 v (by rwa [sel_ne (by decide)] at hv) (by rwa [sel_ne (by decide)] at h9)), (fun v hv h9 => by rw [sel_eq] at h9; cases h9), (fun v hv h9 => hJ.c1 v (by rwa [sel_ne (by decide)] at hv) (by rwa [sel_ne (by decide)] at h9)), (fun v hv h9 => hJ.x1 v (by rwa [sel_ne (by decide)] at hv) (by rwa [sel_ne (by decide)] at h9)), (fun v hv h9 => hJ.a1 v (by rwa [sel_ne (by decide)] at hv) (by rwa [sel_ne (by decide)] at h9)), (fun v hv => ⟨_, sel_eq⟩), (fun v hv => by rw [sel_ne (by decide)]; exact ⟨_, g89⟩), (fun v hv => by rw [sel_ne (by decide)] at hv ⊢; exact hJ.o3 v hv)⟩⟩
  obtain ⟨A, c, e2, _⟩ := T2.out.len
  obtain ⟨tmps, df⟩ := a
  simp only at h85 h89 hK1
  subst e2
  have k1 := h85; rw [Array.getD_eq_getD_getElem?] at k1
  have k2 := h89; rw [Array.getD_eq_getD_getElem?] at k2
  clear hK hval hsl haft hno hw hok hJ hB hdv hs hT ht2 hb2 hr hown g85 g89
  go_simp
  refine (of_val w _ _ 256 (n + 1) (tabN 256) (b ++ [0]) r T1.out T2.out rfl T3.out T4.out T5.out).mono ?_
  rintro e _ ⟨rfl, rfl⟩
  exact hK1
theorem pi_of1 {vt : Value} {r : Nat} (hs : ∀ v, okL vl 91 v → v = vt) (hT : ∀ w, BW w → Sl w 1 vt 256 (u32s (tabN 256))) (ht2 : ∀ x ∈ tabN 256, x < 4294967296) (hb2 : ∀ x ∈ b ++ [1], x < 256) (hr : r = ofN (tabN 256) (b ++ [1])) (hdv : okL vl 96 (.int .u32 (r : Nat))) :
    StepI Try.prog Q ops (II BW vl K n b) { dst := some 96, op := .call { callee := .value (.func 8), args := #[.tmp 91, .tmp 95], argTypes := #[24, 22] }, type := ty, pos := pos, after := af, guard := gu } := by
  intro a w K' sel hI hval hsl haft hno hw hK
  obtain ⟨hB, hok, hJ⟩ := hI
  obtain ⟨v91, g91⟩ := hsl 91 (by simp [slotsOf, Op.operands, Call.operands])
  have h91 := hval 91 v91 g91
  obtain ⟨v95, g95⟩ := hsl 95 (by simp [slotsOf, Op.operands, Call.operands])
  have h95 := hval 95 v95 g95
  have e1 := hs v91 (hok 91 v91 g91)
  rw [e1] at h91
  have hown := hJ.a1 v95 g95 (hno 96 rfl)
  have T2 := Lib.hid (Sl.of_own hown (u8s_one _))
  have T1 := Lib.hid (hT w hB)
  have T3 := Lib.hid ht2
  have T4 := Lib.hid hb2
  have T5 := Lib.hid hr
  have hK1 := hK (.int .u32 (r : Nat)) w ⟨hB, ok_put hok hdv, ⟨(fun v hv h9 => hJ.c0 v (by rwa [sel_ne (by decide)] at hv) (by rwa [sel_ne (by decide)] at h9)), (fun v hv h9 => hJ.x0 v (by rwa [sel_ne (by decide)] at hv) (by rwa [sel_ne (by decide)] at h9)), (fun v hv h9 => hJ.a0 v (by rwa [sel_ne (by decide)] at hv) (by rwa [sel_ne (by decide)] at h9)), (fun v hv h9 => hJ.c1 v (by rwa [sel_ne (by decide)] at hv) (by rwa [sel_ne (by decide)] at h9)), (fun v hv h9 => hJ.x1 v (by rwa [sel_ne (by decide)] at hv) (by rwa [sel_ne (by decide)] at h9)), (fun v hv h9 => by rw [sel_eq] at h9; cases h9), (fun v hv => by rw [sel_ne (by decide)] at hv ⊢; exact hJ.o1 v hv), (fun v hv => by rw [sel_ne (by decide)] at hv ⊢; exact hJ.o2 v hv), (fun v hv => by rw [sel_ne (by decide)] at hv ⊢; exact hJ.o3 v hv)⟩⟩
  obtain ⟨A, c, e2, _⟩ := T2.out.len
  obtain ⟨tmps, df⟩ := a
  simp only at h91 h95 hK1
  subst e2
  have k1 := h91; rw [Array.getD_eq_getD_getElem?] at k1
  have k2 := h95; rw [Array.getD_eq_getD_getElem?] at k2
  clear hK hval hsl haft hno hw hok hJ hB hdv hs hT ht2 hb2 hr hown g91 g95
  go_simp
  refine (of_val w _ _ 256 (n + 1) (tabN 256) (b ++ [1]) r T1.out T2.out rfl T3.out T4.out T5.out).mono ?_
  rintro e _ ⟨rfl, rfl⟩
  exact hK1
theorem pi_wakes   (hBB : ∀ W w1, BW W → Below W.heap.size W w1 → BW w1) (hd : d ∉ spots) (hdv : okL vl d (.bool true)) :
    StepI Try.prog Q ops (II BW vl K n b) { dst := some d, op := .call { callee := .value (.func 11), args := #[], argTypes := #[] }, type := ty, pos := pos, after := af, guard := gu } := by
  intro a w K' sel hI hval hsl haft hno hw hK
  obtain ⟨hB, hok, hJ⟩ := hI
  have hK1 := fun w' hb => hK (.bool true) w' ⟨hBB _ _ hB hb, ok_put hok hdv, (hJ.below hb).put d _ hd⟩
  obtain ⟨tmps, df⟩ := a
  simp only at hK1
  clear hK hval hsl haft hno hw hok hJ hB hdv hd hBB
  go_simp
  refine (wakes_any w).mono ?_
  rintro e w' ⟨rfl, hb⟩
  exact hK1 w' hb
end
end Go.Proofs.Ytgcolhcajmbehaa
