/- The operations of the great literal, kind by kind. -/
import Derived.Test.YtoplcndiejpipaaGa
import Derived.Test.YtoplcndiejpipaaEach
import Derived.Test.YtoplcndiejpipaaFl
namespace Go.Proofs.Ytoplcndiejpipaa
open Go.RowKit
set_option linter.unusedVariables false
set_option linter.unusedSimpArgs false

abbrev Rw_ := List Ev × List Ev × List Int × Int × Int × Bool
abbrev SN : Nat → Prop := fun _ => False
def tcells (x : Rw_) (y : Value × Value × Value) : List Value := [y.1, y.2.1, y.2.2, .int .i64 x.2.2.2.1, .int .i64 x.2.2.2.2.1, .bool x.2.2.2.2.2]
structure TR (w : World) (x : Rw_) (y : Value × Value × Value) : Prop where
  a : ERow SN w y.1 x.1
  b : ERow SN w y.2.1 x.2.1
  i : IRow w y.2.2 x.2.2.1
theorem TR.below {w w' : World} {x : Rw_} {y : Value × Value × Value} (h : TR w x y) (k : Below w.heap.size w w') : TR w' x y := ⟨h.a.below k, h.b.below k, h.i.below k⟩
abbrev TRow (w : World) (v : Value) (xs : List Rw_) : Prop := RowV tcells 6 TR w v xs
inductive Sp where
  | any
  | val (v : Value)
  | tickp (g : Nat) (e : Ev)
  | er (es : List Ev)
  | ir (l : List Int)
  | tr (x : Rw_)
  | trs (xs : List Rw_)
def Sp.ok : Sp → Value → World → Prop
  | .any, _, _ => True
  | .val u, v, _ => v = u
  | .tickp g e, v, w => v = .pointer (some ⟨g, 0, none⟩) ∧ Blk w g (ecells e (nilV, nilV)).toArray 27
  | .er es, v, w => ERow SN w v es
  | .ir l, v, w => IRow w v l
  | .tr x, v, w => ∃ y, v = .agg (tcells x y).toArray ∧ TR w x y
  | .trs xs, v, w => ∃ c, v = .slice c xs.length xs.length ∧ TRow w v xs
theorem Sp.mono (s : Sp) (v : Value) (w w' : World) (h : s.ok v w) (k : Below w.heap.size w w') : s.ok v w' := by
  cases s with
  | any => trivial
  | val u => exact h
  | tickp g e => exact ⟨h.1, h.2.below k⟩
  | er es => exact ERow.below h k
  | ir l => exact IRow.below h k
  | tr x => obtain ⟨y, h1, h2⟩ := h; exact ⟨y, h1, h2.below k⟩
  | trs xs => obtain ⟨c, h1, h2⟩ := h; exact ⟨c, h1, RowV.below h2 k (fun a b hab => hab.below k)⟩
section
variable {Q : Exit → Act → World → Prop} {B : Nat} {W : World} {ok : Tmp → Value → World → Prop} {d s s1 s2 s3 s4 s5 s6 s7 s8 s9 : Tmp} {ty : TypeId} {pos : String} {af : Array Edge}
theorem st_load {g : Nat} {e : Ev} (hs : ∀ v w, ok s v w → Sp.ok (.tickp g e) v w) (hd : ∀ v w, Sp.ok (.val (eaggB e)) v w → ok d v w) :
    StepOk Try.prog Q B W ok { dst := some d, op := .load 27 (.tmp s), type := ty, pos := pos, after := af, guard := none } := by
  intro a w K hB h hK
  have h1 := hs _ _ (h s (by simp [slotsOf, Op.operands, Call.operands]))
  obtain ⟨h2, h3⟩ := h1
  obtain ⟨a0, a1, a2, a3, a4, a5, a6, a7, a8, a9, a10, a11⟩ := cells12 h3
  have hK1 := hK (eaggB e) w (fun d' hd' => by injection hd' with hd'; subst hd'; exact hd _ _ rfl) (Below.refl _ _)
  obtain ⟨tmps, df⟩ := a
  simp only at h2 hK1
  clear h hK h3 hs hd
  go_simp
  exact hK1
theorem st_move {u : Value} (hs : ∀ v w, ok s v w → Sp.ok (.val u) v w) (hd : ∀ v w, Sp.ok (.val u) v w → ok d v w) :
    StepOk Try.prog Q B W ok { dst := some d, op := .move (.tmp s), type := ty, pos := pos, after := af, guard := none } := by
  intro a w K hB h hK
  have h1 := hs _ _ (h s (by simp [slotsOf, Op.operands, Call.operands]))
  have hK1 := hK u w (fun d' hd' => by injection hd' with hd'; subst hd'; exact hd _ _ rfl) (Below.refl _ _)
  obtain ⟨tmps, df⟩ := a
  simp only [Sp.ok] at h1 hK1
  have h1' := h1; rw [Array.getD_eq_getD_getElem?] at h1'
  clear h hK hs hd
  go_simp
  exact hK1
theorem st_const {u : Value} (hd : ∀ v w, Sp.ok (.val u) v w → ok d v w) :
    StepOk Try.prog Q B W ok { dst := some d, op := .move (.const u), type := ty, pos := pos, after := af, guard := none } := by
  intro a w K hB h hK
  have hK1 := hK u w (fun d' hd' => by injection hd' with hd'; subst hd'; exact hd _ _ rfl) (Below.refl _ _)
  obtain ⟨tmps, df⟩ := a
  simp only at hK1
  clear h hK hd
  go_simp
  exact hK1
theorem st_add {n : Int} (hn : IntKind.i64.wrap (n + 1) = n + 1) (hs : ∀ v w, ok s v w → Sp.ok (.val (.int .i64 n)) v w) (hd : ∀ v w, Sp.ok (.val (.int .i64 (n + 1))) v w → ok d v w) :
    StepOk Try.prog Q B W ok { dst := some d, op := .binOp .add 3 (.tmp s) (.const (.int .i64 1)) 3, type := ty, pos := pos, after := af, guard := none } := by
  intro a w K hB h hK
  have h1 := hs _ _ (h s (by simp [slotsOf, Op.operands, Call.operands]))
  have hK1 := hK (.int .i64 (n + 1)) w (fun d' hd' => by injection hd' with hd'; subst hd'; exact hd _ _ rfl) (Below.refl _ _)
  obtain ⟨tmps, df⟩ := a
  simp only [Sp.ok] at h1 hK1
  have h1' := h1; rw [Array.getD_eq_getD_getElem?] at h1'
  clear h hK hs hd
  go_simp
  exact hK1
theorem st_sent {n : Int} (hs : ∀ v w, ok s v w → Sp.ok (.val (.int .i64 n)) v w) (hd : ∀ v w, Sp.ok (.val (eaggB (sentE n))) v w → ok d v w) :
    StepOk Try.prog Q B W ok { dst := some d, op := .call { callee := .value (.func 7), args := #[.tmp s], argTypes := #[3] }, type := ty, pos := pos, after := af, guard := none } := by
  intro a w K hB h hK
  have h1 := hs _ _ (h s (by simp [slotsOf, Op.operands, Call.operands]))
  have hK1 := fun w' => hK (eaggB (sentE n)) w' (fun d' hd' => by injection hd' with hd'; subst hd'; exact hd _ _ rfl)
  obtain ⟨tmps, df⟩ := a
  simp only [Sp.ok] at h1 hK1
  have h1' := h1; rw [Array.getD_eq_getD_getElem?] at h1'
  clear h hK hs hd
  go_simp
  refine (sent_any w n).mono ?_
  rintro r w' ⟨rfl, hb⟩
  exact hK1 w' hb
theorem st_sentC {n : Int} (hd : ∀ v w, Sp.ok (.val (eaggB (sentE n))) v w → ok d v w) :
    StepOk Try.prog Q B W ok { dst := some d, op := .call { callee := .value (.func 7), args := #[.const (.int .i64 n)], argTypes := #[3] }, type := ty, pos := pos, after := af, guard := none } := by
  intro a w K hB h hK
  have hK1 := fun w' => hK (eaggB (sentE n)) w' (fun d' hd' => by injection hd' with hd'; subst hd'; exact hd _ _ rfl)
  obtain ⟨tmps, df⟩ := a
  simp only [Sp.ok] at hK1
  clear h hK hd
  go_simp
  refine (sent_any w n).mono ?_
  rintro r w' ⟨rfl, hb⟩
  exact hK1 w' hb
theorem st_came {n : Int} (hs : ∀ v w, ok s v w → Sp.ok (.val (.int .i64 n)) v w) (hd : ∀ v w, Sp.ok (.val (eaggB (cameE n))) v w → ok d v w) :
    StepOk Try.prog Q B W ok { dst := some d, op := .call { callee := .value (.func 6), args := #[.tmp s], argTypes := #[3] }, type := ty, pos := pos, after := af, guard := none } := by
  intro a w K hB h hK
  have h1 := hs _ _ (h s (by simp [slotsOf, Op.operands, Call.operands]))
  have hK1 := fun w' => hK (eaggB (cameE n)) w' (fun d' hd' => by injection hd' with hd'; subst hd'; exact hd _ _ rfl)
  obtain ⟨tmps, df⟩ := a
  simp only [Sp.ok] at h1 hK1
  have h1' := h1; rw [Array.getD_eq_getD_getElem?] at h1'
  clear h hK hs hd
  go_simp
  refine (came_any w n).mono ?_
  rintro r w' ⟨rfl, hb⟩
  exact hK1 w' hb
theorem st_cameC {n : Int} (hd : ∀ v w, Sp.ok (.val (eaggB (cameE n))) v w → ok d v w) :
    StepOk Try.prog Q B W ok { dst := some d, op := .call { callee := .value (.func 6), args := #[.const (.int .i64 n)], argTypes := #[3] }, type := ty, pos := pos, after := af, guard := none } := by
  intro a w K hB h hK
  have hK1 := fun w' => hK (eaggB (cameE n)) w' (fun d' hd' => by injection hd' with hd'; subst hd'; exact hd _ _ rfl)
  obtain ⟨tmps, df⟩ := a
  simp only [Sp.ok] at hK1
  clear h hK hd
  go_simp
  refine (came_any w n).mono ?_
  rintro r w' ⟨rfl, hb⟩
  exact hK1 w' hb
theorem st_box1 {e1 : Ev} (hs1 : ∀ v w, ok s1 v w → Sp.ok (.val (eaggB e1)) v w) (hb : Bare [e1]) (hd : ∀ v w, Sp.ok (.er [e1]) v w → ok d v w) :
    StepOk Try.prog Q B W ok { dst := some d, op := .buildSlice 28 1 #[(0, .tmp s1)], type := ty, pos := pos, after := af, guard := none } := by
  intro a w K hB h hK
  have h1 := hs1 _ _ (h s1 (by simp [slotsOf, Op.operands, Call.operands]))
  have hK1 := hK _ _ (fun d' hd' => by injection hd' with hd'; subst hd'; exact hd _ _ (erow_box SN w [e1] hb (by simp) _ rfl)) ((Below.refl _ _).alloc (Nat.le_refl _) _)
  obtain ⟨tmps, df⟩ := a
  simp only [Sp.ok] at h1 hK1
  have h1' := h1; rw [Array.getD_eq_getD_getElem?] at h1'
  clear h hK hd hs1
  go_simp
  exact hK1
theorem st_box2 {e1 e2 : Ev} (hs1 : ∀ v w, ok s1 v w → Sp.ok (.val (eaggB e1)) v w) (hs2 : ∀ v w, ok s2 v w → Sp.ok (.val (eaggB e2)) v w) (hb : Bare [e1, e2]) (hd : ∀ v w, Sp.ok (.er [e1, e2]) v w → ok d v w) :
    StepOk Try.prog Q B W ok { dst := some d, op := .buildSlice 28 2 #[(0, .tmp s1), (1, .tmp s2)], type := ty, pos := pos, after := af, guard := none } := by
  intro a w K hB h hK
  have h1 := hs1 _ _ (h s1 (by simp [slotsOf, Op.operands, Call.operands]))
  have h2 := hs2 _ _ (h s2 (by simp [slotsOf, Op.operands, Call.operands]))
  have hK1 := hK _ _ (fun d' hd' => by injection hd' with hd'; subst hd'; exact hd _ _ (erow_box SN w [e1, e2] hb (by simp) _ rfl)) ((Below.refl _ _).alloc (Nat.le_refl _) _)
  obtain ⟨tmps, df⟩ := a
  simp only [Sp.ok] at h1 h2 hK1
  have h1' := h1; rw [Array.getD_eq_getD_getElem?] at h1'
  have h2' := h2; rw [Array.getD_eq_getD_getElem?] at h2'
  clear h hK hd hs1 hs2
  go_simp
  exact hK1
theorem st_box3 {e1 e2 e3 : Ev} (hs1 : ∀ v w, ok s1 v w → Sp.ok (.val (eaggB e1)) v w) (hs2 : ∀ v w, ok s2 v w → Sp.ok (.val (eaggB e2)) v w) (hs3 : ∀ v w, ok s3 v w → Sp.ok (.val (eaggB e3)) v w) (hb : Bare [e1, e2, e3]) (hd : ∀ v w, Sp.ok (.er [e1, e2, e3]) v w → ok d v w) :
    StepOk Try.prog Q B W ok { dst := some d, op := .buildSlice 28 3 #[(0, .tmp s1), (1, .tmp s2), (2, .tmp s3)], type := ty, pos := pos, after := af, guard := none } := by
  intro a w K hB h hK
  have h1 := hs1 _ _ (h s1 (by simp [slotsOf, Op.operands, Call.operands]))
  have h2 := hs2 _ _ (h s2 (by simp [slotsOf, Op.operands, Call.operands]))
  have h3 := hs3 _ _ (h s3 (by simp [slotsOf, Op.operands, Call.operands]))
  have hK1 := hK _ _ (fun d' hd' => by injection hd' with hd'; subst hd'; exact hd _ _ (erow_box SN w [e1, e2, e3] hb (by simp) _ rfl)) ((Below.refl _ _).alloc (Nat.le_refl _) _)
  obtain ⟨tmps, df⟩ := a
  simp only [Sp.ok] at h1 h2 h3 hK1
  have h1' := h1; rw [Array.getD_eq_getD_getElem?] at h1'
  have h2' := h2; rw [Array.getD_eq_getD_getElem?] at h2'
  have h3' := h3; rw [Array.getD_eq_getD_getElem?] at h3'
  clear h hK hd hs1 hs2 hs3
  go_simp
  exact hK1
theorem st_box4 {e1 e2 e3 e4 : Ev} (hs1 : ∀ v w, ok s1 v w → Sp.ok (.val (eaggB e1)) v w) (hs2 : ∀ v w, ok s2 v w → Sp.ok (.val (eaggB e2)) v w) (hs3 : ∀ v w, ok s3 v w → Sp.ok (.val (eaggB e3)) v w) (hs4 : ∀ v w, ok s4 v w → Sp.ok (.val (eaggB e4)) v w) (hb : Bare [e1, e2, e3, e4]) (hd : ∀ v w, Sp.ok (.er [e1, e2, e3, e4]) v w → ok d v w) :
    StepOk Try.prog Q B W ok { dst := some d, op := .buildSlice 28 4 #[(0, .tmp s1), (1, .tmp s2), (2, .tmp s3), (3, .tmp s4)], type := ty, pos := pos, after := af, guard := none } := by
  intro a w K hB h hK
  have h1 := hs1 _ _ (h s1 (by simp [slotsOf, Op.operands, Call.operands]))
  have h2 := hs2 _ _ (h s2 (by simp [slotsOf, Op.operands, Call.operands]))
  have h3 := hs3 _ _ (h s3 (by simp [slotsOf, Op.operands, Call.operands]))
  have h4 := hs4 _ _ (h s4 (by simp [slotsOf, Op.operands, Call.operands]))
  have hK1 := hK _ _ (fun d' hd' => by injection hd' with hd'; subst hd'; exact hd _ _ (erow_box SN w [e1, e2, e3, e4] hb (by simp) _ rfl)) ((Below.refl _ _).alloc (Nat.le_refl _) _)
  obtain ⟨tmps, df⟩ := a
  simp only [Sp.ok] at h1 h2 h3 h4 hK1
  have h1' := h1; rw [Array.getD_eq_getD_getElem?] at h1'
  have h2' := h2; rw [Array.getD_eq_getD_getElem?] at h2'
  have h3' := h3; rw [Array.getD_eq_getD_getElem?] at h3'
  have h4' := h4; rw [Array.getD_eq_getD_getElem?] at h4'
  clear h hK hd hs1 hs2 hs3 hs4
  go_simp
  exact hK1
theorem st_ibox2 {e1 e2 : Int} (hd : ∀ v w, Sp.ok (.ir [e1, e2]) v w → ok d v w) :
    StepOk Try.prog Q B W ok { dst := some d, op := .buildSlice 29 2 #[(0, .const (.int .i64 e1)), (1, .const (.int .i64 e2))], type := ty, pos := pos, after := af, guard := none } := by
  intro a w K hB h hK
  have hK1 := hK _ _ (fun d' hd' => by injection hd' with hd'; subst hd'; exact hd _ _ (irow_box w [e1, e2] (by simp) _ rfl)) ((Below.refl _ _).alloc (Nat.le_refl _) _)
  obtain ⟨tmps, df⟩ := a
  simp only [Sp.ok] at hK1
  clear h hK hd
  go_simp
  exact hK1
theorem st_ibox3 {e1 e2 e3 : Int} (hd : ∀ v w, Sp.ok (.ir [e1, e2, e3]) v w → ok d v w) :
    StepOk Try.prog Q B W ok { dst := some d, op := .buildSlice 29 3 #[(0, .const (.int .i64 e1)), (1, .const (.int .i64 e2)), (2, .const (.int .i64 e3))], type := ty, pos := pos, after := af, guard := none } := by
  intro a w K hB h hK
  have hK1 := hK _ _ (fun d' hd' => by injection hd' with hd'; subst hd'; exact hd _ _ (irow_box w [e1, e2, e3] (by simp) _ rfl)) ((Below.refl _ _).alloc (Nat.le_refl _) _)
  obtain ⟨tmps, df⟩ := a
  simp only [Sp.ok] at hK1
  clear h hK hd
  go_simp
  exact hK1
theorem st_ibox4 {e1 e2 e3 e4 : Int} (hd : ∀ v w, Sp.ok (.ir [e1, e2, e3, e4]) v w → ok d v w) :
    StepOk Try.prog Q B W ok { dst := some d, op := .buildSlice 29 4 #[(0, .const (.int .i64 e1)), (1, .const (.int .i64 e2)), (2, .const (.int .i64 e3)), (3, .const (.int .i64 e4))], type := ty, pos := pos, after := af, guard := none } := by
  intro a w K hB h hK
  have hK1 := hK _ _ (fun d' hd' => by injection hd' with hd'; subst hd'; exact hd _ _ (irow_box w [e1, e2, e3, e4] (by simp) _ rfl)) ((Below.refl _ _).alloc (Nat.le_refl _) _)
  obtain ⟨tmps, df⟩ := a
  simp only [Sp.ok] at hK1
  clear h hK hd
  go_simp
  exact hK1
theorem st_ibox5 {e1 e2 e3 e4 e5 : Int} (hd : ∀ v w, Sp.ok (.ir [e1, e2, e3, e4, e5]) v w → ok d v w) :
    StepOk Try.prog Q B W ok { dst := some d, op := .buildSlice 29 5 #[(0, .const (.int .i64 e1)), (1, .const (.int .i64 e2)), (2, .const (.int .i64 e3)), (3, .const (.int .i64 e4)), (4, .const (.int .i64 e5))], type := ty, pos := pos, after := af, guard := none } := by
  intro a w K hB h hK
  have hK1 := hK _ _ (fun d' hd' => by injection hd' with hd'; subst hd'; exact hd _ _ (irow_box w [e1, e2, e3, e4, e5] (by simp) _ rfl)) ((Below.refl _ _).alloc (Nat.le_refl _) _)
  obtain ⟨tmps, df⟩ := a
  simp only [Sp.ok] at hK1
  clear h hK hd
  go_simp
  exact hK1
theorem st_str_sss {la lb : List Ev} {li : List Int} {x y : Int} {b : Bool} (hs1 : ∀ v w, ok s1 v w → Sp.ok (.er la) v w) (hs2 : ∀ v w, ok s2 v w → Sp.ok (.er lb) v w) (hs3 : ∀ v w, ok s3 v w → Sp.ok (.ir li) v w) (hd : ∀ v w, Sp.ok (.tr (la, lb, li, x, y, b)) v w → ok d v w) :
    StepOk Try.prog Q B W ok { dst := some d, op := .build 30 #[(0, .tmp s1), (1, .tmp s2), (2, .tmp s3), (3, .const (.int .i64 x)), (4, .const (.int .i64 y)), (5, .const (.bool b))], type := ty, pos := pos, after := af, guard := none } := by
  intro a w K hB h hK
  have h1 := hs1 _ _ (h s1 (by simp [slotsOf, Op.operands, Call.operands]))
  have h2 := hs2 _ _ (h s2 (by simp [slotsOf, Op.operands, Call.operands]))
  have h3 := hs3 _ _ (h s3 (by simp [slotsOf, Op.operands, Call.operands]))
  have hK1 := hK (.agg (tcells (la, lb, li, x, y, b) (a.tmps.getD s1 undef, a.tmps.getD s2 undef, a.tmps.getD s3 undef)).toArray) w (fun d' hd' => by injection hd' with hd'; subst hd'; exact hd _ _ ⟨(a.tmps.getD s1 undef, a.tmps.getD s2 undef, a.tmps.getD s3 undef), rfl, ⟨h1, h2, h3⟩⟩) (Below.refl _ _)
  obtain ⟨A1, c1, g1, _⟩ := RowV.len (show ERow SN w (a.tmps.getD s1 undef) la from h1)
  obtain ⟨A2, c2, g2, _⟩ := RowV.len (show ERow SN w (a.tmps.getD s2 undef) lb from h2)
  obtain ⟨A3, c3, g3, _⟩ := Sl.len (show Sl w 1 (a.tmps.getD s3 undef) li.length (li.map (.int .i64 ·)) from h3)
  obtain ⟨tmps, df⟩ := a
  simp only at g1 g2 g3 hK1
  rw [g1, g2, g3] at hK1
  have g1' := g1; rw [Array.getD_eq_getD_getElem?] at g1'
  have g2' := g2; rw [Array.getD_eq_getD_getElem?] at g2'
  have g3' := g3; rw [Array.getD_eq_getD_getElem?] at g3'
  clear h hK hd hs1 h1 hs2 h2 hs3 h3
  go_simp
  exact hK1
theorem st_str_ssn {la lb : List Ev} {li : List Int} {x y : Int} {b : Bool} (hs1 : ∀ v w, ok s1 v w → Sp.ok (.er la) v w) (hs2 : ∀ v w, ok s2 v w → Sp.ok (.er lb) v w) (hd : ∀ v w, Sp.ok (.tr (la, lb, [], x, y, b)) v w → ok d v w) :
    StepOk Try.prog Q B W ok { dst := some d, op := .build 30 #[(0, .tmp s1), (1, .tmp s2), (2, .const (.slice none 0 0)), (3, .const (.int .i64 x)), (4, .const (.int .i64 y)), (5, .const (.bool b))], type := ty, pos := pos, after := af, guard := none } := by
  intro a w K hB h hK
  have h1 := hs1 _ _ (h s1 (by simp [slotsOf, Op.operands, Call.operands]))
  have h2 := hs2 _ _ (h s2 (by simp [slotsOf, Op.operands, Call.operands]))
  have hK1 := hK (.agg (tcells (la, lb, [], x, y, b) (a.tmps.getD s1 undef, a.tmps.getD s2 undef, nilV)).toArray) w (fun d' hd' => by injection hd' with hd'; subst hd'; exact hd _ _ ⟨(a.tmps.getD s1 undef, a.tmps.getD s2 undef, nilV), rfl, ⟨h1, h2, irow_nil _⟩⟩) (Below.refl _ _)
  obtain ⟨A1, c1, g1, _⟩ := RowV.len (show ERow SN w (a.tmps.getD s1 undef) la from h1)
  obtain ⟨A2, c2, g2, _⟩ := RowV.len (show ERow SN w (a.tmps.getD s2 undef) lb from h2)
  obtain ⟨tmps, df⟩ := a
  simp only at g1 g2 hK1
  rw [g1, g2] at hK1
  have g1' := g1; rw [Array.getD_eq_getD_getElem?] at g1'
  have g2' := g2; rw [Array.getD_eq_getD_getElem?] at g2'
  clear h hK hd hs1 h1 hs2 h2
  go_simp
  exact hK1
theorem st_str_nss {la lb : List Ev} {li : List Int} {x y : Int} {b : Bool} (hs2 : ∀ v w, ok s2 v w → Sp.ok (.er lb) v w) (hs3 : ∀ v w, ok s3 v w → Sp.ok (.ir li) v w) (hd : ∀ v w, Sp.ok (.tr ([], lb, li, x, y, b)) v w → ok d v w) :
    StepOk Try.prog Q B W ok { dst := some d, op := .build 30 #[(0, .const (.slice none 0 0)), (1, .tmp s2), (2, .tmp s3), (3, .const (.int .i64 x)), (4, .const (.int .i64 y)), (5, .const (.bool b))], type := ty, pos := pos, after := af, guard := none } := by
  intro a w K hB h hK
  have h2 := hs2 _ _ (h s2 (by simp [slotsOf, Op.operands, Call.operands]))
  have h3 := hs3 _ _ (h s3 (by simp [slotsOf, Op.operands, Call.operands]))
  have hK1 := hK (.agg (tcells ([], lb, li, x, y, b) (nilV, a.tmps.getD s2 undef, a.tmps.getD s3 undef)).toArray) w (fun d' hd' => by injection hd' with hd'; subst hd'; exact hd _ _ ⟨(nilV, a.tmps.getD s2 undef, a.tmps.getD s3 undef), rfl, ⟨erow_nil _ _, h2, h3⟩⟩) (Below.refl _ _)
  obtain ⟨A2, c2, g2, _⟩ := RowV.len (show ERow SN w (a.tmps.getD s2 undef) lb from h2)
  obtain ⟨A3, c3, g3, _⟩ := Sl.len (show Sl w 1 (a.tmps.getD s3 undef) li.length (li.map (.int .i64 ·)) from h3)
  obtain ⟨tmps, df⟩ := a
  simp only at g2 g3 hK1
  rw [g2, g3] at hK1
  have g2' := g2; rw [Array.getD_eq_getD_getElem?] at g2'
  have g3' := g3; rw [Array.getD_eq_getD_getElem?] at g3'
  clear h hK hd hs2 h2 hs3 h3
  go_simp
  exact hK1
theorem st_str_snn {la lb : List Ev} {li : List Int} {x y : Int} {b : Bool} (hs1 : ∀ v w, ok s1 v w → Sp.ok (.er la) v w) (hd : ∀ v w, Sp.ok (.tr (la, [], [], x, y, b)) v w → ok d v w) :
    StepOk Try.prog Q B W ok { dst := some d, op := .build 30 #[(0, .tmp s1), (1, .const (.slice none 0 0)), (2, .const (.slice none 0 0)), (3, .const (.int .i64 x)), (4, .const (.int .i64 y)), (5, .const (.bool b))], type := ty, pos := pos, after := af, guard := none } := by
  intro a w K hB h hK
  have h1 := hs1 _ _ (h s1 (by simp [slotsOf, Op.operands, Call.operands]))
  have hK1 := hK (.agg (tcells (la, [], [], x, y, b) (a.tmps.getD s1 undef, nilV, nilV)).toArray) w (fun d' hd' => by injection hd' with hd'; subst hd'; exact hd _ _ ⟨(a.tmps.getD s1 undef, nilV, nilV), rfl, ⟨h1, erow_nil _ _, irow_nil _⟩⟩) (Below.refl _ _)
  obtain ⟨A1, c1, g1, _⟩ := RowV.len (show ERow SN w (a.tmps.getD s1 undef) la from h1)
  obtain ⟨tmps, df⟩ := a
  simp only at g1 hK1
  rw [g1] at hK1
  have g1' := g1; rw [Array.getD_eq_getD_getElem?] at g1'
  clear h hK hd hs1 h1
  go_simp
  exact hK1
theorem st_len {xs : List Rw_} (hs : ∀ v w, ok s v w → Sp.ok (.trs xs) v w) (hd : ∀ v w, Sp.ok (.val (.int .i64 xs.length)) v w → ok d v w) :
    StepOk Try.prog Q B W ok { dst := some d, op := .call { callee := .builtin .len, args := #[.tmp s], argTypes := #[32] }, type := ty, pos := pos, after := af, guard := none } := by
  intro a w K hB h hK
  obtain ⟨c, h1, _⟩ := hs _ _ (h s (by simp [slotsOf, Op.operands, Call.operands]))
  have hK1 := hK (.int .i64 xs.length) w (fun d' hd' => by injection hd' with hd'; subst hd'; exact hd _ _ rfl) (Below.refl _ _)
  obtain ⟨tmps, df⟩ := a
  simp only at h1 hK1
  clear h hK hs hd
  go_simp
  exact hK1
inductive AllR {α β : Type} (X : α → β → Prop) : List α → List β → Prop
  | nil : AllR X [] []
  | cons {a b l vs} (h : X a b) (k : AllR X l vs) : AllR X (a :: l) (b :: vs)
theorem AllR.length {α β : Type} {X : α → β → Prop} {l : List α} {vs : List β} (h : AllR X l vs) : vs.length = l.length := by
  induction h with
  | nil => rfl
  | cons _ _ ih => simp [ih]
theorem AllR.get {α β : Type} {X : α → β → Prop} {l : List α} {vs : List β} (h : AllR X l vs) : ∀ (i : Nat) (a : α) (b : β), l[i]? = some a → vs[i]? = some b → X a b := by
  induction h with
  | nil => intro i a b ha; simp at ha
  | cons h1 _ ih =>
    intro i a b ha hb
    cases i with
    | zero => simp at ha hb; rw [← ha, ← hb]; exact h1
    | succ i => exact ih i a b (by simpa using ha) (by simpa using hb)
theorem TR.one {w : World} {x : Rw_} {y : Value × Value × Value} (h : TR w x y) : ∀ u ∈ tcells x y, u.oneCell' = true := by
  obtain ⟨A1, c1, g1, _⟩ := RowV.len h.a
  obtain ⟨A2, c2, g2, _⟩ := RowV.len h.b
  obtain ⟨A3, c3, g3, _⟩ := Sl.len h.i
  intro u hu
  simp only [tcells, List.mem_cons, List.not_mem_nil, or_false] at hu
  rcases hu with rfl | rfl | rfl | rfl | rfl | rfl
  · rw [g1]; rfl
  · rw [g2]; rfl
  · rw [g3]; rfl
  · rfl
  · rfl
  · rfl
theorem trow_box (w : World) (xs : List Rw_) (ys : List (Value × Value × Value)) (hx : AllR (TR w) xs ys) (hm : xs.length ≤ 1000) (h : Nat) (hh : h = w.heap.size) : TRow (w.alloc (.cells (rowsG tcells xs ys).toArray 30)) (.slice (some ⟨h, 0, none⟩) xs.length xs.length) xs := by
  refine ⟨ys, hx.length, ?_, fun i a b ha hb => (hx.get i a b ha hb).below ((Below.refl _ _).alloc (Nat.le_refl _) _)⟩
  exact Sl.boxn w 30 6 xs.length _ h hh (rowsG_length (fun _ _ => rfl : ∀ a b, (tcells a b).length = 6) _ _ hx.length) (Nat.le_trans hm (by simp [maxLen])) (rowsG_all _ _ _ (fun i a b ha hb => (hx.get i a b ha hb).one))
theorem st_box9 {x1 x2 x3 x4 x5 x6 x7 x8 x9 : Rw_} (hs1 : ∀ v w, ok s1 v w → Sp.ok (.tr x1) v w) (hs2 : ∀ v w, ok s2 v w → Sp.ok (.tr x2) v w) (hs3 : ∀ v w, ok s3 v w → Sp.ok (.tr x3) v w) (hs4 : ∀ v w, ok s4 v w → Sp.ok (.tr x4) v w) (hs5 : ∀ v w, ok s5 v w → Sp.ok (.tr x5) v w) (hs6 : ∀ v w, ok s6 v w → Sp.ok (.tr x6) v w) (hs7 : ∀ v w, ok s7 v w → Sp.ok (.tr x7) v w) (hs8 : ∀ v w, ok s8 v w → Sp.ok (.tr x8) v w) (hs9 : ∀ v w, ok s9 v w → Sp.ok (.tr x9) v w) (hd : ∀ v w, Sp.ok (.trs [x1, x2, x3, x4, x5, x6, x7, x8, x9]) v w → ok d v w) :
    StepOk Try.prog Q B W ok { dst := some d, op := .buildSlice 32 9 #[(0, .tmp s1), (1, .tmp s2), (2, .tmp s3), (3, .tmp s4), (4, .tmp s5), (5, .tmp s6), (6, .tmp s7), (7, .tmp s8), (8, .tmp s9)], type := ty, pos := pos, after := af, guard := none } := by
  intro a w K hB h hK
  obtain ⟨y1, g1, h1⟩ := hs1 _ _ (h s1 (by simp [slotsOf, Op.operands, Call.operands]))
  obtain ⟨y2, g2, h2⟩ := hs2 _ _ (h s2 (by simp [slotsOf, Op.operands, Call.operands]))
  obtain ⟨y3, g3, h3⟩ := hs3 _ _ (h s3 (by simp [slotsOf, Op.operands, Call.operands]))
  obtain ⟨y4, g4, h4⟩ := hs4 _ _ (h s4 (by simp [slotsOf, Op.operands, Call.operands]))
  obtain ⟨y5, g5, h5⟩ := hs5 _ _ (h s5 (by simp [slotsOf, Op.operands, Call.operands]))
  obtain ⟨y6, g6, h6⟩ := hs6 _ _ (h s6 (by simp [slotsOf, Op.operands, Call.operands]))
  obtain ⟨y7, g7, h7⟩ := hs7 _ _ (h s7 (by simp [slotsOf, Op.operands, Call.operands]))
  obtain ⟨y8, g8, h8⟩ := hs8 _ _ (h s8 (by simp [slotsOf, Op.operands, Call.operands]))
  obtain ⟨y9, g9, h9⟩ := hs9 _ _ (h s9 (by simp [slotsOf, Op.operands, Call.operands]))
  have R : AllR (TR w) [x1, x2, x3, x4, x5, x6, x7, x8, x9] [y1, y2, y3, y4, y5, y6, y7, y8, y9] := .cons h1 (.cons h2 (.cons h3 (.cons h4 (.cons h5 (.cons h6 (.cons h7 (.cons h8 (.cons h9 (.nil)))))))))
  have hK1 := hK _ _ (fun d' hd' => by injection hd' with hd'; subst hd'; exact hd _ _ ⟨_, rfl, trow_box w _ _ R (by simp) _ rfl⟩) ((Below.refl _ _).alloc (Nat.le_refl _) _)
  obtain ⟨tmps, df⟩ := a
  simp only at g1 g2 g3 g4 g5 g6 g7 g8 g9 hK1
  simp only [tcells] at g1 g2 g3 g4 g5 g6 g7 g8 g9
  have g1' := g1; rw [Array.getD_eq_getD_getElem?] at g1'
  have g2' := g2; rw [Array.getD_eq_getD_getElem?] at g2'
  have g3' := g3; rw [Array.getD_eq_getD_getElem?] at g3'
  have g4' := g4; rw [Array.getD_eq_getD_getElem?] at g4'
  have g5' := g5; rw [Array.getD_eq_getD_getElem?] at g5'
  have g6' := g6; rw [Array.getD_eq_getD_getElem?] at g6'
  have g7' := g7; rw [Array.getD_eq_getD_getElem?] at g7'
  have g8' := g8; rw [Array.getD_eq_getD_getElem?] at g8'
  have g9' := g9; rw [Array.getD_eq_getD_getElem?] at g9'
  clear R h hK hd hs1 h1 hs2 h2 hs3 h3 hs4 h4 hs5 h5 hs6 h6 hs7 h7 hs8 h8 hs9 h9
  go_simp
  exact hK1
end
theorem forms_small (n : Int) : ∀ x ∈ formsL n, (x.1.length ≤ 100 ∧ x.2.1.length ≤ 100) ∧ Bare x.1 ∧ Bare x.2.1 := by
  intro x hx
  simp only [formsL, List.mem_cons, List.not_mem_nil, or_false] at hx
  unfold Bare
  rcases hx with rfl | rfl | rfl | rfl | rfl | rfl | rfl | rfl | rfl <;> simp [tickE, sentE, cameE]
theorem forms_short (n : Int) : ∀ x ∈ formsL n, x.2.2.1.length ≤ 100 := by
  intro x hx
  simp only [formsL, List.mem_cons, List.not_mem_nil, or_false] at hx
  rcases hx with rfl | rfl | rfl | rfl | rfl | rfl | rfl | rfl | rfl <;> simp
theorem Bare.small {es : List Ev} (h : Bare es) : ∀ e ∈ es, e.data.length ≤ 1000000 ∧ e.pk.data.length ≤ 1000000 := fun e he => by rw [(h e he).1, (h e he).2]; simp
theorem right_small {a b : List Ev} {l : List (Int × Ev)} (h : Right a b l) (ha : Bare a) (hb : Bare b) : Small l := by
  intro y hy
  rcases h.t y hy with h1 | h1
  · exact ha.small _ (by rw [← h.o0]; exact mem_only (by rw [← h1]; exact hy))
  · exact hb.small _ (by rw [← h.o1]; exact mem_only (by rw [← h1]; exact hy))
end Go.Proofs.Ytoplcndiejpipaa
