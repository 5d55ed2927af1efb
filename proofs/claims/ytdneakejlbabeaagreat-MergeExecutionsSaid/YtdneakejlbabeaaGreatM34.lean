/- Parts of the walk: Fj, Ve. -/
import Derived.Test.YtdneakejlbabeaaGreatM33
import Derived.Deep.RegionHeld3
import Derived.Test.YtdneakejlbabeaaGreatM32
namespace Go.Proofs.YtdneakejlbabeaaGreat
open Go.RowKit
set_option linter.unusedVariables false
set_option linter.unusedSimpArgs false

theorem join_at (w : World) (S : Nat → Prop) (va vb : Value) (a b : List Ev) (ha : ERow S w va a) (hb : ERow S w vb b) (la : a.length ≤ 500000) (lb : b.length ≤ 500000)
    (sma : ∀ e ∈ a, e.data.length ≤ 1000000 ∧ e.pk.data.length ≤ 1000000) (smb : ∀ e ∈ b, e.data.length ≤ 1000000 ∧ e.pk.data.length ≤ 1000000) (l : List (Int × Ev)) (at_ side : Int) (ok : Bool) (hJ : J a b = (l, at_, side, ok)) :
    Calls Tryz.prog 11 #[va, vb] w fun r w' => ∃ A c D, r = .returned (.tuple #[.slice A l.length c, .int .i64 at_, .int .i64 side, .bool ok]) ∧ NRow D w' (.slice A l.length c) l ∧ Below w.heap.size w w' := by
  refine (join_any w S va vb a b ha hb la lb sma smb).mono ?_
  rintro r w' ⟨v, D, rfl, hr, hb⟩
  rw [hJ] at hr
  obtain ⟨A, c, rfl, _⟩ := hr.len
  exact ⟨A, c, D, by rw [hJ], hr, hb⟩
theorem erow_nil (S : Nat → Prop) (w : World) : ERow S w (.slice none 0 0) [] := ⟨[], rfl, Sl.nil w 12, fun i a b h => by simp at h⟩
theorem EV.bare (S : Nat → Prop) (w : World) (e : Ev) (h1 : e.data = []) (h2 : e.pk.data = []) : EV w S e (.slice none 0 0, .slice none 0 0) := ⟨by rw [h1]; exact BV.nil _ _, by rw [h2]; exact BV.nil _ _⟩
/-- A row of one bare event. -/
theorem erow_one (S : Nat → Prop) (w : World) (e : Ev) (h1 : e.data = []) (h2 : e.pk.data = []) (h : Nat) (hh : h = w.heap.size) : ERow S (w.alloc (.cells (ecells e (.slice none 0 0, .slice none 0 0)).toArray 29)) (.slice (some ⟨h, 0, none⟩) 1 1) [e] := by
  refine ⟨[(.slice none 0 0, .slice none 0 0)], rfl, ?_, fun i a b ha hb => ?_⟩
  · have := Sl.boxk w 29 12 (ecells e (.slice none 0 0, .slice none 0 0)) h hh rfl (EV.one (EV.bare S w e h1 h2))
    simpa [rowsG] using this
  · have hi := (List.getElem?_eq_some_iff.1 ha).1
    simp only [List.length_cons, List.length_nil] at hi
    obtain rfl : i = 0 := by omega
    simp only [List.getElem?_cons_zero, Option.some.injEq] at ha hb
    subst ha
    subst hb
    exact EV.bare S _ e h1 h2

set_option maxHeartbeats 4000000 in
set_option maxRecDepth 100000 in
theorem wakes_any (w : World) : Calls Tryz.prog 16 #[] w fun r w' => r = .returned (.bool true) ∧ Below w.heap.size w w' := by
  go_enter Tryz.func16, Tryz.ntmps16
  go_wp2_with fail
  refine (join_at w (fun _ => False) _ _ [] [] (erow_nil _ _) (erow_nil _ _) (by simp) (by simp) (by simp) (by simp) [] 0 0 true (by decide)).mono ?_
  rintro r w1 ⟨A, c, D, rfl, hr, hb⟩
  have B1 := Lib.hid hb
  clear hr hb
  go_wp2_with fail
  refine (join_at _ (fun _ => False) _ _ [⟨6, 0, [], ⟨0, 0, 0, 0, 0, [], false, 0, 0⟩⟩] [⟨4, 0, [], ⟨1, 0, 0, 0, 0, [], false, 0, 0⟩⟩] ((erow_one _ w1 _ rfl rfl _ rfl).below ((Below.refl _ _).alloc (Nat.le_refl _) _)) (erow_one _ _ _ rfl rfl _ (by simp)) (by simp) (by simp) (by simp) (by simp) [] 0 1 false (by decide)).mono ?_
  rintro r w2 ⟨A2, c2, D2, rfl, hr, hb⟩
  have hb2 := B1.out.trans ((((Below.refl w1.heap.size w1).alloc (Nat.le_refl _) _).alloc (by simp) _).trans (hb.mono (by simp; omega)) |>.mono B1.out.size)
  have B2 := Lib.hid hb2
  clear hr hb hb2
  go_wp2_with fail
  go_ret
  exact ⟨rfl, B2.out⟩
end Go.Proofs.YtdneakejlbabeaaGreat

namespace Go.Proofs.YtdneakejlbabeaaGreat
open Go.RowKit
set_option linter.unusedVariables false
set_option linter.unusedSimpArgs false

/-- Was it sent by the other side, among the first m? -/
def fndP (l : List (Int × Ev)) (q : Int) (p : Pk) (m : Nat) : Bool := (l.take m).any fun y => (y.1 != q) && (y.2.kind == 5) && decide (y.2.pk = p)
theorem fndP_succ (l : List (Int × Ev)) (q : Int) (p : Pk) (m : Nat) (y : Int × Ev) (h : l[m]? = some y) : fndP l q p (m + 1) = (fndP l q p m || ((y.1 != q) && (y.2.kind == 5) && decide (y.2.pk = p))) := by
  unfold fndP
  rw [List.take_add_one, h, List.any_append]
  simp
theorem fndP_caus {l : List (Int × Ev)} (h : Caus l) (ht : Two l) {i : Nat} {q : Int} {e : Ev} (hi : l[i]? = some (q, e)) (h4 : e.kind = 4) : fndP l q e.pk i = true := by
  obtain ⟨j, f, hj, hf, h5, h6⟩ := h i q e hi h4
  have hq := ht _ (List.mem_of_getElem? hi)
  unfold fndP
  rw [List.any_eq_true]
  refine ⟨(1 - q, f), List.mem_of_getElem? (i := j) (by rw [List.getElem?_take, if_pos hj]; exact hf), ?_⟩
  simp only [h5, h6, decide_true, Bool.and_true, Bool.and_eq_true, beq_self_eq_true, bne_iff_ne]
  dsimp only at hq
  omega
/-- Each event of the row is the next one of its side. -/
theorem right_at {a b : List Ev} {l : List (Int × Ev)} (h : Right a b l) {j : Nat} {e : Ev} : (l[j]? = some (0, e) → a[(only 0 (l.take j)).length]? = some e) ∧ (l[j]? = some (1, e) → b[(only 1 (l.take j)).length]? = some e) := by
  have key : ∀ (s : Int) (c : List Ev), only s l = c → l[j]? = some (s, e) → c[(only s (l.take j)).length]? = some e := fun s c hc hj => by
    have h2 := only_app s (l.take (j + 1)) (l.drop (j + 1))
    rw [List.take_append_drop, List.take_add_one, hj] at h2
    simp only [Option.toList_some] at h2
    rw [only_app, only_yes, hc] at h2
    rw [h2, List.append_assoc, List.getElem?_append_right (Nat.le_refl _), Nat.sub_self]
    rfl
  exact ⟨key 0 a h.o0, key 1 b h.o1⟩
theorem only_step (l : List (Int × Ev)) (s q : Int) (j : Nat) (e : Ev) (h : l[j]? = some (q, e)) : (only s (l.take (j + 1))).length = (only s (l.take j)).length + (if q = s then 1 else 0) := by
  rw [List.take_add_one, h]
  simp only [Option.toList_some]
  rw [only_app, List.length_append]
  by_cases hq : q = s
  · subst hq
    rw [only_yes, if_pos rfl]
    rfl
  · rw [only_no s q e hq, if_neg hq]
    rfl
theorem right_small {a b : List Ev} {l : List (Int × Ev)} (h : Right a b l) (ha : SmallE a) (hb : SmallE b) : Small l := fun y hy => by
  obtain ⟨s, e⟩ := y
  have hs := h.t _ hy
  have hm := mem_only hy
  dsimp only at hs
  rcases hs with rfl | rfl
  · rw [h.o0] at hm
    exact ha e hm
  · rw [h.o1] at hm
    exact hb e hm
theorem only_two {l : List (Int × Ev)} (h : Two l) : only 2 l = [] := by
  unfold only
  rw [List.filter_eq_nil_iff.2 (fun y hy => by have := h y hy; simp; omega)]
  rfl
end Go.Proofs.YtdneakejlbabeaaGreat
