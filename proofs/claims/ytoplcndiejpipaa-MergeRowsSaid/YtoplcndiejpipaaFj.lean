/- The example of the document. -/
import Derived.Test.YtoplcndiejpipaaFi
namespace Go.Proofs.Ytoplcndiejpipaa
open Go.RowKit
set_option linter.unusedVariables false
set_option linter.unusedSimpArgs false

theorem join_at (w : World) (S : Nat → Prop) (va vb : Value) (a b : List Ev) (ha : ERow S w va a) (hb : ERow S w vb b) (la : a.length ≤ 50000) (lb : b.length ≤ 50000)
    (sma : ∀ e ∈ a, e.data.length ≤ 1000000 ∧ e.pk.data.length ≤ 1000000) (smb : ∀ e ∈ b, e.data.length ≤ 1000000 ∧ e.pk.data.length ≤ 1000000) (l : List (Int × Ev)) (at_ side : Int) (ok : Bool) (hJ : J a b = (l, at_, side, ok)) :
    Calls Try.prog 8 #[va, vb] w fun r w' => ∃ A c D, r = .returned (.tuple #[.slice A l.length c, .int .i64 at_, .int .i64 side, .bool ok]) ∧ NRow D w' (.slice A l.length c) l ∧ Below w.heap.size w w' := by
  refine (join_any w S va vb a b ha hb la lb sma smb).mono ?_
  rintro r w' ⟨v, D, rfl, hr, hb⟩
  rw [hJ] at hr
  obtain ⟨A, c, rfl, _⟩ := hr.len
  exact ⟨A, c, D, by rw [hJ], hr, hb⟩
theorem erow_nil (S : Nat → Prop) (w : World) : ERow S w (.slice none 0 0) [] := ⟨[], rfl, Sl.nil w 12, fun i a b h => by simp at h⟩
theorem EV.bare (S : Nat → Prop) (w : World) (e : Ev) (h1 : e.data = []) (h2 : e.pk.data = []) : EV w S e (.slice none 0 0, .slice none 0 0) := ⟨by rw [h1]; exact BV.nil _ _, by rw [h2]; exact BV.nil _ _⟩
/-- A row of one bare event. -/
theorem erow_one (S : Nat → Prop) (w : World) (e : Ev) (h1 : e.data = []) (h2 : e.pk.data = []) (h : Nat) (hh : h = w.heap.size) : ERow S (w.alloc (.cells (ecells e (.slice none 0 0, .slice none 0 0)).toArray 27)) (.slice (some ⟨h, 0, none⟩) 1 1) [e] := by
  refine ⟨[(.slice none 0 0, .slice none 0 0)], rfl, ?_, fun i a b ha hb => ?_⟩
  · have := Sl.boxk w 27 12 (ecells e (.slice none 0 0, .slice none 0 0)) h hh rfl (EV.one (EV.bare S w e h1 h2))
    simpa [rowsG] using this
  · have hi := (List.getElem?_eq_some_iff.1 ha).1
    simp only [List.length_cons, List.length_nil] at hi
    obtain rfl : i = 0 := by omega
    simp only [List.getElem?_cons_zero, Option.some.injEq] at ha hb
    subst ha
    subst hb
    exact EV.bare S _ e h1 h2

set_option maxHeartbeats 4000000 in
set_option maxRecDepth 100000 in
theorem wakes_any (w : World) : Calls Try.prog 11 #[] w fun r w' => r = .returned (.bool true) ∧ Below w.heap.size w w' := by
  go_enter Try.func11, Try.ntmps11
  go_wp2_with fail
  refine (join_at w (fun _ => False) _ _ [] [] (erow_nil _ _) (erow_nil _ _) (by simp) (by simp) (by simp) (by simp) [] 0 0 true (by decide)).mono ?_
  rintro r w1 ⟨A, c, D, rfl, hr, hb⟩
  have B1 := Lib.hid hb
  clear hr hb
  go_wp2_with fail
  refine (join_at _ (fun _ => False) _ _ [⟨6, 0, [], ⟨0, 0, 0, 0, 0, [], false, 0, 0⟩⟩] [⟨4, 0, [], ⟨1, 0, 0, 0, 0, [], false, 0, 0⟩⟩] ((erow_one _ w1 _ rfl rfl _ rfl).below ((Below.refl _ _).alloc (Nat.le_refl _) _)) (erow_one _ _ _ rfl rfl _ (by simp)) (by simp) (by simp) (by simp) (by simp) [] 0 1 false (by decide)).mono ?_
  rintro r w2 ⟨A2, c2, D2, rfl, hr, hb⟩
  have hb2 := B1.out.trans ((((Below.refl w1.heap.size w1).alloc (Nat.le_refl _) _).alloc (by simp) _).trans (hb.mono (by simp; omega)) |>.mono B1.out.size)
  have B2 := Lib.hid hb2
  clear hr hb hb2
  go_wp2_with fail
  go_ret
  exact ⟨rfl, B2.out⟩
end Go.Proofs.Ytoplcndiejpipaa
