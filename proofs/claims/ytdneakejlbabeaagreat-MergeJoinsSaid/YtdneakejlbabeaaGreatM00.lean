/- Short forms of what the walk's texts say often. -/
import Derived.Deep.RegionHeld
import Derived.Below
import Derived.WalkKit
import Derived.IntWalk
namespace Go.Proofs.YtdneakejlbabeaaGreat
open Go.RowKit
theorem gA (l : List Value) (i : Nat) : l.toArray[i]? = l[i]? := List.getElem?_toArray ..
theorem gZ {x : Value} {l : List Value} : (x :: l)[0]? = some x := List.getElem?_cons_zero
theorem gC {x : Value} {l : List Value} {i : Nat} : (x :: l)[i + 1]? = l[i]? := List.getElem?_cons_succ
theorem lx {α : Type} (e : α) : ∃ x, x = e := ⟨e, rfl⟩
theorem hid {p : Prop} (h : p) : Hid p := h
theorem ba {w : World} {o : Obj} : Below w.heap.size w (w.alloc o) := (Below.refl _ _).alloc (Nat.le_refl _) _
theorem bD {w : World} : Below w.heap.size w w.drew := (Below.refl _ _).drew
theorem bO {a w w' : World} (h : Below a.heap.size a w) (k : Below w.heap.size w w') : Below a.heap.size a w' := h.trans (k.mono h.size)
theorem iX {z : Int} (h1 : -9223372036854775808 ≤ z := by omega) (h2 : z ≤ 9223372036854775807 := by omega) : IntKind.i64.wrap z = z := IntWalk.i64_in z ⟨h1, h2⟩
section
variable {P : Program} {ops : Array Oper} {Q : Exit → Act → World → Prop} {md : Region.Mode} {S : World → Prop} {fuel : Nat} {ls ls' : Array Bool} {a a' : Act} {w : World}
theorem Ko {i : Nat} {K : Act → World → Prop} (hK : Shut (∀ a w, S w → (S w → wpAnyH P md ops Q S fuel (ls.setIfInBounds i true) a w) → K a w)) (hS : S w) (h : S w → wpAnyH P md ops Q S fuel ls' a' w)
    (ha : a = a' := by (try simp only [Act.put, List.setIfInBounds_toArray, List.set_cons_zero, List.set_cons_succ]); rfl)
    (hl : ls.setIfInBounds i true = ls' := by (try simp only [List.setIfInBounds_toArray, List.set_cons_zero, List.set_cons_succ]); rfl) : K a w := by
  subst ha hl
  exact hK.out _ _ hS h
theorem rD (i : Nat) {o : Oper} (ho : ops[i]? = some o) (h : ∀ K' : Act → World → Prop, Shut (∀ a w, S w → (S w → wpAnyH P md ops Q S fuel (ls.setIfInBounds i true) a w) → K' a w) → if Region.wanted o (yielded ops a.tmps) = true then Oper.wp P o a w K' Q else K' (a.put o.dst undef) w)
    (hr : Region.ready md ops ls = [i] := by kernel_rfl) : wpAnyH P md ops Q S (fuel + 1) ls a w := wpAnyH_ready hr (by simp) (AllReadyH.cons ho h AllReadyH.nil)
theorem dn (h : Q .normal a w) (hr : Region.ready md ops ls = [] := by kernel_rfl) : wpAnyH P md ops Q S fuel ls a w := wpAnyH_done hr h _
end
end Go.Proofs.YtdneakejlbabeaaGreat
