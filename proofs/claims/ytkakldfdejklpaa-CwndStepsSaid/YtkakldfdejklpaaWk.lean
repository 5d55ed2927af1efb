/- wakes. -/
import Derived.Test.YtkakldfdejklpaaFns
namespace Go.Proofs.Ytkakldfdejklpaa
open Go.RowKit

theorem wakes_any (w : World) : Calls Try.prog 13 #[] w fun e w' => e = .returned (.bool true) ∧ Below w.heap.size w w' := by
  go_enter Try.func13, Try.ntmps13
  go_wp2_with fail
  refine (new_any 9 _).mono ?_
  rintro e w1 ⟨g, rfl, hg, h, hb⟩
  have h' : Win w1 g 9 2 9 0 := h
  clear h
  have H := Lib.hid h'
  clear h'
  go_wp2_with fail
  refine (size_any g _ _ _ _ _ H.out).mono ?_
  rintro e _ ⟨rfl, rfl⟩
  go_wp2_with fail
  refine (room_any g _ _ _ _ _ _ H.out).mono ?_
  rintro e _ ⟨rfl, rfl⟩
  go_wp2_with fail
  refine (room_any g _ _ _ _ _ _ H.out).mono ?_
  rintro e _ ⟨rfl, rfl⟩
  go_wp2_with fail
  go_ret
  exact ⟨rfl, hb⟩
end Go.Proofs.Ytkakldfdejklpaa
