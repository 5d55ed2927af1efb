/- Rows of SchedPicks. -/
import Derived.Test.YtnpapjocobgpnaaAid
namespace Go.Proofs.Ytnpapjocobgpnaa
open Go.RowKit

theorem row_sl {w : World} {A : Option Addr} {L C : Nat} {Z : List Int} (h1 : L ≤ C) (h2 : C ≤ maxLen) (h3 : Z.length = C) (h4 : A = none → C = 0)
    (h5 : ∀ a', A = some a' → ∀ c, c < C → w.cell? (a'.add c) = some (.int .i64 (Z.getD c 0))) : Sl w 1 (.slice A L C) L (i64s (Z.take L)) := by
  refine ⟨A, C, rfl, h1, h2, by simp [i64s]; omega, i64s_one _, fun h0 => ?_⟩
  simp [i64s] at h0
  cases A with
  | none => have := h4 rfl; omega
  | some a =>
    refine ⟨a, rfl, fun j u hj => ?_⟩
    simp only [i64s, List.getElem?_map, Option.map_eq_some_iff] at hj
    obtain ⟨z, hz1, rfl⟩ := hj
    rw [List.getElem?_take] at hz1
    split at hz1
    · rename_i hjl
      rw [h5 a rfl j (by omega), List.getD_eq_getElem?_getD, hz1]
      rfl
    · cases hz1
end Go.Proofs.Ytnpapjocobgpnaa
