/- A row of integers that came in. -/
import Derived.Test.YtnpapjocobgpnaaGm
namespace Go.Proofs.Ytnpapjocobgpnaa
open Go.RowKit

theorem ints_of_row {w : World} {a : Option Addr} {len cap : Nat} {zs : List Int} (h : (a = none ∧ len = 0 ∧ cap = 0 ∧ zs = []) ∨
  ∃ x, a = some x ∧ len ≤ cap ∧ cap ≤ maxLen ∧ zs.length = cap ∧ (∀ i, i < zs.length → w.cell? (x.add i) = some (.int .i64 (zs.getD i 0))) ∧ ∀ n ∈ zs, (Lit.int .i64 n).wf = true) :
    ∃ l : List Int, Sl w 1 (.slice a len cap) len (i64s l) := by
  rcases h with ⟨rfl, rfl, rfl, rfl⟩ | ⟨x, rfl, hl, hm, hz, hc, hw⟩
  · exact ⟨[], Sl.nil w 1⟩
  · refine ⟨zs.take len, ⟨some x, cap, rfl, hl, hm, by simp [i64s]; omega, i64s_one _, fun _ => ⟨x, rfl, fun j u hj => ?_⟩⟩⟩
    simp only [i64s, List.getElem?_map, Option.map_eq_some_iff] at hj
    obtain ⟨z, hz1, rfl⟩ := hj
    rw [List.getElem?_take] at hz1
    split at hz1
    · have hj2 : j < zs.length := (List.getElem?_eq_some_iff.1 hz1).1
      rw [hc j hj2, List.getD_eq_getElem?_getD, hz1]
      rfl
    · cases hz1
end Go.Proofs.Ytnpapjocobgpnaa
