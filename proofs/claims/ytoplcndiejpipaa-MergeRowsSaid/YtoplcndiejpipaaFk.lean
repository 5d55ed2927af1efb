/- MergeForms: the logs by hand, and that their rows are as they say. -/
import Derived.Test.YtoplcndiejpipaaFj
namespace Go.Proofs.Ytoplcndiejpipaa
open Go.RowKit
set_option linter.unusedVariables false
set_option linter.unusedSimpArgs false

def sentE (n : Int) : Ev := ⟨5, 0, [], ⟨1, 0, n, 0, 0, [], false, 0, 0⟩⟩
def cameE (n : Int) : Ev := ⟨4, 0, [], ⟨1, 0, n, 0, 0, [], false, 0, 0⟩⟩
def tickE (n : Int) : Ev := ⟨3, n, [], ⟨0, 0, 0, 0, 0, [], false, 0, 0⟩⟩
/-- The logs, and what is said of their row. -/
def formsL (n : Int) : List (List Ev × List Ev × List Int × Int × Int × Bool) :=
  [([tickE n, tickE n], [tickE n], [0, 0, 1], 0, 0, true),
   ([cameE n, tickE n], [tickE n, sentE n, tickE n], [1, 1, 0, 0, 1], 0, 0, true),
   ([sentE n, cameE 5], [cameE n, sentE 5], [0, 1, 1, 0], 0, 0, true),
   ([cameE n], [cameE n], [], 0, 0, false),
   ([cameE n, sentE n], [cameE n, sentE n], [], 0, 0, false),
   ([sentE n, sentE n], [tickE n, cameE n, cameE n, cameE (n + 1)], [], 3, 1, false),
   ([tickE n, cameE n], [tickE n, sentE (n + 1)], [], 1, 0, false),
   ([], [sentE n, sentE n], [1, 1], 0, 0, true),
   ([sentE n, cameE n], [], [], 1, 0, false)]
def formOk (x : List Ev × List Ev × List Int × Int × Int × Bool) : Bool :=
  (J x.1 x.2.1).2.2.2 == x.2.2.2.2.2 && (J x.1 x.2.1).2.1 == x.2.2.2.1 && (J x.1 x.2.1).2.2.1 == x.2.2.2.2.1 && (J x.1 x.2.1).1.map (·.1) == x.2.2.1 &&
    (!x.2.2.2.2.2 || (decide (only 0 (J x.1 x.2.1).1 = x.1) && decide (only 1 (J x.1 x.2.1).1 = x.2.1)))
theorem forms_all : ∀ k : Fin 50, (formsL ((k.val : Int) + 1)).all formOk = true := by decide +kernel
theorem forms_ok (n : Int) (h1 : 1 ≤ n) (h2 : n ≤ 50) : ∀ x ∈ formsL n, formOk x = true := by
  obtain ⟨k, rfl⟩ : ∃ k : Nat, n = (k : Int) + 1 := ⟨(n - 1).toNat, by omega⟩
  have := forms_all ⟨k, by omega⟩
  exact List.all_eq_true.1 this

abbrev eaggB (e : Ev) : Value := eagg e (.slice none 0 0) (.slice none 0 0)
set_option maxRecDepth 100000 in
theorem sent_any (w : World) (n : Int) : Calls Try.prog 7 #[.int .i64 n] w fun r w' => r = .returned (eaggB (sentE n)) ∧ Below w.heap.size w w' := by
  go_enter Try.func7, Try.ntmps7
  go_wp2
  refine bodyPost_ret (results_cell_row rfl _ _ w.heap.size 27 (ecells (sentE n) (.slice none 0 0, .slice none 0 0)).toArray (0, 0) _ rfl (heap_alloc_new _ _) Try.underlying27 rfl Try.size27) rfl ?_
  exact ⟨rfl, (Below.refl _ _).alloc (Nat.le_refl _) _⟩
set_option maxRecDepth 100000 in
theorem came_any (w : World) (n : Int) : Calls Try.prog 6 #[.int .i64 n] w fun r w' => r = .returned (eaggB (cameE n)) ∧ Below w.heap.size w w' := by
  go_enter Try.func6, Try.ntmps6
  go_wp2
  refine bodyPost_ret (results_cell_row rfl _ _ w.heap.size 27 (ecells (cameE n) (.slice none 0 0, .slice none 0 0)).toArray (0, 0) _ rfl (heap_alloc_new _ _) Try.underlying27 rfl Try.size27) rfl ?_
  exact ⟨rfl, (Below.refl _ _).alloc (Nat.le_refl _) _⟩
theorem ret_int {k : IntKind} {a b : Int} (h : a = b) : Ending.returned (.int k a) = .returned (.int k b) := by rw [h]
set_option maxRecDepth 100000 in
theorem within_any (v n : Int) (w : World) (hn : 0 < n) (hn2 : n ≤ 1000000) : Calls Try.prog 5 #[.int .i64 v, .int .i64 n] w fun e w' => e = .returned (.int .i64 (v % n)) ∧ w = w' := by
  have h1 : ¬ n < 1 := by omega
  have h2 : ¬ n = 0 := by omega
  have hz : (n == 0) = false := by simpa using h2
  by_cases h : v.tmod n < 0
  · have e : v.tmod n + n = v % n := by
      rw [Int.tmod_eq_emod]
      have := Int.emod_nonneg v h2
      rw [Int.tmod_eq_emod] at h
      split at h <;> split <;> omega
    have l : -n < v.tmod n := by
      have := Int.emod_nonneg v h2
      have := Int.emod_lt_of_pos v hn
      rw [Int.tmod_eq_emod]
      split <;> omega
    have E := Lib.hid e
    clear e
    go_enter Try.func5, Try.ntmps5
    go_wp2
    go_ret
    exact ⟨ret_int E.out, rfl⟩
  · have e : v.tmod n = v % n := by
      have := Int.emod_nonneg v h2
      have := Int.emod_lt_of_pos v hn
      rw [Int.tmod_eq_emod] at h ⊢
      split at h <;> split <;> omega
    have E := Lib.hid e
    clear e
    go_enter Try.func5, Try.ntmps5
    go_wp2
    go_ret
    exact ⟨ret_int E.out, rfl⟩
end Go.Proofs.Ytoplcndiejpipaa
