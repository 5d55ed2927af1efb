/- Rows laid out by hand: what the acts make, in plain Lean. -/
import Derived.Test.YtoplcndiejpipaaGb
namespace Go.Proofs.Ytoplcndiejpipaa
open Go.RowKit
set_option linter.unusedVariables false
set_option linter.unusedSimpArgs false

/-- One act more. -/
def actW (wl : List (Int × Ev)) (i : Nat) (act num : Int) : List (Int × Ev) :=
  if act.tdiv 2 % 3 = 0 then wl ++ [(act % 2, tickE ((i : Int) + 1))]
  else if act.tdiv 2 % 3 = 1 ∨ (1 - act % 2, sentE (num % 5)) ∉ wl then wl ++ [(act % 2, sentE (num % 5))]
  else wl ++ [(act % 2, cameE (num % 5))]
structure RowOk (wl : List (Int × Ev)) : Prop where
  c : Caus wl
  t : Two wl
  b : ∀ y ∈ wl, y.2.data = [] ∧ y.2.pk.data = []
theorem RowOk.nil : RowOk [] := ⟨fun i s e h => by simp at h, fun y h => by simp at h, fun y h => by simp at h⟩
theorem RowOk.snoc {wl : List (Int × Ev)} (h : RowOk wl) (s : Int) (e : Ev) (hs : s = 0 ∨ s = 1) (hd : e.data = [] ∧ e.pk.data = []) (he : e.kind = 4 → ∃ f, (1 - s, f) ∈ wl ∧ f.kind = 5 ∧ f.pk = e.pk) : RowOk (wl ++ [(s, e)]) :=
  ⟨h.c.snoc s e he, h.t.snoc s e hs, fun y hy => by
    rcases List.mem_append.1 hy with hy | hy
    · exact h.b y hy
    · rw [List.mem_singleton.1 hy]; exact hd⟩
theorem side_two (a : Int) : a % 2 = 0 ∨ a % 2 = 1 := by omega
theorem RowOk.act {wl : List (Int × Ev)} (h : RowOk wl) (i : Nat) (act num : Int) : RowOk (actW wl i act num) := by
  unfold actW
  split
  · exact h.snoc _ _ (side_two act) ⟨rfl, rfl⟩ (fun h => by cases h)
  · split
    · exact h.snoc _ _ (side_two act) ⟨rfl, rfl⟩ (fun h => by cases h)
    · rename_i h2
      refine h.snoc _ _ (side_two act) ⟨rfl, rfl⟩ (fun _ => ⟨sentE (num % 5), ?_, rfl, rfl⟩)
      exact Classical.byContradiction fun x => h2 (.inr x)
theorem actW_length (wl : List (Int × Ev)) (i : Nat) (act num : Int) : (actW wl i act num).length = wl.length + 1 := by
  unfold actW
  split
  · simp
  · split <;> simp
/-- Was it sent? -/
def fnd (l : List (Int × Ev)) (s n : Int) (j : Nat) : Bool := (l.take j).any fun y => y.1 != s && y.2.kind == 5 && y.2.pk.number == n
theorem fnd_succ (l : List (Int × Ev)) (s n : Int) (j : Nat) (y : Int × Ev) (h : l[j]? = some y) : fnd l s n (j + 1) = (fnd l s n j || (y.1 != s && y.2.kind == 5 && y.2.pk.number == n)) := by
  unfold fnd
  rw [List.take_add_one, h, List.any_append]
  simp
theorem fnd_caus {l : List (Int × Ev)} (h : Caus l) (ht : Two l) (i : Nat) (s : Int) (e : Ev) (hi : l[i]? = some (s, e)) (he : e.kind = 4) : fnd l s e.pk.number i = true := by
  obtain ⟨j, f, hj, hjf, h5, hp⟩ := h i s e hi he
  unfold fnd
  rw [List.any_eq_true]
  refine ⟨(1 - s, f), List.mem_of_getElem? (i := j) (by rw [List.getElem?_take, if_pos hj]; exact hjf), ?_⟩
  have : (1 - s != s) = true := by
    rw [bne_iff_ne]
    omega
  simp [this, h5, hp]
theorem RowOk.bare {wl : List (Int × Ev)} (h : RowOk wl) (s : Int) : Bare (only s wl) := fun e he => h.b _ (only_mem he)
end Go.Proofs.Ytoplcndiejpipaa
