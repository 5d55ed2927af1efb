/- The contracts of the functions that chapter 17's statements reach. -/
import Derived.Test.YtnpapjocobgpnaaProg
import Derived.Test.YtnpapjocobgpnaaHS
import Derived.Test.YtnpapjocobgpnaaMath
import Derived.Deep.AppendLies
namespace Go.Proofs.Ytnpapjocobgpnaa
open Go.RowKit
attribute [local go_sem] run_max2 run_min2 run_max_ run_min_

theorem Try.info3 : (Try.prog.info? 3).map (fun i => (i.zero, i.size, i.bytes)) = some (some (.int .i64 0), 1, 8) := by kernel_rfl
theorem ret_int {k : IntKind} {a b : Int} (h : a = b) : Ending.returned (.int k a) = .returned (.int k b) := by rw [h]
def i64s (l : List Int) : List Value := l.map fun n : Int => .int .i64 n
theorem i64s_one (l : List Int) : ∀ u ∈ i64s l, u.oneCell' = true := by simp [i64s, Value.oneCell']
theorem i64s_getD (l : List Int) (i : Nat) (h : i < l.length) : (i64s l).getD i undef = .int .i64 (l.getD i 0) := by
  simp [i64s, List.getD_eq_getElem?_getD, h]
theorem own_slice' {w : World} {base n : Nat} {e : TypeId} {size : Nat} {v : Value} {xs : List Value} (h : w.ownsRow base e size v n xs) : ∃ A c, v = .slice A n c := by
  rcases h.2 with ⟨rfl, rfl⟩ | ⟨g, cap, cur, rfl, _⟩
  · exact ⟨none, 0, rfl⟩
  · exact ⟨_, cap, rfl⟩
theorem sl_len {w : World} {v : Value} {n : Nat} {l : List Int} (h : Sl w 1 v n (i64s l)) : l.length = n := by
  obtain ⟨_, _, _, _, _, h, _⟩ := h
  simpa [i64s] using h

/-- The scheduler at block g. -/
def Sch (w : World) (g : Nat) (k nx : Int) : Prop := Blk w g #[.int .i64 k, .int .i64 nx] 35
/-- The reference's scheduler at block g. -/
def Rch (w : World) (g : Nat) (k la : Int) : Prop := Blk w g #[.int .i64 k, .int .i64 la] 38

theorem within_any (v n : Int) (w : World) (hn : 0 < n) (hn2 : n ≤ 1000000) : Calls Try.prog 6 #[.int .i64 v, .int .i64 n] w fun e w' => e = .returned (.int .i64 (v % n)) ∧ w = w' := by
  have h1 : ¬ n < 1 := by omega
  have h2 : ¬ n = 0 := by omega
  have hz : (n == 0) = false := by simpa using h2
  by_cases h : v.tmod n < 0
  · have e : v.tmod n + n = v % n := by
      rw [Int.tmod_eq_emod]
      have := Int.emod_nonneg v h2
      rw [Int.tmod_eq_emod] at h
      split at h <;> split <;> omega
    have l : -n < v.tmod n := by
      have := Int.emod_nonneg v h2
      have := Int.emod_lt_of_pos v hn
      rw [Int.tmod_eq_emod]
      split <;> omega
    have E := Lib.hid e
    clear e
    go_enter Try.func6, Try.ntmps6
    go_wp2
    go_ret
    exact ⟨ret_int E.out, rfl⟩
  · have e : v.tmod n = v % n := by
      have := Int.emod_nonneg v h2
      have := Int.emod_lt_of_pos v hn
      rw [Int.tmod_eq_emod] at h ⊢
      split at h <;> split <;> omega
    have E := Lib.hid e
    clear e
    go_enter Try.func6, Try.ntmps6
    go_wp2
    go_ret
    exact ⟨ret_int E.out, rfl⟩


theorem usable_any (w : World) (v : Value) (n : Nat) (ms : List Int) (h : Sl w 1 v n (i64s ms)) (hn : n ≤ 1000000) :
    Calls Try.prog 14 #[v] w fun e w' => ∃ v', e = .returned v' ∧ w'.ownsRow w.heap.size 3 1 v' (usN ms n).length (i64s (usN ms n)) ∧ Below w.heap.size w w' := by
  have hl := sl_len h
  have HL := Lib.hid hl
  have H := Lib.hid h
  obtain ⟨A, c, rfl, _, _⟩ := h.len
  have HI := Lib.hid Try.info3
  clear h hl
  go_enter Try.func14, Try.ntmps14
  go_wp2_with fail
  go_loopw [3, 8] (fun v i wr => ∃ k : Nat, k ≤ n ∧ i = .int .i64 k ∧ wr.ownsRow w.heap.size 3 1 v (usN ms k).length (i64s (usN ms k)) ∧ Below w.heap.size w wr) (fun _ i _ => n - (intOf i).toNat)
  case atStart => exact ⟨0, by omega, rfl, World.ownsRow_nil _ _ _ _, Below.refl _ _⟩
  case round =>
    obtain ⟨k, hk, rfl, ho, hb⟩ := hrel
    have HO := Lib.hid ho
    have HB := Lib.hid hb
    have sz := hb.size
    clear ho hb
    by_cases hlt : k < n
    · obtain ⟨x, rfl, cx⟩ := H.out.at_ hlt
      rw [i64s_getD _ _ (by rw [HL.out]; exact hlt)] at cx
      have cx2 := (HB.out.cell (World.block_lt_of_cell? w _ cx)).trans cx
      have hlen := usN_length ms k
      by_cases hz : 0 ≤ ms.getD k 0
      · have hu := usN_yes ms k hz
        have HU := Lib.hid hu
        generalize ms.getD k 0 = z at *
        clear hu cx
        go_wp2_with (at_builtin; refine wp_app w.heap.size rfl _ _ 22 3 (.int .i64 0) 1 8 rfl Try.underlying22 HI.out rfl (by omega) (by omega) rfl rfl (HO.out.alloc _) (Sl.one _ _ _ rfl) (by omega) (Nat.le_trans sz (by simp)) ?_; intro v1 w1 hown hfr hat)
        have HO1 : Hid (w1.ownsRow w.heap.size 3 1 v1 (usN ms (k + 1)).length (i64s (usN ms (k + 1)))) := by
          rw [HU.out, List.length_append, i64s, List.map_append]
          exact hown
        have HB1 : Hid (Below w.heap.size w w1) := Frm.below (HB.out.alloc sz _) hfr (Nat.le_trans sz (by simp)) (fun g hg => (HO.out.lt g hg).1)
        clear hown hfr hat
        go_wp2_with fail
        go_roundw
        case rel => exact ⟨k + 1, by omega, by go_num, HO1.out, HB1.out⟩
        case measure => simp [intOf]; omega
      · have hu := usN_no ms k hz
        have HO1 : Hid (wr.ownsRow w.heap.size 3 1 u3 (usN ms (k + 1)).length (i64s (usN ms (k + 1)))) := by rw [hu]; exact HO.out
        generalize ms.getD k 0 = z at *
        clear hu cx
        go_wp2_with fail
        go_roundw
        case rel => exact ⟨k + 1, by omega, by go_num, HO1.out, HB.out⟩
        case measure => simp [intOf]; omega
    · obtain rfl : k = n := by omega
      go_wp2_with fail
      go_ret
      exact ⟨_, rfl, HO.out, HB.out⟩

theorem new_any (k : Int) (w : World) : Calls Try.prog 7 #[.int .i64 k] w fun e w' => ∃ g, e = .returned (.pointer (some ⟨g, 0, none⟩)) ∧ w.heap.size ≤ g ∧ Sch w' g k 0 ∧ Below w.heap.size w w' := by
  have hu := Try.underlying35
  go_enter Try.func7, Try.ntmps7
  go_wp2
  go_ret
  exact ⟨_, rfl, Nat.le_refl _, Blk.new _ _ _, (Below.refl _ _).alloc (Nat.le_refl _) _⟩
theorem refnew_any (k : Int) (w : World) : Calls Try.prog 10 #[.int .i64 k] w fun e w' => ∃ g, e = .returned (.pointer (some ⟨g, 0, none⟩)) ∧ w.heap.size ≤ g ∧ Rch w' g k (-1) ∧ Below w.heap.size w w' := by
  have hu := Try.underlying38
  go_enter Try.func10, Try.ntmps10
  go_wp2
  go_ret
  exact ⟨_, rfl, Nat.le_refl _, Blk.new _ _ _, (Below.refl _ _).alloc (Nat.le_refl _) _⟩

/-- The closure that round makes: its captured block holds the scheduler's address. -/
theorem closure_any (x : Int) (b g : Nat) (k nx : Int) (w : World) (hb : w.cell? ⟨b, 0, none⟩ = some (.pointer (some ⟨g, 0, none⟩))) (h : Sch w g k nx) :
    Calls Try.prog 17 #[.int .i64 x, .pointer (some ⟨b, 0, none⟩)] w fun e w' => e = .returned (.bool (decide (nx ≤ x))) ∧ w = w' := by
  have c1 := h.cell 1
  simp at c1
  clear h
  go_enter Try.func17, Try.ntmps17
  go_wp2
  go_ret
  exact ⟨rfl, rfl⟩
end Go.Proofs.Ytnpapjocobgpnaa
