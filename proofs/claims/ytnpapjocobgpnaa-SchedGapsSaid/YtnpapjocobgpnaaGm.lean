/- The plain law of SchedGaps; slices of a known row. -/
import Derived.Test.YtnpapjocobgpnaaWk
namespace Go.Proofs.Ytnpapjocobgpnaa
open Go.RowKit

theorem Sl.of_blk {w : World} {g : Nat} {l : List Int} {t : TypeId} (h : Blk w g (i64s l).toArray t) (n : Nat) (hn : l.length = n) (hm : n ≤ maxLen) : Sl w 1 (.slice (some ⟨g, 0, none⟩) n n) n (i64s l) := by
  refine ⟨_, n, rfl, Nat.le_refl _, hm, by simp [i64s, hn], i64s_one l, fun _ => ⟨_, rfl, fun j u hj => ?_⟩⟩
  have ha : (⟨g, 0, none⟩ : Addr).add j = ⟨g, j, none⟩ := by unfold Addr.add; split <;> simp_all
  rw [ha, h.cell]
  simpa using hj
theorem Blk.put {w : World} {g : Nat} {l : List Int} {t : TypeId} (h : Blk w g (i64s l).toArray t) (i : Nat) (x : Int) : Blk (w.setCell ⟨g, i, none⟩ (.int .i64 x)) g (i64s (l.set i x)).toArray t := by
  have := h.set i (.int .i64 x)
  have e : (i64s l).toArray.setIfInBounds i (.int .i64 x) = (i64s (l.set i x)).toArray := by simp [i64s, List.map_set]
  rwa [e] at this

theorem us3 (a b c : Int) : usN [a, b, c] 3 = (if 0 ≤ a then [0] else []) ++ ((if 0 ≤ b then [1] else []) ++ (if 0 ≤ c then [2] else [])) := by
  by_cases ha : 0 ≤ a <;> by_cases hb : 0 ≤ b <;> by_cases hc : 0 ≤ c <;> simp [usN, show List.range 3 = [0, 1, 2] from rfl, List.filter, ha, hb, hc]

theorem list3 (l : List Int) (h : l.length = 3) : ∃ a b c, l = [a, b, c] := by
  match l, h with
  | [a, b, c], _ => exact ⟨a, b, c, rfl⟩

/-- Which path has its turn. -/
def wnN (gn la : Int) : Int := if (la + 1) % 3 = gn then ((la + 1) % 3 + 1) % 3 else (la + 1) % 3

theorem bs2 (ms : List Int) (p q : Int) : bsN ms [p, q] 2 = if ms.getD q.toNat 0 < ms.getD p.toNat 0 then q else p := by
  simp [bsN]

theorem gap_round (ms : List Int) (gn : Nat) (hl : ms.length = 3) (hg : gn < 3) (h1 : ms.getD gn 0 = -1) (h0 : ∀ i, i < 3 → i ≠ gn → 0 ≤ ms.getD i 0) (la : Int) (l0 : -1 ≤ la) (l2 : la ≤ 2) :
    pkN 2 (la + 1) ms = [wnN gn la] ∧ nxN 2 (la + 1) ms = wnN gn la + 1 := by
  obtain ⟨a, b, c, rfl⟩ := list3 ms hl
  have e0 := h0 0 (by omega)
  have e1 := h0 1 (by omega)
  have e2 := h0 2 (by omega)
  simp at e0 e1 e2
  obtain rfl | rfl | rfl : gn = 0 ∨ gn = 1 ∨ gn = 2 := by omega
  all_goals
    simp at h1 e0 e1 e2
    subst h1
    obtain rfl | rfl | rfl | rfl : la = -1 ∨ la = 0 ∨ la = 1 ∨ la = 2 := by omega
    all_goals simp [pkN, nxN, us3, rdN, idN, wnN, e0, e1, e2, List.findIdx_cons]

theorem gap_quick (ms : List Int) (gn : Nat) (hl : ms.length = 3) (hg : gn < 3) (h1 : ms.getD gn 0 = -1) (h0 : ∀ i, i < 3 → i ≠ gn → 0 ≤ ms.getD i 0) :
    ∃ y u : Nat, pkN 1 0 ms = [(y : Int)] ∧ y < 3 ∧ u < 3 ∧ ¬ (y : Int) = (gn : Int) ∧ (3 : Int) - gn - y = u ∧ ms.getD y 0 ≤ ms.getD u 0 := by
  obtain ⟨a, b, c, rfl⟩ := list3 ms hl
  have e0 := h0 0 (by omega)
  have e1 := h0 1 (by omega)
  have e2 := h0 2 (by omega)
  simp at e0 e1 e2
  obtain rfl | rfl | rfl : gn = 0 ∨ gn = 1 ∨ gn = 2 := by omega
  · simp at h1 e0 e1 e2
    subst h1
    by_cases hx : c < b
    · exact ⟨2, 1, by simp [pkN, us3, bs2, e1, e2, hx], by omega, by omega, by omega, by omega, by simp; omega⟩
    · exact ⟨1, 2, by simp [pkN, us3, bs2, e1, e2, hx], by omega, by omega, by omega, by omega, by simp; omega⟩
  · simp at h1 e0 e1 e2
    subst h1
    by_cases hx : c < a
    · exact ⟨2, 0, by simp [pkN, us3, bs2, e0, e2, hx], by omega, by omega, by omega, by omega, by simp; omega⟩
    · exact ⟨0, 2, by simp [pkN, us3, bs2, e0, e2, hx], by omega, by omega, by omega, by omega, by simp; omega⟩
  · simp at h1 e0 e1 e2
    subst h1
    by_cases hx : b < a
    · exact ⟨1, 0, by simp [pkN, us3, bs2, e0, e1, hx], by omega, by omega, by omega, by omega, by simp; omega⟩
    · exact ⟨0, 1, by simp [pkN, us3, bs2, e0, e1, hx], by omega, by omega, by omega, by omega, by simp; omega⟩

theorem gap_all (ms : List Int) (gn : Nat) (hl : ms.length = 3) (hg : gn < 3) (h1 : ms.getD gn 0 = -1) (h0 : ∀ i, i < 3 → i ≠ gn → 0 ≤ ms.getD i 0) :
    ∃ y u : Nat, pkN 3 0 ms = [(y : Int), (u : Int)] ∧ ¬ (y : Int) = (gn : Int) ∧ ¬ (u : Int) = (gn : Int) ∧ (y : Int) < (u : Int) := by
  obtain ⟨a, b, c, rfl⟩ := list3 ms hl
  have e0 := h0 0 (by omega)
  have e1 := h0 1 (by omega)
  have e2 := h0 2 (by omega)
  simp at e0 e1 e2
  obtain rfl | rfl | rfl : gn = 0 ∨ gn = 1 ∨ gn = 2 := by omega
  · simp at h1 e0 e1 e2
    subst h1
    exact ⟨1, 2, by simp [pkN, us3, e1, e2], by omega, by omega, by omega⟩
  · simp at h1 e0 e1 e2
    subst h1
    exact ⟨0, 2, by simp [pkN, us3, e0, e2], by omega, by omega, by omega⟩
  · simp at h1 e0 e1 e2
    subst h1
    exact ⟨0, 1, by simp [pkN, us3, e0, e1], by omega, by omega, by omega⟩

/-- All three again. -/
theorem back (ms : List Int) (gn : Nat) (hl : ms.length = 3) (hg : gn < 3) (h1 : ms.getD gn 0 = 0) (h0 : ∀ i, i < 3 → 0 ≤ ms.getD i 0) (la : Int) (l0 : -1 ≤ la) (l2 : la ≤ 2) :
    pkN 2 (la + 1) ms = [(la + 1) % 3] ∧ (∃ y : Nat, pkN 1 0 ms = [(y : Int)] ∧ y < 3 ∧ ms.getD y 0 = 0) ∧ pkN 3 0 ms = [0, 1, 2] := by
  obtain ⟨a, b, c, rfl⟩ := list3 ms hl
  have e0 := h0 0 (by omega)
  have e1 := h0 1 (by omega)
  have e2 := h0 2 (by omega)
  simp at e0 e1 e2
  refine ⟨?_, ?_, by simp [pkN, us3, e0, e1, e2]⟩
  · obtain rfl | rfl | rfl | rfl : la = -1 ∨ la = 0 ∨ la = 1 ∨ la = 2 := by omega
    all_goals simp [pkN, us3, rdN, idN, e0, e1, e2, List.findIdx_cons]
  · have hz : pkN 1 0 [a, b, c] = [bsN [a, b, c] [0, 1, 2] 3] := by simp [pkN, us3, e0, e1, e2]
    have hb : bsN [a, b, c] [0, 1, 2] 3 = if b < a then (if c < b then 2 else 1) else (if c < a then 2 else 0) := by
      by_cases x1 : b < a <;> by_cases x2 : c < b <;> by_cases x3 : c < a <;> simp [bsN, x1, x2, x3]
    rw [hz, hb]
    obtain rfl | rfl | rfl : gn = 0 ∨ gn = 1 ∨ gn = 2 := by omega
    all_goals
      simp at h1
      subst h1
    · exact ⟨0, by simp; omega, by omega, rfl⟩
    · by_cases x1 : 0 < a
      · exact ⟨1, by simp [x1]; omega, by omega, rfl⟩
      · exact ⟨0, by simp [x1]; omega, by omega, by simp; omega⟩
    · by_cases x1 : b < a
      · by_cases x2 : 0 < b
        · exact ⟨2, by simp [x1, x2], by omega, rfl⟩
        · exact ⟨1, by simp [x1, x2], by omega, by simp; omega⟩
      · by_cases x2 : 0 < a
        · exact ⟨2, by simp [x1, x2], by omega, rfl⟩
        · exact ⟨0, by simp [x1, x2], by omega, by simp; omega⟩
end Go.Proofs.Ytnpapjocobgpnaa
