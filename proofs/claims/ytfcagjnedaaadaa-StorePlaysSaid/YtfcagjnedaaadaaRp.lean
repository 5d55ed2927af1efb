/- The plain law of StorePlays: the reference's sorted list and the store's function go along. -/
import Derived.Test.YtfcagjnedaaadaaRh
namespace Go.Proofs.Ytfcagjnedaaadaa
open Go.RowKit

def getL (n : Int) : List (Int × Bk) → Option Bk
  | [] => none
  | x :: l => if x.1 = n then some x.2 else getL n l
def Srt (l : List (Int × Bk)) : Prop := l.Pairwise (fun a b => a.1 < b.1)
def insN (n : Int) : List (Int × Bk) → Nat
  | [] => 0
  | x :: l => if x.1 < n then insN n l + 1 else 0

theorem getL_at (n : Int) (l : List (Int × Bk)) : getL n l = (l[atN n l]?).map (·.2) := by
  induction l with
  | nil => rfl
  | cons x l ih => unfold getL atN; split <;> simp [ih]
theorem getL_none (n : Int) (l : List (Int × Bk)) (h : ∀ x ∈ l, x.1 ≠ n) : getL n l = none := by
  induction l with
  | nil => rfl
  | cons x l ih =>
    unfold getL
    rw [if_neg (h x (by simp))]
    exact ih (fun y hy => h y (by simp [hy]))
theorem getL_mem (n : Int) (l : List (Int × Bk)) (y : Bk) (h : getL n l = some y) : (n, y) ∈ l := by
  induction l with
  | nil => cases h
  | cons x l ih =>
    unfold getL at h
    split at h
    · rename_i e
      injection h with h
      subst e
      subst h
      simp
    · exact List.mem_cons_of_mem _ (ih h)
theorem getL_of_mem (l : List (Int × Bk)) (hs : Srt l) (x : Int × Bk) (h : x ∈ l) : getL x.1 l = some x.2 := by
  induction l with
  | nil => simp at h
  | cons z l ih =>
    unfold Srt at hs
    rw [List.pairwise_cons] at hs
    unfold getL
    rcases List.mem_cons.1 h with e | h
    · subst e; simp
    · rw [if_neg (by have := hs.1 x h; omega)]
      exact ih hs.2 h
theorem getL_some (n : Int) (l : List (Int × Bk)) : (getL n l).isSome = decide (atN n l < l.length) := by
  rw [getL_at]
  by_cases h : atN n l < l.length
  · simp [h]
  · rw [List.getElem?_eq_none (by omega)]
    simp [h]
theorem getL_mem_map (n : Int) (l : List (Int × Bk)) : n ∈ l.map (·.1) ↔ (getL n l).isSome = true := by
  induction l with
  | nil => simp [getL]
  | cons x l ih =>
    unfold getL
    rw [List.map_cons, List.mem_cons, ih]
    split
    · rename_i h; simp [h]
    · rename_i h
      constructor
      · rintro (e | h')
        · exact absurd e.symm h
        · exact h'
      · exact .inr

theorem getL_set (l : List (Int × Bk)) (hs : Srt l) (k : Nat) (x : Int × Bk) (y : Bk) (hx : l[k]? = some x) (m : Int) : getL m (l.set k (x.1, y)) = upd (fun j => getL j l) x.1 (some y) m := by
  induction l generalizing k with
  | nil => simp at hx
  | cons z l ih =>
    unfold Srt at hs
    rw [List.pairwise_cons] at hs
    cases k with
    | zero =>
      simp at hx
      subst hx
      simp only [List.set_cons_zero, getL, upd]
      by_cases e : z.1 = m
      · simp [e]
      · rw [if_neg e, if_neg (fun h => e h.symm), if_neg e]
    | succ k =>
      simp only [List.getElem?_cons_succ] at hx
      have hlt := hs.1 x (List.mem_of_getElem? hx)
      simp only [List.set_cons_succ, getL]
      rw [ih hs.2 k hx]
      unfold upd
      by_cases e : z.1 = m
      · simp only [e, if_true]; rw [if_neg (by omega)]
      · rw [if_neg e]
        split
        · rfl
        · simp only [if_neg e]
theorem srt_set (l : List (Int × Bk)) (hs : Srt l) (k : Nat) (x : Int × Bk) (y : Bk) (hx : l[k]? = some x) : Srt (l.set k (x.1, y)) := by
  have h : (l.map (·.1)).Pairwise (· < ·) := List.pairwise_map.2 hs
  have e : (l.set k (x.1, y)).map (·.1) = l.map (·.1) := by
    rw [List.map_set, set_same]
    rw [List.getElem?_map, hx]
    rfl
  rw [← e] at h
  exact List.pairwise_map.1 h

theorem getL_del (l : List (Int × Bk)) (hs : Srt l) (k : Nat) (x : Int × Bk) (hx : l[k]? = some x) (m : Int) : getL m (l.take k ++ l.drop (k + 1)) = upd (fun j => getL j l) x.1 none m := by
  induction l generalizing k with
  | nil => simp at hx
  | cons z l ih =>
    unfold Srt at hs
    rw [List.pairwise_cons] at hs
    cases k with
    | zero =>
      simp at hx
      subst hx
      simp only [List.take_zero, List.nil_append, Nat.zero_add, List.drop_succ_cons, List.drop_zero, upd]
      by_cases e : m = z.1
      · rw [if_pos e]
        exact getL_none m l (fun y hy => by have := hs.1 y hy; omega)
      · rw [if_neg e]
        simp only [getL]
        rw [if_neg (fun h => e h.symm)]
    | succ k =>
      simp only [List.getElem?_cons_succ] at hx
      have hlt := hs.1 x (List.mem_of_getElem? hx)
      simp only [List.take_succ_cons, List.cons_append, List.drop_succ_cons, getL]
      rw [ih hs.2 k hx]
      unfold upd
      by_cases e : z.1 = m
      · simp only [e, if_true]; rw [if_neg (by omega)]
      · rw [if_neg e]
        split
        · rfl
        · simp only [if_neg e]
theorem srt_del (l : List (Int × Bk)) (hs : Srt l) (k : Nat) : Srt (l.take k ++ l.drop (k + 1)) := by
  rw [← List.eraseIdx_eq_take_drop_succ]
  exact List.Pairwise.sublist (List.eraseIdx_sublist _ _) hs

theorem insN_le (n : Int) (l : List (Int × Bk)) : insN n l ≤ l.length := by
  induction l with
  | nil => exact Nat.le_refl _
  | cons x l ih => unfold insN; split <;> simp <;> omega
theorem insN_lt (n : Int) (l : List (Int × Bk)) (i : Nat) (x : Int × Bk) (hi : i < insN n l) (hx : l[i]? = some x) : x.1 < n := by
  induction l generalizing i with
  | nil => simp at hx
  | cons y l ih =>
    unfold insN at hi
    split at hi
    · rename_i h
      cases i with
      | zero => simp at hx; subst hx; exact h
      | succ i => exact ih i (by omega) (by simpa using hx)
    · omega
theorem insN_ge (n : Int) (l : List (Int × Bk)) (x : Int × Bk) (hx : l[insN n l]? = some x) : ¬ x.1 < n := by
  induction l with
  | nil => simp at hx
  | cons y l ih =>
    unfold insN at hx
    split at hx
    · exact ih (by simpa using hx)
    · rename_i h; simp at hx; subst hx; exact h
theorem getL_ins (l : List (Int × Bk)) (n : Int) (y : Bk) (m : Int) : getL m (l.take (insN n l) ++ (n, y) :: l.drop (insN n l)) = if getL n l = none then upd (fun j => getL j l) n (some y) m else getL m (l.take (insN n l) ++ (n, y) :: l.drop (insN n l)) := by
  split
  · rename_i hn
    induction l with
    | nil => simp [insN, getL, upd, eq_comm]
    | cons z l ih =>
      have hz : z.1 ≠ n := fun e => by simp [getL, e] at hn
      have hn' : getL n l = none := by simpa [getL, hz] using hn
      have ih := ih hn'
      unfold insN
      split
      · simp only [List.take_succ_cons, List.cons_append, List.drop_succ_cons, getL]
        rw [ih]
        unfold upd
        by_cases e : z.1 = m
        · simp only [e, if_true]; rw [if_neg (by omega)]
        · simp only [if_neg e]
      · simp only [List.take_zero, List.nil_append, List.drop_zero, upd]
        rw [getL]
        by_cases e : n = m
        · rw [if_pos e, if_pos e.symm]
        · rw [if_neg e, if_neg (fun h => e h.symm)]
  · rfl
theorem srt_ins (l : List (Int × Bk)) (hs : Srt l) (n : Int) (y : Bk) (hn : getL n l = none) : Srt (l.take (insN n l) ++ (n, y) :: l.drop (insN n l)) := by
  induction l with
  | nil => simp [insN, Srt]
  | cons z l ih =>
    have hz : z.1 ≠ n := fun e => by simp [getL, e] at hn
    have hn' : getL n l = none := by simpa [getL, hz] using hn
    unfold Srt at hs
    rw [List.pairwise_cons] at hs
    have ih := ih hs.2 hn'
    unfold insN
    split
    · rename_i hlt
      simp only [List.take_succ_cons, List.cons_append, List.drop_succ_cons]
      unfold Srt
      rw [List.pairwise_cons]
      refine ⟨fun x hx => ?_, ih⟩
      simp only [List.mem_append, List.mem_cons] at hx
      rcases hx with hx | rfl | hx
      · exact hs.1 x (List.mem_of_mem_take hx)
      · exact hlt
      · exact hs.1 x (List.mem_of_mem_drop hx)
    · rename_i hge
      simp only [List.take_zero, List.nil_append, List.drop_zero]
      unfold Srt
      rw [List.pairwise_cons]
      refine ⟨fun x hx => ?_, List.pairwise_cons.2 hs⟩
      rcases List.mem_cons.1 hx with rfl | hx
      · simp only; omega
      · have := hs.1 x hx
        simp only; omega

theorem getL_crash (keep : Int) (l : List (Int × Bk)) (hs : Srt l) (m : Int) : getL m (crashL keep l) = (getL m l).bind (crash1 keep) := by
  induction l with
  | nil => rfl
  | cons z l ih =>
    unfold Srt at hs
    rw [List.pairwise_cons] at hs
    have ih := ih hs.2
    unfold crashL at ih ⊢
    rw [List.filterMap_cons]
    cases h : crash1 keep z.2 with
    | none =>
      simp only [Option.map_none]
      rw [ih]
      simp only [getL]
      by_cases e : z.1 = m
      · rw [if_pos e, getL_none m l (fun y hy => by have := hs.1 y hy; omega)]
        simp [h]
      · rw [if_neg e]
    | some y =>
      simp only [Option.map_some, getL]
      rw [ih]
      by_cases e : z.1 = m
      · rw [if_pos e, if_pos e]
        simp [h]
      · rw [if_neg e, if_neg e]
theorem srt_crash (keep : Int) (l : List (Int × Bk)) (hs : Srt l) : Srt (crashL keep l) := by
  refine List.Pairwise.filterMap _ (fun a a' h b hb b' hb' => ?_) hs
  obtain ⟨y, _, e⟩ := Option.map_eq_some_iff.1 hb
  obtain ⟨y', _, e'⟩ := Option.map_eq_some_iff.1 hb'
  subst e
  subst e'
  exact h

theorem srt_eq : ∀ (a b : List Int), a.Pairwise (· < ·) → b.Pairwise (· < ·) → (∀ k, k ∈ a ↔ k ∈ b) → a = b
  | [], [], _, _, _ => rfl
  | [], y :: b, _, _, h => by have := (h y).2 (by simp); simp at this
  | x :: a, [], _, _, h => by have := (h x).1 (by simp); simp at this
  | x :: a, y :: b, ha, hb, h => by
    rw [List.pairwise_cons] at ha hb
    have e : x = y := by
      rcases List.mem_cons.1 ((h x).1 (by simp)) with e | hx
      · exact e
      · rcases List.mem_cons.1 ((h y).2 (by simp)) with e | hy
        · exact e.symm
        · have := ha.1 y hy
          have := hb.1 x hx
          omega
    subst e
    congr 1
    refine srt_eq a b ha.2 hb.2 (fun k => ⟨fun hk => ?_, fun hk => ?_⟩)
    · rcases List.mem_cons.1 ((h k).1 (by simp [hk])) with e | h'
      · have := ha.1 k hk; omega
      · exact h'
    · rcases List.mem_cons.1 ((h k).2 (by simp [hk])) with e | h'
      · have := hb.1 k hk; omega
      · exact h'

/-- The store's state and the reference's. -/
structure Rel (s : St) (l : List (Int × Bk)) (dead armed : Bool) (N : Int) : Prop where
  f : ∀ k, s.f k = getL k l
  dead : s.dead = dead
  lit : s.lit = armed
  left : armed = true → s.left = N ∧ 0 ≤ N
  srt : Srt l
end Go.Proofs.Ytfcagjnedaaadaa
