/- What the joined row is: each side's events in their order, nothing ahead of its sending; it is found if there is one. -/
import Derived.Test.YtoplcndiejpipaaFh
namespace Go.Proofs.Ytoplcndiejpipaa
open Go.RowKit
set_option linter.unusedVariables false
set_option linter.unusedSimpArgs false

def Caus (l : List (Int × Ev)) : Prop := ∀ (i : Nat) (s : Int) (e : Ev), l[i]? = some (s, e) → e.kind = 4 → ∃ (j : Nat) (f : Ev), j < i ∧ l[j]? = some (1 - s, f) ∧ f.kind = 5 ∧ f.pk = e.pk
def Two (l : List (Int × Ev)) : Prop := ∀ y ∈ l, y.1 = 0 ∨ y.1 = 1
theorem only_app (s : Int) (l k : List (Int × Ev)) : only s (l ++ k) = only s l ++ only s k := by simp [only]
theorem only_yes (s : Int) (e : Ev) : only s [(s, e)] = [e] := by simp [only]
theorem only_no (s t : Int) (e : Ev) (h : t ≠ s) : only s [(t, e)] = [] := by simp [only, h]
theorem only_mem {s : Int} {l : List (Int × Ev)} {f : Ev} (h : f ∈ only s l) : (s, f) ∈ l := by
  unfold only at h
  obtain ⟨y, hy, rfl⟩ := List.mem_map.1 h
  obtain ⟨h1, h2⟩ := List.mem_filter.1 hy
  have : y.1 = s := by simpa using h2
  rw [← this]
  exact h1
theorem mem_only {s : Int} {l : List (Int × Ev)} {f : Ev} (h : (s, f) ∈ l) : f ∈ only s l :=
  List.mem_map.2 ⟨(s, f), List.mem_filter.2 ⟨h, by simp⟩, rfl⟩
theorem pks_mem {a : List Ev} {n : Nat} {p : Pk} : p ∈ pks a n ↔ ∃ f ∈ a.take n, f.kind = 5 ∧ f.pk = p := by
  unfold pks
  simp only [List.mem_map, List.mem_filter, beq_iff_eq, and_assoc]
theorem Caus.snoc {l : List (Int × Ev)} (h : Caus l) (s : Int) (e : Ev) (he : e.kind = 4 → ∃ f, (1 - s, f) ∈ l ∧ f.kind = 5 ∧ f.pk = e.pk) : Caus (l ++ [(s, e)]) := by
  intro i t g hi hg
  rcases Nat.lt_or_ge i l.length with h1 | h1
  · rw [List.getElem?_append_left h1] at hi
    obtain ⟨j, f, hj, h2, h3⟩ := h i t g hi hg
    exact ⟨j, f, hj, by rw [List.getElem?_append_left (by omega)]; exact h2, h3⟩
  · rw [List.getElem?_append_right h1] at hi
    have h0 := (List.getElem?_eq_some_iff.1 hi).1
    simp only [List.length_cons, List.length_nil] at h0
    have e0 : i - l.length = 0 := by omega
    rw [e0] at hi
    simp only [List.getElem?_cons_zero, Option.some.injEq, Prod.mk.injEq] at hi
    obtain ⟨rfl, rfl⟩ := hi
    obtain ⟨f, h2, h3, h4⟩ := he hg
    obtain ⟨j, hj⟩ := List.getElem?_of_mem h2
    have hlt := (List.getElem?_eq_some_iff.1 hj).1
    exact ⟨j, f, by omega, by rw [List.getElem?_append_left hlt]; exact hj, h3, h4⟩
theorem Two.snoc {l : List (Int × Ev)} (h : Two l) (s : Int) (e : Ev) (hs : s = 0 ∨ s = 1) : Two (l ++ [(s, e)]) := by
  intro y hy
  rcases List.mem_append.1 hy with hy | hy
  · exact h y hy
  · rw [List.mem_singleton.1 hy]; exact hs
theorem two_len {l : List (Int × Ev)} (h : Two l) : l.length = (only 0 l).length + (only 1 l).length := by
  induction l with
  | nil => rfl
  | cons y l ih =>
    have h2 := ih (fun z hz => h z (List.mem_cons_of_mem _ hz))
    obtain ⟨s, e⟩ := y
    have hs : s = 0 ∨ s = 1 := h (s, e) (List.mem_cons_self ..)
    have e1 : (s, e) :: l = [(s, e)] ++ l := rfl
    rw [e1, only_app, only_app, List.length_append, List.length_append, List.length_append, h2]
    rcases hs with rfl | rfl
    · rw [only_yes, only_no 1 0 e (by decide)]; simp; omega
    · rw [only_yes, only_no 0 1 e (by decide)]; simp; omega

/-- What the row is, as far as it has come. -/
structure Half (a b : List Ev) (n0 n1 : Nat) (out : List (Int × Ev)) : Prop where
  h0 : n0 ≤ a.length
  h1 : n1 ≤ b.length
  o0 : only 0 out = a.take n0
  o1 : only 1 out = b.take n1
  c : Caus out
  t : Two out
theorem free_caus {a b : List Ev} {n0 n1 : Nat} {e : Ev} (hf : free a n0 (pks b n1) = true) (he : a[n0]? = some e) (h4 : e.kind = 4) : ∃ f ∈ b.take n1, f.kind = 5 ∧ f.pk = e.pk := by
  unfold free at hf
  rw [he] at hf
  have := of_decide_eq_true hf
  rcases this with h | h
  · exact absurd h4 h
  · exact pks_mem.1 h
theorem take_snoc {a : List Ev} {n : Nat} {e : Ev} (he : a[n]? = some e) : a.take (n + 1) = a.take n ++ [e] := by
  rw [List.take_add_one, he]
  rfl
theorem Half.step0 {a b : List Ev} {n0 n1 : Nat} {out : List (Int × Ev)} {e : Ev} (h : Half a b n0 n1 out) (hf : free a n0 (pks b n1) = true) (he : a[n0]? = some e) : Half a b (n0 + 1) n1 (out ++ [(0, e)]) := by
  have hlt := (List.getElem?_eq_some_iff.1 he).1
  refine ⟨by omega, h.h1, ?_, ?_, h.c.snoc 0 e (fun h4 => ?_), h.t.snoc 0 e (.inl rfl)⟩
  · rw [only_app, only_yes, h.o0, take_snoc he]
  · rw [only_app, only_no 1 0 e (by decide), h.o1, List.append_nil]
  · obtain ⟨f, h1, h2⟩ := free_caus hf he h4
    rw [← h.o1] at h1
    exact ⟨f, only_mem h1, h2⟩
theorem Half.step1 {a b : List Ev} {n0 n1 : Nat} {out : List (Int × Ev)} {e : Ev} (h : Half a b n0 n1 out) (hf : free b n1 (pks a n0) = true) (he : b[n1]? = some e) : Half a b n0 (n1 + 1) (out ++ [(1, e)]) := by
  have hlt := (List.getElem?_eq_some_iff.1 he).1
  refine ⟨h.h0, by omega, ?_, ?_, h.c.snoc 1 e (fun h4 => ?_), h.t.snoc 1 e (.inr rfl)⟩
  · rw [only_app, only_no 0 1 e (by decide), h.o0, List.append_nil]
  · rw [only_app, only_yes, h.o1, take_snoc he]
  · obtain ⟨f, h1, h2⟩ := free_caus hf he h4
    rw [← h.o0] at h1
    exact ⟨f, only_mem h1, h2⟩
theorem Half.len {a b : List Ev} {n0 n1 : Nat} {out : List (Int × Ev)} (h : Half a b n0 n1 out) : out.length = n0 + n1 := by
  rw [two_len h.t, h.o0, h.o1, List.length_take, List.length_take]
  have := h.h0
  have := h.h1
  omega
/-- Each side's events, and nothing ahead of its sending. -/
structure Right (a b : List Ev) (l : List (Int × Ev)) : Prop where
  o0 : only 0 l = a
  o1 : only 1 l = b
  c : Caus l
  t : Two l
theorem join_half (a b : List Ev) : ∀ (f n0 n1 : Nat) (out : List (Int × Ev)), a.length + b.length + 1 - (n0 + n1) ≤ f → Half a b n0 n1 out →
    (∃ l, join a b f n0 n1 out = (l, 0, 0, true) ∧ Right a b l) ∨ ∃ m0 m1 at_ side, join a b f n0 n1 out = ([], at_, side, false) ∧ m0 ≤ a.length ∧ m1 ≤ b.length ∧ (m0 < a.length ∨ m1 < b.length) ∧ free a m0 (pks b m1) = false ∧ free b m1 (pks a m0) = false
  | 0, n0, n1, out, hf, h => by have := h.h0; have := h.h1; omega
  | f + 1, n0, n1, out, hf, h => by
    have l0 := h.h0
    have l1 := h.h1
    rw [join]
    by_cases hlt : n0 < a.length ∨ n1 < b.length
    · rw [if_pos hlt]
      by_cases f0 : free a n0 (pks b n1) = true
      · rw [if_pos f0]
        cases he : a[n0]? with
        | none => unfold free at f0; rw [he] at f0; cases f0
        | some e => exact join_half a b f _ _ _ (by omega) (h.step0 f0 he)
      · rw [if_neg f0]
        by_cases f1 : free b n1 (pks a n0) = true
        · rw [if_pos f1]
          cases he : b[n1]? with
          | none => unfold free at f1; rw [he] at f1; cases f1
          | some e => exact join_half a b f _ _ _ (by omega) (h.step1 f1 he)
        · rw [if_neg f1]
          refine .inr ⟨n0, n1, if n0 < a.length then n0 else n1, if n0 < a.length then 0 else 1, ?_, l0, l1, hlt, by simpa using f0, by simpa using f1⟩
          split <;> rfl
    · rw [if_neg hlt]
      refine .inl ⟨out, rfl, ?_, ?_, h.c, h.t⟩
      · rw [h.o0, List.take_of_length_le (by omega)]
      · rw [h.o1, List.take_of_length_le (by omega)]
theorem half_nil (a b : List Ev) : Half a b 0 0 [] := ⟨Nat.zero_le _, Nat.zero_le _, rfl, rfl, fun i s e h => by simp at h, fun y h => by simp at h⟩
theorem only_take (s : Int) (l : List (Int × Ev)) (k : Nat) : only s (l.take k) = (only s l).take (only s (l.take k)).length := by
  have h := only_app s (l.take k) (l.drop k)
  rw [List.take_append_drop] at h
  rw [h, List.take_left]
/-- Where there is a right row, nothing is stuck. -/
theorem not_stuck {a b : List Ev} {l : List (Int × Ev)} (h : Right a b l) {m0 m1 : Nat} (h0 : m0 ≤ a.length) (h1 : m1 ≤ b.length) (hlt : m0 < a.length ∨ m1 < b.length) (f0 : free a m0 (pks b m1) = false) (f1 : free b m1 (pks a m0) = false) : False := by
  have key : ∀ k, k ≤ l.length → (only 0 (l.take k)).length ≤ m0 ∧ (only 1 (l.take k)).length ≤ m1 := by
    intro k
    induction k with
    | zero => intro _; simp [only]
    | succ k ih =>
      intro hk
      obtain ⟨i0, i1⟩ := ih (by omega)
      have hg : l[k]? = some l[k] := List.getElem?_eq_getElem (by omega)
      obtain ⟨⟨s, e⟩, hy⟩ : ∃ y, y = l[k] := ⟨_, rfl⟩
      rw [← hy] at hg
      have hs := h.t (s, e) (List.mem_of_getElem? hg)
      have tk : l.take (k + 1) = l.take k ++ [(s, e)] := by rw [List.take_add_one, hg]; rfl
      have sub : ∀ (t : Int) (c : List Ev) (m : Nat), only t l = c → (only t (l.take k)).length ≤ m → ∀ f ∈ only t (l.take k), f ∈ c.take m := by
        intro t c m hc hm f hf
        rw [only_take, hc] at hf
        have e := (List.take_prefix_take_left (l := c) hm).subset hf
        exact e
      have low : ∀ (j : Nat) (t : Int) (f : Ev), j < k → l[j]? = some (t, f) → f ∈ only t (l.take k) := by
        intro j t f hj hf
        exact mem_only (List.mem_of_getElem? (i := j) (by rw [List.getElem?_take, if_pos hj]; exact hf))
      have at_ : ∀ (t : Int) (c : List Ev), only t l = c → s = t → c[(only t (l.take k)).length]? = some e := by
        intro t c hc hst
        subst hst
        have h2 := only_app s (l.take (k + 1)) (l.drop (k + 1))
        rw [List.take_append_drop, tk, only_app, only_yes, hc] at h2
        rw [h2, List.append_assoc, List.getElem?_append_right (Nat.le_refl _), Nat.sub_self]
        rfl
      rcases hs with hs | hs
      · simp only at hs
        subst hs
        rw [tk, only_app, only_app, only_yes, only_no 1 0 e (by decide), List.length_append, List.append_nil]
        refine ⟨?_, i1⟩
        rcases Nat.lt_or_ge (only 0 (l.take k)).length m0 with hc | hc
        · simp only [List.length_cons, List.length_nil]; omega
        · exfalso
          have ee : (only 0 (l.take k)).length = m0 := by omega
          have ha := at_ 0 a h.o0 rfl
          rw [ee] at ha
          unfold free at f0
          rw [ha] at f0
          have f0 := of_decide_eq_false f0
          have h4 : e.kind = 4 := Classical.byContradiction fun x => f0 (.inl x)
          obtain ⟨j, f, hj, hjf, h5, h6⟩ := h.c k 0 e hg h4
          exact f0 (.inr (pks_mem.2 ⟨f, sub 1 b m1 h.o1 i1 f (low j 1 f hj hjf), h5, h6⟩))
      · simp only at hs
        subst hs
        rw [tk, only_app, only_app, only_yes, only_no 0 1 e (by decide), List.append_nil, List.length_append]
        refine ⟨i0, ?_⟩
        rcases Nat.lt_or_ge (only 1 (l.take k)).length m1 with hc | hc
        · simp only [List.length_cons, List.length_nil]; omega
        · exfalso
          have ee : (only 1 (l.take k)).length = m1 := by omega
          have ha := at_ 1 b h.o1 rfl
          rw [ee] at ha
          unfold free at f1
          rw [ha] at f1
          have f1 := of_decide_eq_false f1
          have h4 : e.kind = 4 := Classical.byContradiction fun x => f1 (.inl x)
          obtain ⟨j, f, hj, hjf, h5, h6⟩ := h.c k 1 e hg h4
          exact f1 (.inr (pks_mem.2 ⟨f, sub 0 a m0 h.o0 i0 f (low j 0 f hj hjf), h5, h6⟩))
  have := key l.length (Nat.le_refl _)
  rw [List.take_length, h.o0, h.o1] at this
  omega
/-- A right row is found where there is one. -/
theorem J_right {a b : List Ev} {l : List (Int × Ev)} (h : Right a b l) : ∃ k, J a b = (k, 0, 0, true) ∧ Right a b k := by
  rcases join_half a b (a.length + b.length + 1) 0 0 [] (by omega) (half_nil a b) with h2 | ⟨m0, m1, at_, side, _, h0, h1, hlt, f0, f1⟩
  · exact h2
  · exact (not_stuck h h0 h1 hlt f0 f1).elim
theorem Right.len {a b : List Ev} {l : List (Int × Ev)} (h : Right a b l) : l.length = a.length + b.length := by rw [two_len h.t, h.o0, h.o1]
end Go.Proofs.Ytoplcndiejpipaa
