/- Parts of the walk: We. -/
import Derived.Test.YtdneakejlbabeaaGreatM00
import Derived.Deep.RegionHeld
import Derived.Test.YtdneakejlbabeaaGreatM11
import Derived.Test.YtdneakejlbabeaaGreatM12
namespace Go.Proofs.YtdneakejlbabeaaGreat
open Go.RowKit
set_option linter.unusedVariables false
set_option linter.unusedSimpArgs false
section
theorem rowsG_put {α β : Type} {f : α → β → List Value} {k : Nat} (hf : ∀ a b, (f a b).length = k) : ∀ (l : List α) (vs : List β) (i j : Nat) (e : α) (x : β) (e' : α) (x' : β) (u : Value), l[i]? = some e → vs[i]? = some x → j < k → (f e x).set j u = f e' x' → rowsG f (l.set i e') (vs.set i x') = (rowsG f l vs).set (i * k + j) u
 | a :: l, b :: vs, 0, j, _, _, e', x', u, h1, h2, hj, hu => by
  simp at h1 h2
  subst h1
  subst h2
  simp only [List.set_cons_zero, rowsG, Nat.zero_mul, Nat.zero_add]
  rw [List.set_append_left _ _ (by rw [hf]; exact hj), hu]
 | a :: l, b :: vs, i + 1, j, _, _, e', x', u, h1, h2, hj, hu => by
  simp only [List.getElem?_cons_succ] at h1 h2
  simp only [List.set_cons_succ, rowsG]
  rw [List.set_append_right _ _ (by rw [hf, Nat.add_mul]; omega), rowsG_put hf l vs i j _ _ e' x' u h1 h2 hj hu]
  have e : (i + 1) * k + j - (f a b).length = i * k + j := by rw [hf, Nat.add_mul]; omega
  rw [e]
 | [], _, i, j, _, _, _, _, _, h1, _, _, _ => by simp at h1
 | _ :: _, [], i, j, _, _, _, _, _, _, h2, _, _ => by simp at h2
/-- The cells of n events; their texts lie among S, each at most m long. -/
def EvC (W : World) (S : Nat → Prop) (m n : Nat) (xs : List Value) : Prop :=
 ∃ (es : List Ev) (vs : List (Value × Value)), es.length = n ∧ vs.length = n ∧ xs = rowsG ecells es vs ∧ ∀ (i : Nat) (a : Ev) (b : Value × Value), es[i]? = some a → vs[i]? = some b → EV W S a b ∧ a.data.length ≤ m ∧ a.pk.data.length ≤ m
section
variable {W W' : World} {S S' T : Nat → Prop} {m n k : Nat} {xs ys : List Value}
theorem EvC.nil (W : World) (S : Nat → Prop) (m : Nat) : EvC W S m 0 [] := ⟨[], [], rfl, rfl, rfl, fun i a b h => by simp at h⟩
theorem EvC.one {e : Ev} {x : Value × Value} (h : EV W S e x) (h1 : e.data.length ≤ m) (h2 : e.pk.data.length ≤ m) : EvC W S m 1 (ecells e x) :=
 ⟨[e], [x], rfl, rfl, by simp [rowsG], fun i a b ha hb => by
  obtain rfl : i = 0 := by have := (List.getElem?_eq_some_iff.1 ha).1; simp at this; omega
  simp only [List.getElem?_cons_zero, Option.some.injEq] at ha hb
  subst ha hb
  exact ⟨h, h1, h2⟩⟩
theorem EvC.len (h : EvC W S m n xs) : xs.length = n * 12 := by
 obtain ⟨es, vs, h1, h2, rfl, _⟩ := h
 rw [rowsG_length ecells_len _ _ (by omega), h1]
theorem EvC.app (h : EvC W S m n xs) (h' : EvC W S m k ys) : EvC W S m (n + k) (xs ++ ys) := by
 obtain ⟨es, vs, h1, h2, rfl, h3⟩ := h
 obtain ⟨fs, us, k1, k2, rfl, k3⟩ := h'
 refine ⟨es ++ fs, vs ++ us, by rw [List.length_append]; omega, by rw [List.length_append]; omega, (rowsG_append es fs vs us (by omega)).symm, fun i a b ha hb => ?_⟩
 by_cases hi : i < n
 ·rw [List.getElem?_append_left (by omega)] at ha hb
  exact h3 i a b ha hb
 ·rw [List.getElem?_append_right (by omega)] at ha hb
  rw [h1] at ha
  rw [h2] at hb
  exact k3 _ a b ha hb
theorem EvC.front (h : EvC W S m n xs) (hk : k ≤ n) : EvC W S m k (xs.take (k * 12)) := by
 obtain ⟨es, vs, h1, h2, rfl, h3⟩ := h
 refine ⟨es.take k, vs.take k, by rw [List.length_take]; omega, by rw [List.length_take]; omega, (rowsG_front ecells_len es vs (by omega) k (by omega)).symm, fun i a b ha hb => h3 i a b ?_ ?_⟩
 ·have := (List.getElem?_eq_some_iff.1 ha).1
  rw [List.length_take] at this
  rw [List.getElem?_take, if_pos (by omega)] at ha
  exact ha
 ·have := (List.getElem?_eq_some_iff.1 hb).1
  rw [List.length_take] at this
  rw [List.getElem?_take, if_pos (by omega)] at hb
  exact hb
theorem EvC.back (h : EvC W S m n xs) (hk : k ≤ n) : EvC W S m (n - k) (xs.drop (k * 12)) := by
 obtain ⟨es, vs, h1, h2, rfl, h3⟩ := h
 refine ⟨es.drop k, vs.drop k, by rw [List.length_drop]; omega, by rw [List.length_drop]; omega, (rowsG_back ecells_len es vs (by omega) k (by omega)).symm, fun i a b ha hb => h3 (k + i) a b ?_ ?_⟩
 ·rw [List.getElem?_drop] at ha
  exact ha
 ·rw [List.getElem?_drop] at hb
  exact hb
theorem EvC.frm (h : EvC W S m n xs) (F : Frm T W W') (hT : ∀ j, S j → ¬ T j) : EvC W' S m n xs := by
 obtain ⟨es, vs, h1, h2, h3, h4⟩ := h
 exact ⟨es, vs, h1, h2, h3, fun i a b ha hb => ⟨(h4 i a b ha hb).1.frm F hT, (h4 i a b ha hb).2⟩⟩
theorem EvC.below (h : EvC W S m n xs) (k : Below W.heap.size W W') : EvC W' S m n xs := h.frm (Frm.of_below (S := fun _ => False) k) (fun _ _ h => h)
theorem EvC.mono (h : EvC W S m n xs) (hS : ∀ j, S j → j < W.heap.size → S' j) : EvC W S' m n xs := by
 obtain ⟨es, vs, h1, h2, h3, h4⟩ := h
 exact ⟨es, vs, h1, h2, h3, fun i a b ha hb => ⟨(h4 i a b ha hb).1.mono hS, (h4 i a b ha hb).2⟩⟩
theorem EvC.wide (h : EvC W S m n xs) (hm : m ≤ k) : EvC W S k n xs := by
 obtain ⟨es, vs, h1, h2, h3, h4⟩ := h
 exact ⟨es, vs, h1, h2, h3, fun i a b ha hb => ⟨(h4 i a b ha hb).1, Nat.le_trans (h4 i a b ha hb).2.1 hm, Nat.le_trans (h4 i a b ha hb).2.2 hm⟩⟩
theorem EvC.one_cell (h : EvC W S m n xs) : ∀ u ∈ xs, u.oneCell' = true := by
 obtain ⟨es, vs, h1, h2, rfl, h4⟩ := h
 exact rowsG_all _ _ _ (fun i x v hx hv => EV.one (h4 i x v hx hv).1)
theorem EvC.at_ (h : EvC W S m n xs) {i : Nat} (hi : i < n) : ∃ e x, EV W S e x ∧ e.data.length ≤ m ∧ e.pk.data.length ≤ m ∧ ∀ j, j < 12 → xs[i * 12 + j]? = (ecells e x)[j]? := by
 obtain ⟨es, vs, h1, h2, rfl, h4⟩ := h
 have g1 : es[i]? = some (es[i]'(by omega)) := List.getElem?_eq_getElem (by omega)
 have g2 : vs[i]? = some (vs[i]'(by omega)) := List.getElem?_eq_getElem (by omega)
 exact ⟨_, _, (h4 i _ _ g1 g2).1, (h4 i _ _ g1 g2).2.1, (h4 i _ _ g1 g2).2.2, fun j hj => rowsG_get ecells_len es vs i j _ _ g1 g2 hj⟩
/-- A cell that may stand at the place f of an event. -/
def Fits (W : World) (S : Nat → Prop) (m f : Nat) (u : Value) : Prop := ∀ e x, EV W S e x → e.data.length ≤ m → e.pk.data.length ≤ m → ∃ e' x', (ecells e x).set f u = ecells e' x' ∧ EV W S e' x' ∧ e'.data.length ≤ m ∧ e'.pk.data.length ≤ m
theorem fits_int (W : World) (S : Nat → Prop) (m f : Nat) (z : Int) (hf : f = 0 ∨ f = 1 ∨ f = 3 ∨ f = 4 ∨ f = 5 ∨ f = 6 ∨ f = 7 ∨ f = 10 ∨ f = 11) : Fits W S m f (.int .i64 z) := by
 intro e x h h1 h2
 rcases hf with rfl | rfl | rfl | rfl | rfl | rfl | rfl | rfl | rfl
 ·exact ⟨{ e with kind := z }, x, rfl, h, h1, h2⟩
 ·exact ⟨{ e with n := z }, x, rfl, h, h1, h2⟩
 ·exact ⟨{ e with pk := { e.pk with kind := z } }, x, rfl, h, h1, h2⟩
 ·exact ⟨{ e with pk := { e.pk with path := z } }, x, rfl, h, h1, h2⟩
 ·exact ⟨{ e with pk := { e.pk with number := z } }, x, rfl, h, h1, h2⟩
 ·exact ⟨{ e with pk := { e.pk with of_ := z } }, x, rfl, h, h1, h2⟩
 ·exact ⟨{ e with pk := { e.pk with from_ := z } }, x, rfl, h, h1, h2⟩
 ·exact ⟨{ e with pk := { e.pk with seen := z } }, x, rfl, h, h1, h2⟩
 ·exact ⟨{ e with pk := { e.pk with limit := z } }, x, rfl, h, h1, h2⟩
theorem fits_bool (W : World) (S : Nat → Prop) (m : Nat) (b : Bool) : Fits W S m 9 (.bool b) := fun e x h h1 h2 => ⟨{ e with pk := { e.pk with fin := b } }, x, rfl, h, h1, h2⟩
theorem fits_data {v : Value} {l : List Int} (hv : BV W S v l) (hl : l.length ≤ m) : Fits W S m 2 v := fun e x h h1 h2 => ⟨{ e with data := l }, (v, x.2), rfl, ⟨hv, h.2⟩, hl, h2⟩
theorem fits_pdata {v : Value} {l : List Int} (hv : BV W S v l) (hl : l.length ≤ m) : Fits W S m 8 v := fun e x h h1 h2 => ⟨{ e with pk := { e.pk with data := l } }, (x.1, v), rfl, ⟨h.1, hv⟩, h1, hl⟩
theorem EvC.put (h : EvC W S m n xs) {i f : Nat} (hi : i < n) (hf : f < 12) {u : Value} (hu : Fits W S m f u) : EvC W S m n (xs.set (i * 12 + f) u) := by
 obtain ⟨es, vs, h1, h2, rfl, h4⟩ := h
 have g1 : es[i]? = some (es[i]'(by omega)) := List.getElem?_eq_getElem (by omega)
 have g2 : vs[i]? = some (vs[i]'(by omega)) := List.getElem?_eq_getElem (by omega)
 obtain ⟨q1, q2, q3⟩ := h4 i _ _ g1 g2
 obtain ⟨e', x', k1, k2, k3, k4⟩ := hu _ _ q1 q2 q3
 refine ⟨es.set i e', vs.set i x', by simp [h1], by simp [h2], (rowsG_put ecells_len es vs i f _ _ e' x' u g1 g2 hf k1).symm, fun j a b ha hb => ?_⟩
 by_cases hj : i = j
 ·subst hj
  rw [List.getElem?_set_self (by omega)] at ha hb
  injection ha with ha
  injection hb with hb
  subst ha hb
  exact ⟨k2, k3, k4⟩
 ·rw [List.getElem?_set_ne hj] at ha hb
  exact h4 j a b ha hb
/-- A row of n events at hand. -/
def LE (W : World) (S : Nat → Prop) (m n : Nat) (v : Value) : Prop := ∃ xs, Sl W 12 v n xs ∧ EvC W S m n xs
theorem LE.of_row {v : Value} {es : List Ev} (h : ERow S W v es) (hS : ∀ j, S j → j < W.heap.size → S' j) (sm : ∀ e ∈ es, e.data.length ≤ m ∧ e.pk.data.length ≤ m) : LE W S' m es.length v := by
 obtain ⟨vs, h1, h2, h3⟩ := h
 exact ⟨_, h2, es, vs, rfl, h1, rfl, fun i a b ha hb => ⟨(h3 i a b ha hb).mono hS, sm a (List.mem_of_getElem? ha)⟩⟩
theorem LE.row {v : Value} (h : LE W S m n v) : ∃ es, ERow S W v es ∧ es.length = n ∧ ∀ e ∈ es, e.data.length ≤ m ∧ e.pk.data.length ≤ m := by
 obtain ⟨xs, h1, es, vs, h2, h3, rfl, h4⟩ := h
 refine ⟨es, ⟨vs, by omega, by rw [h2]; exact h1, fun i a b ha hb => (h4 i a b ha hb).1⟩, h2, fun e he => ?_⟩
 obtain ⟨i, hi⟩ := List.getElem?_of_mem he
 have := (List.getElem?_eq_some_iff.1 hi).1
 exact (h4 i e _ hi (List.getElem?_eq_getElem (by omega))).2
theorem LE.below {v : Value} (h : LE W S m n v) (k : Below W.heap.size W W') : LE W' S m n v := by
 obtain ⟨xs, h1, h2⟩ := h
 exact ⟨xs, h1.below k, h2.below k⟩
theorem LE.front {A : Option Addr} {c : Nat} (h : LE W S m n (.slice A n c)) (hk : k ≤ n) : LE W S m k (.slice A k c) := by
 obtain ⟨xs, h1, h2⟩ := h
 exact ⟨_, h1.front hk, h2.front hk⟩
theorem LE.back {A : Option Addr} {c : Nat} (h : LE W S m n (.slice A n c)) (hk : k ≤ n) : LE W S m (n - k) (.slice (if c = k then A else Option.map (fun x => x.add (k * 12)) A) (n - k) (c - k)) := by
 obtain ⟨xs, h1, h2⟩ := h
 have h3 := h1.sub hk (Nat.le_refl _)
 rw [List.take_of_length_le (by rw [List.length_drop, h2.len, Nat.sub_mul]; exact Nat.le_refl _)] at h3
 exact ⟨_, h3, h2.back hk⟩
theorem LE.mono {v : Value} (h : LE W S m n v) (hS : ∀ j, S j → j < W.heap.size → S' j) : LE W S' m n v := by
 obtain ⟨xs, h1, h2⟩ := h
 exact ⟨xs, h1, h2.mono hS⟩
theorem LE.box {e : Ev} {x : Value × Value} (h : EV W S e x) (h1 : e.data.length ≤ m) (h2 : e.pk.data.length ≤ m) (g : Nat) (hg : g = W.heap.size) : LE (W.alloc (.cells (ecells e x).toArray 29)) S m 1 (.slice (some ⟨g, 0, none⟩) 1 1) :=
 ⟨_, Sl.boxk W 29 12 (ecells e x) g hg rfl (EV.one h), (EvC.one h h1 h2).below (ba)⟩
theorem LE.ev {A : Option Addr} {c : Nat} (h : LE W S m n (.slice A n c)) {i : Nat} (hi : i < n) : ∃ ad e x y, A = some ad ∧ EV W S e (x, y) ∧ e.data.length ≤ m ∧ e.pk.data.length ≤ m ∧ ECells W (ad.add (i * 12)) e (x, y) := by
 obtain ⟨es, h1, h2, h3⟩ := h.row
 obtain ⟨ad, e, x, y, ha, he, hx, hc⟩ := ERow.ev h1 (by omega : i < es.length)
 have := h3 e (List.mem_of_getElem? he)
 exact ⟨ad, e, x, y, ha, hx, this.1, this.2, hc⟩
/-- A row of n events of the call's own; the texts lie elsewhere. -/
def OE (B m n : Nat) (W : World) (v : Value) : Prop := ∃ xs, W.ownsRow B 29 12 v n xs ∧ EvC W (fun j => ¬ v.ownBlock = some j) m n xs
theorem OE.nil (B m : Nat) (W : World) : OE B m 0 W (.slice none 0 0) := ⟨[], World.ownsRow_nil _ _ _ _, EvC.nil _ _ _⟩
theorem OE.le {B : Nat} {v : Value} (h : OE B m n W v) : LE W (fun j => ¬ v.ownBlock = some j) m n v := by
 obtain ⟨xs, h1, h2⟩ := h
 exact ⟨xs, Sl.of_own h1 h2.one_cell, h2⟩
theorem OE.below {B : Nat} {v : Value} (h : OE B m n W v) (k : Below W.heap.size W W') : OE B m n W' v := by
 obtain ⟨xs, h1, h2⟩ := h
 exact ⟨xs, own_frm h1 (Frm.of_below (S := fun _ => False) k) (fun _ _ h => h), h2.below k⟩
theorem OE.wide {B : Nat} {v : Value} (h : OE B m n W v) (hm : m ≤ k) : OE B k n W v := by
 obtain ⟨xs, h1, h2⟩ := h
 exact ⟨xs, h1, h2.wide hm⟩
theorem OE.lt {B : Nat} {v : Value} (h : OE B m n W v) : ∀ j, v.ownBlock = some j → B ≤ j ∧ j < W.heap.size := by
 obtain ⟨xs, h1, h2⟩ := h
 exact h1.lt
theorem OE.slice {B : Nat} {v : Value} (h : OE B m n W v) : ∃ A c, v = .slice A n c := by
 obtain ⟨xs, h1, h2⟩ := h
 exact own_slice' h1
theorem OE.form {B : Nat} {v : Value} (h : OE B m n W v) (hn : 0 < n) : ∃ g c, v = .slice (some ⟨g, 0, none⟩) n c ∧ B ≤ g ∧ g < W.heap.size ∧ n ≤ c ∧ c ≤ maxLen := by
 have hl := h.lt
 obtain ⟨xs, ⟨_, h1⟩, _⟩ := h
 rcases h1 with ⟨_, h0⟩ | ⟨g, c, cur, rfl, hb, hg, hc, hm, _⟩
 ·omega
 ·exact ⟨g, c, rfl, (hl g rfl).1, (hl g rfl).2, hc, hm⟩
/-- Behind an append. -/
theorem ev_app {B : Nat} {W1 : World} {v v1 : Value} (hx : EvC W (fun j => ¬ v.ownBlock = some j) m n xs) (hy : EvC W S m k ys) (hS : ∀ j, S j → ¬ v.ownBlock = some j) (hown : W1.ownsRow B 29 12 v1 (n + k) (xs ++ ys))
  (hfr : Frm (fun j => v.ownBlock = some j) W W1) (hat : v1.ownBlock = v.ownBlock ∨ v1.ownBlock = some W.heap.size) : OE B m (n + k) W1 v1 := by
 refine ⟨_, hown, ?_⟩
 have h1 := hx.app (hy.mono (fun j hj _ => hS j hj))
 have h2 := h1.mono (S' := fun j => ¬ v.ownBlock = some j ∧ ¬ v1.ownBlock = some j) (fun j hj hl => ⟨hj, fun e => by
  rcases hat with h | h
  ·exact hj (h ▸ e)
  ·rw [h] at e
   injection e with e
   omega⟩)
 exact (h2.frm hfr (fun j hj => hj.1)).mono (fun j hj _ => hj.2)
/-- An event of the row, at its place. -/
theorem OE.at_ {B g c : Nat} (h : OE B m n W (.slice (some ⟨g, 0, none⟩) n c)) {i : Nat} (hi : i < n) {p : Addr} (hp : p = ⟨g, i * 12, none⟩) : ∃ e x y, EV W (fun j => j ≠ g) e (x, y) ∧ e.data.length ≤ m ∧ e.pk.data.length ≤ m ∧ ECells W p e (x, y) := by
 subst hp
 obtain ⟨xs, h1, h2⟩ := h
 obtain ⟨e, ⟨x, y⟩, h3, h4, h5, h6⟩ := h2.at_ hi
 have g0 := fun (j : Nat) (hj : j < 12) => (h1.cellAt (i * 12 + j) (by omega)).trans (h6 j hj)
 exact ⟨e, x, y, h3.mono (fun j hj _ e => hj (by rw [e]; rfl)), h4, h5, g0 0 (by omega), g0 1 (by omega), g0 2 (by omega), g0 3 (by omega), g0 4 (by omega), g0 5 (by omega), g0 6 (by omega), g0 7 (by omega), g0 8 (by omega), g0 9 (by omega), g0 10 (by omega), g0 11 (by omega)⟩
theorem OE.free {B g c : Nat} (h : OE B m n W (.slice (some ⟨g, 0, none⟩) n c)) (j : Nat) : W.frozen? ⟨g, j, none⟩ = false := by
 obtain ⟨xs, h1, h2⟩ := h
 exact h1.frozenAt j
theorem OE.free_at {B g c : Nat} (h : OE B m n W (.slice (some ⟨g, 0, none⟩) n c)) {i : Nat} {p : Addr} (hp : p = ⟨g, i * 12, none⟩) (f : Nat) : W.frozen? ⟨p.block, p.off + f, none⟩ = false := by
 subst hp
 exact h.free _
theorem OE.free0 {B g c : Nat} (h : OE B m n W (.slice (some ⟨g, 0, none⟩) n c)) {i : Nat} {p : Addr} (hp : p = ⟨g, i * 12, none⟩) : W.frozen? p = false := by
 subst hp
 exact h.free _
/-- One cell of it turned. -/
theorem OE.put {B g c : Nat} (h : OE B m n W (.slice (some ⟨g, 0, none⟩) n c)) {i f : Nat} (hi : i < n) (hf : f < 12) {p : Addr} (hp : p = ⟨g, i * 12, none⟩) {u : Value} (hu : Fits W (fun j => j ≠ g) m f u) : OE B m n (W.setCell ⟨p.block, p.off + f, none⟩ u) (.slice (some ⟨g, 0, none⟩) n c) := by
 subst hp
 obtain ⟨xs, h1, h2⟩ := h
 refine ⟨_, (h1.stored (i * 12 + f) u).1, ?_⟩
 have h3 := (h2.mono (S' := fun j => j ≠ g) (fun j hj _ e => hj (by rw [e]; rfl))).put hi hf hu
 exact (h3.frm ((Frm.refl (· = g) W).setg (i := i * 12 + f) u) (fun j hj e => hj e)).mono (fun j hj _ e => hj (by injection e with e; exact e.symm))
theorem OE.put0 {B g c : Nat} (h : OE B m n W (.slice (some ⟨g, 0, none⟩) n c)) {i : Nat} (hi : i < n) {p : Addr} (hp : p = ⟨g, i * 12, none⟩) {u : Value} (hu : Fits W (fun j => j ≠ g) m 0 u) : OE B m n (W.setCell p u) (.slice (some ⟨g, 0, none⟩) n c) := by
 have := h.put hi (f := 0) (by omega) hp hu
 subst hp
 exact this
/-- A whole event of it turned. -/
theorem OE.putEv {B g c : Nat} (h : OE B m n W (.slice (some ⟨g, 0, none⟩) n c)) {i : Nat} (hi : i < n) {p : Addr} (hp : p = ⟨g, i * 12, none⟩) {e : Ev} {x y : Value} (he : EV W (fun j => j ≠ g) e (x, y)) (b1 : e.data.length ≤ m) (b2 : e.pk.data.length ≤ m) :
  OE B m n (((((((((((((W.setCell p (.int .i64 e.kind)).setCell ⟨p.block, p.off + 1, none⟩ (.int .i64 e.n)).setCell ⟨p.block, p.off + 2, none⟩ (x)).setCell ⟨p.block, p.off + 3, none⟩ (.int .i64 e.pk.kind)).setCell ⟨p.block, p.off + 4, none⟩ (.int .i64 e.pk.path)).setCell ⟨p.block, p.off + 5, none⟩ (.int .i64 e.pk.number)).setCell ⟨p.block, p.off + 6, none⟩ (.int .i64 e.pk.of_)).setCell ⟨p.block, p.off + 7, none⟩ (.int .i64 e.pk.from_)).setCell ⟨p.block, p.off + 8, none⟩ (y)).setCell ⟨p.block, p.off + 9, none⟩ (.bool e.pk.fin)).setCell ⟨p.block, p.off + 10, none⟩ (.int .i64 e.pk.seen)).setCell ⟨p.block, p.off + 11, none⟩ (.int .i64 e.pk.limit))) (.slice (some ⟨g, 0, none⟩) n c) := by
 have pb : p.block = g := by rw [hp]
 have h0 := h.put0 hi hp (u := .int .i64 e.kind) (fits_int _ _ _ _ _ (by omega))
 have F0 := (Frm.refl (· = g) W).setCell (p := p) (.inl pb) (.int .i64 e.kind)
 have h1 := h0.put hi (f := 1) (by omega) hp (u := .int .i64 e.n) (fits_int _ _ _ _ _ (by omega))
 have F1 := F0.setCell (p := ⟨p.block, p.off + 1, none⟩) (.inl pb) (.int .i64 e.n)
 have h2 := h1.put hi (f := 2) (by omega) hp (u := x) (fits_data (he.1.frm F1 (fun j hj e => hj e)) b1)
 have F2 := F1.setCell (p := ⟨p.block, p.off + 2, none⟩) (.inl pb) (x)
 have h3 := h2.put hi (f := 3) (by omega) hp (u := .int .i64 e.pk.kind) (fits_int _ _ _ _ _ (by omega))
 have F3 := F2.setCell (p := ⟨p.block, p.off + 3, none⟩) (.inl pb) (.int .i64 e.pk.kind)
 have h4 := h3.put hi (f := 4) (by omega) hp (u := .int .i64 e.pk.path) (fits_int _ _ _ _ _ (by omega))
 have F4 := F3.setCell (p := ⟨p.block, p.off + 4, none⟩) (.inl pb) (.int .i64 e.pk.path)
 have h5 := h4.put hi (f := 5) (by omega) hp (u := .int .i64 e.pk.number) (fits_int _ _ _ _ _ (by omega))
 have F5 := F4.setCell (p := ⟨p.block, p.off + 5, none⟩) (.inl pb) (.int .i64 e.pk.number)
 have h6 := h5.put hi (f := 6) (by omega) hp (u := .int .i64 e.pk.of_) (fits_int _ _ _ _ _ (by omega))
 have F6 := F5.setCell (p := ⟨p.block, p.off + 6, none⟩) (.inl pb) (.int .i64 e.pk.of_)
 have h7 := h6.put hi (f := 7) (by omega) hp (u := .int .i64 e.pk.from_) (fits_int _ _ _ _ _ (by omega))
 have F7 := F6.setCell (p := ⟨p.block, p.off + 7, none⟩) (.inl pb) (.int .i64 e.pk.from_)
 have h8 := h7.put hi (f := 8) (by omega) hp (u := y) (fits_pdata (he.2.frm F7 (fun j hj e => hj e)) b2)
 have F8 := F7.setCell (p := ⟨p.block, p.off + 8, none⟩) (.inl pb) (y)
 have h9 := h8.put hi (f := 9) (by omega) hp (u := .bool e.pk.fin) (fits_bool _ _ _ _)
 have F9 := F8.setCell (p := ⟨p.block, p.off + 9, none⟩) (.inl pb) (.bool e.pk.fin)
 have h10 := h9.put hi (f := 10) (by omega) hp (u := .int .i64 e.pk.seen) (fits_int _ _ _ _ _ (by omega))
 have F10 := F9.setCell (p := ⟨p.block, p.off + 10, none⟩) (.inl pb) (.int .i64 e.pk.seen)
 have h11 := h10.put hi (f := 11) (by omega) hp (u := .int .i64 e.pk.limit) (fits_int _ _ _ _ _ (by omega))
 have F11 := F10.setCell (p := ⟨p.block, p.off + 11, none⟩) (.inl pb) (.int .i64 e.pk.limit)
 exact h11
/-- A row cut short. -/
theorem OE.front {B g c : Nat} (h : OE B m n W (.slice (some ⟨g, 0, none⟩) n c)) (hk : k ≤ n) : OE B m k W (.slice (some ⟨g, 0, none⟩) k c) := by
 obtain ⟨xs, h1, h2⟩ := h
 refine ⟨xs.take (k * 12), ⟨(h2.front hk).len, ?_⟩, (h2.front hk).mono (fun j hj _ => hj)⟩
 rcases h1.2 with ⟨h', _⟩ | ⟨g', cap', cur, h', hb, hg, hnc, hcm, hcs, htake⟩
 ·simp at h'
 ·simp only [Value.slice.injEq, Option.some.injEq, Addr.mk.injEq, and_true, true_and] at h'
  obtain ⟨rfl, rfl⟩ := h'
  refine .inr ⟨g, c, cur, rfl, hb, hg, by omega, hcm, hcs, ?_⟩
  rw [← htake, List.take_take, Nat.min_eq_left (Nat.mul_le_mul_right _ hk)]
end
/-- Orders that meet again: what follows is shown once. -/
theorem both {α : Type} {C : α → Prop} {G : Prop} (h : Hid (∀ z, C z) → G) (r : ∀ z, C z) : G := h r
theorem add_zero_at (g k : Nat) : (⟨g, 0, none⟩ : Addr).add k = ⟨g, k, none⟩ := by
 unfold Addr.add
 by_cases h : k = 0
 ·subst h; simp
 ·simp [h]
/-- Some row of events. -/
def ChR (w : World) (n : Nat) (e : Ending) (w' : World) : Prop := ∃ v es, e = .returned v ∧ ERow (fun _ => True) w' v es ∧ es.length ≤ n + 1 ∧ (∀ e ∈ es, e.data.length ≤ 1000001 ∧ e.pk.data.length ≤ 1000001) ∧ Below w.heap.size w w'
theorem LE.fin {w W : World} {S : Nat → Prop} {m n k : Nat} {v : Value} (h : LE W S m k v) (hk : k ≤ n + 1) (hm : m ≤ 1000001) (hb : Below w.heap.size w W) : ChR w n (.returned v) W := by
 obtain ⟨es, h1, h2, h3⟩ := (h.mono (S' := fun _ => True) (fun _ _ _ => trivial)).row
 exact ⟨v, es, rfl, h1, by omega, fun e he => by have := h3 e he; omega, hb⟩
end
end Go.Proofs.YtdneakejlbabeaaGreat
