/- Parts of the walk: Fh, Fl, Wf. -/
import Derived.Test.YtdneakejlbabeaaGreatM00
import Derived.Test.YtdneakejlbabeaaGreatM08
import Derived.Test.YtdneakejlbabeaaGreatM07
namespace Go.Proofs.YtdneakejlbabeaaGreat
open Go.RowKit
set_option linter.unusedVariables false
set_option linter.unusedSimpArgs false
section
/-- What the first n events of a side said. -/
def pks (a : List Ev) (n : Nat) : List Pk := ((a.take n).filter (fun e => e.kind == 5)).map (·.pk)
theorem pks_succ (a : List Ev) (n : Nat) (e : Ev) (h : a[n]? = some e) : pks a (n + 1) = if e.kind = 5 then pks a n ++ [e.pk] else pks a n := by
 unfold pks
 rw [List.take_add_one, h]
 simp only [Option.toList_some, List.filter_append, List.map_append]
 by_cases he : e.kind = 5
 ·simp [he]
 ·simp [he]
theorem pks_length (a : List Ev) (n : Nat) : (pks a n).length ≤ a.length := by
 unfold pks
 rw [List.length_map]
 exact Nat.le_trans (List.length_filter_le _ _) (by rw [List.length_take]; omega)
/-- The row; or where it is stuck. -/
def join (a b : List Ev) : Nat → Nat → Nat → List (Int × Ev) → List (Int × Ev) × Int × Int × Bool
 | 0, _, _, out => (out, 0, 0, true)
 | f + 1, n0, n1, out =>
  if n0 < a.length ∨ n1 < b.length then
   if free a n0 (pks b n1) = true then
    match a[n0]? with
    | some e => join a b f (n0 + 1) n1 (out ++ [(0, e)])
    | none => (out, 0, 0, true)
   else if free b n1 (pks a n0) = true then
    match b[n1]? with
    | some e => join a b f n0 (n1 + 1) (out ++ [(1, e)])
    | none => (out, 0, 0, true)
   else if n0 < a.length then ([], n0, 0, false) else ([], n1, 1, false)
  else (out, 0, 0, true)
def J (a b : List Ev) : List (Int × Ev) × Int × Int × Bool := join a b (a.length + b.length + 1) 0 0 []
abbrev OutN (B : Nat) (D : Nat → Prop) (w : World) (v : Value) (l : List (Int × Ev)) : Prop := OutG ncells 13 52 (fun S w (y : Int × Ev) x => EV w S y.2 x) B D w v l
abbrev OutP (B : Nat) (D : Nat → Prop) (w : World) (v : Value) (l : List Pk) : Prop := OutG pcells 9 27 (fun S w (p : Pk) x => BV w S x p.data) B D w v l
/-- What stands at the head of Join's loop; B: how many blocks there were. -/
structure JS (B : Nat) (S : Nat → Prop) (w : World) (gr gn gs : Nat) (va vb sa sb vo : Value) (a b : List Ev) (n0 n1 : Nat) (p0 p1 : List Pk) (out : List (Int × Ev)) : Prop where
 jb : JB w gr gn gs va vb sa sb n0 n1
 d : gr ≠ gn ∧ gr ≠ gs ∧ gn ≠ gs
 g : B ≤ gr ∧ B ≤ gn ∧ B ≤ gs
 sin : ∀ j, S j → j < B
 ex : ∃ (Po Pa Pb D : Nat → Prop), OutN B D w vo out ∧ OutP B S w sa p0 ∧ OutP B S w sb p1 ∧ (∀ j, D j → Po j) ∧ (∀ j, vo.ownBlock = some j → Po j) ∧ (∀ j, sa.ownBlock = some j → Pa j) ∧ (∀ j, sb.ownBlock = some j → Pb j) ∧
  (∀ j, Po j → ¬ Pa j ∧ ¬ Pb j) ∧ (∀ j, Pa j → ¬ Pb j) ∧ (∀ j, Po j ∨ Pa j ∨ Pb j → B ≤ j ∧ j < w.heap.size ∧ j ≠ gr ∧ j ≠ gn ∧ j ≠ gs)
section
variable {B : Nat} {S : Nat → Prop} {w w' : World} {gr gn gs : Nat} {va vb sa sb vo : Value} {a b : List Ev} {n0 n1 : Nat} {p0 p1 : List Pk} {out : List (Int × Ev)}
theorem JS.below (h : JS B S w gr gn gs va vb sa sb vo a b n0 n1 p0 p1 out) (k : Below w.heap.size w w') : JS B S w' gr gn gs va vb sa sb vo a b n0 n1 p0 p1 out := by
 obtain ⟨Po, Pa, Pb, D, h1, h2, h3, h4, h5, h6, h7, h8, h9, h10⟩ := h.ex
 exact ⟨h.jb.below k, h.d, h.g, h.sin, Po, Pa, Pb, D, h1.below liesN k, h2.below liesP k, h3.below liesP k, h4, h5, h6, h7, h8, h9, fun j hj => ⟨(h10 j hj).1, Nat.lt_of_lt_of_le (h10 j hj).2.1 k.size, (h10 j hj).2.2⟩⟩
theorem JS.forms (h : JS B S w gr gn gs va vb sa sb vo a b n0 n1 p0 p1 out) : (∃ A c, sa = .slice A p0.length c) ∧ (∃ A c, sb = .slice A p1.length c) ∧ ∃ A c, vo = .slice A out.length c := by
 obtain ⟨Po, Pa, Pb, D, h1, h2, h3, _⟩ := h.ex
 exact ⟨h2.form, h3.form, h1.form⟩
theorem BV.pone {w : World} {S : Nat → Prop} {p : Pk} {x : Value} (h : BV w S x p.data) : ∀ u ∈ pcells p x, u.oneCell' = true := by
 intro u hu
 simp only [pcells, List.mem_cons, List.not_mem_nil, or_false] at hu
 rcases hu with rfl | rfl | rfl | rfl | rfl | rfl | rfl | rfl | rfl
 ·rfl
 ·rfl
 ·rfl
 ·rfl
 ·rfl
 ·exact h.one
 ·rfl
 ·rfl
 ·rfl
theorem JS.prow (h : JS B S w gr gn gs va vb sa sb vo a b n0 n1 p0 p1 out) : PRow S w sa p0 ∧ PRow S w sb p1 := by
 obtain ⟨Po, Pa, Pb, D, h1, h2, h3, _⟩ := h.ex
 exact ⟨h2.row (fun a b hab => BV.pone hab), h3.row (fun a b hab => BV.pone hab)⟩
theorem JS.owns (h : JS B S w gr gn gs va vb sa sb vo a b n0 n1 p0 p1 out) : (∀ j, sa.ownBlock = some j → B ≤ j ∧ j < w.heap.size) ∧ (∀ j, sb.ownBlock = some j → B ≤ j ∧ j < w.heap.size) ∧ (∀ j, vo.ownBlock = some j → B ≤ j ∧ j < w.heap.size) := by
 obtain ⟨Po, Pa, Pb, D, h1, h2, h3, _⟩ := h.ex
 exact ⟨h2.own, h3.own, h1.own⟩
/-- A store into the counters. -/
theorem JS.next (h : JS B S w gr gn gs va vb sa sb vo a b n0 n1 p0 p1 out) (i : Nat) (u : Value) (m0 m1 : Nat) (hc : (#[Value.int .i64 (n0 : Int), Value.int .i64 (n1 : Int)] : Array Value).setIfInBounds i u = #[Value.int .i64 (m0 : Int), Value.int .i64 (m1 : Int)]) :
  JS B S (w.setCell ⟨gn, i, none⟩ u) gr gn gs va vb sa sb vo a b m0 m1 p0 p1 out := by
 obtain ⟨Po, Pa, Pb, D, h1, h2, h3, h4, h5, h6, h7, h8, h9, h10⟩ := h.ex
 have f := (Frm.refl (· = gn) w).setg (i := i) u
 have gnB := h.g.2.1
 refine ⟨⟨h.jb.r.far (p := ⟨gn, i, none⟩) h.d.1 u, ?_, h.jb.s.far (p := ⟨gn, i, none⟩) h.d.2.2.symm u⟩, h.d, h.g, h.sin, Po, Pa, Pb, D, h1.frm liesN f (fun j hj e => (h10 j (.inl (h4 j hj))).2.2.2.1 e) (fun j hj e => (h10 j (.inl (h5 j hj))).2.2.2.1 e), h2.frm liesP f (fun j hj e => by have := h.sin j hj; omega) (fun j hj e => (h10 j (.inr (.inl (h6 j hj)))).2.2.2.1 e), h3.frm liesP f (fun j hj e => by have := h.sin j hj; omega) (fun j hj e => (h10 j (.inr (.inr (h7 j hj)))).2.2.2.1 e), h4, h5, h6, h7, h8, h9, fun j hj => ⟨(h10 j hj).1, Nat.lt_of_lt_of_le (h10 j hj).2.1 f.size, (h10 j hj).2.2⟩⟩
 have := h.jb.n.set i u
 rw [hc] at this
 exact this
/-- One entry more: w the world ahead of its copy, W1 behind it, W2 behind the append. -/
theorem JS.put (h : JS B S w gr gn gs va vb sa sb vo a b n0 n1 p0 p1 out) (hB : B ≤ w.heap.size) : ∃ vs, w.ownsRow B 52 13 vo out.length (rowsG ncells out vs) ∧
  ∀ (W1 W2 : World) (y : Int × Ev) (x : Value × Value) (vo' : Value) (o : Obj), Below w.heap.size w W1 → EV W1 (fun j => w.heap.size ≤ j) y.2 x → Frm (fun j => vo.ownBlock = some j) (W1.alloc o) W2 →
   W2.ownsRow B 52 13 vo' (out.length + 1) (rowsG ncells out vs ++ ncells y x) → (vo'.ownBlock = vo.ownBlock ∨ vo'.ownBlock = some (W1.alloc o).heap.size) →
   JS B S W2 gr gn gs va vb sa sb vo' a b n0 n1 p0 p1 (out ++ [y]) ∧ Frm (fun j => vo.ownBlock = some j) w W2 := by
 obtain ⟨Po, Pa, Pb, D, h1, h2, h3, h4, h5, h6, h7, h8, h9, h10⟩ := h.ex
 have hown1 := h1.own
 obtain ⟨vs, q1, q2, q3, q4⟩ := h1
 refine ⟨vs, q1, fun W1 W2 y x vo' o k1 hx hfr hown hat => ?_⟩
 have F : Frm (fun j => vo.ownBlock = some j) w W2 := ((Frm.of_below k1).alloc o).trans hfr
 have hn := OutG.snoc liesN (T' := fun j => w.heap.size ≤ j) q1 q2 q3 q4 k1 hx (fun j hj => hj) hfr hown hat
 have sz := k1.size
 have s2 : (W1.alloc o).heap.size = W1.heap.size + 1 := by simp
 have s3 := hfr.size
 refine ⟨⟨⟨h.jb.r.frm F (fun e => (h10 _ (.inl (h5 _ e))).2.2.1 rfl), h.jb.n.frm F (fun e => (h10 _ (.inl (h5 _ e))).2.2.2.1 rfl), h.jb.s.frm F (fun e => (h10 _ (.inl (h5 _ e))).2.2.2.2 rfl)⟩, h.d, h.g, h.sin,
  fun j => Po j ∨ (w.heap.size ≤ j ∧ j < W2.heap.size), Pa, Pb, _, hn, h2.frm liesP F (fun j hj e => by have := h.sin j hj; have := (hown1 j e).1; omega) (fun j hj e => (h8 j (h5 j e)).1 (h6 j hj)), h3.frm liesP F (fun j hj e => by have := h.sin j hj; have := (hown1 j e).1; omega) (fun j hj e => (h8 j (h5 j e)).2 (h7 j hj)), ?_, ?_, h6, h7, ?_, h9, ?_⟩, F⟩
 ·rintro j (hj | hj)
  ·exact .inl (h4 j hj.1)
  ·exact .inr ⟨hj.1, by omega⟩
 ·intro j hj
  rcases hat with e | e
  ·exact .inl (h5 j (e ▸ hj))
  ·have := (hown.lt j hj).2
   rw [e] at hj
   injection hj with hj
   exact .inr ⟨by omega, this⟩
 ·rintro j (hj | hj)
  ·exact h8 j hj
  ·exact ⟨fun e => by have := (h10 j (.inr (.inl e))).2.1; omega, fun e => by have := (h10 j (.inr (.inr e))).2.1; omega⟩
 ·have l1 := h.jb.r.lt
  have l2 := h.jb.n.lt
  have l3 := h.jb.s.lt
  rintro j ((hj | hj) | hj)
  ·have := h10 j (.inl hj)
   exact ⟨this.1, Nat.lt_of_lt_of_le this.2.1 F.size, this.2.2⟩
  ·exact ⟨by omega, hj.2, by omega, by omega, by omega⟩
  ·have := h10 j (.inr hj)
   exact ⟨this.1, Nat.lt_of_lt_of_le this.2.1 F.size, this.2.2⟩
/-- One packet more. -/
theorem OutP.snoc {v v' : Value} {l : List Pk} {vs : List Value} {W1 W2 : World} {p : Pk} {x : Value} {o : Obj} (h1 : w.ownsRow B 27 9 v l.length (rowsG pcells l vs)) (h2 : vs.length = l.length) (h3 : ∀ (i : Nat) (a : Pk) (b : Value), l[i]? = some a → vs[i]? = some b → BV w S b a.data) (hS : ∀ j, S j → j < B) (hB : B ≤ w.heap.size) (k1 : Below w.heap.size w W1) (hx : BV W1 S x p.data)
  (hfr : Frm (fun j => v.ownBlock = some j) (W1.alloc o) W2) (hown : W2.ownsRow B 27 9 v' (l.length + 1) (rowsG pcells l vs ++ pcells p x)) : OutP B S W2 v' (l ++ [p]) := by
 have hlt := h1.lt
 have F : Frm (fun j => v.ownBlock = some j) w W2 := ((Frm.of_below k1).alloc o).trans hfr
 have F1 : Frm (fun j => v.ownBlock = some j) W1 W2 := ((Frm.refl _ W1).alloc o).trans hfr
 have hd : ∀ j, S j → ¬ v.ownBlock = some j := fun j hj e => by have := hS j hj; have := (hlt j e).1; omega
 refine ⟨vs ++ [x], ?_, by simp [h2], fun i a' b' ha hb => ?_, fun j hj hs => by have := hS j hs; have := (hown.lt j hj).1; omega⟩
 ·rw [rowsG_snoc l p vs x h2, List.length_append]
  exact hown
 ·by_cases hi : i < l.length
  ·rw [List.getElem?_append_left hi] at ha
   rw [List.getElem?_append_left (by omega)] at hb
   exact (h3 i a' b' ha hb).frm F hd
  ·have hi2 : i < (l ++ [p]).length := (List.getElem?_eq_some_iff.1 ha).1
   simp only [List.length_append, List.length_cons, List.length_nil] at hi2
   obtain rfl : i = l.length := by omega
   rw [List.getElem?_append_right (Nat.le_refl _), Nat.sub_self] at ha
   rw [List.getElem?_append_right (by omega), h2, Nat.sub_self] at hb
   simp only [List.getElem?_cons_zero, Option.some.injEq] at ha hb
   subst ha
   subst hb
   exact hx.frm F1 hd
theorem JS.said0 (h : JS B S w gr gn gs va vb sa sb vo a b n0 n1 p0 p1 out) (hB : B ≤ w.heap.size) : ∃ vs, w.ownsRow B 27 9 sa p0.length (rowsG pcells p0 vs) ∧
  ∀ (W1 W2 : World) (p : Pk) (x : Value) (sa' : Value) (o : Obj), Below w.heap.size w W1 → BV W1 S x p.data → Frm (fun j => sa.ownBlock = some j) (W1.alloc o) W2 →
   W2.ownsRow B 27 9 sa' (p0.length + 1) (rowsG pcells p0 vs ++ pcells p x) → (sa'.ownBlock = sa.ownBlock ∨ sa'.ownBlock = some (W1.alloc o).heap.size) →
   JS B S (W2.setCell ⟨gs, 0, none⟩ sa') gr gn gs va vb sa' sb vo a b n0 n1 (p0 ++ [p]) p1 out ∧ Frm (fun j => sa.ownBlock = some j ∨ j = gs) w (W2.setCell ⟨gs, 0, none⟩ sa') := by
 obtain ⟨Po, Pa, Pb, D, h1, h2, h3, h4, h5, h6, h7, h8, h9, h10⟩ := h.ex
 have hown1 := h2.own
 obtain ⟨vs, q1, q2, q3, q4⟩ := h2
 refine ⟨vs, q1, fun W1 W2 p x sa' o k1 hx hfr hown hat => ?_⟩
 have F : Frm (fun j => sa.ownBlock = some j) w W2 := ((Frm.of_below k1).alloc o).trans hfr
 have hn := OutP.snoc q1 q2 q3 h.sin hB k1 hx hfr hown
 have sz := k1.size
 have s2 : (W1.alloc o).heap.size = W1.heap.size + 1 := by simp
 have s3 := hfr.size
 have gB := h.g.2.2
 have f2 := (Frm.refl (· = gs) W2).setg (i := 0) sa'
 have hP : ∀ j, sa'.ownBlock = some j → Pa j ∨ (w.heap.size ≤ j ∧ j < W2.heap.size) := by
  intro j hj
  rcases hat with e | e
  ·exact .inl (h6 j (e ▸ hj))
  ·have := (hown.lt j hj).2
   rw [e] at hj
   injection hj with hj
   exact .inr ⟨by omega, this⟩
 have l1 := h.jb.r.lt
 have l2 := h.jb.n.lt
 have l3 := h.jb.s.lt
 refine ⟨⟨⟨(h.jb.r.frm F (fun e => (h10 _ (.inr (.inl (h6 _ e)))).2.2.1 rfl)).far (p := ⟨gs, 0, none⟩) h.d.2.1 _, (h.jb.n.frm F (fun e => (h10 _ (.inr (.inl (h6 _ e)))).2.2.2.1 rfl)).far (p := ⟨gs, 0, none⟩) h.d.2.2 _, ?_⟩, h.d, h.g, h.sin,
  Po, (fun j => Pa j ∨ (w.heap.size ≤ j ∧ j < W2.heap.size)), Pb, D, (h1.frm liesN F (fun j hj e => (h8 _ (h4 _ hj)).1 (h6 _ e)) (fun j hj e => (h8 _ (h5 _ hj)).1 (h6 _ e))).frm liesN f2 (fun j hj e => (h10 j (.inl (h4 j hj))).2.2.2.2 e) (fun j hj e => (h10 j (.inl (h5 j hj))).2.2.2.2 e), hn.frm liesP f2 (fun j hj e => by have := h.sin j hj; omega) (fun j hj e => by rcases hP j hj with h' | h'; exact (h10 j (.inr (.inl h'))).2.2.2.2 e; have := h.jb.s.lt; omega), (h3.frm liesP F (fun j hj e => by have := h.sin j hj; have := (hown1 j e).1; omega) (fun j hj e => h9 _ (h6 _ e) (h7 _ hj))).frm liesP f2 (fun j hj e => by have := h.sin j hj; omega) (fun j hj e => (h10 j (.inr (.inr (h7 j hj)))).2.2.2.2 e), h4, h5, hP, h7, ?_, ?_, ?_⟩, (F.mono (fun j hj => .inl hj)).setCell (.inl (.inr rfl)) _⟩
 ·have := (h.jb.s.frm F (fun e => (h10 _ (.inr (.inl (h6 _ e)))).2.2.2.2 rfl)).set 0 sa'
  simpa using this
 ·intro j hj
  exact ⟨fun e => by rcases e with e | e; exact (h8 j hj).1 e; have := (h10 j (.inl hj)).2.1; omega, (h8 j hj).2⟩
 ·intro j hj
  rcases hj with hj | hj
  ·exact h9 j hj
  ·exact fun e => by have := (h10 j (.inr (.inr e))).2.1; omega
 ·intro j hj
  have fs := f2.size
  have key : (Po j ∨ Pa j ∨ Pb j) ∨ (w.heap.size ≤ j ∧ j < W2.heap.size) := by
   rcases hj with hj | (hj | hj) | hj
   ·exact .inl (.inl hj)
   ·exact .inl (.inr (.inl hj))
   ·exact .inr hj
   ·exact .inl (.inr (.inr hj))
  rcases key with hk | hk
  ·have := h10 j hk
   exact ⟨this.1, Nat.lt_of_lt_of_le (Nat.lt_of_lt_of_le this.2.1 F.size) fs, this.2.2⟩
  ·exact ⟨by omega, Nat.lt_of_lt_of_le hk.2 fs, by omega, by omega, by omega⟩
theorem JS.said1 (h : JS B S w gr gn gs va vb sa sb vo a b n0 n1 p0 p1 out) (hB : B ≤ w.heap.size) : ∃ vs, w.ownsRow B 27 9 sb p1.length (rowsG pcells p1 vs) ∧
  ∀ (W1 W2 : World) (p : Pk) (x : Value) (sb' : Value) (o : Obj), Below w.heap.size w W1 → BV W1 S x p.data → Frm (fun j => sb.ownBlock = some j) (W1.alloc o) W2 →
   W2.ownsRow B 27 9 sb' (p1.length + 1) (rowsG pcells p1 vs ++ pcells p x) → (sb'.ownBlock = sb.ownBlock ∨ sb'.ownBlock = some (W1.alloc o).heap.size) →
   JS B S (W2.setCell ⟨gs, 1, none⟩ sb') gr gn gs va vb sa sb' vo a b n0 n1 p0 (p1 ++ [p]) out ∧ Frm (fun j => sb.ownBlock = some j ∨ j = gs) w (W2.setCell ⟨gs, 1, none⟩ sb') := by
 obtain ⟨Po, Pa, Pb, D, h1, h2, h3, h4, h5, h6, h7, h8, h9, h10⟩ := h.ex
 have hown1 := h3.own
 obtain ⟨vs, q1, q2, q3, q4⟩ := h3
 refine ⟨vs, q1, fun W1 W2 p x sb' o k1 hx hfr hown hat => ?_⟩
 have F : Frm (fun j => sb.ownBlock = some j) w W2 := ((Frm.of_below k1).alloc o).trans hfr
 have hn := OutP.snoc q1 q2 q3 h.sin hB k1 hx hfr hown
 have sz := k1.size
 have s2 : (W1.alloc o).heap.size = W1.heap.size + 1 := by simp
 have s3 := hfr.size
 have gB := h.g.2.2
 have f2 := (Frm.refl (· = gs) W2).setg (i := 1) sb'
 have hP : ∀ j, sb'.ownBlock = some j → Pb j ∨ (w.heap.size ≤ j ∧ j < W2.heap.size) := by
  intro j hj
  rcases hat with e | e
  ·exact .inl (h7 j (e ▸ hj))
  ·have := (hown.lt j hj).2
   rw [e] at hj
   injection hj with hj
   exact .inr ⟨by omega, this⟩
 have l1 := h.jb.r.lt
 have l2 := h.jb.n.lt
 have l3 := h.jb.s.lt
 refine ⟨⟨⟨(h.jb.r.frm F (fun e => (h10 _ (.inr (.inr (h7 _ e)))).2.2.1 rfl)).far (p := ⟨gs, 1, none⟩) h.d.2.1 _, (h.jb.n.frm F (fun e => (h10 _ (.inr (.inr (h7 _ e)))).2.2.2.1 rfl)).far (p := ⟨gs, 1, none⟩) h.d.2.2 _, ?_⟩, h.d, h.g, h.sin,
  Po, Pa, (fun j => Pb j ∨ (w.heap.size ≤ j ∧ j < W2.heap.size)), D, (h1.frm liesN F (fun j hj e => (h8 _ (h4 _ hj)).2 (h7 _ e)) (fun j hj e => (h8 _ (h5 _ hj)).2 (h7 _ e))).frm liesN f2 (fun j hj e => (h10 j (.inl (h4 j hj))).2.2.2.2 e) (fun j hj e => (h10 j (.inl (h5 j hj))).2.2.2.2 e), (h2.frm liesP F (fun j hj e => by have := h.sin j hj; have := (hown1 j e).1; omega) (fun j hj e => h9 _ (h6 _ hj) (h7 _ e))).frm liesP f2 (fun j hj e => by have := h.sin j hj; omega) (fun j hj e => (h10 j (.inr (.inl (h6 j hj)))).2.2.2.2 e), hn.frm liesP f2 (fun j hj e => by have := h.sin j hj; omega) (fun j hj e => by rcases hP j hj with h' | h'; exact (h10 j (.inr (.inr h'))).2.2.2.2 e; have := h.jb.s.lt; omega), h4, h5, h6, hP, ?_, ?_, ?_⟩, (F.mono (fun j hj => .inl hj)).setCell (.inl (.inr rfl)) _⟩
 ·have := (h.jb.s.frm F (fun e => (h10 _ (.inr (.inr (h7 _ e)))).2.2.2.2 rfl)).set 1 sb'
  simpa using this
 ·intro j hj
  exact ⟨(h8 j hj).1, fun e => by rcases e with e | e; exact (h8 j hj).2 e; have := (h10 j (.inl hj)).2.1; omega⟩
 ·intro j hj
  rintro (e | e)
  ·exact h9 j hj e
  ·have := (h10 j (.inr (.inl hj))).2.1
   omega
 ·intro j hj
  have fs := f2.size
  have key : (Po j ∨ Pa j ∨ Pb j) ∨ (w.heap.size ≤ j ∧ j < W2.heap.size) := by
   rcases hj with hj | hj | (hj | hj)
   ·exact .inl (.inl hj)
   ·exact .inl (.inr (.inl hj))
   ·exact .inl (.inr (.inr hj))
   ·exact .inr hj
  rcases key with hk | hk
  ·have := h10 j hk
   exact ⟨this.1, Nat.lt_of_lt_of_le (Nat.lt_of_lt_of_le this.2.1 F.size) fs, this.2.2⟩
  ·exact ⟨by omega, Nat.lt_of_lt_of_le hk.2 fs, by omega, by omega, by omega⟩
end
end

section
def Caus (l : List (Int × Ev)) : Prop := ∀ (i : Nat) (s : Int) (e : Ev), l[i]? = some (s, e) → e.kind = 4 → ∃ (j : Nat) (f : Ev), j < i ∧ l[j]? = some (1 - s, f) ∧ f.kind = 5 ∧ f.pk = e.pk
def Two (l : List (Int × Ev)) : Prop := ∀ y ∈ l, y.1 = 0 ∨ y.1 = 1
theorem only_app (s : Int) (l k : List (Int × Ev)) : only s (l ++ k) = only s l ++ only s k := by simp [only]
theorem only_yes (s : Int) (e : Ev) : only s [(s, e)] = [e] := by simp [only]
theorem only_no (s t : Int) (e : Ev) (h : t ≠ s) : only s [(t, e)] = [] := by simp [only, h]
theorem only_mem {s : Int} {l : List (Int × Ev)} {f : Ev} (h : f ∈ only s l) : (s, f) ∈ l := by
 unfold only at h
 obtain ⟨y, hy, rfl⟩ := List.mem_map.1 h
 obtain ⟨h1, h2⟩ := List.mem_filter.1 hy
 have : y.1 = s := by simpa using h2
 rw [← this]
 exact h1
theorem mem_only {s : Int} {l : List (Int × Ev)} {f : Ev} (h : (s, f) ∈ l) : f ∈ only s l :=
 List.mem_map.2 ⟨(s, f), List.mem_filter.2 ⟨h, by simp⟩, rfl⟩
theorem pks_mem {a : List Ev} {n : Nat} {p : Pk} : p ∈ pks a n ↔ ∃ f ∈ a.take n, f.kind = 5 ∧ f.pk = p := by
 unfold pks
 simp only [List.mem_map, List.mem_filter, beq_iff_eq, and_assoc]
theorem Caus.snoc {l : List (Int × Ev)} (h : Caus l) (s : Int) (e : Ev) (he : e.kind = 4 → ∃ f, (1 - s, f) ∈ l ∧ f.kind = 5 ∧ f.pk = e.pk) : Caus (l ++ [(s, e)]) := by
 intro i t g hi hg
 rcases Nat.lt_or_ge i l.length with h1 | h1
 ·rw [List.getElem?_append_left h1] at hi
  obtain ⟨j, f, hj, h2, h3⟩ := h i t g hi hg
  exact ⟨j, f, hj, by rw [List.getElem?_append_left (by omega)]; exact h2, h3⟩
 ·rw [List.getElem?_append_right h1] at hi
  have h0 := (List.getElem?_eq_some_iff.1 hi).1
  simp only [List.length_cons, List.length_nil] at h0
  have e0 : i - l.length = 0 := by omega
  rw [e0] at hi
  simp only [List.getElem?_cons_zero, Option.some.injEq, Prod.mk.injEq] at hi
  obtain ⟨rfl, rfl⟩ := hi
  obtain ⟨f, h2, h3, h4⟩ := he hg
  obtain ⟨j, hj⟩ := List.getElem?_of_mem h2
  have hlt := (List.getElem?_eq_some_iff.1 hj).1
  exact ⟨j, f, by omega, by rw [List.getElem?_append_left hlt]; exact hj, h3, h4⟩
theorem Two.snoc {l : List (Int × Ev)} (h : Two l) (s : Int) (e : Ev) (hs : s = 0 ∨ s = 1) : Two (l ++ [(s, e)]) := by
 intro y hy
 rcases List.mem_append.1 hy with hy | hy
 ·exact h y hy
 ·rw [List.mem_singleton.1 hy]; exact hs
theorem two_len {l : List (Int × Ev)} (h : Two l) : l.length = (only 0 l).length + (only 1 l).length := by
 induction l with
 | nil => rfl
 | cons y l ih =>
  have h2 := ih (fun z hz => h z (List.mem_cons_of_mem _ hz))
  obtain ⟨s, e⟩ := y
  have hs : s = 0 ∨ s = 1 := h (s, e) (List.mem_cons_self ..)
  have e1 : (s, e) :: l = [(s, e)] ++ l := rfl
  rw [e1, only_app, only_app, List.length_append, List.length_append, List.length_append, h2]
  rcases hs with rfl | rfl
  ·rw [only_yes, only_no 1 0 e (by decide)]; simp; omega
  ·rw [only_yes, only_no 0 1 e (by decide)]; simp; omega
/-- What the row is, as far as it has come. -/
structure Half (a b : List Ev) (n0 n1 : Nat) (out : List (Int × Ev)) : Prop where
 h0 : n0 ≤ a.length
 h1 : n1 ≤ b.length
 o0 : only 0 out = a.take n0
 o1 : only 1 out = b.take n1
 c : Caus out
 t : Two out
theorem free_caus {a b : List Ev} {n0 n1 : Nat} {e : Ev} (hf : free a n0 (pks b n1) = true) (he : a[n0]? = some e) (h4 : e.kind = 4) : ∃ f ∈ b.take n1, f.kind = 5 ∧ f.pk = e.pk := by
 unfold free at hf
 rw [he] at hf
 have := of_decide_eq_true hf
 rcases this with h | h
 ·exact absurd h4 h
 ·exact pks_mem.1 h
theorem take_snoc {a : List Ev} {n : Nat} {e : Ev} (he : a[n]? = some e) : a.take (n + 1) = a.take n ++ [e] := by
 rw [List.take_add_one, he]
 rfl
theorem Half.step0 {a b : List Ev} {n0 n1 : Nat} {out : List (Int × Ev)} {e : Ev} (h : Half a b n0 n1 out) (hf : free a n0 (pks b n1) = true) (he : a[n0]? = some e) : Half a b (n0 + 1) n1 (out ++ [(0, e)]) := by
 have hlt := (List.getElem?_eq_some_iff.1 he).1
 refine ⟨by omega, h.h1, ?_, ?_, h.c.snoc 0 e (fun h4 => ?_), h.t.snoc 0 e (.inl rfl)⟩
 ·rw [only_app, only_yes, h.o0, take_snoc he]
 ·rw [only_app, only_no 1 0 e (by decide), h.o1, List.append_nil]
 ·obtain ⟨f, h1, h2⟩ := free_caus hf he h4
  rw [← h.o1] at h1
  exact ⟨f, only_mem h1, h2⟩
theorem Half.step1 {a b : List Ev} {n0 n1 : Nat} {out : List (Int × Ev)} {e : Ev} (h : Half a b n0 n1 out) (hf : free b n1 (pks a n0) = true) (he : b[n1]? = some e) : Half a b n0 (n1 + 1) (out ++ [(1, e)]) := by
 have hlt := (List.getElem?_eq_some_iff.1 he).1
 refine ⟨h.h0, by omega, ?_, ?_, h.c.snoc 1 e (fun h4 => ?_), h.t.snoc 1 e (.inr rfl)⟩
 ·rw [only_app, only_no 0 1 e (by decide), h.o0, List.append_nil]
 ·rw [only_app, only_yes, h.o1, take_snoc he]
 ·obtain ⟨f, h1, h2⟩ := free_caus hf he h4
  rw [← h.o0] at h1
  exact ⟨f, only_mem h1, h2⟩
theorem Half.len {a b : List Ev} {n0 n1 : Nat} {out : List (Int × Ev)} (h : Half a b n0 n1 out) : out.length = n0 + n1 := by
 rw [two_len h.t, h.o0, h.o1, List.length_take, List.length_take]
 have := h.h0
 have := h.h1
 omega
/-- Each side's events, and nothing ahead of its sending. -/
structure Right (a b : List Ev) (l : List (Int × Ev)) : Prop where
 o0 : only 0 l = a
 o1 : only 1 l = b
 c : Caus l
 t : Two l
theorem join_half (a b : List Ev) : ∀ (f n0 n1 : Nat) (out : List (Int × Ev)), a.length + b.length + 1 - (n0 + n1) ≤ f → Half a b n0 n1 out →
  (∃ l, join a b f n0 n1 out = (l, 0, 0, true) ∧ Right a b l) ∨ ∃ m0 m1 at_ side, join a b f n0 n1 out = ([], at_, side, false) ∧ m0 ≤ a.length ∧ m1 ≤ b.length ∧ (m0 < a.length ∨ m1 < b.length) ∧ free a m0 (pks b m1) = false ∧ free b m1 (pks a m0) = false
 | 0, n0, n1, out, hf, h => by have := h.h0; have := h.h1; omega
 | f + 1, n0, n1, out, hf, h => by
  have l0 := h.h0
  have l1 := h.h1
  rw [join]
  by_cases hlt : n0 < a.length ∨ n1 < b.length
  ·rw [if_pos hlt]
   by_cases f0 : free a n0 (pks b n1) = true
   ·rw [if_pos f0]
    cases he : a[n0]? with
    | none => unfold free at f0; rw [he] at f0; cases f0
    | some e => exact join_half a b f _ _ _ (by omega) (h.step0 f0 he)
   ·rw [if_neg f0]
    by_cases f1 : free b n1 (pks a n0) = true
    ·rw [if_pos f1]
     cases he : b[n1]? with
     | none => unfold free at f1; rw [he] at f1; cases f1
     | some e => exact join_half a b f _ _ _ (by omega) (h.step1 f1 he)
    ·rw [if_neg f1]
     refine .inr ⟨n0, n1, if n0 < a.length then n0 else n1, if n0 < a.length then 0 else 1, ?_, l0, l1, hlt, by simpa using f0, by simpa using f1⟩
     split <;> rfl
  ·rw [if_neg hlt]
   refine .inl ⟨out, rfl, ?_, ?_, h.c, h.t⟩
   ·rw [h.o0, List.take_of_length_le (by omega)]
   ·rw [h.o1, List.take_of_length_le (by omega)]
theorem half_nil (a b : List Ev) : Half a b 0 0 [] := ⟨Nat.zero_le _, Nat.zero_le _, rfl, rfl, fun i s e h => by simp at h, fun y h => by simp at h⟩
theorem only_take (s : Int) (l : List (Int × Ev)) (k : Nat) : only s (l.take k) = (only s l).take (only s (l.take k)).length := by
 have h := only_app s (l.take k) (l.drop k)
 rw [List.take_append_drop] at h
 rw [h, List.take_left]
/-- Where there is a right row, nothing is stuck. -/
theorem not_stuck {a b : List Ev} {l : List (Int × Ev)} (h : Right a b l) {m0 m1 : Nat} (h0 : m0 ≤ a.length) (h1 : m1 ≤ b.length) (hlt : m0 < a.length ∨ m1 < b.length) (f0 : free a m0 (pks b m1) = false) (f1 : free b m1 (pks a m0) = false) : False := by
 have key : ∀ k, k ≤ l.length → (only 0 (l.take k)).length ≤ m0 ∧ (only 1 (l.take k)).length ≤ m1 := by
  intro k
  induction k with
  | zero => intro _; simp [only]
  | succ k ih =>
   intro hk
   obtain ⟨i0, i1⟩ := ih (by omega)
   have hg : l[k]? = some l[k] := List.getElem?_eq_getElem (by omega)
   obtain ⟨⟨s, e⟩, hy⟩ : ∃ y, y = l[k] := ⟨_, rfl⟩
   rw [← hy] at hg
   have hs := h.t (s, e) (List.mem_of_getElem? hg)
   have tk : l.take (k + 1) = l.take k ++ [(s, e)] := by rw [List.take_add_one, hg]; rfl
   have sub : ∀ (t : Int) (c : List Ev) (m : Nat), only t l = c → (only t (l.take k)).length ≤ m → ∀ f ∈ only t (l.take k), f ∈ c.take m := by
    intro t c m hc hm f hf
    rw [only_take, hc] at hf
    have e := (List.take_prefix_take_left (l := c) hm).subset hf
    exact e
   have low : ∀ (j : Nat) (t : Int) (f : Ev), j < k → l[j]? = some (t, f) → f ∈ only t (l.take k) := by
    intro j t f hj hf
    exact mem_only (List.mem_of_getElem? (i := j) (by rw [List.getElem?_take, if_pos hj]; exact hf))
   have at_ : ∀ (t : Int) (c : List Ev), only t l = c → s = t → c[(only t (l.take k)).length]? = some e := by
    intro t c hc hst
    subst hst
    have h2 := only_app s (l.take (k + 1)) (l.drop (k + 1))
    rw [List.take_append_drop, tk, only_app, only_yes, hc] at h2
    rw [h2, List.append_assoc, List.getElem?_append_right (Nat.le_refl _), Nat.sub_self]
    rfl
   rcases hs with hs | hs
   ·simp only at hs
    subst hs
    rw [tk, only_app, only_app, only_yes, only_no 1 0 e (by decide), List.length_append, List.append_nil]
    refine ⟨?_, i1⟩
    rcases Nat.lt_or_ge (only 0 (l.take k)).length m0 with hc | hc
    ·simp only [List.length_cons, List.length_nil]; omega
    ·exfalso
     have ee : (only 0 (l.take k)).length = m0 := by omega
     have ha := at_ 0 a h.o0 rfl
     rw [ee] at ha
     unfold free at f0
     rw [ha] at f0
     have f0 := of_decide_eq_false f0
     have h4 : e.kind = 4 := Classical.byContradiction fun x => f0 (.inl x)
     obtain ⟨j, f, hj, hjf, h5, h6⟩ := h.c k 0 e hg h4
     exact f0 (.inr (pks_mem.2 ⟨f, sub 1 b m1 h.o1 i1 f (low j 1 f hj hjf), h5, h6⟩))
   ·simp only at hs
    subst hs
    rw [tk, only_app, only_app, only_yes, only_no 0 1 e (by decide), List.append_nil, List.length_append]
    refine ⟨i0, ?_⟩
    rcases Nat.lt_or_ge (only 1 (l.take k)).length m1 with hc | hc
    ·simp only [List.length_cons, List.length_nil]; omega
    ·exfalso
     have ee : (only 1 (l.take k)).length = m1 := by omega
     have ha := at_ 1 b h.o1 rfl
     rw [ee] at ha
     unfold free at f1
     rw [ha] at f1
     have f1 := of_decide_eq_false f1
     have h4 : e.kind = 4 := Classical.byContradiction fun x => f1 (.inl x)
     obtain ⟨j, f, hj, hjf, h5, h6⟩ := h.c k 1 e hg h4
     exact f1 (.inr (pks_mem.2 ⟨f, sub 0 a m0 h.o0 i0 f (low j 0 f hj hjf), h5, h6⟩))
 have := key l.length (Nat.le_refl _)
 rw [List.take_length, h.o0, h.o1] at this
 omega
/-- A right row is found where there is one. -/
theorem J_right {a b : List Ev} {l : List (Int × Ev)} (h : Right a b l) : ∃ k, J a b = (k, 0, 0, true) ∧ Right a b k := by
 rcases join_half a b (a.length + b.length + 1) 0 0 [] (by omega) (half_nil a b) with h2 | ⟨m0, m1, at_, side, _, h0, h1, hlt, f0, f1⟩
 ·exact h2
 ·exact (not_stuck h h0 h1 hlt f0 f1).elim
theorem Right.len {a b : List Ev} {l : List (Int × Ev)} (h : Right a b l) : l.length = a.length + b.length := by rw [two_len h.t, h.o0, h.o1]
end

section
def sentP (p : Ev) (f : Ev) : Bool := (f.kind == 5) && decide (f.pk = p.pk)
def freeR (es : List Ev) (p : Ev) : Bool := (p.kind != 4) || es.any (sentP p)
theorem any_next {es : List Ev} {p f : Ev} {m : Nat} (h : (es.take m).any (sentP p) = false) (hf : es[m]? = some f) : (es.take (m + 1)).any (sentP p) = sentP p f := by
 rw [List.take_add_one, hf, List.any_append, h]
 simp
theorem any_found {es : List Ev} {p f : Ev} {m : Nat} (hf : es[m]? = some f) (h : sentP p f = true) : es.any (sentP p) = true := List.any_eq_true.2 ⟨f, List.mem_of_getElem? hf, h⟩
set_option maxHeartbeats 8000000 in
set_option maxRecDepth 100000 in
theorem free_any (w : World) (S S' : Nat → Prop) (v : Value) (es : List Ev) (p : Ev) (x y : Value) (h : ERow S w v es) (hp : EV w S' p (x, y)) (hl : es.length ≤ 1000000) : Calls Tryz.prog 29 #[v, eagg p x y] w fun e w' => e = .returned (.bool (freeR es p)) ∧ Below w.heap.size w w' := by
 obtain ⟨B, b, rfl, _⟩ := h.len
 obtain ⟨hx, hy⟩ := hp
 dsimp only at hx hy
 obtain ⟨A, c, rfl, _⟩ := hx.len
 obtain ⟨C, d, rfl, _⟩ := hy.len
 obtain ⟨w0, hw0⟩ := lx (w.alloc (.cells #[.int .i64 p.kind, .int .i64 p.n, .slice A p.data.length c, .int .i64 p.pk.kind, .int .i64 p.pk.path, .int .i64 p.pk.number, .int .i64 p.pk.of_, .int .i64 p.pk.from_, .slice C p.pk.data.length d, .bool p.pk.fin, .int .i64 p.pk.seen, .int .i64 p.pk.limit] 29))
 obtain ⟨gs, hgs⟩ := lx (w.heap.size)
 have BS : Hid (Blk w0 gs #[.int .i64 p.kind, .int .i64 p.n, .slice A p.data.length c, .int .i64 p.pk.kind, .int .i64 p.pk.path, .int .i64 p.pk.number, .int .i64 p.pk.of_, .int .i64 p.pk.from_, .slice C p.pk.data.length d, .bool p.pk.fin, .int .i64 p.pk.seen, .int .i64 p.pk.limit] 29) := hid (by rw [hw0, hgs]; exact Blk.new _ _ _)
 have B0 : Hid (Below w.heap.size w w0) := hid (by rw [hw0]; exact ba)
 have H := hid (h.below B0.out)
 have HY := hid (hy.below B0.out)
 have hw0' := hw0.symm
 have hgs' := hgs.symm
 have k0 := BS.out.cell 0
 simp only [gA, gZ, gC] at k0
 clear hw0 hgs h hx hy
 by_cases h4 : p.kind = 4
 ·have e4 : (p.kind != 4) = false := by simp [h4]
  have FR : Hid (freeR es p = es.any (sentP p)) := hid (by unfold freeR; rw [e4, Bool.false_or])
  clear h4
  go_enter Tryz.func29, Tryz.ntmps29
  go_wp2_with fail
  clear hw0' hgs' k0 e4
  go_loopw [12] (fun i wr => ∃ m : Nat, m ≤ es.length ∧ i = .int .i64 m ∧ (es.take m).any (sentP p) = false ∧ Below w0.heap.size w0 wr) (fun i _ => es.length - (intOf i).toNat)
  case atStart => exact ⟨0, Nat.zero_le _, rfl, rfl, Below.refl _ _⟩
  case round =>
   obtain ⟨m, hm, rfl, hn, hb⟩ := hrel
   have HN := hid hn
   have BR := hid hb
   have HM := hid hm
   clear hn hb hm
   by_cases hml : m < es.length
   ·have m0 : (0 : Int) ≤ (m : Int) := by omega
    have m1 : (m : Int) < (es.length : Int) := by omega
    have iwm : IntKind.i64.wrap ((m : Int) + 1) = (m : Int) + 1 := iX
    obtain ⟨ad, f, x, y, rfl, he, hx, hce⟩ := ERow.ev (H.out.below BR.out) hml
    obtain ⟨a0, a1, a2, a3, a4, a5, a6, a7, a8, a9, a10, a11⟩ := hce
    obtain ⟨X, x, rfl, _⟩ := hx.1.len
    obtain ⟨Y, y, rfl, _⟩ := hx.2.len
    have HF := hid he
    obtain ⟨gI, hgI⟩ := lx (wr.heap.size)
    obtain ⟨W8, hW8⟩ := lx (wr.alloc (.cells #[.int .i64 f.kind, .int .i64 f.n, .slice X f.data.length x, .int .i64 f.pk.kind, .int .i64 f.pk.path, .int .i64 f.pk.number, .int .i64 f.pk.of_, .int .i64 f.pk.from_, .slice Y f.pk.data.length y, .bool f.pk.fin, .int .i64 f.pk.seen, .int .i64 f.pk.limit] 29))
    have K8 : Hid (Below wr.heap.size wr W8) := hid (by rw [hW8]; exact ba)
    have BI : Hid (Blk W8 gI #[.int .i64 f.kind, .int .i64 f.n, .slice X f.data.length x, .int .i64 f.pk.kind, .int .i64 f.pk.path, .int .i64 f.pk.number, .int .i64 f.pk.of_, .int .i64 f.pk.from_, .slice Y f.pk.data.length y, .bool f.pk.fin, .int .i64 f.pk.seen, .int .i64 f.pk.limit] 29) := hid (by rw [hW8, hgI]; exact Blk.new _ _ _)
    have K9 := hid (bO BR.out K8.out)
    have EX : Hid (BV W8 S (.slice Y f.pk.data.length y) f.pk.data) := hid (hx.2.below K8.out)
    have EY := hid (HY.out.below K9.out)
    have be := BS.out.below K9.out
    have bi := BI.out
    have e0 := be.cell 0
    have d0 := bi.cell 0
    have e3 := be.cell 3
    have d3 := bi.cell 3
    have e4 := be.cell 4
    have d4 := bi.cell 4
    have e5 := be.cell 5
    have d5 := bi.cell 5
    have e6 := be.cell 6
    have d6 := bi.cell 6
    have e7 := be.cell 7
    have d7 := bi.cell 7
    have e8 := be.cell 8
    have d8 := bi.cell 8
    have e9 := be.cell 9
    have d9 := bi.cell 9
    have e10 := be.cell 10
    have d10 := bi.cell 10
    have e11 := be.cell 11
    have d11 := bi.cell 11
    simp only [gA, gZ, gC] at e0 d0 e3 d3 e4 d4 e5 d5 e6 d6 e7 d7 e8 d8 e9 d9 e10 d10 e11 d11
    have hW8' := hW8.symm
    have hgI' := hgI.symm
    clear he hx be bi hW8 hgI
    by_cases h5 : f.kind = 5
    ·have e5 : (f.kind == 5) = true := by simp [h5]
     have E5 := hid e5
     clear h5
     go_wp2_with fail
     obtain ⟨q, hq⟩ : ∃ q, decide (f.pk = p.pk) = q := ⟨_, rfl⟩
     have HQ := hid hq
     clear hq
     refine (rsame_at W8 _ _ f.pk p.pk _ _ q HQ.out EX.out EY.out).mono ?_
     rintro r w9 ⟨rfl, hb9⟩
     have K10 := hid (bO K9.out hb9)
     have SP : Hid (sentP p f = q) := hid (by unfold sentP; rw [E5.out, HQ.out, Bool.true_and])
     clear hb9
     cases q
     ·go_wp2_with fail
      go_roundw
      case rel => exact ⟨m + 1, by omega, by go_num, by rw [any_next HN.out HF.out, SP.out], K10.out⟩
      case measure => simp [intOf]; omega
     ·go_wp2_with fail
      go_ret
      exact ⟨by rw [FR.out, any_found HF.out SP.out]; rfl, bO B0.out K10.out⟩
    ·have e5 : (f.kind == 5) = false := by simp [h5]
     have SP : Hid (sentP p f = false) := hid (by unfold sentP; rw [e5, Bool.false_and])
     clear h5
     go_wp2_with fail
     go_roundw
     case rel => exact ⟨m + 1, by omega, by go_num, by rw [any_next HN.out HF.out, SP.out], K9.out⟩
     case measure => simp [intOf]; omega
   ·have m1 : ¬ (m : Int) < (es.length : Int) := by omega
    obtain rfl : m = es.length := by have := HM.out; omega
    have FN : Hid (freeR es p = false) := hid (by rw [FR.out]; have := HN.out; rw [List.take_length] at this; exact this)
    go_wp2_with fail
    go_ret
    exact ⟨by rw [FN.out]; rfl, bO B0.out BR.out⟩
 ·have e4 : (p.kind != 4) = true := by simpa using h4
  have FR : Hid (freeR es p = true) := hid (by unfold freeR; rw [e4, Bool.true_or])
  clear h4
  go_enter Tryz.func29, Tryz.ntmps29
  go_wp2_with fail
  go_ret
  exact ⟨by rw [FR.out]; rfl, B0.out⟩
end
end Go.Proofs.YtdneakejlbabeaaGreat
