/- What Join keeps, and how it goes on. -/
import Derived.Test.YtoplcndiejpipaaFg
namespace Go.Proofs.Ytoplcndiejpipaa
open Go.RowKit
set_option linter.unusedVariables false
set_option linter.unusedSimpArgs false

/-- What the first n events of a side said. -/
def pks (a : List Ev) (n : Nat) : List Pk := ((a.take n).filter (fun e => e.kind == 5)).map (·.pk)
theorem pks_succ (a : List Ev) (n : Nat) (e : Ev) (h : a[n]? = some e) : pks a (n + 1) = if e.kind = 5 then pks a n ++ [e.pk] else pks a n := by
  unfold pks
  rw [List.take_add_one, h]
  simp only [Option.toList_some, List.filter_append, List.map_append]
  by_cases he : e.kind = 5
  · simp [he]
  · simp [he]
theorem pks_length (a : List Ev) (n : Nat) : (pks a n).length ≤ a.length := by
  unfold pks
  rw [List.length_map]
  exact Nat.le_trans (List.length_filter_le _ _) (by rw [List.length_take]; omega)

/-- The row; or where it is stuck. -/
def join (a b : List Ev) : Nat → Nat → Nat → List (Int × Ev) → List (Int × Ev) × Int × Int × Bool
  | 0, _, _, out => (out, 0, 0, true)
  | f + 1, n0, n1, out =>
    if n0 < a.length ∨ n1 < b.length then
      if free a n0 (pks b n1) = true then
        match a[n0]? with
        | some e => join a b f (n0 + 1) n1 (out ++ [(0, e)])
        | none => (out, 0, 0, true)
      else if free b n1 (pks a n0) = true then
        match b[n1]? with
        | some e => join a b f n0 (n1 + 1) (out ++ [(1, e)])
        | none => (out, 0, 0, true)
      else if n0 < a.length then ([], n0, 0, false) else ([], n1, 1, false)
    else (out, 0, 0, true)
def J (a b : List Ev) : List (Int × Ev) × Int × Int × Bool := join a b (a.length + b.length + 1) 0 0 []

abbrev OutN (B : Nat) (D : Nat → Prop) (w : World) (v : Value) (l : List (Int × Ev)) : Prop := OutG ncells 13 37 (fun S w (y : Int × Ev) x => EV w S y.2 x) B D w v l
abbrev OutP (B : Nat) (D : Nat → Prop) (w : World) (v : Value) (l : List Pk) : Prop := OutG pcells 9 25 (fun S w (p : Pk) x => BV w S x p.data) B D w v l

/-- What stands at the head of Join's loop; B: how many blocks there were. -/
structure JS (B : Nat) (S : Nat → Prop) (w : World) (gr gn gs : Nat) (va vb sa sb vo : Value) (a b : List Ev) (n0 n1 : Nat) (p0 p1 : List Pk) (out : List (Int × Ev)) : Prop where
  jb : JB w gr gn gs va vb sa sb n0 n1
  d : gr ≠ gn ∧ gr ≠ gs ∧ gn ≠ gs
  g : B ≤ gr ∧ B ≤ gn ∧ B ≤ gs
  sin : ∀ j, S j → j < B
  ex : ∃ (Po Pa Pb D : Nat → Prop), OutN B D w vo out ∧ OutP B S w sa p0 ∧ OutP B S w sb p1 ∧ (∀ j, D j → Po j) ∧ (∀ j, vo.ownBlock = some j → Po j) ∧ (∀ j, sa.ownBlock = some j → Pa j) ∧ (∀ j, sb.ownBlock = some j → Pb j) ∧
    (∀ j, Po j → ¬ Pa j ∧ ¬ Pb j) ∧ (∀ j, Pa j → ¬ Pb j) ∧ (∀ j, Po j ∨ Pa j ∨ Pb j → B ≤ j ∧ j < w.heap.size ∧ j ≠ gr ∧ j ≠ gn ∧ j ≠ gs)
section
variable {B : Nat} {S : Nat → Prop} {w w' : World} {gr gn gs : Nat} {va vb sa sb vo : Value} {a b : List Ev} {n0 n1 : Nat} {p0 p1 : List Pk} {out : List (Int × Ev)}
theorem JS.below (h : JS B S w gr gn gs va vb sa sb vo a b n0 n1 p0 p1 out) (k : Below w.heap.size w w') : JS B S w' gr gn gs va vb sa sb vo a b n0 n1 p0 p1 out := by
  obtain ⟨Po, Pa, Pb, D, h1, h2, h3, h4, h5, h6, h7, h8, h9, h10⟩ := h.ex
  exact ⟨h.jb.below k, h.d, h.g, h.sin, Po, Pa, Pb, D, h1.below liesN k, h2.below liesP k, h3.below liesP k, h4, h5, h6, h7, h8, h9, fun j hj => ⟨(h10 j hj).1, Nat.lt_of_lt_of_le (h10 j hj).2.1 k.size, (h10 j hj).2.2⟩⟩
theorem JS.forms (h : JS B S w gr gn gs va vb sa sb vo a b n0 n1 p0 p1 out) : (∃ A c, sa = .slice A p0.length c) ∧ (∃ A c, sb = .slice A p1.length c) ∧ ∃ A c, vo = .slice A out.length c := by
  obtain ⟨Po, Pa, Pb, D, h1, h2, h3, _⟩ := h.ex
  exact ⟨h2.form, h3.form, h1.form⟩
theorem BV.pone {w : World} {S : Nat → Prop} {p : Pk} {x : Value} (h : BV w S x p.data) : ∀ u ∈ pcells p x, u.oneCell' = true := by
  intro u hu
  simp only [pcells, List.mem_cons, List.not_mem_nil, or_false] at hu
  rcases hu with rfl | rfl | rfl | rfl | rfl | rfl | rfl | rfl | rfl
  · rfl
  · rfl
  · rfl
  · rfl
  · rfl
  · exact h.one
  · rfl
  · rfl
  · rfl
theorem JS.prow (h : JS B S w gr gn gs va vb sa sb vo a b n0 n1 p0 p1 out) : PRow S w sa p0 ∧ PRow S w sb p1 := by
  obtain ⟨Po, Pa, Pb, D, h1, h2, h3, _⟩ := h.ex
  exact ⟨h2.row (fun a b hab => BV.pone hab), h3.row (fun a b hab => BV.pone hab)⟩
theorem JS.owns (h : JS B S w gr gn gs va vb sa sb vo a b n0 n1 p0 p1 out) : (∀ j, sa.ownBlock = some j → B ≤ j ∧ j < w.heap.size) ∧ (∀ j, sb.ownBlock = some j → B ≤ j ∧ j < w.heap.size) ∧ (∀ j, vo.ownBlock = some j → B ≤ j ∧ j < w.heap.size) := by
  obtain ⟨Po, Pa, Pb, D, h1, h2, h3, _⟩ := h.ex
  exact ⟨h2.own, h3.own, h1.own⟩
/-- A store into the counters. -/
theorem JS.next (h : JS B S w gr gn gs va vb sa sb vo a b n0 n1 p0 p1 out) (i : Nat) (u : Value) (m0 m1 : Nat) (hc : (#[Value.int .i64 (n0 : Int), Value.int .i64 (n1 : Int)] : Array Value).setIfInBounds i u = #[Value.int .i64 (m0 : Int), Value.int .i64 (m1 : Int)]) :
    JS B S (w.setCell ⟨gn, i, none⟩ u) gr gn gs va vb sa sb vo a b m0 m1 p0 p1 out := by
  obtain ⟨Po, Pa, Pb, D, h1, h2, h3, h4, h5, h6, h7, h8, h9, h10⟩ := h.ex
  have f := (Frm.refl (· = gn) w).setg (i := i) u
  have gnB := h.g.2.1
  refine ⟨⟨h.jb.r.far (p := ⟨gn, i, none⟩) h.d.1 u, ?_, h.jb.s.far (p := ⟨gn, i, none⟩) h.d.2.2.symm u⟩, h.d, h.g, h.sin, Po, Pa, Pb, D, h1.frm liesN f (fun j hj e => (h10 j (.inl (h4 j hj))).2.2.2.1 e) (fun j hj e => (h10 j (.inl (h5 j hj))).2.2.2.1 e), h2.frm liesP f (fun j hj e => by have := h.sin j hj; omega) (fun j hj e => (h10 j (.inr (.inl (h6 j hj)))).2.2.2.1 e), h3.frm liesP f (fun j hj e => by have := h.sin j hj; omega) (fun j hj e => (h10 j (.inr (.inr (h7 j hj)))).2.2.2.1 e), h4, h5, h6, h7, h8, h9, fun j hj => ⟨(h10 j hj).1, Nat.lt_of_lt_of_le (h10 j hj).2.1 f.size, (h10 j hj).2.2⟩⟩
  have := h.jb.n.set i u
  rw [hc] at this
  exact this
/-- One entry more: w the world ahead of its copy, W1 behind it, W2 behind the append. -/
theorem JS.put (h : JS B S w gr gn gs va vb sa sb vo a b n0 n1 p0 p1 out) (hB : B ≤ w.heap.size) : ∃ vs, w.ownsRow B 37 13 vo out.length (rowsG ncells out vs) ∧
    ∀ (W1 W2 : World) (y : Int × Ev) (x : Value × Value) (vo' : Value) (o : Obj), Below w.heap.size w W1 → EV W1 (fun j => w.heap.size ≤ j) y.2 x → Frm (fun j => vo.ownBlock = some j) (W1.alloc o) W2 →
      W2.ownsRow B 37 13 vo' (out.length + 1) (rowsG ncells out vs ++ ncells y x) → (vo'.ownBlock = vo.ownBlock ∨ vo'.ownBlock = some (W1.alloc o).heap.size) →
      JS B S W2 gr gn gs va vb sa sb vo' a b n0 n1 p0 p1 (out ++ [y]) ∧ Frm (fun j => vo.ownBlock = some j) w W2 := by
  obtain ⟨Po, Pa, Pb, D, h1, h2, h3, h4, h5, h6, h7, h8, h9, h10⟩ := h.ex
  have hown1 := h1.own
  obtain ⟨vs, q1, q2, q3, q4⟩ := h1
  refine ⟨vs, q1, fun W1 W2 y x vo' o k1 hx hfr hown hat => ?_⟩
  have F : Frm (fun j => vo.ownBlock = some j) w W2 := ((Frm.of_below k1).alloc o).trans hfr
  have hn := OutG.snoc liesN (T' := fun j => w.heap.size ≤ j) q1 q2 q3 q4 k1 hx (fun j hj => hj) hfr hown hat
  have sz := k1.size
  have s2 : (W1.alloc o).heap.size = W1.heap.size + 1 := by simp
  have s3 := hfr.size
  refine ⟨⟨⟨h.jb.r.frm F (fun e => (h10 _ (.inl (h5 _ e))).2.2.1 rfl), h.jb.n.frm F (fun e => (h10 _ (.inl (h5 _ e))).2.2.2.1 rfl), h.jb.s.frm F (fun e => (h10 _ (.inl (h5 _ e))).2.2.2.2 rfl)⟩, h.d, h.g, h.sin,
    fun j => Po j ∨ (w.heap.size ≤ j ∧ j < W2.heap.size), Pa, Pb, _, hn, h2.frm liesP F (fun j hj e => by have := h.sin j hj; have := (hown1 j e).1; omega) (fun j hj e => (h8 j (h5 j e)).1 (h6 j hj)), h3.frm liesP F (fun j hj e => by have := h.sin j hj; have := (hown1 j e).1; omega) (fun j hj e => (h8 j (h5 j e)).2 (h7 j hj)), ?_, ?_, h6, h7, ?_, h9, ?_⟩, F⟩
  · rintro j (hj | hj)
    · exact .inl (h4 j hj.1)
    · exact .inr ⟨hj.1, by omega⟩
  · intro j hj
    rcases hat with e | e
    · exact .inl (h5 j (e ▸ hj))
    · have := (hown.lt j hj).2
      rw [e] at hj
      injection hj with hj
      exact .inr ⟨by omega, this⟩
  · rintro j (hj | hj)
    · exact h8 j hj
    · exact ⟨fun e => by have := (h10 j (.inr (.inl e))).2.1; omega, fun e => by have := (h10 j (.inr (.inr e))).2.1; omega⟩
  · have l1 := h.jb.r.lt
    have l2 := h.jb.n.lt
    have l3 := h.jb.s.lt
    rintro j ((hj | hj) | hj)
    · have := h10 j (.inl hj)
      exact ⟨this.1, Nat.lt_of_lt_of_le this.2.1 F.size, this.2.2⟩
    · exact ⟨by omega, hj.2, by omega, by omega, by omega⟩
    · have := h10 j (.inr hj)
      exact ⟨this.1, Nat.lt_of_lt_of_le this.2.1 F.size, this.2.2⟩
/-- One packet more. -/
theorem OutP.snoc {v v' : Value} {l : List Pk} {vs : List Value} {W1 W2 : World} {p : Pk} {x : Value} {o : Obj} (h1 : w.ownsRow B 25 9 v l.length (rowsG pcells l vs)) (h2 : vs.length = l.length) (h3 : ∀ (i : Nat) (a : Pk) (b : Value), l[i]? = some a → vs[i]? = some b → BV w S b a.data) (hS : ∀ j, S j → j < B) (hB : B ≤ w.heap.size) (k1 : Below w.heap.size w W1) (hx : BV W1 S x p.data)
    (hfr : Frm (fun j => v.ownBlock = some j) (W1.alloc o) W2) (hown : W2.ownsRow B 25 9 v' (l.length + 1) (rowsG pcells l vs ++ pcells p x)) : OutP B S W2 v' (l ++ [p]) := by
  have hlt := h1.lt
  have F : Frm (fun j => v.ownBlock = some j) w W2 := ((Frm.of_below k1).alloc o).trans hfr
  have F1 : Frm (fun j => v.ownBlock = some j) W1 W2 := ((Frm.refl _ W1).alloc o).trans hfr
  have hd : ∀ j, S j → ¬ v.ownBlock = some j := fun j hj e => by have := hS j hj; have := (hlt j e).1; omega
  refine ⟨vs ++ [x], ?_, by simp [h2], fun i a' b' ha hb => ?_, fun j hj hs => by have := hS j hs; have := (hown.lt j hj).1; omega⟩
  · rw [rowsG_snoc l p vs x h2, List.length_append]
    exact hown
  · by_cases hi : i < l.length
    · rw [List.getElem?_append_left hi] at ha
      rw [List.getElem?_append_left (by omega)] at hb
      exact (h3 i a' b' ha hb).frm F hd
    · have hi2 : i < (l ++ [p]).length := (List.getElem?_eq_some_iff.1 ha).1
      simp only [List.length_append, List.length_cons, List.length_nil] at hi2
      obtain rfl : i = l.length := by omega
      rw [List.getElem?_append_right (Nat.le_refl _), Nat.sub_self] at ha
      rw [List.getElem?_append_right (by omega), h2, Nat.sub_self] at hb
      simp only [List.getElem?_cons_zero, Option.some.injEq] at ha hb
      subst ha
      subst hb
      exact hx.frm F1 hd
theorem JS.said0 (h : JS B S w gr gn gs va vb sa sb vo a b n0 n1 p0 p1 out) (hB : B ≤ w.heap.size) : ∃ vs, w.ownsRow B 25 9 sa p0.length (rowsG pcells p0 vs) ∧
    ∀ (W1 W2 : World) (p : Pk) (x : Value) (sa' : Value) (o : Obj), Below w.heap.size w W1 → BV W1 S x p.data → Frm (fun j => sa.ownBlock = some j) (W1.alloc o) W2 →
      W2.ownsRow B 25 9 sa' (p0.length + 1) (rowsG pcells p0 vs ++ pcells p x) → (sa'.ownBlock = sa.ownBlock ∨ sa'.ownBlock = some (W1.alloc o).heap.size) →
      JS B S (W2.setCell ⟨gs, 0, none⟩ sa') gr gn gs va vb sa' sb vo a b n0 n1 (p0 ++ [p]) p1 out ∧ Frm (fun j => sa.ownBlock = some j ∨ j = gs) w (W2.setCell ⟨gs, 0, none⟩ sa') := by
  obtain ⟨Po, Pa, Pb, D, h1, h2, h3, h4, h5, h6, h7, h8, h9, h10⟩ := h.ex
  have hown1 := h2.own
  obtain ⟨vs, q1, q2, q3, q4⟩ := h2
  refine ⟨vs, q1, fun W1 W2 p x sa' o k1 hx hfr hown hat => ?_⟩
  have F : Frm (fun j => sa.ownBlock = some j) w W2 := ((Frm.of_below k1).alloc o).trans hfr
  have hn := OutP.snoc q1 q2 q3 h.sin hB k1 hx hfr hown
  have sz := k1.size
  have s2 : (W1.alloc o).heap.size = W1.heap.size + 1 := by simp
  have s3 := hfr.size
  have gB := h.g.2.2
  have f2 := (Frm.refl (· = gs) W2).setg (i := 0) sa'
  have hP : ∀ j, sa'.ownBlock = some j → Pa j ∨ (w.heap.size ≤ j ∧ j < W2.heap.size) := by
    intro j hj
    rcases hat with e | e
    · exact .inl (h6 j (e ▸ hj))
    · have := (hown.lt j hj).2
      rw [e] at hj
      injection hj with hj
      exact .inr ⟨by omega, this⟩
  have l1 := h.jb.r.lt
  have l2 := h.jb.n.lt
  have l3 := h.jb.s.lt
  refine ⟨⟨⟨(h.jb.r.frm F (fun e => (h10 _ (.inr (.inl (h6 _ e)))).2.2.1 rfl)).far (p := ⟨gs, 0, none⟩) h.d.2.1 _, (h.jb.n.frm F (fun e => (h10 _ (.inr (.inl (h6 _ e)))).2.2.2.1 rfl)).far (p := ⟨gs, 0, none⟩) h.d.2.2 _, ?_⟩, h.d, h.g, h.sin,
    Po, (fun j => Pa j ∨ (w.heap.size ≤ j ∧ j < W2.heap.size)), Pb, D, (h1.frm liesN F (fun j hj e => (h8 _ (h4 _ hj)).1 (h6 _ e)) (fun j hj e => (h8 _ (h5 _ hj)).1 (h6 _ e))).frm liesN f2 (fun j hj e => (h10 j (.inl (h4 j hj))).2.2.2.2 e) (fun j hj e => (h10 j (.inl (h5 j hj))).2.2.2.2 e), hn.frm liesP f2 (fun j hj e => by have := h.sin j hj; omega) (fun j hj e => by rcases hP j hj with h' | h'; exact (h10 j (.inr (.inl h'))).2.2.2.2 e; have := h.jb.s.lt; omega), (h3.frm liesP F (fun j hj e => by have := h.sin j hj; have := (hown1 j e).1; omega) (fun j hj e => h9 _ (h6 _ e) (h7 _ hj))).frm liesP f2 (fun j hj e => by have := h.sin j hj; omega) (fun j hj e => (h10 j (.inr (.inr (h7 j hj)))).2.2.2.2 e), h4, h5, hP, h7, ?_, ?_, ?_⟩, (F.mono (fun j hj => .inl hj)).setCell (.inl (.inr rfl)) _⟩
  · have := (h.jb.s.frm F (fun e => (h10 _ (.inr (.inl (h6 _ e)))).2.2.2.2 rfl)).set 0 sa'
    simpa using this
  · intro j hj
    exact ⟨fun e => by rcases e with e | e; exact (h8 j hj).1 e; have := (h10 j (.inl hj)).2.1; omega, (h8 j hj).2⟩
  · intro j hj
    rcases hj with hj | hj
    · exact h9 j hj
    · exact fun e => by have := (h10 j (.inr (.inr e))).2.1; omega
  · intro j hj
    have fs := f2.size
    have key : (Po j ∨ Pa j ∨ Pb j) ∨ (w.heap.size ≤ j ∧ j < W2.heap.size) := by
      rcases hj with hj | (hj | hj) | hj
      · exact .inl (.inl hj)
      · exact .inl (.inr (.inl hj))
      · exact .inr hj
      · exact .inl (.inr (.inr hj))
    rcases key with hk | hk
    · have := h10 j hk
      exact ⟨this.1, Nat.lt_of_lt_of_le (Nat.lt_of_lt_of_le this.2.1 F.size) fs, this.2.2⟩
    · exact ⟨by omega, Nat.lt_of_lt_of_le hk.2 fs, by omega, by omega, by omega⟩
theorem JS.said1 (h : JS B S w gr gn gs va vb sa sb vo a b n0 n1 p0 p1 out) (hB : B ≤ w.heap.size) : ∃ vs, w.ownsRow B 25 9 sb p1.length (rowsG pcells p1 vs) ∧
    ∀ (W1 W2 : World) (p : Pk) (x : Value) (sb' : Value) (o : Obj), Below w.heap.size w W1 → BV W1 S x p.data → Frm (fun j => sb.ownBlock = some j) (W1.alloc o) W2 →
      W2.ownsRow B 25 9 sb' (p1.length + 1) (rowsG pcells p1 vs ++ pcells p x) → (sb'.ownBlock = sb.ownBlock ∨ sb'.ownBlock = some (W1.alloc o).heap.size) →
      JS B S (W2.setCell ⟨gs, 1, none⟩ sb') gr gn gs va vb sa sb' vo a b n0 n1 p0 (p1 ++ [p]) out ∧ Frm (fun j => sb.ownBlock = some j ∨ j = gs) w (W2.setCell ⟨gs, 1, none⟩ sb') := by
  obtain ⟨Po, Pa, Pb, D, h1, h2, h3, h4, h5, h6, h7, h8, h9, h10⟩ := h.ex
  have hown1 := h3.own
  obtain ⟨vs, q1, q2, q3, q4⟩ := h3
  refine ⟨vs, q1, fun W1 W2 p x sb' o k1 hx hfr hown hat => ?_⟩
  have F : Frm (fun j => sb.ownBlock = some j) w W2 := ((Frm.of_below k1).alloc o).trans hfr
  have hn := OutP.snoc q1 q2 q3 h.sin hB k1 hx hfr hown
  have sz := k1.size
  have s2 : (W1.alloc o).heap.size = W1.heap.size + 1 := by simp
  have s3 := hfr.size
  have gB := h.g.2.2
  have f2 := (Frm.refl (· = gs) W2).setg (i := 1) sb'
  have hP : ∀ j, sb'.ownBlock = some j → Pb j ∨ (w.heap.size ≤ j ∧ j < W2.heap.size) := by
    intro j hj
    rcases hat with e | e
    · exact .inl (h7 j (e ▸ hj))
    · have := (hown.lt j hj).2
      rw [e] at hj
      injection hj with hj
      exact .inr ⟨by omega, this⟩
  have l1 := h.jb.r.lt
  have l2 := h.jb.n.lt
  have l3 := h.jb.s.lt
  refine ⟨⟨⟨(h.jb.r.frm F (fun e => (h10 _ (.inr (.inr (h7 _ e)))).2.2.1 rfl)).far (p := ⟨gs, 1, none⟩) h.d.2.1 _, (h.jb.n.frm F (fun e => (h10 _ (.inr (.inr (h7 _ e)))).2.2.2.1 rfl)).far (p := ⟨gs, 1, none⟩) h.d.2.2 _, ?_⟩, h.d, h.g, h.sin,
    Po, Pa, (fun j => Pb j ∨ (w.heap.size ≤ j ∧ j < W2.heap.size)), D, (h1.frm liesN F (fun j hj e => (h8 _ (h4 _ hj)).2 (h7 _ e)) (fun j hj e => (h8 _ (h5 _ hj)).2 (h7 _ e))).frm liesN f2 (fun j hj e => (h10 j (.inl (h4 j hj))).2.2.2.2 e) (fun j hj e => (h10 j (.inl (h5 j hj))).2.2.2.2 e), (h2.frm liesP F (fun j hj e => by have := h.sin j hj; have := (hown1 j e).1; omega) (fun j hj e => h9 _ (h6 _ hj) (h7 _ e))).frm liesP f2 (fun j hj e => by have := h.sin j hj; omega) (fun j hj e => (h10 j (.inr (.inl (h6 j hj)))).2.2.2.2 e), hn.frm liesP f2 (fun j hj e => by have := h.sin j hj; omega) (fun j hj e => by rcases hP j hj with h' | h'; exact (h10 j (.inr (.inr h'))).2.2.2.2 e; have := h.jb.s.lt; omega), h4, h5, h6, hP, ?_, ?_, ?_⟩, (F.mono (fun j hj => .inl hj)).setCell (.inl (.inr rfl)) _⟩
  · have := (h.jb.s.frm F (fun e => (h10 _ (.inr (.inr (h7 _ e)))).2.2.2.2 rfl)).set 1 sb'
    simpa using this
  · intro j hj
    exact ⟨(h8 j hj).1, fun e => by rcases e with e | e; exact (h8 j hj).2 e; have := (h10 j (.inl hj)).2.1; omega⟩
  · intro j hj
    rintro (e | e)
    · exact h9 j hj e
    · have := (h10 j (.inr (.inl hj))).2.1
      omega
  · intro j hj
    have fs := f2.size
    have key : (Po j ∨ Pa j ∨ Pb j) ∨ (w.heap.size ≤ j ∧ j < W2.heap.size) := by
      rcases hj with hj | hj | (hj | hj)
      · exact .inl (.inl hj)
      · exact .inl (.inr (.inl hj))
      · exact .inl (.inr (.inr hj))
      · exact .inr hj
    rcases key with hk | hk
    · have := h10 j hk
      exact ⟨this.1, Nat.lt_of_lt_of_le (Nat.lt_of_lt_of_le this.2.1 F.size) fs, this.2.2⟩
    · exact ⟨by omega, Nat.lt_of_lt_of_le hk.2 fs, by omega, by omega, by omega⟩
end
end Go.Proofs.Ytoplcndiejpipaa
