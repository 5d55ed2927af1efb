/- Parts of the walk: Wh. -/
import Derived.Test.YtdneakejlbabeaaGreatM00
import Derived.Deep.RegionHeld3
import Derived.Test.YtdneakejlbabeaaGreatM09
import Derived.Test.YtdneakejlbabeaaGreatM10
namespace Go.Proofs.YtdneakejlbabeaaGreat
open Go.RowKit
set_option linter.unusedVariables false
set_option linter.unusedSimpArgs false
section
theorem Tryz.info97 : (Tryz.prog.info? 97).map (fun i => (i.zero, i.size, i.bytes)) = some (some (.agg #[.int .i64 0, .int .i64 0, .int .i64 0, .slice none 0 0, .int .i64 0, .int .i64 0, .int .i64 0, .int .i64 0, .int .i64 0, .slice none 0 0, .bool false, .int .i64 0, .int .i64 0]), 13, 136) := by kernel_rfl
theorem evb' {S : Nat → Prop} {w w' : World} {e : Ev} {x : Value × Value} (h : EV w S e x) (k : Below w.heap.size w w') : EV w' S e x := ⟨h.1.below k, h.2.below k⟩
theorem ECells.below' {w w' : World} {p : Addr} {e : Ev} {x : Value × Value} (h : ECells w p e x) (k : Below w.heap.size w w') : ECells w' p e x := by
 have g : ∀ (p : Addr) (v : Value), w.cell? p = some v → w'.cell? p = some v := fun p v hv => (k.cell (World.block_lt_of_cell? w _ hv)).trans hv
 obtain ⟨h0, h1, h2, h3, h4, h5, h6, h7, h8, h9, h10, h11⟩ := h
 exact ⟨g _ _ h0, g _ _ h1, g _ _ h2, g _ _ h3, g _ _ h4, g _ _ h5, g _ _ h6, g _ _ h7, g _ _ h8, g _ _ h9, g _ _ h10, g _ _ h11⟩
/-- An event's cells, written out. -/
abbrev EK (w' : World) (q : Addr) (e : Ev) (X : Option Addr) (x : Nat) (Y : Option Addr) (y : Nat) : Prop :=
 w'.cell? q = some (.int .i64 e.kind) ∧ w'.cell? ⟨q.block, q.off + 1, none⟩ = some (.int .i64 e.n) ∧ w'.cell? ⟨q.block, q.off + 2, none⟩ = some (.slice X e.data.length x) ∧ w'.cell? ⟨q.block, q.off + 3, none⟩ = some (.int .i64 e.pk.kind) ∧ w'.cell? ⟨q.block, q.off + 4, none⟩ = some (.int .i64 e.pk.path) ∧ w'.cell? ⟨q.block, q.off + 5, none⟩ = some (.int .i64 e.pk.number) ∧ w'.cell? ⟨q.block, q.off + 6, none⟩ = some (.int .i64 e.pk.of_) ∧ w'.cell? ⟨q.block, q.off + 7, none⟩ = some (.int .i64 e.pk.from_) ∧ w'.cell? ⟨q.block, q.off + 8, none⟩ = some (.slice Y e.pk.data.length y) ∧ w'.cell? ⟨q.block, q.off + 9, none⟩ = some (.bool e.pk.fin) ∧ w'.cell? ⟨q.block, q.off + 10, none⟩ = some (.int .i64 e.pk.seen) ∧ w'.cell? ⟨q.block, q.off + 11, none⟩ = some (.int .i64 e.pk.limit)
theorem held1 {P : Program} {ops : Array Oper} {Q : Exit → Act → World → Prop} {S A : World → Prop} {id : Nat} {a : Act} {w : World} (KE : Hid (∀ w', A w' → S w')) (h1 : A w.drew) (h : S w.drew → wpAnyH P .any ops Q S ops.size (Array.replicate ops.size false) a w.drew) (hm : P.follows .mixedOrders = true := by kernel_rfl) : (Code.region id ops true).wp P Q a w :=
 wp_region_held_drew hm (KE.out _ h1) h
theorem held2 {P : Program} {ops : Array Oper} {Q : Exit → Act → World → Prop} {S A B : World → Prop} {id : Nat} {a : Act} {w : World} (KE : Hid (∀ w', A w' → B w' → S w')) (h1 : A w.drew) (h2 : B w.drew) (h : S w.drew → wpAnyH P .any ops Q S ops.size (Array.replicate ops.size false) a w.drew) (hm : P.follows .mixedOrders = true := by kernel_rfl) : (Code.region id ops true).wp P Q a w :=
 wp_region_held_drew hm (KE.out _ h1 h2) h
theorem freeR_eq {a b : List Ev} {n0 n1 : Nat} {e : Ev} (he : a[n0]? = some e) : freeR (b.take n1) e = free a n0 (pks b n1) := by
 have h : (b.take n1).any (sentP e) = decide (e.pk ∈ pks b n1) := by
  rw [Bool.eq_iff_iff, List.any_eq_true, decide_eq_true_iff, pks_mem]
  unfold sentP
  simp only [Bool.and_eq_true, beq_iff_eq, decide_eq_true_eq]
 unfold freeR free
 rw [he, h]
 by_cases h4 : e.kind = 4 <;> simp [h4]
theorem free_over {a : List Ev} {n : Nat} (ps : List Pk) (h : ¬ n < a.length) : free a n ps = false := by
 unfold free
 rw [List.getElem?_eq_none (by omega)]
theorem rowsG_front {α β : Type} {f : α → β → List Value} {k : Nat} (hf : ∀ a b, (f a b).length = k) (l : List α) (vs : List β) (h : vs.length = l.length) (m : Nat) (hm : m ≤ l.length) : rowsG f (l.take m) (vs.take m) = (rowsG f l vs).take (m * k) := by
 have e1 := rowsG_append (f := f) (l.take m) (l.drop m) (vs.take m) (vs.drop m) (by rw [List.length_take, List.length_take, h])
 rw [List.take_append_drop, List.take_append_drop] at e1
 have e2 := rowsG_length hf (l.take m) (vs.take m) (by rw [List.length_take, List.length_take, h])
 rw [List.length_take, Nat.min_eq_left hm] at e2
 rw [e1, ← e2, List.take_left]
theorem rowsG_back {α β : Type} {f : α → β → List Value} {k : Nat} (hf : ∀ a b, (f a b).length = k) (l : List α) (vs : List β) (h : vs.length = l.length) (m : Nat) (hm : m ≤ l.length) : rowsG f (l.drop m) (vs.drop m) = (rowsG f l vs).drop (m * k) := by
 have e1 := rowsG_append (f := f) (l.take m) (l.drop m) (vs.take m) (vs.drop m) (by rw [List.length_take, List.length_take, h])
 rw [List.take_append_drop, List.take_append_drop] at e1
 have e2 := rowsG_length hf (l.take m) (vs.take m) (by rw [List.length_take, List.length_take, h])
 rw [List.length_take, Nat.min_eq_left hm] at e2
 rw [e1, ← e2, List.drop_left]
theorem Sl.front {w : World} {s n c m : Nat} {A : Option Addr} {xs : List Value} (h : Sl w s (.slice A n c) n xs) (hm : m ≤ n) : Sl w s (.slice A m c) m (xs.take (m * s)) := by
 obtain ⟨A', c', e, h1, h2, hl, h3, hr⟩ := h
 injection e with e1 e2 e3
 subst e1 e3
 have hms : m * s ≤ n * s := Nat.mul_le_mul_right _ hm
 refine ⟨_, _, rfl, by omega, h2, by rw [List.length_take]; omega, fun x hx => h3 x (List.mem_of_mem_take hx), fun h0 => ?_⟩
 rw [List.length_take] at h0
 obtain ⟨ad, rfl, hc⟩ := hr (by omega)
 refine ⟨_, rfl, fun j v hj => hc j v ?_⟩
 have hlt := (List.getElem?_eq_some_iff.1 hj).1
 rw [List.length_take] at hlt
 rw [List.getElem?_take, if_pos (by omega)] at hj
 exact hj
theorem ERow.front {S : Nat → Prop} {w : World} {A : Option Addr} {c n : Nat} {es : List Ev} (h : ERow S w (.slice A n c) es) {m : Nat} (hm : m ≤ es.length) : ERow S w (.slice A m c) (es.take m) := by
 obtain ⟨vs, h1, h2, h3⟩ := h
 refine ⟨vs.take m, by rw [List.length_take, List.length_take, h1], ?_, fun i a b ha hb => h3 i a b ?_ ?_⟩
 ·obtain ⟨A', c', e, q⟩ := id h2
  injection e with e1 e2 e3
  subst e2
  have := Sl.front h2 hm
  rw [rowsG_front ecells_len es vs h1 m hm, List.length_take, Nat.min_eq_left hm]
  exact this
 ·have := (List.getElem?_eq_some_iff.1 ha).1
  rw [List.length_take] at this
  rw [List.getElem?_take, if_pos (by omega)] at ha
  exact ha
 ·have := (List.getElem?_eq_some_iff.1 hb).1
  rw [List.length_take] at this
  rw [List.getElem?_take, if_pos (by omega)] at hb
  exact hb
/-- What stands at the head of the reference's loop. -/
structure RJ (B : Nat) (S : Nat → Prop) (w : World) (gr gn : Nat) (va vb vo : Value) (n0 n1 : Nat) (out : List (Int × Ev)) : Prop where
 r : Blk w gr #[va, vb] 31
 n : Blk w gn #[.int .i64 n0, .int .i64 n1] 50
 d : gr ≠ gn
 g : B ≤ gr ∧ B ≤ gn
 s : ∀ j, S j → j < B
 o : ∀ j, vo.ownBlock = some j → j ≠ gr ∧ j ≠ gn
 ex : ∃ vs, w.ownsRow B 97 13 vo out.length (rowsG ncells out vs) ∧ vs.length = out.length ∧ ∀ (i : Nat) (a : Int × Ev) (b : Value × Value), out[i]? = some a → vs[i]? = some b → EV w S a.2 b
section
variable {B : Nat} {S : Nat → Prop} {w w' : World} {gr gn : Nat} {va vb vo : Value} {n0 n1 : Nat} {out : List (Int × Ev)}
theorem RJ.below (h : RJ B S w gr gn va vb vo n0 n1 out) (k : Below w.heap.size w w') : RJ B S w' gr gn va vb vo n0 n1 out := by
 obtain ⟨vs, h1, h2, h3⟩ := h.ex
 exact ⟨h.r.below k, h.n.below k, h.d, h.g, h.s, h.o, vs, own_frm h1 (Frm.of_below (S := fun _ => False) k) (fun _ _ h => h), h2, fun i a b ha hb => evb' (h3 i a b ha hb) k⟩
theorem RJ.form (h : RJ B S w gr gn va vb vo n0 n1 out) : ∃ A c, vo = .slice A out.length c := by
 obtain ⟨vs, h1, _⟩ := h.ex
 exact own_slice' h1
theorem RJ.nrow (h : RJ B S w gr gn va vb vo n0 n1 out) : NRow S w vo out := by
 obtain ⟨vs, h1, h2, h3⟩ := h.ex
 exact ⟨vs, h2, Sl.of_own h1 (rowsG_all _ _ _ (fun i x v hx hv => EV.one' (h3 i x v hx hv))), h3⟩
/-- A store into the counters. -/
theorem RJ.next (h : RJ B S w gr gn va vb vo n0 n1 out) (i : Nat) (u : Value) (m0 m1 : Nat) (hc : (#[Value.int .i64 (n0 : Int), Value.int .i64 (n1 : Int)] : Array Value).setIfInBounds i u = #[Value.int .i64 (m0 : Int), Value.int .i64 (m1 : Int)]) :
  RJ B S (w.setCell ⟨gn, i, none⟩ u) gr gn va vb vo m0 m1 out := by
 obtain ⟨vs, h1, h2, h3⟩ := h.ex
 have f := (Frm.refl (· = gn) w).setg (i := i) u
 refine ⟨h.r.far (p := ⟨gn, i, none⟩) h.d u, ?_, h.d, h.g, h.s, h.o, vs, own_frm h1 f (fun j hj e => (h.o j hj).2 e), h2, fun i a b ha hb => (h3 i a b ha hb).frm f (fun j hj e => by have := h.s j hj; have := h.g.2; omega)⟩
 have := h.n.set i u
 rw [hc] at this
 exact this
/-- One entry more. -/
theorem RJ.put (h : RJ B S w gr gn va vb vo n0 n1 out) (hB : B ≤ w.heap.size) : ∃ vs, w.ownsRow B 97 13 vo out.length (rowsG ncells out vs) ∧
  ∀ (W2 : World) (y : Int × Ev) (x : Value × Value) (vo' : Value) (o : Obj), EV w S y.2 x → Frm (fun j => vo.ownBlock = some j) (w.alloc o) W2 →
   W2.ownsRow B 97 13 vo' (out.length + 1) (rowsG ncells out vs ++ ncells y x) → (vo'.ownBlock = vo.ownBlock ∨ vo'.ownBlock = some (w.alloc o).heap.size) →
   RJ B S W2 gr gn va vb vo' n0 n1 (out ++ [y]) := by
 obtain ⟨vs, h1, h2, h3⟩ := h.ex
 refine ⟨vs, h1, fun W2 y x vo' o hx hfr hown hat => ?_⟩
 have F : Frm (fun j => vo.ownBlock = some j) w W2 := ((Frm.refl _ w).alloc o).trans hfr
 have hlt := h1.lt
 have hd : ∀ j, S j → ¬ vo.ownBlock = some j := fun j hj e => by have := h.s j hj; have := (hlt j e).1; omega
 have l1 := h.r.lt
 have l2 := h.n.lt
 refine ⟨h.r.frm F (fun e => (h.o _ e).1 rfl), h.n.frm F (fun e => (h.o _ e).2 rfl), h.d, h.g, h.s, ?_, vs ++ [x], ?_, by simp [h2], fun i a b ha hb => ?_⟩
 ·intro j hj
  rcases hat with e | e
  ·exact h.o j (e ▸ hj)
  ·rw [e] at hj
   injection hj with hj
   simp at hj
   omega
 ·rw [rowsG_snoc out y vs x h2, List.length_append]
  exact hown
 ·by_cases hi : i < out.length
  ·rw [List.getElem?_append_left hi] at ha
   rw [List.getElem?_append_left (by omega)] at hb
   exact (h3 i a b ha hb).frm F hd
  ·have hi2 : i < (out ++ [y]).length := (List.getElem?_eq_some_iff.1 ha).1
   simp only [List.length_append, List.length_cons, List.length_nil] at hi2
   obtain rfl : i = out.length := by omega
   rw [List.getElem?_append_right (Nat.le_refl _), Nat.sub_self] at ha
   rw [List.getElem?_append_right (by omega), h2, Nat.sub_self] at hb
   simp only [List.getElem?_cons_zero, Option.some.injEq] at ha hb
   subst ha
   subst hb
   exact hx.frm F hd
end
/-- The head of the reference's loop. -/
def RJR (w : World) (S : Nat → Prop) (gr gn : Nat) (va vb : Value) (a b : List Ev) (vo : Value) (wr : World) : Prop :=
 ∃ n0 n1 out, RJ w.heap.size S wr gr gn va vb vo n0 n1 out ∧ n0 ≤ a.length ∧ n1 ≤ b.length ∧ Below w.heap.size w wr ∧ out.length = n0 + n1 ∧ join a b (a.length + b.length + 1 - (n0 + n1)) n0 n1 out = J a b
theorem rjoin_start {S : Nat → Prop} {w W0 : World} {va vb : Value} {a b : List Ev} (hS : ∀ j, S j → j < w.heap.size) (hW : W0 = (w.alloc (.cells #[va, vb] 31)).alloc (.cells #[.int .i64 0, .int .i64 0] 50)) :
  RJR w S w.heap.size (w.heap.size + 1) va vb a b (.slice none 0 0) W0 := by
 subst hW
 have e1 : (w.alloc (.cells #[va, vb] 31)).heap.size = w.heap.size + 1 := by simp
 have bn := Blk.new (w.alloc (.cells #[va, vb] 31)) #[.int .i64 0, .int .i64 0] 50
 rw [e1] at bn
 exact ⟨0, 0, [], ⟨(Blk.new w #[va, vb] 31).alloc _, bn, by omega, ⟨by omega, by omega⟩, hS, fun j h => (by cases h), [], World.ownsRow_nil _ _ _ _, rfl, fun i a b h => by simp at h⟩, Nat.zero_le _, Nat.zero_le _, (ba).alloc (by simp) _, rfl, rfl⟩
theorem free_at (w : World) (S S' : Nat → Prop) (v : Value) (es : List Ev) (p : Ev) (x y : Value) (q : Bool) (hq : freeR es p = q) (h : ERow S w v es) (hp : EV w S' p (x, y)) (hl : es.length ≤ 1000000) : Calls Tryz.prog 29 #[v, eagg p x y] w fun e w' => e = .returned (.bool q) ∧ Below w.heap.size w w' := hq ▸ free_any w S S' v es p x y h hp hl
set_option maxHeartbeats 16000000 in
set_option maxRecDepth 100000 in
theorem rjoin_any (w : World) (S : Nat → Prop) (va vb : Value) (a b : List Ev) (ha : ERow S w va a) (hb : ERow S w vb b) (la : a.length ≤ 500000) (lb : b.length ≤ 500000) :
  Calls Tryz.prog 12 #[va, vb] w fun r w' => JoinR w a b r w' := by
 obtain ⟨Aa, ca, rfl, hca, hca2⟩ := ha.len
 obtain ⟨Ab, cb, rfl, hcb, hcb2⟩ := hb.len
 unfold maxLen at hca2 hcb2
 have HA := hid ha.near
 have HB := hid hb.near
 clear ha hb
 go_enter Tryz.func12, Tryz.ntmps12
 go_wp2_with fail
 have HJ := hid (rjoin_start (S := fun j => S j ∧ j < w.heap.size) (a := a) (b := b) (va := .slice Aa a.length ca) (vb := .slice Ab b.length cb) (fun j hj => hj.2) rfl)
 obtain ⟨gr, hgr⟩ := lx (w.heap.size)
 obtain ⟨gn, hgn⟩ := lx (w.heap.size + 1)
 obtain ⟨w1, hw1⟩ := lx ((w.alloc (.cells #[.slice Aa a.length ca, .slice Ab b.length cb] 31)).alloc (.cells #[.int .i64 0, .int .i64 0] 50))
 rw [← hw1, ← hgn] at HJ
 rw [← hw1, ← hgn]
 have HJ2 : Hid (RJR w (fun j => S j ∧ j < w.heap.size) gr gn (.slice Aa a.length ca) (.slice Ab b.length cb) a b (.slice none 0 0) w1) := by rw [hgr]; exact HJ
 rw [← hgr]
 clear HJ hw1 hgn hgr
 go_loopw [10, 11] (fun v _ wr => RJR w (fun j => S j ∧ j < w.heap.size) gr gn (.slice Aa a.length ca) (.slice Ab b.length cb) a b v wr) (fun v _ _ => a.length + b.length - vlen v)
 case atStart => exact HJ2.out
 case round =>
  obtain ⟨n0, n1, out, hjs, hn0, hn1, hbel, hlen, hjoin⟩ := hrel
  obtain ⟨Ao, co, rfl⟩ := hjs.form
  have JSH := hid hjs
  have BR := hid hbel
  have sr : w.heap.size ≤ wr.heap.size := hbel.size
  have JN := hid hjoin
  have LN := hid hlen
  have m0 := hjs.n.cell 0
  have m1 := hjs.n.cell 1
  have z0 : (0 : Int) ≤ (n0 : Int) := by omega
  have z1 : (0 : Int) ≤ (n1 : Int) := by omega
  have c0 : (n0 : Int) ≤ (ca : Int) := by omega
  have c1 : (n1 : Int) ≤ (cb : Int) := by omega
  simp only [gA, gZ, gC] at m0 m1
  clear hjs hbel hlen hjoin
  by_cases h0 : n0 < a.length
  ·have j0 : (n0 : Int) < (a.length : Int) := by omega
   have d0 : decide (a.length ≤ n0) = false := decide_eq_false (by omega)
   obtain ⟨q0, hq0⟩ : ∃ q, free a n0 (pks b n1) = q := ⟨_, rfl⟩
   have Q0 := hid hq0
   clear hq0
   obtain ⟨ad0, e0, vx, vy, ead, he, hx, hce⟩ := ERow.ev HA.out (by omega : n0 < a.length)
   subst ead
   obtain ⟨X0, x0, rfl, _⟩ := hx.1.len
   obtain ⟨Y0, y0, rfl, _⟩ := hx.2.len
   have HE0 := hid he
   have EX0 := hid hx
   have CE0 := hid hce
   have yl0 : (n0 : Int) < (a.length : Int) := by omega
   clear he hx hce
   cases q0
   ·by_cases h1 : n1 < b.length
    ·have j1 : (n1 : Int) < (b.length : Int) := by omega
     have d1 : decide (b.length ≤ n1) = false := decide_eq_false (by omega)
     have KE : Hid (∀ w', Below w.heap.size w w' → Blk w' gn #[.int .i64 (n0 : Int), .int .i64 (n1 : Int)] 50 → (w'.cell? ⟨gn, 0, none⟩ = some (.int .i64 (n0 : Int)) ∧ w'.cell? ⟨gn, 1, none⟩ = some (.int .i64 (n1 : Int)) ∧ EK w' (ad0.add (n0 * 12)) e0 X0 x0 Y0 y0)) := hid (fun W hW bn => ⟨bn.cell 0, bn.cell 1, CE0.out.below' hW⟩)
     go_wp2_with fail
     clear m0 m1
     refine held2 KE BR.out.drew JSH.out.n.drew (fun hHeld => ?_)
     obtain ⟨wd, hwd⟩ := lx (wr.drew)
     have GD : Hid (Below wr.heap.size wr wd) := hid (by rw [hwd]; exact bD)
     rw [← hwd] at hHeld ⊢
     clear hwd
     have GB := hid (bO BR.out GD.out)
     refine tk 0 (oi := ⟨some 27, _, _, _, _, _⟩) rfl ?_
     refine tk 1 (oi := ⟨some 28, _, _, _, _, _⟩) rfl ?_
     refine tk 2 (oi := ⟨some 29, _, _, _, _, _⟩) rfl ?_
     refine tk 3 (oi := ⟨some 30, _, _, _, _, _⟩) rfl ?_
     refine tk 4 (oi := ⟨some 31, _, _, _, _, _⟩) rfl ?_
     refine tk 5 (oi := ⟨some 32, _, _, _, _, _⟩) rfl ?_
     refine tk 6 (oi := ⟨some 33, _, _, _, _, _⟩) rfl ?_
     refine tk 7 (oi := ⟨some 34, _, _, _, _, _⟩) rfl ?_
     refine tk 8 (oi := ⟨some 35, _, _, _, _, _⟩) rfl ?_
     refine tk 9 (oi := ⟨some 36, _, _, _, _, _⟩) rfl ?_
     refine tk 10 (oi := ⟨some 37, _, _, _, _, _⟩) rfl ?_
     refine tk 11 (oi := ⟨some 38, _, _, _, _, _⟩) rfl ?_
     refine tk 12 (oi := ⟨some 39, _, _, _, _, _⟩) rfl ?_
     refine tk 13 (oi := ⟨some 40, _, _, _, _, _⟩) rfl ?_
     refine tk 14 (oi := ⟨some 41, _, _, _, _, _⟩) rfl ?_
     refine rD 15 (o := ⟨some 42, _, _, _, _, _⟩) rfl (fun K hK => ?_)
     go_simp
     refine (free_at wd _ _ _ (b.take n1) e0 _ _ false (by rw [freeR_eq HE0.out]; exact Q0.out) ((HB.out.below GB.out).front (by omega)) (evb' EX0.out GB.out) (by rw [List.length_take]; omega)).mono ?_
     rintro r wc6 ⟨rfl, hb5⟩
     have K6 := hid (bO GD.out hb5)
     have J6 := hid (JSH.out.below K6.out)
     have B6 := hid (bO BR.out K6.out)
     refine Ko hK (KE.out _ B6.out J6.out.n) (fun hHeld => ?_)
     clear hK K hb5
     refine tk 16 (oi := ⟨some 43, _, _, _, _, _⟩) rfl ?_
     refine tk 17 (oi := ⟨some 44, _, _, _, _, _⟩) rfl ?_
     refine dn ?_
     clear hHeld KE GD GB
     have m0 := J6.out.n.cell 0
     have m1 := J6.out.n.cell 1
     simp only [gA, gZ, gC] at m0 m1
     obtain ⟨q1, hq1⟩ : ∃ q, free b n1 (pks a n0) = q := ⟨_, rfl⟩
     have Q1 := hid hq1
     clear hq1
     obtain ⟨ad1, e1, vx, vy, ead, he, hx, hce⟩ := ERow.ev HB.out (by omega : n1 < b.length)
     subst ead
     obtain ⟨X1, x1, rfl, _⟩ := hx.1.len
     obtain ⟨Y1, y1, rfl, _⟩ := hx.2.len
     have HE1 := hid he
     have EX1 := hid hx
     have CE1 := hid hce
     have yl1 : (n1 : Int) < (b.length : Int) := by omega
     clear he hx hce
     cases q1
     ·have hf0 := 0
      clear hf0
      have KE : Hid (∀ w', Below w.heap.size w w' → Blk w' gn #[.int .i64 (n0 : Int), .int .i64 (n1 : Int)] 50 → (w'.cell? ⟨gn, 0, none⟩ = some (.int .i64 (n0 : Int)) ∧ w'.cell? ⟨gn, 1, none⟩ = some (.int .i64 (n1 : Int)) ∧ EK w' (ad1.add (n1 * 12)) e1 X1 x1 Y1 y1)) := hid (fun W hW bn => ⟨bn.cell 0, bn.cell 1, CE1.out.below' hW⟩)
      go_wp2_with fail
      clear m0 m1
      refine held2 KE B6.out.drew J6.out.n.drew (fun hHeld => ?_)
      obtain ⟨wd, hwd⟩ := lx (wc6.drew)
      have GD : Hid (Below wc6.heap.size wc6 wd) := hid (by rw [hwd]; exact bD)
      rw [← hwd] at hHeld ⊢
      clear hwd
      have GB := hid (bO B6.out GD.out)
      refine tk 0 (oi := ⟨some 45, _, _, _, _, _⟩) rfl ?_
      refine tk 1 (oi := ⟨some 46, _, _, _, _, _⟩) rfl ?_
      refine tk 2 (oi := ⟨some 47, _, _, _, _, _⟩) rfl ?_
      refine tk 3 (oi := ⟨some 48, _, _, _, _, _⟩) rfl ?_
      refine tk 4 (oi := ⟨some 49, _, _, _, _, _⟩) rfl ?_
      refine tk 5 (oi := ⟨some 50, _, _, _, _, _⟩) rfl ?_
      refine tk 6 (oi := ⟨some 51, _, _, _, _, _⟩) rfl ?_
      refine tk 7 (oi := ⟨some 52, _, _, _, _, _⟩) rfl ?_
      refine tk 8 (oi := ⟨some 53, _, _, _, _, _⟩) rfl ?_
      refine tk 9 (oi := ⟨some 54, _, _, _, _, _⟩) rfl ?_
      refine tk 10 (oi := ⟨some 55, _, _, _, _, _⟩) rfl ?_
      refine tk 11 (oi := ⟨some 56, _, _, _, _, _⟩) rfl ?_
      refine tk 12 (oi := ⟨some 57, _, _, _, _, _⟩) rfl ?_
      refine tk 13 (oi := ⟨some 58, _, _, _, _, _⟩) rfl ?_
      refine tk 14 (oi := ⟨some 59, _, _, _, _, _⟩) rfl ?_
      refine tk 15 (oi := ⟨some 60, _, _, _, _, _⟩) rfl ?_
      refine tk 16 (oi := ⟨some 61, _, _, _, _, _⟩) rfl ?_
      refine tk 17 (oi := ⟨some 62, _, _, _, _, _⟩) rfl ?_
      refine rD 18 (o := ⟨some 63, _, _, _, _, _⟩) rfl (fun K hK => ?_)
      go_simp
      refine (free_at wd _ _ _ (a.take n0) e1 _ _ false (by rw [freeR_eq HE1.out]; exact Q1.out) ((HA.out.below GB.out).front (by omega)) (evb' EX1.out GB.out) (by rw [List.length_take]; omega)).mono ?_
      rintro r wc8 ⟨rfl, hb5⟩
      have K8 := hid (bO GD.out hb5)
      have J8 := hid (J6.out.below K8.out)
      have B8 := hid (bO B6.out K8.out)
      refine Ko hK (KE.out _ B8.out J8.out.n) (fun hHeld => ?_)
      clear hK K hb5
      refine tk 19 (oi := ⟨some 64, _, _, _, _, _⟩) rfl ?_
      refine tk 20 (oi := ⟨some 65, _, _, _, _, _⟩) rfl ?_
      refine tk 21 (oi := ⟨some 66, _, _, _, _, _⟩) rfl ?_
      refine dn ?_
      clear hHeld KE GD GB
      have m0 := J8.out.n.cell 0
      have m1 := J8.out.n.cell 1
      simp only [gA, gZ, gC] at m0 m1
      go_wp2_with fail
      go_quiet (fail)
      go_wp2_with fail
      (try simp only [Exit.inBlock, Exit.then])
      refine bodyPost_ret (results_four rfl _ _ _) rfl ?_
      have hj : J a b = ([], (n0 : Int), 0, false) := by rw [← JN.out]; exact join_stop0 (by omega : _ = (a.length + b.length - (n0 + n1)) + 1) Q0.out Q1.out h0
      unfold JoinR
      rw [hj]
      exact ⟨_, fun _ => False, rfl, nrow_nil _ _, B8.out.drewN'' _⟩
     ·have hf0 := 0
      clear hf0
      have KE : Hid (∀ w', Below w.heap.size w w' → Blk w' gn #[.int .i64 (n0 : Int), .int .i64 (n1 : Int)] 50 → (w'.cell? ⟨gn, 0, none⟩ = some (.int .i64 (n0 : Int)) ∧ w'.cell? ⟨gn, 1, none⟩ = some (.int .i64 (n1 : Int)) ∧ EK w' (ad1.add (n1 * 12)) e1 X1 x1 Y1 y1)) := hid (fun W hW bn => ⟨bn.cell 0, bn.cell 1, CE1.out.below' hW⟩)
      go_wp2_with fail
      clear m0 m1
      refine held2 KE B6.out.drew J6.out.n.drew (fun hHeld => ?_)
      obtain ⟨wd, hwd⟩ := lx (wc6.drew)
      have GD : Hid (Below wc6.heap.size wc6 wd) := hid (by rw [hwd]; exact bD)
      rw [← hwd] at hHeld ⊢
      clear hwd
      have GB := hid (bO B6.out GD.out)
      refine tk 0 (oi := ⟨some 45, _, _, _, _, _⟩) rfl ?_
      refine tk 1 (oi := ⟨some 46, _, _, _, _, _⟩) rfl ?_
      refine tk 2 (oi := ⟨some 47, _, _, _, _, _⟩) rfl ?_
      refine tk 3 (oi := ⟨some 48, _, _, _, _, _⟩) rfl ?_
      refine tk 4 (oi := ⟨some 49, _, _, _, _, _⟩) rfl ?_
      refine tk 5 (oi := ⟨some 50, _, _, _, _, _⟩) rfl ?_
      refine tk 6 (oi := ⟨some 51, _, _, _, _, _⟩) rfl ?_
      refine tk 7 (oi := ⟨some 52, _, _, _, _, _⟩) rfl ?_
      refine tk 8 (oi := ⟨some 53, _, _, _, _, _⟩) rfl ?_
      refine tk 9 (oi := ⟨some 54, _, _, _, _, _⟩) rfl ?_
      refine tk 10 (oi := ⟨some 55, _, _, _, _, _⟩) rfl ?_
      refine tk 11 (oi := ⟨some 56, _, _, _, _, _⟩) rfl ?_
      refine tk 12 (oi := ⟨some 57, _, _, _, _, _⟩) rfl ?_
      refine tk 13 (oi := ⟨some 58, _, _, _, _, _⟩) rfl ?_
      refine tk 14 (oi := ⟨some 59, _, _, _, _, _⟩) rfl ?_
      refine tk 15 (oi := ⟨some 60, _, _, _, _, _⟩) rfl ?_
      refine tk 16 (oi := ⟨some 61, _, _, _, _, _⟩) rfl ?_
      refine tk 17 (oi := ⟨some 62, _, _, _, _, _⟩) rfl ?_
      refine rD 18 (o := ⟨some 63, _, _, _, _, _⟩) rfl (fun K hK => ?_)
      go_simp
      refine (free_at wd _ _ _ (a.take n0) e1 _ _ true (by rw [freeR_eq HE1.out]; exact Q1.out) ((HA.out.below GB.out).front (by omega)) (evb' EX1.out GB.out) (by rw [List.length_take]; omega)).mono ?_
      rintro r wc8 ⟨rfl, hb5⟩
      have K8 := hid (bO GD.out hb5)
      have J8 := hid (J6.out.below K8.out)
      have B8 := hid (bO B6.out K8.out)
      refine Ko hK (KE.out _ B8.out J8.out.n) (fun hHeld => ?_)
      clear hK K hb5
      refine tk 19 (oi := ⟨some 64, _, _, _, _, _⟩) rfl ?_
      refine tk 20 (oi := ⟨some 65, _, _, _, _, _⟩) rfl ?_
      refine tk 21 (oi := ⟨some 66, _, _, _, _, _⟩) rfl ?_
      refine dn ?_
      clear hHeld KE GD GB
      have m0 := J8.out.n.cell 0
      have m1 := J8.out.n.cell 1
      simp only [gA, gZ, gC] at m0 m1
      have KE : Hid (∀ w', Below w.heap.size w w' → Blk w' gr #[.slice (some ad0) a.length ca, .slice (some ad1) b.length cb] 31 ∧ Blk w' gn #[.int .i64 (n0 : Int), .int .i64 (n1 : Int)] 50 → (w'.cell? ⟨gr, 1, none⟩ = some (.slice (some ad1) b.length cb) ∧ w'.cell? ⟨gn, 0, none⟩ = some (.int .i64 (n0 : Int)) ∧ w'.cell? ⟨gn, 1, none⟩ = some (.int .i64 (n1 : Int)) ∧ EK w' (ad1.add (n1 * 12)) e1 X1 x1 Y1 y1)) := hid (fun W hW h => ⟨h.1.cell 1, h.2.cell 0, h.2.cell 1, CE1.out.below' hW⟩)
      have HI := hid Tryz.info97
      have hol : out.length ≤ 1000000 := by have := LN.out; omega
      go_wp2_with fail
      clear m0 m1
      refine held2 KE B8.out.drew ⟨J8.out.r.drew, J8.out.n.drew⟩ (fun hHeld => ?_)
      obtain ⟨wd, hwd⟩ := lx (wc8.drew)
      have GD : Hid (Below wc8.heap.size wc8 wd) := hid (by rw [hwd]; exact bD)
      rw [← hwd] at hHeld ⊢
      clear hwd
      have GB := hid (bO B8.out GD.out)
      have swd : w.heap.size ≤ wd.heap.size := GB.out.size
      have JD := hid (J8.out.below GD.out)
      obtain ⟨vs, po, pput⟩ := JD.out.put swd
      have PUT := hid pput
      have PO := hid po
      clear pput po
      refine tk 0 (oi := ⟨some 76, _, _, _, _, _⟩) rfl ?_
      refine tk 1 (oi := ⟨some 77, _, _, _, _, _⟩) rfl ?_
      refine tk 2 (oi := ⟨some 78, _, _, _, _, _⟩) rfl ?_
      refine tk 3 (oi := ⟨some 79, _, _, _, _, _⟩) rfl ?_
      refine tk 4 (oi := ⟨some 80, _, _, _, _, _⟩) rfl ?_
      refine tk 5 (oi := ⟨some 81, _, _, _, _, _⟩) rfl ?_
      refine tk 6 (oi := ⟨some 82, _, _, _, _, _⟩) rfl ?_
      refine tk 7 (oi := ⟨some 83, _, _, _, _, _⟩) rfl ?_
      refine tk 8 (oi := ⟨some 84, _, _, _, _, _⟩) rfl ?_
      refine tk 9 (oi := ⟨some 85, _, _, _, _, _⟩) rfl ?_
      refine tk 10 (oi := ⟨some 86, _, _, _, _, _⟩) rfl ?_
      refine rD 11 (o := ⟨some 87, _, _, _, _, _⟩) rfl (fun K hK => ?_)
      go_simp
      refine Ko hK (KE.out _ (GB.out.alloc swd _) ⟨JD.out.r.alloc _, JD.out.n.alloc _⟩) (fun hHeld => ?_)
      clear hK K
      refine rD 12 (o := ⟨some 88, _, _, _, _, _⟩) rfl (fun K hK => ?_)
      refine step_app (v := .slice Ao out.length co) w.heap.size (by rfl) _ _ 42 97 _ 13 136 (by rfl) Tryz.underlying42 HI.out rfl (by omega) (by omega) (by rfl) (by rfl) (PO.out.alloc _) (Sl.boxk wd 97 13 (ncells (1, e1) (.slice X1 e1.data.length x1, .slice Y1 e1.pk.data.length y1)) _ (by simp) rfl (EV.one' (y := (1, e1)) (evb' EX1.out GB.out))) (by omega) (Nat.le_trans swd (by simp)) ?_
      intro v7 w7 hown hfr hat
      have hj7 := PUT.out w7 (1, e1) (.slice X1 e1.data.length x1, .slice Y1 e1.pk.data.length y1) v7 _ (evb' EX1.out GB.out) hfr hown hat
      have own7 := PO.out.lt
      have B7 := hid (Frm.below (GB.out.alloc swd _) hfr (Nat.le_trans swd (by simp)) (fun i e => (own7 i e).1))
      have J7 := hid hj7
      obtain ⟨A7, c7, rfl⟩ := own_slice' hown
      clear hown hfr hat hj7 own7
      refine Ko hK (KE.out _ B7.out ⟨J7.out.r, J7.out.n⟩) (fun hHeld => ?_)
      clear hK K
      refine tk 13 (oi := ⟨some 10, _, _, _, _, _⟩) rfl ?_
      refine dn ?_
      clear hHeld KE GD
      have mg := J7.out.n.cell 1
      have fg := J7.out.n.free 1
      simp only [gA, gZ, gC] at mg
      have iwn : IntKind.i64.wrap ((n1 : Int) + 1) = (n1 : Int) + 1 := iX
      have J8 := hid (J7.out.next 1 (.int .i64 ((n1 : Int) + 1)) n0 (n1 + 1) (by simp))
      have B8 := hid (Frm.below B7.out ((Frm.refl (· = gn) w7).setg (i := 1) (.int .i64 ((n1 : Int) + 1))) B7.out.size (fun i e => by have := J7.out.g.2; omega))
      have hlen7 : (out ++ [(((1 : Int), e1) : Int × Ev)]).length = n0 + (n1 + 1) := by rw [List.length_append, LN.out]; simp; omega
      have JN2 : Hid (join a b (a.length + b.length + 1 - (n0 + (n1 + 1))) n0 (n1 + 1) (out ++ [((1 : Int), e1)]) = J a b) := hid (by
       rw [← JN.out]
       exact (join_step1 (by omega) Q0.out Q1.out HE1.out (by omega)).symm)
      have L7 := hid hlen7
      have LNN := LN.out
      clear hlen7
      go_wp2_with fail
      go_roundw
      case rel => exact ⟨_, _, _, J8.out, by omega, by omega, B8.out, L7.out, JN2.out⟩
      case measure => simp only [vlen]; omega
    ·have j1 : ¬ (n1 : Int) < (b.length : Int) := by omega
     have j2 : decide (b.length ≤ n1) = true := decide_eq_true (by omega)
     have KE : Hid (∀ w', Below w.heap.size w w' → Blk w' gn #[.int .i64 (n0 : Int), .int .i64 (n1 : Int)] 50 → (w'.cell? ⟨gn, 0, none⟩ = some (.int .i64 (n0 : Int)) ∧ w'.cell? ⟨gn, 1, none⟩ = some (.int .i64 (n1 : Int)) ∧ EK w' (ad0.add (n0 * 12)) e0 X0 x0 Y0 y0)) := hid (fun W hW bn => ⟨bn.cell 0, bn.cell 1, CE0.out.below' hW⟩)
     go_wp2_with fail
     clear m0 m1
     refine held2 KE BR.out.drew JSH.out.n.drew (fun hHeld => ?_)
     obtain ⟨wd, hwd⟩ := lx (wr.drew)
     have GD : Hid (Below wr.heap.size wr wd) := hid (by rw [hwd]; exact bD)
     rw [← hwd] at hHeld ⊢
     clear hwd
     have GB := hid (bO BR.out GD.out)
     refine tk 0 (oi := ⟨some 27, _, _, _, _, _⟩) rfl ?_
     refine tk 1 (oi := ⟨some 28, _, _, _, _, _⟩) rfl ?_
     refine tk 2 (oi := ⟨some 29, _, _, _, _, _⟩) rfl ?_
     refine tk 3 (oi := ⟨some 30, _, _, _, _, _⟩) rfl ?_
     refine tk 4 (oi := ⟨some 31, _, _, _, _, _⟩) rfl ?_
     refine tk 5 (oi := ⟨some 32, _, _, _, _, _⟩) rfl ?_
     refine tk 6 (oi := ⟨some 33, _, _, _, _, _⟩) rfl ?_
     refine tk 7 (oi := ⟨some 34, _, _, _, _, _⟩) rfl ?_
     refine tk 8 (oi := ⟨some 35, _, _, _, _, _⟩) rfl ?_
     refine tk 9 (oi := ⟨some 36, _, _, _, _, _⟩) rfl ?_
     refine tk 10 (oi := ⟨some 37, _, _, _, _, _⟩) rfl ?_
     refine tk 11 (oi := ⟨some 38, _, _, _, _, _⟩) rfl ?_
     refine tk 12 (oi := ⟨some 39, _, _, _, _, _⟩) rfl ?_
     refine tk 13 (oi := ⟨some 40, _, _, _, _, _⟩) rfl ?_
     refine tk 14 (oi := ⟨some 41, _, _, _, _, _⟩) rfl ?_
     refine rD 15 (o := ⟨some 42, _, _, _, _, _⟩) rfl (fun K hK => ?_)
     go_simp
     refine (free_at wd _ _ _ (b.take n1) e0 _ _ false (by rw [freeR_eq HE0.out]; exact Q0.out) ((HB.out.below GB.out).front (by omega)) (evb' EX0.out GB.out) (by rw [List.length_take]; omega)).mono ?_
     rintro r wc6 ⟨rfl, hb5⟩
     have K6 := hid (bO GD.out hb5)
     have J6 := hid (JSH.out.below K6.out)
     have B6 := hid (bO BR.out K6.out)
     refine Ko hK (KE.out _ B6.out J6.out.n) (fun hHeld => ?_)
     clear hK K hb5
     refine tk 16 (oi := ⟨some 43, _, _, _, _, _⟩) rfl ?_
     refine tk 17 (oi := ⟨some 44, _, _, _, _, _⟩) rfl ?_
     refine dn ?_
     clear hHeld KE GD GB
     have m0 := J6.out.n.cell 0
     have m1 := J6.out.n.cell 1
     simp only [gA, gZ, gC] at m0 m1
     go_wp2_with fail
     go_quiet (fail)
     obtain ⟨wq, hwq⟩ := lx (wc6.drewN nq)
     have JQ := hid (J6.out.below (drewN_below wc6 nq))
     have BQ := hid (B6.out.drewN'' nq)
     rw [← hwq] at JQ BQ ⊢
     clear hwq m0 m1
     have m0 := JQ.out.n.cell 0
     have m1 := JQ.out.n.cell 1
     simp only [gA, gZ, gC] at m0 m1
     go_wp2_with fail
     go_quiet (fail)
     go_wp2_with fail
     (try simp only [Exit.inBlock, Exit.then])
     refine bodyPost_ret (results_four rfl _ _ _) rfl ?_
     have hj : J a b = ([], (n0 : Int), 0, false) := by rw [← JN.out]; exact join_stop0 (by omega : _ = (a.length + b.length - (n0 + n1)) + 1) Q0.out (free_over _ h1) h0
     unfold JoinR
     rw [hj]
     exact ⟨_, fun _ => False, rfl, nrow_nil _ _, BQ.out.drewN'' _⟩
   ·have hf0 := 0
    clear hf0
    have KE : Hid (∀ w', Below w.heap.size w w' → Blk w' gn #[.int .i64 (n0 : Int), .int .i64 (n1 : Int)] 50 → (w'.cell? ⟨gn, 0, none⟩ = some (.int .i64 (n0 : Int)) ∧ w'.cell? ⟨gn, 1, none⟩ = some (.int .i64 (n1 : Int)) ∧ EK w' (ad0.add (n0 * 12)) e0 X0 x0 Y0 y0)) := hid (fun W hW bn => ⟨bn.cell 0, bn.cell 1, CE0.out.below' hW⟩)
    go_wp2_with fail
    clear m0 m1
    refine held2 KE BR.out.drew JSH.out.n.drew (fun hHeld => ?_)
    obtain ⟨wd, hwd⟩ := lx (wr.drew)
    have GD : Hid (Below wr.heap.size wr wd) := hid (by rw [hwd]; exact bD)
    rw [← hwd] at hHeld ⊢
    clear hwd
    have GB := hid (bO BR.out GD.out)
    refine tk 0 (oi := ⟨some 27, _, _, _, _, _⟩) rfl ?_
    refine tk 1 (oi := ⟨some 28, _, _, _, _, _⟩) rfl ?_
    refine tk 2 (oi := ⟨some 29, _, _, _, _, _⟩) rfl ?_
    refine tk 3 (oi := ⟨some 30, _, _, _, _, _⟩) rfl ?_
    refine tk 4 (oi := ⟨some 31, _, _, _, _, _⟩) rfl ?_
    refine tk 5 (oi := ⟨some 32, _, _, _, _, _⟩) rfl ?_
    refine tk 6 (oi := ⟨some 33, _, _, _, _, _⟩) rfl ?_
    refine tk 7 (oi := ⟨some 34, _, _, _, _, _⟩) rfl ?_
    refine tk 8 (oi := ⟨some 35, _, _, _, _, _⟩) rfl ?_
    refine tk 9 (oi := ⟨some 36, _, _, _, _, _⟩) rfl ?_
    refine tk 10 (oi := ⟨some 37, _, _, _, _, _⟩) rfl ?_
    refine tk 11 (oi := ⟨some 38, _, _, _, _, _⟩) rfl ?_
    refine tk 12 (oi := ⟨some 39, _, _, _, _, _⟩) rfl ?_
    refine tk 13 (oi := ⟨some 40, _, _, _, _, _⟩) rfl ?_
    refine tk 14 (oi := ⟨some 41, _, _, _, _, _⟩) rfl ?_
    refine rD 15 (o := ⟨some 42, _, _, _, _, _⟩) rfl (fun K hK => ?_)
    go_simp
    refine (free_at wd _ _ _ (b.take n1) e0 _ _ true (by rw [freeR_eq HE0.out]; exact Q0.out) ((HB.out.below GB.out).front (by omega)) (evb' EX0.out GB.out) (by rw [List.length_take]; omega)).mono ?_
    rintro r wc6 ⟨rfl, hb5⟩
    have K6 := hid (bO GD.out hb5)
    have J6 := hid (JSH.out.below K6.out)
    have B6 := hid (bO BR.out K6.out)
    refine Ko hK (KE.out _ B6.out J6.out.n) (fun hHeld => ?_)
    clear hK K hb5
    refine tk 16 (oi := ⟨some 43, _, _, _, _, _⟩) rfl ?_
    refine tk 17 (oi := ⟨some 44, _, _, _, _, _⟩) rfl ?_
    refine dn ?_
    clear hHeld KE GD GB
    have m0 := J6.out.n.cell 0
    have m1 := J6.out.n.cell 1
    simp only [gA, gZ, gC] at m0 m1
    go_wp2_with fail
    go_quiet (fail)
    obtain ⟨wq, hwq⟩ := lx (wc6.drewN nq)
    have JQ := hid (J6.out.below (drewN_below wc6 nq))
    have BQ := hid (B6.out.drewN'' nq)
    rw [← hwq] at JQ BQ ⊢
    clear hwq m0 m1
    have m0 := JQ.out.n.cell 0
    have m1 := JQ.out.n.cell 1
    simp only [gA, gZ, gC] at m0 m1
    have KE : Hid (∀ w', Below w.heap.size w w' → Blk w' gr #[.slice (some ad0) a.length ca, .slice Ab b.length cb] 31 ∧ Blk w' gn #[.int .i64 (n0 : Int), .int .i64 (n1 : Int)] 50 → (w'.cell? ⟨gr, 0, none⟩ = some (.slice (some ad0) a.length ca) ∧ w'.cell? ⟨gn, 0, none⟩ = some (.int .i64 (n0 : Int)) ∧ w'.cell? ⟨gn, 1, none⟩ = some (.int .i64 (n1 : Int)) ∧ EK w' (ad0.add (n0 * 12)) e0 X0 x0 Y0 y0)) := hid (fun W hW h => ⟨h.1.cell 0, h.2.cell 0, h.2.cell 1, CE0.out.below' hW⟩)
    have HI := hid Tryz.info97
    have hol : out.length ≤ 1000000 := by have := LN.out; omega
    go_wp2_with fail
    clear m0 m1
    refine held2 KE BQ.out.drew ⟨JQ.out.r.drew, JQ.out.n.drew⟩ (fun hHeld => ?_)
    obtain ⟨wd, hwd⟩ := lx (wq.drew)
    have GD : Hid (Below wq.heap.size wq wd) := hid (by rw [hwd]; exact bD)
    rw [← hwd] at hHeld ⊢
    clear hwd
    have GB := hid (bO BQ.out GD.out)
    have swd : w.heap.size ≤ wd.heap.size := GB.out.size
    have JD := hid (JQ.out.below GD.out)
    obtain ⟨vs, po, pput⟩ := JD.out.put swd
    have PUT := hid pput
    have PO := hid po
    clear pput po
    refine tk 0 (oi := ⟨some 76, _, _, _, _, _⟩) rfl ?_
    refine tk 1 (oi := ⟨some 77, _, _, _, _, _⟩) rfl ?_
    refine tk 2 (oi := ⟨some 78, _, _, _, _, _⟩) rfl ?_
    refine tk 3 (oi := ⟨some 79, _, _, _, _, _⟩) rfl ?_
    refine tk 4 (oi := ⟨some 80, _, _, _, _, _⟩) rfl ?_
    refine tk 5 (oi := ⟨some 81, _, _, _, _, _⟩) rfl ?_
    refine tk 6 (oi := ⟨some 82, _, _, _, _, _⟩) rfl ?_
    refine tk 7 (oi := ⟨some 83, _, _, _, _, _⟩) rfl ?_
    refine tk 8 (oi := ⟨some 84, _, _, _, _, _⟩) rfl ?_
    refine tk 9 (oi := ⟨some 85, _, _, _, _, _⟩) rfl ?_
    refine tk 10 (oi := ⟨some 86, _, _, _, _, _⟩) rfl ?_
    refine rD 11 (o := ⟨some 87, _, _, _, _, _⟩) rfl (fun K hK => ?_)
    go_simp
    refine Ko hK (KE.out _ (GB.out.alloc swd _) ⟨JD.out.r.alloc _, JD.out.n.alloc _⟩) (fun hHeld => ?_)
    clear hK K
    refine rD 12 (o := ⟨some 88, _, _, _, _, _⟩) rfl (fun K hK => ?_)
    refine step_app (v := .slice Ao out.length co) w.heap.size (by rfl) _ _ 42 97 _ 13 136 (by rfl) Tryz.underlying42 HI.out rfl (by omega) (by omega) (by rfl) (by rfl) (PO.out.alloc _) (Sl.boxk wd 97 13 (ncells (0, e0) (.slice X0 e0.data.length x0, .slice Y0 e0.pk.data.length y0)) _ (by simp) rfl (EV.one' (y := (0, e0)) (evb' EX0.out GB.out))) (by omega) (Nat.le_trans swd (by simp)) ?_
    intro v7 w7 hown hfr hat
    have hj7 := PUT.out w7 (0, e0) (.slice X0 e0.data.length x0, .slice Y0 e0.pk.data.length y0) v7 _ (evb' EX0.out GB.out) hfr hown hat
    have own7 := PO.out.lt
    have B7 := hid (Frm.below (GB.out.alloc swd _) hfr (Nat.le_trans swd (by simp)) (fun i e => (own7 i e).1))
    have J7 := hid hj7
    obtain ⟨A7, c7, rfl⟩ := own_slice' hown
    clear hown hfr hat hj7 own7
    refine Ko hK (KE.out _ B7.out ⟨J7.out.r, J7.out.n⟩) (fun hHeld => ?_)
    clear hK K
    refine tk 13 (oi := ⟨some 10, _, _, _, _, _⟩) rfl ?_
    refine dn ?_
    clear hHeld KE GD
    have mg := J7.out.n.cell 0
    have fg := J7.out.n.free 0
    simp only [gA, gZ, gC] at mg
    have iwn : IntKind.i64.wrap ((n0 : Int) + 1) = (n0 : Int) + 1 := iX
    have J8 := hid (J7.out.next 0 (.int .i64 ((n0 : Int) + 1)) (n0 + 1) n1 (by simp))
    have B8 := hid (Frm.below B7.out ((Frm.refl (· = gn) w7).setg (i := 0) (.int .i64 ((n0 : Int) + 1))) B7.out.size (fun i e => by have := J7.out.g.2; omega))
    have hlen7 : (out ++ [(((0 : Int), e0) : Int × Ev)]).length = n0 + 1 + n1 := by rw [List.length_append, LN.out]; simp; omega
    have JN2 : Hid (join a b (a.length + b.length + 1 - (n0 + 1 + n1)) (n0 + 1) n1 (out ++ [((0 : Int), e0)]) = J a b) := hid (by
     rw [← JN.out]
     exact (join_step0 (by omega) Q0.out HE0.out (by omega)).symm)
    have L7 := hid hlen7
    have LNN := LN.out
    clear hlen7
    go_wp2_with fail
    go_roundw
    case rel => exact ⟨_, _, _, J8.out, by omega, by omega, B8.out, L7.out, JN2.out⟩
    case measure => simp only [vlen]; omega
  ·have j0 : ¬ (n0 : Int) < (a.length : Int) := by omega
   by_cases h1 : n1 < b.length
   ·have j1 : (n1 : Int) < (b.length : Int) := by omega
    have d1 : decide (b.length ≤ n1) = false := decide_eq_false (by omega)
    go_wp2_with fail
    go_quiet (fail)
    obtain ⟨wq, hwq⟩ := lx (wr.drewN nq)
    have JQ := hid (JSH.out.below (drewN_below wr nq))
    have BQ := hid (BR.out.drewN'' nq)
    rw [← hwq] at JQ BQ ⊢
    clear hwq m0 m1
    have m0 := JQ.out.n.cell 0
    have m1 := JQ.out.n.cell 1
    simp only [gA, gZ, gC] at m0 m1
    obtain ⟨q1, hq1⟩ : ∃ q, free b n1 (pks a n0) = q := ⟨_, rfl⟩
    have Q1 := hid hq1
    clear hq1
    obtain ⟨ad1, e1, vx, vy, ead, he, hx, hce⟩ := ERow.ev HB.out (by omega : n1 < b.length)
    subst ead
    obtain ⟨X1, x1, rfl, _⟩ := hx.1.len
    obtain ⟨Y1, y1, rfl, _⟩ := hx.2.len
    have HE1 := hid he
    have EX1 := hid hx
    have CE1 := hid hce
    have yl1 : (n1 : Int) < (b.length : Int) := by omega
    clear he hx hce
    cases q1
    ·have hf0 := 0
     clear hf0
     have KE : Hid (∀ w', Below w.heap.size w w' → Blk w' gn #[.int .i64 (n0 : Int), .int .i64 (n1 : Int)] 50 → (w'.cell? ⟨gn, 0, none⟩ = some (.int .i64 (n0 : Int)) ∧ w'.cell? ⟨gn, 1, none⟩ = some (.int .i64 (n1 : Int)) ∧ EK w' (ad1.add (n1 * 12)) e1 X1 x1 Y1 y1)) := hid (fun W hW bn => ⟨bn.cell 0, bn.cell 1, CE1.out.below' hW⟩)
     go_wp2_with fail
     clear m0 m1
     refine held2 KE BQ.out.drew JQ.out.n.drew (fun hHeld => ?_)
     obtain ⟨wd, hwd⟩ := lx (wq.drew)
     have GD : Hid (Below wq.heap.size wq wd) := hid (by rw [hwd]; exact bD)
     rw [← hwd] at hHeld ⊢
     clear hwd
     have GB := hid (bO BQ.out GD.out)
     refine tk 0 (oi := ⟨some 45, _, _, _, _, _⟩) rfl ?_
     refine tk 1 (oi := ⟨some 46, _, _, _, _, _⟩) rfl ?_
     refine tk 2 (oi := ⟨some 47, _, _, _, _, _⟩) rfl ?_
     refine tk 3 (oi := ⟨some 48, _, _, _, _, _⟩) rfl ?_
     refine tk 4 (oi := ⟨some 49, _, _, _, _, _⟩) rfl ?_
     refine tk 5 (oi := ⟨some 50, _, _, _, _, _⟩) rfl ?_
     refine tk 6 (oi := ⟨some 51, _, _, _, _, _⟩) rfl ?_
     refine tk 7 (oi := ⟨some 52, _, _, _, _, _⟩) rfl ?_
     refine tk 8 (oi := ⟨some 53, _, _, _, _, _⟩) rfl ?_
     refine tk 9 (oi := ⟨some 54, _, _, _, _, _⟩) rfl ?_
     refine tk 10 (oi := ⟨some 55, _, _, _, _, _⟩) rfl ?_
     refine tk 11 (oi := ⟨some 56, _, _, _, _, _⟩) rfl ?_
     refine tk 12 (oi := ⟨some 57, _, _, _, _, _⟩) rfl ?_
     refine tk 13 (oi := ⟨some 58, _, _, _, _, _⟩) rfl ?_
     refine tk 14 (oi := ⟨some 59, _, _, _, _, _⟩) rfl ?_
     refine tk 15 (oi := ⟨some 60, _, _, _, _, _⟩) rfl ?_
     refine tk 16 (oi := ⟨some 61, _, _, _, _, _⟩) rfl ?_
     refine tk 17 (oi := ⟨some 62, _, _, _, _, _⟩) rfl ?_
     refine rD 18 (o := ⟨some 63, _, _, _, _, _⟩) rfl (fun K hK => ?_)
     go_simp
     refine (free_at wd _ _ _ (a.take n0) e1 _ _ false (by rw [freeR_eq HE1.out]; exact Q1.out) ((HA.out.below GB.out).front (by omega)) (evb' EX1.out GB.out) (by rw [List.length_take]; omega)).mono ?_
     rintro r wc8 ⟨rfl, hb5⟩
     have K8 := hid (bO GD.out hb5)
     have J8 := hid (JQ.out.below K8.out)
     have B8 := hid (bO BQ.out K8.out)
     refine Ko hK (KE.out _ B8.out J8.out.n) (fun hHeld => ?_)
     clear hK K hb5
     refine tk 19 (oi := ⟨some 64, _, _, _, _, _⟩) rfl ?_
     refine tk 20 (oi := ⟨some 65, _, _, _, _, _⟩) rfl ?_
     refine tk 21 (oi := ⟨some 66, _, _, _, _, _⟩) rfl ?_
     refine dn ?_
     clear hHeld KE GD GB
     have m0 := J8.out.n.cell 0
     have m1 := J8.out.n.cell 1
     simp only [gA, gZ, gC] at m0 m1
     go_wp2_with fail
     go_quiet (fail)
     go_wp2_with fail
     (try simp only [Exit.inBlock, Exit.then])
     refine bodyPost_ret (results_four rfl _ _ _) rfl ?_
     have hj : J a b = ([], (n1 : Int), 1, false) := by rw [← JN.out]; exact join_stop1 (by omega : _ = (a.length + b.length - (n0 + n1)) + 1) (free_over _ h0) Q1.out h0 h1
     unfold JoinR
     rw [hj]
     exact ⟨_, fun _ => False, rfl, nrow_nil _ _, B8.out.drewN'' _⟩
    ·have hf0 := 0
     clear hf0
     have KE : Hid (∀ w', Below w.heap.size w w' → Blk w' gn #[.int .i64 (n0 : Int), .int .i64 (n1 : Int)] 50 → (w'.cell? ⟨gn, 0, none⟩ = some (.int .i64 (n0 : Int)) ∧ w'.cell? ⟨gn, 1, none⟩ = some (.int .i64 (n1 : Int)) ∧ EK w' (ad1.add (n1 * 12)) e1 X1 x1 Y1 y1)) := hid (fun W hW bn => ⟨bn.cell 0, bn.cell 1, CE1.out.below' hW⟩)
     go_wp2_with fail
     clear m0 m1
     refine held2 KE BQ.out.drew JQ.out.n.drew (fun hHeld => ?_)
     obtain ⟨wd, hwd⟩ := lx (wq.drew)
     have GD : Hid (Below wq.heap.size wq wd) := hid (by rw [hwd]; exact bD)
     rw [← hwd] at hHeld ⊢
     clear hwd
     have GB := hid (bO BQ.out GD.out)
     refine tk 0 (oi := ⟨some 45, _, _, _, _, _⟩) rfl ?_
     refine tk 1 (oi := ⟨some 46, _, _, _, _, _⟩) rfl ?_
     refine tk 2 (oi := ⟨some 47, _, _, _, _, _⟩) rfl ?_
     refine tk 3 (oi := ⟨some 48, _, _, _, _, _⟩) rfl ?_
     refine tk 4 (oi := ⟨some 49, _, _, _, _, _⟩) rfl ?_
     refine tk 5 (oi := ⟨some 50, _, _, _, _, _⟩) rfl ?_
     refine tk 6 (oi := ⟨some 51, _, _, _, _, _⟩) rfl ?_
     refine tk 7 (oi := ⟨some 52, _, _, _, _, _⟩) rfl ?_
     refine tk 8 (oi := ⟨some 53, _, _, _, _, _⟩) rfl ?_
     refine tk 9 (oi := ⟨some 54, _, _, _, _, _⟩) rfl ?_
     refine tk 10 (oi := ⟨some 55, _, _, _, _, _⟩) rfl ?_
     refine tk 11 (oi := ⟨some 56, _, _, _, _, _⟩) rfl ?_
     refine tk 12 (oi := ⟨some 57, _, _, _, _, _⟩) rfl ?_
     refine tk 13 (oi := ⟨some 58, _, _, _, _, _⟩) rfl ?_
     refine tk 14 (oi := ⟨some 59, _, _, _, _, _⟩) rfl ?_
     refine tk 15 (oi := ⟨some 60, _, _, _, _, _⟩) rfl ?_
     refine tk 16 (oi := ⟨some 61, _, _, _, _, _⟩) rfl ?_
     refine tk 17 (oi := ⟨some 62, _, _, _, _, _⟩) rfl ?_
     refine rD 18 (o := ⟨some 63, _, _, _, _, _⟩) rfl (fun K hK => ?_)
     go_simp
     refine (free_at wd _ _ _ (a.take n0) e1 _ _ true (by rw [freeR_eq HE1.out]; exact Q1.out) ((HA.out.below GB.out).front (by omega)) (evb' EX1.out GB.out) (by rw [List.length_take]; omega)).mono ?_
     rintro r wc8 ⟨rfl, hb5⟩
     have K8 := hid (bO GD.out hb5)
     have J8 := hid (JQ.out.below K8.out)
     have B8 := hid (bO BQ.out K8.out)
     refine Ko hK (KE.out _ B8.out J8.out.n) (fun hHeld => ?_)
     clear hK K hb5
     refine tk 19 (oi := ⟨some 64, _, _, _, _, _⟩) rfl ?_
     refine tk 20 (oi := ⟨some 65, _, _, _, _, _⟩) rfl ?_
     refine tk 21 (oi := ⟨some 66, _, _, _, _, _⟩) rfl ?_
     refine dn ?_
     clear hHeld KE GD GB
     have m0 := J8.out.n.cell 0
     have m1 := J8.out.n.cell 1
     simp only [gA, gZ, gC] at m0 m1
     have KE : Hid (∀ w', Below w.heap.size w w' → Blk w' gr #[.slice Aa a.length ca, .slice (some ad1) b.length cb] 31 ∧ Blk w' gn #[.int .i64 (n0 : Int), .int .i64 (n1 : Int)] 50 → (w'.cell? ⟨gr, 1, none⟩ = some (.slice (some ad1) b.length cb) ∧ w'.cell? ⟨gn, 0, none⟩ = some (.int .i64 (n0 : Int)) ∧ w'.cell? ⟨gn, 1, none⟩ = some (.int .i64 (n1 : Int)) ∧ EK w' (ad1.add (n1 * 12)) e1 X1 x1 Y1 y1)) := hid (fun W hW h => ⟨h.1.cell 1, h.2.cell 0, h.2.cell 1, CE1.out.below' hW⟩)
     have HI := hid Tryz.info97
     have hol : out.length ≤ 1000000 := by have := LN.out; omega
     go_wp2_with fail
     clear m0 m1
     refine held2 KE B8.out.drew ⟨J8.out.r.drew, J8.out.n.drew⟩ (fun hHeld => ?_)
     obtain ⟨wd, hwd⟩ := lx (wc8.drew)
     have GD : Hid (Below wc8.heap.size wc8 wd) := hid (by rw [hwd]; exact bD)
     rw [← hwd] at hHeld ⊢
     clear hwd
     have GB := hid (bO B8.out GD.out)
     have swd : w.heap.size ≤ wd.heap.size := GB.out.size
     have JD := hid (J8.out.below GD.out)
     obtain ⟨vs, po, pput⟩ := JD.out.put swd
     have PUT := hid pput
     have PO := hid po
     clear pput po
     refine tk 0 (oi := ⟨some 76, _, _, _, _, _⟩) rfl ?_
     refine tk 1 (oi := ⟨some 77, _, _, _, _, _⟩) rfl ?_
     refine tk 2 (oi := ⟨some 78, _, _, _, _, _⟩) rfl ?_
     refine tk 3 (oi := ⟨some 79, _, _, _, _, _⟩) rfl ?_
     refine tk 4 (oi := ⟨some 80, _, _, _, _, _⟩) rfl ?_
     refine tk 5 (oi := ⟨some 81, _, _, _, _, _⟩) rfl ?_
     refine tk 6 (oi := ⟨some 82, _, _, _, _, _⟩) rfl ?_
     refine tk 7 (oi := ⟨some 83, _, _, _, _, _⟩) rfl ?_
     refine tk 8 (oi := ⟨some 84, _, _, _, _, _⟩) rfl ?_
     refine tk 9 (oi := ⟨some 85, _, _, _, _, _⟩) rfl ?_
     refine tk 10 (oi := ⟨some 86, _, _, _, _, _⟩) rfl ?_
     refine rD 11 (o := ⟨some 87, _, _, _, _, _⟩) rfl (fun K hK => ?_)
     go_simp
     refine Ko hK (KE.out _ (GB.out.alloc swd _) ⟨JD.out.r.alloc _, JD.out.n.alloc _⟩) (fun hHeld => ?_)
     clear hK K
     refine rD 12 (o := ⟨some 88, _, _, _, _, _⟩) rfl (fun K hK => ?_)
     refine step_app (v := .slice Ao out.length co) w.heap.size (by rfl) _ _ 42 97 _ 13 136 (by rfl) Tryz.underlying42 HI.out rfl (by omega) (by omega) (by rfl) (by rfl) (PO.out.alloc _) (Sl.boxk wd 97 13 (ncells (1, e1) (.slice X1 e1.data.length x1, .slice Y1 e1.pk.data.length y1)) _ (by simp) rfl (EV.one' (y := (1, e1)) (evb' EX1.out GB.out))) (by omega) (Nat.le_trans swd (by simp)) ?_
     intro v7 w7 hown hfr hat
     have hj7 := PUT.out w7 (1, e1) (.slice X1 e1.data.length x1, .slice Y1 e1.pk.data.length y1) v7 _ (evb' EX1.out GB.out) hfr hown hat
     have own7 := PO.out.lt
     have B7 := hid (Frm.below (GB.out.alloc swd _) hfr (Nat.le_trans swd (by simp)) (fun i e => (own7 i e).1))
     have J7 := hid hj7
     obtain ⟨A7, c7, rfl⟩ := own_slice' hown
     clear hown hfr hat hj7 own7
     refine Ko hK (KE.out _ B7.out ⟨J7.out.r, J7.out.n⟩) (fun hHeld => ?_)
     clear hK K
     refine tk 13 (oi := ⟨some 10, _, _, _, _, _⟩) rfl ?_
     refine dn ?_
     clear hHeld KE GD
     have mg := J7.out.n.cell 1
     have fg := J7.out.n.free 1
     simp only [gA, gZ, gC] at mg
     have iwn : IntKind.i64.wrap ((n1 : Int) + 1) = (n1 : Int) + 1 := iX
     have J8 := hid (J7.out.next 1 (.int .i64 ((n1 : Int) + 1)) n0 (n1 + 1) (by simp))
     have B8 := hid (Frm.below B7.out ((Frm.refl (· = gn) w7).setg (i := 1) (.int .i64 ((n1 : Int) + 1))) B7.out.size (fun i e => by have := J7.out.g.2; omega))
     have hlen7 : (out ++ [(((1 : Int), e1) : Int × Ev)]).length = n0 + (n1 + 1) := by rw [List.length_append, LN.out]; simp; omega
     have JN2 : Hid (join a b (a.length + b.length + 1 - (n0 + (n1 + 1))) n0 (n1 + 1) (out ++ [((1 : Int), e1)]) = J a b) := hid (by
      rw [← JN.out]
      exact (join_step1 (by omega) (free_over _ h0) Q1.out HE1.out (by omega)).symm)
     have L7 := hid hlen7
     have LNN := LN.out
     clear hlen7
     go_wp2_with fail
     go_roundw
     case rel => exact ⟨_, _, _, J8.out, by omega, by omega, B8.out, L7.out, JN2.out⟩
     case measure => simp only [vlen]; omega
   ·have j1 : ¬ (n1 : Int) < (b.length : Int) := by omega
    go_wp2_with fail
    (try simp only [Exit.inBlock, Exit.then])
    refine bodyPost_ret (results_four rfl _ _ _) rfl ?_
    have hj : J a b = (out, 0, 0, true) := by rw [← JN.out]; exact join_end (by omega : _ = (a.length + b.length - (n0 + n1)) + 1) h0 h1
    unfold JoinR
    rw [hj]
    exact ⟨_, _, rfl, JSH.out.nrow, BR.out⟩
end
end Go.Proofs.YtdneakejlbabeaaGreat
