/- Small laws on slices for the walks of this seat. -/
import Derived.Test.YtoplcndiejpipaaHK
import Derived.OwnWalk
import Derived.Laws.AppendOwn
import Derived.Laws.OwnMore
import Derived.Laws.MakeOwn
import Derived.Maps.AppendAt
namespace Go.Proofs.Ytoplcndiejpipaa
open Go.RowKit

/-- The slice v reads as n elements of `size` cells each, the cells xs. -/
def Sl (w : World) (size : Nat) (v : Value) (n : Nat) (xs : List Value) : Prop :=
  ∃ A c, v = .slice A n c ∧ n ≤ c ∧ c ≤ maxLen ∧ xs.length = n * size ∧ (∀ u ∈ xs, u.oneCell' = true) ∧ (0 < xs.length → ∃ ad, A = some ad ∧ ∀ j u, xs[j]? = some u → w.cell? (ad.add j) = some u)

theorem Frm.of_grown {w w' : World} {row : Option Nat} (h : w.grownBy w' row) : Frm (fun k => row = some k) w w' :=
  ⟨h.os, h.tape, h.output, h.size, fun k hk hn => h.block k hk (fun e => hn e.symm)⟩

theorem Sl.frm {S : Nat → Prop} {w w' : World} {size n : Nat} {v : Value} {xs : List Value} (h : Sl w size v n xs) (k : Frm S w w') (hn : ∀ g, v.ownBlock = some g → ¬ S g) : Sl w' size v n xs := by
  obtain ⟨A, c, rfl, h1, h2, h3, h4, h5⟩ := h
  refine ⟨A, c, rfl, h1, h2, h3, h4, fun h0 => ?_⟩
  obtain ⟨ad, rfl, hc⟩ := h5 h0
  refine ⟨ad, rfl, fun j u hj => ?_⟩
  have hc' := hc j u hj
  have hb : (ad.add j).block = ad.block := by unfold Addr.add; split <;> rfl
  have hlt : (ad.add j).block < w.heap.size := World.block_lt_of_cell? w _ hc'
  rw [← hc']
  exact World.cell?_of_block (k.block _ hlt (by rw [hb]; exact hn _ rfl))

theorem Sl.below {w w' : World} {size n : Nat} {v : Value} {xs : List Value} (h : Sl w size v n xs) (k : Below w.heap.size w w') : Sl w' size v n xs :=
  h.frm (Frm.of_below (S := fun _ => False) k) (fun _ _ h => h)
theorem Sl.alloc {w : World} {size n : Nat} {v : Value} {xs : List Value} (h : Sl w size v n xs) (o : Obj) : Sl (w.alloc o) size v n xs := h.below ((Below.refl _ _).alloc (Nat.le_refl _) _)
theorem Sl.drew {w : World} {size n : Nat} {v : Value} {xs : List Value} (h : Sl w size v n xs) : Sl w.drew size v n xs := h
theorem Sl.drewN {w : World} {size n : Nat} {v : Value} {xs : List Value} (h : Sl w size v n xs) (m : Nat) : Sl (w.drewN m) size v n xs := h

theorem Sl.of_own {w : World} {base : Nat} {e : TypeId} {size n : Nat} {v : Value} {xs : List Value} (h : w.ownsRow base e size v n xs) (h1 : ∀ u ∈ xs, u.oneCell' = true) : Sl w size v n xs := by
  have h0 := h
  obtain ⟨hl, h2⟩ := h
  rcases h2 with ⟨rfl, rfl⟩ | ⟨g, cap, cur, rfl, hb, hg, hc, hm, hs, ht⟩
  · exact ⟨none, 0, rfl, Nat.le_refl _, by simp [maxLen], hl, h1, fun hp => by simp at hl; simp [hl] at hp⟩
  · exact ⟨_, cap, rfl, hc, hm, hl, h1, fun _ => ⟨_, rfl, h0.cells rfl⟩⟩

theorem Sl.nil (w : World) (size : Nat) : Sl w size (.slice none 0 0) 0 [] := ⟨none, 0, rfl, Nat.le_refl _, by simp [maxLen], by simp, by simp, fun h => by simp at h⟩

theorem Sl.len {w : World} {size n : Nat} {v : Value} {xs : List Value} (h : Sl w size v n xs) : ∃ A c, v = .slice A n c ∧ n ≤ c ∧ c ≤ maxLen := by
  obtain ⟨A, c, h0, h1, h2, _⟩ := h
  exact ⟨A, c, h0, h1, h2⟩

/-- A new row reads as its cells. -/
theorem Sl.box (w : World) (e : TypeId) (cs : Array Value) (n : Nat) (hn : n = cs.size) (hm : n ≤ maxLen) (h1 : ∀ u ∈ cs.toList, u.oneCell' = true) (fr : Nat × Nat := (0, 0)) : Sl (w.alloc (.cells cs e fr)) 1 (.slice (some ⟨w.heap.size, 0, none⟩) n n) n cs.toList := by
  refine ⟨_, n, rfl, Nat.le_refl _, hm, by simp [hn], h1, fun _ => ⟨_, rfl, fun j u hj => ?_⟩⟩
  have ha : (⟨w.heap.size, 0, none⟩ : Addr).add j = ⟨w.heap.size, j, none⟩ := by unfold Addr.add; split <;> simp_all
  rw [ha, cell_of_row _ w.heap.size j cs e fr (by show (w.heap.push _)[w.heap.size]? = _; simp)]
  simpa using hj
theorem Sl.one (w : World) (e : TypeId) (u : Value) (h : u.oneCell' = true) : Sl (w.alloc (.cells #[u] e)) 1 (.slice (some ⟨w.heap.size, 0, none⟩) 1 1) 1 [u] :=
  Sl.box w e #[u] 1 rfl (by simp [maxLen]) (by simpa using h)

/-- An element of one cell. -/
theorem Sl.at_ {w : World} {n c : Nat} {A : Option Addr} {xs : List Value} (h : Sl w 1 (.slice A n c) n xs) {i : Nat} (hi : i < n) : ∃ ad, A = some ad ∧ w.cell? (ad.add i) = some (xs.getD i undef) := by
  obtain ⟨A', c', e, _, _, hl, _, hr⟩ := h
  injection e with e1 e2 e3
  subst e1
  obtain ⟨ad, rfl, hc⟩ := hr (by omega)
  refine ⟨ad, rfl, hc i _ ?_⟩
  rw [List.getD_eq_getElem?_getD, List.getElem?_eq_getElem (by omega)]
  rfl

theorem Sl.take {w : World} {n c : Nat} {A : Option Addr} {xs : List Value} (h : Sl w 1 (.slice A n c) n xs) {m : Nat} (hm : m ≤ n) : Sl w 1 (.slice A m c) m (xs.take m) := by
  obtain ⟨A', c', e, h1, h2, hl, h3, hr⟩ := h
  injection e with e1 e2 e3
  subst e1
  subst e3
  refine ⟨A, c, rfl, by omega, h2, by simp; omega, fun u hu => h3 u (List.mem_of_mem_take hu), fun h0 => ?_⟩
  obtain ⟨ad, rfl, hc⟩ := hr (by simp at h0; omega)
  exact ⟨ad, rfl, fun j u hj => hc j u (by
    rw [List.getElem?_take] at hj
    split at hj
    · exact hj
    · cases hj)⟩

section
variable {P : Program} {ops : Array Oper} {rest : List Oper} {o : Oper} {a : Act} {Q : Exit → Act → World → Prop}

/-- The run of append(v, y...). -/
theorem run_app {W : World} (base : Nat) (t e ty : TypeId) (z : Value) (size bytes : Nat)
    (ht : P.underlying t = some (.slice e)) (hinfo : (P.info? e).map (fun i => (i.zero, i.size, i.bytes)) = some (some z, size, bytes)) (hz : z.cells.size = size) (hsz : 0 < size) (hb0 : 0 < bytes)
    {v : Value} {n : Nat} {xs : List Value} {y : Value} {m : Nat} {ys : List Value}
    (HO : W.ownsRow base e size v n xs) (HR : Sl W size y m ys) (hl : (n + m) * bytes ≤ 140737488355328) (hbase : base ≤ W.heap.size) :
    ∃ v1 w1, (Builtin.append_ #[t, t] ty #[v, y]).run P W = .ok v1 w1 ∧ w1.ownsRow base e size v1 (n + m) (xs ++ ys) ∧ W.grownBy w1 v.ownBlock ∧ (v1.ownBlock = v.ownBlock ∨ v1.ownBlock = some W.heap.size) := by
  obtain ⟨i0, hi, hzz⟩ := Option.map_eq_some_iff.1 hinfo
  simp only [Prod.mk.injEq] at hzz
  obtain ⟨hz0, hz1, hz2⟩ := hzz
  have hlen : n + m ≤ 140737488355328 := Nat.le_trans (Nat.le_mul_of_pos_right _ hb0) hl
  obtain ⟨A, c, rfl, hc1, hc2, hl3, h1, hr⟩ := HR
  rcases A with _ | ad
  · have h0 : ¬ 0 < ys.length := fun h0 => by
      obtain ⟨ad, e, _⟩ := hr h0
      cases e
    obtain rfl : ys = [] := List.eq_nil_of_length_eq_zero (by omega)
    obtain rfl : m = 0 := by
      rcases Nat.eq_zero_or_pos m with h | h
      · exact h
      · have := Nat.mul_pos h hsz
        simp at hl3
        omega
    refine ⟨v, W, ?_, by simpa using HO, World.grownBy.refl W _, .inl rfl⟩
    rcases HO.2 with ⟨rfl, hn⟩ | ⟨g, cap, cur, rfl, _, _, hnc, _⟩
    · subst hn
      simp [Builtin.append_, run_underlying ht, sizeOf, typeInfo, hi, Builtin.lenOf, Builtin.firstCells]
    · simp [Builtin.append_, run_underlying ht, sizeOf, typeInfo, hi, Builtin.lenOf, Builtin.firstCells, hnc, storeCells]
  · have hcell : ∀ j u, ys[j]? = some u → W.cell? (ad.add j) = some u := fun j u hj => by
      have hlt : j < ys.length := by
        rcases Nat.lt_or_ge j ys.length with h | h
        · exact h
        · rw [List.getElem?_eq_none h] at hj; cases hj
      obtain ⟨ad', e, hc⟩ := hr (by omega)
      injection e with e
      subst e
      exact hc j u hj
    obtain ⟨v1, w1, h2, h3, h4, _, h5⟩ := run_append_own_at (P := P) W base t ty e i0 z size bytes ht hi hz0 hz1 hz2 hz hsz v n xs HO ad m c ys hl3 hcell h1 (by simp only [maxLen]; omega) hl hbase
    exact ⟨v1, w1, h2, h3, h4, h5⟩

/-- append(v, y...): v a slice of the call's own, y whatever slice that reads. -/
theorem wp_app {W : World} (base : Nat) (hgd : o.guard = none) (s x : Operand) (t e : TypeId) (z : Value) (size bytes : Nat)
    (ho : o.op = .call { callee := .builtin .append, args := #[s, x], argTypes := #[t, t] })
    (ht : P.underlying t = some (.slice e)) (hinfo : (P.info? e).map (fun i => (i.zero, i.size, i.bytes)) = some (some z, size, bytes)) (hz : z.cells.size = size) (hsz : 0 < size) (hb0 : 0 < bytes)
    {v : Value} {n : Nat} {xs : List Value} {y : Value} {m : Nat} {ys : List Value} (hs : a.eval s = v) (hx : a.eval x = y)
    (HO : W.ownsRow base e size v n xs) (HR : Sl W size y m ys) (hl : (n + m) * bytes ≤ 140737488355328) (hbase : base ≤ W.heap.size)
    (h : ∀ v1 w1, w1.ownsRow base e size v1 (n + m) (xs ++ ys) → Frm (fun k => v.ownBlock = some k) W w1 → (v1.ownBlock = v.ownBlock ∨ v1.ownBlock = some W.heap.size) → wpList P ops Q rest (a.put o.dst v1) w1) :
    wpList P ops Q (o :: rest) a W := by
  obtain ⟨v1, w1, hr, hown, hg, hat⟩ := run_app (P := P) base t e o.type z size bytes ht hinfo hz hsz hb0 HO HR hl hbase
  refine wpList_plain hgd fun K hK => ?_
  unfold Oper.wp execOp
  simp only [ho, resolve, invoke, builtin, Sem.run_bind, Sem.run_pure, Result.andThen_ok, List.map_toArray, List.map_cons, List.map_nil, hs, hx, hr]
  exact hK _ _ (h v1 w1 hown (Frm.of_grown hg) hat)

/-- append at a step of a region that draws its order. -/
theorem step_app {W : World} {K : Act → World → Prop} {E : Prop} (base : Nat) (hw : Region.wanted o (yielded ops a.tmps) = true) (s x : Operand) (t e : TypeId) (z : Value) (size bytes : Nat)
    (ho : o.op = .call { callee := .builtin .append, args := #[s, x], argTypes := #[t, t] })
    (ht : P.underlying t = some (.slice e)) (hinfo : (P.info? e).map (fun i => (i.zero, i.size, i.bytes)) = some (some z, size, bytes)) (hz : z.cells.size = size) (hsz : 0 < size) (hb0 : 0 < bytes)
    {v : Value} {n : Nat} {xs : List Value} {y : Value} {m : Nat} {ys : List Value} (hs : a.eval s = v) (hx : a.eval x = y)
    (HO : W.ownsRow base e size v n xs) (HR : Sl W size y m ys) (hl : (n + m) * bytes ≤ 140737488355328) (hbase : base ≤ W.heap.size)
    (h : ∀ v1 w1, w1.ownsRow base e size v1 (n + m) (xs ++ ys) → Frm (fun k => v.ownBlock = some k) W w1 → (v1.ownBlock = v.ownBlock ∨ v1.ownBlock = some W.heap.size) → K (a.put o.dst v1) w1) :
    if Region.wanted o (yielded ops a.tmps) = true then Oper.wp P o a W K Q else E := by
  obtain ⟨v1, w1, hr, hown, hg, hat⟩ := run_app (P := P) base t e o.type z size bytes ht hinfo hz hsz hb0 HO HR hl hbase
  rw [if_pos hw]
  unfold Oper.wp execOp
  simp only [ho, resolve, invoke, builtin, Sem.run_bind, Sem.run_pure, Result.andThen_ok, List.map_toArray, List.map_cons, List.map_nil, hs, hx, hr]
  exact h v1 w1 hown (Frm.of_grown hg) hat
end

end Go.Proofs.Ytoplcndiejpipaa
