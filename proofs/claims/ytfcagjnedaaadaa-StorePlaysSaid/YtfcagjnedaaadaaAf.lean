/- append to a slice without spare room: it lies anew. -/
import Derived.Test.YtfcagjnedaaadaaHS
namespace Go.Proofs.Ytfcagjnedaaadaa
open Go.RowKit
section
variable {P : Program} {ops : Array Oper} {rest : List Oper} {o : Oper} {a : Act} {Q : Exit → Act → World → Prop}

/-- The run of append(v, y...), v without spare room, y not empty. -/
theorem run_appf {W : World} (base : Nat) (t e ty : TypeId) (z : Value) (size bytes : Nat)
    (ht : P.underlying t = some (.slice e)) (hinfo : (P.info? e).map (fun i => (i.zero, i.size, i.bytes)) = some (some z, size, bytes)) (hz : z.cells.size = size) (hsz : 0 < size) (hb0 : 0 < bytes)
    {A : Option Addr} {n : Nat} {xs : List Value} {y : Value} {m : Nat} {ys : List Value}
    (HV : Sl W size (.slice A n n) n xs) (HR : Sl W size y m ys) (hm : 0 < m) (hl : (n + m) * bytes ≤ 140737488355328) (hbase : base ≤ W.heap.size) :
    ∃ v1 w1, (Builtin.append_ #[t, t] ty #[.slice A n n, y]).run P W = .ok v1 w1 ∧ w1.ownsRow base e size v1 (n + m) (xs ++ ys) ∧ Frm (fun _ => False) W w1 ∧ v1.ownBlock = some W.heap.size := by
  obtain ⟨i0, hi, hzz⟩ := Option.map_eq_some_iff.1 hinfo
  simp only [Prod.mk.injEq] at hzz
  obtain ⟨hz0, hz1, hz2⟩ := hzz
  have hlen : n + m ≤ 140737488355328 := Nat.le_trans (Nat.le_mul_of_pos_right _ hb0) hl
  obtain ⟨Ay, c, rfl, hc1, hc2, hl3, h1, hr⟩ := HR
  have hyl : 0 < ys.length := by rw [hl3]; exact Nat.mul_pos hm hsz
  obtain ⟨ad, rfl, hcell⟩ := hr hyl
  obtain ⟨Av, c', e0, _, _, hl4, h14, hr4⟩ := HV
  injection e0 with e1 e2 e3
  subst e1
  subst e3
  rcases A with _ | b
  · have h0 : ¬ 0 < xs.length := fun h0 => by
      obtain ⟨_, e, _⟩ := hr4 h0
      cases e
    obtain rfl : xs = [] := List.eq_nil_of_length_eq_zero (by omega)
    obtain rfl : n = 0 := by
      rcases Nat.eq_zero_or_pos n with h | h
      · exact h
      · have := Nat.mul_pos h hsz
        simp at hl4
        omega
    obtain ⟨v1, w1, h2, h3, h4, h5, h6⟩ := run_append_own_at (P := P) W base t ty e i0 z size bytes ht hi hz0 hz1 hz2 hz hsz (.slice none 0 0) 0 [] (World.ownsRow_nil _ _ _ _) ad m c ys hl3 hcell h1 (by simp only [maxLen]; omega) hl hbase
    refine ⟨v1, w1, h2, h3, (Frm.of_grown h4).mono (fun k e => by cases e), ?_⟩
    rcases h6 with h6 | h6
    · rcases h3.2 with ⟨_, hn⟩ | ⟨g, _, _, rfl, _⟩
      · omega
      · cases h6
    · exact h6
  · have holds : ∀ j u, xs[j]? = some u → W.cell? (b.add j) = some u := fun j u hj => by
      have hlt : j < xs.length := by
        rcases Nat.lt_or_ge j xs.length with h | h
        · exact h
        · rw [List.getElem?_eq_none h] at hj; cases hj
      obtain ⟨b', e, hc⟩ := hr4 (by omega)
      injection e with e
      subst e
      exact hc j u hj
    subst hz1
    have hg := run_append_grow (P := P) (w := W) t ty e i0 z ht hi hz0 b n n xs hl4 holds ad m c ys hl3 hcell (by omega) (by omega) (growslice_fits (by omega) (by rw [hz2]; exact hl))
    refine ⟨_, _, hg, ⟨by simp [hl4, hl3, Nat.add_mul], .inr ⟨W.heap.size, _, _, rfl, hbase, heap_alloc_new W.drew _, grownCap_ge W (n + m) n e, grownCap_le_maxLen W (n + m) n e (by simp only [maxLen]; omega), ?_, ?_⟩⟩, ⟨rfl, rfl, rfl, by simp, fun k hk _ => heap_alloc_old W.drew _ hk⟩, rfl⟩
    · have hge := grownCap_ge W (n + m) n e
      simp only [Array.size_append, List.size_toArray, size_zeroCells, hz, hl4, hl3, ← Nat.add_mul]
      congr 1
      omega
    · simp only [Array.toList_append, List.append_assoc]
      rw [← List.append_assoc]
      have : (n + m) * i0.size = (xs ++ ys).length := by simp [hl4, hl3, Nat.add_mul]
      rw [this]
      exact List.take_left

/-- .. at a step of a region that draws its order. -/
theorem step_appf {W : World} {K : Act → World → Prop} {E : Prop} (base : Nat) (hw : Region.wanted o (yielded ops a.tmps) = true) (s x : Operand) (t e : TypeId) (z : Value) (size bytes : Nat)
    (ho : o.op = .call { callee := .builtin .append, args := #[s, x], argTypes := #[t, t] })
    (ht : P.underlying t = some (.slice e)) (hinfo : (P.info? e).map (fun i => (i.zero, i.size, i.bytes)) = some (some z, size, bytes)) (hz : z.cells.size = size) (hsz : 0 < size) (hb0 : 0 < bytes)
    {A : Option Addr} {n : Nat} {xs : List Value} {y : Value} {m : Nat} {ys : List Value} (hs : a.eval s = .slice A n n) (hx : a.eval x = y)
    (HV : Sl W size (.slice A n n) n xs) (HR : Sl W size y m ys) (hm : 0 < m) (hl : (n + m) * bytes ≤ 140737488355328) (hbase : base ≤ W.heap.size)
    (h : ∀ v1 w1, w1.ownsRow base e size v1 (n + m) (xs ++ ys) → Frm (fun _ => False) W w1 → v1.ownBlock = some W.heap.size → K (a.put o.dst v1) w1) :
    if Region.wanted o (yielded ops a.tmps) = true then Oper.wp P o a W K Q else E := by
  obtain ⟨v1, w1, hr, hown, hg, hat⟩ := run_appf (P := P) base t e o.type z size bytes ht hinfo hz hsz hb0 HV HR hm hl hbase
  rw [if_pos hw]
  unfold Oper.wp execOp
  simp only [ho, resolve, invoke, builtin, Sem.run_bind, Sem.run_pure, Result.andThen_ok, List.map_toArray, List.map_cons, List.map_nil, hs, hx, hr]
  exact h v1 w1 hown hg hat
end
end Go.Proofs.Ytfcagjnedaaadaa
