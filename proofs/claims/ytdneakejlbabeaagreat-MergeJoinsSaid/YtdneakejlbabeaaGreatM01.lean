/- Parts of the walk: HK, HS, HM, Ev, Fa. -/
import Derived.Test.YtdneakejlbabeaaGreatM00
import Derived.WalkKit
import Derived.Below
import Derived.KernelRfl
import Derived.Deep.Draws
import Derived.Deep.QuietTactic
import Derived.BigQuiet
import Derived.Deep.LoopGhost
import Derived.RegionTactic
import Derived.Lib.Hide
import Derived.Laws.BitsLemmas
import Derived.OwnWalk
import Derived.Laws.AppendOwn
import Derived.Laws.OwnMore
import Derived.Laws.MakeOwn
import Derived.Maps.AppendAt
import Derived.Test.YtdneakejlbabeaaGreatProg
import Derived.Laws.BytesString
import Derived.Laws.Cells
import Derived.Laws.Strings
namespace Go.Proofs.YtdneakejlbabeaaGreat
open Go.RowKit
set_option linter.unusedVariables false
set_option linter.unusedSimpArgs false
section
/-- Of the world w only the blocks of S may have turned; new ones may have come. -/
structure Frm (S : Nat → Prop) (w w' : World) : Prop where
 os : w'.os = w.os
 tape : w'.tape = w.tape
 output : w'.output = w.output
 size : w.heap.size ≤ w'.heap.size
 block : ∀ k, k < w.heap.size → ¬ S k → w'.heap[k]? = w.heap[k]?
theorem Frm.refl (S : Nat → Prop) (w : World) : Frm S w w := ⟨rfl, rfl, rfl, Nat.le_refl _, fun _ _ _ => rfl⟩
theorem Frm.trans {S : Nat → Prop} {a b c : World} (h : Frm S a b) (k : Frm S b c) : Frm S a c :=
 ⟨k.os.trans h.os, k.tape.trans h.tape, k.output.trans h.output, Nat.le_trans h.size k.size, fun i hi hn => (k.block i (Nat.lt_of_lt_of_le hi h.size) hn).trans (h.block i hi hn)⟩
theorem Frm.mono {S S' : Nat → Prop} {a b : World} (h : Frm S a b) (hs : ∀ k, S k → S' k) : Frm S' a b :=
 ⟨h.os, h.tape, h.output, h.size, fun i hi hn => h.block i hi (fun hk => hn (hs i hk))⟩
theorem Frm.drew {S : Nat → Prop} {a w : World} (h : Frm S a w) : Frm S a w.drew := ⟨h.os, h.tape, h.output, h.size, h.block⟩
theorem Frm.drewN {S : Nat → Prop} {a w : World} (h : Frm S a w) (n : Nat) : Frm S a (w.drewN n) := ⟨h.os, h.tape, h.output, h.size, h.block⟩
theorem Frm.alloc {S : Nat → Prop} {a w : World} (h : Frm S a w) (o : Obj) : Frm S a (w.alloc o) :=
 ⟨h.os, h.tape, h.output, Nat.le_trans h.size (by simp), fun k hk hn => (Below.heap_alloc _ _ _ (Nat.lt_of_lt_of_le hk h.size)).trans (h.block k hk hn)⟩
theorem Frm.setCell {S : Nat → Prop} {a w : World} (h : Frm S a w) {p : Addr} (hp : S p.block ∨ a.heap.size ≤ p.block) (u : Value) : Frm S a (w.setCell p u) :=
 ⟨h.os, h.tape, h.output, Nat.le_trans h.size (by simp [World.setCell]), fun k hk hn => (Below.heap_setCell _ _ _ _ (by rintro rfl; rcases hp with hp | hp; exact hn hp; omega)).trans (h.block k hk hn)⟩
theorem Frm.setg {g i : Nat} {a w : World} (h : Frm (· = g) a w) (u : Value) : Frm (· = g) a (w.setCell ⟨g, i, none⟩ u) := h.setCell (.inl rfl) u
theorem Frm.setNew {S : Nat → Prop} {g i : Nat} {a w : World} (h : Frm S a w) (hg : a.heap.size ≤ g) (u : Value) : Frm S a (w.setCell ⟨g, i, none⟩ u) := h.setCell (.inr hg) u
theorem Frm.of_below {S : Nat → Prop} {w w' : World} (h : Below w.heap.size w w') : Frm S w w' := ⟨h.os, h.tape, h.output, h.size, fun k hk _ => h.block k hk⟩
theorem Frm.below {S : Nat → Prop} {B : Nat} {a w w' : World} (h : Below B a w) (k : Frm S w w') (hB : B ≤ w.heap.size) (hS : ∀ i, S i → B ≤ i) : Below B a w' :=
 h.trans ⟨k.os, k.tape, k.output, k.size, fun i hi => k.block i (by omega) (fun hs => by have := hS i hs; omega)⟩
/-- Block g of w is a row of these cells. -/
def Blk (w : World) (g : Nat) (cs : Array Value) (t : TypeId) : Prop := w.heap[g]? = some (.cells cs t (0, 0))
theorem Blk.lt {w : World} {g : Nat} {cs : Array Value} {t : TypeId} (h : Blk w g cs t) : g < w.heap.size := (Array.getElem?_eq_some_iff.1 h).1
theorem Blk.cell {w : World} {g : Nat} {cs : Array Value} {t : TypeId} (h : Blk w g cs t) (i : Nat) : w.cell? ⟨g, i, none⟩ = cs[i]? := cell_of_row w g i cs t (0, 0) h
theorem Blk.free {w : World} {g : Nat} {cs : Array Value} {t : TypeId} (h : Blk w g cs t) (i : Nat) : w.frozen? ⟨g, i, none⟩ = false := by
 unfold Blk at h
 simp [World.frozen?, h]
theorem Blk.frm {S : Nat → Prop} {w w' : World} {g : Nat} {cs : Array Value} {t : TypeId} (h : Blk w g cs t) (k : Frm S w w') (hn : ¬ S g) : Blk w' g cs t := (k.block g h.lt hn).trans h
theorem Blk.below {w w' : World} {g : Nat} {cs : Array Value} {t : TypeId} (h : Blk w g cs t) (k : Below w.heap.size w w') : Blk w' g cs t := (k.block g h.lt).trans h
theorem Blk.drew {w : World} {g : Nat} {cs : Array Value} {t : TypeId} (h : Blk w g cs t) : Blk w.drew g cs t := h
theorem Blk.drewN {w : World} {g : Nat} {cs : Array Value} {t : TypeId} (h : Blk w g cs t) (n : Nat) : Blk (w.drewN n) g cs t := h
theorem Blk.alloc {w : World} {g : Nat} {cs : Array Value} {t : TypeId} (h : Blk w g cs t) (o : Obj) : Blk (w.alloc o) g cs t := (Below.heap_alloc w o g h.lt).trans h
theorem Blk.new (w : World) (cs : Array Value) (t : TypeId) : Blk (w.alloc (.cells cs t)) w.heap.size cs t := by
 show (w.heap.push _)[w.heap.size]? = _
 simp
theorem Blk.set {w : World} {g : Nat} {cs : Array Value} {t : TypeId} (h : Blk w g cs t) (i : Nat) (u : Value) : Blk (w.setCell ⟨g, i, none⟩ u) g (cs.setIfInBounds i u) t := by
 unfold Blk at h ⊢
 simp [World.setCell, Array.getElem?_modify, h]
theorem Blk.far {w : World} {g : Nat} {cs : Array Value} {t : TypeId} (h : Blk w g cs t) {p : Addr} (hp : g ≠ p.block) (u : Value) : Blk (w.setCell p u) g cs t := (Below.heap_setCell w p u g hp).trans h
theorem run_max2 (k k' : IntKind) (x y : Int) : Builtin.max2 (.int k x) (.int k' y) = pure (.int k (if x < y then y else x)) := by simp only [Builtin.max2, gt_iff_lt]
theorem run_min2 (k k' : IntKind) (x y : Int) : Builtin.min2 (.int k x) (.int k' y) = pure (.int k (if y < x then y else x)) := by simp only [Builtin.min2]
theorem run_max_ (ats : Array TypeId) (ty : TypeId) (a b : Value) : Builtin.max_ ats ty #[a, b] = (Builtin.max2 a b >>= fun s => pure s) := by simp only [Builtin.max_, List.foldlM_cons, List.foldlM_nil]
theorem run_min_ (ats : Array TypeId) (ty : TypeId) (a b : Value) : Builtin.min_ ats ty #[a, b] = (Builtin.min2 a b >>= fun s => pure s) := by simp only [Builtin.min_, List.foldlM_cons, List.foldlM_nil]
def mx (a b : Int) : Int := if a < b then b else a
def mn (a b : Int) : Int := if b < a then b else a
theorem bits_xor_nat (k : IntKind) (j : Nat) (hj : j ≤ k.bits) (hk : ∀ n : Int, 0 ≤ n → n < 2 ^ j → k.wrap n = n) (a b : Nat) (ha : a < 2 ^ j) (hb : b < 2 ^ j) :
  bits .xor k a b = ((a ^^^ b : Nat) : Int) := by
 have hp : 2 ^ j ≤ 2 ^ k.bits := Nat.pow_le_pow_right (by decide) hj
 have ha' : a % 2 ^ k.bits = a := Nat.mod_eq_of_lt (Nat.lt_of_lt_of_le ha hp)
 have hb' : b % 2 ^ k.bits = b := Nat.mod_eq_of_lt (Nat.lt_of_lt_of_le hb hp)
 have cast : ∀ n : Nat, n < 2 ^ j → ((n : Nat) : Int) < 2 ^ j := fun n h => by exact_mod_cast h
 simp only [bits, BitVec.ofInt_natCast, BitVec.toNat_xor, BitVec.toNat_ofNat, ha', hb']
 exact hk _ (Int.natCast_nonneg _) (cast _ (Nat.xor_lt_two_pow ha hb))
theorem bits_xor_u8 (a b : Nat) (ha : a < 256) (hb : b < 256) : bits .xor .u8 a b = ((a ^^^ b : Nat) : Int) :=
 bits_xor_nat .u8 8 (by decide) (fun n h0 h1 => by rw [IntKind.wrap_u8]; omega) a b ha hb
theorem bits_xor_u32 (a b : Nat) (ha : a < 4294967296) (hb : b < 4294967296) : bits .xor .u32 a b = ((a ^^^ b : Nat) : Int) :=
 bits_xor_nat .u32 32 (by decide) (fun n h0 h1 => by rw [IntKind.wrap_u32]; omega) a b ha hb
end

section
/-- The slice v reads as n elements of `size` cells each, the cells xs. -/
def Sl (w : World) (size : Nat) (v : Value) (n : Nat) (xs : List Value) : Prop :=
 ∃ A c, v = .slice A n c ∧ n ≤ c ∧ c ≤ maxLen ∧ xs.length = n * size ∧ (∀ u ∈ xs, u.oneCell' = true) ∧ (0 < xs.length → ∃ ad, A = some ad ∧ ∀ j u, xs[j]? = some u → w.cell? (ad.add j) = some u)
theorem Frm.of_grown {w w' : World} {row : Option Nat} (h : w.grownBy w' row) : Frm (fun k => row = some k) w w' :=
 ⟨h.os, h.tape, h.output, h.size, fun k hk hn => h.block k hk (fun e => hn e.symm)⟩
theorem Sl.frm {S : Nat → Prop} {w w' : World} {size n : Nat} {v : Value} {xs : List Value} (h : Sl w size v n xs) (k : Frm S w w') (hn : ∀ g, v.ownBlock = some g → ¬ S g) : Sl w' size v n xs := by
 obtain ⟨A, c, rfl, h1, h2, h3, h4, h5⟩ := h
 refine ⟨A, c, rfl, h1, h2, h3, h4, fun h0 => ?_⟩
 obtain ⟨ad, rfl, hc⟩ := h5 h0
 refine ⟨ad, rfl, fun j u hj => ?_⟩
 have hc' := hc j u hj
 have hb : (ad.add j).block = ad.block := by unfold Addr.add; split <;> rfl
 have hlt : (ad.add j).block < w.heap.size := World.block_lt_of_cell? w _ hc'
 rw [← hc']
 exact World.cell?_of_block (k.block _ hlt (by rw [hb]; exact hn _ rfl))
theorem Sl.below {w w' : World} {size n : Nat} {v : Value} {xs : List Value} (h : Sl w size v n xs) (k : Below w.heap.size w w') : Sl w' size v n xs :=
 h.frm (Frm.of_below (S := fun _ => False) k) (fun _ _ h => h)
theorem Sl.alloc {w : World} {size n : Nat} {v : Value} {xs : List Value} (h : Sl w size v n xs) (o : Obj) : Sl (w.alloc o) size v n xs := h.below (ba)
theorem Sl.drew {w : World} {size n : Nat} {v : Value} {xs : List Value} (h : Sl w size v n xs) : Sl w.drew size v n xs := h
theorem Sl.drewN {w : World} {size n : Nat} {v : Value} {xs : List Value} (h : Sl w size v n xs) (m : Nat) : Sl (w.drewN m) size v n xs := h
theorem Sl.of_own {w : World} {base : Nat} {e : TypeId} {size n : Nat} {v : Value} {xs : List Value} (h : w.ownsRow base e size v n xs) (h1 : ∀ u ∈ xs, u.oneCell' = true) : Sl w size v n xs := by
 have h0 := h
 obtain ⟨hl, h2⟩ := h
 rcases h2 with ⟨rfl, rfl⟩ | ⟨g, cap, cur, rfl, hb, hg, hc, hm, hs, ht⟩
 ·exact ⟨none, 0, rfl, Nat.le_refl _, by simp [maxLen], hl, h1, fun hp => by simp at hl; simp [hl] at hp⟩
 ·exact ⟨_, cap, rfl, hc, hm, hl, h1, fun _ => ⟨_, rfl, h0.cells rfl⟩⟩
theorem Sl.nil (w : World) (size : Nat) : Sl w size (.slice none 0 0) 0 [] := ⟨none, 0, rfl, Nat.le_refl _, by simp [maxLen], by simp, by simp, fun h => by simp at h⟩
theorem Sl.len {w : World} {size n : Nat} {v : Value} {xs : List Value} (h : Sl w size v n xs) : ∃ A c, v = .slice A n c ∧ n ≤ c ∧ c ≤ maxLen := by
 obtain ⟨A, c, h0, h1, h2, _⟩ := h
 exact ⟨A, c, h0, h1, h2⟩
/-- A new row reads as its cells. -/
theorem Sl.box (w : World) (e : TypeId) (cs : Array Value) (n : Nat) (hn : n = cs.size) (hm : n ≤ maxLen) (h1 : ∀ u ∈ cs.toList, u.oneCell' = true) (fr : Nat × Nat := (0, 0)) : Sl (w.alloc (.cells cs e fr)) 1 (.slice (some ⟨w.heap.size, 0, none⟩) n n) n cs.toList := by
 refine ⟨_, n, rfl, Nat.le_refl _, hm, by simp [hn], h1, fun _ => ⟨_, rfl, fun j u hj => ?_⟩⟩
 have ha : (⟨w.heap.size, 0, none⟩ : Addr).add j = ⟨w.heap.size, j, none⟩ := by unfold Addr.add; split <;> simp_all
 rw [ha, cell_of_row _ w.heap.size j cs e fr (by show (w.heap.push _)[w.heap.size]? = _; simp)]
 simpa using hj
theorem Sl.one (w : World) (e : TypeId) (u : Value) (h : u.oneCell' = true) : Sl (w.alloc (.cells #[u] e)) 1 (.slice (some ⟨w.heap.size, 0, none⟩) 1 1) 1 [u] :=
 Sl.box w e #[u] 1 rfl (by simp [maxLen]) (by simpa using h)
/-- An element of one cell. -/
theorem Sl.at_ {w : World} {n c : Nat} {A : Option Addr} {xs : List Value} (h : Sl w 1 (.slice A n c) n xs) {i : Nat} (hi : i < n) : ∃ ad, A = some ad ∧ w.cell? (ad.add i) = some (xs.getD i undef) := by
 obtain ⟨A', c', e, _, _, hl, _, hr⟩ := h
 injection e with e1 e2 e3
 subst e1
 obtain ⟨ad, rfl, hc⟩ := hr (by omega)
 refine ⟨ad, rfl, hc i _ ?_⟩
 rw [List.getD_eq_getElem?_getD, List.getElem?_eq_getElem (by omega)]
 rfl
theorem Sl.take {w : World} {n c : Nat} {A : Option Addr} {xs : List Value} (h : Sl w 1 (.slice A n c) n xs) {m : Nat} (hm : m ≤ n) : Sl w 1 (.slice A m c) m (xs.take m) := by
 obtain ⟨A', c', e, h1, h2, hl, h3, hr⟩ := h
 injection e with e1 e2 e3
 subst e1
 subst e3
 refine ⟨A, c, rfl, by omega, h2, by simp; omega, fun u hu => h3 u (List.mem_of_mem_take hu), fun h0 => ?_⟩
 obtain ⟨ad, rfl, hc⟩ := hr (by simp at h0; omega)
 exact ⟨ad, rfl, fun j u hj => hc j u (by
  rw [List.getElem?_take] at hj
  split at hj
  ·exact hj
  ·cases hj)⟩
section
variable {P : Program} {ops : Array Oper} {rest : List Oper} {o : Oper} {a : Act} {Q : Exit → Act → World → Prop}
/-- The run of append(v, y...). -/
theorem run_app {W : World} (base : Nat) (t e ty : TypeId) (z : Value) (size bytes : Nat)
  (ht : P.underlying t = some (.slice e)) (hinfo : (P.info? e).map (fun i => (i.zero, i.size, i.bytes)) = some (some z, size, bytes)) (hz : z.cells.size = size) (hsz : 0 < size) (hb0 : 0 < bytes)
  {v : Value} {n : Nat} {xs : List Value} {y : Value} {m : Nat} {ys : List Value}
  (HO : W.ownsRow base e size v n xs) (HR : Sl W size y m ys) (hl : (n + m) * bytes ≤ 140737488355328) (hbase : base ≤ W.heap.size) :
  ∃ v1 w1, (Builtin.append_ #[t, t] ty #[v, y]).run P W = .ok v1 w1 ∧ w1.ownsRow base e size v1 (n + m) (xs ++ ys) ∧ W.grownBy w1 v.ownBlock ∧ (v1.ownBlock = v.ownBlock ∨ v1.ownBlock = some W.heap.size) := by
 obtain ⟨i0, hi, hzz⟩ := Option.map_eq_some_iff.1 hinfo
 simp only [Prod.mk.injEq] at hzz
 obtain ⟨hz0, hz1, hz2⟩ := hzz
 have hlen : n + m ≤ 140737488355328 := Nat.le_trans (Nat.le_mul_of_pos_right _ hb0) hl
 obtain ⟨A, c, rfl, hc1, hc2, hl3, h1, hr⟩ := HR
 rcases A with _ | ad
 ·have h0 : ¬ 0 < ys.length := fun h0 => by
   obtain ⟨ad, e, _⟩ := hr h0
   cases e
  obtain rfl : ys = [] := List.eq_nil_of_length_eq_zero (by omega)
  obtain rfl : m = 0 := by
   rcases Nat.eq_zero_or_pos m with h | h
   ·exact h
   ·have := Nat.mul_pos h hsz
    simp at hl3
    omega
  refine ⟨v, W, ?_, by simpa using HO, World.grownBy.refl W _, .inl rfl⟩
  rcases HO.2 with ⟨rfl, hn⟩ | ⟨g, cap, cur, rfl, _, _, hnc, _⟩
  ·subst hn
   simp [Builtin.append_, run_underlying ht, sizeOf, typeInfo, hi, Builtin.lenOf, Builtin.firstCells]
  ·simp [Builtin.append_, run_underlying ht, sizeOf, typeInfo, hi, Builtin.lenOf, Builtin.firstCells, hnc, storeCells]
 ·have hcell : ∀ j u, ys[j]? = some u → W.cell? (ad.add j) = some u := fun j u hj => by
   have hlt : j < ys.length := by
    rcases Nat.lt_or_ge j ys.length with h | h
    ·exact h
    ·rw [List.getElem?_eq_none h] at hj; cases hj
   obtain ⟨ad', e, hc⟩ := hr (by omega)
   injection e with e
   subst e
   exact hc j u hj
  obtain ⟨v1, w1, h2, h3, h4, _, h5⟩ := run_append_own_at (P := P) W base t ty e i0 z size bytes ht hi hz0 hz1 hz2 hz hsz v n xs HO ad m c ys hl3 hcell h1 (by simp only [maxLen]; omega) hl hbase
  exact ⟨v1, w1, h2, h3, h4, h5⟩
/-- append(v, y...): v a slice of the call's own, y whatever slice that reads. -/
theorem wp_app {W : World} (base : Nat) (hgd : o.guard = none) (s x : Operand) (t e : TypeId) (z : Value) (size bytes : Nat)
  (ho : o.op = .call { callee := .builtin .append, args := #[s, x], argTypes := #[t, t] })
  (ht : P.underlying t = some (.slice e)) (hinfo : (P.info? e).map (fun i => (i.zero, i.size, i.bytes)) = some (some z, size, bytes)) (hz : z.cells.size = size) (hsz : 0 < size) (hb0 : 0 < bytes)
  {v : Value} {n : Nat} {xs : List Value} {y : Value} {m : Nat} {ys : List Value} (hs : a.eval s = v) (hx : a.eval x = y)
  (HO : W.ownsRow base e size v n xs) (HR : Sl W size y m ys) (hl : (n + m) * bytes ≤ 140737488355328) (hbase : base ≤ W.heap.size)
  (h : ∀ v1 w1, w1.ownsRow base e size v1 (n + m) (xs ++ ys) → Frm (fun k => v.ownBlock = some k) W w1 → (v1.ownBlock = v.ownBlock ∨ v1.ownBlock = some W.heap.size) → wpList P ops Q rest (a.put o.dst v1) w1) :
  wpList P ops Q (o :: rest) a W := by
 obtain ⟨v1, w1, hr, hown, hg, hat⟩ := run_app (P := P) base t e o.type z size bytes ht hinfo hz hsz hb0 HO HR hl hbase
 refine wpList_plain hgd fun K hK => ?_
 unfold Oper.wp execOp
 simp only [ho, resolve, invoke, builtin, Sem.run_bind, Sem.run_pure, Result.andThen_ok, List.map_toArray, List.map_cons, List.map_nil, hs, hx, hr]
 exact hK _ _ (h v1 w1 hown (Frm.of_grown hg) hat)
/-- append at a step of a region that draws its order. -/
theorem step_app {W : World} {K : Act → World → Prop} {E : Prop} (base : Nat) (hw : Region.wanted o (yielded ops a.tmps) = true) (s x : Operand) (t e : TypeId) (z : Value) (size bytes : Nat)
  (ho : o.op = .call { callee := .builtin .append, args := #[s, x], argTypes := #[t, t] })
  (ht : P.underlying t = some (.slice e)) (hinfo : (P.info? e).map (fun i => (i.zero, i.size, i.bytes)) = some (some z, size, bytes)) (hz : z.cells.size = size) (hsz : 0 < size) (hb0 : 0 < bytes)
  {v : Value} {n : Nat} {xs : List Value} {y : Value} {m : Nat} {ys : List Value} (hs : a.eval s = v) (hx : a.eval x = y)
  (HO : W.ownsRow base e size v n xs) (HR : Sl W size y m ys) (hl : (n + m) * bytes ≤ 140737488355328) (hbase : base ≤ W.heap.size)
  (h : ∀ v1 w1, w1.ownsRow base e size v1 (n + m) (xs ++ ys) → Frm (fun k => v.ownBlock = some k) W w1 → (v1.ownBlock = v.ownBlock ∨ v1.ownBlock = some W.heap.size) → K (a.put o.dst v1) w1) :
  if Region.wanted o (yielded ops a.tmps) = true then Oper.wp P o a W K Q else E := by
 obtain ⟨v1, w1, hr, hown, hg, hat⟩ := run_app (P := P) base t e o.type z size bytes ht hinfo hz hsz hb0 HO HR hl hbase
 rw [if_pos hw]
 unfold Oper.wp execOp
 simp only [ho, resolve, invoke, builtin, Sem.run_bind, Sem.run_pure, Result.andThen_ok, List.map_toArray, List.map_cons, List.map_nil, hs, hx, hr]
 exact h v1 w1 hown (Frm.of_grown hg) hat
end
end

section
section
variable {P : Program}
/-- make([]T, m), T of one cell. -/
theorem make_eq (t e : TypeId) (z : Value) (bytes : Nat) (ht : P.underlying t = some (.slice e)) (hinfo : (P.info? e).map (fun i => (i.zero, i.size, i.bytes)) = some (some z, 1, bytes)) (hz : z.cells = #[z])
  (m : Nat) (hm : bytes * m ≤ 281474976710656) (hm2 : m ≤ 281474976710656) (W : World) :
  (Instr.makeSlice t (.int .i64 (m : Int)) (.int .i64 (m : Int))).run P W = .ok (.slice (some ⟨W.heap.size, 0, none⟩) m m) (W.alloc (.cells (madeCells #[z] m) e)) := by
 obtain ⟨i0, hi, hzz⟩ := Option.map_eq_some_iff.1 hinfo
 simp only [Prod.mk.injEq] at hzz
 obtain ⟨hz0, hz1, hz2⟩ := hzz
 have hb' : (i0.bytes : Int) * (m : Int) ≤ 281474976710656 := by
  rw [hz2]
  have h : ((bytes * m : Nat) : Int) ≤ 281474976710656 := by omega
  rwa [Int.natCast_mul] at h
 have hr := run_make (P := P) W t e i0 z ht hi hz0 .i64 .i64 m m (by omega) (Int.le_refl _) hb' (by omega)
 simp only [Int.toNat_natCast, hz1, Nat.mul_one, hz] at hr
 exact hr
theorem make_own (W : World) (base : Nat) (e : TypeId) (z : Value) (m : Nat) (hb : base ≤ W.heap.size) (hm : m ≤ maxLen) :
  (W.alloc (.cells (madeCells #[z] m) e)).ownsRow base e 1 (.slice (some ⟨W.heap.size, 0, none⟩) m m) m (List.replicate m z) := by
 have h := World.ownsRow_lit (base := base) (e := e) (size := 1) W (madeCells #[z] m) m hb hm (by simp [size_madeCells])
 rwa [toList_madeCells_one] at h
end
end

section
structure Pk where
 kind : Int
 path : Int
 number : Int
 of_ : Int
 from_ : Int
 data : List Int
 fin : Bool
 seen : Int
 limit : Int
deriving DecidableEq
structure Ev where
 kind : Int
 n : Int
 data : List Int
 pk : Pk
deriving DecidableEq
def u8s (l : List Int) : List Value := l.map fun n : Int => .int .u8 n
theorem u8s_one (l : List Int) : ∀ u ∈ u8s l, u.oneCell' = true := by simp [u8s, Value.oneCell']
theorem u8s_length (l : List Int) : (u8s l).length = l.length := by simp [u8s]
theorem u8s_append (l k : List Int) : u8s (l ++ k) = u8s l ++ u8s k := by simp [u8s]
/-- A text's letters as numbers. -/
def toBA (l : List Int) : ByteArray := l.foldl (fun r n => r.push (UInt8.ofNat n.toNat)) ByteArray.empty
theorem toBA_list (l : List Int) : (toBA l).data.toList = l.map fun n => UInt8.ofNat n.toNat := by
 unfold toBA
 have h : ∀ (l : List Int) (r : ByteArray), (l.foldl (fun r n => r.push (UInt8.ofNat n.toNat)) r).data.toList = r.data.toList ++ l.map fun n => UInt8.ofNat n.toNat := by
  intro l
  induction l with
  | nil => intro r; simp
  | cons x l ih => intro r; rw [List.foldl_cons, ih]; simp [ByteArray.push]
 rw [h]
 simp [ByteArray.empty, ByteArray.emptyWithCapacity]
 rfl
def Byt (l : List Int) : Prop := ∀ x ∈ l, 0 ≤ x ∧ x < 256
theorem toBA_inj {l k : List Int} (hl : Byt l) (hk : Byt k) (h : toBA l = toBA k) : l = k := by
 have h2 : l.map (fun n => UInt8.ofNat n.toNat) = k.map (fun n => UInt8.ofNat n.toNat) := by rw [← toBA_list, ← toBA_list, h]
 clear h
 induction l generalizing k with
 | nil => cases k with
  | nil => rfl
  | cons y k => simp at h2
 | cons x l ih =>
  cases k with
  | nil => simp at h2
  | cons y k =>
   simp only [List.map_cons, List.cons.injEq] at h2
   have hx := hl x (by simp)
   have hy := hk y (by simp)
   have e : x = y := by
    have := congrArg UInt8.toNat h2.1
    simp only [UInt8.toNat_ofNat'] at this
    omega
   rw [e, ih (fun z hz => hl z (by simp [hz])) (fun z hz => hk z (by simp [hz])) h2.2]
theorem toBA_eq {l k : List Int} (hl : Byt l) (hk : Byt k) : ((toBA l).toList == (toBA k).toList) = decide (l = k) := by
 by_cases h : l = k
 ·subst h; simp
 ·have : ¬ (toBA l).toList = (toBA k).toList := fun e => h (toBA_inj hl hk (by
   rw [ByteArray.toList_eq, ByteArray.toList_eq] at e
   have e2 : (toBA l).data = (toBA k).data := Array.ext' e
   cases hx : toBA l
   cases hy : toBA k
   rw [hx, hy] at e2
   exact congrArg ByteArray.mk e2))
  simp [h, this]
/-- A slice of bytes; its memory lies among S. -/
def BV (w : World) (S : Nat → Prop) (v : Value) (l : List Int) : Prop :=
 ∃ A c, v = .slice A l.length c ∧ Sl w 1 v l.length (u8s l) ∧ (0 < l.length → ∀ j, v.ownBlock = some j → S j ∧ j < w.heap.size) ∧ Byt l
theorem BV.frm {S T : Nat → Prop} {w w' : World} {v : Value} {l : List Int} (h : BV w S v l) (k : Frm T w w') (hT : ∀ j, S j → ¬ T j) : BV w' S v l := by
 obtain ⟨A, c, rfl, h1, h2, h3⟩ := h
 refine ⟨A, c, rfl, ?_, fun h0 j hj => ⟨(h2 h0 j hj).1, Nat.lt_of_lt_of_le (h2 h0 j hj).2 k.size⟩, h3⟩
 by_cases h0 : 0 < l.length
 ·exact h1.frm k (fun j hj => hT j (h2 h0 j hj).1)
 ·obtain ⟨A', c', e, g1, g2, g3, g4, g5⟩ := h1
  injection e with e1 e2 e3
  subst e1
  subst e3
  exact ⟨A, c, rfl, g1, g2, g3, g4, fun hp => absurd hp (by rw [u8s_length]; exact h0)⟩
theorem BV.below {S : Nat → Prop} {w w' : World} {v : Value} {l : List Int} (h : BV w S v l) (k : Below w.heap.size w w') : BV w' S v l :=
 h.frm (Frm.of_below (S := fun _ => False) k) (fun _ _ h => h)
theorem BV.mono {S S' : Nat → Prop} {w : World} {v : Value} {l : List Int} (h : BV w S v l) (hS : ∀ j, S j → j < w.heap.size → S' j) : BV w S' v l := by
 obtain ⟨A, c, e1, e2, e3, e4⟩ := h
 exact ⟨A, c, e1, e2, fun h0 j hj => ⟨hS j (e3 h0 j hj).1 (e3 h0 j hj).2, (e3 h0 j hj).2⟩, e4⟩
theorem BV.nil (w : World) (S : Nat → Prop) : BV w S (.slice none 0 0) [] := ⟨none, 0, rfl, Sl.nil w 1, fun h => by simp at h, fun x hx => by simp at hx⟩
def pcells (p : Pk) (v : Value) : List Value := [.int .i64 p.kind, .int .i64 p.path, .int .i64 p.number, .int .i64 p.of_, .int .i64 p.from_, v, .bool p.fin, .int .i64 p.seen, .int .i64 p.limit]
def ecells (e : Ev) (x : Value × Value) : List Value := [.int .i64 e.kind, .int .i64 e.n, x.1, .int .i64 e.pk.kind, .int .i64 e.pk.path, .int .i64 e.pk.number, .int .i64 e.pk.of_, .int .i64 e.pk.from_, x.2, .bool e.pk.fin, .int .i64 e.pk.seen, .int .i64 e.pk.limit]
def ncells (y : Int × Ev) (x : Value × Value) : List Value := .int .i64 y.1 :: ecells y.2 x
/-- A packet, an event, as they are handed on. -/
abbrev pagg (p : Pk) (v : Value) : Value := .agg #[.int .i64 p.kind, .int .i64 p.path, .int .i64 p.number, .int .i64 p.of_, .int .i64 p.from_, v, .bool p.fin, .int .i64 p.seen, .int .i64 p.limit]
abbrev eagg (e : Ev) (x y : Value) : Value := .agg #[.int .i64 e.kind, .int .i64 e.n, x, .int .i64 e.pk.kind, .int .i64 e.pk.path, .int .i64 e.pk.number, .int .i64 e.pk.of_, .int .i64 e.pk.from_, y, .bool e.pk.fin, .int .i64 e.pk.seen, .int .i64 e.pk.limit]
def EV (w : World) (S : Nat → Prop) (e : Ev) (x : Value × Value) : Prop := BV w S x.1 e.data ∧ BV w S x.2 e.pk.data
theorem EV.frm {S T : Nat → Prop} {w w' : World} {e : Ev} {x : Value × Value} (h : EV w S e x) (k : Frm T w w') (hT : ∀ j, S j → ¬ T j) : EV w' S e x := ⟨h.1.frm k hT, h.2.frm k hT⟩
theorem EV.mono {S S' : Nat → Prop} {w : World} {e : Ev} {x : Value × Value} (h : EV w S e x) (hS : ∀ j, S j → j < w.heap.size → S' j) : EV w S' e x := ⟨h.1.mono hS, h.2.mono hS⟩
/-! ### Rows of things of k cells each -/
def rowsG {α β : Type} (f : α → β → List Value) : List α → List β → List Value
 | a :: l, b :: vs => f a b ++ rowsG f l vs
 | _, _ => []
section
variable {α β : Type} {f : α → β → List Value} {k : Nat}
theorem rowsG_length (hf : ∀ a b, (f a b).length = k) : ∀ (l : List α) (vs : List β), vs.length = l.length → (rowsG f l vs).length = l.length * k
 | [], [], _ => by simp [rowsG]
 | x :: l, v :: vs, h => by
  simp only [rowsG, List.length_append, hf, List.length_cons] at h ⊢
  rw [rowsG_length hf l vs (by omega), Nat.add_mul]
  omega
theorem rowsG_get (hf : ∀ a b, (f a b).length = k) : ∀ (l : List α) (vs : List β) (i j : Nat) (x : α) (v : β), l[i]? = some x → vs[i]? = some v → j < k → (rowsG f l vs)[i * k + j]? = (f x v)[j]?
 | x :: l, v :: vs, 0, j, _, _, h1, h2, hj => by
  simp at h1 h2
  subst h1
  subst h2
  simp only [rowsG, Nat.zero_mul, Nat.zero_add]
  rw [List.getElem?_append_left (by rw [hf]; exact hj)]
 | x :: l, v :: vs, i + 1, j, _, _, h1, h2, hj => by
  simp only [List.getElem?_cons_succ] at h1 h2
  simp only [rowsG]
  rw [List.getElem?_append_right (by rw [hf, Nat.add_mul]; omega)]
  have e : (i + 1) * k + j - (f x v).length = i * k + j := by rw [hf, Nat.add_mul]; omega
  rw [e]
  exact rowsG_get hf l vs i j _ _ h1 h2 hj
 | [], _, i, j, _, _, h1, _, _ => by simp at h1
 | _ :: _, [], i, j, _, _, _, h2, _ => by simp at h2
theorem rowsG_append : ∀ (l l2 : List α) (vs vs2 : List β), vs.length = l.length → rowsG f (l ++ l2) (vs ++ vs2) = rowsG f l vs ++ rowsG f l2 vs2
 | [], l2, [], vs2, _ => by simp [rowsG]
 | x :: l, l2, v :: vs, vs2, h => by
  simp only [List.cons_append, rowsG, List.append_assoc]
  rw [rowsG_append l l2 vs vs2 (by simpa using h)]
theorem rowsG_snoc (l : List α) (x : α) (vs : List β) (v : β) (h : vs.length = l.length) : rowsG f (l ++ [x]) (vs ++ [v]) = rowsG f l vs ++ f x v := by
 rw [rowsG_append l [x] vs [v] h]
 simp [rowsG]
theorem rowsG_all (P : Value → Prop) : ∀ (l : List α) (vs : List β), (∀ (i : Nat) (x : α) (v : β), l[i]? = some x → vs[i]? = some v → ∀ u ∈ f x v, P u) → ∀ u ∈ rowsG f l vs, P u
 | [], _, _ => by simp [rowsG]
 | _ :: _, [], _ => by simp [rowsG]
 | x :: l, v :: vs, h => by
  intro u hu
  simp only [rowsG, List.mem_append] at hu
  rcases hu with hu | hu
  ·exact h 0 x v rfl rfl u hu
  ·exact rowsG_all P l vs (fun i y z hy hz => h (i + 1) y z (by simpa using hy) (by simpa using hz)) u hu
end
theorem sl_conv {w : World} {A : Option Addr} {n c : Nat} {l : List Int} (h : Sl w 1 (.slice A n c) n (u8s l)) : (convert 25 9 (.slice A n c)).run Tryz.prog w = .ok (.string (toBA l)) w := by
 rw [run_convert_bytes_string w 25 9 5 A n c Tryz.underlying25 Tryz.underlying5 Tryz.underlying9]
 obtain ⟨A', c', e, h1, h2, h3, h4, h5⟩ := h
 injection e with e1 e2 e3
 subst e1
 rw [u8s_length, Nat.mul_one] at h3
 rcases A with _ | a
 ·have : l = [] := by
   cases l with
   | nil => rfl
   | cons x l => obtain ⟨_, e, _⟩ := h5 (by simp [u8s]); cases e
  subst this
  simp only [List.length_nil] at h3
  subst h3
  rfl
 ·refine run_bytesToString w a n c l ?_
  have := run_loadCells_list (P := Tryz.prog) (w := w) a (u8s l) (fun j v hj => by
   obtain ⟨ad, e, hc⟩ := h5 (by have := (List.getElem?_eq_some_iff.1 hj).1; omega)
   injection e with e
   subst e
   exact hc j v hj)
  rw [u8s_length, h3] at this
  exact this
end

section
set_option maxRecDepth 100000 in
theorem beq_any (w : World) (S S' : Nat → Prop) (v u : Value) (l k : List Int) (h : BV w S v l) (h' : BV w S' u k) :
  Calls Tryz.prog 53 #[v, u] w fun e w' => e = .returned (.bool (decide (l = k))) ∧ w = w' := by
 obtain ⟨A, c, rfl, h1, _, b1⟩ := h
 obtain ⟨B, d, rfl, k1, _, b2⟩ := h'
 have e1 := sl_conv h1
 have e2 := sl_conv k1
 have hd := toBA_eq b1 b2
 clear h1 k1
 go_enter Tryz.func53, Tryz.ntmps53
 go_wp2
 go_ret
 exact ⟨rfl, rfl⟩
theorem beq_at (w : World) (S S' : Nat → Prop) (v u : Value) (l k : List Int) (b : Bool) (hb : decide (l = k) = b) (h : BV w S v l) (h' : BV w S' u k) :
  Calls Tryz.prog 53 #[v, u] w fun e w' => e = .returned (.bool b) ∧ w = w' := hb ▸ beq_any w S S' v u l k h h'
set_option maxHeartbeats 4000000 in
set_option maxRecDepth 100000 in
theorem psame_any (w : World) (S S' : Nat → Prop) (p q : Pk) (v u : Value) (h : BV w S v p.data) (h' : BV w S' u q.data) :
  Calls Tryz.prog 36 #[pagg p v, pagg q u] w fun e w' => e = .returned (.bool (decide (p = q))) ∧ Below w.heap.size w w' := by
 obtain ⟨p0, p1, p2, p3, p4, p5, p6, p7, p8⟩ := p
 obtain ⟨q0, q1, q2, q3, q4, q5, q6, q7, q8⟩ := q
 simp only at h h' ⊢
 have H := hid h
 have H' := hid h'
 clear h h'
 have hb : Below w.heap.size w ((w.alloc (.cells #[.int .i64 p0, .int .i64 p1, .int .i64 p2, .int .i64 p3, .int .i64 p4, v, .bool p6, .int .i64 p7, .int .i64 p8] 27)).alloc (.cells #[.int .i64 q0, .int .i64 q1, .int .i64 q2, .int .i64 q3, .int .i64 q4, u, .bool q6, .int .i64 q7, .int .i64 q8] 27)) := (ba).alloc (by simp) _
 have B1 := hid hb
 have G := hid (H.out.below hb)
 have G' := hid (H'.out.below hb)
 clear hb
 by_cases hf : p0 = q0
 ·subst hf
  by_cases hf : p1 = q1
  ·subst hf
   by_cases hf : p2 = q2
   ·subst hf
    by_cases hf : p3 = q3
    ·subst hf
     by_cases hf : p4 = q4
     ·subst hf
      by_cases hf : p5 = q5
      ·subst hf
       by_cases hf : p6 = q6
       ·subst hf
        by_cases hf : p7 = q7
        ·subst hf
         by_cases hf : p8 = q8
         ·subst hf
          skip
          go_enter Tryz.func36, Tryz.ntmps36
          go_wp2_with fail
          refine (beq_at _ S S' v u _ _ true (by simp) G.out G'.out).mono ?_
          rintro e _ ⟨rfl, rfl⟩
          go_wp2_with fail
          go_ret
          exact ⟨by simp, B1.out⟩
         ·have hd : (p8 == q8) = false := by simpa using hf
          go_enter Tryz.func36, Tryz.ntmps36
          go_wp2_with fail
          refine (beq_at _ S S' v u _ _ true (by simp) G.out G'.out).mono ?_
          rintro e _ ⟨rfl, rfl⟩
          go_wp2_with fail
          go_ret
          exact ⟨by simp [hf], B1.out⟩
        ·have hd : (p7 == q7) = false := by simpa using hf
         go_enter Tryz.func36, Tryz.ntmps36
         go_wp2_with fail
         refine (beq_at _ S S' v u _ _ true (by simp) G.out G'.out).mono ?_
         rintro e _ ⟨rfl, rfl⟩
         go_wp2_with fail
         go_ret
         exact ⟨by simp [hf], B1.out⟩
       ·have hd : (p6 == q6) = false := by simpa using hf
        go_enter Tryz.func36, Tryz.ntmps36
        go_wp2_with fail
        refine (beq_at _ S S' v u _ _ true (by simp) G.out G'.out).mono ?_
        rintro e _ ⟨rfl, rfl⟩
        go_wp2_with fail
        go_ret
        exact ⟨by simp [hf], B1.out⟩
      ·have hd : decide (p5 = q5) = false := by simpa using hf
       go_enter Tryz.func36, Tryz.ntmps36
       go_wp2_with fail
       refine (beq_at _ S S' v u _ _ false (by simp [hf]) G.out G'.out).mono ?_
       rintro e _ ⟨rfl, rfl⟩
       go_wp2_with fail
       go_ret
       exact ⟨by simp [hf], B1.out⟩
     ·have hd : (p4 == q4) = false := by simpa using hf
      go_enter Tryz.func36, Tryz.ntmps36
      go_wp2_with fail
      go_ret
      exact ⟨by simp [hf], B1.out⟩
    ·have hd : (p3 == q3) = false := by simpa using hf
     go_enter Tryz.func36, Tryz.ntmps36
     go_wp2_with fail
     go_ret
     exact ⟨by simp [hf], B1.out⟩
   ·have hd : (p2 == q2) = false := by simpa using hf
    go_enter Tryz.func36, Tryz.ntmps36
    go_wp2_with fail
    go_ret
    exact ⟨by simp [hf], B1.out⟩
  ·have hd : (p1 == q1) = false := by simpa using hf
   go_enter Tryz.func36, Tryz.ntmps36
   go_wp2_with fail
   go_ret
   exact ⟨by simp [hf], B1.out⟩
 ·have hd : (p0 == q0) = false := by simpa using hf
  go_enter Tryz.func36, Tryz.ntmps36
  go_wp2_with fail
  go_ret
  exact ⟨by simp [hf], B1.out⟩
set_option maxHeartbeats 4000000 in
set_option maxRecDepth 100000 in
theorem rsame_any (w : World) (S S' : Nat → Prop) (p q : Pk) (v u : Value) (h : BV w S v p.data) (h' : BV w S' u q.data) :
  Calls Tryz.prog 18 #[pagg p v, pagg q u] w fun e w' => e = .returned (.bool (decide (p = q))) ∧ Below w.heap.size w w' := by
 obtain ⟨p0, p1, p2, p3, p4, p5, p6, p7, p8⟩ := p
 obtain ⟨q0, q1, q2, q3, q4, q5, q6, q7, q8⟩ := q
 simp only at h h' ⊢
 obtain ⟨A, c, rfl, h1, _, b1⟩ := h
 obtain ⟨B, d, rfl, k1, _, b2⟩ := h'
 have hb : Below w.heap.size w ((w.alloc (.cells #[.int .i64 p0, .int .i64 p1, .int .i64 p2, .int .i64 p3, .int .i64 p4, .slice A p5.length c, .bool p6, .int .i64 p7, .int .i64 p8] 27)).alloc (.cells #[.int .i64 q0, .int .i64 q1, .int .i64 q2, .int .i64 q3, .int .i64 q4, .slice B q5.length d, .bool q6, .int .i64 q7, .int .i64 q8] 27)) := (ba).alloc (by simp) _
 have e1 := sl_conv (h1.below hb)
 have e2 := sl_conv (k1.below hb)
 have E := hid (toBA_eq b1 b2)
 have B1 := hid hb
 clear hb h1 k1 b1 b2
 by_cases hf : p0 = q0
 ·subst hf
  by_cases hf : p1 = q1
  ·subst hf
   by_cases hf : p2 = q2
   ·subst hf
    by_cases hf : p3 = q3
    ·subst hf
     by_cases hf : p4 = q4
     ·subst hf
      by_cases hf : p5 = q5
      ·subst hf
       by_cases hf : p6 = q6
       ·subst hf
        by_cases hf : p7 = q7
        ·subst hf
         by_cases hf : p8 = q8
         ·subst hf
          go_enter Tryz.func18, Tryz.ntmps18
          go_wp2_with fail
          go_ret
          exact ⟨by simp, B1.out⟩
         ·have hd : (p8 == q8) = false := by simpa using hf
          go_enter Tryz.func18, Tryz.ntmps18
          go_wp2_with fail
          go_ret
          exact ⟨by simp [hf], B1.out⟩
        ·have hd : (p7 == q7) = false := by simpa using hf
         go_enter Tryz.func18, Tryz.ntmps18
         go_wp2_with fail
         go_ret
         exact ⟨by simp [hf], B1.out⟩
       ·have hd : (p6 == q6) = false := by simpa using hf
        go_enter Tryz.func18, Tryz.ntmps18
        go_wp2_with fail
        go_ret
        exact ⟨by simp [hf], B1.out⟩
      ·have hd : ((toBA p5).toList == (toBA q5).toList) = false := by rw [E.out]; simpa using hf
       go_enter Tryz.func18, Tryz.ntmps18
       go_wp2_with fail
       go_ret
       exact ⟨by simp [hf], B1.out⟩
     ·have hd : (p4 == q4) = false := by simpa using hf
      go_enter Tryz.func18, Tryz.ntmps18
      go_wp2_with fail
      go_ret
      exact ⟨by simp [hf], B1.out⟩
    ·have hd : (p3 == q3) = false := by simpa using hf
     go_enter Tryz.func18, Tryz.ntmps18
     go_wp2_with fail
     go_ret
     exact ⟨by simp [hf], B1.out⟩
   ·have hd : (p2 == q2) = false := by simpa using hf
    go_enter Tryz.func18, Tryz.ntmps18
    go_wp2_with fail
    go_ret
    exact ⟨by simp [hf], B1.out⟩
  ·have hd : (p1 == q1) = false := by simpa using hf
   go_enter Tryz.func18, Tryz.ntmps18
   go_wp2_with fail
   go_ret
   exact ⟨by simp [hf], B1.out⟩
 ·have hd : (p0 == q0) = false := by simpa using hf
  go_enter Tryz.func18, Tryz.ntmps18
  go_wp2_with fail
  go_ret
  exact ⟨by simp [hf], B1.out⟩
theorem rsame_at (w : World) (S S' : Nat → Prop) (p q : Pk) (v u : Value) (b : Bool) (hb : decide (p = q) = b) (h : BV w S v p.data) (h' : BV w S' u q.data) :
  Calls Tryz.prog 18 #[pagg p v, pagg q u] w fun e w' => e = .returned (.bool b) ∧ Below w.heap.size w w' := hb ▸ rsame_any w S S' p q v u h h'
theorem psame_at (w : World) (S S' : Nat → Prop) (p q : Pk) (v u : Value) (b : Bool) (hb : decide (p = q) = b) (h : BV w S v p.data) (h' : BV w S' u q.data) :
  Calls Tryz.prog 36 #[pagg p v, pagg q u] w fun e w' => e = .returned (.bool b) ∧ Below w.heap.size w w' := hb ▸ psame_any w S S' p q v u h h'
set_option maxHeartbeats 4000000 in
set_option maxRecDepth 100000 in
theorem sev_any (w : World) (S S' : Nat → Prop) (p q : Ev) (x y x' y' : Value) (h : EV w S p (x, y)) (h' : EV w S' q (x', y')) :
  Calls Tryz.prog 17 #[eagg p x y, eagg q x' y'] w fun e w' => e = .returned (.bool (decide (p = q))) ∧ Below w.heap.size w w' := by
 obtain ⟨pk, pn, pd, p0, p1, p2, p3, p4, p5, p6, p7, p8⟩ := p
 obtain ⟨qk, qn, qd, q0, q1, q2, q3, q4, q5, q6, q7, q8⟩ := q
 obtain ⟨h, g⟩ := h
 obtain ⟨h', g'⟩ := h'
 simp only at h h' g g' ⊢
 obtain ⟨A, c, rfl, h1, _, b1⟩ := h
 obtain ⟨B, d, rfl, k1, _, b2⟩ := h'
 have hb : Below w.heap.size w ((w.alloc (.cells #[.int .i64 pk, .int .i64 pn, .slice A pd.length c, .int .i64 p0, .int .i64 p1, .int .i64 p2, .int .i64 p3, .int .i64 p4, y, .bool p6, .int .i64 p7, .int .i64 p8] 29)).alloc (.cells #[.int .i64 qk, .int .i64 qn, .slice B qd.length d, .int .i64 q0, .int .i64 q1, .int .i64 q2, .int .i64 q3, .int .i64 q4, y', .bool q6, .int .i64 q7, .int .i64 q8] 29)) := (ba).alloc (by simp) _
 have e1 := sl_conv (h1.below hb)
 have e2 := sl_conv (k1.below hb)
 have E := hid (toBA_eq b1 b2)
 have B1 := hid hb
 have G := hid (g.below hb)
 have G' := hid (g'.below hb)
 obtain ⟨r, hr⟩ := lx (decide ((⟨p0, p1, p2, p3, p4, p5, p6, p7, p8⟩ : Pk) = ⟨q0, q1, q2, q3, q4, q5, q6, q7, q8⟩))
 have HR := hid hr
 clear hb h1 k1 b1 b2 g g' hr
 by_cases hf : pk = qk
 ·subst hf
  by_cases hf : pn = qn
  ·subst hf
   by_cases hf : pd = qd
   ·subst hf
    go_enter Tryz.func17, Tryz.ntmps17
    go_wp2_with fail
    refine (rsame_at _ S S' ⟨p0, p1, p2, p3, p4, p5, p6, p7, p8⟩ ⟨q0, q1, q2, q3, q4, q5, q6, q7, q8⟩ _ _ r HR.out.symm G.out G'.out).mono ?_
    rintro e w2 ⟨rfl, hb2⟩
    go_wp2_with fail
    go_ret
    exact ⟨by rw [HR.out]; simp, B1.out.trans (hb2.mono B1.out.size)⟩
   ·have hd : ((toBA pd).toList == (toBA qd).toList) = false := by rw [E.out]; simpa using hf
    go_enter Tryz.func17, Tryz.ntmps17
    go_wp2_with fail
    go_ret
    exact ⟨by simp [hf], B1.out⟩
  ·have hd : (pn == qn) = false := by simpa using hf
   go_enter Tryz.func17, Tryz.ntmps17
   go_wp2_with fail
   go_ret
   exact ⟨by simp [hf], B1.out⟩
 ·have hd : (pk == qk) = false := by simpa using hf
  go_enter Tryz.func17, Tryz.ntmps17
  go_wp2_with fail
  go_ret
  exact ⟨by simp [hf], B1.out⟩
theorem sev_at (w : World) (S S' : Nat → Prop) (p q : Ev) (x y x' y' : Value) (b : Bool) (hb : decide (p = q) = b) (h : EV w S p (x, y)) (h' : EV w S' q (x', y')) :
  Calls Tryz.prog 17 #[eagg p x y, eagg q x' y'] w fun e w' => e = .returned (.bool b) ∧ Below w.heap.size w w' := hb ▸ sev_any w S S' p q x y x' y' h h'
end
end Go.Proofs.YtdneakejlbabeaaGreat
