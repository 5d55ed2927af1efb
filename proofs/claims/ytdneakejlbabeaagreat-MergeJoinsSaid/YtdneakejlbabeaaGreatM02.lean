/- Parts of the walk: Fb, Fc, Fd, Tk. -/
import Derived.Test.YtdneakejlbabeaaGreatM00
import Derived.RegionTactic
import Derived.Lib.SliceRun
import Derived.Deep.RegionWith
import Derived.Test.YtdneakejlbabeaaGreatM01
import Derived.OrdersHeld
namespace Go.Proofs.YtdneakejlbabeaaGreat
open Go.RowKit
set_option linter.unusedVariables false
set_option linter.unusedSimpArgs false
section
theorem own_slice' {w : World} {base e size n : Nat} {v : Value} {xs : List Value} (h : w.ownsRow base e size v n xs) : ∃ A c, v = .slice A n c := by
 rcases h.2 with ⟨rfl, rfl⟩ | ⟨g, cap, cur, rfl, _⟩
 ·exact ⟨none, 0, rfl⟩
 ·exact ⟨_, cap, rfl⟩
theorem Tryz.info5 : (Tryz.prog.info? 5).map (fun i => (i.zero, i.size, i.bytes)) = some (some (.int .u8 0), 1, 1) := by kernel_rfl
theorem BV.len {w : World} {S : Nat → Prop} {v : Value} {l : List Int} (h : BV w S v l) : ∃ A c, v = .slice A l.length c ∧ l.length ≤ c ∧ c ≤ maxLen := by
 obtain ⟨A, c, rfl, h1, _⟩ := h
 obtain ⟨A', c', e, h2, h3, _⟩ := h1
 injection e with e1 e2 e3
 subst e3
 exact ⟨A, c, rfl, h2, h3⟩
set_option maxHeartbeats 1000000 in
set_option maxRecDepth 100000 in
theorem clone_any (w : World) (S : Nat → Prop) (v : Value) (l : List Int) (h : BV w S v l) (hl : l.length ≤ 2000000) :
  Calls Tryz.prog 37 #[v] w fun e w' => ∃ v', e = .returned v' ∧ BV w' (fun j => w.heap.size ≤ j) v' l ∧ Below w.heap.size w w' := by
 obtain ⟨A, c, rfl, h1, h2, h3⟩ := h
 obtain ⟨n, hn⟩ : ∃ n, l.length = n := ⟨_, rfl⟩
 rw [hn] at h1 ⊢
 have HB := hid h3
 have HN := hid hn
 rcases A with _ | a
 ·have l0 : l = [] := by
   obtain ⟨A', c', e, _, _, h6, _, h5⟩ := h1
   injection e with e1
   subst e1
   cases l with
   | nil => rfl
   | cons x l => obtain ⟨_, e, _⟩ := h5 (by simp [u8s]); cases e
  have L0 := hid l0
  clear h1 h2 h3 hn l0
  have hq : ∀ (w : World) (a : Option Addr) (n c n' c' : Nat), (binOp .eql 25 (.slice a n c) (.slice none n' c')).run Tryz.prog w = .ok (.bool a.isNone) w := fun w a n c n' c' => Lib.run_eql_slice_nil w _ _ a n c n' c' Tryz.underlying25
  go_enter Tryz.func37, Tryz.ntmps37
  go_wp2
  go_ret
  refine ⟨_, rfl, ?_, Below.refl _ _⟩
  rw [L0.out]
  exact BV.nil _ _
 ·have HI := hid Tryz.info5
  have H := hid (h1.alloc (.cells #[] 5))
  have OW : Hid ((w.alloc (.cells #[] 5)).ownsRow w.heap.size 5 1 (.slice (some ⟨w.heap.size, 0, none⟩) 0 0) 0 []) := hid (World.ownsRow_lit w #[] 0 (Nat.le_refl _) (by simp) rfl)
  have hnl : n ≤ 2000000 := by omega
  clear h1 h2 h3 hn hl
  have hq : ∀ (w : World) (a : Option Addr) (n c n' c' : Nat), (binOp .eql 25 (.slice a n c) (.slice none n' c')).run Tryz.prog w = .ok (.bool a.isNone) w := fun w a n c n' c' => Lib.run_eql_slice_nil w _ _ a n c n' c' Tryz.underlying25
  go_enter Tryz.func37, Tryz.ntmps37
  go_wp2_with (at_builtin; refine wp_app w.heap.size rfl _ _ 25 5 (.int .u8 0) 1 1 rfl Tryz.underlying25 HI.out rfl (by omega) (by omega) rfl rfl OW.out H.out (by omega) (by simp) ?_; intro v2 w2 hown hfr hat)
  go_ret
  have hb := Frm.below ((Below.refl w.heap.size w).alloc (Nat.le_refl _) (.cells #[] 5)) hfr (by simp) (fun i e => by injection e with e; simp only at e; omega)
  rw [Nat.zero_add, List.nil_append] at hown
  obtain ⟨A2, c2, rfl⟩ := own_slice' hown
  have hn' := HN.out
  subst hn'
  exact ⟨_, rfl, ⟨A2, c2, rfl, Sl.of_own hown (u8s_one _), fun _ j hj => hown.lt j hj, HB.out⟩, hb⟩
theorem cells12 {W : World} {g : Nat} {a0 a1 a2 a3 a4 a5 a6 a7 a8 a9 a10 a11 : Value} {t : TypeId} (h : Blk W g #[a0, a1, a2, a3, a4, a5, a6, a7, a8, a9, a10, a11] t) :
  W.cell? ⟨g, 0, none⟩ = some a0 ∧ W.cell? ⟨g, 1, none⟩ = some a1 ∧ W.cell? ⟨g, 2, none⟩ = some a2 ∧ W.cell? ⟨g, 3, none⟩ = some a3 ∧ W.cell? ⟨g, 4, none⟩ = some a4 ∧ W.cell? ⟨g, 5, none⟩ = some a5 ∧ W.cell? ⟨g, 6, none⟩ = some a6 ∧ W.cell? ⟨g, 7, none⟩ = some a7 ∧ W.cell? ⟨g, 8, none⟩ = some a8 ∧ W.cell? ⟨g, 9, none⟩ = some a9 ∧ W.cell? ⟨g, 10, none⟩ = some a10 ∧ W.cell? ⟨g, 11, none⟩ = some a11 :=
 ⟨h.cell 0, h.cell 1, h.cell 2, h.cell 3, h.cell 4, h.cell 5, h.cell 6, h.cell 7, h.cell 8, h.cell 9, h.cell 10, h.cell 11⟩
theorem Tryz.size29 : (Tryz.prog.info? 29).map (·.size) = some 12 := by kernel_rfl
/-- An event in new memory. -/
def Owned (w : World) (e : Ev) (r : Ending) (w' : World) : Prop := ∃ x y, r = .returned (eagg e x y) ∧ EV w' (fun j => w.heap.size ≤ j) e (x, y) ∧ Below w.heap.size w w'
set_option maxHeartbeats 4000000 in
set_option maxRecDepth 100000 in
theorem own_any (w : World) (S : Nat → Prop) (e : Ev) (x y : Value) (h : EV w S e (x, y)) (h1 : e.data.length ≤ 2000000) (h2 : e.pk.data.length ≤ 2000000) :
  Calls Tryz.prog 28 #[eagg e x y] w fun r w' => Owned w e r w' := by
 obtain ⟨k, n, d, p0, p1, p2, p3, p4, p5, p6, p7, p8⟩ := e
 obtain ⟨g, g'⟩ := h
 simp only at g g' h1 h2 ⊢
 obtain ⟨A, c, rfl, _⟩ := g.len
 obtain ⟨B, b, rfl, _⟩ := g'.len
 have hb0 : Below w.heap.size w (((w.alloc (.cells #[.int .i64 k, .int .i64 n, .slice A d.length c, .int .i64 p0, .int .i64 p1, .int .i64 p2, .int .i64 p3, .int .i64 p4, .slice B p5.length b, .bool p6, .int .i64 p7, .int .i64 p8] 29)).alloc (.cells #[.int .i64 0, .int .i64 0, .slice none 0 0, .int .i64 0, .int .i64 0, .int .i64 0, .int .i64 0, .int .i64 0, .slice none 0 0, .bool false, .int .i64 0, .int .i64 0] 29)).drew) := ((ba).alloc (by simp) _).drew
 have BX : Hid (Blk (((w.alloc (.cells #[.int .i64 k, .int .i64 n, .slice A d.length c, .int .i64 p0, .int .i64 p1, .int .i64 p2, .int .i64 p3, .int .i64 p4, .slice B p5.length b, .bool p6, .int .i64 p7, .int .i64 p8] 29)).alloc (.cells #[.int .i64 0, .int .i64 0, .slice none 0 0, .int .i64 0, .int .i64 0, .int .i64 0, .int .i64 0, .int .i64 0, .slice none 0 0, .bool false, .int .i64 0, .int .i64 0] 29)).drew) w.heap.size #[.int .i64 k, .int .i64 n, .slice A d.length c, .int .i64 p0, .int .i64 p1, .int .i64 p2, .int .i64 p3, .int .i64 p4, .slice B p5.length b, .bool p6, .int .i64 p7, .int .i64 p8] 29) := hid (((Blk.new w #[.int .i64 k, .int .i64 n, .slice A d.length c, .int .i64 p0, .int .i64 p1, .int .i64 p2, .int .i64 p3, .int .i64 p4, .slice B p5.length b, .bool p6, .int .i64 p7, .int .i64 p8] 29).alloc _).drew)
 have BZ : Hid (Blk (((w.alloc (.cells #[.int .i64 k, .int .i64 n, .slice A d.length c, .int .i64 p0, .int .i64 p1, .int .i64 p2, .int .i64 p3, .int .i64 p4, .slice B p5.length b, .bool p6, .int .i64 p7, .int .i64 p8] 29)).alloc (.cells #[.int .i64 0, .int .i64 0, .slice none 0 0, .int .i64 0, .int .i64 0, .int .i64 0, .int .i64 0, .int .i64 0, .slice none 0 0, .bool false, .int .i64 0, .int .i64 0] 29)).drew) (w.heap.size + 1) #[.int .i64 0, .int .i64 0, .slice none 0 0, .int .i64 0, .int .i64 0, .int .i64 0, .int .i64 0, .int .i64 0, .slice none 0 0, .bool false, .int .i64 0, .int .i64 0] 29) := hid (by
  have := Blk.new (w.alloc (.cells #[.int .i64 k, .int .i64 n, .slice A d.length c, .int .i64 p0, .int .i64 p1, .int .i64 p2, .int .i64 p3, .int .i64 p4, .slice B p5.length b, .bool p6, .int .i64 p7, .int .i64 p8] 29)) #[.int .i64 0, .int .i64 0, .slice none 0 0, .int .i64 0, .int .i64 0, .int .i64 0, .int .i64 0, .int .i64 0, .slice none 0 0, .bool false, .int .i64 0, .int .i64 0] 29
  have e : (w.alloc (.cells #[.int .i64 k, .int .i64 n, .slice A d.length c, .int .i64 p0, .int .i64 p1, .int .i64 p2, .int .i64 p3, .int .i64 p4, .slice B p5.length b, .bool p6, .int .i64 p7, .int .i64 p8] 29)).heap.size = w.heap.size + 1 := by simp
  rw [e] at this
  exact this)
 have G := hid (g.frm (Frm.of_below (S := fun _ => False) hb0) (fun _ _ h => h))
 have G' := hid (g'.frm (Frm.of_below (S := fun _ => False) hb0) (fun _ _ h => h))
 have B0 := hid hb0
 have SZ : Hid ((((w.alloc (.cells #[.int .i64 k, .int .i64 n, .slice A d.length c, .int .i64 p0, .int .i64 p1, .int .i64 p2, .int .i64 p3, .int .i64 p4, .slice B p5.length b, .bool p6, .int .i64 p7, .int .i64 p8] 29)).alloc (.cells #[.int .i64 0, .int .i64 0, .slice none 0 0, .int .i64 0, .int .i64 0, .int .i64 0, .int .i64 0, .int .i64 0, .slice none 0 0, .bool false, .int .i64 0, .int .i64 0] 29)).drew).heap.size = w.heap.size + 2) := hid (by simp)
 clear g g' hb0
 go_enter Tryz.func28, Tryz.ntmps28
 go_wp2_with fail
 go_region_with ((first | (go_at_call 37; (with_reducible refine (clone_any _ S _ d G.out h1).mono ?_); rintro r w1 ⟨v1, rfl, hv1, hb1⟩; obtain ⟨A1, c1, rfl, _⟩ := hv1.len; have hX := Blk.below BX.out hb1; have hc8 := hX.cell 8; simp at hc8; have X1 := hid hX; have V1 := hid hv1; have B1 := hid hb1; clear hv1 hb1 hX) | (go_at_call 37; (with_reducible refine (clone_any w1 S _ p5 (G'.out.below B1.out) h2).mono ?_); rintro r w2 ⟨v2, rfl, hv2, hb2⟩; obtain ⟨A2, c2, rfl, _⟩ := hv2.len; have hX := Blk.below X1.out hb2; have X2 := hid hX; have V2 := hid hv2; have B2 := hid hb2; obtain ⟨f0, f1, f2, f3, f4, f5, f6, f7, f8, f9, f10, f11⟩ := cells12 hX; have fr2 := hX.free 2; have fr8 := hX.free 8; clear hv2 hb2 hX) | fail))
 all_goals
  have hZ : Blk w2 (w.heap.size + 1) _ 29 := Blk.below (Blk.below BZ.out B1.out) B2.out
  obtain ⟨g0, g1, g2, g3, g4, g5, g6, g7, g8, g9, g10, g11⟩ := cells12 hZ
  have fz0 := hZ.free 0
  have fz1 := hZ.free 1
  have fz2 := hZ.free 2
  have fz3 := hZ.free 3
  have fz4 := hZ.free 4
  have fz5 := hZ.free 5
  have fz6 := hZ.free 6
  have fz7 := hZ.free 7
  have fz8 := hZ.free 8
  have fz9 := hZ.free 9
  have fz10 := hZ.free 10
  have fz11 := hZ.free 11
  have HZ := hid hZ
  clear hZ
  go_wp2_with fail
  have hZ := HZ.out
  have b2 : Below w.heap.size w w2 := (B0.out.trans (B1.out.mono B0.out.size)).trans (B2.out.mono (B0.out.trans (B1.out.mono B0.out.size)).size)
  have hfin := ((((((((((((((hZ.far (p := ⟨w.heap.size, 2, none⟩) (by simp) (.slice A1 d.length c1)).far (p := ⟨w.heap.size, 8, none⟩) (by simp) (.slice A2 p5.length c2)).set 0 (.int .i64 k)).set 1 (.int .i64 n)).set 2 (.slice A1 d.length c1)).set 3 (.int .i64 p0)).set 4 (.int .i64 p1)).set 5 (.int .i64 p2)).set 6 (.int .i64 p3)).set 7 (.int .i64 p4)).set 8 (.slice A2 p5.length c2)).set 9 (.bool p6)).set 10 (.int .i64 p7)).set 11 (.int .i64 p8))
  have hbel := (((((((((((((b2.setCell (p := ⟨w.heap.size, 2, none⟩) (by exact Nat.le_refl _) (.slice A1 d.length c1)).setCell (p := ⟨w.heap.size, 8, none⟩) (by exact Nat.le_refl _) (.slice A2 p5.length c2)).setCell (p := ⟨w.heap.size + 1, 0, none⟩) (by exact Nat.le_succ _) (.int .i64 k)).setCell (p := ⟨w.heap.size + 1, 1, none⟩) (by exact Nat.le_succ _) (.int .i64 n)).setCell (p := ⟨w.heap.size + 1, 2, none⟩) (by exact Nat.le_succ _) (.slice A1 d.length c1)).setCell (p := ⟨w.heap.size + 1, 3, none⟩) (by exact Nat.le_succ _) (.int .i64 p0)).setCell (p := ⟨w.heap.size + 1, 4, none⟩) (by exact Nat.le_succ _) (.int .i64 p1)).setCell (p := ⟨w.heap.size + 1, 5, none⟩) (by exact Nat.le_succ _) (.int .i64 p2)).setCell (p := ⟨w.heap.size + 1, 6, none⟩) (by exact Nat.le_succ _) (.int .i64 p3)).setCell (p := ⟨w.heap.size + 1, 7, none⟩) (by exact Nat.le_succ _) (.int .i64 p4)).setCell (p := ⟨w.heap.size + 1, 8, none⟩) (by exact Nat.le_succ _) (.slice A2 p5.length c2)).setCell (p := ⟨w.heap.size + 1, 9, none⟩) (by exact Nat.le_succ _) (.bool p6)).setCell (p := ⟨w.heap.size + 1, 10, none⟩) (by exact Nat.le_succ _) (.int .i64 p7)).setCell (p := ⟨w.heap.size + 1, 11, none⟩) (by exact Nat.le_succ _) (.int .i64 p8)
  have hfrm := ((((((((((((((Frm.refl (fun j => j = w.heap.size ∨ j = w.heap.size + 1) w2).setCell (p := ⟨w.heap.size, 2, none⟩) (.inl (.inl rfl)) (.slice A1 d.length c1)).setCell (p := ⟨w.heap.size, 8, none⟩) (.inl (.inl rfl)) (.slice A2 p5.length c2)).setCell (p := ⟨w.heap.size + 1, 0, none⟩) (.inl (.inr rfl)) (.int .i64 k)).setCell (p := ⟨w.heap.size + 1, 1, none⟩) (.inl (.inr rfl)) (.int .i64 n)).setCell (p := ⟨w.heap.size + 1, 2, none⟩) (.inl (.inr rfl)) (.slice A1 d.length c1)).setCell (p := ⟨w.heap.size + 1, 3, none⟩) (.inl (.inr rfl)) (.int .i64 p0)).setCell (p := ⟨w.heap.size + 1, 4, none⟩) (.inl (.inr rfl)) (.int .i64 p1)).setCell (p := ⟨w.heap.size + 1, 5, none⟩) (.inl (.inr rfl)) (.int .i64 p2)).setCell (p := ⟨w.heap.size + 1, 6, none⟩) (.inl (.inr rfl)) (.int .i64 p3)).setCell (p := ⟨w.heap.size + 1, 7, none⟩) (.inl (.inr rfl)) (.int .i64 p4)).setCell (p := ⟨w.heap.size + 1, 8, none⟩) (.inl (.inr rfl)) (.slice A2 p5.length c2)).setCell (p := ⟨w.heap.size + 1, 9, none⟩) (.inl (.inr rfl)) (.bool p6)).setCell (p := ⟨w.heap.size + 1, 10, none⟩) (.inl (.inr rfl)) (.int .i64 p7)).setCell (p := ⟨w.heap.size + 1, 11, none⟩) (.inl (.inr rfl)) (.int .i64 p8)
  simp only [List.setIfInBounds_toArray, List.set_cons_zero, List.set_cons_succ] at hfin
  refine bodyPost_ret (results_cell_row rfl _ _ (w.heap.size + 1) 29 _ (0, 0) _ rfl hfin Tryz.underlying29 rfl Tryz.size29) rfl ?_
  refine ⟨.slice A1 d.length c1, .slice A2 p5.length c2, rfl, ⟨?_, ?_⟩, hbel⟩
  ·exact ((V1.out.below B2.out).frm hfrm (fun j hj e => by have := SZ.out; omega)).mono (fun j hj _ => by have := SZ.out; omega)
  ·exact (V2.out.frm hfrm (fun j hj e => by have := SZ.out; have := B1.out.size; omega)).mono (fun j hj _ => by have := SZ.out; have := B1.out.size; omega)
end

section
theorem addr_zero (a : Addr) : a.add 0 = a := by unfold Addr.add; simp
theorem addr_pos (a : Addr) (j : Nat) (hj : j ≠ 0) : a.add j = ⟨a.block, a.off + j, none⟩ := by unfold Addr.add; simp [hj]
theorem addr_add (a : Addr) (i j : Nat) : (a.add i).add j = a.add (i + j) := by
 unfold Addr.add
 by_cases hi : i = 0 <;> by_cases hj : j = 0 <;> simp [hi, hj, Nat.add_assoc]
theorem ecells_len (e : Ev) (x : Value × Value) : (ecells e x).length = 12 := rfl
theorem ncells_len (e : Int × Ev) (x : Value × Value) : (ncells e x).length = 13 := rfl
theorem pcells_len (e : Pk) (x : Value) : (pcells e x).length = 9 := rfl
/-- A row of things of k cells each, which lie as X says. -/
def RowV {α β : Type} (f : α → β → List Value) (k : Nat) (X : World → α → β → Prop) (w : World) (v : Value) (l : List α) : Prop :=
 ∃ vs : List β, vs.length = l.length ∧ Sl w k v l.length (rowsG f l vs) ∧ ∀ (i : Nat) (a : α) (b : β), l[i]? = some a → vs[i]? = some b → X w a b
section
variable {α β : Type} {f : α → β → List Value} {k : Nat} {X : World → α → β → Prop} {w w' : World} {v : Value} {l : List α}
theorem RowV.below (h : RowV f k X w v l) (kb : Below w.heap.size w w') (hX : ∀ a b, X w a b → X w' a b) : RowV f k X w' v l := by
 obtain ⟨vs, h1, h2, h3⟩ := h
 exact ⟨vs, h1, h2.below kb, fun i a b ha hb => hX a b (h3 i a b ha hb)⟩
theorem RowV.len (h : RowV f k X w v l) : ∃ A c, v = .slice A l.length c ∧ l.length ≤ c ∧ c ≤ maxLen := by
 obtain ⟨vs, _, ⟨A, c, rfl, h1, h2, _⟩, _⟩ := h
 exact ⟨A, c, rfl, h1, h2⟩
/-- The i-th of them. -/
theorem RowV.at_ {A : Option Addr} {n c : Nat} (h : RowV f k X w (.slice A n c) l) (hk : 0 < k) (hf : ∀ a b, (f a b).length = k) {i : Nat} (hi : i < l.length) : ∃ ad a b, A = some ad ∧ l[i]? = some a ∧ X w a b ∧ ∀ j u, (f a b)[j]? = some u → w.cell? ((ad.add (i * k)).add j) = some u := by
 obtain ⟨vs, h1, ⟨A', c', e, _, _, h6, _, h5⟩, h3⟩ := h
 injection e with e1 e2 e3
 subst e1
 have hpos : 0 < (rowsG f l vs).length := by rw [h6]; exact Nat.mul_pos (by omega) hk
 obtain ⟨ad, rfl, hc⟩ := h5 hpos
 refine ⟨ad, l[i], vs[i]'(by omega), rfl, List.getElem?_eq_getElem hi, h3 i _ _ (List.getElem?_eq_getElem hi) (List.getElem?_eq_getElem (by omega)), fun j u hj => ?_⟩
 rw [addr_add]
 have hlt := (List.getElem?_eq_some_iff.1 hj).1
 rw [hf] at hlt
 exact hc _ u (by rw [rowsG_get hf l vs i j _ _ (List.getElem?_eq_getElem hi) (List.getElem?_eq_getElem (by omega)) hlt]; exact hj)
end
abbrev ERow (S : Nat → Prop) (w : World) (v : Value) (es : List Ev) : Prop := RowV ecells 12 (fun w e x => EV w S e x) w v es
theorem ERow.below {S : Nat → Prop} {w w' : World} {v : Value} {es : List Ev} (h : ERow S w v es) (k : Below w.heap.size w w') : ERow S w' v es :=
 RowV.below h k (fun a b hab => ⟨hab.1.below k, hab.2.below k⟩)
/-- The cells of an event at an address. -/
def ECells (w : World) (p : Addr) (e : Ev) (x : Value × Value) : Prop :=
 w.cell? p = some (.int .i64 e.kind) ∧ w.cell? ⟨p.block, p.off + 1, none⟩ = some (.int .i64 e.n) ∧ w.cell? ⟨p.block, p.off + 2, none⟩ = some x.1 ∧ w.cell? ⟨p.block, p.off + 3, none⟩ = some (.int .i64 e.pk.kind) ∧ w.cell? ⟨p.block, p.off + 4, none⟩ = some (.int .i64 e.pk.path) ∧ w.cell? ⟨p.block, p.off + 5, none⟩ = some (.int .i64 e.pk.number) ∧
  w.cell? ⟨p.block, p.off + 6, none⟩ = some (.int .i64 e.pk.of_) ∧ w.cell? ⟨p.block, p.off + 7, none⟩ = some (.int .i64 e.pk.from_) ∧ w.cell? ⟨p.block, p.off + 8, none⟩ = some x.2 ∧ w.cell? ⟨p.block, p.off + 9, none⟩ = some (.bool e.pk.fin) ∧ w.cell? ⟨p.block, p.off + 10, none⟩ = some (.int .i64 e.pk.seen) ∧ w.cell? ⟨p.block, p.off + 11, none⟩ = some (.int .i64 e.pk.limit)
theorem ERow.ev {S : Nat → Prop} {w : World} {A : Option Addr} {n c : Nat} {es : List Ev} (h : ERow S w (.slice A n c) es) {i : Nat} (hi : i < es.length) : ∃ ad e x y, A = some ad ∧ es[i]? = some e ∧ EV w S e (x, y) ∧ ECells w (ad.add (i * 12)) e (x, y) := by
 obtain ⟨ad, e, ⟨x, y⟩, rfl, he, hx, hc⟩ := RowV.at_ h (by omega) ecells_len hi
 have h0 := hc 0 _ rfl
 rw [addr_zero] at h0
 have g := fun (j : Nat) (hj : j ≠ 0) (u : Value) (hu : (ecells e (x, y))[j]? = some u) => by
  have := hc j u hu
  rw [addr_pos _ _ hj] at this
  exact this
 exact ⟨ad, e, x, y, rfl, he, hx, h0, g 1 (by omega) _ rfl, g 2 (by omega) _ rfl, g 3 (by omega) _ rfl, g 4 (by omega) _ rfl, g 5 (by omega) _ rfl, g 6 (by omega) _ rfl, g 7 (by omega) _ rfl, g 8 (by omega) _ rfl, g 9 (by omega) _ rfl, g 10 (by omega) _ rfl, g 11 (by omega) _ rfl⟩
set_option maxHeartbeats 4000000 in
set_option maxRecDepth 100000 in
theorem all_any (w : World) (S S' : Nat → Prop) (v u : Value) (es fs : List Ev) (h : ERow S w v es) (h' : ERow S' w u fs) :
  Calls Tryz.prog 14 #[v, u] w fun e w' => e = .returned (.bool (decide (es = fs))) ∧ Below w.heap.size w w' := by
 obtain ⟨A, c, rfl, hc1, hc2⟩ := h.len
 obtain ⟨B, d, rfl, hd1, hd2⟩ := h'.len
 unfold maxLen at hc2 hd2
 have H := hid h
 have H' := hid h'
 clear h h'
 by_cases hl : es.length = fs.length
 ·obtain ⟨n, hn⟩ : ∃ n, fs.length = n := ⟨_, rfl⟩
  rw [hn] at hl hd1 H' ⊢
  rw [hl] at hc1 H ⊢
  have HN := hid hn
  have HL := hid hl
  have he : ((n : Int) != n) = false := by simp
  clear hn hl
  go_enter Tryz.func14, Tryz.ntmps14
  go_wp2_with fail
  go_loopw [13, 5] (fun i _ wr => ∃ k : Nat, k ≤ n ∧ i = .int .i64 k ∧ es.take k = fs.take k ∧ Below w.heap.size w wr) (fun i _ _ => n - (intOf i).toNat)
  case atStart => exact ⟨0, Nat.zero_le _, rfl, rfl, Below.refl _ _⟩
  case round =>
   obtain ⟨k, hk, rfl, htk, hb⟩ := hrel
   have TK := hid htk
   have BR := hid hb
   clear htk hb
   by_cases hkn : k < n
   ·have k0 : (0 : Int) ≤ (k : Int) := by omega
    have k1 : (k : Int) < (n : Int) := by omega
    have iwk : IntKind.i64.wrap ((k : Int) + 1) = (k : Int) + 1 := iX
    obtain ⟨ad, e, x, y, rfl, he', hx, hce⟩ := ERow.ev (H.out.below BR.out) (by rw [HL.out]; exact hkn)
    obtain ⟨bd, f, x', y', rfl, hf', hx', hcf⟩ := ERow.ev (H'.out.below BR.out) (by rw [HN.out]; exact hkn)
    obtain ⟨a0, a1, a2, a3, a4, a5, a6, a7, a8, a9, a10, a11⟩ := hce
    obtain ⟨b0, b1, b2, b3, b4, b5, b6, b7, b8, b9, b10, b11⟩ := hcf
    obtain ⟨q, hq⟩ : ∃ q, decide (e = f) = q := ⟨_, rfl⟩
    have HQ := hid hq
    have HE := hid he'
    have HF := hid hf'
    have EX := hid (hx.frm ((Frm.refl (fun _ => False) wr).drew) (fun _ _ h => h))
    have EX' := hid (hx'.frm ((Frm.refl (fun _ => False) wr).drew) (fun _ _ h => h))
    have SE : Hid (es.take (k + 1) = es.take k ++ [e]) := hid (by rw [List.take_add_one, he']; rfl)
    have SF : Hid (fs.take (k + 1) = fs.take k ++ [f]) := hid (by rw [List.take_add_one, hf']; rfl)
    clear hq he' hf' hx hx'
    cases q
    ·go_wp2_with fail
     go_region_with ((first | (go_at_call 17; (with_reducible refine (sev_at _ S S' e f x y x' y' false HQ.out EX.out EX'.out).mono ?_); rintro r w2 ⟨rfl, hb2⟩; have B2 := hid hb2; clear hb2) | fail))
     all_goals
      go_wp2_with fail
      go_ret
      refine ⟨?_, BR.out.trans (show Below w.heap.size wr w2 from ⟨B2.out.os, B2.out.tape, B2.out.output, B2.out.size, fun i hi => B2.out.block i (Nat.lt_of_lt_of_le hi BR.out.size)⟩)⟩
      have : ¬ es = fs := fun h => by
       have h1 := HE.out
       rw [h, HF.out] at h1
       injection h1 with h1
       have := HQ.out
       simp [h1] at this
      simp [this]
    ·go_wp2_with fail
     go_region_with ((first | (go_at_call 17; (with_reducible refine (sev_at _ S S' e f x y x' y' true HQ.out EX.out EX'.out).mono ?_); rintro r w2 ⟨rfl, hb2⟩; have B2 := hid hb2; clear hb2) | fail))
     all_goals
      go_wp2_with fail
      go_roundw
      case rel => exact ⟨k + 1, by omega, by go_num, by rw [SE.out, SF.out, TK.out, of_decide_eq_true HQ.out], BR.out.trans (show Below w.heap.size wr w2 from ⟨B2.out.os, B2.out.tape, B2.out.output, B2.out.size, fun i hi => B2.out.block i (Nat.lt_of_lt_of_le hi BR.out.size)⟩)⟩
      case measure => simp [intOf]; omega
   ·have k1 : ¬ (k : Int) < (n : Int) := by omega
    go_wp2_with fail
    go_ret
    refine ⟨?_, BR.out⟩
    have h1 : es = fs := by
     have := TK.out
     rwa [List.take_of_length_le (by have := HL.out; omega), List.take_of_length_le (by have := HN.out; omega)] at this
    simp [h1]
 ·have he : ((es.length : Int) != (fs.length : Int)) = true := by rw [bne_iff_ne]; omega
  have hne : ¬ es = fs := fun h => hl (by rw [h])
  have HNE := hid hne
  clear hl hne
  go_enter Tryz.func14, Tryz.ntmps14
  go_wp2_with fail
  go_ret
  exact ⟨by simp [HNE.out], Below.refl _ _⟩
theorem all_at (w : World) (S S' : Nat → Prop) (v u : Value) (es fs : List Ev) (b : Bool) (hb : decide (es = fs) = b) (h : ERow S w v es) (h' : ERow S' w u fs) :
  Calls Tryz.prog 14 #[v, u] w fun e w' => e = .returned (.bool b) ∧ Below w.heap.size w w' := hb ▸ all_any w S S' v u es fs h h'
end

section
theorem own_frm {S : Nat → Prop} {w w' : World} {base e size n : Nat} {v : Value} {xs : List Value} (h : w.ownsRow base e size v n xs) (k : Frm S w w') (hn : ∀ g, v.ownBlock = some g → ¬ S g) : w'.ownsRow base e size v n xs := by
 refine ⟨h.1, ?_⟩
 rcases h.2 with hn | ⟨g, cap, cur, rfl, hb, hgg, rest⟩
 ·exact .inl hn
 ·exact .inr ⟨g, cap, cur, rfl, hb, (k.block g (Array.getElem?_eq_some_iff.1 hgg).1 (hn g rfl)).trans hgg, rest⟩
theorem own_base {w : World} {base base' e size n : Nat} {v : Value} {xs : List Value} (h : w.ownsRow base e size v n xs) (hb : base' ≤ base) : w.ownsRow base' e size v n xs := by
 refine ⟨h.1, ?_⟩
 rcases h.2 with hn | ⟨g, cap, cur, rfl, hb', rest⟩
 ·exact .inl hn
 ·exact .inr ⟨g, cap, cur, rfl, by omega, rest⟩
/-- What a thing that lies about in memory is: it holds behind what does not touch its own, and may be said of more. -/
structure Lies {α β : Type} (X : (Nat → Prop) → World → α → β → Prop) : Prop where
 frm : ∀ {S T : Nat → Prop} {w w' : World} {a : α} {b : β}, X S w a b → Frm T w w' → (∀ j, S j → ¬ T j) → X S w' a b
 mono : ∀ {S S' : Nat → Prop} {w : World} {a : α} {b : β}, X S w a b → (∀ j, S j → j < w.heap.size → S' j) → X S' w a b
theorem liesE : Lies (fun S w (e : Ev) x => EV w S e x) := ⟨fun h k hT => h.frm k hT, fun h hS => h.mono hS⟩
theorem liesN : Lies (fun S w (y : Int × Ev) x => EV w S y.2 x) := ⟨fun h k hT => h.frm k hT, fun h hS => h.mono hS⟩
theorem liesP : Lies (fun S w (p : Pk) x => BV w S x p.data) := ⟨fun h k hT => h.frm k hT, fun h hS => h.mono hS⟩
/-- A row of the call's own. -/
def OutG {α β : Type} (f : α → β → List Value) (k te : Nat) (X : (Nat → Prop) → World → α → β → Prop) (base : Nat) (S : Nat → Prop) (w : World) (v : Value) (l : List α) : Prop :=
 ∃ vs : List β, w.ownsRow base te k v l.length (rowsG f l vs) ∧ vs.length = l.length ∧ (∀ (i : Nat) (a : α) (b : β), l[i]? = some a → vs[i]? = some b → X S w a b) ∧ (∀ j, v.ownBlock = some j → ¬ S j)
section
variable {α β : Type} {f : α → β → List Value} {k te : Nat} {X : (Nat → Prop) → World → α → β → Prop} {base : Nat} {S T : Nat → Prop} {w w' : World} {v : Value} {l : List α}
theorem OutG.nil (f : α → β → List Value) (k te : Nat) (X : (Nat → Prop) → World → α → β → Prop) (base : Nat) (S : Nat → Prop) (w : World) : OutG f k te X base S w (.slice none 0 0) ([] : List α) :=
 ⟨[], World.ownsRow_nil _ _ _ _, rfl, fun i a b h => by simp at h, fun j h => by cases h⟩
theorem OutG.frm (hX : Lies X) (h : OutG f k te X base S w v l) (kf : Frm T w w') (hT : ∀ j, S j → ¬ T j) (hv : ∀ j, v.ownBlock = some j → ¬ T j) : OutG f k te X base S w' v l := by
 obtain ⟨vs, h1, h2, h3, h4⟩ := h
 exact ⟨vs, own_frm h1 kf hv, h2, fun i a b ha hb => hX.frm (h3 i a b ha hb) kf hT, h4⟩
theorem OutG.below (hX : Lies X) (h : OutG f k te X base S w v l) (kb : Below w.heap.size w w') : OutG f k te X base S w' v l :=
 h.frm hX (Frm.of_below (S := fun _ => False) kb) (fun _ _ h => h) (fun _ _ h => h)
theorem OutG.form (h : OutG f k te X base S w v l) : ∃ A c, v = .slice A l.length c := by
 obtain ⟨vs, h1, _⟩ := h
 exact own_slice' h1
theorem OutG.row (hf1 : ∀ a b, X S w a b → ∀ u ∈ f a b, u.oneCell' = true) (h : OutG f k te X base S w v l) : RowV f k (X S) w v l := by
 obtain ⟨vs, h1, h2, h3, _⟩ := h
 exact ⟨vs, h2, Sl.of_own h1 (rowsG_all _ l vs (fun i a b ha hb => hf1 a b (h3 i a b ha hb))), h3⟩
theorem OutG.own (h : OutG f k te X base S w v l) : ∀ j, v.ownBlock = some j → base ≤ j ∧ j < w.heap.size := by
 obtain ⟨vs, h1, _⟩ := h
 exact fun j hj => h1.lt j hj
/-- One thing more: w the world ahead, W1 that in which the thing was laid, W2 that of the append. -/
theorem OutG.snoc (hX : Lies X) {a : α} {b : β} {W1 W2 : World} {v' : Value} {T' : Nat → Prop} {vs : List β} (h1 : w.ownsRow base te k v l.length (rowsG f l vs)) (h2 : vs.length = l.length) (h3 : ∀ (i : Nat) (a : α) (b : β), l[i]? = some a → vs[i]? = some b → X S w a b) (h4 : ∀ j, v.ownBlock = some j → ¬ S j) (k1 : Below w.heap.size w W1) (hx : X T' W1 a b) (hT' : ∀ j, T' j → w.heap.size ≤ j) {o : Obj}
  (hfr : Frm (fun j => v.ownBlock = some j) (W1.alloc o) W2) (hown : W2.ownsRow base te k v' (l.length + 1) (rowsG f l vs ++ f a b)) (hat : v'.ownBlock = v.ownBlock ∨ v'.ownBlock = some (W1.alloc o).heap.size) :
  OutG f k te X base (fun j => (S j ∧ j < w.heap.size) ∨ (T' j ∧ j < W1.heap.size)) W2 v' (l ++ [a]) := by
 have hlt := h1.lt
 have F : Frm (fun j => v.ownBlock = some j) w W2 := (((Frm.of_below k1).alloc o)).trans hfr
 have F1 : Frm (fun j => v.ownBlock = some j) W1 W2 := ((Frm.refl _ W1).alloc o).trans hfr
 have sz := k1.size
 refine ⟨vs ++ [b], ?_, by simp [h2], fun i a' b' ha hb => ?_, fun j hj hS => ?_⟩
 ·rw [rowsG_snoc l a vs b h2, List.length_append]
  exact hown
 ·by_cases hi : i < l.length
  ·rw [List.getElem?_append_left hi] at ha
   rw [List.getElem?_append_left (by omega)] at hb
   have g1 := hX.mono (S' := fun j => S j ∧ j < w.heap.size) (h3 i a' b' ha hb) (fun j hj hl => ⟨hj, hl⟩)
   have g2 := hX.frm g1 F (fun j hj e => h4 j e hj.1)
   exact hX.mono g2 (fun j hj _ => .inl hj)
  ·have hi2 : i < (l ++ [a]).length := (List.getElem?_eq_some_iff.1 ha).1
   simp only [List.length_append, List.length_cons, List.length_nil] at hi2
   obtain rfl : i = l.length := by omega
   rw [List.getElem?_append_right (Nat.le_refl _), Nat.sub_self] at ha
   rw [List.getElem?_append_right (by omega), h2, Nat.sub_self] at hb
   simp only [List.getElem?_cons_zero, Option.some.injEq] at ha hb
   subst ha
   subst hb
   have g1 := hX.mono (S' := fun j => T' j ∧ j < W1.heap.size) hx (fun j hj hl => ⟨hj, hl⟩)
   have g2 := hX.frm g1 F1 (fun j hj e => by have := (hlt j e).2; have := hT' j hj.1; omega)
   exact hX.mono g2 (fun j hj _ => .inr hj)
 ·rcases hat with e | e
  ·rw [e] at hj
   have := hlt j hj
   rcases hS with hS | hS
   ·exact h4 j hj hS.1
   ·have := hT' j hS.1
    omega
  ·rw [e] at hj
   injection hj with hj
   have : (W1.alloc o).heap.size = W1.heap.size + 1 := by simp
   rcases hS with hS | hS <;> omega
end
theorem Tryz.info29 : (Tryz.prog.info? 29).map (fun i => (i.zero, i.size, i.bytes)) = some (some (.agg #[.int .i64 0, .int .i64 0, .slice none 0 0, .int .i64 0, .int .i64 0, .int .i64 0, .int .i64 0, .int .i64 0, .slice none 0 0, .bool false, .int .i64 0, .int .i64 0]), 12, 128) := by kernel_rfl
theorem Tryz.info52 : (Tryz.prog.info? 52).map (fun i => (i.zero, i.size, i.bytes)) = some (some (.agg #[.int .i64 0, .int .i64 0, .int .i64 0, .slice none 0 0, .int .i64 0, .int .i64 0, .int .i64 0, .int .i64 0, .int .i64 0, .slice none 0 0, .bool false, .int .i64 0, .int .i64 0]), 13, 136) := by kernel_rfl
theorem Tryz.info27 : (Tryz.prog.info? 27).map (fun i => (i.zero, i.size, i.bytes)) = some (some (.agg #[.int .i64 0, .int .i64 0, .int .i64 0, .int .i64 0, .int .i64 0, .slice none 0 0, .bool false, .int .i64 0, .int .i64 0]), 9, 88) := by kernel_rfl
theorem BV.one {w : World} {S : Nat → Prop} {v : Value} {l : List Int} (h : BV w S v l) : v.oneCell' = true := by
 obtain ⟨A, c, rfl, _⟩ := h
 rfl
theorem EV.one {w : World} {S : Nat → Prop} {e : Ev} {x : Value × Value} (h : EV w S e x) : ∀ u ∈ ecells e x, u.oneCell' = true := by
 intro u hu
 simp only [ecells, List.mem_cons, List.not_mem_nil, or_false] at hu
 rcases hu with rfl | rfl | rfl | rfl | rfl | rfl | rfl | rfl | rfl | rfl | rfl | rfl
 ·rfl
 ·rfl
 ·exact h.1.one
 ·rfl
 ·rfl
 ·rfl
 ·rfl
 ·rfl
 ·exact h.2.one
 ·rfl
 ·rfl
 ·rfl
theorem EV.one' {w : World} {S : Nat → Prop} {y : Int × Ev} {x : Value × Value} (h : EV w S y.2 x) : ∀ u ∈ ncells y x, u.oneCell' = true := by
 intro u hu
 rcases List.mem_cons.1 hu with rfl | hu
 ·rfl
 ·exact EV.one h u hu
/-- One thing in a block of its own. -/
theorem Sl.boxk (w : World) (e : TypeId) (k : Nat) (cs : List Value) (h : Nat) (hh : h = w.heap.size) (hk : cs.length = k) (h1 : ∀ u ∈ cs, u.oneCell' = true) : Sl (w.alloc (.cells cs.toArray e)) k (.slice (some ⟨h, 0, none⟩) 1 1) 1 cs := by
 subst hh
 refine ⟨_, 1, rfl, Nat.le_refl _, by simp [maxLen], by omega, h1, fun _ => ⟨_, rfl, fun j u hj => ?_⟩⟩
 have ha : (⟨w.heap.size, 0, none⟩ : Addr).add j = ⟨w.heap.size, j, none⟩ := by unfold Addr.add; split <;> simp_all
 rw [ha, (Blk.new w cs.toArray e).cell j]
 simpa using hj
abbrev NRow (S : Nat → Prop) (w : World) (v : Value) (ns : List (Int × Ev)) : Prop := RowV ncells 13 (fun w y x => EV w S y.2 x) w v ns
def only (s : Int) (ns : List (Int × Ev)) : List Ev := (ns.filter (fun y => y.1 == s)).map (·.2)
theorem only_snoc (s : Int) (ns : List (Int × Ev)) (k : Nat) (y : Int × Ev) (h : ns[k]? = some y) : only s (ns.take (k + 1)) = if y.1 = s then only s (ns.take k) ++ [y.2] else only s (ns.take k) := by
 unfold only
 rw [List.take_add_one, h]
 simp only [Option.toList_some, List.filter_append, List.map_append]
 by_cases e : y.1 = s
 ·simp [e]
 ·simp [e]
theorem only_length (s : Int) (ns : List (Int × Ev)) : (only s ns).length ≤ ns.length := by
 unfold only
 rw [List.length_map]
 exact List.length_filter_le _ _
theorem NRow.below {S : Nat → Prop} {w w' : World} {v : Value} {ns : List (Int × Ev)} (h : NRow S w v ns) (k : Below w.heap.size w w') : NRow S w' v ns :=
 RowV.below h k (fun a b hab => ⟨hab.1.below k, hab.2.below k⟩)
/-- The cells of an entry at an address. -/
def NCells (w : World) (p : Addr) (s : Int) (e : Ev) (x : Value × Value) : Prop :=
 w.cell? p = some (.int .i64 s) ∧ w.cell? ⟨p.block, p.off + 1, none⟩ = some (.int .i64 e.kind) ∧ w.cell? ⟨p.block, p.off + 2, none⟩ = some (.int .i64 e.n) ∧ w.cell? ⟨p.block, p.off + 3, none⟩ = some x.1 ∧ w.cell? ⟨p.block, p.off + 4, none⟩ = some (.int .i64 e.pk.kind) ∧ w.cell? ⟨p.block, p.off + 5, none⟩ = some (.int .i64 e.pk.path) ∧ w.cell? ⟨p.block, p.off + 6, none⟩ = some (.int .i64 e.pk.number) ∧
  w.cell? ⟨p.block, p.off + 7, none⟩ = some (.int .i64 e.pk.of_) ∧ w.cell? ⟨p.block, p.off + 8, none⟩ = some (.int .i64 e.pk.from_) ∧ w.cell? ⟨p.block, p.off + 9, none⟩ = some x.2 ∧ w.cell? ⟨p.block, p.off + 10, none⟩ = some (.bool e.pk.fin) ∧ w.cell? ⟨p.block, p.off + 11, none⟩ = some (.int .i64 e.pk.seen) ∧ w.cell? ⟨p.block, p.off + 12, none⟩ = some (.int .i64 e.pk.limit)
theorem NRow.ev {S : Nat → Prop} {w : World} {A : Option Addr} {n c : Nat} {ns : List (Int × Ev)} (h : NRow S w (.slice A n c) ns) {i : Nat} (hi : i < ns.length) : ∃ ad s e x y, A = some ad ∧ ns[i]? = some (s, e) ∧ EV w S e (x, y) ∧ NCells w (ad.add (i * 13)) s e (x, y) := by
 obtain ⟨ad, ⟨s, e⟩, ⟨x, y⟩, rfl, he, hx, hc⟩ := RowV.at_ h (by omega) ncells_len hi
 have h0 := hc 0 _ rfl
 rw [addr_zero] at h0
 have g := fun (j : Nat) (hj : j ≠ 0) (u : Value) (hu : (ncells (s, e) (x, y))[j]? = some u) => by
  have := hc j u hu
  rw [addr_pos _ _ hj] at this
  exact this
 exact ⟨ad, s, e, x, y, rfl, he, hx, h0, g 1 (by omega) _ rfl, g 2 (by omega) _ rfl, g 3 (by omega) _ rfl, g 4 (by omega) _ rfl, g 5 (by omega) _ rfl, g 6 (by omega) _ rfl, g 7 (by omega) _ rfl, g 8 (by omega) _ rfl, g 9 (by omega) _ rfl, g 10 (by omega) _ rfl, g 11 (by omega) _ rfl, g 12 (by omega) _ rfl⟩
end

section
theorem tk {P : Program} {ops : Array Oper} {Q : Exit → Act → World → Prop} {md : Region.Mode} {S : World → Prop} (i : Nat) {oi : Oper} {v : Value} {fuel : Nat} {ls ls' : Array Bool} {a a' : Act} {w : World} (hi : ops[i]? = some oi)
  (h : wpAnyH P md ops Q S fuel ls' a' w) (hs : Region.noSelect ops = true := by kernel_rfl) (hf : Region.free md ops ls i = true := by kernel_rfl) (hr : (Region.ready md ops ls).contains i = true := by kernel_rfl)
  (hQ : ∀ c a w, Q (.panic c) (a.put oi.dst v) w → Q (.panic c) a w := by exact fun _ _ _ h => h) (hw : Region.wanted oi (yielded ops a.tmps) = true := by rfl)
  (hv : ∀ w, S w → (execOp a.eval oi).run P w = .ok (.value v) w := by intro w hSw; (try dsimp only at hSw); go_simp; first | done | with_reducible rfl)
  (ha : a.put oi.dst v = a' := by (try simp only [Act.put, List.setIfInBounds_toArray, List.set_cons_zero, List.set_cons_succ]); rfl)
  (hl : ls.setIfInBounds i true = ls' := by (try simp only [List.setIfInBounds_toArray, List.set_cons_zero, List.set_cons_succ]); rfl) (hS : S w := by assumption) : wpAnyH P md ops Q S (fuel + 1) ls a w := by
 subst ha hl
 exact wpAnyH_take hi hs hf hr hQ (.inl ⟨hw, hv⟩) hS h
theorem sk {P : Program} {ops : Array Oper} {Q : Exit → Act → World → Prop} {md : Region.Mode} {S : World → Prop} (i : Nat) {oi : Oper} {fuel : Nat} {ls ls' : Array Bool} {a a' : Act} {w : World} (hi : ops[i]? = some oi)
  (h : wpAnyH P md ops Q S fuel ls' a' w) (hs : Region.noSelect ops = true := by kernel_rfl) (hf : Region.free md ops ls i = true := by kernel_rfl) (hr : (Region.ready md ops ls).contains i = true := by kernel_rfl)
  (hQ : ∀ c a w, Q (.panic c) (a.put oi.dst undef) w → Q (.panic c) a w := by exact fun _ _ _ h => h) (hw : Region.wanted oi (yielded ops a.tmps) = false := by rfl)
  (ha : a.put oi.dst undef = a' := by (try simp only [Act.put, List.setIfInBounds_toArray, List.set_cons_zero, List.set_cons_succ]); rfl)
  (hl : ls.setIfInBounds i true = ls' := by (try simp only [List.setIfInBounds_toArray, List.set_cons_zero, List.set_cons_succ]); rfl) (hS : S w := by assumption) : wpAnyH P md ops Q S (fuel + 1) ls a w := by
 subst ha hl
 exact wpAnyH_take hi hs hf hr hQ (.inr ⟨hw, rfl⟩) hS h
end
end Go.Proofs.YtdneakejlbabeaaGreat
