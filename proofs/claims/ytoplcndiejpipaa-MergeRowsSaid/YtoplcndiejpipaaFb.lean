/- slices.Clone of bytes, and an event in new memory. -/
import Derived.Test.YtoplcndiejpipaaFa
import Derived.RegionTactic
import Derived.Lib.SliceRun
import Derived.Deep.RegionWith
namespace Go.Proofs.Ytoplcndiejpipaa
open Go.RowKit
set_option linter.unusedVariables false
set_option linter.unusedSimpArgs false

theorem own_slice' {w : World} {base e size n : Nat} {v : Value} {xs : List Value} (h : w.ownsRow base e size v n xs) : ∃ A c, v = .slice A n c := by
  rcases h.2 with ⟨rfl, rfl⟩ | ⟨g, cap, cur, rfl, _⟩
  · exact ⟨none, 0, rfl⟩
  · exact ⟨_, cap, rfl⟩
theorem Try.info5 : (Try.prog.info? 5).map (fun i => (i.zero, i.size, i.bytes)) = some (some (.int .u8 0), 1, 1) := by kernel_rfl
theorem BV.len {w : World} {S : Nat → Prop} {v : Value} {l : List Int} (h : BV w S v l) : ∃ A c, v = .slice A l.length c ∧ l.length ≤ c ∧ c ≤ maxLen := by
  obtain ⟨A, c, rfl, h1, _⟩ := h
  obtain ⟨A', c', e, h2, h3, _⟩ := h1
  injection e with e1 e2 e3
  subst e3
  exact ⟨A, c, rfl, h2, h3⟩

set_option maxHeartbeats 1000000 in
set_option maxRecDepth 100000 in
theorem clone_any (w : World) (S : Nat → Prop) (v : Value) (l : List Int) (h : BV w S v l) (hl : l.length ≤ 1000000) :
    Calls Try.prog 19 #[v] w fun e w' => ∃ v', e = .returned v' ∧ BV w' (fun j => w.heap.size ≤ j) v' l ∧ Below w.heap.size w w' := by
  obtain ⟨A, c, rfl, h1, h2, h3⟩ := h
  obtain ⟨n, hn⟩ : ∃ n, l.length = n := ⟨_, rfl⟩
  rw [hn] at h1 ⊢
  have HB := Lib.hid h3
  have HN := Lib.hid hn
  rcases A with _ | a
  · have l0 : l = [] := by
      obtain ⟨A', c', e, _, _, h6, _, h5⟩ := h1
      injection e with e1
      subst e1
      cases l with
      | nil => rfl
      | cons x l => obtain ⟨_, e, _⟩ := h5 (by simp [u8s]); cases e
    have L0 := Lib.hid l0
    clear h1 h2 h3 hn l0
    have hq : ∀ (w : World) (a : Option Addr) (n c n' c' : Nat), (binOp .eql 23 (.slice a n c) (.slice none n' c')).run Try.prog w = .ok (.bool a.isNone) w := fun w a n c n' c' => Lib.run_eql_slice_nil w _ _ a n c n' c' Try.underlying23
    go_enter Try.func19, Try.ntmps19
    go_wp2
    go_ret
    refine ⟨_, rfl, ?_, Below.refl _ _⟩
    rw [L0.out]
    exact BV.nil _ _
  · have HI := Lib.hid Try.info5
    have H := Lib.hid (h1.alloc (.cells #[] 5))
    have OW : Hid ((w.alloc (.cells #[] 5)).ownsRow w.heap.size 5 1 (.slice (some ⟨w.heap.size, 0, none⟩) 0 0) 0 []) := Lib.hid (World.ownsRow_lit w #[] 0 (Nat.le_refl _) (by simp) rfl)
    have hnl : n ≤ 1000000 := by omega
    clear h1 h2 h3 hn hl
    have hq : ∀ (w : World) (a : Option Addr) (n c n' c' : Nat), (binOp .eql 23 (.slice a n c) (.slice none n' c')).run Try.prog w = .ok (.bool a.isNone) w := fun w a n c n' c' => Lib.run_eql_slice_nil w _ _ a n c n' c' Try.underlying23
    go_enter Try.func19, Try.ntmps19
    go_wp2_with (at_builtin; refine wp_app w.heap.size rfl _ _ 23 5 (.int .u8 0) 1 1 rfl Try.underlying23 HI.out rfl (by omega) (by omega) rfl rfl OW.out H.out (by omega) (by simp) ?_; intro v2 w2 hown hfr hat)
    go_ret
    have hb := Frm.below ((Below.refl w.heap.size w).alloc (Nat.le_refl _) (.cells #[] 5)) hfr (by simp) (fun i e => by injection e with e; simp only at e; omega)
    rw [Nat.zero_add, List.nil_append] at hown
    obtain ⟨A2, c2, rfl⟩ := own_slice' hown
    have hn' := HN.out
    subst hn'
    exact ⟨_, rfl, ⟨A2, c2, rfl, Sl.of_own hown (u8s_one _), fun _ j hj => hown.lt j hj, HB.out⟩, hb⟩

theorem cells12 {W : World} {g : Nat} {a0 a1 a2 a3 a4 a5 a6 a7 a8 a9 a10 a11 : Value} {t : TypeId} (h : Blk W g #[a0, a1, a2, a3, a4, a5, a6, a7, a8, a9, a10, a11] t) :
    W.cell? ⟨g, 0, none⟩ = some a0 ∧ W.cell? ⟨g, 1, none⟩ = some a1 ∧ W.cell? ⟨g, 2, none⟩ = some a2 ∧ W.cell? ⟨g, 3, none⟩ = some a3 ∧ W.cell? ⟨g, 4, none⟩ = some a4 ∧ W.cell? ⟨g, 5, none⟩ = some a5 ∧ W.cell? ⟨g, 6, none⟩ = some a6 ∧ W.cell? ⟨g, 7, none⟩ = some a7 ∧ W.cell? ⟨g, 8, none⟩ = some a8 ∧ W.cell? ⟨g, 9, none⟩ = some a9 ∧ W.cell? ⟨g, 10, none⟩ = some a10 ∧ W.cell? ⟨g, 11, none⟩ = some a11 :=
  ⟨h.cell 0, h.cell 1, h.cell 2, h.cell 3, h.cell 4, h.cell 5, h.cell 6, h.cell 7, h.cell 8, h.cell 9, h.cell 10, h.cell 11⟩
theorem Try.size27 : (Try.prog.info? 27).map (·.size) = some 12 := by kernel_rfl
/-- An event in new memory. -/
def Owned (w : World) (e : Ev) (r : Ending) (w' : World) : Prop := ∃ x y, r = .returned (eagg e x y) ∧ EV w' (fun j => w.heap.size ≤ j) e (x, y) ∧ Below w.heap.size w w'

set_option maxHeartbeats 4000000 in
set_option maxRecDepth 100000 in
theorem own_any (w : World) (S : Nat → Prop) (e : Ev) (x y : Value) (h : EV w S e (x, y)) (h1 : e.data.length ≤ 1000000) (h2 : e.pk.data.length ≤ 1000000) :
    Calls Try.prog 14 #[eagg e x y] w fun r w' => Owned w e r w' := by
  obtain ⟨k, n, d, p0, p1, p2, p3, p4, p5, p6, p7, p8⟩ := e
  obtain ⟨g, g'⟩ := h
  simp only at g g' h1 h2 ⊢
  obtain ⟨A, c, rfl, _⟩ := g.len
  obtain ⟨B, b, rfl, _⟩ := g'.len
  have hb0 : Below w.heap.size w (((w.alloc (.cells #[.int .i64 k, .int .i64 n, .slice A d.length c, .int .i64 p0, .int .i64 p1, .int .i64 p2, .int .i64 p3, .int .i64 p4, .slice B p5.length b, .bool p6, .int .i64 p7, .int .i64 p8] 27)).alloc (.cells #[.int .i64 0, .int .i64 0, .slice none 0 0, .int .i64 0, .int .i64 0, .int .i64 0, .int .i64 0, .int .i64 0, .slice none 0 0, .bool false, .int .i64 0, .int .i64 0] 27)).drew) := (((Below.refl _ _).alloc (Nat.le_refl _) _).alloc (by simp) _).drew
  have BX : Hid (Blk (((w.alloc (.cells #[.int .i64 k, .int .i64 n, .slice A d.length c, .int .i64 p0, .int .i64 p1, .int .i64 p2, .int .i64 p3, .int .i64 p4, .slice B p5.length b, .bool p6, .int .i64 p7, .int .i64 p8] 27)).alloc (.cells #[.int .i64 0, .int .i64 0, .slice none 0 0, .int .i64 0, .int .i64 0, .int .i64 0, .int .i64 0, .int .i64 0, .slice none 0 0, .bool false, .int .i64 0, .int .i64 0] 27)).drew) w.heap.size #[.int .i64 k, .int .i64 n, .slice A d.length c, .int .i64 p0, .int .i64 p1, .int .i64 p2, .int .i64 p3, .int .i64 p4, .slice B p5.length b, .bool p6, .int .i64 p7, .int .i64 p8] 27) := Lib.hid (((Blk.new w #[.int .i64 k, .int .i64 n, .slice A d.length c, .int .i64 p0, .int .i64 p1, .int .i64 p2, .int .i64 p3, .int .i64 p4, .slice B p5.length b, .bool p6, .int .i64 p7, .int .i64 p8] 27).alloc _).drew)
  have BZ : Hid (Blk (((w.alloc (.cells #[.int .i64 k, .int .i64 n, .slice A d.length c, .int .i64 p0, .int .i64 p1, .int .i64 p2, .int .i64 p3, .int .i64 p4, .slice B p5.length b, .bool p6, .int .i64 p7, .int .i64 p8] 27)).alloc (.cells #[.int .i64 0, .int .i64 0, .slice none 0 0, .int .i64 0, .int .i64 0, .int .i64 0, .int .i64 0, .int .i64 0, .slice none 0 0, .bool false, .int .i64 0, .int .i64 0] 27)).drew) (w.heap.size + 1) #[.int .i64 0, .int .i64 0, .slice none 0 0, .int .i64 0, .int .i64 0, .int .i64 0, .int .i64 0, .int .i64 0, .slice none 0 0, .bool false, .int .i64 0, .int .i64 0] 27) := Lib.hid (by
    have := Blk.new (w.alloc (.cells #[.int .i64 k, .int .i64 n, .slice A d.length c, .int .i64 p0, .int .i64 p1, .int .i64 p2, .int .i64 p3, .int .i64 p4, .slice B p5.length b, .bool p6, .int .i64 p7, .int .i64 p8] 27)) #[.int .i64 0, .int .i64 0, .slice none 0 0, .int .i64 0, .int .i64 0, .int .i64 0, .int .i64 0, .int .i64 0, .slice none 0 0, .bool false, .int .i64 0, .int .i64 0] 27
    have e : (w.alloc (.cells #[.int .i64 k, .int .i64 n, .slice A d.length c, .int .i64 p0, .int .i64 p1, .int .i64 p2, .int .i64 p3, .int .i64 p4, .slice B p5.length b, .bool p6, .int .i64 p7, .int .i64 p8] 27)).heap.size = w.heap.size + 1 := by simp
    rw [e] at this
    exact this)
  have G := Lib.hid (g.frm (Frm.of_below (S := fun _ => False) hb0) (fun _ _ h => h))
  have G' := Lib.hid (g'.frm (Frm.of_below (S := fun _ => False) hb0) (fun _ _ h => h))
  have B0 := Lib.hid hb0
  have SZ : Hid ((((w.alloc (.cells #[.int .i64 k, .int .i64 n, .slice A d.length c, .int .i64 p0, .int .i64 p1, .int .i64 p2, .int .i64 p3, .int .i64 p4, .slice B p5.length b, .bool p6, .int .i64 p7, .int .i64 p8] 27)).alloc (.cells #[.int .i64 0, .int .i64 0, .slice none 0 0, .int .i64 0, .int .i64 0, .int .i64 0, .int .i64 0, .int .i64 0, .slice none 0 0, .bool false, .int .i64 0, .int .i64 0] 27)).drew).heap.size = w.heap.size + 2) := Lib.hid (by simp)
  clear g g' hb0
  go_enter Try.func14, Try.ntmps14
  go_wp2_with fail
  go_region_with ((first | (go_at_call 19; (with_reducible refine (clone_any _ S _ d G.out h1).mono ?_); rintro r w1 ⟨v1, rfl, hv1, hb1⟩; obtain ⟨A1, c1, rfl, _⟩ := hv1.len; have hX := Blk.below BX.out hb1; have hc8 := hX.cell 8; simp at hc8; have X1 := Lib.hid hX; have V1 := Lib.hid hv1; have B1 := Lib.hid hb1; clear hv1 hb1 hX) | (go_at_call 19; (with_reducible refine (clone_any w1 S _ p5 (G'.out.below B1.out) h2).mono ?_); rintro r w2 ⟨v2, rfl, hv2, hb2⟩; obtain ⟨A2, c2, rfl, _⟩ := hv2.len; have hX := Blk.below X1.out hb2; have X2 := Lib.hid hX; have V2 := Lib.hid hv2; have B2 := Lib.hid hb2; obtain ⟨f0, f1, f2, f3, f4, f5, f6, f7, f8, f9, f10, f11⟩ := cells12 hX; have fr2 := hX.free 2; have fr8 := hX.free 8; clear hv2 hb2 hX) | fail))
  all_goals
    have hZ : Blk w2 (w.heap.size + 1) _ 27 := Blk.below (Blk.below BZ.out B1.out) B2.out
    obtain ⟨g0, g1, g2, g3, g4, g5, g6, g7, g8, g9, g10, g11⟩ := cells12 hZ
    have fz0 := hZ.free 0
    have fz1 := hZ.free 1
    have fz2 := hZ.free 2
    have fz3 := hZ.free 3
    have fz4 := hZ.free 4
    have fz5 := hZ.free 5
    have fz6 := hZ.free 6
    have fz7 := hZ.free 7
    have fz8 := hZ.free 8
    have fz9 := hZ.free 9
    have fz10 := hZ.free 10
    have fz11 := hZ.free 11
    have HZ := Lib.hid hZ
    clear hZ
    go_wp2_with fail
    have hZ := HZ.out
    have b2 : Below w.heap.size w w2 := (B0.out.trans (B1.out.mono B0.out.size)).trans (B2.out.mono (B0.out.trans (B1.out.mono B0.out.size)).size)
    have hfin := ((((((((((((((hZ.far (p := ⟨w.heap.size, 2, none⟩) (by simp) (.slice A1 d.length c1)).far (p := ⟨w.heap.size, 8, none⟩) (by simp) (.slice A2 p5.length c2)).set 0 (.int .i64 k)).set 1 (.int .i64 n)).set 2 (.slice A1 d.length c1)).set 3 (.int .i64 p0)).set 4 (.int .i64 p1)).set 5 (.int .i64 p2)).set 6 (.int .i64 p3)).set 7 (.int .i64 p4)).set 8 (.slice A2 p5.length c2)).set 9 (.bool p6)).set 10 (.int .i64 p7)).set 11 (.int .i64 p8))
    have hbel := (((((((((((((b2.setCell (p := ⟨w.heap.size, 2, none⟩) (by exact Nat.le_refl _) (.slice A1 d.length c1)).setCell (p := ⟨w.heap.size, 8, none⟩) (by exact Nat.le_refl _) (.slice A2 p5.length c2)).setCell (p := ⟨w.heap.size + 1, 0, none⟩) (by exact Nat.le_succ _) (.int .i64 k)).setCell (p := ⟨w.heap.size + 1, 1, none⟩) (by exact Nat.le_succ _) (.int .i64 n)).setCell (p := ⟨w.heap.size + 1, 2, none⟩) (by exact Nat.le_succ _) (.slice A1 d.length c1)).setCell (p := ⟨w.heap.size + 1, 3, none⟩) (by exact Nat.le_succ _) (.int .i64 p0)).setCell (p := ⟨w.heap.size + 1, 4, none⟩) (by exact Nat.le_succ _) (.int .i64 p1)).setCell (p := ⟨w.heap.size + 1, 5, none⟩) (by exact Nat.le_succ _) (.int .i64 p2)).setCell (p := ⟨w.heap.size + 1, 6, none⟩) (by exact Nat.le_succ _) (.int .i64 p3)).setCell (p := ⟨w.heap.size + 1, 7, none⟩) (by exact Nat.le_succ _) (.int .i64 p4)).setCell (p := ⟨w.heap.size + 1, 8, none⟩) (by exact Nat.le_succ _) (.slice A2 p5.length c2)).setCell (p := ⟨w.heap.size + 1, 9, none⟩) (by exact Nat.le_succ _) (.bool p6)).setCell (p := ⟨w.heap.size + 1, 10, none⟩) (by exact Nat.le_succ _) (.int .i64 p7)).setCell (p := ⟨w.heap.size + 1, 11, none⟩) (by exact Nat.le_succ _) (.int .i64 p8)
    have hfrm := ((((((((((((((Frm.refl (fun j => j = w.heap.size ∨ j = w.heap.size + 1) w2).setCell (p := ⟨w.heap.size, 2, none⟩) (.inl (.inl rfl)) (.slice A1 d.length c1)).setCell (p := ⟨w.heap.size, 8, none⟩) (.inl (.inl rfl)) (.slice A2 p5.length c2)).setCell (p := ⟨w.heap.size + 1, 0, none⟩) (.inl (.inr rfl)) (.int .i64 k)).setCell (p := ⟨w.heap.size + 1, 1, none⟩) (.inl (.inr rfl)) (.int .i64 n)).setCell (p := ⟨w.heap.size + 1, 2, none⟩) (.inl (.inr rfl)) (.slice A1 d.length c1)).setCell (p := ⟨w.heap.size + 1, 3, none⟩) (.inl (.inr rfl)) (.int .i64 p0)).setCell (p := ⟨w.heap.size + 1, 4, none⟩) (.inl (.inr rfl)) (.int .i64 p1)).setCell (p := ⟨w.heap.size + 1, 5, none⟩) (.inl (.inr rfl)) (.int .i64 p2)).setCell (p := ⟨w.heap.size + 1, 6, none⟩) (.inl (.inr rfl)) (.int .i64 p3)).setCell (p := ⟨w.heap.size + 1, 7, none⟩) (.inl (.inr rfl)) (.int .i64 p4)).setCell (p := ⟨w.heap.size + 1, 8, none⟩) (.inl (.inr rfl)) (.slice A2 p5.length c2)).setCell (p := ⟨w.heap.size + 1, 9, none⟩) (.inl (.inr rfl)) (.bool p6)).setCell (p := ⟨w.heap.size + 1, 10, none⟩) (.inl (.inr rfl)) (.int .i64 p7)).setCell (p := ⟨w.heap.size + 1, 11, none⟩) (.inl (.inr rfl)) (.int .i64 p8)
    simp only [List.setIfInBounds_toArray, List.set_cons_zero, List.set_cons_succ] at hfin
    refine bodyPost_ret (results_cell_row rfl _ _ (w.heap.size + 1) 27 _ (0, 0) _ rfl hfin Try.underlying27 rfl Try.size27) rfl ?_
    refine ⟨.slice A1 d.length c1, .slice A2 p5.length c2, rfl, ⟨?_, ?_⟩, hbel⟩
    · exact ((V1.out.below B2.out).frm hfrm (fun j hj e => by have := SZ.out; omega)).mono (fun j hj _ => by have := SZ.out; omega)
    · exact (V2.out.frm hfrm (fun j hj e => by have := SZ.out; have := B1.out.size; omega)).mono (fun j hj _ => by have := SZ.out; have := B1.out.size; omega)
end Go.Proofs.Ytoplcndiejpipaa
