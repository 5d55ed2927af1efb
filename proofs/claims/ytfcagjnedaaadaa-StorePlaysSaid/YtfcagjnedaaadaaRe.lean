/- The reference's Cut. -/
import Derived.Test.YtfcagjnedaaadaaRd
import Derived.Deep.RegionHeld3
namespace Go.Proofs.Ytfcagjnedaaadaa
open Go.RowKit
set_option linter.unusedSimpArgs false
attribute [local go_sem] run_max2 run_min2 run_max_ run_min_

theorem RB1.mono {S S' : Nat → Prop} {L : Nat} {w : World} {x : Int × Bk} {v : Value} (h : RB1 w S L x v) (hS : ∀ j, S j → S' j) : RB1 w S' L x v := by
  obtain ⟨A, c, e1, e2, e3, e4⟩ := h
  exact ⟨A, c, e1, e2, fun h0 j hj => ⟨hS j (e3 h0 j hj).1, (e3 h0 j hj).2⟩, e4⟩
theorem rcells_set3 (l : List (Int × Bk)) (vs : List Value) (k : Nat) (x : Int × Bk) (v v' : Value) (b : List Int) (s : Int) (f : Bool) (hl : vs.length = l.length) (h1 : l[k]? = some x) (h2 : vs[k]? = some v) :
    (((rcells l vs).set (k * 4 + 1) v').set (k * 4 + 2) (.int .i64 s)).set (k * 4 + 3) (.bool f) = rcells (l.set k (x.1, (b, s, f))) (vs.set k v') := by
  have h := rcells_set l vs k x (x.1, (b, s, f)) v v' hl h1 h2
  rw [h]
  have e0 := rcells_get l vs k 0 x v h1 h2 (by omega)
  rw [set_same _ (k * 4) _ (by simpa [rcell] using e0)]

set_option maxHeartbeats 4000000 in
set_option maxRecDepth 100000 in
theorem rcut_go (w : World) (g : Nat) (S : Nat → Prop) (base L : Nat) (v : Value) (l : List (Int × Bk)) (dead armed : Bool) (N : Int) (h : RSt w g S base L v l dead armed N) (hl : l.length ≤ 1000) (hL : L ≤ 1000000) (n : Int) (to k : Nat) (x : Int × Bk) (hb0 : begI l dead n = ((k : Int), 0)) (hx : l[k]? = some x) (hto : to ≤ x.2.1.length) (hc : ¬ (armed = true ∧ N = 0)) (hN : -1000000 ≤ N ∧ N ≤ 1000000) :
    Calls Try.prog 24 #[.pointer (some ⟨g, 0, none⟩), .int .i64 n, .int .i64 to] w fun e w' => e = .returned (.int .i64 0) ∧ RSt w' g (fun j => S j ∨ w.heap.size ≤ j) base L v (l.set k (x.1, (x.2.1.take to, (to : Int), true))) dead armed (N - 1) ∧ Frm (fun j => j = g ∨ v.ownBlock = some j) w w' := by
  have H := Lib.hid h
  obtain ⟨vs, hb, ho, hvl, hv, hav⟩ := h.blk
  have hat : k < l.length := (List.getElem?_eq_some_iff.1 hx).1
  obtain ⟨ga, ca, rfl, hga⟩ := own_form ho (by omega)
  obtain ⟨u, hu⟩ : ∃ u, vs[k]? = some u := ⟨_, List.getElem?_eq_getElem (by omega)⟩
  obtain ⟨Bx, bx, hub, hrb⟩ := hv k x u hx hu
  subst hub
  have ngg : ga ≠ g := (hav ga rfl).1
  have hb1 : Blk (w.setCell ⟨g, 3, none⟩ (.int .i64 (N - 1))) g #[.slice (some ⟨ga, 0, none⟩) l.length ca, .bool dead, .bool armed, .int .i64 (N - 1)] 44 := by
    have := hb.set 3 (.int .i64 (N - 1))
    simpa using this
  have hf1 := (Frm.refl (· = g) w).setg (i := 3) (.int .i64 (N - 1))
  have ho1 := own_frm ho hf1 (fun j hj e => (hav j hj).1 e)
  obtain ⟨w1, hw1⟩ : ∃ W, W = w.setCell ⟨g, 3, none⟩ (.int .i64 (N - 1)) := ⟨_, rfl⟩
  rw [← hw1] at hb1 ho1 hf1
  have hsx : Sl w1 1 (.slice Bx x.2.1.length bx) x.2.1.length (u8s x.2.1) := by
    have hr := (hv k x _ hx hu).frm hf1 (fun j hj e => h.av j hj e)
    obtain ⟨A, c, e1, e2, _⟩ := hr
    exact e2
  have hxL : x.2.1.length ≤ L := by
    obtain ⟨A, c, e1, e2, e3, e4, e5, e6, e7⟩ := hv k x _ hx hu
    exact e6
  have HI := Lib.hid Try.info5
  obtain ⟨y0, y1, y2, y3⟩ := rcell_at ho1 hat hx hu
  have cg := hb1.cell 0
  have cw := hb.cell 0
  simp at cg cw
  obtain ⟨yw0, yw1, _, _⟩ := rcell_at ho hat hx hu
  have k1 : (k : Int) < (l.length : Int) := by omega
  have k0 : (0 : Int) ≤ (k : Int) := by omega
  obtain ⟨xl, hxl⟩ : ∃ m, x.2.1.length = m := ⟨_, rfl⟩
  rw [hxl] at y1 yw1 hto hsx hxL
  have t0 : (0 : Int) ≤ (to : Int) := by omega
  have t1 : ¬ (xl : Int) < (to : Int) := by omega
  have t2 : ¬ (to : Int) < 0 := by omega
  have hbx : xl ≤ bx := by
    obtain ⟨_, _, e, h1, _⟩ := hsx
    injection e with _ _ e3
    subst e3
    exact h1
  have t3 : (to : Int) ≤ (bx : Int) := by omega
  have t4 : to ≤ bx := by omega
  have HB := Lib.hid hb
  have HB1 := Lib.hid hb1
  have HO1 := Lib.hid ho1
  have HF1 := Lib.hid hf1
  have HV := Lib.hid hv
  have HAV := Lib.hid hav
  have HW1 := Lib.hid hw1
  have HXL := Lib.hid hxl
  have STK := Lib.hid ((hsx.take hto).drew)
  have KEEP : Hid (∀ W2, Frm (fun k => Value.ownBlock (.slice none 0 0) = some k) w1.drew W2 → W2.cell? ⟨g, 0, none⟩ = some (.slice (some ⟨ga, 0, none⟩) l.length ca) ∧ W2.cell? ⟨ga, k * 4 + 1, none⟩ = some (.slice Bx xl bx) ∧ W2.cell? ⟨ga, k * 4 + 2, none⟩ = some (.int .i64 x.2.2.1) ∧ W2.cell? ⟨ga, k * 4 + 3, none⟩ = some (.bool x.2.2.2) ∧ W2.frozen? ⟨ga, k * 4 + 1, none⟩ = false ∧ W2.frozen? ⟨ga, k * 4 + 2, none⟩ = false ∧ W2.frozen? ⟨ga, k * 4 + 3, none⟩ = false) := Lib.hid (fun W2 hfr => by
    have ho2 := own_frm (show w1.drew.ownsRow base 71 4 _ _ _ from ho1) hfr (fun _ _ e => by cases e)
    have hb2 : Blk W2 g _ 44 := Blk.frm (show Blk w1.drew g _ 44 from hb1) hfr (fun e => by cases e)
    obtain ⟨z0, z1, z2, z3⟩ := rcell_at ho2 hat hx hu
    rw [hxl] at z1
    have c0 := hb2.cell 0
    simp at c0
    exact ⟨c0, z1, z2, z3, ho2.frozenAt _, ho2.frozenAt _, ho2.frozenAt _⟩)
  have gal := (ho.lt ga rfl).2
  have gl := hb.lt
  have sz1 : w1.heap.size = w.heap.size := by rw [hw1]; simp [World.setCell]
  clear hb hb1 ho1 hf1 hv hav ho hw1 h hsx hxl hrb
  go_enter Try.func24, Try.ntmps24
  go_wp2_with fail
  refine (begin_any w g S base L _ l dead armed N H.out hl n _ _ hb0).mono ?_
  rintro e _ ⟨rfl, rfl⟩
  go_wp2_with fail
  refine (stops_go w g _ dead armed N HB.out hc hN).mono ?_
  rintro e _ ⟨rfl, rfl⟩
  rw [← HW1.out]
  clear cw yw0 yw1
  go_wp2_with fail
  refine wp_region_held_drew (S := fun w' => w'.cell? ⟨g, 0, none⟩ = some (.slice (some ⟨ga, 0, none⟩) l.length ca)) (by kernel_rfl) cg (fun hHeld => ?_)
  refine wpAnyH_take (i := 0) (v := ?_) rfl (by kernel_rfl) (by kernel_rfl) (by kernel_rfl) (fun _ _ _ h => h) (Or.inl ⟨by rfl, ?_⟩) (by assumption) ?_
  rotate_left
  · intro w hSw
    (try dsimp only at hSw)
    go_simp
    first | done | with_reducible rfl
  rotate_left
  (try simp only [Act.put, List.setIfInBounds_toArray, List.set_cons_zero, List.set_cons_succ])
  refine wpAnyH_take (i := 1) (v := ?_) rfl (by kernel_rfl) (by kernel_rfl) (by kernel_rfl) (fun _ _ _ h => h) (Or.inl ⟨by rfl, ?_⟩) (by assumption) ?_
  rotate_left
  · intro w hSw
    (try dsimp only at hSw)
    go_simp
    first | done | with_reducible rfl
  rotate_left
  (try simp only [Act.put, List.setIfInBounds_toArray, List.set_cons_zero, List.set_cons_succ])
  refine wpAnyH_take (i := 2) (v := ?_) rfl (by kernel_rfl) (by kernel_rfl) (by kernel_rfl) (fun _ _ _ h => h) (Or.inl ⟨by rfl, ?_⟩) (by assumption) ?_
  rotate_left
  · intro w hSw
    (try dsimp only at hSw)
    go_simp
    first | done | with_reducible rfl
  rotate_left
  (try simp only [Act.put, List.setIfInBounds_toArray, List.set_cons_zero, List.set_cons_succ])
  refine wpAnyH_take (i := 3) (v := ?_) rfl (by kernel_rfl) (by kernel_rfl) (by kernel_rfl) (fun _ _ _ h => h) (Or.inl ⟨by rfl, ?_⟩) (by assumption) ?_
  rotate_left
  · intro w hSw
    (try dsimp only at hSw)
    go_simp
    first | done | with_reducible rfl
  rotate_left
  (try simp only [Act.put, List.setIfInBounds_toArray, List.set_cons_zero, List.set_cons_succ])
  refine wpAnyH_take (i := 4) (v := ?_) rfl (by kernel_rfl) (by kernel_rfl) (by kernel_rfl) (fun _ _ _ h => h) (Or.inl ⟨by rfl, ?_⟩) (by assumption) ?_
  rotate_left
  · intro w hSw
    (try dsimp only at hSw)
    go_simp
    first | done | with_reducible rfl
  rotate_left
  (try simp only [Act.put, List.setIfInBounds_toArray, List.set_cons_zero, List.set_cons_succ])
  refine wpAnyH_take (i := 5) (v := ?_) rfl (by kernel_rfl) (by kernel_rfl) (by kernel_rfl) (fun _ _ _ h => h) (Or.inl ⟨by rfl, ?_⟩) (by assumption) ?_
  rotate_left
  · intro w hSw
    (try dsimp only at hSw)
    go_simp
    first | done | with_reducible rfl
  rotate_left
  (try simp only [Act.put, List.setIfInBounds_toArray, List.set_cons_zero, List.set_cons_succ])
  refine wpAnyH_take (i := 6) (v := ?_) rfl (by kernel_rfl) (by kernel_rfl) (by kernel_rfl) (fun _ _ _ h => h) (Or.inl ⟨by rfl, ?_⟩) (by assumption) ?_
  rotate_left
  · intro w hSw
    (try dsimp only at hSw)
    go_simp
    first | done | with_reducible rfl
  rotate_left
  (try simp only [Act.put, List.setIfInBounds_toArray, List.set_cons_zero, List.set_cons_succ])
  refine wpAnyH_take (i := 7) (v := ?_) rfl (by kernel_rfl) (by kernel_rfl) (by kernel_rfl) (fun _ _ _ h => h) (Or.inl ⟨by rfl, ?_⟩) (by assumption) ?_
  rotate_left
  · intro w hSw
    (try dsimp only at hSw)
    go_simp
    first | done | with_reducible rfl
  rotate_left
  (try simp only [Act.put, List.setIfInBounds_toArray, List.set_cons_zero, List.set_cons_succ])
  refine wpAnyH_take (i := 8) (v := ?_) rfl (by kernel_rfl) (by kernel_rfl) (by kernel_rfl) (fun _ _ _ h => h) (Or.inl ⟨by rfl, ?_⟩) (by assumption) ?_
  rotate_left
  · intro w hSw
    (try dsimp only at hSw)
    go_simp
    first | done | with_reducible rfl
  rotate_left
  (try simp only [Act.put, List.setIfInBounds_toArray, List.set_cons_zero, List.set_cons_succ])
  refine wpAnyH_take (i := 9) (v := ?_) rfl (by kernel_rfl) (by kernel_rfl) (by kernel_rfl) (fun _ _ _ h => h) (Or.inl ⟨by rfl, ?_⟩) (by assumption) ?_
  rotate_left
  · intro w hSw
    (try dsimp only at hSw)
    go_simp
    first | done | with_reducible rfl
  rotate_left
  (try simp only [Act.put, List.setIfInBounds_toArray, List.set_cons_zero, List.set_cons_succ])
  refine wpAnyH_take (i := 10) (v := ?_) rfl (by kernel_rfl) (by kernel_rfl) (by kernel_rfl) (fun _ _ _ h => h) (Or.inl ⟨by rfl, ?_⟩) (by assumption) ?_
  rotate_left
  · intro w hSw
    (try dsimp only at hSw)
    go_simp
    first | done | with_reducible rfl
  rotate_left
  (try simp only [Act.put, List.setIfInBounds_toArray, List.set_cons_zero, List.set_cons_succ])
  refine wpAnyH_take (i := 11) (v := ?_) rfl (by kernel_rfl) (by kernel_rfl) (by kernel_rfl) (fun _ _ _ h => h) (Or.inl ⟨by rfl, ?_⟩) (by assumption) ?_
  rotate_left
  · intro w hSw
    (try dsimp only at hSw)
    go_simp
    first | done | with_reducible rfl
  rotate_left
  (try simp only [Act.put, List.setIfInBounds_toArray, List.set_cons_zero, List.set_cons_succ])
  refine wpAnyH_take (i := 12) (v := ?_) rfl (by kernel_rfl) (by kernel_rfl) (by kernel_rfl) (fun _ _ _ h => h) (Or.inl ⟨by rfl, ?_⟩) (by assumption) ?_
  rotate_left
  · intro w hSw
    (try dsimp only at hSw)
    go_simp
    first | done | with_reducible rfl
  rotate_left
  (try simp only [Act.put, List.setIfInBounds_toArray, List.set_cons_zero, List.set_cons_succ])
  refine wpAnyH_take (i := 13) (v := ?_) rfl (by kernel_rfl) (by kernel_rfl) (by kernel_rfl) (fun _ _ _ h => h) (Or.inl ⟨by rfl, ?_⟩) (by assumption) ?_
  rotate_left
  · intro w hSw
    (try dsimp only at hSw)
    go_simp
    first | done | with_reducible rfl
  rotate_left
  (try simp only [Act.put, List.setIfInBounds_toArray, List.set_cons_zero, List.set_cons_succ])
  refine wpAnyH_take (i := 14) (v := ?_) rfl (by kernel_rfl) (by kernel_rfl) (by kernel_rfl) (fun _ _ _ h => h) (Or.inl ⟨by rfl, ?_⟩) (by assumption) ?_
  rotate_left
  · intro w hSw
    (try dsimp only at hSw)
    go_simp
    first | done | with_reducible rfl
  rotate_left
  (try simp only [Act.put, List.setIfInBounds_toArray, List.set_cons_zero, List.set_cons_succ])
  refine wpAnyH_take (i := 15) (v := ?_) rfl (by kernel_rfl) (by kernel_rfl) (by kernel_rfl) (fun _ _ _ h => h) (Or.inl ⟨by rfl, ?_⟩) (by assumption) ?_
  rotate_left
  · intro w hSw
    (try dsimp only at hSw)
    go_simp
    first | done | with_reducible rfl
  rotate_left
  (try simp only [Act.put, List.setIfInBounds_toArray, List.set_cons_zero, List.set_cons_succ])
  refine wpAnyH_take (i := 16) (v := ?_) rfl (by kernel_rfl) (by kernel_rfl) (by kernel_rfl) (fun _ _ _ h => h) (Or.inl ⟨by rfl, ?_⟩) (by assumption) ?_
  rotate_left
  · intro w hSw
    (try dsimp only at hSw)
    go_simp
    first | done | with_reducible rfl
  rotate_left
  (try simp only [Act.put, List.setIfInBounds_toArray, List.set_cons_zero, List.set_cons_succ])
  refine wpAnyH_take (i := 17) (v := ?_) rfl (by kernel_rfl) (by kernel_rfl) (by kernel_rfl) (fun _ _ _ h => h) (Or.inl ⟨by rfl, ?_⟩) (by assumption) ?_
  rotate_left
  · intro w hSw
    (try dsimp only at hSw)
    go_simp
    first | done | with_reducible rfl
  rotate_left
  (try simp only [Act.put, List.setIfInBounds_toArray, List.set_cons_zero, List.set_cons_succ])
  refine wpAnyH_take (i := 18) (v := ?_) rfl (by kernel_rfl) (by kernel_rfl) (by kernel_rfl) (fun _ _ _ h => h) (Or.inl ⟨by rfl, ?_⟩) (by assumption) ?_
  rotate_left
  · intro w hSw
    (try dsimp only at hSw)
    go_simp
    first | done | with_reducible rfl
  rotate_left
  (try simp only [Act.put, List.setIfInBounds_toArray, List.set_cons_zero, List.set_cons_succ])
  refine wpAnyH_take (i := 19) (v := ?_) rfl (by kernel_rfl) (by kernel_rfl) (by kernel_rfl) (fun _ _ _ h => h) (Or.inl ⟨by rfl, ?_⟩) (by assumption) ?_
  rotate_left
  · intro w hSw
    (try dsimp only at hSw)
    go_simp
    first | done | with_reducible rfl
  rotate_left
  (try simp only [Act.put, List.setIfInBounds_toArray, List.set_cons_zero, List.set_cons_succ])
  refine wpAnyH_take (i := 20) (v := ?_) rfl (by kernel_rfl) (by kernel_rfl) (by kernel_rfl) (fun _ _ _ h => h) (Or.inl ⟨by rfl, ?_⟩) (by assumption) ?_
  rotate_left
  · intro w hSw
    (try dsimp only at hSw)
    go_simp
    first | done | with_reducible rfl
  rotate_left
  (try simp only [Act.put, List.setIfInBounds_toArray, List.set_cons_zero, List.set_cons_succ])
  refine wpAnyH_take (i := 21) (v := ?_) rfl (by kernel_rfl) (by kernel_rfl) (by kernel_rfl) (fun _ _ _ h => h) (Or.inl ⟨by rfl, ?_⟩) (by assumption) ?_
  rotate_left
  · intro w hSw
    (try dsimp only at hSw)
    go_simp
    first | done | with_reducible rfl
  rotate_left
  (try simp only [Act.put, List.setIfInBounds_toArray, List.set_cons_zero, List.set_cons_succ])
  refine wpAnyH_take (i := 23) (v := ?_) rfl (by kernel_rfl) (by kernel_rfl) (by kernel_rfl) (fun _ _ _ h => h) (Or.inl ⟨by rfl, ?_⟩) (by assumption) ?_
  rotate_left
  · intro w hSw
    (try dsimp only at hSw)
    go_simp
    first | done | with_reducible rfl
  rotate_left
  (try simp only [Act.put, List.setIfInBounds_toArray, List.set_cons_zero, List.set_cons_succ])
  refine wpAnyH_take (i := 26) (v := ?_) rfl (by kernel_rfl) (by kernel_rfl) (by kernel_rfl) (fun _ _ _ h => h) (Or.inl ⟨by rfl, ?_⟩) (by assumption) ?_
  rotate_left
  · intro w hSw
    (try dsimp only at hSw)
    go_simp
    first | done | with_reducible rfl
  rotate_left
  (try simp only [Act.put, List.setIfInBounds_toArray, List.set_cons_zero, List.set_cons_succ])
  refine wpAnyH_ready (rs := [22]) (by kernel_rfl) (by simp) ?_
  refine AllReadyH.cons rfl (fun K hK => ?_) AllReadyH.nil
  go_simp
  refine hK.out _ _ (by first | exact cg | assumption) (fun hHeld => ?_)
  clear hK K
  (try simp only [Act.put, List.setIfInBounds_toArray, List.set_cons_zero, List.set_cons_succ])
  refine wpAnyH_take (i := 24) (v := ?_) rfl (by kernel_rfl) (by kernel_rfl) (by kernel_rfl) (fun _ _ _ h => h) (Or.inl ⟨by rfl, ?_⟩) (by assumption) ?_
  rotate_left
  · intro w hSw
    (try dsimp only at hSw)
    go_simp
    first | done | with_reducible rfl
  rotate_left
  (try simp only [Act.put, List.setIfInBounds_toArray, List.set_cons_zero, List.set_cons_succ])
  refine wpAnyH_ready (rs := [25]) (by kernel_rfl) (by simp) ?_
  refine AllReadyH.cons rfl (fun K hK => ?_) AllReadyH.nil
  refine step_app (v := .slice none 0 0) w1.heap.size (by rfl) _ _ 23 5 (.int .u8 0) 1 1 (by rfl) Try.underlying23 HI.out rfl (by omega) (by omega) (by rfl) (by rfl) (World.ownsRow_nil _ _ _ _) STK.out (by omega) (Nat.le_refl _) ?_
  intro v2 w2 hown hfr hat2
  obtain ⟨z_g, z_1, z_2, z_3, zf1, zf2, zf3⟩ := KEEP.out w2 hfr
  rw [Nat.zero_add] at hown
  obtain ⟨A2, c2, rfl⟩ := own_slice' hown
  have HR2 := Lib.hid hown
  have HF2 := Lib.hid hfr
  clear hown hfr hat2
  refine hK.out _ _ (by exact z_g) (fun hHeld => ?_)
  clear hK K
  (try simp only [Act.put, List.setIfInBounds_toArray, List.set_cons_zero, List.set_cons_succ])
  refine wpAnyH_take (i := 27) (v := ?_) rfl (by kernel_rfl) (by kernel_rfl) (by kernel_rfl) (fun _ _ _ h => h) (Or.inl ⟨by rfl, ?_⟩) (by assumption) ?_
  rotate_left
  · intro w hSw
    (try dsimp only at hSw)
    go_simp
    first | done | with_reducible rfl
  rotate_left
  (try simp only [Act.put, List.setIfInBounds_toArray, List.set_cons_zero, List.set_cons_succ])
  refine wpAnyH_take (i := 28) (v := ?_) rfl (by kernel_rfl) (by kernel_rfl) (by kernel_rfl) (fun _ _ _ h => h) (Or.inl ⟨by rfl, ?_⟩) (by assumption) ?_
  rotate_left
  · intro w hSw
    (try dsimp only at hSw)
    go_simp
    first | done | with_reducible rfl
  rotate_left
  (try simp only [Act.put, List.setIfInBounds_toArray, List.set_cons_zero, List.set_cons_succ])
  refine wpAnyH_ready (rs := [29]) (by kernel_rfl) (by simp) ?_
  refine AllReadyH.cons rfl (fun K hK => ?_) AllReadyH.nil
  go_simp
  refine hK.out _ _ (by first | exact z_g | go_keep) (fun hHeld => ?_)
  clear hK K
  (try simp only [Act.put, List.setIfInBounds_toArray, List.set_cons_zero, List.set_cons_succ])
  refine wpAnyH_take (i := 30) (v := ?_) rfl (by kernel_rfl) (by kernel_rfl) (by kernel_rfl) (fun _ _ _ h => h) (Or.inl ⟨by rfl, ?_⟩) (by assumption) ?_
  rotate_left
  · intro w hSw
    (try dsimp only at hSw)
    go_simp
    first | done | with_reducible rfl
  rotate_left
  (try simp only [Act.put, List.setIfInBounds_toArray, List.set_cons_zero, List.set_cons_succ])
  refine wpAnyH_take (i := 31) (v := ?_) rfl (by kernel_rfl) (by kernel_rfl) (by kernel_rfl) (fun _ _ _ h => h) (Or.inl ⟨by rfl, ?_⟩) (by assumption) ?_
  rotate_left
  · intro w hSw
    (try dsimp only at hSw)
    go_simp
    first | done | with_reducible rfl
  rotate_left
  (try simp only [Act.put, List.setIfInBounds_toArray, List.set_cons_zero, List.set_cons_succ])
  refine wpAnyH_ready (rs := [32]) (by kernel_rfl) (by simp) ?_
  refine AllReadyH.cons rfl (fun K hK => ?_) AllReadyH.nil
  go_simp
  refine hK.out _ _ (by first | exact z_g | go_keep) (fun hHeld => ?_)
  clear hK K
  (try simp only [Act.put, List.setIfInBounds_toArray, List.set_cons_zero, List.set_cons_succ])
  refine wpAnyH_take (i := 33) (v := ?_) rfl (by kernel_rfl) (by kernel_rfl) (by kernel_rfl) (fun _ _ _ h => h) (Or.inl ⟨by rfl, ?_⟩) (by assumption) ?_
  rotate_left
  · intro w hSw
    (try dsimp only at hSw)
    go_simp
    first | done | with_reducible rfl
  rotate_left
  (try simp only [Act.put, List.setIfInBounds_toArray, List.set_cons_zero, List.set_cons_succ])
  refine wpAnyH_take (i := 34) (v := ?_) rfl (by kernel_rfl) (by kernel_rfl) (by kernel_rfl) (fun _ _ _ h => h) (Or.inl ⟨by rfl, ?_⟩) (by assumption) ?_
  rotate_left
  · intro w hSw
    (try dsimp only at hSw)
    go_simp
    first | done | with_reducible rfl
  rotate_left
  (try simp only [Act.put, List.setIfInBounds_toArray, List.set_cons_zero, List.set_cons_succ])
  refine wpAnyH_ready (rs := [35]) (by kernel_rfl) (by simp) ?_
  refine AllReadyH.cons rfl (fun K hK => ?_) AllReadyH.nil
  go_simp
  refine hK.out _ _ (by first | exact z_g | go_keep) (fun hHeld => ?_)
  clear hK K
  (try simp only [Act.put, List.setIfInBounds_toArray, List.set_cons_zero, List.set_cons_succ])
  refine wpAnyH_done (by kernel_rfl) ?_ _
  all_goals
    go_wp2_with fail
    go_ret
    have ho2 := own_frm (show w1.drew.ownsRow base 71 4 _ _ _ from HO1.out) HF2.out (fun _ _ e => by cases e)
    have hs1 := (ho2.stored (k * 4 + 1) (.slice A2 to c2)).1
    have hs2 := (hs1.stored (k * 4 + 2) (.int .i64 (to : Int))).1
    have hs3 := (hs2.stored (k * 4 + 3) (.bool true)).1
    rw [rcells_set3 l vs k x _ (.slice A2 to c2) (x.2.1.take to) (to : Int) true hvl hx hu] at hs3
    have hb2 : Blk w2 g _ 44 := Blk.frm (show Blk w1.drew g _ 44 from HB1.out) HF2.out (fun e => by cases e)
    have hf2 : Frm (fun j => j = g ∨ (Value.slice (some ⟨ga, 0, none⟩) l.length ca).ownBlock = some j) w w2 := ((HF1.out.mono (fun j hj => .inl hj)).drew).trans (HF2.out.mono (fun j e => by cases e))
    have hfr : Frm (fun j => j = g ∨ (Value.slice (some ⟨ga, 0, none⟩) l.length ca).ownBlock = some j) w (((w2.setCell ⟨ga, k * 4 + 1, none⟩ (.slice A2 to c2)).setCell ⟨ga, k * 4 + 2, none⟩ (.int .i64 (to : Int))).setCell ⟨ga, k * 4 + 3, none⟩ (.bool true)) :=
      ((hf2.setCell (p := ⟨ga, k * 4 + 1, none⟩) (.inl (.inr rfl)) _).setCell (p := ⟨ga, k * 4 + 2, none⟩) (.inl (.inr rfl)) _).setCell (p := ⟨ga, k * 4 + 3, none⟩) (.inl (.inr rfl)) _
    have hfs : Frm (· = ga) w2 (((w2.setCell ⟨ga, k * 4 + 1, none⟩ (.slice A2 to c2)).setCell ⟨ga, k * 4 + 2, none⟩ (.int .i64 (to : Int))).setCell ⟨ga, k * 4 + 3, none⟩ (.bool true)) := (((Frm.refl (· = ga) w2).setg _).setg _).setg _
    refine ⟨rfl, ⟨⟨vs.set k (.slice A2 to c2), ?_, ?_, by rw [List.length_set, List.length_set]; exact hvl, fun i y u hy hu' => ?_, fun j hj => ⟨(HAV.out j hj).1, fun h => ?_⟩⟩, H.out.base, fun j hj => ?_⟩, hfr⟩
    · exact ((hb2.far (p := ⟨ga, k * 4 + 1, none⟩) (by exact ngg.symm) _).far (p := ⟨ga, k * 4 + 2, none⟩) (by exact ngg.symm) _).far (p := ⟨ga, k * 4 + 3, none⟩) (by exact ngg.symm) _
    · rw [List.length_set]
      exact hs3
    · have hT : ∀ j, S j → ¬ (j = g ∨ (Value.slice (some ⟨ga, 0, none⟩) l.length ca).ownBlock = some j) := fun j hj e => by
        rcases e with e | e
        · exact H.out.av j hj e
        · exact (HAV.out j e).2 hj
      by_cases e : i = k
      · subst e
        rw [List.getElem?_set_self hat] at hy
        injection hy with hy
        subst hy
        rw [List.getElem?_set_self (by omega)] at hu'
        injection hu' with hu'
        subst hu'
        have htl : (x.2.1.take to).length = to := by rw [List.length_take, HXL.out]; omega
        have hlo := HR2.out.lt
        have hwf : (Lit.int .i64 x.1).wf = true := by
          obtain ⟨A, c, _, _, _, _, _, _, e7⟩ := HV.out i x _ hx hu
          exact e7
        refine ⟨A2, c2, by simp only [htl], ?_, fun _ j hj => ?_, by simp, by simp only [htl]; simp, by simp only [htl]; omega, hwf⟩
        · have h1 := Sl.of_own HR2.out (by simp only [List.nil_append]; rw [u8s_take]; exact u8s_one _)
          have h2 := h1.frm hfs (fun j hj e => by have := (hlo j hj).1; omega)
          simp only [List.nil_append, u8s_take] at h2
          simp only [htl]
          exact h2
        · have h1 := hlo j hj
          exact ⟨.inr (by omega), Nat.lt_of_lt_of_le h1.2 hfs.size⟩
      · rw [List.getElem?_set_ne (fun h => e h.symm)] at hy
        rw [List.getElem?_set_ne (fun h => e h.symm)] at hu'
        exact ((HV.out i y u hy hu').frm hfr hT).mono (fun j hj => .inl hj)
    · rcases h with h | h
      · exact (HAV.out j hj).2 h
      · injection hj with hj
        simp only at hj
        omega
    · rcases hj with hj | hj
      · exact H.out.av j hj
      · omega
end Go.Proofs.Ytfcagjnedaaadaa
