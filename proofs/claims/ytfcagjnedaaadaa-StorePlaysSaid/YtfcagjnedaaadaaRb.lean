/- The reference's begin, Fuse, Blocks. -/
import Derived.Test.YtfcagjnedaaadaaRa
namespace Go.Proofs.Ytfcagjnedaaadaa
open Go.RowKit
attribute [local go_sem] run_max2 run_min2 run_max_ run_min_

/-- Where a number stands, or -1. -/
def atI (n : Int) (l : List (Int × Bk)) : Int := if atN n l < l.length then (atN n l : Int) else -1
def begI (l : List (Int × Bk)) (dead : Bool) (n : Int) : Int × Int := if dead = true then (-1, 6) else if n < 1 then (-1, 1) else if atI n l < 0 then (-1, 3) else (atI n l, 0)
theorem RSt.c1 {w : World} {g : Nat} {S : Nat → Prop} {base L : Nat} {v : Value} {l : List (Int × Bk)} {dead armed : Bool} {N : Int} (h : RSt w g S base L v l dead armed N) : w.cell? ⟨g, 1, none⟩ = some (.bool dead) := by
  obtain ⟨vs, hb, _⟩ := h.blk
  have := hb.cell 1
  simpa using this

set_option maxRecDepth 100000 in
theorem begin_any (w : World) (g : Nat) (S : Nat → Prop) (base L : Nat) (v : Value) (l : List (Int × Bk)) (dead armed : Bool) (N : Int) (h : RSt w g S base L v l dead armed N) (hl : l.length ≤ 1000) (n i e0 : Int) (hr : begI l dead n = (i, e0)) :
    Calls Try.prog 49 #[.pointer (some ⟨g, 0, none⟩), .int .i64 n] w fun e w' => e = .returned (.tuple #[.int .i64 i, .int .i64 e0]) ∧ w = w' := by
  have c1 := h.c1
  have H := Lib.hid h
  clear h
  unfold begI at hr
  cases dead
  · by_cases hn : n < 1
    · simp [hn] at hr
      obtain ⟨rfl, rfl⟩ := hr
      go_enter Try.func49, Try.ntmps49
      go_wp2_with fail
      refine bodyPost_ret (results_tmp2 rfl _ _ _) rfl ?_
      exact ⟨rfl, rfl⟩
    · obtain ⟨a, ha⟩ : ∃ a, atI n l = a := ⟨_, rfl⟩
      rw [ha] at hr
      unfold atI at ha
      by_cases h0 : a < 0
      · simp [hn, h0] at hr
        obtain ⟨rfl, rfl⟩ := hr
        go_enter Try.func49, Try.ntmps49
        go_wp2_with fail
        refine (at_any w g S base L v l false armed N H.out hl n a ha.symm).mono ?_
        rintro e _ ⟨rfl, rfl⟩
        go_wp2_with fail
        refine bodyPost_ret (results_tmp2 rfl _ _ _) rfl ?_
        exact ⟨rfl, rfl⟩
      · simp [hn, h0] at hr
        obtain ⟨rfl, rfl⟩ := hr
        go_enter Try.func49, Try.ntmps49
        go_wp2_with fail
        refine (at_any w g S base L v l false armed N H.out hl n a ha.symm).mono ?_
        rintro e _ ⟨rfl, rfl⟩
        go_wp2_with fail
        refine (at_any w g S base L v l false armed N H.out hl n a ha.symm).mono ?_
        rintro e _ ⟨rfl, rfl⟩
        go_wp2_with fail
        refine bodyPost_ret (results_tmp2 rfl _ _ _) rfl ?_
        exact ⟨rfl, rfl⟩
  · simp at hr
    obtain ⟨rfl, rfl⟩ := hr
    go_enter Try.func49, Try.ntmps49
    go_wp2_with fail
    refine bodyPost_ret (results_tmp2 rfl _ _ _) rfl ?_
    exact ⟨rfl, rfl⟩

theorem RB1.frm {S T : Nat → Prop} {L : Nat} {w w' : World} {x : Int × Bk} {v : Value} (h : RB1 w S L x v) (k : Frm T w w') (hT : ∀ j, S j → ¬ T j) : RB1 w' S L x v := by
  obtain ⟨A, c, rfl, h1, h2, h3⟩ := h
  refine ⟨A, c, rfl, ?_, fun h0 j hj => ⟨(h2 h0 j hj).1, Nat.lt_of_lt_of_le (h2 h0 j hj).2 k.size⟩, h3⟩
  by_cases h0 : 0 < x.2.1.length
  · exact h1.frm k (fun j hj => hT j (h2 h0 j hj).1)
  · obtain ⟨A', c', e, g1, g2, g3, g4, g5⟩ := h1
    injection e with e1 e2 e3
    subst e1
    subst e3
    exact ⟨A, c, rfl, g1, g2, g3, g4, fun hp => absurd hp (by rw [u8s_length]; exact h0)⟩
theorem RSt.frm {S T : Nat → Prop} {w w' : World} {g base L : Nat} {v : Value} {l : List (Int × Bk)} {dead armed : Bool} {N : Int} (h : RSt w g S base L v l dead armed N) (k : Frm T w w') (hT : ∀ j, S j → ¬ T j) (hg : ¬ T g) (hb : ∀ j, base ≤ j → j < w.heap.size → ¬ T j) : RSt w' g S base L v l dead armed N := by
  obtain ⟨vs, h1, h2, h3, h4, h5⟩ := h.blk
  exact ⟨⟨vs, h1.frm k hg, own_frm h2 k (fun j hj => hb j (h2.lt j hj).1 (h2.lt j hj).2), h3, fun i x u hi hu => (h4 i x u hi hu).frm k hT, h5⟩, h.base, h.av⟩

set_option maxRecDepth 100000 in
theorem rfuse_any (w : World) (g : Nat) (S : Nat → Prop) (base L : Nat) (v : Value) (l : List (Int × Bk)) (dead armed : Bool) (N : Int) (h : RSt w g S base L v l dead armed N) (n nl : Int) (hnl : mx 0 n = nl) :
    Calls Try.prog 27 #[.pointer (some ⟨g, 0, none⟩), .int .i64 n] w fun e w' => e = .returned (.tuple #[]) ∧ RSt w' g S base L v l dead true nl ∧ Frm (· = g) w w' := by
  obtain ⟨vs, hb, ho, hvl, hv, hav⟩ := h.blk
  have c2 := hb.cell 2
  have c3 := hb.cell 3
  have f2 := hb.free 2
  have f3 := hb.free 3
  simp at c2 c3
  have hset : Blk ((w.setCell ⟨g, 2, none⟩ (.bool true)).setCell ⟨g, 3, none⟩ (.int .i64 nl)) g #[v, .bool dead, .bool true, .int .i64 nl] 44 := by
    have := (hb.set 2 (.bool true)).set 3 (.int .i64 nl)
    simpa using this
  have hf := ((Frm.refl (· = g) w).setg (i := 2) (.bool true)).setg (i := 3) (.int .i64 nl)
  have HF := Lib.hid hf
  have HS : Hid (RSt ((w.setCell ⟨g, 2, none⟩ (.bool true)).setCell ⟨g, 3, none⟩ (.int .i64 nl)) g S base L v l dead true nl) :=
    Lib.hid ⟨⟨vs, hset, own_frm ho hf (fun j hj e => (hav j hj).1 e), hvl, fun i x u hi hu => (hv i x u hi hu).frm hf (fun j hj e => h.av j hj e), hav⟩, h.base, h.av⟩
  unfold mx at hnl
  clear hb ho hv hset hf h
  by_cases h0 : 0 < n
  · rw [if_pos h0] at hnl
    subst hnl
    have h1 : ¬ n < 0 := by omega
    go_enter Try.func27, Try.ntmps27
    go_wp2_with fail
    all_goals
      go_end0
      exact ⟨rfl, HS.out, HF.out⟩
  · rw [if_neg h0] at hnl
    subst hnl
    by_cases h1 : n < 0
    · go_enter Try.func27, Try.ntmps27
      go_wp2_with fail
      go_end0
      exact ⟨rfl, HS.out, HF.out⟩
    · obtain rfl : n = 0 := by omega
      go_enter Try.func27, Try.ntmps27
      go_wp2_with fail
      go_end0
      exact ⟨rfl, HS.out, HF.out⟩

theorem Sl.one_at (w : World) (e : TypeId) (u : Value) (h : Nat) (hh : h = w.heap.size) (h1 : u.oneCell' = true) : Sl (w.alloc (.cells #[u] e)) 1 (.slice (some ⟨h, 0, none⟩) 1 1) 1 [u] := hh ▸ Sl.one w e u h1
/-- The four cells of the reference's k-th block. -/
theorem rcell_at {w : World} {base ga n c : Nat} {l : List (Int × Bk)} {vs : List Value} (ho : w.ownsRow base 71 4 (.slice (some ⟨ga, 0, none⟩) n c) n (rcells l vs)) {k : Nat} {x : Int × Bk} {u : Value} (hk : k < n) (hx : l[k]? = some x) (hu : vs[k]? = some u) :
    w.cell? ⟨ga, k * 4, none⟩ = some (.int .i64 x.1) ∧ w.cell? ⟨ga, k * 4 + 1, none⟩ = some u ∧ w.cell? ⟨ga, k * 4 + 2, none⟩ = some (.int .i64 x.2.2.1) ∧ w.cell? ⟨ga, k * 4 + 3, none⟩ = some (.bool x.2.2.2) := by
  have h := fun j (hj : j < 4) => (ho.cellAt (k * 4 + j) (by omega)).trans (rcells_get l vs k j x u hx hu hj)
  exact ⟨h 0 (by omega), h 1 (by omega), h 2 (by omega), h 3 (by omega)⟩

set_option maxHeartbeats 1000000 in
set_option maxRecDepth 100000 in
theorem rblocks_any (w : World) (g : Nat) (S : Nat → Prop) (base L : Nat) (v : Value) (l : List (Int × Bk)) (dead armed : Bool) (N : Int) (h : RSt w g S base L v l dead armed N) (hl : l.length ≤ 1000) :
    Calls Try.prog 50 #[.pointer (some ⟨g, 0, none⟩)] w fun e w' => ∃ v, e = .returned v ∧ w'.ownsRow w.heap.size 3 1 v l.length (i64s (l.map (·.1))) ∧ Below w.heap.size w w' := by
  obtain ⟨vs, hb, ho, hvl, hv, hav⟩ := h.blk
  obtain ⟨A, c, rfl⟩ := own_slice' ho
  have c0 := hb.cell 0
  simp at c0
  have HO := Lib.hid ho
  have HV := Lib.hid hv
  have HI := Lib.hid Try.info3
  clear ho h hb hv
  go_enter Try.func50, Try.ntmps50
  go_wp2_with fail
  go_loopw [11, 3, 5] (fun i v _ wr => ∃ k : Nat, k ≤ l.length ∧ i = .int .i64 k ∧ wr.ownsRow w.heap.size 3 1 v k (i64s ((l.take k).map (·.1))) ∧ Below w.heap.size w wr) (fun i _ _ _ => l.length - (intOf i).toNat)
  case atStart => exact ⟨0, Nat.zero_le _, rfl, World.ownsRow_nil _ _ _ _, Below.refl _ _⟩
  case round =>
    obtain ⟨k, hk, rfl, hov, hbr⟩ := hrel
    have HOV := Lib.hid hov
    have HBR := Lib.hid hbr
    have sr : w.heap.size ≤ wr.heap.size := hbr.size
    clear hov hbr
    by_cases hkl : k < l.length
    · have k1 : (k : Int) < (l.length : Int) := by omega
      have k0 : (0 : Int) ≤ (k : Int) := by omega
      have iwk : IntKind.i64.wrap ((k : Int) + 1) = (k : Int) + 1 := IntWalk.i64_in _ ⟨by omega, by omega⟩
      obtain ⟨x, hx⟩ : ∃ x, l[k]? = some x := ⟨_, List.getElem?_eq_getElem hkl⟩
      obtain ⟨u, hu⟩ : ∃ u, vs[k]? = some u := ⟨_, List.getElem?_eq_getElem (by omega)⟩
      obtain ⟨Bx, bx, hub, _⟩ := HV.out k x u hx hu
      subst hub
      obtain ⟨ga, ca, e, hga⟩ := own_form HO.out (by omega)
      injection e with e1 e2 e3
      subst e1
      subst e3
      obtain ⟨y0, y1, y2, y3⟩ := rcell_at HO.out hkl hx hu
      have z0 := (HBR.out.cell (World.block_lt_of_cell? w _ y0)).trans y0
      have z1 := (HBR.out.cell (World.block_lt_of_cell? w _ y1)).trans y1
      have z2 := (HBR.out.cell (World.block_lt_of_cell? w _ y2)).trans y2
      have z3 := (HBR.out.cell (World.block_lt_of_cell? w _ y3)).trans y3
      have hg : l.take (k + 1) = l.take k ++ [x] := by rw [List.take_add_one, hx]; rfl
      have HG := Lib.hid hg
      obtain ⟨xn, hxn⟩ : ∃ m, x.1 = m := ⟨_, rfl⟩
      have HXN := Lib.hid hxn
      rw [hxn] at z0
      generalize x.2.2.1 = x2 at z2
      generalize x.2.2.2 = x3 at z3
      generalize x.2.1.length = xl at z1
      clear y0 y1 y2 y3 hx hu hg hxn
      go_wp2_with (at_builtin; refine wp_app w.heap.size rfl _ _ 22 3 (.int .i64 0) 1 8 rfl Try.underlying22 HI.out rfl (by omega) (by omega) rfl rfl ((HOV.out.alloc _).alloc _) (Sl.one_at _ _ _ _ (by simp) rfl) (by omega) (Nat.le_trans sr (by first | (simp; done) | (simp; omega))) ?_; intro v1 w1 hown hfr hat)
      have HB1 : Hid (Below w.heap.size w w1) := Frm.below ((HBR.out.alloc sr _).alloc (Nat.le_trans sr (by simp)) _) hfr (Nat.le_trans sr (by first | (simp; done) | (simp; omega))) (fun g hg => (HOV.out.lt g hg).1)
      have HO1 := Lib.hid hown
      clear hown hfr hat
      try go_wp2_with fail
      go_roundw
      case rel => exact ⟨k + 1, by omega, by go_num, by rw [HG.out, List.map_append, i64s, List.map_append]; simp only [List.map_cons, List.map_nil, HXN.out]; exact HO1.out, HB1.out⟩
      case measure => simp [intOf]; omega
    · have k1 : ¬ (k : Int) < (l.length : Int) := by omega
      obtain rfl : k = l.length := by omega
      go_wp2_with fail
      go_ret
      refine ⟨_, rfl, ?_, HBR.out⟩
      have := HOV.out
      rwa [List.take_length] at this
end Go.Proofs.Ytfcagjnedaaadaa
