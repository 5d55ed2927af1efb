/- The reference's Drop. -/
import Derived.Test.YtfcagjnedaaadaaRf
import Derived.Deep.RegionLaw
namespace Go.Proofs.Ytfcagjnedaaadaa
open Go.RowKit
attribute [local go_sem] run_max2 run_min2 run_max_ run_min_

/-- The zero value of a block of the reference. -/
abbrev zR : Value := .agg #[.int .i64 0, .slice none 0 0, .int .i64 0, .bool false]
theorem Try.info71 : (Try.prog.info? 71).map (fun i => (i.zero, i.size, i.bytes)) = some (some zR, 4, 48) := by kernel_rfl

/-- A store with a new row of blocks. -/
theorem RSt.newrow {w w' : World} {g : Nat} {S0 : Nat → Prop} {base L : Nat} {v' : Value} {l' : List (Int × Bk)} {vs' : List Value} {dead armed : Bool} {N : Int} (hb : Blk w' g #[v', .bool dead, .bool armed, .int .i64 N] 44) (ho : w'.ownsRow w.heap.size 71 4 v' l'.length (rcells l' vs')) (hvl : vs'.length = l'.length) (hv : ∀ (i : Nat) (x : Int × Bk) (u : Value), l'[i]? = some x → vs'[i]? = some u → RB1 w' S0 L x u) (hS : ∀ j, S0 j → j < w.heap.size ∧ j ≠ g) (hg : g < w.heap.size) (hbase : base ≤ g) : RSt w' g S0 base L v' l' dead armed N :=
  ⟨⟨vs', hb, own_base ho (by omega), hvl, hv, fun j hj => ⟨fun e => by have := (ho.lt j hj).1; omega, fun h => by have := (ho.lt j hj).1; have := (hS j h).1; omega⟩⟩, hbase, fun j hj => (hS j hj).2⟩
theorem RB1.near {S : Nat → Prop} {L : Nat} {w : World} {x : Int × Bk} {v : Value} (h : RB1 w S L x v) : RB1 w (fun j => S j ∧ j < w.heap.size) L x v := by
  obtain ⟨A, c, e1, e2, e3, e4⟩ := h
  exact ⟨A, c, e1, e2, fun h0 j hj => ⟨e3 h0 j hj, (e3 h0 j hj).2⟩, e4⟩
theorem eraseIdx_get {α : Type} (l : List α) (k i : Nat) (x : α) (h : (l.take k ++ l.drop (k + 1))[i]? = some x) : ∃ j, l[j]? = some x ∧ j = if i < (l.take k).length then i else k + 1 + (i - (l.take k).length) := by
  by_cases hi : i < (l.take k).length
  · rw [List.getElem?_append_left hi, List.getElem?_take] at h
    rw [if_pos hi]
    split at h
    · exact ⟨i, h, rfl⟩
    · cases h
  · rw [List.getElem?_append_right (by omega), List.getElem?_drop] at h
    rw [if_neg hi]
    exact ⟨_, h, rfl⟩

theorem rdrop_fin {w w' : World} {g : Nat} {S : Nat → Prop} {base L : Nat} {v v' : Value} {l : List (Int × Bk)} {vs : List Value} {dead armed : Bool} {N N' : Int} {k m : Nat} (H : RSt w g S base L v l dead armed N) (hvl : vs.length = l.length) (hv : ∀ (i : Nat) (x : Int × Bk) (u : Value), l[i]? = some x → vs[i]? = some u → RB1 w S L x u) (hf : Frm (· = g) w w') (hb : Blk w' g #[v', .bool dead, .bool armed, .int .i64 N'] 44) (ho : w'.ownsRow w.heap.size 71 4 v' m (rcells (l.take k) (vs.take k) ++ rcells (l.drop (k + 1)) (vs.drop (k + 1)))) (hm : m = (l.take k ++ l.drop (k + 1)).length) (hg : g < w.heap.size) :
    RSt w' g (fun j => S j ∧ j < w.heap.size) base L v' (l.take k ++ l.drop (k + 1)) dead armed N' := by
  refine RSt.newrow (w := w) (vs' := vs.take k ++ vs.drop (k + 1)) hb ?_ (by simp [hvl]) (fun i x u hi hu => ?_) (fun j hj => ⟨hj.2, H.av j hj.1⟩) hg H.base
  · rw [rcells_append _ _ _ _ (by rw [List.length_take, List.length_take, hvl]), ← hm]
    exact ho
  · obtain ⟨j, hj, ej⟩ := eraseIdx_get l k i x hi
    obtain ⟨j2, hj2, ej2⟩ := eraseIdx_get vs k i u hu
    have e : j2 = j := by rw [ej, ej2, List.length_take, List.length_take, hvl]
    rw [e] at hj2
    exact (hv j x u hj hj2).near.frm hf (fun j hj e => H.av j hj.1 e)

set_option maxHeartbeats 4000000 in
set_option maxRecDepth 100000 in
theorem rdrop_go (w : World) (g : Nat) (S : Nat → Prop) (base L : Nat) (v : Value) (l : List (Int × Bk)) (dead armed : Bool) (N : Int) (h : RSt w g S base L v l dead armed N) (hl : l.length ≤ 1000) (n : Int) (k : Nat) (x : Int × Bk) (hb0 : begI l dead n = ((k : Int), 0)) (hx : l[k]? = some x) (hc : ¬ (armed = true ∧ N = 0)) (hN : -1000000 ≤ N ∧ N ≤ 1000000) :
    Calls Try.prog 25 #[.pointer (some ⟨g, 0, none⟩), .int .i64 n] w fun e w' => e = .returned (.int .i64 0) ∧ (∃ v', RSt w' g (fun j => S j ∧ j < w.heap.size) base L v' (l.take k ++ l.drop (k + 1)) dead armed (N - 1) ∧ ∀ j, v'.ownBlock = some j → w.heap.size ≤ j) ∧ Frm (· = g) w w' := by
  have H := Lib.hid h
  obtain ⟨vs, hb, ho, hvl, hv, hav⟩ := h.blk
  have hat : k < l.length := (List.getElem?_eq_some_iff.1 hx).1
  obtain ⟨ga, ca, rfl, hga⟩ := own_form ho (by omega)
  have ngg : ga ≠ g := (hav ga rfl).1
  have hb1 : Blk (w.setCell ⟨g, 3, none⟩ (.int .i64 (N - 1))) g #[.slice (some ⟨ga, 0, none⟩) l.length ca, .bool dead, .bool armed, .int .i64 (N - 1)] 44 := by
    have := hb.set 3 (.int .i64 (N - 1))
    simpa using this
  have hf1 := (Frm.refl (· = g) w).setg (i := 3) (.int .i64 (N - 1))
  have ho1 := own_frm ho hf1 (fun j hj e => (hav j hj).1 e)
  have szw : (w.setCell ⟨g, 3, none⟩ (.int .i64 (N - 1))).heap.size = w.heap.size := by simp [World.setCell]
  obtain ⟨w1, hw1⟩ : ∃ W, W = w.setCell ⟨g, 3, none⟩ (.int .i64 (N - 1)) := ⟨_, rfl⟩
  rw [← hw1] at hb1 ho1 hf1 szw
  have cg := hb1.cell 0
  simp at cg
  have hca : l.length ≤ ca := by
    rcases ho.2 with ⟨h, _⟩ | ⟨_, _, _, e, _, _, h1, _⟩
    · cases h
    · injection e with _ _ e3; subst e3; exact h1
  have k1 : (k : Int) < (l.length : Int) := by omega
  have k0 : (0 : Int) ≤ (k : Int) := by omega
  have k2 : (k : Int) ≤ (ca : Int) := by omega
  have k3 : k ≤ ca := by omega
  obtain ⟨k', hk'⟩ : ∃ k', k' = k + 1 := ⟨_, rfl⟩
  have iwk : IntKind.i64.wrap ((k : Int) + 1) = (k' : Int) := by rw [hk', Int.natCast_add]; exact IntWalk.i64_in _ ⟨by omega, by omega⟩
  have k4 : (k' : Int) ≤ (l.length : Int) := by omega
  have k5 : (0 : Int) ≤ (k' : Int) := by omega
  have k7 : (k' : Int) ≤ (ca : Int) := by omega
  have k8 : k' ≤ ca := by omega
  have k9 : k' ≤ l.length := by omega
  have k6 : (l.length : Int) ≤ (ca : Int) := by omega
  have HB := Lib.hid hb
  have HB1 := Lib.hid hb1
  have HO1 := Lib.hid ho1
  have HF1 := Lib.hid hf1
  have HV := Lib.hid hv
  have HAV := Lib.hid hav
  have HW1 := Lib.hid hw1
  have HI := Lib.hid Try.info71
  have hone : ∀ u ∈ vs, u.oneCell' = true := fun u hu => by
    obtain ⟨i, hi, e⟩ := List.getElem_of_mem hu
    obtain ⟨A, c, e1, _⟩ := hv i _ u (List.getElem?_eq_getElem (by omega : i < l.length)) (by rw [List.getElem?_eq_getElem hi, e])
    rw [e1]; rfl
  have h1c := rcells_one l vs hvl hone
  have p1 := own_part (a := 0) (m := k) ho1 h1c (by omega)
  have p2 := own_part (a := k') (m := l.length - k') ho1 h1c (by omega)
  simp only [Nat.zero_mul, Nat.sub_zero, List.drop_zero] at p1
  rw [rcells_take l vs k hvl] at p1
  rw [rcells_drop l vs k' hvl, List.take_of_length_le (by rw [rcells_length _ _ (by rw [List.length_drop, List.length_drop, hvl]), List.length_drop]; exact Nat.le_refl _)] at p2
  have P1 := Lib.hid p1.drew
  have P2 : Hid (Sl w1.drew 4 (.slice (if ca = k' then some ⟨ga, 0, none⟩ else some ⟨ga, k' * 4, none⟩) (l.length - k') (ca - k')) (l.length - k') (rcells (l.drop k') (vs.drop k'))) := by
    refine Lib.hid ?_
    by_cases hck : ca = k'
    · have e0 : l.length - k' = 0 := by omega
      have e1 : l.drop k' = [] := List.drop_of_length_le (by omega)
      rw [if_pos hck, e0, e1, show ca - k' = 0 by omega]
      exact ⟨_, 0, rfl, Nat.le_refl _, by simp [maxLen], by simp [rcells], by simp [rcells], fun h => by simp [rcells] at h⟩
    · rw [if_neg hck]
      exact p2.drew
  have gl := hb.lt
  have fg := hb1.free 0
  clear hb hb1 ho1 hf1 hv hav ho hw1 h p1 p2 h1c
  by_cases hck : ca = k'
  · subst hck
    have e0 : l.length - ca = 0 := by omega
    have e1 : l.drop ca = [] := List.drop_of_length_le (by omega)
    have e2 : vs.drop ca = [] := List.drop_of_length_le (by omega)
    simp only [if_true, Nat.sub_self, e0, e1, e2, rcells] at P2
    have E := Lib.hid (show k + 0 = (l.take k ++ l.drop (k + 1)).length ∧ l.drop (k + 1) = [] ∧ vs.drop (k + 1) = [] from ⟨by rw [← hk', e1]; simp; omega, hk' ▸ e1, hk' ▸ e2⟩)
    clear e0 e1 e2 hk'
    go_enter Try.func25, Try.ntmps25
    go_wp2_with fail
    refine (begin_any w g S base L _ l dead armed N H.out hl n _ _ hb0).mono ?_
    rintro e _ ⟨rfl, rfl⟩
    go_wp2_with fail
    refine (stops_go w g _ dead armed N HB.out hc hN).mono ?_
    rintro e _ ⟨rfl, rfl⟩
    rw [← HW1.out]
    go_wp2_with fail
    go_region_law (first | (refine step_app (v := .slice none 0 0) w1.heap.size (by rfl) _ _ 42 71 zR 4 48 (by rfl) Try.underlying42 HI.out rfl (by omega) (by omega) (by rfl) (by rfl) (World.ownsRow_nil _ _ _ _) P1.out (by omega) (Nat.le_refl _) ?_; intro v2 w2 hown hfr hat2; have HG2 := (Blk.frm (show Blk w1.drew g _ 44 from HB1.out) hfr (fun e => by cases e)).cell 0; have HGF2 := (Blk.frm (show Blk w1.drew g _ 44 from HB1.out) hfr (fun e => by cases e)).free 0; simp at HG2; rw [Nat.zero_add, List.nil_append] at hown; have HR2 := Lib.hid hown; obtain ⟨A2, c2, rfl⟩ := own_slice' hown; have HF2 := Lib.hid hfr; have HBG2 := Lib.hid (Blk.frm (show Blk w1.drew g _ 44 from HB1.out) hfr (fun e => by cases e)); have P22 := Lib.hid (P2.out.frm hfr (fun _ _ e => by cases e)); clear hown hfr hat2) | (refine step_app (v := .slice A2 k c2) w1.heap.size (by rfl) _ _ 42 71 zR 4 48 (by rfl) Try.underlying42 HI.out rfl (by omega) (by omega) (by rfl) (by rfl) HR2.out P22.out (by omega) (by have := HF2.out.size; exact this) ?_; intro v3 w3 hown hfr hat2; have HG3 := (Blk.frm HBG2.out hfr (fun e => by have := (HR2.out.lt g e).1; omega)).cell 0; have HGF3 := (Blk.frm HBG2.out hfr (fun e => by have := (HR2.out.lt g e).1; omega)).free 0; simp at HG3; rw [Nat.add_zero, List.append_nil] at hown; obtain ⟨A3, c3, rfl⟩ := own_slice' hown; have HR3 := Lib.hid hown; have HF3 := Lib.hid hfr; clear hown hfr hat2) | fail)
    all_goals
      go_wp2_with fail
      go_ret
      have B2 := Frm.below (Below.refl w1.heap.size w1.drew) HF2.out (Nat.le_refl _) (fun i e => by cases e)
      have B3 := Frm.below B2 HF3.out B2.size (fun i e => (HR2.out.lt i e).1)
      have hf3 : Frm (· = g) w w3 := HF1.out.drew.trans (Frm.of_below B3)
      have hb3 := (HB1.out.drew.below B3).set 0 (.slice A3 (k) c3)
      have hr3 := own_base (own_frm HR3.out ((Frm.refl (· = g) w3).setg (i := 0) (.slice A3 (k) c3)) (fun j hj e => by have := (HR3.out.lt j hj).1; omega)) (Nat.le_of_eq szw.symm)
      refine ⟨rfl, ⟨_, rdrop_fin H.out hvl HV.out (hf3.setg _) (by simpa using hb3) ?_ (by simpa using E.out.1) gl, fun j hj => (hr3.lt j hj).1⟩, hf3.setg _⟩
      rw [E.out.2.1, E.out.2.2, show rcells [] [] = [] from rfl, List.append_nil] 
      exact hr3
  · simp only [if_neg hck] at P2
    have E := Lib.hid (show k + (l.length - k') = (l.take k ++ l.drop (k + 1)).length ∧ l.drop k' = l.drop (k + 1) ∧ vs.drop k' = vs.drop (k + 1) from ⟨by simp; omega, by rw [hk'], by rw [hk']⟩)
    clear hk'
    go_enter Try.func25, Try.ntmps25
    go_wp2_with fail
    refine (begin_any w g S base L _ l dead armed N H.out hl n _ _ hb0).mono ?_
    rintro e _ ⟨rfl, rfl⟩
    go_wp2_with fail
    refine (stops_go w g _ dead armed N HB.out hc hN).mono ?_
    rintro e _ ⟨rfl, rfl⟩
    rw [← HW1.out]
    go_wp2_with fail
    go_region_law (first | (refine step_app (v := .slice none 0 0) w1.heap.size (by rfl) _ _ 42 71 zR 4 48 (by rfl) Try.underlying42 HI.out rfl (by omega) (by omega) (by rfl) (by rfl) (World.ownsRow_nil _ _ _ _) P1.out (by omega) (Nat.le_refl _) ?_; intro v2 w2 hown hfr hat2; have HG2 := (Blk.frm (show Blk w1.drew g _ 44 from HB1.out) hfr (fun e => by cases e)).cell 0; have HGF2 := (Blk.frm (show Blk w1.drew g _ 44 from HB1.out) hfr (fun e => by cases e)).free 0; simp at HG2; rw [Nat.zero_add, List.nil_append] at hown; have HR2 := Lib.hid hown; obtain ⟨A2, c2, rfl⟩ := own_slice' hown; have HF2 := Lib.hid hfr; have HBG2 := Lib.hid (Blk.frm (show Blk w1.drew g _ 44 from HB1.out) hfr (fun e => by cases e)); have P22 := Lib.hid (P2.out.frm hfr (fun _ _ e => by cases e)); clear hown hfr hat2) | (refine step_app (v := .slice A2 k c2) w1.heap.size (by rfl) _ _ 42 71 zR 4 48 (by rfl) Try.underlying42 HI.out rfl (by omega) (by omega) (by rfl) (by rfl) HR2.out P22.out (by omega) (by have := HF2.out.size; exact this) ?_; intro v3 w3 hown hfr hat2; have HG3 := (Blk.frm HBG2.out hfr (fun e => by have := (HR2.out.lt g e).1; omega)).cell 0; have HGF3 := (Blk.frm HBG2.out hfr (fun e => by have := (HR2.out.lt g e).1; omega)).free 0; simp at HG3; obtain ⟨A3, c3, rfl⟩ := own_slice' hown; have HR3 := Lib.hid hown; have HF3 := Lib.hid hfr; clear hown hfr hat2) | fail)
    all_goals
      go_wp2_with fail
      go_ret
      have B2 := Frm.below (Below.refl w1.heap.size w1.drew) HF2.out (Nat.le_refl _) (fun i e => by cases e)
      have B3 := Frm.below B2 HF3.out B2.size (fun i e => (HR2.out.lt i e).1)
      have hf3 : Frm (· = g) w w3 := HF1.out.drew.trans (Frm.of_below B3)
      have hb3 := (HB1.out.drew.below B3).set 0 (.slice A3 (k + (l.length - k')) c3)
      have hr3 := own_base (own_frm HR3.out ((Frm.refl (· = g) w3).setg (i := 0) (.slice A3 (k + (l.length - k')) c3)) (fun j hj e => by have := (HR3.out.lt j hj).1; omega)) (Nat.le_of_eq szw.symm)
      refine ⟨rfl, ⟨_, rdrop_fin H.out hvl HV.out (hf3.setg _) (by simpa using hb3) ?_ E.out.1 gl, fun j hj => (hr3.lt j hj).1⟩, hf3.setg _⟩
      rw [← E.out.2.1, ← E.out.2.2] 
      exact hr3
end Go.Proofs.Ytfcagjnedaaadaa
