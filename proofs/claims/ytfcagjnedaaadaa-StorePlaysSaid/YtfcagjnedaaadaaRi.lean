/- The reference's Append. -/
import Derived.Test.YtfcagjnedaaadaaRh
import Derived.Test.YtfcagjnedaaadaaAf
namespace Go.Proofs.Ytfcagjnedaaadaa
open Go.RowKit
set_option linter.unusedSimpArgs false
set_option linter.unusedVariables false
attribute [local go_sem] run_max2 run_min2 run_max_ run_min_

set_option maxRecDepth 100000 in
theorem rapp_dead (w : World) (g : Nat) (S : Nat → Prop) (base L : Nat) (v : Value) (l : List (Int × Bk)) (armed : Bool) (N : Int) (h : RSt w g S base L v l true armed N) (n : Int) (y : Value) :
    Calls Try.prog 22 #[.pointer (some ⟨g, 0, none⟩), .int .i64 n, y] w fun e w' => e = .returned (.int .i64 6) ∧ w = w' := by
  have c1 := h.c1
  clear h
  go_enter Try.func22, Try.ntmps22
  go_wp2_with fail
  go_ret
  exact ⟨rfl, rfl⟩
set_option maxRecDepth 100000 in
theorem rapp_arg (w : World) (g : Nat) (S : Nat → Prop) (base L : Nat) (v : Value) (l : List (Int × Bk)) (armed : Bool) (N : Int) (h : RSt w g S base L v l false armed N) (n : Int) (hn : n < 1) (y : Value) :
    Calls Try.prog 22 #[.pointer (some ⟨g, 0, none⟩), .int .i64 n, y] w fun e w' => e = .returned (.int .i64 1) ∧ w = w' := by
  have c1 := h.c1
  clear h
  go_enter Try.func22, Try.ntmps22
  go_wp2_with fail
  go_ret
  exact ⟨rfl, rfl⟩
set_option maxRecDepth 100000 in
theorem rapp_fuse (w : World) (g : Nat) (S : Nat → Prop) (base L : Nat) (v : Value) (l : List (Int × Bk)) (h : RSt w g S base L v l false true 0) (n : Int) (hn : ¬ n < 1) (y : Value) :
    Calls Try.prog 22 #[.pointer (some ⟨g, 0, none⟩), .int .i64 n, y] w fun e w' => e = .returned (.int .i64 6) ∧ RSt w' g S base L v l true true 0 ∧ Frm (· = g) w w' := by
  have c1 := h.c1
  obtain ⟨vs, hb, _⟩ := h.blk
  have HB := Lib.hid hb
  have HN := Lib.hid h.blown
  clear h hb
  go_enter Try.func22, Try.ntmps22
  go_wp2_with fail
  refine (stops_fuse w g v false HB.out).mono ?_
  rintro e _ ⟨rfl, rfl⟩
  go_wp2_with fail
  go_ret
  exact ⟨rfl, HN.out, (Frm.refl (· = g) w).setg _⟩

theorem own_len4 {w : World} {base e n : Nat} {v : Value} {l : List (Int × Bk)} {vs : List Value} (h : w.ownsRow base e 4 v n (rcells l vs)) (hv : vs.length = l.length) : n = l.length := by
  have h1 := h.1
  rw [rcells_length l vs hv] at h1
  omega
theorem box_below {w1 t1 : World} {o : Obj} {n c : Nat} (hfr : Frm (fun k => (Value.slice (some ⟨w1.heap.size, 0, none⟩) n c).ownBlock = some k) (w1.drew.alloc o) t1) : Below w1.heap.size w1.drew t1 :=
  Frm.below ((Below.refl w1.heap.size w1.drew).alloc (Nat.le_refl _) _) hfr (by simp) (fun i e => by injection e with e; simp only at e; omega)

theorem rcells_set1 (l : List (Int × Bk)) (vs : List Value) (k : Nat) (x : Int × Bk) (v v' : Value) (b : List Int) (hl : vs.length = l.length) (h1 : l[k]? = some x) (h2 : vs[k]? = some v) :
    (rcells l vs).set (k * 4 + 1) v' = rcells (l.set k (x.1, (b, x.2.2))) (vs.set k v') := by
  have h := rcells_set l vs k x (x.1, (b, x.2.2)) v v' hl h1 h2
  rw [h]
  have e0 := rcells_get l vs k 0 x v h1 h2 (by omega)
  have e2 := rcells_get l vs k 2 x v h1 h2 (by omega)
  have e3 := rcells_get l vs k 3 x v h1 h2 (by omega)
  simp only [rcell] at e0 e2 e3
  rw [set_same (rcells l vs) (k * 4) _ (by simpa using e0)]
  rw [set_same ((rcells l vs).set (k * 4 + 1) v') (k * 4 + 2) _ (by rw [List.getElem?_set_ne (by omega)]; simpa using e2)]
  rw [set_same ((rcells l vs).set (k * 4 + 1) v') (k * 4 + 3) _ (by rw [List.getElem?_set_ne (by omega)]; simpa using e3)]

theorem rapp_fin {w2 u1 u2 : World} {g ga ca k xl m m3 c3 c2 base L : Nat} {S : Nat → Prop} {l2 : List (Int × Bk)} {vs2 : List Value} {x : Int × Bk} {Bx A2 A3 : Option Addr} {bx : Nat} {dead armed : Bool} {N' : Int} {ys : List Int}
    (hb : Blk w2 g #[.slice (some ⟨ga, 0, none⟩) l2.length ca, .bool dead, .bool armed, .int .i64 N'] 44) (ho : w2.ownsRow base 71 4 (.slice (some ⟨ga, 0, none⟩) l2.length ca) l2.length (rcells l2 vs2)) (hvl : vs2.length = l2.length)
    (hv : ∀ (i : Nat) (y : Int × Bk) (u : Value), l2[i]? = some y → vs2[i]? = some u → RB1 w2 S L y u) (hne : ga ≠ g) (hS : ¬ S ga) (hbase : base ≤ g) (hav : ∀ j, S j → j ≠ g) (hx : l2[k]? = some x) (hu : vs2[k]? = some (.slice Bx xl bx))
    (HF2 : Frm (fun k => (Value.slice none 0 0).ownBlock = some k) w2.drew u1) (HR2 : u1.ownsRow w2.heap.size 5 1 (.slice A2 xl c2) xl (u8s x.2.1)) (HF3 : Frm (fun k => (Value.slice A2 xl c2).ownBlock = some k) u1 u2)
    (HR3 : u2.ownsRow w2.heap.size 5 1 (.slice A3 m3 c3) m3 (u8s x.2.1 ++ u8s ys)) (hm3 : m3 = (x.2.1 ++ ys).length) (hm : ys.length = m) :
    RSt (u2.setCell ⟨ga, k * 4 + 1, none⟩ (.slice A3 m3 c3)) g (fun j => S j ∨ w2.heap.size ≤ j) base (L + m) (.slice (some ⟨ga, 0, none⟩) l2.length ca) (l2.set k (x.1, (x.2.1 ++ ys, x.2.2))) dead armed N' ∧ Frm (fun j => j = g ∨ j = ga) w2 (u2.setCell ⟨ga, k * 4 + 1, none⟩ (.slice A3 m3 c3)) := by
  have hat : k < l2.length := (List.getElem?_eq_some_iff.1 hx).1
  have gal := (ho.lt ga rfl).2
  have gl := hb.lt
  have b2 := Frm.below (Below.refl w2.heap.size w2.drew) HF2 (Nat.le_refl _) (fun i e => by cases e)
  have B2 : Below w2.heap.size w2 u1 := ⟨b2.os, b2.tape, b2.output, b2.size, b2.block⟩
  have B3 : Below w2.heap.size w2 u2 := Frm.below B2 HF3 B2.size (fun i e => (HR2.lt i e).1)
  have F3 : Frm (fun _ => False) w2 u2 := Frm.of_below B3
  have ho2 := own_frm ho F3 (fun _ _ h => h)
  have hs1 := (ho2.stored (k * 4 + 1) (.slice A3 m3 c3)).1
  rw [rcells_set1 l2 vs2 k x _ (.slice A3 m3 c3) (x.2.1 ++ ys) hvl hx hu] at hs1
  have hf : Frm (fun j => j = g ∨ j = ga) w2 (u2.setCell ⟨ga, k * 4 + 1, none⟩ (.slice A3 m3 c3)) := (F3.mono (fun _ h => h.elim)).setCell (p := ⟨ga, k * 4 + 1, none⟩) (.inl (.inr rfl)) _
  have hfs : Frm (· = ga) u2 (u2.setCell ⟨ga, k * 4 + 1, none⟩ (.slice A3 m3 c3)) := (Frm.refl _ _).setg _
  have hT : ∀ j, S j → ¬ (j = g ∨ j = ga) := fun j hj e => by
    rcases e with e | e
    · exact hav j hj e
    · subst e; exact hS hj
  refine ⟨⟨⟨vs2.set k (.slice A3 m3 c3), ?_, ?_, by rw [List.length_set, List.length_set]; exact hvl, fun i y u hy hu' => ?_, fun j hj => ?_⟩, hbase, fun j hj => ?_⟩, hf⟩
  · exact (hb.below B3).far (p := ⟨ga, k * 4 + 1, none⟩) (by exact hne.symm) _
  · rw [List.length_set]
    exact hs1
  · by_cases e : i = k
    · subst e
      rw [List.getElem?_set_self hat] at hy
      injection hy with hy
      subst hy
      rw [List.getElem?_set_self (by omega)] at hu'
      injection hu' with hu'
      subst hu'
      obtain ⟨A, c, _, _, _, e4, e5, e6, e7⟩ := hv i x _ hx hu
      have hlo := HR3.lt
      refine ⟨A3, c3, by rw [hm3], ?_, fun _ j hj => ?_, e4, by simp only [List.length_append]; omega, by simp only [List.length_append]; omega, e7⟩
      · have h1 := Sl.of_own HR3 (by rw [← u8s_append]; exact u8s_one _)
        have h2 := h1.frm hfs (fun j hj e => by have := (hlo j hj).1; omega)
        rw [← u8s_append] at h2
        rw [hm3] at h2 ⊢
        exact h2
      · have h1 := hlo j hj
        exact ⟨.inr (by omega), Nat.lt_of_lt_of_le h1.2 hfs.size⟩
    · rw [List.getElem?_set_ne (fun h => e h.symm)] at hy
      rw [List.getElem?_set_ne (fun h => e h.symm)] at hu'
      obtain ⟨A, c, e1, e2, e3, e4, e5, e6, e7⟩ := ((hv i y u hy hu').frm hf hT).mono (fun j hj => Or.inl (b := w2.heap.size ≤ j) hj)
      exact ⟨A, c, e1, e2, e3, e4, e5, by omega, e7⟩
  · injection hj with hj
    simp only at hj
    subst hj
    exact ⟨hne, fun h => by rcases h with h | h; exact hS h; omega⟩
  · rcases hj with hj | hj
    · exact hav j hj
    · omega

theorem set_mid {α : Type} (a b : List α) (k : Nat) (x y : α) (h : a.length = k) : (a ++ x :: b).set k y = a ++ y :: b := by
  subst h
  rw [List.set_append_right _ _ (Nat.le_refl _), Nat.sub_self]
  rfl
theorem get_mid {α : Type} (a b : List α) (k i : Nat) (x z : α) (h : a.length = k) (hz : (a ++ x :: b)[i]? = some z) : (i = k ∧ z = x) ∨ (i < k ∧ a[i]? = some z) ∨ (k < i ∧ b[i - (k + 1)]? = some z) := by
  subst h
  by_cases h1 : i < a.length
  · rw [List.getElem?_append_left h1] at hz
    exact .inr (.inl ⟨h1, hz⟩)
  · rw [List.getElem?_append_right (by omega)] at hz
    by_cases h2 : i = a.length
    · subst h2
      rw [Nat.sub_self] at hz
      simp only [List.getElem?_cons_zero, Option.some.injEq] at hz
      exact .inl ⟨rfl, hz.symm⟩
    · obtain ⟨d, hd⟩ : ∃ d, i - a.length = d + 1 := ⟨i - a.length - 1, by omega⟩
      rw [hd, List.getElem?_cons_succ] at hz
      exact .inr (.inr ⟨by omega, by rw [show i - (a.length + 1) = d by omega]; exact hz⟩)

theorem ins_fin {w1 t2 : World} {g gb cb k p base L : Nat} {S : Nat → Prop} {l : List (Int × Bk)} {vs : List Value} {n : Int} {armed : Bool} {N' : Int} {v0 : Value}
    (hb : Blk w1 g #[v0, .bool false, .bool armed, .int .i64 N'] 44) (hbl : Below w1.heap.size w1.drew t2)
    (hr : t2.ownsRow w1.heap.size 71 4 (.slice (some ⟨gb, 0, none⟩) p cb) p (rcells (l.take k) (vs.take k) ++ ([.int .i64 n, .slice none 0 0, .int .i64 0, .bool false] ++ rcells (l.drop k) (vs.drop k))))
    (hvl : vs.length = l.length) (hkl : k ≤ l.length) (hv : ∀ (i : Nat) (x : Int × Bk) (u : Value), l[i]? = some x → vs[i]? = some u → RB1 w1 S L x u) (hav : ∀ j, S j → j ≠ g) (hbase : base ≤ g) (hwn : (Lit.int .i64 n).wf = true) (l2 : List (Int × Bk)) (vs2 : List Value)
    (hl2 : l2 = l.take k ++ (n, ([], 0, false)) :: l.drop k) (hvs2 : vs2 = vs.take k ++ .slice none 0 0 :: vs.drop k) (w2 : World) (hw2 : w2 = t2.setCell ⟨g, 0, none⟩ (.slice (some ⟨gb, 0, none⟩) p cb)) :
    Blk w2 g #[.slice (some ⟨gb, 0, none⟩) p cb, .bool false, .bool armed, .int .i64 N'] 44 ∧ w2.ownsRow base 71 4 (.slice (some ⟨gb, 0, none⟩) p cb) p (rcells l2 vs2) ∧ vs2.length = l2.length ∧
    (∀ (i : Nat) (y : Int × Bk) (u : Value), l2[i]? = some y → vs2[i]? = some u → RB1 w2 (fun j => S j ∧ j < w1.heap.size) L y u) ∧ l2[k]? = some (n, ([], 0, false)) ∧ vs2[k]? = some (.slice none 0 0) ∧ Frm (· = g) w1 w2 ∧ gb ≠ g ∧ w1.heap.size ≤ gb ∧ k < l2.length := by
  have gl := hb.lt
  have hgb := (hr.lt gb rfl).1
  have hB : Below w1.heap.size w1 t2 := ⟨hbl.os, hbl.tape, hbl.output, hbl.size, hbl.block⟩
  have hF : Frm (· = g) w1 t2 := Frm.of_below hB
  have hF2 := hF.setg (i := 0) (.slice (some ⟨gb, 0, none⟩) p cb)
  have hs := (Frm.refl (· = g) t2).setg (i := 0) (.slice (some ⟨gb, 0, none⟩) p cb)
  have tl : (l.take k).length = k := by rw [List.length_take]; omega
  have tv : (vs.take k).length = k := by rw [List.length_take]; omega
  subst hl2
  subst hvs2
  subst hw2
  refine ⟨?_, ?_, by simp [hvl], fun i y u hy hu => ?_, ?_, ?_, hF2, by omega, hgb, by rw [List.length_append, tl, List.length_cons]; omega⟩
  · have := (hb.below hB).set 0 (.slice (some ⟨gb, 0, none⟩) p cb)
    simpa using this
  · have h1 := own_frm (own_base hr (by omega : base ≤ w1.heap.size)) hs (fun j hj e => by injection hj with hj; simp only at hj; omega)
    rw [rcells_append _ _ _ _ (by rw [tl, tv])]
    exact h1
  · rcases get_mid _ _ k i _ _ tl hy with ⟨rfl, rfl⟩ | ⟨h1, h2⟩ | ⟨h1, h2⟩
    · rcases get_mid _ _ i i _ _ tv hu with ⟨_, rfl⟩ | ⟨h, _⟩ | ⟨h, _⟩
      · exact ⟨none, 0, rfl, ⟨none, 0, rfl, Nat.le_refl _, by simp [maxLen], by simp [u8s], by simp [u8s], fun h => by simp [u8s] at h⟩, fun h => by simp at h, by simp, by simp, by simp, hwn⟩
      · omega
      · omega
    · rcases get_mid _ _ k i _ _ tv hu with ⟨h, _⟩ | ⟨_, h4⟩ | ⟨h, _⟩
      · omega
      · rw [List.getElem?_take] at h2 h4
        rw [if_pos h1] at h2 h4
        exact ((hv i y u h2 h4).near).frm hF2 (fun j hj e => hav j hj.1 e)
      · omega
    · rcases get_mid _ _ k i _ _ tv hu with ⟨h, _⟩ | ⟨h, _⟩ | ⟨_, h4⟩
      · omega
      · omega
      · rw [List.getElem?_drop] at h2 h4
        exact ((hv _ y u h2 h4).near).frm hF2 (fun j hj e => hav j hj.1 e)
  · rw [List.getElem?_append_right (by omega), tl, Nat.sub_self]
    rfl
  · rw [List.getElem?_append_right (by omega), tv, Nat.sub_self]
    rfl

set_option maxHeartbeats 4000000 in
set_option maxRecDepth 100000 in
theorem rapp_old (w : World) (g : Nat) (S : Nat → Prop) (base L : Nat) (v : Value) (l : List (Int × Bk)) (dead armed : Bool) (N : Int) (h : RSt w g S base L v l dead armed N) (hd : dead = false) (hl : l.length ≤ 1000) (hL : L ≤ 1000000) (n : Int) (hn : ¬ n < 1) (k : Nat) (x : Int × Bk) (hk : atN n l = k) (hx : l[k]? = some x) (hc : ¬ (armed = true ∧ N = 0)) (hN : -1000000 ≤ N ∧ N ≤ 1000000)
    (A : Option Addr) (m c : Nat) (ys : List Int) (hys : Sl w 1 (.slice A m c) m (u8s ys)) (hm : m ≤ 1000) (hA : ∀ j, (Value.slice A m c).ownBlock = some j → j ≠ g) :
    Calls Try.prog 22 #[.pointer (some ⟨g, 0, none⟩), .int .i64 n, .slice A m c] w fun e w' => e = .returned (.int .i64 0) ∧ ∃ v' S', RSt w' g S' base (L + m) v' (l.set k (x.1, (x.2.1 ++ ys, x.2.2))) dead armed (N - 1) ∧ (∀ j, S' j → S j ∨ w.heap.size ≤ j) ∧ (∀ j, v'.ownBlock = some j → v.ownBlock = some j ∨ w.heap.size ≤ j) ∧ Frm (fun j => j = g ∨ v.ownBlock = some j) w w' := by
  subst hd
  have H := Lib.hid h
  have c1 := h.c1
  obtain ⟨vs, hb, ho, hvl, hv, hav⟩ := h.blk
  have hat : k < l.length := (List.getElem?_eq_some_iff.1 hx).1
  obtain ⟨ga, ca, rfl, hga⟩ := own_form ho (by omega)
  obtain ⟨u, hu⟩ : ∃ u, vs[k]? = some u := ⟨_, List.getElem?_eq_getElem (by omega)⟩
  obtain ⟨Bx, bx, hub, hrb⟩ := hv k x u hx hu
  subst hub
  have ngg : ga ≠ g := (hav ga rfl).1
  have nSg : ¬ S ga := (hav ga rfl).2
  have hb1 : Blk (w.setCell ⟨g, 3, none⟩ (.int .i64 (N - 1))) g #[.slice (some ⟨ga, 0, none⟩) l.length ca, .bool false, .bool armed, .int .i64 (N - 1)] 44 := by
    have := hb.set 3 (.int .i64 (N - 1))
    simpa using this
  have hf1 := (Frm.refl (· = g) w).setg (i := 3) (.int .i64 (N - 1))
  have ho1 := own_frm ho hf1 (fun j hj e => (hav j hj).1 e)
  have hys1 := hys.frm hf1 (fun j hj e => hA j hj e)
  have hv1 : ∀ (i : Nat) (y : Int × Bk) (u : Value), l[i]? = some y → vs[i]? = some u → RB1 (w.setCell ⟨g, 3, none⟩ (.int .i64 (N - 1))) S L y u := fun i y u hy hu => (hv i y u hy hu).frm hf1 (fun j hj e => h.av j hj e)
  have sz1 : (w.setCell ⟨g, 3, none⟩ (.int .i64 (N - 1))).heap.size = w.heap.size := by simp [World.setCell]
  obtain ⟨w1, hw1⟩ : ∃ W, W = w.setCell ⟨g, 3, none⟩ (.int .i64 (N - 1)) := ⟨_, rfl⟩
  rw [← hw1] at hb1 ho1 hf1 hys1 hv1 sz1
  have hsx : Sl w1 1 (.slice Bx x.2.1.length bx) x.2.1.length (u8s x.2.1) := by
    obtain ⟨A, c, e1, e2, _⟩ := hv1 k x _ hx hu
    exact e2
  have hxL : x.2.1.length ≤ L := by
    obtain ⟨A, c, e1, e2, e3, e4, e5, e6, e7⟩ := hv k x _ hx hu
    exact e6
  have HI := Lib.hid Try.info5
  have k1 : (k : Int) < (l.length : Int) := by omega
  have k0 : (0 : Int) ≤ (k : Int) := by omega
  have k2 : ¬ (k : Int) < 0 := by omega
  obtain ⟨xl, hxl⟩ : ∃ m, x.2.1.length = m := ⟨_, rfl⟩
  rw [hxl] at hsx hxL hu
  have HXL := Lib.hid hxl
  have HB := Lib.hid hb
  have HB1 := Lib.hid hb1
  have HO1 := Lib.hid ho1
  have HV1 := Lib.hid hv1
  have HF1 := Lib.hid hf1
  have HW1 := Lib.hid hw1
  have HX := Lib.hid hx
  have HU := Lib.hid hu
  have SX := Lib.hid hsx.drew
  have HYS := Lib.hid hys1.drew
  have HYL := Lib.hid (sl_len hys)
  have HK := Lib.hid hk
  have KEEP : Hid (∀ W2, Below w1.heap.size w1.drew W2 → W2.cell? ⟨g, 0, none⟩ = some (.slice (some ⟨ga, 0, none⟩) l.length ca) ∧ W2.cell? ⟨ga, k * 4 + 1, none⟩ = some (.slice Bx xl bx) ∧ W2.frozen? ⟨ga, k * 4 + 1, none⟩ = false) := Lib.hid (fun W2 hbl => by
    have hfr := Frm.of_below (S := fun _ => False) (show Below w1.drew.heap.size w1.drew W2 from hbl)
    have ho2 := own_frm (show w1.drew.ownsRow base 71 4 _ _ _ from ho1) hfr (fun _ _ e => e)
    have hb2 : Blk W2 g _ 44 := Blk.below (show Blk w1.drew g _ 44 from hb1) hbl
    obtain ⟨z0, z1, z2, z3⟩ := rcell_at ho2 hat hx hu
    have c0 := hb2.cell 0
    simp at c0
    exact ⟨c0, z1, ho2.frozenAt _⟩)
  have cg := hb1.cell 0
  simp at cg
  obtain ⟨_, y1, _, _⟩ := rcell_at ho1 hat hx hu
  have hbs := h.base
  have hat2 : (k : Int) = if atN n l < l.length then (atN n l : Int) else -1 := by rw [hk, if_pos hat]
  have HAT := Lib.hid hat2
  clear hb hb1 ho1 hf1 hv hv1 ho hw1 h hsx hxl hrb hx hu hys hys1 hk hat2
  go_enter Try.func22, Try.ntmps22
  go_wp2_with fail
  refine (stops_go w g _ false armed N HB.out hc hN).mono ?_
  rintro e _ ⟨rfl, rfl⟩
  rw [← HW1.out]
  go_wp2_with fail
  refine (at_any w1 g S base L _ l false armed (N - 1) ⟨⟨vs, HB1.out, HO1.out, hvl, HV1.out, hav⟩, H.out.base, H.out.av⟩ hl n (k : Int) HAT.out).mono ?_
  rintro e _ ⟨rfl, rfl⟩
  go_wp2_with fail
  go_region_law (first | (refine step_app (v := .slice none 0 0) w1.heap.size (by rfl) _ _ 23 5 (.int .u8 0) 1 1 (by rfl) Try.underlying23 HI.out rfl (by omega) (by omega) (by rfl) (by rfl) (World.ownsRow_nil _ _ _ _) SX.out (by omega) (Nat.le_refl _) ?_; intro v2 u1 hown hfr hat2; rw [Nat.zero_add, List.nil_append] at hown; obtain ⟨A2, c2, rfl⟩ := own_slice' hown; have hB2 := Frm.below (Below.refl w1.heap.size w1.drew) hfr (Nat.le_refl _) (fun i e => by cases e); obtain ⟨y_g, y_1, yf1⟩ := KEEP.out u1 hB2; have HB2 := Lib.hid hB2; have HR2 := Lib.hid hown; have HF2 := Lib.hid hfr; have HY2 := Lib.hid (HYS.out.frm hfr (fun _ _ e => by cases e)); clear hown hfr hat2 hB2) | (refine step_app (v := .slice A2 xl c2) w1.heap.size (by rfl) _ _ 23 5 (.int .u8 0) 1 1 (by rfl) Try.underlying23 HI.out rfl (by omega) (by omega) (by rfl) (by rfl) HR2.out HY2.out (by omega) HB2.out.size ?_; intro v3 u2 hown hfr hat2; obtain ⟨A3, c3, rfl⟩ := own_slice' hown; have hB3 := Frm.below HB2.out hfr HB2.out.size (fun i e => (HR2.out.lt i e).1); obtain ⟨z_g, z_1, zf1⟩ := KEEP.out u2 hB3; have HR3 := Lib.hid hown; have HF3 := Lib.hid hfr; clear hown hfr hat2 hB3) | fail)
  all_goals
    go_wp2_with fail
    go_ret
    obtain ⟨r1, r2⟩ := rapp_fin (ys := ys) HB1.out HO1.out hvl HV1.out ngg nSg hbs H.out.av HX.out HU.out HF2.out HR2.out HF3.out HR3.out (by rw [List.length_append, HXL.out, HYL.out]) HYL.out
    refine ⟨rfl, _, _, r1, fun j hj => ?_, fun j hj => .inl hj, ?_⟩
    · rcases hj with hj | hj
      · exact .inl hj
      · exact .inr (by omega)
    · refine (HF1.out.mono (fun j hj => .inl hj)).trans (r2.mono (fun j hj => ?_))
      rcases hj with rfl | rfl
      · exact .inl rfl
      · exact .inr rfl
end Go.Proofs.Ytfcagjnedaaadaa
