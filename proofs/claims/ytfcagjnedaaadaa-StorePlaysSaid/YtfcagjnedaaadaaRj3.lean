/- The reference's Append of a new block. -/
import Derived.Test.YtfcagjnedaaadaaRi
import Derived.Test.YtfcagjnedaaadaaRp
namespace Go.Proofs.Ytfcagjnedaaadaa
open Go.RowKit
set_option linter.unusedSimpArgs false
set_option linter.unusedVariables false
attribute [local go_sem] run_max2 run_min2 run_max_ run_min_

set_option maxHeartbeats 8000000 in
set_option maxRecDepth 100000 in
theorem rapp_new3 (w : World) (g : Nat) (S : Nat → Prop) (base L : Nat) (ga ca : Nat) (l : List (Int × Bk)) (dead armed : Bool) (N : Int) (k : Nat) (h : RSt w g S base L (.slice (some ⟨ga, 0, none⟩) k ca) l dead armed N) (hd : dead = false) (hl : l.length ≤ 1000) (hL : L ≤ 1000000) (n : Int) (hwn : (Lit.int .i64 n).wf = true) (hn : ¬ n < 1) (hk : insN n l = k) (hkk : atN n l = l.length) (hc : ¬ (armed = true ∧ N = 0)) (hN : -1000000 ≤ N ∧ N ≤ 1000000)
    (A : Option Addr) (m c : Nat) (ys : List Int) (hys : Sl w 1 (.slice A m c) m (u8s ys)) (hm : m ≤ 1000) (hA : ∀ j, (Value.slice A m c).ownBlock = some j → j ≠ g) (hnl : l.length = k) (hck : k < ca) :
    Calls Try.prog 22 #[.pointer (some ⟨g, 0, none⟩), .int .i64 n, .slice A m c] w fun e w' => e = .returned (.int .i64 0) ∧ ∃ v' S', RSt w' g S' base (L + m) v' (l.take k ++ (n, (ys, 0, false)) :: l.drop k) dead armed (N - 1) ∧ (∀ j, S' j → S j ∨ w.heap.size ≤ j) ∧ (∀ j, v'.ownBlock = some j → (Value.slice (some ⟨ga, 0, none⟩) k ca).ownBlock = some j ∨ w.heap.size ≤ j) ∧ Frm (fun j => j = g ∨ (Value.slice (some ⟨ga, 0, none⟩) k ca).ownBlock = some j) w w' := by
  subst hd
  have H := Lib.hid h
  have c1 := h.c1
  obtain ⟨vs, hb, ho, hvl, hv, hav⟩ := h.blk
  have hkl : k ≤ l.length := hk ▸ insN_le n l
  rw [hnl] at hkl ho hvl hkk
  have ngg : ga ≠ g := (hav ga rfl).1
  have hb1 : Blk (w.setCell ⟨g, 3, none⟩ (.int .i64 (N - 1))) g #[(.slice (some ⟨ga, 0, none⟩) k ca), .bool false, .bool armed, .int .i64 (N - 1)] 44 := by
    have := hb.set 3 (.int .i64 (N - 1))
    simpa using this
  have hf1 := (Frm.refl (· = g) w).setg (i := 3) (.int .i64 (N - 1))
  have ho1 := own_frm ho hf1 (fun j hj e => (hav j hj).1 e)
  have hys1 := hys.frm hf1 (fun j hj e => hA j hj e)
  have hv1 : ∀ (i : Nat) (y : Int × Bk) (u : Value), l[i]? = some y → vs[i]? = some u → RB1 (w.setCell ⟨g, 3, none⟩ (.int .i64 (N - 1))) S L y u := fun i y u hy hu => (hv i y u hy hu).frm hf1 (fun j hj e => h.av j hj e)
  have sz1 : (w.setCell ⟨g, 3, none⟩ (.int .i64 (N - 1))).heap.size = w.heap.size := by simp [World.setCell]
  have gl0 := hb.lt
  obtain ⟨w1, hw1⟩ : ∃ W, W = w.setCell ⟨g, 3, none⟩ (.int .i64 (N - 1)) := ⟨_, rfl⟩
  rw [← hw1] at hb1 ho1 hf1 hys1 hv1 sz1
  have gl1 := hb1.lt
  have HI := Lib.hid Try.info5
  have HI2 := Lib.hid Try.info71
  have hbs := h.base
  have fg := hb1.free 0
  have hone : ∀ u ∈ vs, u.oneCell' = true := fun u hu => by
    obtain ⟨i, hi, e⟩ := List.getElem_of_mem hu
    obtain ⟨A, c, e1, _⟩ := hv i _ u (List.getElem?_eq_getElem (by omega : i < l.length)) (by rw [List.getElem?_eq_getElem hi, e])
    rw [e1]; rfl
  have hvl' : vs.length = l.length := by omega
  have hca : k ≤ ca := by
    rcases ho.2 with ⟨h, _⟩ | ⟨_, _, _, e, _, _, h1, _⟩
    · cases h
    · injection e with _ _ e3; subst e3; exact h1
  have h1c := rcells_one l vs hvl' hone
  have p1 := own_part (a := 0) (m := k) ho1 h1c (by omega)
  simp only [Nat.zero_mul, Nat.sub_zero, List.drop_zero] at p1
  rw [rcells_take l vs k hvl'] at p1
  have P1 : Hid (Sl w1.drew 4 (.slice (some ⟨ga, 0, none⟩) k k) k (rcells (l.take k) (vs.take k))) := by
    obtain ⟨A', c', e, e2, e3, e4, e5, e6⟩ := p1
    injection e with e1 _ _
    subst e1
    exact Lib.hid ⟨_, k, rfl, Nat.le_refl _, Nat.le_trans e2 e3, e4, e5, e6⟩
  have VL := Lib.hid hvl'
  have HKL := Lib.hid (show k ≤ l.length by omega)
  have HLK := Lib.hid hnl
  have p2 := own_part (a := k) (m := k - k) ho1 h1c (by omega)
  rw [rcells_drop l vs k hvl', List.take_of_length_le (by rw [rcells_length _ _ (by rw [List.length_drop, List.length_drop, hvl']), List.length_drop]; omega)] at p2
  have P2 := Lib.hid p2.drew
  have k4 : k ≤ ca := by omega
  have k7 : (k : Int) ≤ (ca : Int) := by omega
  have k8 : ¬ ca = k := by omega
  rw [Nat.sub_self] at P2
  have k1 : (k : Int) ≤ (k : Int) := by omega
  have k0 : (0 : Int) ≤ (k : Int) := by omega
  have k3 : k ≤ 1000 := by omega
  have n3 : k ≤ 1000 := by omega
  have gal := (ho1.lt ga rfl).2
  have BOX : Hid ((w1.drew.alloc (.cells #[.int .i64 n, .slice none 0 0, .int .i64 0, .bool false] 71)).ownsRow w1.heap.size 71 4 (.slice (some ⟨w1.heap.size, 0, none⟩) 1 1) 1 [.int .i64 n, .slice none 0 0, .int .i64 0, .bool false]) :=
    Lib.hid (World.ownsRow_lit w1.drew #[.int .i64 n, .slice none 0 0, .int .i64 0, .bool false] 1 (Nat.le_refl _) (by simp [maxLen]) (by rfl))
  have ONE : Hid (∀ u ∈ ([.int .i64 n, .slice none 0 0, .int .i64 0, .bool false] ++ rcells (l.drop k) (vs.drop k) : List Value), u.oneCell' = true) := Lib.hid (fun u hu => by
    rcases List.mem_append.1 hu with h | h
    · simp only [List.mem_cons, List.not_mem_nil, or_false] at h
      rcases h with rfl | rfl | rfl | rfl <;> rfl
    · obtain ⟨_, _, _, _, _, _, h4, _⟩ := P2.out
      exact h4 u h)
  have HB := Lib.hid hb
  have HB1 := Lib.hid hb1
  have HO1 := Lib.hid ho1
  have HV1 := Lib.hid hv1
  have HF1 := Lib.hid hf1
  have HW1 := Lib.hid hw1
  have HYS := Lib.hid hys1
  have HYL := Lib.hid (sl_len hys)
  have HAV := Lib.hid hav
  have HK := Lib.hid hk
  have cg := hb1.cell 0
  simp at cg
  have HAT : Hid ((-1 : Int) = if atN n l < l.length then (atN n l : Int) else -1) := Lib.hid (by rw [hkk, if_neg (by omega)])
  have SZ1 := Lib.hid sz1
  have nne := World.new_ne w1 ⟨g, 0, none⟩ cg
  clear sz1 hb hb1 ho1 hf1 hv hv1 ho hw1 h hys hys1 hk hkk hav hone p1 h1c hvl hvl' hnl p2
  go_enter Try.func22, Try.ntmps22
  go_wp2_with fail
  refine (stops_go w g _ false armed N HB.out hc hN).mono ?_
  rintro e _ ⟨rfl, rfl⟩
  rw [← HW1.out]
  go_wp2_with fail
  refine (at_any w1 g S base L _ l false armed (N - 1) ⟨⟨vs, HB1.out, (by rw [HLK.out]; exact HO1.out), VL.out, HV1.out, HAV.out⟩, H.out.base, H.out.av⟩ hl n (-1) HAT.out).mono ?_
  rintro e _ ⟨rfl, rfl⟩
  go_wp2_with fail
  go_loopw [7] (fun i wq => ∃ j : Nat, j ≤ k ∧ i = .int .i64 j ∧ w1 = wq) (fun i _ => k - (intOf i).toNat)
  case atStart => exact ⟨0, Nat.zero_le _, rfl, rfl⟩
  case round =>
    obtain ⟨j, hj, rfl, rfl⟩ := hrel
    by_cases hjk : j < k
    · have hjl : j < l.length := by have := HLK.out; omega
      obtain ⟨x, hx⟩ : ∃ x, l[j]? = some x := ⟨_, List.getElem?_eq_getElem hjl⟩
      obtain ⟨u, hu⟩ : ∃ u, vs[j]? = some u := ⟨_, List.getElem?_eq_getElem (by have := VL.out; omega)⟩
      obtain ⟨y0, _, _, _⟩ := rcell_at (show w1.ownsRow base 71 4 (.slice (some ⟨ga, 0, none⟩) k ca) k (rcells l vs) from HO1.out) (by omega) hx hu
      have hlt := insN_lt n l j x (by rw [HK.out]; exact hjk) hx
      have j0 : (0 : Int) ≤ (j : Int) := by omega
      have j1 : (j : Int) < (k : Int) := by omega
      have iwj : IntKind.i64.wrap ((j : Int) + 1) = (j : Int) + 1 := IntWalk.i64_in _ ⟨by omega, by omega⟩
      generalize x.1 = xn at y0 hlt
      clear hx hu
      go_wp2_with fail
      go_roundw
      case rel => exact ⟨j + 1, by omega, by go_num, by first | rfl | trivial⟩
      case measure => simp [intOf]; omega
    · obtain rfl : j = k := by omega
      go_wp2_with fail
      go_region_law (first | (refine step_app (v := .slice (some ⟨w1.heap.size, 0, none⟩) 1 1) w1.heap.size (by rfl) _ _ 42 71 zR 4 48 (by rfl) Try.underlying42 HI2.out rfl (by omega) (by omega) (by rfl) (by rfl) BOX.out (P2.out.alloc _) (by omega) (by simp) ?_; intro v2 t1 hown hfr hat2; obtain ⟨D2, d2, rfl⟩ := own_slice' hown; have hB2 := box_below hfr; have x_g := (Blk.below (show Blk w1.drew g _ 44 from HB1.out) hB2).cell 0; simp at x_g; have HT2 := Lib.hid hB2; have HR2 := Lib.hid hown; have PP := Lib.hid (P1.out.below (show Below w1.drew.heap.size w1.drew t1 from hB2)); clear hown hfr hat2 hB2) | (refine step_appf w1.heap.size (by rfl) _ _ 42 71 zR 4 48 (by rfl) Try.underlying42 HI2.out rfl (by omega) (by omega) (A := (some ⟨ga, 0, none⟩)) (n := j) (by rfl) (by rfl) PP.out (Sl.of_own HR2.out ONE.out) (by omega) (by omega) HT2.out.size ?_; intro v3 t2 hown hfr hat3; have hB3 := Frm.below HT2.out hfr HT2.out.size (fun i e => e.elim); have y_g := (Blk.below (show Blk w1.drew g _ 44 from HB1.out) hB3).cell 0; have yf := (Blk.below (show Blk w1.drew g _ 44 from HB1.out) hB3).free 0; simp at y_g; obtain ⟨gb, cb, rfl, hgb⟩ := own_form hown (by omega); have HT3 := Lib.hid hB3; have HR3 := Lib.hid hown; clear hown hfr hat3 hB3) | fail)
      all_goals
        obtain ⟨w2, hw2⟩ : ∃ W, W = t2.setCell ⟨g, 0, none⟩ (.slice (some ⟨gb, 0, none⟩) (j + (1 + 0)) cb) := ⟨_, rfl⟩
        rw [← hw2]
        obtain ⟨i1, i2, i3, i4, i5, i6, i7, i8, i9, i10⟩ := ins_fin HB1.out HT3.out HR3.out VL.out HKL.out HV1.out H.out.av hbs hwn (l.take j ++ (n, ([], 0, false)) :: l.drop j) (vs.take j ++ .slice none 0 0 :: vs.drop j) rfl rfl w2 hw2
        clear hw2
        obtain ⟨p, hp⟩ : ∃ p, p = (j + (1 + 0)) := ⟨_, rfl⟩
        rw [← hp] at i1 i2
        (try rw [← hp])
        have hpl : p = ((l.take j ++ (n, ([], 0, false)) :: l.drop j)).length := own_len4 i2 i3
        have q1 : (j : Int) < (p : Int) := by omega
        have q0 : (0 : Int) ≤ (j : Int) := by omega
        have q2 : p ≤ 1100 := by omega
        have q3 : j < p := by omega
        have cg2 := i1.cell 0
        simp only [List.getElem?_toArray, List.getElem?_cons_zero] at cg2
        obtain ⟨_, y1, _, _⟩ := rcell_at i2 (by omega) i5 i6
        have SX := Lib.hid ((Sl.nil w2 1).drew)
        have HY2 := Lib.hid ((HYS.out.frm i7 (fun j hj e => hA j hj e)).drew)
        have KEEP : Hid (∀ W2, Below w2.heap.size w2.drew W2 → W2.cell? ⟨g, 0, none⟩ = some (.slice (some ⟨gb, 0, none⟩) p cb) ∧ W2.cell? ⟨gb, j * 4 + 1, none⟩ = some (.slice none 0 0) ∧ W2.frozen? ⟨gb, j * 4 + 1, none⟩ = false) := Lib.hid (fun W2 hbl => by
          have hfr := Frm.of_below (S := fun _ => False) (show Below w2.drew.heap.size w2.drew W2 from hbl)
          have ho2 := own_frm (show w2.drew.ownsRow base 71 4 _ _ _ from i2) hfr (fun _ _ e => e)
          have hb2 : Blk W2 g _ 44 := Blk.below (show Blk w2.drew g _ 44 from i1) hbl
          obtain ⟨z0, z1, z2, z3⟩ := rcell_at ho2 (by omega) i5 i6
          have c0 := hb2.cell 0
          simp at c0
          exact ⟨c0, z1, ho2.frozenAt _⟩)
        have I1 := Lib.hid i1
        have I2 := Lib.hid i2
        have I3 := Lib.hid i3
        have I4 := Lib.hid i4
        have I5 := Lib.hid i5
        have I6 := Lib.hid i6
        have I7 := Lib.hid i7
        have HP := Lib.hid hpl
        have nS : ¬ (S gb ∧ gb < w1.heap.size) := fun h => by omega
        clear i1 i2 i3 i4 i5 i6 i7 hp hpl x_g y_g yf
        go_wp2_with fail
        go_region_law (first | (refine step_app (v := .slice none 0 0) w2.heap.size (by rfl) _ _ 23 5 (.int .u8 0) 1 1 (by rfl) Try.underlying23 HI.out rfl (by omega) (by omega) (by rfl) (by rfl) (World.ownsRow_nil _ _ _ _) SX.out (by omega) (Nat.le_refl _) ?_; intro v2 u1 hown hfr hat2; rw [Nat.zero_add, List.nil_append] at hown; obtain ⟨A2, c2, rfl⟩ := own_slice' hown; have hB2 := Frm.below (Below.refl w2.heap.size w2.drew) hfr (Nat.le_refl _) (fun i e => by cases e); obtain ⟨y_g, y_1, yf1⟩ := KEEP.out u1 hB2; have HB2 := Lib.hid hB2; have HR2 := Lib.hid hown; have HF2 := Lib.hid hfr; have HY3 := Lib.hid (HY2.out.frm hfr (fun _ _ e => by cases e)); clear hown hfr hat2 hB2) | (refine step_app (v := .slice A2 0 c2) w2.heap.size (by rfl) _ _ 23 5 (.int .u8 0) 1 1 (by rfl) Try.underlying23 HI.out rfl (by omega) (by omega) (by rfl) (by rfl) HR2.out HY3.out (by omega) HB2.out.size ?_; intro v3 u2 hown hfr hat2; obtain ⟨A3, c3, rfl⟩ := own_slice' hown; have hB3 := Frm.below HB2.out hfr HB2.out.size (fun i e => (HR2.out.lt i e).1); obtain ⟨z_g, z_1, zf1⟩ := KEEP.out u2 hB3; have HR3 := Lib.hid hown; have HF3 := Lib.hid hfr; clear hown hfr hat2 hB3) | fail)
        all_goals
          go_wp2_with fail
          go_ret
          obtain ⟨r1, r2⟩ := rapp_fin (ys := ys) (by rw [← HP.out]; exact I1.out) (by rw [← HP.out]; exact I2.out) I3.out I4.out i8 nS hbs (fun j hj => H.out.av j hj.1) I5.out I6.out HF2.out HR2.out HF3.out HR3.out (by rw [List.length_append, HYL.out]; rfl) HYL.out
          simp only [List.nil_append, Nat.zero_add, Nat.zero_mul] at r1 r2
          rw [set_mid _ _ j _ _ (by rw [List.length_take]; have := HKL.out; omega)] at r1
          refine ⟨rfl, _, _, r1, fun j hj => ?_, fun j hj => ?_, ?_⟩
          · rcases hj with hj | hj
            · exact .inl hj.1
            · exact .inr (by have := I7.out.size; have := SZ1.out; omega)
          · injection hj with hj
            simp only at hj
            exact .inr (by have := SZ1.out; omega)
          · refine ((HF1.out.trans I7.out).mono (fun j hj => .inl hj)).next r2 (fun j hj => ?_)
            rcases hj with rfl | rfl
            · exact .inl (.inl rfl)
            · exact .inr (by have := SZ1.out; omega)
    
end Go.Proofs.Ytfcagjnedaaadaa
