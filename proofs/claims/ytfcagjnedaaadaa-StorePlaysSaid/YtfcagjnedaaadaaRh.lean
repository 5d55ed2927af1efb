/- The reference's Crash. -/
import Derived.Test.YtfcagjnedaaadaaRg
import Derived.Test.YtfcagjnedaaadaaRe
namespace Go.Proofs.Ytfcagjnedaaadaa
open Go.RowKit
attribute [local go_sem] run_max2 run_min2 run_max_ run_min_

def crashL (keep : Int) (l : List (Int × Bk)) : List (Int × Bk) := l.filterMap fun x => (crash1 keep x.2).map (fun y => (x.1, y))
theorem crashL_snoc (keep : Int) (l : List (Int × Bk)) (k : Nat) (x : Int × Bk) (h : l[k]? = some x) : crashL keep (l.take (k + 1)) = crashL keep (l.take k) ++ ((crash1 keep x.2).map (fun y => (x.1, y))).toList := by
  rw [List.take_add_one, h]
  simp only [crashL, List.filterMap_append, Option.toList, List.filterMap_cons, List.filterMap_nil]
  cases crash1 keep x.2 <;> rfl
theorem crashL_length (keep : Int) (l : List (Int × Bk)) : (crashL keep l).length ≤ l.length := List.length_filterMap_le _ _

theorem crn_vals (keep : Int) (x : Bk) (cn len : Nat) (hcn : crn keep x = cn) (hlen : x.1.length = len) (h0 : 0 ≤ x.2.1) (h1 : x.2.1 ≤ x.1.length) (hL : len ≤ 1000000) : ∃ km D q, (if keep < 0 then (0 : Int) else keep) = km ∧ IntKind.i64.wrap ((len : Int) - x.2.1) = D ∧ (if D < km then D else km) = q ∧ IntKind.i64.wrap (x.2.1 + q) = (cn : Int) ∧ cn ≤ len := by
  obtain ⟨e1, e2⟩ := crn_eq keep x h0 h1
  rw [hcn] at e1 e2
  rw [hlen] at e1 e2 h1
  refine ⟨_, _, _, rfl, IntWalk.i64_in _ ⟨by omega, by omega⟩, rfl, ?_, e2⟩
  have e3 : x.2.1 + (if (len : Int) - x.2.1 < (if keep < 0 then (0 : Int) else keep) then (len : Int) - x.2.1 else (if keep < 0 then (0 : Int) else keep)) = (cn : Int) := by
    rw [← e1]
    unfold mn mx
    repeat' split
    all_goals omega
  rw [e3]
  exact IntWalk.i64_in _ ⟨by omega, by omega⟩

/-- A row of one block. -/
theorem Sl.box4 (w : World) (a b c d : Value) (h : Nat) (hh : h = w.heap.size) (h1 : ∀ u ∈ [a, b, c, d], u.oneCell' = true) : Sl (w.alloc (.cells #[a, b, c, d] 71)) 4 (.slice (some ⟨h, 0, none⟩) 1 1) 1 [a, b, c, d] := by
  subst hh
  refine ⟨_, 1, rfl, Nat.le_refl _, by simp [maxLen], rfl, h1, fun _ => ⟨_, rfl, fun j u hj => ?_⟩⟩
  have ha : (⟨w.heap.size, 0, none⟩ : Addr).add j = ⟨w.heap.size, j, none⟩ := by unfold Addr.add; split <;> simp_all
  rw [ha, (Blk.new w #[a, b, c, d] 71).cell j]
  simpa using hj

/-- The new list of a crash under way. -/
structure Out (w : World) (base L : Nat) (v : Value) (l : List (Int × Bk)) : Prop where
  r : ∃ (vs : List Value) (T : Nat → Prop), w.ownsRow base 71 4 v l.length (rcells l vs) ∧ vs.length = l.length ∧ (∀ (i : Nat) (x : Int × Bk) (u : Value), l[i]? = some x → vs[i]? = some u → RB1 w T L x u) ∧ (∀ j, T j → base ≤ j) ∧ (∀ j, v.ownBlock = some j → ¬ T j)

theorem out_step {wr W1 w2 w3 : World} {B L m co cn c2 : Nat} {Ao A2 : Option Addr} {lk : List (Int × Bk)} {vs' : List Value} {T : Nat → Prop} {xn : Int} {xb : List Int} {v3 : Value} {o : Obj}
    (R1 : W1.ownsRow B 71 4 (.slice Ao m co) m (rcells lk vs')) (R2 : vs'.length = m) (hm : lk.length = m) (R3 : ∀ (i : Nat) (x : Int × Bk) (u : Value), lk[i]? = some x → vs'[i]? = some u → RB1 wr T L x u) (R4 : ∀ j, T j → B ≤ j) (R5 : ∀ j, (Value.slice Ao m co).ownBlock = some j → ¬ T j) (F1 : Frm (fun _ => False) wr W1) (hB : B ≤ W1.heap.size)
    (HR2 : w2.ownsRow W1.heap.size 5 1 (.slice A2 cn c2) cn ((u8s xb).take cn)) (HF2 : Frm (fun k => (Value.slice none 0 0).ownBlock = some k) W1.drew w2) (HF3 : Frm (fun k => (Value.slice Ao m co).ownBlock = some k) (w2.alloc o) w3)
    (HR3 : w3.ownsRow B 71 4 v3 (m + 1) (rcells lk vs' ++ [.int .i64 xn, .slice A2 cn c2, .int .i64 (cn : Int), .bool true])) (HA3 : v3.ownBlock = (Value.slice Ao m co).ownBlock ∨ v3.ownBlock = some (w2.alloc o).heap.size)
    (hcn : cn ≤ xb.length) (hL : cn ≤ L) (hwf : (Lit.int .i64 xn).wf = true) : Out w3 B L v3 (lk ++ [(xn, (xb.take cn, (cn : Int), true))]) := by
  have s2 : W1.heap.size ≤ w2.heap.size := HF2.size
  have s1 := F1.size
  have hF : Frm (fun j => (Value.slice Ao m co).ownBlock = some j) wr w3 := (((F1.mono (fun _ h => h.elim)).drew.trans (HF2.mono (fun _ e => by cases e))).alloc o).trans HF3
  have htl : (xb.take cn).length = cn := by rw [List.length_take]; omega
  refine ⟨⟨vs' ++ [.slice A2 cn c2], fun j => (T j ∧ j < wr.heap.size) ∨ (W1.heap.size ≤ j ∧ j < w2.heap.size), ?_, by simp [R2, hm], fun i x u hi hu => ?_, fun j hj => ?_, fun j hj hT => ?_⟩⟩
  · rw [rcells_append _ _ _ _ (by rw [R2, hm]), List.length_append, hm]
    exact HR3
  · by_cases hlt : i < m
    · rw [List.getElem?_append_left (by omega)] at hi hu
      exact RB1.mono (RB1.frm (RB1.near (R3 i x u hi hu)) hF (fun j hj e => R5 j e hj.1)) (fun j hj => .inl hj)
    · have hi2 : i < (lk ++ [(xn, (xb.take cn, (cn : Int), true))]).length := (List.getElem?_eq_some_iff.1 hi).1
      simp only [List.length_append, List.length_cons, List.length_nil] at hi2
      obtain rfl : i = m := by omega
      rw [List.getElem?_append_right (by omega), hm, Nat.sub_self] at hi
      rw [List.getElem?_append_right (by omega), R2, Nat.sub_self] at hu
      simp only [List.getElem?_cons_zero, Option.some.injEq] at hi hu
      subst hi
      subst hu
      have hs := Sl.of_own HR2 (by rw [u8s_take]; exact u8s_one _)
      have hs3 := (hs.alloc o).frm HF3 (fun j hj e => by have := (HR2.lt j hj).1; have := (R1.lt j e).2; omega)
      rw [u8s_take] at hs3
      refine ⟨A2, c2, by simp only [htl], by simp only [htl]; exact hs3, fun _ j hj => ?_, by simp, by simp only [htl]; simp, by simp only [htl]; omega, hwf⟩
      have h1 := HR2.lt j hj
      have h3 := HF3.size
      simp at h3
      exact ⟨.inr h1, by omega⟩
  · rcases hj with hj | hj
    · exact R4 j hj.1
    · omega
  · rcases HA3 with e | e
    · rw [e] at hj
      have := (R1.lt j hj).2
      rcases hT with hT | hT
      · exact R5 j hj hT.1
      · omega
    · rw [e] at hj
      injection hj with hj
      simp at hj
      omega

set_option maxHeartbeats 2000000 in
set_option maxRecDepth 100000 in
theorem rcrash_any (w : World) (g : Nat) (S : Nat → Prop) (base L : Nat) (v : Value) (l : List (Int × Bk)) (dead armed : Bool) (N : Int) (h : RSt w g S base L v l dead armed N) (hl : l.length ≤ 1000) (hL : L ≤ 1000000) (keep : Int) :
    Calls Try.prog 29 #[.pointer (some ⟨g, 0, none⟩), .int .i64 keep] w fun e w' => e = .returned (.tuple #[]) ∧ (∃ v' T, RSt w' g T base L v' (crashL keep l) false false N ∧ (∀ j, T j → w.heap.size ≤ j) ∧ ∀ j, v'.ownBlock = some j → w.heap.size ≤ j) ∧ Frm (· = g) w w' := by
  obtain ⟨vs, hb, ho, hvl, hv, hav⟩ := h.blk
  obtain ⟨A, c, rfl⟩ := own_slice' ho
  have c0 := hb.cell 0
  simp at c0
  have H := Lib.hid h
  have HB := Lib.hid hb
  have HO := Lib.hid ho
  have HV := Lib.hid hv
  have HI := Lib.hid Try.info5
  have HI2 := Lib.hid Try.info71
  have gl := hb.lt
  clear ho h hb hv
  go_enter Try.func29, Try.ntmps29
  go_wp2_with fail
  go_loopw [13, 4, 6, 7] (fun i v _ _ wr => ∃ k : Nat, k ≤ l.length ∧ i = .int .i64 k ∧ Out wr w.heap.size L v (crashL keep (l.take k)) ∧ Below w.heap.size w wr) (fun i _ _ _ _ => l.length - (intOf i).toNat)
  case atStart => exact ⟨0, Nat.zero_le _, rfl, ⟨⟨[], fun _ => False, World.ownsRow_nil _ _ _ _, rfl, fun i x u h => by simp [crashL] at h, fun _ h => h.elim, fun _ _ h => h⟩⟩, Below.refl _ _⟩
  case round =>
    obtain ⟨k, hk, rfl, hout, hbr⟩ := hrel
    have HBR := Lib.hid hbr
    have sr : w.heap.size ≤ wr.heap.size := hbr.size
    have HOUT := Lib.hid hout
    clear hbr hout
    by_cases hkl : k < l.length
    · have k1 : (k : Int) < (l.length : Int) := by omega
      have k0 : (0 : Int) ≤ (k : Int) := by omega
      have iwk : IntKind.i64.wrap ((k : Int) + 1) = (k : Int) + 1 := IntWalk.i64_in _ ⟨by omega, by omega⟩
      obtain ⟨x, hx⟩ : ∃ x, l[k]? = some x := ⟨_, List.getElem?_eq_getElem hkl⟩
      obtain ⟨u, hu⟩ : ∃ u, vs[k]? = some u := ⟨_, List.getElem?_eq_getElem (by omega)⟩
      have hrb := HV.out k x u hx hu
      obtain ⟨Bx, bx, hub, hsl, hsj, hs0, hs1, hsL, hwf⟩ := hrb
      subst hub
      obtain ⟨ga, ca, e, hga⟩ := own_form HO.out (by omega)
      injection e with e1 e2 e3
      subst e1
      subst e3
      obtain ⟨y0, y1, y2, y3⟩ := rcell_at HO.out hkl hx hu
      have z0 := (HBR.out.cell (World.block_lt_of_cell? w _ y0)).trans y0
      have z1 := (HBR.out.cell (World.block_lt_of_cell? w _ y1)).trans y1
      have z2 := (HBR.out.cell (World.block_lt_of_cell? w _ y2)).trans y2
      have z3 := (HBR.out.cell (World.block_lt_of_cell? w _ y3)).trans y3
      have HG := Lib.hid (crashL_snoc keep l k x hx)
      have hsx := hsl.below HBR.out
      clear y0 y1 y2 y3 hu hsj hsl
      obtain ⟨xn, xb, sy, fm⟩ := x
      simp only at z0 z1 z2 z3 hs0 hs1 hsL hwf hsx
      obtain ⟨cn, hcn⟩ : ∃ cn, crn keep (xb, sy, fm) = cn := ⟨_, rfl⟩
      obtain ⟨xl, hxl⟩ : ∃ m, xb.length = m := ⟨_, rfl⟩
      obtain ⟨km, D, q, q1, q2, q3, q4, q5⟩ := crn_vals keep (xb, sy, fm) cn xl hcn hxl hs0 hs1 (by omega)
      simp only at q2 q4
      rw [hxl] at z1 hsx hs1 hsL
      have HCN := Lib.hid hcn
      have HXL := Lib.hid hxl
      have HX := Lib.hid hx
      clear hcn hxl hx
      by_cases hcz : cn = 0 ∧ fm = false
      · obtain ⟨rfl, rfl⟩ := hcz
        simp only [Int.natCast_zero] at q4
        go_wp2_with fail
        go_roundw
        case rel =>
          refine ⟨k + 1, by omega, by go_num, ?_, HBR.out.alloc sr _⟩
          rw [HG.out]
          have hc1 : crash1 keep (xb, sy, false) = none := by simp [crash1, HCN.out]
          rw [hc1]
          simp only [Option.map_none, Option.toList_none, List.append_nil]
          obtain ⟨vs', T, r1, r2, r3, r4, r5⟩ := HOUT.out.r
          exact ⟨⟨vs', T, r1.alloc _, r2, fun i x u h1 h2 => (r3 i x u h1 h2).frm ((Frm.refl (fun _ => False) wr).alloc _) (fun _ _ h => h), r4, r5⟩⟩
        case measure => simp [intOf]; omega
      · have hcc : ((cn : Int) == 0 && !fm) = false := by
          cases fm
          · simp at hcz ⊢; exact hcz
          · simp
        obtain ⟨W1, hW1⟩ : ∃ W, W = wr.alloc (.cells #[.int .i64 xn, .slice Bx xl bx, .int .i64 sy, .bool fm] 71) := ⟨_, rfl⟩
        have bx1 := Blk.new wr #[.int .i64 xn, .slice Bx xl bx, .int .i64 sy, .bool fm] 71
        have sx1 := hsx.alloc (.cells #[.int .i64 xn, .slice Bx xl bx, .int .i64 sy, .bool fm] 71)
        rw [← hW1] at bx1 sx1
        have STK := Lib.hid ((sx1.take q5).drew)
        have x0 := bx1.cell 0
        have x1 := bx1.cell 1
        simp at x0 x1
        have t0 : (0 : Int) ≤ (cn : Int) := by omega
        have hbx : xl ≤ bx := by
          obtain ⟨_, _, e, h1, _⟩ := sx1
          injection e with _ _ e3
          subst e3
          exact h1
        have t3 : (cn : Int) ≤ (bx : Int) := by omega
        have t4 : cn ≤ bx := by omega
        have HW1 := Lib.hid hW1
        have HBX := Lib.hid bx1
        obtain ⟨vs', T, r1, r2, r3, r4, r5⟩ := HOUT.out.r
        obtain ⟨m, hm⟩ : ∃ m, (crashL keep (l.take k)).length = m := ⟨_, rfl⟩
        have hm2 : m ≤ 1000 := by rw [← hm]; exact Nat.le_trans (crashL_length _ _) (by rw [List.length_take]; omega)
        rw [hm] at r1 r2
        obtain ⟨Ao, co, rfl⟩ := own_slice' r1
        have sz1 : w.heap.size ≤ W1.heap.size := by rw [hW1]; simp; omega
        have r1' := r1.alloc (.cells #[.int .i64 xn, .slice Bx xl bx, .int .i64 sy, .bool fm] 71)
        have f1 := (Frm.refl (fun _ => False) wr).alloc (.cells #[.int .i64 xn, .slice Bx xl bx, .int .i64 sy, .bool fm] 71)
        have b1 := HBR.out.alloc sr (.cells #[.int .i64 xn, .slice Bx xl bx, .int .i64 sy, .bool fm] 71)
        rw [← hW1] at r1' f1 b1
        have R1 := Lib.hid r1'
        have F1 := Lib.hid f1
        have B1 := Lib.hid b1
        have HM := Lib.hid hm
        have R2 := Lib.hid r2
        have R3 := Lib.hid r3
        have R4 := Lib.hid r4
        have R5 := Lib.hid r5
        have hc1 : crash1 keep (xb, sy, fm) = some (xb.take cn, (cn : Int), true) := by
          simp only [crash1, HCN.out]
          rw [if_neg]
          intro h
          exact hcz h
        have HC := Lib.hid hc1
        clear r1 r1' f1 b1 hm r2 r3 r4 r5 hc1
        clear hW1 sx1 hsx bx1
        cases fm
        ·
          have hz : ((cn : Int) == 0) = false := by simpa using hcc
          clear hcc hcz
          go_wp2_with fail
          rw [← HW1.out]
          go_region_law (first | (refine step_app (v := .slice none 0 0) W1.heap.size (by rfl) _ _ 23 5 (.int .u8 0) 1 1 (by rfl) Try.underlying23 HI.out rfl (by omega) (by omega) (by rfl) (by rfl) (World.ownsRow_nil _ _ _ _) STK.out (by omega) (Nat.le_refl _) ?_; intro v2 w2 hown hfr hat2; rw [Nat.zero_add, List.nil_append] at hown; have HR2 := Lib.hid hown; obtain ⟨A2, c2, rfl⟩ := own_slice' hown; have HF2 := Lib.hid hfr; have y0 := (HBX.out.drew.frm hfr (fun e => by cases e)).cell 0; have sz2 : w.heap.size ≤ w2.heap.size := Nat.le_trans sz1 hfr.size; simp at y0; clear hown hfr hat2) | (refine step_app (v := .slice Ao m co) w.heap.size (by rfl) _ _ 42 71 zR 4 48 (by rfl) Try.underlying42 HI2.out rfl (by omega) (by omega) (by rfl) (by rfl) ((own_frm (show W1.drew.ownsRow _ _ _ _ _ _ from R1.out) HF2.out (fun _ _ e => by cases e)).alloc _) (Sl.box4 w2 _ _ _ _ _ (by simp) (by simp [Value.oneCell'])) (by omega) (Nat.le_trans sz2 (by simp)) ?_; intro v3 w3 hown hfr hat2; have HR3 := Lib.hid hown; have HF3 := Lib.hid hfr; have HA3 := Lib.hid hat2; clear hown hfr hat2) | fail)
          all_goals
            go_wp2_with fail
            go_roundw
            case rel =>
              refine ⟨k + 1, by omega, by go_num, ?_, Frm.below ((Frm.below B1.out.drew HF2.out sz1 (fun _ e => by cases e)).alloc sz2 _) HF3.out (Nat.le_trans sz2 (by simp)) (fun j hj => (R1.out.lt j hj).1)⟩
              rw [HG.out, HC.out]
              simp only [Option.map_some, Option.toList_some]
              exact out_step R1.out R2.out HM.out R3.out R4.out R5.out F1.out sz1 HR2.out HF2.out HF3.out HR3.out HA3.out (by rw [HXL.out]; exact q5) (by omega) hwf
            case measure => simp [intOf]; omega
        · by_cases hc0 : cn = 0
          ·
            subst hc0
            simp only [Int.natCast_zero] at q4 t0 t3
            clear hcc hcz
            go_wp2_with fail
            rw [← HW1.out]
            go_region_law (first | (refine step_app (v := .slice none 0 0) W1.heap.size (by rfl) _ _ 23 5 (.int .u8 0) 1 1 (by rfl) Try.underlying23 HI.out rfl (by omega) (by omega) (by rfl) (by rfl) (World.ownsRow_nil _ _ _ _) STK.out (by omega) (Nat.le_refl _) ?_; intro v2 w2 hown hfr hat2; rw [Nat.zero_add, List.nil_append] at hown; have HR2 := Lib.hid hown; obtain ⟨A2, c2, rfl⟩ := own_slice' hown; have HF2 := Lib.hid hfr; have y0 := (HBX.out.drew.frm hfr (fun e => by cases e)).cell 0; have sz2 : w.heap.size ≤ w2.heap.size := Nat.le_trans sz1 hfr.size; simp at y0; clear hown hfr hat2) | (refine step_app (v := .slice Ao m co) w.heap.size (by rfl) _ _ 42 71 zR 4 48 (by rfl) Try.underlying42 HI2.out rfl (by omega) (by omega) (by rfl) (by rfl) ((own_frm (show W1.drew.ownsRow _ _ _ _ _ _ from R1.out) HF2.out (fun _ _ e => by cases e)).alloc _) (Sl.box4 w2 _ _ _ _ _ (by simp) (by simp [Value.oneCell'])) (by omega) (Nat.le_trans sz2 (by simp)) ?_; intro v3 w3 hown hfr hat2; have HR3 := Lib.hid hown; have HF3 := Lib.hid hfr; have HA3 := Lib.hid hat2; clear hown hfr hat2) | fail)
            all_goals
              go_wp2_with fail
              go_roundw
              case rel =>
                refine ⟨k + 1, by omega, by go_num, ?_, Frm.below ((Frm.below B1.out.drew HF2.out sz1 (fun _ e => by cases e)).alloc sz2 _) HF3.out (Nat.le_trans sz2 (by simp)) (fun j hj => (R1.out.lt j hj).1)⟩
                rw [HG.out, HC.out]
                simp only [Option.map_some, Option.toList_some]
                exact out_step R1.out R2.out HM.out R3.out R4.out R5.out F1.out sz1 HR2.out HF2.out HF3.out HR3.out HA3.out (by rw [HXL.out]; exact q5) (by omega) hwf
              case measure => simp [intOf]; omega
          ·
            have hz : ((cn : Int) == 0) = false := by simpa using hc0
            clear hcc hcz
            go_wp2_with fail
            rw [← HW1.out]
            go_region_law (first | (refine step_app (v := .slice none 0 0) W1.heap.size (by rfl) _ _ 23 5 (.int .u8 0) 1 1 (by rfl) Try.underlying23 HI.out rfl (by omega) (by omega) (by rfl) (by rfl) (World.ownsRow_nil _ _ _ _) STK.out (by omega) (Nat.le_refl _) ?_; intro v2 w2 hown hfr hat2; rw [Nat.zero_add, List.nil_append] at hown; have HR2 := Lib.hid hown; obtain ⟨A2, c2, rfl⟩ := own_slice' hown; have HF2 := Lib.hid hfr; have y0 := (HBX.out.drew.frm hfr (fun e => by cases e)).cell 0; have sz2 : w.heap.size ≤ w2.heap.size := Nat.le_trans sz1 hfr.size; simp at y0; clear hown hfr hat2) | (refine step_app (v := .slice Ao m co) w.heap.size (by rfl) _ _ 42 71 zR 4 48 (by rfl) Try.underlying42 HI2.out rfl (by omega) (by omega) (by rfl) (by rfl) ((own_frm (show W1.drew.ownsRow _ _ _ _ _ _ from R1.out) HF2.out (fun _ _ e => by cases e)).alloc _) (Sl.box4 w2 _ _ _ _ _ (by simp) (by simp [Value.oneCell'])) (by omega) (Nat.le_trans sz2 (by simp)) ?_; intro v3 w3 hown hfr hat2; have HR3 := Lib.hid hown; have HF3 := Lib.hid hfr; have HA3 := Lib.hid hat2; clear hown hfr hat2) | fail)
            all_goals
              go_wp2_with fail
              go_roundw
              case rel =>
                refine ⟨k + 1, by omega, by go_num, ?_, Frm.below ((Frm.below B1.out.drew HF2.out sz1 (fun _ e => by cases e)).alloc sz2 _) HF3.out (Nat.le_trans sz2 (by simp)) (fun j hj => (R1.out.lt j hj).1)⟩
                rw [HG.out, HC.out]
                simp only [Option.map_some, Option.toList_some]
                exact out_step R1.out R2.out HM.out R3.out R4.out R5.out F1.out sz1 HR2.out HF2.out HF3.out HR3.out HA3.out (by rw [HXL.out]; exact q5) (by omega) hwf
              case measure => simp [intOf]; omega
    · have k1 : ¬ (k : Int) < (l.length : Int) := by omega
      obtain rfl : k = l.length := by omega
      obtain ⟨vs', T, r1, r2, r3, r4, r5⟩ := HOUT.out.r
      rw [List.take_length] at r1 r2 r3
      obtain ⟨A3, c3, rfl⟩ := own_slice' r1
      have bg := HB.out.below HBR.out
      have f0 := bg.free 0
      have f1 := bg.free 1
      have f2 := bg.free 2
      have cc0 := bg.cell 0
      have cc1 := bg.cell 1
      have cc2 := bg.cell 2
      simp at cc0 cc1 cc2
      have hset := ((bg.set 0 (.slice A3 (crashL keep l).length c3)).set 1 (.bool false)).set 2 (.bool false)
      have hf := (((Frm.refl (· = g) wr).setg (i := 0) (.slice A3 (crashL keep l).length c3)).setg (i := 1) (.bool false)).setg (i := 2) (.bool false)
      have HSET := Lib.hid hset
      have HFR := Lib.hid hf
      have R1 := Lib.hid r1
      have R3 := Lib.hid r3
      have R5 := Lib.hid r5
      clear hset hf r1 r3 r5 bg
      go_wp2_with fail
      go_end0
      refine ⟨rfl, ⟨_, T, ⟨⟨vs', by simpa using HSET.out, own_frm (own_base R1.out (by have := H.out.base; omega)) HFR.out (fun j hj e => by have := (R1.out.lt j hj).1; omega), r2, fun i x u h1 h2 => (R3.out i x u h1 h2).frm HFR.out (fun j hj e => by have := r4 j hj; omega), fun j hj => ⟨fun e => by have := (R1.out.lt j hj).1; omega, R5.out j hj⟩⟩, H.out.base, fun j hj e => by have := r4 j hj; omega⟩, r4, fun j hj => (R1.out.lt j hj).1⟩, (Frm.of_below HBR.out).trans HFR.out⟩
end Go.Proofs.Ytfcagjnedaaadaa
