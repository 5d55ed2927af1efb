/- The store's acts: the functions that they make, and what act does with them. -/
import Derived.Test.YtfcagjnedaaadaaLb
namespace Go.Proofs.Ytfcagjnedaaadaa
open Go.RowKit
attribute [local go_sem] run_max2 run_min2 run_max_ run_min_
set_option maxRecDepth 100000 in
theorem appc_any (g b N : Nat) (gv : Int → Option Value) (n : Int) (hn : (Lit.int .i64 n).wf = true) (w : World) (p0 p1 p2 m c : Nat) (A : Option Addr) (h : MpV w b N gv) (hN : N < maxLen)
    (h0 : w.cell? ⟨p0, 0, none⟩ = some (.pointer (some ⟨g, 0, none⟩))) (h1 : w.cell? ⟨p1, 0, none⟩ = some (.int .i64 n)) (h2 : w.cell? ⟨p2, 0, none⟩ = some (.slice A m c)) (h3 : w.cell? ⟨g, 0, none⟩ = some (.map (some b)))
    (A0 : Option Addr) (m0 c0 : Nat) (sy : Int) (fm : Bool) (hv : (gv n).getD zB = .agg #[.slice A0 m0 c0, .int .i64 sy, .bool fm])
    (xs ys : List Value) (S0 : Sl w 1 (.slice A0 m0 c0) m0 xs) (S1 : Sl w 1 (.slice A m c) m ys) (hm0 : m0 ≤ 1000000) (hm : m ≤ 1000000) :
    Calls Try.prog 36 #[.pointer (some ⟨p0, 0, none⟩), .pointer (some ⟨p1, 0, none⟩), .pointer (some ⟨p2, 0, none⟩)] w fun e w' => e = .returned (.tuple #[]) ∧ ∃ A' c', MpV w' b (N + 1) (upd gv n (some (.agg #[.slice A' (m0 + m) c', .int .i64 sy, .bool fm]))) ∧
      w'.ownsRow w.heap.size 5 1 (.slice A' (m0 + m) c') (m0 + m) (xs ++ ys) ∧ Frm (· = b) w w' := by
  have H := Lib.hid h
  have HV := Lib.hid hv
  have HS0 := Lib.hid S0
  have HS1 := Lib.hid S1
  have bl := h.lt
  have q1 := h.drew.look n hn _ hv
  have q2 := (h.alloc (.cells #[.slice none 0 0, .int .i64 0, .bool false] 60)).drew.look n hn _ hv
  have k0 := fun o => cell_in_alloc h0 o
  have k1 := fun o => cell_in_alloc h1 o
  have k2 := fun o => cell_in_alloc h2 o
  have k3 := fun o => cell_in_alloc h3 o
  clear h hv S0 S1
  go_enter Try.func36, Try.ntmps36
  go_wp2_with fail
  go_region
  all_goals
    clear q1 q2
    go_wp2_with fail
    obtain ⟨W2, hW2⟩ : ∃ W, W = (w.alloc (Obj.cells #[Value.slice A0 m0 c0, Value.int IntKind.i64 sy, Value.bool fm] 60)).alloc (Obj.cells #[Value.slice A0 m0 c0, Value.slice A m c] 23) := ⟨_, rfl⟩
    have B2 : Below w.heap.size w W2 := by rw [hW2]; exact ((Below.refl _ _).alloc (Nat.le_refl _) _).alloc (by simp) _
    have X2 : Blk W2 w.heap.size #[Value.slice A0 m0 c0, Value.int IntKind.i64 sy, Value.bool fm] 60 := by rw [hW2]; exact (Blk.new w _ 60).alloc _
    have Y2 : Blk W2 (w.heap.size + 1) #[Value.slice A0 m0 c0, Value.slice A m c] 23 := by
      rw [hW2]
      have := Blk.new (w.alloc (Obj.cells #[Value.slice A0 m0 c0, Value.int IntKind.i64 sy, Value.bool fm] 60)) #[Value.slice A0 m0 c0, Value.slice A m c] 23
      simpa using this
    rw [← hW2]
    have s2 := B2.size
    have HB2 := Lib.hid B2
    have HX2 := Lib.hid X2
    clear hW2 B2 k0 k1 k2 k3 X2
    refine (concat_any _ A0 A m0 m c0 c xs ys W2.drew ((HS0.out.below HB2.out).drew) ((HS1.out.below HB2.out).drew) hm0 hm Y2).mono ?_
    rintro e W3 ⟨v, rfl, hv, hb3'⟩
    obtain ⟨A', c', e'⟩ := (Sl.of_own hv (by
      intro u hu
      rcases List.mem_append.1 hu with hu | hu
      · obtain ⟨_, _, _, _, _, _, h4, _⟩ := HS0.out
        exact h4 u hu
      · obtain ⟨_, _, _, _, _, _, h4, _⟩ := HS1.out
        exact h4 u hu)).len
    obtain ⟨rfl, _, _⟩ := e'
    have hb3 : Below W2.heap.size W2 W3 := ⟨hb3'.os, hb3'.tape, hb3'.output, hb3'.size, hb3'.block⟩
    have HV3 := Lib.hid hv
    have HX3 := Lib.hid (HX2.out.below hb3)
    have HB3 := Lib.hid (HB2.out.trans (hb3.mono s2))
    have k0 := (HB3.out.cell (World.block_lt_of_cell? w _ h0)).trans h0
    have k1 := (HB3.out.cell (World.block_lt_of_cell? w _ h1)).trans h1
    have k3 := (HB3.out.cell (World.block_lt_of_cell? w _ h3)).trans h3
    have x0 := HX3.out.cell 0
    have x1 := HX3.out.cell 1
    have x2 := HX3.out.cell 2
    have xf := HX3.out.free 0
    simp at x0 x1 x2
    clear hv hb3 hb3' HX2
    go_wp2_with fail
    obtain ⟨W4, hW4⟩ : ∃ W, W = W3.setCell { block := w.heap.size, off := 0 } (Value.slice A' (m0 + m) c') := ⟨_, rfl⟩
    rw [← hW4]
    have X4 : Blk W4 w.heap.size #[Value.slice A' (m0 + m) c', Value.int IntKind.i64 sy, Value.bool fm] 60 := by
      rw [hW4]
      have := HX3.out.set 0 (Value.slice A' (m0 + m) c')
      simpa using this
    have B4 : Below w.heap.size w W4 := by rw [hW4]; exact HB3.out.setCell (Nat.le_refl _) _
    have V4 : W4.ownsRow w.heap.size 5 1 (.slice A' (m0 + m) c') (m0 + m) (xs ++ ys) := by
      rw [hW4]
      refine own_frm (own_base HV3.out s2) ((Frm.refl (· = w.heap.size) W3).setg _) (fun g hg e => ?_)
      have hl := (HV3.out.lt _ hg).1
      have hl2 := Y2.lt
      have hl3 : W2.drew.heap.size = W2.heap.size := rfl
      omega
    clear hW4 x0 x1 x2 xf k0 k1 k3 HX3 HB3
    have m4 := H.out.frm (Frm.of_below (S := fun _ => False) B4) (fun h => h)
    obtain ⟨W5, hU, hM5, hF5⟩ := m4.drew.put hN n hn (.agg #[.slice A' (m0 + m) c', .int .i64 sy, .bool fm])
    have k0 := (B4.cell (World.block_lt_of_cell? w _ h0)).trans h0
    have k1 := (B4.cell (World.block_lt_of_cell? w _ h1)).trans h1
    have k3 := (B4.cell (World.block_lt_of_cell? w _ h3)).trans h3
    have x0 := X4.cell 0
    have x1 := X4.cell 1
    have x2 := X4.cell 2
    simp at x0 x1 x2
    have HM5 := Lib.hid hM5
    have HF5 := Lib.hid hF5
    have HB4 := Lib.hid B4
    have HV4 := Lib.hid V4
    clear hM5 hF5 B4 X4 m4 V4
    go_region
    all_goals
      go_wp2_with fail
      go_end0
      refine ⟨rfl, A', c', HM5.out, own_frm HV4.out (⟨HF5.out.os, HF5.out.tape, HF5.out.output, HF5.out.size, HF5.out.block⟩ : Frm (· = b) W4 W5) (fun g hg e => ?_), ((Frm.of_below HB4.out).drew).trans HF5.out⟩
      have := (HV4.out.lt _ hg).1
      omega

set_option maxRecDepth 100000 in
theorem act_fuse (g b : Nat) (dead : Bool) (w : World) (f : Value) (hb : Blk w g #[.map (some b), .bool dead, .bool true, .int .i64 0] 57) :
    Calls Try.prog 35 #[.pointer (some ⟨g, 0, none⟩), f] w fun e w' => e = .returned (.int .i64 6) ∧ Blk w' g #[.map (some b), .bool true, .bool true, .int .i64 0] 57 ∧ Frm (· = g) w w' := by
  have c2 := hb.cell 2
  have c3 := hb.cell 3
  have c1 := hb.cell 1
  have f1 := hb.free 1
  simp at c1 c2 c3
  have hset : Blk (w.setCell ⟨g, 1, none⟩ (.bool true)) g #[.map (some b), .bool true, .bool true, .int .i64 0] 57 := by
    have := hb.set 1 (.bool true)
    simpa using this
  have hfr := (Frm.refl (· = g) w).setg (i := 1) (.bool true)
  have HS := Lib.hid hset
  have HF := Lib.hid hfr
  clear hb hset hfr
  go_enter Try.func35, Try.ntmps35
  go_wp2_with fail
  go_ret
  exact ⟨rfl, HS.out, HF.out⟩

set_option maxRecDepth 100000 in
theorem act36_at (g b : Nat) (dead lit : Bool) (left nl : Int) (w : World) (caps : Array Value) (R : World → Prop) (hb : Blk w g #[.map (some b), .bool dead, .bool lit, .int .i64 left] 57) (h0 : 0 ≤ left) (h1 : left ≤ 9223372036854775807) (hc : ¬ (lit = true ∧ left = 0))
    (hnl : nl = mx 0 (left - 1)) (hcl : ∀ W, Blk W g #[.map (some b), .bool dead, .bool lit, .int .i64 nl] 57 → Frm (· = g) w W → Calls Try.prog 36 caps W fun e w' => e = .returned (.tuple #[]) ∧ R w') :
    Calls Try.prog 35 #[.pointer (some ⟨g, 0, none⟩), .func (.func 36) #[] caps] w fun e w' => e = .returned (.int .i64 0) ∧ R w' := by
  have c2 := hb.cell 2
  have c3 := hb.cell 3
  have f3 := hb.free 3
  simp at c2 c3
  have iw : IntKind.i64.wrap (left - 1) = left - 1 := IntWalk.i64_in _ ⟨by omega, by omega⟩
  have hset : Blk (w.setCell ⟨g, 3, none⟩ (.int .i64 nl)) g #[.map (some b), .bool dead, .bool lit, .int .i64 nl] 57 := by
    have := hb.set 3 (.int .i64 nl)
    simpa using this
  have hfr := (Frm.refl (· = g) w).setg (i := 3) (.int .i64 nl)
  have HC := hcl _ hset hfr
  have HCL := Lib.hid HC
  have HNL := Lib.hid hnl
  clear hb hset hfr hcl HC hnl
  have main : ∀ nl', nl = nl' → (nl' = left - 1 ∧ 0 < left - 1 ∨ nl' = 0 ∧ ¬ 0 < left - 1) → Calls Try.prog 35 #[.pointer (some ⟨g, 0, none⟩), .func (.func 36) #[] caps] w fun e w' => e = .returned (.int .i64 0) ∧ R w' := by
    rintro nl' rfl (⟨rfl, hm⟩ | ⟨rfl, hm⟩)
    all_goals
      cases lit
      · clear hc
        go_enter Try.func35, Try.ntmps35
        go_wp2_with fail
        refine HCL.out.mono ?_
        rintro e w' ⟨rfl, hR⟩
        go_wp2_with fail
        go_ret
        exact ⟨rfl, hR⟩
      · have hl0 : ¬ left = 0 := fun h => hc ⟨rfl, h⟩
        have hl1 : (left == 0) = false := by simpa using hl0
        clear hc
        go_enter Try.func35, Try.ntmps35
        go_wp2_with fail
        refine HCL.out.mono ?_
        rintro e w' ⟨rfl, hR⟩
        go_wp2_with fail
        go_ret
        exact ⟨rfl, hR⟩
  refine main nl rfl ?_
  have hnl := HNL.out
  unfold mx at hnl
  split at hnl <;> omega

set_option maxRecDepth 100000 in
theorem act45_at (g b : Nat) (dead lit : Bool) (left nl : Int) (w : World) (caps : Array Value) (R : World → Prop) (hb : Blk w g #[.map (some b), .bool dead, .bool lit, .int .i64 left] 57) (h0 : 0 ≤ left) (h1 : left ≤ 9223372036854775807) (hc : ¬ (lit = true ∧ left = 0))
    (hnl : nl = mx 0 (left - 1)) (hcl : ∀ W, Blk W g #[.map (some b), .bool dead, .bool lit, .int .i64 nl] 57 → Frm (· = g) w W → Calls Try.prog 45 caps W fun e w' => e = .returned (.tuple #[]) ∧ R w') :
    Calls Try.prog 35 #[.pointer (some ⟨g, 0, none⟩), .func (.func 45) #[] caps] w fun e w' => e = .returned (.int .i64 0) ∧ R w' := by
  have c2 := hb.cell 2
  have c3 := hb.cell 3
  have f3 := hb.free 3
  simp at c2 c3
  have iw : IntKind.i64.wrap (left - 1) = left - 1 := IntWalk.i64_in _ ⟨by omega, by omega⟩
  have hset : Blk (w.setCell ⟨g, 3, none⟩ (.int .i64 nl)) g #[.map (some b), .bool dead, .bool lit, .int .i64 nl] 57 := by
    have := hb.set 3 (.int .i64 nl)
    simpa using this
  have hfr := (Frm.refl (· = g) w).setg (i := 3) (.int .i64 nl)
  have HC := hcl _ hset hfr
  have HCL := Lib.hid HC
  have HNL := Lib.hid hnl
  clear hb hset hfr hcl HC hnl
  have main : ∀ nl', nl = nl' → (nl' = left - 1 ∧ 0 < left - 1 ∨ nl' = 0 ∧ ¬ 0 < left - 1) → Calls Try.prog 35 #[.pointer (some ⟨g, 0, none⟩), .func (.func 45) #[] caps] w fun e w' => e = .returned (.int .i64 0) ∧ R w' := by
    rintro nl' rfl (⟨rfl, hm⟩ | ⟨rfl, hm⟩)
    all_goals
      cases lit
      · clear hc
        go_enter Try.func35, Try.ntmps35
        go_wp2_with fail
        refine HCL.out.mono ?_
        rintro e w' ⟨rfl, hR⟩
        go_wp2_with fail
        go_ret
        exact ⟨rfl, hR⟩
      · have hl0 : ¬ left = 0 := fun h => hc ⟨rfl, h⟩
        have hl1 : (left == 0) = false := by simpa using hl0
        clear hc
        go_enter Try.func35, Try.ntmps35
        go_wp2_with fail
        refine HCL.out.mono ?_
        rintro e w' ⟨rfl, hR⟩
        go_wp2_with fail
        go_ret
        exact ⟨rfl, hR⟩
  refine main nl rfl ?_
  have hnl := HNL.out
  unfold mx at hnl
  split at hnl <;> omega

set_option maxRecDepth 100000 in
theorem act43_at (g b : Nat) (dead lit : Bool) (left nl : Int) (w : World) (caps : Array Value) (R : World → Prop) (hb : Blk w g #[.map (some b), .bool dead, .bool lit, .int .i64 left] 57) (h0 : 0 ≤ left) (h1 : left ≤ 9223372036854775807) (hc : ¬ (lit = true ∧ left = 0))
    (hnl : nl = mx 0 (left - 1)) (hcl : ∀ W, Blk W g #[.map (some b), .bool dead, .bool lit, .int .i64 nl] 57 → Frm (· = g) w W → Calls Try.prog 43 caps W fun e w' => e = .returned (.tuple #[]) ∧ R w') :
    Calls Try.prog 35 #[.pointer (some ⟨g, 0, none⟩), .func (.func 43) #[] caps] w fun e w' => e = .returned (.int .i64 0) ∧ R w' := by
  have c2 := hb.cell 2
  have c3 := hb.cell 3
  have f3 := hb.free 3
  simp at c2 c3
  have iw : IntKind.i64.wrap (left - 1) = left - 1 := IntWalk.i64_in _ ⟨by omega, by omega⟩
  have hset : Blk (w.setCell ⟨g, 3, none⟩ (.int .i64 nl)) g #[.map (some b), .bool dead, .bool lit, .int .i64 nl] 57 := by
    have := hb.set 3 (.int .i64 nl)
    simpa using this
  have hfr := (Frm.refl (· = g) w).setg (i := 3) (.int .i64 nl)
  have HC := hcl _ hset hfr
  have HCL := Lib.hid HC
  have HNL := Lib.hid hnl
  clear hb hset hfr hcl HC hnl
  have main : ∀ nl', nl = nl' → (nl' = left - 1 ∧ 0 < left - 1 ∨ nl' = 0 ∧ ¬ 0 < left - 1) → Calls Try.prog 35 #[.pointer (some ⟨g, 0, none⟩), .func (.func 43) #[] caps] w fun e w' => e = .returned (.int .i64 0) ∧ R w' := by
    rintro nl' rfl (⟨rfl, hm⟩ | ⟨rfl, hm⟩)
    all_goals
      cases lit
      · clear hc
        go_enter Try.func35, Try.ntmps35
        go_wp2_with fail
        refine HCL.out.mono ?_
        rintro e w' ⟨rfl, hR⟩
        go_wp2_with fail
        go_ret
        exact ⟨rfl, hR⟩
      · have hl0 : ¬ left = 0 := fun h => hc ⟨rfl, h⟩
        have hl1 : (left == 0) = false := by simpa using hl0
        clear hc
        go_enter Try.func35, Try.ntmps35
        go_wp2_with fail
        refine HCL.out.mono ?_
        rintro e w' ⟨rfl, hR⟩
        go_wp2_with fail
        go_ret
        exact ⟨rfl, hR⟩
  refine main nl rfl ?_
  have hnl := HNL.out
  unfold mx at hnl
  split at hnl <;> omega

set_option maxRecDepth 100000 in
theorem act46_at (g b : Nat) (dead lit : Bool) (left nl : Int) (w : World) (caps : Array Value) (R : World → Prop) (hb : Blk w g #[.map (some b), .bool dead, .bool lit, .int .i64 left] 57) (h0 : 0 ≤ left) (h1 : left ≤ 9223372036854775807) (hc : ¬ (lit = true ∧ left = 0))
    (hnl : nl = mx 0 (left - 1)) (hcl : ∀ W, Blk W g #[.map (some b), .bool dead, .bool lit, .int .i64 nl] 57 → Frm (· = g) w W → Calls Try.prog 46 caps W fun e w' => e = .returned (.tuple #[]) ∧ R w') :
    Calls Try.prog 35 #[.pointer (some ⟨g, 0, none⟩), .func (.func 46) #[] caps] w fun e w' => e = .returned (.int .i64 0) ∧ R w' := by
  have c2 := hb.cell 2
  have c3 := hb.cell 3
  have f3 := hb.free 3
  simp at c2 c3
  have iw : IntKind.i64.wrap (left - 1) = left - 1 := IntWalk.i64_in _ ⟨by omega, by omega⟩
  have hset : Blk (w.setCell ⟨g, 3, none⟩ (.int .i64 nl)) g #[.map (some b), .bool dead, .bool lit, .int .i64 nl] 57 := by
    have := hb.set 3 (.int .i64 nl)
    simpa using this
  have hfr := (Frm.refl (· = g) w).setg (i := 3) (.int .i64 nl)
  have HC := hcl _ hset hfr
  have HCL := Lib.hid HC
  have HNL := Lib.hid hnl
  clear hb hset hfr hcl HC hnl
  have main : ∀ nl', nl = nl' → (nl' = left - 1 ∧ 0 < left - 1 ∨ nl' = 0 ∧ ¬ 0 < left - 1) → Calls Try.prog 35 #[.pointer (some ⟨g, 0, none⟩), .func (.func 46) #[] caps] w fun e w' => e = .returned (.int .i64 0) ∧ R w' := by
    rintro nl' rfl (⟨rfl, hm⟩ | ⟨rfl, hm⟩)
    all_goals
      cases lit
      · clear hc
        go_enter Try.func35, Try.ntmps35
        go_wp2_with fail
        refine HCL.out.mono ?_
        rintro e w' ⟨rfl, hR⟩
        go_wp2_with fail
        go_ret
        exact ⟨rfl, hR⟩
      · have hl0 : ¬ left = 0 := fun h => hc ⟨rfl, h⟩
        have hl1 : (left == 0) = false := by simpa using hl0
        clear hc
        go_enter Try.func35, Try.ntmps35
        go_wp2_with fail
        refine HCL.out.mono ?_
        rintro e w' ⟨rfl, hR⟩
        go_wp2_with fail
        go_ret
        exact ⟨rfl, hR⟩
  refine main nl rfl ?_
  have hnl := HNL.out
  unfold mx at hnl
  split at hnl <;> omega
end Go.Proofs.Ytfcagjnedaaadaa
