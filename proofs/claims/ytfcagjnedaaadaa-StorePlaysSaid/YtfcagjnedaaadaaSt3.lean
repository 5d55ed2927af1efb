/- The contracts of Sync, Cut and Drop. -/
import Derived.Test.YtfcagjnedaaadaaSt2
namespace Go.Proofs.Ytfcagjnedaaadaa
open Go.RowKit
attribute [local go_sem] run_max2 run_min2 run_max_ run_min_

def syncS (s : St) (n : Int) : Int × St := if thereS s n = 0 then runS s (upd s.f n (some ((bkAt s.f n).1, ((bkAt s.f n).1.length : Int), true))) else (thereS s n, s)
def dropS (s : St) (n : Int) : Int × St := if thereS s n = 0 then runS s (upd s.f n none) else (thereS s n, s)
def cutS (s : St) (n k : Int) : Int × St := if thereS s n = 0 then if k < 0 ∨ ((bkAt s.f n).1.length : Int) < k then (1, s) else runS s (upd s.f n (some ((bkAt s.f n).1.take k.toNat, k, true))) else (thereS s n, s)

set_option maxRecDepth 100000 in
theorem sync_any (g b : Nat) (S : Nat → Prop) (N L : Nat) (s : St) (n : Int) (w : World) (h : Sto w g b S N L s) (hn : (Lit.int .i64 n).wf = true) (hN : N < maxLen) (r : Int) (s' : St) (hs' : syncS s n = (r, s')) :
    Calls Try.prog 18 #[.pointer (some ⟨g, 0, none⟩), .int .i64 n] w fun e w' => e = .returned (.int .i64 r) ∧ Sto w' g b (fun j => S j ∨ w.heap.size ≤ j) (N + 1) L s' ∧ Frm (fun j => j = g ∨ j = b) w w' := by
  have hg := h.glt
  have hb := h.blt
  obtain ⟨W, hW⟩ : ∃ W, W = ((w.alloc (Obj.cells #[Value.pointer (some { block := g, off := 0 })] 24)).alloc (Obj.cells #[Value.int IntKind.i64 n] 3)) := ⟨_, rfl⟩
  have hBW : Below w.heap.size w W := by rw [hW]; exact ((Below.refl _ _).alloc (Nat.le_refl _) _).alloc (by simp) _
  have z0 : Blk W w.heap.size #[Value.pointer (some { block := g, off := 0 })] 24 := by rw [hW]; exact (Blk.new w _ 24).alloc _
  have z1 : Blk W (w.heap.size + 1) #[Value.int IntKind.i64 n] 3 := by
    rw [hW]
    have := Blk.new (w.alloc (Obj.cells #[Value.pointer (some { block := g, off := 0 })] 24)) #[Value.int IntKind.i64 n] 3
    simpa using this
  have HSW := Lib.hid (h.below hBW)
  have HBW := Lib.hid hBW
  have k0 := z0.cell 0
  have k1 := z1.cell 0
  simp at k0 k1
  have HW := Lib.hid hW
  have sW := hBW.size
  have mono1 : ∀ (s'' : St) (w' : World), Sto w' g b S N L s'' → Sto w' g b (fun j => S j ∨ w.heap.size ≤ j) (N + 1) L s'' := fun _ _ h' =>
    h'.mono (fun j hj => .inl hj) (fun j hj => hj.elim (fun h0 => h'.av j h0) (fun h0 => by omega)) (by omega) (by omega)
  have MO := Lib.hid mono1
  have HG := Lib.hid (World.block_lt_of_cell? W _ k0)
  clear h hW hBW z0 z1 mono1
  obtain ⟨q, hq⟩ : ∃ q, thereS s n = q := ⟨_, rfl⟩
  unfold syncS at hs'
  by_cases hq0 : q = 0
  · subst hq0
    rw [if_pos hq] at hs'
    unfold runS at hs'
    by_cases hf : s.lit = true ∧ s.left = 0
    · rw [if_pos hf] at hs'
      injection hs' with hr hs
      subst hr
      subst hs
      go_enter Try.func18, Try.ntmps18
      go_wp2_with fail
      rw [← HW.out]
      refine (there_any g b S N L s n 0 hn hq _ HSW.out).mono ?_
      rintro e w1 ⟨rfl, hb1⟩
      have HS1 := Lib.hid (HSW.out.below hb1)
      have HB1 := Lib.hid (HBW.out.trans (hb1.mono sW))
      have j0 := (hb1.cell (World.block_lt_of_cell? W _ k0)).trans k0
      have j1 := (hb1.cell (World.block_lt_of_cell? W _ k1)).trans k1
      clear hb1
      go_wp2_with fail
      have hblk := HS1.out.blk
      rw [hf.1, hf.2] at hblk
      refine (act_fuse g b s.dead w1 _ hblk).mono ?_
      rintro e w' ⟨rfl, hb', hf'⟩
      have HS' : Hid (Sto w' g b S N L { s with dead := true }) := by
        obtain ⟨gv, hmv, hh⟩ := HS1.out.hold
        refine ⟨?_, HS1.out.ne, HS1.out.l0, HS1.out.l1, ⟨gv, hmv.frm hf' (fun e => HS1.out.ne e.symm), hh.frm hf' (fun j hj e => (HS1.out.av j hj).1 e)⟩, HS1.out.av⟩
        simp only [hf.1, hf.2]
        exact hb'
      have HF' := Lib.hid hf'
      clear hb' hf' hblk
      go_wp2_with fail
      go_ret
      exact ⟨rfl, MO.out _ _ HS'.out, (Frm.of_below HB1.out).trans (HF'.out.mono (fun j hj => .inl hj))⟩
    · rw [if_neg hf] at hs'
      injection hs' with hr hs
      subst hr
      subst hs
      go_enter Try.func18, Try.ntmps18
      go_wp2_with fail
      rw [← HW.out]
      refine (there_any g b S N L s n 0 hn hq _ HSW.out).mono ?_
      rintro e w1 ⟨rfl, hb1⟩
      have HS1 := Lib.hid (HSW.out.below hb1)
      have HB1 := Lib.hid (HBW.out.trans (hb1.mono sW))
      have j0 := (hb1.cell (World.block_lt_of_cell? W _ k0)).trans k0
      have j1 := (hb1.cell (World.block_lt_of_cell? W _ k1)).trans k1
      clear hb1
      go_wp2_with fail
      refine (act45_at g b s.dead s.lit s.left (mx 0 (s.left - 1)) w1 _ (fun w' => Sto w' g b (fun j => S j ∨ w.heap.size ≤ j) (N + 1) L { s with left := mx 0 (s.left - 1), f := upd s.f n (some ((bkAt s.f n).1, ((bkAt s.f n).1.length : Int), true)) } ∧ Frm (fun j => j = g ∨ j = b) w w')
        HS1.out.blk HS1.out.l0 HS1.out.l1 hf rfl (fun W1 hb1 hf1 => ?_)).mono ?_
      · obtain ⟨gv, hmv, hh⟩ := HS1.out.hold
        have hne := HS1.out.ne
        have hh1 := hh.frm hf1 (fun j hj e => (HS1.out.av j hj).1 e)
        obtain ⟨A0, c0, hv, hS0, hS0', y0, y1, y2⟩ := hh1.get n
        have c0' := hb1.cell 0
        simp at c0'
        have hl0 : 0 ≤ mx 0 (s.left - 1) := by unfold mx; split <;> omega
        have hl1 : mx 0 (s.left - 1) ≤ 9223372036854775807 := by have := HS1.out.l1; unfold mx; split <;> omega
        have sw1 := HB1.out.size
        have sW1 := hf1.size
        refine (syncc_any g b N gv n hn W1 w.heap.size (w.heap.size + 1) (hmv.frm hf1 (fun e => hne e.symm)) hN (frm_cell hf1 j0 (fun e => by simp at e; omega)) (frm_cell hf1 j1 (fun e => by simp at e; omega)) c0' A0 _ c0 _ _ hv).mono ?_
        rintro e w' ⟨rfl, hm', hf'⟩
        refine ⟨rfl, ⟨hb1.frm hf' (fun e => hne e), hne, hl0, hl1, ⟨_, hm', ?_⟩, fun j hj => hj.elim (fun h0 => HS1.out.av j h0) (fun h0 => by omega)⟩, ?_⟩
        · refine Hold.put ((hh1.frm hf' (fun j hj e => (HS1.out.av j hj).2 e)).mono (fun j hj => .inl hj) (Nat.le_refl _)) n ?_
          have hx : BlkAt W1 S L (.agg #[.slice A0 (bkAt s.f n).1.length c0, .int .i64 ((bkAt s.f n).1.length : Int), .bool true]) ((bkAt s.f n).1, ((bkAt s.f n).1.length : Int), true) := ⟨A0, c0, rfl, hS0, hS0', by simp, by simp, y2⟩
          exact (hx.frm hf' (fun j hj e => (HS1.out.av j hj).2 e)).mono (fun j hj => .inl hj) (Nat.le_refl _)
        · exact ((Frm.of_below HB1.out).trans (hf1.mono (fun j hj => .inl hj))).trans (hf'.mono (fun j hj => .inr hj))
      · rintro e w' ⟨rfl, hs1, hf1⟩
        have HS1' := Lib.hid hs1
        have HF1 := Lib.hid hf1
        clear hs1 hf1
        go_wp2_with fail
        go_ret
        exact ⟨rfl, HS1'.out, HF1.out⟩
  · have hq1 : (q == 0) = false := by simpa using hq0
    rw [if_neg (by rw [hq]; exact hq0)] at hs'
    injection hs' with hr hs
    rw [hq] at hr
    subst hr
    subst hs
    go_enter Try.func18, Try.ntmps18
    go_wp2_with fail
    rw [← HW.out]
    refine (there_any g b S N L s n q hn hq _ HSW.out).mono ?_
    rintro e w1 ⟨rfl, hb1⟩
    have HS1 := Lib.hid (HSW.out.below hb1)
    have HB1 := Lib.hid (HBW.out.trans (hb1.mono sW))
    clear hb1
    go_wp2_with fail
    go_ret
    exact ⟨rfl, MO.out _ _ HS1.out, Frm.of_below HB1.out⟩

set_option maxRecDepth 100000 in
theorem drop_any (g b : Nat) (S : Nat → Prop) (N L : Nat) (s : St) (n : Int) (w : World) (h : Sto w g b S N L s) (hn : (Lit.int .i64 n).wf = true) (r : Int) (s' : St) (hs' : dropS s n = (r, s')) :
    Calls Try.prog 19 #[.pointer (some ⟨g, 0, none⟩), .int .i64 n] w fun e w' => e = .returned (.int .i64 r) ∧ Sto w' g b (fun j => S j ∨ w.heap.size ≤ j) (N + 1) L s' ∧ Frm (fun j => j = g ∨ j = b) w w' := by
  have hg := h.glt
  have hb := h.blt
  obtain ⟨W, hW⟩ : ∃ W, W = ((w.alloc (Obj.cells #[Value.pointer (some { block := g, off := 0 })] 24)).alloc (Obj.cells #[Value.int IntKind.i64 n] 3)) := ⟨_, rfl⟩
  have hBW : Below w.heap.size w W := by rw [hW]; exact ((Below.refl _ _).alloc (Nat.le_refl _) _).alloc (by simp) _
  have z0 : Blk W w.heap.size #[Value.pointer (some { block := g, off := 0 })] 24 := by rw [hW]; exact (Blk.new w _ 24).alloc _
  have z1 : Blk W (w.heap.size + 1) #[Value.int IntKind.i64 n] 3 := by
    rw [hW]
    have := Blk.new (w.alloc (Obj.cells #[Value.pointer (some { block := g, off := 0 })] 24)) #[Value.int IntKind.i64 n] 3
    simpa using this
  have HSW := Lib.hid (h.below hBW)
  have HBW := Lib.hid hBW
  have k0 := z0.cell 0
  have k1 := z1.cell 0
  simp at k0 k1
  have HW := Lib.hid hW
  have sW := hBW.size
  have mono1 : ∀ (s'' : St) (w' : World), Sto w' g b S N L s'' → Sto w' g b (fun j => S j ∨ w.heap.size ≤ j) (N + 1) L s'' := fun _ _ h' =>
    h'.mono (fun j hj => .inl hj) (fun j hj => hj.elim (fun h0 => h'.av j h0) (fun h0 => by omega)) (by omega) (by omega)
  have MO := Lib.hid mono1
  have HG := Lib.hid (World.block_lt_of_cell? W _ k0)
  clear h hW hBW z0 z1 mono1
  obtain ⟨q, hq⟩ : ∃ q, thereS s n = q := ⟨_, rfl⟩
  unfold dropS at hs'
  by_cases hq0 : q = 0
  · subst hq0
    rw [if_pos hq] at hs'
    unfold runS at hs'
    by_cases hf : s.lit = true ∧ s.left = 0
    · rw [if_pos hf] at hs'
      injection hs' with hr hs
      subst hr
      subst hs
      go_enter Try.func19, Try.ntmps19
      go_wp2_with fail
      rw [← HW.out]
      refine (there_any g b S N L s n 0 hn hq _ HSW.out).mono ?_
      rintro e w1 ⟨rfl, hb1⟩
      have HS1 := Lib.hid (HSW.out.below hb1)
      have HB1 := Lib.hid (HBW.out.trans (hb1.mono sW))
      have j0 := (hb1.cell (World.block_lt_of_cell? W _ k0)).trans k0
      have j1 := (hb1.cell (World.block_lt_of_cell? W _ k1)).trans k1
      clear hb1
      go_wp2_with fail
      have hblk := HS1.out.blk
      rw [hf.1, hf.2] at hblk
      refine (act_fuse g b s.dead w1 _ hblk).mono ?_
      rintro e w' ⟨rfl, hb', hf'⟩
      have HS' : Hid (Sto w' g b S N L { s with dead := true }) := by
        obtain ⟨gv, hmv, hh⟩ := HS1.out.hold
        refine ⟨?_, HS1.out.ne, HS1.out.l0, HS1.out.l1, ⟨gv, hmv.frm hf' (fun e => HS1.out.ne e.symm), hh.frm hf' (fun j hj e => (HS1.out.av j hj).1 e)⟩, HS1.out.av⟩
        simp only [hf.1, hf.2]
        exact hb'
      have HF' := Lib.hid hf'
      clear hb' hf' hblk
      go_wp2_with fail
      go_ret
      exact ⟨rfl, MO.out _ _ HS'.out, (Frm.of_below HB1.out).trans (HF'.out.mono (fun j hj => .inl hj))⟩
    · rw [if_neg hf] at hs'
      injection hs' with hr hs
      subst hr
      subst hs
      go_enter Try.func19, Try.ntmps19
      go_wp2_with fail
      rw [← HW.out]
      refine (there_any g b S N L s n 0 hn hq _ HSW.out).mono ?_
      rintro e w1 ⟨rfl, hb1⟩
      have HS1 := Lib.hid (HSW.out.below hb1)
      have HB1 := Lib.hid (HBW.out.trans (hb1.mono sW))
      have j0 := (hb1.cell (World.block_lt_of_cell? W _ k0)).trans k0
      have j1 := (hb1.cell (World.block_lt_of_cell? W _ k1)).trans k1
      clear hb1
      go_wp2_with fail
      refine (act46_at g b s.dead s.lit s.left (mx 0 (s.left - 1)) w1 _ (fun w' => Sto w' g b (fun j => S j ∨ w.heap.size ≤ j) (N + 1) L { s with left := mx 0 (s.left - 1), f := upd s.f n none } ∧ Frm (fun j => j = g ∨ j = b) w w')
        HS1.out.blk HS1.out.l0 HS1.out.l1 hf rfl (fun W1 hb1 hf1 => ?_)).mono ?_
      · obtain ⟨gv, hmv, hh⟩ := HS1.out.hold
        have hne := HS1.out.ne
        have hh1 := hh.frm hf1 (fun j hj e => (HS1.out.av j hj).1 e)
        obtain ⟨A0, c0, hv, hS0, hS0', y0, y1, y2⟩ := hh1.get n
        have c0' := hb1.cell 0
        simp at c0'
        have hl0 : 0 ≤ mx 0 (s.left - 1) := by unfold mx; split <;> omega
        have hl1 : mx 0 (s.left - 1) ≤ 9223372036854775807 := by have := HS1.out.l1; unfold mx; split <;> omega
        have sw1 := HB1.out.size
        have sW1 := hf1.size
        clear hS0 hS0' y0 y1 y2 hv
        refine (dropc_any g b N gv n hn W1 w.heap.size (w.heap.size + 1) (hmv.frm hf1 (fun e => hne e.symm)) (frm_cell hf1 j0 (fun e => by simp at e; omega)) (frm_cell hf1 j1 (fun e => by simp at e; omega)) c0').mono ?_
        rintro e w' ⟨rfl, hm', hf'⟩
        refine ⟨rfl, ⟨hb1.frm hf' (fun e => hne e), hne, hl0, hl1, ⟨_, hm'.mono (Nat.le_succ N), ?_⟩, fun j hj => hj.elim (fun h0 => HS1.out.av j h0) (fun h0 => by omega)⟩, ?_⟩
        · exact Hold.del ((hh1.frm hf' (fun j hj e => (HS1.out.av j hj).2 e)).mono (fun j hj => .inl hj) (Nat.le_refl _)) n
        · exact ((Frm.of_below HB1.out).trans (hf1.mono (fun j hj => .inl hj))).trans (hf'.mono (fun j hj => .inr hj))
      · rintro e w' ⟨rfl, hs1, hf1⟩
        have HS1' := Lib.hid hs1
        have HF1 := Lib.hid hf1
        clear hs1 hf1
        go_wp2_with fail
        go_ret
        exact ⟨rfl, HS1'.out, HF1.out⟩
  · have hq1 : (q == 0) = false := by simpa using hq0
    rw [if_neg (by rw [hq]; exact hq0)] at hs'
    injection hs' with hr hs
    rw [hq] at hr
    subst hr
    subst hs
    go_enter Try.func19, Try.ntmps19
    go_wp2_with fail
    rw [← HW.out]
    refine (there_any g b S N L s n q hn hq _ HSW.out).mono ?_
    rintro e w1 ⟨rfl, hb1⟩
    have HS1 := Lib.hid (HSW.out.below hb1)
    have HB1 := Lib.hid (HBW.out.trans (hb1.mono sW))
    clear hb1
    go_wp2_with fail
    go_ret
    exact ⟨rfl, MO.out _ _ HS1.out, Frm.of_below HB1.out⟩

set_option maxRecDepth 100000 in
theorem cut_any (g b : Nat) (S : Nat → Prop) (N L : Nat) (s : St) (n : Int) (k : Int) (w : World) (h : Sto w g b S N L s) (hn : (Lit.int .i64 n).wf = true) (hN : N < maxLen) (hL : L ≤ 1000000) (r : Int) (s' : St) (hs' : cutS s n k = (r, s')) :
    Calls Try.prog 17 #[.pointer (some ⟨g, 0, none⟩), .int .i64 n, .int .i64 k] w fun e w' => e = .returned (.int .i64 r) ∧ Sto w' g b (fun j => S j ∨ w.heap.size ≤ j) (N + 1) L s' ∧ Frm (fun j => j = g ∨ j = b) w w' := by
  have hg := h.glt
  have hb := h.blt
  obtain ⟨W, hW⟩ : ∃ W, W = (((w.alloc (Obj.cells #[Value.pointer (some { block := g, off := 0 })] 24)).alloc (Obj.cells #[Value.int IntKind.i64 n] 3)).alloc (Obj.cells #[Value.int IntKind.i64 k] 3)) := ⟨_, rfl⟩
  have hBW : Below w.heap.size w W := by rw [hW]; exact (((Below.refl _ _).alloc (Nat.le_refl _) _).alloc (by simp) _).alloc (by simp; omega) _
  have z0 : Blk W w.heap.size #[Value.pointer (some { block := g, off := 0 })] 24 := by rw [hW]; exact ((Blk.new w _ 24).alloc _).alloc _
  have z1 : Blk W (w.heap.size + 1) #[Value.int IntKind.i64 n] 3 := by
    rw [hW]
    have := (Blk.new (w.alloc (Obj.cells #[Value.pointer (some { block := g, off := 0 })] 24)) #[Value.int IntKind.i64 n] 3).alloc (Obj.cells #[Value.int IntKind.i64 k] 3)
    simpa using this
  have z2 : Blk W (w.heap.size + 1 + 1) #[Value.int IntKind.i64 k] 3 := by
    rw [hW]
    have := Blk.new ((w.alloc (Obj.cells #[Value.pointer (some { block := g, off := 0 })] 24)).alloc (Obj.cells #[Value.int IntKind.i64 n] 3)) #[Value.int IntKind.i64 k] 3
    simpa using this
  have HSW := Lib.hid (h.below hBW)
  have HBW := Lib.hid hBW
  have k0 := z0.cell 0
  have k1 := z1.cell 0
  simp at k0 k1
  have k2 := z2.cell 0
  simp at k2
  have HW := Lib.hid hW
  have sW := hBW.size
  have mono1 : ∀ (s'' : St) (w' : World), Sto w' g b S N L s'' → Sto w' g b (fun j => S j ∨ w.heap.size ≤ j) (N + 1) L s'' := fun _ _ h' =>
    h'.mono (fun j hj => .inl hj) (fun j hj => hj.elim (fun h0 => h'.av j h0) (fun h0 => by omega)) (by omega) (by omega)
  have MO := Lib.hid mono1
  have HG := Lib.hid (World.block_lt_of_cell? W _ k0)
  clear h hW hBW z0 z1 z2 mono1
  obtain ⟨q, hq⟩ : ∃ q, thereS s n = q := ⟨_, rfl⟩
  unfold cutS at hs'
  by_cases hq0 : q = 0
  · subst hq0
    rw [if_pos hq] at hs'
    by_cases hk : k < 0 ∨ ((bkAt s.f n).1.length : Int) < k
    · rw [if_pos hk] at hs'
      injection hs' with hr hs
      subst hr
      subst hs
      by_cases hk0 : k < 0
      ·
        go_enter Try.func17, Try.ntmps17
        go_wp2_with fail
        rw [← HW.out]
        refine (there_any g b S N L s n 0 hn hq _ HSW.out).mono ?_
        rintro e w1 ⟨rfl, hb1⟩
        have HS1 := Lib.hid (HSW.out.below hb1)
        have HB1 := Lib.hid (HBW.out.trans (hb1.mono sW))
        have j0 := (hb1.cell (World.block_lt_of_cell? W _ k0)).trans k0
        have j1 := (hb1.cell (World.block_lt_of_cell? W _ k1)).trans k1
        have j2 := (hb1.cell (World.block_lt_of_cell? W _ k2)).trans k2
        obtain ⟨gv, hm1, hh1⟩ := HS1.out.hold
        obtain ⟨A1, c1, hv1, _⟩ := hh1.get n
        have cg := HS1.out.blk.cell 0
        simp at cg
        have HM1 := Lib.hid hm1
        have HV1 := Lib.hid hv1
        have qf := fld0 A1 (bkAt s.f n).1.length c1 (bkAt s.f n).2.1 (bkAt s.f n).2.2
        have qL := fun m => (hm1.drewN m).look n hn _ hv1
        clear hb1 hm1 hh1 hv1
        go_wp2_with fail
        go_quiet (fail)
        have HSd := Lib.hid (HS1.out.frm ((Frm.refl (fun _ => False) w1).drewN nq) (fun _ _ h => h) (fun h => h) (fun h => h))
        have HBd := Lib.hid (HB1.out.drewN'' nq)
        have j0d : (w1.drewN nq).cell? _ = _ := j0
        have j1d : (w1.drewN nq).cell? _ = _ := j1
        have j2d : (w1.drewN nq).cell? _ = _ := j2
        clear HS1 HB1 j0 j1 j2 qL qf cg HM1 HV1
        have HS1 := HSd
        have HB1 := HBd
        have j0 := j0d
        have j1 := j1d
        have j2 := j2d
        clear HSd HBd j0d j1d j2d
        generalize w1.drewN nq = w2 at *
        go_wp2_with fail
        go_ret
        exact ⟨rfl, MO.out _ _ HS1.out, Frm.of_below HB1.out⟩
      · have hk1 : ((bkAt s.f n).1.length : Int) < k := hk.resolve_left hk0
        go_enter Try.func17, Try.ntmps17
        go_wp2_with fail
        rw [← HW.out]
        refine (there_any g b S N L s n 0 hn hq _ HSW.out).mono ?_
        rintro e w1 ⟨rfl, hb1⟩
        have HS1 := Lib.hid (HSW.out.below hb1)
        have HB1 := Lib.hid (HBW.out.trans (hb1.mono sW))
        have j0 := (hb1.cell (World.block_lt_of_cell? W _ k0)).trans k0
        have j1 := (hb1.cell (World.block_lt_of_cell? W _ k1)).trans k1
        have j2 := (hb1.cell (World.block_lt_of_cell? W _ k2)).trans k2
        obtain ⟨gv, hm1, hh1⟩ := HS1.out.hold
        obtain ⟨A1, c1, hv1, _⟩ := hh1.get n
        have cg := HS1.out.blk.cell 0
        simp at cg
        have HM1 := Lib.hid hm1
        have HV1 := Lib.hid hv1
        have qf := fld0 A1 (bkAt s.f n).1.length c1 (bkAt s.f n).2.1 (bkAt s.f n).2.2
        have qL := fun m => (hm1.drewN m).look n hn _ hv1
        clear hb1 hm1 hh1 hv1
        go_wp2_with fail
        go_quiet (fail)
        have HSd := Lib.hid (HS1.out.frm ((Frm.refl (fun _ => False) w1).drewN nq) (fun _ _ h => h) (fun h => h) (fun h => h))
        have HBd := Lib.hid (HB1.out.drewN'' nq)
        have j0d : (w1.drewN nq).cell? _ = _ := j0
        have j1d : (w1.drewN nq).cell? _ = _ := j1
        have j2d : (w1.drewN nq).cell? _ = _ := j2
        clear HS1 HB1 j0 j1 j2 qL qf cg HM1 HV1
        have HS1 := HSd
        have HB1 := HBd
        have j0 := j0d
        have j1 := j1d
        have j2 := j2d
        clear HSd HBd j0d j1d j2d
        generalize w1.drewN nq = w2 at *
        go_wp2_with fail
        go_ret
        exact ⟨rfl, MO.out _ _ HS1.out, Frm.of_below HB1.out⟩
    · rw [if_neg hk] at hs'
      have hk0 : ¬ k < 0 := fun h => hk (.inl h)
      have hk1 : ¬ ((bkAt s.f n).1.length : Int) < k := fun h => hk (.inr h)
      unfold runS at hs'
      by_cases hf : s.lit = true ∧ s.left = 0
      · rw [if_pos hf] at hs'
        injection hs' with hr hs
        subst hr
        subst hs
        go_enter Try.func17, Try.ntmps17
        go_wp2_with fail
        rw [← HW.out]
        refine (there_any g b S N L s n 0 hn hq _ HSW.out).mono ?_
        rintro e w1 ⟨rfl, hb1⟩
        have HS1 := Lib.hid (HSW.out.below hb1)
        have HB1 := Lib.hid (HBW.out.trans (hb1.mono sW))
        have j0 := (hb1.cell (World.block_lt_of_cell? W _ k0)).trans k0
        have j1 := (hb1.cell (World.block_lt_of_cell? W _ k1)).trans k1
        have j2 := (hb1.cell (World.block_lt_of_cell? W _ k2)).trans k2
        obtain ⟨gv, hm1, hh1⟩ := HS1.out.hold
        obtain ⟨A1, c1, hv1, _⟩ := hh1.get n
        have cg := HS1.out.blk.cell 0
        simp at cg
        have HM1 := Lib.hid hm1
        have HV1 := Lib.hid hv1
        have qf := fld0 A1 (bkAt s.f n).1.length c1 (bkAt s.f n).2.1 (bkAt s.f n).2.2
        have qL := fun m => (hm1.drewN m).look n hn _ hv1
        clear hb1 hm1 hh1 hv1
        go_wp2_with fail
        go_quiet (fail)
        have HSd := Lib.hid (HS1.out.frm ((Frm.refl (fun _ => False) w1).drewN nq) (fun _ _ h => h) (fun h => h) (fun h => h))
        have HBd := Lib.hid (HB1.out.drewN'' nq)
        have j0d : (w1.drewN nq).cell? _ = _ := j0
        have j1d : (w1.drewN nq).cell? _ = _ := j1
        have j2d : (w1.drewN nq).cell? _ = _ := j2
        clear HS1 HB1 j0 j1 j2 qL qf cg HM1 HV1
        have HS1 := HSd
        have HB1 := HBd
        have j0 := j0d
        have j1 := j1d
        have j2 := j2d
        clear HSd HBd j0d j1d j2d
        generalize w1.drewN nq = w2 at *
        go_wp2_with fail
        have hblk := HS1.out.blk
        rw [hf.1, hf.2] at hblk
        refine (act_fuse g b s.dead w2 _ hblk).mono ?_
        rintro e w' ⟨rfl, hb', hf'⟩
        have HS' : Hid (Sto w' g b S N L { s with dead := true }) := by
          obtain ⟨gv, hmv, hh⟩ := HS1.out.hold
          refine ⟨?_, HS1.out.ne, HS1.out.l0, HS1.out.l1, ⟨gv, hmv.frm hf' (fun e => HS1.out.ne e.symm), hh.frm hf' (fun j hj e => (HS1.out.av j hj).1 e)⟩, HS1.out.av⟩
          simp only [hf.1, hf.2]
          exact hb'
        have HF' := Lib.hid hf'
        clear hb' hf' hblk
        go_wp2_with fail
        go_ret
        exact ⟨rfl, MO.out _ _ HS'.out, (Frm.of_below HB1.out).trans (HF'.out.mono (fun j hj => .inl hj))⟩
      · rw [if_neg hf] at hs'
        injection hs' with hr hs
        subst hr
        subst hs
        go_enter Try.func17, Try.ntmps17
        go_wp2_with fail
        rw [← HW.out]
        refine (there_any g b S N L s n 0 hn hq _ HSW.out).mono ?_
        rintro e w1 ⟨rfl, hb1⟩
        have HS1 := Lib.hid (HSW.out.below hb1)
        have HB1 := Lib.hid (HBW.out.trans (hb1.mono sW))
        have j0 := (hb1.cell (World.block_lt_of_cell? W _ k0)).trans k0
        have j1 := (hb1.cell (World.block_lt_of_cell? W _ k1)).trans k1
        have j2 := (hb1.cell (World.block_lt_of_cell? W _ k2)).trans k2
        obtain ⟨gv, hm1, hh1⟩ := HS1.out.hold
        obtain ⟨A1, c1, hv1, _⟩ := hh1.get n
        have cg := HS1.out.blk.cell 0
        simp at cg
        have HM1 := Lib.hid hm1
        have HV1 := Lib.hid hv1
        have qf := fld0 A1 (bkAt s.f n).1.length c1 (bkAt s.f n).2.1 (bkAt s.f n).2.2
        have qL := fun m => (hm1.drewN m).look n hn _ hv1
        clear hb1 hm1 hh1 hv1
        go_wp2_with fail
        go_quiet (fail)
        have HSd := Lib.hid (HS1.out.frm ((Frm.refl (fun _ => False) w1).drewN nq) (fun _ _ h => h) (fun h => h) (fun h => h))
        have HBd := Lib.hid (HB1.out.drewN'' nq)
        have j0d : (w1.drewN nq).cell? _ = _ := j0
        have j1d : (w1.drewN nq).cell? _ = _ := j1
        have j2d : (w1.drewN nq).cell? _ = _ := j2
        clear HS1 HB1 j0 j1 j2 qL qf cg HM1 HV1
        have HS1 := HSd
        have HB1 := HBd
        have j0 := j0d
        have j1 := j1d
        have j2 := j2d
        clear HSd HBd j0d j1d j2d
        generalize w1.drewN nq = w2 at *
        go_wp2_with fail
        refine (act43_at g b s.dead s.lit s.left (mx 0 (s.left - 1)) w2 _ (fun w' => Sto w' g b (fun j => S j ∨ w.heap.size ≤ j) (N + 1) L { s with left := mx 0 (s.left - 1), f := upd s.f n (some ((bkAt s.f n).1.take k.toNat, k, true)) } ∧ Frm (fun j => j = g ∨ j = b) w w')
          HS1.out.blk HS1.out.l0 HS1.out.l1 hf rfl (fun W1 hb1 hf1 => ?_)).mono ?_
        · obtain ⟨gv, hmv, hh⟩ := HS1.out.hold
          have hne := HS1.out.ne
          have hh1 := hh.frm hf1 (fun j hj e => (HS1.out.av j hj).1 e)
          obtain ⟨A0, c0, hv, hS0, hS0', y0, y1, y2⟩ := hh1.get n
          have c0' := hb1.cell 0
          simp at c0'
          have hl0 : 0 ≤ mx 0 (s.left - 1) := by unfold mx; split <;> omega
          have hl1 : mx 0 (s.left - 1) ≤ 9223372036854775807 := by have := HS1.out.l1; unfold mx; split <;> omega
          have sw1 := HB1.out.size
          have sW1 := hf1.size
          obtain ⟨kn, hkn⟩ : ∃ kn : Nat, k = (kn : Int) := ⟨k.toNat, by omega⟩
          have hkt : k.toNat = kn := by omega
          rw [hkn] at j2
          refine (cutc_any g b N gv n hn W1 w.heap.size (w.heap.size + 1) (w.heap.size + 1 + 1) kn (hmv.frm hf1 (fun e => hne e.symm)) hN (frm_cell hf1 j0 (fun e => by simp at e; omega)) (frm_cell hf1 j1 (fun e => by simp at e; omega)) (frm_cell hf1 j2 (fun e => by simp at e; omega)) c0' A0 _ c0 _ _ hv (by omega) _ hS0 (by omega)).mono ?_
          rintro e w' ⟨rfl, A', c', hm', hown', hf'⟩
          refine ⟨rfl, ⟨hb1.frm hf' (fun e => hne e), hne, hl0, hl1, ⟨_, hm', ?_⟩, fun j hj => hj.elim (fun h0 => HS1.out.av j h0) (fun h0 => by omega)⟩, ?_⟩
          · refine Hold.put ((hh1.frm hf' (fun j hj e => (HS1.out.av j hj).2 e)).mono (fun j hj => .inl hj) (Nat.le_refl _)) n ?_
            have htl : ((bkAt s.f n).1.take kn).length = kn := by rw [List.length_take]; omega
            rw [hkt]
            refine ⟨A', c', ?_, ?_, fun _ j hj => ?_, ?_, ?_, ?_⟩
            · simp only [htl, hkn]
            · have := Sl.of_own hown' (by rw [u8s_take]; exact u8s_one _)
              simp only [htl]
              rw [u8s_take] at this
              exact this
            · simp only [htl] at hj
              have := (hown'.lt j hj).1
              exact .inr (by omega)
            · simp only [hkn]; omega
            · simp only [htl, hkn]; omega
            · simp only [htl]; omega
          · exact ((Frm.of_below HB1.out).trans (hf1.mono (fun j hj => .inl hj))).trans (hf'.mono (fun j hj => .inr hj))
        · rintro e w' ⟨rfl, hs1, hf1⟩
          have HS1' := Lib.hid hs1
          have HF1 := Lib.hid hf1
          clear hs1 hf1
          go_wp2_with fail
          go_ret
          exact ⟨rfl, HS1'.out, HF1.out⟩
  · have hq1 : (q == 0) = false := by simpa using hq0
    rw [if_neg (by rw [hq]; exact hq0)] at hs'
    injection hs' with hr hs
    rw [hq] at hr
    subst hr
    subst hs
    go_enter Try.func17, Try.ntmps17
    go_wp2_with fail
    rw [← HW.out]
    refine (there_any g b S N L s n q hn hq _ HSW.out).mono ?_
    rintro e w1 ⟨rfl, hb1⟩
    have HS1 := Lib.hid (HSW.out.below hb1)
    have HB1 := Lib.hid (HBW.out.trans (hb1.mono sW))
    clear hb1
    go_wp2_with fail
    go_ret
    exact ⟨rfl, MO.out _ _ HS1.out, Frm.of_below HB1.out⟩
end Go.Proofs.Ytfcagjnedaaadaa
