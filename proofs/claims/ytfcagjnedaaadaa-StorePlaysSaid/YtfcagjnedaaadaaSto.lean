/- The contracts of the store's methods. -/
import Derived.Test.YtfcagjnedaaadaaAct
import Derived.Test.YtfcagjnedaaadaaCl
namespace Go.Proofs.Ytfcagjnedaaadaa
open Go.RowKit
attribute [local go_sem] run_max2 run_min2 run_max_ run_min_

theorem BlkAt.frm {S T : Nat → Prop} {L : Nat} {w w' : World} {v : Value} {x : Bk} (h : BlkAt w S L v x) (k : Frm T w w') (hT : ∀ j, S j → ¬ T j) : BlkAt w' S L v x := by
  obtain ⟨A, c, rfl, h1, h2, h3, h4, h5⟩ := h
  refine ⟨A, c, rfl, ?_, h2, h3, h4, h5⟩
  by_cases h0 : 0 < x.1.length
  · exact h1.frm k (fun j hj => hT j (h2 h0 j hj))
  · obtain ⟨A', c', e, g1, g2, g3, g4, g5⟩ := h1
    injection e with e1 e2 e3
    subst e1
    subst e3
    exact ⟨A, c, rfl, g1, g2, g3, g4, fun hp => absurd hp (by rw [u8s_length]; exact h0)⟩
theorem BlkAt.mono {S S' : Nat → Prop} {L L' : Nat} {w : World} {v : Value} {x : Bk} (h : BlkAt w S L v x) (hS : ∀ j, S j → S' j) (hL : L ≤ L') : BlkAt w S' L' v x := by
  obtain ⟨A, c, rfl, h1, h2, h3, h4, h5⟩ := h
  exact ⟨A, c, rfl, h1, fun h0 j hj => hS j (h2 h0 j hj), h3, h4, Nat.le_trans h5 hL⟩
theorem Hold.frm {S T : Nat → Prop} {L : Nat} {w w' : World} {g : Int → Option Value} {f : Int → Option Bk} (h : Hold w S L g f) (k : Frm T w w') (hT : ∀ j, S j → ¬ T j) : Hold w' S L g f := by
  intro n
  rcases h n with h | ⟨x, v, h1, h2, h3⟩
  · exact .inl h
  · exact .inr ⟨x, v, h1, h2, h3.frm k hT⟩
theorem Hold.mono {S S' : Nat → Prop} {L L' : Nat} {w : World} {g : Int → Option Value} {f : Int → Option Bk} (h : Hold w S L g f) (hS : ∀ j, S j → S' j) (hL : L ≤ L') : Hold w S' L' g f := by
  intro n
  rcases h n with h | ⟨x, v, h1, h2, h3⟩
  · exact .inl h
  · exact .inr ⟨x, v, h1, h2, h3.mono hS hL⟩
theorem Hold.put {S : Nat → Prop} {L : Nat} {w : World} {g : Int → Option Value} {f : Int → Option Bk} (h : Hold w S L g f) (n : Int) {v : Value} {x : Bk} (hx : BlkAt w S L v x) : Hold w S L (upd g n (some v)) (upd f n (some x)) := by
  intro k
  by_cases e : k = n
  · subst e
    exact .inr ⟨x, v, upd_same _ _ _, upd_same _ _ _, hx⟩
  · rw [upd_other _ _ e, upd_other _ _ e]
    exact h k
theorem Hold.del {S : Nat → Prop} {L : Nat} {w : World} {g : Int → Option Value} {f : Int → Option Bk} (h : Hold w S L g f) (n : Int) : Hold w S L (upd g n none) (upd f n none) := by
  intro k
  by_cases e : k = n
  · subst e
    exact .inl ⟨upd_same _ _ _, upd_same _ _ _⟩
  · rw [upd_other _ _ e, upd_other _ _ e]
    exact h k
/-- The block at a number, or the zero block. -/
def bkAt (f : Int → Option Bk) (n : Int) : Bk := (f n).getD ([], 0, false)
theorem Hold.get {S : Nat → Prop} {L : Nat} {w : World} {g : Int → Option Value} {f : Int → Option Bk} (h : Hold w S L g f) (n : Int) : ∃ A c, (g n).getD zB = .agg #[.slice A (bkAt f n).1.length c, .int .i64 (bkAt f n).2.1, .bool (bkAt f n).2.2] ∧
    Sl w 1 (.slice A (bkAt f n).1.length c) (bkAt f n).1.length (u8s (bkAt f n).1) ∧ (0 < (bkAt f n).1.length → ∀ j, (Value.slice A (bkAt f n).1.length c).ownBlock = some j → S j) ∧ 0 ≤ (bkAt f n).2.1 ∧ (bkAt f n).2.1 ≤ (bkAt f n).1.length ∧ (bkAt f n).1.length ≤ L := by
  unfold bkAt
  rcases h n with ⟨h1, h2⟩ | ⟨x, v, h1, h2, A, c, rfl, h3⟩
  · rw [h1, h2]
    exact ⟨none, 0, rfl, Sl.nil w 1, fun h => absurd h (by simp), by simp, by simp, by simp⟩
  · rw [h1, h2]
    exact ⟨A, c, rfl, h3⟩
theorem Hold.some_iff {S : Nat → Prop} {L : Nat} {w : World} {g : Int → Option Value} {f : Int → Option Bk} (h : Hold w S L g f) (n : Int) : (g n).isSome = (f n).isSome := by
  rcases h n with ⟨h1, h2⟩ | ⟨x, v, h1, h2, _⟩ <;> rw [h1, h2] <;> rfl

theorem Sto.frm {S T : Nat → Prop} {w w' : World} {g b N L : Nat} {s : St} (h : Sto w g b S N L s) (k : Frm T w w') (hT : ∀ j, S j → ¬ T j) (hg : ¬ T g) (hb : ¬ T b) : Sto w' g b S N L s := by
  obtain ⟨gv, h1, h2⟩ := h.hold
  exact ⟨h.blk.frm k hg, h.ne, h.l0, h.l1, ⟨gv, h1.frm k hb, h2.frm k hT⟩, h.av⟩
theorem Sto.below {S : Nat → Prop} {w w' : World} {g b N L : Nat} {s : St} (h : Sto w g b S N L s) (k : Below w.heap.size w w') : Sto w' g b S N L s :=
  h.frm (Frm.of_below (S := fun _ => False) k) (fun _ _ h => h) (fun h => h) (fun h => h)
theorem Sto.mono {S S' : Nat → Prop} {w : World} {g b N N' L L' : Nat} {s : St} (h : Sto w g b S N L s) (hS : ∀ j, S j → S' j) (hS' : ∀ j, S' j → j ≠ g ∧ j ≠ b) (hN : N ≤ N') (hL : L ≤ L') : Sto w g b S' N' L' s := by
  obtain ⟨gv, h1, h2⟩ := h.hold
  exact ⟨h.blk, h.ne, h.l0, h.l1, ⟨gv, h1.mono hN, h2.mono hS hL⟩, hS'⟩
theorem Sto.glt {S : Nat → Prop} {w : World} {g b N L : Nat} {s : St} (h : Sto w g b S N L s) : g < w.heap.size := h.blk.lt
theorem Sto.blt {S : Nat → Prop} {w : World} {g b N L : Nat} {s : St} (h : Sto w g b S N L s) : b < w.heap.size := by
  obtain ⟨gv, h1, h2⟩ := h.hold
  exact h1.lt

/-- What is left of a fuse behind an act. -/
def runS (s : St) (f' : Int → Option Bk) : Int × St :=
  if s.lit = true ∧ s.left = 0 then (6, { s with dead := true }) else (0, { s with left := mx 0 (s.left - 1), f := f' })
def appS (s : St) (n : Int) (ys : List Int) : Int × St :=
  if mayS s n = 0 then runS s (upd s.f n (some ((bkAt s.f n).1 ++ ys, (bkAt s.f n).2.1, (bkAt s.f n).2.2))) else (mayS s n, s)

theorem may_at (g b : Nat) (S : Nat → Prop) (N L : Nat) (s : St) (n r : Int) (hr : mayS s n = r) (w : World) (h : Sto w g b S N L s) : Calls Try.prog 34 #[.pointer (some ⟨g, 0, none⟩), .int .i64 n] w fun e w' => e = .returned (.int .i64 r) ∧ w = w' :=
  hr ▸ may_any g b S N L s n w h

set_option maxRecDepth 100000 in
theorem app_any (g b : Nat) (S : Nat → Prop) (N L : Nat) (s : St) (n : Int) (w : World) (h : Sto w g b S N L s) (hn : (Lit.int .i64 n).wf = true) (A : Option Addr) (m c : Nat) (ys : List Int)
    (hys : Sl w 1 (.slice A m c) m (u8s ys)) (hN : N < maxLen) (hL : L ≤ 500000) (hm : m ≤ 500000) (hA : ∀ j, (Value.slice A m c).ownBlock = some j → j ≠ g) (r : Int) (s' : St) (hs' : appS s n ys = (r, s')) :
    Calls Try.prog 12 #[.pointer (some ⟨g, 0, none⟩), .int .i64 n, .slice A m c] w fun e w' => e = .returned (.int .i64 r) ∧ Sto w' g b (fun j => S j ∨ w.heap.size ≤ j) (N + 1) (L + m) s' ∧ Frm (fun j => j = g ∨ j = b) w w' := by
  have hylen : ys.length = m := by
    obtain ⟨_, _, _, _, _, h, _⟩ := hys
    simpa [u8s] using h
  have hg := h.glt
  have hb := h.blt
  have H := Lib.hid h
  have HY := Lib.hid hys
  obtain ⟨W, hW⟩ : ∃ W, W = (((w.alloc (Obj.cells #[Value.pointer (some { block := g, off := 0 })] 24)).alloc (Obj.cells #[Value.int IntKind.i64 n] 3)).alloc (Obj.cells #[Value.slice A m c] 23)) := ⟨_, rfl⟩
  have hBW : Below w.heap.size w W := by rw [hW]; exact (((Below.refl _ _).alloc (Nat.le_refl _) _).alloc (by simp) _).alloc (by simp; omega) _
  have z0 : Blk W w.heap.size #[Value.pointer (some { block := g, off := 0 })] 24 := by rw [hW]; exact ((Blk.new w _ 24).alloc _).alloc _
  have z1 : Blk W (w.heap.size + 1) #[Value.int IntKind.i64 n] 3 := by
    rw [hW]
    have := (Blk.new (w.alloc (Obj.cells #[Value.pointer (some { block := g, off := 0 })] 24)) #[Value.int IntKind.i64 n] 3).alloc (Obj.cells #[Value.slice A m c] 23)
    simpa using this
  have z2 : Blk W (w.heap.size + 1 + 1) #[Value.slice A m c] 23 := by
    rw [hW]
    have := Blk.new ((w.alloc (Obj.cells #[Value.pointer (some { block := g, off := 0 })] 24)).alloc (Obj.cells #[Value.int IntKind.i64 n] 3)) #[Value.slice A m c] 23
    simpa using this
  have HSW := Lib.hid (h.below hBW)
  have HBW := Lib.hid hBW
  have Z0 := Lib.hid z0
  have Z1 := Lib.hid z1
  have Z2 := Lib.hid z2
  have HW := Lib.hid hW
  have HYW := Lib.hid (hys.below hBW)
  have sW := hBW.size
  have mono1 : ∀ {s'' : St} {w' : World}, Sto w' g b S N L s'' → Sto w' g b (fun j => S j ∨ w.heap.size ≤ j) (N + 1) (L + m) s'' := fun h' =>
    h'.mono (fun j hj => .inl hj) (fun j hj => hj.elim (fun h0 => h'.av j h0) (fun h0 => by omega)) (by omega) (by omega)
  have MO : Hid (∀ (s'' : St) (w' : World), Sto w' g b S N L s'' → Sto w' g b (fun j => S j ∨ w.heap.size ≤ j) (N + 1) (L + m) s'') := Lib.hid (fun _ _ h' => mono1 h')
  clear h hys hW hBW z0 z1 z2 mono1
  obtain ⟨q, hq⟩ : ∃ q, mayS s n = q := ⟨_, rfl⟩
  by_cases hq0 : q = 0
  · subst hq0
    unfold appS at hs'
    rw [if_pos hq] at hs'
    unfold runS at hs'
    by_cases hf : s.lit = true ∧ s.left = 0
    · rw [if_pos hf] at hs'
      injection hs' with hr hs
      subst hr
      subst hs
      go_enter Try.func12, Try.ntmps12
      go_wp2_with fail
      rw [← HW.out]
      refine (may_at g b S N L s n 0 hq _ HSW.out).mono ?_
      rintro e _ ⟨rfl, rfl⟩
      have k0 := Z0.out.cell 0
      simp at k0
      go_wp2_with fail
      have hblk := HSW.out.blk
      rw [hf.1, hf.2] at hblk
      refine (act_fuse g b s.dead W _ hblk).mono ?_
      rintro e w' ⟨rfl, hb', hf'⟩
      have HS' : Hid (Sto w' g b S N L { s with dead := true }) := by
        obtain ⟨gv, hmv, hh⟩ := HSW.out.hold
        refine ⟨?_, HSW.out.ne, HSW.out.l0, HSW.out.l1, ⟨gv, hmv.frm hf' (fun e => HSW.out.ne e.symm), hh.frm hf' (fun j hj e => (HSW.out.av j hj).1 e)⟩, HSW.out.av⟩
        simp only [hf.1, hf.2]
        exact hb'
      have HF' := Lib.hid hf'
      clear hb' hf' hblk
      go_wp2_with fail
      go_ret
      exact ⟨rfl, MO.out _ _ HS'.out, (Frm.of_below HBW.out).trans (HF'.out.mono (fun j hj => .inl hj))⟩
    · rw [if_neg hf] at hs'
      injection hs' with hr hs
      subst hr
      subst hs
      go_enter Try.func12, Try.ntmps12
      go_wp2_with fail
      rw [← HW.out]
      refine (may_at g b S N L s n 0 hq _ HSW.out).mono ?_
      rintro e _ ⟨rfl, rfl⟩
      have k0 := Z0.out.cell 0
      have k1 := Z1.out.cell 0
      have k2 := Z2.out.cell 0
      simp at k0 k1 k2
      go_wp2_with fail
      refine (act36_at g b s.dead s.lit s.left (mx 0 (s.left - 1)) W _ (fun w' => Sto w' g b (fun j => S j ∨ w.heap.size ≤ j) (N + 1) (L + m) { s with left := mx 0 (s.left - 1), f := upd s.f n (some ((bkAt s.f n).1 ++ ys, (bkAt s.f n).2.1, (bkAt s.f n).2.2)) } ∧ Frm (fun j => j = g ∨ j = b) w w')
        HSW.out.blk HSW.out.l0 HSW.out.l1 hf rfl (fun W1 hb1 hf1 => ?_)).mono ?_
      · obtain ⟨gv, hmv, hh⟩ := HSW.out.hold
        have hne := HSW.out.ne
        have hh1 := hh.frm hf1 (fun j hj e => (HSW.out.av j hj).1 e)
        obtain ⟨A0, c0, hv, hS0, hS0', y0, y1, y2⟩ := hh1.get n
        have c0' := hb1.cell 0
        simp at c0'
        refine (appc_any g b N gv n hn W1 w.heap.size (w.heap.size + 1) (w.heap.size + 1 + 1) m c A (hmv.frm hf1 (fun e => hne e.symm)) hN
          (frm_cell hf1 k0 (fun e => by simp at e; omega)) (frm_cell hf1 k1 (fun e => by simp at e; omega)) (frm_cell hf1 k2 (fun e => by simp at e; omega)) c0'
          A0 _ c0 _ _ hv _ _ hS0 (HYW.out.frm hf1 (fun j hj e => hA j hj e)) (by omega) (by omega)).mono ?_
        rintro e w' ⟨rfl, A', c', hm', hown', hf'⟩
        have sW1 := hf1.size
        have hl0 : 0 ≤ mx 0 (s.left - 1) := by unfold mx; split <;> omega
        have hl1 : mx 0 (s.left - 1) ≤ 9223372036854775807 := by have := HSW.out.l1; unfold mx; split <;> omega
        refine ⟨rfl, ⟨hb1.frm hf' (fun e => hne e), hne, hl0, hl1, ⟨_, hm', ?_⟩, fun j hj => hj.elim (fun h0 => HSW.out.av j h0) (fun h0 => by omega)⟩, ?_⟩
        · refine Hold.put ((hh1.frm hf' (fun j hj e => (HSW.out.av j hj).2 e)).mono (fun j hj => .inl hj) (Nat.le_add_right L m)) n ?_
          refine ⟨A', c', ?_, ?_, fun _ j hj => ?_, y0, ?_, ?_⟩
          · simp [hylen]
          · have := Sl.of_own hown' (by rw [← u8s_append]; exact u8s_one _)
            simp only [List.length_append, hylen, u8s_append]
            exact this
          · simp only [List.length_append, hylen] at hj
            have := (hown'.lt j hj).1
            exact .inr (by omega)
          · simp only [List.length_append]
            omega
          · simp only [List.length_append, hylen]
            omega
        · exact ((Frm.of_below HBW.out).trans (hf1.mono (fun j hj => .inl hj))).trans (hf'.mono (fun j hj => .inr hj))
      · rintro e w' ⟨rfl, hs1, hf1⟩
        have HS1 := Lib.hid hs1
        have HF1 := Lib.hid hf1
        clear hs1 hf1
        go_wp2_with fail
        go_ret
        exact ⟨rfl, HS1.out, HF1.out⟩
  · have hq1 : (q == 0) = false := by simpa using hq0
    unfold appS at hs'
    rw [if_neg (by rw [hq]; exact hq0)] at hs'
    injection hs' with hr hs
    rw [hq] at hr
    subst hr
    subst hs
    go_enter Try.func12, Try.ntmps12
    go_wp2_with fail
    rw [← HW.out]
    refine (may_at g b S N L s n q hq _ HSW.out).mono ?_
    rintro e _ ⟨rfl, rfl⟩
    go_wp2_with fail
    go_ret
    exact ⟨rfl, MO.out _ _ HSW.out, Frm.of_below HBW.out⟩
end Go.Proofs.Ytfcagjnedaaadaa
