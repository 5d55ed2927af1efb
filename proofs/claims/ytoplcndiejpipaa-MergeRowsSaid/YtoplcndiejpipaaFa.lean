/- bytes.Equal, slices.Clone, and the comparisons of packets and events. -/
import Derived.Test.YtoplcndiejpipaaEv
namespace Go.Proofs.Ytoplcndiejpipaa
open Go.RowKit
set_option linter.unusedVariables false
set_option linter.unusedSimpArgs false

set_option maxRecDepth 100000 in
theorem beq_any (w : World) (S S' : Nat → Prop) (v u : Value) (l k : List Int) (h : BV w S v l) (h' : BV w S' u k) :
    Calls Try.prog 22 #[v, u] w fun e w' => e = .returned (.bool (decide (l = k))) ∧ w = w' := by
  obtain ⟨A, c, rfl, h1, _, b1⟩ := h
  obtain ⟨B, d, rfl, k1, _, b2⟩ := h'
  have e1 := sl_conv h1
  have e2 := sl_conv k1
  have hd := toBA_eq b1 b2
  clear h1 k1
  go_enter Try.func22, Try.ntmps22
  go_wp2
  go_ret
  exact ⟨rfl, rfl⟩
theorem beq_at (w : World) (S S' : Nat → Prop) (v u : Value) (l k : List Int) (b : Bool) (hb : decide (l = k) = b) (h : BV w S v l) (h' : BV w S' u k) :
    Calls Try.prog 22 #[v, u] w fun e w' => e = .returned (.bool b) ∧ w = w' := hb ▸ beq_any w S S' v u l k h h'

set_option maxHeartbeats 4000000 in
set_option maxRecDepth 100000 in
theorem psame_any (w : World) (S S' : Nat → Prop) (p q : Pk) (v u : Value) (h : BV w S v p.data) (h' : BV w S' u q.data) :
    Calls Try.prog 18 #[pagg p v, pagg q u] w fun e w' => e = .returned (.bool (decide (p = q))) ∧ Below w.heap.size w w' := by
  obtain ⟨p0, p1, p2, p3, p4, p5, p6, p7, p8⟩ := p
  obtain ⟨q0, q1, q2, q3, q4, q5, q6, q7, q8⟩ := q
  simp only at h h' ⊢
  have H := Lib.hid h
  have H' := Lib.hid h'
  clear h h'
  have hb : Below w.heap.size w ((w.alloc (.cells #[.int .i64 p0, .int .i64 p1, .int .i64 p2, .int .i64 p3, .int .i64 p4, v, .bool p6, .int .i64 p7, .int .i64 p8] 25)).alloc (.cells #[.int .i64 q0, .int .i64 q1, .int .i64 q2, .int .i64 q3, .int .i64 q4, u, .bool q6, .int .i64 q7, .int .i64 q8] 25)) := ((Below.refl _ _).alloc (Nat.le_refl _) _).alloc (by simp) _
  have B1 := Lib.hid hb
  have G := Lib.hid (H.out.below hb)
  have G' := Lib.hid (H'.out.below hb)
  clear hb
  by_cases hf : p0 = q0
  · subst hf
    by_cases hf : p1 = q1
    · subst hf
      by_cases hf : p2 = q2
      · subst hf
        by_cases hf : p3 = q3
        · subst hf
          by_cases hf : p4 = q4
          · subst hf
            by_cases hf : p5 = q5
            · subst hf
              by_cases hf : p6 = q6
              · subst hf
                by_cases hf : p7 = q7
                · subst hf
                  by_cases hf : p8 = q8
                  · subst hf
                    skip
                    go_enter Try.func18, Try.ntmps18
                    go_wp2_with fail
                    refine (beq_at _ S S' v u _ _ true (by simp) G.out G'.out).mono ?_
                    rintro e _ ⟨rfl, rfl⟩
                    go_wp2_with fail
                    go_ret
                    exact ⟨by simp, B1.out⟩
                  · have hd : (p8 == q8) = false := by simpa using hf
                    go_enter Try.func18, Try.ntmps18
                    go_wp2_with fail
                    refine (beq_at _ S S' v u _ _ true (by simp) G.out G'.out).mono ?_
                    rintro e _ ⟨rfl, rfl⟩
                    go_wp2_with fail
                    go_ret
                    exact ⟨by simp [hf], B1.out⟩
                · have hd : (p7 == q7) = false := by simpa using hf
                  go_enter Try.func18, Try.ntmps18
                  go_wp2_with fail
                  refine (beq_at _ S S' v u _ _ true (by simp) G.out G'.out).mono ?_
                  rintro e _ ⟨rfl, rfl⟩
                  go_wp2_with fail
                  go_ret
                  exact ⟨by simp [hf], B1.out⟩
              · have hd : (p6 == q6) = false := by simpa using hf
                go_enter Try.func18, Try.ntmps18
                go_wp2_with fail
                refine (beq_at _ S S' v u _ _ true (by simp) G.out G'.out).mono ?_
                rintro e _ ⟨rfl, rfl⟩
                go_wp2_with fail
                go_ret
                exact ⟨by simp [hf], B1.out⟩
            · have hd : decide (p5 = q5) = false := by simpa using hf
              go_enter Try.func18, Try.ntmps18
              go_wp2_with fail
              refine (beq_at _ S S' v u _ _ false (by simp [hf]) G.out G'.out).mono ?_
              rintro e _ ⟨rfl, rfl⟩
              go_wp2_with fail
              go_ret
              exact ⟨by simp [hf], B1.out⟩
          · have hd : (p4 == q4) = false := by simpa using hf
            go_enter Try.func18, Try.ntmps18
            go_wp2_with fail
            go_ret
            exact ⟨by simp [hf], B1.out⟩
        · have hd : (p3 == q3) = false := by simpa using hf
          go_enter Try.func18, Try.ntmps18
          go_wp2_with fail
          go_ret
          exact ⟨by simp [hf], B1.out⟩
      · have hd : (p2 == q2) = false := by simpa using hf
        go_enter Try.func18, Try.ntmps18
        go_wp2_with fail
        go_ret
        exact ⟨by simp [hf], B1.out⟩
    · have hd : (p1 == q1) = false := by simpa using hf
      go_enter Try.func18, Try.ntmps18
      go_wp2_with fail
      go_ret
      exact ⟨by simp [hf], B1.out⟩
  · have hd : (p0 == q0) = false := by simpa using hf
    go_enter Try.func18, Try.ntmps18
    go_wp2_with fail
    go_ret
    exact ⟨by simp [hf], B1.out⟩

set_option maxHeartbeats 4000000 in
set_option maxRecDepth 100000 in
theorem rsame_any (w : World) (S S' : Nat → Prop) (p q : Pk) (v u : Value) (h : BV w S v p.data) (h' : BV w S' u q.data) :
    Calls Try.prog 20 #[pagg p v, pagg q u] w fun e w' => e = .returned (.bool (decide (p = q))) ∧ Below w.heap.size w w' := by
  obtain ⟨p0, p1, p2, p3, p4, p5, p6, p7, p8⟩ := p
  obtain ⟨q0, q1, q2, q3, q4, q5, q6, q7, q8⟩ := q
  simp only at h h' ⊢
  obtain ⟨A, c, rfl, h1, _, b1⟩ := h
  obtain ⟨B, d, rfl, k1, _, b2⟩ := h'
  have hb : Below w.heap.size w ((w.alloc (.cells #[.int .i64 p0, .int .i64 p1, .int .i64 p2, .int .i64 p3, .int .i64 p4, .slice A p5.length c, .bool p6, .int .i64 p7, .int .i64 p8] 25)).alloc (.cells #[.int .i64 q0, .int .i64 q1, .int .i64 q2, .int .i64 q3, .int .i64 q4, .slice B q5.length d, .bool q6, .int .i64 q7, .int .i64 q8] 25)) := ((Below.refl _ _).alloc (Nat.le_refl _) _).alloc (by simp) _
  have e1 := sl_conv (h1.below hb)
  have e2 := sl_conv (k1.below hb)
  have E := Lib.hid (toBA_eq b1 b2)
  have B1 := Lib.hid hb
  clear hb h1 k1 b1 b2
  by_cases hf : p0 = q0
  · subst hf
    by_cases hf : p1 = q1
    · subst hf
      by_cases hf : p2 = q2
      · subst hf
        by_cases hf : p3 = q3
        · subst hf
          by_cases hf : p4 = q4
          · subst hf
            by_cases hf : p5 = q5
            · subst hf
              by_cases hf : p6 = q6
              · subst hf
                by_cases hf : p7 = q7
                · subst hf
                  by_cases hf : p8 = q8
                  · subst hf
                    go_enter Try.func20, Try.ntmps20
                    go_wp2_with fail
                    go_ret
                    exact ⟨by simp, B1.out⟩
                  · have hd : (p8 == q8) = false := by simpa using hf
                    go_enter Try.func20, Try.ntmps20
                    go_wp2_with fail
                    go_ret
                    exact ⟨by simp [hf], B1.out⟩
                · have hd : (p7 == q7) = false := by simpa using hf
                  go_enter Try.func20, Try.ntmps20
                  go_wp2_with fail
                  go_ret
                  exact ⟨by simp [hf], B1.out⟩
              · have hd : (p6 == q6) = false := by simpa using hf
                go_enter Try.func20, Try.ntmps20
                go_wp2_with fail
                go_ret
                exact ⟨by simp [hf], B1.out⟩
            · have hd : ((toBA p5).toList == (toBA q5).toList) = false := by rw [E.out]; simpa using hf
              go_enter Try.func20, Try.ntmps20
              go_wp2_with fail
              go_ret
              exact ⟨by simp [hf], B1.out⟩
          · have hd : (p4 == q4) = false := by simpa using hf
            go_enter Try.func20, Try.ntmps20
            go_wp2_with fail
            go_ret
            exact ⟨by simp [hf], B1.out⟩
        · have hd : (p3 == q3) = false := by simpa using hf
          go_enter Try.func20, Try.ntmps20
          go_wp2_with fail
          go_ret
          exact ⟨by simp [hf], B1.out⟩
      · have hd : (p2 == q2) = false := by simpa using hf
        go_enter Try.func20, Try.ntmps20
        go_wp2_with fail
        go_ret
        exact ⟨by simp [hf], B1.out⟩
    · have hd : (p1 == q1) = false := by simpa using hf
      go_enter Try.func20, Try.ntmps20
      go_wp2_with fail
      go_ret
      exact ⟨by simp [hf], B1.out⟩
  · have hd : (p0 == q0) = false := by simpa using hf
    go_enter Try.func20, Try.ntmps20
    go_wp2_with fail
    go_ret
    exact ⟨by simp [hf], B1.out⟩

theorem rsame_at (w : World) (S S' : Nat → Prop) (p q : Pk) (v u : Value) (b : Bool) (hb : decide (p = q) = b) (h : BV w S v p.data) (h' : BV w S' u q.data) :
    Calls Try.prog 20 #[pagg p v, pagg q u] w fun e w' => e = .returned (.bool b) ∧ Below w.heap.size w w' := hb ▸ rsame_any w S S' p q v u h h'
theorem psame_at (w : World) (S S' : Nat → Prop) (p q : Pk) (v u : Value) (b : Bool) (hb : decide (p = q) = b) (h : BV w S v p.data) (h' : BV w S' u q.data) :
    Calls Try.prog 18 #[pagg p v, pagg q u] w fun e w' => e = .returned (.bool b) ∧ Below w.heap.size w w' := hb ▸ psame_any w S S' p q v u h h'

set_option maxHeartbeats 4000000 in
set_option maxRecDepth 100000 in
theorem sev_any (w : World) (S S' : Nat → Prop) (p q : Ev) (x y x' y' : Value) (h : EV w S p (x, y)) (h' : EV w S' q (x', y')) :
    Calls Try.prog 15 #[eagg p x y, eagg q x' y'] w fun e w' => e = .returned (.bool (decide (p = q))) ∧ Below w.heap.size w w' := by
  obtain ⟨pk, pn, pd, p0, p1, p2, p3, p4, p5, p6, p7, p8⟩ := p
  obtain ⟨qk, qn, qd, q0, q1, q2, q3, q4, q5, q6, q7, q8⟩ := q
  obtain ⟨h, g⟩ := h
  obtain ⟨h', g'⟩ := h'
  simp only at h h' g g' ⊢
  obtain ⟨A, c, rfl, h1, _, b1⟩ := h
  obtain ⟨B, d, rfl, k1, _, b2⟩ := h'
  have hb : Below w.heap.size w ((w.alloc (.cells #[.int .i64 pk, .int .i64 pn, .slice A pd.length c, .int .i64 p0, .int .i64 p1, .int .i64 p2, .int .i64 p3, .int .i64 p4, y, .bool p6, .int .i64 p7, .int .i64 p8] 27)).alloc (.cells #[.int .i64 qk, .int .i64 qn, .slice B qd.length d, .int .i64 q0, .int .i64 q1, .int .i64 q2, .int .i64 q3, .int .i64 q4, y', .bool q6, .int .i64 q7, .int .i64 q8] 27)) := ((Below.refl _ _).alloc (Nat.le_refl _) _).alloc (by simp) _
  have e1 := sl_conv (h1.below hb)
  have e2 := sl_conv (k1.below hb)
  have E := Lib.hid (toBA_eq b1 b2)
  have B1 := Lib.hid hb
  have G := Lib.hid (g.below hb)
  have G' := Lib.hid (g'.below hb)
  obtain ⟨r, hr⟩ : ∃ r, r = decide ((⟨p0, p1, p2, p3, p4, p5, p6, p7, p8⟩ : Pk) = ⟨q0, q1, q2, q3, q4, q5, q6, q7, q8⟩) := ⟨_, rfl⟩
  have HR := Lib.hid hr
  clear hb h1 k1 b1 b2 g g' hr
  by_cases hf : pk = qk
  · subst hf
    by_cases hf : pn = qn
    · subst hf
      by_cases hf : pd = qd
      · subst hf
        go_enter Try.func15, Try.ntmps15
        go_wp2_with fail
        refine (rsame_at _ S S' ⟨p0, p1, p2, p3, p4, p5, p6, p7, p8⟩ ⟨q0, q1, q2, q3, q4, q5, q6, q7, q8⟩ _ _ r HR.out.symm G.out G'.out).mono ?_
        rintro e w2 ⟨rfl, hb2⟩
        go_wp2_with fail
        go_ret
        exact ⟨by rw [HR.out]; simp, B1.out.trans (hb2.mono B1.out.size)⟩
      · have hd : ((toBA pd).toList == (toBA qd).toList) = false := by rw [E.out]; simpa using hf
        go_enter Try.func15, Try.ntmps15
        go_wp2_with fail
        go_ret
        exact ⟨by simp [hf], B1.out⟩
    · have hd : (pn == qn) = false := by simpa using hf
      go_enter Try.func15, Try.ntmps15
      go_wp2_with fail
      go_ret
      exact ⟨by simp [hf], B1.out⟩
  · have hd : (pk == qk) = false := by simpa using hf
    go_enter Try.func15, Try.ntmps15
    go_wp2_with fail
    go_ret
    exact ⟨by simp [hf], B1.out⟩
theorem sev_at (w : World) (S S' : Nat → Prop) (p q : Ev) (x y x' y' : Value) (b : Bool) (hb : decide (p = q) = b) (h : EV w S p (x, y)) (h' : EV w S' q (x', y')) :
    Calls Try.prog 15 #[eagg p x y, eagg q x' y'] w fun e w' => e = .returned (.bool b) ∧ Below w.heap.size w w' := hb ▸ sev_any w S S' p q x y x' y' h h'
end Go.Proofs.Ytoplcndiejpipaa
