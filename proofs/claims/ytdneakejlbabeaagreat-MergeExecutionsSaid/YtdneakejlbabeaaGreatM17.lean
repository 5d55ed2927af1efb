/- Parts of the walk: Jl, Jm, Jn. -/
import Derived.Test.YtdneakejlbabeaaGreatM16
import Derived.Test.YtdneakejlbabeaaGreatM05
import Derived.Test.YtdneakejlbabeaaGreatM09
namespace Go.Proofs.YtdneakejlbabeaaGreat
open Go.RowKit
set_option linter.unusedVariables false
set_option linter.unusedSimpArgs false

/-- What is read of a path. -/
theorem EndS.pth {o : Nat → Nat} {k B : Nat} {w : World} {ge : Nat} {x : EndV} (h : EndS o k B w ge x) {i : Nat} {q : PathV} (hi : x.ps[i]? = some q) : ∃ (ad : Addr) (c : Nat), x.vP = .slice (some ad) x.ps.length c ∧ w.cell? ⟨ge, 9, none⟩ = some (.slice (some ad) x.ps.length c) ∧ w.cell? (ad.add i) = some (.pointer (some ⟨q.gp, 0, none⟩)) ∧
    w.cell? ⟨q.gp, 0, none⟩ = some (.bool q.u) ∧ w.cell? ⟨q.gp, 1, none⟩ = some (.bool q.j) ∧ w.cell? ⟨q.gp, 3, none⟩ = some (.int .i64 q.s) ∧ w.frozen? ⟨q.gp, 0, none⟩ = false ∧ w.frozen? ⟨q.gp, 1, none⟩ = false := by
  obtain ⟨A, c, hv, hc, hel⟩ := h.path
  obtain ⟨ad, hA, d, _⟩ := hel i q hi
  have c9 := h.blk.cell 9
  simp only [List.getElem?_toArray, List.getElem?_cons_zero, List.getElem?_cons_succ] at c9
  rw [hv, hA] at c9
  have b := (h.c9 i q hi).r.blk
  exact ⟨ad, c, by rw [hv, hA], c9, d, b.cell 0, b.cell 1, b.cell 3, b.free 0, b.free 1⟩
theorem EndS.setU {o : Nat → Nat} {k B : Nat} {w : World} {ge : Nat} {x : EndV} (h : EndS o k B w ge x) {i : Nat} {q : PathV} (hi : x.ps[i]? = some q) (b : Bool) : EndS o k B (w.setCell ⟨q.gp, 0, none⟩ (.bool b)) ge { x with ps := x.ps.set i { q with u := b } } ∧ Stp (fun c => c = k + 10 + i) o o w (w.setCell ⟨q.gp, 0, none⟩ (.bool b)) := by
  have c := h.c9 i q hi
  have s : Stp (fun c => c = k + 10 + i) o o w (w.setCell ⟨q.gp, 0, none⟩ (.bool b)) := ⟨(Frm.refl _ _).setCell (.inl (c.ow _ (.inl rfl))) _, Agr.refl _ _⟩
  exact ⟨h.put9 hi s (q' := { q with u := b }) rfl ⟨c.r.setU, c.ow, c.l⟩, s⟩
theorem EndS.setJ {o : Nat → Nat} {k B : Nat} {w : World} {ge : Nat} {x : EndV} (h : EndS o k B w ge x) {i : Nat} {q : PathV} (hi : x.ps[i]? = some q) (b : Bool) : EndS o k B (w.setCell ⟨q.gp, 1, none⟩ (.bool b)) ge { x with ps := x.ps.set i { q with j := b } } ∧ Stp (fun c => c = k + 10 + i) o o w (w.setCell ⟨q.gp, 1, none⟩ (.bool b)) := by
  have c := h.c9 i q hi
  have s : Stp (fun c => c = k + 10 + i) o o w (w.setCell ⟨q.gp, 1, none⟩ (.bool b)) := ⟨(Frm.refl _ _).setCell (.inl (c.ow _ (.inl rfl))) _, Agr.refl _ _⟩
  exact ⟨h.put9 hi s (q' := { q with j := b }) rfl ⟨c.r.setJ, c.ow, c.l⟩, s⟩
theorem said_same {ps : List PathV} {i : Nat} {q q' : PathV} (h : ps[i]? = some q) (hs : q'.s = q.s) : said (ps.set i q') = said ps := by
  have := said_set (q' := q') h
  rw [hs] at this
  omega
theorem EOk.path {N : Nat} {x : EndV} (h : EOk N x) {i : Nat} {q q' : PathV} (hi : x.ps[i]? = some q) (hs : q'.s = q.s) : EOk N { x with ps := x.ps.set i q' } := by
  obtain ⟨h1, h2, h3, h4, h5, h6, h7, h8, h9, h10⟩ := h
  have := said_same hi hs
  exact ⟨by simpa using h1, by simpa using h2, by simpa using h3, h4, h5, h6, h7, by dsimp only; omega, by dsimp only; omega, h10⟩
theorem EOk.ev {N : Nat} {x : EndV} (h : EOk N x) (hN : N + 500000 ≤ 40000000) (vE : Value) (ev : Ev) (m : Int) : EOk (N + 500000) { x with vE := vE, es := x.es ++ [ev], m0 := m } := by
  obtain ⟨h1, h2, h3, h4, h5, h6, h7, h8, h9, h10⟩ := h
  exact ⟨h1, h2, h3, h4, h5, by dsimp only; omega, by dsimp only; omega, by simp; omega, by dsimp only; omega, hN⟩
theorem EOk.up {N M : Nat} {x : EndV} (h : EOk N x) (hM : N ≤ M) (hN : M ≤ 40000000) : EOk M x := by
  obtain ⟨h1, h2, h3, h4, h5, h6, h7, h8, h9, h10⟩ := h
  exact ⟨h1, h2, h3, h4, h5, by omega, by omega, by omega, by omega, hN⟩
theorem Act.join {N : Nat} {x y : EndV} {d : List Ev} {z : EndV} {p : List Pk} (h : Act N x y d) (g : Grw y z p) (i : Nat) (n : Int) : Act N x { z with due := z.due.set i n } (d ++ p.map fun p => ⟨5, 0, [], p⟩) := by
  have h2 := h.pump g
  obtain ⟨h1, h2', h3, h4, h5, h6, h7, h8, h9, h10⟩ := h2.ok
  exact ⟨h2.es, h2.outs, ⟨h1, by simpa using h2', h3, h4, h5, h6, h7, h8, h9, h10⟩, h2.side, h2.sm⟩
set_option maxHeartbeats 8000000 in
set_option maxRecDepth 100000 in
theorem eup_any (o : Nat → Nat) (k B N : Nat) (w : World) (ge : Nat) (x : EndV) (i : Int) (h : EndS o k B w ge x) (hok : EOk N x) (hN : N + 500000 ≤ 40000000) (hB : B ≤ w.heap.size) :
    Calls Tryz.prog 43 #[.pointer (some ⟨ge, 0, none⟩), .int .i64 i] w fun e w' => ∃ q : Bool, e = .returned (.bool q) ∧ CallR o k B N w ge x w' := by
  have H := Lib.hid h
  have OK := Lib.hid hok
  have kp := h.kp
  have hsl := h.said_le
  have hes := hok.es
  have hou := hok.outs
  have hNN := hok.N
  have np := h.np
  have NO : Hid (CallR o k B N w ge x w) := Lib.hid ⟨o, x, [], h, Stp.refl _ _ _, Act.refl hok hN, fun e h => by cases h⟩
  rcases Int.lt_or_le i 0 with i0 | i0
  · clear h hok
    go_enter Tryz.func43, Tryz.ntmps43
    go_wp2_with fail
    go_ret
    exact ⟨_, rfl, NO.out⟩
  rcases Int.lt_or_le i (x.ps.length : Int) with i1 | i1
  · obtain ⟨n, rfl⟩ : ∃ n : Nat, i = n := ⟨i.toNat, by omega⟩
    have hil : n < x.ps.length := by omega
    obtain ⟨q, hq⟩ : ∃ q, x.ps[n]? = some q := ⟨_, List.getElem?_eq_getElem hil⟩
    have HQ := Lib.hid hq
    obtain ⟨ad, c, hvP, c9, d, u0, u1, u3, f0, f1⟩ := h.pth hq
    rcases hu : q.u with _ | _
    · rw [hu] at u0
      clear h hok hq
      go_enter Tryz.func43, Tryz.ntmps43
      go_wp2_with fail
      refine (event_any o k B w ge x ⟨7, (n : Int), [], noPk⟩ (.slice none 0 0) (.slice none 0 0) H.out hB ⟨BV.nil _ _, BV.nil _ _⟩ (by omega)).mono ?_
      rintro e w2 ⟨rfl, o2, vE, m0, hx2, hs2⟩
      have X2 := Lib.hid hx2
      have T2 : Hid (Stp (EC k) o o2 w w2) := Lib.hid (hs2.mono (fun c hc => by rcases hc with rfl | rfl; exact ⟨by omega, by omega⟩; exact ⟨by omega, by omega⟩))
      clear hx2 hs2 c9 d u0 u1 u3 f0 f1
      obtain ⟨ad2, c2, hvP2, c9, d, u0, u1, u3, f0, f1⟩ := X2.out.pth (i := n) (q := q) HQ.out
      dsimp only at c9 hvP2
      have hne : ad2 = ad ∧ c2 = c := by
        rw [hvP] at hvP2
        injection hvP2 with e1 e2 e3
        injection e1 with e1
        exact ⟨e1.symm, e3.symm⟩
      obtain ⟨rfl, rfl⟩ := hne
      obtain ⟨hx3, hs3⟩ := X2.out.setU (i := n) (q := q) HQ.out true
      have X3 := Lib.hid hx3
      have T3 := Lib.hid (T2.out.trans (hs3.mono (fun c hc => by rw [hc]; exact ⟨by omega, by omega⟩)))
      have OK3 : Hid (EOk (N + 500000) { x with vE := vE, es := x.es ++ [⟨7, (n : Int), [], noPk⟩], m0 := m0, ps := x.ps.set n { q with u := true } }) := Lib.hid ((OK.out.ev (by omega) vE _ m0).path (q' := { q with u := true }) HQ.out rfl)
      clear hx3 hs3
      have AC : Hid (Act (N + 500000) x { x with vE := vE, es := x.es ++ [⟨7, (n : Int), [], noPk⟩], m0 := m0, ps := x.ps.set n { q with u := true } } [⟨7, (n : Int), [], noPk⟩]) := Lib.hid ⟨rfl, by simp [sents], OK3.out.up (by omega) hN, rfl, fun e he => by rw [List.mem_singleton.1 he]; exact ⟨Nat.zero_le _, Nat.zero_le _⟩⟩
      have hq3 : (x.ps.set n { q with u := true })[n]? = some { q with u := true } := by rw [List.getElem?_set, if_pos rfl, if_pos hil]
      obtain ⟨ad3, c3, hvP3, g9, gd, gu0, gu1, gu3, gf0, gf1⟩ := X3.out.pth (i := n) hq3
      have g7 := X3.out.blk.cell 7
      have g9' := X3.out.blk.cell 9
      simp only [List.getElem?_toArray, List.getElem?_cons_zero, List.getElem?_cons_succ] at g7 g9'
      dsimp only at g9 gd gu1 hvP3
      have hne : ad3 = ad2 ∧ c3 = c2 := by
        rw [hvP] at hvP3
        injection hvP3 with e1 e2 e3
        injection e1 with e1
        exact ⟨e1.symm, e3.symm⟩
      obtain ⟨rfl, rfl⟩ := hne
      simp only [List.length_set] at g9
      have HQ3 := Lib.hid hq3
      have KD : ∀ e ∈ ([⟨7, (n : Int), [], noPk⟩] : List Ev), e.kind ≠ 4 := by intro e he; rw [List.mem_singleton] at he; subst he; simp
      have HK := Lib.hid KD
      clear hq3 KD hvP2 hvP3 g9'
      by_cases hsd : x.side = 0
      · have hsb : (x.side == 0) = true := by rw [beq_iff_eq]; exact hsd
        clear hsd
        rcases hj : q.j with _ | _
        · rw [hj] at gu1
          have hes3 := OK3.out.es
          have hou3 := OK3.out.outs
          have hsl3 := X3.out.said_le
          dsimp only at hes3 hou3 hsl3
          clear u1
          go_wp2_with fail
          refine (ejoin_any o2 k B _ ge _ n { q with u := true } X3.out (Nat.le_trans hB T3.out.size) HQ3.out (by have := OK3.out.nd; exact this) (by dsimp only; omega) (by dsimp only; omega)).mono ?_
          rintro e w4 ⟨rfl, o4, x4, d4, n4, hx4, hs4, hg4⟩
          have FIN : Hid (CallR o k B N w ge x w4) := Lib.hid ⟨o4, _, _, hx4, T3.out.trans hs4, AC.out.join hg4 n n4, fun e he => by
            rcases List.mem_append.1 he with h | h
            · exact HK.out e h
            · obtain ⟨p, _, rfl⟩ := List.mem_map.1 h
              simp⟩
          clear hx4 hs4 hg4
          go_wp2_with fail
          go_ret
          exact ⟨_, rfl, FIN.out⟩
        · rw [hj] at gu1
          clear u1
          go_wp2_with fail
          refine (pump_any o2 k B _ _ ge _ X3.out AC.out.ok (Nat.le_trans hB T3.out.size)).mono ?_
          intro e w4 hp
          have HP := Lib.hid (CallR.pump T3.out AC.out HK.out hp)
          obtain ⟨rfl, _⟩ := hp
          go_wp2_with fail
          go_ret
          exact ⟨_, rfl, HP.out⟩
      · have hsb : (x.side == 0) = false := by rw [beq_eq_false_iff_ne]; exact hsd
        clear hsd
        go_wp2_with fail
        refine (pump_any o2 k B _ _ ge _ X3.out AC.out.ok (Nat.le_trans hB T3.out.size)).mono ?_
        intro e w4 hp
        have HP := Lib.hid (CallR.pump T3.out AC.out HK.out hp)
        obtain ⟨rfl, _⟩ := hp
        go_wp2_with fail
        go_ret
        exact ⟨_, rfl, HP.out⟩
    · rw [hu] at u0
      clear h hok hq
      go_enter Tryz.func43, Tryz.ntmps43
      go_wp2_with fail
      go_ret
      exact ⟨_, rfl, NO.out⟩
  · have c9 := h.blk.cell 9
    simp only [List.getElem?_toArray, List.getElem?_cons_zero, List.getElem?_cons_succ] at c9
    obtain ⟨A, c, hv, _⟩ := h.path
    rw [hv] at c9
    clear h hok hv
    go_enter Tryz.func43, Tryz.ntmps43
    go_wp2_with fail
    go_ret
    exact ⟨_, rfl, NO.out⟩
end Go.Proofs.YtdneakejlbabeaaGreat

namespace Go.Proofs.YtdneakejlbabeaaGreat
open Go.RowKit
set_option linter.unusedVariables false
set_option linter.unusedSimpArgs false

theorem EOk.putL {N M : Nat} {x : EndV} (h : EOk N x) (vl : Value) (lost : List (Int × Int)) (m : Int) (hl : lost.length ≤ M) (hM : N ≤ M) (hN : M ≤ 40000000) : EOk M { x with vl := vl, lost := lost, m7 := m } := by
  obtain ⟨h1, h2, h3, h4, h5, h6, h7, h8, h9, h10⟩ := h
  exact ⟨h1, h2, h3, h4, h5, hl, by dsimp only; omega, by dsimp only; omega, by dsimp only; omega, hN⟩
theorem mkAct {o : Nat → Nat} {k B N : Nat} {w : World} {ge : Nat} {x y : EndV} {d : List Ev} (hx : EndS o k B w ge y) (h1 : y.es = x.es ++ d) (h2 : y.outs = x.outs ++ sents d) (h3 : EOk N y) (h4 : y.side = x.side) (h5 : ∀ e ∈ d, e.data.length ≤ 1000000 ∧ e.pk.data.length ≤ 1000000) : Act N x y d := ⟨h1, h2, h3, h4, h5⟩
theorem EndS.dropF {o : Nat → Nat} {k B : Nat} {w : World} {ge : Nat} {x : EndV} (h : EndS o k B w ge x) {i : Nat} {q : PathV} (hi : x.ps[i]? = some q) : EndS o k B (w.setCell ⟨q.gp, 6, none⟩ (.slice none 0 0)) ge { x with ps := x.ps.set i { q with v := .slice none 0 0, l := [] } } ∧ Stp (fun c => c = k + 10 + i) o o w (w.setCell ⟨q.gp, 6, none⟩ (.slice none 0 0)) ∧ RG outc 4 (w.setCell ⟨q.gp, 6, none⟩ (.slice none 0 0)) q.v q.l ∧ (∀ j, q.v.ownBlock = some j → o j ≠ k ∧ j < (w.setCell ⟨q.gp, 6, none⟩ (.slice none 0 0)).heap.size) := by
  have c := h.c9 i q hi
  have kp := h.kp
  have s : Stp (fun c => c = k + 10 + i) o o w (w.setCell ⟨q.gp, 6, none⟩ (.slice none 0 0)) := ⟨(Frm.refl _ _).setCell (.inl (c.ow _ (.inl rfl))) _, Agr.refl _ _⟩
  refine ⟨h.put9 hi s (q' := { q with v := .slice none 0 0, l := [] }) rfl ⟨c.r.setF (v' := .slice none 0 0) (l' := []) (World.ownsRow_nil _ _ _ _) (fun j hj => by cases hj), fun j hj => ?_, Nat.zero_le _⟩, s, ?_, fun j hj => ⟨?_, ?_⟩⟩
  · rcases hj with hj | hj | hj | hj
    · exact c.ow j (.inl hj)
    · exact c.ow j (.inr (.inl hj))
    · exact c.ow j (.inr (.inr (.inl hj)))
    · cases hj
  · exact (Sl.of_own c.r.l (rowc_one outc_one q.l)).frm ((Frm.refl (· = q.gp) w).setg (i := 6) _) (fun j hj e => (c.r.own j hj).1 e)
  · have := c.ow j (.inr (.inr (.inr hj)))
    omega
  · exact Nat.lt_of_lt_of_le (c.r.l.lt j hj).2 s.size
set_option maxHeartbeats 8000000 in
set_option maxRecDepth 100000 in
theorem edown_any (o : Nat → Nat) (k B N : Nat) (w : World) (ge : Nat) (x : EndV) (i : Int) (h : EndS o k B w ge x) (hok : EOk N x) (hN : N + 500000 ≤ 40000000) (hB : B ≤ w.heap.size) :
    Calls Tryz.prog 44 #[.pointer (some ⟨ge, 0, none⟩), .int .i64 i] w fun e w' => ∃ q : Bool, e = .returned (.bool q) ∧ CallR o k B N w ge x w' := by
  have H := Lib.hid h
  have OK := Lib.hid hok
  have kp := h.kp
  have hsl := h.said_le
  have hes := hok.es
  have hou := hok.outs
  have hNN := hok.N
  have np := h.np
  have NO : Hid (CallR o k B N w ge x w) := Lib.hid ⟨o, x, [], h, Stp.refl _ _ _, Act.refl hok hN, fun e h => by cases h⟩
  rcases Int.lt_or_le i 0 with i0 | i0
  · clear h hok
    go_enter Tryz.func44, Tryz.ntmps44
    go_wp2_with fail
    go_ret
    exact ⟨_, rfl, NO.out⟩
  rcases Int.lt_or_le i (x.ps.length : Int) with i1 | i1
  · obtain ⟨n, rfl⟩ : ∃ n : Nat, i = n := ⟨i.toNat, by omega⟩
    have hil : n < x.ps.length := by omega
    obtain ⟨q, hq⟩ : ∃ q, x.ps[n]? = some q := ⟨_, List.getElem?_eq_getElem hil⟩
    have HQ := Lib.hid hq
    obtain ⟨ad, c, hvP, c9, d, u0, u1, u3, f0, f1⟩ := h.pth hq
    rcases hu : q.u with _ | _
    · rw [hu] at u0
      clear h hok hq
      go_enter Tryz.func44, Tryz.ntmps44
      go_wp2_with fail
      go_ret
      exact ⟨_, rfl, NO.out⟩
    · rw [hu] at u0
      clear h hok hq
      go_enter Tryz.func44, Tryz.ntmps44
      go_wp2_with fail
      refine (event_any o k B w ge x ⟨8, (n : Int), [], noPk⟩ (.slice none 0 0) (.slice none 0 0) H.out hB ⟨BV.nil _ _, BV.nil _ _⟩ (by omega)).mono ?_
      rintro e w2 ⟨rfl, o2, vE, m0, hx2, hs2⟩
      have X2 := Lib.hid hx2
      have T2 : Hid (Stp (EC k) o o2 w w2) := Lib.hid (hs2.mono (fun c hc => by rcases hc with rfl | rfl; exact ⟨by omega, by omega⟩; exact ⟨by omega, by omega⟩))
      clear hx2 hs2 c9 d u0 u1 u3 f0 f1
      obtain ⟨ad2, c2, hvP2, c9, d, u0, u1, u3, f0, f1⟩ := X2.out.pth (i := n) (q := q) HQ.out
      dsimp only at c9 hvP2
      have hne : ad2 = ad ∧ c2 = c := by
        rw [hvP] at hvP2
        injection hvP2 with e1 e2 e3
        injection e1 with e1
        exact ⟨e1.symm, e3.symm⟩
      obtain ⟨rfl, rfl⟩ := hne
      obtain ⟨hx3, hs3⟩ := X2.out.setU (i := n) (q := q) HQ.out false
      have X3 := Lib.hid hx3
      have T3 := Lib.hid (T2.out.trans (hs3.mono (fun c hc => by rw [hc]; exact ⟨by omega, by omega⟩)))
      have OK3 : Hid (EOk (N + 500000) { x with vE := vE, es := x.es ++ [⟨8, (n : Int), [], noPk⟩], m0 := m0, ps := x.ps.set n { q with u := false } }) := Lib.hid ((OK.out.ev (by omega) vE _ m0).path (q' := { q with u := false }) HQ.out rfl)
      clear hx3 hs3
      have AC : Hid (Act (N + 500000) x { x with vE := vE, es := x.es ++ [⟨8, (n : Int), [], noPk⟩], m0 := m0, ps := x.ps.set n { q with u := false } } [⟨8, (n : Int), [], noPk⟩]) := Lib.hid ⟨rfl, by simp [sents], OK3.out.up (by omega) hN, rfl, fun e he => by rw [List.mem_singleton.1 he]; exact ⟨Nat.zero_le _, Nat.zero_le _⟩⟩
      have hq3 : (x.ps.set n { q with u := false })[n]? = some { q with u := false } := by rw [List.getElem?_set, if_pos rfl, if_pos hil]
      obtain ⟨ad3, c3, hvP3, g9, gd, gu0, gu1, gu3, gf0, gf1⟩ := X3.out.pth (i := n) hq3
      dsimp only at g9 gd hvP3
      have hne : ad3 = ad2 ∧ c3 = c2 := by
        rw [hvP] at hvP3
        injection hvP3 with e1 e2 e3
        injection e1 with e1
        exact ⟨e1.symm, e3.symm⟩
      obtain ⟨rfl, rfl⟩ := hne
      simp only [List.length_set] at g9
      have P3 := (X3.out.c9 n _ hq3).r
      have l3 := (X3.out.c9 n _ hq3).l
      have s03 := P3.s0
      have g6 := P3.blk.cell 6
      have gf6 := P3.blk.free 6
      simp only [List.getElem?_toArray, List.getElem?_cons_zero, List.getElem?_cons_succ] at g6
      dsimp only at g6 gf6 l3 s03
      obtain ⟨hx5, hs5, hr5, hv5⟩ := X3.out.dropF (i := n) hq3
      have X5 := Lib.hid hx5
      have T5 := Lib.hid (T3.out.trans (hs5.mono (fun c hc => by rw [hc]; exact ⟨by omega, by omega⟩)))
      have R5 := Lib.hid hr5
      have V5 := Lib.hid hv5
      have OK5 := Lib.hid (OK3.out.path (i := n) (q' := { q with u := false, v := .slice none 0 0, l := [] }) hq3 rfl)
      have HQ3 := Lib.hid hq3
      have KD : ∀ e ∈ ([⟨8, (n : Int), [], noPk⟩] : List Ev), e.kind ≠ 4 := by intro e he; rw [List.mem_singleton] at he; subst he; simp
      have HK := Lib.hid KD
      have hlo := OK.out.lost
      have RG3 : Hid (RG outc 4 (w2.setCell ⟨q.gp, 0, none⟩ (.bool false)) q.v q.l) := Lib.hid (Sl.of_own P3.l (rowc_one outc_one q.l))
      clear hq3 KD hvP2 hvP3 hx5 hs5 hr5 hv5 gu0 gu1 gu3 gf0 gf1 P3
      go_wp2_with fail
      refine (drop_any _ q.gp 6 q.v q.l g6 gf6 RG3.out).mono ?_
      rintro e w4 ⟨rfl, rfl⟩
      obtain ⟨w4, hw4⟩ : ∃ W, W = (w2.setCell ⟨q.gp, 0, none⟩ (.bool false)).setCell ⟨q.gp, 6, none⟩ (.slice none 0 0) := ⟨_, rfl⟩
      (try dsimp only at X5 T5 R5 V5)
      rw [← hw4] at X5 T5 R5 V5 ⊢
      clear hw4 g9 gd g6 gf6 c9 d f0 f1 u0 u1 u3
      obtain ⟨Av, cv, hvv, _, _⟩ := R5.out.len
      have R6 : Hid (RG outc 4 w4 (.slice Av q.l.length cv) q.l) := Lib.hid (by have h1 : RG outc 4 w4 q.v q.l := R5.out; have h2 : q.v = .slice Av q.l.length cv := hvv; rw [h2] at h1; exact h1)
      have V6 : Hid (∀ j, (Value.slice Av q.l.length cv).ownBlock = some j → o2 j ≠ k ∧ j < w4.heap.size) := Lib.hid (by have h1 : ∀ j, q.v.ownBlock = some j → o2 j ≠ k ∧ j < w4.heap.size := V5.out; have h2 : q.v = .slice Av q.l.length cv := hvv; rw [h2] at h1; exact h1)
      have hvv2 : q.v = .slice Av q.l.length cv := hvv
      clear hvv
      go_wp2_with fail
      refine (given_any o2 k B w4 ge _ (.slice Av q.l.length cv) q.l X5.out (Nat.le_trans hB T5.out.size) R6.out V6.out (by dsimp only; omega)).mono ?_
      rintro e w5 ⟨rfl, o6, vl6, lost6, m6, hx6, hs6, hl6⟩
      have X6 := Lib.hid hx6
      have T6 := Lib.hid (T5.out.trans (hs6.mono (fun c hc => by rw [hc]; exact ⟨by omega, by omega⟩)))
      dsimp only at hl6
      have AC6 := Lib.hid (mkAct (x := x) (d := [⟨8, (n : Int), [], noPk⟩]) X6.out rfl (by simp [sents]) (OK5.out.putL (M := N + 500000) vl6 lost6 m6 (by omega) (by omega) hN) rfl (fun e he => by rw [List.mem_singleton.1 he]; exact ⟨Nat.zero_le _, Nat.zero_le _⟩))
      clear hx6 hs6
      go_wp2_with fail
      refine (pump_any o6 k B _ w5 ge _ X6.out AC6.out.ok (Nat.le_trans hB T6.out.size)).mono ?_
      intro e w7 hp
      have HP := Lib.hid (CallR.pump T6.out AC6.out HK.out hp)
      obtain ⟨rfl, _⟩ := hp
      go_wp2_with fail
      go_ret
      exact ⟨_, rfl, HP.out⟩
  · have c9 := h.blk.cell 9
    simp only [List.getElem?_toArray, List.getElem?_cons_zero, List.getElem?_cons_succ] at c9
    obtain ⟨A, c, hv, _⟩ := h.path
    rw [hv] at c9
    clear h hok hv
    go_enter Tryz.func44, Tryz.ntmps44
    go_wp2_with fail
    go_ret
    exact ⟨_, rfl, NO.out⟩
end Go.Proofs.YtdneakejlbabeaaGreat

namespace Go.Proofs.YtdneakejlbabeaaGreat
open Go.RowKit
set_option linter.unusedVariables false
set_option linter.unusedSimpArgs false

def MayR (x : EndV) (p : Pk) (w : World) (e : Ending) (w' : World) : Prop := ∃ q : Bool, e = .returned (.bool q) ∧ (q = true → RightP p p.data.length ∧ ∃ (i : Nat) (pv : PathV), p.path = (i : Int) ∧ x.ps[i]? = some pv) ∧ Below w.heap.size w w'
set_option maxHeartbeats 16000000 in
set_option maxRecDepth 100000 in
theorem emay_any (o : Nat → Nat) (k B : Nat) (w : World) (ge : Nat) (x : EndV) (p : Pk) (A : Option Addr) (c : Nat) (h : EndS o k B w ge x) (hn : p.data.length ≤ 1000000) :
    Calls Tryz.prog 73 #[.pointer (some ⟨ge, 0, none⟩), pagg p (.slice A p.data.length c)] w fun e w' => MayR x p w e w' := by
  have H := Lib.hid h
  have np := h.np
  have gl := h.blk.lt
  obtain ⟨w0, hw0⟩ : ∃ W, W = w.alloc (.cells #[.int .i64 p.kind, .int .i64 p.path, .int .i64 p.number, .int .i64 p.of_, .int .i64 p.from_, .slice A p.data.length c, .bool p.fin, .int .i64 p.seen, .int .i64 p.limit] 27) := ⟨_, rfl⟩
  obtain ⟨gb, hgb⟩ : ∃ h, h = w.heap.size := ⟨_, rfl⟩
  have B0 : Hid (Below w.heap.size w w0) := Lib.hid (by rw [hw0]; exact (Below.refl _ _).alloc (Nat.le_refl _) _)
  have BX : Hid (Blk w0 gb (pcells p (.slice A p.data.length c)).toArray 27) := Lib.hid (by rw [hw0, hgb]; exact Blk.new _ _ _)
  have X0 := Lib.hid (h.below B0.out)
  clear h
  by_cases hr : 0 ≤ p.path ∧ p.path < (x.ps.length : Int)
  · obtain ⟨r0, r1⟩ := hr
    obtain ⟨i, hi⟩ : ∃ i : Nat, p.path = (i : Int) := ⟨p.path.toNat, by omega⟩
    have hil : i < x.ps.length := by omega
    obtain ⟨q, hq⟩ : ∃ q, x.ps[i]? = some q := ⟨_, List.getElem?_eq_getElem hil⟩
    obtain ⟨ad, cP, hvP, _, _, _⟩ := X0.out.pth hq
    have KE : Hid (∀ W, Below w0.heap.size w0 W → (W.cell? ⟨gb, 0, none⟩ = some (.int .i64 p.kind) ∧ W.cell? ⟨gb, 1, none⟩ = some (.int .i64 (i : Int)) ∧ W.cell? ⟨gb, 2, none⟩ = some (.int .i64 p.number) ∧ W.cell? ⟨gb, 3, none⟩ = some (.int .i64 p.of_) ∧ W.cell? ⟨gb, 4, none⟩ = some (.int .i64 p.from_) ∧ W.cell? ⟨gb, 5, none⟩ = some (.slice A p.data.length c) ∧ W.cell? ⟨gb, 6, none⟩ = some (.bool p.fin) ∧ W.cell? ⟨gb, 7, none⟩ = some (.int .i64 p.seen) ∧ W.cell? ⟨gb, 8, none⟩ = some (.int .i64 p.limit) ∧ W.cell? ⟨ge, 9, none⟩ = some (.slice (some ad) x.ps.length cP) ∧ W.cell? (ad.add i) = some (.pointer (some ⟨q.gp, 0, none⟩)) ∧ W.cell? ⟨q.gp, 0, none⟩ = some (.bool q.u) ∧ W.cell? ⟨q.gp, 1, none⟩ = some (.bool q.j) ∧ W.cell? ⟨q.gp, 3, none⟩ = some (.int .i64 q.s) ∧ W.cell? ⟨ge, 13, none⟩ = some (.int .i64 x.sent) ∧ W.cell? ⟨ge, 7, none⟩ = some (.int .i64 x.side))) := Lib.hid (fun W hW => by
      obtain ⟨ad', cP', hvP', c9, d, u0, u1, u3, f0, f1⟩ := (X0.out.below hW).pth hq
      have hne : ad' = ad ∧ cP' = cP := by
        rw [hvP] at hvP'
        injection hvP' with e1 e2 e3
        injection e1 with e1
        exact ⟨e1.symm, e3.symm⟩
      obtain ⟨rfl, rfl⟩ := hne
      obtain ⟨k0, k1, k2, k3, k4, k5, k6, k7, k8⟩ := PB.of (BX.out.below hW)
      rw [hi] at k1
      have k13 := (X0.out.below hW).blk.cell 13
      have k7' := (X0.out.below hW).blk.cell 7
      simp only [List.getElem?_toArray, List.getElem?_cons_zero, List.getElem?_cons_succ] at k13 k7'
      exact ⟨k0, k1, k2, k3, k4, k5, k6, k7, k8, c9, d, u0, u1, u3, k13, k7'⟩)
    have YES : Hid (RightP p p.data.length → (RightP p p.data.length ∧ ∃ (i : Nat) (pv : PathV), p.path = (i : Int) ∧ x.ps[i]? = some pv)) := Lib.hid (fun h => ⟨h, i, q, hi, hq⟩)
    have hw0' : w.alloc (.cells #[.int .i64 p.kind, .int .i64 (i : Int), .int .i64 p.number, .int .i64 p.of_, .int .i64 p.from_, .slice A p.data.length c, .bool p.fin, .int .i64 p.seen, .int .i64 p.limit] 27) = w0 := by rw [hw0, hi]
    have PP : Hid (pagg p (.slice A p.data.length c) = .agg #[.int .i64 p.kind, .int .i64 (i : Int), .int .i64 p.number, .int .i64 p.of_, .int .i64 p.from_, .slice A p.data.length c, .bool p.fin, .int .i64 p.seen, .int .i64 p.limit]) := Lib.hid (by rw [← hi])
    have i0 : (0 : Int) ≤ (i : Int) := by omega
    have i1 : (i : Int) < (x.ps.length : Int) := by omega
    have hni : ¬ x.ps.length ≤ i := by omega
    have hd1 : decide (x.ps.length ≤ i) = false := decide_eq_false hni
    have hd2 : decide ((x.ps.length : Int) ≤ (i : Int)) = false := decide_eq_false (by omega)
    have RI : Hid (∀ W, Calls Tryz.prog 102 #[.agg #[.int .i64 p.kind, .int .i64 (i : Int), .int .i64 p.number, .int .i64 p.of_, .int .i64 p.from_, .slice A p.data.length c, .bool p.fin, .int .i64 p.seen, .int .i64 p.limit]] W fun e w' => RightR p p.data.length W e w') := Lib.hid (fun W => PP.out ▸ right_any W p A p.data.length c (by omega))
    rw [PP.out]
    have HI := Lib.hid hi
    clear hw0 r0 r1 hi hq hvP PP
    go_enter Tryz.func73, Tryz.ntmps73
    go_wp2_with fail
    rw [← hgb]
    have HGB := Lib.hid hgb
    clear hgb hw0'
    refine wp_region_held_drew (S := fun w' => w'.cell? ⟨gb, 0, none⟩ = some (.int .i64 p.kind) ∧ w'.cell? ⟨gb, 1, none⟩ = some (.int .i64 (i : Int)) ∧ w'.cell? ⟨gb, 2, none⟩ = some (.int .i64 p.number) ∧ w'.cell? ⟨gb, 3, none⟩ = some (.int .i64 p.of_) ∧ w'.cell? ⟨gb, 4, none⟩ = some (.int .i64 p.from_) ∧ w'.cell? ⟨gb, 5, none⟩ = some (.slice A p.data.length c) ∧ w'.cell? ⟨gb, 6, none⟩ = some (.bool p.fin) ∧ w'.cell? ⟨gb, 7, none⟩ = some (.int .i64 p.seen) ∧ w'.cell? ⟨gb, 8, none⟩ = some (.int .i64 p.limit) ∧ w'.cell? ⟨ge, 9, none⟩ = some (.slice (some ad) x.ps.length cP) ∧ w'.cell? (ad.add i) = some (.pointer (some ⟨q.gp, 0, none⟩)) ∧ w'.cell? ⟨q.gp, 0, none⟩ = some (.bool q.u) ∧ w'.cell? ⟨q.gp, 1, none⟩ = some (.bool q.j) ∧ w'.cell? ⟨q.gp, 3, none⟩ = some (.int .i64 q.s) ∧ w'.cell? ⟨ge, 13, none⟩ = some (.int .i64 x.sent) ∧ w'.cell? ⟨ge, 7, none⟩ = some (.int .i64 x.side)) (by kernel_rfl) (KE.out _ (Below.refl _ _).drew) (fun hHeld => ?_)
    obtain ⟨wd, hwd⟩ : ∃ W, W = w0.drew := ⟨_, rfl⟩
    have GD : Hid (Below w0.heap.size w0 wd) := Lib.hid (by rw [hwd]; exact (Below.refl _ _).drew)
    rw [← hwd] at hHeld ⊢
    clear hwd
    refine tk 0 (oi := ⟨some 6, _, _, _, _, _⟩) rfl ?_
    refine wpAnyH_ready (rs := [1]) (by kernel_rfl) (by simp) ?_; refine AllReadyH.cons (o := ⟨some 7, _, _, _, _, _⟩) rfl (fun K hK => ?_) AllReadyH.nil
    go_simp
    refine (RI.out wd).mono ?_
    rintro e w1 ⟨b, rfl, hrp, hb1⟩
    have G1 := Lib.hid (Below.on' GD.out (Nat.le_refl _) hb1)
    have RP := Lib.hid hrp
    clear hb1 hrp
    refine hK.out _ _ (KE.out _ G1.out) (fun hHeld => ?_)
    clear hK K
    (try simp only [Act.put, List.setIfInBounds_toArray, List.set_cons_zero, List.set_cons_succ])
    refine tk 2 (oi := ⟨some 8, _, _, _, _, _⟩) rfl ?_
    refine tk 3 (oi := ⟨some 9, _, _, _, _, _⟩) rfl ?_
    have BB := Lib.hid (Below.on' B0.out (Nat.le_refl _) G1.out)
    cases b
    · skip
      refine sk 4 (oi := ⟨some 10, _, _, _, _, _⟩) rfl ?_
      refine sk 5 (oi := ⟨some 11, _, _, _, _, _⟩) rfl ?_
      refine sk 6 (oi := ⟨some 12, _, _, _, _, _⟩) rfl ?_
      refine sk 7 (oi := ⟨some 13, _, _, _, _, _⟩) rfl ?_
      refine sk 8 (oi := ⟨some 14, _, _, _, _, _⟩) rfl ?_
      refine sk 9 (oi := ⟨some 15, _, _, _, _, _⟩) rfl ?_
      refine sk 10 (oi := ⟨some 16, _, _, _, _, _⟩) rfl ?_
      refine sk 11 (oi := ⟨some 17, _, _, _, _, _⟩) rfl ?_
      refine tk 12 (oi := ⟨some 18, _, _, _, _, _⟩) rfl ?_
      refine tk 13 (oi := ⟨some 19, _, _, _, _, _⟩) rfl ?_
      refine sk 14 (oi := ⟨some 20, _, _, _, _, _⟩) rfl ?_
      refine sk 15 (oi := ⟨some 21, _, _, _, _, _⟩) rfl ?_
      refine sk 16 (oi := ⟨some 22, _, _, _, _, _⟩) rfl ?_
      refine sk 17 (oi := ⟨some 23, _, _, _, _, _⟩) rfl ?_
      refine sk 18 (oi := ⟨some 24, _, _, _, _, _⟩) rfl ?_
      refine sk 19 (oi := ⟨some 25, _, _, _, _, _⟩) rfl ?_
      refine sk 20 (oi := ⟨some 26, _, _, _, _, _⟩) rfl ?_
      refine sk 21 (oi := ⟨some 27, _, _, _, _, _⟩) rfl ?_
      refine sk 22 (oi := ⟨some 28, _, _, _, _, _⟩) rfl ?_
      refine sk 23 (oi := ⟨some 29, _, _, _, _, _⟩) rfl ?_
      refine sk 24 (oi := ⟨some 30, _, _, _, _, _⟩) rfl ?_
      refine sk 25 (oi := ⟨some 31, _, _, _, _, _⟩) rfl ?_
      refine tk 26 (oi := ⟨some 32, _, _, _, _, _⟩) rfl ?_
      refine wpAnyH_done (by kernel_rfl) ?_ _
      go_wp2_with fail
      go_ret
      exact ⟨_, rfl, (fun h => by cases h), BB.out⟩
    · skip
      refine tk 4 (oi := ⟨some 10, _, _, _, _, _⟩) rfl ?_
      refine tk 5 (oi := ⟨some 11, _, _, _, _, _⟩) rfl ?_
      refine tk 6 (oi := ⟨some 12, _, _, _, _, _⟩) rfl ?_
      refine tk 7 (oi := ⟨some 13, _, _, _, _, _⟩) rfl ?_
      refine tk 8 (oi := ⟨some 14, _, _, _, _, _⟩) rfl ?_
      refine tk 9 (oi := ⟨some 15, _, _, _, _, _⟩) rfl ?_
      refine tk 10 (oi := ⟨some 16, _, _, _, _, _⟩) rfl ?_
      refine tk 11 (oi := ⟨some 17, _, _, _, _, _⟩) rfl ?_
      refine tk 12 (oi := ⟨some 18, _, _, _, _, _⟩) rfl ?_
      refine tk 13 (oi := ⟨some 19, _, _, _, _, _⟩) rfl ?_
      refine tk 14 (oi := ⟨some 20, _, _, _, _, _⟩) rfl ?_
      refine tk 15 (oi := ⟨some 21, _, _, _, _, _⟩) rfl ?_
      refine tk 16 (oi := ⟨some 22, _, _, _, _, _⟩) rfl ?_
      refine tk 17 (oi := ⟨some 23, _, _, _, _, _⟩) rfl ?_
      refine tk 18 (oi := ⟨some 24, _, _, _, _, _⟩) rfl ?_
      refine tk 19 (oi := ⟨some 25, _, _, _, _, _⟩) rfl ?_
      refine tk 20 (oi := ⟨some 26, _, _, _, _, _⟩) rfl ?_
      refine tk 21 (oi := ⟨some 27, _, _, _, _, _⟩) rfl ?_
      refine tk 22 (oi := ⟨some 28, _, _, _, _, _⟩) rfl ?_
      refine tk 23 (oi := ⟨some 29, _, _, _, _, _⟩) rfl ?_
      refine tk 24 (oi := ⟨some 30, _, _, _, _, _⟩) rfl ?_
      refine tk 25 (oi := ⟨some 31, _, _, _, _, _⟩) rfl ?_
      refine tk 26 (oi := ⟨some 32, _, _, _, _, _⟩) rfl ?_
      refine wpAnyH_done (by kernel_rfl) ?_ _
      have RR := Lib.hid (YES.out (RP.out rfl))
      obtain ⟨k0, k1, k2, k3, k4, k5, k6, k7, k8, c9, d, u0, u1, u3, k13, k7'⟩ := KE.out _ G1.out
      clear hHeld
      rcases hu : q.u with _ | _
      · rw [hu] at u0
        go_wp2_with fail
        go_ret
        exact ⟨_, rfl, (fun _ => RR.out), BB.out⟩
      · rw [hu] at u0
        obtain ⟨bs1, hbs1⟩ : ∃ b, (x.side == 1) = b := ⟨_, rfl⟩
        obtain ⟨bs0, hbs0⟩ : ∃ b, (x.side == 0) = b := ⟨_, rfl⟩
        obtain ⟨bo, hbo⟩ : ∃ b, decide (p.of_ < q.s) = b := ⟨_, rfl⟩
        obtain ⟨be, hbe⟩ : ∃ b, decide (p.seen ≤ x.sent) = b := ⟨_, rfl⟩
        rcases (by have := RR.out.1.kind; omega : p.kind = 1 ∨ p.kind = 2 ∨ p.kind = 3 ∨ p.kind = 4) with hk | hk | hk | hk
        · rw [hk] at k0
          clear hk
          go_wp2_with fail
          go_quiet (fail)
          go_wp2_with fail
          go_ret
          exact ⟨_, rfl, (fun _ => RR.out), by first | exact BB.out | exact below_drewN BB.out _ | exact below_drewN (below_drewN BB.out _) _⟩
        · rw [hk] at k0
          clear hk
          cases bs0 <;> cases bo
          all_goals
            go_wp2_with fail
            go_quiet (fail)
            go_wp2_with fail
            go_quiet (fail)
            go_wp2_with fail
            go_ret
            exact ⟨_, rfl, (fun _ => RR.out), by first | exact BB.out | exact below_drewN BB.out _ | exact below_drewN (below_drewN BB.out _) _⟩
        · rw [hk] at k0
          clear hk
          go_wp2_with fail
          go_quiet (fail)
          go_wp2_with fail
          go_ret
          exact ⟨_, rfl, (fun _ => RR.out), by first | exact BB.out | exact below_drewN BB.out _ | exact below_drewN (below_drewN BB.out _) _⟩
        · rw [hk] at k0
          clear hk
          cases bo <;> cases be
          all_goals
            go_wp2_with fail
            go_quiet (fail)
            go_wp2_with fail
            go_quiet (fail)
            go_wp2_with fail
            go_ret
            exact ⟨_, rfl, (fun _ => RR.out), by first | exact BB.out | exact below_drewN BB.out _ | exact below_drewN (below_drewN BB.out _) _⟩
  · obtain ⟨AP, cP, hvP, _, _⟩ := X0.out.path
    have KE : Hid (∀ W, Below w0.heap.size w0 W → (W.cell? ⟨gb, 0, none⟩ = some (.int .i64 p.kind) ∧ W.cell? ⟨gb, 1, none⟩ = some (.int .i64 p.path) ∧ W.cell? ⟨gb, 2, none⟩ = some (.int .i64 p.number) ∧ W.cell? ⟨gb, 3, none⟩ = some (.int .i64 p.of_) ∧ W.cell? ⟨gb, 4, none⟩ = some (.int .i64 p.from_) ∧ W.cell? ⟨gb, 5, none⟩ = some (.slice A p.data.length c) ∧ W.cell? ⟨gb, 6, none⟩ = some (.bool p.fin) ∧ W.cell? ⟨gb, 7, none⟩ = some (.int .i64 p.seen) ∧ W.cell? ⟨gb, 8, none⟩ = some (.int .i64 p.limit) ∧ W.cell? ⟨ge, 9, none⟩ = some (.slice AP x.ps.length cP))) := Lib.hid (fun W hW => by
      obtain ⟨k0, k1, k2, k3, k4, k5, k6, k7, k8⟩ := PB.of (BX.out.below hW)
      have c9 := (X0.out.below hW).blk.cell 9
      simp only [List.getElem?_toArray, List.getElem?_cons_zero, List.getElem?_cons_succ] at c9
      rw [hvP] at c9
      exact ⟨k0, k1, k2, k3, k4, k5, k6, k7, k8, c9⟩)
    have hw0' := hw0.symm
    have RI : Hid (∀ W, Calls Tryz.prog 102 #[pagg p (.slice A p.data.length c)] W fun e w' => RightR p p.data.length W e w') := Lib.hid (fun W => right_any W p A p.data.length c (by omega))
    clear hw0 hvP
    go_enter Tryz.func73, Tryz.ntmps73
    go_wp2_with fail
    rw [← hgb]
    have HGB := Lib.hid hgb
    clear hgb hw0'
    refine wp_region_held_drew (S := fun w' => w'.cell? ⟨gb, 0, none⟩ = some (.int .i64 p.kind) ∧ w'.cell? ⟨gb, 1, none⟩ = some (.int .i64 p.path) ∧ w'.cell? ⟨gb, 2, none⟩ = some (.int .i64 p.number) ∧ w'.cell? ⟨gb, 3, none⟩ = some (.int .i64 p.of_) ∧ w'.cell? ⟨gb, 4, none⟩ = some (.int .i64 p.from_) ∧ w'.cell? ⟨gb, 5, none⟩ = some (.slice A p.data.length c) ∧ w'.cell? ⟨gb, 6, none⟩ = some (.bool p.fin) ∧ w'.cell? ⟨gb, 7, none⟩ = some (.int .i64 p.seen) ∧ w'.cell? ⟨gb, 8, none⟩ = some (.int .i64 p.limit) ∧ w'.cell? ⟨ge, 9, none⟩ = some (.slice AP x.ps.length cP)) (by kernel_rfl) (KE.out _ (Below.refl _ _).drew) (fun hHeld => ?_)
    obtain ⟨wd, hwd⟩ : ∃ W, W = w0.drew := ⟨_, rfl⟩
    have GD : Hid (Below w0.heap.size w0 wd) := Lib.hid (by rw [hwd]; exact (Below.refl _ _).drew)
    rw [← hwd] at hHeld ⊢
    clear hwd
    refine tk 0 (oi := ⟨some 6, _, _, _, _, _⟩) rfl ?_
    refine wpAnyH_ready (rs := [1]) (by kernel_rfl) (by simp) ?_; refine AllReadyH.cons (o := ⟨some 7, _, _, _, _, _⟩) rfl (fun K hK => ?_) AllReadyH.nil
    go_simp
    refine (RI.out wd).mono ?_
    rintro e w1 ⟨b, rfl, hrp, hb1⟩
    have G1 := Lib.hid (Below.on' GD.out (Nat.le_refl _) hb1)
    have RP := Lib.hid hrp
    clear hb1 hrp
    refine hK.out _ _ (KE.out _ G1.out) (fun hHeld => ?_)
    clear hK K
    (try simp only [Act.put, List.setIfInBounds_toArray, List.set_cons_zero, List.set_cons_succ])
    refine tk 2 (oi := ⟨some 8, _, _, _, _, _⟩) rfl ?_
    refine tk 3 (oi := ⟨some 9, _, _, _, _, _⟩) rfl ?_
    have BB := Lib.hid (Below.on' B0.out (Nat.le_refl _) G1.out)
    cases b
    · skip
      refine sk 4 (oi := ⟨some 10, _, _, _, _, _⟩) rfl ?_
      refine sk 5 (oi := ⟨some 11, _, _, _, _, _⟩) rfl ?_
      refine sk 6 (oi := ⟨some 12, _, _, _, _, _⟩) rfl ?_
      refine sk 7 (oi := ⟨some 13, _, _, _, _, _⟩) rfl ?_
      refine sk 8 (oi := ⟨some 14, _, _, _, _, _⟩) rfl ?_
      refine sk 9 (oi := ⟨some 15, _, _, _, _, _⟩) rfl ?_
      refine sk 10 (oi := ⟨some 16, _, _, _, _, _⟩) rfl ?_
      refine sk 11 (oi := ⟨some 17, _, _, _, _, _⟩) rfl ?_
      refine tk 12 (oi := ⟨some 18, _, _, _, _, _⟩) rfl ?_
      refine tk 13 (oi := ⟨some 19, _, _, _, _, _⟩) rfl ?_
      refine sk 14 (oi := ⟨some 20, _, _, _, _, _⟩) rfl ?_
      refine sk 15 (oi := ⟨some 21, _, _, _, _, _⟩) rfl ?_
      refine sk 16 (oi := ⟨some 22, _, _, _, _, _⟩) rfl ?_
      refine sk 17 (oi := ⟨some 23, _, _, _, _, _⟩) rfl ?_
      refine sk 18 (oi := ⟨some 24, _, _, _, _, _⟩) rfl ?_
      refine sk 19 (oi := ⟨some 25, _, _, _, _, _⟩) rfl ?_
      refine sk 20 (oi := ⟨some 26, _, _, _, _, _⟩) rfl ?_
      refine sk 21 (oi := ⟨some 27, _, _, _, _, _⟩) rfl ?_
      refine sk 22 (oi := ⟨some 28, _, _, _, _, _⟩) rfl ?_
      refine sk 23 (oi := ⟨some 29, _, _, _, _, _⟩) rfl ?_
      refine sk 24 (oi := ⟨some 30, _, _, _, _, _⟩) rfl ?_
      refine sk 25 (oi := ⟨some 31, _, _, _, _, _⟩) rfl ?_
      refine tk 26 (oi := ⟨some 32, _, _, _, _, _⟩) rfl ?_
      refine wpAnyH_done (by kernel_rfl) ?_ _
      go_wp2_with fail
      go_ret
      exact ⟨_, rfl, (fun h => by cases h), BB.out⟩
    · have hpl := (RP.out rfl).path
      have hge : (x.ps.length : Int) ≤ p.path := by omega
      have hd2 : decide ((x.ps.length : Int) ≤ p.path) = true := decide_eq_true hge
      refine tk 4 (oi := ⟨some 10, _, _, _, _, _⟩) rfl ?_
      refine tk 5 (oi := ⟨some 11, _, _, _, _, _⟩) rfl ?_
      refine tk 6 (oi := ⟨some 12, _, _, _, _, _⟩) rfl ?_
      refine tk 7 (oi := ⟨some 13, _, _, _, _, _⟩) rfl ?_
      refine tk 8 (oi := ⟨some 14, _, _, _, _, _⟩) rfl ?_
      refine tk 9 (oi := ⟨some 15, _, _, _, _, _⟩) rfl ?_
      refine tk 10 (oi := ⟨some 16, _, _, _, _, _⟩) rfl ?_
      refine tk 11 (oi := ⟨some 17, _, _, _, _, _⟩) rfl ?_
      refine tk 12 (oi := ⟨some 18, _, _, _, _, _⟩) rfl ?_
      refine tk 13 (oi := ⟨some 19, _, _, _, _, _⟩) rfl ?_
      refine sk 14 (oi := ⟨some 20, _, _, _, _, _⟩) rfl ?_
      refine sk 15 (oi := ⟨some 21, _, _, _, _, _⟩) rfl ?_
      refine sk 16 (oi := ⟨some 22, _, _, _, _, _⟩) rfl ?_
      refine sk 17 (oi := ⟨some 23, _, _, _, _, _⟩) rfl ?_
      refine sk 18 (oi := ⟨some 24, _, _, _, _, _⟩) rfl ?_
      refine sk 19 (oi := ⟨some 25, _, _, _, _, _⟩) rfl ?_
      refine sk 20 (oi := ⟨some 26, _, _, _, _, _⟩) rfl ?_
      refine sk 21 (oi := ⟨some 27, _, _, _, _, _⟩) rfl ?_
      refine sk 22 (oi := ⟨some 28, _, _, _, _, _⟩) rfl ?_
      refine sk 23 (oi := ⟨some 29, _, _, _, _, _⟩) rfl ?_
      refine sk 24 (oi := ⟨some 30, _, _, _, _, _⟩) rfl ?_
      refine sk 25 (oi := ⟨some 31, _, _, _, _, _⟩) rfl ?_
      refine tk 26 (oi := ⟨some 32, _, _, _, _, _⟩) rfl ?_
      refine wpAnyH_done (by kernel_rfl) ?_ _
      go_wp2_with fail
      go_ret
      exact ⟨_, rfl, (fun h => by cases h), BB.out⟩
end Go.Proofs.YtdneakejlbabeaaGreat
