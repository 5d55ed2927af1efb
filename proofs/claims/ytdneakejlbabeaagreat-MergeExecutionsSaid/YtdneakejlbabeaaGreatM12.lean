/- Parts of the walk: Jc, Kc, Kd. -/
import Derived.Test.YtdneakejlbabeaaGreatM11
import Derived.Test.YtdneakejlbabeaaGreatM04
import Derived.Deep.RegionLaw
namespace Go.Proofs.YtdneakejlbabeaaGreat
open Go.RowKit
set_option linter.unusedVariables false
set_option linter.unusedSimpArgs false

theorem sum_set : ∀ (l : List Nat) (i n m : Nat), l[i]? = some n → (l.set i m).sum + n = l.sum + m
  | [], i, n, m, h => by simp at h
  | x :: l, 0, n, m, h => by simp at h; subst h; simp; omega
  | x :: l, i + 1, n, m, h => by
    have := sum_set l i n m (by simpa using h)
    simp only [List.set_cons_succ, List.sum_cons]
    omega
theorem said_set {ps : List PathV} {i : Nat} {q q' : PathV} (h : ps[i]? = some q) : said (ps.set i q') + q.s.toNat = said ps + q'.s.toNat := by
  unfold said
  rw [List.map_set]
  exact sum_set _ i _ _ (by rw [List.getElem?_map, h]; rfl)
theorem ptrs_set {ps : List PathV} {i : Nat} {q q' : PathV} (h : ps[i]? = some q) (hg : q'.gp = q.gp) : ((ps.set i q').map fun p => (.pointer (some ⟨p.gp, 0, none⟩) : Value)) = ps.map fun p => .pointer (some ⟨p.gp, 0, none⟩) := by
  rw [List.map_set, hg]
  refine List.ext_getElem? fun j => ?_
  rw [List.getElem?_set]
  split
  · rename_i e
    subst e
    split
    · rw [List.getElem?_map, h]; rfl
    · rename_i hn
      rw [List.length_map] at hn
      exact absurd (List.getElem?_eq_some_iff.1 h).1 hn
  · rfl
section
variable {o o' : Nat → Nat} {k B : Nat} {w w' : World} {ge : Nat} {x : EndV}
theorem EndS.put9 (h : EndS o k B w ge x) {i : Nat} {q q' : PathV} (hi : x.ps[i]? = some q) (s : Stp (fun c => c = k + 10 + i) o o' w w') (hg : q'.gp = q.gp) (h9 : C9 o' k B w' i q') : EndS o' k B w' ge { x with ps := x.ps.set i q' } :=
  have kp := h.kp
  have c1' : C1 o' k w' x.vP x.ps := h.c1.frm s (by omega)
  ⟨h.blk.frm s.f (fun e => by have := h.og; omega), (s.ag _ h.blk.lt).trans h.og, h.ge, h.kp, ⟨by show Sl _ _ _ (x.ps.set i q').length _; rw [List.length_set, ptrs_set hi hg]; exact c1'.r, c1'.ow⟩, h.c2.frm s (by omega), h.c3.frm s (by omega), h.c4.frm s (by omega), h.c5.frm s (by omega), h.c6.frm s (by omega), h.c7.frm s (by omega) (by omega), h.c8.frm s (by omega) (by omega), fun j p hj => by
    simp only [List.getElem?_set] at hj
    split at hj
    · rename_i e
      subst e
      split at hj
      · injection hj with hj; subst hj; exact h9
      · cases hj
    · exact (h.c9 j p hj).frm s (by omega), by show (x.ps.set i q').length ≤ 3; rw [List.length_set]; exact h.np⟩
/-- Its own numbers turned. -/
theorem EndS.putI (h : EndS o k B w ge x) (s : Stp (fun c => c = k) o o' w w') (now limit sent m0 m1 m2 m3 m4 m5 m6 m7 : Int) (hb : Blk w' ge (ecs { x with now := now, limit := limit, sent := sent, m0 := m0, m1 := m1, m2 := m2, m3 := m3, m4 := m4, m5 := m5, m6 := m6, m7 := m7 }) 78) :
    EndS o' k B w' ge { x with now := now, limit := limit, sent := sent, m0 := m0, m1 := m1, m2 := m2, m3 := m3, m4 := m4, m5 := m5, m6 := m6, m7 := m7 } :=
  have kp := h.kp
  ⟨hb, (s.ag _ h.blk.lt).trans h.og, h.ge, h.kp, h.c1.frm s (by omega), h.c2.frm s (by omega), h.c3.frm s (by omega), h.c4.frm s (by omega), h.c5.frm s (by omega), h.c6.frm s (by omega), h.c7.frm s (by omega) (by omega), h.c8.frm s (by omega) (by omega), fun i p hi => (h.c9 i p hi).frm s (by omega), h.np⟩
theorem EndS.drew (h : EndS o k B w ge x) : EndS o k B w.drew ge x := h.below (Below.refl _ _).drew
theorem Stp.drew {C : Nat → Prop} (h : Stp C o o' w w') : Stp C o o' w w'.drew := ⟨h.f.drew, h.ag⟩
end
/-- A packet's cells in a block. -/
def PB (w : World) (g : Nat) (p : Pk) (v : Value) : Prop := w.cell? ⟨g, 0, none⟩ = some (.int .i64 p.kind) ∧ w.cell? ⟨g, 1, none⟩ = some (.int .i64 p.path) ∧ w.cell? ⟨g, 2, none⟩ = some (.int .i64 p.number) ∧ w.cell? ⟨g, 3, none⟩ = some (.int .i64 p.of_) ∧ w.cell? ⟨g, 4, none⟩ = some (.int .i64 p.from_) ∧ w.cell? ⟨g, 5, none⟩ = some v ∧ w.cell? ⟨g, 6, none⟩ = some (.bool p.fin) ∧
  w.cell? ⟨g, 7, none⟩ = some (.int .i64 p.seen) ∧ w.cell? ⟨g, 8, none⟩ = some (.int .i64 p.limit)
theorem PB.of {w : World} {g : Nat} {p : Pk} {v : Value} (h : Blk w g (pcells p v).toArray 27) : PB w g p v := ⟨h.cell 0, h.cell 1, h.cell 2, h.cell 3, h.cell 4, h.cell 5, h.cell 6, h.cell 7, h.cell 8⟩
/-- An end's owners. -/
def EC (k : Nat) : Nat → Prop := fun c => k ≤ c ∧ c < k + 100
/-- What is new is scratch. -/
def scr (o : Nat → Nat) (n c : Nat) : Nat → Nat := fun j => if j < n then o j else c
theorem scr_agr (o : Nat → Nat) (n c : Nat) : Agr n o (scr o n c) := fun j hj => by unfold scr; rw [if_pos hj]
theorem scr_new {o : Nat → Nat} {n c j : Nat} (h : n ≤ j) : scr o n c j = c := by unfold scr; rw [if_neg (by omega)]
def sentE (p : Pk) (n : Int) : Ev := ⟨5, 0, [], { p with number := n }⟩
def SayR (o : Nat → Nat) (k B : Nat) (w : World) (ge : Nat) (x : EndV) (p : Pk) (i : Nat) (q : PathV) (e : Ending) (w' : World) : Prop :=
  (65535 < q.s ∧ e = .returned (.tuple #[.int .i64 0, .bool false]) ∧ Below w.heap.size w w') ∨
  (q.s ≤ 65535 ∧ e = .returned (.tuple #[.int .i64 q.s, .bool true]) ∧ ∃ (o' : Nat → Nat) (vE vO : Value) (m0 m1 m2 : Int), EndS o' k B w' ge { x with ps := x.ps.set i { q with s := q.s + 1 }, vE := vE, es := x.es ++ [sentE p q.s], vO := vO, outs := x.outs ++ [{ p with number := q.s }], m0 := m0, m1 := m1, m2 := m2 } ∧
    Stp (EC k) o o' w w')
set_option maxHeartbeats 16000000 in
set_option maxRecDepth 100000 in
theorem say_any (o : Nat → Nat) (k B : Nat) (w : World) (ge : Nat) (x : EndV) (p : Pk) (v : Value) (i : Nat) (q : PathV) (h : EndS o k B w ge x) (hB : B ≤ w.heap.size) (hv : BV w (frozen o) v p.data) (hi : x.ps[i]? = some q) (hp : p.path = (i : Int)) (hl : x.es.length ≤ 100000000) (hl2 : x.outs.length ≤ 100000000) :
    Calls Tryz.prog 65 #[.pointer (some ⟨ge, 0, none⟩), pagg p v] w fun e w' => SayR o k B w ge x p i q e w' := by
  have H := Lib.hid h
  have HV := Lib.hid hv
  have HI := Lib.hid Tryz.info27
  have HQ := Lib.hid hi
  have gl := h.blk.lt
  obtain ⟨Ad, cd, rfl, _, _⟩ := hv.len
  have hil := (List.getElem?_eq_some_iff.1 hi).1
  have np := h.np
  obtain ⟨w0, hw0⟩ : ∃ W, W = w.alloc (.cells (pcells p (.slice Ad p.data.length cd)).toArray 27) := ⟨_, rfl⟩
  obtain ⟨gb, hgb⟩ : ∃ h, h = w.heap.size := ⟨_, rfl⟩
  have B0 : Hid (Below w.heap.size w w0) := Lib.hid (by rw [hw0]; exact (Below.refl _ _).alloc (Nat.le_refl _) _)
  have BX : Hid (Blk w0 gb (pcells p (.slice Ad p.data.length cd)).toArray 27) := Lib.hid (by rw [hw0, hgb]; exact Blk.new _ _ _)
  have hw0' : w.alloc (.cells #[.int .i64 p.kind, .int .i64 p.path, .int .i64 p.number, .int .i64 p.of_, .int .i64 p.from_, .slice Ad p.data.length cd, .bool p.fin, .int .i64 p.seen, .int .i64 p.limit] 27) = w0 := hw0.symm
  have hS0 : Stp (EC k) o (scr o w.heap.size (k + 99)) w w0 := ⟨Frm.of_below B0.out, scr_agr _ _ _⟩
  have S0 := Lib.hid hS0
  obtain ⟨o0, ho0⟩ : ∃ f, f = scr o w.heap.size (k + 99) := ⟨_, rfl⟩
  have ogb : o0 gb = k + 99 := by rw [ho0, hgb]; exact scr_new (Nat.le_refl _)
  rw [← ho0] at S0
  have X0 : Hid (EndS o0 k B w0 ge x) := Lib.hid (h.frm (C := fun _ => False) ⟨Frm.of_below B0.out, S0.out.ag⟩ (fun h => h) (fun _ h => h.elim))
  have V0 : Hid (BV w0 (frozen o0) (.slice Ad p.data.length cd) p.data) := Lib.hid ((hv.mono (S' := frozen o0) (fun j hj hl => frozen_ag S0.out.ag j hj hl)).below B0.out)
  clear hS0 ho0
  have C9q := Lib.hid (X0.out.c9 i q hi)
  obtain ⟨AP, cP, hvP, hcP, _⟩ := h.c1.r.len
  obtain ⟨Aq, cq, hvq⟩ := own_slice' C9q.out.r.l
  obtain ⟨adP, hAP, dP⟩ := Sl.at_ (hvP ▸ X0.out.c1.r) hil
  have dP : w0.cell? (adP.add i) = some (.pointer (some ⟨q.gp, 0, none⟩)) := by rw [dP, List.getD_eq_getElem?_getD, List.getElem?_map, hi]; rfl
  have c9 := X0.out.blk.cell 9
  simp only [List.getElem?_toArray, List.getElem?_cons_zero, List.getElem?_cons_succ] at c9
  rw [hvP, hAP] at c9
  have i0 : (0 : Int) ≤ (i : Int) := by omega
  have i1 : (i : Int) < (x.ps.length : Int) := by omega
  -- where things lie
  have ogk := X0.out.og
  have okq : o0 q.gp = k + 10 + i := C9q.out.ow _ (.inl rfl)
  have bP : ∀ j, (adP.add i).block = j → o0 j = k + 1 ∧ j < w0.heap.size := fun j hj => X0.out.c1.ow j (by rw [hvP, hAP]; show some adP.block = some j; rw [← hj]; unfold Addr.add; split <;> rfl)
  have KE : Hid (∀ W, Frm (· = q.gp) w0 W → W.cell? ⟨ge, 9, none⟩ = some (.slice (some adP) x.ps.length cP) ∧ W.cell? (adP.add i) = some (.pointer (some ⟨q.gp, 0, none⟩)) ∧ W.cell? ⟨gb, 1, none⟩ = some (.int .i64 (i : Int))) := Lib.hid (fun W hW => by
    have g1 : ge ≠ q.gp := fun e => by rw [e] at ogk; omega
    have g2 : (adP.add i).block ≠ q.gp := fun e => by have := (bP _ e).1; omega
    have g3 : gb ≠ q.gp := fun e => by
      have h5 := (h.c9 i q hi).r.blk.lt
      omega
    refine ⟨?_, ?_, ?_⟩
    · rw [← c9]; exact World.cell?_of_block (hW.block ge X0.out.blk.lt g1)
    · rw [← dP]; exact World.cell?_of_block (hW.block _ (World.block_lt_of_cell? w0 _ dP) g2)
    · rw [← hp]; exact ((BX.out.frm hW g3).cell 1))
  have HP := Lib.hid hvq
  have HPP := Lib.hid hp
  clear hp
  have HGB := Lib.hid hgb
  clear h hv hw0 hi c9 dP hvP hAP hvq
  go_enter Tryz.func65, Tryz.ntmps65
  go_wp2_with fail
  rw [← hgb]
  clear hgb hw0'
  refine wp_region_held_drew (S := fun w' => w'.cell? ⟨ge, 9, none⟩ = some (.slice (some adP) x.ps.length cP) ∧ w'.cell? (adP.add i) = some (.pointer (some ⟨q.gp, 0, none⟩)) ∧ w'.cell? ⟨gb, 1, none⟩ = some (.int .i64 (i : Int))) (by kernel_rfl) (KE.out _ (Frm.refl _ _).drew) (fun hHeld => ?_)
  obtain ⟨wd, hwd⟩ : ∃ W, W = w0.drew := ⟨_, rfl⟩
  have XD : Hid (EndS o0 k B wd ge x) := Lib.hid (by rw [hwd]; exact X0.out.drew)
  have FD : Hid (Frm (· = q.gp) w0 wd) := Lib.hid (by rw [hwd]; exact (Frm.refl _ _).drew)
  have BD : Hid (Below w.heap.size w wd) := Lib.hid (by rw [hwd]; exact B0.out.drew)
  rw [← hwd] at hHeld ⊢
  clear hwd
  refine tk 0 (oi := ⟨some 9, _, _, _, _, _⟩) rfl ?_
  refine tk 1 (oi := ⟨some 10, _, _, _, _, _⟩) rfl ?_
  refine tk 2 (oi := ⟨some 11, _, _, _, _, _⟩) rfl ?_
  refine tk 3 (oi := ⟨some 12, _, _, _, _, _⟩) rfl ?_
  refine tk 4 (oi := ⟨some 13, _, _, _, _, _⟩) rfl ?_
  refine tk 5 (oi := ⟨some 14, _, _, _, _, _⟩) rfl ?_
  refine tk 6 (oi := ⟨some 15, _, _, _, _, _⟩) rfl ?_
  refine tk 7 (oi := ⟨some 16, _, _, _, _, _⟩) rfl ?_
  refine wpAnyH_ready (rs := [8]) (by kernel_rfl) (by simp) ?_; refine AllReadyH.cons (o := ⟨some 17, _, _, _, _, _⟩) rfl (fun K hK => ?_) AllReadyH.nil
  go_simp
  have CD := Lib.hid (XD.out.c9 i q HQ.out)
  refine (number_any wd q.gp q.u q.j q.b q.s q.gG q.gW Aq q.l.length cq (by have := CD.out.r.blk; rw [HP.out] at this; exact this) CD.out.r.s0).mono ?_
  intro e w2 hn
  obtain ⟨n1, b1, rfl, hcase⟩ : ∃ (n : Int) (b : Bool), e = .returned (.tuple #[.int .i64 n, .bool b]) ∧ ((b = false ∧ n = 0 ∧ 65535 < q.s ∧ w2 = wd) ∨ (b = true ∧ n = q.s ∧ q.s ≤ 65535 ∧ w2 = wd.setCell ⟨q.gp, 3, none⟩ (.int .i64 (q.s + 1)))) := by
    rcases hn with ⟨h1, rfl, h3⟩ | ⟨h1, rfl, h3⟩
    · exact ⟨_, _, rfl, .inl ⟨rfl, rfl, h1, h3⟩⟩
    · exact ⟨_, _, rfl, .inr ⟨rfl, rfl, h1, h3⟩⟩
  have F2 : Hid (Frm (· = q.gp) wd w2) := Lib.hid (by
    rcases hcase with ⟨_, _, _, rfl⟩ | ⟨_, _, _, rfl⟩
    · exact Frm.refl _ _
    · exact (Frm.refl _ _).setg _)
  have HC := Lib.hid hcase
  clear hn hcase
  refine hK.out _ _ (KE.out _ (FD.out.trans F2.out)) (fun hHeld => ?_)
  clear hK K
  (try simp only [Act.put, List.setIfInBounds_toArray, List.set_cons_zero, List.set_cons_succ])
  refine tk 9 (oi := ⟨some 8, _, _, _, _, _⟩) rfl ?_
  refine tk 10 (oi := ⟨some 18, _, _, _, _, _⟩) rfl ?_
  refine tk 11 (oi := ⟨some 19, _, _, _, _, _⟩) rfl ?_
  refine tk 12 (oi := ⟨some 6, _, _, _, _, _⟩) rfl ?_
  refine tk 13 (oi := ⟨some 7, _, _, _, _, _⟩) rfl ?_
  refine wpAnyH_done (by kernel_rfl) ?_ _
  clear hHeld
  rcases HC.out with ⟨rfl, rfl, hs, rfl⟩ | ⟨rfl, rfl, hs, hw2⟩
  · go_wp2_with fail
    refine bodyPost_ret (results_two rfl _ _ _) rfl ?_
    exact .inl ⟨hs, rfl, BD.out⟩
  · have kp := XD.out.kp
    have hgq : gb ≠ q.gp := fun e => by rw [e] at ogb; omega
    have hgg : gb ≠ ge := fun e => by rw [e] at ogb; omega
    have S2 : Stp (fun c => c = k + 10 + i) o0 o0 wd w2 := ⟨F2.out.mono (fun j hj => hj ▸ okq), Agr.refl _ _⟩
    have X2 : Hid (EndS o0 k B w2 ge { x with ps := x.ps.set i { q with s := q.s + 1 } }) := Lib.hid (XD.out.put9 HQ.out S2 rfl (by
      have hp9 : PathAt B w2 q.gp q.gG q.gW q.u q.j q.b (q.s + 1) q.v q.l := by rw [hw2]; exact CD.out.r.setS ⟨by have := CD.out.r.s0; omega, by omega⟩
      exact ⟨hp9, fun j hj => CD.out.ow j hj, by have h1 := CD.out.l; have h2 := CD.out.r.s0; show q.l.length ≤ (q.s + 1).toNat; omega⟩))
    have T2 : Hid (Stp (EC k) o o0 w w2) := Lib.hid (S0.out.trans ⟨((Frm.of_below (S := fun _ => False) (show Below w0.heap.size w0 w0 from Below.refl _ _)).mono (fun j h => h.elim)).trans ((FD.out.trans F2.out).mono (fun j hj => by rw [hj]; show EC k (o0 q.gp); rw [okq]; exact ⟨by omega, by omega⟩)), Agr.refl _ _⟩)
    have BX2 := Lib.hid ((BX.out.frm FD.out hgq).frm F2.out hgq)
    have V2 : Hid (BV w2 (frozen o0) (.slice Ad p.data.length cd) p.data) := Lib.hid (V0.out.frm (FD.out.trans F2.out) (fun j hj e => by have h1 : o0 j = 0 := hj; rw [e] at h1; omega))
    clear FD F2 hw2 S2
    have y2 := BX2.out.free 2
    obtain ⟨k0, k1, k2, k3, k4, k5, k6, k7, k8⟩ := PB.of BX2.out
    go_wp2_with fail
    obtain ⟨w3, hw3⟩ : ∃ W, W = w2.setCell ⟨gb, 2, none⟩ (.int .i64 q.s) := ⟨_, rfl⟩
    rw [← hw3]
    have F3 : Frm (· = gb) w2 w3 := by rw [hw3]; exact (Frm.refl _ _).setg _
    have S3 : Stp (fun c => c = k + 99) o0 o0 w2 w3 := ⟨F3.mono (fun j hj => hj ▸ ogb), Agr.refl _ _⟩
    have X3 : Hid (EndS o0 k B w3 ge { x with ps := x.ps.set i { q with s := q.s + 1 } }) := Lib.hid (X2.out.frm S3 (by omega) (fun c hc => by omega))
    have T3 : Hid (Stp (EC k) o o0 w w3) := Lib.hid (T2.out.trans (S3.mono (fun c hc => by rw [hc]; exact ⟨by omega, by omega⟩)))
    have BX3 : Hid (Blk w3 gb (pcells { p with number := q.s } (.slice Ad p.data.length cd)).toArray 27) := Lib.hid (by rw [hw3]; have := BX2.out.set 2 (.int .i64 q.s); simpa [pcells] using this)
    have V3 : Hid (BV w3 (frozen o0) (.slice Ad p.data.length cd) p.data) := Lib.hid (V2.out.frm F3 (fun j hj e => by have h1 : o0 j = 0 := hj; rw [e, ogb] at h1; omega))
    clear hw3 F3 S3 k0 k1 k2 k3 k4 k5 k6 k7 k8 y2
    obtain ⟨AO, cO, hvO⟩ := X3.out.c8.r.form
    dsimp only at hvO
    have e18 := X3.out.blk.cell 18
    have g18 := X3.out.blk.free 18
    simp only [List.getElem?_toArray, List.getElem?_cons_zero, List.getElem?_cons_succ] at e18
    rw [hvO] at e18
    have HVO := Lib.hid hvO
    have d18b := fun o => cell_in_alloc' e18 o
    have d18c := fun o => cell_in_alloc' (show w3.drew.cell? ⟨ge, 18, none⟩ = _ from e18) o
    obtain ⟨k0, k1, k2, k3, k4, k5, k6, k7, k8⟩ := PB.of BX3.out
    dsimp only at k0 k1 k2 k3 k4 k5 k6 k7 k8
    obtain ⟨vs, r1, r2, r3, r4⟩ := X3.out.c8.r
    dsimp only at r1 r2 r3
    have RW : Hid (w3.ownsRow B 27 9 (.slice AO x.outs.length cO) x.outs.length (rowsG pcells x.outs vs)) := Lib.hid (hvO ▸ r1)
    have R2 := Lib.hid r2
    have R3 := Lib.hid r3
    have hone : Hid (∀ u ∈ pcells { p with number := q.s } (.slice Ad p.data.length cd), u.oneCell' = true) := Lib.hid (by intro u hu; simp [pcells] at hu; rcases hu with rfl | rfl | rfl | rfl | rfl | rfl | rfl | rfl | rfl <;> rfl)
    have sB : B ≤ w3.heap.size := Nat.le_trans hB T3.out.size
    have OWE : Hid (Ow o0 w3 (k + 8) (.slice AO x.outs.length cO)) := Lib.hid (hvO ▸ X3.out.c8.ow)
    have hgn : ¬ (Value.slice AO x.outs.length cO).ownBlock = some ge := fun e => by have := (OWE.out ge e).1; omega
    have hgbn : ¬ (Value.slice AO x.outs.length cO).ownBlock = some gb := fun e => by have := (OWE.out gb e).1; omega
    have gl3 := X3.out.blk.lt
    clear r1 r2 r3 r4 hvO
    first | (go_region_law (first | (refine step_app (v := .slice AO x.outs.length cO) B (by rfl) _ _ 75 27 _ 9 88 (by rfl) Tryz.underlying75 HI.out rfl (by omega) (by omega) (by rfl) (by rfl) ((show w3.drew.ownsRow B 27 9 _ _ _ from RW.out).alloc _) (Sl.boxk w3.drew 27 9 (pcells { p with number := q.s } (.slice Ad p.data.length cd)) _ (by simp) rfl hone.out) (by omega) (Nat.le_trans sB (by simp)) ?_; intro v7 w7 hown hfr hat; have F7 : Hid (Frm (fun j => (Value.slice AO x.outs.length cO).ownBlock = some j) w3 w7) := Lib.hid ((((Frm.refl _ w3).drew).alloc _).trans hfr); have O7 := Lib.hid hown; have HAT : Hid (v7.ownBlock = (Value.slice AO x.outs.length cO).ownBlock ∨ ∀ j, v7.ownBlock = some j → w3.heap.size ≤ j) := Lib.hid (hat.imp id (fun e j hj => by rw [e] at hj; injection hj with hj; rw [← hj]; simp)); have e18_ := (show w7.cell? ⟨ge, 18, none⟩ = w3.cell? ⟨ge, 18, none⟩ from World.cell?_of_block (F7.out.block ge gl3 hgn)).trans e18; have g18_ := (show w7.frozen? ⟨ge, 18, none⟩ = w3.frozen? ⟨ge, 18, none⟩ from World.frozen?_of_block (F7.out.block ge gl3 hgn)).trans g18; obtain ⟨A7, c7_, rfl⟩ := own_slice' hown; clear hown hfr hat) | fail)) | fail
    all_goals
      obtain ⟨v7, hv7⟩ : ∃ v, v = Value.slice A7 (x.outs.length + 1) c7_ := ⟨_, rfl⟩
      rw [← hv7] at O7 HAT ⊢
      clear hv7
      have X8 : Hid (EndS (ext o0 w3.heap.size v7 (k + 8)) k B (w7.setCell ⟨ge, 18, none⟩ v7) ge { x with ps := x.ps.set i { q with s := q.s + 1 }, vO := v7, outs := x.outs ++ [{ p with number := q.s }] } ∧ Stp (fun c => c = k ∨ c = k + 8) o0 (ext o0 w3.heap.size v7 (k + 8)) w3 (w7.setCell ⟨ge, 18, none⟩ v7)) := Lib.hid (by
        obtain ⟨p1, p2⟩ := OutG.push liesP RW.out R2.out R3.out OWE.out (by omega) (a := { p with number := q.s }) (b := .slice Ad p.data.length cd) V3.out F7.out O7.out HAT.out
        have f8 := (Frm.refl (· = ge) w7).setg (i := 18) v7
        have ogk := X3.out.og
        have hne : ∀ j, v7.ownBlock = some j → j ≠ ge := fun j hj e => by
          have h1 := (p2 j hj).1
          rw [e, ext_agr o0 _ v7 _ ge gl3] at h1
          omega
        have s8 : Stp (fun c => c = k ∨ c = k + 8) o0 (ext o0 w3.heap.size v7 (k + 8)) w3 (w7.setCell ⟨ge, 18, none⟩ v7) := ⟨(F7.out.mono (fun j hj => .inr (OWE.out j hj).1)).setCell (.inl (.inl ogk)) v7, ext_agr _ _ _ _⟩
        refine ⟨X3.out.put8 s8 (by simpa using (X3.out.blk.frm F7.out hgn).set 18 v7) ⟨OutG.frm liesP p1 f8 (fun j hj e => ?_) hne, fun j hj => ⟨(p2 j hj).1, Nat.lt_of_lt_of_le (p2 j hj).2 f8.size⟩⟩, s8⟩
        have h1 : ext o0 w3.heap.size v7 (k + 8) j = 0 := hj
        rw [e, ext_agr o0 _ v7 _ ge gl3] at h1
        omega)
      obtain ⟨w8, hw8⟩ : ∃ W, W = w7.setCell ⟨ge, 18, none⟩ v7 := ⟨_, rfl⟩
      have BX8 : Hid (Blk w8 gb (pcells { p with number := q.s } (.slice Ad p.data.length cd)).toArray 27) := Lib.hid (by rw [hw8]; exact (BX3.out.frm F7.out hgbn).far (by simpa using hgg) _)
      rw [← hw8] at X8 ⊢
      obtain ⟨o8, ho8⟩ : ∃ f, f = ext o0 w3.heap.size v7 (k + 8) := ⟨_, rfl⟩
      rw [← ho8] at X8
      have ogb8 : o8 gb = k + 99 := by rw [ho8, ext_agr o0 _ v7 _ gb BX3.out.lt]; exact ogb
      have V8 : Hid (BV w8 (frozen o8) (.slice Ad p.data.length cd) p.data) := Lib.hid ((V3.out.mono (S' := fun j => frozen o0 j ∧ j < w3.heap.size) (fun j hj hl => ⟨hj, hl⟩)).frm X8.out.2.f (fun j hj e => by have h1 : o0 j = 0 := hj.1; omega) |>.mono (fun j hj _ => frozen_ag X8.out.2.ag j hj.1 hj.2))
      have T8 : Hid (Stp (EC k) o o8 w w8) := Lib.hid (T3.out.trans (X8.out.2.mono (fun c hc => by rcases hc with rfl | rfl; exact ⟨by omega, by omega⟩; exact ⟨by omega, by omega⟩)))
      clear hw8 ho8 e18_ g18_ e18 d18b d18c g18 k0 k1 k2 k3 k4 k5 k6 k7 k8
      obtain ⟨k0, k1, k2, k3, k4, k5, k6, k7, k8⟩ := PB.of BX8.out
      dsimp only at k0 k1 k2 k3 k4 k5 k6 k7 k8
      go_wp2_with fail
      refine (event_any o8 k B w8 ge _ (sentE p q.s) (.slice none 0 0) (.slice Ad p.data.length cd) X8.out.1 (Nat.le_trans hB T8.out.size) ⟨BV.nil _ _, V8.out⟩ hl).mono ?_
      rintro e w9 ⟨rfl, o9, vE, m0, hx9, hs9⟩
      have X9 := Lib.hid hx9
      have T9 : Hid (Stp (EC k) o o9 w w9) := Lib.hid (T8.out.trans (hs9.mono (fun c hc => by rcases hc with rfl | rfl; exact ⟨by omega, by omega⟩; exact ⟨by omega, by omega⟩)))
      have BX9 := Lib.hid (BX8.out.frm hs9.f (by omega))
      clear hx9 hs9 k0 k1 k2 k3 k4 k5 k6 k7 k8
      have n20 := X9.out.blk.cell 20
      have y20 := X9.out.blk.free 20
      simp only [List.getElem?_toArray, List.getElem?_cons_zero, List.getElem?_cons_succ] at n20
      obtain ⟨mm, hmm⟩ : ∃ m, IntKind.i64.wrap (x.m1 + 1) = m := ⟨_, rfl⟩
      go_wp2_with fail
      refine wp_region_still_tail (id := 7) 9 (by kernel_rfl) (by kernel_rfl) ?_
      change wpStill _ _ (World.drew _) (fun a' => wpList _ _ _ _ a' (World.drew _)) _ _
      simp only [List.take_succ_cons, List.take_zero, List.drop_succ_cons, List.drop_zero]
      repeat still_step
      refine wpStill_nil ?_
      go_wp2_with fail
      obtain ⟨wa, hwa⟩ : ∃ W, W = (w9.setCell ⟨ge, 20, none⟩ (.int .i64 mm)).drew := ⟨_, rfl⟩
      have SA : Stp (fun c => c = k) o9 o9 w9 wa := by rw [hwa]; exact ⟨((Frm.refl _ _).setCell (.inl X9.out.og) _).drew, Agr.refl _ _⟩
      have XA : Hid (EndS o9 k B wa ge { x with ps := x.ps.set i { q with s := q.s + 1 }, vO := v7, outs := x.outs ++ [{ p with number := q.s }], vE := vE, es := x.es ++ [sentE p q.s], m0 := m0, m1 := mm }) := Lib.hid (X9.out.putI SA x.now x.limit x.sent m0 mm x.m2 x.m3 x.m4 x.m5 x.m6 x.m7 (by rw [hwa]; exact Blk.drew (by simpa using X9.out.blk.set 20 (.int .i64 mm))))
      have TA : Hid (Stp (EC k) o o9 w wa) := Lib.hid (T9.out.trans (SA.mono (fun c hc => by rw [hc]; exact ⟨by omega, by omega⟩)))
      have BXA := Lib.hid (BX9.out.frm (show Frm (· = ge) w9 wa by rw [hwa]; exact ((Frm.refl _ _).setg _).drew) hgg)
      rw [← hwa]
      clear hwa SA n20 y20 hmm
      have n21 := XA.out.blk.cell 21
      have y21 := XA.out.blk.free 21
      have b5 := BXA.out.cell 5
      simp only [List.getElem?_toArray, List.getElem?_cons_zero, List.getElem?_cons_succ, pcells] at n21 b5
      obtain ⟨m2, hm2⟩ : ∃ m, IntKind.i64.wrap (x.m2 + (p.data.length : Int)) = m := ⟨_, rfl⟩
      refine wp_region_still_tail (id := 8) 12 (by kernel_rfl) (by kernel_rfl) ?_
      change wpStill _ _ (World.drew _) (fun a' => wpList _ _ _ _ a' (World.drew _)) _ _
      simp only [List.take_succ_cons, List.take_zero, List.drop_succ_cons, List.drop_zero]
      repeat still_step
      refine wpStill_nil ?_
      go_wp2_with fail
      refine bodyPost_ret (results_two rfl _ _ _) rfl ?_
      have SB : Stp (fun c => c = k) o9 o9 wa (wa.setCell ⟨ge, 21, none⟩ (.int .i64 m2)).drew := ⟨((Frm.refl _ _).setCell (.inl XA.out.og) _).drew, Agr.refl _ _⟩
      exact .inr ⟨hs, rfl, o9, vE, v7, m0, mm, m2, XA.out.putI SB x.now x.limit x.sent m0 mm m2 x.m3 x.m4 x.m5 x.m6 x.m7 (Blk.drew (by simpa using XA.out.blk.set 21 (.int .i64 m2))), TA.out.trans (SB.mono (fun c hc => by rw [hc]; exact ⟨by omega, by omega⟩))⟩
end Go.Proofs.YtdneakejlbabeaaGreat

namespace Go.Proofs.YtdneakejlbabeaaGreat
open Go.RowKit
set_option linter.unusedVariables false
set_option linter.unusedSimpArgs false

section
variable {α β : Type} {f : α → β → List Value} {k : Nat}
theorem rowsG_take (hf : ∀ a b, (f a b).length = k) : ∀ (l : List α) (vs : List β) (i : Nat), vs.length = l.length → i ≤ l.length → (rowsG f l vs).take (i * k) = rowsG f (l.take i) (vs.take i)
  | l, vs, 0, _, _ => by simp [rowsG]
  | [], vs, i + 1, _, h => by simp at h
  | a :: l, [], i + 1, h, _ => by simp at h
  | a :: l, b :: vs, i + 1, h, hi => by
    simp only [rowsG, List.take_succ_cons]
    rw [List.take_append, hf, show (i + 1) * k - k = i * k from by rw [Nat.add_mul]; omega, rowsG_take hf l vs i (by simpa using h) (by simpa using hi), List.take_of_length_le (by rw [hf, Nat.add_mul]; omega)]
theorem rowsG_drop (hf : ∀ a b, (f a b).length = k) : ∀ (l : List α) (vs : List β) (i : Nat), vs.length = l.length → i ≤ l.length → (rowsG f l vs).drop (i * k) = rowsG f (l.drop i) (vs.drop i)
  | l, vs, 0, _, _ => by simp
  | [], vs, i + 1, _, h => by simp at h
  | a :: l, [], i + 1, h, _ => by simp at h
  | a :: l, b :: vs, i + 1, h, hi => by
    simp only [rowsG, List.drop_succ_cons]
    rw [List.drop_append, hf, show (i + 1) * k - k = i * k from by rw [Nat.add_mul]; omega, rowsG_drop hf l vs i (by simpa using h) (by simpa using hi), List.drop_of_length_le (by rw [hf, Nat.add_mul]; omega), List.nil_append]
end
theorem BV.stpK {C : Nat → Prop} {o o' : Nat → Nat} {w w' : World} {v : Value} {l : List Int} (h : BV w (frozen o) v l) (s : Stp C o o' w w') (h0 : ¬ C 0) : BV w' (frozen o') v l :=
  ((h.mono (S' := fun j => frozen o j ∧ j < w.heap.size) (fun j hj hl => ⟨hj, hl⟩)).frm s.f (fun j hj e => h0 (by have h1 : o j = 0 := hj.1; rw [h1] at e; exact e))).mono (fun j hj _ => frozen_ag s.ag j hj.1 hj.2)
/-- The row of a side is another one. -/
def NSet (o : Nat → Nat) (B : Nat) (w : World) (gd : Nat) (s : Bool) (l : List By2) (w' : World) : Prop :=
  ∃ (o' : Nat → Nat) (v : Value), Stp (fun c => c = 300 ∨ c = 302 + sN s) o o' w w' ∧ CellSet w w' gd (2 + sN s) v ∧ BRw o' B w' v l ∧ Ow o' w' (302 + sN s) v
def NTakeR (o : Nat → Nat) (B : Nat) (w : World) (gd : Nat) (s : Bool) (l : List By2) (at_ : Int) (e : Ending) (w' : World) : Prop :=
  (¬ (0 ≤ at_ ∧ at_ < (l.length : Int)) ∧ e = .returned (.tuple #[.slice none 0 0, .bool false]) ∧ w = w') ∨
  ∃ (i : Nat) (y : By2) (v : Value), at_ = (i : Int) ∧ l[i]? = some y ∧ BV w (frozen o) v y.1 ∧ e = .returned (.tuple #[v, .bool true]) ∧ NSet o B w gd s (l.take i ++ l.drop (i + 1)) w'
theorem take_set {o : Nat → Nat} {B : Nat} {w w8 : World} {gd : Nat} {s : Bool} {l : List By2} {vs : List Value} {v8 : Value} (og : o gd = 300) (hg : gd < w.heap.size) (hB : B ≤ w.heap.size) (h2 : vs.length = l.length) (h3 : ∀ (i : Nat) (a : By2) (b : Value), l[i]? = some a → vs[i]? = some b → BV w (frozen o) b a.1)
    (hb : Below w.heap.size w w8) {n : Nat} (hn : n = l.length) (ho : w8.ownsRow w.heap.size 149 2 v8 n (rowsG bcells l vs)) : NSet o B w gd s l (w8.setCell ⟨gd, 2 + sN s, none⟩ v8) := by
  subst hn
  have f1 : Frm (· = gd) w (w8.setCell ⟨gd, 2 + sN s, none⟩ v8) := (Frm.of_below (S := (· = gd)) hb).setg (i := 2 + sN s) v8
  have st : Stp (fun c => c = 300 ∨ c = 302 + sN s) o (scr o w.heap.size (302 + sN s)) w (w8.setCell ⟨gd, 2 + sN s, none⟩ v8) := ⟨f1.mono (fun j hj => .inl (by rw [hj]; exact og)), scr_agr _ _ _⟩
  have hge : ∀ j, v8.ownBlock = some j → w.heap.size ≤ j := fun j hj => (ho.lt j hj).1
  refine ⟨scr o w.heap.size (302 + sN s), v8, st, fun cs t hbk => (hbk.below hb).set _ _, ⟨vs, own_base (own_frm ho ((Frm.refl (· = gd) w8).setg (i := 2 + sN s) v8) (fun j hj e => by have := hge j hj; omega)) hB, h2, fun i a b ha hb' => BV.stpK (h3 i a b ha hb') st (by omega), fun j hj hf => ?_⟩, fun j hj => ⟨scr_new (hge j hj), Nat.lt_of_lt_of_le (ho.lt j hj).2 ((Frm.refl (· = gd) w8).setg (i := 2 + sN s) v8).size⟩⟩
  have h5 : scr o w.heap.size (302 + sN s) j = 0 := hf
  rw [scr_new (hge j hj)] at h5
  omega
set_option maxHeartbeats 8000000 in
set_option maxRecDepth 100000 in
theorem ntake_any (w : World) (gd : Nat) (o : Nat → Nat) (B : Nat) (V : Bool → Value) (L : Bool → List By2) (s : Bool) (at_ : Int) (c0 : w.cell? ⟨gd, 2, none⟩ = some (V false)) (c1 : w.cell? ⟨gd, 3, none⟩ = some (V true)) (fr : ∀ i, w.frozen? ⟨gd, i, none⟩ = false) (h : ∀ s, BRw o B w (V s) (L s)) (og : o gd = 300) (hB : B ≤ w.heap.size) (hl : (L s).length ≤ 100000000) :
    Calls Tryz.prog 45 #[.pointer (some ⟨gd, 2, none⟩), .int .i64 (sI s), .int .i64 at_] w fun e w' => NTakeR o B w gd s (L s) at_ e w' := by
  have T := Lib.hid (nget_any w gd o B V L s at_ c0 c1 h)
  have HI := Lib.hid Tryz.info149
  have hgs := World.block_lt_of_cell? w _ c0
  simp only at hgs
  obtain ⟨A, c, e⟩ := (h s).form
  obtain ⟨vs, r1, r2, r3, r4⟩ := h s
  have R2 := Lib.hid r2
  have R3 := Lib.hid r3
  have RS : Hid (Sl w 2 (.slice A (L s).length c) (L s).length (rowsG bcells (L s) vs)) := Lib.hid (by rw [← e]; exact Sl.of_own r1 (rowsG_all _ _ vs (fun i a b ha hb => bcells_one (r3 i a b ha hb))))
  obtain ⟨l, hll⟩ : ∃ l, L s = l := ⟨_, rfl⟩
  rw [hll] at hl e T R2 R3 RS ⊢
  have hlc : l.length ≤ c := by
    obtain ⟨A', c', e', h1, h2⟩ := RS.out.len
    injection e' with x1 x2 x3
    rw [x3]
    exact h1
  have OG := Lib.hid og
  have CC : Hid (∀ (W : World), Below w.heap.size w W → W.cell? ⟨gd, 2 + sN s, none⟩ = some (.slice A l.length c) ∧ W.frozen? ⟨gd, 2 + sN s, none⟩ = false) := Lib.hid (fun W hW => ⟨(hW.cell (p := ⟨gd, 2 + sN s, none⟩) hgs).trans (by cases s with | false => exact c0.trans (congrArg some e) | true => exact c1.trans (congrArg some e)), (hW.frozen (p := ⟨gd, 2 + sN s, none⟩) hgs).trans (fr _)⟩)
  have hgsH := Lib.hid hgs
  clear h r1 r2 r3 r4 e og hll c0 c1 fr
  by_cases hin : 0 ≤ at_ ∧ at_ < (l.length : Int)
  · obtain ⟨a0, a1⟩ := hin
    cases s
    all_goals
      unfold sI at *
      go_enter Tryz.func45, Tryz.ntmps45
      go_wp2_with fail
      refine T.out.mono ?_
      rintro e _ ⟨rfl, (⟨i, y, v, rfl, hy, hbv, rfl⟩ | ⟨hn, _⟩)⟩
      case inr => exact absurd ⟨a0, a1⟩ hn
      obtain ⟨Av, cv, rfl, _, _⟩ := hbv.len
      have HY := Lib.hid hy
      have HV := Lib.hid hbv
      have hi : i < l.length := (List.getElem?_eq_some_iff.1 hy).1
      clear hy hbv T
      obtain ⟨ad, rfl⟩ : ∃ ad, A = some ad := by
        obtain ⟨A', c', e, _, _, hl2, _, hr⟩ := RS.out
        injection e with e1 e2 e3
        subst e1
        obtain ⟨ad, e, _⟩ := hr (by omega)
        exact ⟨ad, e⟩
      have i2 : (i : Int) ≤ (c : Int) := by omega
      have i3 : (i : Int) + 1 ≤ (l.length : Int) := by omega
      have i4 : (0 : Int) ≤ (i : Int) + 1 := by omega
      have i5 : (l.length : Int) ≤ (c : Int) := by omega
      have iwj : IntKind.i64.wrap ((i : Int) + 1) = (i : Int) + 1 := IntWalk.i64_in _ ⟨by omega, by omega⟩
      obtain ⟨A9, hA9⟩ : ∃ x, (if c = i + 1 then (some ad) else some (ad.add ((i + 1) * 2))) = x := ⟨_, rfl⟩
      have HS1 : Hid (∀ W, Below w.heap.size w W → Sl W 2 (.slice (some ad) i c) i (rowsG bcells (l.take i) (vs.take i))) := Lib.hid (fun W hW => by
        have h := Sl.sub (t := 0) (u := i) (RS.out.below hW) (Nat.zero_le _) (by omega)
        simp only [Nat.sub_zero, Nat.zero_mul, List.drop_zero] at h
        rw [← rowsG_take bcells_len l vs i R2.out (by omega)]
        have ha : (if c = 0 then (some ad) else Option.map (fun x => x.add 0) (some ad)) = some ad := by simp [addr_zero]
        rw [ha] at h
        exact h)
      have HS2 : Hid (∀ W, Below w.heap.size w W → Sl W 2 (.slice A9 (l.length - (i + 1)) (c - (i + 1))) (l.length - (i + 1)) (rowsG bcells (l.drop (i + 1)) (vs.drop (i + 1)))) := Lib.hid (fun W hW => by
        have h := Sl.sub (t := i + 1) (u := l.length) (RS.out.below hW) (by omega) (Nat.le_refl _)
        rw [Option.map_some, hA9, rowsG_drop bcells_len l vs _ R2.out (by omega), List.take_of_length_le (by rw [rowsG_length bcells_len _ _ (by rw [List.length_drop, List.length_drop, R2.out]), List.length_drop]; exact Nat.le_refl _)] at h
        exact h)
      have FIN : Hid (∀ v8 w8, Below w.heap.size w w8 → w8.ownsRow w.heap.size 149 2 v8 (i + (l.length - (i + 1))) (rowsG bcells (l.take i) (vs.take i) ++ rowsG bcells (l.drop (i + 1)) (vs.drop (i + 1))) → ∀ s', NSet o B w gd s' (l.take i ++ l.drop (i + 1)) (w8.setCell ⟨gd, 2 + sN s', none⟩ v8)) := Lib.hid (fun v8 w8 hb ho s' => by
        refine take_set (vs := vs.take i ++ vs.drop (i + 1)) OG.out hgs hB (by rw [List.length_append, List.length_append, List.length_take, List.length_take, List.length_drop, List.length_drop, R2.out]) (fun j a b ha hb' => ?_) hb (n := i + (l.length - (i + 1))) (by rw [List.length_append, List.length_take, List.length_drop]; omega) (by rw [rowsG_append _ _ _ _ (by rw [List.length_take, List.length_take, R2.out])]; exact ho)
        by_cases hj : j < i
        · rw [List.getElem?_append_left (by rw [List.length_take]; omega), List.getElem?_take, if_pos hj] at ha
          rw [List.getElem?_append_left (by rw [List.length_take, R2.out]; omega), List.getElem?_take, if_pos hj] at hb'
          exact R3.out j a b ha hb'
        · rw [List.getElem?_append_right (by rw [List.length_take]; omega), List.getElem?_drop] at ha
          rw [List.getElem?_append_right (by rw [List.length_take, R2.out]; omega), List.getElem?_drop] at hb'
          rw [List.length_take, show min i l.length = i from by omega] at ha
          rw [List.length_take, R2.out, show min i l.length = i from by omega] at hb'
          exact R3.out _ a b ha hb')
      have G : Hid (Below w.heap.size w w.drew) := Lib.hid (Below.refl _ _).drew
      obtain ⟨k2, k3⟩ := CC.out _ G.out
      have k2' : w.cell? _ = _ := k2
      simp only [sN, if_true, Bool.false_eq_true, if_false, Nat.add_zero, Nat.reduceAdd] at k2 k3 k2'
      go_wp2_with fail
      first | (go_region_law (first | (refine step_app (v := .slice none 0 0) w.heap.size (by rfl) _ _ 81 149 _ 2 32 (by rfl) Tryz.underlying81 HI.out rfl (by omega) (by omega) (by rfl) (by rfl) (World.ownsRow_nil _ _ _ _) (HS1.out _ G.out) (by omega) G.out.size ?_; intro v7 w7 hown hfr hat; simp only [Nat.zero_add, List.nil_append] at hown; have g_ : Below w.heap.size w w7 := Frm.below G.out hfr G.out.size (fun g hg => by cases hg); clear G; have G := Lib.hid g_; have O7 := Lib.hid hown; obtain ⟨A7, c7, rfl⟩ := own_slice' hown; clear hown hfr hat g_; obtain ⟨k2_, k3_⟩ := CC.out _ G.out; simp only [sN, if_true, Bool.false_eq_true, if_false, Nat.add_zero, Nat.reduceAdd] at k2_ k3_) | (refine step_app (v := .slice A7 i c7) w.heap.size (by rfl) _ _ 81 149 _ 2 32 (by rfl) Tryz.underlying81 HI.out rfl (by omega) (by omega) (by rfl) (by rfl) O7.out (HS2.out _ G.out) (by omega) G.out.size ?_; intro v8 w8 hown hfr hat; have g_ : Below w.heap.size w w8 := Frm.below G.out hfr G.out.size (fun g hg => (O7.out.lt g hg).1); clear G; have G := Lib.hid g_; have O8 := Lib.hid hown; obtain ⟨A8, c8, rfl⟩ := own_slice' hown; clear hown hfr hat g_; obtain ⟨k4_, k5_⟩ := CC.out _ G.out; simp only [sN, if_true, Bool.false_eq_true, if_false, Nat.add_zero, Nat.reduceAdd] at k4_ k5_))) | fail
      all_goals
        go_wp2_with fail
        refine bodyPost_ret (results_two rfl _ _ _) rfl ?_
        exact .inr ⟨i, y, _, rfl, HY.out, HV.out, rfl, FIN.out _ _ G.out O8.out _⟩
  · have FIN : Hid (∀ v w', NGetR o w l at_ (.returned (.tuple #[v, .bool true])) w' → False) := Lib.hid (fun v w' h => by
      obtain ⟨_, (⟨i, y, v, rfl, hy, _⟩ | ⟨_, h⟩)⟩ := h
      · have := (List.getElem?_eq_some_iff.1 hy).1
        omega
      · cases h)
    go_enter Tryz.func45, Tryz.ntmps45
    go_wp2_with fail
    refine T.out.mono ?_
    rintro e _ ⟨rfl, (⟨i, y, v, rfl, hy, _⟩ | ⟨hn, rfl⟩)⟩
    · have := (List.getElem?_eq_some_iff.1 hy).1
      omega
    go_wp2_with fail
    refine bodyPost_ret (results_two rfl _ _ _) rfl ?_
    exact .inl ⟨hn, rfl, rfl⟩
end Go.Proofs.YtdneakejlbabeaaGreat

namespace Go.Proofs.YtdneakejlbabeaaGreat
open Go.RowKit
set_option linter.unusedVariables false
set_option linter.unusedSimpArgs false

theorem push_set {o : Nat → Nat} {B : Nat} {w w7 : World} {gd : Nat} {s : Bool} {l : List By2} {vs : List Value} {v v7 : Value} {a : By2} {b : Value} (og : o gd = 300) (hg : gd < w.heap.size) (ow : Ow o w (302 + sN s) v) (h1 : w.ownsRow B 149 2 v l.length (rowsG bcells l vs)) (h2 : vs.length = l.length) (h3 : ∀ (i : Nat) (a : By2) (b : Value), l[i]? = some a → vs[i]? = some b → BV w (frozen o) b a.1)
    (hx : BV w (frozen o) b a.1) (hfr : Frm (fun j => v.ownBlock = some j) w w7) (hown : w7.ownsRow B 149 2 v7 (l.length + 1) (rowsG bcells l vs ++ bcells a b)) (hat : v7.ownBlock = v.ownBlock ∨ ∀ j, v7.ownBlock = some j → w.heap.size ≤ j) : NSet o B w gd s (l ++ [a]) (w7.setCell ⟨gd, 2 + sN s, none⟩ v7) := by
  obtain ⟨p1, p2⟩ := OutG.push liesB h1 h2 h3 ow (by omega) hx hfr hown hat
  have f8 := (Frm.refl (· = gd) w7).setg (i := 2 + sN s) v7
  have hvg : ¬ v.ownBlock = some gd := fun e => by have := (ow gd e).1; omega
  have hne : ∀ j, v7.ownBlock = some j → j ≠ gd := fun j hj e => by
    have h1 := (p2 j hj).1
    rw [e, ext_agr o _ v7 _ gd hg] at h1
    omega
  refine ⟨ext o w.heap.size v7 (302 + sN s), v7, ⟨(hfr.mono (fun j hj => .inr (ow j hj).1)).setCell (.inl (.inl og)) v7, ext_agr _ _ _ _⟩, fun cs t hbk => (hbk.frm hfr hvg).set _ _, OutG.frm liesB p1 f8 (fun j hj e => ?_) hne, fun j hj => ⟨(p2 j hj).1, Nat.lt_of_lt_of_le (p2 j hj).2 f8.size⟩⟩
  have h1 : ext o w.heap.size v7 (302 + sN s) j = 0 := hj
  rw [e, ext_agr o _ v7 _ gd hg] at h1
  omega
def NAgainR (o : Nat → Nat) (B : Nat) (w : World) (gd : Nat) (s : Bool) (l : List By2) (e : Ending) (w' : World) : Prop :=
  ∃ q : Bool, e = .returned (.bool q) ∧ (w = w' ∨ ∃ (i : Nat) (y : By2), l[i]? = some y ∧ l.length < 200 ∧ NSet o B w gd s (l ++ [y]) w')
set_option maxHeartbeats 8000000 in
set_option maxRecDepth 100000 in
theorem nagain_any (w : World) (gd : Nat) (o : Nat → Nat) (B : Nat) (V : Bool → Value) (L : Bool → List By2) (s : Bool) (at_ : Int) (c0 : w.cell? ⟨gd, 2, none⟩ = some (V false)) (c1 : w.cell? ⟨gd, 3, none⟩ = some (V true)) (fr : ∀ i, w.frozen? ⟨gd, i, none⟩ = false) (h : ∀ s, BRw o B w (V s) (L s)) (ow : Ow o w (302 + sN s) (V s)) (og : o gd = 300) (hB : B ≤ w.heap.size) :
    Calls Tryz.prog 48 #[.pointer (some ⟨gd, 2, none⟩), .int .i64 (sI s), .int .i64 at_] w fun e w' => NAgainR o B w gd s (L s) e w' := by
  have T := Lib.hid (thereS_any w gd o B V L s at_ c0 c1 h)
  have HI := Lib.hid Tryz.info149
  have hgs := World.block_lt_of_cell? w _ c0
  simp only at hgs
  obtain ⟨A, c, e⟩ := (h s).form
  obtain ⟨vs, r1, r2, r3, r4⟩ := h s
  have R1 : Hid (w.ownsRow B 149 2 (.slice A (L s).length c) (L s).length (rowsG bcells (L s) vs)) := Lib.hid (e ▸ r1)
  have R2 := Lib.hid r2
  have R3 := Lib.hid r3
  have OW : Hid (Ow o w (302 + sN s) (.slice A (L s).length c)) := Lib.hid (e ▸ ow)
  have NR := Lib.hid (e ▸ h s)
  obtain ⟨l, hll⟩ : ∃ l, L s = l := ⟨_, rfl⟩
  rw [hll] at e T R1 R2 R3 OW NR ⊢
  have OG := Lib.hid og
  have hgn : Hid (¬ (Value.slice A l.length c).ownBlock = some gd) := Lib.hid (fun e => by have := (OW.out gd e).1; omega)
  have CC : Hid (∀ (W : World), W.heap[gd]? = w.heap[gd]? → W.cell? ⟨gd, 2 + sN s, none⟩ = some (.slice A l.length c) ∧ W.frozen? ⟨gd, 2 + sN s, none⟩ = false) := Lib.hid (fun W hW => ⟨(show W.cell? ⟨gd, 2 + sN s, none⟩ = w.cell? ⟨gd, 2 + sN s, none⟩ from World.cell?_of_block hW).trans (by cases s with | false => exact c0.trans (congrArg some e) | true => exact c1.trans (congrArg some e)), (show W.frozen? ⟨gd, 2 + sN s, none⟩ = w.frozen? ⟨gd, 2 + sN s, none⟩ from World.frozen?_of_block hW).trans (fr _)⟩)
  clear h r1 r2 r3 r4 e og hll c0 c1 fr ow
  by_cases hin : 0 ≤ at_ ∧ at_ < (l.length : Int)
  · obtain ⟨a0, a1⟩ := hin
    obtain ⟨i, rfl⟩ : ∃ i : Nat, at_ = (i : Int) := ⟨at_.toNat, by omega⟩
    rw [decide_eq_true (by exact ⟨a0, a1⟩)] at T
    obtain ⟨ad, y, v, rfl, hy, hx, h0, h1⟩ := BRw.at_ NR.out (i := i) (by omega)
    have HY := Lib.hid hy
    have HX := Lib.hid hx
    clear hy
    obtain ⟨y1, y2⟩ := y
    dsimp only at h1
    obtain ⟨Av, cv, rfl, _, _⟩ := hx.len
    have hone := Lib.hid (bcells_one (y := (y1, y2)) HX.out)
    clear hx
    by_cases h200 : l.length < 200
    · have i6 : (l.length : Int) < 200 := by omega
      cases s
      all_goals
        unfold sI at *
        have k2 := (CC.out w rfl).1
        simp only [sN, if_true, Bool.false_eq_true, if_false, Nat.add_zero, Nat.reduceAdd] at k2
        have k2b := fun o => cell_in_alloc' k2 o
        have k2c := fun o => cell_in_alloc' (show w.drew.cell? _ = _ from k2) o
        have h0b := fun o => cell_in_alloc' h0 o
        have h0c := fun o => cell_in_alloc' (show w.drew.cell? _ = _ from h0) o
        have h1b := fun o => cell_in_alloc' h1 o
        have h1c := fun o => cell_in_alloc' (show w.drew.cell? _ = _ from h1) o
        go_enter Tryz.func48, Tryz.ntmps48
        go_wp2_with fail
        refine T.out.mono ?_
        rintro e _ ⟨rfl, rfl⟩
        go_wp2_with fail
        first | (go_region_law (first | (refine step_app (v := .slice (some ad) l.length c) B (by rfl) _ _ 81 149 _ 2 32 (by rfl) Tryz.underlying81 HI.out rfl (by omega) (by omega) (by rfl) (by rfl) ((show w.drew.ownsRow B 149 2 _ _ _ from R1.out).alloc _) (Sl.boxk w.drew 149 2 (bcells (y1, y2) (.slice Av y1.length cv)) _ (by simp) rfl hone.out) (by omega) (Nat.le_trans hB (by simp)) ?_; intro v7 w7 hown hfr hat; have F7 : Hid (Frm (fun j => (Value.slice (some ad) l.length c).ownBlock = some j) w w7) := Lib.hid ((((Frm.refl _ w).drew).alloc _).trans hfr); have O7 := Lib.hid hown; have HAT : Hid (v7.ownBlock = (Value.slice (some ad) l.length c).ownBlock ∨ ∀ j, v7.ownBlock = some j → w.heap.size ≤ j) := Lib.hid (hat.imp id (fun e j hj => by rw [e] at hj; injection hj with hj; rw [← hj]; simp)); obtain ⟨e17, g17⟩ := CC.out w7 (F7.out.block gd hgs hgn.out); simp only [sN, if_true, Bool.false_eq_true, if_false, Nat.add_zero, Nat.reduceAdd] at e17 g17; obtain ⟨A7, c7_, rfl⟩ := own_slice' hown; clear hown hfr hat) | fail)) | fail
        all_goals
          go_wp2_with fail
          go_ret
          exact ⟨_, rfl, .inr ⟨i, (y1, y2), HY.out, h200, push_set OG.out hgs OW.out R1.out R2.out R3.out HX.out F7.out O7.out HAT.out⟩⟩
    · have i6 : ¬ (l.length : Int) < 200 := by omega
      cases s
      all_goals
        unfold sI at *
        have k2 := (CC.out w rfl).1
        simp only [sN, if_true, Bool.false_eq_true, if_false, Nat.add_zero, Nat.reduceAdd] at k2
        go_enter Tryz.func48, Tryz.ntmps48
        go_wp2_with fail
        refine T.out.mono ?_
        rintro e _ ⟨rfl, rfl⟩
        go_wp2_with fail
        go_ret
        exact ⟨_, rfl, .inl rfl⟩
  · rw [decide_eq_false hin] at T
    clear hin
    go_enter Tryz.func48, Tryz.ntmps48
    go_wp2_with fail
    refine T.out.mono ?_
    rintro e _ ⟨rfl, rfl⟩
    go_wp2_with fail
    go_ret
    exact ⟨_, rfl, .inl rfl⟩
end Go.Proofs.YtdneakejlbabeaaGreat
