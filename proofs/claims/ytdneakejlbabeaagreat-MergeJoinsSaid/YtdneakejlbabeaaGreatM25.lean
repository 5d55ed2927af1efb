/- Parts of the walk: Jf, Jg, Jh, Ji. -/
import Derived.Test.YtdneakejlbabeaaGreatM00
import Derived.Test.YtdneakejlbabeaaGreatM24
import Derived.Test.YtdneakejlbabeaaGreatM05
import Derived.Deep.LoopGhost
namespace Go.Proofs.YtdneakejlbabeaaGreat
open Go.RowKit
set_option linter.unusedVariables false
set_option linter.unusedSimpArgs false
section
/-- An end that said these packets. -/
structure Grw (x x' : EndV) (d : List Pk) : Prop where
 e : x' = { x with ps := x'.ps, sent := x'.sent, vl := x'.vl, lost := x'.lost, vE := x'.vE, es := x'.es, vO := x'.vO, outs := x'.outs, m0 := x'.m0, m1 := x'.m1, m2 := x'.m2, m3 := x'.m3, m4 := x'.m4, m5 := x'.m5, m6 := x'.m6, m7 := x'.m7 }
 es : x'.es = x.es ++ d.map fun p => ⟨5, 0, [], p⟩
 outs : x'.outs = x.outs ++ d
 n : x'.ps.length = x.ps.length
 s : said x'.ps = said x.ps + d.length
 lost : x'.lost.length ≤ x.lost.length
 sm : ∀ p ∈ d, p.data.length ≤ 1000000
theorem Grw.refl (x : EndV) : Grw x x [] := ⟨rfl, by simp, by simp, rfl, by simp, Nat.le_refl _, fun p h => (by cases h)⟩
theorem Grw.trans {x y z : EndV} {d d' : List Pk} (h : Grw x y d) (k : Grw y z d') : Grw x z (d ++ d') :=
 ⟨by rw [k.e, h.e], by rw [k.es, h.es]; simp, by rw [k.outs, h.outs]; simp, k.n.trans h.n, by rw [k.s, h.s]; simp; omega, Nat.le_trans k.lost h.lost, fun p hp => (List.mem_append.1 hp).elim (h.sm p) (k.sm p)⟩
/-- An end's numbers stay so. -/
theorem EOk.grw {N : Nat} {x x' : EndV} {d : List Pk} (h : EOk N x) (g : Grw x x' d) : EOk N x' := by
 have e := g.e
 obtain ⟨h1, h2, h3, h4, h5, h6, h7, h8, h9, h10⟩ := h
 refine ⟨by rw [g.n]; exact h1, ?_, ?_, ?_, ?_, Nat.le_trans g.lost h6, ?_, ?_, ?_, h10⟩
 ·rw [g.n]; rw [e]; exact h2
 ·rw [g.n]; rw [e]; exact h3
 ·rw [e]; exact h4
 ·rw [e]; exact h5
 ·rw [e]; exact h7
 ·rw [g.es, g.s]; simp; omega
 ·rw [g.outs, g.s]; simp; omega
def DataR (o : Nat → Nat) (k B : Nat) (w : World) (ge : Nat) (x : EndV) (i : Nat) (q : PathV) (e : Ending) (w' : World) : Prop :=
 e = .returned (.tuple #[]) ∧ ∃ (o' : Nat → Nat) (x' : EndV) (d : List Pk), EndS o' k B w' ge x' ∧ Stp (EC k) o o' w w' ∧ Grw x x' d ∧ (q.s ≤ 65535 → d ≠ [])
set_option maxHeartbeats 16000000 in
set_option maxRecDepth 100000 in
theorem data_any (o : Nat → Nat) (k B : Nat) (w : World) (ge : Nat) (x : EndV) (i : Nat) (q : PathV) (f t : Int) (h : EndS o k B w ge x) (hB : B ≤ w.heap.size) (hi : x.ps[i]? = some q) (hn : x.ob.length ≤ 4096) (hl : x.es.length ≤ 100000000) (hl2 : x.outs.length ≤ 100000000) (hl3 : q.l.length ≤ 100000000) :
  Calls Tryz.prog 92 #[.pointer (some ⟨ge, 0, none⟩), .int .i64 (i : Int), .int .i64 f, .int .i64 t] w fun e w' => DataR o k B w ge x i q e w' := by
 have H := hid h
 have HQ := hid hi
 have c12 := h.blk.cell 12
 simp only [gA, gZ, gC] at c12
 obtain ⟨Ab, cb, hvb⟩ := own_slice' h.c3.r.1
 have OB : Hid (ObC w x.go x.bu x.ac Ab x.ob.length cb x.cl) := hid (by have := h.c3.blk; rw [hvb] at this; exact this)
 have OV : Hid (BV w (fun j => B ≤ j) (.slice Ab x.ob.length cb) x.ob) := hid (by have := h.c3.r.bv; rw [hvb] at this; exact this)
 have hil := (List.getElem?_eq_some_iff.1 hi).1
 have np := h.np
 have i0 : (0 : Int) ≤ (i : Int) := by omega
 have qs0 : Hid (0 ≤ q.s) := hid (h.c9 i q hi).r.s0.1
 clear h hi hvb
 go_enter Tryz.func92, Tryz.ntmps92
 go_wp2_with fail
 refine (piece_any w _ x.go x.bu x.ac Ab cb x.ob x.cl f t OB.out OV.out hn).mono ?_
 rintro e w1 ⟨vd, ld, fin, rfl, hbo, hld, hb⟩
 have SS : Stp (fun _ => False) o (scr o w.heap.size 0) w w1 := ⟨Frm.of_below hb, scr_agr _ _ _⟩
 have X1 : Hid (EndS (scr o w.heap.size 0) k B w1 ge x) := hid (H.out.frm SS (fun h => h) (fun _ h => h.elim))
 have D1 : Hid (BV w1 (frozen (scr o w.heap.size 0)) vd ld) := hid (hbo.bv.mono (fun j hj _ => scr_new hj))
 have S1 : Hid (Stp (EC k) o (scr o w.heap.size 0) w w1) := hid (SS.mono (fun _ h => h.elim))
 obtain ⟨o1, ho1⟩ := lx (scr o w.heap.size 0)
 rw [← ho1] at X1 D1 S1
 obtain ⟨Ad, cd, rfl⟩ := own_slice' hbo.1
 have s1 := hb.size
 clear hbo hb SS ho1 c12
 go_wp2_with fail
 refine (say_any o1 k B w1 ge x ⟨3, (i : Int), 0, 0, f, ld, fin, 0, 0⟩ (.slice Ad ld.length cd) i q X1.out (Nat.le_trans hB s1) D1.out HQ.out rfl hl hl2).mono ?_
 rintro e w2 (⟨hs, rfl, hb2⟩ | ⟨hs, rfl, o2, vE, vO, m0, m1, m2, hx2, hs2⟩)
 ·have B2 := hid hb2
  clear hb2
  go_wp2_with fail
  go_end0
  exact ⟨rfl, o1, x, [], X1.out.below B2.out, S1.out.trans (Stp.below B2.out), Grw.refl x, fun h => by omega⟩
 ·have X2 := hid hx2
  have S2 := hid (S1.out.trans hs2)
  clear hx2 hs2
  have hq2 : (x.ps.set i { q with s := q.s + 1 })[i]? = some { q with s := q.s + 1 } := by rw [List.getElem?_set, if_pos rfl, if_pos hil]
  obtain ⟨AP, cP, hvP, hcP, hel⟩ := X2.out.path
  obtain ⟨adP, hAP, dP, _⟩ := hel i _ hq2
  have n9 := X2.out.blk.cell 9
  have n8 := X2.out.blk.cell 8
  simp only [gA, gZ, gC] at n9 n8
  simp only [List.length_set] at hvP
  rw [hvP, hAP] at n9
  have i1 : (i : Int) < (x.ps.length : Int) := by omega
  have C9 := hid (X2.out.c9 i _ hq2)
  dsimp only at dP
  have HQ2 := hid hq2
  clear hvP hAP hel hq2
  go_wp2_with fail
  refine wp_region_still_tail (id := 3) 17 (by kernel_rfl) (by kernel_rfl) ?_
  change wpStill _ _ (World.drew _) (fun a' => wpList _ _ _ _ a' (World.drew _)) _ _
  simp only [List.take_succ_cons, List.take_zero, List.drop_succ_cons, List.drop_zero]
  repeat still_step
  refine wpStill_nil ?_
  go_wp2_with fail
  have P2 := C9.out.r
  have ow2 := C9.out.ow
  have s2 := S2.out.size
  dsimp only at P2 ow2
  have c6 := P2.blk.cell 6
  simp only [gA, gZ, gC] at c6
  refine (fadd_any w2.drew B q.gp 6 q.v q.l (q.s, f, t, x.now) c6 (P2.blk.free 6) P2.l (Nat.le_trans hB s2) (fun j hj => (P2.own j hj).1) hl3).mono ?_
  rintro e w3 (⟨rfl, hb3⟩ | ⟨rfl, v', wz, hfz, rfl, hov, hat⟩)
  ·have B3 := hid hb3
   clear hb3
   go_wp2_with fail
   go_end0
   have G1 : Grw x { x with ps := x.ps.set i { q with s := q.s + 1 }, vE := vE, es := x.es ++ [sentE ⟨3, (i : Int), 0, 0, f, ld, fin, 0, 0⟩ q.s], vO := vO, outs := x.outs ++ [{ (⟨3, (i : Int), 0, 0, f, ld, fin, 0, 0⟩ : Pk) with number := q.s }], m0 := m0, m1 := m1, m2 := m2 } [⟨3, (i : Int), q.s, 0, f, ld, fin, 0, 0⟩] :=
    ⟨rfl, rfl, rfl, by simp, by have := said_set (q' := { q with s := q.s + 1 }) HQ.out; have h0 := qs0.out; dsimp only at this ⊢; simp; omega, Nat.le_refl _, fun p hp => by rw [List.mem_singleton.1 hp]; exact Nat.le_trans hld (by omega)⟩
   exact ⟨rfl, o2, _, _, (X2.out.drew).below B3.out, (S2.out.drew).trans (Stp.below B3.out), G1, fun _ => by simp⟩
  ·have HZ := hid hfz
   have HO := hid hov
   have HAT := hid hat
   clear hfz hov hat
   go_wp2_with fail
   go_end0
   obtain ⟨n1, n2, n3⟩ := P2.ne
   have lp := P2.blk.lt
   have lg := P2.g.lt
   have lw := P2.wd.lt
   have pg := P2.ge
   have hvn : ∀ j, v'.ownBlock = some j → j ≠ q.gp ∧ j ≠ q.gG ∧ j ≠ q.gW := fun j hj => by
    rcases HAT.out with e | e
    ·exact P2.own j (e ▸ hj)
    ·have h1 := e j hj
     have h2 : w2.drew.heap.size = w2.heap.size := rfl
     omega
   have f6 := (Frm.refl (· = q.gp) wz).setg (i := 6) v'
   have PA : PathAt B (wz.setCell ⟨q.gp, 6, none⟩ v') q.gp q.gG q.gW q.u q.j q.b (q.s + 1) v' (q.l ++ [(q.s, f, t, x.now)]) := by
    have hz2 : Frm (fun j => q.v.ownBlock = some j) w2 wz := (Frm.refl _ _).drew.trans HZ.out
    refine ⟨by simpa using (P2.blk.frm hz2 (fun e => (P2.own _ e).1 rfl)).set 6 v', (P2.g.frm hz2 (fun e => (P2.own _ e).2.1 rfl)).frm f6 (fun e => n1 e.symm), (P2.wd.frm hz2 (fun e => (P2.own _ e).2.2 rfl)).frm f6 (fun e => n2 e.symm), own_frm HO.out f6 (fun j hj e => (hvn j hj).1 e), ⟨n1, n2, n3⟩, hvn, P2.s0, pg⟩
   have S3 : Stp (fun c => c = k + 10 + i) o2 (ext o2 w2.heap.size v' (k + 10 + i)) w2 (wz.setCell ⟨q.gp, 6, none⟩ v') := ⟨(((Frm.refl _ w2).drew.trans HZ.out).mono (fun j hj => ow2 j (.inr (.inr (.inr hj))))).setCell (.inl (ow2 _ (.inl rfl))) v', ext_agr _ _ _ _⟩
   have C9' : _root_.Go.Proofs.YtdneakejlbabeaaGreat.C9 (ext o2 w2.heap.size v' (k + 10 + i)) k B (wz.setCell ⟨q.gp, 6, none⟩ v') i { q with s := q.s + 1, v := v', l := q.l ++ [(q.s, f, t, x.now)] } := by
    refine ⟨PA, fun j hj => ?_, ?_⟩
    ·rcases hj with hj | hj | hj | hj
     ·rw [ext_agr o2 _ v' _ j (by dsimp only at hj; omega)]; exact ow2 j (.inl hj)
     ·rw [ext_agr o2 _ v' _ j (by dsimp only at hj; omega)]; exact ow2 j (.inr (.inl hj))
     ·rw [ext_agr o2 _ v' _ j (by dsimp only at hj; omega)]; exact ow2 j (.inr (.inr (.inl hj)))
     ·dsimp only at hj
      rcases HAT.out with e | e
      ·rw [e] at hj
       rw [ext_agr o2 _ v' _ j (P2.l.lt j hj).2]
       exact ow2 j (.inr (.inr (.inr hj)))
      ·have h1 : w2.heap.size ≤ j := e j hj
       unfold ext
       rw [if_neg (by omega), if_pos hj]
    ·have h1 := C9.out.l
     have h0 := qs0.out
     have hl0 := (H.out.c9 i q HQ.out).l
     dsimp only
     simp only [List.length_append, List.length_cons, List.length_nil]
     omega
   have X3 := X2.out.put9 HQ2.out S3 (q' := { q with s := q.s + 1, v := v', l := q.l ++ [(q.s, f, t, x.now)] }) rfl C9'
   refine ⟨rfl, _, _, [⟨3, (i : Int), q.s, 0, f, ld, fin, 0, 0⟩], X3, S2.out.trans (S3.mono (fun c hc => by rw [hc]; exact ⟨by omega, by omega⟩)), ⟨rfl, rfl, rfl, by simp, ?_, Nat.le_refl _, fun p hp => by rw [List.mem_singleton.1 hp]; exact Nat.le_trans hld (by omega)⟩, fun _ => by simp⟩
   have h1 := said_set (q' := { q with s := q.s + 1 }) HQ.out
   have h2 := said_set (q' := { q with s := q.s + 1, v := v', l := q.l ++ [(q.s, f, t, x.now)] }) HQ2.out
   have h0 := qs0.out
   dsimp only at h1 h2 ⊢
   simp only [List.length_cons, List.length_nil]
   omega
end

section
theorem said_le : ∀ (ps : List PathV), (∀ (i : Nat) (p : PathV), ps[i]? = some p → p.s ≤ 65536) → said ps ≤ 65536 * ps.length
 | [], _ => by simp [said]
 | p :: ps, h => by
  have h1 := said_le ps (fun i q hi => h (i + 1) q (by simpa using hi))
  have h0 := h 0 p rfl
  unfold said at h1 ⊢
  simp only [List.map_cons, List.sum_cons, List.length_cons]
  omega
theorem EndS.said_le {o : Nat → Nat} {k B : Nat} {w : World} {ge : Nat} {x : EndV} (h : EndS o k B w ge x) : said x.ps ≤ 196608 := by
 have h1 := _root_.Go.Proofs.YtdneakejlbabeaaGreat.said_le x.ps (fun i p hi => (h.c9 i p hi).r.s0.2)
 have := h.np
 omega
theorem EndS.put4 {o o' : Nat → Nat} {k B : Nat} {w w' : World} {ge : Nat} {x : EndV} (h : EndS o k B w ge x) (s : Stp (fun c => c = k) o o' w w') (sent' : Int) (vl' : Value) (lost' : List (Int × Int)) (hb : Blk w' ge (ecs { x with sent := sent', vl := vl', lost := lost' }) 78) (h4 : C4 o' k w' vl' lost') : EndS o' k B w' ge { x with sent := sent', vl := vl', lost := lost' } :=
 have kp := h.kp
 ⟨hb, (s.ag _ h.blk.lt).trans h.og, h.ge, h.kp, h.c1.frm s (by omega), h.c2.frm s (by omega), h.c3.frm s (by omega), h4, h.c5.frm s (by omega), h.c6.frm s (by omega), h.c7.frm s (by omega) (by omega), h.c8.frm s (by omega) (by omega), fun i p hi => (h.c9 i p hi).frm s (by omega), h.np⟩
theorem any_usB {T : Nat → Prop} {w w' : World} {ps : List PathV} (f : Frm T w w') (hl : ∀ q ∈ ps, q.gW < w.heap.size ∧ ¬ T q.gW) : ps.any (usB w') = ps.any (usB w) := by
 induction ps with
 | nil => rfl
 | cons q ps ih =>
  simp only [List.any_cons]
  rw [ih (fun p hp => hl p (by simp [hp])), usB_frm f (hl q (by simp)).1 (hl q (by simp)).2]
def PumpR (o : Nat → Nat) (k B : Nat) (w : World) (ge : Nat) (x : EndV) (e : Ending) (w' : World) : Prop :=
 e = .returned (.tuple #[]) ∧ ∃ (o' : Nat → Nat) (x' : EndV) (d : List Pk), EndS o' k B w' ge x' ∧ Stp (EC k) o o' w w' ∧ Grw x x' d
set_option maxHeartbeats 16000000 in
set_option maxRecDepth 100000 in
theorem pump_any (o : Nat → Nat) (k B N : Nat) (w : World) (ge : Nat) (x : EndV) (h : EndS o k B w ge x) (hok : EOk N x) (hB : B ≤ w.heap.size) :
  Calls Tryz.prog 62 #[.pointer (some ⟨ge, 0, none⟩)] w fun e w' => PumpR o k B w ge x e w' := by
 have H := hid h
 have OK := hid hok
 have kp := h.kp
 have ECk : Hid (∀ c, c = k → EC k c) := hid (fun c hc => by rw [hc]; exact ⟨by omega, by omega⟩)
 clear h hok
 go_enter Tryz.func62, Tryz.ntmps62
 go_wp2_with fail
 go_loopg [] (200000 - said x.ps) (fun gk wr => ∃ (o' : Nat → Nat) (x' : EndV) (d : List Pk), EndS o' k B wr ge x' ∧ Stp (EC k) o o' w wr ∧ Grw x x' d ∧ gk = 200000 - said x'.ps)
 case atStart => exact ⟨o, x, [], H.out, Stp.refl _ _ _, Grw.refl _, rfl⟩
 case round =>
  obtain ⟨o1, x1, d1, hx1, hs1, hg1, hgk⟩ := hrel
  have X1 := hid hx1
  have S1 := hid hs1
  have G1 := hid hg1
  have OK1 := hid (OK.out.grw hg1)
  have HGK := hid hgk
  have sr := hs1.size
  clear hx1 hs1 hg1 hgk
  go_wp2_with fail
  refine (usable_any o1 k B wr ge x1 X1.out).mono ?_
  rintro e w2 ⟨rfl, hb2⟩
  have X2 := hid (X1.out.below hb2)
  have S2 := hid (S1.out.trans (Stp.below hb2))
  have AN := hid (any_usB (ps := x1.ps) (Frm.of_below (S := fun _ => False) hb2) (fun q hq => by
   obtain ⟨i, hi⟩ := List.getElem?_of_mem hq
   exact ⟨(X1.out.c9 i q hi).r.wd.lt, fun h => h⟩))
  clear hb2
  obtain ⟨b, hbb⟩ : ∃ b, x1.ps.any (usB wr) = b := ⟨_, rfl⟩
  rw [hbb] at AN ⊢
  clear hbb
  cases b
  ·go_wp2_with fail
   go_end0
   exact ⟨rfl, o1, x1, d1, X2.out, S2.out, G1.out⟩
  ·have n12 := X2.out.blk.cell 12
   have n11 := X2.out.blk.cell 11
   have n3 := X2.out.blk.cell 3
   simp only [gA, gZ, gC] at n12 n11 n3
   have KE : Hid (w2.drew.cell? ⟨ge, 12, none⟩ = some (.pointer (some ⟨x1.go, 0, none⟩)) ∧ w2.drew.cell? ⟨ge, 11, none⟩ = some (.int .i64 x1.limit) ∧ w2.drew.cell? ⟨ge, 3, none⟩ = some (.int .i64 x1.c3)) := hid ⟨n12, n11, n3⟩
   clear n12 n11 n3
   go_wp2_with fail
   refine wp_region_held_drew (S := fun w' => w'.cell? ⟨ge, 12, none⟩ = some (.pointer (some ⟨x1.go, 0, none⟩)) ∧ w'.cell? ⟨ge, 11, none⟩ = some (.int .i64 x1.limit) ∧ w'.cell? ⟨ge, 3, none⟩ = some (.int .i64 x1.c3)) (by kernel_rfl) KE.out (fun hHeld => ?_)
   refine tk 0 (oi := ⟨some 10, _, _, _, _, _⟩) rfl ?_
   refine tk 1 (oi := ⟨some 11, _, _, _, _, _⟩) rfl ?_
   refine tk 2 (oi := ⟨some 12, _, _, _, _, _⟩) rfl ?_
   refine tk 3 (oi := ⟨some 13, _, _, _, _, _⟩) rfl ?_
   refine tk 4 (oi := ⟨some 14, _, _, _, _, _⟩) rfl ?_
   refine tk 5 (oi := ⟨some 15, _, _, _, _, _⟩) rfl ?_
   refine tk 6 (oi := ⟨some 16, _, _, _, _, _⟩) rfl ?_
   refine tk 7 (oi := ⟨some 17, _, _, _, _, _⟩) rfl ?_
   refine tk 8 (oi := ⟨some 18, _, _, _, _, _⟩) rfl ?_
   refine tk 9 (oi := ⟨some 19, _, _, _, _, _⟩) rfl ?_
   refine tk 10 (oi := ⟨some 20, _, _, _, _, _⟩) rfl ?_
   refine tk 11 (oi := ⟨some 21, _, _, _, _, _⟩) rfl ?_
   refine tk 12 (oi := ⟨some 22, _, _, _, _, _⟩) rfl ?_
   refine tk 13 (oi := ⟨some 23, _, _, _, _, _⟩) rfl ?_
   refine tk 14 (oi := ⟨some 24, _, _, _, _, _⟩) rfl ?_
   refine tk 15 (oi := ⟨some 25, _, _, _, _, _⟩) rfl ?_
   refine rD 16 (o := ⟨some 26, _, _, _, _, _⟩) rfl (fun K hK => ?_)
   go_simp
   obtain ⟨Ab, cb, hvb⟩ := own_slice' X2.out.c3.r.1
   refine (pnext_any w2.drew ge x1.go 13 x1.sent x1.vl x1.lost x1.bu x1.ac Ab x1.ob.length cb x1.cl x1.limit x1.c3 (ecs x1) 78 X2.out.blk rfl rfl (by have := X2.out.c3.blk; rw [hvb] at this; exact this) (fun e => by have h1 := X2.out.c3.og; have h2 := X2.out.og; rw [e] at h2; omega) (fun j hj e => by have h1 := (X2.out.c4.ow j hj).1; have h2 := X2.out.og; rw [e, h2] at h1; omega) X2.out.c4.r X2.out.c4.s (by have := OK1.out.lost; have := OK1.out.N; omega) (by have := OK1.out.ob; omega)).mono ?_
   rintro e w3 ⟨f, t, q, s', v', rs', rfl, hf3, hc3, hr3, hst3, hln3, hnw3⟩
   have S3 : Hid (Stp (fun c => c = k) o1 (ext o1 w2.heap.size v' (k + 4)) w2 w3) := hid ⟨(Frm.refl _ w2).drew.trans (hf3.mono (fun j hj => by rw [hj]; exact X2.out.og)), ext_agr _ _ _ _⟩
   have hb3 := hc3 _ _ X2.out.blk
   have X3 : Hid (EndS (ext o1 w2.heap.size v' (k + 4)) k B w3 ge { x1 with sent := s', vl := v', lost := rs' }) := hid (X2.out.put4 S3.out s' v' rs' (by simpa using hb3) ⟨hr3, fun j hj => by
    rcases hnw3 with e | e
    ·have h1 := X2.out.c4.ow j (e ▸ hj)
     exact ⟨(ext_agr o1 _ v' _ j h1.2).trans h1.1, Nat.lt_of_lt_of_le h1.2 S3.out.size⟩
    ·have h1 := e j hj
     have h2 : w2.drew.heap.size = w2.heap.size := rfl
     unfold ext
     rw [if_neg (by omega), if_pos hj]
     exact ⟨rfl, h1.2⟩, hst3⟩)
   have G3 : Hid (Grw x1 { x1 with sent := s', vl := v', lost := rs' } []) := hid ⟨rfl, by simp, by simp, rfl, by simp, hln3, fun p h => (by cases h)⟩
   have n12 := X3.out.blk.cell 12
   have n11 := X3.out.blk.cell 11
   have n3 := X3.out.blk.cell 3
   simp only [gA, gZ, gC] at n12 n11 n3
   have AN3 := hid (any_usB (ps := x1.ps) S3.out.f (fun q hq => by
    obtain ⟨i, hi⟩ := List.getElem?_of_mem hq
    have h9 := X2.out.c9 i q hi
    refine ⟨h9.r.wd.lt, fun e => ?_⟩
    have := h9.ow q.gW (.inr (.inr (.inl rfl)))
    omega))
   have KE3 := hid (And.intro n12 (And.intro n11 n3))
   obtain ⟨o3, ho3⟩ := lx (ext o1 w2.heap.size v' (k + 4))
   rw [← ho3] at S3 X3
   clear hf3 hc3 hr3 hst3 hln3 hnw3 hb3 hvb n12 n11 n3 ho3
   refine Ko hK KE3.out (fun hHeld => ?_)
   clear hK K
   refine tk 17 (oi := ⟨some 9, _, _, _, _, _⟩) rfl ?_
   refine tk 18 (oi := ⟨some 27, _, _, _, _, _⟩) rfl ?_
   refine tk 19 (oi := ⟨some 28, _, _, _, _, _⟩) rfl ?_
   refine tk 20 (oi := ⟨some 29, _, _, _, _, _⟩) rfl ?_
   refine tk 21 (oi := ⟨some 2, _, _, _, _, _⟩) rfl ?_
   refine tk 22 (oi := ⟨some 3, _, _, _, _, _⟩) rfl ?_
   refine tk 23 (oi := ⟨some 4, _, _, _, _, _⟩) rfl ?_
   refine dn ?_
   clear hHeld
   have S3' := hid (S2.out.trans (S3.out.mono ECk.out))
   cases q
   ·go_wp2_with fail
    refine bodyPost_ret (results_none rfl _ _ _) rfl ?_
    exact ⟨rfl, o3, _, _, X3.out, S3'.out, G1.out.trans G3.out⟩
   ·go_wp2_with fail
    refine (choose_any o3 k B w3 ge _ X3.out).mono ?_
    rintro e w4 ⟨vc, pl, rfl, hvc, hpl3, hmem, hne, hx4, hs4⟩
    obtain ⟨x2, hx2⟩ : ∃ y, y = ({ x1 with sent := s', vl := v', lost := rs' } : EndV) := ⟨_, rfl⟩
    have hps : x2.ps = x1.ps := by rw [hx2]
    rw [← hx2] at X3 G3 hx4 hmem hne
    have X4 := hid hx4
    have S4 := hid (S3'.out.trans (hs4.mono (fun c hc => by rw [hc]; exact ⟨by omega, by omega⟩)))
    have MEM := hid hmem
    have hne2 : pl ≠ [] := hne (by rw [hps, AN3.out, AN.out])
    have hpos : 0 < pl.length := List.length_pos_iff.2 hne2
    have OWC : Hid (Ow (scr o3 w3.heap.size 0) w4 0 vc) := hid (fun j hj => ⟨scr_new (hvc.lt j hj).1, (hvc.lt j hj).2⟩)
    have VC := hid hvc
    obtain ⟨Ac, cc, rfl⟩ := own_slice' hvc
    obtain ⟨m, hm⟩ : ∃ m, pl.length = m := ⟨_, rfl⟩
    rw [hm] at hpl3 hpos VC OWC
    rw [hm]
    have HM := hid hm
    clear hvc hmem hne hx4 hs4 hne2 hm hx2
    go_wp2_with fail
    go_loopw [35] (fun i ws => ∃ (j : Nat) (o' : Nat → Nat) (x' : EndV) (d : List Pk), j ≤ m ∧ i = .int .i64 j ∧ EndS o' k B ws ge x' ∧ Stp (EC k) o o' w ws ∧ Grw x2 x' d ∧ (0 < j → d ≠ []) ∧ (j = 0 → x' = x2) ∧ ws.ownsRow w3.heap.size 3 1 (.slice Ac m cc) m (i64s pl) ∧ Ow o' ws 0 (.slice Ac m cc)) (fun i _ => m - (intOf i).toNat)
    case atStart => exact ⟨0, _, x2, [], Nat.zero_le _, rfl, X4.out, S4.out, Grw.refl _, (fun h => absurd h (by omega)), (fun _ => rfl), VC.out, OWC.out⟩
    case round =>
     obtain ⟨j, o5, x5, d5, hj, rfl, hx5, hs5, hg5, hd5, h05, hv5, how5⟩ := hrel
     have X5 := hid hx5
     have S5 := hid hs5
     have G5 := hid hg5
     have V5 := hid hv5
     have OW5 := hid how5
     have D5 := hid hd5
     have Z5 := hid h05
     have OK5 := hid (OK1.out.grw (G3.out.trans hg5))
     have s5 := hs5.size
     clear hx5 hs5 hg5 hv5 how5 hd5 h05
     by_cases hjm : j < m
     ·have j0 : (0 : Int) ≤ (j : Int) := by omega
      have j1 : (j : Int) < (m : Int) := by omega
      have iwj : IntKind.i64.wrap ((j : Int) + 1) = (j : Int) + 1 := iX
      obtain ⟨ad, hA, dj⟩ := Sl.at_ (Sl.of_own V5.out (i64s_one pl)) hjm
      rw [i64s_getD pl j (by have := HM.out; omega)] at dj
      subst hA
      have hy : pl.getD j 0 ∈ pl := by
       rw [List.getD_eq_getElem?_getD, List.getElem?_eq_getElem (by have := HM.out; omega)]
       exact List.getElem_mem _
      obtain ⟨i, q, hyi, hq, hus⟩ := MEM.out _ hy
      rw [hyi] at dj
      have hil := (List.getElem?_eq_some_iff.1 hq).1
      obtain ⟨q5, hq5⟩ : ∃ q5, x5.ps[i]? = some q5 := ⟨_, List.getElem?_eq_getElem (by have := G5.out.n; omega)⟩
      have hl5 : q5.l.length ≤ 100000000 := by
       have h1 := (X5.out.c9 i q5 hq5).l
       have h2 := (X5.out.c9 i q5 hq5).r.s0
       omega
      have he5 := OK5.out.es
      have ho5 := OK5.out.outs
      have hN5 := OK5.out.N
      have hsl := X5.out.said_le
      have HQS : Hid (j = 0 → q5.s ≤ 65535) := hid (fun e => by
       rw [Z5.out e, hq] at hq5
       injection hq5 with hq5
       rw [← hq5]
       unfold usB at hus
       simp only [Bool.and_eq_true, decide_eq_true_eq] at hus
       exact hus.2)
      have DA : Hid (Calls Tryz.prog 92 #[.pointer (some ⟨ge, 0, none⟩), .int .i64 (i : Int), .int .i64 f, .int .i64 t] wr fun e w' => DataR o5 k B wr ge x5 i q5 e w') := hid (data_any o5 k B wr ge x5 i q5 f t X5.out (Nat.le_trans hB s5) hq5 OK5.out.ob (by omega) (by omega) hl5)
      clear hy hyi hq hus hil hq5 hl5 he5 ho5 hN5 hsl
      go_wp2_with fail
      refine DA.out.mono ?_
      rintro e w6 ⟨rfl, o6, x6, d6, hx6, hs6, hg6, hd6⟩
      have REL : Hid (EndS o6 k B w6 ge x6 ∧ Stp (EC k) o o6 w w6 ∧ Grw x2 x6 (d5 ++ d6) ∧ (0 < j + 1 → d5 ++ d6 ≠ []) ∧ (j + 1 = 0 → x6 = x2) ∧ w6.ownsRow w3.heap.size 3 1 (.slice (some ad) m cc) m (i64s pl) ∧ Ow o6 w6 0 (.slice (some ad) m cc)) := hid ⟨hx6, S5.out.trans hs6, G5.out.trans hg6, fun _ e => by
       rcases Nat.eq_zero_or_pos j with h0 | h0
       ·exact hd6 (HQS.out h0) (List.append_eq_nil_iff.1 e).2
       ·exact D5.out h0 (List.append_eq_nil_iff.1 e).1, (fun e => by omega), own_frm V5.out hs6.f (fun y hy he => by have h1 := (OW5.out y hy).1; have h2 : EC k (o5 y) := he; rw [h1] at h2; have := h2.1; omega), OW5.out.frm hs6.ag hs6.size⟩
      clear hx6 hs6 hg6 hd6
      go_wp2_with fail
      go_roundw
      case rel => exact ⟨j + 1, o6, x6, d5 ++ d6, hjm, by go_num, REL.out⟩
      case measure => simp [intOf]; omega
     ·have j1 : ¬ (j : Int) < (m : Int) := by omega
      obtain rfl : j = m := by omega
      have hdd := D5.out hpos
      have FIN : Hid (said x1.ps < said x5.ps ∧ said x5.ps ≤ 196608) := hid (by
       have h1 := G5.out.s
       have h2 := List.length_pos_iff.2 hdd
       rw [hps] at h1
       have := X5.out.said_le
       exact ⟨by omega, this⟩)
      clear hdd
      go_wp2_with fail
      go_roundg (200000 - said x5.ps)
      case measure => have := FIN.out; have := HGK.out; omega
      case rel => exact ⟨o5, x5, _, X5.out, S5.out, (G1.out.trans G3.out).trans G5.out, rfl⟩
end

section
section
variable {o o' : Nat → Nat} {k B : Nat} {w w' : World} {ge : Nat} {x : EndV}
theorem EndS.put3 (h : EndS o k B w ge x) (s : Stp (fun c => c = k + 3) o o' w w') {bu' ac' : Int} {vb' : Value} {ob' : List Int} {cl' : Bool} (h3 : C3 o' k B w' x.go bu' ac' vb' ob' cl') : EndS o' k B w' ge { x with bu := bu', ac := ac', vb := vb', ob := ob', cl := cl' } :=
 have kp := h.kp
 ⟨h.blk.frm s.f (fun e => by have := h.og; omega), (s.ag _ h.blk.lt).trans h.og, h.ge, h.kp, h.c1.frm s (by omega), h.c2.frm s (by omega), h3, h.c4.frm s (by omega), h.c5.frm s (by omega), h.c6.frm s (by omega), h.c7.frm s (by omega) (by omega), h.c8.frm s (by omega) (by omega), fun i p hi => (h.c9 i p hi).frm s (by omega), h.np⟩
theorem EndS.put5 (h : EndS o k B w ge x) (s : Stp (fun c => c = k + 5) o o' w w') {wi' : Int} {ta' : Nat} {en' : Int} {vib' : Value} {ib' : List Int} {vg' : Value} {got' : List (Int × Int)} (h5 : C5 o' k B w' x.gi wi' ta' en' vib' ib' vg' got') : EndS o' k B w' ge { x with wi := wi', ta := ta', en := en', vib := vib', ib := ib', vg := vg', got := got' } :=
 have kp := h.kp
 ⟨h.blk.frm s.f (fun e => by have := h.og; omega), (s.ag _ h.blk.lt).trans h.og, h.ge, h.kp, h.c1.frm s (by omega), h.c2.frm s (by omega), h.c3.frm s (by omega), h.c4.frm s (by omega), h5, h.c6.frm s (by omega), h.c7.frm s (by omega) (by omega), h.c8.frm s (by omega) (by omega), fun i p hi => (h.c9 i p hi).frm s (by omega), h.np⟩
theorem EndS.put2 (h : EndS o k B w ge x) (s : Stp (fun c => c = k + 2) o o' w w') {due' : List Int} (h2 : C2 o' k B w' x.vD due') : EndS o' k B w' ge { x with due := due' } :=
 have kp := h.kp
 ⟨h.blk.frm s.f (fun e => by have := h.og; omega), (s.ag _ h.blk.lt).trans h.og, h.ge, h.kp, h.c1.frm s (by omega), h2, h.c3.frm s (by omega), h.c4.frm s (by omega), h.c5.frm s (by omega), h.c6.frm s (by omega), h.c7.frm s (by omega) (by omega), h.c8.frm s (by omega) (by omega), fun i p hi => (h.c9 i p hi).frm s (by omega), h.np⟩
end
/-- The packets sent among events. -/
def sents : List Ev → List Pk
 | [] => []
 | e :: l => if e.kind = 5 then e.pk :: sents l else sents l
theorem sents_app : ∀ (a b : List Ev), sents (a ++ b) = sents a ++ sents b
 | [], b => rfl
 | e :: a, b => by simp only [List.cons_append, sents, sents_app a b]; split <;> rfl
theorem sents_map (d : List Pk) : sents (d.map fun p => (⟨5, 0, [], p⟩ : Ev)) = d := by
 induction d with
 | nil => rfl
 | cons p d ih => simp only [List.map_cons, sents, if_true, ih]
/-- An end that acted: its new events, what it said. -/
structure Act (N : Nat) (x x' : EndV) (d : List Ev) : Prop where
 es : x'.es = x.es ++ d
 outs : x'.outs = x.outs ++ sents d
 ok : EOk N x'
 side : x'.side = x.side
 sm : ∀ e ∈ d, e.data.length ≤ 1000000 ∧ e.pk.data.length ≤ 1000000
theorem Act.pump {N : Nat} {x y z : EndV} {d : List Ev} {p : List Pk} (h : Act N x y d) (g : Grw y z p) : Act N x z (d ++ p.map fun p => ⟨5, 0, [], p⟩) :=
 ⟨by rw [g.es, h.es]; simp, by rw [g.outs, h.outs, sents_app, sents_map]; simp, h.ok.grw g, by rw [g.e]; exact h.side, fun e he => (List.mem_append.1 he).elim (h.sm e) (fun he => by obtain ⟨p, hp, rfl⟩ := List.mem_map.1 he; exact ⟨Nat.zero_le _, g.sm p hp⟩)⟩
/-- What taking leaves. -/
def ETakeR (o : Nat → Nat) (k B : Nat) (w : World) (ge : Nat) (x : EndV) (e : Ending) (w' : World) : Prop :=
 e = .returned x.vO ∧ EndS (fun j => if x.vO.ownBlock = some j then 0 else o j) k B w' ge { x with vO := .slice none 0 0, outs := [] } ∧ PkRow o B w x.vO x.outs ∧ w' = w.setCell ⟨ge, 18, none⟩ (.slice none 0 0)
theorem etake_any (o : Nat → Nat) (k B : Nat) (w : World) (ge : Nat) (x : EndV) (h : EndS o k B w ge x) :
  Calls Tryz.prog 50 #[.pointer (some ⟨ge, 0, none⟩)] w fun e w' => e = .returned x.vO ∧ w' = w.setCell ⟨ge, 18, none⟩ (.slice none 0 0) := by
 have n18 := h.blk.cell 18
 have y18 := h.blk.free 18
 simp only [gA, gZ, gC] at n18
 obtain ⟨A, c, hv⟩ := h.c8.r.form
 rw [hv] at n18 ⊢
 clear h hv
 go_enter Tryz.func50, Tryz.ntmps50
 go_wp2_with fail
 go_ret
 exact ⟨rfl, rfl⟩
/-- What a call on an end leaves. -/
def CallR (o : Nat → Nat) (k B N : Nat) (w : World) (ge : Nat) (x : EndV) (w' : World) : Prop :=
 ∃ (o' : Nat → Nat) (x' : EndV) (d : List Ev), EndS o' k B w' ge x' ∧ Stp (EC k) o o' w w' ∧ Act (N + 500000) x x' d ∧ ∀ e ∈ d, e.kind ≠ 4
theorem Act.refl {N : Nat} {x : EndV} (h : EOk N x) (hN : N + 500000 ≤ 40000000) : Act (N + 500000) x x [] := by
 obtain ⟨h1, h2, h3, h4, h5, h6, h7, h8, h9, h10⟩ := h
 exact ⟨by simp, by simp [sents], ⟨h1, h2, h3, h4, h5, by omega, by omega, by omega, by omega, hN⟩, rfl, fun e h => (by cases h)⟩
theorem CallR.pump {o : Nat → Nat} {k B N : Nat} {w : World} {ge : Nat} {x : EndV} {w' w'' : World} {o' : Nat → Nat} {x' : EndV} {d : List Ev} {e : Ending} (hs : Stp (EC k) o o' w w') (ha : Act (N + 500000) x x' d) (hd : ∀ e ∈ d, e.kind ≠ 4) (hp : PumpR o' k B w' ge x' e w'') : CallR o k B N w ge x w'' := by
 obtain ⟨_, o2, x2, p, hx2, hs2, hg2⟩ := hp
 refine ⟨o2, x2, _, hx2, hs.trans hs2, ha.pump hg2, fun e he => ?_⟩
 rcases List.mem_append.1 he with h | h
 ·exact hd e h
 ·obtain ⟨p, _, rfl⟩ := List.mem_map.1 h
  simp
set_option maxHeartbeats 4000000 in
set_option maxRecDepth 100000 in
theorem close_any (o : Nat → Nat) (k B N : Nat) (w : World) (ge : Nat) (x : EndV) (h : EndS o k B w ge x) (hok : EOk N x) (hN : N + 500000 ≤ 40000000) (hB : B ≤ w.heap.size) :
  Calls Tryz.prog 42 #[.pointer (some ⟨ge, 0, none⟩)] w fun e w' => ∃ q : Bool, e = .returned (.bool q) ∧ CallR o k B N w ge x w' := by
 have H := hid h
 have OK := hid hok
 have kp := h.kp
 have n12 := h.blk.cell 12
 have g3 := h.c3.blk.cell 3
 have y3 := h.c3.blk.free 3
 simp only [gA, gZ, gC] at n12 g3
 have hsl := h.said_le
 have hes := hok.es
 have hNN := hok.N
 clear h hok
 rcases hcl : x.cl with _ | _
 ·rw [hcl] at g3
  go_enter Tryz.func42, Tryz.ntmps42
  go_wp2_with fail
  have S1 : Stp (fun c => c = k + 3) o o w (w.setCell ⟨x.go, 3, none⟩ (.bool true)) := ⟨(Frm.refl _ _).setCell (.inl H.out.c3.og) _, Agr.refl _ _⟩
  have f1 := (Frm.refl (· = x.go) w).setg (i := 3) (.bool true)
  have X1 := hid (H.out.put3 S1 (bu' := x.bu) (ac' := x.ac) (vb' := x.vb) (ob' := x.ob) (cl' := true) ⟨by simpa using H.out.c3.blk.set 3 (.bool true), H.out.c3.r.frm f1 (fun j hj e => H.out.c3.ne j hj e), H.out.c3.ow.frm (Agr.refl _ _) f1.size, H.out.c3.og, H.out.c3.ge, H.out.c3.ne⟩)
  have T1 : Hid (Stp (EC k) o o w (w.setCell ⟨x.go, 3, none⟩ (.bool true))) := hid (S1.mono (fun c hc => by rw [hc]; exact ⟨by omega, by omega⟩))
  obtain ⟨w1, hw1⟩ := lx (w.setCell ⟨x.go, 3, none⟩ (.bool true))
  rw [← hw1] at X1 T1 ⊢
  clear S1 f1 hw1
  refine (event_any o k B w1 ge _ ⟨6, 0, [], ⟨0, 0, 0, 0, 0, [], false, 0, 0⟩⟩ (.slice none 0 0) (.slice none 0 0) X1.out (Nat.le_trans hB T1.out.size) ⟨BV.nil _ _, BV.nil _ _⟩ (by dsimp only; omega)).mono ?_
  rintro e w2 ⟨rfl, o2, vE, m0, hx2, hs2⟩
  have X2 := hid hx2
  have T2 := hid (T1.out.trans (hs2.mono (fun c hc => by rcases hc with rfl | rfl; exact ⟨by omega, by omega⟩; exact ⟨by omega, by omega⟩)))
  clear hx2 hs2
  have OK2 : Hid (Act (N + 500000) x { x with cl := true, vE := vE, es := x.es ++ [⟨6, 0, [], ⟨0, 0, 0, 0, 0, [], false, 0, 0⟩⟩], m0 := m0 } [⟨6, 0, [], ⟨0, 0, 0, 0, 0, [], false, 0, 0⟩⟩]) := hid (by
   obtain ⟨h1, h2, h3, h4, h5, h6, h7, h8, h9, h10⟩ := OK.out
   exact ⟨rfl, by simp [sents], ⟨h1, h2, h3, h4, h5, by dsimp only; omega, by dsimp only; omega, by simp; omega, by dsimp only; omega, hN⟩, rfl, fun e he => by rw [List.mem_singleton.1 he]; exact ⟨Nat.zero_le _, Nat.zero_le _⟩⟩)
  go_wp2_with fail
  refine (pump_any o2 k B _ w2 ge _ X2.out OK2.out.ok (Nat.le_trans hB T2.out.size)).mono ?_
  intro e w3 hp
  have HP := hid (CallR.pump T2.out OK2.out (by intro e he; rw [List.mem_singleton] at he; subst he; simp) hp)
  obtain ⟨rfl, _⟩ := hp
  go_wp2_with fail
  go_ret
  exact ⟨_, rfl, HP.out⟩
 ·rw [hcl] at g3
  go_enter Tryz.func42, Tryz.ntmps42
  go_wp2_with fail
  go_ret
  exact ⟨_, rfl, o, x, [], H.out, Stp.refl _ _ _, Act.refl OK.out hN, fun e h => by cases h⟩
end

section
def noPk : Pk := ⟨0, 0, 0, 0, 0, [], false, 0, 0⟩
set_option maxHeartbeats 8000000 in
set_option maxRecDepth 100000 in
theorem ewrite_any (o : Nat → Nat) (k B N : Nat) (w : World) (ge : Nat) (x : EndV) (v : Value) (l : List Int) (h : EndS o k B w ge x) (hok : EOk N x) (hN : N + 500000 ≤ 40000000) (hB : B ≤ w.heap.size) (hv : BV w (frozen o) v l) (hl : l.length ≤ 1000000) :
  Calls Tryz.prog 40 #[.pointer (some ⟨ge, 0, none⟩), v] w fun e w' => ∃ n : Int, e = .returned (.int .i64 n) ∧ CallR o k B N w ge x w' := by
 have H := hid h
 have OK := hid hok
 have HV := hid hv
 have HI := hid Tryz.info5
 have kp := h.kp
 have n12 := h.blk.cell 12
 simp only [gA, gZ, gC] at n12
 have hsl := h.said_le
 have hes := hok.es
 have hNN := hok.N
 have hob := hok.ob
 obtain ⟨Ab, cb, hvb⟩ := own_slice' h.c3.r.1
 have OB : Hid (ObC w x.go x.bu x.ac Ab x.ob.length cb x.cl) := hid (by have := h.c3.blk; rw [hvb] at this; exact this)
 have OV : Hid (w.ownsRow B 5 1 (.slice Ab x.ob.length cb) x.ob.length (u8s x.ob)) := hid (by have := h.c3.r.1; rw [hvb] at this; exact this)
 have hne : Hid (∀ j, (Value.slice Ab x.ob.length cb).ownBlock = some j → j ≠ x.go) := hid (fun j hj => h.c3.ne j (by rw [hvb]; exact hj))
 have HVB := hid hvb
 obtain ⟨Av, cv, rfl, hlc, hcm⟩ := hv.len
 clear h hok hvb hv
 go_enter Tryz.func40, Tryz.ntmps40
 go_wp2_with fail
 refine (owrite_any w B x.go x.bu x.ac Ab cb x.ob x.cl _ _ l OB.out OV.out hB hne.out HV.out hob hl).mono ?_
 rintro e w1 ⟨n, A', c', hn1, hn2, rfl, hob1, hown1, hf1, hat1⟩
 have S1 : Stp (fun c => c = k + 3) o (ext o w.heap.size (.slice A' (x.ob.length + n) c') (k + 3)) w w1 := ⟨hf1.mono (fun j hj => by
  rcases hj with rfl | hj
  ·exact H.out.c3.og
  ·exact (H.out.c3.ow j (by rw [HVB.out]; exact hj)).1), ext_agr _ _ _ _⟩
 have hlen : (x.ob ++ l.take n).length = x.ob.length + n := by rw [List.length_append, List.length_take]; omega
 have OW1 : Ow (ext o w.heap.size (.slice A' (x.ob.length + n) c') (k + 3)) w1 (k + 3) (.slice A' (x.ob.length + n) c') := ext_ow (v := x.vb) H.out.c3.ow (by rw [HVB.out]; exact hat1) (fun j hj => (hown1.lt j hj).2)
 have X1 := hid (H.out.put3 S1 (bu' := x.bu) (ac' := x.ac) (vb' := .slice A' (x.ob.length + n) c') (ob' := x.ob ++ l.take n) (cl' := x.cl) ⟨hob1, ⟨by rw [hlen]; exact hown1, fun y hy => by
   rcases List.mem_append.1 hy with hy | hy
   ·exact H.out.c3.r.2 y hy
   ·exact HV.out.byt y (List.mem_of_mem_take hy)⟩, OW1, (S1.ag _ H.out.c3.blk.lt).trans H.out.c3.og, H.out.c3.ge, fun j hj e => by
   rcases hat1 with e1 | e1
   ·exact hne.out j (e1 ▸ hj) e
   ·have h1 := e1 j hj
    have h2 := H.out.c3.blk.lt
    omega⟩)
 have T1 := hid (S1.mono (D := EC k) (fun c hc => by rw [hc]; exact ⟨by omega, by omega⟩))
 have V1 : Hid (BV w1 (frozen (ext o w.heap.size (.slice A' (x.ob.length + n) c') (k + 3))) (.slice Av l.length cv) l) := hid (((HV.out.mono (S' := fun j => frozen o j ∧ j < w.heap.size) (fun j hj hl => ⟨hj, hl⟩)).frm S1.f (fun j hj e => by have h1 : o j = 0 := hj.1; omega)).mono (fun j hj _ => frozen_ag S1.ag j hj.1 hj.2))
 obtain ⟨o1, ho1⟩ := lx (ext o w.heap.size (.slice A' (x.ob.length + n) c') (k + 3))
 obtain ⟨vb1, hvb1⟩ := lx (Value.slice A' (x.ob.length + n) c')
 rw [← ho1] at X1 T1 V1
 rw [← hvb1] at X1
 have s1 := hf1.size
 clear hob1 hown1 hf1 hat1 S1 OW1 ho1 hvb1 OB OV hne
 have OK1 : Hid (EOk N { x with bu := x.bu, ac := x.ac, vb := vb1, ob := x.ob ++ l.take n, cl := x.cl }) := hid (by
  obtain ⟨h1, h2, h3, h4, h5, h6, h7, h8, h9, h10⟩ := OK.out
  exact ⟨h1, h2, h3, h4, by dsimp only; omega, h6, h7, h8, h9, h10⟩)
 rcases Nat.eq_zero_or_pos n with h0 | h0
 ·subst h0
  go_wp2_with fail
  go_ret
  obtain ⟨h1, h2, h3, h4, h5, h6, h7, h8, h9, h10⟩ := OK1.out
  exact ⟨_, rfl, o1, _, [], X1.out, T1.out, ⟨by simp, by simp [sents], ⟨h1, h2, h3, h4, h5, by omega, by omega, by omega, by omega, hN⟩, rfl, fun e h => (by cases h)⟩, fun e h => by cases h⟩
 ·have n0 : (0 : Int) < (n : Int) := by omega
  have i0 : (0 : Int) ≤ (n : Int) := by omega
  have i1 : (n : Int) ≤ (l.length : Int) := by omega
  have i2 : (n : Int) ≤ (cv : Int) := by omega
  have VT := hid (V1.out.take (m := n) hn1)
  have hlt : (l.take n).length = n := by rw [List.length_take]; omega
  have HLT := hid hlt
  have HS : Hid (Sl w1 1 (.slice Av n cv) n (u8s (l.take n))) := hid (by have := VT.out.sl; rw [hlt] at this; exact this)
  clear hlt
  go_wp2_with (at_builtin; refine wp_app w1.heap.size rfl _ _ 25 5 (.int .u8 0) 1 1 rfl Tryz.underlying25 HI.out rfl (by omega) (by omega) rfl rfl (World.ownsRow_nil _ _ _ _) HS.out (by omega) (Nat.le_refl _) ?_; intro v7 w7 hown hfr hat; simp only [Nat.zero_add, List.nil_append] at hown; have O7 := hid hown; have B7 : Hid (Below w1.heap.size w1 w7) := hid (Frm.below (Below.refl _ _) hfr (Nat.le_refl _) (fun g hg => by cases hg)); obtain ⟨A7, c7, rfl⟩ := own_slice' hown; clear hown hfr hat)
  have S7 : Stp (fun _ => False) o1 (scr o1 w1.heap.size 0) w1 w7 := ⟨Frm.of_below B7.out, scr_agr _ _ _⟩
  have X7 := hid (X1.out.frm S7 (fun h => h) (fun _ h => h.elim))
  have T7 := hid (T1.out.trans (S7.mono (fun _ h => h.elim)))
  have D7 : Hid (BV w7 (frozen (scr o1 w1.heap.size 0)) (.slice A7 n c7) (l.take n)) := hid (by
   have hb : BO w1.heap.size w7 (.slice A7 n c7) (l.take n) := ⟨by rw [HLT.out]; exact O7.out, fun y hy => HV.out.byt y (List.mem_of_mem_take hy)⟩
   exact hb.bv.mono (fun j hj _ => scr_new hj))
  (try go_wp2_with fail)
  refine (event_any _ k B w7 ge _ ⟨1, 0, l.take n, noPk⟩ (.slice A7 n c7) (.slice none 0 0) X7.out (Nat.le_trans hB T7.out.size) ⟨D7.out, BV.nil _ _⟩ (by dsimp only; omega)).mono ?_
  rintro e w2 ⟨rfl, o2, vE, m0, hx2, hs2⟩
  have X2 := hid hx2
  have T2 := hid (T7.out.trans (hs2.mono (fun c hc => by rcases hc with rfl | rfl; exact ⟨by omega, by omega⟩; exact ⟨by omega, by omega⟩)))
  clear hx2 hs2 S7
  have n24 := X2.out.blk.cell 24
  have y24 := X2.out.blk.free 24
  simp only [gA, gZ, gC] at n24
  obtain ⟨mm, hmm⟩ : ∃ m, IntKind.i64.wrap (x.m5 + (n : Int)) = m := ⟨_, rfl⟩
  go_wp2_with fail
  refine wp_region_still_tail (id := 4) 10 (by kernel_rfl) (by kernel_rfl) ?_
  change wpStill _ _ (World.drew _) (fun a' => wpList _ _ _ _ a' (World.drew _)) _ _
  simp only [List.take_succ_cons, List.take_zero, List.drop_succ_cons, List.drop_zero]
  repeat still_step
  refine wpStill_nil ?_
  go_wp2_with fail
  obtain ⟨wa, hwa⟩ := lx ((w2.setCell ⟨ge, 24, none⟩ (.int .i64 mm)).drew)
  have SA : Stp (fun c => c = k) o2 o2 w2 wa := by rw [hwa]; exact ⟨((Frm.refl _ _).setCell (.inl X2.out.og) _).drew, Agr.refl _ _⟩
  have XA := hid (X2.out.putI SA x.now x.limit x.sent m0 x.m1 x.m2 x.m3 x.m4 mm x.m6 x.m7 (by rw [hwa]; exact Blk.drew (by simpa using X2.out.blk.set 24 (.int .i64 mm))))
  have TA := hid (T2.out.trans (SA.mono (fun c hc => by rw [hc]; exact ⟨by omega, by omega⟩)))
  rw [← hwa]
  clear hwa SA n24 y24 hmm
  have AC : Hid (Act (N + 500000) x { x with bu := x.bu, ac := x.ac, vb := vb1, ob := x.ob ++ l.take n, cl := x.cl, vE := vE, es := x.es ++ [⟨1, 0, l.take n, noPk⟩], now := x.now, limit := x.limit, sent := x.sent, m0 := m0, m1 := x.m1, m2 := x.m2, m3 := x.m3, m4 := x.m4, m5 := mm, m6 := x.m6, m7 := x.m7 } [⟨1, 0, l.take n, noPk⟩]) := hid (by
   obtain ⟨h1, h2, h3, h4, h5, h6, h7, h8, h9, h10⟩ := OK1.out
   exact ⟨rfl, by simp [sents], ⟨h1, h2, h3, h4, h5, by dsimp only at h6 ⊢; omega, by dsimp only at h7 ⊢; omega, by simp; omega, by dsimp only at h9 ⊢; omega, hN⟩, rfl, fun e he => by rw [List.mem_singleton.1 he]; exact ⟨Nat.le_trans (List.length_take_le _ _) (by omega), Nat.zero_le _⟩⟩)
  refine (pump_any o2 k B _ wa ge _ XA.out AC.out.ok (Nat.le_trans hB TA.out.size)).mono ?_
  intro e w3 hp
  have HP := hid (CallR.pump TA.out AC.out (by intro e he; rw [List.mem_singleton] at he; subst he; simp) hp)
  obtain ⟨rfl, _⟩ := hp
  go_wp2_with fail
  go_ret
  exact ⟨_, rfl, HP.out⟩
end
end Go.Proofs.YtdneakejlbabeaaGreat
