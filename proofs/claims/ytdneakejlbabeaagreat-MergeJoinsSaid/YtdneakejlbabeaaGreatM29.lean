/- Parts of the walk: Jr, Do. -/
import Derived.Test.YtdneakejlbabeaaGreatM00
import Derived.Test.YtdneakejlbabeaaGreatM28
import Derived.Test.YtdneakejlbabeaaGreatM15
namespace Go.Proofs.YtdneakejlbabeaaGreat
open Go.RowKit
set_option linter.unusedVariables false
set_option linter.unusedSimpArgs false
section
attribute [local go_sem] run_max2' run_min2' run_max_ run_min_
theorem EndS.nvP {o o' : Nat → Nat} {k B : Nat} {w w' : World} {ge : Nat} {x y : EndV} (h : EndS o k B w ge x) (h' : EndS o' k B w' ge y) (e : y.vP = x.vP) : y.ps.length = x.ps.length := by
 obtain ⟨A, c, h1, _⟩ := h.c1.r.len
 obtain ⟨A', c', h2, _⟩ := h'.c1.r.len
 rw [e, h1] at h2
 injection h2 with _ h2 _
 exact h2.symm
/-- Paths below j have been asked. -/
def TickI (o : Nat → Nat) (k B N : Nat) (w : World) (ge : Nat) (x : EndV) (t : Int) (j : Nat) (wr : World) : Prop :=
 ∃ (o' : Nat → Nat) (y : EndV) (d : List Ev), EndS o' k B wr ge y ∧ Stp (EC k) o o' w wr ∧ Act (N + 500000) x y d ∧ (∀ e ∈ d, e.kind ≠ 4) ∧ y.vP = x.vP ∧ y.lost.length ≤ N + 65536 * j ∧ y.now = t
theorem TickI.join {o : Nat → Nat} {k B N : Nat} {w : World} {ge : Nat} {x y : EndV} {t : Int} {j i : Nat} {o' : Nat → Nat} {wr w' : World} {d : List Ev} {e : Ending} (hs : Stp (EC k) o o' w wr) (ha : Act (N + 500000) x y d) (hd : ∀ e ∈ d, e.kind ≠ 4) (hv : y.vP = x.vP) (hl : y.lost.length ≤ N + 65536 * j) (hn : y.now = t)
  (hj : EJoinR o' k B wr ge y i e w') : e = .returned (.tuple #[]) ∧ TickI o k B N w ge x t (j + 1) w' := by
 obtain ⟨h0, o2, x1, p, n, h1, h2, h3⟩ := hj
 refine ⟨h0, o2, _, _, h1, hs.trans h2, ha.join h3 i n, fun e he => ?_, ?_, ?_, ?_⟩
 ·rcases List.mem_append.1 he with h | h
  ·exact hd e h
  ·obtain ⟨p, _, rfl⟩ := List.mem_map.1 h
   intro h4
   cases h4
 ·rw [← hv, h3.e]
 ·have := h3.lost
  dsimp only
  omega
 ·rw [← hn, h3.e]
theorem TickI.late {o : Nat → Nat} {k B N : Nat} {w : World} {ge : Nat} {x y : EndV} {t : Int} {j i n : Nat} {o' o2 : Nat → Nat} {wr w2 w' : World} {d : List Ev} {e : Ending} {q q' : PathV} (hN : N + 500000 ≤ 40000000) (hj3 : j + 1 ≤ 3) (hs : Stp (EC k) o o' w wr) (ha : Act (N + 500000) x y d) (hd : ∀ e ∈ d, e.kind ≠ 4) (hv : y.vP = x.vP) (hl : y.lost.length ≤ N + 65536 * j) (hn : y.now = t)
  (hq : y.ps[i]? = some q) (hqs : q'.s = q.s) (hs2 : Stp (EC k) o' o2 wr w2) (hn1 : n ≤ 65536) (hg : GivenR o2 k B w2 ge { y with ps := y.ps.set i q' } n e w') : e = .returned (.tuple #[]) ∧ TickI o k B N w ge x t (j + 1) w' := by
 obtain ⟨h0, o3, vl, lost, m, h1, h2, h3⟩ := hg
 dsimp only at h3
 have kp := h1.kp
 refine ⟨h0, o3, _, d, h1, (hs.trans hs2).trans (h2.mono (fun c hc => by rw [hc]; exact ⟨by omega, by omega⟩)), ?_, hd, hv, by dsimp only; omega, hn⟩
 have ok := ha.ok.path (q' := q') hq hqs
 have ok2 := ok.putL vl lost m (M := N + 500000) (by omega) (Nat.le_refl _) hN
 exact ⟨ha.es, ha.outs, ok2, ha.side, ha.sm⟩
/-- A packet said, and noted as out. -/
theorem AddR.grw {o o2 : Nat → Nat} {k B : Nat} {w w2 w3 : World} {ge : Nat} {x : EndV} {i : Nat} {q : PathV} {p : Pk} {vE vO : Value} {m0 m1 m2 f t now : Int} {e : Ending} (hX : EndS o k B w ge x) (hB : B ≤ w.heap.size) (hi : x.ps[i]? = some q) (hp : p.data.length ≤ 1000000) (S2 : Stp (EC k) o o2 w w2)
  (X2 : EndS o2 k B w2 ge { x with ps := x.ps.set i { q with s := q.s + 1 }, vE := vE, es := x.es ++ [sentE p q.s], vO := vO, outs := x.outs ++ [{ p with number := q.s }], m0 := m0, m1 := m1, m2 := m2 })
  (ha : AddR w2.drew B q.gp 6 q.v q.l (q.s, f, t, now) e w3) : ∃ (b : Bool) (o3 : Nat → Nat) (x3 : EndV) (d : List Pk), e = .returned (.bool b) ∧ EndS o3 k B w3 ge x3 ∧ Stp (EC k) o o3 w w3 ∧ Grw x x3 d := by
 have qs0 := (hX.c9 i q hi).r.s0.1
 have hil := (List.getElem?_eq_some_iff.1 hi).1
 have np := hX.np
 have hq2 : (x.ps.set i { q with s := q.s + 1 })[i]? = some { q with s := q.s + 1 } := by rw [List.getElem?_set, if_pos rfl, if_pos hil]
 have C9 := X2.c9 i _ hq2
 have P2 := C9.r
 have ow2 := C9.ow
 have s2 := S2.size
 dsimp only at P2 ow2
 have hsd : said (x.ps.set i { q with s := q.s + 1 }) = said x.ps + 1 := by have := said_set (q' := { q with s := q.s + 1 }) hi; dsimp only at this ⊢; omega
 rcases ha with ⟨rfl, hb3⟩ | ⟨rfl, v', wz, hfz, rfl, hov, hat⟩
 ·refine ⟨_, o2, _, [{ p with number := q.s }], rfl, X2.drew.below hb3, S2.drew.trans (Stp.below hb3), rfl, rfl, rfl, by simp, hsd, Nat.le_refl _, fun y hy => by rw [List.mem_singleton.1 hy]; exact hp⟩
 ·obtain ⟨n1, n2, n3⟩ := P2.ne
  have lp := P2.blk.lt
  have lg := P2.g.lt
  have lw := P2.wd.lt
  have pg := P2.ge
  have hvn : ∀ j, v'.ownBlock = some j → j ≠ q.gp ∧ j ≠ q.gG ∧ j ≠ q.gW := fun j hj => by
   rcases hat with e | e
   ·exact P2.own j (e ▸ hj)
   ·have h1 := e j hj
    have h2 : w2.drew.heap.size = w2.heap.size := rfl
    omega
  have f6 := (Frm.refl (· = q.gp) wz).setg (i := 6) v'
  have PA : PathAt B (wz.setCell ⟨q.gp, 6, none⟩ v') q.gp q.gG q.gW q.u q.j q.b (q.s + 1) v' (q.l ++ [(q.s, f, t, now)]) := by
   have hz2 : Frm (fun j => q.v.ownBlock = some j) w2 wz := (Frm.refl _ _).drew.trans hfz
   refine ⟨by simpa using (P2.blk.frm hz2 (fun e => (P2.own _ e).1 rfl)).set 6 v', (P2.g.frm hz2 (fun e => (P2.own _ e).2.1 rfl)).frm f6 (fun e => n1 e.symm), (P2.wd.frm hz2 (fun e => (P2.own _ e).2.2 rfl)).frm f6 (fun e => n2 e.symm), own_frm hov f6 (fun j hj e => (hvn j hj).1 e), ⟨n1, n2, n3⟩, hvn, P2.s0, pg⟩
  have S3 : Stp (fun c => c = k + 10 + i) o2 (ext o2 w2.heap.size v' (k + 10 + i)) w2 (wz.setCell ⟨q.gp, 6, none⟩ v') := ⟨(((Frm.refl _ w2).drew.trans hfz).mono (fun j hj => ow2 j (.inr (.inr (.inr hj))))).setCell (.inl (ow2 _ (.inl rfl))) v', ext_agr _ _ _ _⟩
  have C9' : _root_.Go.Proofs.YtdneakejlbabeaaGreat.C9 (ext o2 w2.heap.size v' (k + 10 + i)) k B (wz.setCell ⟨q.gp, 6, none⟩ v') i { q with s := q.s + 1, v := v', l := q.l ++ [(q.s, f, t, now)] } := by
   refine ⟨PA, fun j hj => ?_, ?_⟩
   ·rcases hj with hj | hj | hj | hj
    ·rw [ext_agr o2 _ v' _ j (by dsimp only at hj; omega)]; exact ow2 j (.inl hj)
    ·rw [ext_agr o2 _ v' _ j (by dsimp only at hj; omega)]; exact ow2 j (.inr (.inl hj))
    ·rw [ext_agr o2 _ v' _ j (by dsimp only at hj; omega)]; exact ow2 j (.inr (.inr (.inl hj)))
    ·dsimp only at hj
     rcases hat with e | e
     ·rw [e] at hj
      rw [ext_agr o2 _ v' _ j (P2.l.lt j hj).2]
      exact ow2 j (.inr (.inr (.inr hj)))
     ·have h1 : w2.heap.size ≤ j := e j hj
      unfold ext
      rw [if_neg (by omega), if_pos hj]
   ·have h1 := C9.l
    have hl0 := (hX.c9 i q hi).l
    dsimp only
    simp only [List.length_append, List.length_cons, List.length_nil]
    omega
  have X3 := X2.put9 hq2 S3 (q' := { q with s := q.s + 1, v := v', l := q.l ++ [(q.s, f, t, now)] }) rfl C9'
  refine ⟨_, _, _, [{ p with number := q.s }], rfl, X3, S2.trans (S3.mono (fun c hc => by rw [hc]; exact ⟨by omega, by omega⟩)), rfl, rfl, rfl, by simp, ?_, Nat.le_refl _, fun y hy => by rw [List.mem_singleton.1 hy]; exact hp⟩
  have h1 := said_set (q' := { q with s := q.s + 1, v := v', l := q.l ++ [(q.s, f, t, now)] }) hi
  dsimp only at h1 ⊢
  rw [List.set_set]
  simp only [List.length_cons, List.length_nil]
  omega
set_option maxHeartbeats 16000000 in
set_option maxRecDepth 100000 in
theorem etick_any (o : Nat → Nat) (k B N : Nat) (w : World) (ge : Nat) (x : EndV) (t : Int) (h : EndS o k B w ge x) (hok : EOk N x) (hN : N + 500000 ≤ 40000000) (hB : B ≤ w.heap.size) :
  Calls Tryz.prog 39 #[.pointer (some ⟨ge, 0, none⟩), .int .i64 t] w fun e w' => ∃ q : Bool, e = .returned (.bool q) ∧ CallR o k B N w ge x w' := by
 have H := hid h
 have OK := hid hok
 have kp := h.kp
 have hsl := h.said_le
 have hes := hok.es
 have hou := hok.outs
 have hNN := hok.N
 have hlo := hok.lost
 have np := h.np
 have nw := hok.now
 have NO : Hid (CallR o k B N w ge x w) := hid ⟨o, x, [], h, Stp.refl _ _ _, Act.refl hok hN, fun e h => by cases h⟩
 have n8 := h.blk.cell 8
 have y8 := h.blk.free 8
 simp only [gA, gZ, gC] at n8
 clear h hok
 rcases Int.lt_or_le x.now t with t0 | t0
 ·rcases Int.lt_or_le 1048576 t with t1 | t1
  ·have i0 : ¬ t ≤ x.now := by omega
   go_enter Tryz.func39, Tryz.ntmps39
   go_wp2_with fail
   go_ret
   first | exact ⟨_, rfl, NO.out⟩ | exact ⟨.inl rfl, NO.out⟩
  ·have i0 : ¬ t ≤ x.now := by omega
   have i1 : ¬ 1048576 < t := by omega
   go_enter Tryz.func39, Tryz.ntmps39
   go_wp2_with fail
   obtain ⟨w1, hw1⟩ := lx (w.setCell ⟨ge, 8, none⟩ (.int .i64 t))
   have S1 : Stp (fun c => c = k) o o w w1 := by rw [hw1]; exact ⟨(Frm.refl _ _).setCell (.inl H.out.og) _, Agr.refl _ _⟩
   have X1 : Hid (EndS o k B w1 ge { x with now := t }) := hid (H.out.putI S1 t x.limit x.sent x.m0 x.m1 x.m2 x.m3 x.m4 x.m5 x.m6 x.m7 (by rw [hw1]; simpa using H.out.blk.set 8 (.int .i64 t)))
   have T1 : Hid (Stp (EC k) o o w w1) := hid (S1.mono (fun c hc => by rw [hc]; exact ⟨by omega, by omega⟩))
   rw [← hw1]
   clear hw1 S1 n8 y8 i0 i1
   refine (event_any o k B w1 ge _ ⟨3, t, [], noPk⟩ (.slice none 0 0) (.slice none 0 0) X1.out (Nat.le_trans hB T1.out.size) ⟨BV.nil _ _, BV.nil _ _⟩ (by dsimp only; omega)).mono ?_
   rintro e w2 ⟨rfl, o2, vE, m0, hx2, hs2⟩
   have AC : Hid (Act (N + 500000) x { x with now := t, vE := vE, es := x.es ++ [⟨3, t, [], noPk⟩], m0 := m0 } [⟨3, t, [], noPk⟩]) := hid (by
    obtain ⟨h1, h2, h3, h4, h5, h6, h7, h8, h9, h10⟩ := OK.out
    exact ⟨rfl, by simp [sents], ⟨h1, h2, h3, ⟨by dsimp only; omega, by dsimp only; omega⟩, h5, by dsimp only; omega, by dsimp only; omega, by simp; omega, by dsimp only; omega, hN⟩, rfl, fun e he => by rw [List.mem_singleton.1 he]; exact ⟨Nat.zero_le _, Nat.zero_le _⟩⟩)
   have START : Hid (TickI o k B N w ge x t 0 w2) := hid ⟨o2, _, _, hx2, T1.out.trans (hs2.mono (fun c hc => by rcases hc with rfl | rfl; exact ⟨by omega, by omega⟩; exact ⟨by omega, by omega⟩)), AC.out, by intro e he; rw [List.mem_singleton] at he; subst he; simp, rfl, by dsimp only; omega, rfl⟩
   obtain ⟨AP, cP, hvP, hcP, _⟩ := H.out.c1.r.len
   have n9 := hx2.blk.cell 9
   simp only [gA, gZ, gC] at n9
   rw [hvP] at n9
   obtain ⟨n, hn⟩ : ∃ n, x.ps.length = n := ⟨_, rfl⟩
   rw [hn] at hvP hcP n9
   have np' : n ≤ 3 := by omega
   have HVP := hid hvP
   have HNN := hid hn
   clear hx2 hs2 hvP hn
   go_wp2_with fail
   go_loopw [37] (fun i wr => ∃ j : Nat, j ≤ n ∧ i = .int .i64 j ∧ TickI o k B N w ge x t j wr) (fun i _ => n - (intOf i).toNat)
   case atStart => exact ⟨0, Nat.zero_le _, rfl, START.out⟩
   case round =>
    obtain ⟨j, hj, rfl, o3, y, d, hy, hs3, ha3, hd3, hvp3, hlo3, hnow3⟩ := hrel
    have sr := hs3.size
    have hpsl : y.ps.length = n := by rw [H.out.nvP hy hvp3]; exact HNN.out
    have Y := hid hy
    have S3 := hid hs3
    have A3 := hid ha3
    have D3 := hid hd3
    have V3 := hid hvp3
    have NW3 := hid hnow3
    have HPL := hid hpsl
    have okes := ha3.ok.es
    have okou := ha3.ok.outs
    have oknd := ha3.ok.nd
    have ysl := hy.said_le
    have yside := ha3.side
    clear hy hs3 ha3 hd3 hvp3 hnow3 hpsl
    by_cases hjn : j < n
    ·have j0 : (0 : Int) ≤ (j : Int) := by omega
     have j1 : (j : Int) < (n : Int) := by omega
     have iwj : IntKind.i64.wrap ((j : Int) + 1) = (j : Int) + 1 := iX
     obtain ⟨q, hq⟩ : ∃ q, y.ps[j]? = some q := ⟨_, List.getElem?_eq_getElem (by have := HPL.out; omega)⟩
     obtain ⟨ad, cq, hvP2, c9, dp, u0, u1, u3, f0, f1⟩ := Y.out.pth hq
     have hAP : AP = some ad := by
      have h1 := V3.out
      rw [hvP2, HVP.out] at h1
      injection h1 with h1
      exact h1.symm
     subst hAP
     have k7 := Y.out.blk.cell 7
     have k10 := Y.out.blk.cell 10
     simp only [gA, gZ, gC] at k7 k10
     obtain ⟨AD, cD, hvD, _, _⟩ := (Sl.of_own Y.out.c2.r (fun u hu => by obtain ⟨_, _, rfl⟩ := List.mem_map.1 hu; rfl)).len
     obtain ⟨adD, hAD, dd⟩ := Sl.at_ (i := j) (hvD ▸ Sl.of_own Y.out.c2.r (fun u hu => by obtain ⟨_, _, rfl⟩ := List.mem_map.1 hu; rfl)) (by rw [oknd, HPL.out]; exact hjn)
     rw [hvD, hAD, oknd, HPL.out] at k10
     rw [List.getD_eq_getElem?_getD, List.getElem?_map, List.getElem?_eq_getElem (by rw [oknd, HPL.out]; exact hjn)] at dd
     simp only [Option.map_some, Option.getD_some] at dd
     obtain ⟨du, hdu⟩ : ∃ z, y.due[j]'(by rw [oknd, HPL.out]; exact hjn) = z := ⟨_, rfl⟩
     rw [hdu] at dd
     have HQ := hid hq
     have P := (Y.out.c9 j q hq)
     have hql := P.l
     have hqs := P.r.s0
     have PT := hid P.r
     have LATE : Hid (∀ e w2', PLateR B wr q.gp q.gG q.gW q.u q.j q.s q.v q.l e w2' → ∃ v1, e = .returned v1 ∧ Calls Tryz.prog 60 #[.pointer (some ⟨ge, 0, none⟩), v1] w2' fun e w' => e = .returned (.tuple #[]) ∧ TickI o k B N w ge x t (j + 1) w') := hid (by
      rintro e w2' ⟨v1, v2, b', l1, l2, rfl, hr, hv1, hp, hmem, hl1, hl2, hm⟩
      obtain ⟨hx5, hs5⟩ := Y.out.mv9 (q' := { q with b := b', v := v2, l := l2 }) HQ.out rfl hp hm (by dsimp only; omega)
      have hEC : Stp (EC k) o3 (scr o3 wr.heap.size (k + 10 + j)) wr w2' := hs5.mono (fun c hc => by rw [hc]; exact ⟨by omega, by omega⟩)
      refine ⟨v1, rfl, (given_any' _ k B w2' ge _ v1 l1 hx5 (Nat.le_trans hB (Nat.le_trans sr hs5.size)) hr (fun i hi => ?_) (by dsimp only; omega)).mono ?_⟩
      ·rw [scr_new (hv1 i hi).1]; omega
      ·intro e w' hg
       exact TickI.late (q' := { q with b := b', v := v2, l := l2 }) hN (by omega) S3.out A3.out D3.out V3.out hlo3 NW3.out HQ.out rfl hEC (by omega) hg)
     have JOIN : Hid (Calls Tryz.prog 59 #[.pointer (some ⟨ge, 0, none⟩), .int .i64 (j : Int)] wr fun e w' => e = .returned (.tuple #[]) ∧ TickI o k B N w ge x t (j + 1) w') := hid ((ejoin_any o3 k B wr ge y j q Y.out (Nat.le_trans hB sr) HQ.out oknd (by omega) (by omega)).mono (fun e w' hj => TickI.join S3.out A3.out D3.out V3.out hlo3 NW3.out hj))
     have PL : Hid (Calls Tryz.prog 61 #[.pointer (some ⟨q.gp, 0, none⟩), .int .i64 t] wr fun e w' => PLateR B wr q.gp q.gG q.gW q.u q.j q.s q.v q.l e w') := hid (plate_any B wr q.gp q.gG q.gW q.u q.j q.b q.s q.v q.l t PT.out (Nat.le_trans hB sr) (by omega))
     have HVD := hid hvD
     have HAD := hid hAD
     have HSD := hid yside
     have HDU := hid hdu
     clear hq P hvP2 hvD hAD c9 yside hdu
     have hcase : y.side = 0 ∧ q.u = true ∧ q.j = false ∧ du ≤ t ∨ y.side ≠ 0 ∨ (y.side = 0 ∧ q.u = false) ∨ (y.side = 0 ∧ q.u = true ∧ q.j = true) ∨ (y.side = 0 ∧ q.u = true ∧ q.j = false ∧ t < du) := by
      by_cases h1 : y.side = 0
      ·rcases hu : q.u with _ | _
       ·exact .inr (.inr (.inl ⟨h1, rfl⟩))
       ·rcases hjj : q.j with _ | _
        ·rcases Int.lt_or_le t du with h2 | h2
         ·exact .inr (.inr (.inr (.inr ⟨h1, rfl, rfl, h2⟩)))
         ·exact .inl ⟨h1, rfl, rfl, h2⟩
        ·exact .inr (.inr (.inr (.inl ⟨h1, rfl, rfl⟩)))
      ·exact .inr (.inl h1)
     rcases hcase with ⟨h1, h2, h3, h4⟩ | hcase
     ·have hsb : (y.side == 0) = true := by rw [beq_iff_eq]; exact h1
      rw [h2] at u0
      rw [h3] at u1
      clear h1 h2 h3
      go_wp2_with fail
      refine JOIN.out.mono ?_
      rintro e w4 ⟨rfl, ht4⟩
      have T4 := hid ht4
      clear ht4
      go_wp2_with fail
      go_roundw
      case rel => exact ⟨j + 1, hjn, by go_num, T4.out⟩
      case measure => simp [intOf]; omega
     ·rcases hcase with h1 | ⟨h1, h2⟩ | ⟨h1, h2, h3⟩ | ⟨h1, h2, h3, h4⟩
      ·have hsb : (y.side == 0) = false := by rw [beq_eq_false_iff_ne]; exact h1
       clear h1 dd k10
       go_wp2_with fail
       refine PL.out.mono ?_
       intro e w4 hpl
       obtain ⟨v1, rfl, hg⟩ := LATE.out e w4 hpl
       have GV := hid hg
       clear hg hpl
       go_wp2_with fail
       refine GV.out.mono ?_
       rintro e w5 ⟨rfl, ht5⟩
       have T5 := hid ht5
       clear ht5
       go_wp2_with fail
       go_roundw
       case rel => exact ⟨j + 1, hjn, by go_num, T5.out⟩
       case measure => simp [intOf]; omega
      ·have hsb : (y.side == 0) = true := by rw [beq_iff_eq]; exact h1
       rw [h2] at u0
       clear h1 h2 dd k10
       go_wp2_with fail
       refine PL.out.mono ?_
       intro e w4 hpl
       obtain ⟨v1, rfl, hg⟩ := LATE.out e w4 hpl
       have GV := hid hg
       clear hg hpl
       go_wp2_with fail
       refine GV.out.mono ?_
       rintro e w5 ⟨rfl, ht5⟩
       have T5 := hid ht5
       clear ht5
       go_wp2_with fail
       go_roundw
       case rel => exact ⟨j + 1, hjn, by go_num, T5.out⟩
       case measure => simp [intOf]; omega
      ·have hsb : (y.side == 0) = true := by rw [beq_iff_eq]; exact h1
       rw [h2] at u0
       rw [h3] at u1
       clear h1 h2 h3 dd k10
       go_wp2_with fail
       refine PL.out.mono ?_
       intro e w4 hpl
       obtain ⟨v1, rfl, hg⟩ := LATE.out e w4 hpl
       have GV := hid hg
       clear hg hpl
       go_wp2_with fail
       refine GV.out.mono ?_
       rintro e w5 ⟨rfl, ht5⟩
       have T5 := hid ht5
       clear ht5
       go_wp2_with fail
       go_roundw
       case rel => exact ⟨j + 1, hjn, by go_num, T5.out⟩
       case measure => simp [intOf]; omega
      ·have hsb : (y.side == 0) = true := by rw [beq_iff_eq]; exact h1
       have h5 : ¬ du ≤ t := by omega
       rw [h2] at u0
       rw [h3] at u1
       clear h1 h2 h3
       go_wp2_with fail
       refine PL.out.mono ?_
       intro e w4 hpl
       obtain ⟨v1, rfl, hg⟩ := LATE.out e w4 hpl
       have GV := hid hg
       clear hg hpl
       go_wp2_with fail
       refine GV.out.mono ?_
       rintro e w5 ⟨rfl, ht5⟩
       have T5 := hid ht5
       clear ht5
       go_wp2_with fail
       go_roundw
       case rel => exact ⟨j + 1, hjn, by go_num, T5.out⟩
       case measure => simp [intOf]; omega
    ·have j1 : ¬ (j : Int) < (n : Int) := by omega
     obtain rfl : j = n := by omega
     clear okes okou oknd ysl yside
     go_wp2_with fail
     refine (pump_any o3 k B _ wr ge y Y.out A3.out.ok (Nat.le_trans hB sr)).mono ?_
     rintro e w4 ⟨rfl, o4, z, p4, hz4, hs4, hg4⟩
     have Z4 := hid hz4
     have S4 := hid (S3.out.trans hs4)
     have A4 := hid (A3.out.pump hg4)
     have D4 : Hid (∀ e ∈ d ++ p4.map fun p => (⟨5, 0, [], p⟩ : Ev), e.kind ≠ 4) := hid (fun e he => by
      rcases List.mem_append.1 he with h | h
      ·exact D3.out e h
      ·obtain ⟨p, _, rfl⟩ := List.mem_map.1 h
       intro h4
       cases h4)
     obtain ⟨d4, hd4⟩ := lx (d ++ p4.map fun p => (⟨5, 0, [], p⟩ : Ev))
     rw [← hd4] at A4 D4
     have hvz : z.vP = y.vP := by rw [hg4.e]
     have VZ := hid (hvz.trans V3.out)
     have HPZ := hid (hg4.n.trans HPL.out)
     clear hz4 hs4 hg4 hvz hd4
     have n9 := Z4.out.blk.cell 9
     simp only [gA, gZ, gC] at n9
     rw [VZ.out, HVP.out] at n9
     go_wp2_with fail
     go_loopw [87, 7] (fun i s ws => ∃ (m : Nat) (sm : Int), m ≤ j ∧ i = .int .i64 m ∧ s = .int .i64 sm ∧ w4 = ws) (fun i _ _ => j - (intOf i).toNat)
     case atStart => exact ⟨0, 0, Nat.zero_le _, rfl, rfl, rfl⟩
     case round =>
      obtain ⟨m, sm, hm, rfl, rfl, rfl⟩ := hrel
      by_cases hmj : m < j
      ·have m0 : (0 : Int) ≤ (m : Int) := by omega
       have m1 : (m : Int) < (j : Int) := by omega
       have iwm : IntKind.i64.wrap ((m : Int) + 1) = (m : Int) + 1 := iX
       obtain ⟨q, hq⟩ : ∃ q, z.ps[m]? = some q := ⟨_, List.getElem?_eq_getElem (by have := HPZ.out; omega)⟩
       obtain ⟨ad, cq, hvP2, c9, dp, u0, u1, u3, f0, f1⟩ := Z4.out.pth hq
       have hAP : AP = some ad := by
        have h1 := VZ.out
        rw [hvP2, HVP.out] at h1
        injection h1 with h1
        exact h1.symm
       subst hAP
       have P := (Z4.out.c9 m q hq).r
       obtain ⟨Aq, cqq, hvq⟩ := own_slice' P.l
       have k6 := P.blk.cell 6
       simp only [gA, gZ, gC] at k6
       rw [hvq] at k6
       have HVQ := hid hvq
       obtain ⟨sz, hsz⟩ : ∃ s, IntKind.i64.wrap (sm + (q.l.length : Int)) = s := ⟨_, rfl⟩
       clear hvP2 c9 u0 u1 u3 f0 f1 hvq P hq
       go_wp2_with fail
       go_roundw
       case rel => exact ⟨m + 1, sz, hmj, by go_num, by first | rfl | trivial, by first | rfl | trivial⟩
       case measure => simp [intOf]; omega
      ·have m1 : ¬ (m : Int) < (j : Int) := by omega
       obtain rfl : m = j := by omega
       have n12 := Z4.out.blk.cell 12
       simp only [gA, gZ, gC] at n12
       have g1 := Z4.out.c3.blk.cell 1
       simp only [gA, gZ, gC] at g1
       have FINZ : Hid (CallR o k B N w ge x w4.drew) := hid ⟨o4, z, d4, Z4.out.drew, S4.out.drew, A4.out, D4.out⟩
       clear n9
       by_cases hs0 : sm = 0
       ·have hsb : (sm == 0) = true := by rw [beq_iff_eq]; exact hs0
        subst hs0
        obtain ⟨Ab, cb, hvb⟩ := own_slice' Z4.out.c3.r.1
        have OB : Hid (ObC w4 z.go z.bu z.ac Ab z.ob.length cb z.cl) := hid (by have := Z4.out.c3.blk; rw [hvb] at this; exact this)
        have hob := A4.out.ok.ob
        clear hvb
        go_wp2_with fail
        refine wp_region_held_drew (S := fun w' => w'.cell? ⟨ge, 12, none⟩ = some (.pointer (some ⟨z.go, 0, none⟩)) ∧ w'.cell? ⟨z.go, 1, none⟩ = some (.int .i64 z.ac)) (by kernel_rfl) ⟨n12, g1⟩ (fun hHeld => ?_)
        refine tk 0 (oi := ⟨some 100, _, _, _, _, _⟩) rfl ?_
        refine tk 1 (oi := ⟨some 101, _, _, _, _, _⟩) rfl ?_
        refine tk 2 (oi := ⟨some 102, _, _, _, _, _⟩) rfl ?_
        refine tk 3 (oi := ⟨some 103, _, _, _, _, _⟩) rfl ?_
        refine tk 4 (oi := ⟨some 104, _, _, _, _, _⟩) rfl ?_
        refine tk 5 (oi := ⟨some 105, _, _, _, _, _⟩) rfl ?_
        refine tk 6 (oi := ⟨some 106, _, _, _, _, _⟩) rfl ?_
        refine tk 7 (oi := ⟨some 107, _, _, _, _, _⟩) rfl ?_
        refine tk 8 (oi := ⟨some 108, _, _, _, _, _⟩) rfl ?_
        refine tk 9 (oi := ⟨some 109, _, _, _, _, _⟩) rfl ?_
        refine tk 10 (oi := ⟨some 110, _, _, _, _, _⟩) rfl ?_
        refine tk 11 (oi := ⟨some 111, _, _, _, _, _⟩) rfl ?_
        refine tk 12 (oi := ⟨some 112, _, _, _, _, _⟩) rfl ?_
        refine tk 13 (oi := ⟨some 113, _, _, _, _, _⟩) rfl ?_
        refine rD 14 (o := ⟨some 114, _, _, _, _, _⟩) rfl (fun K hK => ?_)
        go_simp
        refine (places_any w4.drew z.go z.bu z.ac Ab z.ob.length cb z.cl OB.out.drew (by omega)).mono ?_
        rintro e _ ⟨rfl, rfl⟩
        refine Ko hK ⟨n12, g1⟩ (fun hHeld => ?_)
        clear hK K
        refine tk 15 (oi := ⟨some 115, _, _, _, _, _⟩) rfl ?_
        refine tk 16 (oi := ⟨some 116, _, _, _, _, _⟩) rfl ?_
        refine dn ?_
        clear hHeld
        rcases Int.lt_or_le z.ac ((placesN z.ob.length z.cl : Nat) : Int) with hpl | hpl
        ·obtain ⟨wd, hwd⟩ := lx (w4.drew)
         have ZD : Hid (EndS o4 k B wd ge z) := hid (by rw [hwd]; exact Z4.out.drew)
         have SD : Hid (Stp (EC k) o o4 w wd) := hid (by rw [hwd]; exact S4.out.drew)
         rw [← hwd]
         clear hwd n12 g1
         go_wp2_with fail
         refine (choose_any o4 k B wd ge z ZD.out).mono ?_
         rintro e w6 ⟨vc, pl, rfl, hvc, hpl3, hmem, _, hx6, hs6⟩
         have X6 := hid hx6
         have S6 := hid (SD.out.trans (hs6.mono (fun c hc => by rw [hc]; exact ⟨by omega, by omega⟩)))
         have MEM := hid hmem
         have OWC : Hid (Ow (scr o4 wd.heap.size 0) w6 0 vc) := hid (fun j hj => ⟨scr_new (hvc.lt j hj).1, (hvc.lt j hj).2⟩)
         have VC := hid hvc
         obtain ⟨Ac, cc, rfl⟩ := own_slice' hvc
         obtain ⟨nc, hnc⟩ : ∃ m, pl.length = m := ⟨_, rfl⟩
         rw [hnc] at hpl3 VC OWC
         rw [hnc]
         have HM := hid hnc
         clear hvc hmem hx6 hs6 hnc
         go_wp2_with fail
         go_loopw [120] (fun i ws => ∃ (j : Nat) (o' : Nat → Nat) (x' : EndV) (d : List Pk), j ≤ nc ∧ i = .int .i64 j ∧ EndS o' k B ws ge x' ∧ Stp (EC k) o o' w ws ∧ Grw z x' d ∧ ws.ownsRow wd.heap.size 3 1 (.slice Ac nc cc) nc (i64s pl) ∧ Ow o' ws 0 (.slice Ac nc cc)) (fun i _ => nc - (intOf i).toNat)
         case atStart => exact ⟨0, _, z, [], Nat.zero_le _, rfl, X6.out, S6.out, Grw.refl _, VC.out, OWC.out⟩
         case round =>
          obtain ⟨j, o5, x5, d5, hj, rfl, hx5, hs5, hg5, hv5, how5⟩ := hrel
          have X5 := hid hx5
          have S5 := hid hs5
          have G5 := hid hg5
          have V5 := hid hv5
          have OW5 := hid how5
          have OK5 := hid (A4.out.ok.grw hg5)
          have s5 := hs5.size
          clear hx5 hs5 hg5 hv5 how5
          by_cases hjm : j < nc
          ·have j0 : (0 : Int) ≤ (j : Int) := by omega
           have j1 : (j : Int) < (nc : Int) := by omega
           have iwj : IntKind.i64.wrap ((j : Int) + 1) = (j : Int) + 1 := iX
           obtain ⟨adc, hA, dj⟩ := Sl.at_ (Sl.of_own V5.out (i64s_one pl)) hjm
           rw [i64s_getD pl j (by have := HM.out; omega)] at dj
           subst hA
           have hy : pl.getD j 0 ∈ pl := by
            rw [List.getD_eq_getElem?_getD, List.getElem?_eq_getElem (by have := HM.out; omega)]
            exact List.getElem_mem _
           obtain ⟨i, q, hyi, hq, hus⟩ := MEM.out _ hy
           rw [hyi] at dj
           have hil := (List.getElem?_eq_some_iff.1 hq).1
           obtain ⟨q5, hq5⟩ : ∃ q5, x5.ps[i]? = some q5 := ⟨_, List.getElem?_eq_getElem (by have := G5.out.n; omega)⟩
           have HQ5 := hid hq5
           have hl5 : q5.l.length ≤ 100000000 := by
            have h1 := (X5.out.c9 i q5 hq5).l
            have h2 := (X5.out.c9 i q5 hq5).r.s0
            omega
           have he5 := OK5.out.es
           have ho5 := OK5.out.outs
           have hN5 := OK5.out.N
           have hsl5 := X5.out.said_le
           have k12 := X5.out.blk.cell 12
           have k1 := X5.out.c3.blk.cell 1
           simp only [gA, gZ, gC] at k12 k1
           clear hy hyi hq hus hil hq5
           go_wp2_with fail
           refine (say_any o5 k B wr ge x5 ⟨3, (i : Int), 0, 0, x5.ac, [], false, 0, 0⟩ (.slice none 0 0) i q5 X5.out (Nat.le_trans hB s5) (BV.nil _ _) HQ5.out rfl (by omega) (by omega)).mono ?_
           rintro e w7 (⟨hs7, rfl, hb7⟩ | ⟨hs7, rfl, o7, vE7, vO7, m07, m17, m27, hx7, hs7'⟩)
           ·have REL : Hid (EndS o5 k B w7 ge x5 ∧ Stp (EC k) o o5 w w7 ∧ Grw z x5 d5 ∧ w7.ownsRow wd.heap.size 3 1 (.slice (some adc) nc cc) nc (i64s pl) ∧ Ow o5 w7 0 (.slice (some adc) nc cc)) := hid ⟨X5.out.below hb7, S5.out.trans (Stp.below hb7), G5.out, own_frm V5.out (Frm.of_below (S := fun _ => False) hb7) (fun _ _ h => h), OW5.out.frm (Agr.refl _ _) hb7.size⟩
            clear hb7
            go_wp2_with fail
            go_roundw
            case rel => exact ⟨j + 1, o5, x5, d5, hjm, by go_num, REL.out⟩
            case measure => simp [intOf]; omega
           ·have X7 := hid hx7
            have T7 := hid hs7'
            have hq7 : (x5.ps.set i { q5 with s := q5.s + 1 })[i]? = some { q5 with s := q5.s + 1 } := by rw [List.getElem?_set, if_pos rfl, if_pos (List.getElem?_eq_some_iff.1 HQ5.out).1]
            obtain ⟨ad7, c7, hvP7, n9, dP, _, _, _, _, _⟩ := X7.out.pth hq7
            have n12 := X7.out.blk.cell 12
            have g1 := X7.out.c3.blk.cell 1
            have P7 := (X7.out.c9 i _ hq7).r
            have c6 := P7.blk.cell 6
            have f6 := P7.blk.free 6
            have l7 := P7.l
            have on7 := fun j hj => (P7.own j hj).1
            simp only [gA, gZ, gC] at n12 g1 c6
            dsimp only at n9 dP n12 g1 c6 f6 l7 on7
            rw [List.length_set] at n9
            have i0 : (0 : Int) ≤ (i : Int) := by omega
            have i1 : (i : Int) < (x5.ps.length : Int) := by have := (List.getElem?_eq_some_iff.1 HQ5.out).1; omega
            have C6 := hid c6
            have L7 := hid l7
            have O7' := hid on7
            have F6 := hid f6
            clear hx7 hs7' hq7 hvP7 P7 c6 f6 l7 on7 k12 k1
            go_wp2_with fail
            refine wp_region_still_tail (id := 25) 26 (by kernel_rfl) (by kernel_rfl) ?_
            change wpStill _ _ (World.drew _) (fun a' => wpList _ _ _ _ a' (World.drew _)) _ _
            simp only [List.take_succ_cons, List.take_zero, List.drop_succ_cons, List.drop_zero]
            repeat still_step
            refine wpStill_nil ?_
            go_wp2_with fail
            refine (fadd_any w7.drew B q5.gp 6 q5.v q5.l (q5.s, x5.ac, x5.ac, t) C6.out F6.out L7.out (Nat.le_trans hB (Nat.le_trans s5 T7.out.size)) O7'.out hl5).mono ?_
            intro e w8 ha8
            obtain ⟨b8, o8, x8, d8, rfl, hx8, hs8, hg8⟩ := AddR.grw X5.out (Nat.le_trans hB s5) HQ5.out (p := ⟨3, (i : Int), 0, 0, x5.ac, [], false, 0, 0⟩) (Nat.zero_le _) T7.out X7.out ha8
            have REL : Hid (EndS o8 k B w8 ge x8 ∧ Stp (EC k) o o8 w w8 ∧ Grw z x8 (d5 ++ d8) ∧ w8.ownsRow wd.heap.size 3 1 (.slice (some adc) nc cc) nc (i64s pl) ∧ Ow o8 w8 0 (.slice (some adc) nc cc)) := hid ⟨hx8, S5.out.trans hs8, G5.out.trans hg8, own_frm V5.out hs8.f (fun y hy he => by have h1 := (OW5.out y hy).1; have h2 : EC k (o5 y) := he; rw [h1] at h2; have := h2.1; omega), OW5.out.frm hs8.ag hs8.size⟩
            clear hx8 hs8 hg8 ha8
            go_wp2_with fail
            go_roundw
            case rel => exact ⟨j + 1, o8, x8, d5 ++ d8, hjm, by go_num, REL.out⟩
            case measure => simp [intOf]; omega
          ·have j1 : ¬ (j : Int) < (nc : Int) := by omega
           have FIN5 : Hid (CallR o k B N w ge x wr) := hid ⟨o5, x5, _, X5.out, S5.out, A4.out.pump G5.out, fun e he => by
            rcases List.mem_append.1 he with h | h
            ·exact D4.out e h
            ·obtain ⟨p, _, rfl⟩ := List.mem_map.1 h
             intro h4
             cases h4⟩
           go_wp2_with fail
           go_ret
           first | exact ⟨_, rfl, FIN5.out⟩ | exact ⟨.inr rfl, FIN5.out⟩
        ·have hpl' : ¬ z.ac < ((placesN z.ob.length z.cl : Nat) : Int) := by omega
         go_wp2_with fail
         go_ret
         first | exact ⟨_, rfl, FINZ.out⟩ | exact ⟨.inr rfl, FINZ.out⟩
       ·have hsb : (sm == 0) = false := by rw [beq_eq_false_iff_ne]; exact hs0
        clear hs0
        go_wp2_with fail
        refine wp_region_held_drew (S := fun w' => w'.cell? ⟨ge, 12, none⟩ = some (.pointer (some ⟨z.go, 0, none⟩))) (by kernel_rfl) n12 (fun hHeld => ?_)
        refine tk 0 (oi := ⟨some 100, _, _, _, _, _⟩) rfl ?_
        refine tk 1 (oi := ⟨some 101, _, _, _, _, _⟩) rfl ?_
        refine tk 2 (oi := ⟨some 102, _, _, _, _, _⟩) rfl ?_
        refine sk 3 (oi := ⟨some 103, _, _, _, _, _⟩) rfl ?_
        refine sk 4 (oi := ⟨some 104, _, _, _, _, _⟩) rfl ?_
        refine sk 5 (oi := ⟨some 105, _, _, _, _, _⟩) rfl ?_
        refine sk 6 (oi := ⟨some 106, _, _, _, _, _⟩) rfl ?_
        refine sk 7 (oi := ⟨some 107, _, _, _, _, _⟩) rfl ?_
        refine sk 8 (oi := ⟨some 108, _, _, _, _, _⟩) rfl ?_
        refine sk 9 (oi := ⟨some 109, _, _, _, _, _⟩) rfl ?_
        refine sk 10 (oi := ⟨some 110, _, _, _, _, _⟩) rfl ?_
        refine sk 11 (oi := ⟨some 111, _, _, _, _, _⟩) rfl ?_
        refine sk 12 (oi := ⟨some 112, _, _, _, _, _⟩) rfl ?_
        refine sk 13 (oi := ⟨some 113, _, _, _, _, _⟩) rfl ?_
        refine sk 14 (oi := ⟨some 114, _, _, _, _, _⟩) rfl ?_
        refine sk 15 (oi := ⟨some 115, _, _, _, _, _⟩) rfl ?_
        refine tk 16 (oi := ⟨some 116, _, _, _, _, _⟩) rfl ?_
        refine dn ?_
        clear hHeld
        go_wp2_with fail
        go_ret
        first | exact ⟨_, rfl, FINZ.out⟩ | exact ⟨.inr rfl, FINZ.out⟩
 ·go_enter Tryz.func39, Tryz.ntmps39
  go_wp2_with fail
  go_ret
  exact ⟨_, rfl, NO.out⟩
end

section
attribute [local go_sem] run_max2' run_min2' run_max_ run_min_
def NewPathR (w : World) (e : Ending) (w' : World) : Prop :=
 ∃ gp gG gW, e = .returned (.pointer (some ⟨gp, 0, none⟩)) ∧ PathAt w.heap.size w' gp gG gW false false false 0 (.slice none 0 0) [] ∧ Below w.heap.size w w'
set_option maxHeartbeats 8000000 in
set_option maxRecDepth 100000 in
theorem newpath_any (w : World) (x0 x1 x2 x3 x4 x5 x6 : Int) : Calls Tryz.prog 57 #[.agg #[.int .i64 x0, .int .i64 x1, .int .i64 x2, .int .i64 x3, .int .i64 x4, .int .i64 x5, .int .i64 x6]] w fun e w' => NewPathR w e w' := by
 go_enter Tryz.func57, Tryz.ntmps57
 go_wp2_with fail
 obtain ⟨w0, hw0⟩ := lx (w.alloc (.cells #[.int .i64 x0, .int .i64 x1, .int .i64 x2, .int .i64 x3, .int .i64 x4, .int .i64 x5, .int .i64 x6] 33))
 obtain ⟨gc, hgc⟩ := lx (w.heap.size)
 have BX : Hid (Blk w0 gc #[.int .i64 x0, .int .i64 x1, .int .i64 x2, .int .i64 x3, .int .i64 x4, .int .i64 x5, .int .i64 x6] 33) := hid (by rw [hw0, hgc]; exact Blk.new _ _ _)
 have G : Hid (Below w.heap.size w w0.drew) := hid (by rw [hw0]; exact (ba).drew)
 have KE : Hid (∀ W, Below w0.heap.size w0 W → W.cell? ⟨gc, 5, none⟩ = some (.int .i64 x5) ∧ W.cell? ⟨gc, 4, none⟩ = some (.int .i64 x4)) := hid (fun W hW => ⟨(BX.out.below hW).cell 5, (BX.out.below hW).cell 4⟩)
 have G0 : Hid (Below w0.heap.size w0 w0.drew) := hid (Below.refl _ _).drew
 have hs0 : w.heap.size ≤ w0.heap.size := by rw [hw0]; simp
 rw [← hw0, ← hgc]
 clear hw0 hgc
 first | (go_region_held3 (fun w' => w'.cell? ⟨gc, 5, none⟩ = some (.int .i64 x5) ∧ w'.cell? ⟨gc, 4, none⟩ = some (.int .i64 x4)) (first | with_reducible exact KE.out _ G0.out | with_reducible exact KE.out _ (G0.out.alloc G0.out.size _) | go_keep) (first
  | (go_at_call 83; (with_reducible refine (newguess_any x5 _).mono ?_); rintro e w1 ⟨gG, rfl, hgG, hg1, hb1⟩; have HG := hid hg1; have sG := hgG; have s1 := hb1.size; have ltG := hg1.lt; have g_ := Below.trans G0.out (hb1.mono G0.out.size); clear G0 hb1 hg1 hgG; have G0 := hid g_; clear g_)
  | (go_at_call 84; (with_reducible refine (newwindow_any x4 _).mono ?_); rintro e w2 ⟨gW, rfl, hgW, hg2, hb2⟩; have HW := hid hg2; have sW := hgW; have ltW := hg2.lt; have HG2 : Hid (GOk w2 gG) := hid (HG.out.frm (Frm.of_below (S := fun _ => False) hb2) (fun h => h)); have s2 := hb2.size; have g_ := Below.trans G0.out (hb2.mono G0.out.size); clear G0 hb2 hg2 hgW; have G0 := hid g_; clear g_))) | fail
 have sG' : w0.heap.size ≤ gG := sG
 have hb := bO G.out (⟨G0.out.os, G0.out.tape, G0.out.output, G0.out.size, G0.out.block⟩ : Below w0.drew.heap.size w0.drew w2)
 go_wp2_with fail
 go_ret
 exact ⟨_, gG, gW, rfl, ⟨Blk.new _ _ _, HG2.out.frm (Frm.alloc (S := fun _ => False) (Frm.refl _ _) _) (fun h => h), HW.out.frm (Frm.alloc (S := fun _ => False) (Frm.refl _ _) _) (fun h => h), World.ownsRow_nil _ _ _ _, ⟨by omega, by omega, by omega⟩, (fun i h => by cases h), ⟨by omega, by omega⟩, ⟨by omega, by omega, by omega⟩⟩, hb.alloc hb.size _⟩
end
end Go.Proofs.YtdneakejlbabeaaGreat
