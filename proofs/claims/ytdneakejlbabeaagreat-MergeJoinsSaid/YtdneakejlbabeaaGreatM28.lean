/- Parts of the walk: Jo. -/
import Derived.Test.YtdneakejlbabeaaGreatM00
import Derived.Test.YtdneakejlbabeaaGreatM27
import Derived.Test.YtdneakejlbabeaaGreatM17
namespace Go.Proofs.YtdneakejlbabeaaGreat
open Go.RowKit
set_option linter.unusedVariables false
set_option linter.unusedSimpArgs false
section
theorem EndS.mv9 {o : Nat → Nat} {k B : Nat} {w w' : World} {ge : Nat} {x : EndV} (h : EndS o k B w ge x) {i : Nat} {q q' : PathV} (hi : x.ps[i]? = some q) (hg : q'.gp = q.gp) (hp : PathAt B w' q'.gp q'.gG q'.gW q'.u q'.j q'.b q'.s q'.v q'.l) (hm : Mv (pfp q.gp q.gG q.gW q.v) (pfp q'.gp q'.gG q'.gW q'.v) w w') (hl : q'.l.length ≤ q'.s.toNat) :
  EndS (scr o w.heap.size (k + 10 + i)) k B w' ge { x with ps := x.ps.set i q' } ∧ Stp (fun c => c = k + 10 + i) o (scr o w.heap.size (k + 10 + i)) w w' := by
 have c := h.c9 i q hi
 have s : Stp (fun c => c = k + 10 + i) o (scr o w.heap.size (k + 10 + i)) w w' := ⟨hm.f.mono (fun j hj => c.ow j hj), scr_agr _ _ _⟩
 refine ⟨h.put9 hi s hg ⟨hp, fun j hj => ?_, hl⟩, s⟩
 rcases hm.s j hj with h1 | h1
 ·rw [scr_agr _ _ _ j (c.r.fp_lt j h1)]; exact c.ow j h1
 ·exact scr_new h1
theorem EndS.mv5 {o : Nat → Nat} {k B : Nat} {w w' : World} {ge : Nat} {x : EndV} (h : EndS o k B w ge x) {wi' : Int} {ta' : Nat} {en' : Int} {vib' : Value} {ib' : List Int} {vg' : Value} {got' : List (Int × Int)} (hp : InAt B w' x.gi wi' ta' en' vib' ib' vg' got') (hm : Mv (ifp x.gi x.vib x.vg) (ifp x.gi vib' vg') w w') :
  EndS (scr o w.heap.size (k + 5)) k B w' ge { x with wi := wi', ta := ta', en := en', vib := vib', ib := ib', vg := vg', got := got' } ∧ Stp (fun c => c = k + 5) o (scr o w.heap.size (k + 5)) w w' := by
 have c := h.c5
 have s : Stp (fun c => c = k + 5) o (scr o w.heap.size (k + 5)) w w' := ⟨hm.f.mono (fun j hj => c.ow j hj), scr_agr _ _ _⟩
 refine ⟨h.put5 s ⟨hp, fun j hj => ?_⟩, s⟩
 rcases hm.s j hj with h1 | h1
 ·rw [scr_agr _ _ _ j (c.r.lt j h1)]; exact c.ow j h1
 ·exact scr_new h1
/-- What was said, as a thing that grew. -/
def SayG (o : Nat → Nat) (k B : Nat) (w : World) (ge : Nat) (x : EndV) (i : Nat) (q : PathV) (e : Ending) (w' : World) : Prop :=
 ∃ (n : Int) (b : Bool) (o2 : Nat → Nat) (x2 : EndV) (d : List Pk), e = .returned (.tuple #[.int .i64 n, .bool b]) ∧ EndS o2 k B w' ge x2 ∧ Stp (EC k) o o2 w w' ∧ Grw x x2 d ∧ x2.due = x.due ∧ (b = true → x2.ps = x.ps.set i { q with s := q.s + 1 })
theorem SayR.grw {o : Nat → Nat} {k B : Nat} {w : World} {ge : Nat} {x : EndV} {p : Pk} {i : Nat} {q : PathV} {e : Ending} {w' : World} (h : SayR o k B w ge x p i q e w') (hX : EndS o k B w ge x) (hi : x.ps[i]? = some q) (hp : p.data.length ≤ 1000000) : SayG o k B w ge x i q e w' := by
 rcases h with ⟨_, rfl, hb⟩ | ⟨hs, rfl, o2, vE, vO, m0, m1, m2, hx, hst⟩
 ·exact ⟨_, _, o, x, [], rfl, hX.below hb, Stp.below hb, Grw.refl x, rfl, (fun h => by cases h)⟩
 ·refine ⟨_, _, o2, _, [{ p with number := q.s }], rfl, hx, hst, ⟨rfl, rfl, rfl, by simp, ?_, Nat.le_refl _, fun y hy => by rw [List.mem_singleton.1 hy]; exact hp⟩, rfl, fun _ => rfl⟩
  have h1 := said_set (q' := { q with s := q.s + 1 }) hi
  have h0 := (hX.c9 i q hi).r.s0.1
  dsimp only at h1 ⊢
  simp only [List.length_cons, List.length_nil]
  omega
/-- What a packet's coming leaves. -/
def ComeR (o : Nat → Nat) (k B N : Nat) (w : World) (ge : Nat) (x : EndV) (p : Pk) (w' : World) : Prop :=
 ∃ (o' : Nat → Nat) (x' : EndV) (d : List Ev), EndS o' k B w' ge x' ∧ Stp (EC k) o o' w w' ∧ Act (N + 500000) x x' d ∧ ∀ e ∈ d, e.kind = 4 → e.pk = p
theorem ComeR.grw {o : Nat → Nat} {k B N : Nat} {w : World} {ge : Nat} {x : EndV} {p : Pk} {w' w'' : World} {o' o2 : Nat → Nat} {x' x2 : EndV} {d : List Ev} {ps : List Pk} (hs : Stp (EC k) o o' w w') (ha : Act (N + 500000) x x' d) (hd : ∀ e ∈ d, e.kind = 4 → e.pk = p) (hx2 : EndS o2 k B w'' ge x2) (hs2 : Stp (EC k) o' o2 w' w'') (hg : Grw x' x2 ps) : ComeR o k B N w ge x p w'' := by
 refine ⟨o2, x2, _, hx2, hs.trans hs2, ha.pump hg, fun e he => ?_⟩
 rcases List.mem_append.1 he with h | h
 ·exact hd e h
 ·obtain ⟨p, _, rfl⟩ := List.mem_map.1 h
  intro h4
  cases h4
attribute [local go_sem] run_max2' run_min2' run_max_ run_min_
set_option maxHeartbeats 16000000 in
set_option maxRecDepth 100000 in
theorem come_any (o : Nat → Nat) (k B N : Nat) (w : World) (ge : Nat) (x : EndV) (p : Pk) (A : Option Addr) (c : Nat) (h : EndS o k B w ge x) (hok : EOk N x) (hN : N + 500000 ≤ 40000000) (hB : B ≤ w.heap.size) (hv : BV w (frozen o) (.slice A p.data.length c) p.data) (hn : p.data.length ≤ 1000000) :
  Calls Tryz.prog 47 #[.pointer (some ⟨ge, 0, none⟩), pagg p (.slice A p.data.length c)] w fun e w' => ∃ q : Bool, e = .returned (.bool q) ∧ ComeR o k B N w ge x p w' := by
 have OK := hid hok
 have HI := hid Tryz.info5
 have kp := h.kp
 have hsl := h.said_le
 have hes := hok.es
 have hou := hok.outs
 have hNN := hok.N
 have np := h.np
 have gl := h.blk.lt
 obtain ⟨w0, hw0⟩ := lx (w.alloc (.cells #[.int .i64 p.kind, .int .i64 p.path, .int .i64 p.number, .int .i64 p.of_, .int .i64 p.from_, .slice A p.data.length c, .bool p.fin, .int .i64 p.seen, .int .i64 p.limit] 27))
 obtain ⟨gb, hgb⟩ := lx (w.heap.size)
 have B0 : Hid (Below w.heap.size w w0) := hid (by rw [hw0]; exact ba)
 have BX : Hid (Blk w0 gb (pcells p (.slice A p.data.length c)).toArray 27) := hid (by rw [hw0, hgb]; exact Blk.new _ _ _)
 have X := hid h
 have X0 := hid (h.below B0.out)
 have V0 := hid (hv.below B0.out)
 have hw0' := hw0.symm
 have hgb' := hgb.symm
 have HGB := hid hgb
 obtain ⟨k0, k1, k2, k3, k4, k5, k6, k7, k8⟩ := PB.of BX.out
 clear h hok hv hw0 hgb
 go_enter Tryz.func47, Tryz.ntmps47
 go_wp2_with fail
 clear hgb' hw0' k0 k1 k2 k3 k4 k5 k6 k7 k8
 refine (emay_any o k B w0 ge x p A c X0.out hn).mono ?_
 rintro e w1 ⟨b, rfl, hb, hw1⟩
 have B1 : Hid (Below w.heap.size w w1) := hid (bO B0.out hw1)
 have BX1 := hid (BX.out.below hw1)
 have V1 := hid (V0.out.below hw1)
 have X1 := hid (X0.out.below hw1)
 have HB' := hid hb
 clear hb hw1 BX V0 X0 B0
 cases b
 ·have n23 := X1.out.blk.cell 23
  have y23 := X1.out.blk.free 23
  simp only [gA, gZ, gC] at n23
  obtain ⟨mm, hmm⟩ : ∃ m, IntKind.i64.wrap (x.m4 + 1) = m := ⟨_, rfl⟩
  go_wp2_with fail
  refine wp_region_still_tail (id := 2) 9 (by kernel_rfl) (by kernel_rfl) ?_
  change wpStill _ _ (World.drew _) (fun a' => wpList _ _ _ _ a' (World.drew _)) _ _
  simp only [List.take_succ_cons, List.take_zero, List.drop_succ_cons, List.drop_zero]
  repeat still_step
  refine wpStill_nil ?_
  go_wp2_with fail
  go_ret
  have SA : Stp (fun c => c = k) o o w1 (w1.setCell ⟨ge, 23, none⟩ (.int .i64 mm)).drew := ⟨((Frm.refl _ _).setCell (.inl X1.out.og) _).drew, Agr.refl _ _⟩
  have XA := X1.out.putI SA x.now x.limit x.sent x.m0 x.m1 x.m2 x.m3 mm x.m5 x.m6 x.m7 (Blk.drew (by simpa using X1.out.blk.set 23 (.int .i64 mm)))
  obtain ⟨h1, h2, h3, h4, h5, h6, h7, h8, h9, h10⟩ := OK.out
  exact ⟨_, rfl, o, _, [], XA, (Stp.below B1.out).trans (SA.mono (fun c hc => by rw [hc]; exact ⟨by omega, by omega⟩)), ⟨by simp, by simp [sents], ⟨h1, h2, h3, h4, h5, by dsimp only; omega, by dsimp only; omega, by dsimp only; omega, by dsimp only; omega, hN⟩, rfl, fun e h => (by cases h)⟩, fun e h => by cases h⟩
 ·obtain ⟨RP, i, pv, hi, hpv⟩ := HB'.out rfl
  have RP := hid RP
  have HPI := hid hi
  have HPV := hid hpv
  have hil := (List.getElem?_eq_some_iff.1 hpv).1
  obtain ⟨k0, k1, k2, k3, k4, k5, k6, k7, k8⟩ := PB.of BX1.out
  have y5 := BX1.out.free 5
  have HS : Hid (Sl w1 1 (.slice A p.data.length c) p.data.length (u8s p.data)) := hid V1.out.sl
  clear hi hpv
  go_wp2_with (at_builtin; refine wp_app w1.heap.size rfl _ _ 25 5 (.int .u8 0) 1 1 rfl Tryz.underlying25 HI.out rfl (by omega) (by omega) rfl rfl (World.ownsRow_nil _ _ _ _) HS.out (by omega) (Nat.le_refl _) ?_; intro v7 w7 hown hfr hat; simp only [Nat.zero_add, List.nil_append] at hown; have O7 := hid hown; have B7 : Hid (Below w1.heap.size w1 w7) := hid (Frm.below (Below.refl _ _) hfr (Nat.le_refl _) (fun g hg => by cases hg)); obtain ⟨A7, c7, rfl⟩ := own_slice' hown; have y5' := (show w7.frozen? ⟨gb, 5, none⟩ = w1.frozen? ⟨gb, 5, none⟩ from World.frozen?_of_block (B7.out.block gb BX1.out.lt)).trans y5; have y5c := (BX1.out.below B7.out).cell 5; simp only [pcells, gA, gZ, gC] at y5c; have BX8 : Hid (Blk (w7.setCell ⟨gb, 5, none⟩ (.slice A7 p.data.length c7)) gb (pcells p (.slice A7 p.data.length c7)).toArray 27) := hid (by have := (BX1.out.below B7.out).set 5 (.slice A7 p.data.length c7); simpa [pcells] using this); clear hown hfr hat k0 k1 k2 k3 k4 k5 k6 k7 k8; obtain ⟨k0, k1, k2, k3, k4, k5, k6, k7, k8⟩ := PB.of BX8.out)
  obtain ⟨v8, hv8⟩ := lx (Value.slice A7 p.data.length c7)
  obtain ⟨w8, hw8⟩ := lx (w7.setCell ⟨gb, 5, none⟩ (.slice A7 p.data.length c7))
  have B8 : Hid (Below w.heap.size w w8) := hid (by rw [hw8]; exact Frm.below (bO B1.out B7.out) ((Frm.refl (· = gb) _).setg _) (Nat.le_trans B1.out.size B7.out.size) (fun j hj => by rw [hj, HGB.out]; exact Nat.le_refl _))
  have S8 : Stp (fun _ => False) o (scr o w.heap.size 0) w w8 := ⟨Frm.of_below B8.out, scr_agr _ _ _⟩
  have X8 := hid (X.out.frm S8 (fun h => h) (fun _ h => h.elim))
  have T8 : Hid (Stp (EC k) o (scr o w.heap.size 0) w w8) := hid (S8.mono (fun _ h => h.elim))
  have V8 : Hid (BV w8 (frozen (scr o w.heap.size 0)) v8 p.data) := hid (by
   have hb : BO w1.heap.size w7 (.slice A7 p.data.length c7) p.data := ⟨O7.out, V1.out.byt⟩
   have h1 := hb.bv.frm (show Frm (· = gb) w7 w8 by rw [hw8]; exact (Frm.refl _ _).setg _) (fun j hj e => by have := BX1.out.lt; omega)
   rw [hv8]
   exact h1.mono (fun j hj _ => scr_new (Nat.le_trans B1.out.size hj)))
  have og8 : scr o w.heap.size 0 gb = 0 := scr_new (by rw [HGB.out]; exact Nat.le_refl _)
  obtain ⟨o8, ho8⟩ := lx (scr o w.heap.size 0)
  rw [← hw8, ← hv8] at BX8
  rw [← hw8] at k0 k1 k2 k3 k4 k5 k6 k7 k8 ⊢
  rw [← hv8] at k5 ⊢
  rw [← ho8] at X8 T8 V8 og8
  clear hw8 ho8 S8 B7 O7 y5 y5' y5c BX1 V1 X1 B8 hv8 HS
  refine (event_any o8 k B w8 ge _ ⟨4, 0, [], p⟩ (.slice none 0 0) v8 X8.out (Nat.le_trans hB T8.out.size) ⟨BV.nil _ _, V8.out⟩ (by omega)).mono ?_
  rintro e w2 ⟨rfl, o2, vE, m0, hx2, hs2⟩
  have X2 := hid hx2
  have T2 := hid (T8.out.trans (hs2.mono (fun c hc => by rcases hc with rfl | rfl; exact ⟨by omega, by omega⟩; exact ⟨by omega, by omega⟩)))
  have BX2 := hid (BX8.out.frm hs2.f (by rw [og8]; omega))
  have og2 : o2 gb = 0 := (hs2.ag gb BX8.out.lt).trans og8
  have V2 := hid (V8.out.stp hs2 (by omega))
  clear hx2 hs2 k0 k1 k2 k3 k4 k5 k6 k7 k8 og8
  have n22 := X2.out.blk.cell 22
  have y22 := X2.out.blk.free 22
  simp only [gA, gZ, gC] at n22
  obtain ⟨mm, hmm⟩ : ∃ m, IntKind.i64.wrap (x.m3 + 1) = m := ⟨_, rfl⟩
  go_wp2_with fail
  refine wp_region_still_tail (id := 6) 9 (by kernel_rfl) (by kernel_rfl) ?_
  change wpStill _ _ (World.drew _) (fun a' => wpList _ _ _ _ a' (World.drew _)) _ _
  simp only [List.take_succ_cons, List.take_zero, List.drop_succ_cons, List.drop_zero]
  repeat still_step
  refine wpStill_nil ?_
  go_wp2_with fail
  obtain ⟨wa, hwa⟩ := lx ((w2.setCell ⟨ge, 22, none⟩ (.int .i64 mm)).drew)
  have SA : Stp (fun c => c = k) o2 o2 w2 wa := by rw [hwa]; exact ⟨((Frm.refl _ _).setCell (.inl X2.out.og) _).drew, Agr.refl _ _⟩
  have XA := hid (X2.out.putI SA x.now x.limit x.sent m0 x.m1 x.m2 mm x.m4 x.m5 x.m6 x.m7 (by rw [hwa]; exact Blk.drew (by simpa using X2.out.blk.set 22 (.int .i64 mm))))
  have TA := hid (T2.out.trans (SA.mono (fun c hc => by rw [hc]; exact ⟨by omega, by omega⟩)))
  have BXA := hid (BX2.out.frm SA.f (by rw [og2]; omega))
  have VA := hid (V2.out.stp SA (by omega))
  rw [← hwa]
  clear hwa SA n22 y22 hmm X2 T2 BX2 V2
  have AC : Hid (Act (N + 500000) x { x with vE := vE, es := x.es ++ [⟨4, 0, [], p⟩], now := x.now, limit := x.limit, sent := x.sent, m0 := m0, m1 := x.m1, m2 := x.m2, m3 := mm, m4 := x.m4, m5 := x.m5, m6 := x.m6, m7 := x.m7 } [⟨4, 0, [], p⟩]) := hid (by
   obtain ⟨h1, h2, h3, h4, h5, h6, h7, h8, h9, h10⟩ := OK.out
   exact ⟨rfl, by simp [sents], ⟨h1, h2, h3, h4, h5, by dsimp only; omega, by dsimp only; omega, by simp; omega, by dsimp only; omega, hN⟩, rfl, fun e he => by rw [List.mem_singleton.1 he]; exact ⟨Nat.zero_le _, hn⟩⟩)
  have KD : Hid (∀ e ∈ ([⟨4, 0, [], p⟩] : List Ev), e.kind = 4 → e.pk = p) := hid (by intro e he _; rw [List.mem_singleton.1 he])
  obtain ⟨y, hy⟩ : ∃ y : EndV, y = { x with vE := vE, es := x.es ++ [⟨4, 0, [], p⟩], now := x.now, limit := x.limit, sent := x.sent, m0 := m0, m1 := x.m1, m2 := x.m2, m3 := mm, m4 := x.m4, m5 := x.m5, m6 := x.m6, m7 := x.m7 } := ⟨_, rfl⟩
  have hps : Hid (y.ps[i]? = some pv) := hid (by rw [hy]; exact HPV.out)
  have hgot : y.got.length ≤ N := by rw [hy]; exact OK.out.got
  rw [← hy] at XA AC
  clear hy
  have oky := AC.out.ok
  have es1 := oky.es
  have es2 := oky.outs
  have es3 := oky.lost
  have es4 := oky.got
  have sl1 := XA.out.said_le
  clear oky
  obtain ⟨k0, k1, k2, k3, k4, k5, k6, k7, k8⟩ := PB.of BXA.out
  rw [HPI.out] at k1
  obtain ⟨ad, cP, hvP, c9, d, u0, u1, u3, f0, f1⟩ := XA.out.pth (i := i) (q := pv) hps.out
  have i1 : (i : Int) < (y.ps.length : Int) := by have := (List.getElem?_eq_some_iff.1 hps.out).1; omega
  have i0 : (0 : Int) ≤ (i : Int) := by omega
  go_wp2_with fail
  go_quiet (fail)
  obtain ⟨wb, hwb⟩ := lx (wa.drewN nq)
  rw [← hwb]
  have FB : Below wa.heap.size wa wb := by rw [hwb]; exact below_drewN (Below.refl _ _) _
  have XB := hid (XA.out.below FB)
  have TB := hid (TA.out.trans (Stp.below FB))
  have BXB := hid (BXA.out.below FB)
  have VB := hid (VA.out.below FB)
  clear hwb FB XA TA BXA VA k0 k1 k2 k3 k4 k5 k6 k7 k8 hvP c9 d u0 u1 u3 f0 f1 hou hes hsl
  obtain ⟨k0, k1, k2, k3, k4, k5, k6, k7, k8⟩ := PB.of BXB.out
  rw [HPI.out] at k1
  rcases (by have := RP.out.kind; omega : p.kind = 1 ∨ p.kind = 2 ∨ p.kind = 3 ∨ p.kind = 4) with hk | hk | hk | hk
  ·rw [hk] at k0
   clear hk
   obtain ⟨hx3, hs3⟩ := XB.out.setJ (i := i) (q := pv) hps.out true
   obtain ⟨ad, cP, hvP, c9, d, u0, u1, u3, f0, f1⟩ := XB.out.pth (i := i) (q := pv) hps.out
   have X3 := hid hx3
   have T3 := hid (TB.out.trans (hs3.mono (fun c hc => by rw [hc]; exact ⟨by omega, by omega⟩)))
   have BX3 := hid (BXB.out.frm hs3.f (by rw [og2]; omega))
   have AC3 : Hid (Act (N + 500000) x { y with ps := y.ps.set i { pv with j := true } } [⟨4, 0, [], p⟩]) := hid ⟨AC.out.es, AC.out.outs, AC.out.ok.path (q' := { pv with j := true }) hps.out rfl, AC.out.side, AC.out.sm⟩
   have hps3 : Hid ((y.ps.set i { pv with j := true })[i]? = some { pv with j := true }) := hid (by rw [List.getElem?_set, if_pos rfl, if_pos (List.getElem?_eq_some_iff.1 hps.out).1])
   obtain ⟨j0, j1, j2, j3, j4, j5, j6, j7, j8⟩ := PB.of BX3.out
   rw [HPI.out] at j1
   clear hx3 hs3 hvP c9 d u0 u3 f0
   go_wp2_with fail
   refine (say_any o2 k B _ ge _ ⟨2, (i : Int), 0, p.number, 0, [], false, 0, 0⟩ (.slice none 0 0) i { pv with j := true } X3.out (Nat.le_trans hB T3.out.size) (BV.nil _ _) hps3.out rfl (by dsimp only; omega) (by dsimp only; omega)).mono ?_
   intro e w4 hsay
   obtain ⟨n4, b4, o4, x4, d4, rfl, hx4, hs4, hg4, _, _⟩ := hsay.grw X3.out hps3.out (Nat.zero_le _)
   have FIN := hid (ComeR.grw T3.out AC3.out KD.out hx4 hs4 hg4)
   clear hx4 hs4 hg4 hsay
   go_wp2_with fail
   go_ret
   exact ⟨_, rfl, FIN.out⟩
  ·rw [hk] at k0
   clear hk
   obtain ⟨hx3, hs3⟩ := XB.out.setJ (i := i) (q := pv) hps.out true
   obtain ⟨ad, cP, hvP, c9, d, u0, u1, u3, f0, f1⟩ := XB.out.pth (i := i) (q := pv) hps.out
   have X3 := hid hx3
   have T3 := hid (TB.out.trans (hs3.mono (fun c hc => by rw [hc]; exact ⟨by omega, by omega⟩)))
   have AC3 : Hid (Act (N + 500000) x { y with ps := y.ps.set i { pv with j := true } } [⟨4, 0, [], p⟩]) := hid ⟨AC.out.es, AC.out.outs, AC.out.ok.path (q' := { pv with j := true }) hps.out rfl, AC.out.side, AC.out.sm⟩
   clear hx3 hs3 hvP c9 d u0 u3 f0
   go_wp2_with fail
   refine (pump_any o2 k B _ _ ge _ X3.out AC3.out.ok (Nat.le_trans hB T3.out.size)).mono ?_
   rintro e w4 ⟨rfl, o4, x4, d4, hx4, hs4, hg4⟩
   have FIN := hid (ComeR.grw T3.out AC3.out KD.out hx4 hs4 hg4)
   clear hx4 hs4 hg4
   go_wp2_with fail
   go_ret
   exact ⟨_, rfl, FIN.out⟩
  ·obtain ⟨hf0, hf1, hf2, hf3⟩ := RP.out.data1 hk
   rw [hk] at k0
   clear hk
   obtain ⟨fn, hfn⟩ : ∃ fn : Nat, p.from_ = (fn : Int) := ⟨p.from_.toNat, by omega⟩
   rw [hfn] at k4
   have k15 := XB.out.blk.cell 15
   simp only [gA, gZ, gC] at k15
   go_wp2_with fail
   refine wp_region_still_tail (id := 20) 10 (by kernel_rfl) (by kernel_rfl) ?_
   change wpStill _ _ (World.drew _) (fun a' => wpList _ _ _ _ a' (World.drew _)) _ _
   simp only [List.take_succ_cons, List.take_zero, List.drop_succ_cons, List.drop_zero]
   repeat still_step
   refine wpStill_nil ?_
   go_wp2_with fail
   refine (iput_any B wb.drew y.gi y.wi y.ta y.en y.vib y.ib y.vg y.got (frozen o2) v8 p.data fn p.fin XB.out.drew.c5.r (Nat.le_trans hB TB.out.size) (VB.out.below bD) (fun j hj _ hi => by have h1 := XB.out.c5.ow j hi; have h2 : o2 j = 0 := hj; omega) (by omega) (by omega)).mono ?_
   rintro e w4 ⟨n4, en4, vb4, bl4, vg4, rs4, rfl, hin4, hrs4, hmv4⟩
   obtain ⟨hx5, hs5⟩ := XB.out.drew.mv5 hin4 hmv4
   have X5 := hid hx5
   have T5 := hid (TB.out.drew.trans (hs5.mono (fun c hc => by rw [hc]; exact ⟨by omega, by omega⟩)))
   have BX5 := hid (BXB.out.drew.frm hs5.f (by rw [og2]; omega))
   have og5 : scr o2 wb.drew.heap.size (k + 5) gb = 0 := (hs5.ag gb BXB.out.lt).trans og2
   have I4 := hid hin4
   have ok5 : EOk (N + 500000) { y with wi := y.wi, ta := y.ta, en := en4, vib := vb4, ib := bl4, vg := vg4, got := rs4 } := by
    obtain ⟨h1, h2, h3, h4, h5, h6, h7, h8, h9, h10⟩ := AC.out.ok
    exact ⟨h1, h2, h3, h4, h5, h6, by dsimp only; omega, h8, h9, h10⟩
   have AC5 : Hid (Act (N + 500000) x { y with wi := y.wi, ta := y.ta, en := en4, vib := vb4, ib := bl4, vg := vg4, got := rs4 } [⟨4, 0, [], p⟩]) := hid ⟨AC.out.es, AC.out.outs, ok5, AC.out.side, AC.out.sm⟩
   obtain ⟨z, hz⟩ : ∃ z : EndV, z = { y with wi := y.wi, ta := y.ta, en := en4, vib := vb4, ib := bl4, vg := vg4, got := rs4 } := ⟨_, rfl⟩
   have hps5 : Hid (z.ps[i]? = some pv) := hid (by rw [hz]; exact hps.out)
   have hgi : z.gi = y.gi := by rw [hz]
   have es5 : z.es.length ≤ 100000000 := by rw [hz]; dsimp only; omega
   have ou5 : z.outs.length ≤ 100000000 := by rw [hz]; dsimp only; omega
   obtain ⟨o5, ho5⟩ := lx (scr o2 wb.drew.heap.size (k + 5))
   rw [← ho5] at X5 T5 og5
   rw [← hz] at X5 AC5
   clear hx5 hs5 hin4 hmv4 ok5 hz ho5 k0 k1 k2 k3 k4 k5 k6 k7 k8 k15 hrs4
   obtain ⟨k0, k1, k2, k3, k4, k5, k6, k7, k8⟩ := PB.of BX5.out
   rw [HPI.out] at k1
   have k15 := X5.out.blk.cell 15
   simp only [gA, gZ, gC] at k15
   rw [hgi] at k15
   have KE : Hid (∀ W, Below w4.heap.size w4 W → W.cell? ⟨gb, 1, none⟩ = some (.int .i64 (i : Int)) ∧ W.cell? ⟨gb, 2, none⟩ = some (.int .i64 p.number) ∧ W.cell? ⟨ge, 15, none⟩ = some (.pointer (some ⟨y.gi, 0, none⟩))) := hid (fun W hW => by
    refine ⟨?_, ?_, ?_⟩
    ·rw [← k1]; exact World.cell?_of_block (hW.block _ BX5.out.lt)
    ·rw [← k2]; exact World.cell?_of_block (hW.block _ BX5.out.lt)
    ·rw [← k15]; exact World.cell?_of_block (hW.block _ X5.out.blk.lt))
   clear k0 k1 k2 k3 k4 k5 k6 k7 k8 k15
   go_wp2_with fail
   refine wp_region_held_drew (S := fun w' => w'.cell? ⟨gb, 1, none⟩ = some (.int .i64 (i : Int)) ∧ w'.cell? ⟨gb, 2, none⟩ = some (.int .i64 p.number) ∧ w'.cell? ⟨ge, 15, none⟩ = some (.pointer (some ⟨y.gi, 0, none⟩))) (by kernel_rfl) (KE.out _ bD) (fun hHeld => ?_)
   obtain ⟨wd, hwd⟩ := lx (w4.drew)
   have GD : Hid (Below w4.heap.size w4 wd) := hid (by rw [hwd]; exact bD)
   rw [← hwd] at hHeld ⊢
   clear hwd
   refine tk 0 (oi := ⟨some 105, _, _, _, _, _⟩) rfl ?_
   refine tk 1 (oi := ⟨some 106, _, _, _, _, _⟩) rfl ?_
   refine tk 2 (oi := ⟨some 107, _, _, _, _, _⟩) rfl ?_
   refine tk 3 (oi := ⟨some 108, _, _, _, _, _⟩) rfl ?_
   refine tk 4 (oi := ⟨some 109, _, _, _, _, _⟩) rfl ?_
   refine tk 5 (oi := ⟨some 110, _, _, _, _, _⟩) rfl ?_
   refine tk 6 (oi := ⟨some 111, _, _, _, _, _⟩) rfl ?_
   refine tk 7 (oi := ⟨some 112, _, _, _, _, _⟩) rfl ?_
   refine tk 8 (oi := ⟨some 113, _, _, _, _, _⟩) rfl ?_
   refine tk 10 (oi := ⟨some 115, _, _, _, _, _⟩) rfl ?_
   refine tk 11 (oi := ⟨some 116, _, _, _, _, _⟩) rfl ?_
   refine tk 12 (oi := ⟨some 117, _, _, _, _, _⟩) rfl ?_
   refine tk 13 (oi := ⟨some 118, _, _, _, _, _⟩) rfl ?_
   refine rD 9 (o := ⟨some 114, _, _, _, _, _⟩) rfl (fun K hK => ?_)
   go_simp
   refine (seen_any (w := wd) (I4.out.below GD.out).blk (I4.out.below GD.out).r).mono ?_
   rintro e _ ⟨rfl, nn, rfl⟩
   obtain ⟨wf, hwf⟩ := lx (wd.drewN nn)
   have GF : Hid (Below w4.heap.size w4 wf) := hid (by rw [hwf]; exact below_drewN GD.out _)
   rw [← hwf]
   clear hwf
   refine Ko hK (KE.out _ GF.out) (fun hHeld => ?_)
   clear hK K
   refine rD 14 (o := ⟨some 119, _, _, _, _, _⟩) rfl (fun K hK => ?_)
   go_simp
   obtain ⟨A1, c1, e1⟩ := own_slice' I4.out.b.1
   obtain ⟨A2, c2, e2, _, _⟩ := I4.out.r.len
   have tk4 := I4.out.tk
   have wi4 := I4.out.wi
   have tp4 := frontL_top I4.out.top (by omega)
   have bn4 := I4.out.bn
   refine (ilimit_any wf y.gi y.wi y.ta en4 A1 A2 _ c1 _ c2 (by have := (I4.out.below GF.out).blk; rw [e1, e2] at this; exact this) ⟨by omega, by omega, by omega, by omega⟩).mono ?_
   rintro e w6 ⟨rfl, hb6⟩
   have G6 := hid (bO GF.out hb6)
   clear hb6 e1 e2
   refine Ko hK (KE.out _ G6.out) (fun hHeld => ?_)
   clear hK K
   refine tk 15 (oi := ⟨some 120, _, _, _, _, _⟩) rfl ?_
   refine rD 16 (o := ⟨some 121, _, _, _, _, _⟩) rfl (fun K hK => ?_)
   go_simp
   have X6 := hid (X5.out.below G6.out)
   refine (say_any o5 k B _ ge _ ⟨4, (i : Int), 0, p.number, 0, [], false, seenL en4 rs4, y.ta + y.wi⟩ (.slice none 0 0) i pv X6.out (Nat.le_trans hB (Nat.le_trans T5.out.size G6.out.size)) (BV.nil _ _) hps5.out rfl es5 ou5).mono ?_
   intro e w7 hsay
   obtain ⟨n7, b7, o7, x7, d7, rfl, hx7, hs7, hg7, _, _⟩ := hsay.grw X6.out hps5.out (Nat.zero_le _)
   have SS7 : w7.cell? ⟨gb, 1, none⟩ = some (.int .i64 (i : Int)) ∧ w7.cell? ⟨gb, 2, none⟩ = some (.int .i64 p.number) ∧ w7.cell? ⟨ge, 15, none⟩ = some (.pointer (some ⟨y.gi, 0, none⟩)) := by
    obtain ⟨q1, q2, _⟩ := KE.out _ G6.out
    have hn : ¬ EC k (o5 gb) := by rw [og5]; exact ec0 kp
    have hl := (BX5.out.below G6.out).lt
    refine ⟨?_, ?_, ?_⟩
    ·rw [← q1]; exact World.cell?_of_block (hs7.f.block _ hl hn)
    ·rw [← q2]; exact World.cell?_of_block (hs7.f.block _ hl hn)
    ·have k15 := hx7.blk.cell 15
     simp only [gA, gZ, gC] at k15
     rw [k15, hg7.e, ← hgi]
   have FIN := hid (ComeR.grw (T5.out.trans (Stp.below G6.out)) AC5.out KD.out hx7 hs7 hg7)
   clear hx7 hs7 hg7 hsay
   refine Ko hK SS7 (fun hHeld => ?_)
   clear hK K SS7
   refine dn ?_
   clear hHeld
   go_wp2_with fail
   go_ret
   exact ⟨_, rfl, FIN.out⟩
  ·rw [hk] at k0
   clear hk
   have k8' := XB.out.blk.cell 8
   simp only [gA, gZ, gC] at k8'
   go_wp2_with fail
   refine wp_region_still_tail (id := 9) 7 (by kernel_rfl) (by kernel_rfl) ?_
   change wpStill _ _ (World.drew _) (fun a' => wpList _ _ _ _ a' (World.drew _)) _ _
   simp only [List.take_succ_cons, List.take_zero, List.drop_succ_cons, List.drop_zero]
   repeat still_step
   refine wpStill_nil ?_
   go_wp2_with fail
   have C9 := XB.out.c9 i pv hps.out
   have hln := C9.l
   have hs0 := C9.r.s0
   refine (packed_any B wb.drew pv.gp pv.gG pv.gW pv.u pv.j pv.b pv.s pv.v pv.l p.of_ y.now (C9.r.below bD) (Nat.le_trans hB TB.out.size) (by omega)).mono ?_
   rintro e w4 ⟨q4, b4, v4, l4, rfl, hp4, hl4, hm4⟩
   obtain ⟨hx5, hs5⟩ := XB.out.drew.mv9 (q' := { pv with b := b4, v := v4, l := l4 }) hps.out rfl hp4 hm4 (by dsimp only; omega)
   have X5 := hid hx5
   have T5 := hid (TB.out.drew.trans (hs5.mono (fun c hc => by rw [hc]; exact ⟨by omega, by omega⟩)))
   have BX5 := hid (BXB.out.drew.frm hs5.f (by rw [og2]; omega))
   have og5 : scr o2 wb.drew.heap.size (k + 10 + i) gb = 0 := (hs5.ag gb BXB.out.lt).trans og2
   have AC5 : Hid (Act (N + 500000) x { y with ps := y.ps.set i { pv with b := b4, v := v4, l := l4 } } [⟨4, 0, [], p⟩]) := hid ⟨AC.out.es, AC.out.outs, AC.out.ok.path (q' := { pv with b := b4, v := v4, l := l4 }) hps.out rfl, AC.out.side, AC.out.sm⟩
   obtain ⟨z, hz⟩ : ∃ z : EndV, z = { y with ps := y.ps.set i { pv with b := b4, v := v4, l := l4 } } := ⟨_, rfl⟩
   obtain ⟨o5, ho5⟩ := lx (scr o2 wb.drew.heap.size (k + 10 + i))
   rw [← ho5] at X5 T5 og5
   rw [← hz] at X5 AC5
   clear hx5 hs5 hp4 hm4 hz ho5 k0 k1 k2 k3 k4 k5 k6 k7 k8 k8' C9
   obtain ⟨k0, k1, k2, k3, k4, k5, k6, k7, k8⟩ := PB.of BX5.out
   have k12 := X5.out.blk.cell 12
   simp only [gA, gZ, gC] at k12
   obtain ⟨Ab, cb, hvb⟩ := own_slice' X5.out.c3.r.1
   have hob := AC5.out.ok.ob
   have OB : Hid (ObC w4 z.go z.bu z.ac Ab z.ob.length cb z.cl) := hid (by have := X5.out.c3.blk; rw [hvb] at this; exact this)
   have HVB := hid hvb
   clear hvb
   go_wp2_with fail
   refine wp_region_still_tail (id := 10) 6 (by kernel_rfl) (by kernel_rfl) ?_
   change wpStill _ _ (World.drew _) (fun a' => wpList _ _ _ _ a' (World.drew _)) _ _
   simp only [List.take_succ_cons, List.take_zero, List.drop_succ_cons, List.drop_zero]
   repeat still_step
   refine wpStill_nil ?_
   go_wp2_with fail
   refine (oack_any w4.drew z.go z.bu z.ac Ab z.ob.length cb z.cl p.seen OB.out (by omega)).mono ?_
   rintro e w6 ⟨b6, ac6, rfl, hob6, hf6, _⟩
   have S6 : Stp (fun c => c = k + 3) o5 o5 w4.drew w6 := ⟨hf6.mono (fun j hj => by rw [hj]; exact X5.out.c3.og), Agr.refl _ _⟩
   have hx6 := X5.out.drew.put3 S6 (bu' := z.bu) (ac' := ac6) (vb' := z.vb) (ob' := z.ob) (cl' := z.cl) ⟨by rw [HVB.out]; exact hob6, X5.out.drew.c3.r.frm hf6 (fun j hj => X5.out.c3.ne j hj), X5.out.drew.c3.ow.frm S6.ag S6.size, X5.out.c3.og, X5.out.c3.ge, X5.out.c3.ne⟩
   have X6 := hid hx6
   have T6 := hid (T5.out.drew.trans (S6.mono (fun c hc => by rw [hc]; exact ⟨by omega, by omega⟩)))
   have BX6 := hid (BX5.out.drew.frm S6.f (by rw [og5]; omega))
   have AC6 : Hid (Act (N + 500000) x { z with bu := z.bu, ac := ac6, vb := z.vb, ob := z.ob, cl := z.cl } [⟨4, 0, [], p⟩]) := hid (by
    obtain ⟨h1, h2, h3, h4, h5, h6, h7, h8, h9, h10⟩ := AC5.out.ok
    exact ⟨AC5.out.es, AC5.out.outs, ⟨h1, h2, h3, h4, h5, h6, h7, h8, h9, h10⟩, AC5.out.side, AC5.out.sm⟩)
   obtain ⟨z6, hz6⟩ : ∃ z6 : EndV, z6 = { z with bu := z.bu, ac := ac6, vb := z.vb, ob := z.ob, cl := z.cl } := ⟨_, rfl⟩
   rw [← hz6] at X6 AC6
   clear hx6 S6 hob6 hf6 hz6 k0 k1 k2 k3 k4 k5 k6 k7 k8 k12
   obtain ⟨k0, k1, k2, k3, k4, k5, k6, k7, k8⟩ := PB.of BX6.out
   have k11 := X6.out.blk.cell 11
   have y11 := X6.out.blk.free 11
   simp only [gA, gZ, gC] at k11
   obtain ⟨lm, hlm⟩ : ∃ m, mx z6.limit p.limit = m := ⟨_, rfl⟩
   go_wp2_with fail
   refine wp_region_still_tail (id := 11) 10 (by kernel_rfl) (by kernel_rfl) ?_
   change wpStill _ _ (World.drew _) (fun a' => wpList _ _ _ _ a' (World.drew _)) _ _
   simp only [List.take_succ_cons, List.take_zero, List.drop_succ_cons, List.drop_zero]
   repeat still_step
   refine wpStill_nil ?_
   go_wp2_with fail
   obtain ⟨w7, hw7⟩ := lx ((w6.setCell ⟨ge, 11, none⟩ (.int .i64 lm)).drew)
   have S7 : Stp (fun c => c = k) o5 o5 w6 w7 := by rw [hw7]; exact ⟨((Frm.refl _ _).setCell (.inl X6.out.og) _).drew, Agr.refl _ _⟩
   have X7 := hid (X6.out.putI S7 z6.now lm z6.sent z6.m0 z6.m1 z6.m2 z6.m3 z6.m4 z6.m5 z6.m6 z6.m7 (by rw [hw7]; exact Blk.drew (by have := X6.out.blk.set 11 (.int .i64 lm); simpa using this)))
   have T7 := hid (T6.out.trans (S7.mono (fun c hc => by rw [hc]; exact ⟨by omega, by omega⟩)))
   rw [← hw7]
   have AC7 : Hid (Act (N + 500000) x { z6 with now := z6.now, limit := lm, sent := z6.sent, m0 := z6.m0, m1 := z6.m1, m2 := z6.m2, m3 := z6.m3, m4 := z6.m4, m5 := z6.m5, m6 := z6.m6, m7 := z6.m7 } [⟨4, 0, [], p⟩]) := hid (by
    obtain ⟨h1, h2, h3, h4, h5, h6, h7, h8, h9, h10⟩ := AC6.out.ok
    exact ⟨AC6.out.es, AC6.out.outs, ⟨h1, h2, h3, h4, h5, h6, h7, h8, h9, h10⟩, AC6.out.side, AC6.out.sm⟩)
   clear hw7 S7
   refine (pump_any o5 k B _ w7 ge _ X7.out AC7.out.ok (Nat.le_trans hB T7.out.size)).mono ?_
   rintro e w8 ⟨rfl, o8, x8, d8, hx8, hs8, hg8⟩
   have FIN := hid (ComeR.grw T7.out AC7.out KD.out hx8 hs8 hg8)
   clear hx8 hs8 hg8
   go_wp2_with fail
   go_ret
   exact ⟨_, rfl, FIN.out⟩
end
end Go.Proofs.YtdneakejlbabeaaGreat
