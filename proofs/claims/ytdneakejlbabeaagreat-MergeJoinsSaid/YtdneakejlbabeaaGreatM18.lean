/- Parts of the walk: Ed, Ja, El, Em. -/
import Derived.Test.YtdneakejlbabeaaGreatM00
import Derived.Test.YtdneakejlbabeaaGreatM12
import Derived.Test.YtdneakejlbabeaaGreatM15
import Derived.Test.YtdneakejlbabeaaGreatM17
import Derived.Test.YtdneakejlbabeaaGreatM03
namespace Go.Proofs.YtdneakejlbabeaaGreat
open Go.RowKit
set_option linter.unusedVariables false
set_option linter.unusedSimpArgs false
section
theorem run_min3_ (ats : Array TypeId) (ty : TypeId) (a b c : Value) : Builtin.min_ ats ty #[a, b, c] = (Builtin.min2 a b >>= fun s => Builtin.min2 s c >>= fun s => pure s) := by simp only [Builtin.min_, List.foldlM_cons, List.foldlM_nil]
attribute [local go_sem] run_max2' run_min2' run_max_ run_min_ run_min3_
theorem Frm.of_heap {S : Nat → Prop} {a w w' : World} (h : Frm S a w) (hh : w'.heap = w.heap) (h1 : w'.os = a.os) (h2 : w'.tape = a.tape) (h3 : w'.output = a.output) : Frm S a w' :=
 ⟨h1, h2, h3, by rw [hh]; exact h.size, fun k hk hn => by rw [hh]; exact h.block k hk hn⟩
/-- What a writing leaves. -/
def OWriteR (w : World) (B g : Nat) (bu ac : Int) (v : Value) (ob l : List Int) (cl : Bool) (e : Ending) (w' : World) : Prop :=
 ∃ (k : Nat) (A' : Option Addr) (c' : Nat), k ≤ l.length ∧ ob.length + k ≤ 4096 ∧ e = .returned (.int .i64 k) ∧ ObC w' g bu ac A' (ob.length + k) c' cl ∧ w'.ownsRow B 5 1 (.slice A' (ob.length + k) c') (ob.length + k) (u8s (ob ++ l.take k)) ∧ Frm (fun j => j = g ∨ v.ownBlock = some j) w w' ∧ ((Value.slice A' (ob.length + k) c').ownBlock = v.ownBlock ∨ ∀ j, (Value.slice A' (ob.length + k) c').ownBlock = some j → w.heap.size ≤ j)
set_option maxHeartbeats 8000000 in
set_option maxRecDepth 100000 in
theorem owrite_any (w : World) (B g : Nat) (bu ac : Int) (A : Option Addr) (c : Nat) (ob : List Int) (cl : Bool) (S : Nat → Prop) (vb : Value) (l : List Int)
  (h : ObC w g bu ac A ob.length c cl) (ho : w.ownsRow B 5 1 (.slice A ob.length c) ob.length (u8s ob)) (hB : B ≤ w.heap.size) (hg : ∀ j, (Value.slice A ob.length c).ownBlock = some j → j ≠ g) (hb : BV w S vb l) (hn : ob.length ≤ 4096) (hl : l.length ≤ 1000000) :
  Calls Tryz.prog 67 #[.pointer (some ⟨g, 0, none⟩), vb] w fun e w' => OWriteR w B g bu ac (.slice A ob.length c) ob l cl e w' := by
 have c0 := h.cell 0
 have c1 := h.cell 1
 have c2 := h.cell 2
 have c3 := h.cell 3
 have f2 := h.free 2
 simp at c0 c1 c2 c3
 have H := hid h
 have HO := hid ho
 have HB := hid hb
 have HI := hid Tryz.info5
 have hgl := h.lt
 have hgn : ¬ (Value.slice A ob.length c).ownBlock = some g := fun e => hg g e rfl
 obtain ⟨A2, cb, rfl, hbc, hbm⟩ := hb.len
 clear h ho hb hg
 cases cl
 ·obtain ⟨n, hN⟩ : ∃ n, ob.length = n := ⟨_, rfl⟩
  obtain ⟨m, hM⟩ : ∃ m, l.length = m := ⟨_, rfl⟩
  obtain ⟨x1, hx1⟩ : ∃ x, IntKind.i64.wrap ((n : Int) - mn ac (n : Int)) = x := ⟨_, rfl⟩
  obtain ⟨x2, hx2⟩ : ∃ x, IntKind.i64.wrap (bu - x1) = x := ⟨_, rfl⟩
  obtain ⟨x3, hx3⟩ : ∃ x, IntKind.i64.wrap (4096 - (n : Int)) = x := ⟨_, rfl⟩
  have hx3' : x3 = 4096 - (n : Int) := by rw [← hx3]; exact iX
  obtain ⟨y, hy⟩ : ∃ y, mn (mn (m : Int) x2) x3 = y := ⟨_, rfl⟩
  obtain ⟨k, hk, hkm, hkn⟩ : ∃ k : Nat, mx y 0 = (k : Int) ∧ k ≤ m ∧ n + k ≤ 4096 := by
   refine ⟨(mx y 0).toNat, ?_, ?_, ?_⟩ <;> (rw [← hy]; unfold mx mn; (repeat' split) <;> omega)
  have HK := hid hk
  have HY := hid hy
  have HN := hid hN
  have HM := hid hM
  rw [hN] at c2 hgn
  have HS : Hid (Sl w 1 (.slice A2 k cb) k ((u8s l).take k)) := hid (by have := HB.out.sl; rw [hM] at this; exact this.take hkm)
  have HO' : Hid (w.ownsRow B 5 1 (.slice A n c) n (u8s ob)) := hid (by have := HO.out; rw [hN] at this; exact this)
  rw [hM]
  clear hx3' hk hy hN
  have i0 : (0 : Int) ≤ (k : Int) := by omega
  have i1 : (k : Int) ≤ (cb : Int) := by omega
  go_enter Tryz.func67, Tryz.ntmps67
  go_wp2_with fail
  go_quiet (fail)
  rw [HY.out]
  go_wp2_with fail
  rw [HK.out]
  obtain ⟨wa, hwa⟩ := lx (World.drewN w nq)
  have hh : wa.heap = w.heap := by rw [hwa]; rfl
  have FA : Hid (Frm (fun j => j = g ∨ (Value.slice A n c).ownBlock = some j) w wa) := hid (by rw [hwa]; exact (Frm.refl _ _).drewN _)
  have OA : Hid (wa.ownsRow B 5 1 (.slice A n c) n (u8s ob)) := hid (own_frm HO'.out ((Frm.refl (fun _ => False) w).of_heap hh FA.out.os FA.out.tape FA.out.output) (fun _ _ h => h))
  have SA : Hid (Sl wa 1 (.slice A2 k cb) k ((u8s l).take k)) := hid (HS.out.same hh)
  have BA : Hid (Blk wa g #[.int .i64 bu, .int .i64 ac, .slice A n c, .bool false] 133) := hid (by have := Blk.same H.out hh; rw [HN.out] at this; exact this)
  have sA : w.heap.size = wa.heap.size := by rw [hh]
  rw [← hwa]
  have a2 := BA.out.cell 2
  have a2f := BA.out.free 2
  simp only [gA, gZ, gC] at a2
  have sd : wa.drew.heap.size = wa.heap.size := rfl
  clear hwa hh c0 c1 c2 c3 f2
  first | (go_region_law (first | (refine step_app (v := .slice A n c) B (by rfl) _ _ 25 5 (.int .u8 0) 1 1 (by rfl) Tryz.underlying25 HI.out rfl (by omega) (by omega) (by rfl) (by rfl) OA.out.drew SA.out.drew (by omega) (by omega) ?_; intro v7 w7 hown hfr hat; have O7 := hid hown; have F7 := hid hfr; have HA7 := hid hat; have B7 := hid (BA.out.drew.frm hfr hgn); obtain ⟨A7, c7, rfl⟩ := own_slice' hown; have d2 := B7.out.cell 2; have d2f := B7.out.free 2; simp only [gA, gZ, gC] at d2; clear hown hfr hat) | fail)) | fail
  all_goals go_wp2_with fail
  go_ret
  have hsz := F7.out.size
  refine ⟨k, A7, c7, by rw [HM.out]; exact hkm, by rw [HN.out]; exact hkn, rfl, ?_, ?_, ?_, ?_⟩
  ·rw [HN.out]
   have := B7.out.set 2 (.slice A7 (n + k) c7)
   simpa using this
  ·rw [HN.out, u8s_append, show u8s (l.take k) = (u8s l).take k from by simp [u8s, List.map_take]]
   exact own_frm O7.out ((Frm.refl (· = g) w7).setg (i := 2) _) (fun j hj e => by
    rcases HA7.out with ha | ha
    ·rw [ha] at hj; exact hgn (e ▸ hj)
    ·rw [ha] at hj; injection hj with hj; omega)
  ·rw [HN.out]
   exact (FA.out.drew.trans (F7.out.mono (fun j hj => .inr hj))).setCell (.inl (.inl rfl)) _
  ·rw [HN.out]
   rcases HA7.out with ha | ha
   ·exact .inl ha
   ·exact .inr (fun j hj => by rw [ha] at hj; injection hj with hj; omega)
 ·go_enter Tryz.func67, Tryz.ntmps67
  go_wp2_with fail
  go_ret
  exact ⟨0, A, c, Nat.zero_le _, hn, rfl, H.out, by simpa using HO.out, Frm.refl _ _, .inl rfl⟩
end

section
/-- The owner of a slice's block. -/
def Ow (o : Nat → Nat) (w : World) (c : Nat) (v : Value) : Prop := ∀ j, v.ownBlock = some j → o j = c ∧ j < w.heap.size
/-- Owners of old blocks stay. -/
def Agr (n : Nat) (o o' : Nat → Nat) : Prop := ∀ j, j < n → o' j = o j
theorem Agr.refl (n : Nat) (o : Nat → Nat) : Agr n o o := fun _ _ => rfl
theorem Agr.trans {n m : Nat} {a b c : Nat → Nat} (h : Agr n a b) (k : Agr m b c) (hn : n ≤ m) : Agr n a c := fun j hj => (k j (by omega)).trans (h j hj)
theorem Ow.frm {o o' : Nat → Nat} {w w' : World} {c : Nat} {v : Value} (h : Ow o w c v) (ag : Agr w.heap.size o o') (hs : w.heap.size ≤ w'.heap.size) : Ow o' w' c v := fun j hj => ⟨(ag j (h j hj).2).trans (h j hj).1, Nat.lt_of_lt_of_le (h j hj).2 hs⟩
/-- What a call on a thing of these codes leaves alone. -/
structure Stp (C : Nat → Prop) (o o' : Nat → Nat) (w w' : World) : Prop where
 f : Frm (fun j => C (o j)) w w'
 ag : Agr w.heap.size o o'
theorem Stp.refl (C : Nat → Prop) (o : Nat → Nat) (w : World) : Stp C o o w w := ⟨Frm.refl _ _, Agr.refl _ _⟩
theorem Stp.trans {C : Nat → Prop} {o o' o'' : Nat → Nat} {a b c : World} (h : Stp C o o' a b) (k : Stp C o' o'' b c) : Stp C o o'' a c :=
 ⟨⟨k.f.os.trans h.f.os, k.f.tape.trans h.f.tape, k.f.output.trans h.f.output, Nat.le_trans h.f.size k.f.size, fun j hj hn => (k.f.block j (Nat.lt_of_lt_of_le hj h.f.size) (by rw [h.ag j hj]; exact hn)).trans (h.f.block j hj hn)⟩, h.ag.trans k.ag h.f.size⟩
theorem Stp.mono {C D : Nat → Prop} {o o' : Nat → Nat} {w w' : World} (h : Stp C o o' w w') (hD : ∀ c, C c → D c) : Stp D o o' w w' := ⟨h.f.mono (fun j hj => hD _ hj), h.ag⟩
theorem Stp.below {C : Nat → Prop} {o : Nat → Nat} {w w' : World} (h : Below w.heap.size w w') : Stp C o o w w' := ⟨Frm.of_below h, Agr.refl _ _⟩
theorem Stp.size {C : Nat → Prop} {o o' : Nat → Nat} {w w' : World} (h : Stp C o o' w w') : w.heap.size ≤ w'.heap.size := h.f.size
/-- A path's values. -/
structure PathV where
 gp : Nat
 gG : Nat
 gW : Nat
 u : Bool
 j : Bool
 b : Bool
 s : Int
 v : Value
 l : List O4
/-- An end's values. -/
structure EndV where
 c0 : Int
 c1 : Int
 c2 : Int
 c3 : Int
 c4 : Int
 c5 : Int
 c6 : Int
 side : Int
 now : Int
 vP : Value
 ps : List PathV
 vD : Value
 due : List Int
 limit : Int
 go : Nat
 bu : Int
 ac : Int
 vb : Value
 ob : List Int
 cl : Bool
 sent : Int
 vl : Value
 lost : List (Int × Int)
 gi : Nat
 wi : Int
 ta : Nat
 en : Int
 vib : Value
 ib : List Int
 vg : Value
 got : List (Int × Int)
 gs : Nat
 vE : Value
 es : List Ev
 vO : Value
 outs : List Pk
 m0 : Int
 m1 : Int
 m2 : Int
 m3 : Int
 m4 : Int
 m5 : Int
 m6 : Int
 m7 : Int
/-- Its cells. -/
abbrev ecs (x : EndV) : Array Value := #[.int .i64 x.c0, .int .i64 x.c1, .int .i64 x.c2, .int .i64 x.c3, .int .i64 x.c4, .int .i64 x.c5, .int .i64 x.c6, .int .i64 x.side, .int .i64 x.now, x.vP, x.vD, .int .i64 x.limit, .pointer (some ⟨x.go, 0, none⟩), .int .i64 x.sent, x.vl, .pointer (some ⟨x.gi, 0, none⟩), .pointer (some ⟨x.gs, 0, none⟩), x.vE, x.vO,
 .int .i64 x.m0, .int .i64 x.m1, .int .i64 x.m2, .int .i64 x.m3, .int .i64 x.m4, .int .i64 x.m5, .int .i64 x.m6, .int .i64 x.m7]
def frozen (o : Nat → Nat) : Nat → Prop := fun j => o j = 0
abbrev EvRow (o : Nat → Nat) (B : Nat) (w : World) (v : Value) (es : List Ev) : Prop := OutG ecells 12 29 (fun S w (e : Ev) x => EV w S e x) B (frozen o) w v es
abbrev PkRow (o : Nat → Nat) (B : Nat) (w : World) (v : Value) (ps : List Pk) : Prop := OutG pcells 9 27 (fun S w (p : Pk) x => BV w S x p.data) B (frozen o) w v ps
/-- The parts. -/
structure C1 (o : Nat → Nat) (k : Nat) (w : World) (vP : Value) (ps : List PathV) : Prop where
 r : Sl w 1 vP ps.length (ps.map fun p => .pointer (some ⟨p.gp, 0, none⟩))
 ow : Ow o w (k + 1) vP
structure C2 (o : Nat → Nat) (k B : Nat) (w : World) (vD : Value) (due : List Int) : Prop where
 r : w.ownsRow B 3 1 vD due.length (due.map fun n => .int .i64 n)
 ow : Ow o w (k + 2) vD
structure C3 (o : Nat → Nat) (k B : Nat) (w : World) (go : Nat) (bu ac : Int) (vb : Value) (ob : List Int) (cl : Bool) : Prop where
 blk : Blk w go #[.int .i64 bu, .int .i64 ac, vb, .bool cl] 133
 r : BO B w vb ob
 ow : Ow o w (k + 3) vb
 og : o go = k + 3
 ge : B ≤ go
 ne : ∀ j, vb.ownBlock = some j → j ≠ go
structure C4 (o : Nat → Nat) (k : Nat) (w : World) (vl : Value) (lost : List (Int × Int)) : Prop where
 r : RR w vl lost
 ow : Ow o w (k + 4) vl
 s : Srt lost
structure C5 (o : Nat → Nat) (k B : Nat) (w : World) (gi : Nat) (wi : Int) (ta : Nat) (en : Int) (vib : Value) (ib : List Int) (vg : Value) (got : List (Int × Int)) : Prop where
 r : InAt B w gi wi ta en vib ib vg got
 ow : ∀ i, ifp gi vib vg i → o i = k + 5
structure C6 (o : Nat → Nat) (k B : Nat) (w : World) (gs : Nat) : Prop where
 r : CkOk w gs
 ow : o gs = k + 6
 ge : B ≤ gs
structure C7 (o : Nat → Nat) (k B : Nat) (w : World) (vE : Value) (es : List Ev) : Prop where
 r : EvRow o B w vE es
 ow : Ow o w (k + 7) vE
structure C8 (o : Nat → Nat) (k B : Nat) (w : World) (vO : Value) (outs : List Pk) : Prop where
 r : PkRow o B w vO outs
 ow : Ow o w (k + 8) vO
structure C9 (o : Nat → Nat) (k B : Nat) (w : World) (i : Nat) (p : PathV) : Prop where
 r : PathAt B w p.gp p.gG p.gW p.u p.j p.b p.s p.v p.l
 ow : ∀ j, pfp p.gp p.gG p.gW p.v j → o j = k + 10 + i
 l : p.l.length ≤ p.s.toNat
theorem PathAt.fp_lt {B : Nat} {w : World} {gp gG gW : Nat} {u j b : Bool} {s : Int} {v : Value} {l : List O4} (h : PathAt B w gp gG gW u j b s v l) : ∀ i, pfp gp gG gW v i → i < w.heap.size := fun i hi => by
 rcases hi with rfl | rfl | rfl | hi
 ·exact h.blk.lt
 ·exact h.g.lt
 ·exact h.wd.lt
 ·exact (h.l.lt i hi).2
section
variable {C : Nat → Prop} {o o' : Nat → Nat} {k B : Nat} {w w' : World}
theorem C1.frm {vP : Value} {ps : List PathV} (h : C1 o k w vP ps) (s : Stp C o o' w w') (hC : ¬ C (k + 1)) : C1 o' k w' vP ps :=
 ⟨h.r.frm s.f (fun j hj hc => hC ((h.ow j hj).1 ▸ hc)), h.ow.frm s.ag s.size⟩
theorem C2.frm {vD : Value} {due : List Int} (h : C2 o k B w vD due) (s : Stp C o o' w w') (hC : ¬ C (k + 2)) : C2 o' k B w' vD due :=
 ⟨own_frm h.r s.f (fun j hj hc => hC ((h.ow j hj).1 ▸ hc)), h.ow.frm s.ag s.size⟩
theorem C3.frm {go : Nat} {bu ac : Int} {vb : Value} {ob : List Int} {cl : Bool} (h : C3 o k B w go bu ac vb ob cl) (s : Stp C o o' w w') (hC : ¬ C (k + 3)) : C3 o' k B w' go bu ac vb ob cl :=
 ⟨h.blk.frm s.f (fun hc => hC (h.og ▸ hc)), h.r.frm s.f (fun j hj hc => hC ((h.ow j hj).1 ▸ hc)), h.ow.frm s.ag s.size, (s.ag _ h.blk.lt).trans h.og, h.ge, h.ne⟩
theorem C4.frm {vl : Value} {lost : List (Int × Int)} (h : C4 o k w vl lost) (s : Stp C o o' w w') (hC : ¬ C (k + 4)) : C4 o' k w' vl lost :=
 ⟨h.r.frm s.f (fun j hj hc => hC ((h.ow j hj).1 ▸ hc)), h.ow.frm s.ag s.size, h.s⟩
theorem C5.frm {gi : Nat} {wi : Int} {ta : Nat} {en : Int} {vib : Value} {ib : List Int} {vg : Value} {got : List (Int × Int)} (h : C5 o k B w gi wi ta en vib ib vg got) (s : Stp C o o' w w') (hC : ¬ C (k + 5)) : C5 o' k B w' gi wi ta en vib ib vg got :=
 ⟨h.r.frm s.f (fun i hi hc => hC (h.ow i hi ▸ hc)), fun i hi => (s.ag _ (h.r.lt i hi)).trans (h.ow i hi)⟩
theorem C6.frm {gs : Nat} (h : C6 o k B w gs) (s : Stp C o o' w w') (hC : ¬ C (k + 6)) : C6 o' k B w' gs :=
 ⟨h.r.frm s.f (fun hc => hC (h.ow ▸ hc)), (s.ag _ h.r.lt).trans h.ow, h.ge⟩
theorem frozen_ag {n : Nat} (ag : Agr n o o') : ∀ j, frozen o j → j < n → frozen o' j := fun j hj hn => (ag j hn).trans hj
theorem OutG.frmO {α β : Type} {f : α → β → List Value} {kk te : Nat} {X : (Nat → Prop) → World → α → β → Prop} (hX : Lies X) {v : Value} {l : List α} {c : Nat} (h : OutG f kk te X B (frozen o) w v l) (ho : Ow o w c v) (s : Stp C o o' w w') (h0 : ¬ C 0) (hc : ¬ C c) (hz : c ≠ 0) : OutG f kk te X B (frozen o') w' v l := by
 obtain ⟨vs, h1, h2, h3, h4⟩ := h
 refine ⟨vs, own_frm h1 s.f (fun j hj hh => hc ((ho j hj).1 ▸ hh)), h2, fun i a b ha hb => ?_, fun j hj hf => ?_⟩
 ·have g := hX.mono (S' := fun j => frozen o j ∧ j < w.heap.size) (h3 i a b ha hb) (fun j hj hl => ⟨hj, hl⟩)
  have g2 := hX.frm g s.f (fun j hj hh => h0 (hj.1 ▸ hh))
  exact hX.mono g2 (fun j hj _ => frozen_ag s.ag j hj.1 hj.2)
 ·have := s.ag j (ho j hj).2
  have h5 := (ho j hj).1
  unfold frozen at hf
  omega
theorem C7.frm {vE : Value} {es : List Ev} (h : C7 o k B w vE es) (s : Stp C o o' w w') (h0 : ¬ C 0) (hC : ¬ C (k + 7)) : C7 o' k B w' vE es :=
 ⟨h.r.frmO liesE h.ow s h0 hC (by omega), h.ow.frm s.ag s.size⟩
theorem C8.frm {vO : Value} {outs : List Pk} (h : C8 o k B w vO outs) (s : Stp C o o' w w') (h0 : ¬ C 0) (hC : ¬ C (k + 8)) : C8 o' k B w' vO outs :=
 ⟨h.r.frmO liesP h.ow s h0 hC (by omega), h.ow.frm s.ag s.size⟩
theorem C9.frm {i : Nat} {p : PathV} (h : C9 o k B w i p) (s : Stp C o o' w w') (hC : ¬ C (k + 10 + i)) : C9 o' k B w' i p :=
 ⟨h.r.frm s.f (fun j hj hc => hC (h.ow j hj ▸ hc)), fun j hj => (s.ag _ (h.r.fp_lt j hj)).trans (h.ow j hj), h.l⟩
end
/-- How many packets its paths have said. -/
def said (ps : List PathV) : Nat := (ps.map fun p => p.s.toNat).sum
/-- The numbers of an end. -/
structure EOk (N : Nat) (x : EndV) : Prop where
 np : 1 ≤ x.ps.length ∧ x.ps.length ≤ 3
 nd : x.due.length = x.ps.length
 nc : x.c0 = x.ps.length
 now : 0 ≤ x.now ∧ x.now ≤ 1048576
 ob : x.ob.length ≤ 4096
 lost : x.lost.length ≤ N
 got : x.got.length ≤ N
 es : 500000 * x.es.length ≤ N + 500000 * said x.ps
 outs : x.outs.length ≤ N + said x.ps
 N : N ≤ 40000000
/-- An end. -/
structure EndS (o : Nat → Nat) (k B : Nat) (w : World) (ge : Nat) (x : EndV) : Prop where
 blk : Blk w ge (ecs x) 78
 og : o ge = k
 ge : B ≤ ge
 kp : 0 < k
 c1 : C1 o k w x.vP x.ps
 c2 : C2 o k B w x.vD x.due
 c3 : C3 o k B w x.go x.bu x.ac x.vb x.ob x.cl
 c4 : C4 o k w x.vl x.lost
 c5 : C5 o k B w x.gi x.wi x.ta x.en x.vib x.ib x.vg x.got
 c6 : C6 o k B w x.gs
 c7 : C7 o k B w x.vE x.es
 c8 : C8 o k B w x.vO x.outs
 c9 : ∀ i p, x.ps[i]? = some p → C9 o k B w i p
 np : x.ps.length ≤ 3
theorem EndS.frm {C : Nat → Prop} {o o' : Nat → Nat} {k B : Nat} {w w' : World} {ge : Nat} {x : EndV} (h : EndS o k B w ge x) (s : Stp C o o' w w') (h0 : ¬ C 0) (hC : ∀ c, C c → c < k ∨ k + 13 ≤ c) : EndS o' k B w' ge x :=
 ⟨h.blk.frm s.f (fun hc => by have := hC _ hc; rw [h.og] at this; omega), (s.ag _ h.blk.lt).trans h.og, h.ge, h.kp, h.c1.frm s (fun hc => by have := hC _ hc; omega), h.c2.frm s (fun hc => by have := hC _ hc; omega), h.c3.frm s (fun hc => by have := hC _ hc; omega), h.c4.frm s (fun hc => by have := hC _ hc; omega), h.c5.frm s (fun hc => by have := hC _ hc; omega), h.c6.frm s (fun hc => by have := hC _ hc; omega), h.c7.frm s h0 (fun hc => by have := hC _ hc; omega), h.c8.frm s h0 (fun hc => by have := hC _ hc; omega),
  fun i p hi => (h.c9 i p hi).frm s (fun hc => by have := hC _ hc; have := (List.getElem?_eq_some_iff.1 hi).1; have := h.np; omega), h.np⟩
theorem EndS.below {o : Nat → Nat} {k B : Nat} {w w' : World} {ge : Nat} {x : EndV} (h : EndS o k B w ge x) (b : Below w.heap.size w w') : EndS o k B w' ge x := h.frm (C := fun _ => False) (Stp.below b) (fun h => h) (fun _ h => h.elim)
section
variable {o o' : Nat → Nat} {k B : Nat} {w w' : World} {ge : Nat} {x : EndV}
/-- One part turned, and its own cells. -/
theorem EndS.put7 (h : EndS o k B w ge x) (s : Stp (fun c => c = k ∨ c = k + 7) o o' w w') {vE' : Value} {es' : List Ev} {m : Int} (hb : Blk w' ge (ecs { x with vE := vE', es := es', m0 := m }) 78) (h7 : C7 o' k B w' vE' es') : EndS o' k B w' ge { x with vE := vE', es := es', m0 := m } :=
 have kp := h.kp
 ⟨hb, (s.ag _ h.blk.lt).trans h.og, h.ge, h.kp, h.c1.frm s (by omega), h.c2.frm s (by omega), h.c3.frm s (by omega), h.c4.frm s (by omega), h.c5.frm s (by omega), h.c6.frm s (by omega), h7, h.c8.frm s (by omega) (by omega), fun i p hi => (h.c9 i p hi).frm s (by omega), h.np⟩
theorem EndS.put8 (h : EndS o k B w ge x) (s : Stp (fun c => c = k ∨ c = k + 8) o o' w w') {vO' : Value} {outs' : List Pk} (hb : Blk w' ge (ecs { x with vO := vO', outs := outs' }) 78) (h8 : C8 o' k B w' vO' outs') : EndS o' k B w' ge { x with vO := vO', outs := outs' } :=
 have kp := h.kp
 ⟨hb, (s.ag _ h.blk.lt).trans h.og, h.ge, h.kp, h.c1.frm s (by omega), h.c2.frm s (by omega), h.c3.frm s (by omega), h.c4.frm s (by omega), h.c5.frm s (by omega), h.c6.frm s (by omega), h.c7.frm s (by omega) (by omega), h8, fun i p hi => (h.c9 i p hi).frm s (by omega), h.np⟩
/-- A cell of its own block alone. -/
theorem EndS.cells (h : EndS o k B w ge x) (s : Stp (fun c => c = k) o o' w w') (hb : Blk w' ge (ecs x) 78) : EndS o' k B w' ge x :=
 have kp := h.kp
 ⟨hb, (s.ag _ h.blk.lt).trans h.og, h.ge, h.kp, h.c1.frm s (by omega), h.c2.frm s (by omega), h.c3.frm s (by omega), h.c4.frm s (by omega), h.c5.frm s (by omega), h.c6.frm s (by omega), h.c7.frm s (by omega) (by omega), h.c8.frm s (by omega) (by omega), fun i p hi => (h.c9 i p hi).frm s (by omega), h.np⟩
end
/-- New blocks' owners. -/
def ext (o : Nat → Nat) (n : Nat) (v : Value) (c : Nat) : Nat → Nat := fun j => if j < n then o j else if v.ownBlock = some j then c else 0
theorem ext_agr (o : Nat → Nat) (n : Nat) (v : Value) (c : Nat) : Agr n o (ext o n v c) := fun j hj => by unfold ext; rw [if_pos hj]
theorem ext_ow {o : Nat → Nat} {w w' : World} {v v' : Value} {c : Nat} (h : Ow o w c v) (hat : v'.ownBlock = v.ownBlock ∨ ∀ j, v'.ownBlock = some j → w.heap.size ≤ j) (hl : ∀ j, v'.ownBlock = some j → j < w'.heap.size) : Ow (ext o w.heap.size v' c) w' c v' := fun j hj => by
 refine ⟨?_, hl j hj⟩
 rcases hat with e | e
 ·have := h j (e ▸ hj)
  unfold ext
  rw [if_pos this.2]
  exact this.1
 ·have := e j hj
  unfold ext
  rw [if_neg (by omega), if_pos hj]
theorem OutG.push {α β : Type} {f : α → β → List Value} {kk te B : Nat} {X : (Nat → Prop) → World → α → β → Prop} (hX : Lies X) {o : Nat → Nat} {w W2 : World} {v v' : Value} {l : List α} {vs : List β} {a : α} {b : β} {c : Nat} (h1 : w.ownsRow B te kk v l.length (rowsG f l vs)) (h2 : vs.length = l.length) (h3 : ∀ (i : Nat) (a : α) (b : β), l[i]? = some a → vs[i]? = some b → X (frozen o) w a b)
  (ho : Ow o w c v) (hc : c ≠ 0) (hx : X (frozen o) w a b) (hfr : Frm (fun j => v.ownBlock = some j) w W2) (hown : W2.ownsRow B te kk v' (l.length + 1) (rowsG f l vs ++ f a b)) (hat : v'.ownBlock = v.ownBlock ∨ ∀ j, v'.ownBlock = some j → w.heap.size ≤ j) :
  OutG f kk te X B (frozen (ext o w.heap.size v' c)) W2 v' (l ++ [a]) ∧ Ow (ext o w.heap.size v' c) W2 c v' := by
 have hw := ext_ow (w' := W2) ho hat (fun j hj => (hown.lt j hj).2)
 have key : ∀ (a : α) (b : β), X (frozen o) w a b → X (frozen (ext o w.heap.size v' c)) W2 a b := fun a b hab => by
  have g := hX.mono (S' := fun j => frozen o j ∧ j < w.heap.size) hab (fun j hj hl => ⟨hj, hl⟩)
  have g2 := hX.frm g hfr (fun j hj hh => by have := (ho j hh).1; have h5 := hj.1; unfold frozen at h5; omega)
  exact hX.mono g2 (fun j hj _ => frozen_ag (ext_agr o _ v' c) j hj.1 hj.2)
 refine ⟨⟨vs ++ [b], ?_, by simp [h2], fun i a' b' ha hb => ?_, fun j hj hS => ?_⟩, hw⟩
 ·rw [rowsG_snoc l a vs b h2, List.length_append]
  exact hown
 ·by_cases hi : i < l.length
  ·rw [List.getElem?_append_left hi] at ha
   rw [List.getElem?_append_left (by omega)] at hb
   exact key _ _ (h3 i a' b' ha hb)
  ·have hi2 : i < (l ++ [a]).length := (List.getElem?_eq_some_iff.1 ha).1
   simp only [List.length_append, List.length_cons, List.length_nil] at hi2
   obtain rfl : i = l.length := by omega
   rw [List.getElem?_append_right (Nat.le_refl _), Nat.sub_self] at ha
   rw [List.getElem?_append_right (by omega), h2, Nat.sub_self] at hb
   simp only [List.getElem?_cons_zero, Option.some.injEq] at ha hb
   subst ha
   subst hb
   exact key _ _ hx
 ·have := (hw j hj).1
  unfold frozen at hS
  omega
end

section
attribute [local go_sem] run_max2' run_min2' run_max_ run_min_
/-- How many bytes a number takes. -/
def sizeN (n : Int) : Int := if n < 0 ∨ 4611686018427387903 < n then 0 else if n < 64 then 1 else if n < 16384 then 2 else if n < 1073741824 then 4 else 8
set_option maxHeartbeats 2000000 in
theorem size_any (n : Int) (w : World) : Calls Tryz.prog 119 #[.int .i64 n] w fun e w' => e = .returned (.int .i64 (sizeN n)) ∧ w = w' := by
 unfold sizeN
 by_cases h0 : n < 0
 ·rw [if_pos (.inl h0)]
  go_enter Tryz.func119, Tryz.ntmps119
  go_wp2_with fail
  go_ret
  exact ⟨rfl, rfl⟩
 ·by_cases h1 : 4611686018427387903 < n
  ·rw [if_pos (.inr h1)]
   go_enter Tryz.func119, Tryz.ntmps119
   go_wp2_with fail
   go_ret
   exact ⟨rfl, rfl⟩
  ·rw [if_neg (by omega)]
   by_cases h2 : n < 64
   ·rw [if_pos h2]
    go_enter Tryz.func119, Tryz.ntmps119
    go_wp2_with fail
    go_ret
    exact ⟨rfl, rfl⟩
   ·rw [if_neg h2]
    by_cases h3 : n < 16384
    ·rw [if_pos h3]
     go_enter Tryz.func119, Tryz.ntmps119
     go_wp2_with fail
     go_ret
     exact ⟨rfl, rfl⟩
    ·rw [if_neg h3]
     by_cases h4 : n < 1073741824
     ·rw [if_pos h4]
      go_enter Tryz.func119, Tryz.ntmps119
      go_wp2_with fail
      go_ret
      exact ⟨rfl, rfl⟩
     ·rw [if_neg h4]
      go_enter Tryz.func119, Tryz.ntmps119
      go_wp2_with fail
      go_ret
      exact ⟨rfl, rfl⟩
set_option maxHeartbeats 4000000 in
set_option maxRecDepth 100000 in
theorem take_any (w : World) (S : Nat → Prop) (v : Value) (l : List Int) (h : BV w S v l) :
  Calls Tryz.prog 113 #[v] w fun e w' => ∃ (n sz : Int) (q : Bool), e = .returned (.tuple #[.int .i64 n, .int .i64 sz, .bool q]) ∧ (q = true → 0 ≤ n ∧ n ≤ 4611686018427387903 ∧ 1 ≤ sz ∧ sz ≤ l.length) ∧ w = w' := by
 obtain ⟨A, c, rfl, hlc, hcm⟩ := h.len
 have H := hid h
 have hlm : l.length ≤ 9223372036854775807 := by unfold maxLen at hcm; omega
 obtain ⟨m, hm⟩ : ∃ m, l.length = m := ⟨_, rfl⟩
 rw [hm] at hlc hlm ⊢
 rcases Nat.eq_zero_or_pos m with h0 | h0
 ·subst h0
  go_enter Tryz.func113, Tryz.ntmps113
  go_wp2_with fail
  go_ret3
  exact ⟨_, _, _, rfl, (fun h => by cases h), rfl⟩
 ·have m0 : ((m : Int) == 0) = false := by rw [beq_eq_false_iff_ne]; omega
  have m1 : (0 : Int) < (m : Int) := by omega
  obtain ⟨ad, rfl, d0⟩ := Sl.at_ (hm ▸ h.sl) (i := 0) (by omega)
  rw [u8s_at l 0 (by omega), addr_zero] at d0
  have hb := h.byt _ (List.getElem_mem (by omega : 0 < l.length))
  obtain ⟨b0, hb0⟩ : ∃ b, l[0] = b := ⟨_, rfl⟩
  rw [hb0] at d0 hb
  clear hb0 h
  obtain ⟨sz, hsz, hs1⟩ : ∃ sz : Nat, wrap64 (2 ^ (b0 / 64).toNat) = (sz : Int) ∧ 1 ≤ sz ∧ sz ≤ 8 := by
   have h3 : (b0 / 64).toNat = 0 ∨ (b0 / 64).toNat = 1 ∨ (b0 / 64).toNat = 2 ∨ (b0 / 64).toNat = 3 := by omega
   rcases h3 with e | e | e | e <;> rw [e]
   ·exact ⟨1, by first | rfl | kernel_rfl | simp [wrap64], by omega, by omega⟩
   ·exact ⟨2, by first | rfl | kernel_rfl | simp [wrap64], by omega, by omega⟩
   ·exact ⟨4, by first | rfl | kernel_rfl | simp [wrap64], by omega, by omega⟩
   ·exact ⟨8, by first | rfl | kernel_rfl | simp [wrap64], by omega, by omega⟩
  by_cases hms : (m : Int) < (sz : Int)
  ·go_enter Tryz.func113, Tryz.ntmps113
   go_wp2_with fail
   go_ret3
   exact ⟨_, _, _, rfl, (fun h => by cases h), rfl⟩
  ·go_enter Tryz.func113, Tryz.ntmps113
   go_wp2_with fail
   go_loopw [6, 7] (fun x i wr => ∃ (k : Nat) (y : Int), k ≤ sz ∧ i = .int .i64 k ∧ x = .int .i64 y ∧ wr = w) (fun _ i _ => sz - (intOf i).toNat)
   case atStart => exact ⟨1, _, by omega, rfl, rfl, rfl⟩
   case round =>
    obtain ⟨k, y, hk, rfl, rfl, rfl⟩ := hrel
    have k0 : (0 : Int) ≤ (k : Int) := by omega
    have iwk : IntKind.i64.wrap ((k : Int) + 1) = (k : Int) + 1 := iX
    by_cases hks : k < sz
    ·have k1 : (k : Int) < (sz : Int) := by omega
     have k2 : (k : Int) < (m : Int) := by omega
     obtain ⟨ad', e, dk⟩ := Sl.at_ (hm ▸ H.out.sl) (i := k) (by omega)
     rw [u8s_at l k (by omega)] at dk
     injection e with e
     subst e
     go_wp2_with fail
     go_roundw
     case rel => exact ⟨k + 1, _, hks, by go_num, by first | exact ⟨rfl, rfl⟩ | exact ⟨rfl, trivial⟩⟩
     case measure => simp [intOf]; omega
    ·have k1 : ¬ (k : Int) < (sz : Int) := by omega
     go_wp2_with fail
     refine (size_any y _).mono ?_
     rintro e _ ⟨rfl, rfl⟩
     have HZ : Hid (sizeN y = sz → 0 ≤ y ∧ y ≤ 4611686018427387903) := hid (fun e => by unfold sizeN at e; split at e; omega; omega)
     obtain ⟨z, hz⟩ : ∃ z, sizeN y = z := ⟨_, rfl⟩
     rw [hz] at HZ ⊢
     clear hz
     by_cases hzs : z = (sz : Int)
     ·have hzb : (z == (sz : Int)) = true := by rw [beq_iff_eq]; exact hzs
      go_wp2_with fail
      go_ret3
      exact ⟨_, _, _, rfl, (fun _ => ⟨(HZ.out hzs).1, (HZ.out hzs).2, by omega, by omega⟩), rfl⟩
     ·have hzb : (z == (sz : Int)) = false := by rw [beq_eq_false_iff_ne]; exact hzs
      go_wp2_with fail
      go_ret3
      exact ⟨_, _, _, rfl, (fun h => by cases h), rfl⟩
end

section
attribute [local go_sem] run_max2' run_min2' run_max_ run_min_
def rawN (n : Int) : List Int := if n < 64 then [n] else if n < 16384 then [n / 256, n % 256] else [n / 16777216, n / 65536 % 256, n / 256 % 256, n % 256]
def putN (n : Int) : List Int := if n < 64 then [n] else if n < 16384 then [64 + n / 256, n % 256] else [128 + n / 16777216, n / 65536 % 256, n / 256 % 256, n % 256]
theorem rawN_at (n : Int) (h0 : 0 ≤ n) (h1 : n < 1073741824) (j : Nat) (hj : j < (rawN n).length) : (rawN n)[j] = n / 2 ^ (8 * ((rawN n).length - 1 - j)) % 256 := by
 unfold rawN at hj ⊢
 by_cases h2 : n < 64
 ·simp only [h2, if_true, List.length_cons, List.length_nil] at hj ⊢
  obtain rfl : j = 0 := by omega
  simp
  omega
 ·by_cases h3 : n < 16384
  ·simp only [h2, h3, if_true, if_false, List.length_cons, List.length_nil] at hj ⊢
   have : j = 0 ∨ j = 1 := by omega
   rcases this with rfl | rfl
   ·simp
    omega
   ·simp
  ·simp only [h2, h3, if_false, List.length_cons, List.length_nil] at hj ⊢
   have : j = 0 ∨ j = 1 ∨ j = 2 ∨ j = 3 := by omega
   rcases this with rfl | rfl | rfl | rfl
   ·simp
    omega
   ·simp
   ·simp
   ·simp
theorem rawN_byt (n : Int) (h0 : 0 ≤ n) (h1 : n < 1073741824) : Byt (rawN n) := by
 intro x hx
 unfold rawN at hx
 split at hx
 ·simp at hx; omega
 ·split at hx
  ·simp at hx; omega
  ·simp at hx; omega
theorem putN_byt (n : Int) (h0 : 0 ≤ n) (h1 : n < 1073741824) : Byt (putN n) := by
 intro x hx
 unfold putN at hx
 split at hx
 ·simp at hx; omega
 ·split at hx
  ·simp at hx; omega
  ·simp at hx; omega
theorem frozen_in_alloc {w : World} {p : Addr} (h : w.frozen? p = false) (hp : p.block < w.heap.size) (o : Obj) : (w.alloc o).frozen? p = false :=
 (((Below.refl w.heap.size w).alloc (Nat.le_refl _) o).frozen hp).trans h
theorem BO.alloc {B : Nat} {w : World} {v : Value} {l : List Int} (h : BO B w v l) (o : Obj) : BO B (w.alloc o) v l := ⟨h.1.alloc o, h.2⟩
theorem BO.setb {B : Nat} {w : World} {ad : Addr} {n c : Nat} {l : List Int} (h : BO B w (.slice (some ad) n c) l) (i : Nat) {x : Int} (hx : 0 ≤ x ∧ x < 256) : BO B (w.setCell (ad.add i) (.int .u8 x)) (.slice (some ad) n c) (l.set i x) ∧ B ≤ ad.block := by
 obtain ⟨ho, hby⟩ := h
 have ho' := ho
 rcases ho.2 with ⟨e, h0⟩ | ⟨gb, cap, cur, e, hB, _⟩
 ·cases e
 ·injection e with e1 e2 e3
  injection e1 with e1
  have ea : ad.add i = ⟨gb, i, none⟩ := by
   rw [e1]
   by_cases h0 : i = 0
   ·subst h0; exact addr_zero _
   ·rw [addr_pos _ _ h0]; simp
  rw [ea]
  subst e1 e2 e3
  refine ⟨⟨?_, fun y hy => ?_⟩, hB⟩
  ·have e : u8s (l.set i x) = (u8s l).set i (.int .u8 x) := by simp [u8s, List.map_set]
   rw [e, List.length_set]
   exact (ho'.stored i (.int .u8 x)).1
  ·rcases List.mem_or_eq_of_mem_set hy with h1 | h1
   ·exact hby y h1
   ·rw [h1]; exact hx
theorem or64 : ∀ x : Fin 64, bits .or .u8 (x.val : Int) 64 = 64 + x.val ∧ bits .or .u8 (x.val : Int) 128 = 128 + x.val ∧ bits .or .u8 (x.val : Int) 0 = x.val := by decide +kernel
theorem orN {b : Int} (h0 : 0 ≤ b) (h1 : b < 64) : bits .or .u8 b 64 = 64 + b ∧ bits .or .u8 b 128 = 128 + b ∧ bits .or .u8 b 0 = b := by
 have := or64 ⟨b.toNat, by omega⟩
 simp only [Int.toNat_of_nonneg h0] at this
 exact this
theorem putN_raw (n : Int) (h0 : 0 ≤ n) (h1 : n < 1073741824) (b : Int) (h : (rawN n)[0]? = some b) :
  0 ≤ b ∧ b < 64 ∧ ((rawN n).length = 1 → (rawN n).set 0 b = putN n) ∧ ((rawN n).length = 2 → (rawN n).set 0 (64 + b) = putN n) ∧ ((rawN n).length = 4 → (rawN n).set 0 (128 + b) = putN n) := by
 unfold rawN at h ⊢
 unfold putN
 by_cases h2 : n < 64
 ·simp only [h2, if_true] at h ⊢
  simp at h
  subst h
  exact ⟨h0, h2, fun _ => rfl, fun e => absurd e (by simp), fun e => absurd e (by simp)⟩
 ·by_cases h3 : n < 16384
  ·simp only [h2, h3, if_true, if_false] at h ⊢
   simp at h
   subst h
   exact ⟨by omega, by omega, fun e => absurd e (by simp), fun _ => rfl, fun e => absurd e (by simp)⟩
  ·simp only [h2, h3, if_false] at h ⊢
   simp at h
   subst h
   exact ⟨by omega, by omega, fun e => absurd e (by simp), fun e => absurd e (by simp), fun _ => rfl⟩
set_option maxHeartbeats 4000000 in
set_option maxRecDepth 100000 in
theorem put_any (n : Int) (w : World) (h0 : 0 ≤ n) (h1 : n < 1073741824) :
  Calls Tryz.prog 114 #[.int .i64 n] w fun e w' => ∃ v, e = .returned v ∧ BO w.heap.size w' v (putN n) ∧ Below w.heap.size w w' := by
 obtain ⟨z, hz, hz1, hz4⟩ : ∃ z : Nat, sizeN n = z ∧ 1 ≤ z ∧ z ≤ 4 := by
  unfold sizeN
  rw [if_neg (show ¬ (n < 0 ∨ 4611686018427387903 < n) by omega)]
  split
  ·exact ⟨1, rfl, by omega, by omega⟩
  ·split
   ·exact ⟨2, rfl, by omega, by omega⟩
   ·exact ⟨4, rfl, by omega, by omega⟩
 have hrl : (rawN n).length = z := by
  unfold sizeN at hz
  rw [if_neg (by omega)] at hz
  unfold rawN
  split
  ·rename_i h; rw [if_pos h] at hz; simp only [List.length_cons, List.length_nil]; omega
  ·rename_i h
   rw [if_neg h] at hz
   split
   ·rename_i h2; rw [if_pos h2] at hz; simp only [List.length_cons, List.length_nil]; omega
   ·rename_i h2; rw [if_neg h2, if_pos h1] at hz; simp only [List.length_cons, List.length_nil]; omega
 have HI := hid Tryz.info5
 have iwz : IntKind.i64.wrap ((z : Int) - 1) = (z : Int) - 1 := iX
 go_enter Tryz.func114, Tryz.ntmps114
 go_wp2_with fail
 refine (size_any n w).mono ?_
 rintro e _ ⟨rfl, rfl⟩
 rw [hz]
 have HZ := hid hz
 clear hz
 go_wp2_with fail
 go_loopw [4, 5] (fun o i wr => ∃ j : Nat, j ≤ z ∧ i = .int .i64 ((z : Int) - 1 - j) ∧ wr.ownsRow w.heap.size 5 1 o j (u8s ((rawN n).take j)) ∧ Below w.heap.size w wr) (fun _ i _ => (intOf i + 1).toNat)
 case atStart => exact ⟨0, Nat.zero_le _, by simp, World.ownsRow_nil _ _ _ _, Below.refl _ _⟩
 case round =>
  obtain ⟨j, hj, rfl, ho, hb⟩ := hrel
  have O := hid ho
  have BR := hid hb
  have sr := hb.size
  obtain ⟨A, c, rfl⟩ := own_slice' ho
  clear ho hb
  by_cases hjz : j < z
  ·obtain ⟨i, hi⟩ : ∃ i : Nat, z - 1 - j = i := ⟨_, rfl⟩
   have hiz : (z : Int) - 1 - (j : Int) = (i : Int) := by omega
   rw [hiz]
   have i0 : (0 : Int) ≤ (i : Int) := by omega
   have iw1 : IntKind.i64.wrap (8 * (i : Int)) = ((8 * i : Nat) : Int) := by rw [iX]; omega
   have iw2 : IntKind.i64.wrap ((i : Int) - 1) = (i : Int) - 1 := iX
   obtain ⟨y, hy⟩ : ∃ y, n / 2 ^ (8 * i) % 256 = y := ⟨_, rfl⟩
   have hyj : (rawN n)[j]? = some y := by
    rw [List.getElem?_eq_getElem (by omega), rawN_at n h0 h1 j (by omega), hrl, hi, hy]
   have T : Hid ((rawN n).take (j + 1) = (rawN n).take j ++ [y]) := hid (by rw [List.take_add_one, hyj]; rfl)
   go_wp2_with (at_builtin; refine wp_app w.heap.size rfl _ _ 25 5 (.int .u8 0) 1 1 rfl Tryz.underlying25 HI.out rfl (by omega) (by omega) rfl rfl (O.out.alloc _) (Sl.one wr 5 (.int .u8 y) rfl) (by omega) (Nat.le_trans sr (by simp)) ?_; intro v9 w9 hown hfr hat; have O9 := hid hown; have B9 := hid (Frm.below (BR.out.alloc sr _) hfr (Nat.le_trans sr (by simp)) (fun g hg => (O.out.lt g hg).1)); obtain ⟨A9, c9, rfl⟩ := own_slice' hown; clear hown hfr hat)
   (try go_wp2_with fail)
   go_roundw
   case rel => exact ⟨j + 1, hjz, by first | (simp only [Value.int.injEq, true_and]; omega) | (congr 1; omega), by rw [T.out, u8s_append]; exact O9.out, B9.out⟩
   case measure => simp [intOf] <;> omega
  ·obtain rfl : j = z := by omega
   have hiz : (j : Int) - 1 - (j : Int) = -1 := by omega
   rw [hiz]
   have RL : Hid ((rawN n).take j = rawN n) := hid (List.take_of_length_le (by omega))
   have O2 : BO w.heap.size wr (.slice A j c) (rawN n) := ⟨by have := O.out; rw [RL.out] at this; rw [hrl]; exact this, rawN_byt n h0 h1⟩
   obtain ⟨ad, hA, d0⟩ := Sl.at_ (A := A) (c := c) (n := j) (hrl ▸ O2.bv.sl) (by omega : 0 < j)
   subst hA
   have f0 := O2.free 0
   rw [u8s_at (rawN n) 0 (by omega)] at d0
   rw [addr_zero] at d0 f0
   have OB := hid O2
   have had := World.block_lt_of_cell? wr _ d0
   have e0 := fun o => cell_in_alloc' d0 o
   have g0 := fun o => frozen_in_alloc f0 had o
   obtain ⟨b0, hb0⟩ : ∃ b, (rawN n)[0] = b := ⟨_, rfl⟩
   rw [hb0] at d0 e0
   have HB := hid hb0
   clear O2 O hb0
   have hzz : j = 1 ∨ j = 2 ∨ j = 4 := by
    have := HZ.out
    unfold sizeN at this
    rw [if_neg (show ¬ (n < 0 ∨ 4611686018427387903 < n) by omega)] at this
    split at this
    ·omega
    ·split at this <;> omega
   clear hj
   rcases hzz with rfl | rfl | rfl
   ·go_wp2_with fail
    go_region
    all_goals
     go_wp2_with fail
     go_ret
     obtain ⟨p0, p1, q1, q2, q4⟩ := putN_raw n h0 h1 b0 (by rw [List.getElem?_eq_getElem (by omega), HB.out])
     have hv := (orN p0 p1).2.2
     have h := (OB.out.alloc (.cells #[.int .i64 0, .int .i64 0, .int .i64 1, .int .i64 0, .int .i64 2, .int .i64 0, .int .i64 0, .int .i64 0, .int .i64 3] 3)).setb 0 (x := bits .or .u8 b0 0) (by rw [hv]; omega)
     rw [addr_zero, hv, q1 hrl] at h
     refine ⟨_, rfl, ?_, ?_⟩
     ·rw [hv]
      exact h.1
     ·exact ((BR.out.alloc sr _).setCell (Nat.le_trans (Nat.le_refl _) h.2) _).drew
   ·go_wp2_with fail
    go_region
    all_goals
     go_wp2_with fail
     go_ret
     obtain ⟨p0, p1, q1, q2, q4⟩ := putN_raw n h0 h1 b0 (by rw [List.getElem?_eq_getElem (by omega), HB.out])
     have hv := (orN p0 p1).1
     have h := (OB.out.alloc (.cells #[.int .i64 0, .int .i64 0, .int .i64 1, .int .i64 0, .int .i64 2, .int .i64 0, .int .i64 0, .int .i64 0, .int .i64 3] 3)).setb 0 (x := bits .or .u8 b0 64) (by rw [hv]; omega)
     rw [addr_zero, hv, q2 hrl] at h
     refine ⟨_, rfl, ?_, ?_⟩
     ·rw [hv]
      exact h.1
     ·exact ((BR.out.alloc sr _).setCell (Nat.le_trans (Nat.le_refl _) h.2) _).drew
   ·go_wp2_with fail
    go_region
    all_goals
     go_wp2_with fail
     go_ret
     obtain ⟨p0, p1, q1, q2, q4⟩ := putN_raw n h0 h1 b0 (by rw [List.getElem?_eq_getElem (by omega), HB.out])
     have hv := (orN p0 p1).2.1
     have h := (OB.out.alloc (.cells #[.int .i64 0, .int .i64 0, .int .i64 1, .int .i64 0, .int .i64 2, .int .i64 0, .int .i64 0, .int .i64 0, .int .i64 3] 3)).setb 0 (x := bits .or .u8 b0 128) (by rw [hv]; omega)
     rw [addr_zero, hv, q4 hrl] at h
     refine ⟨_, rfl, ?_, ?_⟩
     ·rw [hv]
      exact h.1
     ·exact ((BR.out.alloc sr _).setCell (Nat.le_trans (Nat.le_refl _) h.2) _).drew
end
end Go.Proofs.YtdneakejlbabeaaGreat
