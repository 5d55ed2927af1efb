/- Parts of the walk: Kf, Ke, Jd. -/
import Derived.Test.YtdneakejlbabeaaGreatM00
import Derived.Deep.AppendLies
import Derived.Test.YtdneakejlbabeaaGreatM22
import Derived.Test.YtdneakejlbabeaaGreatM21
namespace Go.Proofs.YtdneakejlbabeaaGreat
open Go.RowKit
set_option linter.unusedVariables false
set_option linter.unusedSimpArgs false
section
theorem rowsG_set : ∀ (l : List By2) (vs : List Value) (i : Nat) (y : By2) (v : Value), vs.length = l.length → i < l.length → ((rowsG bcells l vs).set (i * 2) v).set (i * 2 + 1) (.bool y.2) = rowsG bcells (l.set i y) (vs.set i v)
 | a :: l, b :: vs, 0, y, v, _, _ => by simp [rowsG, bcells]
 | a :: l, b :: vs, i + 1, y, v, h, hi => by
  have := rowsG_set l vs i y v (by simpa using h) (by simpa using hi)
  rw [show (i + 1) * 2 = i * 2 + 1 + 1 from by omega]
  simp only [rowsG, bcells, List.cons_append, List.nil_append, List.set_cons_succ]
  rw [this]
 | [], _, _, _, _, _, h => by simp at h
 | _ :: _, [], _, _, _, h, _ => by simp at h
theorem spoil_set {o : Nat → Nat} {B : Nat} {w w1 w7 w9 : World} {gd : Nat} {s : Bool} {l : List By2} {vs : List Value} {vb : Value} {b : List Int} {ad8 : Addr} {c8 g8 i : Nat} (og : o gd = 300) (hg : gd < w.heap.size) (hB : B ≤ w.heap.size) (h2 : vs.length = l.length) (h3 : ∀ (i : Nat) (a : By2) (b : Value), l[i]? = some a → vs[i]? = some b → BV w (frozen o) b a.1)
  (hv : BV w1 (fun j => w.heap.size ≤ j) vb b) (s1 : w.heap.size ≤ w1.heap.size) (f17 : Below w1.heap.size w1 w7) (h7 : Below w.heap.size w w7) (hg8 : w1.heap.size ≤ g8) (hA8 : ad8 = ⟨g8, 0, none⟩) (hw9 : w9 = w7.setCell ⟨gd, 2 + sN s, none⟩ (.slice (some ad8) l.length c8))
  (o9 : w9.ownsRow w.heap.size 149 2 (.slice (some ⟨g8, 0, none⟩) l.length c8) l.length (rowsG bcells l vs)) (hi : i < l.length) : NSet o B w gd s (l.set i (b, true)) ((w9.setCell ⟨g8, i * 2, none⟩ vb).setCell ⟨g8, i * 2 + 1, none⟩ (.bool true)) := by
 have hgd : g8 ≠ gd := fun e => by omega
 obtain ⟨W, hW⟩ := lx ((w9.setCell ⟨g8, i * 2, none⟩ vb).setCell ⟨g8, i * 2 + 1, none⟩ (.bool true))
 have f7W : Frm (fun j => j = gd ∨ j = g8) w7 W := by
  rw [hW, hw9]
  exact (((Frm.refl _ w7).setCell (.inl (.inl rfl)) _).setCell (.inl (.inr rfl)) _).setCell (.inl (.inr rfl)) _
 have st : Stp (fun c => c = 300 ∨ c = 302 + sN s) o (ext o w.heap.size (.slice (some ad8) l.length c8) (302 + sN s)) w W := by
  refine ⟨⟨f7W.os.trans h7.os, f7W.tape.trans h7.tape, f7W.output.trans h7.output, Nat.le_trans h7.size f7W.size, fun j hj hn => ?_⟩, ext_agr _ _ _ _⟩
  rw [f7W.block j (Nat.lt_of_lt_of_le hj h7.size) (fun e => by
   rcases e with e | e
   ·exact hn (by rw [e]; exact .inl og)
   ·omega)]
  exact h7.block j hj
 have own := o9.stored (i * 2) vb
 have own2 := own.1.stored (i * 2 + 1) (.bool true)
 rw [rowsG_set l vs i (b, true) vb h2 hi] at own2
 have oW : W.ownsRow w.heap.size 149 2 (.slice (some ad8) l.length c8) (l.set i (b, true)).length (rowsG bcells (l.set i (b, true)) (vs.set i vb)) := by
  rw [hW, hA8, List.length_set]
  exact own2.1
 have og8 : (Value.slice (some ad8) l.length c8).ownBlock = some g8 := by rw [hA8]; rfl
 refine ⟨ext o w.heap.size (.slice (some ad8) l.length c8) (302 + sN s), .slice (some ad8) l.length c8, hW ▸ st, fun cs t hbk => ?_, ?_, fun j hj => ?_⟩
 ·rw [hw9]
  exact (((hbk.below h7).set _ _).far (by simpa using hgd.symm) _).far (by simpa using hgd.symm) _
 ·rw [← hW]
  refine ⟨vs.set i vb, own_base oW hB, by rw [List.length_set, List.length_set, h2], fun j a c ha hc => ?_, fun j hj hf => ?_⟩
  ·by_cases hji : j = i
   ·subst hji
    rw [List.getElem?_set, if_pos rfl, if_pos hi] at ha
    rw [List.getElem?_set, if_pos rfl, if_pos (by rw [h2]; exact hi)] at hc
    injection ha with ha
    injection hc with hc
    subst ha hc
    have f1W : Frm (fun j => j = gd ∨ j = g8) w1 W := (Frm.of_below f17).trans f7W
    refine ((hv.mono (S' := fun j => w.heap.size ≤ j ∧ j < w1.heap.size) (fun j hj hl => ⟨hj, hl⟩)).frm f1W (fun j hj e => by rcases e with e | e <;> omega)).mono (fun j hj _ => ?_)
    show ext o _ _ _ j = 0
    unfold ext
    rw [if_neg (by omega), if_neg (fun e => by rw [og8] at e; injection e with e; omega)]
   ·rw [List.getElem?_set_ne (fun e => hji e.symm)] at ha hc
    exact BV.stpK (h3 j a c ha hc) st (by omega)
  ·have h5 : ext o w.heap.size (.slice (some ad8) l.length c8) (302 + sN s) j = 0 := hf
   have h6 := hj
   rw [og8] at h6
   injection h6 with h6
   unfold ext at h5
   rw [if_neg (by omega), if_pos hj] at h5
   omega
 ·rw [← hW]
  have h6 := hj
  rw [og8] at h6
  injection h6 with h6
  refine ⟨?_, (oW.lt j hj).2⟩
  unfold ext
  rw [if_neg (by omega), if_pos hj]
def NSpoilR (o : Nat → Nat) (B : Nat) (w : World) (gd : Nat) (s : Bool) (l : List By2) (bit mask : Int) (e : Ending) (w' : World) : Prop :=
 ∃ q : Bool, e = .returned (.bool q) ∧ (Below w.heap.size w w' ∨ ∃ (i : Nat) (y : List Int), l[i]? = some (y, false) ∧ spoilL bit mask y ≠ y ∧ NSet o B w gd s (l.set i (spoilL bit mask y, true)) w')
set_option maxHeartbeats 8000000 in
set_option maxRecDepth 100000 in
theorem nspoil_any (w : World) (gd : Nat) (o : Nat → Nat) (B : Nat) (V : Bool → Value) (L : Bool → List By2) (s : Bool) (at_ bit mask : Int) (c0 : w.cell? ⟨gd, 2, none⟩ = some (V false)) (c1 : w.cell? ⟨gd, 3, none⟩ = some (V true)) (fr : ∀ i, w.frozen? ⟨gd, i, none⟩ = false) (h : ∀ s, BRw o B w (V s) (L s)) (og : o gd = 300) (hB : B ≤ w.heap.size) (hl : (L s).length ≤ 100000) (hll : ∀ y ∈ L s, y.1.length ≤ 1000000) :
  Calls Tryz.prog 49 #[.pointer (some ⟨gd, 2, none⟩), .int .i64 (sI s), .int .i64 at_, .int .i64 bit, .int .u32 mask] w fun e w' => NSpoilR o B w gd s (L s) bit mask e w' := by
 have T := hid (thereS_any w gd o B V L s at_ c0 c1 h)
 have HI := hid Tryz.info149
 have hgs := World.block_lt_of_cell? w _ c0
 simp only at hgs
 obtain ⟨A, c, e⟩ := (h s).form
 obtain ⟨vs, r1, r2, r3, r4⟩ := h s
 have R2 := hid r2
 have R3 := hid r3
 have RS : Hid (Sl w 2 (.slice A (L s).length c) (L s).length (rowsG bcells (L s) vs)) := hid (by rw [← e]; exact Sl.of_own r1 (rowsG_all _ _ vs (fun i a b ha hb => bcells_one (r3 i a b ha hb))))
 have NR := hid (e ▸ h s)
 obtain ⟨l, hlq⟩ : ∃ l, L s = l := ⟨_, rfl⟩
 rw [hlq] at e T R2 R3 RS NR hl hll ⊢
 have OG := hid og
 have CC : Hid (∀ (W : World), Below w.heap.size w W → W.cell? ⟨gd, 2 + sN s, none⟩ = some (.slice A l.length c) ∧ W.frozen? ⟨gd, 2 + sN s, none⟩ = false) := hid (fun W hW => ⟨(hW.cell (p := ⟨gd, 2 + sN s, none⟩) hgs).trans (by cases s with | false => exact c0.trans (congrArg some e) | true => exact c1.trans (congrArg some e)), (hW.frozen (p := ⟨gd, 2 + sN s, none⟩) hgs).trans (fr _)⟩)
 clear h r1 r2 r3 r4 e og hlq c0 c1 fr
 by_cases hin : 0 ≤ at_ ∧ at_ < (l.length : Int)
 ·obtain ⟨a0, a1⟩ := hin
  obtain ⟨i, rfl⟩ : ∃ i : Nat, at_ = (i : Int) := ⟨at_.toNat, by omega⟩
  rw [decide_eq_true (by exact ⟨a0, a1⟩)] at T
  obtain ⟨ad, y, v, rfl, hy, hx, h0, h1⟩ := BRw.at_ NR.out (i := i) (by omega)
  have HY := hid hy
  have hyl := hll y (List.mem_of_getElem? hy)
  clear hy hll
  obtain ⟨y1, y2⟩ := y
  dsimp only at h1 hx hyl
  obtain ⟨Av, cv, rfl, _, _⟩ := hx.len
  have HX := hid hx
  clear hx
  have bl0 := World.block_lt_of_cell? w _ h0
  have KE : Hid (∀ W, Below w.heap.size w W → W.cell? (ad.add (i * 2)) = some (.slice Av y1.length cv) ∧ W.cell? ⟨(ad.add (i * 2)).block, (ad.add (i * 2)).off + 1, none⟩ = some (.bool y2)) := hid (fun W hW => ⟨(hW.cell (p := ad.add (i * 2)) bl0).trans h0, (hW.cell (p := ⟨(ad.add (i * 2)).block, (ad.add (i * 2)).off + 1, none⟩) bl0).trans h1⟩)
  cases s
  all_goals
   unfold sI at *
   have k2 := (CC.out w (Below.refl _ _)).1
   simp only [sN, if_true, Bool.false_eq_true, if_false, Nat.add_zero, Nat.reduceAdd] at k2
   cases y2
   ·go_enter Tryz.func49, Tryz.ntmps49
    go_wp2_with fail
    refine T.out.mono ?_
    rintro e _ ⟨rfl, rfl⟩
    go_wp2_with fail
    refine (spoil_any w (frozen o) _ y1 bit mask HX.out hyl).mono ?_
    rintro e w1 ⟨v', rfl, hbo, hb1⟩
    have B1 := hid hb1
    have HO := hid hbo
    obtain ⟨b, hbb⟩ : ∃ b, spoilL bit mask y1 = b := ⟨_, rfl⟩
    rw [hbb] at HO hbo
    have HBB := hid hbb
    obtain ⟨Ab, cb, rfl⟩ := own_slice' hbo.1
    have s1 : w.heap.size ≤ w1.heap.size := hb1.size
    clear hbo hb1 hbb k2 h0 h1
    obtain ⟨q, hq⟩ : ∃ q, decide (b = y1) = q := ⟨_, rfl⟩
    have hcmp : ((toBA b).toList == (toBA y1).toList) = q := by rw [toBA_eq HO.out.2 HX.out.byt]; exact hq
    have HQ := hid hq
    clear hq
    obtain ⟨wd, hwd⟩ := lx (w1.drew)
    have HV1 : Hid (BV w1 (fun j => w.heap.size ≤ j) (.slice Ab b.length cb) b) := hid HO.out.bv
    have GD1 : Hid (Below w1.heap.size w1 wd) := hid (by rw [hwd]; exact bD)
    have GD : Hid (Below w.heap.size w wd) := hid (by rw [hwd]; exact B1.out.drew)
    have k2 := (CC.out wd GD.out).1
    obtain ⟨k4, k5⟩ := KE.out wd GD.out
    have e1 : (convert 25 9 (.slice Ab b.length cb)).run Tryz.prog wd = .ok (.string (toBA b)) wd := sl_conv (by rw [hwd]; exact (Sl.of_own HO.out.1 (u8s_one _)))
    have e2 : (convert 25 9 (.slice Av y1.length cv)).run Tryz.prog wd = .ok (.string (toBA y1)) wd := sl_conv (HX.out.sl.below GD.out)
    simp only [sN, if_true, Bool.false_eq_true, if_false, Nat.add_zero, Nat.reduceAdd] at k2
    go_wp2_with fail
    rw [hwd] at k2 k4 k5 e1 e2
    refine wp_region_held_drew (S := fun w' => w'.cell? _ = some (.slice (some ad) l.length c) ∧ w'.cell? (ad.add (i * 2)) = some (.slice Av y1.length cv) ∧ (convert 25 9 (.slice Ab b.length cb)).run Tryz.prog w' = .ok (.string (toBA b)) w' ∧ (convert 25 9 (.slice Av y1.length cv)).run Tryz.prog w' = .ok (.string (toBA y1)) w') (by kernel_rfl) ⟨k2, k4, e1, e2⟩ (fun hHeld => ?_)
    rw [← hwd] at hHeld k2 k4 k5 e1 e2 ⊢
    clear hwd
    refine tk 0 (oi := ⟨some 42, _, _, _, _, _⟩) rfl ?_
    refine tk 1 (oi := ⟨some 43, _, _, _, _, _⟩) rfl ?_
    refine tk 2 (oi := ⟨some 44, _, _, _, _, _⟩) rfl ?_
    refine tk 3 (oi := ⟨some 45, _, _, _, _, _⟩) rfl ?_
    refine tk 4 (oi := ⟨some 46, _, _, _, _, _⟩) rfl ?_
    refine tk 5 (oi := ⟨some 47, _, _, _, _, _⟩) rfl ?_
    refine tk 6 (oi := ⟨some 48, _, _, _, _, _⟩) rfl ?_
    refine tk 7 (oi := ⟨some 49, _, _, _, _, _⟩) rfl ?_
    refine tk 8 (oi := ⟨some 50, _, _, _, _, _⟩) rfl ?_
    refine tk 9 (oi := ⟨some 51, _, _, _, _, _⟩) rfl ?_
    refine tk 10 (oi := ⟨some 52, _, _, _, _, _⟩) rfl ?_
    refine tk 11 (oi := ⟨some 53, _, _, _, _, _⟩) rfl ?_
    refine tk 12 (oi := ⟨some 54, _, _, _, _, _⟩) rfl ?_
    refine tk 13 (oi := ⟨some 55, _, _, _, _, _⟩) rfl ?_
    refine dn ?_
    clear hHeld e1 e2
    cases q
    ·have HV : Hid (BV wd (fun j => w.heap.size ≤ j) (.slice Ab b.length cb) b) := hid (HV1.out.below GD1.out)
     have RSD := hid (RS.out.below GD.out)
     have sd : w.heap.size ≤ wd.heap.size := GD.out.size
     have hne : b ≠ y1 := fun h => by have := HQ.out; rw [decide_eq_true h] at this; cases this
     have hi : i < l.length := by omega
     clear k4 k5
     go_wp2_with fail
     first | (go_region_law (first | (refine step_app (v := .slice none 0 0) w.heap.size (by rfl) _ _ 81 149 _ 2 32 (by rfl) Tryz.underlying81 HI.out rfl (by omega) (by omega) (by rfl) (by rfl) (World.ownsRow_nil _ _ _ _) (show Sl wd.drew 2 _ _ _ from RSD.out) (by omega) sd ?_; intro v7 w7 hown hfr hat; simp only [Nat.zero_add, List.nil_append] at hown; have F7 : Hid (Below w.heap.size w w7) := hid (Frm.below GD.out.drew hfr sd (fun g hg => by cases hg)); have F7' : Hid (Below wd.heap.size wd w7) := hid (Frm.below (Below.refl wd.heap.size wd).drew hfr (Nat.le_refl _) (fun g hg => by cases hg)); have O7 := hid hown; have HAT : Hid (∀ j, v7.ownBlock = some j → wd.heap.size ≤ j) := hid (hat.elim (fun e j hj => by rw [e] at hj; cases hj) (fun e j hj => by rw [e] at hj; injection hj with hj; rw [← hj]; exact Nat.le_refl _)); obtain ⟨e17, g17⟩ := CC.out w7 F7.out; simp only [sN, if_true, Bool.false_eq_true, if_false, Nat.add_zero, Nat.reduceAdd] at e17 g17; obtain ⟨A8, c8, rfl⟩ := own_slice' hown; clear hown hfr hat) | fail)) | fail
     all_goals
      obtain ⟨g8, c8', hv8, hg8, hg8l⟩ := O7.out.form (by omega)
      injection hv8 with hv8 hv8b hv8c
      clear hv8b hv8c
      obtain ⟨ad8, hA8⟩ := lx ((⟨g8, 0, none⟩ : Addr))
      rw [← hA8] at hv8
      subst hv8
      have e17' := World.cell?_setCell_same _ _ (.slice (some ad8) l.length c8) e17
      obtain ⟨w9, hw9, e9⟩ : ∃ W, W = w7.setCell _ (.slice (some ad8) l.length c8) ∧ W.cell? _ = some (.slice (some ad8) l.length c8) := ⟨_, rfl, e17'⟩
      rw [← hw9]
      clear e17'
      have hgd : g8 ≠ gd := fun e => by omega
      have F9 : Hid (Frm (· = gd) w7 w9) := hid (by rw [hw9]; exact (Frm.refl _ _).setg _)
      have O9 : Hid (w9.ownsRow w.heap.size 149 2 (.slice (some ⟨g8, 0, none⟩) l.length c8) l.length (rowsG bcells l vs)) := hid (own_frm (hA8 ▸ O7.out) F9.out (fun j hj e => by injection hj with hj; exact hgd (hj.trans e)))
      have ea : ad8.add (i * 2) = ⟨g8, i * 2, none⟩ := by
       rw [hA8]
       unfold Addr.add
       split
       ·rename_i h; rw [h]
       ·simp
      have p0 : ∃ u, w9.cell? (ad8.add (i * 2)) = some u := by rw [ea, O9.out.cellAt _ (show i * 2 < l.length * 2 by omega)]; exact ⟨_, List.getElem?_eq_getElem (by rw [rowsG_length bcells_len _ _ R2.out]; omega)⟩
      have p1 : ∃ u, w9.cell? ⟨(ad8.add (i * 2)).block, (ad8.add (i * 2)).off + 1, none⟩ = some u := by rw [ea, O9.out.cellAt _ (show i * 2 + 1 < l.length * 2 by omega)]; exact ⟨_, List.getElem?_eq_getElem (by rw [rowsG_length bcells_len _ _ R2.out]; omega)⟩
      have q0 : w9.frozen? (ad8.add (i * 2)) = false := by rw [ea]; exact O9.out.frozenAt _
      have q1 : w9.frozen? ⟨(ad8.add (i * 2)).block, (ad8.add (i * 2)).off + 1, none⟩ = false := by rw [ea]; exact O9.out.frozenAt _
      obtain ⟨u0, p0⟩ := p0
      obtain ⟨u1, p1⟩ := p1
      have p1' : (w9.setCell (ad8.add (i * 2)) (.slice Ab b.length cb)).cell? ⟨(ad8.add (i * 2)).block, (ad8.add (i * 2)).off + 1, none⟩ = some u1 := by
       rw [ea] at p1 ⊢
       rw [← p1, (O9.out.stored (i * 2) _).1.cellAt _ (show i * 2 + 1 < l.length * 2 by omega), O9.out.cellAt _ (show i * 2 + 1 < l.length * 2 by omega), List.getElem?_set_ne (by omega)]
      have EA := hid ea
      have HW9 := hid hw9
      have HA8 := hid hA8
      clear ea hw9 hA8 e17 g17 k2
      go_wp2_with fail
      go_ret
      refine ⟨_, rfl, .inr ⟨i, y1, HY.out, (by rw [HBB.out]; exact hne), ?_⟩⟩
      rw [HBB.out, EA.out]
      exact spoil_set OG.out hgs hB R2.out R3.out HV1.out s1 (bO GD1.out F7'.out) F7.out (Nat.le_trans GD1.out.size (HAT.out g8 (by rw [HA8.out]; rfl))) HA8.out HW9.out O9.out hi
    ·go_wp2_with fail
     go_ret
     exact ⟨_, rfl, .inl GD.out⟩
   ·go_enter Tryz.func49, Tryz.ntmps49
    go_wp2_with fail
    refine T.out.mono ?_
    rintro e _ ⟨rfl, rfl⟩
    go_wp2_with fail
    go_ret
    exact ⟨_, rfl, .inl (Below.refl _ _)⟩
 ·rw [decide_eq_false hin] at T
  clear hin
  go_enter Tryz.func49, Tryz.ntmps49
  go_wp2_with fail
  refine T.out.mono ?_
  rintro e _ ⟨rfl, rfl⟩
  go_wp2_with fail
  go_ret
  exact ⟨_, rfl, .inl (Below.refl _ _)⟩
end

section
theorem NSet.pre {C : Nat → Prop} {o o1 : Nat → Nat} {B : Nat} {w w1 w' : World} {gd : Nat} {s : Bool} {l : List By2} (hs : Stp C o o1 w w1) (hC : ∀ c, ¬ C c) (h : NSet o1 B w1 gd s l w') (hg : gd < w.heap.size) : NSet o B w gd s l w' := by
 obtain ⟨o', v, h1, h2, h3, h4⟩ := h
 have f : Frm (fun _ => False) w w1 := hs.f.mono (fun j hj => hC _ hj)
 exact ⟨o', v, (hs.mono (fun c hc => (hC c hc).elim)).trans h1, fun cs t hb => h2 cs t (hb.frm f (fun h => h)), h3, h4⟩
def NPutR (o : Nat → Nat) (B : Nat) (w : World) (gd : Nat) (s : Bool) (l : List By2) (p : Pk) (e : Ending) (w' : World) : Prop :=
 ∃ n : Int, e = .returned (.int .i64 n) ∧ (Below w.heap.size w w' ∨ (RightP p p.data.length ∧ l.length < 200 ∧ NSet o B w gd s (l ++ [(sealL (plainL p), false)]) w'))
set_option maxHeartbeats 8000000 in
set_option maxRecDepth 100000 in
theorem nput_any (w : World) (gd : Nat) (o : Nat → Nat) (B : Nat) (V : Bool → Value) (L : Bool → List By2) (s : Bool) (p : Pk) (S : Nat → Prop) (vp : Value) (c0 : w.cell? ⟨gd, 2, none⟩ = some (V false)) (c1 : w.cell? ⟨gd, 3, none⟩ = some (V true)) (fr : ∀ i, w.frozen? ⟨gd, i, none⟩ = false) (h : ∀ s, BRw o B w (V s) (L s)) (ow : Ow o w (302 + sN s) (V s)) (og : o gd = 300) (hB : B ≤ w.heap.size) (hp : BV w S vp p.data) (hpl : p.data.length ≤ 1000000) :
  Calls Tryz.prog 51 #[.pointer (some ⟨gd, 2, none⟩), .int .i64 (sI s), pagg p vp] w fun e w' => NPutR o B w gd s (L s) p e w' := by
 have HI := hid Tryz.info149
 have HP := hid hp
 have hgs := World.block_lt_of_cell? w _ c0
 simp only at hgs
 obtain ⟨A, c, e⟩ := (h s).form
 obtain ⟨vs, r1, r2, r3, r4⟩ := h s
 have R1 : Hid (w.ownsRow B 149 2 (.slice A (L s).length c) (L s).length (rowsG bcells (L s) vs)) := hid (e ▸ r1)
 have R2 := hid r2
 have R3 := hid r3
 have OW : Hid (Ow o w (302 + sN s) (.slice A (L s).length c)) := hid (e ▸ ow)
 obtain ⟨l, hll⟩ : ∃ l, L s = l := ⟨_, rfl⟩
 rw [hll] at e R1 R2 R3 OW ⊢
 have OG := hid og
 have hgn : Hid (¬ (Value.slice A l.length c).ownBlock = some gd) := hid (fun e => by have := (OW.out gd e).1; omega)
 have CC : Hid (∀ (W : World), W.heap[gd]? = w.heap[gd]? → W.cell? ⟨gd, 2 + sN s, none⟩ = some (.slice A l.length c) ∧ W.frozen? ⟨gd, 2 + sN s, none⟩ = false) := hid (fun W hW => ⟨(show W.cell? ⟨gd, 2 + sN s, none⟩ = w.cell? ⟨gd, 2 + sN s, none⟩ from World.cell?_of_block hW).trans (by cases s with | false => exact c0.trans (congrArg some e) | true => exact c1.trans (congrArg some e)), (show W.frozen? ⟨gd, 2 + sN s, none⟩ = w.frozen? ⟨gd, 2 + sN s, none⟩ from World.frozen?_of_block hW).trans (fr _)⟩)
 obtain ⟨Ap, cp, rfl, _, _⟩ := hp.len
 obtain ⟨w0, hw0⟩ := lx (w.alloc (.cells #[.int .i64 p.kind, .int .i64 p.path, .int .i64 p.number, .int .i64 p.of_, .int .i64 p.from_, .slice Ap p.data.length cp, .bool p.fin, .int .i64 p.seen, .int .i64 p.limit] 27))
 have B0 : Hid (Below w.heap.size w w0) := hid (by rw [hw0]; exact ba)
 have V0 := hid (hp.below B0.out)
 clear h r1 r2 r3 r4 e og hll c0 c1 fr ow hp
 cases s
 all_goals
  unfold sI at *
  go_enter Tryz.func51, Tryz.ntmps51
  go_wp2_with fail
  rw [← hw0]
  clear hw0
  refine (pack_any w0 p S _ V0.out hpl).mono ?_
  rintro e w1 ⟨v', q, b, rfl, ho, hq, hb⟩
  have B1 := hid (bO B0.out hb)
  have s1 : w.heap.size ≤ w1.heap.size := B1.out.size
  have HO := hid ho
  have HQ := hid hq
  have s0 : w.heap.size ≤ w0.heap.size := B0.out.size
  obtain ⟨Ab, cb, rfl⟩ := own_slice' ho.1
  clear ho hq hb
  cases q
  ·go_wp2_with fail
   go_ret
   exact ⟨_, rfl, .inl B1.out⟩
  ·obtain ⟨rp, rfl⟩ := HQ.out rfl
   have RP := hid rp
   clear rp HQ
   have k2 := (CC.out w1 (B1.out.block _ hgs)).1
   simp only [sN, if_true, Bool.false_eq_true, if_false, Nat.add_zero, Nat.reduceAdd] at k2
   by_cases h200 : l.length < 200
   ·have i6 : (l.length : Int) < 200 := by omega
    have k2b := fun o => cell_in_alloc' k2 o
    have k2c := fun o => cell_in_alloc' (show w1.drew.cell? _ = _ from k2) o
    have SS : Hid (Stp (fun _ => False) o (scr o w.heap.size 0) w w1) := hid ⟨Frm.of_below B1.out, scr_agr _ _ _⟩
    have R1' : Hid (w1.ownsRow B 149 2 (.slice A l.length c) l.length (rowsG bcells l vs)) := hid (own_frm R1.out (Frm.of_below (S := fun _ => False) B1.out) (fun _ _ h => h))
    have HX : Hid (BV w1 (frozen (scr o w.heap.size 0)) (.slice Ab (sealL (plainL p)).length cb) (sealL (plainL p))) := hid (HO.out.bv.mono (fun j hj _ => scr_new (Nat.le_trans s0 hj)))
    have hone := hid (bcells_one (y := (sealL (plainL p), false)) HX.out)
    have FIN : Hid (∀ w7 v7, Frm (fun j => (Value.slice A l.length c).ownBlock = some j) w1 w7 → w7.ownsRow B 149 2 v7 (l.length + 1) (rowsG bcells l vs ++ bcells (sealL (plainL p), false) (.slice Ab (sealL (plainL p)).length cb)) → (v7.ownBlock = (Value.slice A l.length c).ownBlock ∨ ∀ j, v7.ownBlock = some j → w1.heap.size ≤ j) → ∀ s', Ow o w (302 + sN s') (.slice A l.length c) → NSet o B w gd s' (l ++ [(sealL (plainL p), false)]) (w7.setCell ⟨gd, 2 + sN s', none⟩ v7)) := hid (fun w7 v7 hfr hown hat s' ow' =>
     NSet.pre SS.out (fun _ h => h) (push_set ((SS.out.ag gd hgs).trans OG.out) (Nat.lt_of_lt_of_le hgs s1) (ow'.frm SS.out.ag s1) R1'.out R2.out (fun i a b ha hb => BV.stpK (R3.out i a b ha hb) SS.out (fun h => h)) HX.out hfr hown hat) hgs)
    go_wp2_with fail
    first | (go_region_law (first | (refine step_app (v := .slice A l.length c) B (by rfl) _ _ 81 149 _ 2 32 (by rfl) Tryz.underlying81 HI.out rfl (by omega) (by omega) (by rfl) (by rfl) ((show w1.drew.ownsRow B 149 2 _ _ _ from R1'.out).alloc _) (Sl.boxk w1.drew 149 2 (bcells (sealL (plainL p), false) (.slice Ab (sealL (plainL p)).length cb)) _ (by simp) rfl hone.out) (by omega) (Nat.le_trans (Nat.le_trans hB s1) (by simp)) ?_; intro v7 w7 hown hfr hat; have F7 : Hid (Frm (fun j => (Value.slice A l.length c).ownBlock = some j) w1 w7) := hid ((((Frm.refl _ w1).drew).alloc _).trans hfr); have O7 := hid hown; have HAT : Hid (v7.ownBlock = (Value.slice A l.length c).ownBlock ∨ ∀ j, v7.ownBlock = some j → w1.heap.size ≤ j) := hid (hat.imp id (fun e j hj => by rw [e] at hj; injection hj with hj; rw [← hj]; simp)); obtain ⟨e17, g17⟩ := CC.out w7 ((F7.out.block gd (Nat.lt_of_lt_of_le hgs s1) hgn.out).trans (B1.out.block _ hgs)); simp only [sN, if_true, Bool.false_eq_true, if_false, Nat.add_zero, Nat.reduceAdd] at e17 g17; obtain ⟨A7, c7_, rfl⟩ := own_slice' hown; clear hown hfr hat) | fail)) | fail
    all_goals
     go_wp2_with fail
     go_ret
     exact ⟨_, rfl, .inr ⟨RP.out, h200, FIN.out _ _ F7.out O7.out HAT.out _ OW.out⟩⟩
   ·have i6 : ¬ (l.length : Int) < 200 := by omega
    go_wp2_with fail
    go_ret
    exact ⟨_, rfl, .inl B1.out⟩
end

section
/-- A window's size. -/
def wsz (w : World) (g : Nat) : Int := match w.cell? ⟨g, 1, none⟩ with
 | some (.int _ z) => z
 | _ => 0
/-- Is a path usable? -/
def usB (w : World) (q : PathV) : Bool := q.u && q.j && decide ((q.l.length : Int) < wsz w q.gW) && decide (q.s ≤ 65535)
theorem wsz_blk {w : World} {g : Nat} {m z t k : Int} (h : Blk w g #[.int .i64 m, .int .i64 z, .int .i64 t, .int .i64 k] 176) : wsz w g = z := by
 have := h.cell 1
 simp only [gA, gZ, gC] at this
 unfold wsz
 rw [this]
theorem usB_frm {T : Nat → Prop} {w w' : World} {q : PathV} (k : Frm T w w') (hl : q.gW < w.heap.size) (hn : ¬ T q.gW) : usB w' q = usB w q := by
 have : wsz w' q.gW = wsz w q.gW := by unfold wsz; rw [World.cell?_of_block (k.block _ hl hn)]
 unfold usB
 rw [this]
/-- A path among an end's. -/
theorem EndS.path {o : Nat → Nat} {k B : Nat} {w : World} {ge : Nat} {x : EndV} (h : EndS o k B w ge x) : ∃ A c, x.vP = .slice A x.ps.length c ∧ x.ps.length ≤ c ∧ ∀ (i : Nat) (q : PathV), x.ps[i]? = some q → ∃ ad, A = some ad ∧ w.cell? (ad.add i) = some (.pointer (some ⟨q.gp, 0, none⟩)) ∧ o (ad.add i).block = k + 1 := by
 obtain ⟨A, c, hv, hc, _⟩ := h.c1.r.len
 refine ⟨A, c, hv, hc, fun i q hi => ?_⟩
 have hil := (List.getElem?_eq_some_iff.1 hi).1
 obtain ⟨ad, hA, d⟩ := Sl.at_ (hv ▸ h.c1.r) hil
 refine ⟨ad, hA, by rw [d, List.getD_eq_getElem?_getD, List.getElem?_map, hi]; rfl, ?_⟩
 have hb : (ad.add i).block = ad.block := by unfold Addr.add; split <;> rfl
 rw [hb]
 exact (h.c1.ow ad.block (by rw [hv, hA]; rfl)).1
set_option maxHeartbeats 4000000 in
set_option maxRecDepth 100000 in
theorem usable_any (o : Nat → Nat) (k B : Nat) (w : World) (ge : Nat) (x : EndV) (h : EndS o k B w ge x) :
  Calls Tryz.prog 90 #[.pointer (some ⟨ge, 0, none⟩)] w fun e w' => e = .returned (.bool (x.ps.any (usB w))) ∧ Below w.heap.size w w' := by
 have H := hid h
 obtain ⟨A, c, hv, hc, _⟩ := h.path
 have c9 := h.blk.cell 9
 simp only [gA, gZ, gC] at c9
 rw [hv] at c9
 have HV := hid hv
 have np := h.np
 clear h hv
 obtain ⟨n, hn⟩ : ∃ n, x.ps.length = n := ⟨_, rfl⟩
 rw [hn] at c9 hc np
 have HN := hid hn
 clear hn
 go_enter Tryz.func90, Tryz.ntmps90
 go_wp2_with fail
 go_loopw [10] (fun i wr => ∃ j : Nat, j ≤ n ∧ i = .int .i64 j ∧ (x.ps.take j).any (usB w) = false ∧ Below w.heap.size w wr) (fun i _ => n - (intOf i).toNat)
 case atStart => exact ⟨0, Nat.zero_le _, rfl, by simp, Below.refl _ _⟩
 case round =>
  obtain ⟨j, hj, rfl, hno, hb⟩ := hrel
  have BR := hid hb
  have HNO := hid hno
  have sr := hb.size
  clear hb hno
  by_cases hjn : j < n
  ·have j0 : (0 : Int) ≤ (j : Int) := by omega
   have j1 : (j : Int) < (n : Int) := by omega
   have iwj : IntKind.i64.wrap ((j : Int) + 1) = (j : Int) + 1 := iX
   obtain ⟨q, hq⟩ : ∃ q, x.ps[j]? = some q := ⟨_, List.getElem?_eq_getElem (by have := HN.out; omega)⟩
   have XR := hid (H.out.below BR.out)
   obtain ⟨A', c', hv', _, hel⟩ := XR.out.path
   obtain ⟨ad, hA, dj, _⟩ := hel j q hq
   have hAA : A = some ad := by
    have := HV.out
    rw [hv'] at this
    injection this with h1 h2 h3
    rw [← h1]
    exact hA
   subst hAA
   have P := hid (XR.out.c9 j q hq).r
   obtain ⟨m, z, t, kk, hw⟩ := P.out.wd
   obtain ⟨Aq, cq, hvq⟩ := own_slice' P.out.l
   have hP0 := H.out.c9 j q hq
   have hwz : wsz wr q.gW = z := wsz_blk hw
   have hus : usB w q = usB wr q := (usB_frm (Frm.of_below (S := fun _ => False) BR.out) hP0.r.wd.lt (fun h => h)).symm
   have US : Hid (Calls Tryz.prog 93 #[.pointer (some ⟨q.gp, 0, none⟩)] wr fun e w' => e = .returned (.bool (usB w q)) ∧ Below wr.heap.size wr w') := hid (usable1_any wr q.gp q.u q.j q.b q.s q.gG q.gW Aq q.l.length cq m z t kk (by have := P.out.blk; rw [hvq] at this; exact this) hw (usB w q) (by rw [hus]; unfold usB; rw [hwz]))
   have TK : Hid ((x.ps.take (j + 1)).any (usB w) = usB w q) := hid (by rw [List.take_add_one, hq, List.any_append, HNO.out]; simp)
   have AN : Hid (usB w q = true → x.ps.any (usB w) = true) := hid (fun e => List.any_eq_true.2 ⟨q, List.mem_of_getElem? hq, e⟩)
   obtain ⟨b, hbq⟩ : ∃ b, usB w q = b := ⟨_, rfl⟩
   rw [hbq] at US TK AN
   clear hw hwz hus hvq hel hv' hA hq hP0 hbq
   cases b
   ·go_wp2_with fail
    refine US.out.mono ?_
    rintro e w2 ⟨rfl, hb2⟩
    have B2 := hid (bO BR.out hb2)
    clear hb2
    go_wp2_with fail
    go_roundw
    case rel => exact ⟨j + 1, hjn, by go_num, TK.out, B2.out⟩
    case measure => simp [intOf]; omega
   ·go_wp2_with fail
    refine US.out.mono ?_
    rintro e w2 ⟨rfl, hb2⟩
    have B2 := hid (bO BR.out hb2)
    clear hb2
    go_wp2_with fail
    go_ret
    exact ⟨by rw [AN.out (by trivial)]; rfl, B2.out⟩
  ·have j1 : ¬ (j : Int) < (n : Int) := by omega
   obtain rfl : j = n := by omega
   have TK : Hid (x.ps.any (usB w) = false) := hid (by have := HNO.out; rw [List.take_of_length_le (by have := HN.out; omega)] at this; exact this)
   go_wp2_with fail
   go_ret
   exact ⟨by rw [TK.out]; rfl, BR.out⟩
end
end Go.Proofs.YtdneakejlbabeaaGreat
