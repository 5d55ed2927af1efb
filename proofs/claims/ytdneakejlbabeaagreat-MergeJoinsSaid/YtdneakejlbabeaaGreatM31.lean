/- Parts of the walk: Eq. -/
import Derived.Test.YtdneakejlbabeaaGreatM00
import Derived.Test.YtdneakejlbabeaaGreatM21
namespace Go.Proofs.YtdneakejlbabeaaGreat
open Go.RowKit
set_option linter.unusedVariables false
set_option linter.unusedSimpArgs false
section
attribute [local go_sem] run_max2' run_min2' run_max_ run_min_
/-- Nine cells of a block turned. -/
def fill9 (W : World) (g : Nat) (u0 u1 u2 u3 u4 u5 u6 u7 u8 : Value) : World :=
 ((((((((W.setCell ⟨g, 0, none⟩ u0).setCell ⟨g, 1, none⟩ u1).setCell ⟨g, 2, none⟩ u2).setCell ⟨g, 3, none⟩ u3).setCell ⟨g, 4, none⟩ u4).setCell ⟨g, 5, none⟩ u5).setCell ⟨g, 6, none⟩ u6).setCell ⟨g, 7, none⟩ u7).setCell ⟨g, 8, none⟩ u8
theorem fill9_blk {W : World} {g : Nat} {t : TypeId} {a0 a1 a2 a3 a4 a5 a6 a7 a8 : Value} (h : Blk W g #[a0, a1, a2, a3, a4, a5, a6, a7, a8] t) (u0 u1 u2 u3 u4 u5 u6 u7 u8 : Value) : Blk (fill9 W g u0 u1 u2 u3 u4 u5 u6 u7 u8) g #[u0, u1, u2, u3, u4, u5, u6, u7, u8] t := by
 have := ((((((((h.set 0 u0).set 1 u1).set 2 u2).set 3 u3).set 4 u4).set 5 u5).set 6 u6).set 7 u7).set 8 u8
 simpa [fill9] using this
theorem fill9_frm (W : World) (g : Nat) (u0 u1 u2 u3 u4 u5 u6 u7 u8 : Value) : Frm (· = g) W (fill9 W g u0 u1 u2 u3 u4 u5 u6 u7 u8) :=
 ((((((((((Frm.refl (· = g) W).setg u0).setg u1).setg u2).setg u3).setg u4).setg u5).setg u6).setg u7).setg u8)
theorem Tryz.size27 : (Tryz.prog.info? 27).map (·.size) = some 9 := by kernel_rfl
def TakePR (w : World) (g : Nat) (v : Value) (l : List Int) (a : Nat) (e : Ending) (w' : World) : Prop :=
 ∃ (p : Pk) (vd : Value) (a' : Nat) (b' q : Bool), e = .returned (.tuple #[pagg p vd, .bool q]) ∧ BV w' (fun j => w.heap.size ≤ j) vd p.data ∧ p.data.length ≤ l.length ∧ (q = true → RightP p p.data.length ∧ plainL p = (l.drop a).take (a' - a)) ∧ RdC w' g v a' b' ∧ a ≤ a' ∧ a' ≤ l.length ∧ Frm (· = g) w w'
/-- What was taken, filled in. -/
theorem TP.fin {w W : World} {g gp gr : Nat} {v : Value} {l : List Int} {a a0 : Nat} {b : Bool} {cs : Array Value} (h : TP w W g gp gr v l a b cs) (p : Pk) (vd : Value) (q : Bool) (hd : BV W (fun j => w.heap.size ≤ j ∧ j ≠ gr) vd p.data) (hdl : p.data.length ≤ l.length) (hq : q = true → RightP p p.data.length ∧ plainL p = (l.drop a0).take (a - a0)) (ha : a0 ≤ a) (u0 u1 u2 u3 u4 u5 u6 u7 u8 : Value) :
  TakePR w g v l a0 (.returned (.tuple #[pagg p vd, .bool q])) (fill9 W gr u0 u1 u2 u3 u4 u5 u6 u7 u8) := by
 obtain ⟨n1, n2, n3, n4⟩ := h.n
 have f := fill9_frm W gr u0 u1 u2 u3 u4 u5 u6 u7 u8
 exact ⟨p, vd, a, b, q, rfl, (hd.frm f (fun j hj => hj.2)).mono (fun j hj _ => hj.1), hdl, hq, h.rd.frm f (by omega), ha, h.le, ⟨f.os.trans h.f.os, f.tape.trans h.f.tape, f.output.trans h.f.output, Nat.le_trans h.f.size f.size, fun k hk hn => (f.block k (Nat.lt_of_lt_of_le hk h.f.size) (by omega)).trans (h.f.block k hk hn)⟩⟩
set_option maxHeartbeats 16000000 in
set_option maxRecDepth 100000 in
theorem takepacket_any (w : World) (g : Nat) (v : Value) (l : List Int) (S : Nat → Prop) (a : Nat) (b : Bool) (h : RdC w g v a b) (hv : BV w S v l) (hS : ∀ j, S j → j ≠ g) (ha : a ≤ l.length) (hl : l.length ≤ 1000000) :
  Calls Tryz.prog 72 #[.pointer (some ⟨g, 0, none⟩)] w fun e w' => TakePR w g v l a e w' := by
 obtain ⟨Av, cv, rfl, hvc, _⟩ := hv.len
 have H := hid h
 have HV := hid (hv.mono (S' := fun j => j < w.heap.size ∧ j ≠ g) (fun j hj hlt => ⟨hlt, hS j hj⟩))
 have gl := h.lt
 have c1 := h.cell 1
 simp only [gA, gZ, gC] at c1
 clear h hv hS
 go_enter Tryz.func72, Tryz.ntmps72
 go_wp2_with fail
 obtain ⟨w0, hw0⟩ := lx (w.alloc (.cells #[.int .i64 0, .int .i64 0, .int .i64 0, .int .i64 0, .int .i64 0, .slice none 0 0, .bool false, .int .i64 0, .int .i64 0] 27))
 obtain ⟨gr, hgr⟩ := lx (w.heap.size)
 have BR : Hid (Blk w0 gr #[.int .i64 0, .int .i64 0, .int .i64 0, .int .i64 0, .int .i64 0, .slice none 0 0, .bool false, .int .i64 0, .int .i64 0] 27) := hid (by rw [hw0, hgr]; exact Blk.new _ _ _)
 have BW : Hid (Below w.heap.size w w0) := hid (by rw [hw0]; exact ba)
 rw [← hw0, ← hgr]
 have sgr : w.heap.size ≤ gr := by omega
 clear hw0 hgr
 refine (rbyte_any w0 _ g _ l a b (H.out.below BW.out) (HV.out.below BW.out) (fun j hj => hj.2) ha hl).mono ?_
 rintro e w1 ⟨x, rfl, x0, x1, a1, b1, hr1, ha1, ha2, hf1⟩
 have R1 := hid hr1
 have F1 : Hid (Frm (· = g) w w1) := hid ((Frm.of_below BW.out).trans hf1)
 have BR1 := hid (BR.out.frm hf1 (by omega))
 have V1 := hid ((HV.out.below BW.out).frm hf1 (fun j hj e => hj.2 e))
 have s1 : w0.heap.size ≤ w1.heap.size := hf1.size
 have iwx : IntKind.i64.wrap x = x := iX
 have grl := BR1.out.lt
 clear hr1 hf1 c1
 go_wp2_with fail
 obtain ⟨w2, hw2⟩ := lx (w1.alloc (.cells #[.int .i64 x, .int .i64 0, .int .i64 0, .int .i64 0, .int .i64 0, .slice none 0 0, .bool false, .int .i64 0, .int .i64 0] 27))
 obtain ⟨gp, hgp⟩ := lx (w1.heap.size)
 have T2 : Hid (TP w w2 g gp gr (.slice Av l.length cv) l a1 b1 #[.int .i64 x, .int .i64 0, .int .i64 0, .int .i64 0, .int .i64 0, .slice none 0 0, .bool false, .int .i64 0, .int .i64 0]) := hid (by
  have hb : Below w1.heap.size w1 w2 := by rw [hw2]; exact ba
  exact ⟨R1.out.below hb, V1.out.below hb, by rw [hw2, hgp]; exact Blk.new _ _ _, BR1.out.below hb, F1.out.trans (Frm.of_below hb), ha2, gl, by have := F1.out.size; omega, sgr, by omega⟩)
 rw [← hw2, ← hgp]
 clear hw2 hgp R1 BR1 V1 F1 s1 grl
 refine (rnumber_any w2 _ g _ l a1 b1 T2.out.rd T2.out.bv (fun j hj => hj.2) T2.out.le hl).mono ?_
 rintro e v3 ⟨y1, rfl, a3, b3, hr, hle3, hle_, hf⟩
 have U3 := hid (T2.out.call hr hle_ hf)
 clear hr hf hle_
 have e3 := U3.out.pb.cell 1
 have f3 := U3.out.pb.free 1
 simp only [gA, gZ, gC] at e3
 go_wp2_with fail
 obtain ⟨w3, hw⟩ := lx (v3.setCell ⟨gp, 1, none⟩ (.int .i64 y1))
 rw [← hw]
 have T3 : Hid (TP w w3 g gp gr (.slice Av l.length cv) l a3 b3 #[.int .i64 x, .int .i64 y1, .int .i64 0, .int .i64 0, .int .i64 0, .slice none 0 0, .bool false, .int .i64 0, .int .i64 0]) := hid (by rw [hw]; have := U3.out.put 1 (.int .i64 y1); simpa using this)
 clear hw e3 f3 U3
 refine (rnumber_any w3 _ g _ l a3 b3 T3.out.rd T3.out.bv (fun j hj => hj.2) T3.out.le hl).mono ?_
 rintro e v4 ⟨y2, rfl, a4, b4, hr, hle4, hle_, hf⟩
 have U4 := hid (T3.out.call hr hle_ hf)
 clear hr hf hle_
 have e4 := U4.out.pb.cell 2
 have f4 := U4.out.pb.free 2
 simp only [gA, gZ, gC] at e4
 have kk0 := U4.out.pb.cell 0
 have kk1 := U4.out.pb.cell 1
 have kk3 := U4.out.pb.cell 3
 have kk4 := U4.out.pb.cell 4
 have kk5 := U4.out.pb.cell 5
 have kk6 := U4.out.pb.cell 6
 have kk7 := U4.out.pb.cell 7
 have kk8 := U4.out.pb.cell 8
 simp only [gA, gZ, gC] at kk0 kk1 kk3 kk4 kk5 kk6 kk7 kk8
 rcases (by omega : x = 2 ∨ x = 3 ∨ x = 4 ∨ (x ≠ 2 ∧ x ≠ 3 ∧ x ≠ 4)) with hx | hx | hx | hx
 ·subst hx
  go_wp2_with fail
  obtain ⟨w4, hw⟩ := lx (v4.setCell ⟨gp, 2, none⟩ (.int .i64 y2))
  rw [← hw]
  have T4 : Hid (TP w w4 g gp gr (.slice Av l.length cv) l a4 b4 #[.int .i64 2, .int .i64 y1, .int .i64 y2, .int .i64 0, .int .i64 0, .slice none 0 0, .bool false, .int .i64 0, .int .i64 0]) := hid (by rw [hw]; have := U4.out.put 2 (.int .i64 y2); simpa using this)
  clear hw e4 f4 U4
  refine (rnumber_any w4 _ g _ l a4 b4 T4.out.rd T4.out.bv (fun j hj => hj.2) T4.out.le hl).mono ?_
  rintro e v5 ⟨y3, rfl, a5, b5, hr, hle5, hle_, hf⟩
  have U5 := hid (T4.out.call hr hle_ hf)
  clear hr hf hle_
  have e5 := U5.out.pb.cell 3
  have f5 := U5.out.pb.free 3
  simp only [gA, gZ, gC] at e5
  have kk0 := U5.out.pb.cell 0
  have kk1 := U5.out.pb.cell 1
  have kk2 := U5.out.pb.cell 2
  have kk4 := U5.out.pb.cell 4
  have kk5 := U5.out.pb.cell 5
  have kk6 := U5.out.pb.cell 6
  have kk7 := U5.out.pb.cell 7
  have kk8 := U5.out.pb.cell 8
  simp only [gA, gZ, gC] at kk0 kk1 kk2 kk4 kk5 kk6 kk7 kk8
  go_wp2_with fail
  obtain ⟨w5, hw⟩ := lx (v5.setCell ⟨gp, 3, none⟩ (.int .i64 y3))
  rw [← hw]
  have T5 : Hid (TP w w5 g gp gr (.slice Av l.length cv) l a5 b5 #[.int .i64 2, .int .i64 y1, .int .i64 y2, .int .i64 y3, .int .i64 0, .slice none 0 0, .bool false, .int .i64 0, .int .i64 0]) := hid (by rw [hw]; have := U5.out.put 3 (.int .i64 y3); simpa using this)
  clear hw e5 f5 U5
  obtain ⟨pp, hpp⟩ : ∃ pp : Pk, pp = ⟨2, y1, y2, y3, 0, [], false, 0, 0⟩ := ⟨_, rfl⟩
  have hla : a ≤ a5 := by omega
  refine (plain_any w5 ⟨2, y1, y2, y3, 0, [], false, 0, 0⟩ _ (.slice none 0 0) (BV.nil _ (fun _ => True)) (by simp)).mono ?_
  rintro e W ⟨v6, q, bb, rfl, ho, hq, hb⟩
  rw [← hpp] at hq
  have T := hid (T5.out.call (Blk.below T5.out.rd hb) T5.out.le (Frm.of_below hb))
  have DZ : Hid (BV W (fun j => w.heap.size ≤ j ∧ j ≠ gr) (.slice none 0 0) pp.data) := hid (by rw [hpp]; exact BV.nil _ _)
  have DL : Hid (pp.data.length ≤ l.length) := hid (by rw [hpp]; exact Nat.zero_le _)
  have HQ := hid hq
  have O6 := hid ho
  obtain ⟨A6, c6, rfl⟩ := own_slice' ho.1
  have HP := hid hpp
  clear hb ho hq hpp
  obtain ⟨Wd, hWd⟩ := lx (W.drew)
  have TD : Hid (TP w Wd g gp gr (.slice Av l.length cv) l a5 b5 #[.int .i64 2, .int .i64 y1, .int .i64 y2, .int .i64 y3, .int .i64 0, .slice none 0 0, .bool false, .int .i64 0, .int .i64 0]) := hid (by rw [hWd]; exact T.out.call T.out.rd.drew T.out.le (Frm.refl _ _).drew)
  have DD : Hid (BV Wd (fun j => w.heap.size ≤ j ∧ j ≠ gr) (.slice none 0 0) pp.data) := hid (by rw [hWd]; exact DZ.out)
  have O7 : Hid (BO w5.heap.size Wd (.slice A6 bb.length c6) bb) := hid (by rw [hWd]; exact O6.out)
  have kc := sl_conv (Sl.of_own O7.out.1 (u8s_one _))
  have SL := Sl.sub1 (t := a) (u := a5) TD.out.bv.sl hla TD.out.le
  obtain ⟨A7, hA7⟩ : ∃ x, (if cv = a then Av else Option.map (fun x => x.add a) Av) = x := ⟨_, rfl⟩
  rw [hA7] at SL
  obtain ⟨sub, hsub⟩ : ∃ s, (l.drop a).take (a5 - a) = s := ⟨_, rfl⟩
  have hsl : sub.length = a5 - a := by rw [← hsub, List.length_take, List.length_drop]; have := TD.out.le; omega
  rw [show ((u8s l).drop a).take (a5 - a) = u8s sub by rw [← hsub]; simp [u8s, List.map_take, List.map_drop]] at SL
  have kl := sl_conv SL
  have hne : ((toBA bb).toList == (toBA sub).toList) = decide (bb = sub) := toBA_eq O7.out.2 (by rw [← hsub]; exact fun x hx => TD.out.bv.byt x (List.mem_of_mem_drop (List.mem_of_mem_take hx)))
  obtain ⟨qq, hqq⟩ : ∃ q, decide (bb = sub) = q := ⟨_, rfl⟩
  rw [hqq] at hne
  have HQQ := hid hqq
  have HSUB := hid hsub.symm
  have r0 := TD.out.rd.cell 0
  have r1 := TD.out.rd.cell 1
  have r2 := TD.out.rd.cell 2
  have i0 : (0 : Int) ≤ (a : Int) := by omega
  have i1 : (a : Int) ≤ (a5 : Int) := by omega
  have i2 : (a5 : Int) ≤ (cv : Int) := by have := TD.out.le; omega
  simp only [gA, gZ, gC] at r0 r1 r2
  clear SL hsl hqq hsub T O6 DZ
  cases b5
  ·cases q
   ·go_wp2_with fail
    refine wp_region_held_drew (S := (fun w' => w'.cell? ⟨g, 0, none⟩ = some (.slice Av l.length cv) ∧ w'.cell? ⟨g, 1, none⟩ = some (.int .i64 (a5 : Int)) ∧ w'.cell? ⟨g, 2, none⟩ = some (.bool false) ∧ (convert 25 9 (.slice A6 bb.length c6)).run Tryz.prog w' = .ok (.string (toBA bb)) w' ∧ (convert 25 9 (.slice A7 (a5 - a) (cv - a))).run Tryz.prog w' = .ok (.string (toBA sub)) w')) (by kernel_rfl) (by rw [← hWd]; exact ⟨r0, r1, r2, kc, kl⟩) (fun hHeld => ?_)
    rw [← hWd] at hHeld ⊢
    clear hWd
    refine tk 0 (oi := ⟨some 57, _, _, _, _, _⟩) rfl ?_
    refine tk 1 (oi := ⟨some 58, _, _, _, _, _⟩) rfl ?_
    refine tk 2 (oi := ⟨some 59, _, _, _, _, _⟩) rfl ?_
    refine tk 3 (oi := ⟨some 60, _, _, _, _, _⟩) rfl ?_
    refine tk 4 (oi := ⟨some 61, _, _, _, _, _⟩) rfl ?_
    refine tk 5 (oi := ⟨some 62, _, _, _, _, _⟩) rfl ?_
    refine tk 6 (oi := ⟨some 63, _, _, _, _, _⟩) rfl ?_
    refine tk 7 (oi := ⟨some 64, _, _, _, _, _⟩) rfl ?_
    refine tk 8 (oi := ⟨some 65, _, _, _, _, _⟩) rfl ?_
    refine sk 9 (oi := ⟨some 66, _, _, _, _, _⟩) rfl ?_
    refine sk 10 (oi := ⟨some 67, _, _, _, _, _⟩) rfl ?_
    refine sk 11 (oi := ⟨some 68, _, _, _, _, _⟩) rfl ?_
    refine sk 12 (oi := ⟨some 69, _, _, _, _, _⟩) rfl ?_
    refine sk 13 (oi := ⟨some 70, _, _, _, _, _⟩) rfl ?_
    refine sk 14 (oi := ⟨some 71, _, _, _, _, _⟩) rfl ?_
    refine sk 15 (oi := ⟨some 72, _, _, _, _, _⟩) rfl ?_
    refine sk 16 (oi := ⟨some 73, _, _, _, _, _⟩) rfl ?_
    refine sk 17 (oi := ⟨some 74, _, _, _, _, _⟩) rfl ?_
    refine sk 18 (oi := ⟨some 75, _, _, _, _, _⟩) rfl ?_
    refine sk 19 (oi := ⟨some 76, _, _, _, _, _⟩) rfl ?_
    refine sk 20 (oi := ⟨some 77, _, _, _, _, _⟩) rfl ?_
    refine sk 21 (oi := ⟨some 78, _, _, _, _, _⟩) rfl ?_
    refine sk 22 (oi := ⟨some 79, _, _, _, _, _⟩) rfl ?_
    refine tk 23 (oi := ⟨some 80, _, _, _, _, _⟩) rfl ?_
    refine dn ?_
    clear r0 r1 r2 kc kl hHeld
    have zc0 := TD.out.rc.cell 0
    have zf0 := TD.out.rc.free 0
    have zc1 := TD.out.rc.cell 1
    have zf1 := TD.out.rc.free 1
    have zc2 := TD.out.rc.cell 2
    have zf2 := TD.out.rc.free 2
    have zc3 := TD.out.rc.cell 3
    have zf3 := TD.out.rc.free 3
    have zc4 := TD.out.rc.cell 4
    have zf4 := TD.out.rc.free 4
    have zc5 := TD.out.rc.cell 5
    have zf5 := TD.out.rc.free 5
    have zc6 := TD.out.rc.cell 6
    have zf6 := TD.out.rc.free 6
    have zc7 := TD.out.rc.cell 7
    have zf7 := TD.out.rc.free 7
    have zc8 := TD.out.rc.cell 8
    have zf8 := TD.out.rc.free 8
    simp only [gA, gZ, gC] at zc0 zc1 zc2 zc3 zc4 zc5 zc6 zc7 zc8
    go_wp2_with fail
    refine bodyPost_ret (results_crt rfl _ (fill9 Wd gr (.int .i64 0) (.int .i64 0) (.int .i64 0) (.int .i64 0) (.int .i64 0) (.slice none 0 0) (.bool false) (.int .i64 0) (.int .i64 0)) gr 27 _ (0, 0) _ rfl (fill9_blk TD.out.rc (.int .i64 0) (.int .i64 0) (.int .i64 0) (.int .i64 0) (.int .i64 0) (.slice none 0 0) (.bool false) (.int .i64 0) (.int .i64 0)) Tryz.underlying27 rfl Tryz.size27) rfl ?_
    exact TD.out.fin ⟨0, 0, 0, 0, 0, [], false, 0, 0⟩ (.slice none 0 0) false (BV.nil _ _) (Nat.zero_le _) (fun h => by cases h) hla (.int .i64 0) (.int .i64 0) (.int .i64 0) (.int .i64 0) (.int .i64 0) (.slice none 0 0) (.bool false) (.int .i64 0) (.int .i64 0)
   ·cases qq
    ·go_wp2_with fail
     refine wp_region_held_drew (S := (fun w' => w'.cell? ⟨g, 0, none⟩ = some (.slice Av l.length cv) ∧ w'.cell? ⟨g, 1, none⟩ = some (.int .i64 (a5 : Int)) ∧ w'.cell? ⟨g, 2, none⟩ = some (.bool false) ∧ (convert 25 9 (.slice A6 bb.length c6)).run Tryz.prog w' = .ok (.string (toBA bb)) w' ∧ (convert 25 9 (.slice A7 (a5 - a) (cv - a))).run Tryz.prog w' = .ok (.string (toBA sub)) w')) (by kernel_rfl) (by rw [← hWd]; exact ⟨r0, r1, r2, kc, kl⟩) (fun hHeld => ?_)
     rw [← hWd] at hHeld ⊢
     clear hWd
     refine tk 0 (oi := ⟨some 57, _, _, _, _, _⟩) rfl ?_
     refine tk 1 (oi := ⟨some 58, _, _, _, _, _⟩) rfl ?_
     refine tk 2 (oi := ⟨some 59, _, _, _, _, _⟩) rfl ?_
     refine tk 3 (oi := ⟨some 60, _, _, _, _, _⟩) rfl ?_
     refine tk 4 (oi := ⟨some 61, _, _, _, _, _⟩) rfl ?_
     refine tk 5 (oi := ⟨some 62, _, _, _, _, _⟩) rfl ?_
     refine tk 6 (oi := ⟨some 63, _, _, _, _, _⟩) rfl ?_
     refine tk 7 (oi := ⟨some 64, _, _, _, _, _⟩) rfl ?_
     refine tk 8 (oi := ⟨some 65, _, _, _, _, _⟩) rfl ?_
     refine tk 9 (oi := ⟨some 66, _, _, _, _, _⟩) rfl ?_
     refine tk 10 (oi := ⟨some 67, _, _, _, _, _⟩) rfl ?_
     refine tk 11 (oi := ⟨some 68, _, _, _, _, _⟩) rfl ?_
     refine tk 12 (oi := ⟨some 69, _, _, _, _, _⟩) rfl ?_
     refine tk 13 (oi := ⟨some 70, _, _, _, _, _⟩) rfl ?_
     refine tk 14 (oi := ⟨some 71, _, _, _, _, _⟩) rfl ?_
     refine tk 15 (oi := ⟨some 72, _, _, _, _, _⟩) rfl ?_
     refine tk 16 (oi := ⟨some 73, _, _, _, _, _⟩) rfl ?_
     refine tk 17 (oi := ⟨some 74, _, _, _, _, _⟩) rfl ?_
     refine tk 18 (oi := ⟨some 75, _, _, _, _, _⟩) rfl ?_
     refine tk 19 (oi := ⟨some 76, _, _, _, _, _⟩) rfl ?_
     refine tk 20 (oi := ⟨some 77, _, _, _, _, _⟩) rfl ?_
     refine tk 21 (oi := ⟨some 78, _, _, _, _, _⟩) rfl ?_
     refine tk 22 (oi := ⟨some 79, _, _, _, _, _⟩) rfl ?_
     refine tk 23 (oi := ⟨some 80, _, _, _, _, _⟩) rfl ?_
     refine dn ?_
     clear r0 r1 r2 kc kl hHeld
     have zc0 := TD.out.rc.cell 0
     have zf0 := TD.out.rc.free 0
     have zc1 := TD.out.rc.cell 1
     have zf1 := TD.out.rc.free 1
     have zc2 := TD.out.rc.cell 2
     have zf2 := TD.out.rc.free 2
     have zc3 := TD.out.rc.cell 3
     have zf3 := TD.out.rc.free 3
     have zc4 := TD.out.rc.cell 4
     have zf4 := TD.out.rc.free 4
     have zc5 := TD.out.rc.cell 5
     have zf5 := TD.out.rc.free 5
     have zc6 := TD.out.rc.cell 6
     have zf6 := TD.out.rc.free 6
     have zc7 := TD.out.rc.cell 7
     have zf7 := TD.out.rc.free 7
     have zc8 := TD.out.rc.cell 8
     have zf8 := TD.out.rc.free 8
     simp only [gA, gZ, gC] at zc0 zc1 zc2 zc3 zc4 zc5 zc6 zc7 zc8
     go_wp2_with fail
     refine bodyPost_ret (results_crt rfl _ (fill9 Wd gr (.int .i64 0) (.int .i64 0) (.int .i64 0) (.int .i64 0) (.int .i64 0) (.slice none 0 0) (.bool false) (.int .i64 0) (.int .i64 0)) gr 27 _ (0, 0) _ rfl (fill9_blk TD.out.rc (.int .i64 0) (.int .i64 0) (.int .i64 0) (.int .i64 0) (.int .i64 0) (.slice none 0 0) (.bool false) (.int .i64 0) (.int .i64 0)) Tryz.underlying27 rfl Tryz.size27) rfl ?_
     exact TD.out.fin ⟨0, 0, 0, 0, 0, [], false, 0, 0⟩ (.slice none 0 0) false (BV.nil _ _) (Nat.zero_le _) (fun h => by cases h) hla (.int .i64 0) (.int .i64 0) (.int .i64 0) (.int .i64 0) (.int .i64 0) (.slice none 0 0) (.bool false) (.int .i64 0) (.int .i64 0)
    ·go_wp2_with fail
     refine wp_region_held_drew (S := (fun w' => w'.cell? ⟨g, 0, none⟩ = some (.slice Av l.length cv) ∧ w'.cell? ⟨g, 1, none⟩ = some (.int .i64 (a5 : Int)) ∧ w'.cell? ⟨g, 2, none⟩ = some (.bool false) ∧ (convert 25 9 (.slice A6 bb.length c6)).run Tryz.prog w' = .ok (.string (toBA bb)) w' ∧ (convert 25 9 (.slice A7 (a5 - a) (cv - a))).run Tryz.prog w' = .ok (.string (toBA sub)) w')) (by kernel_rfl) (by rw [← hWd]; exact ⟨r0, r1, r2, kc, kl⟩) (fun hHeld => ?_)
     rw [← hWd] at hHeld ⊢
     clear hWd
     refine tk 0 (oi := ⟨some 57, _, _, _, _, _⟩) rfl ?_
     refine tk 1 (oi := ⟨some 58, _, _, _, _, _⟩) rfl ?_
     refine tk 2 (oi := ⟨some 59, _, _, _, _, _⟩) rfl ?_
     refine tk 3 (oi := ⟨some 60, _, _, _, _, _⟩) rfl ?_
     refine tk 4 (oi := ⟨some 61, _, _, _, _, _⟩) rfl ?_
     refine tk 5 (oi := ⟨some 62, _, _, _, _, _⟩) rfl ?_
     refine tk 6 (oi := ⟨some 63, _, _, _, _, _⟩) rfl ?_
     refine tk 7 (oi := ⟨some 64, _, _, _, _, _⟩) rfl ?_
     refine tk 8 (oi := ⟨some 65, _, _, _, _, _⟩) rfl ?_
     refine tk 9 (oi := ⟨some 66, _, _, _, _, _⟩) rfl ?_
     refine tk 10 (oi := ⟨some 67, _, _, _, _, _⟩) rfl ?_
     refine tk 11 (oi := ⟨some 68, _, _, _, _, _⟩) rfl ?_
     refine tk 12 (oi := ⟨some 69, _, _, _, _, _⟩) rfl ?_
     refine tk 13 (oi := ⟨some 70, _, _, _, _, _⟩) rfl ?_
     refine tk 14 (oi := ⟨some 71, _, _, _, _, _⟩) rfl ?_
     refine tk 15 (oi := ⟨some 72, _, _, _, _, _⟩) rfl ?_
     refine tk 16 (oi := ⟨some 73, _, _, _, _, _⟩) rfl ?_
     refine tk 17 (oi := ⟨some 74, _, _, _, _, _⟩) rfl ?_
     refine tk 18 (oi := ⟨some 75, _, _, _, _, _⟩) rfl ?_
     refine tk 19 (oi := ⟨some 76, _, _, _, _, _⟩) rfl ?_
     refine tk 20 (oi := ⟨some 77, _, _, _, _, _⟩) rfl ?_
     refine tk 21 (oi := ⟨some 78, _, _, _, _, _⟩) rfl ?_
     refine tk 22 (oi := ⟨some 79, _, _, _, _, _⟩) rfl ?_
     refine tk 23 (oi := ⟨some 80, _, _, _, _, _⟩) rfl ?_
     refine dn ?_
     clear r0 r1 r2 kc kl hHeld
     have zc0 := TD.out.rc.cell 0
     have zf0 := TD.out.rc.free 0
     have zc1 := TD.out.rc.cell 1
     have zf1 := TD.out.rc.free 1
     have zc2 := TD.out.rc.cell 2
     have zf2 := TD.out.rc.free 2
     have zc3 := TD.out.rc.cell 3
     have zf3 := TD.out.rc.free 3
     have zc4 := TD.out.rc.cell 4
     have zf4 := TD.out.rc.free 4
     have zc5 := TD.out.rc.cell 5
     have zf5 := TD.out.rc.free 5
     have zc6 := TD.out.rc.cell 6
     have zf6 := TD.out.rc.free 6
     have zc7 := TD.out.rc.cell 7
     have zf7 := TD.out.rc.free 7
     have zc8 := TD.out.rc.cell 8
     have zf8 := TD.out.rc.free 8
     simp only [gA, gZ, gC] at zc0 zc1 zc2 zc3 zc4 zc5 zc6 zc7 zc8
     have k0 := TD.out.pb.cell 0
     have k1 := TD.out.pb.cell 1
     have k2 := TD.out.pb.cell 2
     have k3 := TD.out.pb.cell 3
     have k4 := TD.out.pb.cell 4
     have k5 := TD.out.pb.cell 5
     have k6 := TD.out.pb.cell 6
     have k7 := TD.out.pb.cell 7
     have k8 := TD.out.pb.cell 8
     simp only [gA, gZ, gC] at k0 k1 k2 k3 k4 k5 k6 k7 k8
     go_wp2_with fail
     refine bodyPost_ret (results_crt rfl _ (fill9 Wd gr (.int .i64 2) (.int .i64 y1) (.int .i64 y2) (.int .i64 y3) (.int .i64 0) (.slice none 0 0) (.bool false) (.int .i64 0) (.int .i64 0)) gr 27 _ (0, 0) _ rfl (fill9_blk TD.out.rc (.int .i64 2) (.int .i64 y1) (.int .i64 y2) (.int .i64 y3) (.int .i64 0) (.slice none 0 0) (.bool false) (.int .i64 0) (.int .i64 0)) Tryz.underlying27 rfl Tryz.size27) rfl ?_
     have hyes := HQ.out (by trivial)
     rw [of_decide_eq_true HQQ.out, HSUB.out] at hyes
     have hf := TD.out.fin pp (.slice none 0 0) true DD.out DL.out (fun _ => ⟨hyes.1, hyes.2.symm⟩) hla (.int .i64 2) (.int .i64 y1) (.int .i64 y2) (.int .i64 y3) (.int .i64 0) (.slice none 0 0) (.bool false) (.int .i64 0) (.int .i64 0)
     rw [HP.out] at hf
     exact hf
  ·go_wp2_with fail
   refine wp_region_held_drew (S := (fun w' => w'.cell? ⟨g, 0, none⟩ = some (.slice Av l.length cv) ∧ w'.cell? ⟨g, 1, none⟩ = some (.int .i64 (a5 : Int)) ∧ w'.cell? ⟨g, 2, none⟩ = some (.bool true) ∧ (convert 25 9 (.slice A6 bb.length c6)).run Tryz.prog w' = .ok (.string (toBA bb)) w' ∧ (convert 25 9 (.slice A7 (a5 - a) (cv - a))).run Tryz.prog w' = .ok (.string (toBA sub)) w')) (by kernel_rfl) (by rw [← hWd]; exact ⟨r0, r1, r2, kc, kl⟩) (fun hHeld => ?_)
   rw [← hWd] at hHeld ⊢
   clear hWd
   refine tk 0 (oi := ⟨some 57, _, _, _, _, _⟩) rfl ?_
   refine tk 1 (oi := ⟨some 58, _, _, _, _, _⟩) rfl ?_
   refine tk 2 (oi := ⟨some 59, _, _, _, _, _⟩) rfl ?_
   refine tk 3 (oi := ⟨some 60, _, _, _, _, _⟩) rfl ?_
   refine tk 4 (oi := ⟨some 61, _, _, _, _, _⟩) rfl ?_
   refine sk 5 (oi := ⟨some 62, _, _, _, _, _⟩) rfl ?_
   refine sk 6 (oi := ⟨some 63, _, _, _, _, _⟩) rfl ?_
   refine tk 7 (oi := ⟨some 64, _, _, _, _, _⟩) rfl ?_
   refine tk 8 (oi := ⟨some 65, _, _, _, _, _⟩) rfl ?_
   refine sk 9 (oi := ⟨some 66, _, _, _, _, _⟩) rfl ?_
   refine sk 10 (oi := ⟨some 67, _, _, _, _, _⟩) rfl ?_
   refine sk 11 (oi := ⟨some 68, _, _, _, _, _⟩) rfl ?_
   refine sk 12 (oi := ⟨some 69, _, _, _, _, _⟩) rfl ?_
   refine sk 13 (oi := ⟨some 70, _, _, _, _, _⟩) rfl ?_
   refine sk 14 (oi := ⟨some 71, _, _, _, _, _⟩) rfl ?_
   refine sk 15 (oi := ⟨some 72, _, _, _, _, _⟩) rfl ?_
   refine sk 16 (oi := ⟨some 73, _, _, _, _, _⟩) rfl ?_
   refine sk 17 (oi := ⟨some 74, _, _, _, _, _⟩) rfl ?_
   refine sk 18 (oi := ⟨some 75, _, _, _, _, _⟩) rfl ?_
   refine sk 19 (oi := ⟨some 76, _, _, _, _, _⟩) rfl ?_
   refine sk 20 (oi := ⟨some 77, _, _, _, _, _⟩) rfl ?_
   refine sk 21 (oi := ⟨some 78, _, _, _, _, _⟩) rfl ?_
   refine sk 22 (oi := ⟨some 79, _, _, _, _, _⟩) rfl ?_
   refine tk 23 (oi := ⟨some 80, _, _, _, _, _⟩) rfl ?_
   refine dn ?_
   clear r0 r1 r2 kc kl hHeld
   have zc0 := TD.out.rc.cell 0
   have zf0 := TD.out.rc.free 0
   have zc1 := TD.out.rc.cell 1
   have zf1 := TD.out.rc.free 1
   have zc2 := TD.out.rc.cell 2
   have zf2 := TD.out.rc.free 2
   have zc3 := TD.out.rc.cell 3
   have zf3 := TD.out.rc.free 3
   have zc4 := TD.out.rc.cell 4
   have zf4 := TD.out.rc.free 4
   have zc5 := TD.out.rc.cell 5
   have zf5 := TD.out.rc.free 5
   have zc6 := TD.out.rc.cell 6
   have zf6 := TD.out.rc.free 6
   have zc7 := TD.out.rc.cell 7
   have zf7 := TD.out.rc.free 7
   have zc8 := TD.out.rc.cell 8
   have zf8 := TD.out.rc.free 8
   simp only [gA, gZ, gC] at zc0 zc1 zc2 zc3 zc4 zc5 zc6 zc7 zc8
   go_wp2_with fail
   refine bodyPost_ret (results_crt rfl _ (fill9 Wd gr (.int .i64 0) (.int .i64 0) (.int .i64 0) (.int .i64 0) (.int .i64 0) (.slice none 0 0) (.bool false) (.int .i64 0) (.int .i64 0)) gr 27 _ (0, 0) _ rfl (fill9_blk TD.out.rc (.int .i64 0) (.int .i64 0) (.int .i64 0) (.int .i64 0) (.int .i64 0) (.slice none 0 0) (.bool false) (.int .i64 0) (.int .i64 0)) Tryz.underlying27 rfl Tryz.size27) rfl ?_
   exact TD.out.fin ⟨0, 0, 0, 0, 0, [], false, 0, 0⟩ (.slice none 0 0) false (BV.nil _ _) (Nat.zero_le _) (fun h => by cases h) hla (.int .i64 0) (.int .i64 0) (.int .i64 0) (.int .i64 0) (.int .i64 0) (.slice none 0 0) (.bool false) (.int .i64 0) (.int .i64 0)
 ·subst hx
  go_wp2_with fail
  obtain ⟨w4, hw⟩ := lx (v4.setCell ⟨gp, 2, none⟩ (.int .i64 y2))
  rw [← hw]
  have T4 : Hid (TP w w4 g gp gr (.slice Av l.length cv) l a4 b4 #[.int .i64 3, .int .i64 y1, .int .i64 y2, .int .i64 0, .int .i64 0, .slice none 0 0, .bool false, .int .i64 0, .int .i64 0]) := hid (by rw [hw]; have := U4.out.put 2 (.int .i64 y2); simpa using this)
  clear hw e4 f4 U4
  refine (rnumber_any w4 _ g _ l a4 b4 T4.out.rd T4.out.bv (fun j hj => hj.2) T4.out.le hl).mono ?_
  rintro e v5 ⟨y3, rfl, a5, b5, hr, hle5, hle_, hf⟩
  have U5 := hid (T4.out.call hr hle_ hf)
  clear hr hf hle_
  have e5 := U5.out.pb.cell 4
  have f5 := U5.out.pb.free 4
  simp only [gA, gZ, gC] at e5
  go_wp2_with fail
  obtain ⟨w5, hw⟩ := lx (v5.setCell ⟨gp, 4, none⟩ (.int .i64 y3))
  rw [← hw]
  have T5 : Hid (TP w w5 g gp gr (.slice Av l.length cv) l a5 b5 #[.int .i64 3, .int .i64 y1, .int .i64 y2, .int .i64 0, .int .i64 y3, .slice none 0 0, .bool false, .int .i64 0, .int .i64 0]) := hid (by rw [hw]; have := U5.out.put 4 (.int .i64 y3); simpa using this)
  clear hw e5 f5 U5
  refine (rbytes_any w5 _ g _ l a5 b5 64 T5.out.rd T5.out.bv (fun j hj => hj.2) T5.out.le hl).mono ?_
  rintro e v6 ⟨vd, ld, rfl, hbo, hld, a6, b6, hr, hle6, hle_, hf⟩
  have U6 := hid (T5.out.call hr hle_ hf)
  obtain ⟨Ad, cd, rfl⟩ := own_slice' hbo.1
  have DVU : Hid (BV v6 (fun j => w5.heap.size ≤ j) (.slice Ad ld.length cd) ld) := hid hbo.bv
  have cgp := T5.out.pb.lt
  have cgr := T5.out.rc.lt
  have sw : w.heap.size ≤ w5.heap.size := T5.out.f.size
  have DV : Hid (BV v6 (fun j => w.heap.size ≤ j ∧ j ≠ gr ∧ j ≠ gp ∧ j ≠ g) (.slice Ad ld.length cd) ld) := hid (DVU.out.mono (fun j hj _ => ⟨by omega, by omega, by omega, by omega⟩))
  clear hbo DVU
  clear hr hf hle_
  have e6 := U6.out.pb.cell 5
  have f6 := U6.out.pb.free 5
  simp only [gA, gZ, gC] at e6
  go_wp2_with fail
  obtain ⟨w6, hw⟩ := lx (v6.setCell ⟨gp, 5, none⟩ (.slice Ad ld.length cd))
  rw [← hw]
  have T6 : Hid (TP w w6 g gp gr (.slice Av l.length cv) l a6 b6 #[.int .i64 3, .int .i64 y1, .int .i64 y2, .int .i64 0, .int .i64 y3, .slice Ad ld.length cd, .bool false, .int .i64 0, .int .i64 0]) := hid (by rw [hw]; have := U6.out.put 5 (.slice Ad ld.length cd); simpa using this)
  have DV : Hid (BV w6 (fun j => w.heap.size ≤ j ∧ j ≠ gr ∧ j ≠ gp ∧ j ≠ g) (.slice Ad ld.length cd) ld) := hid (by rw [hw]; exact DV.out.frm ((Frm.refl (· = gp) v6).setg (i := 5) _) (fun j hj e => hj.2.2.1 e))
  clear hw e6 f6 U6
  refine (rbyte_any w6 _ g _ l a6 b6 T6.out.rd T6.out.bv (fun j hj => hj.2) T6.out.le hl).mono ?_
  rintro e v7 ⟨z, rfl, z0, z1, a7, b7, hr, hle7, hle_, hf⟩
  have U7 := hid (T6.out.call hr hle_ hf)
  have DV : Hid (BV v7 (fun j => w.heap.size ≤ j ∧ j ≠ gr ∧ j ≠ gp ∧ j ≠ g) (.slice Ad ld.length cd) ld) := hid (DV.out.frm hf (fun j hj e => hj.2.2.2 e))
  clear hr hf hle_
  have e7 := U7.out.pb.cell 6
  have f7 := U7.out.pb.free 6
  simp only [gA, gZ, gC] at e7
  obtain ⟨fb, hfb⟩ : ∃ fb, (z == 1) = fb := ⟨_, rfl⟩
  have kk0 := U7.out.pb.cell 0
  have kk1 := U7.out.pb.cell 1
  have kk2 := U7.out.pb.cell 2
  have kk3 := U7.out.pb.cell 3
  have kk4 := U7.out.pb.cell 4
  have kk5 := U7.out.pb.cell 5
  have kk7 := U7.out.pb.cell 7
  have kk8 := U7.out.pb.cell 8
  simp only [gA, gZ, gC] at kk0 kk1 kk2 kk3 kk4 kk5 kk7 kk8
  go_wp2_with fail
  obtain ⟨w7, hw⟩ := lx (v7.setCell ⟨gp, 6, none⟩ (.bool fb))
  rw [← hw]
  have T7 : Hid (TP w w7 g gp gr (.slice Av l.length cv) l a7 b7 #[.int .i64 3, .int .i64 y1, .int .i64 y2, .int .i64 0, .int .i64 y3, .slice Ad ld.length cd, .bool fb, .int .i64 0, .int .i64 0]) := hid (by rw [hw]; have := U7.out.put 6 (.bool fb); simpa using this)
  have DV : Hid (BV w7 (fun j => w.heap.size ≤ j ∧ j ≠ gr ∧ j ≠ gp ∧ j ≠ g) (.slice Ad ld.length cd) ld) := hid (by rw [hw]; exact DV.out.frm ((Frm.refl (· = gp) v7).setg (i := 6) _) (fun j hj e => hj.2.2.1 e))
  clear hw e7 f7 U7
  obtain ⟨pp, hpp⟩ : ∃ pp : Pk, pp = ⟨3, y1, y2, 0, y3, ld, fb, 0, 0⟩ := ⟨_, rfl⟩
  have hla : a ≤ a7 := by omega
  refine (plain_any w7 ⟨3, y1, y2, 0, y3, ld, fb, 0, 0⟩ _ (.slice Ad ld.length cd) (DV.out) (by dsimp only; omega)).mono ?_
  rintro e W ⟨v6, q, bb, rfl, ho, hq, hb⟩
  rw [← hpp] at hq
  have T := hid (T7.out.call (Blk.below T7.out.rd hb) T7.out.le (Frm.of_below hb))
  have DZ : Hid (BV W (fun j => w.heap.size ≤ j ∧ j ≠ gr) (.slice Ad ld.length cd) pp.data) := hid (by rw [hpp]; exact (DV.out.below hb).mono (fun j hj _ => ⟨hj.1, hj.2.1⟩))
  have DL : Hid (pp.data.length ≤ l.length) := hid (by rw [hpp]; exact hld)
  have HQ := hid hq
  have O6 := hid ho
  obtain ⟨A6, c6, rfl⟩ := own_slice' ho.1
  have HP := hid hpp
  clear hb ho hq hpp
  obtain ⟨Wd, hWd⟩ := lx (W.drew)
  have TD : Hid (TP w Wd g gp gr (.slice Av l.length cv) l a7 b7 #[.int .i64 3, .int .i64 y1, .int .i64 y2, .int .i64 0, .int .i64 y3, .slice Ad ld.length cd, .bool fb, .int .i64 0, .int .i64 0]) := hid (by rw [hWd]; exact T.out.call T.out.rd.drew T.out.le (Frm.refl _ _).drew)
  have DD : Hid (BV Wd (fun j => w.heap.size ≤ j ∧ j ≠ gr) (.slice Ad ld.length cd) pp.data) := hid (by rw [hWd]; exact DZ.out)
  have O7 : Hid (BO w7.heap.size Wd (.slice A6 bb.length c6) bb) := hid (by rw [hWd]; exact O6.out)
  have kc := sl_conv (Sl.of_own O7.out.1 (u8s_one _))
  have SL := Sl.sub1 (t := a) (u := a7) TD.out.bv.sl hla TD.out.le
  obtain ⟨A7, hA7⟩ : ∃ x, (if cv = a then Av else Option.map (fun x => x.add a) Av) = x := ⟨_, rfl⟩
  rw [hA7] at SL
  obtain ⟨sub, hsub⟩ : ∃ s, (l.drop a).take (a7 - a) = s := ⟨_, rfl⟩
  have hsl : sub.length = a7 - a := by rw [← hsub, List.length_take, List.length_drop]; have := TD.out.le; omega
  rw [show ((u8s l).drop a).take (a7 - a) = u8s sub by rw [← hsub]; simp [u8s, List.map_take, List.map_drop]] at SL
  have kl := sl_conv SL
  have hne : ((toBA bb).toList == (toBA sub).toList) = decide (bb = sub) := toBA_eq O7.out.2 (by rw [← hsub]; exact fun x hx => TD.out.bv.byt x (List.mem_of_mem_drop (List.mem_of_mem_take hx)))
  obtain ⟨qq, hqq⟩ : ∃ q, decide (bb = sub) = q := ⟨_, rfl⟩
  rw [hqq] at hne
  have HQQ := hid hqq
  have HSUB := hid hsub.symm
  have r0 := TD.out.rd.cell 0
  have r1 := TD.out.rd.cell 1
  have r2 := TD.out.rd.cell 2
  have i0 : (0 : Int) ≤ (a : Int) := by omega
  have i1 : (a : Int) ≤ (a7 : Int) := by omega
  have i2 : (a7 : Int) ≤ (cv : Int) := by have := TD.out.le; omega
  simp only [gA, gZ, gC] at r0 r1 r2
  clear SL hsl hqq hsub T O6 DZ
  cases b7
  ·cases q
   ·go_wp2_with fail
    refine wp_region_held_drew (S := (fun w' => w'.cell? ⟨g, 0, none⟩ = some (.slice Av l.length cv) ∧ w'.cell? ⟨g, 1, none⟩ = some (.int .i64 (a7 : Int)) ∧ w'.cell? ⟨g, 2, none⟩ = some (.bool false) ∧ (convert 25 9 (.slice A6 bb.length c6)).run Tryz.prog w' = .ok (.string (toBA bb)) w' ∧ (convert 25 9 (.slice A7 (a7 - a) (cv - a))).run Tryz.prog w' = .ok (.string (toBA sub)) w')) (by kernel_rfl) (by rw [← hWd]; exact ⟨r0, r1, r2, kc, kl⟩) (fun hHeld => ?_)
    rw [← hWd] at hHeld ⊢
    clear hWd
    refine tk 0 (oi := ⟨some 57, _, _, _, _, _⟩) rfl ?_
    refine tk 1 (oi := ⟨some 58, _, _, _, _, _⟩) rfl ?_
    refine tk 2 (oi := ⟨some 59, _, _, _, _, _⟩) rfl ?_
    refine tk 3 (oi := ⟨some 60, _, _, _, _, _⟩) rfl ?_
    refine tk 4 (oi := ⟨some 61, _, _, _, _, _⟩) rfl ?_
    refine tk 5 (oi := ⟨some 62, _, _, _, _, _⟩) rfl ?_
    refine tk 6 (oi := ⟨some 63, _, _, _, _, _⟩) rfl ?_
    refine tk 7 (oi := ⟨some 64, _, _, _, _, _⟩) rfl ?_
    refine tk 8 (oi := ⟨some 65, _, _, _, _, _⟩) rfl ?_
    refine sk 9 (oi := ⟨some 66, _, _, _, _, _⟩) rfl ?_
    refine sk 10 (oi := ⟨some 67, _, _, _, _, _⟩) rfl ?_
    refine sk 11 (oi := ⟨some 68, _, _, _, _, _⟩) rfl ?_
    refine sk 12 (oi := ⟨some 69, _, _, _, _, _⟩) rfl ?_
    refine sk 13 (oi := ⟨some 70, _, _, _, _, _⟩) rfl ?_
    refine sk 14 (oi := ⟨some 71, _, _, _, _, _⟩) rfl ?_
    refine sk 15 (oi := ⟨some 72, _, _, _, _, _⟩) rfl ?_
    refine sk 16 (oi := ⟨some 73, _, _, _, _, _⟩) rfl ?_
    refine sk 17 (oi := ⟨some 74, _, _, _, _, _⟩) rfl ?_
    refine sk 18 (oi := ⟨some 75, _, _, _, _, _⟩) rfl ?_
    refine sk 19 (oi := ⟨some 76, _, _, _, _, _⟩) rfl ?_
    refine sk 20 (oi := ⟨some 77, _, _, _, _, _⟩) rfl ?_
    refine sk 21 (oi := ⟨some 78, _, _, _, _, _⟩) rfl ?_
    refine sk 22 (oi := ⟨some 79, _, _, _, _, _⟩) rfl ?_
    refine tk 23 (oi := ⟨some 80, _, _, _, _, _⟩) rfl ?_
    refine dn ?_
    clear r0 r1 r2 kc kl hHeld
    have zc0 := TD.out.rc.cell 0
    have zf0 := TD.out.rc.free 0
    have zc1 := TD.out.rc.cell 1
    have zf1 := TD.out.rc.free 1
    have zc2 := TD.out.rc.cell 2
    have zf2 := TD.out.rc.free 2
    have zc3 := TD.out.rc.cell 3
    have zf3 := TD.out.rc.free 3
    have zc4 := TD.out.rc.cell 4
    have zf4 := TD.out.rc.free 4
    have zc5 := TD.out.rc.cell 5
    have zf5 := TD.out.rc.free 5
    have zc6 := TD.out.rc.cell 6
    have zf6 := TD.out.rc.free 6
    have zc7 := TD.out.rc.cell 7
    have zf7 := TD.out.rc.free 7
    have zc8 := TD.out.rc.cell 8
    have zf8 := TD.out.rc.free 8
    simp only [gA, gZ, gC] at zc0 zc1 zc2 zc3 zc4 zc5 zc6 zc7 zc8
    go_wp2_with fail
    refine bodyPost_ret (results_crt rfl _ (fill9 Wd gr (.int .i64 0) (.int .i64 0) (.int .i64 0) (.int .i64 0) (.int .i64 0) (.slice none 0 0) (.bool false) (.int .i64 0) (.int .i64 0)) gr 27 _ (0, 0) _ rfl (fill9_blk TD.out.rc (.int .i64 0) (.int .i64 0) (.int .i64 0) (.int .i64 0) (.int .i64 0) (.slice none 0 0) (.bool false) (.int .i64 0) (.int .i64 0)) Tryz.underlying27 rfl Tryz.size27) rfl ?_
    exact TD.out.fin ⟨0, 0, 0, 0, 0, [], false, 0, 0⟩ (.slice none 0 0) false (BV.nil _ _) (Nat.zero_le _) (fun h => by cases h) hla (.int .i64 0) (.int .i64 0) (.int .i64 0) (.int .i64 0) (.int .i64 0) (.slice none 0 0) (.bool false) (.int .i64 0) (.int .i64 0)
   ·cases qq
    ·go_wp2_with fail
     refine wp_region_held_drew (S := (fun w' => w'.cell? ⟨g, 0, none⟩ = some (.slice Av l.length cv) ∧ w'.cell? ⟨g, 1, none⟩ = some (.int .i64 (a7 : Int)) ∧ w'.cell? ⟨g, 2, none⟩ = some (.bool false) ∧ (convert 25 9 (.slice A6 bb.length c6)).run Tryz.prog w' = .ok (.string (toBA bb)) w' ∧ (convert 25 9 (.slice A7 (a7 - a) (cv - a))).run Tryz.prog w' = .ok (.string (toBA sub)) w')) (by kernel_rfl) (by rw [← hWd]; exact ⟨r0, r1, r2, kc, kl⟩) (fun hHeld => ?_)
     rw [← hWd] at hHeld ⊢
     clear hWd
     refine tk 0 (oi := ⟨some 57, _, _, _, _, _⟩) rfl ?_
     refine tk 1 (oi := ⟨some 58, _, _, _, _, _⟩) rfl ?_
     refine tk 2 (oi := ⟨some 59, _, _, _, _, _⟩) rfl ?_
     refine tk 3 (oi := ⟨some 60, _, _, _, _, _⟩) rfl ?_
     refine tk 4 (oi := ⟨some 61, _, _, _, _, _⟩) rfl ?_
     refine tk 5 (oi := ⟨some 62, _, _, _, _, _⟩) rfl ?_
     refine tk 6 (oi := ⟨some 63, _, _, _, _, _⟩) rfl ?_
     refine tk 7 (oi := ⟨some 64, _, _, _, _, _⟩) rfl ?_
     refine tk 8 (oi := ⟨some 65, _, _, _, _, _⟩) rfl ?_
     refine tk 9 (oi := ⟨some 66, _, _, _, _, _⟩) rfl ?_
     refine tk 10 (oi := ⟨some 67, _, _, _, _, _⟩) rfl ?_
     refine tk 11 (oi := ⟨some 68, _, _, _, _, _⟩) rfl ?_
     refine tk 12 (oi := ⟨some 69, _, _, _, _, _⟩) rfl ?_
     refine tk 13 (oi := ⟨some 70, _, _, _, _, _⟩) rfl ?_
     refine tk 14 (oi := ⟨some 71, _, _, _, _, _⟩) rfl ?_
     refine tk 15 (oi := ⟨some 72, _, _, _, _, _⟩) rfl ?_
     refine tk 16 (oi := ⟨some 73, _, _, _, _, _⟩) rfl ?_
     refine tk 17 (oi := ⟨some 74, _, _, _, _, _⟩) rfl ?_
     refine tk 18 (oi := ⟨some 75, _, _, _, _, _⟩) rfl ?_
     refine tk 19 (oi := ⟨some 76, _, _, _, _, _⟩) rfl ?_
     refine tk 20 (oi := ⟨some 77, _, _, _, _, _⟩) rfl ?_
     refine tk 21 (oi := ⟨some 78, _, _, _, _, _⟩) rfl ?_
     refine tk 22 (oi := ⟨some 79, _, _, _, _, _⟩) rfl ?_
     refine tk 23 (oi := ⟨some 80, _, _, _, _, _⟩) rfl ?_
     refine dn ?_
     clear r0 r1 r2 kc kl hHeld
     have zc0 := TD.out.rc.cell 0
     have zf0 := TD.out.rc.free 0
     have zc1 := TD.out.rc.cell 1
     have zf1 := TD.out.rc.free 1
     have zc2 := TD.out.rc.cell 2
     have zf2 := TD.out.rc.free 2
     have zc3 := TD.out.rc.cell 3
     have zf3 := TD.out.rc.free 3
     have zc4 := TD.out.rc.cell 4
     have zf4 := TD.out.rc.free 4
     have zc5 := TD.out.rc.cell 5
     have zf5 := TD.out.rc.free 5
     have zc6 := TD.out.rc.cell 6
     have zf6 := TD.out.rc.free 6
     have zc7 := TD.out.rc.cell 7
     have zf7 := TD.out.rc.free 7
     have zc8 := TD.out.rc.cell 8
     have zf8 := TD.out.rc.free 8
     simp only [gA, gZ, gC] at zc0 zc1 zc2 zc3 zc4 zc5 zc6 zc7 zc8
     go_wp2_with fail
     refine bodyPost_ret (results_crt rfl _ (fill9 Wd gr (.int .i64 0) (.int .i64 0) (.int .i64 0) (.int .i64 0) (.int .i64 0) (.slice none 0 0) (.bool false) (.int .i64 0) (.int .i64 0)) gr 27 _ (0, 0) _ rfl (fill9_blk TD.out.rc (.int .i64 0) (.int .i64 0) (.int .i64 0) (.int .i64 0) (.int .i64 0) (.slice none 0 0) (.bool false) (.int .i64 0) (.int .i64 0)) Tryz.underlying27 rfl Tryz.size27) rfl ?_
     exact TD.out.fin ⟨0, 0, 0, 0, 0, [], false, 0, 0⟩ (.slice none 0 0) false (BV.nil _ _) (Nat.zero_le _) (fun h => by cases h) hla (.int .i64 0) (.int .i64 0) (.int .i64 0) (.int .i64 0) (.int .i64 0) (.slice none 0 0) (.bool false) (.int .i64 0) (.int .i64 0)
    ·go_wp2_with fail
     refine wp_region_held_drew (S := (fun w' => w'.cell? ⟨g, 0, none⟩ = some (.slice Av l.length cv) ∧ w'.cell? ⟨g, 1, none⟩ = some (.int .i64 (a7 : Int)) ∧ w'.cell? ⟨g, 2, none⟩ = some (.bool false) ∧ (convert 25 9 (.slice A6 bb.length c6)).run Tryz.prog w' = .ok (.string (toBA bb)) w' ∧ (convert 25 9 (.slice A7 (a7 - a) (cv - a))).run Tryz.prog w' = .ok (.string (toBA sub)) w')) (by kernel_rfl) (by rw [← hWd]; exact ⟨r0, r1, r2, kc, kl⟩) (fun hHeld => ?_)
     rw [← hWd] at hHeld ⊢
     clear hWd
     refine tk 0 (oi := ⟨some 57, _, _, _, _, _⟩) rfl ?_
     refine tk 1 (oi := ⟨some 58, _, _, _, _, _⟩) rfl ?_
     refine tk 2 (oi := ⟨some 59, _, _, _, _, _⟩) rfl ?_
     refine tk 3 (oi := ⟨some 60, _, _, _, _, _⟩) rfl ?_
     refine tk 4 (oi := ⟨some 61, _, _, _, _, _⟩) rfl ?_
     refine tk 5 (oi := ⟨some 62, _, _, _, _, _⟩) rfl ?_
     refine tk 6 (oi := ⟨some 63, _, _, _, _, _⟩) rfl ?_
     refine tk 7 (oi := ⟨some 64, _, _, _, _, _⟩) rfl ?_
     refine tk 8 (oi := ⟨some 65, _, _, _, _, _⟩) rfl ?_
     refine tk 9 (oi := ⟨some 66, _, _, _, _, _⟩) rfl ?_
     refine tk 10 (oi := ⟨some 67, _, _, _, _, _⟩) rfl ?_
     refine tk 11 (oi := ⟨some 68, _, _, _, _, _⟩) rfl ?_
     refine tk 12 (oi := ⟨some 69, _, _, _, _, _⟩) rfl ?_
     refine tk 13 (oi := ⟨some 70, _, _, _, _, _⟩) rfl ?_
     refine tk 14 (oi := ⟨some 71, _, _, _, _, _⟩) rfl ?_
     refine tk 15 (oi := ⟨some 72, _, _, _, _, _⟩) rfl ?_
     refine tk 16 (oi := ⟨some 73, _, _, _, _, _⟩) rfl ?_
     refine tk 17 (oi := ⟨some 74, _, _, _, _, _⟩) rfl ?_
     refine tk 18 (oi := ⟨some 75, _, _, _, _, _⟩) rfl ?_
     refine tk 19 (oi := ⟨some 76, _, _, _, _, _⟩) rfl ?_
     refine tk 20 (oi := ⟨some 77, _, _, _, _, _⟩) rfl ?_
     refine tk 21 (oi := ⟨some 78, _, _, _, _, _⟩) rfl ?_
     refine tk 22 (oi := ⟨some 79, _, _, _, _, _⟩) rfl ?_
     refine tk 23 (oi := ⟨some 80, _, _, _, _, _⟩) rfl ?_
     refine dn ?_
     clear r0 r1 r2 kc kl hHeld
     have zc0 := TD.out.rc.cell 0
     have zf0 := TD.out.rc.free 0
     have zc1 := TD.out.rc.cell 1
     have zf1 := TD.out.rc.free 1
     have zc2 := TD.out.rc.cell 2
     have zf2 := TD.out.rc.free 2
     have zc3 := TD.out.rc.cell 3
     have zf3 := TD.out.rc.free 3
     have zc4 := TD.out.rc.cell 4
     have zf4 := TD.out.rc.free 4
     have zc5 := TD.out.rc.cell 5
     have zf5 := TD.out.rc.free 5
     have zc6 := TD.out.rc.cell 6
     have zf6 := TD.out.rc.free 6
     have zc7 := TD.out.rc.cell 7
     have zf7 := TD.out.rc.free 7
     have zc8 := TD.out.rc.cell 8
     have zf8 := TD.out.rc.free 8
     simp only [gA, gZ, gC] at zc0 zc1 zc2 zc3 zc4 zc5 zc6 zc7 zc8
     have k0 := TD.out.pb.cell 0
     have k1 := TD.out.pb.cell 1
     have k2 := TD.out.pb.cell 2
     have k3 := TD.out.pb.cell 3
     have k4 := TD.out.pb.cell 4
     have k5 := TD.out.pb.cell 5
     have k6 := TD.out.pb.cell 6
     have k7 := TD.out.pb.cell 7
     have k8 := TD.out.pb.cell 8
     simp only [gA, gZ, gC] at k0 k1 k2 k3 k4 k5 k6 k7 k8
     go_wp2_with fail
     refine bodyPost_ret (results_crt rfl _ (fill9 Wd gr (.int .i64 3) (.int .i64 y1) (.int .i64 y2) (.int .i64 0) (.int .i64 y3) (.slice Ad ld.length cd) (.bool fb) (.int .i64 0) (.int .i64 0)) gr 27 _ (0, 0) _ rfl (fill9_blk TD.out.rc (.int .i64 3) (.int .i64 y1) (.int .i64 y2) (.int .i64 0) (.int .i64 y3) (.slice Ad ld.length cd) (.bool fb) (.int .i64 0) (.int .i64 0)) Tryz.underlying27 rfl Tryz.size27) rfl ?_
     have hyes := HQ.out (by trivial)
     rw [of_decide_eq_true HQQ.out, HSUB.out] at hyes
     have hf := TD.out.fin pp (.slice Ad ld.length cd) true DD.out DL.out (fun _ => ⟨hyes.1, hyes.2.symm⟩) hla (.int .i64 3) (.int .i64 y1) (.int .i64 y2) (.int .i64 0) (.int .i64 y3) (.slice Ad ld.length cd) (.bool fb) (.int .i64 0) (.int .i64 0)
     rw [HP.out] at hf
     exact hf
  ·go_wp2_with fail
   refine wp_region_held_drew (S := (fun w' => w'.cell? ⟨g, 0, none⟩ = some (.slice Av l.length cv) ∧ w'.cell? ⟨g, 1, none⟩ = some (.int .i64 (a7 : Int)) ∧ w'.cell? ⟨g, 2, none⟩ = some (.bool true) ∧ (convert 25 9 (.slice A6 bb.length c6)).run Tryz.prog w' = .ok (.string (toBA bb)) w' ∧ (convert 25 9 (.slice A7 (a7 - a) (cv - a))).run Tryz.prog w' = .ok (.string (toBA sub)) w')) (by kernel_rfl) (by rw [← hWd]; exact ⟨r0, r1, r2, kc, kl⟩) (fun hHeld => ?_)
   rw [← hWd] at hHeld ⊢
   clear hWd
   refine tk 0 (oi := ⟨some 57, _, _, _, _, _⟩) rfl ?_
   refine tk 1 (oi := ⟨some 58, _, _, _, _, _⟩) rfl ?_
   refine tk 2 (oi := ⟨some 59, _, _, _, _, _⟩) rfl ?_
   refine tk 3 (oi := ⟨some 60, _, _, _, _, _⟩) rfl ?_
   refine tk 4 (oi := ⟨some 61, _, _, _, _, _⟩) rfl ?_
   refine sk 5 (oi := ⟨some 62, _, _, _, _, _⟩) rfl ?_
   refine sk 6 (oi := ⟨some 63, _, _, _, _, _⟩) rfl ?_
   refine tk 7 (oi := ⟨some 64, _, _, _, _, _⟩) rfl ?_
   refine tk 8 (oi := ⟨some 65, _, _, _, _, _⟩) rfl ?_
   refine sk 9 (oi := ⟨some 66, _, _, _, _, _⟩) rfl ?_
   refine sk 10 (oi := ⟨some 67, _, _, _, _, _⟩) rfl ?_
   refine sk 11 (oi := ⟨some 68, _, _, _, _, _⟩) rfl ?_
   refine sk 12 (oi := ⟨some 69, _, _, _, _, _⟩) rfl ?_
   refine sk 13 (oi := ⟨some 70, _, _, _, _, _⟩) rfl ?_
   refine sk 14 (oi := ⟨some 71, _, _, _, _, _⟩) rfl ?_
   refine sk 15 (oi := ⟨some 72, _, _, _, _, _⟩) rfl ?_
   refine sk 16 (oi := ⟨some 73, _, _, _, _, _⟩) rfl ?_
   refine sk 17 (oi := ⟨some 74, _, _, _, _, _⟩) rfl ?_
   refine sk 18 (oi := ⟨some 75, _, _, _, _, _⟩) rfl ?_
   refine sk 19 (oi := ⟨some 76, _, _, _, _, _⟩) rfl ?_
   refine sk 20 (oi := ⟨some 77, _, _, _, _, _⟩) rfl ?_
   refine sk 21 (oi := ⟨some 78, _, _, _, _, _⟩) rfl ?_
   refine sk 22 (oi := ⟨some 79, _, _, _, _, _⟩) rfl ?_
   refine tk 23 (oi := ⟨some 80, _, _, _, _, _⟩) rfl ?_
   refine dn ?_
   clear r0 r1 r2 kc kl hHeld
   have zc0 := TD.out.rc.cell 0
   have zf0 := TD.out.rc.free 0
   have zc1 := TD.out.rc.cell 1
   have zf1 := TD.out.rc.free 1
   have zc2 := TD.out.rc.cell 2
   have zf2 := TD.out.rc.free 2
   have zc3 := TD.out.rc.cell 3
   have zf3 := TD.out.rc.free 3
   have zc4 := TD.out.rc.cell 4
   have zf4 := TD.out.rc.free 4
   have zc5 := TD.out.rc.cell 5
   have zf5 := TD.out.rc.free 5
   have zc6 := TD.out.rc.cell 6
   have zf6 := TD.out.rc.free 6
   have zc7 := TD.out.rc.cell 7
   have zf7 := TD.out.rc.free 7
   have zc8 := TD.out.rc.cell 8
   have zf8 := TD.out.rc.free 8
   simp only [gA, gZ, gC] at zc0 zc1 zc2 zc3 zc4 zc5 zc6 zc7 zc8
   go_wp2_with fail
   refine bodyPost_ret (results_crt rfl _ (fill9 Wd gr (.int .i64 0) (.int .i64 0) (.int .i64 0) (.int .i64 0) (.int .i64 0) (.slice none 0 0) (.bool false) (.int .i64 0) (.int .i64 0)) gr 27 _ (0, 0) _ rfl (fill9_blk TD.out.rc (.int .i64 0) (.int .i64 0) (.int .i64 0) (.int .i64 0) (.int .i64 0) (.slice none 0 0) (.bool false) (.int .i64 0) (.int .i64 0)) Tryz.underlying27 rfl Tryz.size27) rfl ?_
   exact TD.out.fin ⟨0, 0, 0, 0, 0, [], false, 0, 0⟩ (.slice none 0 0) false (BV.nil _ _) (Nat.zero_le _) (fun h => by cases h) hla (.int .i64 0) (.int .i64 0) (.int .i64 0) (.int .i64 0) (.int .i64 0) (.slice none 0 0) (.bool false) (.int .i64 0) (.int .i64 0)
 ·subst hx
  go_wp2_with fail
  obtain ⟨w4, hw⟩ := lx (v4.setCell ⟨gp, 2, none⟩ (.int .i64 y2))
  rw [← hw]
  have T4 : Hid (TP w w4 g gp gr (.slice Av l.length cv) l a4 b4 #[.int .i64 4, .int .i64 y1, .int .i64 y2, .int .i64 0, .int .i64 0, .slice none 0 0, .bool false, .int .i64 0, .int .i64 0]) := hid (by rw [hw]; have := U4.out.put 2 (.int .i64 y2); simpa using this)
  clear hw e4 f4 U4
  refine (rnumber_any w4 _ g _ l a4 b4 T4.out.rd T4.out.bv (fun j hj => hj.2) T4.out.le hl).mono ?_
  rintro e v5 ⟨y3, rfl, a5, b5, hr, hle5, hle_, hf⟩
  have U5 := hid (T4.out.call hr hle_ hf)
  clear hr hf hle_
  have e5 := U5.out.pb.cell 3
  have f5 := U5.out.pb.free 3
  simp only [gA, gZ, gC] at e5
  go_wp2_with fail
  obtain ⟨w5, hw⟩ := lx (v5.setCell ⟨gp, 3, none⟩ (.int .i64 y3))
  rw [← hw]
  have T5 : Hid (TP w w5 g gp gr (.slice Av l.length cv) l a5 b5 #[.int .i64 4, .int .i64 y1, .int .i64 y2, .int .i64 y3, .int .i64 0, .slice none 0 0, .bool false, .int .i64 0, .int .i64 0]) := hid (by rw [hw]; have := U5.out.put 3 (.int .i64 y3); simpa using this)
  clear hw e5 f5 U5
  refine (rnumber_any w5 _ g _ l a5 b5 T5.out.rd T5.out.bv (fun j hj => hj.2) T5.out.le hl).mono ?_
  rintro e v6 ⟨y4, rfl, a6, b6, hr, hle6, hle_, hf⟩
  have U6 := hid (T5.out.call hr hle_ hf)
  clear hr hf hle_
  have e6 := U6.out.pb.cell 7
  have f6 := U6.out.pb.free 7
  simp only [gA, gZ, gC] at e6
  go_wp2_with fail
  obtain ⟨w6, hw⟩ := lx (v6.setCell ⟨gp, 7, none⟩ (.int .i64 y4))
  rw [← hw]
  have T6 : Hid (TP w w6 g gp gr (.slice Av l.length cv) l a6 b6 #[.int .i64 4, .int .i64 y1, .int .i64 y2, .int .i64 y3, .int .i64 0, .slice none 0 0, .bool false, .int .i64 y4, .int .i64 0]) := hid (by rw [hw]; have := U6.out.put 7 (.int .i64 y4); simpa using this)
  clear hw e6 f6 U6
  refine (rnumber_any w6 _ g _ l a6 b6 T6.out.rd T6.out.bv (fun j hj => hj.2) T6.out.le hl).mono ?_
  rintro e v7 ⟨y5, rfl, a7, b7, hr, hle7, hle_, hf⟩
  have U7 := hid (T6.out.call hr hle_ hf)
  clear hr hf hle_
  have e7 := U7.out.pb.cell 8
  have f7 := U7.out.pb.free 8
  simp only [gA, gZ, gC] at e7
  have kk0 := U7.out.pb.cell 0
  have kk1 := U7.out.pb.cell 1
  have kk2 := U7.out.pb.cell 2
  have kk3 := U7.out.pb.cell 3
  have kk4 := U7.out.pb.cell 4
  have kk5 := U7.out.pb.cell 5
  have kk6 := U7.out.pb.cell 6
  have kk7 := U7.out.pb.cell 7
  simp only [gA, gZ, gC] at kk0 kk1 kk2 kk3 kk4 kk5 kk6 kk7
  go_wp2_with fail
  obtain ⟨w7, hw⟩ := lx (v7.setCell ⟨gp, 8, none⟩ (.int .i64 y5))
  rw [← hw]
  have T7 : Hid (TP w w7 g gp gr (.slice Av l.length cv) l a7 b7 #[.int .i64 4, .int .i64 y1, .int .i64 y2, .int .i64 y3, .int .i64 0, .slice none 0 0, .bool false, .int .i64 y4, .int .i64 y5]) := hid (by rw [hw]; have := U7.out.put 8 (.int .i64 y5); simpa using this)
  clear hw e7 f7 U7
  obtain ⟨pp, hpp⟩ : ∃ pp : Pk, pp = ⟨4, y1, y2, y3, 0, [], false, y4, y5⟩ := ⟨_, rfl⟩
  have hla : a ≤ a7 := by omega
  refine (plain_any w7 ⟨4, y1, y2, y3, 0, [], false, y4, y5⟩ _ (.slice none 0 0) (BV.nil _ (fun _ => True)) (by simp)).mono ?_
  rintro e W ⟨v6, q, bb, rfl, ho, hq, hb⟩
  rw [← hpp] at hq
  have T := hid (T7.out.call (Blk.below T7.out.rd hb) T7.out.le (Frm.of_below hb))
  have DZ : Hid (BV W (fun j => w.heap.size ≤ j ∧ j ≠ gr) (.slice none 0 0) pp.data) := hid (by rw [hpp]; exact BV.nil _ _)
  have DL : Hid (pp.data.length ≤ l.length) := hid (by rw [hpp]; exact Nat.zero_le _)
  have HQ := hid hq
  have O6 := hid ho
  obtain ⟨A6, c6, rfl⟩ := own_slice' ho.1
  have HP := hid hpp
  clear hb ho hq hpp
  obtain ⟨Wd, hWd⟩ := lx (W.drew)
  have TD : Hid (TP w Wd g gp gr (.slice Av l.length cv) l a7 b7 #[.int .i64 4, .int .i64 y1, .int .i64 y2, .int .i64 y3, .int .i64 0, .slice none 0 0, .bool false, .int .i64 y4, .int .i64 y5]) := hid (by rw [hWd]; exact T.out.call T.out.rd.drew T.out.le (Frm.refl _ _).drew)
  have DD : Hid (BV Wd (fun j => w.heap.size ≤ j ∧ j ≠ gr) (.slice none 0 0) pp.data) := hid (by rw [hWd]; exact DZ.out)
  have O7 : Hid (BO w7.heap.size Wd (.slice A6 bb.length c6) bb) := hid (by rw [hWd]; exact O6.out)
  have kc := sl_conv (Sl.of_own O7.out.1 (u8s_one _))
  have SL := Sl.sub1 (t := a) (u := a7) TD.out.bv.sl hla TD.out.le
  obtain ⟨A7, hA7⟩ : ∃ x, (if cv = a then Av else Option.map (fun x => x.add a) Av) = x := ⟨_, rfl⟩
  rw [hA7] at SL
  obtain ⟨sub, hsub⟩ : ∃ s, (l.drop a).take (a7 - a) = s := ⟨_, rfl⟩
  have hsl : sub.length = a7 - a := by rw [← hsub, List.length_take, List.length_drop]; have := TD.out.le; omega
  rw [show ((u8s l).drop a).take (a7 - a) = u8s sub by rw [← hsub]; simp [u8s, List.map_take, List.map_drop]] at SL
  have kl := sl_conv SL
  have hne : ((toBA bb).toList == (toBA sub).toList) = decide (bb = sub) := toBA_eq O7.out.2 (by rw [← hsub]; exact fun x hx => TD.out.bv.byt x (List.mem_of_mem_drop (List.mem_of_mem_take hx)))
  obtain ⟨qq, hqq⟩ : ∃ q, decide (bb = sub) = q := ⟨_, rfl⟩
  rw [hqq] at hne
  have HQQ := hid hqq
  have HSUB := hid hsub.symm
  have r0 := TD.out.rd.cell 0
  have r1 := TD.out.rd.cell 1
  have r2 := TD.out.rd.cell 2
  have i0 : (0 : Int) ≤ (a : Int) := by omega
  have i1 : (a : Int) ≤ (a7 : Int) := by omega
  have i2 : (a7 : Int) ≤ (cv : Int) := by have := TD.out.le; omega
  simp only [gA, gZ, gC] at r0 r1 r2
  clear SL hsl hqq hsub T O6 DZ
  cases b7
  ·cases q
   ·go_wp2_with fail
    refine wp_region_held_drew (S := (fun w' => w'.cell? ⟨g, 0, none⟩ = some (.slice Av l.length cv) ∧ w'.cell? ⟨g, 1, none⟩ = some (.int .i64 (a7 : Int)) ∧ w'.cell? ⟨g, 2, none⟩ = some (.bool false) ∧ (convert 25 9 (.slice A6 bb.length c6)).run Tryz.prog w' = .ok (.string (toBA bb)) w' ∧ (convert 25 9 (.slice A7 (a7 - a) (cv - a))).run Tryz.prog w' = .ok (.string (toBA sub)) w')) (by kernel_rfl) (by rw [← hWd]; exact ⟨r0, r1, r2, kc, kl⟩) (fun hHeld => ?_)
    rw [← hWd] at hHeld ⊢
    clear hWd
    refine tk 0 (oi := ⟨some 57, _, _, _, _, _⟩) rfl ?_
    refine tk 1 (oi := ⟨some 58, _, _, _, _, _⟩) rfl ?_
    refine tk 2 (oi := ⟨some 59, _, _, _, _, _⟩) rfl ?_
    refine tk 3 (oi := ⟨some 60, _, _, _, _, _⟩) rfl ?_
    refine tk 4 (oi := ⟨some 61, _, _, _, _, _⟩) rfl ?_
    refine tk 5 (oi := ⟨some 62, _, _, _, _, _⟩) rfl ?_
    refine tk 6 (oi := ⟨some 63, _, _, _, _, _⟩) rfl ?_
    refine tk 7 (oi := ⟨some 64, _, _, _, _, _⟩) rfl ?_
    refine tk 8 (oi := ⟨some 65, _, _, _, _, _⟩) rfl ?_
    refine sk 9 (oi := ⟨some 66, _, _, _, _, _⟩) rfl ?_
    refine sk 10 (oi := ⟨some 67, _, _, _, _, _⟩) rfl ?_
    refine sk 11 (oi := ⟨some 68, _, _, _, _, _⟩) rfl ?_
    refine sk 12 (oi := ⟨some 69, _, _, _, _, _⟩) rfl ?_
    refine sk 13 (oi := ⟨some 70, _, _, _, _, _⟩) rfl ?_
    refine sk 14 (oi := ⟨some 71, _, _, _, _, _⟩) rfl ?_
    refine sk 15 (oi := ⟨some 72, _, _, _, _, _⟩) rfl ?_
    refine sk 16 (oi := ⟨some 73, _, _, _, _, _⟩) rfl ?_
    refine sk 17 (oi := ⟨some 74, _, _, _, _, _⟩) rfl ?_
    refine sk 18 (oi := ⟨some 75, _, _, _, _, _⟩) rfl ?_
    refine sk 19 (oi := ⟨some 76, _, _, _, _, _⟩) rfl ?_
    refine sk 20 (oi := ⟨some 77, _, _, _, _, _⟩) rfl ?_
    refine sk 21 (oi := ⟨some 78, _, _, _, _, _⟩) rfl ?_
    refine sk 22 (oi := ⟨some 79, _, _, _, _, _⟩) rfl ?_
    refine tk 23 (oi := ⟨some 80, _, _, _, _, _⟩) rfl ?_
    refine dn ?_
    clear r0 r1 r2 kc kl hHeld
    have zc0 := TD.out.rc.cell 0
    have zf0 := TD.out.rc.free 0
    have zc1 := TD.out.rc.cell 1
    have zf1 := TD.out.rc.free 1
    have zc2 := TD.out.rc.cell 2
    have zf2 := TD.out.rc.free 2
    have zc3 := TD.out.rc.cell 3
    have zf3 := TD.out.rc.free 3
    have zc4 := TD.out.rc.cell 4
    have zf4 := TD.out.rc.free 4
    have zc5 := TD.out.rc.cell 5
    have zf5 := TD.out.rc.free 5
    have zc6 := TD.out.rc.cell 6
    have zf6 := TD.out.rc.free 6
    have zc7 := TD.out.rc.cell 7
    have zf7 := TD.out.rc.free 7
    have zc8 := TD.out.rc.cell 8
    have zf8 := TD.out.rc.free 8
    simp only [gA, gZ, gC] at zc0 zc1 zc2 zc3 zc4 zc5 zc6 zc7 zc8
    go_wp2_with fail
    refine bodyPost_ret (results_crt rfl _ (fill9 Wd gr (.int .i64 0) (.int .i64 0) (.int .i64 0) (.int .i64 0) (.int .i64 0) (.slice none 0 0) (.bool false) (.int .i64 0) (.int .i64 0)) gr 27 _ (0, 0) _ rfl (fill9_blk TD.out.rc (.int .i64 0) (.int .i64 0) (.int .i64 0) (.int .i64 0) (.int .i64 0) (.slice none 0 0) (.bool false) (.int .i64 0) (.int .i64 0)) Tryz.underlying27 rfl Tryz.size27) rfl ?_
    exact TD.out.fin ⟨0, 0, 0, 0, 0, [], false, 0, 0⟩ (.slice none 0 0) false (BV.nil _ _) (Nat.zero_le _) (fun h => by cases h) hla (.int .i64 0) (.int .i64 0) (.int .i64 0) (.int .i64 0) (.int .i64 0) (.slice none 0 0) (.bool false) (.int .i64 0) (.int .i64 0)
   ·cases qq
    ·go_wp2_with fail
     refine wp_region_held_drew (S := (fun w' => w'.cell? ⟨g, 0, none⟩ = some (.slice Av l.length cv) ∧ w'.cell? ⟨g, 1, none⟩ = some (.int .i64 (a7 : Int)) ∧ w'.cell? ⟨g, 2, none⟩ = some (.bool false) ∧ (convert 25 9 (.slice A6 bb.length c6)).run Tryz.prog w' = .ok (.string (toBA bb)) w' ∧ (convert 25 9 (.slice A7 (a7 - a) (cv - a))).run Tryz.prog w' = .ok (.string (toBA sub)) w')) (by kernel_rfl) (by rw [← hWd]; exact ⟨r0, r1, r2, kc, kl⟩) (fun hHeld => ?_)
     rw [← hWd] at hHeld ⊢
     clear hWd
     refine tk 0 (oi := ⟨some 57, _, _, _, _, _⟩) rfl ?_
     refine tk 1 (oi := ⟨some 58, _, _, _, _, _⟩) rfl ?_
     refine tk 2 (oi := ⟨some 59, _, _, _, _, _⟩) rfl ?_
     refine tk 3 (oi := ⟨some 60, _, _, _, _, _⟩) rfl ?_
     refine tk 4 (oi := ⟨some 61, _, _, _, _, _⟩) rfl ?_
     refine tk 5 (oi := ⟨some 62, _, _, _, _, _⟩) rfl ?_
     refine tk 6 (oi := ⟨some 63, _, _, _, _, _⟩) rfl ?_
     refine tk 7 (oi := ⟨some 64, _, _, _, _, _⟩) rfl ?_
     refine tk 8 (oi := ⟨some 65, _, _, _, _, _⟩) rfl ?_
     refine tk 9 (oi := ⟨some 66, _, _, _, _, _⟩) rfl ?_
     refine tk 10 (oi := ⟨some 67, _, _, _, _, _⟩) rfl ?_
     refine tk 11 (oi := ⟨some 68, _, _, _, _, _⟩) rfl ?_
     refine tk 12 (oi := ⟨some 69, _, _, _, _, _⟩) rfl ?_
     refine tk 13 (oi := ⟨some 70, _, _, _, _, _⟩) rfl ?_
     refine tk 14 (oi := ⟨some 71, _, _, _, _, _⟩) rfl ?_
     refine tk 15 (oi := ⟨some 72, _, _, _, _, _⟩) rfl ?_
     refine tk 16 (oi := ⟨some 73, _, _, _, _, _⟩) rfl ?_
     refine tk 17 (oi := ⟨some 74, _, _, _, _, _⟩) rfl ?_
     refine tk 18 (oi := ⟨some 75, _, _, _, _, _⟩) rfl ?_
     refine tk 19 (oi := ⟨some 76, _, _, _, _, _⟩) rfl ?_
     refine tk 20 (oi := ⟨some 77, _, _, _, _, _⟩) rfl ?_
     refine tk 21 (oi := ⟨some 78, _, _, _, _, _⟩) rfl ?_
     refine tk 22 (oi := ⟨some 79, _, _, _, _, _⟩) rfl ?_
     refine tk 23 (oi := ⟨some 80, _, _, _, _, _⟩) rfl ?_
     refine dn ?_
     clear r0 r1 r2 kc kl hHeld
     have zc0 := TD.out.rc.cell 0
     have zf0 := TD.out.rc.free 0
     have zc1 := TD.out.rc.cell 1
     have zf1 := TD.out.rc.free 1
     have zc2 := TD.out.rc.cell 2
     have zf2 := TD.out.rc.free 2
     have zc3 := TD.out.rc.cell 3
     have zf3 := TD.out.rc.free 3
     have zc4 := TD.out.rc.cell 4
     have zf4 := TD.out.rc.free 4
     have zc5 := TD.out.rc.cell 5
     have zf5 := TD.out.rc.free 5
     have zc6 := TD.out.rc.cell 6
     have zf6 := TD.out.rc.free 6
     have zc7 := TD.out.rc.cell 7
     have zf7 := TD.out.rc.free 7
     have zc8 := TD.out.rc.cell 8
     have zf8 := TD.out.rc.free 8
     simp only [gA, gZ, gC] at zc0 zc1 zc2 zc3 zc4 zc5 zc6 zc7 zc8
     go_wp2_with fail
     refine bodyPost_ret (results_crt rfl _ (fill9 Wd gr (.int .i64 0) (.int .i64 0) (.int .i64 0) (.int .i64 0) (.int .i64 0) (.slice none 0 0) (.bool false) (.int .i64 0) (.int .i64 0)) gr 27 _ (0, 0) _ rfl (fill9_blk TD.out.rc (.int .i64 0) (.int .i64 0) (.int .i64 0) (.int .i64 0) (.int .i64 0) (.slice none 0 0) (.bool false) (.int .i64 0) (.int .i64 0)) Tryz.underlying27 rfl Tryz.size27) rfl ?_
     exact TD.out.fin ⟨0, 0, 0, 0, 0, [], false, 0, 0⟩ (.slice none 0 0) false (BV.nil _ _) (Nat.zero_le _) (fun h => by cases h) hla (.int .i64 0) (.int .i64 0) (.int .i64 0) (.int .i64 0) (.int .i64 0) (.slice none 0 0) (.bool false) (.int .i64 0) (.int .i64 0)
    ·go_wp2_with fail
     refine wp_region_held_drew (S := (fun w' => w'.cell? ⟨g, 0, none⟩ = some (.slice Av l.length cv) ∧ w'.cell? ⟨g, 1, none⟩ = some (.int .i64 (a7 : Int)) ∧ w'.cell? ⟨g, 2, none⟩ = some (.bool false) ∧ (convert 25 9 (.slice A6 bb.length c6)).run Tryz.prog w' = .ok (.string (toBA bb)) w' ∧ (convert 25 9 (.slice A7 (a7 - a) (cv - a))).run Tryz.prog w' = .ok (.string (toBA sub)) w')) (by kernel_rfl) (by rw [← hWd]; exact ⟨r0, r1, r2, kc, kl⟩) (fun hHeld => ?_)
     rw [← hWd] at hHeld ⊢
     clear hWd
     refine tk 0 (oi := ⟨some 57, _, _, _, _, _⟩) rfl ?_
     refine tk 1 (oi := ⟨some 58, _, _, _, _, _⟩) rfl ?_
     refine tk 2 (oi := ⟨some 59, _, _, _, _, _⟩) rfl ?_
     refine tk 3 (oi := ⟨some 60, _, _, _, _, _⟩) rfl ?_
     refine tk 4 (oi := ⟨some 61, _, _, _, _, _⟩) rfl ?_
     refine tk 5 (oi := ⟨some 62, _, _, _, _, _⟩) rfl ?_
     refine tk 6 (oi := ⟨some 63, _, _, _, _, _⟩) rfl ?_
     refine tk 7 (oi := ⟨some 64, _, _, _, _, _⟩) rfl ?_
     refine tk 8 (oi := ⟨some 65, _, _, _, _, _⟩) rfl ?_
     refine tk 9 (oi := ⟨some 66, _, _, _, _, _⟩) rfl ?_
     refine tk 10 (oi := ⟨some 67, _, _, _, _, _⟩) rfl ?_
     refine tk 11 (oi := ⟨some 68, _, _, _, _, _⟩) rfl ?_
     refine tk 12 (oi := ⟨some 69, _, _, _, _, _⟩) rfl ?_
     refine tk 13 (oi := ⟨some 70, _, _, _, _, _⟩) rfl ?_
     refine tk 14 (oi := ⟨some 71, _, _, _, _, _⟩) rfl ?_
     refine tk 15 (oi := ⟨some 72, _, _, _, _, _⟩) rfl ?_
     refine tk 16 (oi := ⟨some 73, _, _, _, _, _⟩) rfl ?_
     refine tk 17 (oi := ⟨some 74, _, _, _, _, _⟩) rfl ?_
     refine tk 18 (oi := ⟨some 75, _, _, _, _, _⟩) rfl ?_
     refine tk 19 (oi := ⟨some 76, _, _, _, _, _⟩) rfl ?_
     refine tk 20 (oi := ⟨some 77, _, _, _, _, _⟩) rfl ?_
     refine tk 21 (oi := ⟨some 78, _, _, _, _, _⟩) rfl ?_
     refine tk 22 (oi := ⟨some 79, _, _, _, _, _⟩) rfl ?_
     refine tk 23 (oi := ⟨some 80, _, _, _, _, _⟩) rfl ?_
     refine dn ?_
     clear r0 r1 r2 kc kl hHeld
     have zc0 := TD.out.rc.cell 0
     have zf0 := TD.out.rc.free 0
     have zc1 := TD.out.rc.cell 1
     have zf1 := TD.out.rc.free 1
     have zc2 := TD.out.rc.cell 2
     have zf2 := TD.out.rc.free 2
     have zc3 := TD.out.rc.cell 3
     have zf3 := TD.out.rc.free 3
     have zc4 := TD.out.rc.cell 4
     have zf4 := TD.out.rc.free 4
     have zc5 := TD.out.rc.cell 5
     have zf5 := TD.out.rc.free 5
     have zc6 := TD.out.rc.cell 6
     have zf6 := TD.out.rc.free 6
     have zc7 := TD.out.rc.cell 7
     have zf7 := TD.out.rc.free 7
     have zc8 := TD.out.rc.cell 8
     have zf8 := TD.out.rc.free 8
     simp only [gA, gZ, gC] at zc0 zc1 zc2 zc3 zc4 zc5 zc6 zc7 zc8
     have k0 := TD.out.pb.cell 0
     have k1 := TD.out.pb.cell 1
     have k2 := TD.out.pb.cell 2
     have k3 := TD.out.pb.cell 3
     have k4 := TD.out.pb.cell 4
     have k5 := TD.out.pb.cell 5
     have k6 := TD.out.pb.cell 6
     have k7 := TD.out.pb.cell 7
     have k8 := TD.out.pb.cell 8
     simp only [gA, gZ, gC] at k0 k1 k2 k3 k4 k5 k6 k7 k8
     go_wp2_with fail
     refine bodyPost_ret (results_crt rfl _ (fill9 Wd gr (.int .i64 4) (.int .i64 y1) (.int .i64 y2) (.int .i64 y3) (.int .i64 0) (.slice none 0 0) (.bool false) (.int .i64 y4) (.int .i64 y5)) gr 27 _ (0, 0) _ rfl (fill9_blk TD.out.rc (.int .i64 4) (.int .i64 y1) (.int .i64 y2) (.int .i64 y3) (.int .i64 0) (.slice none 0 0) (.bool false) (.int .i64 y4) (.int .i64 y5)) Tryz.underlying27 rfl Tryz.size27) rfl ?_
     have hyes := HQ.out (by trivial)
     rw [of_decide_eq_true HQQ.out, HSUB.out] at hyes
     have hf := TD.out.fin pp (.slice none 0 0) true DD.out DL.out (fun _ => ⟨hyes.1, hyes.2.symm⟩) hla (.int .i64 4) (.int .i64 y1) (.int .i64 y2) (.int .i64 y3) (.int .i64 0) (.slice none 0 0) (.bool false) (.int .i64 y4) (.int .i64 y5)
     rw [HP.out] at hf
     exact hf
  ·go_wp2_with fail
   refine wp_region_held_drew (S := (fun w' => w'.cell? ⟨g, 0, none⟩ = some (.slice Av l.length cv) ∧ w'.cell? ⟨g, 1, none⟩ = some (.int .i64 (a7 : Int)) ∧ w'.cell? ⟨g, 2, none⟩ = some (.bool true) ∧ (convert 25 9 (.slice A6 bb.length c6)).run Tryz.prog w' = .ok (.string (toBA bb)) w' ∧ (convert 25 9 (.slice A7 (a7 - a) (cv - a))).run Tryz.prog w' = .ok (.string (toBA sub)) w')) (by kernel_rfl) (by rw [← hWd]; exact ⟨r0, r1, r2, kc, kl⟩) (fun hHeld => ?_)
   rw [← hWd] at hHeld ⊢
   clear hWd
   refine tk 0 (oi := ⟨some 57, _, _, _, _, _⟩) rfl ?_
   refine tk 1 (oi := ⟨some 58, _, _, _, _, _⟩) rfl ?_
   refine tk 2 (oi := ⟨some 59, _, _, _, _, _⟩) rfl ?_
   refine tk 3 (oi := ⟨some 60, _, _, _, _, _⟩) rfl ?_
   refine tk 4 (oi := ⟨some 61, _, _, _, _, _⟩) rfl ?_
   refine sk 5 (oi := ⟨some 62, _, _, _, _, _⟩) rfl ?_
   refine sk 6 (oi := ⟨some 63, _, _, _, _, _⟩) rfl ?_
   refine tk 7 (oi := ⟨some 64, _, _, _, _, _⟩) rfl ?_
   refine tk 8 (oi := ⟨some 65, _, _, _, _, _⟩) rfl ?_
   refine sk 9 (oi := ⟨some 66, _, _, _, _, _⟩) rfl ?_
   refine sk 10 (oi := ⟨some 67, _, _, _, _, _⟩) rfl ?_
   refine sk 11 (oi := ⟨some 68, _, _, _, _, _⟩) rfl ?_
   refine sk 12 (oi := ⟨some 69, _, _, _, _, _⟩) rfl ?_
   refine sk 13 (oi := ⟨some 70, _, _, _, _, _⟩) rfl ?_
   refine sk 14 (oi := ⟨some 71, _, _, _, _, _⟩) rfl ?_
   refine sk 15 (oi := ⟨some 72, _, _, _, _, _⟩) rfl ?_
   refine sk 16 (oi := ⟨some 73, _, _, _, _, _⟩) rfl ?_
   refine sk 17 (oi := ⟨some 74, _, _, _, _, _⟩) rfl ?_
   refine sk 18 (oi := ⟨some 75, _, _, _, _, _⟩) rfl ?_
   refine sk 19 (oi := ⟨some 76, _, _, _, _, _⟩) rfl ?_
   refine sk 20 (oi := ⟨some 77, _, _, _, _, _⟩) rfl ?_
   refine sk 21 (oi := ⟨some 78, _, _, _, _, _⟩) rfl ?_
   refine sk 22 (oi := ⟨some 79, _, _, _, _, _⟩) rfl ?_
   refine tk 23 (oi := ⟨some 80, _, _, _, _, _⟩) rfl ?_
   refine dn ?_
   clear r0 r1 r2 kc kl hHeld
   have zc0 := TD.out.rc.cell 0
   have zf0 := TD.out.rc.free 0
   have zc1 := TD.out.rc.cell 1
   have zf1 := TD.out.rc.free 1
   have zc2 := TD.out.rc.cell 2
   have zf2 := TD.out.rc.free 2
   have zc3 := TD.out.rc.cell 3
   have zf3 := TD.out.rc.free 3
   have zc4 := TD.out.rc.cell 4
   have zf4 := TD.out.rc.free 4
   have zc5 := TD.out.rc.cell 5
   have zf5 := TD.out.rc.free 5
   have zc6 := TD.out.rc.cell 6
   have zf6 := TD.out.rc.free 6
   have zc7 := TD.out.rc.cell 7
   have zf7 := TD.out.rc.free 7
   have zc8 := TD.out.rc.cell 8
   have zf8 := TD.out.rc.free 8
   simp only [gA, gZ, gC] at zc0 zc1 zc2 zc3 zc4 zc5 zc6 zc7 zc8
   go_wp2_with fail
   refine bodyPost_ret (results_crt rfl _ (fill9 Wd gr (.int .i64 0) (.int .i64 0) (.int .i64 0) (.int .i64 0) (.int .i64 0) (.slice none 0 0) (.bool false) (.int .i64 0) (.int .i64 0)) gr 27 _ (0, 0) _ rfl (fill9_blk TD.out.rc (.int .i64 0) (.int .i64 0) (.int .i64 0) (.int .i64 0) (.int .i64 0) (.slice none 0 0) (.bool false) (.int .i64 0) (.int .i64 0)) Tryz.underlying27 rfl Tryz.size27) rfl ?_
   exact TD.out.fin ⟨0, 0, 0, 0, 0, [], false, 0, 0⟩ (.slice none 0 0) false (BV.nil _ _) (Nat.zero_le _) (fun h => by cases h) hla (.int .i64 0) (.int .i64 0) (.int .i64 0) (.int .i64 0) (.int .i64 0) (.slice none 0 0) (.bool false) (.int .i64 0) (.int .i64 0)
 ·have hx2 : (x == 2) = false := by rw [beq_eq_false_iff_ne]; omega
  have hx3 : (x == 3) = false := by rw [beq_eq_false_iff_ne]; omega
  have hx4 : (x == 4) = false := by rw [beq_eq_false_iff_ne]; omega
  go_wp2_with fail
  obtain ⟨w4, hw⟩ := lx (v4.setCell ⟨gp, 2, none⟩ (.int .i64 y2))
  rw [← hw]
  have T4 : Hid (TP w w4 g gp gr (.slice Av l.length cv) l a4 b4 #[.int .i64 x, .int .i64 y1, .int .i64 y2, .int .i64 0, .int .i64 0, .slice none 0 0, .bool false, .int .i64 0, .int .i64 0]) := hid (by rw [hw]; have := U4.out.put 2 (.int .i64 y2); simpa using this)
  clear hw e4 f4 U4
  obtain ⟨pp, hpp⟩ : ∃ pp : Pk, pp = ⟨x, y1, y2, 0, 0, [], false, 0, 0⟩ := ⟨_, rfl⟩
  have hla : a ≤ a4 := by omega
  refine (plain_any w4 ⟨x, y1, y2, 0, 0, [], false, 0, 0⟩ _ (.slice none 0 0) (BV.nil _ (fun _ => True)) (by simp)).mono ?_
  rintro e W ⟨v6, q, bb, rfl, ho, hq, hb⟩
  rw [← hpp] at hq
  have T := hid (T4.out.call (Blk.below T4.out.rd hb) T4.out.le (Frm.of_below hb))
  have DZ : Hid (BV W (fun j => w.heap.size ≤ j ∧ j ≠ gr) (.slice none 0 0) pp.data) := hid (by rw [hpp]; exact BV.nil _ _)
  have DL : Hid (pp.data.length ≤ l.length) := hid (by rw [hpp]; exact Nat.zero_le _)
  have HQ := hid hq
  have O6 := hid ho
  obtain ⟨A6, c6, rfl⟩ := own_slice' ho.1
  have HP := hid hpp
  clear hb ho hq hpp
  obtain ⟨Wd, hWd⟩ := lx (W.drew)
  have TD : Hid (TP w Wd g gp gr (.slice Av l.length cv) l a4 b4 #[.int .i64 x, .int .i64 y1, .int .i64 y2, .int .i64 0, .int .i64 0, .slice none 0 0, .bool false, .int .i64 0, .int .i64 0]) := hid (by rw [hWd]; exact T.out.call T.out.rd.drew T.out.le (Frm.refl _ _).drew)
  have DD : Hid (BV Wd (fun j => w.heap.size ≤ j ∧ j ≠ gr) (.slice none 0 0) pp.data) := hid (by rw [hWd]; exact DZ.out)
  have O7 : Hid (BO w4.heap.size Wd (.slice A6 bb.length c6) bb) := hid (by rw [hWd]; exact O6.out)
  have kc := sl_conv (Sl.of_own O7.out.1 (u8s_one _))
  have SL := Sl.sub1 (t := a) (u := a4) TD.out.bv.sl hla TD.out.le
  obtain ⟨A7, hA7⟩ : ∃ x, (if cv = a then Av else Option.map (fun x => x.add a) Av) = x := ⟨_, rfl⟩
  rw [hA7] at SL
  obtain ⟨sub, hsub⟩ : ∃ s, (l.drop a).take (a4 - a) = s := ⟨_, rfl⟩
  have hsl : sub.length = a4 - a := by rw [← hsub, List.length_take, List.length_drop]; have := TD.out.le; omega
  rw [show ((u8s l).drop a).take (a4 - a) = u8s sub by rw [← hsub]; simp [u8s, List.map_take, List.map_drop]] at SL
  have kl := sl_conv SL
  have hne : ((toBA bb).toList == (toBA sub).toList) = decide (bb = sub) := toBA_eq O7.out.2 (by rw [← hsub]; exact fun x hx => TD.out.bv.byt x (List.mem_of_mem_drop (List.mem_of_mem_take hx)))
  obtain ⟨qq, hqq⟩ : ∃ q, decide (bb = sub) = q := ⟨_, rfl⟩
  rw [hqq] at hne
  have HQQ := hid hqq
  have HSUB := hid hsub.symm
  have r0 := TD.out.rd.cell 0
  have r1 := TD.out.rd.cell 1
  have r2 := TD.out.rd.cell 2
  have i0 : (0 : Int) ≤ (a : Int) := by omega
  have i1 : (a : Int) ≤ (a4 : Int) := by omega
  have i2 : (a4 : Int) ≤ (cv : Int) := by have := TD.out.le; omega
  simp only [gA, gZ, gC] at r0 r1 r2
  clear SL hsl hqq hsub T O6 DZ
  cases b4
  ·cases q
   ·go_wp2_with fail
    refine wp_region_held_drew (S := (fun w' => w'.cell? ⟨g, 0, none⟩ = some (.slice Av l.length cv) ∧ w'.cell? ⟨g, 1, none⟩ = some (.int .i64 (a4 : Int)) ∧ w'.cell? ⟨g, 2, none⟩ = some (.bool false) ∧ (convert 25 9 (.slice A6 bb.length c6)).run Tryz.prog w' = .ok (.string (toBA bb)) w' ∧ (convert 25 9 (.slice A7 (a4 - a) (cv - a))).run Tryz.prog w' = .ok (.string (toBA sub)) w')) (by kernel_rfl) (by rw [← hWd]; exact ⟨r0, r1, r2, kc, kl⟩) (fun hHeld => ?_)
    rw [← hWd] at hHeld ⊢
    clear hWd
    refine tk 0 (oi := ⟨some 57, _, _, _, _, _⟩) rfl ?_
    refine tk 1 (oi := ⟨some 58, _, _, _, _, _⟩) rfl ?_
    refine tk 2 (oi := ⟨some 59, _, _, _, _, _⟩) rfl ?_
    refine tk 3 (oi := ⟨some 60, _, _, _, _, _⟩) rfl ?_
    refine tk 4 (oi := ⟨some 61, _, _, _, _, _⟩) rfl ?_
    refine tk 5 (oi := ⟨some 62, _, _, _, _, _⟩) rfl ?_
    refine tk 6 (oi := ⟨some 63, _, _, _, _, _⟩) rfl ?_
    refine tk 7 (oi := ⟨some 64, _, _, _, _, _⟩) rfl ?_
    refine tk 8 (oi := ⟨some 65, _, _, _, _, _⟩) rfl ?_
    refine sk 9 (oi := ⟨some 66, _, _, _, _, _⟩) rfl ?_
    refine sk 10 (oi := ⟨some 67, _, _, _, _, _⟩) rfl ?_
    refine sk 11 (oi := ⟨some 68, _, _, _, _, _⟩) rfl ?_
    refine sk 12 (oi := ⟨some 69, _, _, _, _, _⟩) rfl ?_
    refine sk 13 (oi := ⟨some 70, _, _, _, _, _⟩) rfl ?_
    refine sk 14 (oi := ⟨some 71, _, _, _, _, _⟩) rfl ?_
    refine sk 15 (oi := ⟨some 72, _, _, _, _, _⟩) rfl ?_
    refine sk 16 (oi := ⟨some 73, _, _, _, _, _⟩) rfl ?_
    refine sk 17 (oi := ⟨some 74, _, _, _, _, _⟩) rfl ?_
    refine sk 18 (oi := ⟨some 75, _, _, _, _, _⟩) rfl ?_
    refine sk 19 (oi := ⟨some 76, _, _, _, _, _⟩) rfl ?_
    refine sk 20 (oi := ⟨some 77, _, _, _, _, _⟩) rfl ?_
    refine sk 21 (oi := ⟨some 78, _, _, _, _, _⟩) rfl ?_
    refine sk 22 (oi := ⟨some 79, _, _, _, _, _⟩) rfl ?_
    refine tk 23 (oi := ⟨some 80, _, _, _, _, _⟩) rfl ?_
    refine dn ?_
    clear r0 r1 r2 kc kl hHeld
    have zc0 := TD.out.rc.cell 0
    have zf0 := TD.out.rc.free 0
    have zc1 := TD.out.rc.cell 1
    have zf1 := TD.out.rc.free 1
    have zc2 := TD.out.rc.cell 2
    have zf2 := TD.out.rc.free 2
    have zc3 := TD.out.rc.cell 3
    have zf3 := TD.out.rc.free 3
    have zc4 := TD.out.rc.cell 4
    have zf4 := TD.out.rc.free 4
    have zc5 := TD.out.rc.cell 5
    have zf5 := TD.out.rc.free 5
    have zc6 := TD.out.rc.cell 6
    have zf6 := TD.out.rc.free 6
    have zc7 := TD.out.rc.cell 7
    have zf7 := TD.out.rc.free 7
    have zc8 := TD.out.rc.cell 8
    have zf8 := TD.out.rc.free 8
    simp only [gA, gZ, gC] at zc0 zc1 zc2 zc3 zc4 zc5 zc6 zc7 zc8
    go_wp2_with fail
    refine bodyPost_ret (results_crt rfl _ (fill9 Wd gr (.int .i64 0) (.int .i64 0) (.int .i64 0) (.int .i64 0) (.int .i64 0) (.slice none 0 0) (.bool false) (.int .i64 0) (.int .i64 0)) gr 27 _ (0, 0) _ rfl (fill9_blk TD.out.rc (.int .i64 0) (.int .i64 0) (.int .i64 0) (.int .i64 0) (.int .i64 0) (.slice none 0 0) (.bool false) (.int .i64 0) (.int .i64 0)) Tryz.underlying27 rfl Tryz.size27) rfl ?_
    exact TD.out.fin ⟨0, 0, 0, 0, 0, [], false, 0, 0⟩ (.slice none 0 0) false (BV.nil _ _) (Nat.zero_le _) (fun h => by cases h) hla (.int .i64 0) (.int .i64 0) (.int .i64 0) (.int .i64 0) (.int .i64 0) (.slice none 0 0) (.bool false) (.int .i64 0) (.int .i64 0)
   ·cases qq
    ·go_wp2_with fail
     refine wp_region_held_drew (S := (fun w' => w'.cell? ⟨g, 0, none⟩ = some (.slice Av l.length cv) ∧ w'.cell? ⟨g, 1, none⟩ = some (.int .i64 (a4 : Int)) ∧ w'.cell? ⟨g, 2, none⟩ = some (.bool false) ∧ (convert 25 9 (.slice A6 bb.length c6)).run Tryz.prog w' = .ok (.string (toBA bb)) w' ∧ (convert 25 9 (.slice A7 (a4 - a) (cv - a))).run Tryz.prog w' = .ok (.string (toBA sub)) w')) (by kernel_rfl) (by rw [← hWd]; exact ⟨r0, r1, r2, kc, kl⟩) (fun hHeld => ?_)
     rw [← hWd] at hHeld ⊢
     clear hWd
     refine tk 0 (oi := ⟨some 57, _, _, _, _, _⟩) rfl ?_
     refine tk 1 (oi := ⟨some 58, _, _, _, _, _⟩) rfl ?_
     refine tk 2 (oi := ⟨some 59, _, _, _, _, _⟩) rfl ?_
     refine tk 3 (oi := ⟨some 60, _, _, _, _, _⟩) rfl ?_
     refine tk 4 (oi := ⟨some 61, _, _, _, _, _⟩) rfl ?_
     refine tk 5 (oi := ⟨some 62, _, _, _, _, _⟩) rfl ?_
     refine tk 6 (oi := ⟨some 63, _, _, _, _, _⟩) rfl ?_
     refine tk 7 (oi := ⟨some 64, _, _, _, _, _⟩) rfl ?_
     refine tk 8 (oi := ⟨some 65, _, _, _, _, _⟩) rfl ?_
     refine tk 9 (oi := ⟨some 66, _, _, _, _, _⟩) rfl ?_
     refine tk 10 (oi := ⟨some 67, _, _, _, _, _⟩) rfl ?_
     refine tk 11 (oi := ⟨some 68, _, _, _, _, _⟩) rfl ?_
     refine tk 12 (oi := ⟨some 69, _, _, _, _, _⟩) rfl ?_
     refine tk 13 (oi := ⟨some 70, _, _, _, _, _⟩) rfl ?_
     refine tk 14 (oi := ⟨some 71, _, _, _, _, _⟩) rfl ?_
     refine tk 15 (oi := ⟨some 72, _, _, _, _, _⟩) rfl ?_
     refine tk 16 (oi := ⟨some 73, _, _, _, _, _⟩) rfl ?_
     refine tk 17 (oi := ⟨some 74, _, _, _, _, _⟩) rfl ?_
     refine tk 18 (oi := ⟨some 75, _, _, _, _, _⟩) rfl ?_
     refine tk 19 (oi := ⟨some 76, _, _, _, _, _⟩) rfl ?_
     refine tk 20 (oi := ⟨some 77, _, _, _, _, _⟩) rfl ?_
     refine tk 21 (oi := ⟨some 78, _, _, _, _, _⟩) rfl ?_
     refine tk 22 (oi := ⟨some 79, _, _, _, _, _⟩) rfl ?_
     refine tk 23 (oi := ⟨some 80, _, _, _, _, _⟩) rfl ?_
     refine dn ?_
     clear r0 r1 r2 kc kl hHeld
     have zc0 := TD.out.rc.cell 0
     have zf0 := TD.out.rc.free 0
     have zc1 := TD.out.rc.cell 1
     have zf1 := TD.out.rc.free 1
     have zc2 := TD.out.rc.cell 2
     have zf2 := TD.out.rc.free 2
     have zc3 := TD.out.rc.cell 3
     have zf3 := TD.out.rc.free 3
     have zc4 := TD.out.rc.cell 4
     have zf4 := TD.out.rc.free 4
     have zc5 := TD.out.rc.cell 5
     have zf5 := TD.out.rc.free 5
     have zc6 := TD.out.rc.cell 6
     have zf6 := TD.out.rc.free 6
     have zc7 := TD.out.rc.cell 7
     have zf7 := TD.out.rc.free 7
     have zc8 := TD.out.rc.cell 8
     have zf8 := TD.out.rc.free 8
     simp only [gA, gZ, gC] at zc0 zc1 zc2 zc3 zc4 zc5 zc6 zc7 zc8
     go_wp2_with fail
     refine bodyPost_ret (results_crt rfl _ (fill9 Wd gr (.int .i64 0) (.int .i64 0) (.int .i64 0) (.int .i64 0) (.int .i64 0) (.slice none 0 0) (.bool false) (.int .i64 0) (.int .i64 0)) gr 27 _ (0, 0) _ rfl (fill9_blk TD.out.rc (.int .i64 0) (.int .i64 0) (.int .i64 0) (.int .i64 0) (.int .i64 0) (.slice none 0 0) (.bool false) (.int .i64 0) (.int .i64 0)) Tryz.underlying27 rfl Tryz.size27) rfl ?_
     exact TD.out.fin ⟨0, 0, 0, 0, 0, [], false, 0, 0⟩ (.slice none 0 0) false (BV.nil _ _) (Nat.zero_le _) (fun h => by cases h) hla (.int .i64 0) (.int .i64 0) (.int .i64 0) (.int .i64 0) (.int .i64 0) (.slice none 0 0) (.bool false) (.int .i64 0) (.int .i64 0)
    ·go_wp2_with fail
     refine wp_region_held_drew (S := (fun w' => w'.cell? ⟨g, 0, none⟩ = some (.slice Av l.length cv) ∧ w'.cell? ⟨g, 1, none⟩ = some (.int .i64 (a4 : Int)) ∧ w'.cell? ⟨g, 2, none⟩ = some (.bool false) ∧ (convert 25 9 (.slice A6 bb.length c6)).run Tryz.prog w' = .ok (.string (toBA bb)) w' ∧ (convert 25 9 (.slice A7 (a4 - a) (cv - a))).run Tryz.prog w' = .ok (.string (toBA sub)) w')) (by kernel_rfl) (by rw [← hWd]; exact ⟨r0, r1, r2, kc, kl⟩) (fun hHeld => ?_)
     rw [← hWd] at hHeld ⊢
     clear hWd
     refine tk 0 (oi := ⟨some 57, _, _, _, _, _⟩) rfl ?_
     refine tk 1 (oi := ⟨some 58, _, _, _, _, _⟩) rfl ?_
     refine tk 2 (oi := ⟨some 59, _, _, _, _, _⟩) rfl ?_
     refine tk 3 (oi := ⟨some 60, _, _, _, _, _⟩) rfl ?_
     refine tk 4 (oi := ⟨some 61, _, _, _, _, _⟩) rfl ?_
     refine tk 5 (oi := ⟨some 62, _, _, _, _, _⟩) rfl ?_
     refine tk 6 (oi := ⟨some 63, _, _, _, _, _⟩) rfl ?_
     refine tk 7 (oi := ⟨some 64, _, _, _, _, _⟩) rfl ?_
     refine tk 8 (oi := ⟨some 65, _, _, _, _, _⟩) rfl ?_
     refine tk 9 (oi := ⟨some 66, _, _, _, _, _⟩) rfl ?_
     refine tk 10 (oi := ⟨some 67, _, _, _, _, _⟩) rfl ?_
     refine tk 11 (oi := ⟨some 68, _, _, _, _, _⟩) rfl ?_
     refine tk 12 (oi := ⟨some 69, _, _, _, _, _⟩) rfl ?_
     refine tk 13 (oi := ⟨some 70, _, _, _, _, _⟩) rfl ?_
     refine tk 14 (oi := ⟨some 71, _, _, _, _, _⟩) rfl ?_
     refine tk 15 (oi := ⟨some 72, _, _, _, _, _⟩) rfl ?_
     refine tk 16 (oi := ⟨some 73, _, _, _, _, _⟩) rfl ?_
     refine tk 17 (oi := ⟨some 74, _, _, _, _, _⟩) rfl ?_
     refine tk 18 (oi := ⟨some 75, _, _, _, _, _⟩) rfl ?_
     refine tk 19 (oi := ⟨some 76, _, _, _, _, _⟩) rfl ?_
     refine tk 20 (oi := ⟨some 77, _, _, _, _, _⟩) rfl ?_
     refine tk 21 (oi := ⟨some 78, _, _, _, _, _⟩) rfl ?_
     refine tk 22 (oi := ⟨some 79, _, _, _, _, _⟩) rfl ?_
     refine tk 23 (oi := ⟨some 80, _, _, _, _, _⟩) rfl ?_
     refine dn ?_
     clear r0 r1 r2 kc kl hHeld
     have zc0 := TD.out.rc.cell 0
     have zf0 := TD.out.rc.free 0
     have zc1 := TD.out.rc.cell 1
     have zf1 := TD.out.rc.free 1
     have zc2 := TD.out.rc.cell 2
     have zf2 := TD.out.rc.free 2
     have zc3 := TD.out.rc.cell 3
     have zf3 := TD.out.rc.free 3
     have zc4 := TD.out.rc.cell 4
     have zf4 := TD.out.rc.free 4
     have zc5 := TD.out.rc.cell 5
     have zf5 := TD.out.rc.free 5
     have zc6 := TD.out.rc.cell 6
     have zf6 := TD.out.rc.free 6
     have zc7 := TD.out.rc.cell 7
     have zf7 := TD.out.rc.free 7
     have zc8 := TD.out.rc.cell 8
     have zf8 := TD.out.rc.free 8
     simp only [gA, gZ, gC] at zc0 zc1 zc2 zc3 zc4 zc5 zc6 zc7 zc8
     have k0 := TD.out.pb.cell 0
     have k1 := TD.out.pb.cell 1
     have k2 := TD.out.pb.cell 2
     have k3 := TD.out.pb.cell 3
     have k4 := TD.out.pb.cell 4
     have k5 := TD.out.pb.cell 5
     have k6 := TD.out.pb.cell 6
     have k7 := TD.out.pb.cell 7
     have k8 := TD.out.pb.cell 8
     simp only [gA, gZ, gC] at k0 k1 k2 k3 k4 k5 k6 k7 k8
     go_wp2_with fail
     refine bodyPost_ret (results_crt rfl _ (fill9 Wd gr (.int .i64 x) (.int .i64 y1) (.int .i64 y2) (.int .i64 0) (.int .i64 0) (.slice none 0 0) (.bool false) (.int .i64 0) (.int .i64 0)) gr 27 _ (0, 0) _ rfl (fill9_blk TD.out.rc (.int .i64 x) (.int .i64 y1) (.int .i64 y2) (.int .i64 0) (.int .i64 0) (.slice none 0 0) (.bool false) (.int .i64 0) (.int .i64 0)) Tryz.underlying27 rfl Tryz.size27) rfl ?_
     have hyes := HQ.out (by trivial)
     rw [of_decide_eq_true HQQ.out, HSUB.out] at hyes
     have hf := TD.out.fin pp (.slice none 0 0) true DD.out DL.out (fun _ => ⟨hyes.1, hyes.2.symm⟩) hla (.int .i64 x) (.int .i64 y1) (.int .i64 y2) (.int .i64 0) (.int .i64 0) (.slice none 0 0) (.bool false) (.int .i64 0) (.int .i64 0)
     rw [HP.out] at hf
     exact hf
  ·go_wp2_with fail
   refine wp_region_held_drew (S := (fun w' => w'.cell? ⟨g, 0, none⟩ = some (.slice Av l.length cv) ∧ w'.cell? ⟨g, 1, none⟩ = some (.int .i64 (a4 : Int)) ∧ w'.cell? ⟨g, 2, none⟩ = some (.bool true) ∧ (convert 25 9 (.slice A6 bb.length c6)).run Tryz.prog w' = .ok (.string (toBA bb)) w' ∧ (convert 25 9 (.slice A7 (a4 - a) (cv - a))).run Tryz.prog w' = .ok (.string (toBA sub)) w')) (by kernel_rfl) (by rw [← hWd]; exact ⟨r0, r1, r2, kc, kl⟩) (fun hHeld => ?_)
   rw [← hWd] at hHeld ⊢
   clear hWd
   refine tk 0 (oi := ⟨some 57, _, _, _, _, _⟩) rfl ?_
   refine tk 1 (oi := ⟨some 58, _, _, _, _, _⟩) rfl ?_
   refine tk 2 (oi := ⟨some 59, _, _, _, _, _⟩) rfl ?_
   refine tk 3 (oi := ⟨some 60, _, _, _, _, _⟩) rfl ?_
   refine tk 4 (oi := ⟨some 61, _, _, _, _, _⟩) rfl ?_
   refine sk 5 (oi := ⟨some 62, _, _, _, _, _⟩) rfl ?_
   refine sk 6 (oi := ⟨some 63, _, _, _, _, _⟩) rfl ?_
   refine tk 7 (oi := ⟨some 64, _, _, _, _, _⟩) rfl ?_
   refine tk 8 (oi := ⟨some 65, _, _, _, _, _⟩) rfl ?_
   refine sk 9 (oi := ⟨some 66, _, _, _, _, _⟩) rfl ?_
   refine sk 10 (oi := ⟨some 67, _, _, _, _, _⟩) rfl ?_
   refine sk 11 (oi := ⟨some 68, _, _, _, _, _⟩) rfl ?_
   refine sk 12 (oi := ⟨some 69, _, _, _, _, _⟩) rfl ?_
   refine sk 13 (oi := ⟨some 70, _, _, _, _, _⟩) rfl ?_
   refine sk 14 (oi := ⟨some 71, _, _, _, _, _⟩) rfl ?_
   refine sk 15 (oi := ⟨some 72, _, _, _, _, _⟩) rfl ?_
   refine sk 16 (oi := ⟨some 73, _, _, _, _, _⟩) rfl ?_
   refine sk 17 (oi := ⟨some 74, _, _, _, _, _⟩) rfl ?_
   refine sk 18 (oi := ⟨some 75, _, _, _, _, _⟩) rfl ?_
   refine sk 19 (oi := ⟨some 76, _, _, _, _, _⟩) rfl ?_
   refine sk 20 (oi := ⟨some 77, _, _, _, _, _⟩) rfl ?_
   refine sk 21 (oi := ⟨some 78, _, _, _, _, _⟩) rfl ?_
   refine sk 22 (oi := ⟨some 79, _, _, _, _, _⟩) rfl ?_
   refine tk 23 (oi := ⟨some 80, _, _, _, _, _⟩) rfl ?_
   refine dn ?_
   clear r0 r1 r2 kc kl hHeld
   have zc0 := TD.out.rc.cell 0
   have zf0 := TD.out.rc.free 0
   have zc1 := TD.out.rc.cell 1
   have zf1 := TD.out.rc.free 1
   have zc2 := TD.out.rc.cell 2
   have zf2 := TD.out.rc.free 2
   have zc3 := TD.out.rc.cell 3
   have zf3 := TD.out.rc.free 3
   have zc4 := TD.out.rc.cell 4
   have zf4 := TD.out.rc.free 4
   have zc5 := TD.out.rc.cell 5
   have zf5 := TD.out.rc.free 5
   have zc6 := TD.out.rc.cell 6
   have zf6 := TD.out.rc.free 6
   have zc7 := TD.out.rc.cell 7
   have zf7 := TD.out.rc.free 7
   have zc8 := TD.out.rc.cell 8
   have zf8 := TD.out.rc.free 8
   simp only [gA, gZ, gC] at zc0 zc1 zc2 zc3 zc4 zc5 zc6 zc7 zc8
   go_wp2_with fail
   refine bodyPost_ret (results_crt rfl _ (fill9 Wd gr (.int .i64 0) (.int .i64 0) (.int .i64 0) (.int .i64 0) (.int .i64 0) (.slice none 0 0) (.bool false) (.int .i64 0) (.int .i64 0)) gr 27 _ (0, 0) _ rfl (fill9_blk TD.out.rc (.int .i64 0) (.int .i64 0) (.int .i64 0) (.int .i64 0) (.int .i64 0) (.slice none 0 0) (.bool false) (.int .i64 0) (.int .i64 0)) Tryz.underlying27 rfl Tryz.size27) rfl ?_
   exact TD.out.fin ⟨0, 0, 0, 0, 0, [], false, 0, 0⟩ (.slice none 0 0) false (BV.nil _ _) (Nat.zero_le _) (fun h => by cases h) hla (.int .i64 0) (.int .i64 0) (.int .i64 0) (.int .i64 0) (.int .i64 0) (.slice none 0 0) (.bool false) (.int .i64 0) (.int .i64 0)
end
end Go.Proofs.YtdneakejlbabeaaGreat
