/- Parts of the walk: Eo. -/
import Derived.Test.YtdneakejlbabeaaGreatM00
import Derived.Test.YtdneakejlbabeaaGreatM19
namespace Go.Proofs.YtdneakejlbabeaaGreat
open Go.RowKit
set_option linter.unusedVariables false
set_option linter.unusedSimpArgs false
section
attribute [local go_sem] run_max2' run_min2' run_max_ run_min_
theorem BO.belowW {B : Nat} {w w' : World} {v : Value} {l : List Int} (h : BO B w v l) (k : Below w.heap.size w w') : BO B w' v l := h.frm (Frm.of_below (S := fun _ => False) k) (fun _ _ h => h)
theorem BO.app {B : Nat} {w w' : World} {x y x' : Value} {xs ys : List Int} (h : BO B w x xs) (k : BO B w y ys) (ho : w'.ownsRow B 5 1 x' (xs.length + ys.length) (u8s xs ++ u8s ys)) : BO B w' x' (xs ++ ys) :=
 ⟨by rw [u8s_append, List.length_append]; exact ho, fun z hz => by
  rcases List.mem_append.1 hz with hz | hz
  ·exact h.2 z hz
  ·exact k.2 z hz⟩
theorem ap_new {B : Nat} {w : World} {z v : Value} {zs : List Int} (h : BO B w z zs) (hn : ∀ j, v.ownBlock = some j → w.heap.size ≤ j) : ∀ j, v.ownBlock = some j → ¬ z.ownBlock = some j := fun j h1 h2 => by
 have := hn j h1
 have := (h.1.lt j h2).2
 omega
theorem ap_app {B : Nat} {w : World} {x x' z : Value} {zs : List Int} (hat : x'.ownBlock = x.ownBlock ∨ x'.ownBlock = some w.heap.size) (ap : ∀ j, x.ownBlock = some j → ¬ z.ownBlock = some j) (hz : BO B w z zs) : ∀ j, x'.ownBlock = some j → ¬ z.ownBlock = some j := fun j h1 h2 => by
 rcases hat with h | h
 ·exact ap j (h ▸ h1) h2
 ·rw [h] at h1
  injection h1 with h1
  have := (hz.1.lt j h2).2
  omega
theorem byt_one {x : Int} (h : 0 ≤ x ∧ x < 256) : Byt [x] := fun y hy => by rw [List.mem_singleton] at hy; subst hy; exact h
theorem putN_len (n : Int) : (putN n).length ≤ 4 := by unfold putN; split; simp; split <;> simp
def plainL (p : Pk) : List Int := [p.kind] ++ putN p.path ++ putN p.number ++ (if p.kind = 2 then putN p.of_ else if p.kind = 3 then putN p.from_ ++ (putN p.data.length ++ p.data) ++ [if p.fin then 1 else 0] else if p.kind = 4 then putN p.of_ ++ putN p.seen ++ putN p.limit else [])
def PlainR (w : World) (p : Pk) (e : Ending) (w' : World) : Prop := ∃ (v' : Value) (q : Bool) (b : List Int), e = .returned (.tuple #[v', .bool q]) ∧ BO w.heap.size w' v' b ∧ (q = true → RightP p p.data.length ∧ b = plainL p) ∧ Below w.heap.size w w'
set_option maxHeartbeats 16000000 in
set_option maxRecDepth 100000 in
theorem plain_any (w : World) (p : Pk) (S : Nat → Prop) (v : Value) (h : BV w S v p.data) (hl : p.data.length ≤ 1000000) :
  Calls Tryz.prog 101 #[pagg p v] w fun e w' => PlainR w p e w' := by
 obtain ⟨A, c, rfl, hlc, hcm⟩ := h.len
 have H := hid h
 have HI := hid Tryz.info5
 clear h
 obtain ⟨w0, hw0⟩ := lx (w.alloc (.cells #[.int .i64 p.kind, .int .i64 p.path, .int .i64 p.number, .int .i64 p.of_, .int .i64 p.from_, .slice A p.data.length c, .bool p.fin, .int .i64 p.seen, .int .i64 p.limit] 27))
 obtain ⟨gp, hgp⟩ := lx (w.heap.size)
 have BP : Hid (Blk w0 gp #[.int .i64 p.kind, .int .i64 p.path, .int .i64 p.number, .int .i64 p.of_, .int .i64 p.from_, .slice A p.data.length c, .bool p.fin, .int .i64 p.seen, .int .i64 p.limit] 27) := hid (by rw [hw0, hgp]; exact Blk.new _ _ _)
 have BW : Hid (Below w.heap.size w w0) := hid (by rw [hw0]; exact ba)
 go_enter Tryz.func101, Tryz.ntmps101
 go_wp2_with fail
 rw [← hw0, ← hgp]
 have HGP := hid hgp
 clear hw0 hgp
 refine (right_any w0 p A p.data.length c (by omega)).mono ?_
 rintro e w1 ⟨b, rfl, hr, hb⟩
 have B1 := hid (bO BW.out hb)
 have P1 := hid (BP.out.below hb)
 have HR := hid hr
 have V1 := hid (H.out.below B1.out)
 clear hb hr
 cases b
 ·go_wp2_with fail
  refine bodyPost_ret (results_two rfl _ _ _) rfl ?_
  exact ⟨_, _, _, rfl, BO.nil _ _, (fun h => by cases h), B1.out⟩
 ·have R := HR.out (by trivial)
  have rk := R.kind
  have rp := R.path
  have rn := R.number
  have l1 := putN_len p.path
  have l2 := putN_len p.number
  have l3 := putN_len p.of_
  have l4 := putN_len p.from_
  have l5 := putN_len p.data.length
  have l6 := putN_len p.seen
  have l7 := putN_len p.limit
  have iwk : IntKind.u8.wrap p.kind = p.kind := IntWalk.u8_in _ ⟨by omega, by omega⟩
  clear R
  have KE : Hid (∀ W, Below w1.heap.size w1 W → W.cell? ⟨gp, 0, none⟩ = some (.int .i64 p.kind) ∧ W.cell? ⟨gp, 1, none⟩ = some (.int .i64 p.path) ∧ W.cell? ⟨gp, 2, none⟩ = some (.int .i64 p.number)) := hid (fun W hW => ⟨(P1.out.below hW).cell 0, (P1.out.below hW).cell 1, (P1.out.below hW).cell 2⟩)
  have G : Hid (Below w1.heap.size w1 w1.drew) := hid (Below.refl _ _).drew
  go_wp2_with fail
  refine wp_region_held_drew (S := fun w' => w'.cell? ⟨gp, 0, none⟩ = some (.int .i64 p.kind) ∧ w'.cell? ⟨gp, 1, none⟩ = some (.int .i64 p.path) ∧ w'.cell? ⟨gp, 2, none⟩ = some (.int .i64 p.number)) (by kernel_rfl) (KE.out _ G.out) (fun hHeld => ?_)
  obtain ⟨wd, hwd⟩ := lx (w1.drew)
  rw [← hwd] at hHeld G ⊢
  clear hwd
  refine tk 0 (oi := ⟨some 9, _, _, _, _, _⟩) rfl ?_
  refine tk 1 (oi := ⟨some 10, _, _, _, _, _⟩) rfl ?_
  refine tk 2 (oi := ⟨some 11, _, _, _, _, _⟩) rfl ?_
  refine tk 4 (oi := ⟨some 13, _, _, _, _, _⟩) rfl ?_
  refine tk 5 (oi := ⟨some 14, _, _, _, _, _⟩) rfl ?_
  refine tk 8 (oi := ⟨some 17, _, _, _, _, _⟩) rfl ?_
  refine tk 9 (oi := ⟨some 18, _, _, _, _, _⟩) rfl ?_
  refine wpAnyH_ready (rs := [3, 6]) (by kernel_rfl) (by simp) ?_
  refine AllReadyH.cons (o := ⟨some 12, _, _, _, _, _⟩) rfl (fun K hK => ?_) (AllReadyH.cons (o := ⟨some 15, _, _, _, _, _⟩) rfl (fun K hK => ?_) AllReadyH.nil)
  go_simp
  obtain ⟨w101, hW⟩ := lx (wd.alloc (.cells #[.int .u8 (p.kind)] 5))
  obtain ⟨vK, hV⟩ := lx (Value.slice (some ⟨wd.heap.size, 0, none⟩) 1 1)
  rw [← hW, ← hV]
  have hb : Below wd.heap.size wd w101 := by rw [hW]; exact ba
  have ho : w101.ownsRow wd.heap.size 5 1 vK 1 (u8s [p.kind]) := by rw [hW, hV]; exact World.ownsRow_lit _ #[.int .u8 (p.kind)] 1 (Nat.le_refl _) (by decide) rfl
  have G102 : Hid (Below w1.heap.size w1 w101) := hid (bO G.out hb)
  have O103 : Hid (BO w1.heap.size w101 vK [p.kind]) := hid ⟨own_base ho G.out.size, byt_one (by omega)⟩
  clear ho hb hW hV
  refine Ko hK (KE.out _ G102.out) (fun hHeld => ?_)
  clear hK K
  refine rD 6 (o := ⟨some 15, _, _, _, _, _⟩) rfl (fun K hK => ?_)
  go_simp
  refine (put_any p.path _ (by omega) (by omega)).mono ?_
  rintro e w104 ⟨vP, rfl, ho, hb⟩
  have G105 : Hid (Below w1.heap.size w1 w104) := hid (bO G102.out hb)
  have AP106 := hid (ap_new O103.out (fun j hj => (ho.1.lt j hj).1))
  have O107 := hid (O103.out.belowW hb)
  have O108 : Hid (BO w1.heap.size w104 vP (putN p.path)) := hid ⟨own_base ho.1 G102.out.size, ho.2⟩
  clear ho hb
  refine Ko hK (KE.out _ G105.out) (fun hHeld => ?_)
  clear hK K
  refine rD 7 (o := ⟨some 16, _, _, _, _, _⟩) rfl (fun K hK => ?_)
  refine step_app (v := vK) w1.heap.size (by rfl) _ _ 25 5 (.int .u8 0) 1 1 (by rfl) Tryz.underlying25 HI.out rfl (by omega) (by omega) (by rfl) (by rfl) O107.out.1 O108.out.bv.sl (by simp only [List.length_append, List.length_cons, List.length_nil]; omega) G105.out.size ?_
  intro vA w109 hown hfr hat
  have G110 := hid (Frm.below G105.out hfr G105.out.size (fun g hg => (O107.out.1.lt g hg).1))
  have O111 : Hid (BO w1.heap.size w109 vA (([p.kind]) ++ (putN p.path))) := hid (O107.out.app O108.out hown)
  clear hown hfr hat
  refine Ko hK (KE.out _ G110.out) (fun hHeld => ?_)
  clear hK K
  refine rD 10 (o := ⟨some 19, _, _, _, _, _⟩) rfl (fun K hK => ?_)
  go_simp
  refine (put_any p.number _ (by omega) (by omega)).mono ?_
  rintro e w112 ⟨vN, rfl, ho, hb⟩
  have G113 : Hid (Below w1.heap.size w1 w112) := hid (bO G110.out hb)
  have AP114 := hid (ap_new O111.out (fun j hj => (ho.1.lt j hj).1))
  have O115 := hid (O111.out.belowW hb)
  have O116 : Hid (BO w1.heap.size w112 vN (putN p.number)) := hid ⟨own_base ho.1 G110.out.size, ho.2⟩
  clear ho hb
  refine Ko hK (KE.out _ G113.out) (fun hHeld => ?_)
  clear hK K
  refine rD 11 (o := ⟨some 20, _, _, _, _, _⟩) rfl (fun K hK => ?_)
  refine step_app (v := vA) w1.heap.size (by rfl) _ _ 25 5 (.int .u8 0) 1 1 (by rfl) Tryz.underlying25 HI.out rfl (by omega) (by omega) (by rfl) (by rfl) O115.out.1 O116.out.bv.sl (by simp only [List.length_append, List.length_cons, List.length_nil]; omega) G113.out.size ?_
  intro vB wx hown hfr hat
  have GX := hid (Frm.below G113.out hfr G113.out.size (fun g hg => (O115.out.1.lt g hg).1))
  have OX : Hid (BO w1.heap.size wx vB ((([p.kind]) ++ (putN p.path)) ++ (putN p.number))) := hid (O115.out.app O116.out hown)
  clear hown hfr hat
  refine Ko hK (KE.out _ GX.out) (fun hHeld => ?_)
  clear hK K
  refine tk 12 (oi := ⟨some 4, _, _, _, _, _⟩) rfl ?_
  refine dn ?_
  rotate_left
  go_simp
  refine (put_any p.path _ (by omega) (by omega)).mono ?_
  rintro e w117 ⟨vP, rfl, ho, hb⟩
  have G118 : Hid (Below w1.heap.size w1 w117) := hid (bO G.out hb)
  have O119 : Hid (BO w1.heap.size w117 vP (putN p.path)) := hid ⟨own_base ho.1 G.out.size, ho.2⟩
  clear ho hb
  refine Ko hK (KE.out _ G118.out) (fun hHeld => ?_)
  clear hK K
  refine rD 3 (o := ⟨some 12, _, _, _, _, _⟩) rfl (fun K hK => ?_)
  go_simp
  obtain ⟨w120, hW⟩ := lx (w117.alloc (.cells #[.int .u8 (p.kind)] 5))
  obtain ⟨vK, hV⟩ := lx (Value.slice (some ⟨w117.heap.size, 0, none⟩) 1 1)
  rw [← hW, ← hV]
  have hb : Below w117.heap.size w117 w120 := by rw [hW]; exact ba
  have ho : w120.ownsRow w117.heap.size 5 1 vK 1 (u8s [p.kind]) := by rw [hW, hV]; exact World.ownsRow_lit _ #[.int .u8 (p.kind)] 1 (Nat.le_refl _) (by decide) rfl
  have G121 : Hid (Below w1.heap.size w1 w120) := hid (bO G118.out hb)
  have AP122 := hid (ap_new O119.out (fun j hj => (ho.lt j hj).1))
  have O123 := hid (O119.out.belowW hb)
  have O124 : Hid (BO w1.heap.size w120 vK [p.kind]) := hid ⟨own_base ho G118.out.size, byt_one (by omega)⟩
  clear ho hb hW hV
  refine Ko hK (KE.out _ G121.out) (fun hHeld => ?_)
  clear hK K
  refine rD 7 (o := ⟨some 16, _, _, _, _, _⟩) rfl (fun K hK => ?_)
  refine step_app (v := vK) w1.heap.size (by rfl) _ _ 25 5 (.int .u8 0) 1 1 (by rfl) Tryz.underlying25 HI.out rfl (by omega) (by omega) (by rfl) (by rfl) O124.out.1 O123.out.bv.sl (by simp only [List.length_append, List.length_cons, List.length_nil]; omega) G121.out.size ?_
  intro vA w125 hown hfr hat
  have G126 := hid (Frm.below G121.out hfr G121.out.size (fun g hg => (O124.out.1.lt g hg).1))
  have O127 : Hid (BO w1.heap.size w125 vA (([p.kind]) ++ (putN p.path))) := hid (O124.out.app O123.out hown)
  clear hown hfr hat
  refine Ko hK (KE.out _ G126.out) (fun hHeld => ?_)
  clear hK K
  refine rD 10 (o := ⟨some 19, _, _, _, _, _⟩) rfl (fun K hK => ?_)
  go_simp
  refine (put_any p.number _ (by omega) (by omega)).mono ?_
  rintro e w128 ⟨vN, rfl, ho, hb⟩
  have G129 : Hid (Below w1.heap.size w1 w128) := hid (bO G126.out hb)
  have AP130 := hid (ap_new O127.out (fun j hj => (ho.1.lt j hj).1))
  have O131 := hid (O127.out.belowW hb)
  have O132 : Hid (BO w1.heap.size w128 vN (putN p.number)) := hid ⟨own_base ho.1 G126.out.size, ho.2⟩
  clear ho hb
  refine Ko hK (KE.out _ G129.out) (fun hHeld => ?_)
  clear hK K
  refine rD 11 (o := ⟨some 20, _, _, _, _, _⟩) rfl (fun K hK => ?_)
  refine step_app (v := vA) w1.heap.size (by rfl) _ _ 25 5 (.int .u8 0) 1 1 (by rfl) Tryz.underlying25 HI.out rfl (by omega) (by omega) (by rfl) (by rfl) O131.out.1 O132.out.bv.sl (by simp only [List.length_append, List.length_cons, List.length_nil]; omega) G129.out.size ?_
  intro vB wx hown hfr hat
  have GX := hid (Frm.below G129.out hfr G129.out.size (fun g hg => (O131.out.1.lt g hg).1))
  have OX : Hid (BO w1.heap.size wx vB ((([p.kind]) ++ (putN p.path)) ++ (putN p.number))) := hid (O131.out.app O132.out hown)
  clear hown hfr hat
  refine Ko hK (KE.out _ GX.out) (fun hHeld => ?_)
  clear hK K
  refine tk 12 (oi := ⟨some 4, _, _, _, _, _⟩) rfl ?_
  refine dn ?_
  rotate_left
  all_goals
   have sx := GX.out.size
   have s1 := B1.out.size
   have PX := hid (P1.out.below GX.out)
   have x0 := PX.out.cell 0
   have x3 := PX.out.cell 3
   have x6 := PX.out.cell 6
   simp only [gA, gZ, gC] at x0 x3 x6
   rcases (by omega : p.kind = 1 ∨ p.kind = 2 ∨ p.kind = 3 ∨ p.kind = 4) with hk | hk | hk | hk
   ·rw [hk] at x0
    go_wp2_with fail
    refine bodyPost_ret (results_two rfl _ _ _) rfl ?_
    exact ⟨_, _, _, rfl, ⟨own_base OX.out.1 s1, OX.out.2⟩, (fun _ => ⟨HR.out (by trivial), by simp [plainL, hk]⟩), bO B1.out GX.out⟩
   ·rw [hk] at x0
    have ho1 := (HR.out (by trivial)).of1 (.inl hk)
    go_wp2_with fail
    refine (put_any p.of_ _ (by omega) (by omega)).mono ?_
    rintro e w5 ⟨v5, rfl, ho, hb⟩
    have G5 := hid (bO GX.out hb)
    have O5 : Hid (BO w1.heap.size w5 v5 (putN p.of_)) := hid ⟨own_base ho.1 sx, ho.2⟩
    have OB := hid (OX.out.belowW hb)
    clear ho hb
    go_wp2_with (at_builtin; refine wp_app w1.heap.size rfl _ _ 25 5 (.int .u8 0) 1 1 rfl Tryz.underlying25 HI.out rfl (by omega) (by omega) rfl rfl OB.out.1 O5.out.bv.sl (by simp only [List.length_append, List.length_cons, List.length_nil]; omega) G5.out.size ?_; intro v6 w6 hown hfr hat; have G6 := hid (Frm.below G5.out hfr G5.out.size (fun g hg => (OB.out.1.lt g hg).1)); have O6 := hid (OB.out.app O5.out hown); clear hown hfr hat)
    (try go_wp2_with fail)
    refine bodyPost_ret (results_two rfl _ _ _) rfl ?_
    exact ⟨_, _, _, rfl, ⟨own_base O6.out.1 s1, O6.out.2⟩, (fun _ => ⟨HR.out (by trivial), by simp [plainL, hk]⟩), bO B1.out G6.out⟩
   ·rw [hk] at x0
    have hd1 := (HR.out (by trivial)).data1 hk
    obtain ⟨fb, hfb, hfb2⟩ : ∃ fb : Int, (if p.fin then 1 else 0) = fb ∧ 0 ≤ fb ∧ fb < 256 := by
     cases p.fin
     ·exact ⟨0, rfl, by omega, by omega⟩
     ·exact ⟨1, rfl, by omega, by omega⟩
    have K3 : Hid (∀ W, Below w1.heap.size w1 W → W.cell? ⟨gp, 4, none⟩ = some (.int .i64 p.from_) ∧ W.cell? ⟨gp, 5, none⟩ = some (.slice A p.data.length c)) := hid (fun W hW => ⟨(P1.out.below hW).cell 4, (P1.out.below hW).cell 5⟩)
    have GE : Hid (Below w1.heap.size w1 wx.drew) := hid GX.out.drew
    have OE : Hid (BO w1.heap.size wx.drew vB (([p.kind] ++ putN p.path) ++ putN p.number)) := hid OX.out
    clear KE hHeld
    have KE := K3
    clear K3
    have hcont : Hid (∀ W v b, BO w1.heap.size W v b → Below w1.heap.size w1 W → b = (((([p.kind] ++ putN p.path) ++ putN p.number) ++ putN p.from_) ++ (putN (p.data.length : Int) ++ p.data)) ++ [fb] → PlainR w p (.returned (.tuple #[v, .bool true])) W) := hid (fun W v b hO hG hb => ⟨_, _, b, rfl, ⟨own_base hO.1 s1, hO.2⟩, (fun _ => ⟨HR.out (by trivial), by rw [hb]; simp [plainL, hk, hfb]⟩), bO B1.out hG⟩)
    rcases hfin : p.fin with _ | _
    ·rw [hfin] at x6 hfb
     simp only [if_true, if_false, Bool.false_eq_true] at hfb
     subst hfb
     go_wp2_with fail
     refine wp_region_held_drew (S := fun w' => w'.cell? ⟨gp, 4, none⟩ = some (.int .i64 p.from_) ∧ w'.cell? ⟨gp, 5, none⟩ = some (.slice A p.data.length c)) (by kernel_rfl) (KE.out _ GE.out) (fun hHeld => ?_)
     obtain ⟨we, hwe⟩ := lx (wx.drew)
     rw [← hwe] at hHeld GE OE ⊢
     clear hwe
     refine tk 0 (oi := ⟨some 34, _, _, _, _, _⟩) rfl ?_
     refine tk 1 (oi := ⟨some 35, _, _, _, _, _⟩) rfl ?_
     refine tk 2 (oi := ⟨some 36, _, _, _, _, _⟩) rfl ?_
     refine tk 5 (oi := ⟨some 39, _, _, _, _, _⟩) rfl ?_
     refine tk 6 (oi := ⟨some 40, _, _, _, _, _⟩) rfl ?_
     refine tk 9 (oi := ⟨some 43, _, _, _, _, _⟩) rfl ?_
     refine wpAnyH_ready (rs := [3, 10]) (by kernel_rfl) (by simp) ?_
     refine AllReadyH.cons (o := ⟨some 37, _, _, _, _, _⟩) rfl (fun K hK => ?_) (AllReadyH.cons (o := ⟨some 44, _, _, _, _, _⟩) rfl (fun K hK => ?_) AllReadyH.nil)
     go_simp
     refine (put_any p.from_ _ (by omega) (by omega)).mono ?_
     rintro e w133 ⟨vF, rfl, ho, hb⟩
     have G134 : Hid (Below w1.heap.size w1 w133) := hid (bO GE.out hb)
     have AP135 := hid (ap_new OE.out (fun j hj => (ho.1.lt j hj).1))
     have O136 := hid (OE.out.belowW hb)
     have O137 : Hid (BO w1.heap.size w133 vF (putN p.from_)) := hid ⟨own_base ho.1 GE.out.size, ho.2⟩
     clear ho hb
     refine Ko hK (KE.out _ G134.out) (fun hHeld => ?_)
     clear hK K
     refine wpAnyH_ready (rs := [4, 10]) (by kernel_rfl) (by simp) ?_
     refine AllReadyH.cons (o := ⟨some 38, _, _, _, _, _⟩) rfl (fun K hK => ?_) (AllReadyH.cons (o := ⟨some 44, _, _, _, _, _⟩) rfl (fun K hK => ?_) AllReadyH.nil)
     refine step_app (v := vB) w1.heap.size (by rfl) _ _ 25 5 (.int .u8 0) 1 1 (by rfl) Tryz.underlying25 HI.out rfl (by omega) (by omega) (by rfl) (by rfl) O136.out.1 O137.out.bv.sl (by simp only [List.length_append, List.length_cons, List.length_nil]; omega) G134.out.size ?_
     intro vC w138 hown hfr hat
     have G139 := hid (Frm.below G134.out hfr G134.out.size (fun g hg => (O136.out.1.lt g hg).1))
     have O140 : Hid (BO w1.heap.size w138 vC ((([p.kind] ++ putN p.path) ++ putN p.number) ++ (putN p.from_))) := hid (O136.out.app O137.out hown)
     clear hown hfr hat
     refine Ko hK (KE.out _ G139.out) (fun hHeld => ?_)
     clear hK K
     refine wpAnyH_ready (rs := [7, 10]) (by kernel_rfl) (by simp) ?_
     refine AllReadyH.cons (o := ⟨some 41, _, _, _, _, _⟩) rfl (fun K hK => ?_) (AllReadyH.cons (o := ⟨some 44, _, _, _, _, _⟩) rfl (fun K hK => ?_) AllReadyH.nil)
     go_simp
     refine (wrap_any _ S _ p.data (V1.out.below G139.out) (by omega)).mono ?_
     rintro e w141 ⟨vW, rfl, ho, hb⟩
     have G142 : Hid (Below w1.heap.size w1 w141) := hid (bO G139.out hb)
     have AP143 := hid (ap_new O140.out (fun j hj => (ho.1.lt j hj).1))
     have O144 := hid (O140.out.belowW hb)
     have O145 : Hid (BO w1.heap.size w141 vW (putN (p.data.length : Int) ++ p.data)) := hid ⟨own_base ho.1 G139.out.size, ho.2⟩
     clear ho hb
     refine Ko hK (KE.out _ G142.out) (fun hHeld => ?_)
     clear hK K
     refine wpAnyH_ready (rs := [8, 10]) (by kernel_rfl) (by simp) ?_
     refine AllReadyH.cons (o := ⟨some 42, _, _, _, _, _⟩) rfl (fun K hK => ?_) (AllReadyH.cons (o := ⟨some 44, _, _, _, _, _⟩) rfl (fun K hK => ?_) AllReadyH.nil)
     refine step_app (v := vC) w1.heap.size (by rfl) _ _ 25 5 (.int .u8 0) 1 1 (by rfl) Tryz.underlying25 HI.out rfl (by omega) (by omega) (by rfl) (by rfl) O144.out.1 O145.out.bv.sl (by simp only [List.length_append, List.length_cons, List.length_nil]; omega) G142.out.size ?_
     intro vD w146 hown hfr hat
     have G147 := hid (Frm.below G142.out hfr G142.out.size (fun g hg => (O144.out.1.lt g hg).1))
     have O148 : Hid (BO w1.heap.size w146 vD (((([p.kind] ++ putN p.path) ++ putN p.number) ++ (putN p.from_)) ++ (putN (p.data.length : Int) ++ p.data))) := hid (O144.out.app O145.out hown)
     clear hown hfr hat
     refine Ko hK (KE.out _ G147.out) (fun hHeld => ?_)
     clear hK K
     refine rD 10 (o := ⟨some 44, _, _, _, _, _⟩) rfl (fun K hK => ?_)
     go_simp
     obtain ⟨w149, hW⟩ := lx (w146.alloc (.cells #[.int .u8 (0)] 5))
     obtain ⟨vZ, hV⟩ := lx (Value.slice (some ⟨w146.heap.size, 0, none⟩) 1 1)
     rw [← hW, ← hV]
     have hb : Below w146.heap.size w146 w149 := by rw [hW]; exact ba
     have ho : w149.ownsRow w146.heap.size 5 1 vZ 1 (u8s [0]) := by rw [hW, hV]; exact World.ownsRow_lit _ #[.int .u8 (0)] 1 (Nat.le_refl _) (by decide) rfl
     have G150 : Hid (Below w1.heap.size w1 w149) := hid (bO G147.out hb)
     have AP151 := hid (ap_new O148.out (fun j hj => (ho.lt j hj).1))
     have O152 := hid (O148.out.belowW hb)
     have O153 : Hid (BO w1.heap.size w149 vZ [0]) := hid ⟨own_base ho G147.out.size, byt_one (by omega)⟩
     clear ho hb hW hV
     refine Ko hK (KE.out _ G150.out) (fun hHeld => ?_)
     clear hK K
     refine rD 11 (o := ⟨some 45, _, _, _, _, _⟩) rfl (fun K hK => ?_)
     refine step_app (v := vD) w1.heap.size (by rfl) _ _ 25 5 (.int .u8 0) 1 1 (by rfl) Tryz.underlying25 HI.out rfl (by omega) (by omega) (by rfl) (by rfl) O152.out.1 O153.out.bv.sl (by simp only [List.length_append, List.length_cons, List.length_nil]; omega) G150.out.size ?_
     intro vE wy hown hfr hat
     have GY := hid (Frm.below G150.out hfr G150.out.size (fun g hg => (O152.out.1.lt g hg).1))
     have OY : Hid (BO w1.heap.size wy vE ((((([p.kind] ++ putN p.path) ++ putN p.number) ++ (putN p.from_)) ++ (putN (p.data.length : Int) ++ p.data)) ++ ([0]))) := hid (O152.out.app O153.out hown)
     clear hown hfr hat
     refine Ko hK (KE.out _ GY.out) (fun hHeld => ?_)
     clear hK K
     refine tk 12 (oi := ⟨some 4, _, _, _, _, _⟩) rfl ?_
     refine dn ?_
     rotate_left
     go_simp
     obtain ⟨w154, hW⟩ := lx (w141.alloc (.cells #[.int .u8 (0)] 5))
     obtain ⟨vZ, hV⟩ := lx (Value.slice (some ⟨w141.heap.size, 0, none⟩) 1 1)
     rw [← hW, ← hV]
     have hb : Below w141.heap.size w141 w154 := by rw [hW]; exact ba
     have ho : w154.ownsRow w141.heap.size 5 1 vZ 1 (u8s [0]) := by rw [hW, hV]; exact World.ownsRow_lit _ #[.int .u8 (0)] 1 (Nat.le_refl _) (by decide) rfl
     have G155 : Hid (Below w1.heap.size w1 w154) := hid (bO G142.out hb)
     have AP156 := hid (ap_new O144.out (fun j hj => (ho.lt j hj).1))
     have AP157 := hid (ap_new O145.out (fun j hj => (ho.lt j hj).1))
     have O158 := hid (O144.out.belowW hb)
     have O159 := hid (O145.out.belowW hb)
     have O160 : Hid (BO w1.heap.size w154 vZ [0]) := hid ⟨own_base ho G142.out.size, byt_one (by omega)⟩
     clear ho hb hW hV
     refine Ko hK (KE.out _ G155.out) (fun hHeld => ?_)
     clear hK K
     refine rD 8 (o := ⟨some 42, _, _, _, _, _⟩) rfl (fun K hK => ?_)
     refine step_app (v := vC) w1.heap.size (by rfl) _ _ 25 5 (.int .u8 0) 1 1 (by rfl) Tryz.underlying25 HI.out rfl (by omega) (by omega) (by rfl) (by rfl) O158.out.1 O159.out.bv.sl (by simp only [List.length_append, List.length_cons, List.length_nil]; omega) G155.out.size ?_
     intro vD w161 hown hfr hat
     have G162 := hid (Frm.below G155.out hfr G155.out.size (fun g hg => (O158.out.1.lt g hg).1))
     have O163 : Hid (BO w1.heap.size w161 vD (((([p.kind] ++ putN p.path) ++ putN p.number) ++ (putN p.from_)) ++ (putN (p.data.length : Int) ++ p.data))) := hid (O158.out.app O159.out hown)
     have AP164 := hid (ap_app hat (fun j h1 h2 => AP156.out j h2 h1) O160.out)
     have O165 := hid (O160.out.frm hfr (fun j hz hx => (fun j h1 h2 => AP156.out j h2 h1) j hx hz))
     clear hown hfr hat
     refine Ko hK (KE.out _ G162.out) (fun hHeld => ?_)
     clear hK K
     refine rD 11 (o := ⟨some 45, _, _, _, _, _⟩) rfl (fun K hK => ?_)
     refine step_app (v := vD) w1.heap.size (by rfl) _ _ 25 5 (.int .u8 0) 1 1 (by rfl) Tryz.underlying25 HI.out rfl (by omega) (by omega) (by rfl) (by rfl) O163.out.1 O165.out.bv.sl (by simp only [List.length_append, List.length_cons, List.length_nil]; omega) G162.out.size ?_
     intro vE wy hown hfr hat
     have GY := hid (Frm.below G162.out hfr G162.out.size (fun g hg => (O163.out.1.lt g hg).1))
     have OY : Hid (BO w1.heap.size wy vE ((((([p.kind] ++ putN p.path) ++ putN p.number) ++ (putN p.from_)) ++ (putN (p.data.length : Int) ++ p.data)) ++ ([0]))) := hid (O163.out.app O165.out hown)
     clear hown hfr hat
     refine Ko hK (KE.out _ GY.out) (fun hHeld => ?_)
     clear hK K
     refine tk 12 (oi := ⟨some 4, _, _, _, _, _⟩) rfl ?_
     refine dn ?_
     rotate_left
     go_simp
     obtain ⟨w166, hW⟩ := lx (w138.alloc (.cells #[.int .u8 (0)] 5))
     obtain ⟨vZ, hV⟩ := lx (Value.slice (some ⟨w138.heap.size, 0, none⟩) 1 1)
     rw [← hW, ← hV]
     have hb : Below w138.heap.size w138 w166 := by rw [hW]; exact ba
     have ho : w166.ownsRow w138.heap.size 5 1 vZ 1 (u8s [0]) := by rw [hW, hV]; exact World.ownsRow_lit _ #[.int .u8 (0)] 1 (Nat.le_refl _) (by decide) rfl
     have G167 : Hid (Below w1.heap.size w1 w166) := hid (bO G139.out hb)
     have AP168 := hid (ap_new O140.out (fun j hj => (ho.lt j hj).1))
     have O169 := hid (O140.out.belowW hb)
     have O170 : Hid (BO w1.heap.size w166 vZ [0]) := hid ⟨own_base ho G139.out.size, byt_one (by omega)⟩
     clear ho hb hW hV
     refine Ko hK (KE.out _ G167.out) (fun hHeld => ?_)
     clear hK K
     refine rD 7 (o := ⟨some 41, _, _, _, _, _⟩) rfl (fun K hK => ?_)
     go_simp
     refine (wrap_any _ S _ p.data (V1.out.below G167.out) (by omega)).mono ?_
     rintro e w171 ⟨vW, rfl, ho, hb⟩
     have G172 : Hid (Below w1.heap.size w1 w171) := hid (bO G167.out hb)
     have AP173 := hid (ap_new O169.out (fun j hj => (ho.1.lt j hj).1))
     have AP174 := hid (ap_new O170.out (fun j hj => (ho.1.lt j hj).1))
     have O175 := hid (O169.out.belowW hb)
     have O176 := hid (O170.out.belowW hb)
     have O177 : Hid (BO w1.heap.size w171 vW (putN (p.data.length : Int) ++ p.data)) := hid ⟨own_base ho.1 G167.out.size, ho.2⟩
     clear ho hb
     refine Ko hK (KE.out _ G172.out) (fun hHeld => ?_)
     clear hK K
     refine rD 8 (o := ⟨some 42, _, _, _, _, _⟩) rfl (fun K hK => ?_)
     refine step_app (v := vC) w1.heap.size (by rfl) _ _ 25 5 (.int .u8 0) 1 1 (by rfl) Tryz.underlying25 HI.out rfl (by omega) (by omega) (by rfl) (by rfl) O175.out.1 O177.out.bv.sl (by simp only [List.length_append, List.length_cons, List.length_nil]; omega) G172.out.size ?_
     intro vD w178 hown hfr hat
     have G179 := hid (Frm.below G172.out hfr G172.out.size (fun g hg => (O175.out.1.lt g hg).1))
     have O180 : Hid (BO w1.heap.size w178 vD (((([p.kind] ++ putN p.path) ++ putN p.number) ++ (putN p.from_)) ++ (putN (p.data.length : Int) ++ p.data))) := hid (O175.out.app O177.out hown)
     have AP181 := hid (ap_app hat (fun j h1 h2 => AP168.out j h2 h1) O176.out)
     have O182 := hid (O176.out.frm hfr (fun j hz hx => (fun j h1 h2 => AP168.out j h2 h1) j hx hz))
     clear hown hfr hat
     refine Ko hK (KE.out _ G179.out) (fun hHeld => ?_)
     clear hK K
     refine rD 11 (o := ⟨some 45, _, _, _, _, _⟩) rfl (fun K hK => ?_)
     refine step_app (v := vD) w1.heap.size (by rfl) _ _ 25 5 (.int .u8 0) 1 1 (by rfl) Tryz.underlying25 HI.out rfl (by omega) (by omega) (by rfl) (by rfl) O180.out.1 O182.out.bv.sl (by simp only [List.length_append, List.length_cons, List.length_nil]; omega) G179.out.size ?_
     intro vE wy hown hfr hat
     have GY := hid (Frm.below G179.out hfr G179.out.size (fun g hg => (O180.out.1.lt g hg).1))
     have OY : Hid (BO w1.heap.size wy vE ((((([p.kind] ++ putN p.path) ++ putN p.number) ++ (putN p.from_)) ++ (putN (p.data.length : Int) ++ p.data)) ++ ([0]))) := hid (O180.out.app O182.out hown)
     clear hown hfr hat
     refine Ko hK (KE.out _ GY.out) (fun hHeld => ?_)
     clear hK K
     refine tk 12 (oi := ⟨some 4, _, _, _, _, _⟩) rfl ?_
     refine dn ?_
     rotate_left
     go_simp
     obtain ⟨w183, hW⟩ := lx (w133.alloc (.cells #[.int .u8 (0)] 5))
     obtain ⟨vZ, hV⟩ := lx (Value.slice (some ⟨w133.heap.size, 0, none⟩) 1 1)
     rw [← hW, ← hV]
     have hb : Below w133.heap.size w133 w183 := by rw [hW]; exact ba
     have ho : w183.ownsRow w133.heap.size 5 1 vZ 1 (u8s [0]) := by rw [hW, hV]; exact World.ownsRow_lit _ #[.int .u8 (0)] 1 (Nat.le_refl _) (by decide) rfl
     have G184 : Hid (Below w1.heap.size w1 w183) := hid (bO G134.out hb)
     have AP185 := hid (ap_new O136.out (fun j hj => (ho.lt j hj).1))
     have AP186 := hid (ap_new O137.out (fun j hj => (ho.lt j hj).1))
     have O187 := hid (O136.out.belowW hb)
     have O188 := hid (O137.out.belowW hb)
     have O189 : Hid (BO w1.heap.size w183 vZ [0]) := hid ⟨own_base ho G134.out.size, byt_one (by omega)⟩
     clear ho hb hW hV
     refine Ko hK (KE.out _ G184.out) (fun hHeld => ?_)
     clear hK K
     refine rD 4 (o := ⟨some 38, _, _, _, _, _⟩) rfl (fun K hK => ?_)
     refine step_app (v := vB) w1.heap.size (by rfl) _ _ 25 5 (.int .u8 0) 1 1 (by rfl) Tryz.underlying25 HI.out rfl (by omega) (by omega) (by rfl) (by rfl) O187.out.1 O188.out.bv.sl (by simp only [List.length_append, List.length_cons, List.length_nil]; omega) G184.out.size ?_
     intro vC w190 hown hfr hat
     have G191 := hid (Frm.below G184.out hfr G184.out.size (fun g hg => (O187.out.1.lt g hg).1))
     have O192 : Hid (BO w1.heap.size w190 vC ((([p.kind] ++ putN p.path) ++ putN p.number) ++ (putN p.from_))) := hid (O187.out.app O188.out hown)
     have AP193 := hid (ap_app hat (fun j h1 h2 => AP185.out j h2 h1) O189.out)
     have O194 := hid (O189.out.frm hfr (fun j hz hx => (fun j h1 h2 => AP185.out j h2 h1) j hx hz))
     clear hown hfr hat
     refine Ko hK (KE.out _ G191.out) (fun hHeld => ?_)
     clear hK K
     refine rD 7 (o := ⟨some 41, _, _, _, _, _⟩) rfl (fun K hK => ?_)
     go_simp
     refine (wrap_any _ S _ p.data (V1.out.below G191.out) (by omega)).mono ?_
     rintro e w195 ⟨vW, rfl, ho, hb⟩
     have G196 : Hid (Below w1.heap.size w1 w195) := hid (bO G191.out hb)
     have AP197 := hid (ap_new O194.out (fun j hj => (ho.1.lt j hj).1))
     have AP198 := hid (ap_new O192.out (fun j hj => (ho.1.lt j hj).1))
     have O199 := hid (O194.out.belowW hb)
     have O200 := hid (O192.out.belowW hb)
     have O201 : Hid (BO w1.heap.size w195 vW (putN (p.data.length : Int) ++ p.data)) := hid ⟨own_base ho.1 G191.out.size, ho.2⟩
     clear ho hb
     refine Ko hK (KE.out _ G196.out) (fun hHeld => ?_)
     clear hK K
     refine rD 8 (o := ⟨some 42, _, _, _, _, _⟩) rfl (fun K hK => ?_)
     refine step_app (v := vC) w1.heap.size (by rfl) _ _ 25 5 (.int .u8 0) 1 1 (by rfl) Tryz.underlying25 HI.out rfl (by omega) (by omega) (by rfl) (by rfl) O200.out.1 O201.out.bv.sl (by simp only [List.length_append, List.length_cons, List.length_nil]; omega) G196.out.size ?_
     intro vD w202 hown hfr hat
     have G203 := hid (Frm.below G196.out hfr G196.out.size (fun g hg => (O200.out.1.lt g hg).1))
     have O204 : Hid (BO w1.heap.size w202 vD (((([p.kind] ++ putN p.path) ++ putN p.number) ++ (putN p.from_)) ++ (putN (p.data.length : Int) ++ p.data))) := hid (O200.out.app O201.out hown)
     have AP205 := hid (ap_app hat AP193.out O199.out)
     have O206 := hid (O199.out.frm hfr (fun j hz hx => AP193.out j hx hz))
     clear hown hfr hat
     refine Ko hK (KE.out _ G203.out) (fun hHeld => ?_)
     clear hK K
     refine rD 11 (o := ⟨some 45, _, _, _, _, _⟩) rfl (fun K hK => ?_)
     refine step_app (v := vD) w1.heap.size (by rfl) _ _ 25 5 (.int .u8 0) 1 1 (by rfl) Tryz.underlying25 HI.out rfl (by omega) (by omega) (by rfl) (by rfl) O204.out.1 O206.out.bv.sl (by simp only [List.length_append, List.length_cons, List.length_nil]; omega) G203.out.size ?_
     intro vE wy hown hfr hat
     have GY := hid (Frm.below G203.out hfr G203.out.size (fun g hg => (O204.out.1.lt g hg).1))
     have OY : Hid (BO w1.heap.size wy vE ((((([p.kind] ++ putN p.path) ++ putN p.number) ++ (putN p.from_)) ++ (putN (p.data.length : Int) ++ p.data)) ++ ([0]))) := hid (O204.out.app O206.out hown)
     clear hown hfr hat
     refine Ko hK (KE.out _ GY.out) (fun hHeld => ?_)
     clear hK K
     refine tk 12 (oi := ⟨some 4, _, _, _, _, _⟩) rfl ?_
     refine dn ?_
     rotate_left
     go_simp
     obtain ⟨w207, hW⟩ := lx (we.alloc (.cells #[.int .u8 (0)] 5))
     obtain ⟨vZ, hV⟩ := lx (Value.slice (some ⟨we.heap.size, 0, none⟩) 1 1)
     rw [← hW, ← hV]
     have hb : Below we.heap.size we w207 := by rw [hW]; exact ba
     have ho : w207.ownsRow we.heap.size 5 1 vZ 1 (u8s [0]) := by rw [hW, hV]; exact World.ownsRow_lit _ #[.int .u8 (0)] 1 (Nat.le_refl _) (by decide) rfl
     have G208 : Hid (Below w1.heap.size w1 w207) := hid (bO GE.out hb)
     have AP209 := hid (ap_new OE.out (fun j hj => (ho.lt j hj).1))
     have O210 := hid (OE.out.belowW hb)
     have O211 : Hid (BO w1.heap.size w207 vZ [0]) := hid ⟨own_base ho GE.out.size, byt_one (by omega)⟩
     clear ho hb hW hV
     refine Ko hK (KE.out _ G208.out) (fun hHeld => ?_)
     clear hK K
     refine rD 3 (o := ⟨some 37, _, _, _, _, _⟩) rfl (fun K hK => ?_)
     go_simp
     refine (put_any p.from_ _ (by omega) (by omega)).mono ?_
     rintro e w212 ⟨vF, rfl, ho, hb⟩
     have G213 : Hid (Below w1.heap.size w1 w212) := hid (bO G208.out hb)
     have AP214 := hid (ap_new O210.out (fun j hj => (ho.1.lt j hj).1))
     have AP215 := hid (ap_new O211.out (fun j hj => (ho.1.lt j hj).1))
     have O216 := hid (O210.out.belowW hb)
     have O217 := hid (O211.out.belowW hb)
     have O218 : Hid (BO w1.heap.size w212 vF (putN p.from_)) := hid ⟨own_base ho.1 G208.out.size, ho.2⟩
     clear ho hb
     refine Ko hK (KE.out _ G213.out) (fun hHeld => ?_)
     clear hK K
     refine rD 4 (o := ⟨some 38, _, _, _, _, _⟩) rfl (fun K hK => ?_)
     refine step_app (v := vB) w1.heap.size (by rfl) _ _ 25 5 (.int .u8 0) 1 1 (by rfl) Tryz.underlying25 HI.out rfl (by omega) (by omega) (by rfl) (by rfl) O216.out.1 O218.out.bv.sl (by simp only [List.length_append, List.length_cons, List.length_nil]; omega) G213.out.size ?_
     intro vC w219 hown hfr hat
     have G220 := hid (Frm.below G213.out hfr G213.out.size (fun g hg => (O216.out.1.lt g hg).1))
     have O221 : Hid (BO w1.heap.size w219 vC ((([p.kind] ++ putN p.path) ++ putN p.number) ++ (putN p.from_))) := hid (O216.out.app O218.out hown)
     have AP222 := hid (ap_app hat (fun j h1 h2 => AP209.out j h2 h1) O217.out)
     have O223 := hid (O217.out.frm hfr (fun j hz hx => (fun j h1 h2 => AP209.out j h2 h1) j hx hz))
     clear hown hfr hat
     refine Ko hK (KE.out _ G220.out) (fun hHeld => ?_)
     clear hK K
     refine rD 7 (o := ⟨some 41, _, _, _, _, _⟩) rfl (fun K hK => ?_)
     go_simp
     refine (wrap_any _ S _ p.data (V1.out.below G220.out) (by omega)).mono ?_
     rintro e w224 ⟨vW, rfl, ho, hb⟩
     have G225 : Hid (Below w1.heap.size w1 w224) := hid (bO G220.out hb)
     have AP226 := hid (ap_new O223.out (fun j hj => (ho.1.lt j hj).1))
     have AP227 := hid (ap_new O221.out (fun j hj => (ho.1.lt j hj).1))
     have O228 := hid (O223.out.belowW hb)
     have O229 := hid (O221.out.belowW hb)
     have O230 : Hid (BO w1.heap.size w224 vW (putN (p.data.length : Int) ++ p.data)) := hid ⟨own_base ho.1 G220.out.size, ho.2⟩
     clear ho hb
     refine Ko hK (KE.out _ G225.out) (fun hHeld => ?_)
     clear hK K
     refine rD 8 (o := ⟨some 42, _, _, _, _, _⟩) rfl (fun K hK => ?_)
     refine step_app (v := vC) w1.heap.size (by rfl) _ _ 25 5 (.int .u8 0) 1 1 (by rfl) Tryz.underlying25 HI.out rfl (by omega) (by omega) (by rfl) (by rfl) O229.out.1 O230.out.bv.sl (by simp only [List.length_append, List.length_cons, List.length_nil]; omega) G225.out.size ?_
     intro vD w231 hown hfr hat
     have G232 := hid (Frm.below G225.out hfr G225.out.size (fun g hg => (O229.out.1.lt g hg).1))
     have O233 : Hid (BO w1.heap.size w231 vD (((([p.kind] ++ putN p.path) ++ putN p.number) ++ (putN p.from_)) ++ (putN (p.data.length : Int) ++ p.data))) := hid (O229.out.app O230.out hown)
     have AP234 := hid (ap_app hat AP222.out O228.out)
     have O235 := hid (O228.out.frm hfr (fun j hz hx => AP222.out j hx hz))
     clear hown hfr hat
     refine Ko hK (KE.out _ G232.out) (fun hHeld => ?_)
     clear hK K
     refine rD 11 (o := ⟨some 45, _, _, _, _, _⟩) rfl (fun K hK => ?_)
     refine step_app (v := vD) w1.heap.size (by rfl) _ _ 25 5 (.int .u8 0) 1 1 (by rfl) Tryz.underlying25 HI.out rfl (by omega) (by omega) (by rfl) (by rfl) O233.out.1 O235.out.bv.sl (by simp only [List.length_append, List.length_cons, List.length_nil]; omega) G232.out.size ?_
     intro vE wy hown hfr hat
     have GY := hid (Frm.below G232.out hfr G232.out.size (fun g hg => (O233.out.1.lt g hg).1))
     have OY : Hid (BO w1.heap.size wy vE ((((([p.kind] ++ putN p.path) ++ putN p.number) ++ (putN p.from_)) ++ (putN (p.data.length : Int) ++ p.data)) ++ ([0]))) := hid (O233.out.app O235.out hown)
     clear hown hfr hat
     refine Ko hK (KE.out _ GY.out) (fun hHeld => ?_)
     clear hK K
     refine tk 12 (oi := ⟨some 4, _, _, _, _, _⟩) rfl ?_
     refine dn ?_
     rotate_left
     all_goals
      go_wp2_with fail
      refine bodyPost_ret (results_two rfl _ _ _) rfl ?_
      exact hcont.out _ _ _ OY.out GY.out rfl
    ·rw [hfin] at x6 hfb
     simp only [if_true, if_false, Bool.false_eq_true] at hfb
     subst hfb
     go_wp2_with fail
     refine wp_region_held_drew (S := fun w' => w'.cell? ⟨gp, 4, none⟩ = some (.int .i64 p.from_) ∧ w'.cell? ⟨gp, 5, none⟩ = some (.slice A p.data.length c)) (by kernel_rfl) (KE.out _ GE.out) (fun hHeld => ?_)
     obtain ⟨we, hwe⟩ := lx (wx.drew)
     rw [← hwe] at hHeld GE OE ⊢
     clear hwe
     refine tk 0 (oi := ⟨some 34, _, _, _, _, _⟩) rfl ?_
     refine tk 1 (oi := ⟨some 35, _, _, _, _, _⟩) rfl ?_
     refine tk 2 (oi := ⟨some 36, _, _, _, _, _⟩) rfl ?_
     refine tk 5 (oi := ⟨some 39, _, _, _, _, _⟩) rfl ?_
     refine tk 6 (oi := ⟨some 40, _, _, _, _, _⟩) rfl ?_
     refine tk 9 (oi := ⟨some 43, _, _, _, _, _⟩) rfl ?_
     refine wpAnyH_ready (rs := [3, 10]) (by kernel_rfl) (by simp) ?_
     refine AllReadyH.cons (o := ⟨some 37, _, _, _, _, _⟩) rfl (fun K hK => ?_) (AllReadyH.cons (o := ⟨some 44, _, _, _, _, _⟩) rfl (fun K hK => ?_) AllReadyH.nil)
     go_simp
     refine (put_any p.from_ _ (by omega) (by omega)).mono ?_
     rintro e w236 ⟨vF, rfl, ho, hb⟩
     have G237 : Hid (Below w1.heap.size w1 w236) := hid (bO GE.out hb)
     have AP238 := hid (ap_new OE.out (fun j hj => (ho.1.lt j hj).1))
     have O239 := hid (OE.out.belowW hb)
     have O240 : Hid (BO w1.heap.size w236 vF (putN p.from_)) := hid ⟨own_base ho.1 GE.out.size, ho.2⟩
     clear ho hb
     refine Ko hK (KE.out _ G237.out) (fun hHeld => ?_)
     clear hK K
     refine wpAnyH_ready (rs := [4, 10]) (by kernel_rfl) (by simp) ?_
     refine AllReadyH.cons (o := ⟨some 38, _, _, _, _, _⟩) rfl (fun K hK => ?_) (AllReadyH.cons (o := ⟨some 44, _, _, _, _, _⟩) rfl (fun K hK => ?_) AllReadyH.nil)
     refine step_app (v := vB) w1.heap.size (by rfl) _ _ 25 5 (.int .u8 0) 1 1 (by rfl) Tryz.underlying25 HI.out rfl (by omega) (by omega) (by rfl) (by rfl) O239.out.1 O240.out.bv.sl (by simp only [List.length_append, List.length_cons, List.length_nil]; omega) G237.out.size ?_
     intro vC w241 hown hfr hat
     have G242 := hid (Frm.below G237.out hfr G237.out.size (fun g hg => (O239.out.1.lt g hg).1))
     have O243 : Hid (BO w1.heap.size w241 vC ((([p.kind] ++ putN p.path) ++ putN p.number) ++ (putN p.from_))) := hid (O239.out.app O240.out hown)
     clear hown hfr hat
     refine Ko hK (KE.out _ G242.out) (fun hHeld => ?_)
     clear hK K
     refine wpAnyH_ready (rs := [7, 10]) (by kernel_rfl) (by simp) ?_
     refine AllReadyH.cons (o := ⟨some 41, _, _, _, _, _⟩) rfl (fun K hK => ?_) (AllReadyH.cons (o := ⟨some 44, _, _, _, _, _⟩) rfl (fun K hK => ?_) AllReadyH.nil)
     go_simp
     refine (wrap_any _ S _ p.data (V1.out.below G242.out) (by omega)).mono ?_
     rintro e w244 ⟨vW, rfl, ho, hb⟩
     have G245 : Hid (Below w1.heap.size w1 w244) := hid (bO G242.out hb)
     have AP246 := hid (ap_new O243.out (fun j hj => (ho.1.lt j hj).1))
     have O247 := hid (O243.out.belowW hb)
     have O248 : Hid (BO w1.heap.size w244 vW (putN (p.data.length : Int) ++ p.data)) := hid ⟨own_base ho.1 G242.out.size, ho.2⟩
     clear ho hb
     refine Ko hK (KE.out _ G245.out) (fun hHeld => ?_)
     clear hK K
     refine wpAnyH_ready (rs := [8, 10]) (by kernel_rfl) (by simp) ?_
     refine AllReadyH.cons (o := ⟨some 42, _, _, _, _, _⟩) rfl (fun K hK => ?_) (AllReadyH.cons (o := ⟨some 44, _, _, _, _, _⟩) rfl (fun K hK => ?_) AllReadyH.nil)
     refine step_app (v := vC) w1.heap.size (by rfl) _ _ 25 5 (.int .u8 0) 1 1 (by rfl) Tryz.underlying25 HI.out rfl (by omega) (by omega) (by rfl) (by rfl) O247.out.1 O248.out.bv.sl (by simp only [List.length_append, List.length_cons, List.length_nil]; omega) G245.out.size ?_
     intro vD w249 hown hfr hat
     have G250 := hid (Frm.below G245.out hfr G245.out.size (fun g hg => (O247.out.1.lt g hg).1))
     have O251 : Hid (BO w1.heap.size w249 vD (((([p.kind] ++ putN p.path) ++ putN p.number) ++ (putN p.from_)) ++ (putN (p.data.length : Int) ++ p.data))) := hid (O247.out.app O248.out hown)
     clear hown hfr hat
     refine Ko hK (KE.out _ G250.out) (fun hHeld => ?_)
     clear hK K
     refine rD 10 (o := ⟨some 44, _, _, _, _, _⟩) rfl (fun K hK => ?_)
     go_simp
     obtain ⟨w252, hW⟩ := lx (w249.alloc (.cells #[.int .u8 (1)] 5))
     obtain ⟨vZ, hV⟩ := lx (Value.slice (some ⟨w249.heap.size, 0, none⟩) 1 1)
     rw [← hW, ← hV]
     have hb : Below w249.heap.size w249 w252 := by rw [hW]; exact ba
     have ho : w252.ownsRow w249.heap.size 5 1 vZ 1 (u8s [1]) := by rw [hW, hV]; exact World.ownsRow_lit _ #[.int .u8 (1)] 1 (Nat.le_refl _) (by decide) rfl
     have G253 : Hid (Below w1.heap.size w1 w252) := hid (bO G250.out hb)
     have AP254 := hid (ap_new O251.out (fun j hj => (ho.lt j hj).1))
     have O255 := hid (O251.out.belowW hb)
     have O256 : Hid (BO w1.heap.size w252 vZ [1]) := hid ⟨own_base ho G250.out.size, byt_one (by omega)⟩
     clear ho hb hW hV
     refine Ko hK (KE.out _ G253.out) (fun hHeld => ?_)
     clear hK K
     refine rD 11 (o := ⟨some 45, _, _, _, _, _⟩) rfl (fun K hK => ?_)
     refine step_app (v := vD) w1.heap.size (by rfl) _ _ 25 5 (.int .u8 0) 1 1 (by rfl) Tryz.underlying25 HI.out rfl (by omega) (by omega) (by rfl) (by rfl) O255.out.1 O256.out.bv.sl (by simp only [List.length_append, List.length_cons, List.length_nil]; omega) G253.out.size ?_
     intro vE wy hown hfr hat
     have GY := hid (Frm.below G253.out hfr G253.out.size (fun g hg => (O255.out.1.lt g hg).1))
     have OY : Hid (BO w1.heap.size wy vE ((((([p.kind] ++ putN p.path) ++ putN p.number) ++ (putN p.from_)) ++ (putN (p.data.length : Int) ++ p.data)) ++ ([1]))) := hid (O255.out.app O256.out hown)
     clear hown hfr hat
     refine Ko hK (KE.out _ GY.out) (fun hHeld => ?_)
     clear hK K
     refine tk 12 (oi := ⟨some 4, _, _, _, _, _⟩) rfl ?_
     refine dn ?_
     rotate_left
     go_simp
     obtain ⟨w257, hW⟩ := lx (w244.alloc (.cells #[.int .u8 (1)] 5))
     obtain ⟨vZ, hV⟩ := lx (Value.slice (some ⟨w244.heap.size, 0, none⟩) 1 1)
     rw [← hW, ← hV]
     have hb : Below w244.heap.size w244 w257 := by rw [hW]; exact ba
     have ho : w257.ownsRow w244.heap.size 5 1 vZ 1 (u8s [1]) := by rw [hW, hV]; exact World.ownsRow_lit _ #[.int .u8 (1)] 1 (Nat.le_refl _) (by decide) rfl
     have G258 : Hid (Below w1.heap.size w1 w257) := hid (bO G245.out hb)
     have AP259 := hid (ap_new O247.out (fun j hj => (ho.lt j hj).1))
     have AP260 := hid (ap_new O248.out (fun j hj => (ho.lt j hj).1))
     have O261 := hid (O247.out.belowW hb)
     have O262 := hid (O248.out.belowW hb)
     have O263 : Hid (BO w1.heap.size w257 vZ [1]) := hid ⟨own_base ho G245.out.size, byt_one (by omega)⟩
     clear ho hb hW hV
     refine Ko hK (KE.out _ G258.out) (fun hHeld => ?_)
     clear hK K
     refine rD 8 (o := ⟨some 42, _, _, _, _, _⟩) rfl (fun K hK => ?_)
     refine step_app (v := vC) w1.heap.size (by rfl) _ _ 25 5 (.int .u8 0) 1 1 (by rfl) Tryz.underlying25 HI.out rfl (by omega) (by omega) (by rfl) (by rfl) O261.out.1 O262.out.bv.sl (by simp only [List.length_append, List.length_cons, List.length_nil]; omega) G258.out.size ?_
     intro vD w264 hown hfr hat
     have G265 := hid (Frm.below G258.out hfr G258.out.size (fun g hg => (O261.out.1.lt g hg).1))
     have O266 : Hid (BO w1.heap.size w264 vD (((([p.kind] ++ putN p.path) ++ putN p.number) ++ (putN p.from_)) ++ (putN (p.data.length : Int) ++ p.data))) := hid (O261.out.app O262.out hown)
     have AP267 := hid (ap_app hat (fun j h1 h2 => AP259.out j h2 h1) O263.out)
     have O268 := hid (O263.out.frm hfr (fun j hz hx => (fun j h1 h2 => AP259.out j h2 h1) j hx hz))
     clear hown hfr hat
     refine Ko hK (KE.out _ G265.out) (fun hHeld => ?_)
     clear hK K
     refine rD 11 (o := ⟨some 45, _, _, _, _, _⟩) rfl (fun K hK => ?_)
     refine step_app (v := vD) w1.heap.size (by rfl) _ _ 25 5 (.int .u8 0) 1 1 (by rfl) Tryz.underlying25 HI.out rfl (by omega) (by omega) (by rfl) (by rfl) O266.out.1 O268.out.bv.sl (by simp only [List.length_append, List.length_cons, List.length_nil]; omega) G265.out.size ?_
     intro vE wy hown hfr hat
     have GY := hid (Frm.below G265.out hfr G265.out.size (fun g hg => (O266.out.1.lt g hg).1))
     have OY : Hid (BO w1.heap.size wy vE ((((([p.kind] ++ putN p.path) ++ putN p.number) ++ (putN p.from_)) ++ (putN (p.data.length : Int) ++ p.data)) ++ ([1]))) := hid (O266.out.app O268.out hown)
     clear hown hfr hat
     refine Ko hK (KE.out _ GY.out) (fun hHeld => ?_)
     clear hK K
     refine tk 12 (oi := ⟨some 4, _, _, _, _, _⟩) rfl ?_
     refine dn ?_
     rotate_left
     go_simp
     obtain ⟨w269, hW⟩ := lx (w241.alloc (.cells #[.int .u8 (1)] 5))
     obtain ⟨vZ, hV⟩ := lx (Value.slice (some ⟨w241.heap.size, 0, none⟩) 1 1)
     rw [← hW, ← hV]
     have hb : Below w241.heap.size w241 w269 := by rw [hW]; exact ba
     have ho : w269.ownsRow w241.heap.size 5 1 vZ 1 (u8s [1]) := by rw [hW, hV]; exact World.ownsRow_lit _ #[.int .u8 (1)] 1 (Nat.le_refl _) (by decide) rfl
     have G270 : Hid (Below w1.heap.size w1 w269) := hid (bO G242.out hb)
     have AP271 := hid (ap_new O243.out (fun j hj => (ho.lt j hj).1))
     have O272 := hid (O243.out.belowW hb)
     have O273 : Hid (BO w1.heap.size w269 vZ [1]) := hid ⟨own_base ho G242.out.size, byt_one (by omega)⟩
     clear ho hb hW hV
     refine Ko hK (KE.out _ G270.out) (fun hHeld => ?_)
     clear hK K
     refine rD 7 (o := ⟨some 41, _, _, _, _, _⟩) rfl (fun K hK => ?_)
     go_simp
     refine (wrap_any _ S _ p.data (V1.out.below G270.out) (by omega)).mono ?_
     rintro e w274 ⟨vW, rfl, ho, hb⟩
     have G275 : Hid (Below w1.heap.size w1 w274) := hid (bO G270.out hb)
     have AP276 := hid (ap_new O272.out (fun j hj => (ho.1.lt j hj).1))
     have AP277 := hid (ap_new O273.out (fun j hj => (ho.1.lt j hj).1))
     have O278 := hid (O272.out.belowW hb)
     have O279 := hid (O273.out.belowW hb)
     have O280 : Hid (BO w1.heap.size w274 vW (putN (p.data.length : Int) ++ p.data)) := hid ⟨own_base ho.1 G270.out.size, ho.2⟩
     clear ho hb
     refine Ko hK (KE.out _ G275.out) (fun hHeld => ?_)
     clear hK K
     refine rD 8 (o := ⟨some 42, _, _, _, _, _⟩) rfl (fun K hK => ?_)
     refine step_app (v := vC) w1.heap.size (by rfl) _ _ 25 5 (.int .u8 0) 1 1 (by rfl) Tryz.underlying25 HI.out rfl (by omega) (by omega) (by rfl) (by rfl) O278.out.1 O280.out.bv.sl (by simp only [List.length_append, List.length_cons, List.length_nil]; omega) G275.out.size ?_
     intro vD w281 hown hfr hat
     have G282 := hid (Frm.below G275.out hfr G275.out.size (fun g hg => (O278.out.1.lt g hg).1))
     have O283 : Hid (BO w1.heap.size w281 vD (((([p.kind] ++ putN p.path) ++ putN p.number) ++ (putN p.from_)) ++ (putN (p.data.length : Int) ++ p.data))) := hid (O278.out.app O280.out hown)
     have AP284 := hid (ap_app hat (fun j h1 h2 => AP271.out j h2 h1) O279.out)
     have O285 := hid (O279.out.frm hfr (fun j hz hx => (fun j h1 h2 => AP271.out j h2 h1) j hx hz))
     clear hown hfr hat
     refine Ko hK (KE.out _ G282.out) (fun hHeld => ?_)
     clear hK K
     refine rD 11 (o := ⟨some 45, _, _, _, _, _⟩) rfl (fun K hK => ?_)
     refine step_app (v := vD) w1.heap.size (by rfl) _ _ 25 5 (.int .u8 0) 1 1 (by rfl) Tryz.underlying25 HI.out rfl (by omega) (by omega) (by rfl) (by rfl) O283.out.1 O285.out.bv.sl (by simp only [List.length_append, List.length_cons, List.length_nil]; omega) G282.out.size ?_
     intro vE wy hown hfr hat
     have GY := hid (Frm.below G282.out hfr G282.out.size (fun g hg => (O283.out.1.lt g hg).1))
     have OY : Hid (BO w1.heap.size wy vE ((((([p.kind] ++ putN p.path) ++ putN p.number) ++ (putN p.from_)) ++ (putN (p.data.length : Int) ++ p.data)) ++ ([1]))) := hid (O283.out.app O285.out hown)
     clear hown hfr hat
     refine Ko hK (KE.out _ GY.out) (fun hHeld => ?_)
     clear hK K
     refine tk 12 (oi := ⟨some 4, _, _, _, _, _⟩) rfl ?_
     refine dn ?_
     rotate_left
     go_simp
     obtain ⟨w286, hW⟩ := lx (w236.alloc (.cells #[.int .u8 (1)] 5))
     obtain ⟨vZ, hV⟩ := lx (Value.slice (some ⟨w236.heap.size, 0, none⟩) 1 1)
     rw [← hW, ← hV]
     have hb : Below w236.heap.size w236 w286 := by rw [hW]; exact ba
     have ho : w286.ownsRow w236.heap.size 5 1 vZ 1 (u8s [1]) := by rw [hW, hV]; exact World.ownsRow_lit _ #[.int .u8 (1)] 1 (Nat.le_refl _) (by decide) rfl
     have G287 : Hid (Below w1.heap.size w1 w286) := hid (bO G237.out hb)
     have AP288 := hid (ap_new O239.out (fun j hj => (ho.lt j hj).1))
     have AP289 := hid (ap_new O240.out (fun j hj => (ho.lt j hj).1))
     have O290 := hid (O239.out.belowW hb)
     have O291 := hid (O240.out.belowW hb)
     have O292 : Hid (BO w1.heap.size w286 vZ [1]) := hid ⟨own_base ho G237.out.size, byt_one (by omega)⟩
     clear ho hb hW hV
     refine Ko hK (KE.out _ G287.out) (fun hHeld => ?_)
     clear hK K
     refine rD 4 (o := ⟨some 38, _, _, _, _, _⟩) rfl (fun K hK => ?_)
     refine step_app (v := vB) w1.heap.size (by rfl) _ _ 25 5 (.int .u8 0) 1 1 (by rfl) Tryz.underlying25 HI.out rfl (by omega) (by omega) (by rfl) (by rfl) O290.out.1 O291.out.bv.sl (by simp only [List.length_append, List.length_cons, List.length_nil]; omega) G287.out.size ?_
     intro vC w293 hown hfr hat
     have G294 := hid (Frm.below G287.out hfr G287.out.size (fun g hg => (O290.out.1.lt g hg).1))
     have O295 : Hid (BO w1.heap.size w293 vC ((([p.kind] ++ putN p.path) ++ putN p.number) ++ (putN p.from_))) := hid (O290.out.app O291.out hown)
     have AP296 := hid (ap_app hat (fun j h1 h2 => AP288.out j h2 h1) O292.out)
     have O297 := hid (O292.out.frm hfr (fun j hz hx => (fun j h1 h2 => AP288.out j h2 h1) j hx hz))
     clear hown hfr hat
     refine Ko hK (KE.out _ G294.out) (fun hHeld => ?_)
     clear hK K
     refine rD 7 (o := ⟨some 41, _, _, _, _, _⟩) rfl (fun K hK => ?_)
     go_simp
     refine (wrap_any _ S _ p.data (V1.out.below G294.out) (by omega)).mono ?_
     rintro e w298 ⟨vW, rfl, ho, hb⟩
     have G299 : Hid (Below w1.heap.size w1 w298) := hid (bO G294.out hb)
     have AP300 := hid (ap_new O297.out (fun j hj => (ho.1.lt j hj).1))
     have AP301 := hid (ap_new O295.out (fun j hj => (ho.1.lt j hj).1))
     have O302 := hid (O297.out.belowW hb)
     have O303 := hid (O295.out.belowW hb)
     have O304 : Hid (BO w1.heap.size w298 vW (putN (p.data.length : Int) ++ p.data)) := hid ⟨own_base ho.1 G294.out.size, ho.2⟩
     clear ho hb
     refine Ko hK (KE.out _ G299.out) (fun hHeld => ?_)
     clear hK K
     refine rD 8 (o := ⟨some 42, _, _, _, _, _⟩) rfl (fun K hK => ?_)
     refine step_app (v := vC) w1.heap.size (by rfl) _ _ 25 5 (.int .u8 0) 1 1 (by rfl) Tryz.underlying25 HI.out rfl (by omega) (by omega) (by rfl) (by rfl) O303.out.1 O304.out.bv.sl (by simp only [List.length_append, List.length_cons, List.length_nil]; omega) G299.out.size ?_
     intro vD w305 hown hfr hat
     have G306 := hid (Frm.below G299.out hfr G299.out.size (fun g hg => (O303.out.1.lt g hg).1))
     have O307 : Hid (BO w1.heap.size w305 vD (((([p.kind] ++ putN p.path) ++ putN p.number) ++ (putN p.from_)) ++ (putN (p.data.length : Int) ++ p.data))) := hid (O303.out.app O304.out hown)
     have AP308 := hid (ap_app hat AP296.out O302.out)
     have O309 := hid (O302.out.frm hfr (fun j hz hx => AP296.out j hx hz))
     clear hown hfr hat
     refine Ko hK (KE.out _ G306.out) (fun hHeld => ?_)
     clear hK K
     refine rD 11 (o := ⟨some 45, _, _, _, _, _⟩) rfl (fun K hK => ?_)
     refine step_app (v := vD) w1.heap.size (by rfl) _ _ 25 5 (.int .u8 0) 1 1 (by rfl) Tryz.underlying25 HI.out rfl (by omega) (by omega) (by rfl) (by rfl) O307.out.1 O309.out.bv.sl (by simp only [List.length_append, List.length_cons, List.length_nil]; omega) G306.out.size ?_
     intro vE wy hown hfr hat
     have GY := hid (Frm.below G306.out hfr G306.out.size (fun g hg => (O307.out.1.lt g hg).1))
     have OY : Hid (BO w1.heap.size wy vE ((((([p.kind] ++ putN p.path) ++ putN p.number) ++ (putN p.from_)) ++ (putN (p.data.length : Int) ++ p.data)) ++ ([1]))) := hid (O307.out.app O309.out hown)
     clear hown hfr hat
     refine Ko hK (KE.out _ GY.out) (fun hHeld => ?_)
     clear hK K
     refine tk 12 (oi := ⟨some 4, _, _, _, _, _⟩) rfl ?_
     refine dn ?_
     rotate_left
     go_simp
     obtain ⟨w310, hW⟩ := lx (we.alloc (.cells #[.int .u8 (1)] 5))
     obtain ⟨vZ, hV⟩ := lx (Value.slice (some ⟨we.heap.size, 0, none⟩) 1 1)
     rw [← hW, ← hV]
     have hb : Below we.heap.size we w310 := by rw [hW]; exact ba
     have ho : w310.ownsRow we.heap.size 5 1 vZ 1 (u8s [1]) := by rw [hW, hV]; exact World.ownsRow_lit _ #[.int .u8 (1)] 1 (Nat.le_refl _) (by decide) rfl
     have G311 : Hid (Below w1.heap.size w1 w310) := hid (bO GE.out hb)
     have AP312 := hid (ap_new OE.out (fun j hj => (ho.lt j hj).1))
     have O313 := hid (OE.out.belowW hb)
     have O314 : Hid (BO w1.heap.size w310 vZ [1]) := hid ⟨own_base ho GE.out.size, byt_one (by omega)⟩
     clear ho hb hW hV
     refine Ko hK (KE.out _ G311.out) (fun hHeld => ?_)
     clear hK K
     refine rD 3 (o := ⟨some 37, _, _, _, _, _⟩) rfl (fun K hK => ?_)
     go_simp
     refine (put_any p.from_ _ (by omega) (by omega)).mono ?_
     rintro e w315 ⟨vF, rfl, ho, hb⟩
     have G316 : Hid (Below w1.heap.size w1 w315) := hid (bO G311.out hb)
     have AP317 := hid (ap_new O313.out (fun j hj => (ho.1.lt j hj).1))
     have AP318 := hid (ap_new O314.out (fun j hj => (ho.1.lt j hj).1))
     have O319 := hid (O313.out.belowW hb)
     have O320 := hid (O314.out.belowW hb)
     have O321 : Hid (BO w1.heap.size w315 vF (putN p.from_)) := hid ⟨own_base ho.1 G311.out.size, ho.2⟩
     clear ho hb
     refine Ko hK (KE.out _ G316.out) (fun hHeld => ?_)
     clear hK K
     refine rD 4 (o := ⟨some 38, _, _, _, _, _⟩) rfl (fun K hK => ?_)
     refine step_app (v := vB) w1.heap.size (by rfl) _ _ 25 5 (.int .u8 0) 1 1 (by rfl) Tryz.underlying25 HI.out rfl (by omega) (by omega) (by rfl) (by rfl) O319.out.1 O321.out.bv.sl (by simp only [List.length_append, List.length_cons, List.length_nil]; omega) G316.out.size ?_
     intro vC w322 hown hfr hat
     have G323 := hid (Frm.below G316.out hfr G316.out.size (fun g hg => (O319.out.1.lt g hg).1))
     have O324 : Hid (BO w1.heap.size w322 vC ((([p.kind] ++ putN p.path) ++ putN p.number) ++ (putN p.from_))) := hid (O319.out.app O321.out hown)
     have AP325 := hid (ap_app hat (fun j h1 h2 => AP312.out j h2 h1) O320.out)
     have O326 := hid (O320.out.frm hfr (fun j hz hx => (fun j h1 h2 => AP312.out j h2 h1) j hx hz))
     clear hown hfr hat
     refine Ko hK (KE.out _ G323.out) (fun hHeld => ?_)
     clear hK K
     refine rD 7 (o := ⟨some 41, _, _, _, _, _⟩) rfl (fun K hK => ?_)
     go_simp
     refine (wrap_any _ S _ p.data (V1.out.below G323.out) (by omega)).mono ?_
     rintro e w327 ⟨vW, rfl, ho, hb⟩
     have G328 : Hid (Below w1.heap.size w1 w327) := hid (bO G323.out hb)
     have AP329 := hid (ap_new O326.out (fun j hj => (ho.1.lt j hj).1))
     have AP330 := hid (ap_new O324.out (fun j hj => (ho.1.lt j hj).1))
     have O331 := hid (O326.out.belowW hb)
     have O332 := hid (O324.out.belowW hb)
     have O333 : Hid (BO w1.heap.size w327 vW (putN (p.data.length : Int) ++ p.data)) := hid ⟨own_base ho.1 G323.out.size, ho.2⟩
     clear ho hb
     refine Ko hK (KE.out _ G328.out) (fun hHeld => ?_)
     clear hK K
     refine rD 8 (o := ⟨some 42, _, _, _, _, _⟩) rfl (fun K hK => ?_)
     refine step_app (v := vC) w1.heap.size (by rfl) _ _ 25 5 (.int .u8 0) 1 1 (by rfl) Tryz.underlying25 HI.out rfl (by omega) (by omega) (by rfl) (by rfl) O332.out.1 O333.out.bv.sl (by simp only [List.length_append, List.length_cons, List.length_nil]; omega) G328.out.size ?_
     intro vD w334 hown hfr hat
     have G335 := hid (Frm.below G328.out hfr G328.out.size (fun g hg => (O332.out.1.lt g hg).1))
     have O336 : Hid (BO w1.heap.size w334 vD (((([p.kind] ++ putN p.path) ++ putN p.number) ++ (putN p.from_)) ++ (putN (p.data.length : Int) ++ p.data))) := hid (O332.out.app O333.out hown)
     have AP337 := hid (ap_app hat AP325.out O331.out)
     have O338 := hid (O331.out.frm hfr (fun j hz hx => AP325.out j hx hz))
     clear hown hfr hat
     refine Ko hK (KE.out _ G335.out) (fun hHeld => ?_)
     clear hK K
     refine rD 11 (o := ⟨some 45, _, _, _, _, _⟩) rfl (fun K hK => ?_)
     refine step_app (v := vD) w1.heap.size (by rfl) _ _ 25 5 (.int .u8 0) 1 1 (by rfl) Tryz.underlying25 HI.out rfl (by omega) (by omega) (by rfl) (by rfl) O336.out.1 O338.out.bv.sl (by simp only [List.length_append, List.length_cons, List.length_nil]; omega) G335.out.size ?_
     intro vE wy hown hfr hat
     have GY := hid (Frm.below G335.out hfr G335.out.size (fun g hg => (O336.out.1.lt g hg).1))
     have OY : Hid (BO w1.heap.size wy vE ((((([p.kind] ++ putN p.path) ++ putN p.number) ++ (putN p.from_)) ++ (putN (p.data.length : Int) ++ p.data)) ++ ([1]))) := hid (O336.out.app O338.out hown)
     clear hown hfr hat
     refine Ko hK (KE.out _ GY.out) (fun hHeld => ?_)
     clear hK K
     refine tk 12 (oi := ⟨some 4, _, _, _, _, _⟩) rfl ?_
     refine dn ?_
     rotate_left
     all_goals
      go_wp2_with fail
      refine bodyPost_ret (results_two rfl _ _ _) rfl ?_
      exact hcont.out _ _ _ OY.out GY.out rfl
   ·rw [hk] at x0
    have ha1 := (HR.out (by trivial)).ack1 hk
    have ho1 := (HR.out (by trivial)).of1 (.inr hk)
    have K3 : Hid (∀ W, Below w1.heap.size w1 W → W.cell? ⟨gp, 3, none⟩ = some (.int .i64 p.of_) ∧ W.cell? ⟨gp, 7, none⟩ = some (.int .i64 p.seen) ∧ W.cell? ⟨gp, 8, none⟩ = some (.int .i64 p.limit)) := hid (fun W hW => ⟨(P1.out.below hW).cell 3, (P1.out.below hW).cell 7, (P1.out.below hW).cell 8⟩)
    have GE : Hid (Below w1.heap.size w1 wx.drew) := hid GX.out.drew
    have OE : Hid (BO w1.heap.size wx.drew vB (([p.kind] ++ putN p.path) ++ putN p.number)) := hid OX.out
    clear KE hHeld
    have KE := K3
    clear K3
    go_wp2_with fail
    refine wp_region_held_drew (S := fun w' => w'.cell? ⟨gp, 3, none⟩ = some (.int .i64 p.of_) ∧ w'.cell? ⟨gp, 7, none⟩ = some (.int .i64 p.seen) ∧ w'.cell? ⟨gp, 8, none⟩ = some (.int .i64 p.limit)) (by kernel_rfl) (KE.out _ GE.out) (fun hHeld => ?_)
    obtain ⟨we, hwe⟩ := lx (wx.drew)
    rw [← hwe] at hHeld GE OE ⊢
    clear hwe
    refine tk 0 (oi := ⟨some 48, _, _, _, _, _⟩) rfl ?_
    refine tk 1 (oi := ⟨some 49, _, _, _, _, _⟩) rfl ?_
    refine tk 2 (oi := ⟨some 50, _, _, _, _, _⟩) rfl ?_
    refine tk 5 (oi := ⟨some 53, _, _, _, _, _⟩) rfl ?_
    refine tk 6 (oi := ⟨some 54, _, _, _, _, _⟩) rfl ?_
    refine tk 9 (oi := ⟨some 57, _, _, _, _, _⟩) rfl ?_
    refine tk 10 (oi := ⟨some 58, _, _, _, _, _⟩) rfl ?_
    refine rD 3 (o := ⟨some 51, _, _, _, _, _⟩) rfl (fun K hK => ?_)
    go_simp
    refine (put_any p.of_ _ (by omega) (by omega)).mono ?_
    rintro e w339 ⟨vF, rfl, ho, hb⟩
    have G340 : Hid (Below w1.heap.size w1 w339) := hid (bO GE.out hb)
    have AP341 := hid (ap_new OE.out (fun j hj => (ho.1.lt j hj).1))
    have O342 := hid (OE.out.belowW hb)
    have O343 : Hid (BO w1.heap.size w339 vF (putN p.of_)) := hid ⟨own_base ho.1 GE.out.size, ho.2⟩
    clear ho hb
    refine Ko hK (KE.out _ G340.out) (fun hHeld => ?_)
    clear hK K
    refine rD 4 (o := ⟨some 52, _, _, _, _, _⟩) rfl (fun K hK => ?_)
    refine step_app (v := vB) w1.heap.size (by rfl) _ _ 25 5 (.int .u8 0) 1 1 (by rfl) Tryz.underlying25 HI.out rfl (by omega) (by omega) (by rfl) (by rfl) O342.out.1 O343.out.bv.sl (by simp only [List.length_append, List.length_cons, List.length_nil]; omega) G340.out.size ?_
    intro vC w344 hown hfr hat
    have G345 := hid (Frm.below G340.out hfr G340.out.size (fun g hg => (O342.out.1.lt g hg).1))
    have O346 : Hid (BO w1.heap.size w344 vC ((([p.kind] ++ putN p.path) ++ putN p.number) ++ (putN p.of_))) := hid (O342.out.app O343.out hown)
    clear hown hfr hat
    refine Ko hK (KE.out _ G345.out) (fun hHeld => ?_)
    clear hK K
    refine rD 7 (o := ⟨some 55, _, _, _, _, _⟩) rfl (fun K hK => ?_)
    go_simp
    refine (put_any p.seen _ (by omega) (by omega)).mono ?_
    rintro e w347 ⟨vW, rfl, ho, hb⟩
    have G348 : Hid (Below w1.heap.size w1 w347) := hid (bO G345.out hb)
    have AP349 := hid (ap_new O346.out (fun j hj => (ho.1.lt j hj).1))
    have O350 := hid (O346.out.belowW hb)
    have O351 : Hid (BO w1.heap.size w347 vW (putN p.seen)) := hid ⟨own_base ho.1 G345.out.size, ho.2⟩
    clear ho hb
    refine Ko hK (KE.out _ G348.out) (fun hHeld => ?_)
    clear hK K
    refine rD 8 (o := ⟨some 56, _, _, _, _, _⟩) rfl (fun K hK => ?_)
    refine step_app (v := vC) w1.heap.size (by rfl) _ _ 25 5 (.int .u8 0) 1 1 (by rfl) Tryz.underlying25 HI.out rfl (by omega) (by omega) (by rfl) (by rfl) O350.out.1 O351.out.bv.sl (by simp only [List.length_append, List.length_cons, List.length_nil]; omega) G348.out.size ?_
    intro vD w352 hown hfr hat
    have G353 := hid (Frm.below G348.out hfr G348.out.size (fun g hg => (O350.out.1.lt g hg).1))
    have O354 : Hid (BO w1.heap.size w352 vD (((([p.kind] ++ putN p.path) ++ putN p.number) ++ (putN p.of_)) ++ (putN p.seen))) := hid (O350.out.app O351.out hown)
    clear hown hfr hat
    refine Ko hK (KE.out _ G353.out) (fun hHeld => ?_)
    clear hK K
    refine rD 11 (o := ⟨some 59, _, _, _, _, _⟩) rfl (fun K hK => ?_)
    go_simp
    refine (put_any p.limit _ (by omega) (by omega)).mono ?_
    rintro e w355 ⟨vZ, rfl, ho, hb⟩
    have G356 : Hid (Below w1.heap.size w1 w355) := hid (bO G353.out hb)
    have AP357 := hid (ap_new O354.out (fun j hj => (ho.1.lt j hj).1))
    have O358 := hid (O354.out.belowW hb)
    have O359 : Hid (BO w1.heap.size w355 vZ (putN p.limit)) := hid ⟨own_base ho.1 G353.out.size, ho.2⟩
    clear ho hb
    refine Ko hK (KE.out _ G356.out) (fun hHeld => ?_)
    clear hK K
    refine rD 12 (o := ⟨some 60, _, _, _, _, _⟩) rfl (fun K hK => ?_)
    refine step_app (v := vD) w1.heap.size (by rfl) _ _ 25 5 (.int .u8 0) 1 1 (by rfl) Tryz.underlying25 HI.out rfl (by omega) (by omega) (by rfl) (by rfl) O358.out.1 O359.out.bv.sl (by simp only [List.length_append, List.length_cons, List.length_nil]; omega) G356.out.size ?_
    intro vE wy hown hfr hat
    have GY := hid (Frm.below G356.out hfr G356.out.size (fun g hg => (O358.out.1.lt g hg).1))
    have OY : Hid (BO w1.heap.size wy vE ((((([p.kind] ++ putN p.path) ++ putN p.number) ++ (putN p.of_)) ++ (putN p.seen)) ++ (putN p.limit))) := hid (O358.out.app O359.out hown)
    clear hown hfr hat
    refine Ko hK (KE.out _ GY.out) (fun hHeld => ?_)
    clear hK K
    refine tk 13 (oi := ⟨some 4, _, _, _, _, _⟩) rfl ?_
    refine dn ?_
    rotate_left
    go_wp2_with fail
    refine bodyPost_ret (results_two rfl _ _ _) rfl ?_
    exact ⟨_, _, _, rfl, ⟨own_base OY.out.1 s1, OY.out.2⟩, (fun _ => ⟨HR.out (by trivial), by simp [plainL, hk]⟩), bO B1.out GY.out⟩
end
end Go.Proofs.YtdneakejlbabeaaGreat
