/- Parts of the walk: Wi. -/
import Derived.Test.YtdneakejlbabeaaGreatM00
import Derived.Deep.CutBlock
import Derived.Test.YtdneakejlbabeaaGreatM13
namespace Go.Proofs.YtdneakejlbabeaaGreat
open Go.RowKit
set_option linter.unusedVariables false
set_option linter.unusedSimpArgs false
section
theorem copybo (w : World) (S : Nat → Prop) (v : Value) (l : List Int) (h : BV w S v l) (hl : l.length ≤ 100000000) : Calls Tryz.prog 22 #[v] w fun e w' => NewO w l e w' := by
 refine (copyb_any w v l.length (u8s l) h.sl (by omega)).mono ?_
 rintro e w' ⟨v', rfl, ho, hb⟩
 have h2 : BO w.heap.size w' v' l := ⟨ho, h.byt⟩
 obtain ⟨A, c, rfl, _⟩ := h2.bv.len
 exact ⟨A, c, rfl, h2, hb⟩
theorem byte_more' {B : Nat} {w w' : World} {A A' : Option Addr} {c c' m : Nat} {l : List Int} (z : Int) (hz : 0 ≤ z ∧ z < 256) (h : BO B w (.slice A l.length c) l) (k : w'.ownsRow B 5 1 (.slice A' (l.length + 1) c') (l.length + 1) (u8s l ++ [.int .u8 z])) (hl : l.length ≤ m) :
  ∃ d, Hid (BO B w' (.slice A' d.length c') d) ∧ d.length ≤ m + 1 ∧ l.length + 1 = d.length := by
 refine ⟨l ++ [z], hid ⟨?_, ?_⟩, by simp; omega, by simp⟩
 ·rw [u8s_append, List.length_append]
  exact k
 ·intro x hx
  rw [List.mem_append] at hx
  rcases hx with hx | hx
  ·exact h.2 x hx
  ·simp at hx
   omega
theorem within_some (v n : Int) (w : World) (hn : 0 < n) (hn2 : n ≤ 1000000) : Calls Tryz.prog 8 #[.int .i64 v, .int .i64 n] w fun e w' => (∃ z, e = .returned (.int .i64 z)) ∧ w = w' :=
 (within_any v n w hn hn2).mono (fun e w' h => ⟨⟨_, h.1⟩, h.2⟩)
theorem frm_none {W W' : World} (h : Frm (fun j => (Value.slice none 0 0).ownBlock = some j) W W') : Below W.heap.size W W' :=
 ⟨h.os, h.tape, h.output, h.size, fun k hk => h.block k hk (fun e => by cases e)⟩
set_option maxHeartbeats 32000000 in
set_option maxRecDepth 100000 in
theorem change_any (w : World) (S S' : Nat → Prop) (v : Value) (es : List Ev) (p : Ev) (x y : Value) (how at_ to_ : Int) (h : ERow S w v es) (he : EV w S' p (x, y)) (hl : es.length ≤ 500000) (hs : ∀ e ∈ es, e.data.length ≤ 1000000 ∧ e.pk.data.length ≤ 1000000) (hp1 : p.data.length ≤ 1000000) (hp2 : p.pk.data.length ≤ 1000000) :
  Calls Tryz.prog 9 #[v, .int .i64 how, .int .i64 at_, .int .i64 to_, eagg p x y] w fun r w' => ChR w es.length r w' := by
 obtain ⟨B, b, rfl, hb1, hb2⟩ := h.len
 unfold maxLen at hb2
 obtain ⟨hx, hy⟩ := he
 dsimp only at hx hy
 obtain ⟨A, c, rfl, _⟩ := hx.len
 obtain ⟨C, d, rfl, _⟩ := hy.len
 have hle := LE.of_row (S' := fun j => j < w.heap.size) h (fun j _ hj => hj) hs
 obtain ⟨n, hn⟩ : ∃ n, es.length = n := ⟨_, rfl⟩
 rw [hn] at hle hl hb1 ⊢
 obtain ⟨w0, hw0⟩ := lx (w.alloc (.cells #[.int .i64 p.kind, .int .i64 p.n, .slice A p.data.length c, .int .i64 p.pk.kind, .int .i64 p.pk.path, .int .i64 p.pk.number, .int .i64 p.pk.of_, .int .i64 p.pk.from_, .slice C p.pk.data.length d, .bool p.pk.fin, .int .i64 p.pk.seen, .int .i64 p.pk.limit] 29))
 obtain ⟨gE, hgE⟩ := lx (w.heap.size)
 have BE : Hid (Blk w0 gE #[.int .i64 p.kind, .int .i64 p.n, .slice A p.data.length c, .int .i64 p.pk.kind, .int .i64 p.pk.path, .int .i64 p.pk.number, .int .i64 p.pk.of_, .int .i64 p.pk.from_, .slice C p.pk.data.length d, .bool p.pk.fin, .int .i64 p.pk.seen, .int .i64 p.pk.limit] 29) := hid (by rw [hw0, hgE]; exact Blk.new _ _ _)
 have B0 : Hid (Below w.heap.size w w0) := hid (by rw [hw0]; exact ba)
 have EP : Hid (EV w0 (fun j => j < w.heap.size) p (.slice A p.data.length c, .slice C p.pk.data.length d)) := hid ⟨(hx.mono (fun j hj hl => hl)).below B0.out, (hy.mono (fun j hj hl => hl)).below B0.out⟩
 have HL := hid (hle.below B0.out)
 have HP := hid (And.intro hp1 hp2)
 have hw0' := hw0.symm
 have hgE' := hgE.symm
 have k0 := BE.out.cell 0
 have k1 := BE.out.cell 1
 have k2 := BE.out.cell 2
 have k3 := BE.out.cell 3
 have k4 := BE.out.cell 4
 have k5 := BE.out.cell 5
 have k6 := BE.out.cell 6
 have k7 := BE.out.cell 7
 have k8 := BE.out.cell 8
 have k9 := BE.out.cell 9
 have k10 := BE.out.cell 10
 have k11 := BE.out.cell 11
 simp only [gA, gZ, gC] at k0 k1 k2 k3 k4 k5 k6 k7 k8 k9 k10 k11
 clear hw0 hgE hx hy hle hs h hn hp1 hp2
 have HI := hid Tryz.info29
 by_cases h0 : n = 0
 ·subst h0
  have LB := hid (LE.box (m := 1000001) EP.out (by have := HP.out.1; omega) (by have := HP.out.2; omega) _ rfl)
  go_enter Tryz.func9, Tryz.ntmps9
  go_wp2_with fail
  go_ret
  exact LB.out.fin (by omega) (by omega) (B0.out.alloc B0.out.size _)
 ·have e0 : ((n : Int) == 0) = false := by simp [h0]
  have n0 : 0 < (n : Int) := by omega
  have n1 : (n : Int) ≤ 1000000 := by omega
  go_enter Tryz.func9, Tryz.ntmps9
  go_wp2_with fail
  clear hw0' hgE' k0 k1 k2 k3 k4 k5 k6 k7 k8 k9 k10 k11
  refine (within_any at_ n w0 n0 n1).mono ?_
  rintro e _ ⟨rfl, rfl⟩
  obtain ⟨i, hi, hli⟩ : ∃ k : Nat, (k : Int) = at_ % (n : Int) ∧ k < n := ⟨(at_ % (n : Int)).toNat, Int.toNat_of_nonneg (Int.emod_nonneg _ (by omega)), by have h1 := Int.emod_lt_of_pos at_ n0; have h2 := Int.emod_nonneg at_ (show (n : Int) ≠ 0 by omega); omega⟩
  rw [← hi]
  clear hi
  go_wp2_with fail
  refine (within_any to_ n w0 n0 n1).mono ?_
  rintro e _ ⟨rfl, rfl⟩
  obtain ⟨j, hj, hlj⟩ : ∃ k : Nat, (k : Int) = to_ % (n : Int) ∧ k < n := ⟨(to_ % (n : Int)).toNat, Int.toNat_of_nonneg (Int.emod_nonneg _ (by omega)), by have h1 := Int.emod_lt_of_pos to_ n0; have h2 := Int.emod_nonneg to_ (show (n : Int) ≠ 0 by omega); omega⟩
  rw [← hj]
  clear hj
  skip
  obtain ⟨xs, sl, ex⟩ := HL.out
  have SL := hid sl
  have EX := hid ex
  clear sl ex
  go_wp2_with (at_builtin; refine wp_app w.heap.size rfl _ _ 30 29 _ 12 128 rfl Tryz.underlying30 HI.out rfl (by omega) (by omega) rfl rfl (World.ownsRow_nil _ _ _ _) SL.out (by omega) B0.out.size ?_; intro v1 w1 hown hfr hat)
  have HO := hid (ev_app (S := fun j => j < w.heap.size) (EvC.nil w0 _ 1000000) EX.out (fun j hj e => by cases e) hown hfr hat)
  have G1 := hid (frm_none hfr)
  clear hown hfr hat SL EX xs
  rw [Nat.zero_add] at HO
  obtain ⟨g, cap, rfl, hg1, hg2, hc1, hc2⟩ := HO.out.form (by omega)
  unfold maxLen at hc2
  obtain ⟨ad, had⟩ := lx ((⟨g, 0, none⟩ : Addr))
  have HAD := hid had
  rw [← had]
  clear had
  have PI : Hid (ad.add (i * 12) = ⟨g, i * 12, none⟩) := hid (by rw [HAD.out]; exact add_zero_at g _)
  have PJ : Hid (ad.add (j * 12) = ⟨g, j * 12, none⟩) := hid (by rw [HAD.out]; exact add_zero_at g _)
  have B1 := hid (bO B0.out G1.out)
  have BE1 := hid (BE.out.below G1.out)
  have EP1 : Hid (EV w1 (fun j => j < w1.heap.size) p (.slice A p.data.length c, .slice C p.pk.data.length d)) := hid ⟨(EP.out.1.below G1.out).mono (fun j hj hl => hl), (EP.out.2.below G1.out).mono (fun j hj hl => hl)⟩
  have HL1 : Hid (LE w1 (fun j => j < w1.heap.size) 1000000 n (.slice B n b)) := hid ((HL.out.below G1.out).mono (fun j hj hl => hl))
  have z0 : (0 : Int) ≤ (i : Int) := by omega
  have z1 : (i : Int) < (n : Int) := by omega
  have z2 : (0 : Int) ≤ (j : Int) := by omega
  have z3 : (j : Int) < (n : Int) := by omega
  have z4 : (i : Int) ≤ (cap : Int) := by omega
  have z5 : (i : Int) ≤ (b : Int) := by omega
  have z6 : (i : Int) + 1 ≤ (n : Int) := by omega
  have z7 : (0 : Int) ≤ (i : Int) + 1 := by omega
  have z8 : (n : Int) ≤ (cap : Int) := by omega
  have z9 : (n : Int) ≤ (b : Int) := by omega
  have z10 : (i : Int) ≤ (n : Int) := by omega
  have iw : IntKind.i64.wrap ((i : Int) + 1) = (i : Int) + 1 := iX
  have B1s : w.heap.size ≤ w1.heap.size := B1.out.size
  clear G1 B0 BE EP HL hg1 n0 e0
  go_wp2_with fail
  refine (within_any how 9 w1 (by omega) (by omega)).mono ?_
  rintro e _ ⟨rfl, rfl⟩
  obtain ⟨z, hz⟩ := lx (how % 9)
  rw [← hz]
  clear hz
  by_cases h0 : z = 0
  ·have e0 : (z == 0) = true := by simp [h0]
   clear h0
   go_wp2_with fail
   refine wp_region_held_drew (S := fun _ => True) (by kernel_rfl) trivial (fun hHeld => ?_)
   obtain ⟨wd, hwd⟩ := lx (w1.drew)
   have GD : Hid (Below w1.heap.size w1 wd) := hid (by rw [hwd]; exact bD)
   rw [← hwd]
   clear hwd
   have OF : Hid (OE w.heap.size 1000000 i wd (.slice (some ad) i cap)) := hid (by rw [HAD.out]; exact (HO.out.below GD.out).front (by omega))
   obtain ⟨A9, hA9⟩ : ∃ x, (if cap = i + 1 then (some ad) else some (ad.add ((i + 1) * 12))) = x := ⟨_, rfl⟩
   have LB : Hid (LE wd (fun j => ¬ (Value.slice (some ad) i cap).ownBlock = some j) 1000000 (n - (i + 1)) (.slice A9 (n - (i + 1)) (cap - (i + 1)))) := hid (by
    have h := ((HO.out.below GD.out).le).back (k := i + 1) (by omega)
    rw [← HAD.out, Option.map_some, hA9] at h
    exact h)
   have GW := hid (bO B1.out GD.out)
   refine tk 0 (oi := ⟨some 43, _, _, _, _, _⟩) rfl ?_
   refine tk 1 (oi := ⟨some 44, _, _, _, _, _⟩) rfl ?_
   refine tk 2 (oi := ⟨some 45, _, _, _, _, _⟩) rfl ?_
   refine tk 3 (oi := ⟨some 46, _, _, _, _, _⟩) rfl ?_
   refine tk 4 (oi := ⟨some 47, _, _, _, _, _⟩) rfl ?_
   refine tk 5 (oi := ⟨some 48, _, _, _, _, _⟩) rfl ?_
   refine tk 6 (oi := ⟨some 49, _, _, _, _, _⟩) rfl ?_
   refine rD 7 (o := ⟨some 50, _, _, _, _, _⟩) rfl (fun K hK => ?_)
   obtain ⟨xa, oa, ea⟩ := OF.out
   obtain ⟨ya, sa, eya⟩ := LB.out
   refine step_app (v := .slice (some ad) i cap) w.heap.size (by rfl) _ _ 30 29 _ 12 128 (by rfl) Tryz.underlying30 HI.out rfl (by omega) (by omega) (by rfl) (by rfl) oa sa (by omega) (by have := GW.out.size; omega) ?_
   intro v21 w21 hown hfr hat
   have O21 := hid (ev_app ea eya (fun j hj e => hj e) hown hfr hat)
   have G21 := hid (Frm.below GW.out hfr (by have := GW.out.size; omega) (fun j hj => (OF.out.lt j hj).1))
   obtain ⟨A21, c21, rfl⟩ := own_slice' hown
   clear oa ea sa eya hfr hat hown xa ya
   refine Ko hK trivial (fun hHeld => ?_)
   clear hK K
   refine tk 8 (oi := ⟨some 10, _, _, _, _, _⟩) rfl ?_
   refine dn ?_
   clear hHeld
   go_wp2_with fail
   go_ret
   exact O21.out.le.fin (by omega) (by omega) G21.out
  ·have e0 : (z == 0) = false := by simp [h0]
   clear h0
   by_cases h1 : z = 1
   ·have e1 : (z == 1) = true := by simp [h1]
    clear h1
    obtain ⟨bd, e, vx, vy, ead, hx, hd1, hd2, hce⟩ := LE.ev HL1.out hlj
    subst ead
    obtain ⟨X, x, rfl, _⟩ := hx.1.len
    obtain ⟨Y, y, rfl, _⟩ := hx.2.len
    have CE := hid hce
    have EX : Hid (EV w1 (fun j => j < w1.heap.size) e (.slice X e.data.length x, .slice Y e.pk.data.length y)) := hid hx
    have ED := hid (And.intro hd1 hd2)
    clear hx hd1 hd2 hce
    have KE : Hid (∀ w', Below w1.heap.size w1 w' → (w'.cell? (bd.add (j * 12)) = some (.int .i64 e.kind) ∧ w'.cell? ⟨(bd.add (j * 12)).block, (bd.add (j * 12)).off + 1, none⟩ = some (.int .i64 e.n) ∧ w'.cell? ⟨(bd.add (j * 12)).block, (bd.add (j * 12)).off + 2, none⟩ = some (.slice X e.data.length x) ∧ w'.cell? ⟨(bd.add (j * 12)).block, (bd.add (j * 12)).off + 3, none⟩ = some (.int .i64 e.pk.kind) ∧ w'.cell? ⟨(bd.add (j * 12)).block, (bd.add (j * 12)).off + 4, none⟩ = some (.int .i64 e.pk.path) ∧ w'.cell? ⟨(bd.add (j * 12)).block, (bd.add (j * 12)).off + 5, none⟩ = some (.int .i64 e.pk.number) ∧ w'.cell? ⟨(bd.add (j * 12)).block, (bd.add (j * 12)).off + 6, none⟩ = some (.int .i64 e.pk.of_) ∧ w'.cell? ⟨(bd.add (j * 12)).block, (bd.add (j * 12)).off + 7, none⟩ = some (.int .i64 e.pk.from_) ∧ w'.cell? ⟨(bd.add (j * 12)).block, (bd.add (j * 12)).off + 8, none⟩ = some (.slice Y e.pk.data.length y) ∧ w'.cell? ⟨(bd.add (j * 12)).block, (bd.add (j * 12)).off + 9, none⟩ = some (.bool e.pk.fin) ∧ w'.cell? ⟨(bd.add (j * 12)).block, (bd.add (j * 12)).off + 10, none⟩ = some (.int .i64 e.pk.seen) ∧ w'.cell? ⟨(bd.add (j * 12)).block, (bd.add (j * 12)).off + 11, none⟩ = some (.int .i64 e.pk.limit))) := hid (fun W hW => CE.out.below' hW)
    obtain ⟨A8, hA8⟩ : ∃ x, (if b = i then (some bd) else some (bd.add (i * 12))) = x := ⟨_, rfl⟩
    have LF : Hid (LE w1 (fun j => j < w1.heap.size) 1000000 i (.slice (some bd) i b)) := hid (HL1.out.front (by omega))
    have LK : Hid (LE w1 (fun j => j < w1.heap.size) 1000000 (n - i) (.slice A8 (n - i) (b - i))) := hid (by
     have h := HL1.out.back (k := i) (by omega)
     rw [Option.map_some, hA8] at h
     exact h)
    go_wp2_with fail
    refine wp_region_held_drew (S := fun w' => w'.cell? (bd.add (j * 12)) = some (.int .i64 e.kind) ∧ w'.cell? ⟨(bd.add (j * 12)).block, (bd.add (j * 12)).off + 1, none⟩ = some (.int .i64 e.n) ∧ w'.cell? ⟨(bd.add (j * 12)).block, (bd.add (j * 12)).off + 2, none⟩ = some (.slice X e.data.length x) ∧ w'.cell? ⟨(bd.add (j * 12)).block, (bd.add (j * 12)).off + 3, none⟩ = some (.int .i64 e.pk.kind) ∧ w'.cell? ⟨(bd.add (j * 12)).block, (bd.add (j * 12)).off + 4, none⟩ = some (.int .i64 e.pk.path) ∧ w'.cell? ⟨(bd.add (j * 12)).block, (bd.add (j * 12)).off + 5, none⟩ = some (.int .i64 e.pk.number) ∧ w'.cell? ⟨(bd.add (j * 12)).block, (bd.add (j * 12)).off + 6, none⟩ = some (.int .i64 e.pk.of_) ∧ w'.cell? ⟨(bd.add (j * 12)).block, (bd.add (j * 12)).off + 7, none⟩ = some (.int .i64 e.pk.from_) ∧ w'.cell? ⟨(bd.add (j * 12)).block, (bd.add (j * 12)).off + 8, none⟩ = some (.slice Y e.pk.data.length y) ∧ w'.cell? ⟨(bd.add (j * 12)).block, (bd.add (j * 12)).off + 9, none⟩ = some (.bool e.pk.fin) ∧ w'.cell? ⟨(bd.add (j * 12)).block, (bd.add (j * 12)).off + 10, none⟩ = some (.int .i64 e.pk.seen) ∧ w'.cell? ⟨(bd.add (j * 12)).block, (bd.add (j * 12)).off + 11, none⟩ = some (.int .i64 e.pk.limit)) (by kernel_rfl) (KE.out _ bD) (fun hHeld => ?_)
    obtain ⟨wd, hwd⟩ := lx (w1.drew)
    have GD : Hid (Below w1.heap.size w1 wd) := hid (by rw [hwd]; exact bD)
    rw [← hwd] at hHeld ⊢
    clear hwd
    refine tk 0 (oi := ⟨some 53, _, _, _, _, _⟩) rfl ?_
    refine tk 1 (oi := ⟨some 54, _, _, _, _, _⟩) rfl ?_
    refine tk 2 (oi := ⟨some 55, _, _, _, _, _⟩) rfl ?_
    refine tk 4 (oi := ⟨some 57, _, _, _, _, _⟩) rfl ?_
    refine tk 5 (oi := ⟨some 58, _, _, _, _, _⟩) rfl ?_
    refine tk 6 (oi := ⟨some 59, _, _, _, _, _⟩) rfl ?_
    refine tk 7 (oi := ⟨some 60, _, _, _, _, _⟩) rfl ?_
    refine tk 10 (oi := ⟨some 63, _, _, _, _, _⟩) rfl ?_
    refine tk 11 (oi := ⟨some 64, _, _, _, _, _⟩) rfl ?_
    refine tk 12 (oi := ⟨some 65, _, _, _, _, _⟩) rfl ?_
    refine wpAnyH_ready (rs := [3, 8]) (by kernel_rfl) (by simp) ?_; refine AllReadyH.cons (o := ⟨some 56, _, _, _, _, _⟩) rfl (fun K hK => ?_) (AllReadyH.cons (o := ⟨some 61, _, _, _, _, _⟩) rfl (fun K hK => ?_) AllReadyH.nil)
    ·skip
     have LF2 := hid (LF.out.below GD.out)
     have ON2 := hid (OE.nil w1.heap.size 1000000 wd)
     obtain ⟨xa, oa, ea⟩ := ON2.out
     obtain ⟨ya, sa, eya⟩ := LF2.out
     refine step_app (v := .slice none 0 0) w1.heap.size (by rfl) _ _ 30 29 _ 12 128 (by rfl) Tryz.underlying30 HI.out rfl (by omega) (by omega) (by rfl) (by rfl) oa sa (by omega) (by have := GD.out.size; omega) ?_
     intro v23 w23 hown hfr hat
     have O23 := hid (ev_app ea eya (fun j hj e => by have := (ON2.out.lt j e).1; omega) hown hfr hat)
     have G23 := hid (Frm.below GD.out hfr (by have := GD.out.size; omega) (fun j hj => (ON2.out.lt j hj).1))
     rw [Nat.zero_add] at hown O23
     obtain ⟨A23, c23, rfl⟩ := own_slice' hown
     clear oa ea sa eya hfr hat hown xa ya
     refine Ko hK (KE.out _ G23.out) (fun hHeld => ?_)
     clear hK K
     refine rD 8 (o := ⟨some 61, _, _, _, _, _⟩) rfl (fun K hK => ?_)
     go_simp
     obtain ⟨w24, hW⟩ := lx (w23.alloc (.cells #[.int .i64 e.kind, .int .i64 e.n, .slice X e.data.length x, .int .i64 e.pk.kind, .int .i64 e.pk.path, .int .i64 e.pk.number, .int .i64 e.pk.of_, .int .i64 e.pk.from_, .slice Y e.pk.data.length y, .bool e.pk.fin, .int .i64 e.pk.seen, .int .i64 e.pk.limit] 29))
     obtain ⟨v24, hV⟩ := lx (Value.slice (some ⟨w23.heap.size, 0, none⟩) 1 1)
     rw [← hW, ← hV]
     have hb : Below w23.heap.size w23 w24 := by rw [hW]; exact ba
     have G24 := hid (bO G23.out hb)
     have LX24 : Hid (LE w24 (fun j => j < w1.heap.size) 1000000 1 v24) := hid (by rw [hW, hV]; exact LE.box ⟨EX.out.1.below G23.out, EX.out.2.below G23.out⟩ ED.out.1 ED.out.2 _ rfl)
     have O24 := hid (O23.out.below hb)
     clear hb hW hV
     refine Ko hK (KE.out _ G24.out) (fun hHeld => ?_)
     clear hK K
     refine rD 9 (o := ⟨some 62, _, _, _, _, _⟩) rfl (fun K hK => ?_)
     obtain ⟨xa, oa, ea⟩ := O24.out
     obtain ⟨ya, sa, eya⟩ := LX24.out
     refine step_app (v := .slice A23 (i) c23) w1.heap.size (by rfl) _ _ 30 29 _ 12 128 (by rfl) Tryz.underlying30 HI.out rfl (by omega) (by omega) (by rfl) (by rfl) oa sa (by omega) (by have := G24.out.size; omega) ?_
     intro v25 w25 hown hfr hat
     have O25 := hid (ev_app ea eya (fun j hj e => by have := (O24.out.lt j e).1; omega) hown hfr hat)
     have G25 := hid (Frm.below G24.out hfr (by have := G24.out.size; omega) (fun j hj => (O24.out.lt j hj).1))
     obtain ⟨A25, c25, rfl⟩ := own_slice' hown
     clear oa ea sa eya hfr hat hown xa ya
     refine Ko hK (KE.out _ G25.out) (fun hHeld => ?_)
     clear hK K
     refine rD 13 (o := ⟨some 66, _, _, _, _, _⟩) rfl (fun K hK => ?_)
     have LK6 := hid (LK.out.below G25.out)
     obtain ⟨xa, oa, ea⟩ := O25.out
     obtain ⟨ya, sa, eya⟩ := LK6.out
     refine step_app (v := .slice A25 (i + 1) c25) w1.heap.size (by rfl) _ _ 30 29 _ 12 128 (by rfl) Tryz.underlying30 HI.out rfl (by omega) (by omega) (by rfl) (by rfl) oa sa (by omega) (by have := G25.out.size; omega) ?_
     intro v27 w27 hown hfr hat
     have O27 := hid (ev_app ea eya (fun j hj e => by have := (O25.out.lt j e).1; omega) hown hfr hat)
     have G27 := hid (Frm.below G25.out hfr (by have := G25.out.size; omega) (fun j hj => (O25.out.lt j hj).1))
     obtain ⟨A27, c27, rfl⟩ := own_slice' hown
     clear oa ea sa eya hfr hat hown xa ya
     refine Ko hK (KE.out _ G27.out) (fun hHeld => ?_)
     clear hK K
     refine tk 14 (oi := ⟨some 10, _, _, _, _, _⟩) rfl ?_
     refine dn ?_
     clear hHeld
     go_wp2_with fail
     go_ret
     exact O27.out.le.fin (by omega) (by omega) (bO B1.out G27.out)
    ·go_simp
     obtain ⟨w28, hW⟩ := lx (wd.alloc (.cells #[.int .i64 e.kind, .int .i64 e.n, .slice X e.data.length x, .int .i64 e.pk.kind, .int .i64 e.pk.path, .int .i64 e.pk.number, .int .i64 e.pk.of_, .int .i64 e.pk.from_, .slice Y e.pk.data.length y, .bool e.pk.fin, .int .i64 e.pk.seen, .int .i64 e.pk.limit] 29))
     obtain ⟨v28, hV⟩ := lx (Value.slice (some ⟨wd.heap.size, 0, none⟩) 1 1)
     rw [← hW, ← hV]
     have hb : Below wd.heap.size wd w28 := by rw [hW]; exact ba
     have G28 := hid (bO GD.out hb)
     have LX28 : Hid (LE w28 (fun j => j < w1.heap.size) 1000000 1 v28) := hid (by rw [hW, hV]; exact LE.box ⟨EX.out.1.below GD.out, EX.out.2.below GD.out⟩ ED.out.1 ED.out.2 _ rfl)
     clear hb hW hV
     refine Ko hK (KE.out _ G28.out) (fun hHeld => ?_)
     clear hK K
     refine rD 3 (o := ⟨some 56, _, _, _, _, _⟩) rfl (fun K hK => ?_)
     have LF9 := hid (LF.out.below G28.out)
     have ON9 := hid (OE.nil w1.heap.size 1000000 w28)
     obtain ⟨xa, oa, ea⟩ := ON9.out
     obtain ⟨ya, sa, eya⟩ := LF9.out
     refine step_app (v := .slice none 0 0) w1.heap.size (by rfl) _ _ 30 29 _ 12 128 (by rfl) Tryz.underlying30 HI.out rfl (by omega) (by omega) (by rfl) (by rfl) oa sa (by omega) (by have := G28.out.size; omega) ?_
     intro v30 w30 hown hfr hat
     have O30 := hid (ev_app ea eya (fun j hj e => by have := (ON9.out.lt j e).1; omega) hown hfr hat)
     have G30 := hid (Frm.below G28.out hfr (by have := G28.out.size; omega) (fun j hj => (ON9.out.lt j hj).1))
     rw [Nat.zero_add] at hown O30
     obtain ⟨A30, c30, rfl⟩ := own_slice' hown
     have GN9 := hid (frm_none hfr)
     clear oa ea sa eya hfr hat hown xa ya
     have LX9 := hid (LX28.out.below GN9.out)
     refine Ko hK (KE.out _ G30.out) (fun hHeld => ?_)
     clear hK K
     refine rD 9 (o := ⟨some 62, _, _, _, _, _⟩) rfl (fun K hK => ?_)
     obtain ⟨xa, oa, ea⟩ := O30.out
     obtain ⟨ya, sa, eya⟩ := LX9.out
     refine step_app (v := .slice A30 (i) c30) w1.heap.size (by rfl) _ _ 30 29 _ 12 128 (by rfl) Tryz.underlying30 HI.out rfl (by omega) (by omega) (by rfl) (by rfl) oa sa (by omega) (by have := G30.out.size; omega) ?_
     intro v31 w31 hown hfr hat
     have O31 := hid (ev_app ea eya (fun j hj e => by have := (O30.out.lt j e).1; omega) hown hfr hat)
     have G31 := hid (Frm.below G30.out hfr (by have := G30.out.size; omega) (fun j hj => (O30.out.lt j hj).1))
     obtain ⟨A31, c31, rfl⟩ := own_slice' hown
     clear oa ea sa eya hfr hat hown xa ya
     refine Ko hK (KE.out _ G31.out) (fun hHeld => ?_)
     clear hK K
     refine rD 13 (o := ⟨some 66, _, _, _, _, _⟩) rfl (fun K hK => ?_)
     have LK12 := hid (LK.out.below G31.out)
     obtain ⟨xa, oa, ea⟩ := O31.out
     obtain ⟨ya, sa, eya⟩ := LK12.out
     refine step_app (v := .slice A31 (i + 1) c31) w1.heap.size (by rfl) _ _ 30 29 _ 12 128 (by rfl) Tryz.underlying30 HI.out rfl (by omega) (by omega) (by rfl) (by rfl) oa sa (by omega) (by have := G31.out.size; omega) ?_
     intro v33 w33 hown hfr hat
     have O33 := hid (ev_app ea eya (fun j hj e => by have := (O31.out.lt j e).1; omega) hown hfr hat)
     have G33 := hid (Frm.below G31.out hfr (by have := G31.out.size; omega) (fun j hj => (O31.out.lt j hj).1))
     obtain ⟨A33, c33, rfl⟩ := own_slice' hown
     clear oa ea sa eya hfr hat hown xa ya
     refine Ko hK (KE.out _ G33.out) (fun hHeld => ?_)
     clear hK K
     refine tk 14 (oi := ⟨some 10, _, _, _, _, _⟩) rfl ?_
     refine dn ?_
     clear hHeld
     go_wp2_with fail
     go_ret
     exact O33.out.le.fin (by omega) (by omega) (bO B1.out G33.out)
   ·have e1 : (z == 1) = false := by simp [h1]
    clear h1
    by_cases h2 : z = 2
    ·have e2 : (z == 2) = true := by simp [h2]
     clear h2
     obtain ⟨oi, hoi⟩ := lx (i * 12)
     obtain ⟨oj, hoj⟩ := lx (j * 12)
     have pi : ad.add (i * 12) = ⟨g, oi, none⟩ := by rw [PI.out, hoi]
     have pj : ad.add (j * 12) = ⟨g, oj, none⟩ := by rw [PJ.out, hoj]
     have QI : Hid ((⟨g, oi, none⟩ : Addr) = ⟨g, i * 12, none⟩) := hid (by rw [hoi])
     have QJ : Hid ((⟨g, oj, none⟩ : Addr) = ⟨g, j * 12, none⟩) := hid (by rw [hoj])
     clear hoi hoj
     obtain ⟨e, vx, vy, hx, hd1, hd2, hce⟩ := (HO.out.wide (by omega : 1000000 ≤ 1000001)).at_ hli QI.out
     obtain ⟨f, fx, fy, fh, fd1, fd2, fce⟩ := (HO.out.wide (by omega : 1000000 ≤ 1000001)).at_ hlj QJ.out
     obtain ⟨X, x, rfl, _⟩ := hx.1.len
     obtain ⟨Y, y, rfl, _⟩ := hx.2.len
     obtain ⟨X2, x2, rfl, _⟩ := fh.1.len
     obtain ⟨Y2, y2, rfl, _⟩ := fh.2.len
     have EX : Hid (EV w1 (fun j => j ≠ g) e (.slice X e.data.length x, .slice Y e.pk.data.length y)) := hid hx
     have EY : Hid (EV w1 (fun j => j ≠ g) f (.slice X2 f.data.length x2, .slice Y2 f.pk.data.length y2)) := hid fh
     have ED := hid (And.intro hd1 hd2)
     have FD := hid (And.intro fd1 fd2)
     have CE := hid hce
     have CF := hid fce
     clear hx fh hd1 hd2 fd1 fd2 hce fce
     go_wp2_with fail
     refine wp_region_held_drew (S := fun _ => True) (by kernel_rfl) trivial (fun hHeld => ?_)
     obtain ⟨wd, hwd⟩ := lx (w1.drew)
     have GD : Hid (Below w1.heap.size w1 wd) := hid (by rw [hwd]; exact bD)
     rw [← hwd]
     clear hwd
     have OD := hid ((HO.out.wide (by omega : 1000000 ≤ 1000001)).below GD.out)
     obtain ⟨q0, q1, q2, q3, q4, q5, q6, q7, q8, q9, q10, q11⟩ := CE.out.below' GD.out
     obtain ⟨r0, r1, r2, r3, r4, r5, r6, r7, r8, r9, r10, r11⟩ := CF.out.below' GD.out
     dsimp only at q0 r0 q1 r1 q2 r2 q3 r3 q4 r4 q5 r5 q6 r6 q7 r7 q8 r8 q9 r9 q10 r10 q11 r11
     have EXD := hid (evb' EX.out GD.out)
     have EYD := hid (evb' EY.out GD.out)
     have qf0 : World.frozen? wd ⟨g, oi, none⟩ = false := OD.out.free0 QI.out
     have qf1 : World.frozen? wd ⟨g, oi + 1, none⟩ = false := OD.out.free_at QI.out 1
     have qf2 : World.frozen? wd ⟨g, oi + 2, none⟩ = false := OD.out.free_at QI.out 2
     have qf3 : World.frozen? wd ⟨g, oi + 3, none⟩ = false := OD.out.free_at QI.out 3
     have qf4 : World.frozen? wd ⟨g, oi + 4, none⟩ = false := OD.out.free_at QI.out 4
     have qf5 : World.frozen? wd ⟨g, oi + 5, none⟩ = false := OD.out.free_at QI.out 5
     have qf6 : World.frozen? wd ⟨g, oi + 6, none⟩ = false := OD.out.free_at QI.out 6
     have qf7 : World.frozen? wd ⟨g, oi + 7, none⟩ = false := OD.out.free_at QI.out 7
     have qf8 : World.frozen? wd ⟨g, oi + 8, none⟩ = false := OD.out.free_at QI.out 8
     have qf9 : World.frozen? wd ⟨g, oi + 9, none⟩ = false := OD.out.free_at QI.out 9
     have qf10 : World.frozen? wd ⟨g, oi + 10, none⟩ = false := OD.out.free_at QI.out 10
     have qf11 : World.frozen? wd ⟨g, oi + 11, none⟩ = false := OD.out.free_at QI.out 11
     apply both
     ·intro REST
      refine tk 0 (oi := ⟨some 69, _, _, _, _, _⟩) rfl ?_
      refine tk 1 (oi := ⟨some 70, _, _, _, _, _⟩) rfl ?_
      refine tk 2 (oi := ⟨some 71, _, _, _, _, _⟩) rfl ?_
      refine tk 3 (oi := ⟨some 72, _, _, _, _, _⟩) rfl ?_
      refine tk 4 (oi := ⟨some 73, _, _, _, _, _⟩) rfl ?_
      refine tk 5 (oi := ⟨some 74, _, _, _, _, _⟩) rfl ?_
      refine tk 6 (oi := ⟨some 75, _, _, _, _, _⟩) rfl ?_
      refine tk 8 (oi := ⟨some 77, _, _, _, _, _⟩) rfl ?_
      refine tk 9 (oi := ⟨some 78, _, _, _, _, _⟩) rfl ?_
      refine tk 10 (oi := ⟨some 79, _, _, _, _, _⟩) rfl ?_
      refine wpAnyH_ready (rs := [7, 11]) (by kernel_rfl) (by simp) ?_; refine AllReadyH.cons (o := ⟨some 76, _, _, _, _, _⟩) rfl (fun K hK => ?_) (AllReadyH.cons (o := ⟨some 80, _, _, _, _, _⟩) rfl (fun K hK => ?_) AllReadyH.nil)
      ·go_simp
       refine Ko hK trivial (fun hHeld => ?_)
       clear hK K
       refine rD 11 (o := ⟨some 80, _, _, _, _, _⟩) rfl (fun K hK => ?_)
       go_simp
       refine Ko hK trivial (fun hHeld => ?_)
       clear hK K
       refine tk 12 (oi := ⟨some 81, _, _, _, _, _⟩) rfl ?_
       obtain ⟨u, _⟩ : ∃ u : Unit, u = u := ⟨(), rfl⟩
       exact REST.out u
      ·go_simp
       refine Ko hK trivial (fun hHeld => ?_)
       clear hK K
       refine rD 7 (o := ⟨some 76, _, _, _, _, _⟩) rfl (fun K hK => ?_)
       go_simp
       refine Ko hK trivial (fun hHeld => ?_)
       clear hK K
       refine tk 12 (oi := ⟨some 81, _, _, _, _, _⟩) rfl ?_
       obtain ⟨u, _⟩ : ∃ u : Unit, u = u := ⟨(), rfl⟩
       exact REST.out u
     ·intro _
      refine rD 13 (o := ⟨none, _, _, _, _, _⟩) rfl (fun K hK => ?_)
      go_simp
      have o13 : OE w.heap.size 1000001 n ((((((((((((wd.setCell ⟨g, oi, none⟩ (.int .i64 f.kind)).setCell ⟨g, oi + 1, none⟩ (.int .i64 f.n)).setCell ⟨g, oi + 2, none⟩ (.slice X2 f.data.length x2)).setCell ⟨g, oi + 3, none⟩ (.int .i64 f.pk.kind)).setCell ⟨g, oi + 4, none⟩ (.int .i64 f.pk.path)).setCell ⟨g, oi + 5, none⟩ (.int .i64 f.pk.number)).setCell ⟨g, oi + 6, none⟩ (.int .i64 f.pk.of_)).setCell ⟨g, oi + 7, none⟩ (.int .i64 f.pk.from_)).setCell ⟨g, oi + 8, none⟩ (.slice Y2 f.pk.data.length y2)).setCell ⟨g, oi + 9, none⟩ (.bool f.pk.fin)).setCell ⟨g, oi + 10, none⟩ (.int .i64 f.pk.seen)).setCell ⟨g, oi + 11, none⟩ (.int .i64 f.pk.limit)) (.slice (some ⟨g, 0, none⟩) n cap) := OD.out.putEv hli QI.out EYD.out FD.out.1 FD.out.2
      have f13 := ((((((((((((Frm.refl (· = g) wd).setCell (p := ⟨g, oi, none⟩) (.inl rfl) (.int .i64 f.kind)).setCell (p := ⟨g, oi + 1, none⟩) (.inl rfl) (.int .i64 f.n)).setCell (p := ⟨g, oi + 2, none⟩) (.inl rfl) (.slice X2 f.data.length x2)).setCell (p := ⟨g, oi + 3, none⟩) (.inl rfl) (.int .i64 f.pk.kind)).setCell (p := ⟨g, oi + 4, none⟩) (.inl rfl) (.int .i64 f.pk.path)).setCell (p := ⟨g, oi + 5, none⟩) (.inl rfl) (.int .i64 f.pk.number)).setCell (p := ⟨g, oi + 6, none⟩) (.inl rfl) (.int .i64 f.pk.of_)).setCell (p := ⟨g, oi + 7, none⟩) (.inl rfl) (.int .i64 f.pk.from_)).setCell (p := ⟨g, oi + 8, none⟩) (.inl rfl) (.slice Y2 f.pk.data.length y2)).setCell (p := ⟨g, oi + 9, none⟩) (.inl rfl) (.bool f.pk.fin)).setCell (p := ⟨g, oi + 10, none⟩) (.inl rfl) (.int .i64 f.pk.seen)).setCell (p := ⟨g, oi + 11, none⟩) (.inl rfl) (.int .i64 f.pk.limit)
      obtain ⟨w13, hw13⟩ := lx (((((((((((((wd.setCell ⟨g, oi, none⟩ (.int .i64 f.kind)).setCell ⟨g, oi + 1, none⟩ (.int .i64 f.n)).setCell ⟨g, oi + 2, none⟩ (.slice X2 f.data.length x2)).setCell ⟨g, oi + 3, none⟩ (.int .i64 f.pk.kind)).setCell ⟨g, oi + 4, none⟩ (.int .i64 f.pk.path)).setCell ⟨g, oi + 5, none⟩ (.int .i64 f.pk.number)).setCell ⟨g, oi + 6, none⟩ (.int .i64 f.pk.of_)).setCell ⟨g, oi + 7, none⟩ (.int .i64 f.pk.from_)).setCell ⟨g, oi + 8, none⟩ (.slice Y2 f.pk.data.length y2)).setCell ⟨g, oi + 9, none⟩ (.bool f.pk.fin)).setCell ⟨g, oi + 10, none⟩ (.int .i64 f.pk.seen)).setCell ⟨g, oi + 11, none⟩ (.int .i64 f.pk.limit)))
      rw [← hw13] at o13 f13 ⊢
      have O13 := hid o13
      have F13 := hid f13
      clear hw13 o13 f13 q0 qf0 q1 qf1 q2 qf2 q3 qf3 q4 qf4 q5 qf5 q6 qf6 q7 qf7 q8 qf8 q9 qf9 q10 qf10 q11 qf11
      clear r0 r1 r2 r3 r4 r5 r6 r7 r8 r9 r10 r11
      have EX13 : Hid (EV w13 (fun j => j ≠ g) e (.slice X e.data.length x, .slice Y e.pk.data.length y)) := hid (EXD.out.frm F13.out (fun j hj e => hj e))
      refine hK.out _ _ trivial (fun hHeld => ?_)
      have qf0 : World.frozen? w13 ⟨g, oj, none⟩ = false := O13.out.free0 QJ.out
      have qf1 : World.frozen? w13 ⟨g, oj + 1, none⟩ = false := O13.out.free_at QJ.out 1
      have qf2 : World.frozen? w13 ⟨g, oj + 2, none⟩ = false := O13.out.free_at QJ.out 2
      have qf3 : World.frozen? w13 ⟨g, oj + 3, none⟩ = false := O13.out.free_at QJ.out 3
      have qf4 : World.frozen? w13 ⟨g, oj + 4, none⟩ = false := O13.out.free_at QJ.out 4
      have qf5 : World.frozen? w13 ⟨g, oj + 5, none⟩ = false := O13.out.free_at QJ.out 5
      have qf6 : World.frozen? w13 ⟨g, oj + 6, none⟩ = false := O13.out.free_at QJ.out 6
      have qf7 : World.frozen? w13 ⟨g, oj + 7, none⟩ = false := O13.out.free_at QJ.out 7
      have qf8 : World.frozen? w13 ⟨g, oj + 8, none⟩ = false := O13.out.free_at QJ.out 8
      have qf9 : World.frozen? w13 ⟨g, oj + 9, none⟩ = false := O13.out.free_at QJ.out 9
      have qf10 : World.frozen? w13 ⟨g, oj + 10, none⟩ = false := O13.out.free_at QJ.out 10
      have qf11 : World.frozen? w13 ⟨g, oj + 11, none⟩ = false := O13.out.free_at QJ.out 11
      obtain ⟨e3, x3, y3, _, _, _, hc3⟩ := O13.out.at_ hlj QJ.out
      obtain ⟨s0, s1, s2, s3, s4, s5, s6, s7, s8, s9, s10, s11⟩ := hc3
      dsimp only at s0 s1 s2 s3 s4 s5 s6 s7 s8 s9 s10 s11
      clear hK K
      (try simp only [Act.put, List.setIfInBounds_toArray, List.set_cons_zero, List.set_cons_succ])
      refine tk 14 (oi := ⟨some 82, _, _, _, _, _⟩) rfl ?_
      refine rD 15 (o := ⟨none, _, _, _, _, _⟩) rfl (fun K hK => ?_)
      go_simp
      have o15 : OE w.heap.size 1000001 n ((((((((((((w13.setCell ⟨g, oj, none⟩ (.int .i64 e.kind)).setCell ⟨g, oj + 1, none⟩ (.int .i64 e.n)).setCell ⟨g, oj + 2, none⟩ (.slice X e.data.length x)).setCell ⟨g, oj + 3, none⟩ (.int .i64 e.pk.kind)).setCell ⟨g, oj + 4, none⟩ (.int .i64 e.pk.path)).setCell ⟨g, oj + 5, none⟩ (.int .i64 e.pk.number)).setCell ⟨g, oj + 6, none⟩ (.int .i64 e.pk.of_)).setCell ⟨g, oj + 7, none⟩ (.int .i64 e.pk.from_)).setCell ⟨g, oj + 8, none⟩ (.slice Y e.pk.data.length y)).setCell ⟨g, oj + 9, none⟩ (.bool e.pk.fin)).setCell ⟨g, oj + 10, none⟩ (.int .i64 e.pk.seen)).setCell ⟨g, oj + 11, none⟩ (.int .i64 e.pk.limit)) (.slice (some ⟨g, 0, none⟩) n cap) := O13.out.putEv hlj QJ.out EX13.out ED.out.1 ED.out.2
      have f15 := ((((((((((((Frm.refl (· = g) w13).setCell (p := ⟨g, oj, none⟩) (.inl rfl) (.int .i64 e.kind)).setCell (p := ⟨g, oj + 1, none⟩) (.inl rfl) (.int .i64 e.n)).setCell (p := ⟨g, oj + 2, none⟩) (.inl rfl) (.slice X e.data.length x)).setCell (p := ⟨g, oj + 3, none⟩) (.inl rfl) (.int .i64 e.pk.kind)).setCell (p := ⟨g, oj + 4, none⟩) (.inl rfl) (.int .i64 e.pk.path)).setCell (p := ⟨g, oj + 5, none⟩) (.inl rfl) (.int .i64 e.pk.number)).setCell (p := ⟨g, oj + 6, none⟩) (.inl rfl) (.int .i64 e.pk.of_)).setCell (p := ⟨g, oj + 7, none⟩) (.inl rfl) (.int .i64 e.pk.from_)).setCell (p := ⟨g, oj + 8, none⟩) (.inl rfl) (.slice Y e.pk.data.length y)).setCell (p := ⟨g, oj + 9, none⟩) (.inl rfl) (.bool e.pk.fin)).setCell (p := ⟨g, oj + 10, none⟩) (.inl rfl) (.int .i64 e.pk.seen)).setCell (p := ⟨g, oj + 11, none⟩) (.inl rfl) (.int .i64 e.pk.limit)
      obtain ⟨w15, hw15⟩ := lx (((((((((((((w13.setCell ⟨g, oj, none⟩ (.int .i64 e.kind)).setCell ⟨g, oj + 1, none⟩ (.int .i64 e.n)).setCell ⟨g, oj + 2, none⟩ (.slice X e.data.length x)).setCell ⟨g, oj + 3, none⟩ (.int .i64 e.pk.kind)).setCell ⟨g, oj + 4, none⟩ (.int .i64 e.pk.path)).setCell ⟨g, oj + 5, none⟩ (.int .i64 e.pk.number)).setCell ⟨g, oj + 6, none⟩ (.int .i64 e.pk.of_)).setCell ⟨g, oj + 7, none⟩ (.int .i64 e.pk.from_)).setCell ⟨g, oj + 8, none⟩ (.slice Y e.pk.data.length y)).setCell ⟨g, oj + 9, none⟩ (.bool e.pk.fin)).setCell ⟨g, oj + 10, none⟩ (.int .i64 e.pk.seen)).setCell ⟨g, oj + 11, none⟩ (.int .i64 e.pk.limit)))
      rw [← hw15] at o15 f15 ⊢
      have O15 := hid o15
      have F15 := hid f15
      clear hw15 o15 f15 s0 qf0 s1 qf1 s2 qf2 s3 qf3 s4 qf4 s5 qf5 s6 qf6 s7 qf7 s8 qf8 s9 qf9 s10 qf10 s11 qf11
      refine Ko hK trivial (fun hHeld => ?_)
      clear hK K
      refine dn ?_
      clear hHeld
      go_wp2_with fail
      go_ret
      rw [HAD.out]
      exact O15.out.le.fin (by omega) (by omega) (Frm.below (bO B1.out GD.out) (F13.out.trans F15.out) (by have := GD.out.size; omega) (fun j hj => by have := (HO.out.lt g rfl).1; omega))
    ·have e2 : (z == 2) = false := by simp [h2]
     clear h2
     by_cases h3 : z = 3
     ·have e3 : (z == 3) = true := by simp [h3]
      clear h3
      obtain ⟨bd, e, vx, vy, ead, hx, hd1, hd2, hce⟩ := LE.ev HL1.out hlj
      subst ead
      clear hx hd1 hd2 hce vx vy e
      have KE : Hid (∀ w', Below w1.heap.size w1 w' → (w'.cell? ⟨gE, 0, none⟩ = some (.int .i64 p.kind) ∧ w'.cell? ⟨gE, 1, none⟩ = some (.int .i64 p.n) ∧ w'.cell? ⟨gE, 2, none⟩ = some (.slice A p.data.length c) ∧ w'.cell? ⟨gE, 3, none⟩ = some (.int .i64 p.pk.kind) ∧ w'.cell? ⟨gE, 4, none⟩ = some (.int .i64 p.pk.path) ∧ w'.cell? ⟨gE, 5, none⟩ = some (.int .i64 p.pk.number) ∧ w'.cell? ⟨gE, 6, none⟩ = some (.int .i64 p.pk.of_) ∧ w'.cell? ⟨gE, 7, none⟩ = some (.int .i64 p.pk.from_) ∧ w'.cell? ⟨gE, 8, none⟩ = some (.slice C p.pk.data.length d) ∧ w'.cell? ⟨gE, 9, none⟩ = some (.bool p.pk.fin) ∧ w'.cell? ⟨gE, 10, none⟩ = some (.int .i64 p.pk.seen) ∧ w'.cell? ⟨gE, 11, none⟩ = some (.int .i64 p.pk.limit))) := hid (fun W hW => by
       have b := BE1.out.below hW
       exact ⟨b.cell 0, b.cell 1, b.cell 2, b.cell 3, b.cell 4, b.cell 5, b.cell 6, b.cell 7, b.cell 8, b.cell 9, b.cell 10, b.cell 11⟩)
      have EX := hid EP1.out
      have ED := hid HP.out
      obtain ⟨A8, hA8⟩ : ∃ x, (if b = i then (some bd) else some (bd.add (i * 12))) = x := ⟨_, rfl⟩
      have LF : Hid (LE w1 (fun j => j < w1.heap.size) 1000000 i (.slice (some bd) i b)) := hid (HL1.out.front (by omega))
      have LK : Hid (LE w1 (fun j => j < w1.heap.size) 1000000 (n - i) (.slice A8 (n - i) (b - i))) := hid (by
       have h := HL1.out.back (k := i) (by omega)
       rw [Option.map_some, hA8] at h
       exact h)
      go_wp2_with fail
      refine wp_region_held_drew (S := fun w' => w'.cell? ⟨gE, 0, none⟩ = some (.int .i64 p.kind) ∧ w'.cell? ⟨gE, 1, none⟩ = some (.int .i64 p.n) ∧ w'.cell? ⟨gE, 2, none⟩ = some (.slice A p.data.length c) ∧ w'.cell? ⟨gE, 3, none⟩ = some (.int .i64 p.pk.kind) ∧ w'.cell? ⟨gE, 4, none⟩ = some (.int .i64 p.pk.path) ∧ w'.cell? ⟨gE, 5, none⟩ = some (.int .i64 p.pk.number) ∧ w'.cell? ⟨gE, 6, none⟩ = some (.int .i64 p.pk.of_) ∧ w'.cell? ⟨gE, 7, none⟩ = some (.int .i64 p.pk.from_) ∧ w'.cell? ⟨gE, 8, none⟩ = some (.slice C p.pk.data.length d) ∧ w'.cell? ⟨gE, 9, none⟩ = some (.bool p.pk.fin) ∧ w'.cell? ⟨gE, 10, none⟩ = some (.int .i64 p.pk.seen) ∧ w'.cell? ⟨gE, 11, none⟩ = some (.int .i64 p.pk.limit)) (by kernel_rfl) (KE.out _ bD) (fun hHeld => ?_)
      obtain ⟨wd, hwd⟩ := lx (w1.drew)
      have GD : Hid (Below w1.heap.size w1 wd) := hid (by rw [hwd]; exact bD)
      rw [← hwd] at hHeld ⊢
      clear hwd
      refine tk 0 (oi := ⟨some 85, _, _, _, _, _⟩) rfl ?_
      refine tk 1 (oi := ⟨some 86, _, _, _, _, _⟩) rfl ?_
      refine tk 2 (oi := ⟨some 87, _, _, _, _, _⟩) rfl ?_
      refine tk 4 (oi := ⟨some 89, _, _, _, _, _⟩) rfl ?_
      refine tk 7 (oi := ⟨some 92, _, _, _, _, _⟩) rfl ?_
      refine tk 8 (oi := ⟨some 93, _, _, _, _, _⟩) rfl ?_
      refine tk 9 (oi := ⟨some 94, _, _, _, _, _⟩) rfl ?_
      refine wpAnyH_ready (rs := [3, 5]) (by kernel_rfl) (by simp) ?_; refine AllReadyH.cons (o := ⟨some 88, _, _, _, _, _⟩) rfl (fun K hK => ?_) (AllReadyH.cons (o := ⟨some 90, _, _, _, _, _⟩) rfl (fun K hK => ?_) AllReadyH.nil)
      ·skip
       have LF14 := hid (LF.out.below GD.out)
       have ON14 := hid (OE.nil w1.heap.size 1000000 wd)
       obtain ⟨xa, oa, ea⟩ := ON14.out
       obtain ⟨ya, sa, eya⟩ := LF14.out
       refine step_app (v := .slice none 0 0) w1.heap.size (by rfl) _ _ 30 29 _ 12 128 (by rfl) Tryz.underlying30 HI.out rfl (by omega) (by omega) (by rfl) (by rfl) oa sa (by omega) (by have := GD.out.size; omega) ?_
       intro v35 w35 hown hfr hat
       have O35 := hid (ev_app ea eya (fun j hj e => by have := (ON14.out.lt j e).1; omega) hown hfr hat)
       have G35 := hid (Frm.below GD.out hfr (by have := GD.out.size; omega) (fun j hj => (ON14.out.lt j hj).1))
       rw [Nat.zero_add] at hown O35
       obtain ⟨A35, c35, rfl⟩ := own_slice' hown
       clear oa ea sa eya hfr hat hown xa ya
       refine Ko hK (KE.out _ G35.out) (fun hHeld => ?_)
       clear hK K
       refine rD 5 (o := ⟨some 90, _, _, _, _, _⟩) rfl (fun K hK => ?_)
       go_simp
       obtain ⟨w36, hW⟩ := lx (w35.alloc (.cells #[.int .i64 p.kind, .int .i64 p.n, .slice A p.data.length c, .int .i64 p.pk.kind, .int .i64 p.pk.path, .int .i64 p.pk.number, .int .i64 p.pk.of_, .int .i64 p.pk.from_, .slice C p.pk.data.length d, .bool p.pk.fin, .int .i64 p.pk.seen, .int .i64 p.pk.limit] 29))
       obtain ⟨v36, hV⟩ := lx (Value.slice (some ⟨w35.heap.size, 0, none⟩) 1 1)
       rw [← hW, ← hV]
       have hb : Below w35.heap.size w35 w36 := by rw [hW]; exact ba
       have G36 := hid (bO G35.out hb)
       have LX36 : Hid (LE w36 (fun j => j < w1.heap.size) 1000000 1 v36) := hid (by rw [hW, hV]; exact LE.box ⟨EX.out.1.below G35.out, EX.out.2.below G35.out⟩ ED.out.1 ED.out.2 _ rfl)
       have O36 := hid (O35.out.below hb)
       clear hb hW hV
       refine Ko hK (KE.out _ G36.out) (fun hHeld => ?_)
       clear hK K
       refine rD 6 (o := ⟨some 91, _, _, _, _, _⟩) rfl (fun K hK => ?_)
       obtain ⟨xa, oa, ea⟩ := O36.out
       obtain ⟨ya, sa, eya⟩ := LX36.out
       refine step_app (v := .slice A35 (i) c35) w1.heap.size (by rfl) _ _ 30 29 _ 12 128 (by rfl) Tryz.underlying30 HI.out rfl (by omega) (by omega) (by rfl) (by rfl) oa sa (by omega) (by have := G36.out.size; omega) ?_
       intro v37 w37 hown hfr hat
       have O37 := hid (ev_app ea eya (fun j hj e => by have := (O36.out.lt j e).1; omega) hown hfr hat)
       have G37 := hid (Frm.below G36.out hfr (by have := G36.out.size; omega) (fun j hj => (O36.out.lt j hj).1))
       obtain ⟨A37, c37, rfl⟩ := own_slice' hown
       clear oa ea sa eya hfr hat hown xa ya
       refine Ko hK (KE.out _ G37.out) (fun hHeld => ?_)
       clear hK K
       refine rD 10 (o := ⟨some 95, _, _, _, _, _⟩) rfl (fun K hK => ?_)
       have LK18 := hid (LK.out.below G37.out)
       obtain ⟨xa, oa, ea⟩ := O37.out
       obtain ⟨ya, sa, eya⟩ := LK18.out
       refine step_app (v := .slice A37 (i + 1) c37) w1.heap.size (by rfl) _ _ 30 29 _ 12 128 (by rfl) Tryz.underlying30 HI.out rfl (by omega) (by omega) (by rfl) (by rfl) oa sa (by omega) (by have := G37.out.size; omega) ?_
       intro v39 w39 hown hfr hat
       have O39 := hid (ev_app ea eya (fun j hj e => by have := (O37.out.lt j e).1; omega) hown hfr hat)
       have G39 := hid (Frm.below G37.out hfr (by have := G37.out.size; omega) (fun j hj => (O37.out.lt j hj).1))
       obtain ⟨A39, c39, rfl⟩ := own_slice' hown
       clear oa ea sa eya hfr hat hown xa ya
       refine Ko hK (KE.out _ G39.out) (fun hHeld => ?_)
       clear hK K
       refine tk 11 (oi := ⟨some 10, _, _, _, _, _⟩) rfl ?_
       refine dn ?_
       clear hHeld
       go_wp2_with fail
       go_ret
       exact O39.out.le.fin (by omega) (by omega) (bO B1.out G39.out)
      ·go_simp
       obtain ⟨w40, hW⟩ := lx (wd.alloc (.cells #[.int .i64 p.kind, .int .i64 p.n, .slice A p.data.length c, .int .i64 p.pk.kind, .int .i64 p.pk.path, .int .i64 p.pk.number, .int .i64 p.pk.of_, .int .i64 p.pk.from_, .slice C p.pk.data.length d, .bool p.pk.fin, .int .i64 p.pk.seen, .int .i64 p.pk.limit] 29))
       obtain ⟨v40, hV⟩ := lx (Value.slice (some ⟨wd.heap.size, 0, none⟩) 1 1)
       rw [← hW, ← hV]
       have hb : Below wd.heap.size wd w40 := by rw [hW]; exact ba
       have G40 := hid (bO GD.out hb)
       have LX40 : Hid (LE w40 (fun j => j < w1.heap.size) 1000000 1 v40) := hid (by rw [hW, hV]; exact LE.box ⟨EX.out.1.below GD.out, EX.out.2.below GD.out⟩ ED.out.1 ED.out.2 _ rfl)
       clear hb hW hV
       refine Ko hK (KE.out _ G40.out) (fun hHeld => ?_)
       clear hK K
       refine rD 3 (o := ⟨some 88, _, _, _, _, _⟩) rfl (fun K hK => ?_)
       have LF21 := hid (LF.out.below G40.out)
       have ON21 := hid (OE.nil w1.heap.size 1000000 w40)
       obtain ⟨xa, oa, ea⟩ := ON21.out
       obtain ⟨ya, sa, eya⟩ := LF21.out
       refine step_app (v := .slice none 0 0) w1.heap.size (by rfl) _ _ 30 29 _ 12 128 (by rfl) Tryz.underlying30 HI.out rfl (by omega) (by omega) (by rfl) (by rfl) oa sa (by omega) (by have := G40.out.size; omega) ?_
       intro v42 w42 hown hfr hat
       have O42 := hid (ev_app ea eya (fun j hj e => by have := (ON21.out.lt j e).1; omega) hown hfr hat)
       have G42 := hid (Frm.below G40.out hfr (by have := G40.out.size; omega) (fun j hj => (ON21.out.lt j hj).1))
       rw [Nat.zero_add] at hown O42
       obtain ⟨A42, c42, rfl⟩ := own_slice' hown
       have GN21 := hid (frm_none hfr)
       clear oa ea sa eya hfr hat hown xa ya
       have LX21 := hid (LX40.out.below GN21.out)
       refine Ko hK (KE.out _ G42.out) (fun hHeld => ?_)
       clear hK K
       refine rD 6 (o := ⟨some 91, _, _, _, _, _⟩) rfl (fun K hK => ?_)
       obtain ⟨xa, oa, ea⟩ := O42.out
       obtain ⟨ya, sa, eya⟩ := LX21.out
       refine step_app (v := .slice A42 (i) c42) w1.heap.size (by rfl) _ _ 30 29 _ 12 128 (by rfl) Tryz.underlying30 HI.out rfl (by omega) (by omega) (by rfl) (by rfl) oa sa (by omega) (by have := G42.out.size; omega) ?_
       intro v43 w43 hown hfr hat
       have O43 := hid (ev_app ea eya (fun j hj e => by have := (O42.out.lt j e).1; omega) hown hfr hat)
       have G43 := hid (Frm.below G42.out hfr (by have := G42.out.size; omega) (fun j hj => (O42.out.lt j hj).1))
       obtain ⟨A43, c43, rfl⟩ := own_slice' hown
       clear oa ea sa eya hfr hat hown xa ya
       refine Ko hK (KE.out _ G43.out) (fun hHeld => ?_)
       clear hK K
       refine rD 10 (o := ⟨some 95, _, _, _, _, _⟩) rfl (fun K hK => ?_)
       have LK24 := hid (LK.out.below G43.out)
       obtain ⟨xa, oa, ea⟩ := O43.out
       obtain ⟨ya, sa, eya⟩ := LK24.out
       refine step_app (v := .slice A43 (i + 1) c43) w1.heap.size (by rfl) _ _ 30 29 _ 12 128 (by rfl) Tryz.underlying30 HI.out rfl (by omega) (by omega) (by rfl) (by rfl) oa sa (by omega) (by have := G43.out.size; omega) ?_
       intro v45 w45 hown hfr hat
       have O45 := hid (ev_app ea eya (fun j hj e => by have := (O43.out.lt j e).1; omega) hown hfr hat)
       have G45 := hid (Frm.below G43.out hfr (by have := G43.out.size; omega) (fun j hj => (O43.out.lt j hj).1))
       obtain ⟨A45, c45, rfl⟩ := own_slice' hown
       clear oa ea sa eya hfr hat hown xa ya
       refine Ko hK (KE.out _ G45.out) (fun hHeld => ?_)
       clear hK K
       refine tk 11 (oi := ⟨some 10, _, _, _, _, _⟩) rfl ?_
       refine dn ?_
       clear hHeld
       go_wp2_with fail
       go_ret
       exact O45.out.le.fin (by omega) (by omega) (bO B1.out G45.out)
     ·have e3 : (z == 3) = false := by simp [h3]
      clear h3
      by_cases h4 : z = 4
      ·have e4 : (z == 4) = true := by simp [h4]
       clear h4
       obtain ⟨oi, hoi⟩ := lx (i * 12)
       have pi : ad.add (i * 12) = ⟨g, oi, none⟩ := by rw [PI.out, hoi]
       have QI : Hid ((⟨g, oi, none⟩ : Addr) = ⟨g, i * 12, none⟩) := hid (by rw [hoi])
       clear hoi
       have OW := hid HO.out
       have FW := hid (Frm.refl (· = g) w1)
       go_wp2_with fail
       refine wp_region_held_drew (S := fun _ => True) (by kernel_rfl) trivial (fun hHeld => ?_)
       obtain ⟨wd, hwd⟩ := lx (w1.drew)
       have GD : Hid (Below w1.heap.size w1 wd) := hid (by rw [hwd]; exact bD)
       rw [← hwd]
       clear hwd
       have OD := hid (OW.out.below GD.out)
       have FD := hid (FW.out.trans (Frm.of_below GD.out))
       obtain ⟨e, vx, vy, hx, _, _, hce⟩ := OD.out.at_ hli QI.out
       obtain ⟨q0, q1, q2, q3, q4, q5, q6, q7, q8, q9, q10, q11⟩ := hce
       dsimp only at q0 q1 q2 q3 q4 q5 q6 q7 q8 q9 q10 q11
       have qf : World.frozen? wd ⟨g, oi + 1, none⟩ = false := OD.out.free_at QI.out 1
       clear hx q0 q2 q3 q4 q5 q6 q7 q8 q9 q10 q11
       apply both
       ·intro REST
        refine tk 0 (oi := ⟨some 98, _, _, _, _, _⟩) rfl ?_
        refine tk 1 (oi := ⟨some 99, _, _, _, _, _⟩) rfl ?_
        refine tk 2 (oi := ⟨some 100, _, _, _, _, _⟩) rfl ?_
        refine tk 3 (oi := ⟨some 101, _, _, _, _, _⟩) rfl ?_
        refine tk 5 (oi := ⟨some 103, _, _, _, _, _⟩) rfl ?_
        refine wpAnyH_ready (rs := [4, 6]) (by kernel_rfl) (by simp) ?_; refine AllReadyH.cons (o := ⟨some 102, _, _, _, _, _⟩) rfl (fun K hK => ?_) (AllReadyH.cons (o := ⟨some 104, _, _, _, _, _⟩) rfl (fun K hK => ?_) AllReadyH.nil)
        ·go_simp
         refine Ko hK trivial (fun hHeld => ?_)
         clear hK K
         refine rD 6 (o := ⟨some 104, _, _, _, _, _⟩) rfl (fun K hK => ?_)
         go_simp
         refine (within_some _ 3 wd (by omega) (by omega)).mono ?_
         rintro _ _ ⟨⟨z', rfl⟩, rfl⟩
         refine Ko hK trivial (fun hHeld => ?_)
         clear hK K
         refine tk 7 (oi := ⟨some 105, _, _, _, _, _⟩) rfl ?_
         refine tk 8 (oi := ⟨some 106, _, _, _, _, _⟩) rfl ?_
         refine tk 9 (oi := ⟨some 107, _, _, _, _, _⟩) rfl ?_
         refine tk 10 (oi := ⟨some 108, _, _, _, _, _⟩) rfl ?_
         exact REST.out z'
        ·go_simp
         refine (within_some _ 3 wd (by omega) (by omega)).mono ?_
         rintro _ _ ⟨⟨z', rfl⟩, rfl⟩
         refine Ko hK trivial (fun hHeld => ?_)
         clear hK K
         refine tk 7 (oi := ⟨some 105, _, _, _, _, _⟩) rfl ?_
         refine rD 4 (o := ⟨some 102, _, _, _, _, _⟩) rfl (fun K hK => ?_)
         go_simp
         refine Ko hK trivial (fun hHeld => ?_)
         clear hK K
         refine tk 8 (oi := ⟨some 106, _, _, _, _, _⟩) rfl ?_
         refine tk 9 (oi := ⟨some 107, _, _, _, _, _⟩) rfl ?_
         refine tk 10 (oi := ⟨some 108, _, _, _, _, _⟩) rfl ?_
         exact REST.out z'
       ·intro z'
        obtain ⟨d1, hd1⟩ : ∃ d, IntKind.i64.wrap (z' - 1) = d := ⟨_, rfl⟩
        obtain ⟨s1, hs1⟩ : ∃ s, IntKind.i64.wrap (e.n + d1) = s := ⟨_, rfl⟩
        rw [hd1, hs1]
        clear hd1 hs1
        refine rD 11 (o := ⟨none, _, _, _, _, _⟩) rfl (fun K hK => ?_)
        go_simp
        have o2 : OE w.heap.size 1000000 n (wd.setCell ⟨g, oi + 1, none⟩ (.int .i64 s1)) (.slice (some ⟨g, 0, none⟩) n cap) := OD.out.put hli (f := 1) (by omega) QI.out (u := .int .i64 s1) (fits_int _ _ _ _ _ (by omega))
        have f2 := FD.out.setCell (p := ⟨g, oi + 1, none⟩) (.inl rfl) (.int .i64 s1)
        obtain ⟨w2_, hw2⟩ := lx ((wd.setCell ⟨g, oi + 1, none⟩ (.int .i64 s1)))
        rw [← hw2] at o2 f2 ⊢
        clear OW FW
        have OW := hid o2
        have FW := hid f2
        clear hw2 o2 f2 q1 qf OD FD GD
        refine Ko hK trivial (fun hHeld => ?_)
        clear hK K
        refine dn ?_
        clear hHeld
        go_wp2_with fail
        go_ret
        rw [HAD.out]
        exact OW.out.le.fin (by omega) (by omega) (Frm.below B1.out FW.out B1s (fun j hj => by have := (HO.out.lt g rfl).1; omega))
      ·have e4 : (z == 4) = false := by simp [h4]
       clear h4
       by_cases h5 : z = 5
       ·have e5 : (z == 5) = true := by simp [h5]
        clear h5
        obtain ⟨oi, hoi⟩ := lx (i * 12)
        have pi : ad.add (i * 12) = ⟨g, oi, none⟩ := by rw [PI.out, hoi]
        have QI : Hid ((⟨g, oi, none⟩ : Addr) = ⟨g, i * 12, none⟩) := hid (by rw [hoi])
        clear hoi
        have OW := hid HO.out
        have FW := hid (Frm.refl (· = g) w1)
        go_wp2_with fail
        refine wp_region_held_drew (S := fun _ => True) (by kernel_rfl) trivial (fun hHeld => ?_)
        obtain ⟨wd, hwd⟩ := lx (w1.drew)
        have GD : Hid (Below w1.heap.size w1 wd) := hid (by rw [hwd]; exact bD)
        rw [← hwd]
        clear hwd
        have OD := hid (OW.out.below GD.out)
        have FD := hid (FW.out.trans (Frm.of_below GD.out))
        obtain ⟨e, vx, vy, hx, _, _, hce⟩ := OD.out.at_ hli QI.out
        obtain ⟨q0, q1, q2, q3, q4, q5, q6, q7, q8, q9, q10, q11⟩ := hce
        dsimp only at q0 q1 q2 q3 q4 q5 q6 q7 q8 q9 q10 q11
        have qf : World.frozen? wd ⟨g, oi + 5, none⟩ = false := OD.out.free_at QI.out 5
        clear hx q0 q1 q2 q3 q4 q6 q7 q8 q9 q10 q11
        apply both
        ·intro REST
         refine tk 0 (oi := ⟨some 111, _, _, _, _, _⟩) rfl ?_
         refine tk 1 (oi := ⟨some 112, _, _, _, _, _⟩) rfl ?_
         refine tk 2 (oi := ⟨some 113, _, _, _, _, _⟩) rfl ?_
         refine tk 3 (oi := ⟨some 114, _, _, _, _, _⟩) rfl ?_
         refine tk 4 (oi := ⟨some 115, _, _, _, _, _⟩) rfl ?_
         refine tk 6 (oi := ⟨some 117, _, _, _, _, _⟩) rfl ?_
         refine wpAnyH_ready (rs := [5, 7]) (by kernel_rfl) (by simp) ?_; refine AllReadyH.cons (o := ⟨some 116, _, _, _, _, _⟩) rfl (fun K hK => ?_) (AllReadyH.cons (o := ⟨some 118, _, _, _, _, _⟩) rfl (fun K hK => ?_) AllReadyH.nil)
         ·go_simp
          refine Ko hK trivial (fun hHeld => ?_)
          clear hK K
          refine rD 7 (o := ⟨some 118, _, _, _, _, _⟩) rfl (fun K hK => ?_)
          go_simp
          refine (within_some _ 3 wd (by omega) (by omega)).mono ?_
          rintro _ _ ⟨⟨z', rfl⟩, rfl⟩
          refine Ko hK trivial (fun hHeld => ?_)
          clear hK K
          refine tk 8 (oi := ⟨some 119, _, _, _, _, _⟩) rfl ?_
          refine tk 9 (oi := ⟨some 120, _, _, _, _, _⟩) rfl ?_
          refine tk 10 (oi := ⟨some 121, _, _, _, _, _⟩) rfl ?_
          refine tk 11 (oi := ⟨some 122, _, _, _, _, _⟩) rfl ?_
          refine tk 12 (oi := ⟨some 123, _, _, _, _, _⟩) rfl ?_
          exact REST.out z'
         ·go_simp
          refine (within_some _ 3 wd (by omega) (by omega)).mono ?_
          rintro _ _ ⟨⟨z', rfl⟩, rfl⟩
          refine Ko hK trivial (fun hHeld => ?_)
          clear hK K
          refine tk 8 (oi := ⟨some 119, _, _, _, _, _⟩) rfl ?_
          refine rD 5 (o := ⟨some 116, _, _, _, _, _⟩) rfl (fun K hK => ?_)
          go_simp
          refine Ko hK trivial (fun hHeld => ?_)
          clear hK K
          refine tk 9 (oi := ⟨some 120, _, _, _, _, _⟩) rfl ?_
          refine tk 10 (oi := ⟨some 121, _, _, _, _, _⟩) rfl ?_
          refine tk 11 (oi := ⟨some 122, _, _, _, _, _⟩) rfl ?_
          refine tk 12 (oi := ⟨some 123, _, _, _, _, _⟩) rfl ?_
          exact REST.out z'
        ·intro z'
         obtain ⟨d1, hd1⟩ : ∃ d, IntKind.i64.wrap (z' - 1) = d := ⟨_, rfl⟩
         obtain ⟨s1, hs1⟩ : ∃ s, IntKind.i64.wrap (e.pk.number + d1) = s := ⟨_, rfl⟩
         rw [hd1, hs1]
         clear hd1 hs1
         refine rD 13 (o := ⟨none, _, _, _, _, _⟩) rfl (fun K hK => ?_)
         go_simp
         have o2 : OE w.heap.size 1000000 n (wd.setCell ⟨g, oi + 5, none⟩ (.int .i64 s1)) (.slice (some ⟨g, 0, none⟩) n cap) := OD.out.put hli (f := 5) (by omega) QI.out (u := .int .i64 s1) (fits_int _ _ _ _ _ (by omega))
         have f2 := FD.out.setCell (p := ⟨g, oi + 5, none⟩) (.inl rfl) (.int .i64 s1)
         obtain ⟨w2_, hw2⟩ := lx ((wd.setCell ⟨g, oi + 5, none⟩ (.int .i64 s1)))
         rw [← hw2] at o2 f2 ⊢
         clear OW FW
         have OW := hid o2
         have FW := hid f2
         clear hw2 o2 f2 q5 qf OD FD GD
         refine Ko hK trivial (fun hHeld => ?_)
         clear hK K
         refine dn ?_
         clear hHeld
         go_wp2_with fail
         refine wp_region_held_drew (S := fun _ => True) (by kernel_rfl) trivial (fun hHeld => ?_)
         obtain ⟨wd, hwd⟩ := lx (w2_.drew)
         have GD : Hid (Below w2_.heap.size w2_ wd) := hid (by rw [hwd]; exact bD)
         rw [← hwd]
         clear hwd
         have OD := hid (OW.out.below GD.out)
         have FD := hid (FW.out.trans (Frm.of_below GD.out))
         obtain ⟨e, vx, vy, hx, _, _, hce⟩ := OD.out.at_ hli QI.out
         obtain ⟨q0, q1, q2, q3, q4, q5, q6, q7, q8, q9, q10, q11⟩ := hce
         dsimp only at q0 q1 q2 q3 q4 q5 q6 q7 q8 q9 q10 q11
         have qf : World.frozen? wd ⟨g, oi + 7, none⟩ = false := OD.out.free_at QI.out 7
         clear hx q0 q1 q2 q3 q4 q5 q6 q8 q9 q10 q11
         apply both
         ·intro REST
          refine tk 0 (oi := ⟨some 124, _, _, _, _, _⟩) rfl ?_
          refine tk 1 (oi := ⟨some 125, _, _, _, _, _⟩) rfl ?_
          refine tk 2 (oi := ⟨some 126, _, _, _, _, _⟩) rfl ?_
          refine tk 3 (oi := ⟨some 127, _, _, _, _, _⟩) rfl ?_
          refine tk 4 (oi := ⟨some 128, _, _, _, _, _⟩) rfl ?_
          refine tk 6 (oi := ⟨some 130, _, _, _, _, _⟩) rfl ?_
          refine tk 7 (oi := ⟨some 131, _, _, _, _, _⟩) rfl ?_
          refine wpAnyH_ready (rs := [5, 8]) (by kernel_rfl) (by simp) ?_; refine AllReadyH.cons (o := ⟨some 129, _, _, _, _, _⟩) rfl (fun K hK => ?_) (AllReadyH.cons (o := ⟨some 132, _, _, _, _, _⟩) rfl (fun K hK => ?_) AllReadyH.nil)
          ·go_simp
           refine Ko hK trivial (fun hHeld => ?_)
           clear hK K
           refine rD 8 (o := ⟨some 132, _, _, _, _, _⟩) rfl (fun K hK => ?_)
           go_simp
           refine (within_some _ 3 wd (by omega) (by omega)).mono ?_
           rintro _ _ ⟨⟨z', rfl⟩, rfl⟩
           refine Ko hK trivial (fun hHeld => ?_)
           clear hK K
           refine tk 9 (oi := ⟨some 133, _, _, _, _, _⟩) rfl ?_
           refine tk 10 (oi := ⟨some 134, _, _, _, _, _⟩) rfl ?_
           refine tk 11 (oi := ⟨some 135, _, _, _, _, _⟩) rfl ?_
           refine tk 12 (oi := ⟨some 136, _, _, _, _, _⟩) rfl ?_
           refine tk 13 (oi := ⟨some 137, _, _, _, _, _⟩) rfl ?_
           exact REST.out z'
          ·go_simp
           refine (within_some _ 3 wd (by omega) (by omega)).mono ?_
           rintro _ _ ⟨⟨z', rfl⟩, rfl⟩
           refine Ko hK trivial (fun hHeld => ?_)
           clear hK K
           refine tk 9 (oi := ⟨some 133, _, _, _, _, _⟩) rfl ?_
           refine rD 5 (o := ⟨some 129, _, _, _, _, _⟩) rfl (fun K hK => ?_)
           go_simp
           refine Ko hK trivial (fun hHeld => ?_)
           clear hK K
           refine tk 10 (oi := ⟨some 134, _, _, _, _, _⟩) rfl ?_
           refine tk 11 (oi := ⟨some 135, _, _, _, _, _⟩) rfl ?_
           refine tk 12 (oi := ⟨some 136, _, _, _, _, _⟩) rfl ?_
           refine tk 13 (oi := ⟨some 137, _, _, _, _, _⟩) rfl ?_
           exact REST.out z'
         ·intro z'
          obtain ⟨d1, hd1⟩ : ∃ d, IntKind.i64.wrap (z' - 1) = d := ⟨_, rfl⟩
          obtain ⟨s1, hs1⟩ : ∃ s, IntKind.i64.wrap (e.pk.from_ + d1) = s := ⟨_, rfl⟩
          rw [hd1, hs1]
          clear hd1 hs1
          refine rD 14 (o := ⟨none, _, _, _, _, _⟩) rfl (fun K hK => ?_)
          go_simp
          have o2 : OE w.heap.size 1000000 n (wd.setCell ⟨g, oi + 7, none⟩ (.int .i64 s1)) (.slice (some ⟨g, 0, none⟩) n cap) := OD.out.put hli (f := 7) (by omega) QI.out (u := .int .i64 s1) (fits_int _ _ _ _ _ (by omega))
          have f2 := FD.out.setCell (p := ⟨g, oi + 7, none⟩) (.inl rfl) (.int .i64 s1)
          obtain ⟨w3_, hw2⟩ := lx ((wd.setCell ⟨g, oi + 7, none⟩ (.int .i64 s1)))
          rw [← hw2] at o2 f2 ⊢
          clear OW FW
          have OW := hid o2
          have FW := hid f2
          clear hw2 o2 f2 q7 qf OD FD GD
          refine Ko hK trivial (fun hHeld => ?_)
          clear hK K
          refine dn ?_
          clear hHeld
          go_wp2_with fail
          go_ret
          rw [HAD.out]
          exact OW.out.le.fin (by omega) (by omega) (Frm.below B1.out FW.out B1s (fun j hj => by have := (HO.out.lt g rfl).1; omega))
       ·have e5 : (z == 5) = false := by simp [h5]
        clear h5
        by_cases h6 : z = 6
        ·have e6 : (z == 6) = true := by simp [h6]
         clear h6
         obtain ⟨oi, hoi⟩ := lx (i * 12)
         have pi : ad.add (i * 12) = ⟨g, oi, none⟩ := by rw [PI.out, hoi]
         have QI : Hid ((⟨g, oi, none⟩ : Addr) = ⟨g, i * 12, none⟩) := hid (by rw [hoi])
         clear hoi
         have OW := hid HO.out
         have FW := hid (Frm.refl (· = g) w1)
         go_wp2_with fail
         refine wp_region_held_drew (S := fun _ => True) (by kernel_rfl) trivial (fun hHeld => ?_)
         obtain ⟨wd, hwd⟩ := lx (w1.drew)
         have GD : Hid (Below w1.heap.size w1 wd) := hid (by rw [hwd]; exact bD)
         rw [← hwd]
         clear hwd
         have OD := hid (OW.out.below GD.out)
         have FD := hid (FW.out.trans (Frm.of_below GD.out))
         obtain ⟨e, vx, vy, hx, _, _, hce⟩ := OD.out.at_ hli QI.out
         obtain ⟨q0, q1, q2, q3, q4, q5, q6, q7, q8, q9, q10, q11⟩ := hce
         dsimp only at q0 q1 q2 q3 q4 q5 q6 q7 q8 q9 q10 q11
         have qf : World.frozen? wd ⟨g, oi + 10, none⟩ = false := OD.out.free_at QI.out 10
         clear hx q0 q1 q2 q3 q4 q5 q6 q7 q8 q9 q11
         apply both
         ·intro REST
          refine tk 0 (oi := ⟨some 140, _, _, _, _, _⟩) rfl ?_
          refine tk 1 (oi := ⟨some 141, _, _, _, _, _⟩) rfl ?_
          refine tk 2 (oi := ⟨some 142, _, _, _, _, _⟩) rfl ?_
          refine tk 3 (oi := ⟨some 143, _, _, _, _, _⟩) rfl ?_
          refine tk 4 (oi := ⟨some 144, _, _, _, _, _⟩) rfl ?_
          refine tk 6 (oi := ⟨some 146, _, _, _, _, _⟩) rfl ?_
          refine wpAnyH_ready (rs := [5, 7]) (by kernel_rfl) (by simp) ?_; refine AllReadyH.cons (o := ⟨some 145, _, _, _, _, _⟩) rfl (fun K hK => ?_) (AllReadyH.cons (o := ⟨some 147, _, _, _, _, _⟩) rfl (fun K hK => ?_) AllReadyH.nil)
          ·go_simp
           refine Ko hK trivial (fun hHeld => ?_)
           clear hK K
           refine rD 7 (o := ⟨some 147, _, _, _, _, _⟩) rfl (fun K hK => ?_)
           go_simp
           refine (within_some _ 3 wd (by omega) (by omega)).mono ?_
           rintro _ _ ⟨⟨z', rfl⟩, rfl⟩
           refine Ko hK trivial (fun hHeld => ?_)
           clear hK K
           refine tk 8 (oi := ⟨some 148, _, _, _, _, _⟩) rfl ?_
           refine tk 9 (oi := ⟨some 149, _, _, _, _, _⟩) rfl ?_
           refine tk 10 (oi := ⟨some 150, _, _, _, _, _⟩) rfl ?_
           refine tk 11 (oi := ⟨some 151, _, _, _, _, _⟩) rfl ?_
           refine tk 12 (oi := ⟨some 152, _, _, _, _, _⟩) rfl ?_
           exact REST.out z'
          ·go_simp
           refine (within_some _ 3 wd (by omega) (by omega)).mono ?_
           rintro _ _ ⟨⟨z', rfl⟩, rfl⟩
           refine Ko hK trivial (fun hHeld => ?_)
           clear hK K
           refine tk 8 (oi := ⟨some 148, _, _, _, _, _⟩) rfl ?_
           refine rD 5 (o := ⟨some 145, _, _, _, _, _⟩) rfl (fun K hK => ?_)
           go_simp
           refine Ko hK trivial (fun hHeld => ?_)
           clear hK K
           refine tk 9 (oi := ⟨some 149, _, _, _, _, _⟩) rfl ?_
           refine tk 10 (oi := ⟨some 150, _, _, _, _, _⟩) rfl ?_
           refine tk 11 (oi := ⟨some 151, _, _, _, _, _⟩) rfl ?_
           refine tk 12 (oi := ⟨some 152, _, _, _, _, _⟩) rfl ?_
           exact REST.out z'
         ·intro z'
          obtain ⟨d1, hd1⟩ : ∃ d, IntKind.i64.wrap (z' - 1) = d := ⟨_, rfl⟩
          obtain ⟨s1, hs1⟩ : ∃ s, IntKind.i64.wrap (e.pk.seen + d1) = s := ⟨_, rfl⟩
          rw [hd1, hs1]
          clear hd1 hs1
          refine rD 13 (o := ⟨none, _, _, _, _, _⟩) rfl (fun K hK => ?_)
          go_simp
          have o2 : OE w.heap.size 1000000 n (wd.setCell ⟨g, oi + 10, none⟩ (.int .i64 s1)) (.slice (some ⟨g, 0, none⟩) n cap) := OD.out.put hli (f := 10) (by omega) QI.out (u := .int .i64 s1) (fits_int _ _ _ _ _ (by omega))
          have f2 := FD.out.setCell (p := ⟨g, oi + 10, none⟩) (.inl rfl) (.int .i64 s1)
          obtain ⟨w2_, hw2⟩ := lx ((wd.setCell ⟨g, oi + 10, none⟩ (.int .i64 s1)))
          rw [← hw2] at o2 f2 ⊢
          clear OW FW
          have OW := hid o2
          have FW := hid f2
          clear hw2 o2 f2 q10 qf OD FD GD
          refine Ko hK trivial (fun hHeld => ?_)
          clear hK K
          refine dn ?_
          clear hHeld
          go_wp2_with fail
          refine wp_region_held_drew (S := fun _ => True) (by kernel_rfl) trivial (fun hHeld => ?_)
          obtain ⟨wd, hwd⟩ := lx (w2_.drew)
          have GD : Hid (Below w2_.heap.size w2_ wd) := hid (by rw [hwd]; exact bD)
          rw [← hwd]
          clear hwd
          have OD := hid (OW.out.below GD.out)
          have FD := hid (FW.out.trans (Frm.of_below GD.out))
          obtain ⟨e, vx, vy, hx, _, _, hce⟩ := OD.out.at_ hli QI.out
          obtain ⟨q0, q1, q2, q3, q4, q5, q6, q7, q8, q9, q10, q11⟩ := hce
          dsimp only at q0 q1 q2 q3 q4 q5 q6 q7 q8 q9 q10 q11
          have qf : World.frozen? wd ⟨g, oi + 11, none⟩ = false := OD.out.free_at QI.out 11
          clear hx q0 q1 q2 q3 q4 q5 q6 q7 q8 q9 q10
          apply both
          ·intro REST
           refine tk 0 (oi := ⟨some 153, _, _, _, _, _⟩) rfl ?_
           refine tk 1 (oi := ⟨some 154, _, _, _, _, _⟩) rfl ?_
           refine tk 2 (oi := ⟨some 155, _, _, _, _, _⟩) rfl ?_
           refine tk 3 (oi := ⟨some 156, _, _, _, _, _⟩) rfl ?_
           refine tk 4 (oi := ⟨some 157, _, _, _, _, _⟩) rfl ?_
           refine tk 6 (oi := ⟨some 159, _, _, _, _, _⟩) rfl ?_
           refine tk 7 (oi := ⟨some 160, _, _, _, _, _⟩) rfl ?_
           refine wpAnyH_ready (rs := [5, 8]) (by kernel_rfl) (by simp) ?_; refine AllReadyH.cons (o := ⟨some 158, _, _, _, _, _⟩) rfl (fun K hK => ?_) (AllReadyH.cons (o := ⟨some 161, _, _, _, _, _⟩) rfl (fun K hK => ?_) AllReadyH.nil)
           ·go_simp
            refine Ko hK trivial (fun hHeld => ?_)
            clear hK K
            refine rD 8 (o := ⟨some 161, _, _, _, _, _⟩) rfl (fun K hK => ?_)
            go_simp
            refine (within_some _ 3 wd (by omega) (by omega)).mono ?_
            rintro _ _ ⟨⟨z', rfl⟩, rfl⟩
            refine Ko hK trivial (fun hHeld => ?_)
            clear hK K
            refine tk 9 (oi := ⟨some 162, _, _, _, _, _⟩) rfl ?_
            refine tk 10 (oi := ⟨some 163, _, _, _, _, _⟩) rfl ?_
            refine tk 11 (oi := ⟨some 164, _, _, _, _, _⟩) rfl ?_
            refine tk 12 (oi := ⟨some 165, _, _, _, _, _⟩) rfl ?_
            refine tk 13 (oi := ⟨some 166, _, _, _, _, _⟩) rfl ?_
            exact REST.out z'
           ·go_simp
            refine (within_some _ 3 wd (by omega) (by omega)).mono ?_
            rintro _ _ ⟨⟨z', rfl⟩, rfl⟩
            refine Ko hK trivial (fun hHeld => ?_)
            clear hK K
            refine tk 9 (oi := ⟨some 162, _, _, _, _, _⟩) rfl ?_
            refine rD 5 (o := ⟨some 158, _, _, _, _, _⟩) rfl (fun K hK => ?_)
            go_simp
            refine Ko hK trivial (fun hHeld => ?_)
            clear hK K
            refine tk 10 (oi := ⟨some 163, _, _, _, _, _⟩) rfl ?_
            refine tk 11 (oi := ⟨some 164, _, _, _, _, _⟩) rfl ?_
            refine tk 12 (oi := ⟨some 165, _, _, _, _, _⟩) rfl ?_
            refine tk 13 (oi := ⟨some 166, _, _, _, _, _⟩) rfl ?_
            exact REST.out z'
          ·intro z'
           obtain ⟨d1, hd1⟩ : ∃ d, IntKind.i64.wrap (z' - 1) = d := ⟨_, rfl⟩
           obtain ⟨s1, hs1⟩ : ∃ s, IntKind.i64.wrap (e.pk.limit + d1) = s := ⟨_, rfl⟩
           rw [hd1, hs1]
           clear hd1 hs1
           refine rD 14 (o := ⟨none, _, _, _, _, _⟩) rfl (fun K hK => ?_)
           go_simp
           have o2 : OE w.heap.size 1000000 n (wd.setCell ⟨g, oi + 11, none⟩ (.int .i64 s1)) (.slice (some ⟨g, 0, none⟩) n cap) := OD.out.put hli (f := 11) (by omega) QI.out (u := .int .i64 s1) (fits_int _ _ _ _ _ (by omega))
           have f2 := FD.out.setCell (p := ⟨g, oi + 11, none⟩) (.inl rfl) (.int .i64 s1)
           obtain ⟨w3_, hw2⟩ := lx ((wd.setCell ⟨g, oi + 11, none⟩ (.int .i64 s1)))
           rw [← hw2] at o2 f2 ⊢
           clear OW FW
           have OW := hid o2
           have FW := hid f2
           clear hw2 o2 f2 q11 qf OD FD GD
           refine Ko hK trivial (fun hHeld => ?_)
           clear hK K
           refine dn ?_
           clear hHeld
           go_wp2_with fail
           refine wp_region_held_drew (S := fun _ => True) (by kernel_rfl) trivial (fun hHeld => ?_)
           obtain ⟨wd, hwd⟩ := lx (w3_.drew)
           have GD : Hid (Below w3_.heap.size w3_ wd) := hid (by rw [hwd]; exact bD)
           rw [← hwd]
           clear hwd
           have OD := hid (OW.out.below GD.out)
           have FD := hid (FW.out.trans (Frm.of_below GD.out))
           obtain ⟨e, vx, vy, hx, _, _, hce⟩ := OD.out.at_ hli QI.out
           obtain ⟨q0, q1, q2, q3, q4, q5, q6, q7, q8, q9, q10, q11⟩ := hce
           dsimp only at q0 q1 q2 q3 q4 q5 q6 q7 q8 q9 q10 q11
           have qf : World.frozen? wd ⟨g, oi + 6, none⟩ = false := OD.out.free_at QI.out 6
           clear hx q0 q1 q2 q3 q4 q5 q7 q8 q9 q10 q11
           apply both
           ·intro REST
            refine tk 0 (oi := ⟨some 167, _, _, _, _, _⟩) rfl ?_
            refine tk 1 (oi := ⟨some 168, _, _, _, _, _⟩) rfl ?_
            refine tk 2 (oi := ⟨some 169, _, _, _, _, _⟩) rfl ?_
            refine tk 3 (oi := ⟨some 170, _, _, _, _, _⟩) rfl ?_
            refine tk 4 (oi := ⟨some 171, _, _, _, _, _⟩) rfl ?_
            refine tk 6 (oi := ⟨some 173, _, _, _, _, _⟩) rfl ?_
            refine tk 7 (oi := ⟨some 174, _, _, _, _, _⟩) rfl ?_
            refine wpAnyH_ready (rs := [5, 8]) (by kernel_rfl) (by simp) ?_; refine AllReadyH.cons (o := ⟨some 172, _, _, _, _, _⟩) rfl (fun K hK => ?_) (AllReadyH.cons (o := ⟨some 175, _, _, _, _, _⟩) rfl (fun K hK => ?_) AllReadyH.nil)
            ·go_simp
             refine Ko hK trivial (fun hHeld => ?_)
             clear hK K
             refine rD 8 (o := ⟨some 175, _, _, _, _, _⟩) rfl (fun K hK => ?_)
             go_simp
             refine (within_some _ 3 wd (by omega) (by omega)).mono ?_
             rintro _ _ ⟨⟨z', rfl⟩, rfl⟩
             refine Ko hK trivial (fun hHeld => ?_)
             clear hK K
             refine tk 9 (oi := ⟨some 176, _, _, _, _, _⟩) rfl ?_
             refine tk 10 (oi := ⟨some 177, _, _, _, _, _⟩) rfl ?_
             refine tk 11 (oi := ⟨some 178, _, _, _, _, _⟩) rfl ?_
             refine tk 12 (oi := ⟨some 179, _, _, _, _, _⟩) rfl ?_
             refine tk 13 (oi := ⟨some 180, _, _, _, _, _⟩) rfl ?_
             exact REST.out z'
            ·go_simp
             refine (within_some _ 3 wd (by omega) (by omega)).mono ?_
             rintro _ _ ⟨⟨z', rfl⟩, rfl⟩
             refine Ko hK trivial (fun hHeld => ?_)
             clear hK K
             refine tk 9 (oi := ⟨some 176, _, _, _, _, _⟩) rfl ?_
             refine rD 5 (o := ⟨some 172, _, _, _, _, _⟩) rfl (fun K hK => ?_)
             go_simp
             refine Ko hK trivial (fun hHeld => ?_)
             clear hK K
             refine tk 10 (oi := ⟨some 177, _, _, _, _, _⟩) rfl ?_
             refine tk 11 (oi := ⟨some 178, _, _, _, _, _⟩) rfl ?_
             refine tk 12 (oi := ⟨some 179, _, _, _, _, _⟩) rfl ?_
             refine tk 13 (oi := ⟨some 180, _, _, _, _, _⟩) rfl ?_
             exact REST.out z'
           ·intro z'
            obtain ⟨d1, hd1⟩ : ∃ d, IntKind.i64.wrap (z' - 1) = d := ⟨_, rfl⟩
            obtain ⟨s1, hs1⟩ : ∃ s, IntKind.i64.wrap (e.pk.of_ + d1) = s := ⟨_, rfl⟩
            rw [hd1, hs1]
            clear hd1 hs1
            refine rD 14 (o := ⟨none, _, _, _, _, _⟩) rfl (fun K hK => ?_)
            go_simp
            have o2 : OE w.heap.size 1000000 n (wd.setCell ⟨g, oi + 6, none⟩ (.int .i64 s1)) (.slice (some ⟨g, 0, none⟩) n cap) := OD.out.put hli (f := 6) (by omega) QI.out (u := .int .i64 s1) (fits_int _ _ _ _ _ (by omega))
            have f2 := FD.out.setCell (p := ⟨g, oi + 6, none⟩) (.inl rfl) (.int .i64 s1)
            obtain ⟨w4_, hw2⟩ := lx ((wd.setCell ⟨g, oi + 6, none⟩ (.int .i64 s1)))
            rw [← hw2] at o2 f2 ⊢
            clear OW FW
            have OW := hid o2
            have FW := hid f2
            clear hw2 o2 f2 q6 qf OD FD GD
            refine Ko hK trivial (fun hHeld => ?_)
            clear hK K
            refine dn ?_
            clear hHeld
            go_wp2_with fail
            go_ret
            rw [HAD.out]
            exact OW.out.le.fin (by omega) (by omega) (Frm.below B1.out FW.out B1s (fun j hj => by have := (HO.out.lt g rfl).1; omega))
        ·have e6 : (z == 6) = false := by simp [h6]
         clear h6
         by_cases h7 : z = 7
         ·have e7 : (z == 7) = true := by simp [h7]
          clear h7
          obtain ⟨oi, hoi⟩ := lx (i * 12)
          have pi : ad.add (i * 12) = ⟨g, oi, none⟩ := by rw [PI.out, hoi]
          have QI : Hid ((⟨g, oi, none⟩ : Addr) = ⟨g, i * 12, none⟩) := hid (by rw [hoi])
          clear hoi
          have H5 := hid Tryz.info5
          obtain ⟨e, vx, vy, hx, hd1, hd2, hce⟩ := HO.out.at_ hli QI.out
          obtain ⟨X, x, rfl, _⟩ := hx.1.len
          obtain ⟨Y, y, rfl, _⟩ := hx.2.len
          have EX : Hid (BV w1 (fun j => j ≠ g) (.slice Y e.pk.data.length y) e.pk.data) := hid hx.2
          have hdl : e.pk.data.length ≤ 1000000 := hd2
          obtain ⟨q0, q1, q2, q3, q4, q5, q6, q7, q8, q9, q10, q11⟩ := hce
          dsimp only at q0 q1 q2 q3 q4 q5 q6 q7 q8 q9 q10 q11
          clear hx hd1 hd2 q0 q1 q2 q3 q4 q5 q6 q7 q9 q10 q11
          go_wp2_with fail
          refine (copybo w1 _ _ _ EX.out (by omega)).mono ?_
          rintro _ w2 ⟨A2, c2, rfl, h1, hb1⟩
          obtain ⟨d2, hd2⟩ := lx (e.pk.data)
          rw [← hd2] at h1 hdl ⊢
          have O2 := hid h1
          have F2 := hid hb1
          have sz : w1.heap.size ≤ w2.heap.size := hb1.size
          clear h1 hb1 q8 hd2 EX
          go_wp2_with (at_builtin; refine wp_app w1.heap.size rfl _ _ 25 5 (.int .u8 0) 1 1 rfl Tryz.underlying25 H5.out rfl (by omega) (by omega) rfl rfl (O2.out.1.alloc _) (Sl.one w2 5 (.int .u8 7) rfl) (by omega) (Nat.le_trans sz (by simp)) ?_; intro v9 w9 hown hfr hat; have O9 := hid hown; have B9 := hid (Frm.below (F2.out.alloc sz _) hfr (Nat.le_trans sz (by simp)) (fun g hg => (O2.out.1.lt g hg).1)); obtain ⟨A9, c9, rfl⟩ := own_slice' hown; clear hown hfr hat; obtain ⟨d3, P9, hd3l, e3⟩ := byte_more' 7 (by omega) O2.out O9.out hdl; rw [e3]; clear e3; have O9w := hid ((HO.out.wide (by omega : 1000000 ≤ 1000001)).below B9.out); obtain ⟨e9, x9, y9, _, _, _, hc9⟩ := O9w.out.at_ hli QI.out; obtain ⟨q0, q1, q2, q3, q4, q5, q6, q7, q8, q9, q10, q11⟩ := hc9; dsimp only at q8 q9; clear q0 q1 q2 q3 q4 q5 q6 q7 q10 q11; have qf8 : World.frozen? w9 ⟨g, oi + 8, none⟩ = false := O9w.out.free_at QI.out 8; have qf9 : World.frozen? w9 ⟨g, oi + 9, none⟩ = false := O9w.out.free_at QI.out 9; clear O9 O2 F2)
          try go_wp2_with fail
          go_ret
          rw [HAD.out]
          have bv9 : BV w9 (fun j => j ≠ g) (.slice A9 d3.length c9) d3 := P9.out.bv.mono (fun j hj _ => by omega)
          have o9 := O9w.out.put hli (f := 8) (by omega) QI.out (fits_pdata bv9 (by omega))
          have f9 := (Frm.refl (· = g) w9).setCell (p := ⟨g, oi + 8, none⟩) (.inl rfl) (.slice A9 d3.length c9)
          exact (o9.put hli (f := 9) (by omega) QI.out (fits_bool _ _ _ _)).le.fin (by omega) (by omega) (Frm.below (bO B1.out B9.out) (f9.setCell (p := ⟨g, oi + 9, none⟩) (.inl rfl) _) (by have := B9.out.size; omega) (fun j hj => by have := (HO.out.lt g rfl).1; omega))
         ·have e7 : (z == 7) = false := by simp [h7]
          clear h7
          obtain ⟨oi, hoi⟩ := lx (i * 12)
          have pi : ad.add (i * 12) = ⟨g, oi, none⟩ := by rw [PI.out, hoi]
          have QI : Hid ((⟨g, oi, none⟩ : Addr) = ⟨g, i * 12, none⟩) := hid (by rw [hoi])
          clear hoi
          have H5 := hid Tryz.info5
          obtain ⟨e, vx, vy, hx, hd1, hd2, hce⟩ := HO.out.at_ hli QI.out
          obtain ⟨X, x, rfl, _⟩ := hx.1.len
          obtain ⟨Y, y, rfl, _⟩ := hx.2.len
          have EX : Hid (BV w1 (fun j => j ≠ g) (.slice X e.data.length x) e.data) := hid hx.1
          have hdl : e.data.length ≤ 1000000 := hd1
          obtain ⟨q0, q1, q2, q3, q4, q5, q6, q7, q8, q9, q10, q11⟩ := hce
          dsimp only at q0 q1 q2 q3 q4 q5 q6 q7 q8 q9 q10 q11
          clear hx hd1 hd2 q0 q1 q3 q4 q5 q6 q7 q8 q9 q10 q11
          go_wp2_with fail
          refine (copybo w1 _ _ _ EX.out (by omega)).mono ?_
          rintro _ w2 ⟨A2, c2, rfl, h1, hb1⟩
          obtain ⟨d2, hd2⟩ := lx (e.data)
          rw [← hd2] at h1 hdl ⊢
          have O2 := hid h1
          have F2 := hid hb1
          have sz : w1.heap.size ≤ w2.heap.size := hb1.size
          clear h1 hb1 q2 hd2 EX
          go_wp2_with (at_builtin; refine wp_app w1.heap.size rfl _ _ 25 5 (.int .u8 0) 1 1 rfl Tryz.underlying25 H5.out rfl (by omega) (by omega) rfl rfl (O2.out.1.alloc _) (Sl.one w2 5 (.int .u8 1) rfl) (by omega) (Nat.le_trans sz (by simp)) ?_; intro v9 w9 hown hfr hat; have O9 := hid hown; have B9 := hid (Frm.below (F2.out.alloc sz _) hfr (Nat.le_trans sz (by simp)) (fun g hg => (O2.out.1.lt g hg).1)); obtain ⟨A9, c9, rfl⟩ := own_slice' hown; clear hown hfr hat; obtain ⟨d3, P9, hd3l, e3⟩ := byte_more' 1 (by omega) O2.out O9.out hdl; rw [e3]; clear e3; have O9w := hid ((HO.out.wide (by omega : 1000000 ≤ 1000001)).below B9.out); obtain ⟨e9, x9, y9, _, _, _, hc9⟩ := O9w.out.at_ hli QI.out; obtain ⟨q0, q1, q2, q3, q4, q5, q6, q7, q8, q9, q10, q11⟩ := hc9; dsimp only at q2; clear q0 q1 q3 q4 q5 q6 q7 q8 q9 q10 q11; have qf2 : World.frozen? w9 ⟨g, oi + 2, none⟩ = false := O9w.out.free_at QI.out 2; clear O9 O2 F2)
          try go_wp2_with fail
          go_ret
          rw [HAD.out]
          have bv9 : BV w9 (fun j => j ≠ g) (.slice A9 d3.length c9) d3 := P9.out.bv.mono (fun j hj _ => by omega)
          have o9 := O9w.out.put hli (f := 2) (by omega) QI.out (fits_data bv9 (by omega))
          have f9 := (Frm.refl (· = g) w9).setCell (p := ⟨g, oi + 2, none⟩) (.inl rfl) (.slice A9 d3.length c9)
          exact o9.le.fin (by omega) (by omega) (Frm.below (bO B1.out B9.out) f9 (by have := B9.out.size; omega) (fun j hj => by have := (HO.out.lt g rfl).1; omega))
end
end Go.Proofs.YtdneakejlbabeaaGreat
