/- Parts of the walk: Ee, Jf, Jg. -/
import Derived.Deep.RegionLaw
import Derived.Test.YtdneakejlbabeaaGreatM08
import Derived.Test.YtdneakejlbabeaaGreatM14
import Derived.Test.YtdneakejlbabeaaGreatM05
import Derived.Deep.LoopGhost
namespace Go.Proofs.YtdneakejlbabeaaGreat
open Go.RowKit
set_option linter.unusedVariables false
set_option linter.unusedSimpArgs false
attribute [local go_sem] run_max2' run_min2' run_max_ run_min_ run_min3_

def PieceR (w : World) (m : Nat) (e : Ending) (w' : World) : Prop := ∃ v' l q, e = .returned (.tuple #[v', .bool q]) ∧ BO w.heap.size w' v' l ∧ l.length ≤ m ∧ Below w.heap.size w w'
set_option maxHeartbeats 8000000 in
set_option maxRecDepth 100000 in
theorem piece_any (w : World) (S : Nat → Prop) (g : Nat) (bu ac : Int) (A : Option Addr) (c : Nat) (ob : List Int) (cl : Bool) (f t : Int)
    (h : ObC w g bu ac A ob.length c cl) (ho : BV w S (.slice A ob.length c) ob) (hn : ob.length ≤ 4096) :
    Calls Tryz.prog 111 #[.pointer (some ⟨g, 0, none⟩), .int .i64 f, .int .i64 t] w fun e w' => PieceR w ob.length e w' := by
  obtain ⟨n, hN⟩ : ∃ n, ob.length = n := ⟨_, rfl⟩
  obtain ⟨_, c_, e_, hbc, _⟩ := ho.len
  injection e_ with e1_ _ e3_
  subst e1_
  subst e3_
  rw [hN] at h ho hn hbc ⊢
  have HN := Lib.hid hN
  have H := Lib.hid h
  have HO := Lib.hid ho
  have HI := Lib.hid Tryz.info5
  have c2 := h.cell 2
  have c3 := h.cell 3
  simp only [List.getElem?_toArray, List.getElem?_cons_zero, List.getElem?_cons_succ] at c2 c3
  obtain ⟨p, hp⟩ : ∃ p, placesN n cl = p := ⟨_, rfl⟩
  have hpn : p ≤ n + 1 := by rw [← hp]; unfold placesN; split <;> omega
  have PA : Hid (∀ W, Below w.heap.size w W → Calls Tryz.prog 63 #[.pointer (some ⟨g, 0, none⟩)] W fun e w' => e = .returned (.int .i64 (p : Nat)) ∧ W = w') := Lib.hid (fun W hW => hp ▸ places_any W g bu ac A n c cl (H.out.below hW) (by omega))
  clear h ho hN hp
  by_cases h0 : f < 0
  · go_enter Tryz.func111, Tryz.ntmps111
    go_wp2_with fail
    refine bodyPost_ret (results_two rfl _ _ _) rfl ?_
    exact ⟨_, _, _, rfl, BO.nil _ _, by simp, Below.refl _ _⟩
  by_cases h1 : t < f
  · go_enter Tryz.func111, Tryz.ntmps111
    go_wp2_with fail
    refine bodyPost_ret (results_two rfl _ _ _) rfl ?_
    exact ⟨_, _, _, rfl, BO.nil _ _, by simp, Below.refl _ _⟩
  by_cases h2 : (p : Int) < t
  · go_enter Tryz.func111, Tryz.ntmps111
    go_wp2_with fail
    refine (PA.out w (Below.refl _ _)).mono ?_
    rintro e _ ⟨rfl, rfl⟩
    go_wp2_with fail
    refine bodyPost_ret (results_two rfl _ _ _) rfl ?_
    exact ⟨_, _, _, rfl, BO.nil _ _, by simp, Below.refl _ _⟩
  obtain ⟨a, ha, han⟩ : ∃ a : Nat, mn f (n : Int) = (a : Int) ∧ a ≤ n := ⟨(mn f (n : Int)).toNat, by unfold mn; split <;> omega, by unfold mn; split <;> omega⟩
  obtain ⟨b, hb, hbn, hab⟩ : ∃ b : Nat, mn t (n : Int) = (b : Int) ∧ b ≤ n ∧ a ≤ b := ⟨(mn t (n : Int)).toNat, by unfold mn; split <;> omega, by unfold mn; split <;> omega, by unfold mn at ha ⊢; split at ha <;> split <;> omega⟩
  have i0 : (0 : Int) ≤ (a : Int) := by omega
  have i1 : (a : Int) ≤ (b : Int) := by omega
  have i2 : (b : Int) ≤ (c : Int) := by omega
  obtain ⟨q, hq⟩ : ∃ q, (t == (p : Int)) = q := ⟨_, rfl⟩
  obtain ⟨q2, hq2⟩ : ∃ q, decide (f < t) = q := ⟨_, rfl⟩
  obtain ⟨A6, hA6⟩ : ∃ x, (if c = a then A else Option.map (fun x => x.add a) A) = x := ⟨_, rfl⟩
  have HS : Hid (∀ W, Below w.heap.size w W → Sl W 1 (.slice A6 (b - a) (c - a)) (b - a) (((u8s ob).drop a).take (b - a))) := Lib.hid (fun W hW => hA6 ▸ Sl.sub1 (t := a) (u := b) (by have := (HO.out.below hW).sl; rw [HN.out] at this; exact this) hab hbn)
  have HA := Lib.hid ha
  have HB := Lib.hid hb
  have hbm : b - a ≤ 5000 := by omega
  have KE : Hid (∀ W, Below w.heap.size w W → W.cell? ⟨g, 2, none⟩ = some (.slice A n c) ∧ W.cell? ⟨g, 3, none⟩ = some (.bool cl)) := Lib.hid (fun W hW => ⟨(H.out.below hW).cell 2, (H.out.below hW).cell 3⟩)
  have G : Hid (Below w.heap.size w w.drew) := Lib.hid (Below.refl _ _).drew
  obtain ⟨k2, k3⟩ := KE.out _ G.out
  have sw := G.out.size
  have hlen : ((ob.drop a).take (b - a)).length = b - a := by rw [List.length_take, List.length_drop]; have := HN.out; omega
  have hu8 : u8s ((ob.drop a).take (b - a)) = ((u8s ob).drop a).take (b - a) := by simp [u8s, List.map_take, List.map_drop]
  have hbyt : Byt ((ob.drop a).take (b - a)) := fun x hx => HO.out.byt x (List.mem_of_mem_drop (List.mem_of_mem_take hx))
  have HLEN := Lib.hid hlen
  have HU8 := Lib.hid hu8
  have HBY := Lib.hid hbyt
  clear hlen hu8 hbyt
  cases cl
  · go_enter Tryz.func111, Tryz.ntmps111
    go_wp2_with fail
    refine (PA.out w (Below.refl _ _)).mono ?_
    rintro e _ ⟨rfl, rfl⟩
    go_wp2_with fail
    refine wp_region_held_drew (S := fun w' => w'.cell? ⟨g, 2, none⟩ = some (.slice A n c) ∧ w'.cell? ⟨g, 3, none⟩ = some (.bool false)) (by kernel_rfl) (KE.out _ G.out) (fun hHeld => ?_)
    refine tk 0 (oi := ⟨some 21, _, _, _, _, _⟩) rfl ?_
    refine tk 1 (oi := ⟨some 22, _, _, _, _, _⟩) rfl ?_
    refine tk 2 (oi := ⟨some 23, _, _, _, _, _⟩) rfl ?_
    refine tk 3 (oi := ⟨some 24, _, _, _, _, _⟩) rfl ?_
    refine tk 4 (oi := ⟨some 25, _, _, _, _, _⟩) rfl ?_
    refine tk 5 (oi := ⟨some 26, _, _, _, _, _⟩) rfl ?_
    refine tk 6 (oi := ⟨some 27, _, _, _, _, _⟩) rfl ?_
    refine tk 7 (oi := ⟨some 28, _, _, _, _, _⟩) rfl ?_
    refine tk 8 (oi := ⟨some 29, _, _, _, _, _⟩) rfl ?_
    refine tk 9 (oi := ⟨some 30, _, _, _, _, _⟩) rfl ?_
    refine tk 10 (oi := ⟨some 31, _, _, _, _, _⟩) rfl ?_
    refine tk 11 (oi := ⟨some 32, _, _, _, _, _⟩) rfl ?_
    refine tk 12 (oi := ⟨some 33, _, _, _, _, _⟩) rfl ?_
    refine tk 13 (oi := ⟨some 34, _, _, _, _, _⟩) rfl ?_
    refine tk 14 (oi := ⟨some 35, _, _, _, _, _⟩) rfl ?_
    refine tk 15 (oi := ⟨some 36, _, _, _, _, _⟩) rfl ?_
    refine tk 16 (oi := ⟨some 37, _, _, _, _, _⟩) rfl ?_
    refine tk 17 (oi := ⟨some 38, _, _, _, _, _⟩) rfl ?_
    refine tk 18 (oi := ⟨some 39, _, _, _, _, _⟩) rfl ?_
    refine tk 20 (oi := ⟨some 41, _, _, _, _, _⟩) rfl ?_
    refine tk 21 (oi := ⟨some 42, _, _, _, _, _⟩) rfl ?_
    refine tk 22 (oi := ⟨some 43, _, _, _, _, _⟩) rfl ?_
    refine tk 23 (oi := ⟨some 44, _, _, _, _, _⟩) rfl ?_
    refine wpAnyH_ready (rs := [19]) (by kernel_rfl) (by simp) ?_; refine AllReadyH.cons (o := ⟨some 40, _, _, _, _, _⟩) rfl (fun K hK => ?_) AllReadyH.nil
    refine step_app (v := .slice none 0 0) w.heap.size (by rfl) _ _ 25 5 (.int .u8 0) 1 1 (by rfl) Tryz.underlying25 HI.out rfl (by omega) (by omega) (by rfl) (by rfl) (World.ownsRow_nil _ _ _ _) (HS.out _ G.out) (by omega) G.out.size ?_
    intro v7 w7 hown hfr hat
    simp only [Nat.zero_add, List.nil_append] at hown
    have g_ : Below w.heap.size w w7 := Frm.below G.out hfr G.out.size (fun g hg => by cases hg)
    clear G
    have G := Lib.hid g_
    have O7 := Lib.hid hown
    obtain ⟨A7, c7, rfl⟩ := own_slice' hown
    clear hown hfr hat g_
    refine hK.out _ _ (KE.out _ G.out) (fun hHeld => ?_)
    clear hK K
    (try simp only [Act.put, List.setIfInBounds_toArray, List.set_cons_zero, List.set_cons_succ])
    refine tk 24 (oi := ⟨some 45, _, _, _, _, _⟩) rfl ?_
    refine sk 25 (oi := ⟨some 46, _, _, _, _, _⟩) rfl ?_
    refine sk 26 (oi := ⟨some 47, _, _, _, _, _⟩) rfl ?_
    refine sk 27 (oi := ⟨some 48, _, _, _, _, _⟩) rfl ?_
    refine sk 28 (oi := ⟨some 49, _, _, _, _, _⟩) rfl ?_
    refine tk 29 (oi := ⟨some 50, _, _, _, _, _⟩) rfl ?_
    refine tk 30 (oi := ⟨some 51, _, _, _, _, _⟩) rfl ?_
    refine sk 31 (oi := ⟨some 52, _, _, _, _, _⟩) rfl ?_
    refine sk 32 (oi := ⟨some 53, _, _, _, _, _⟩) rfl ?_
    refine sk 33 (oi := ⟨some 54, _, _, _, _, _⟩) rfl ?_
    refine tk 34 (oi := ⟨some 55, _, _, _, _, _⟩) rfl ?_
    refine tk 35 (oi := ⟨some 6, _, _, _, _, _⟩) rfl ?_
    refine tk 36 (oi := ⟨some 7, _, _, _, _, _⟩) rfl ?_
    refine wpAnyH_done (by kernel_rfl) ?_ _
    all_goals
      go_wp2_with fail
      refine bodyPost_ret (results_two rfl _ _ _) rfl ?_
      exact ⟨_, (ob.drop a).take (b - a), _, rfl, ⟨by rw [HLEN.out, HU8.out]; exact O7.out, HBY.out⟩, by rw [HLEN.out]; omega, G.out⟩
  · cases q
    · go_enter Tryz.func111, Tryz.ntmps111
      go_wp2_with fail
      refine (PA.out w (Below.refl _ _)).mono ?_
      rintro e _ ⟨rfl, rfl⟩
      go_wp2_with fail
      refine wp_region_held_drew (S := fun w' => w'.cell? ⟨g, 2, none⟩ = some (.slice A n c) ∧ w'.cell? ⟨g, 3, none⟩ = some (.bool true)) (by kernel_rfl) (KE.out _ G.out) (fun hHeld => ?_)
      refine tk 0 (oi := ⟨some 21, _, _, _, _, _⟩) rfl ?_
      refine tk 1 (oi := ⟨some 22, _, _, _, _, _⟩) rfl ?_
      refine tk 2 (oi := ⟨some 23, _, _, _, _, _⟩) rfl ?_
      refine tk 3 (oi := ⟨some 24, _, _, _, _, _⟩) rfl ?_
      refine tk 4 (oi := ⟨some 25, _, _, _, _, _⟩) rfl ?_
      refine tk 5 (oi := ⟨some 26, _, _, _, _, _⟩) rfl ?_
      refine tk 6 (oi := ⟨some 27, _, _, _, _, _⟩) rfl ?_
      refine tk 7 (oi := ⟨some 28, _, _, _, _, _⟩) rfl ?_
      refine tk 8 (oi := ⟨some 29, _, _, _, _, _⟩) rfl ?_
      refine tk 9 (oi := ⟨some 30, _, _, _, _, _⟩) rfl ?_
      refine tk 10 (oi := ⟨some 31, _, _, _, _, _⟩) rfl ?_
      refine tk 11 (oi := ⟨some 32, _, _, _, _, _⟩) rfl ?_
      refine tk 12 (oi := ⟨some 33, _, _, _, _, _⟩) rfl ?_
      refine tk 13 (oi := ⟨some 34, _, _, _, _, _⟩) rfl ?_
      refine tk 14 (oi := ⟨some 35, _, _, _, _, _⟩) rfl ?_
      refine tk 15 (oi := ⟨some 36, _, _, _, _, _⟩) rfl ?_
      refine tk 16 (oi := ⟨some 37, _, _, _, _, _⟩) rfl ?_
      refine tk 17 (oi := ⟨some 38, _, _, _, _, _⟩) rfl ?_
      refine tk 18 (oi := ⟨some 39, _, _, _, _, _⟩) rfl ?_
      refine tk 20 (oi := ⟨some 41, _, _, _, _, _⟩) rfl ?_
      refine tk 21 (oi := ⟨some 42, _, _, _, _, _⟩) rfl ?_
      refine tk 22 (oi := ⟨some 43, _, _, _, _, _⟩) rfl ?_
      refine tk 23 (oi := ⟨some 44, _, _, _, _, _⟩) rfl ?_
      refine wpAnyH_ready (rs := [19]) (by kernel_rfl) (by simp) ?_; refine AllReadyH.cons (o := ⟨some 40, _, _, _, _, _⟩) rfl (fun K hK => ?_) AllReadyH.nil
      refine step_app (v := .slice none 0 0) w.heap.size (by rfl) _ _ 25 5 (.int .u8 0) 1 1 (by rfl) Tryz.underlying25 HI.out rfl (by omega) (by omega) (by rfl) (by rfl) (World.ownsRow_nil _ _ _ _) (HS.out _ G.out) (by omega) G.out.size ?_
      intro v7 w7 hown hfr hat
      simp only [Nat.zero_add, List.nil_append] at hown
      have g_ : Below w.heap.size w w7 := Frm.below G.out hfr G.out.size (fun g hg => by cases hg)
      clear G
      have G := Lib.hid g_
      have O7 := Lib.hid hown
      obtain ⟨A7, c7, rfl⟩ := own_slice' hown
      clear hown hfr hat g_
      refine hK.out _ _ (KE.out _ G.out) (fun hHeld => ?_)
      clear hK K
      (try simp only [Act.put, List.setIfInBounds_toArray, List.set_cons_zero, List.set_cons_succ])
      refine tk 24 (oi := ⟨some 45, _, _, _, _, _⟩) rfl ?_
      refine tk 25 (oi := ⟨some 46, _, _, _, _, _⟩) rfl ?_
      refine tk 26 (oi := ⟨some 47, _, _, _, _, _⟩) rfl ?_
      refine wpAnyH_ready (rs := [27]) (by kernel_rfl) (by simp) ?_; refine AllReadyH.cons (o := ⟨some 48, _, _, _, _, _⟩) rfl (fun K hK => ?_) AllReadyH.nil
      go_simp
      refine (PA.out _ G.out).mono ?_
      rintro e _ ⟨rfl, rfl⟩
      refine hK.out _ _ (KE.out _ G.out) (fun hHeld => ?_)
      clear hK K
      (try simp only [Act.put, List.setIfInBounds_toArray, List.set_cons_zero, List.set_cons_succ])
      refine tk 28 (oi := ⟨some 49, _, _, _, _, _⟩) rfl ?_
      refine tk 29 (oi := ⟨some 50, _, _, _, _, _⟩) rfl ?_
      refine tk 30 (oi := ⟨some 51, _, _, _, _, _⟩) rfl ?_
      refine sk 31 (oi := ⟨some 52, _, _, _, _, _⟩) rfl ?_
      refine sk 32 (oi := ⟨some 53, _, _, _, _, _⟩) rfl ?_
      refine sk 33 (oi := ⟨some 54, _, _, _, _, _⟩) rfl ?_
      refine tk 34 (oi := ⟨some 55, _, _, _, _, _⟩) rfl ?_
      refine tk 35 (oi := ⟨some 6, _, _, _, _, _⟩) rfl ?_
      refine tk 36 (oi := ⟨some 7, _, _, _, _, _⟩) rfl ?_
      refine wpAnyH_done (by kernel_rfl) ?_ _
      all_goals
        go_wp2_with fail
        refine bodyPost_ret (results_two rfl _ _ _) rfl ?_
        exact ⟨_, (ob.drop a).take (b - a), _, rfl, ⟨by rw [HLEN.out, HU8.out]; exact O7.out, HBY.out⟩, by rw [HLEN.out]; omega, G.out⟩
    · go_enter Tryz.func111, Tryz.ntmps111
      go_wp2_with fail
      refine (PA.out w (Below.refl _ _)).mono ?_
      rintro e _ ⟨rfl, rfl⟩
      go_wp2_with fail
      refine wp_region_held_drew (S := fun w' => w'.cell? ⟨g, 2, none⟩ = some (.slice A n c) ∧ w'.cell? ⟨g, 3, none⟩ = some (.bool true)) (by kernel_rfl) (KE.out _ G.out) (fun hHeld => ?_)
      refine tk 0 (oi := ⟨some 21, _, _, _, _, _⟩) rfl ?_
      refine tk 1 (oi := ⟨some 22, _, _, _, _, _⟩) rfl ?_
      refine tk 2 (oi := ⟨some 23, _, _, _, _, _⟩) rfl ?_
      refine tk 3 (oi := ⟨some 24, _, _, _, _, _⟩) rfl ?_
      refine tk 4 (oi := ⟨some 25, _, _, _, _, _⟩) rfl ?_
      refine tk 5 (oi := ⟨some 26, _, _, _, _, _⟩) rfl ?_
      refine tk 6 (oi := ⟨some 27, _, _, _, _, _⟩) rfl ?_
      refine tk 7 (oi := ⟨some 28, _, _, _, _, _⟩) rfl ?_
      refine tk 8 (oi := ⟨some 29, _, _, _, _, _⟩) rfl ?_
      refine tk 9 (oi := ⟨some 30, _, _, _, _, _⟩) rfl ?_
      refine tk 10 (oi := ⟨some 31, _, _, _, _, _⟩) rfl ?_
      refine tk 11 (oi := ⟨some 32, _, _, _, _, _⟩) rfl ?_
      refine tk 12 (oi := ⟨some 33, _, _, _, _, _⟩) rfl ?_
      refine tk 13 (oi := ⟨some 34, _, _, _, _, _⟩) rfl ?_
      refine tk 14 (oi := ⟨some 35, _, _, _, _, _⟩) rfl ?_
      refine tk 15 (oi := ⟨some 36, _, _, _, _, _⟩) rfl ?_
      refine tk 16 (oi := ⟨some 37, _, _, _, _, _⟩) rfl ?_
      refine tk 17 (oi := ⟨some 38, _, _, _, _, _⟩) rfl ?_
      refine tk 18 (oi := ⟨some 39, _, _, _, _, _⟩) rfl ?_
      refine tk 20 (oi := ⟨some 41, _, _, _, _, _⟩) rfl ?_
      refine tk 21 (oi := ⟨some 42, _, _, _, _, _⟩) rfl ?_
      refine tk 22 (oi := ⟨some 43, _, _, _, _, _⟩) rfl ?_
      refine tk 23 (oi := ⟨some 44, _, _, _, _, _⟩) rfl ?_
      refine wpAnyH_ready (rs := [19]) (by kernel_rfl) (by simp) ?_; refine AllReadyH.cons (o := ⟨some 40, _, _, _, _, _⟩) rfl (fun K hK => ?_) AllReadyH.nil
      refine step_app (v := .slice none 0 0) w.heap.size (by rfl) _ _ 25 5 (.int .u8 0) 1 1 (by rfl) Tryz.underlying25 HI.out rfl (by omega) (by omega) (by rfl) (by rfl) (World.ownsRow_nil _ _ _ _) (HS.out _ G.out) (by omega) G.out.size ?_
      intro v7 w7 hown hfr hat
      simp only [Nat.zero_add, List.nil_append] at hown
      have g_ : Below w.heap.size w w7 := Frm.below G.out hfr G.out.size (fun g hg => by cases hg)
      clear G
      have G := Lib.hid g_
      have O7 := Lib.hid hown
      obtain ⟨A7, c7, rfl⟩ := own_slice' hown
      clear hown hfr hat g_
      refine hK.out _ _ (KE.out _ G.out) (fun hHeld => ?_)
      clear hK K
      (try simp only [Act.put, List.setIfInBounds_toArray, List.set_cons_zero, List.set_cons_succ])
      refine tk 24 (oi := ⟨some 45, _, _, _, _, _⟩) rfl ?_
      refine tk 25 (oi := ⟨some 46, _, _, _, _, _⟩) rfl ?_
      refine tk 26 (oi := ⟨some 47, _, _, _, _, _⟩) rfl ?_
      refine wpAnyH_ready (rs := [27]) (by kernel_rfl) (by simp) ?_; refine AllReadyH.cons (o := ⟨some 48, _, _, _, _, _⟩) rfl (fun K hK => ?_) AllReadyH.nil
      go_simp
      refine (PA.out _ G.out).mono ?_
      rintro e _ ⟨rfl, rfl⟩
      refine hK.out _ _ (KE.out _ G.out) (fun hHeld => ?_)
      clear hK K
      (try simp only [Act.put, List.setIfInBounds_toArray, List.set_cons_zero, List.set_cons_succ])
      refine tk 28 (oi := ⟨some 49, _, _, _, _, _⟩) rfl ?_
      refine tk 29 (oi := ⟨some 50, _, _, _, _, _⟩) rfl ?_
      refine tk 30 (oi := ⟨some 51, _, _, _, _, _⟩) rfl ?_
      refine tk 31 (oi := ⟨some 52, _, _, _, _, _⟩) rfl ?_
      refine tk 32 (oi := ⟨some 53, _, _, _, _, _⟩) rfl ?_
      refine tk 33 (oi := ⟨some 54, _, _, _, _, _⟩) rfl ?_
      refine tk 34 (oi := ⟨some 55, _, _, _, _, _⟩) rfl ?_
      refine tk 35 (oi := ⟨some 6, _, _, _, _, _⟩) rfl ?_
      refine tk 36 (oi := ⟨some 7, _, _, _, _, _⟩) rfl ?_
      refine wpAnyH_done (by kernel_rfl) ?_ _
      all_goals
        go_wp2_with fail
        refine bodyPost_ret (results_two rfl _ _ _) rfl ?_
        exact ⟨_, (ob.drop a).take (b - a), _, rfl, ⟨by rw [HLEN.out, HU8.out]; exact O7.out, HBY.out⟩, by rw [HLEN.out]; omega, G.out⟩
end Go.Proofs.YtdneakejlbabeaaGreat

namespace Go.Proofs.YtdneakejlbabeaaGreat
open Go.RowKit
set_option linter.unusedVariables false
set_option linter.unusedSimpArgs false

/-- An end that said these packets. -/
structure Grw (x x' : EndV) (d : List Pk) : Prop where
  e : x' = { x with ps := x'.ps, sent := x'.sent, vl := x'.vl, lost := x'.lost, vE := x'.vE, es := x'.es, vO := x'.vO, outs := x'.outs, m0 := x'.m0, m1 := x'.m1, m2 := x'.m2, m3 := x'.m3, m4 := x'.m4, m5 := x'.m5, m6 := x'.m6, m7 := x'.m7 }
  es : x'.es = x.es ++ d.map fun p => ⟨5, 0, [], p⟩
  outs : x'.outs = x.outs ++ d
  n : x'.ps.length = x.ps.length
  s : said x'.ps = said x.ps + d.length
  lost : x'.lost.length ≤ x.lost.length
  sm : ∀ p ∈ d, p.data.length ≤ 1000000
theorem Grw.refl (x : EndV) : Grw x x [] := ⟨rfl, by simp, by simp, rfl, by simp, Nat.le_refl _, fun p h => (by cases h)⟩
theorem Grw.trans {x y z : EndV} {d d' : List Pk} (h : Grw x y d) (k : Grw y z d') : Grw x z (d ++ d') :=
  ⟨by rw [k.e, h.e], by rw [k.es, h.es]; simp, by rw [k.outs, h.outs]; simp, k.n.trans h.n, by rw [k.s, h.s]; simp; omega, Nat.le_trans k.lost h.lost, fun p hp => (List.mem_append.1 hp).elim (h.sm p) (k.sm p)⟩
/-- An end's numbers stay so. -/
theorem EOk.grw {N : Nat} {x x' : EndV} {d : List Pk} (h : EOk N x) (g : Grw x x' d) : EOk N x' := by
  have e := g.e
  obtain ⟨h1, h2, h3, h4, h5, h6, h7, h8, h9, h10⟩ := h
  refine ⟨by rw [g.n]; exact h1, ?_, ?_, ?_, ?_, Nat.le_trans g.lost h6, ?_, ?_, ?_, h10⟩
  · rw [g.n]; rw [e]; exact h2
  · rw [g.n]; rw [e]; exact h3
  · rw [e]; exact h4
  · rw [e]; exact h5
  · rw [e]; exact h7
  · rw [g.es, g.s]; simp; omega
  · rw [g.outs, g.s]; simp; omega
def DataR (o : Nat → Nat) (k B : Nat) (w : World) (ge : Nat) (x : EndV) (i : Nat) (q : PathV) (e : Ending) (w' : World) : Prop :=
  e = .returned (.tuple #[]) ∧ ∃ (o' : Nat → Nat) (x' : EndV) (d : List Pk), EndS o' k B w' ge x' ∧ Stp (EC k) o o' w w' ∧ Grw x x' d ∧ (q.s ≤ 65535 → d ≠ [])
set_option maxHeartbeats 16000000 in
set_option maxRecDepth 100000 in
theorem data_any (o : Nat → Nat) (k B : Nat) (w : World) (ge : Nat) (x : EndV) (i : Nat) (q : PathV) (f t : Int) (h : EndS o k B w ge x) (hB : B ≤ w.heap.size) (hi : x.ps[i]? = some q) (hn : x.ob.length ≤ 4096) (hl : x.es.length ≤ 100000000) (hl2 : x.outs.length ≤ 100000000) (hl3 : q.l.length ≤ 100000000) :
    Calls Tryz.prog 92 #[.pointer (some ⟨ge, 0, none⟩), .int .i64 (i : Int), .int .i64 f, .int .i64 t] w fun e w' => DataR o k B w ge x i q e w' := by
  have H := Lib.hid h
  have HQ := Lib.hid hi
  have c12 := h.blk.cell 12
  simp only [List.getElem?_toArray, List.getElem?_cons_zero, List.getElem?_cons_succ] at c12
  obtain ⟨Ab, cb, hvb⟩ := own_slice' h.c3.r.1
  have OB : Hid (ObC w x.go x.bu x.ac Ab x.ob.length cb x.cl) := Lib.hid (by have := h.c3.blk; rw [hvb] at this; exact this)
  have OV : Hid (BV w (fun j => B ≤ j) (.slice Ab x.ob.length cb) x.ob) := Lib.hid (by have := h.c3.r.bv; rw [hvb] at this; exact this)
  have hil := (List.getElem?_eq_some_iff.1 hi).1
  have np := h.np
  have i0 : (0 : Int) ≤ (i : Int) := by omega
  have qs0 : Hid (0 ≤ q.s) := Lib.hid (h.c9 i q hi).r.s0.1
  clear h hi hvb
  go_enter Tryz.func92, Tryz.ntmps92
  go_wp2_with fail
  refine (piece_any w _ x.go x.bu x.ac Ab cb x.ob x.cl f t OB.out OV.out hn).mono ?_
  rintro e w1 ⟨vd, ld, fin, rfl, hbo, hld, hb⟩
  have SS : Stp (fun _ => False) o (scr o w.heap.size 0) w w1 := ⟨Frm.of_below hb, scr_agr _ _ _⟩
  have X1 : Hid (EndS (scr o w.heap.size 0) k B w1 ge x) := Lib.hid (H.out.frm SS (fun h => h) (fun _ h => h.elim))
  have D1 : Hid (BV w1 (frozen (scr o w.heap.size 0)) vd ld) := Lib.hid (hbo.bv.mono (fun j hj _ => scr_new hj))
  have S1 : Hid (Stp (EC k) o (scr o w.heap.size 0) w w1) := Lib.hid (SS.mono (fun _ h => h.elim))
  obtain ⟨o1, ho1⟩ : ∃ f, f = scr o w.heap.size 0 := ⟨_, rfl⟩
  rw [← ho1] at X1 D1 S1
  obtain ⟨Ad, cd, rfl⟩ := own_slice' hbo.1
  have s1 := hb.size
  clear hbo hb SS ho1 c12
  go_wp2_with fail
  refine (say_any o1 k B w1 ge x ⟨3, (i : Int), 0, 0, f, ld, fin, 0, 0⟩ (.slice Ad ld.length cd) i q X1.out (Nat.le_trans hB s1) D1.out HQ.out rfl hl hl2).mono ?_
  rintro e w2 (⟨hs, rfl, hb2⟩ | ⟨hs, rfl, o2, vE, vO, m0, m1, m2, hx2, hs2⟩)
  · have B2 := Lib.hid hb2
    clear hb2
    go_wp2_with fail
    go_end0
    exact ⟨rfl, o1, x, [], X1.out.below B2.out, S1.out.trans (Stp.below B2.out), Grw.refl x, fun h => by omega⟩
  · have X2 := Lib.hid hx2
    have S2 := Lib.hid (S1.out.trans hs2)
    clear hx2 hs2
    have hq2 : (x.ps.set i { q with s := q.s + 1 })[i]? = some { q with s := q.s + 1 } := by rw [List.getElem?_set, if_pos rfl, if_pos hil]
    obtain ⟨AP, cP, hvP, hcP, hel⟩ := X2.out.path
    obtain ⟨adP, hAP, dP, _⟩ := hel i _ hq2
    have n9 := X2.out.blk.cell 9
    have n8 := X2.out.blk.cell 8
    simp only [List.getElem?_toArray, List.getElem?_cons_zero, List.getElem?_cons_succ] at n9 n8
    simp only [List.length_set] at hvP
    rw [hvP, hAP] at n9
    have i1 : (i : Int) < (x.ps.length : Int) := by omega
    have C9 := Lib.hid (X2.out.c9 i _ hq2)
    dsimp only at dP
    have HQ2 := Lib.hid hq2
    clear hvP hAP hel hq2
    go_wp2_with fail
    refine wp_region_still_tail (id := 3) 17 (by kernel_rfl) (by kernel_rfl) ?_
    change wpStill _ _ (World.drew _) (fun a' => wpList _ _ _ _ a' (World.drew _)) _ _
    simp only [List.take_succ_cons, List.take_zero, List.drop_succ_cons, List.drop_zero]
    repeat still_step
    refine wpStill_nil ?_
    go_wp2_with fail
    have P2 := C9.out.r
    have ow2 := C9.out.ow
    have s2 := S2.out.size
    dsimp only at P2 ow2
    have c6 := P2.blk.cell 6
    simp only [List.getElem?_toArray, List.getElem?_cons_zero, List.getElem?_cons_succ] at c6
    refine (fadd_any w2.drew B q.gp 6 q.v q.l (q.s, f, t, x.now) c6 (P2.blk.free 6) P2.l (Nat.le_trans hB s2) (fun j hj => (P2.own j hj).1) hl3).mono ?_
    rintro e w3 (⟨rfl, hb3⟩ | ⟨rfl, v', wz, hfz, rfl, hov, hat⟩)
    · have B3 := Lib.hid hb3
      clear hb3
      go_wp2_with fail
      go_end0
      have G1 : Grw x { x with ps := x.ps.set i { q with s := q.s + 1 }, vE := vE, es := x.es ++ [sentE ⟨3, (i : Int), 0, 0, f, ld, fin, 0, 0⟩ q.s], vO := vO, outs := x.outs ++ [{ (⟨3, (i : Int), 0, 0, f, ld, fin, 0, 0⟩ : Pk) with number := q.s }], m0 := m0, m1 := m1, m2 := m2 } [⟨3, (i : Int), q.s, 0, f, ld, fin, 0, 0⟩] :=
        ⟨rfl, rfl, rfl, by simp, by have := said_set (q' := { q with s := q.s + 1 }) HQ.out; have h0 := qs0.out; dsimp only at this ⊢; simp; omega, Nat.le_refl _, fun p hp => by rw [List.mem_singleton.1 hp]; exact Nat.le_trans hld (by omega)⟩
      exact ⟨rfl, o2, _, _, (X2.out.drew).below B3.out, (S2.out.drew).trans (Stp.below B3.out), G1, fun _ => by simp⟩
    · have HZ := Lib.hid hfz
      have HO := Lib.hid hov
      have HAT := Lib.hid hat
      clear hfz hov hat
      go_wp2_with fail
      go_end0
      obtain ⟨n1, n2, n3⟩ := P2.ne
      have lp := P2.blk.lt
      have lg := P2.g.lt
      have lw := P2.wd.lt
      have pg := P2.ge
      have hvn : ∀ j, v'.ownBlock = some j → j ≠ q.gp ∧ j ≠ q.gG ∧ j ≠ q.gW := fun j hj => by
        rcases HAT.out with e | e
        · exact P2.own j (e ▸ hj)
        · have h1 := e j hj
          have h2 : w2.drew.heap.size = w2.heap.size := rfl
          omega
      have f6 := (Frm.refl (· = q.gp) wz).setg (i := 6) v'
      have PA : PathAt B (wz.setCell ⟨q.gp, 6, none⟩ v') q.gp q.gG q.gW q.u q.j q.b (q.s + 1) v' (q.l ++ [(q.s, f, t, x.now)]) := by
        have hz2 : Frm (fun j => q.v.ownBlock = some j) w2 wz := (Frm.refl _ _).drew.trans HZ.out
        refine ⟨by simpa using (P2.blk.frm hz2 (fun e => (P2.own _ e).1 rfl)).set 6 v', (P2.g.frm hz2 (fun e => (P2.own _ e).2.1 rfl)).frm f6 (fun e => n1 e.symm), (P2.wd.frm hz2 (fun e => (P2.own _ e).2.2 rfl)).frm f6 (fun e => n2 e.symm), own_frm HO.out f6 (fun j hj e => (hvn j hj).1 e), ⟨n1, n2, n3⟩, hvn, P2.s0, pg⟩
      have S3 : Stp (fun c => c = k + 10 + i) o2 (ext o2 w2.heap.size v' (k + 10 + i)) w2 (wz.setCell ⟨q.gp, 6, none⟩ v') := ⟨(((Frm.refl _ w2).drew.trans HZ.out).mono (fun j hj => ow2 j (.inr (.inr (.inr hj))))).setCell (.inl (ow2 _ (.inl rfl))) v', ext_agr _ _ _ _⟩
      have C9' : _root_.Go.Proofs.YtdneakejlbabeaaGreat.C9 (ext o2 w2.heap.size v' (k + 10 + i)) k B (wz.setCell ⟨q.gp, 6, none⟩ v') i { q with s := q.s + 1, v := v', l := q.l ++ [(q.s, f, t, x.now)] } := by
        refine ⟨PA, fun j hj => ?_, ?_⟩
        · rcases hj with hj | hj | hj | hj
          · rw [ext_agr o2 _ v' _ j (by dsimp only at hj; omega)]; exact ow2 j (.inl hj)
          · rw [ext_agr o2 _ v' _ j (by dsimp only at hj; omega)]; exact ow2 j (.inr (.inl hj))
          · rw [ext_agr o2 _ v' _ j (by dsimp only at hj; omega)]; exact ow2 j (.inr (.inr (.inl hj)))
          · dsimp only at hj
            rcases HAT.out with e | e
            · rw [e] at hj
              rw [ext_agr o2 _ v' _ j (P2.l.lt j hj).2]
              exact ow2 j (.inr (.inr (.inr hj)))
            · have h1 : w2.heap.size ≤ j := e j hj
              unfold ext
              rw [if_neg (by omega), if_pos hj]
        · have h1 := C9.out.l
          have h0 := qs0.out
          have hl0 := (H.out.c9 i q HQ.out).l
          dsimp only
          simp only [List.length_append, List.length_cons, List.length_nil]
          omega
      have X3 := X2.out.put9 HQ2.out S3 (q' := { q with s := q.s + 1, v := v', l := q.l ++ [(q.s, f, t, x.now)] }) rfl C9'
      refine ⟨rfl, _, _, [⟨3, (i : Int), q.s, 0, f, ld, fin, 0, 0⟩], X3, S2.out.trans (S3.mono (fun c hc => by rw [hc]; exact ⟨by omega, by omega⟩)), ⟨rfl, rfl, rfl, by simp, ?_, Nat.le_refl _, fun p hp => by rw [List.mem_singleton.1 hp]; exact Nat.le_trans hld (by omega)⟩, fun _ => by simp⟩
      have h1 := said_set (q' := { q with s := q.s + 1 }) HQ.out
      have h2 := said_set (q' := { q with s := q.s + 1, v := v', l := q.l ++ [(q.s, f, t, x.now)] }) HQ2.out
      have h0 := qs0.out
      dsimp only at h1 h2 ⊢
      simp only [List.length_cons, List.length_nil]
      omega
end Go.Proofs.YtdneakejlbabeaaGreat

namespace Go.Proofs.YtdneakejlbabeaaGreat
open Go.RowKit
set_option linter.unusedVariables false
set_option linter.unusedSimpArgs false

theorem said_le : ∀ (ps : List PathV), (∀ (i : Nat) (p : PathV), ps[i]? = some p → p.s ≤ 65536) → said ps ≤ 65536 * ps.length
  | [], _ => by simp [said]
  | p :: ps, h => by
    have h1 := said_le ps (fun i q hi => h (i + 1) q (by simpa using hi))
    have h0 := h 0 p rfl
    unfold said at h1 ⊢
    simp only [List.map_cons, List.sum_cons, List.length_cons]
    omega
theorem EndS.said_le {o : Nat → Nat} {k B : Nat} {w : World} {ge : Nat} {x : EndV} (h : EndS o k B w ge x) : said x.ps ≤ 196608 := by
  have h1 := _root_.Go.Proofs.YtdneakejlbabeaaGreat.said_le x.ps (fun i p hi => (h.c9 i p hi).r.s0.2)
  have := h.np
  omega
theorem EndS.put4 {o o' : Nat → Nat} {k B : Nat} {w w' : World} {ge : Nat} {x : EndV} (h : EndS o k B w ge x) (s : Stp (fun c => c = k) o o' w w') (sent' : Int) (vl' : Value) (lost' : List (Int × Int)) (hb : Blk w' ge (ecs { x with sent := sent', vl := vl', lost := lost' }) 78) (h4 : C4 o' k w' vl' lost') : EndS o' k B w' ge { x with sent := sent', vl := vl', lost := lost' } :=
  have kp := h.kp
  ⟨hb, (s.ag _ h.blk.lt).trans h.og, h.ge, h.kp, h.c1.frm s (by omega), h.c2.frm s (by omega), h.c3.frm s (by omega), h4, h.c5.frm s (by omega), h.c6.frm s (by omega), h.c7.frm s (by omega) (by omega), h.c8.frm s (by omega) (by omega), fun i p hi => (h.c9 i p hi).frm s (by omega), h.np⟩
theorem any_usB {T : Nat → Prop} {w w' : World} {ps : List PathV} (f : Frm T w w') (hl : ∀ q ∈ ps, q.gW < w.heap.size ∧ ¬ T q.gW) : ps.any (usB w') = ps.any (usB w) := by
  induction ps with
  | nil => rfl
  | cons q ps ih =>
    simp only [List.any_cons]
    rw [ih (fun p hp => hl p (by simp [hp])), usB_frm f (hl q (by simp)).1 (hl q (by simp)).2]
def PumpR (o : Nat → Nat) (k B : Nat) (w : World) (ge : Nat) (x : EndV) (e : Ending) (w' : World) : Prop :=
  e = .returned (.tuple #[]) ∧ ∃ (o' : Nat → Nat) (x' : EndV) (d : List Pk), EndS o' k B w' ge x' ∧ Stp (EC k) o o' w w' ∧ Grw x x' d
set_option maxHeartbeats 16000000 in
set_option maxRecDepth 100000 in
theorem pump_any (o : Nat → Nat) (k B N : Nat) (w : World) (ge : Nat) (x : EndV) (h : EndS o k B w ge x) (hok : EOk N x) (hB : B ≤ w.heap.size) :
    Calls Tryz.prog 62 #[.pointer (some ⟨ge, 0, none⟩)] w fun e w' => PumpR o k B w ge x e w' := by
  have H := Lib.hid h
  have OK := Lib.hid hok
  have kp := h.kp
  have ECk : Hid (∀ c, c = k → EC k c) := Lib.hid (fun c hc => by rw [hc]; exact ⟨by omega, by omega⟩)
  clear h hok
  go_enter Tryz.func62, Tryz.ntmps62
  go_wp2_with fail
  go_loopg [] (200000 - said x.ps) (fun gk wr => ∃ (o' : Nat → Nat) (x' : EndV) (d : List Pk), EndS o' k B wr ge x' ∧ Stp (EC k) o o' w wr ∧ Grw x x' d ∧ gk = 200000 - said x'.ps)
  case atStart => exact ⟨o, x, [], H.out, Stp.refl _ _ _, Grw.refl _, rfl⟩
  case round =>
    obtain ⟨o1, x1, d1, hx1, hs1, hg1, hgk⟩ := hrel
    have X1 := Lib.hid hx1
    have S1 := Lib.hid hs1
    have G1 := Lib.hid hg1
    have OK1 := Lib.hid (OK.out.grw hg1)
    have HGK := Lib.hid hgk
    have sr := hs1.size
    clear hx1 hs1 hg1 hgk
    go_wp2_with fail
    refine (usable_any o1 k B wr ge x1 X1.out).mono ?_
    rintro e w2 ⟨rfl, hb2⟩
    have X2 := Lib.hid (X1.out.below hb2)
    have S2 := Lib.hid (S1.out.trans (Stp.below hb2))
    have AN := Lib.hid (any_usB (ps := x1.ps) (Frm.of_below (S := fun _ => False) hb2) (fun q hq => by
      obtain ⟨i, hi⟩ := List.getElem?_of_mem hq
      exact ⟨(X1.out.c9 i q hi).r.wd.lt, fun h => h⟩))
    clear hb2
    obtain ⟨b, hbb⟩ : ∃ b, x1.ps.any (usB wr) = b := ⟨_, rfl⟩
    rw [hbb] at AN ⊢
    clear hbb
    cases b
    · go_wp2_with fail
      go_end0
      exact ⟨rfl, o1, x1, d1, X2.out, S2.out, G1.out⟩
    · have n12 := X2.out.blk.cell 12
      have n11 := X2.out.blk.cell 11
      have n3 := X2.out.blk.cell 3
      simp only [List.getElem?_toArray, List.getElem?_cons_zero, List.getElem?_cons_succ] at n12 n11 n3
      have KE : Hid (w2.drew.cell? ⟨ge, 12, none⟩ = some (.pointer (some ⟨x1.go, 0, none⟩)) ∧ w2.drew.cell? ⟨ge, 11, none⟩ = some (.int .i64 x1.limit) ∧ w2.drew.cell? ⟨ge, 3, none⟩ = some (.int .i64 x1.c3)) := Lib.hid ⟨n12, n11, n3⟩
      clear n12 n11 n3
      go_wp2_with fail
      refine wp_region_held_drew (S := fun w' => w'.cell? ⟨ge, 12, none⟩ = some (.pointer (some ⟨x1.go, 0, none⟩)) ∧ w'.cell? ⟨ge, 11, none⟩ = some (.int .i64 x1.limit) ∧ w'.cell? ⟨ge, 3, none⟩ = some (.int .i64 x1.c3)) (by kernel_rfl) KE.out (fun hHeld => ?_)
      refine tk 0 (oi := ⟨some 10, _, _, _, _, _⟩) rfl ?_
      refine tk 1 (oi := ⟨some 11, _, _, _, _, _⟩) rfl ?_
      refine tk 2 (oi := ⟨some 12, _, _, _, _, _⟩) rfl ?_
      refine tk 3 (oi := ⟨some 13, _, _, _, _, _⟩) rfl ?_
      refine tk 4 (oi := ⟨some 14, _, _, _, _, _⟩) rfl ?_
      refine tk 5 (oi := ⟨some 15, _, _, _, _, _⟩) rfl ?_
      refine tk 6 (oi := ⟨some 16, _, _, _, _, _⟩) rfl ?_
      refine tk 7 (oi := ⟨some 17, _, _, _, _, _⟩) rfl ?_
      refine tk 8 (oi := ⟨some 18, _, _, _, _, _⟩) rfl ?_
      refine tk 9 (oi := ⟨some 19, _, _, _, _, _⟩) rfl ?_
      refine tk 10 (oi := ⟨some 20, _, _, _, _, _⟩) rfl ?_
      refine tk 11 (oi := ⟨some 21, _, _, _, _, _⟩) rfl ?_
      refine tk 12 (oi := ⟨some 22, _, _, _, _, _⟩) rfl ?_
      refine tk 13 (oi := ⟨some 23, _, _, _, _, _⟩) rfl ?_
      refine tk 14 (oi := ⟨some 24, _, _, _, _, _⟩) rfl ?_
      refine tk 15 (oi := ⟨some 25, _, _, _, _, _⟩) rfl ?_
      refine wpAnyH_ready (rs := [16]) (by kernel_rfl) (by simp) ?_; refine AllReadyH.cons (o := ⟨some 26, _, _, _, _, _⟩) rfl (fun K hK => ?_) AllReadyH.nil
      go_simp
      obtain ⟨Ab, cb, hvb⟩ := own_slice' X2.out.c3.r.1
      refine (pnext_any w2.drew ge x1.go 13 x1.sent x1.vl x1.lost x1.bu x1.ac Ab x1.ob.length cb x1.cl x1.limit x1.c3 (ecs x1) 78 X2.out.blk rfl rfl (by have := X2.out.c3.blk; rw [hvb] at this; exact this) (fun e => by have h1 := X2.out.c3.og; have h2 := X2.out.og; rw [e] at h2; omega) (fun j hj e => by have h1 := (X2.out.c4.ow j hj).1; have h2 := X2.out.og; rw [e, h2] at h1; omega) X2.out.c4.r X2.out.c4.s (by have := OK1.out.lost; have := OK1.out.N; omega) (by have := OK1.out.ob; omega)).mono ?_
      rintro e w3 ⟨f, t, q, s', v', rs', rfl, hf3, hc3, hr3, hst3, hln3, hnw3⟩
      have S3 : Hid (Stp (fun c => c = k) o1 (ext o1 w2.heap.size v' (k + 4)) w2 w3) := Lib.hid ⟨(Frm.refl _ w2).drew.trans (hf3.mono (fun j hj => by rw [hj]; exact X2.out.og)), ext_agr _ _ _ _⟩
      have hb3 := hc3 _ _ X2.out.blk
      have X3 : Hid (EndS (ext o1 w2.heap.size v' (k + 4)) k B w3 ge { x1 with sent := s', vl := v', lost := rs' }) := Lib.hid (X2.out.put4 S3.out s' v' rs' (by simpa using hb3) ⟨hr3, fun j hj => by
        rcases hnw3 with e | e
        · have h1 := X2.out.c4.ow j (e ▸ hj)
          exact ⟨(ext_agr o1 _ v' _ j h1.2).trans h1.1, Nat.lt_of_lt_of_le h1.2 S3.out.size⟩
        · have h1 := e j hj
          have h2 : w2.drew.heap.size = w2.heap.size := rfl
          unfold ext
          rw [if_neg (by omega), if_pos hj]
          exact ⟨rfl, h1.2⟩, hst3⟩)
      have G3 : Hid (Grw x1 { x1 with sent := s', vl := v', lost := rs' } []) := Lib.hid ⟨rfl, by simp, by simp, rfl, by simp, hln3, fun p h => (by cases h)⟩
      have n12 := X3.out.blk.cell 12
      have n11 := X3.out.blk.cell 11
      have n3 := X3.out.blk.cell 3
      simp only [List.getElem?_toArray, List.getElem?_cons_zero, List.getElem?_cons_succ] at n12 n11 n3
      have AN3 := Lib.hid (any_usB (ps := x1.ps) S3.out.f (fun q hq => by
        obtain ⟨i, hi⟩ := List.getElem?_of_mem hq
        have h9 := X2.out.c9 i q hi
        refine ⟨h9.r.wd.lt, fun e => ?_⟩
        have := h9.ow q.gW (.inr (.inr (.inl rfl)))
        omega))
      have KE3 := Lib.hid (And.intro n12 (And.intro n11 n3))
      obtain ⟨o3, ho3⟩ : ∃ f, f = ext o1 w2.heap.size v' (k + 4) := ⟨_, rfl⟩
      rw [← ho3] at S3 X3
      clear hf3 hc3 hr3 hst3 hln3 hnw3 hb3 hvb n12 n11 n3 ho3
      refine hK.out _ _ KE3.out (fun hHeld => ?_)
      clear hK K
      (try simp only [Act.put, List.setIfInBounds_toArray, List.set_cons_zero, List.set_cons_succ])
      refine tk 17 (oi := ⟨some 9, _, _, _, _, _⟩) rfl ?_
      refine tk 18 (oi := ⟨some 27, _, _, _, _, _⟩) rfl ?_
      refine tk 19 (oi := ⟨some 28, _, _, _, _, _⟩) rfl ?_
      refine tk 20 (oi := ⟨some 29, _, _, _, _, _⟩) rfl ?_
      refine tk 21 (oi := ⟨some 2, _, _, _, _, _⟩) rfl ?_
      refine tk 22 (oi := ⟨some 3, _, _, _, _, _⟩) rfl ?_
      refine tk 23 (oi := ⟨some 4, _, _, _, _, _⟩) rfl ?_
      refine wpAnyH_done (by kernel_rfl) ?_ _
      clear hHeld
      have S3' := Lib.hid (S2.out.trans (S3.out.mono ECk.out))
      cases q
      · go_wp2_with fail
        refine bodyPost_ret (results_none rfl _ _ _) rfl ?_
        exact ⟨rfl, o3, _, _, X3.out, S3'.out, G1.out.trans G3.out⟩
      · go_wp2_with fail
        refine (choose_any o3 k B w3 ge _ X3.out).mono ?_
        rintro e w4 ⟨vc, pl, rfl, hvc, hpl3, hmem, hne, hx4, hs4⟩
        obtain ⟨x2, hx2⟩ : ∃ y, y = ({ x1 with sent := s', vl := v', lost := rs' } : EndV) := ⟨_, rfl⟩
        have hps : x2.ps = x1.ps := by rw [hx2]
        rw [← hx2] at X3 G3 hx4 hmem hne
        have X4 := Lib.hid hx4
        have S4 := Lib.hid (S3'.out.trans (hs4.mono (fun c hc => by rw [hc]; exact ⟨by omega, by omega⟩)))
        have MEM := Lib.hid hmem
        have hne2 : pl ≠ [] := hne (by rw [hps, AN3.out, AN.out])
        have hpos : 0 < pl.length := List.length_pos_iff.2 hne2
        have OWC : Hid (Ow (scr o3 w3.heap.size 0) w4 0 vc) := Lib.hid (fun j hj => ⟨scr_new (hvc.lt j hj).1, (hvc.lt j hj).2⟩)
        have VC := Lib.hid hvc
        obtain ⟨Ac, cc, rfl⟩ := own_slice' hvc
        obtain ⟨m, hm⟩ : ∃ m, pl.length = m := ⟨_, rfl⟩
        rw [hm] at hpl3 hpos VC OWC
        rw [hm]
        have HM := Lib.hid hm
        clear hvc hmem hne hx4 hs4 hne2 hm hx2
        go_wp2_with fail
        go_loopw [35] (fun i ws => ∃ (j : Nat) (o' : Nat → Nat) (x' : EndV) (d : List Pk), j ≤ m ∧ i = .int .i64 j ∧ EndS o' k B ws ge x' ∧ Stp (EC k) o o' w ws ∧ Grw x2 x' d ∧ (0 < j → d ≠ []) ∧ (j = 0 → x' = x2) ∧ ws.ownsRow w3.heap.size 3 1 (.slice Ac m cc) m (i64s pl) ∧ Ow o' ws 0 (.slice Ac m cc)) (fun i _ => m - (intOf i).toNat)
        case atStart => exact ⟨0, _, x2, [], Nat.zero_le _, rfl, X4.out, S4.out, Grw.refl _, (fun h => absurd h (by omega)), (fun _ => rfl), VC.out, OWC.out⟩
        case round =>
          obtain ⟨j, o5, x5, d5, hj, rfl, hx5, hs5, hg5, hd5, h05, hv5, how5⟩ := hrel
          have X5 := Lib.hid hx5
          have S5 := Lib.hid hs5
          have G5 := Lib.hid hg5
          have V5 := Lib.hid hv5
          have OW5 := Lib.hid how5
          have D5 := Lib.hid hd5
          have Z5 := Lib.hid h05
          have OK5 := Lib.hid (OK1.out.grw (G3.out.trans hg5))
          have s5 := hs5.size
          clear hx5 hs5 hg5 hv5 how5 hd5 h05
          by_cases hjm : j < m
          · have j0 : (0 : Int) ≤ (j : Int) := by omega
            have j1 : (j : Int) < (m : Int) := by omega
            have iwj : IntKind.i64.wrap ((j : Int) + 1) = (j : Int) + 1 := IntWalk.i64_in _ ⟨by omega, by omega⟩
            obtain ⟨ad, hA, dj⟩ := Sl.at_ (Sl.of_own V5.out (i64s_one pl)) hjm
            rw [i64s_getD pl j (by have := HM.out; omega)] at dj
            subst hA
            have hy : pl.getD j 0 ∈ pl := by
              rw [List.getD_eq_getElem?_getD, List.getElem?_eq_getElem (by have := HM.out; omega)]
              exact List.getElem_mem _
            obtain ⟨i, q, hyi, hq, hus⟩ := MEM.out _ hy
            rw [hyi] at dj
            have hil := (List.getElem?_eq_some_iff.1 hq).1
            obtain ⟨q5, hq5⟩ : ∃ q5, x5.ps[i]? = some q5 := ⟨_, List.getElem?_eq_getElem (by have := G5.out.n; omega)⟩
            have hl5 : q5.l.length ≤ 100000000 := by
              have h1 := (X5.out.c9 i q5 hq5).l
              have h2 := (X5.out.c9 i q5 hq5).r.s0
              omega
            have he5 := OK5.out.es
            have ho5 := OK5.out.outs
            have hN5 := OK5.out.N
            have hsl := X5.out.said_le
            have HQS : Hid (j = 0 → q5.s ≤ 65535) := Lib.hid (fun e => by
              rw [Z5.out e, hq] at hq5
              injection hq5 with hq5
              rw [← hq5]
              unfold usB at hus
              simp only [Bool.and_eq_true, decide_eq_true_eq] at hus
              exact hus.2)
            have DA : Hid (Calls Tryz.prog 92 #[.pointer (some ⟨ge, 0, none⟩), .int .i64 (i : Int), .int .i64 f, .int .i64 t] wr fun e w' => DataR o5 k B wr ge x5 i q5 e w') := Lib.hid (data_any o5 k B wr ge x5 i q5 f t X5.out (Nat.le_trans hB s5) hq5 OK5.out.ob (by omega) (by omega) hl5)
            clear hy hyi hq hus hil hq5 hl5 he5 ho5 hN5 hsl
            go_wp2_with fail
            refine DA.out.mono ?_
            rintro e w6 ⟨rfl, o6, x6, d6, hx6, hs6, hg6, hd6⟩
            have REL : Hid (EndS o6 k B w6 ge x6 ∧ Stp (EC k) o o6 w w6 ∧ Grw x2 x6 (d5 ++ d6) ∧ (0 < j + 1 → d5 ++ d6 ≠ []) ∧ (j + 1 = 0 → x6 = x2) ∧ w6.ownsRow w3.heap.size 3 1 (.slice (some ad) m cc) m (i64s pl) ∧ Ow o6 w6 0 (.slice (some ad) m cc)) := Lib.hid ⟨hx6, S5.out.trans hs6, G5.out.trans hg6, fun _ e => by
              rcases Nat.eq_zero_or_pos j with h0 | h0
              · exact hd6 (HQS.out h0) (List.append_eq_nil_iff.1 e).2
              · exact D5.out h0 (List.append_eq_nil_iff.1 e).1, (fun e => by omega), own_frm V5.out hs6.f (fun y hy he => by have h1 := (OW5.out y hy).1; have h2 : EC k (o5 y) := he; rw [h1] at h2; have := h2.1; omega), OW5.out.frm hs6.ag hs6.size⟩
            clear hx6 hs6 hg6 hd6
            go_wp2_with fail
            go_roundw
            case rel => exact ⟨j + 1, o6, x6, d5 ++ d6, hjm, by go_num, REL.out⟩
            case measure => simp [intOf]; omega
          · have j1 : ¬ (j : Int) < (m : Int) := by omega
            obtain rfl : j = m := by omega
            have hdd := D5.out hpos
            have FIN : Hid (said x1.ps < said x5.ps ∧ said x5.ps ≤ 196608) := Lib.hid (by
              have h1 := G5.out.s
              have h2 := List.length_pos_iff.2 hdd
              rw [hps] at h1
              have := X5.out.said_le
              exact ⟨by omega, this⟩)
            clear hdd
            go_wp2_with fail
            go_roundg (200000 - said x5.ps)
            case measure => have := FIN.out; have := HGK.out; omega
            case rel => exact ⟨o5, x5, _, X5.out, S5.out, (G1.out.trans G3.out).trans G5.out, rfl⟩
end Go.Proofs.YtdneakejlbabeaaGreat
