/- The law's own comparison of a store with the reference's. -/
import Derived.Test.YtfcagjnedaaadaaRp
import Derived.Test.YtfcagjnedaaadaaLd
import Derived.Deep.RegionHeld3
namespace Go.Proofs.Ytfcagjnedaaadaa
open Go.RowKit
attribute [local go_sem] run_max2 run_min2 run_max_ run_min_

/-- Both stores in the world W, behind w. -/
structure BW (gs bs : Nat) (S : Nat → Prop) (M L : Nat) (st : St) (gr : Nat) (S' : Nat → Prop) (base L' : Nat) (v : Value) (l : List (Int × Bk)) (dead armed : Bool) (N : Int) (w W : World) : Prop where
  sto : Sto W gs bs S M L st
  rst : RSt W gr S' base L' v l dead armed N
  bel : Below w.heap.size w W
section
variable {gs bs : Nat} {S : Nat → Prop} {M L : Nat} {st : St} {gr : Nat} {S' : Nat → Prop} {base L' : Nat} {v : Value} {l : List (Int × Bk)} {dead armed : Bool} {N : Int} {w W W' : World}
theorem RSt.below (h : RSt W gr S' base L' v l dead armed N) (k : Below W.heap.size W W') : RSt W' gr S' base L' v l dead armed N :=
  h.frm (Frm.of_below (S := fun _ => False) k) (fun _ _ h => h) (fun h => h) (fun _ _ _ h => h)
theorem BW.below (h : BW gs bs S M L st gr S' base L' v l dead armed N w W) (k : Below W.heap.size W W') : BW gs bs S M L st gr S' base L' v l dead armed N w W' :=
  ⟨h.sto.below k, h.rst.below k, h.bel.trans (k.mono h.bel.size)⟩
theorem BW.drewN (h : BW gs bs S M L st gr S' base L' v l dead armed N w W) (n : Nat) : BW gs bs S M L st gr S' base L' v l dead armed N w (W.drewN n) :=
  h.below ((Below.refl _ _).drewN'' n)
theorem BW.drew (h : BW gs bs S M L st gr S' base L' v l dead armed N w W) : BW gs bs S M L st gr S' base L' v l dead armed N w W.drew :=
  ⟨h.sto.frm ((Frm.refl (fun _ => False) _).drew) (fun _ _ h => h) (fun h => h) (fun h => h), h.rst.frm ((Frm.refl (fun _ => False) _).drew) (fun _ _ h => h) (fun h => h) (fun _ _ _ h => h), ⟨h.bel.os, h.bel.tape, h.bel.output, h.bel.size, h.bel.block⟩⟩
theorem BW.alloc (h : BW gs bs S M L st gr S' base L' v l dead armed N w W) (o : Obj) : BW gs bs S M L st gr S' base L' v l dead armed N w (W.alloc o) :=
  h.below ((Below.refl _ _).alloc (Nat.le_refl _) o)
end
theorem dead_at (g b : Nat) (S : Nat → Prop) (N L : Nat) (s : St) (d : Bool) (hd : s.dead = d) (w : World) (h : Sto w g b S N L s) : Calls Try.prog 32 #[.pointer (some ⟨g, 0, none⟩)] w fun e w' => e = .returned (.bool d) ∧ w = w' :=
  hd ▸ dead_any g b S N L s w h
theorem read_at (g b : Nat) (S : Nat → Prop) (N L : Nat) (s : St) (n : Int) (hn : (Lit.int .i64 n).wf = true) (w : World) (h : Sto w g b S N L s) (hL : L ≤ 1000000) (m : Nat) (xs : List Int) (x : Bk) (hx : s.f n = some x) (h1 : x.1 = xs) (h2 : xs.length = m) :
    Calls Try.prog 14 #[.pointer (some ⟨g, 0, none⟩), .int .i64 n] w fun e w' => ∃ v, e = .returned (.tuple #[v, .bool true]) ∧ w'.ownsRow w.heap.size 5 1 v m (u8s xs) ∧ Below w.heap.size w w' := by
  refine (read_any g b S N L s n hn w h hL).mono ?_
  rintro e w' ⟨v, rfl, ho, hb⟩
  have e1 : (bkAt s.f n).1 = xs := by unfold bkAt; rw [hx]; exact h1
  rw [e1, h2] at ho
  exact ⟨v, by rw [hx]; rfl, ho, hb⟩

set_option maxHeartbeats 4000000 in
set_option maxRecDepth 100000 in
theorem same_any (gs bs : Nat) (S : Nat → Prop) (M L : Nat) (st : St) (gr : Nat) (S' : Nat → Prop) (base L' : Nat) (v : Value) (l : List (Int × Bk)) (dead armed : Bool) (N : Int) (w : World) (h : BW gs bs S M L st gr S' base L' v l dead armed N w w) (hr : Rel st l dead armed N) (hl : l.length ≤ 1000) (hL : L ≤ 1000000) (hM : M ≤ 1000000) :
    Calls Try.prog 30 #[.pointer (some ⟨gs, 0, none⟩), .pointer (some ⟨gr, 0, none⟩)] w fun e w' => e = .returned (.bool true) ∧ Below w.heap.size w w' := by
  have G := Lib.hid h.drew
  have HR := Lib.hid hr
  have cd := h.rst.c1
  have hdd : (dead != dead) = false := by simp
  obtain ⟨vs, hb, ho, hvl, hv, hav⟩ := h.rst.blk
  obtain ⟨Av, cv, rfl⟩ := own_slice' ho
  have HVL := Lib.hid hvl
  have SRT : Hid (∀ ss : List Int, ss.Pairwise (· < ·) → (∀ k, k ∈ ss ↔ (st.f k).isSome = true) → ss = l.map (·.1)) := Lib.hid (fun ss h1 h2 => srt_eq _ _ h1 (List.pairwise_map.2 hr.srt) (fun k => by rw [h2, getL_mem_map, hr.f]))
  have HD := Lib.hid hr.dead
  have ll : (l.map (·.1)).length = l.length := by simp
  have LL := Lib.hid ll
  have KC : Hid (∀ W, BW gs bs S M L st gr S' base L' (.slice Av l.length cv) l dead armed N w W → W.cell? ⟨gr, 1, none⟩ = some (.bool dead) ∧ W.cell? ⟨gr, 0, none⟩ = some (.slice Av l.length cv)) := Lib.hid (fun W hW => by
    obtain ⟨_, hb, _⟩ := hW.rst.blk
    have c0 := hb.cell 0
    simp at c0
    exact ⟨hW.rst.c1, c0⟩)
  clear h hr hb ho hvl hv hav ll
  go_enter Try.func30, Try.ntmps30
  go_wp2_with fail
  go_region_held3 (fun w' => w'.cell? ⟨gr, 1, none⟩ = some (.bool dead)) (first | go_keep | exact k_2 | exact k_1) (first | (go_at_call 32; (with_reducible refine (dead_at gs bs S M L st dead HD.out _ G.out.sto).mono ?_); rintro e _ ⟨rfl, rfl⟩) | (go_at_call 13; (with_reducible refine (blocks_any gs bs S M L st _ G.out.sto hM).mono ?_); rintro e w1 ⟨v1, ss, rfl, hp, hmem, hwf, hlen, ho1, hb1⟩; obtain rfl := SRT.out ss hp hmem; have G1 := Lib.hid (G.out.below hb1); have k_1 := (KC.out _ G1.out).1; have S1 := Lib.hid (Sl.of_own ho1 (i64s_one _)); clear hp hmem hwf hlen ho1 hb1) | (go_at_call 50; (with_reducible refine (rblocks_any _ gr S' base L' _ l dead armed N G1.out.rst hl).mono ?_); rintro e w2 ⟨v2, rfl, ho2, hb2⟩; have G2 := Lib.hid (G1.out.below hb2); have k_2 := (KC.out _ G2.out).1; have S2 := Lib.hid (Sl.of_own ho2 (i64s_one _)); have S12 := Lib.hid (S1.out.below hb2); clear ho2 hb2) | (go_at_call 33; (with_reducible refine (samei_any _ v1 v2 (l.map (·.1)).length (l.map (·.1)) S12.out (by rw [LL.out]; exact S2.out)).mono ?_); rintro e _ ⟨rfl, m, rfl⟩; have G3 := Lib.hid (G2.out.drewN m); have k_2 := (KC.out _ G3.out).1))
  all_goals
    obtain ⟨wq, hwq⟩ : ∃ W, W = w2.drewN m := ⟨_, rfl⟩
    rw [← hwq] at G3 ⊢
    clear hwq
    have c0 := (KC.out _ G3.out).2
    go_wp2_with fail
    go_loopw [33, 6] (fun i _ wr => ∃ k : Nat, k ≤ l.length ∧ i = .int .i64 k ∧ BW gs bs S M L st gr S' base L' (.slice Av l.length cv) l dead armed N w wr) (fun i _ _ => l.length - (intOf i).toNat)
    case atStart => exact ⟨0, Nat.zero_le _, rfl, G3.out⟩
    case round =>
      obtain ⟨k, hk, rfl, hbw⟩ := hrel
      have GR := Lib.hid hbw
      clear hbw
      by_cases hkl : k < l.length
      · have k1 : (k : Int) < (l.length : Int) := by omega
        have k0 : (0 : Int) ≤ (k : Int) := by omega
        have iwk : IntKind.i64.wrap ((k : Int) + 1) = (k : Int) + 1 := IntWalk.i64_in _ ⟨by omega, by omega⟩
        obtain ⟨vs', hb, ho, hvl, hv, hav⟩ := GR.out.rst.blk
        obtain ⟨x, hx⟩ : ∃ x, l[k]? = some x := ⟨_, List.getElem?_eq_getElem hkl⟩
        obtain ⟨u, hu⟩ : ∃ u, vs'[k]? = some u := ⟨_, List.getElem?_eq_getElem (by omega)⟩
        obtain ⟨Bx, bx, hub, hsl, hsj, hs0, hs1, hsL, hwf⟩ := hv k x u hx hu
        subst hub
        obtain ⟨ga, ca, e, hga⟩ := own_form ho (by omega)
        injection e with e1 e2 e3
        subst e1
        subst e3
        obtain ⟨z0, z1, z2, z3⟩ := rcell_at ho hkl hx hu
        have HF : Hid (st.f x.1 = some x.2) := Lib.hid (by rw [HR.out.f]; exact getL_of_mem l HR.out.srt x (List.mem_of_getElem? hx))
        have SL := Lib.hid hsl
        clear hu hsj hsl hx hv hav hb ho hvl
        obtain ⟨xn, xb, sy, fm⟩ := x
        simp only at z0 z1 z2 z3 hs0 hs1 hsL hwf
        obtain ⟨xl, hxl⟩ : ∃ m, xb.length = m := ⟨_, rfl⟩
        rw [hxl] at z1 hsL
        have SL2 : Hid (Sl wr 1 (.slice Bx xl bx) xl (u8s xb)) := by
          have := SL.out
          simp only [hxl] at this
          exact Lib.hid this
        have XL := Lib.hid hxl
        have G5 := Lib.hid (GR.out.alloc (.cells #[.int .i64 xn, .slice Bx xl bx, .int .i64 sy, .bool fm] 71))
        have SL3 := Lib.hid (SL2.out.alloc (.cells #[.int .i64 xn, .slice Bx xl bx, .int .i64 sy, .bool fm] 71))
        clear hxl SL SL2
        have NB := Lib.hid (Blk.new wr #[.int .i64 xn, .slice Bx xl bx, .int .i64 sy, .bool fm] 71)
        go_wp2_with fail
        refine (read_at gs bs S M L st xn hwf _ G5.out.sto hL xl xb _ HF.out rfl XL.out).mono ?_
        rintro e w5 ⟨v5, rfl, ho5, hb5⟩
        have G6 := Lib.hid (G5.out.below hb5)
        have S5 := Lib.hid (Sl.of_own ho5 (u8s_one _))
        have S6 := Lib.hid (SL3.out.below hb5)
        have b5 := (NB.out.below hb5).cell 1
        simp at b5
        clear ho5 hb5
        go_wp2_with fail
        refine (sameb_any w5 v5 _ xl xb S5.out S6.out).mono ?_
        rintro e _ ⟨rfl, m2, rfl⟩
        go_wp2_with fail
        go_roundw
        case rel => exact ⟨k + 1, by omega, by go_num, G6.out.drewN m2⟩
        case measure => simp [intOf]; omega
      · have k1 : ¬ (k : Int) < (l.length : Int) := by omega
        go_wp2_with fail
        go_ret
        exact ⟨rfl, GR.out.bel⟩
end Go.Proofs.Ytfcagjnedaaadaa
