/- The contract of Pick. -/
import Derived.Test.YtnpapjocobgpnaaRd
namespace Go.Proofs.Ytnpapjocobgpnaa
open Go.RowKit

theorem us_bound (ms : List Int) (n : Nat) (hn : n ≤ 1000000) : ∀ x ∈ usN ms n, 0 ≤ x ∧ x ≤ 1000000 := fun x hx => by
  have := (usN_mem ms n x).1 hx
  omega

theorem i64s_get (l : List Int) (q : Nat) (h : q < l.length) : (i64s l)[q]? = some (.int .i64 (l.getD q 0)) := by
  simp [i64s, List.getD_eq_getElem?_getD, List.getElem?_eq_getElem h]
theorem sl_cell {w : World} {g n c i : Nat} {l : List Int} (h : Sl w 1 (.slice (some ⟨g, 0, none⟩) n c) n (i64s l)) (hi : i < n) : w.cell? ⟨g, i, none⟩ = some (.int .i64 (l.getD i 0)) := by
  obtain ⟨ad, e, hc⟩ := h.at_ hi
  injection e with e
  subst e
  have ha : (⟨g, 0, none⟩ : Addr).add i = ⟨g, i, none⟩ := by unfold Addr.add; split <;> simp_all
  rw [ha] at hc
  rw [hc, i64s_getD _ _ (by rw [sl_len h]; exact hi)]

/-- What a call of Pick leaves: its answer in new memory, the scheduler turned, nothing else. -/
def Picked (w w' : World) (g : Nat) (kd nx : Int) (l : List Int) (e : Ending) : Prop :=
  ∃ v, e = .returned v ∧ w'.ownsRow w.heap.size 3 1 v l.length (i64s l) ∧ Sch w' g kd nx ∧ Frm (· = g) w w'

theorem pick_any (v : Value) (n : Nat) (ms : List Int) (g : Nat) (kd nx : Int) (w : World) (hs : Sl w 1 v n (i64s ms)) (h : Sch w g kd nx) (hn : n ≤ 1000000) (hsg : ∀ j, v.ownBlock = some j → j ≠ g) :
    Calls Try.prog 8 #[.pointer (some ⟨g, 0, none⟩), v] w fun e w' => Picked w w' g kd (nxN kd nx ms) (pkN kd nx ms) e := by
  have hl := sl_len hs
  have HL := Lib.hid hl
  have hub := us_bound ms n hn
  have HUB := Lib.hid hub
  have hul := usN_length ms n
  have hms : usN ms ms.length = usN ms n := by rw [hl]
  unfold pkN nxN
  simp only [hms]
  generalize hu : usN ms n = l at *
  have HU := Lib.hid hu
  have H := Lib.hid h
  have HS := Lib.hid hs
  have HG := Lib.hid hsg
  have lg := h.lt
  obtain ⟨A, c, rfl, _, _⟩ := hs.len
  clear hs h hsg hl hub hms
  by_cases hl0 : l = []
  · rw [if_pos (.inl hl0), if_pos (.inl hl0)]
    subst hl0
    clear hul
    have HU2 := HU
    clear hu
    go_enter Try.func8, Try.ntmps8
    go_wp2_with fail
    refine (usable_any _ _ n ms HS.out hn).mono ?_
    rintro e w1 ⟨v1, rfl, ho, hb⟩
    rw [HU2.out] at ho
    obtain ⟨A1, c1, rfl⟩ := own_slice' ho
    have HO := Lib.hid ho
    have HB := Lib.hid hb
    clear ho hb
    go_wp2_with fail
    go_ret
    exact ⟨_, rfl, HO.out, H.out.below HB.out, Frm.of_below HB.out⟩
  · have m0 : 0 < l.length := List.length_pos_iff.2 hl0
    obtain ⟨m, hm⟩ : ∃ m, m = l.length := ⟨_, rfl⟩
    have hmn : m ≤ n := by omega
    rw [← hm] at m0 ⊢
    have HM := Lib.hid hm
    have HZ := Lib.hid hl0
    have hkk : (kd = 3 ∨ kd = 2) ∨ (¬ kd = 3 ∧ ¬ kd = 2) := by omega
    rcases hkk with (h3 | h2) | ⟨h3, h2⟩
    · rw [if_pos (.inr h3), if_pos (.inr h3)]
      have k3 : (kd == 3) = true := by simpa using h3
      clear hl0 hm hul hu h3
      go_enter Try.func8, Try.ntmps8
      go_wp2_with fail
      refine (usable_any _ _ n ms HS.out hn).mono ?_
      rintro e w1 ⟨v1, rfl, ho, hb⟩
      rw [HU.out, ← HM.out] at ho
      obtain ⟨A1, c1, rfl⟩ := own_slice' ho
      have HO := Lib.hid ho
      have HB := Lib.hid hb
      have cc := (H.out.below hb).cell 0
      simp at cc
      have mz : ((m : Int) == 0) = false := by simp; omega
      clear ho hb
      go_wp2_with fail
      go_ret
      exact ⟨_, rfl, HM.out ▸ HO.out, H.out.below HB.out, Frm.of_below HB.out⟩
    · have hnc : ¬ (l = [] ∨ kd = 3) := fun h => h.elim hl0 (fun h => by omega)
      rw [if_neg hnc, if_neg hnc, if_pos h2, if_pos h2]
      have k3 : (kd == 3) = false := by simp; omega
      have k2 : (kd == 2) = true := by simpa using h2
      clear hl0 hm hul hu h2 hnc
      go_enter Try.func8, Try.ntmps8
      go_wp2_with fail
      refine (usable_any _ _ n ms HS.out hn).mono ?_
      rintro e w1 ⟨v1, rfl, ho, hb⟩
      rw [HU.out, ← HM.out] at ho
      obtain ⟨g1, c1, rfl, hg1, _⟩ := ho.form m0
      have HO := Lib.hid (Sl.of_own ho (i64s_one _))
      have HB := Lib.hid hb
      have H1 := Lib.hid (H.out.below hb)
      have cc := (H.out.below hb).cell 0
      simp at cc
      have mz : ((m : Int) == 0) = false := by simp; omega
      clear ho hb
      go_wp2_with fail
      refine (round_any _ m l g kd nx _ HO.out H1.out (by omega) m0 HUB.out (by intro j hj; injection hj with hj; simp only at hj; omega)).mono ?_
      rintro e w2 ⟨rfl, hs2, hf2⟩
      have sz2 : w.heap.size ≤ w2.heap.size := Nat.le_trans HB.out.size hf2.size
      have HW2 := Lib.hid hs2
      have HF2 := Lib.hid ((Frm.of_below HB.out).trans hf2)
      clear hs2 hf2
      go_wp2_with fail
      go_ret
      exact ⟨_, rfl, World.ownsRow_lit w2 _ 1 sz2 (by simp [maxLen]) rfl, HW2.out.alloc _, HF2.out.alloc _⟩
    · have hnc : ¬ (l = [] ∨ kd = 3) := fun h => h.elim hl0 (fun h => by omega)
      rw [if_neg hnc, if_neg hnc, if_neg h2, if_neg h2]
      have k3 : (kd == 3) = false := by simp; omega
      have k2 : (kd == 2) = false := by simp; omega
      clear hl0 hm hul hu h2 h3 hnc
      go_enter Try.func8, Try.ntmps8
      go_wp2_with fail
      refine (usable_any _ _ n ms HS.out hn).mono ?_
      rintro e w1 ⟨v1, rfl, ho, hb⟩
      rw [HU.out, ← HM.out] at ho
      obtain ⟨g1, c1, rfl, hg1, _⟩ := ho.form m0
      have HO := Lib.hid (Sl.of_own ho (i64s_one _))
      have HB := Lib.hid hb
      have sz := hb.size
      have H1 := Lib.hid (H.out.below hb)
      have HS1 := Lib.hid (HS.out.below hb)
      have cc := (H.out.below hb).cell 0
      have cl := ho.cellAt 0 (by omega)
      rw [i64s_get _ _ (by rw [← HM.out]; exact m0)] at cl
      simp at cc
      have mz : ((m : Int) == 0) = false := by simp; omega
      have mm : (0 : Int) < (m : Int) := by omega
      obtain ⟨b0, hb0⟩ : ∃ b0, b0 = l.getD 0 0 := ⟨_, rfl⟩
      rw [← hb0] at cl
      have HB0 := Lib.hid hb0
      clear ho hb hb0
      go_wp2_with fail
      go_loopw [6, 38] (fun b i wr => ∃ j d : Nat, j ≤ m ∧ i = .int .i64 j ∧ b = .int .i64 (bsN ms l j) ∧ wr = w1.drewN d) (fun _ i _ => m - (intOf i).toNat)
      case atStart => exact ⟨0, 0, by omega, rfl, by rw [bsN_zero, HB0.out], rfl⟩
      case round =>
        clear cl cc mz mm
        obtain ⟨j, d, hj, rfl, rfl, rfl⟩ := hrel
        by_cases hlt : j < m
        · have hbm := HUB.out _ (bsN_mem ms l (by rw [← HM.out]; exact m0) j (by rw [← HM.out]; exact hj))
          have hbu := (usN_mem ms n (bsN ms l j)).1 (by rw [HU.out]; exact bsN_mem ms l (by rw [← HM.out]; exact m0) j (by rw [← HM.out]; exact hj))
          have hpu := (usN_mem ms n (l.getD j 0)).1 (by rw [HU.out, List.getD_eq_getElem?_getD, List.getElem?_eq_getElem (by rw [← HM.out]; exact hlt)]; exact List.getElem_mem _)
          have hst := bsN_succ ms l j (by rw [← HM.out]; exact hlt)
          have cj := sl_cell HO.out (i := j) hlt
          obtain ⟨pb, hpb⟩ : ∃ pb : Nat, bsN ms l j = (pb : Int) := ⟨(bsN ms l j).toNat, by omega⟩
          obtain ⟨pj, hpj⟩ : ∃ pj : Nat, l.getD j 0 = (pj : Int) := ⟨(l.getD j 0).toNat, by omega⟩
          have hbn : pb < n := by omega
          have hjn : pj < n := by omega
          rw [hpj] at cj
          rw [hpb, hpj, Int.toNat_natCast, Int.toNat_natCast] at hst
          rw [hpb]
          have HST := Lib.hid hst
          clear hbm hbu hpu hst hpb hpj
          obtain ⟨x, rfl, cx⟩ := HS1.out.at_ hbn
          obtain ⟨x', e', cy⟩ := HS1.out.at_ hjn
          injection e' with e'
          subst e'
          rw [i64s_getD _ _ (by rw [HL.out]; exact hbn)] at cx
          rw [i64s_getD _ _ (by rw [HL.out]; exact hjn)] at cy
          obtain ⟨xb, hxb⟩ : ∃ xb, xb = ms.getD pb 0 := ⟨_, rfl⟩
          obtain ⟨xj, hxj⟩ : ∃ xj, xj = ms.getD pj 0 := ⟨_, rfl⟩
          rw [← hxb] at cx
          rw [← hxj] at cy
          have HST2 : Hid (bsN ms l (j + 1) = if xj < xb then (pj : Int) else (pb : Int)) := by rw [hxb, hxj]; exact HST.out
          have i1 : (pb : Int) < (n : Int) := by omega
          have i2 : (pj : Int) < (n : Int) := by omega
          have i3 : (j : Int) < (m : Int) := by omega
          have i4 : (0 : Int) ≤ (pb : Int) := by omega
          have i5 : (0 : Int) ≤ (pj : Int) := by omega
          have i6 : (0 : Int) ≤ (j : Int) := by omega
          clear hxb hxj HST
          by_cases hlx : xj < xb
          · have HE : Hid (bsN ms l (j + 1) = (pj : Int)) := by have := HST2.out; rwa [if_pos hlx] at this
            go_wp2_with fail
            go_quiet (fail)
            go_wp2_with fail
            go_roundw
            case rel => exact ⟨j + 1, _, by omega, by go_num, by rw [HE.out], rfl⟩
            case measure => simp [intOf]; omega
          · have HE : Hid (bsN ms l (j + 1) = (pb : Int)) := by have := HST2.out; rwa [if_neg hlx] at this
            have hlx2 : decide (xj < xb) = false := decide_eq_false hlx
            go_wp2_with fail
            go_quiet (fail)
            go_wp2_with fail
            go_roundw
            case rel => exact ⟨j + 1, _, by omega, by go_num, by rw [HE.out], rfl⟩
            case measure => simp [intOf]; omega
        · obtain rfl : j = m := by omega
          go_wp2_with fail
          go_ret
          have hf : Frm (· = g) w (w1.drewN d) := (Frm.of_below HB.out).drewN d
          exact ⟨_, rfl, HM.out ▸ World.ownsRow_lit (w1.drewN d) _ 1 sz (by simp [maxLen]) rfl, (H1.out.drewN d).alloc _, hf.alloc _⟩
end Go.Proofs.Ytnpapjocobgpnaa
