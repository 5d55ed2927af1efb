/- The contract of Crash. -/
import Derived.Test.YtfcagjnedaaadaaSt2
import Derived.Deep.RegionHeld3
namespace Go.Proofs.Ytfcagjnedaaadaa
open Go.RowKit

/-- How many bytes of a block a crash leaves. -/
def crn (keep : Int) (x : Bk) : Nat := (x.2.1 + mn (mx 0 keep) ((x.1.length : Int) - x.2.1)).toNat
def crash1 (keep : Int) (x : Bk) : Option Bk := if crn keep x = 0 ∧ x.2.2 = false then none else some (x.1.take (crn keep x), (crn keep x : Int), true)
def crashS (s : St) (keep : Int) : St := ⟨fun k => (s.f k).bind (crash1 keep), false, false, 0⟩
theorem crn_eq (keep : Int) (x : Bk) (h0 : 0 ≤ x.2.1) (h1 : x.2.1 ≤ x.1.length) : x.2.1 + mn (mx 0 keep) ((x.1.length : Int) - x.2.1) = (crn keep x : Int) ∧ crn keep x ≤ x.1.length := by
  unfold crn mn mx
  split <;> split <;> omega

/-- A crash under way: what is left to come is as it was. -/
def midF (f : Int → Option Bk) (keep : Int) (left : Lit → Bool) : Int → Option Bk := fun k => if left (.int .i64 k) = true then f k else (f k).bind (crash1 keep)
theorem midF_step (f : Int → Option Bk) (keep : Int) (left : Lit → Bool) (x : Int) : midF f keep (fun z => left z && !z.sameKey (.int .i64 x)) = upd (midF f keep left) x ((f x).bind (crash1 keep)) := by
  funext k
  by_cases e : k = x
  · subst e
    simp [midF, Lit.sameKey]
  · rw [upd_other _ _ e]
    have : (Lit.int .i64 k).sameKey (.int .i64 x) = false := Maps.sameKey_ne (by simpa using e)
    simp [midF, this]

theorem Hold.lt {S : Nat → Prop} {L : Nat} {w : World} {g : Int → Option Value} {f : Int → Option Bk} (h : Hold w S L g f) : Hold w (fun j => S j ∧ j < w.heap.size) L g f := by
  intro n
  rcases h n with h | ⟨x, v, h1, h2, A, c, rfl, h3, h4, h5⟩
  · exact .inl h
  · refine .inr ⟨x, _, h1, h2, A, c, rfl, h3, fun h0 j hj => ⟨h4 h0 j hj, ?_⟩, h5⟩
    obtain ⟨_, _, e, _, _, hl, _, hr⟩ := h3
    injection e with e1 e2 e3
    subst e1
    obtain ⟨ad, rfl, hc⟩ := hr (by rw [u8s_length]; exact h0)
    have hc0 := hc 0 ((u8s x.1)[0]'(by rw [u8s_length]; exact h0)) (List.getElem?_eq_getElem _)
    have hlt := World.block_lt_of_cell? w _ hc0
    have hb : (ad.add 0).block = ad.block := by unfold Addr.add; split <;> rfl
    injection hj with hj
    rw [← hj, ← hb]
    exact hlt
theorem Frm.next {S T : Nat → Prop} {a b c : World} (h : Frm S a b) (k : Frm T b c) (hT : ∀ j, T j → S j ∨ a.heap.size ≤ j) : Frm S a c :=
  ⟨k.os.trans h.os, k.tape.trans h.tape, k.output.trans h.output, Nat.le_trans h.size k.size, fun i hi hn => (k.block i (Nat.lt_of_lt_of_le hi h.size) (fun ht => by
    rcases hT i ht with h1 | h1
    · exact hn h1
    · omega)).trans (h.block i hi hn)⟩
theorem MpR.alloc {w : World} {b r N : Nat} {g : Int → Option Value} {left : Lit → Bool} {cnt : Nat} (h : MpR w b r N g left cnt) (o : Obj) : MpR (w.alloc o) b r N g left cnt :=
  h.frm ((Frm.refl (fun _ => False) _).alloc _) (fun h => h) (fun h => h)

theorem MpR.put {w : World} {b r N : Nat} {g : Int → Option Value} {left : Lit → Bool} {cnt : Nat} (h : MpR w b r N g left cnt) (hN : N < maxLen) (k : Int) (hk : (Lit.int .i64 k).wf = true) (u0 : Value) (hth : g k = some u0) (u : Value) :
    ∃ w', (Instr.mapUpdate 55 (.map (some b)) (.int .i64 k) u).run Try.prog w = .ok () w' ∧ MpR w' b r N (upd g k (some u)) left cnt ∧ Frm (· = b) w w' := by
  obtain ⟨D, n, hn, ho, hs⟩ := h
  obtain ⟨w', hrun, r1, r2⟩ := ranges_store ho law3 Try.underlying55 (Nat.lt_of_le_of_lt hn hN) (Maps.keyOf_int_mk Try.underlying3 hk) (val := u) (d := .held u) (ps := []) rfl (hs.some hth)
  exact ⟨w', hrun, ⟨_, n, hn, r1, hs.put (ho.owns.tidy law3).isMap k hk u⟩, Frm.of_turned r2⟩
theorem firm_z (A : Option Addr) (n c : Nat) (z : Int) (hz : (n : Int) = z) (w : World) : Calls Try.prog 44 #[.slice A n c] w fun e w' => e = .returned (.agg #[.slice A n c, .int .i64 z, .bool true]) ∧ Below w.heap.size w w' := hz ▸ firm_any A n c w

set_option maxHeartbeats 4000000 in
set_option maxRecDepth 100000 in
theorem crash_any (g b : Nat) (S : Nat → Prop) (N L : Nat) (s : St) (keep : Int) (w : World) (h : Sto w g b S N L s) (hL : L ≤ 1000000) (hN : N < maxLen) :
    Calls Try.prog 28 #[.pointer (some ⟨g, 0, none⟩), .int .i64 keep] w fun e w' => e = .returned (.tuple #[]) ∧ Sto w' g b (fun j => S j ∨ w.heap.size ≤ j) N L (crashS s keep) ∧ Frm (fun j => j = g ∨ j = b) w w' := by
  have c0 := h.blk.cell 0
  simp at c0
  obtain ⟨gv, hm, hh⟩ := h.hold
  have hgl := h.glt
  have hbl := h.blt
  have H := Lib.hid h
  have HM := Lib.hid hm
  have HH := Lib.hid hh
  clear h hm hh
  go_enter Try.func28, Try.ntmps28
  go_wp2_with (at_range; refine wp_range rfl _ rfl b N gv rfl HM.out ?_; intro w0 left cnt hr hl hf)
  go_frame
  have hM0 : midF s.f keep left = s.f := by
    funext k
    unfold midF
    split
    · rfl
    · rename_i h0
      rw [hl k, HH.out.some_iff k] at h0
      cases hk : s.f k with
      | none => rfl
      | some x => rw [hk] at h0; simp at h0
  have HR := Lib.hid hr
  have HF := Lib.hid hf
  have HM0 := Lib.hid hM0
  clear hr hl hf hM0
  go_loopw [4, 5, 6] (fun _ _ _ wr => ∃ left cnt gw, MpR wr b w.heap.size N gw left cnt ∧ Hold wr (fun j => (S j ∧ j < w.heap.size) ∨ w.heap.size + 1 ≤ j) L gw (midF s.f keep left) ∧ Frm (· = b) w wr ∧ w.heap.size + 1 ≤ wr.heap.size) (fun _ _ _ wr => wr.rangeLeft b w.heap.size)
  case atStart => 
    refine ⟨left, cnt, gv, HR.out, ?_, HF.out.mono (fun _ h => h.elim), HR.out.lt⟩
    rw [HM0.out]
    exact (HH.out.lt.frm HF.out (fun _ _ h => h)).mono (fun j hj => .inl hj) (Nat.le_refl _)
  case round =>
    clear HR HF HM0 HH HM
    obtain ⟨left, cnt, gw, hr, hh, hf, hsz⟩ := hrel
    have HR := Lib.hid hr
    have HH := Lib.hid hh
    have HF := Lib.hid hf
    clear hr hh hf
    go_wp2_with (at_next; refine wp_next rfl _ rfl b w.heap.size N gw left cnt rfl HR.out ?_ ?_)
    · intro hl0
      have hfin : midF s.f keep left = fun k => (s.f k).bind (crash1 keep) := by funext k; simp [midF, hl0]
      have bg := H.out.blk.frm HF.out (fun e => H.out.ne e)
      have c1 := bg.cell 1
      have c2 := bg.cell 2
      have c3 := bg.cell 3
      have f1 := bg.free 1
      have f2 := bg.free 2
      have f3 := bg.free 3
      simp at c1 c2 c3
      have hset : Blk (((wr.setCell ⟨g, 1, none⟩ (.bool false)).setCell ⟨g, 2, none⟩ (.bool false)).setCell ⟨g, 3, none⟩ (.int .i64 0)) g #[.map (some b), .bool false, .bool false, .int .i64 0] 57 := by
        have := ((bg.set 1 (.bool false)).set 2 (.bool false)).set 3 (.int .i64 0)
        simpa using this
      have hfr := (((Frm.refl (· = g) wr).setg (i := 1) (.bool false)).setg (i := 2) (.bool false)).setg (i := 3) (.int .i64 0)
      have HSET := Lib.hid hset
      have HFR := Lib.hid hfr
      have HFIN := Lib.hid hfin
      clear hset hfr hfin bg
      go_wp2_with fail
      go_end0
      refine ⟨rfl, ⟨HSET.out, H.out.ne, by simp [crashS], by simp [crashS], ⟨gw, HR.out.owns.frm HFR.out (fun e => H.out.ne e.symm), ?_⟩, fun j hj => hj.elim (fun h0 => H.out.av j h0) (fun h0 => by omega)⟩, (HF.out.mono (fun j hj => .inr hj)).trans (HFR.out.mono (fun j hj => .inl hj))⟩
      have hh := HH.out
      rw [HFIN.out] at hh
      refine (hh.frm HFR.out (fun j hj e => ?_)).mono (fun j hj => hj.elim (fun h => .inl h.1) (fun h => .inr (by omega))) (Nat.le_refl _)
      rcases hj with hj | hj
      · exact (H.out.av j hj.1).1 e
      · omega
    · intro x v w1 cnt1 hwx hlx hgx hr1 hlt1 hf1 hen
      have hfx : midF s.f keep left x = s.f x := by simp [midF, hlx]
      have hb1 : ∀ j, ((S j ∧ j < w.heap.size) ∨ w.heap.size + 1 ≤ j) → ¬ j = w.heap.size := fun j hj => by omega
      have hb2 : ∀ j, ((S j ∧ j < w.heap.size) ∨ w.heap.size + 1 ≤ j) → ¬ j = b := fun j hj e => by
        rcases hj with hj | hj
        · exact (H.out.av j hj.1).2 e
        · omega
      have hhx := HH.out.frm hf1 hb1
      rcases hhx x with ⟨_, h2⟩ | ⟨y, v', h1, h2, A, c, rfl, hs, hsj, y0, y1, y2⟩
      · rw [hgx] at h2; cases h2
      · rw [hgx] at h2
        injection h2 with h2
        subst h2
        rw [hfx] at h1
        obtain ⟨ys, sy, fm⟩ := y
        simp only at y0 y1 y2 hs hsj hgx hen
        obtain ⟨cn, hcn⟩ : ∃ cn, crn keep (ys, sy, fm) = cn := ⟨_, rfl⟩
        obtain ⟨e1, e2⟩ := crn_eq keep (ys, sy, fm) y0 y1
        rw [hcn] at e1 e2
        simp only at e1 e2
        obtain ⟨len, hlen⟩ : ∃ len, ys.length = len := ⟨_, rfl⟩
        rw [hlen] at e1 e2 y1 y2 hs hsj hgx hen
        have e1' := e1
        have hmc : len ≤ c := by
          obtain ⟨_, _, e, h1, _⟩ := hs
          injection e with _ _ e3
          subst e3
          exact h1
        have t0 : (0 : Int) ≤ (cn : Int) := by omega
        have t1 : (cn : Int) ≤ (c : Int) := by omega
        have t2 : cn ≤ c := by omega
        have HR1 := Lib.hid (hr1.alloc (.cells #[.slice A len c, .int .i64 sy, .bool fm] 60))
        have HH1 := Lib.hid hhx
        have HF1 := Lib.hid ((HF.out.next hf1 (fun j hj => .inr (by omega))).alloc (.cells #[.slice A len c, .int .i64 sy, .bool fm] 60))
        have sz1 : w.heap.size + 1 ≤ w1.heap.size := Nat.le_trans hsz hf1.size
        have hs' := hs.alloc (.cells #[.slice A len c, .int .i64 sy, .bool fm] 60)
        have HS1 := Lib.hid (hs'.take e2)
        have hlt : cnt1 < wr.rangeLeft b w.heap.size := by rw [HR.out.left_eq]; exact hlt1
        have bg := (H.out.blk.frm HF1.out (fun e => H.out.ne e)).cell 0
        have bg0 := (H.out.blk.frm (HF.out.next hf1 (fun j hj => .inr (by omega))) (fun e => H.out.ne e)).cell 0
        simp at bg bg0
        have HX := Lib.hid h1
        have HCN := Lib.hid hcn
        clear hr1 hhx hf1 hs hs' hcn h1 hfx HR HH HF hlt1
        have tri : (0 < keep ∧ (len : Int) - sy < keep ∧ sy + ((len : Int) - sy) = cn) ∨ (0 < keep ∧ ¬ (len : Int) - sy < keep ∧ sy + keep = cn) ∨ (¬ 0 < keep ∧ sy = cn) := by
          unfold mn mx at e1'
          split at e1' <;> split at e1' <;> omega
        obtain ⟨D, hD⟩ : ∃ D, (len : Int) - sy = D := ⟨_, rfl⟩
        have D0 : 0 ≤ D := by omega
        have D1 : ¬ D < 0 := by omega
        have D2 : D ≤ 1000000 := by omega
        rw [hD] at tri
        clear e1 e1' 
        by_cases hcz : cn = 0
        · subst hcz
          simp only [Int.natCast_zero] at tri t0 t1
          cases fm
          · rcases tri with ⟨u1, u2, u3⟩ | ⟨u1, u2, u3⟩ | ⟨u1, rfl⟩
            ·
              go_wp2_with (at_delete; refine wp_del_r rfl _ _ rfl b w.heap.size N gw _ cnt1 rfl HR1.out x rfl hwx ?_; intro w2 cnt2 hr2 hle2 hf2; go_frame)
              rw [Maps.strike_twice] at hr2
              have HR2 := Lib.hid hr2
              refine ⟨⟨_, cnt2, _, HR2.out, ?_, HF1.out.trans hf2, ?_⟩, ?_⟩
              · rw [midF_step]
                have : (s.f x).bind (crash1 keep) = none := by rw [HX.out]; simp [crash1, HCN.out]
                rw [this]
                exact ((HH1.out.frm ((Frm.refl (fun _ => False) w1).alloc _) (fun _ _ h => h)).frm hf2 hb2).del x
              · exact Nat.le_trans sz1 (Nat.le_trans (by simp) hf2.size)
              · rw [HR2.out.left_eq]
                omega
            · omega
            ·
              go_wp2_with (at_delete; refine wp_del_r rfl _ _ rfl b w.heap.size N gw _ cnt1 rfl HR1.out x rfl hwx ?_; intro w2 cnt2 hr2 hle2 hf2; go_frame)
              rw [Maps.strike_twice] at hr2
              have HR2 := Lib.hid hr2
              refine ⟨⟨_, cnt2, _, HR2.out, ?_, HF1.out.trans hf2, ?_⟩, ?_⟩
              · rw [midF_step]
                have : (s.f x).bind (crash1 keep) = none := by rw [HX.out]; simp [crash1, HCN.out]
                rw [this]
                exact ((HH1.out.frm ((Frm.refl (fun _ => False) w1).alloc _) (fun _ _ h => h)).frm hf2 hb2).del x
              · exact Nat.le_trans sz1 (Nat.le_trans (by simp) hf2.size)
              · rw [HR2.out.left_eq]
                omega
          · rcases tri with ⟨u1, u2, u3⟩ | ⟨u1, u2, u3⟩ | ⟨u1, rfl⟩
            · 
              go_wp2_with fail
              obtain ⟨W1, hW1⟩ : ∃ W, W = w1.alloc (.cells #[.slice A len c, .int .i64 sy, .bool true] 60) := ⟨_, rfl⟩
              have xg : W1.cell? ⟨w1.heap.size, 0, none⟩ = some (.slice A len c) := by
                have := (Blk.new w1 #[.slice A len c, .int .i64 sy, .bool true] 60).cell 0
                rw [← hW1] at this
                simpa using this
              rw [← hW1] at HR1 HF1 HS1 bg ⊢
              have HH2 := Lib.hid (show Hold W1 _ L gw (midF s.f keep left) from hW1 ▸ HH1.out.frm ((Frm.refl (fun _ => False) w1).alloc _) (fun _ _ h => h))
              have nb := HR1.out.owns.ne bg
              have nx := HR1.out.owns.ne xg
              have sz2 : w.heap.size + 1 ≤ W1.heap.size := by rw [hW1]; simp; omega
              have k3 : Hid (∀ w', Frm (· = b) W1.drew w' → w'.cell? ⟨g, 0, none⟩ = some (.map (some b)) ∧ w'.cell? ⟨w1.heap.size, 0, none⟩ = some (.slice A len c)) :=
                Lib.hid (fun w' k => ⟨frm_cell k bg nb, frm_cell k xg nx⟩)
              clear hW1 HH1 bg0
              go_region_held3 (fun w' => w'.cell? ⟨g, 0, none⟩ = some (.map (some b)) ∧ w'.cell? ⟨w1.heap.size, 0, none⟩ = some (.slice A len c)) (first | go_keep | exact k3.out _ HBC.out | exact k3.out _ HBF.out | exact k3.out _ (HBF.out.trans HF5.out)) (first | (go_at_call 40; (with_reducible refine (clone_any _ _ _ _ _ (Sl.drew HS1.out) (by omega)).mono ?_); rintro e wc ⟨vc, rfl, hvc, hbc⟩; obtain ⟨A', c', rfl⟩ := own_slice' hvc; have HVC := Lib.hid hvc; have HBC := Lib.hid (Frm.of_below (S := (· = b)) hbc); have HBB := Lib.hid hbc; clear hvc hbc) | (go_at_call 44; (with_reducible refine (firm_z _ _ _ 0 rfl _).mono ?_); rintro e wf ⟨rfl, hbf⟩; have HBF := Lib.hid (HBC.out.trans (Frm.of_below (S := (· = b)) hbf)); have HBG := Lib.hid ((Below.trans (Below.refl _ _).drew HBB.out).trans (hbf.mono HBB.out.size)); have HVF := Lib.hid (own_frm HVC.out (Frm.of_below (S := fun _ => False) hbf) (fun _ _ h => h)); obtain ⟨w5, hU, hM5, hF5⟩ := (HR1.out.frm (Frm.of_below (S := fun _ => False) ((Below.trans (Below.refl _ _).drew HBB.out).trans (hbf.mono HBB.out.size))) (fun h => h) (fun h => h)).put hN x hwx _ hgx (.agg #[.slice A' 0 c', .int .i64 0, .bool true]); have HM5 := Lib.hid hM5; have HF5 := Lib.hid hF5; clear hM5 hF5 hbf))
              all_goals
                go_wp2_with fail
                refine ⟨⟨_, cnt1, _, HM5.out, ?_, ?_, ?_⟩, ?_⟩
                · rw [midF_step]
                  have hc : (s.f x).bind (crash1 keep) = some (ys.take 0, (0 : Int), true) := by rw [HX.out]; simp [crash1, HCN.out]
                  rw [hc]
                  refine Hold.put (((HH2.out.frm (Frm.of_below (S := fun _ => False) HBG.out) (fun _ _ h => h)).frm HF5.out hb2)) x ?_
                  have htl : (ys.take 0).length = 0 := by rw [List.length_take]; omega
                  refine ⟨A', c', ?_, ?_, fun _ j hj => ?_, ?_, ?_, ?_⟩
                  · simp only [htl]
                  · have := Sl.of_own (own_frm HVF.out HF5.out (fun g hg e => by have := (HVF.out.lt _ hg).1; have hz : W1.drew.heap.size = W1.heap.size := rfl; omega)) (by rw [u8s_take]; exact u8s_one _)
                    simp only [htl]
                    rw [u8s_take] at this
                    exact this
                  · simp only [htl] at hj
                    have := (HVF.out.lt j hj).1
                    have hz : W1.drew.heap.size = W1.heap.size := rfl
                    exact .inr (by omega)
                  · simp
                  · simp only [htl]; simp
                  · simp only [htl]; omega
                · exact (HF1.out.next (Frm.of_below (S := fun _ => False) HBG.out) (fun _ h => h.elim)).trans HF5.out
                · have := HBG.out.size
                  have := HF5.out.size
                  omega
                · rw [HM5.out.left_eq]
                  exact hlt
            · omega
            · 
              go_wp2_with fail
              obtain ⟨W1, hW1⟩ : ∃ W, W = w1.alloc (.cells #[.slice A len c, .int .i64 0, .bool true] 60) := ⟨_, rfl⟩
              have xg : W1.cell? ⟨w1.heap.size, 0, none⟩ = some (.slice A len c) := by
                have := (Blk.new w1 #[.slice A len c, .int .i64 0, .bool true] 60).cell 0
                rw [← hW1] at this
                simpa using this
              rw [← hW1] at HR1 HF1 HS1 bg ⊢
              have HH2 := Lib.hid (show Hold W1 _ L gw (midF s.f keep left) from hW1 ▸ HH1.out.frm ((Frm.refl (fun _ => False) w1).alloc _) (fun _ _ h => h))
              have nb := HR1.out.owns.ne bg
              have nx := HR1.out.owns.ne xg
              have sz2 : w.heap.size + 1 ≤ W1.heap.size := by rw [hW1]; simp; omega
              have k3 : Hid (∀ w', Frm (· = b) W1.drew w' → w'.cell? ⟨g, 0, none⟩ = some (.map (some b)) ∧ w'.cell? ⟨w1.heap.size, 0, none⟩ = some (.slice A len c)) :=
                Lib.hid (fun w' k => ⟨frm_cell k bg nb, frm_cell k xg nx⟩)
              clear hW1 HH1 bg0
              go_region_held3 (fun w' => w'.cell? ⟨g, 0, none⟩ = some (.map (some b)) ∧ w'.cell? ⟨w1.heap.size, 0, none⟩ = some (.slice A len c)) (first | go_keep | exact k3.out _ HBC.out | exact k3.out _ HBF.out | exact k3.out _ (HBF.out.trans HF5.out)) (first | (go_at_call 40; (with_reducible refine (clone_any _ _ _ _ _ (Sl.drew HS1.out) (by omega)).mono ?_); rintro e wc ⟨vc, rfl, hvc, hbc⟩; obtain ⟨A', c', rfl⟩ := own_slice' hvc; have HVC := Lib.hid hvc; have HBC := Lib.hid (Frm.of_below (S := (· = b)) hbc); have HBB := Lib.hid hbc; clear hvc hbc) | (go_at_call 44; (with_reducible refine (firm_z _ _ _ 0 rfl _).mono ?_); rintro e wf ⟨rfl, hbf⟩; have HBF := Lib.hid (HBC.out.trans (Frm.of_below (S := (· = b)) hbf)); have HBG := Lib.hid ((Below.trans (Below.refl _ _).drew HBB.out).trans (hbf.mono HBB.out.size)); have HVF := Lib.hid (own_frm HVC.out (Frm.of_below (S := fun _ => False) hbf) (fun _ _ h => h)); obtain ⟨w5, hU, hM5, hF5⟩ := (HR1.out.frm (Frm.of_below (S := fun _ => False) ((Below.trans (Below.refl _ _).drew HBB.out).trans (hbf.mono HBB.out.size))) (fun h => h) (fun h => h)).put hN x hwx _ hgx (.agg #[.slice A' 0 c', .int .i64 0, .bool true]); have HM5 := Lib.hid hM5; have HF5 := Lib.hid hF5; clear hM5 hF5 hbf))
              all_goals
                go_wp2_with fail
                refine ⟨⟨_, cnt1, _, HM5.out, ?_, ?_, ?_⟩, ?_⟩
                · rw [midF_step]
                  have hc : (s.f x).bind (crash1 keep) = some (ys.take 0, (0 : Int), true) := by rw [HX.out]; simp [crash1, HCN.out]
                  rw [hc]
                  refine Hold.put (((HH2.out.frm (Frm.of_below (S := fun _ => False) HBG.out) (fun _ _ h => h)).frm HF5.out hb2)) x ?_
                  have htl : (ys.take 0).length = 0 := by rw [List.length_take]; omega
                  refine ⟨A', c', ?_, ?_, fun _ j hj => ?_, ?_, ?_, ?_⟩
                  · simp only [htl]
                  · have := Sl.of_own (own_frm HVF.out HF5.out (fun g hg e => by have := (HVF.out.lt _ hg).1; have hz : W1.drew.heap.size = W1.heap.size := rfl; omega)) (by rw [u8s_take]; exact u8s_one _)
                    simp only [htl]
                    rw [u8s_take] at this
                    exact this
                  · simp only [htl] at hj
                    have := (HVF.out.lt j hj).1
                    have hz : W1.drew.heap.size = W1.heap.size := rfl
                    exact .inr (by omega)
                  · simp
                  · simp only [htl]; simp
                  · simp only [htl]; omega
                · exact (HF1.out.next (Frm.of_below (S := fun _ => False) HBG.out) (fun _ h => h.elim)).trans HF5.out
                · have := HBG.out.size
                  have := HF5.out.size
                  omega
                · rw [HM5.out.left_eq]
                  exact hlt
        · have hcp : ¬ (cn : Int) = 0 := by omega
          rcases tri with ⟨u1, u2, u3⟩ | ⟨u1, u2, u3⟩ | ⟨u1, rfl⟩
          · 
            go_wp2_with fail
            obtain ⟨W1, hW1⟩ : ∃ W, W = w1.alloc (.cells #[.slice A len c, .int .i64 sy, .bool fm] 60) := ⟨_, rfl⟩
            have xg : W1.cell? ⟨w1.heap.size, 0, none⟩ = some (.slice A len c) := by
              have := (Blk.new w1 #[.slice A len c, .int .i64 sy, .bool fm] 60).cell 0
              rw [← hW1] at this
              simpa using this
            rw [← hW1] at HR1 HF1 HS1 bg ⊢
            have HH2 := Lib.hid (show Hold W1 _ L gw (midF s.f keep left) from hW1 ▸ HH1.out.frm ((Frm.refl (fun _ => False) w1).alloc _) (fun _ _ h => h))
            have nb := HR1.out.owns.ne bg
            have nx := HR1.out.owns.ne xg
            have sz2 : w.heap.size + 1 ≤ W1.heap.size := by rw [hW1]; simp; omega
            have k3 : Hid (∀ w', Frm (· = b) W1.drew w' → w'.cell? ⟨g, 0, none⟩ = some (.map (some b)) ∧ w'.cell? ⟨w1.heap.size, 0, none⟩ = some (.slice A len c)) :=
              Lib.hid (fun w' k => ⟨frm_cell k bg nb, frm_cell k xg nx⟩)
            clear hW1 HH1 bg0
            go_region_held3 (fun w' => w'.cell? ⟨g, 0, none⟩ = some (.map (some b)) ∧ w'.cell? ⟨w1.heap.size, 0, none⟩ = some (.slice A len c)) (first | go_keep | exact k3.out _ HBC.out | exact k3.out _ HBF.out | exact k3.out _ (HBF.out.trans HF5.out)) (first | (go_at_call 40; (with_reducible refine (clone_any _ _ _ _ _ (Sl.drew HS1.out) (by omega)).mono ?_); rintro e wc ⟨vc, rfl, hvc, hbc⟩; obtain ⟨A', c', rfl⟩ := own_slice' hvc; have HVC := Lib.hid hvc; have HBC := Lib.hid (Frm.of_below (S := (· = b)) hbc); have HBB := Lib.hid hbc; clear hvc hbc) | (go_at_call 44; (with_reducible refine (firm_z _ _ _ cn rfl _).mono ?_); rintro e wf ⟨rfl, hbf⟩; have HBF := Lib.hid (HBC.out.trans (Frm.of_below (S := (· = b)) hbf)); have HBG := Lib.hid ((Below.trans (Below.refl _ _).drew HBB.out).trans (hbf.mono HBB.out.size)); have HVF := Lib.hid (own_frm HVC.out (Frm.of_below (S := fun _ => False) hbf) (fun _ _ h => h)); obtain ⟨w5, hU, hM5, hF5⟩ := (HR1.out.frm (Frm.of_below (S := fun _ => False) ((Below.trans (Below.refl _ _).drew HBB.out).trans (hbf.mono HBB.out.size))) (fun h => h) (fun h => h)).put hN x hwx _ hgx (.agg #[.slice A' cn c', .int .i64 cn, .bool true]); have HM5 := Lib.hid hM5; have HF5 := Lib.hid hF5; clear hM5 hF5 hbf))
            all_goals
              go_wp2_with fail
              refine ⟨⟨_, cnt1, _, HM5.out, ?_, ?_, ?_⟩, ?_⟩
              · rw [midF_step]
                have hc : (s.f x).bind (crash1 keep) = some (ys.take cn, (cn : Int), true) := by rw [HX.out]; simp [crash1, HCN.out, hcz]
                rw [hc]
                refine Hold.put (((HH2.out.frm (Frm.of_below (S := fun _ => False) HBG.out) (fun _ _ h => h)).frm HF5.out hb2)) x ?_
                have htl : (ys.take cn).length = cn := by rw [List.length_take]; omega
                refine ⟨A', c', ?_, ?_, fun _ j hj => ?_, ?_, ?_, ?_⟩
                · simp only [htl]
                · have := Sl.of_own (own_frm HVF.out HF5.out (fun g hg e => by have := (HVF.out.lt _ hg).1; have hz : W1.drew.heap.size = W1.heap.size := rfl; omega)) (by rw [u8s_take]; exact u8s_one _)
                  simp only [htl]
                  rw [u8s_take] at this
                  exact this
                · simp only [htl] at hj
                  have := (HVF.out.lt j hj).1
                  have hz : W1.drew.heap.size = W1.heap.size := rfl
                  exact .inr (by omega)
                · simp
                · simp only [htl]; simp
                · simp only [htl]; omega
              · exact (HF1.out.next (Frm.of_below (S := fun _ => False) HBG.out) (fun _ h => h.elim)).trans HF5.out
              · have := HBG.out.size
                have := HF5.out.size
                omega
              · rw [HM5.out.left_eq]
                exact hlt
          · 
            go_wp2_with fail
            obtain ⟨W1, hW1⟩ : ∃ W, W = w1.alloc (.cells #[.slice A len c, .int .i64 sy, .bool fm] 60) := ⟨_, rfl⟩
            have xg : W1.cell? ⟨w1.heap.size, 0, none⟩ = some (.slice A len c) := by
              have := (Blk.new w1 #[.slice A len c, .int .i64 sy, .bool fm] 60).cell 0
              rw [← hW1] at this
              simpa using this
            rw [← hW1] at HR1 HF1 HS1 bg ⊢
            have HH2 := Lib.hid (show Hold W1 _ L gw (midF s.f keep left) from hW1 ▸ HH1.out.frm ((Frm.refl (fun _ => False) w1).alloc _) (fun _ _ h => h))
            have nb := HR1.out.owns.ne bg
            have nx := HR1.out.owns.ne xg
            have sz2 : w.heap.size + 1 ≤ W1.heap.size := by rw [hW1]; simp; omega
            have k3 : Hid (∀ w', Frm (· = b) W1.drew w' → w'.cell? ⟨g, 0, none⟩ = some (.map (some b)) ∧ w'.cell? ⟨w1.heap.size, 0, none⟩ = some (.slice A len c)) :=
              Lib.hid (fun w' k => ⟨frm_cell k bg nb, frm_cell k xg nx⟩)
            clear hW1 HH1 bg0
            go_region_held3 (fun w' => w'.cell? ⟨g, 0, none⟩ = some (.map (some b)) ∧ w'.cell? ⟨w1.heap.size, 0, none⟩ = some (.slice A len c)) (first | go_keep | exact k3.out _ HBC.out | exact k3.out _ HBF.out | exact k3.out _ (HBF.out.trans HF5.out)) (first | (go_at_call 40; (with_reducible refine (clone_any _ _ _ _ _ (Sl.drew HS1.out) (by omega)).mono ?_); rintro e wc ⟨vc, rfl, hvc, hbc⟩; obtain ⟨A', c', rfl⟩ := own_slice' hvc; have HVC := Lib.hid hvc; have HBC := Lib.hid (Frm.of_below (S := (· = b)) hbc); have HBB := Lib.hid hbc; clear hvc hbc) | (go_at_call 44; (with_reducible refine (firm_z _ _ _ cn rfl _).mono ?_); rintro e wf ⟨rfl, hbf⟩; have HBF := Lib.hid (HBC.out.trans (Frm.of_below (S := (· = b)) hbf)); have HBG := Lib.hid ((Below.trans (Below.refl _ _).drew HBB.out).trans (hbf.mono HBB.out.size)); have HVF := Lib.hid (own_frm HVC.out (Frm.of_below (S := fun _ => False) hbf) (fun _ _ h => h)); obtain ⟨w5, hU, hM5, hF5⟩ := (HR1.out.frm (Frm.of_below (S := fun _ => False) ((Below.trans (Below.refl _ _).drew HBB.out).trans (hbf.mono HBB.out.size))) (fun h => h) (fun h => h)).put hN x hwx _ hgx (.agg #[.slice A' cn c', .int .i64 cn, .bool true]); have HM5 := Lib.hid hM5; have HF5 := Lib.hid hF5; clear hM5 hF5 hbf))
            all_goals
              go_wp2_with fail
              refine ⟨⟨_, cnt1, _, HM5.out, ?_, ?_, ?_⟩, ?_⟩
              · rw [midF_step]
                have hc : (s.f x).bind (crash1 keep) = some (ys.take cn, (cn : Int), true) := by rw [HX.out]; simp [crash1, HCN.out, hcz]
                rw [hc]
                refine Hold.put (((HH2.out.frm (Frm.of_below (S := fun _ => False) HBG.out) (fun _ _ h => h)).frm HF5.out hb2)) x ?_
                have htl : (ys.take cn).length = cn := by rw [List.length_take]; omega
                refine ⟨A', c', ?_, ?_, fun _ j hj => ?_, ?_, ?_, ?_⟩
                · simp only [htl]
                · have := Sl.of_own (own_frm HVF.out HF5.out (fun g hg e => by have := (HVF.out.lt _ hg).1; have hz : W1.drew.heap.size = W1.heap.size := rfl; omega)) (by rw [u8s_take]; exact u8s_one _)
                  simp only [htl]
                  rw [u8s_take] at this
                  exact this
                · simp only [htl] at hj
                  have := (HVF.out.lt j hj).1
                  have hz : W1.drew.heap.size = W1.heap.size := rfl
                  exact .inr (by omega)
                · simp
                · simp only [htl]; simp
                · simp only [htl]; omega
              · exact (HF1.out.next (Frm.of_below (S := fun _ => False) HBG.out) (fun _ h => h.elim)).trans HF5.out
              · have := HBG.out.size
                have := HF5.out.size
                omega
              · rw [HM5.out.left_eq]
                exact hlt
          · 
            go_wp2_with fail
            obtain ⟨W1, hW1⟩ : ∃ W, W = w1.alloc (.cells #[.slice A len c, .int .i64 cn, .bool fm] 60) := ⟨_, rfl⟩
            have xg : W1.cell? ⟨w1.heap.size, 0, none⟩ = some (.slice A len c) := by
              have := (Blk.new w1 #[.slice A len c, .int .i64 cn, .bool fm] 60).cell 0
              rw [← hW1] at this
              simpa using this
            rw [← hW1] at HR1 HF1 HS1 bg ⊢
            have HH2 := Lib.hid (show Hold W1 _ L gw (midF s.f keep left) from hW1 ▸ HH1.out.frm ((Frm.refl (fun _ => False) w1).alloc _) (fun _ _ h => h))
            have nb := HR1.out.owns.ne bg
            have nx := HR1.out.owns.ne xg
            have sz2 : w.heap.size + 1 ≤ W1.heap.size := by rw [hW1]; simp; omega
            have k3 : Hid (∀ w', Frm (· = b) W1.drew w' → w'.cell? ⟨g, 0, none⟩ = some (.map (some b)) ∧ w'.cell? ⟨w1.heap.size, 0, none⟩ = some (.slice A len c)) :=
              Lib.hid (fun w' k => ⟨frm_cell k bg nb, frm_cell k xg nx⟩)
            clear hW1 HH1 bg0
            go_region_held3 (fun w' => w'.cell? ⟨g, 0, none⟩ = some (.map (some b)) ∧ w'.cell? ⟨w1.heap.size, 0, none⟩ = some (.slice A len c)) (first | go_keep | exact k3.out _ HBC.out | exact k3.out _ HBF.out | exact k3.out _ (HBF.out.trans HF5.out)) (first | (go_at_call 40; (with_reducible refine (clone_any _ _ _ _ _ (Sl.drew HS1.out) (by omega)).mono ?_); rintro e wc ⟨vc, rfl, hvc, hbc⟩; obtain ⟨A', c', rfl⟩ := own_slice' hvc; have HVC := Lib.hid hvc; have HBC := Lib.hid (Frm.of_below (S := (· = b)) hbc); have HBB := Lib.hid hbc; clear hvc hbc) | (go_at_call 44; (with_reducible refine (firm_z _ _ _ cn rfl _).mono ?_); rintro e wf ⟨rfl, hbf⟩; have HBF := Lib.hid (HBC.out.trans (Frm.of_below (S := (· = b)) hbf)); have HBG := Lib.hid ((Below.trans (Below.refl _ _).drew HBB.out).trans (hbf.mono HBB.out.size)); have HVF := Lib.hid (own_frm HVC.out (Frm.of_below (S := fun _ => False) hbf) (fun _ _ h => h)); obtain ⟨w5, hU, hM5, hF5⟩ := (HR1.out.frm (Frm.of_below (S := fun _ => False) ((Below.trans (Below.refl _ _).drew HBB.out).trans (hbf.mono HBB.out.size))) (fun h => h) (fun h => h)).put hN x hwx _ hgx (.agg #[.slice A' cn c', .int .i64 cn, .bool true]); have HM5 := Lib.hid hM5; have HF5 := Lib.hid hF5; clear hM5 hF5 hbf))
            all_goals
              go_wp2_with fail
              refine ⟨⟨_, cnt1, _, HM5.out, ?_, ?_, ?_⟩, ?_⟩
              · rw [midF_step]
                have hc : (s.f x).bind (crash1 keep) = some (ys.take cn, (cn : Int), true) := by rw [HX.out]; simp [crash1, HCN.out, hcz]
                rw [hc]
                refine Hold.put (((HH2.out.frm (Frm.of_below (S := fun _ => False) HBG.out) (fun _ _ h => h)).frm HF5.out hb2)) x ?_
                have htl : (ys.take cn).length = cn := by rw [List.length_take]; omega
                refine ⟨A', c', ?_, ?_, fun _ j hj => ?_, ?_, ?_, ?_⟩
                · simp only [htl]
                · have := Sl.of_own (own_frm HVF.out HF5.out (fun g hg e => by have := (HVF.out.lt _ hg).1; have hz : W1.drew.heap.size = W1.heap.size := rfl; omega)) (by rw [u8s_take]; exact u8s_one _)
                  simp only [htl]
                  rw [u8s_take] at this
                  exact this
                · simp only [htl] at hj
                  have := (HVF.out.lt j hj).1
                  have hz : W1.drew.heap.size = W1.heap.size := rfl
                  exact .inr (by omega)
                · simp
                · simp only [htl]; simp
                · simp only [htl]; omega
              · exact (HF1.out.next (Frm.of_below (S := fun _ => False) HBG.out) (fun _ h => h.elim)).trans HF5.out
              · have := HBG.out.size
                have := HF5.out.size
                omega
              · rw [HM5.out.left_eq]
                exact hlt
end Go.Proofs.Ytfcagjnedaaadaa
