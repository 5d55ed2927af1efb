/- Parts of the walk: Je, Ee. -/
import Derived.Test.YtdneakejlbabeaaGreatM00
import Derived.Test.YtdneakejlbabeaaGreatM23
import Derived.Test.YtdneakejlbabeaaGreatM04
import Derived.Deep.RegionLaw
import Derived.Test.YtdneakejlbabeaaGreatM18
namespace Go.Proofs.YtdneakejlbabeaaGreat
open Go.RowKit
set_option linter.unusedVariables false
set_option linter.unusedSimpArgs false
section
theorem pk_mem (kd nx : Int) (ms : List Int) : ∀ y ∈ pkN kd nx ms, y ∈ usN ms ms.length := by
 intro y hy
 unfold pkN at hy
 simp only at hy
 split at hy
 ·exact hy
 ·rename_i h
  have h0 : 0 < (usN ms ms.length).length := List.length_pos_iff.2 (fun e => h (.inl e))
  split at hy
  ·rw [List.mem_singleton] at hy; rw [hy]; exact rdN_mem nx _ h0
  ·rw [List.mem_singleton] at hy; rw [hy]; exact bsN_mem ms _ h0 _ (Nat.le_refl _)
theorem pk_ne (kd nx : Int) (ms : List Int) (h : usN ms ms.length ≠ []) : pkN kd nx ms ≠ [] := by
 unfold pkN
 simp only
 split
 ·exact h
 ·split <;> simp
theorem pk_len (kd nx : Int) (ms : List Int) (n : Nat) (h : ms.length ≤ n) (h1 : 1 ≤ n) : (pkN kd nx ms).length ≤ n := by
 have := usN_length ms ms.length
 unfold pkN
 simp only
 split
 ·omega
 ·split <;> simp <;> omega
/-- What has been gathered of so many paths. -/
structure Chs (w : World) (ps : List PathV) (j : Nat) (ml al : List Int) (fr : Bool) : Prop where
 l : ml.length = j
 m : ∀ (i : Nat) (q : PathV), ps[i]? = some q → i < j → 0 ≤ ml.getD i 0 → usB w q = true
 a : ∀ y ∈ al, ∃ (i : Nat) (q : PathV), y = (i : Int) ∧ ps[i]? = some q ∧ usB w q = true
 n : (ps.take j).any (usB w) = true → al ≠ []
 f : fr = true → ∃ i < j, 0 ≤ ml.getD i 0
 al : al.length ≤ j
theorem Chs.zero (w : World) (ps : List PathV) : Chs w ps 0 [] [] false := ⟨rfl, (fun i q h hl => by omega), (fun y h => by cases h), (fun h => by simp at h), (fun h => by cases h), Nat.le_refl _⟩
theorem getD_snoc (l : List Int) (x : Int) (i : Nat) : (l ++ [x]).getD i 0 = if i = l.length then x else l.getD i 0 := by
 simp only [List.getD_eq_getElem?_getD]
 rcases Nat.lt_trichotomy i l.length with h | h | h
 ·rw [if_neg (by omega), List.getElem?_append_left h]
 ·subst h; rw [if_pos rfl, List.getElem?_append_right (Nat.le_refl _)]; simp
 ·rw [if_neg (by omega), List.getElem?_eq_none (by simp; omega), List.getElem?_eq_none (by omega)]
theorem Chs.no {w : World} {ps : List PathV} {j : Nat} {ml al : List Int} {fr : Bool} {q : PathV} (h : Chs w ps j ml al fr) (hq : ps[j]? = some q) (hu : usB w q = false) : Chs w ps (j + 1) (ml ++ [-1]) al fr :=
 ⟨by simp [h.l], fun i q' hi hij hm => by
  rw [getD_snoc, h.l] at hm
  split at hm
  ·omega
  ·exact h.m i q' hi (by omega) hm, h.a, fun ha => h.n (by
   rw [List.take_add_one, hq, List.any_append] at ha
   simpa [hu] using ha), fun hf => by
  obtain ⟨i, hi, hm⟩ := h.f hf
  exact ⟨i, by omega, by rw [getD_snoc, h.l, if_neg (by omega)]; exact hm⟩, by have := h.al; omega⟩
theorem Chs.yes {w : World} {ps : List PathV} {j : Nat} {ml al : List Int} {fr fr' : Bool} {q : PathV} (h : Chs w ps j ml al fr) (hq : ps[j]? = some q) (hu : usB w q = true) (m : Int) (hf : fr' = true → 0 ≤ m ∨ fr = true) : Chs w ps (j + 1) (ml ++ [m]) (al ++ [(j : Int)]) fr' :=
 ⟨by simp [h.l], fun i q' hi hij hm => by
  rw [getD_snoc, h.l] at hm
  split at hm
  ·rename_i e
   subst e
   rw [hq] at hi
   injection hi with hi
   rw [← hi]
   exact hu
  ·exact h.m i q' hi (by omega) hm, fun y hy => by
  rcases List.mem_append.1 hy with hy | hy
  ·exact h.a y hy
  ·rw [List.mem_singleton] at hy
   exact ⟨j, q, hy, hq, hu⟩, fun _ => by simp, fun hf' => by
  rcases hf hf' with h0 | h0
  ·exact ⟨j, by omega, by rw [getD_snoc, h.l, if_pos rfl]; exact h0⟩
  ·obtain ⟨i, hi, hm⟩ := h.f h0
   exact ⟨i, by omega, by rw [getD_snoc, h.l, if_neg (by omega)]; exact hm⟩, by have := h.al; simp; omega⟩
theorem EndS.put6 {o o' : Nat → Nat} {k B : Nat} {w w' : World} {ge : Nat} {x : EndV} (h : EndS o k B w ge x) (s : Stp (fun c => c = k + 6) o o' w w') (h6 : C6 o' k B w' x.gs) : EndS o' k B w' ge x :=
 have kp := h.kp
 ⟨h.blk.frm s.f (fun e => by have := h.og; omega), (s.ag _ h.blk.lt).trans h.og, h.ge, h.kp, h.c1.frm s (by omega), h.c2.frm s (by omega), h.c3.frm s (by omega), h.c4.frm s (by omega), h.c5.frm s (by omega), h6, h.c7.frm s (by omega) (by omega), h.c8.frm s (by omega) (by omega), fun i p hi => (h.c9 i p hi).frm s (by omega), h.np⟩
def ChooseR (o : Nat → Nat) (k B : Nat) (w : World) (ge : Nat) (x : EndV) (e : Ending) (w' : World) : Prop :=
 ∃ (v : Value) (pl : List Int), e = .returned v ∧ w'.ownsRow w.heap.size 3 1 v pl.length (i64s pl) ∧ pl.length ≤ 3 ∧ (∀ y ∈ pl, ∃ (i : Nat) (q : PathV), y = (i : Int) ∧ x.ps[i]? = some q ∧ usB w q = true) ∧ (x.ps.any (usB w) = true → pl ≠ []) ∧ EndS (scr o w.heap.size 0) k B w' ge x ∧ Stp (fun c => c = k + 6) o (scr o w.heap.size 0) w w'
set_option maxHeartbeats 16000000 in
set_option maxRecDepth 100000 in
theorem choose_any (o : Nat → Nat) (k B : Nat) (w : World) (ge : Nat) (x : EndV) (h : EndS o k B w ge x) :
  Calls Tryz.prog 64 #[.pointer (some ⟨ge, 0, none⟩)] w fun e w' => ChooseR o k B w ge x e w' := by
 have H := hid h
 have HI := hid Tryz.info3
 obtain ⟨A, c, hv, hc, _⟩ := h.path
 have c9 := h.blk.cell 9
 simp only [gA, gZ, gC] at c9
 rw [hv] at c9
 have HV := hid hv
 have np := h.np
 clear h hv
 obtain ⟨n, hn⟩ : ∃ n, x.ps.length = n := ⟨_, rfl⟩
 rw [hn] at c9 hc np
 have HN := hid hn
 clear hn
 go_enter Tryz.func64, Tryz.ntmps64
 go_wp2_with fail
 go_loopw [3, 4, 5, 14] (fun vm va vf i wr => ∃ (j : Nat) (ml al : List Int) (fr : Bool), j ≤ n ∧ i = .int .i64 j ∧ vf = .bool fr ∧ Chs w x.ps j ml al fr ∧ wr.ownsRow w.heap.size 3 1 vm j (i64s ml) ∧ wr.ownsRow w.heap.size 3 1 va al.length (i64s al) ∧ (∀ g, vm.ownBlock = some g → ¬ va.ownBlock = some g) ∧ Below w.heap.size w wr) (fun _ _ _ i _ => n - (intOf i).toNat)
 case atStart => exact ⟨0, [], [], false, Nat.zero_le _, rfl, rfl, Chs.zero _ _, World.ownsRow_nil _ _ _ _, World.ownsRow_nil _ _ _ _, (fun g h => by cases h), Below.refl _ _⟩
 case round =>
  obtain ⟨j, ml, al, fr, hj, rfl, rfl, hch, ho3, ho4, hap, hb⟩ := hrel
  have G := hid hb
  have CH := hid hch
  have O3 := hid ho3
  have O4 := hid ho4
  have AP := hid hap
  have hal := hch.al
  obtain ⟨A3, c3, rfl⟩ := own_slice' ho3
  obtain ⟨A4, c4, rfl⟩ := own_slice' ho4
  have sr := hb.size
  clear hb hch ho3 ho4 hap
  by_cases hjn : j < n
  ·have j0 : (0 : Int) ≤ (j : Int) := by omega
   have j1 : (j : Int) < (n : Int) := by omega
   have iwj : IntKind.i64.wrap ((j : Int) + 1) = (j : Int) + 1 := iX
   obtain ⟨q, hq⟩ : ∃ q, x.ps[j]? = some q := ⟨_, List.getElem?_eq_getElem (by have := HN.out; omega)⟩
   have XR := hid (H.out.below G.out)
   obtain ⟨A', c', hv', _, hel⟩ := XR.out.path
   obtain ⟨ad, hA, dj, _⟩ := hel j q hq
   have hAA : A = some ad := by
    have := HV.out
    rw [hv'] at this
    injection this with h1 h2 h3
    rw [← h1]
    exact hA
   subst hAA
   have P := hid (XR.out.c9 j q hq).r
   obtain ⟨m, z, t, kk, hw⟩ := P.out.wd
   obtain ⟨Aq, cq, hvq⟩ := own_slice' P.out.l
   have hP0 := H.out.c9 j q hq
   have hwz : wsz wr q.gW = z := wsz_blk hw
   have hus : usB w q = usB wr q := (usB_frm (Frm.of_below (S := fun _ => False) G.out) hP0.r.wd.lt (fun h => h)).symm
   have US : Hid (Calls Tryz.prog 93 #[.pointer (some ⟨q.gp, 0, none⟩)] wr fun e w' => e = .returned (.bool (usB w q)) ∧ Below wr.heap.size wr w') := hid (usable1_any wr q.gp q.u q.j q.b q.s q.gG q.gW Aq q.l.length cq m z t kk (by have := P.out.blk; rw [hvq] at this; exact this) hw (usB w q) (by rw [hus]; unfold usB; rw [hwz]))
   have PW : Hid (∀ W, Below wr.heap.size wr W → PathAt B W q.gp q.gG q.gW q.u q.j q.b q.s q.v q.l) := hid (fun W hW => P.out.below hW)
   have HQ := hid hq
   obtain ⟨b, hbq⟩ : ∃ b, usB w q = b := ⟨_, rfl⟩
   rw [hbq] at US
   have HB := hid hbq
   clear hw hwz hus hvq hel hv' hA hq hP0 hbq
   cases b
   ·go_wp2_with fail
    refine US.out.mono ?_
    rintro e w2 ⟨rfl, hb2⟩
    have g_ := bO G.out hb2
    have o3_ := own_frm O3.out (Frm.of_below (S := fun _ => False) hb2) (fun _ _ h => h)
    have o4_ := own_frm O4.out (Frm.of_below (S := fun _ => False) hb2) (fun _ _ h => h)
    clear G O3 O4 hb2
    have G := hid g_
    have O3 := hid o3_
    have O4 := hid o4_
    clear g_ o3_ o4_
    go_wp2_with (at_builtin; (refine wp_app w.heap.size rfl _ _ 66 3 (.int .i64 0) 1 8 rfl Tryz.underlying66 HI.out rfl (by omega) (by omega) rfl rfl (O3.out.alloc _) (Sl.one _ 3 (.int .i64 (-1)) rfl) (by omega) (Nat.le_trans G.out.size (by simp)) ?_; intro v6 w6 hown hfr hat; have hfr' := ((Frm.refl (fun y => (Value.slice A3 j c3).ownBlock = some y) _).alloc _).trans hfr; have hap6 : ∀ y, v6.ownBlock = some y → ¬ (Value.slice A4 al.length c4).ownBlock = some y := (fun y h1 h2 => by rcases hat with e | e; exact AP.out y (e ▸ h1) h2; (rw [e] at h1; injection h1 with h1; have := (O4.out.lt y h2).2; rw [← h1] at this; simp at this; omega)); have g_ := Frm.below G.out hfr' G.out.size (fun g hg => (O3.out.lt g hg).1); have o4_ := own_frm O4.out hfr' (fun g h4 h3 => AP.out g h3 h4); have O3' := hid hown; clear G O3 O4; have G := hid g_; have O4 := hid o4_; have O3 := O3'; have APM := hid hap6; obtain ⟨A6, c6, rfl⟩ := own_slice' hown; clear hown hfr hfr' hat g_ o4_ hap6 O3'))
    (try go_wp2_with fail)
    go_roundw
    case rel => exact ⟨j + 1, _, al, fr, hjn, by go_num, rfl, CH.out.no HQ.out HB.out, by simpa [i64s] using O3.out, O4.out, APM.out, G.out⟩
    case measure => simp [intOf]; omega
   ·rcases hbe : q.b with _ | _
    ·go_wp2_with fail
     refine US.out.mono ?_
     rintro e w2 ⟨rfl, hb2⟩
     have g_ := bO G.out hb2
     have o3_ := own_frm O3.out (Frm.of_below (S := fun _ => False) hb2) (fun _ _ h => h)
     have o4_ := own_frm O4.out (Frm.of_below (S := fun _ => False) hb2) (fun _ _ h => h)
     have B2 := hid hb2
     clear G O3 O4 hb2
     have G := hid g_
     have O3 := hid o3_
     have O4 := hid o4_
     clear g_ o3_ o4_
     have k2 := (PW.out _ B2.out).blk.cell 2
     have k4 := (PW.out _ B2.out).blk.cell 4
     obtain ⟨ga, gm, gc, gd, gs_, hgb, _, _, gm0, _⟩ := (PW.out _ B2.out).g
     have gk := hgb.cell 1
     simp only [gA, gZ, gC] at k2 k4 gk
     rw [hbe] at k2
     have hlp := (PW.out _ B2.out).blk.lt
     have hlg := hgb.lt
     have GM := hid gm0
     have KK : Hid (∀ W : World, (∀ y, y < w2.heap.size → ¬ (Value.slice A4 al.length c4).ownBlock = some y → W.heap[y]? = w2.heap[y]?) → W.cell? ⟨q.gp, 2, none⟩ = some (.bool false) ∧ W.cell? ⟨q.gp, 4, none⟩ = some (.pointer (some ⟨q.gG, 0, none⟩)) ∧ W.cell? ⟨q.gG, 1, none⟩ = some (.int .i64 gm)) := hid (fun W hW => by
      have h1 := (H.out.c9 j q HQ.out).r.blk.lt
      have h2 := (H.out.c9 j q HQ.out).r.g.lt
      have n1 : ¬ (Value.slice A4 al.length c4).ownBlock = some q.gp := fun e => by have := (O4.out.lt _ e).1; omega
      have n2 : ¬ (Value.slice A4 al.length c4).ownBlock = some q.gG := fun e => by have := (O4.out.lt _ e).1; omega
      exact ⟨(World.cell?_of_block (hW _ hlp n1)).trans k2, (World.cell?_of_block (hW _ hlp n1)).trans k4, (World.cell?_of_block (hW _ hlg n2)).trans gk⟩)
     clear k2 k4 gk hgb gm0
     go_wp2_with (at_builtin; first | (refine wp_app w.heap.size rfl _ _ 66 3 (.int .i64 0) 1 8 rfl Tryz.underlying66 HI.out rfl (by omega) (by omega) rfl rfl (O4.out.alloc _) (Sl.one _ 3 (.int .i64 (j : Int)) rfl) (by omega) (Nat.le_trans G.out.size (by simp)) ?_; intro v5 w5 hown hfr hat; have hfr' := ((Frm.refl (fun y => (Value.slice A4 al.length c4).ownBlock = some y) _).alloc _).trans hfr; have hap5 : ∀ y, v5.ownBlock = some y → ¬ (Value.slice A3 j c3).ownBlock = some y := (fun y h1 h2 => by rcases hat with e | e; exact AP.out y h2 (e ▸ h1); (rw [e] at h1; injection h1 with h1; have := (O3.out.lt y h2).2; rw [← h1] at this; simp at this; omega)); obtain ⟨q2, q4, qk⟩ := KK.out _ (fun y hy hn => hfr'.block y hy hn); have g_ := Frm.below G.out hfr' G.out.size (fun g hg => (O4.out.lt g hg).1); have o3_ := own_frm O3.out hfr' (fun g h3 h4 => AP.out g h3 h4); have O4' := hid hown; clear G O3 O4; have G := hid g_; have O3 := hid o3_; have O4 := O4'; have APN := hid hap5; obtain ⟨A5, c5, rfl⟩ := own_slice' hown; clear hown hfr hfr' hat g_ o3_ hap5 O4') | (refine wp_app w.heap.size rfl _ _ 66 3 (.int .i64 0) 1 8 rfl Tryz.underlying66 HI.out rfl (by omega) (by omega) rfl rfl (O3.out.alloc _) (Sl.one _ 3 (.int .i64 (gm)) rfl) (by omega) (Nat.le_trans G.out.size (by simp)) ?_; intro v6 w6 hown hfr hat; have hfr' := ((Frm.refl (fun y => (Value.slice A3 j c3).ownBlock = some y) _).alloc _).trans hfr; have hap6 : ∀ y, v6.ownBlock = some y → ¬ (Value.slice A5 (al.length + 1) c5).ownBlock = some y := (fun y h1 h2 => by rcases hat with e | e; exact APN.out y h2 (e ▸ h1); (rw [e] at h1; injection h1 with h1; have := (O4.out.lt y h2).2; rw [← h1] at this; simp at this; omega)); have g_ := Frm.below G.out hfr' G.out.size (fun g hg => (O3.out.lt g hg).1); have o4_ := own_frm O4.out hfr' (fun g h4 h3 => APN.out g h4 h3); have O3' := hid hown; clear G O3 O4; have G := hid g_; have O4 := hid o4_; have O3 := O3'; have APM := hid hap6; obtain ⟨A6, c6, rfl⟩ := own_slice' hown; clear hown hfr hfr' hat g_ o4_ hap6 O3'))
     (try go_wp2_with fail)
     go_roundw
     case rel => exact ⟨j + 1, _, _, true, hjn, by go_num, rfl, CH.out.yes HQ.out HB.out gm (fun _ => .inl GM.out), by simpa [i64s] using O3.out, by simpa [i64s] using O4.out, APM.out, G.out⟩
     case measure => simp [intOf]; omega
    ·go_wp2_with fail
     refine US.out.mono ?_
     rintro e w2 ⟨rfl, hb2⟩
     have g_ := bO G.out hb2
     have o3_ := own_frm O3.out (Frm.of_below (S := fun _ => False) hb2) (fun _ _ h => h)
     have o4_ := own_frm O4.out (Frm.of_below (S := fun _ => False) hb2) (fun _ _ h => h)
     have B2 := hid hb2
     clear G O3 O4 hb2
     have G := hid g_
     have O3 := hid o3_
     have O4 := hid o4_
     clear g_ o3_ o4_
     have k2 := (PW.out _ B2.out).blk.cell 2
     simp only [gA, gZ, gC] at k2
     rw [hbe] at k2
     have hlp := (PW.out _ B2.out).blk.lt
     have KK : Hid (∀ W : World, (∀ y, y < w2.heap.size → ¬ (Value.slice A4 al.length c4).ownBlock = some y → W.heap[y]? = w2.heap[y]?) → W.cell? ⟨q.gp, 2, none⟩ = some (.bool true)) := hid (fun W hW => by
      have h1 := (H.out.c9 j q HQ.out).r.blk.lt
      have n1 : ¬ (Value.slice A4 al.length c4).ownBlock = some q.gp := fun e => by have := (O4.out.lt _ e).1; omega
      exact (World.cell?_of_block (hW _ hlp n1)).trans k2)
     clear k2
     go_wp2_with (at_builtin; first | (refine wp_app w.heap.size rfl _ _ 66 3 (.int .i64 0) 1 8 rfl Tryz.underlying66 HI.out rfl (by omega) (by omega) rfl rfl (O4.out.alloc _) (Sl.one _ 3 (.int .i64 (j : Int)) rfl) (by omega) (Nat.le_trans G.out.size (by simp)) ?_; intro v5 w5 hown hfr hat; have hfr' := ((Frm.refl (fun y => (Value.slice A4 al.length c4).ownBlock = some y) _).alloc _).trans hfr; have hap5 : ∀ y, v5.ownBlock = some y → ¬ (Value.slice A3 j c3).ownBlock = some y := (fun y h1 h2 => by rcases hat with e | e; exact AP.out y h2 (e ▸ h1); (rw [e] at h1; injection h1 with h1; have := (O3.out.lt y h2).2; rw [← h1] at this; simp at this; omega)); have q2 := KK.out _ (fun y hy hn => hfr'.block y hy hn); have g_ := Frm.below G.out hfr' G.out.size (fun g hg => (O4.out.lt g hg).1); have o3_ := own_frm O3.out hfr' (fun g h3 h4 => AP.out g h3 h4); have O4' := hid hown; clear G O3 O4; have G := hid g_; have O3 := hid o3_; have O4 := O4'; have APN := hid hap5; obtain ⟨A5, c5, rfl⟩ := own_slice' hown; clear hown hfr hfr' hat g_ o3_ hap5 O4') | (refine wp_app w.heap.size rfl _ _ 66 3 (.int .i64 0) 1 8 rfl Tryz.underlying66 HI.out rfl (by omega) (by omega) rfl rfl (O3.out.alloc _) (Sl.one _ 3 (.int .i64 (-1)) rfl) (by omega) (Nat.le_trans G.out.size (by simp)) ?_; intro v6 w6 hown hfr hat; have hfr' := ((Frm.refl (fun y => (Value.slice A3 j c3).ownBlock = some y) _).alloc _).trans hfr; have hap6 : ∀ y, v6.ownBlock = some y → ¬ (Value.slice A5 (al.length + 1) c5).ownBlock = some y := (fun y h1 h2 => by rcases hat with e | e; exact APN.out y h2 (e ▸ h1); (rw [e] at h1; injection h1 with h1; have := (O4.out.lt y h2).2; rw [← h1] at this; simp at this; omega)); have g_ := Frm.below G.out hfr' G.out.size (fun g hg => (O3.out.lt g hg).1); have o4_ := own_frm O4.out hfr' (fun g h4 h3 => APN.out g h4 h3); have O3' := hid hown; clear G O3 O4; have G := hid g_; have O4 := hid o4_; have O3 := O3'; have APM := hid hap6; obtain ⟨A6, c6, rfl⟩ := own_slice' hown; clear hown hfr hfr' hat g_ o4_ hap6 O3'))
     (try go_wp2_with fail)
     go_roundw
     case rel => exact ⟨j + 1, _, _, fr, hjn, by go_num, rfl, CH.out.yes HQ.out HB.out (-1) (fun h => .inr h), by simpa [i64s] using O3.out, by simpa [i64s] using O4.out, APM.out, G.out⟩
     case measure => simp [intOf]; omega
  ·have j1 : ¬ (j : Int) < (n : Int) := by omega
   obtain rfl : j = n := by omega
   have XR := hid (H.out.below G.out)
   have SS : Hid (Stp (fun c => c = k + 6) o (scr o w.heap.size 0) w wr) := hid ⟨Frm.of_below G.out, scr_agr _ _ _⟩
   have UL : Hid (∀ y ∈ usN ml ml.length, ∃ (i : Nat) (q : PathV), y = (i : Int) ∧ x.ps[i]? = some q ∧ usB w q = true) := hid (fun y hy => by
    obtain ⟨h1, h2, h3⟩ := (usN_mem ml ml.length y).1 hy
    have hl := CH.out.l
    have hlt : y.toNat < x.ps.length := by have := HN.out; omega
    exact ⟨y.toNat, x.ps[y.toNat], by omega, List.getElem?_eq_getElem hlt, CH.out.m _ _ (List.getElem?_eq_getElem hlt) (by omega) h3⟩)
   cases fr
   ·go_wp2_with fail
    go_ret
    exact ⟨_, al, rfl, O4.out, by omega, CH.out.a, (fun ha => CH.out.n (by rw [List.take_of_length_le (by have := HN.out; omega)]; exact ha)), H.out.put6 SS.out ⟨XR.out.c6.r, (SS.out.ag _ H.out.c6.r.lt).trans H.out.c6.ow, H.out.c6.ge⟩, SS.out⟩
   ·obtain ⟨kd, la, hck⟩ := XR.out.c6.r
    have c16 := XR.out.blk.cell 16
    simp only [gA, gZ, gC] at c16
    have HCK := hid hck
    have gsl := (H.out.c6.r).lt
    clear hck
    go_wp2_with fail
    refine (refpick_any _ j ml x.gs kd la (la + 1) wr (Sl.of_own O3.out (i64s_one ml)) HCK.out (by omega) rfl (fun y hy => by have := (O3.out.lt y hy).1; omega) _ _ rfl rfl).mono ?_
    rintro e w2 ⟨v, rfl, hv, hr, hf⟩
    go_wp2_with fail
    go_ret
    have SS2 : Stp (fun c => c = k + 6) o (scr o w.heap.size 0) w w2 := ⟨SS.out.f.trans (hf.mono (fun y hy => by rw [hy]; exact H.out.c6.ow)), scr_agr _ _ _⟩
    have hml := CH.out.l
    refine ⟨v, _, rfl, own_base hv G.out.size, pk_len _ _ _ 3 (by omega) (by omega), fun y hy => UL.out y (pk_mem _ _ _ y hy), fun _ => pk_ne _ _ _ (fun e => ?_), H.out.put6 SS2 ⟨⟨_, _, hr⟩, (SS2.ag _ H.out.c6.r.lt).trans H.out.c6.ow, H.out.c6.ge⟩, SS2⟩
    obtain ⟨i, hi, hm⟩ := CH.out.f rfl
    have := (usN_mem ml ml.length (i : Int)).2 ⟨by omega, by omega, by simpa using hm⟩
    rw [e] at this
    cases this
end

section
attribute [local go_sem] run_max2' run_min2' run_max_ run_min_ run_min3_
def PieceR (w : World) (m : Nat) (e : Ending) (w' : World) : Prop := ∃ v' l q, e = .returned (.tuple #[v', .bool q]) ∧ BO w.heap.size w' v' l ∧ l.length ≤ m ∧ Below w.heap.size w w'
set_option maxHeartbeats 8000000 in
set_option maxRecDepth 100000 in
theorem piece_any (w : World) (S : Nat → Prop) (g : Nat) (bu ac : Int) (A : Option Addr) (c : Nat) (ob : List Int) (cl : Bool) (f t : Int)
  (h : ObC w g bu ac A ob.length c cl) (ho : BV w S (.slice A ob.length c) ob) (hn : ob.length ≤ 4096) :
  Calls Tryz.prog 111 #[.pointer (some ⟨g, 0, none⟩), .int .i64 f, .int .i64 t] w fun e w' => PieceR w ob.length e w' := by
 obtain ⟨n, hN⟩ : ∃ n, ob.length = n := ⟨_, rfl⟩
 obtain ⟨_, c_, e_, hbc, _⟩ := ho.len
 injection e_ with e1_ _ e3_
 subst e1_
 subst e3_
 rw [hN] at h ho hn hbc ⊢
 have HN := hid hN
 have H := hid h
 have HO := hid ho
 have HI := hid Tryz.info5
 have c2 := h.cell 2
 have c3 := h.cell 3
 simp only [gA, gZ, gC] at c2 c3
 obtain ⟨p, hp⟩ : ∃ p, placesN n cl = p := ⟨_, rfl⟩
 have hpn : p ≤ n + 1 := by rw [← hp]; unfold placesN; split <;> omega
 have PA : Hid (∀ W, Below w.heap.size w W → Calls Tryz.prog 63 #[.pointer (some ⟨g, 0, none⟩)] W fun e w' => e = .returned (.int .i64 (p : Nat)) ∧ W = w') := hid (fun W hW => hp ▸ places_any W g bu ac A n c cl (H.out.below hW) (by omega))
 clear h ho hN hp
 by_cases h0 : f < 0
 ·go_enter Tryz.func111, Tryz.ntmps111
  go_wp2_with fail
  refine bodyPost_ret (results_two rfl _ _ _) rfl ?_
  exact ⟨_, _, _, rfl, BO.nil _ _, by simp, Below.refl _ _⟩
 by_cases h1 : t < f
 ·go_enter Tryz.func111, Tryz.ntmps111
  go_wp2_with fail
  refine bodyPost_ret (results_two rfl _ _ _) rfl ?_
  exact ⟨_, _, _, rfl, BO.nil _ _, by simp, Below.refl _ _⟩
 by_cases h2 : (p : Int) < t
 ·go_enter Tryz.func111, Tryz.ntmps111
  go_wp2_with fail
  refine (PA.out w (Below.refl _ _)).mono ?_
  rintro e _ ⟨rfl, rfl⟩
  go_wp2_with fail
  refine bodyPost_ret (results_two rfl _ _ _) rfl ?_
  exact ⟨_, _, _, rfl, BO.nil _ _, by simp, Below.refl _ _⟩
 obtain ⟨a, ha, han⟩ : ∃ a : Nat, mn f (n : Int) = (a : Int) ∧ a ≤ n := ⟨(mn f (n : Int)).toNat, by unfold mn; split <;> omega, by unfold mn; split <;> omega⟩
 obtain ⟨b, hb, hbn, hab⟩ : ∃ b : Nat, mn t (n : Int) = (b : Int) ∧ b ≤ n ∧ a ≤ b := ⟨(mn t (n : Int)).toNat, by unfold mn; split <;> omega, by unfold mn; split <;> omega, by unfold mn at ha ⊢; split at ha <;> split <;> omega⟩
 have i0 : (0 : Int) ≤ (a : Int) := by omega
 have i1 : (a : Int) ≤ (b : Int) := by omega
 have i2 : (b : Int) ≤ (c : Int) := by omega
 obtain ⟨q, hq⟩ : ∃ q, (t == (p : Int)) = q := ⟨_, rfl⟩
 obtain ⟨q2, hq2⟩ : ∃ q, decide (f < t) = q := ⟨_, rfl⟩
 obtain ⟨A6, hA6⟩ : ∃ x, (if c = a then A else Option.map (fun x => x.add a) A) = x := ⟨_, rfl⟩
 have HS : Hid (∀ W, Below w.heap.size w W → Sl W 1 (.slice A6 (b - a) (c - a)) (b - a) (((u8s ob).drop a).take (b - a))) := hid (fun W hW => hA6 ▸ Sl.sub1 (t := a) (u := b) (by have := (HO.out.below hW).sl; rw [HN.out] at this; exact this) hab hbn)
 have HA := hid ha
 have HB := hid hb
 have hbm : b - a ≤ 5000 := by omega
 have KE : Hid (∀ W, Below w.heap.size w W → W.cell? ⟨g, 2, none⟩ = some (.slice A n c) ∧ W.cell? ⟨g, 3, none⟩ = some (.bool cl)) := hid (fun W hW => ⟨(H.out.below hW).cell 2, (H.out.below hW).cell 3⟩)
 have G : Hid (Below w.heap.size w w.drew) := hid (Below.refl _ _).drew
 obtain ⟨k2, k3⟩ := KE.out _ G.out
 have sw := G.out.size
 have hlen : ((ob.drop a).take (b - a)).length = b - a := by rw [List.length_take, List.length_drop]; have := HN.out; omega
 have hu8 : u8s ((ob.drop a).take (b - a)) = ((u8s ob).drop a).take (b - a) := by simp [u8s, List.map_take, List.map_drop]
 have hbyt : Byt ((ob.drop a).take (b - a)) := fun x hx => HO.out.byt x (List.mem_of_mem_drop (List.mem_of_mem_take hx))
 have HLEN := hid hlen
 have HU8 := hid hu8
 have HBY := hid hbyt
 clear hlen hu8 hbyt
 cases cl
 ·go_enter Tryz.func111, Tryz.ntmps111
  go_wp2_with fail
  refine (PA.out w (Below.refl _ _)).mono ?_
  rintro e _ ⟨rfl, rfl⟩
  go_wp2_with fail
  refine wp_region_held_drew (S := fun w' => w'.cell? ⟨g, 2, none⟩ = some (.slice A n c) ∧ w'.cell? ⟨g, 3, none⟩ = some (.bool false)) (by kernel_rfl) (KE.out _ G.out) (fun hHeld => ?_)
  refine tk 0 (oi := ⟨some 21, _, _, _, _, _⟩) rfl ?_
  refine tk 1 (oi := ⟨some 22, _, _, _, _, _⟩) rfl ?_
  refine tk 2 (oi := ⟨some 23, _, _, _, _, _⟩) rfl ?_
  refine tk 3 (oi := ⟨some 24, _, _, _, _, _⟩) rfl ?_
  refine tk 4 (oi := ⟨some 25, _, _, _, _, _⟩) rfl ?_
  refine tk 5 (oi := ⟨some 26, _, _, _, _, _⟩) rfl ?_
  refine tk 6 (oi := ⟨some 27, _, _, _, _, _⟩) rfl ?_
  refine tk 7 (oi := ⟨some 28, _, _, _, _, _⟩) rfl ?_
  refine tk 8 (oi := ⟨some 29, _, _, _, _, _⟩) rfl ?_
  refine tk 9 (oi := ⟨some 30, _, _, _, _, _⟩) rfl ?_
  refine tk 10 (oi := ⟨some 31, _, _, _, _, _⟩) rfl ?_
  refine tk 11 (oi := ⟨some 32, _, _, _, _, _⟩) rfl ?_
  refine tk 12 (oi := ⟨some 33, _, _, _, _, _⟩) rfl ?_
  refine tk 13 (oi := ⟨some 34, _, _, _, _, _⟩) rfl ?_
  refine tk 14 (oi := ⟨some 35, _, _, _, _, _⟩) rfl ?_
  refine tk 15 (oi := ⟨some 36, _, _, _, _, _⟩) rfl ?_
  refine tk 16 (oi := ⟨some 37, _, _, _, _, _⟩) rfl ?_
  refine tk 17 (oi := ⟨some 38, _, _, _, _, _⟩) rfl ?_
  refine tk 18 (oi := ⟨some 39, _, _, _, _, _⟩) rfl ?_
  refine tk 20 (oi := ⟨some 41, _, _, _, _, _⟩) rfl ?_
  refine tk 21 (oi := ⟨some 42, _, _, _, _, _⟩) rfl ?_
  refine tk 22 (oi := ⟨some 43, _, _, _, _, _⟩) rfl ?_
  refine tk 23 (oi := ⟨some 44, _, _, _, _, _⟩) rfl ?_
  refine rD 19 (o := ⟨some 40, _, _, _, _, _⟩) rfl (fun K hK => ?_)
  refine step_app (v := .slice none 0 0) w.heap.size (by rfl) _ _ 25 5 (.int .u8 0) 1 1 (by rfl) Tryz.underlying25 HI.out rfl (by omega) (by omega) (by rfl) (by rfl) (World.ownsRow_nil _ _ _ _) (HS.out _ G.out) (by omega) G.out.size ?_
  intro v7 w7 hown hfr hat
  simp only [Nat.zero_add, List.nil_append] at hown
  have g_ : Below w.heap.size w w7 := Frm.below G.out hfr G.out.size (fun g hg => by cases hg)
  clear G
  have G := hid g_
  have O7 := hid hown
  obtain ⟨A7, c7, rfl⟩ := own_slice' hown
  clear hown hfr hat g_
  refine Ko hK (KE.out _ G.out) (fun hHeld => ?_)
  clear hK K
  refine tk 24 (oi := ⟨some 45, _, _, _, _, _⟩) rfl ?_
  refine sk 25 (oi := ⟨some 46, _, _, _, _, _⟩) rfl ?_
  refine sk 26 (oi := ⟨some 47, _, _, _, _, _⟩) rfl ?_
  refine sk 27 (oi := ⟨some 48, _, _, _, _, _⟩) rfl ?_
  refine sk 28 (oi := ⟨some 49, _, _, _, _, _⟩) rfl ?_
  refine tk 29 (oi := ⟨some 50, _, _, _, _, _⟩) rfl ?_
  refine tk 30 (oi := ⟨some 51, _, _, _, _, _⟩) rfl ?_
  refine sk 31 (oi := ⟨some 52, _, _, _, _, _⟩) rfl ?_
  refine sk 32 (oi := ⟨some 53, _, _, _, _, _⟩) rfl ?_
  refine sk 33 (oi := ⟨some 54, _, _, _, _, _⟩) rfl ?_
  refine tk 34 (oi := ⟨some 55, _, _, _, _, _⟩) rfl ?_
  refine tk 35 (oi := ⟨some 6, _, _, _, _, _⟩) rfl ?_
  refine tk 36 (oi := ⟨some 7, _, _, _, _, _⟩) rfl ?_
  refine dn ?_
  all_goals
   go_wp2_with fail
   refine bodyPost_ret (results_two rfl _ _ _) rfl ?_
   exact ⟨_, (ob.drop a).take (b - a), _, rfl, ⟨by rw [HLEN.out, HU8.out]; exact O7.out, HBY.out⟩, by rw [HLEN.out]; omega, G.out⟩
 ·cases q
  ·go_enter Tryz.func111, Tryz.ntmps111
   go_wp2_with fail
   refine (PA.out w (Below.refl _ _)).mono ?_
   rintro e _ ⟨rfl, rfl⟩
   go_wp2_with fail
   refine wp_region_held_drew (S := fun w' => w'.cell? ⟨g, 2, none⟩ = some (.slice A n c) ∧ w'.cell? ⟨g, 3, none⟩ = some (.bool true)) (by kernel_rfl) (KE.out _ G.out) (fun hHeld => ?_)
   refine tk 0 (oi := ⟨some 21, _, _, _, _, _⟩) rfl ?_
   refine tk 1 (oi := ⟨some 22, _, _, _, _, _⟩) rfl ?_
   refine tk 2 (oi := ⟨some 23, _, _, _, _, _⟩) rfl ?_
   refine tk 3 (oi := ⟨some 24, _, _, _, _, _⟩) rfl ?_
   refine tk 4 (oi := ⟨some 25, _, _, _, _, _⟩) rfl ?_
   refine tk 5 (oi := ⟨some 26, _, _, _, _, _⟩) rfl ?_
   refine tk 6 (oi := ⟨some 27, _, _, _, _, _⟩) rfl ?_
   refine tk 7 (oi := ⟨some 28, _, _, _, _, _⟩) rfl ?_
   refine tk 8 (oi := ⟨some 29, _, _, _, _, _⟩) rfl ?_
   refine tk 9 (oi := ⟨some 30, _, _, _, _, _⟩) rfl ?_
   refine tk 10 (oi := ⟨some 31, _, _, _, _, _⟩) rfl ?_
   refine tk 11 (oi := ⟨some 32, _, _, _, _, _⟩) rfl ?_
   refine tk 12 (oi := ⟨some 33, _, _, _, _, _⟩) rfl ?_
   refine tk 13 (oi := ⟨some 34, _, _, _, _, _⟩) rfl ?_
   refine tk 14 (oi := ⟨some 35, _, _, _, _, _⟩) rfl ?_
   refine tk 15 (oi := ⟨some 36, _, _, _, _, _⟩) rfl ?_
   refine tk 16 (oi := ⟨some 37, _, _, _, _, _⟩) rfl ?_
   refine tk 17 (oi := ⟨some 38, _, _, _, _, _⟩) rfl ?_
   refine tk 18 (oi := ⟨some 39, _, _, _, _, _⟩) rfl ?_
   refine tk 20 (oi := ⟨some 41, _, _, _, _, _⟩) rfl ?_
   refine tk 21 (oi := ⟨some 42, _, _, _, _, _⟩) rfl ?_
   refine tk 22 (oi := ⟨some 43, _, _, _, _, _⟩) rfl ?_
   refine tk 23 (oi := ⟨some 44, _, _, _, _, _⟩) rfl ?_
   refine rD 19 (o := ⟨some 40, _, _, _, _, _⟩) rfl (fun K hK => ?_)
   refine step_app (v := .slice none 0 0) w.heap.size (by rfl) _ _ 25 5 (.int .u8 0) 1 1 (by rfl) Tryz.underlying25 HI.out rfl (by omega) (by omega) (by rfl) (by rfl) (World.ownsRow_nil _ _ _ _) (HS.out _ G.out) (by omega) G.out.size ?_
   intro v7 w7 hown hfr hat
   simp only [Nat.zero_add, List.nil_append] at hown
   have g_ : Below w.heap.size w w7 := Frm.below G.out hfr G.out.size (fun g hg => by cases hg)
   clear G
   have G := hid g_
   have O7 := hid hown
   obtain ⟨A7, c7, rfl⟩ := own_slice' hown
   clear hown hfr hat g_
   refine Ko hK (KE.out _ G.out) (fun hHeld => ?_)
   clear hK K
   refine tk 24 (oi := ⟨some 45, _, _, _, _, _⟩) rfl ?_
   refine tk 25 (oi := ⟨some 46, _, _, _, _, _⟩) rfl ?_
   refine tk 26 (oi := ⟨some 47, _, _, _, _, _⟩) rfl ?_
   refine rD 27 (o := ⟨some 48, _, _, _, _, _⟩) rfl (fun K hK => ?_)
   go_simp
   refine (PA.out _ G.out).mono ?_
   rintro e _ ⟨rfl, rfl⟩
   refine Ko hK (KE.out _ G.out) (fun hHeld => ?_)
   clear hK K
   refine tk 28 (oi := ⟨some 49, _, _, _, _, _⟩) rfl ?_
   refine tk 29 (oi := ⟨some 50, _, _, _, _, _⟩) rfl ?_
   refine tk 30 (oi := ⟨some 51, _, _, _, _, _⟩) rfl ?_
   refine sk 31 (oi := ⟨some 52, _, _, _, _, _⟩) rfl ?_
   refine sk 32 (oi := ⟨some 53, _, _, _, _, _⟩) rfl ?_
   refine sk 33 (oi := ⟨some 54, _, _, _, _, _⟩) rfl ?_
   refine tk 34 (oi := ⟨some 55, _, _, _, _, _⟩) rfl ?_
   refine tk 35 (oi := ⟨some 6, _, _, _, _, _⟩) rfl ?_
   refine tk 36 (oi := ⟨some 7, _, _, _, _, _⟩) rfl ?_
   refine dn ?_
   all_goals
    go_wp2_with fail
    refine bodyPost_ret (results_two rfl _ _ _) rfl ?_
    exact ⟨_, (ob.drop a).take (b - a), _, rfl, ⟨by rw [HLEN.out, HU8.out]; exact O7.out, HBY.out⟩, by rw [HLEN.out]; omega, G.out⟩
  ·go_enter Tryz.func111, Tryz.ntmps111
   go_wp2_with fail
   refine (PA.out w (Below.refl _ _)).mono ?_
   rintro e _ ⟨rfl, rfl⟩
   go_wp2_with fail
   refine wp_region_held_drew (S := fun w' => w'.cell? ⟨g, 2, none⟩ = some (.slice A n c) ∧ w'.cell? ⟨g, 3, none⟩ = some (.bool true)) (by kernel_rfl) (KE.out _ G.out) (fun hHeld => ?_)
   refine tk 0 (oi := ⟨some 21, _, _, _, _, _⟩) rfl ?_
   refine tk 1 (oi := ⟨some 22, _, _, _, _, _⟩) rfl ?_
   refine tk 2 (oi := ⟨some 23, _, _, _, _, _⟩) rfl ?_
   refine tk 3 (oi := ⟨some 24, _, _, _, _, _⟩) rfl ?_
   refine tk 4 (oi := ⟨some 25, _, _, _, _, _⟩) rfl ?_
   refine tk 5 (oi := ⟨some 26, _, _, _, _, _⟩) rfl ?_
   refine tk 6 (oi := ⟨some 27, _, _, _, _, _⟩) rfl ?_
   refine tk 7 (oi := ⟨some 28, _, _, _, _, _⟩) rfl ?_
   refine tk 8 (oi := ⟨some 29, _, _, _, _, _⟩) rfl ?_
   refine tk 9 (oi := ⟨some 30, _, _, _, _, _⟩) rfl ?_
   refine tk 10 (oi := ⟨some 31, _, _, _, _, _⟩) rfl ?_
   refine tk 11 (oi := ⟨some 32, _, _, _, _, _⟩) rfl ?_
   refine tk 12 (oi := ⟨some 33, _, _, _, _, _⟩) rfl ?_
   refine tk 13 (oi := ⟨some 34, _, _, _, _, _⟩) rfl ?_
   refine tk 14 (oi := ⟨some 35, _, _, _, _, _⟩) rfl ?_
   refine tk 15 (oi := ⟨some 36, _, _, _, _, _⟩) rfl ?_
   refine tk 16 (oi := ⟨some 37, _, _, _, _, _⟩) rfl ?_
   refine tk 17 (oi := ⟨some 38, _, _, _, _, _⟩) rfl ?_
   refine tk 18 (oi := ⟨some 39, _, _, _, _, _⟩) rfl ?_
   refine tk 20 (oi := ⟨some 41, _, _, _, _, _⟩) rfl ?_
   refine tk 21 (oi := ⟨some 42, _, _, _, _, _⟩) rfl ?_
   refine tk 22 (oi := ⟨some 43, _, _, _, _, _⟩) rfl ?_
   refine tk 23 (oi := ⟨some 44, _, _, _, _, _⟩) rfl ?_
   refine rD 19 (o := ⟨some 40, _, _, _, _, _⟩) rfl (fun K hK => ?_)
   refine step_app (v := .slice none 0 0) w.heap.size (by rfl) _ _ 25 5 (.int .u8 0) 1 1 (by rfl) Tryz.underlying25 HI.out rfl (by omega) (by omega) (by rfl) (by rfl) (World.ownsRow_nil _ _ _ _) (HS.out _ G.out) (by omega) G.out.size ?_
   intro v7 w7 hown hfr hat
   simp only [Nat.zero_add, List.nil_append] at hown
   have g_ : Below w.heap.size w w7 := Frm.below G.out hfr G.out.size (fun g hg => by cases hg)
   clear G
   have G := hid g_
   have O7 := hid hown
   obtain ⟨A7, c7, rfl⟩ := own_slice' hown
   clear hown hfr hat g_
   refine Ko hK (KE.out _ G.out) (fun hHeld => ?_)
   clear hK K
   refine tk 24 (oi := ⟨some 45, _, _, _, _, _⟩) rfl ?_
   refine tk 25 (oi := ⟨some 46, _, _, _, _, _⟩) rfl ?_
   refine tk 26 (oi := ⟨some 47, _, _, _, _, _⟩) rfl ?_
   refine rD 27 (o := ⟨some 48, _, _, _, _, _⟩) rfl (fun K hK => ?_)
   go_simp
   refine (PA.out _ G.out).mono ?_
   rintro e _ ⟨rfl, rfl⟩
   refine Ko hK (KE.out _ G.out) (fun hHeld => ?_)
   clear hK K
   refine tk 28 (oi := ⟨some 49, _, _, _, _, _⟩) rfl ?_
   refine tk 29 (oi := ⟨some 50, _, _, _, _, _⟩) rfl ?_
   refine tk 30 (oi := ⟨some 51, _, _, _, _, _⟩) rfl ?_
   refine tk 31 (oi := ⟨some 52, _, _, _, _, _⟩) rfl ?_
   refine tk 32 (oi := ⟨some 53, _, _, _, _, _⟩) rfl ?_
   refine tk 33 (oi := ⟨some 54, _, _, _, _, _⟩) rfl ?_
   refine tk 34 (oi := ⟨some 55, _, _, _, _, _⟩) rfl ?_
   refine tk 35 (oi := ⟨some 6, _, _, _, _, _⟩) rfl ?_
   refine tk 36 (oi := ⟨some 7, _, _, _, _, _⟩) rfl ?_
   refine dn ?_
   all_goals
    go_wp2_with fail
    refine bodyPost_ret (results_two rfl _ _ _) rfl ?_
    exact ⟨_, (ob.drop a).take (b - a), _, rfl, ⟨by rw [HLEN.out, HU8.out]; exact O7.out, HBY.out⟩, by rw [HLEN.out]; omega, G.out⟩
end
end Go.Proofs.YtdneakejlbabeaaGreat
