/- Parts of the walk: Kc, Kd, Es. -/
import Derived.Test.YtdneakejlbabeaaGreatM00
import Derived.Deep.RegionLaw
import Derived.Test.YtdneakejlbabeaaGreatM21
import Derived.Test.YtdneakejlbabeaaGreatM18
namespace Go.Proofs.YtdneakejlbabeaaGreat
open Go.RowKit
set_option linter.unusedVariables false
set_option linter.unusedSimpArgs false
section
section
variable {α β : Type} {f : α → β → List Value} {k : Nat}
theorem rowsG_take (hf : ∀ a b, (f a b).length = k) : ∀ (l : List α) (vs : List β) (i : Nat), vs.length = l.length → i ≤ l.length → (rowsG f l vs).take (i * k) = rowsG f (l.take i) (vs.take i)
 | l, vs, 0, _, _ => by simp [rowsG]
 | [], vs, i + 1, _, h => by simp at h
 | a :: l, [], i + 1, h, _ => by simp at h
 | a :: l, b :: vs, i + 1, h, hi => by
  simp only [rowsG, List.take_succ_cons]
  rw [List.take_append, hf, show (i + 1) * k - k = i * k from by rw [Nat.add_mul]; omega, rowsG_take hf l vs i (by simpa using h) (by simpa using hi), List.take_of_length_le (by rw [hf, Nat.add_mul]; omega)]
theorem rowsG_drop (hf : ∀ a b, (f a b).length = k) : ∀ (l : List α) (vs : List β) (i : Nat), vs.length = l.length → i ≤ l.length → (rowsG f l vs).drop (i * k) = rowsG f (l.drop i) (vs.drop i)
 | l, vs, 0, _, _ => by simp
 | [], vs, i + 1, _, h => by simp at h
 | a :: l, [], i + 1, h, _ => by simp at h
 | a :: l, b :: vs, i + 1, h, hi => by
  simp only [rowsG, List.drop_succ_cons]
  rw [List.drop_append, hf, show (i + 1) * k - k = i * k from by rw [Nat.add_mul]; omega, rowsG_drop hf l vs i (by simpa using h) (by simpa using hi), List.drop_of_length_le (by rw [hf, Nat.add_mul]; omega), List.nil_append]
end
theorem BV.stpK {C : Nat → Prop} {o o' : Nat → Nat} {w w' : World} {v : Value} {l : List Int} (h : BV w (frozen o) v l) (s : Stp C o o' w w') (h0 : ¬ C 0) : BV w' (frozen o') v l :=
 ((h.mono (S' := fun j => frozen o j ∧ j < w.heap.size) (fun j hj hl => ⟨hj, hl⟩)).frm s.f (fun j hj e => h0 (by have h1 : o j = 0 := hj.1; rw [h1] at e; exact e))).mono (fun j hj _ => frozen_ag s.ag j hj.1 hj.2)
/-- The row of a side is another one. -/
def NSet (o : Nat → Nat) (B : Nat) (w : World) (gd : Nat) (s : Bool) (l : List By2) (w' : World) : Prop :=
 ∃ (o' : Nat → Nat) (v : Value), Stp (fun c => c = 300 ∨ c = 302 + sN s) o o' w w' ∧ CellSet w w' gd (2 + sN s) v ∧ BRw o' B w' v l ∧ Ow o' w' (302 + sN s) v
def NTakeR (o : Nat → Nat) (B : Nat) (w : World) (gd : Nat) (s : Bool) (l : List By2) (at_ : Int) (e : Ending) (w' : World) : Prop :=
 (¬ (0 ≤ at_ ∧ at_ < (l.length : Int)) ∧ e = .returned (.tuple #[.slice none 0 0, .bool false]) ∧ w = w') ∨
 ∃ (i : Nat) (y : By2) (v : Value), at_ = (i : Int) ∧ l[i]? = some y ∧ BV w (frozen o) v y.1 ∧ e = .returned (.tuple #[v, .bool true]) ∧ NSet o B w gd s (l.take i ++ l.drop (i + 1)) w'
theorem take_set {o : Nat → Nat} {B : Nat} {w w8 : World} {gd : Nat} {s : Bool} {l : List By2} {vs : List Value} {v8 : Value} (og : o gd = 300) (hg : gd < w.heap.size) (hB : B ≤ w.heap.size) (h2 : vs.length = l.length) (h3 : ∀ (i : Nat) (a : By2) (b : Value), l[i]? = some a → vs[i]? = some b → BV w (frozen o) b a.1)
  (hb : Below w.heap.size w w8) {n : Nat} (hn : n = l.length) (ho : w8.ownsRow w.heap.size 149 2 v8 n (rowsG bcells l vs)) : NSet o B w gd s l (w8.setCell ⟨gd, 2 + sN s, none⟩ v8) := by
 subst hn
 have f1 : Frm (· = gd) w (w8.setCell ⟨gd, 2 + sN s, none⟩ v8) := (Frm.of_below (S := (· = gd)) hb).setg (i := 2 + sN s) v8
 have st : Stp (fun c => c = 300 ∨ c = 302 + sN s) o (scr o w.heap.size (302 + sN s)) w (w8.setCell ⟨gd, 2 + sN s, none⟩ v8) := ⟨f1.mono (fun j hj => .inl (by rw [hj]; exact og)), scr_agr _ _ _⟩
 have hge : ∀ j, v8.ownBlock = some j → w.heap.size ≤ j := fun j hj => (ho.lt j hj).1
 refine ⟨scr o w.heap.size (302 + sN s), v8, st, fun cs t hbk => (hbk.below hb).set _ _, ⟨vs, own_base (own_frm ho ((Frm.refl (· = gd) w8).setg (i := 2 + sN s) v8) (fun j hj e => by have := hge j hj; omega)) hB, h2, fun i a b ha hb' => BV.stpK (h3 i a b ha hb') st (by omega), fun j hj hf => ?_⟩, fun j hj => ⟨scr_new (hge j hj), Nat.lt_of_lt_of_le (ho.lt j hj).2 ((Frm.refl (· = gd) w8).setg (i := 2 + sN s) v8).size⟩⟩
 have h5 : scr o w.heap.size (302 + sN s) j = 0 := hf
 rw [scr_new (hge j hj)] at h5
 omega
set_option maxHeartbeats 8000000 in
set_option maxRecDepth 100000 in
theorem ntake_any (w : World) (gd : Nat) (o : Nat → Nat) (B : Nat) (V : Bool → Value) (L : Bool → List By2) (s : Bool) (at_ : Int) (c0 : w.cell? ⟨gd, 2, none⟩ = some (V false)) (c1 : w.cell? ⟨gd, 3, none⟩ = some (V true)) (fr : ∀ i, w.frozen? ⟨gd, i, none⟩ = false) (h : ∀ s, BRw o B w (V s) (L s)) (og : o gd = 300) (hB : B ≤ w.heap.size) (hl : (L s).length ≤ 100000000) :
  Calls Tryz.prog 45 #[.pointer (some ⟨gd, 2, none⟩), .int .i64 (sI s), .int .i64 at_] w fun e w' => NTakeR o B w gd s (L s) at_ e w' := by
 have T := hid (nget_any w gd o B V L s at_ c0 c1 h)
 have HI := hid Tryz.info149
 have hgs := World.block_lt_of_cell? w _ c0
 simp only at hgs
 obtain ⟨A, c, e⟩ := (h s).form
 obtain ⟨vs, r1, r2, r3, r4⟩ := h s
 have R2 := hid r2
 have R3 := hid r3
 have RS : Hid (Sl w 2 (.slice A (L s).length c) (L s).length (rowsG bcells (L s) vs)) := hid (by rw [← e]; exact Sl.of_own r1 (rowsG_all _ _ vs (fun i a b ha hb => bcells_one (r3 i a b ha hb))))
 obtain ⟨l, hll⟩ : ∃ l, L s = l := ⟨_, rfl⟩
 rw [hll] at hl e T R2 R3 RS ⊢
 have hlc : l.length ≤ c := by
  obtain ⟨A', c', e', h1, h2⟩ := RS.out.len
  injection e' with x1 x2 x3
  rw [x3]
  exact h1
 have OG := hid og
 have CC : Hid (∀ (W : World), Below w.heap.size w W → W.cell? ⟨gd, 2 + sN s, none⟩ = some (.slice A l.length c) ∧ W.frozen? ⟨gd, 2 + sN s, none⟩ = false) := hid (fun W hW => ⟨(hW.cell (p := ⟨gd, 2 + sN s, none⟩) hgs).trans (by cases s with | false => exact c0.trans (congrArg some e) | true => exact c1.trans (congrArg some e)), (hW.frozen (p := ⟨gd, 2 + sN s, none⟩) hgs).trans (fr _)⟩)
 have hgsH := hid hgs
 clear h r1 r2 r3 r4 e og hll c0 c1 fr
 by_cases hin : 0 ≤ at_ ∧ at_ < (l.length : Int)
 ·obtain ⟨a0, a1⟩ := hin
  cases s
  all_goals
   unfold sI at *
   go_enter Tryz.func45, Tryz.ntmps45
   go_wp2_with fail
   refine T.out.mono ?_
   rintro e _ ⟨rfl, (⟨i, y, v, rfl, hy, hbv, rfl⟩ | ⟨hn, _⟩)⟩
   case inr => exact absurd ⟨a0, a1⟩ hn
   obtain ⟨Av, cv, rfl, _, _⟩ := hbv.len
   have HY := hid hy
   have HV := hid hbv
   have hi : i < l.length := (List.getElem?_eq_some_iff.1 hy).1
   clear hy hbv T
   obtain ⟨ad, rfl⟩ : ∃ ad, A = some ad := by
    obtain ⟨A', c', e, _, _, hl2, _, hr⟩ := RS.out
    injection e with e1 e2 e3
    subst e1
    obtain ⟨ad, e, _⟩ := hr (by omega)
    exact ⟨ad, e⟩
   have i2 : (i : Int) ≤ (c : Int) := by omega
   have i3 : (i : Int) + 1 ≤ (l.length : Int) := by omega
   have i4 : (0 : Int) ≤ (i : Int) + 1 := by omega
   have i5 : (l.length : Int) ≤ (c : Int) := by omega
   have iwj : IntKind.i64.wrap ((i : Int) + 1) = (i : Int) + 1 := iX
   obtain ⟨A9, hA9⟩ : ∃ x, (if c = i + 1 then (some ad) else some (ad.add ((i + 1) * 2))) = x := ⟨_, rfl⟩
   have HS1 : Hid (∀ W, Below w.heap.size w W → Sl W 2 (.slice (some ad) i c) i (rowsG bcells (l.take i) (vs.take i))) := hid (fun W hW => by
    have h := Sl.sub (t := 0) (u := i) (RS.out.below hW) (Nat.zero_le _) (by omega)
    simp only [Nat.sub_zero, Nat.zero_mul, List.drop_zero] at h
    rw [← rowsG_take bcells_len l vs i R2.out (by omega)]
    have ha : (if c = 0 then (some ad) else Option.map (fun x => x.add 0) (some ad)) = some ad := by simp [addr_zero]
    rw [ha] at h
    exact h)
   have HS2 : Hid (∀ W, Below w.heap.size w W → Sl W 2 (.slice A9 (l.length - (i + 1)) (c - (i + 1))) (l.length - (i + 1)) (rowsG bcells (l.drop (i + 1)) (vs.drop (i + 1)))) := hid (fun W hW => by
    have h := Sl.sub (t := i + 1) (u := l.length) (RS.out.below hW) (by omega) (Nat.le_refl _)
    rw [Option.map_some, hA9, rowsG_drop bcells_len l vs _ R2.out (by omega), List.take_of_length_le (by rw [rowsG_length bcells_len _ _ (by rw [List.length_drop, List.length_drop, R2.out]), List.length_drop]; exact Nat.le_refl _)] at h
    exact h)
   have FIN : Hid (∀ v8 w8, Below w.heap.size w w8 → w8.ownsRow w.heap.size 149 2 v8 (i + (l.length - (i + 1))) (rowsG bcells (l.take i) (vs.take i) ++ rowsG bcells (l.drop (i + 1)) (vs.drop (i + 1))) → ∀ s', NSet o B w gd s' (l.take i ++ l.drop (i + 1)) (w8.setCell ⟨gd, 2 + sN s', none⟩ v8)) := hid (fun v8 w8 hb ho s' => by
    refine take_set (vs := vs.take i ++ vs.drop (i + 1)) OG.out hgs hB (by rw [List.length_append, List.length_append, List.length_take, List.length_take, List.length_drop, List.length_drop, R2.out]) (fun j a b ha hb' => ?_) hb (n := i + (l.length - (i + 1))) (by rw [List.length_append, List.length_take, List.length_drop]; omega) (by rw [rowsG_append _ _ _ _ (by rw [List.length_take, List.length_take, R2.out])]; exact ho)
    by_cases hj : j < i
    ·rw [List.getElem?_append_left (by rw [List.length_take]; omega), List.getElem?_take, if_pos hj] at ha
     rw [List.getElem?_append_left (by rw [List.length_take, R2.out]; omega), List.getElem?_take, if_pos hj] at hb'
     exact R3.out j a b ha hb'
    ·rw [List.getElem?_append_right (by rw [List.length_take]; omega), List.getElem?_drop] at ha
     rw [List.getElem?_append_right (by rw [List.length_take, R2.out]; omega), List.getElem?_drop] at hb'
     rw [List.length_take, show min i l.length = i from by omega] at ha
     rw [List.length_take, R2.out, show min i l.length = i from by omega] at hb'
     exact R3.out _ a b ha hb')
   have G : Hid (Below w.heap.size w w.drew) := hid (Below.refl _ _).drew
   obtain ⟨k2, k3⟩ := CC.out _ G.out
   have k2' : w.cell? _ = _ := k2
   simp only [sN, if_true, Bool.false_eq_true, if_false, Nat.add_zero, Nat.reduceAdd] at k2 k3 k2'
   go_wp2_with fail
   first | (go_region_law (first | (refine step_app (v := .slice none 0 0) w.heap.size (by rfl) _ _ 81 149 _ 2 32 (by rfl) Tryz.underlying81 HI.out rfl (by omega) (by omega) (by rfl) (by rfl) (World.ownsRow_nil _ _ _ _) (HS1.out _ G.out) (by omega) G.out.size ?_; intro v7 w7 hown hfr hat; simp only [Nat.zero_add, List.nil_append] at hown; have g_ : Below w.heap.size w w7 := Frm.below G.out hfr G.out.size (fun g hg => by cases hg); clear G; have G := hid g_; have O7 := hid hown; obtain ⟨A7, c7, rfl⟩ := own_slice' hown; clear hown hfr hat g_; obtain ⟨k2_, k3_⟩ := CC.out _ G.out; simp only [sN, if_true, Bool.false_eq_true, if_false, Nat.add_zero, Nat.reduceAdd] at k2_ k3_) | (refine step_app (v := .slice A7 i c7) w.heap.size (by rfl) _ _ 81 149 _ 2 32 (by rfl) Tryz.underlying81 HI.out rfl (by omega) (by omega) (by rfl) (by rfl) O7.out (HS2.out _ G.out) (by omega) G.out.size ?_; intro v8 w8 hown hfr hat; have g_ : Below w.heap.size w w8 := Frm.below G.out hfr G.out.size (fun g hg => (O7.out.lt g hg).1); clear G; have G := hid g_; have O8 := hid hown; obtain ⟨A8, c8, rfl⟩ := own_slice' hown; clear hown hfr hat g_; obtain ⟨k4_, k5_⟩ := CC.out _ G.out; simp only [sN, if_true, Bool.false_eq_true, if_false, Nat.add_zero, Nat.reduceAdd] at k4_ k5_))) | fail
   all_goals
    go_wp2_with fail
    refine bodyPost_ret (results_two rfl _ _ _) rfl ?_
    exact .inr ⟨i, y, _, rfl, HY.out, HV.out, rfl, FIN.out _ _ G.out O8.out _⟩
 ·have FIN : Hid (∀ v w', NGetR o w l at_ (.returned (.tuple #[v, .bool true])) w' → False) := hid (fun v w' h => by
   obtain ⟨_, (⟨i, y, v, rfl, hy, _⟩ | ⟨_, h⟩)⟩ := h
   ·have := (List.getElem?_eq_some_iff.1 hy).1
    omega
   ·cases h)
  go_enter Tryz.func45, Tryz.ntmps45
  go_wp2_with fail
  refine T.out.mono ?_
  rintro e _ ⟨rfl, (⟨i, y, v, rfl, hy, _⟩ | ⟨hn, rfl⟩)⟩
  ·have := (List.getElem?_eq_some_iff.1 hy).1
   omega
  go_wp2_with fail
  refine bodyPost_ret (results_two rfl _ _ _) rfl ?_
  exact .inl ⟨hn, rfl, rfl⟩
end

section
theorem push_set {o : Nat → Nat} {B : Nat} {w w7 : World} {gd : Nat} {s : Bool} {l : List By2} {vs : List Value} {v v7 : Value} {a : By2} {b : Value} (og : o gd = 300) (hg : gd < w.heap.size) (ow : Ow o w (302 + sN s) v) (h1 : w.ownsRow B 149 2 v l.length (rowsG bcells l vs)) (h2 : vs.length = l.length) (h3 : ∀ (i : Nat) (a : By2) (b : Value), l[i]? = some a → vs[i]? = some b → BV w (frozen o) b a.1)
  (hx : BV w (frozen o) b a.1) (hfr : Frm (fun j => v.ownBlock = some j) w w7) (hown : w7.ownsRow B 149 2 v7 (l.length + 1) (rowsG bcells l vs ++ bcells a b)) (hat : v7.ownBlock = v.ownBlock ∨ ∀ j, v7.ownBlock = some j → w.heap.size ≤ j) : NSet o B w gd s (l ++ [a]) (w7.setCell ⟨gd, 2 + sN s, none⟩ v7) := by
 obtain ⟨p1, p2⟩ := OutG.push liesB h1 h2 h3 ow (by omega) hx hfr hown hat
 have f8 := (Frm.refl (· = gd) w7).setg (i := 2 + sN s) v7
 have hvg : ¬ v.ownBlock = some gd := fun e => by have := (ow gd e).1; omega
 have hne : ∀ j, v7.ownBlock = some j → j ≠ gd := fun j hj e => by
  have h1 := (p2 j hj).1
  rw [e, ext_agr o _ v7 _ gd hg] at h1
  omega
 refine ⟨ext o w.heap.size v7 (302 + sN s), v7, ⟨(hfr.mono (fun j hj => .inr (ow j hj).1)).setCell (.inl (.inl og)) v7, ext_agr _ _ _ _⟩, fun cs t hbk => (hbk.frm hfr hvg).set _ _, OutG.frm liesB p1 f8 (fun j hj e => ?_) hne, fun j hj => ⟨(p2 j hj).1, Nat.lt_of_lt_of_le (p2 j hj).2 f8.size⟩⟩
 have h1 : ext o w.heap.size v7 (302 + sN s) j = 0 := hj
 rw [e, ext_agr o _ v7 _ gd hg] at h1
 omega
def NAgainR (o : Nat → Nat) (B : Nat) (w : World) (gd : Nat) (s : Bool) (l : List By2) (e : Ending) (w' : World) : Prop :=
 ∃ q : Bool, e = .returned (.bool q) ∧ (w = w' ∨ ∃ (i : Nat) (y : By2), l[i]? = some y ∧ l.length < 200 ∧ NSet o B w gd s (l ++ [y]) w')
set_option maxHeartbeats 8000000 in
set_option maxRecDepth 100000 in
theorem nagain_any (w : World) (gd : Nat) (o : Nat → Nat) (B : Nat) (V : Bool → Value) (L : Bool → List By2) (s : Bool) (at_ : Int) (c0 : w.cell? ⟨gd, 2, none⟩ = some (V false)) (c1 : w.cell? ⟨gd, 3, none⟩ = some (V true)) (fr : ∀ i, w.frozen? ⟨gd, i, none⟩ = false) (h : ∀ s, BRw o B w (V s) (L s)) (ow : Ow o w (302 + sN s) (V s)) (og : o gd = 300) (hB : B ≤ w.heap.size) :
  Calls Tryz.prog 48 #[.pointer (some ⟨gd, 2, none⟩), .int .i64 (sI s), .int .i64 at_] w fun e w' => NAgainR o B w gd s (L s) e w' := by
 have T := hid (thereS_any w gd o B V L s at_ c0 c1 h)
 have HI := hid Tryz.info149
 have hgs := World.block_lt_of_cell? w _ c0
 simp only at hgs
 obtain ⟨A, c, e⟩ := (h s).form
 obtain ⟨vs, r1, r2, r3, r4⟩ := h s
 have R1 : Hid (w.ownsRow B 149 2 (.slice A (L s).length c) (L s).length (rowsG bcells (L s) vs)) := hid (e ▸ r1)
 have R2 := hid r2
 have R3 := hid r3
 have OW : Hid (Ow o w (302 + sN s) (.slice A (L s).length c)) := hid (e ▸ ow)
 have NR := hid (e ▸ h s)
 obtain ⟨l, hll⟩ : ∃ l, L s = l := ⟨_, rfl⟩
 rw [hll] at e T R1 R2 R3 OW NR ⊢
 have OG := hid og
 have hgn : Hid (¬ (Value.slice A l.length c).ownBlock = some gd) := hid (fun e => by have := (OW.out gd e).1; omega)
 have CC : Hid (∀ (W : World), W.heap[gd]? = w.heap[gd]? → W.cell? ⟨gd, 2 + sN s, none⟩ = some (.slice A l.length c) ∧ W.frozen? ⟨gd, 2 + sN s, none⟩ = false) := hid (fun W hW => ⟨(show W.cell? ⟨gd, 2 + sN s, none⟩ = w.cell? ⟨gd, 2 + sN s, none⟩ from World.cell?_of_block hW).trans (by cases s with | false => exact c0.trans (congrArg some e) | true => exact c1.trans (congrArg some e)), (show W.frozen? ⟨gd, 2 + sN s, none⟩ = w.frozen? ⟨gd, 2 + sN s, none⟩ from World.frozen?_of_block hW).trans (fr _)⟩)
 clear h r1 r2 r3 r4 e og hll c0 c1 fr ow
 by_cases hin : 0 ≤ at_ ∧ at_ < (l.length : Int)
 ·obtain ⟨a0, a1⟩ := hin
  obtain ⟨i, rfl⟩ : ∃ i : Nat, at_ = (i : Int) := ⟨at_.toNat, by omega⟩
  rw [decide_eq_true (by exact ⟨a0, a1⟩)] at T
  obtain ⟨ad, y, v, rfl, hy, hx, h0, h1⟩ := BRw.at_ NR.out (i := i) (by omega)
  have HY := hid hy
  have HX := hid hx
  clear hy
  obtain ⟨y1, y2⟩ := y
  dsimp only at h1
  obtain ⟨Av, cv, rfl, _, _⟩ := hx.len
  have hone := hid (bcells_one (y := (y1, y2)) HX.out)
  clear hx
  by_cases h200 : l.length < 200
  ·have i6 : (l.length : Int) < 200 := by omega
   cases s
   all_goals
    unfold sI at *
    have k2 := (CC.out w rfl).1
    simp only [sN, if_true, Bool.false_eq_true, if_false, Nat.add_zero, Nat.reduceAdd] at k2
    have k2b := fun o => cell_in_alloc' k2 o
    have k2c := fun o => cell_in_alloc' (show w.drew.cell? _ = _ from k2) o
    have h0b := fun o => cell_in_alloc' h0 o
    have h0c := fun o => cell_in_alloc' (show w.drew.cell? _ = _ from h0) o
    have h1b := fun o => cell_in_alloc' h1 o
    have h1c := fun o => cell_in_alloc' (show w.drew.cell? _ = _ from h1) o
    go_enter Tryz.func48, Tryz.ntmps48
    go_wp2_with fail
    refine T.out.mono ?_
    rintro e _ ⟨rfl, rfl⟩
    go_wp2_with fail
    first | (go_region_law (first | (refine step_app (v := .slice (some ad) l.length c) B (by rfl) _ _ 81 149 _ 2 32 (by rfl) Tryz.underlying81 HI.out rfl (by omega) (by omega) (by rfl) (by rfl) ((show w.drew.ownsRow B 149 2 _ _ _ from R1.out).alloc _) (Sl.boxk w.drew 149 2 (bcells (y1, y2) (.slice Av y1.length cv)) _ (by simp) rfl hone.out) (by omega) (Nat.le_trans hB (by simp)) ?_; intro v7 w7 hown hfr hat; have F7 : Hid (Frm (fun j => (Value.slice (some ad) l.length c).ownBlock = some j) w w7) := hid ((((Frm.refl _ w).drew).alloc _).trans hfr); have O7 := hid hown; have HAT : Hid (v7.ownBlock = (Value.slice (some ad) l.length c).ownBlock ∨ ∀ j, v7.ownBlock = some j → w.heap.size ≤ j) := hid (hat.imp id (fun e j hj => by rw [e] at hj; injection hj with hj; rw [← hj]; simp)); obtain ⟨e17, g17⟩ := CC.out w7 (F7.out.block gd hgs hgn.out); simp only [sN, if_true, Bool.false_eq_true, if_false, Nat.add_zero, Nat.reduceAdd] at e17 g17; obtain ⟨A7, c7_, rfl⟩ := own_slice' hown; clear hown hfr hat) | fail)) | fail
    all_goals
     go_wp2_with fail
     go_ret
     exact ⟨_, rfl, .inr ⟨i, (y1, y2), HY.out, h200, push_set OG.out hgs OW.out R1.out R2.out R3.out HX.out F7.out O7.out HAT.out⟩⟩
  ·have i6 : ¬ (l.length : Int) < 200 := by omega
   cases s
   all_goals
    unfold sI at *
    have k2 := (CC.out w rfl).1
    simp only [sN, if_true, Bool.false_eq_true, if_false, Nat.add_zero, Nat.reduceAdd] at k2
    go_enter Tryz.func48, Tryz.ntmps48
    go_wp2_with fail
    refine T.out.mono ?_
    rintro e _ ⟨rfl, rfl⟩
    go_wp2_with fail
    go_ret
    exact ⟨_, rfl, .inl rfl⟩
 ·rw [decide_eq_false hin] at T
  clear hin
  go_enter Tryz.func48, Tryz.ntmps48
  go_wp2_with fail
  refine T.out.mono ?_
  rintro e _ ⟨rfl, rfl⟩
  go_wp2_with fail
  go_ret
  exact ⟨_, rfl, .inl rfl⟩
end

section
attribute [local go_sem] run_max2' run_min2' run_max_ run_min_
def flipI (l : List Int) (p : Nat) : List Int := l.set (p / 8) (bits .xor .u8 (l.getD (p / 8) 0) ((2 : Int) ^ (p % 8) % 256))
def spI (bit mask : Int) (l : List Int) : Nat → List Int
 | 0 => l
 | k + 1 => if (bits .and .u32 (mask / 2 ^ k) 1 == 1) = true ∧ 0 ≤ bit + k ∧ bit + k < 8 * (l.length : Int) then flipI (spI bit mask l k) (bit + k).toNat else spI bit mask l k
def spoilL (bit mask : Int) (l : List Int) : List Int := if bit < -32 ∨ 8 * (l.length : Int) < bit then l else spI bit mask l 32
theorem spI_len (bit mask : Int) (l : List Int) : ∀ k, (spI bit mask l k).length = l.length
 | 0 => rfl
 | k + 1 => by
  unfold spI
  split
  ·unfold flipI; rw [List.length_set]; exact spI_len bit mask l k
  ·exact spI_len bit mask l k
theorem spoilL_len (bit mask : Int) (l : List Int) : (spoilL bit mask l).length = l.length := by
 unfold spoilL
 split
 ·rfl
 ·exact spI_len _ _ _ _
theorem two_pow_mod (r : Nat) (hr : r < 8) : ((2 : Int) ^ r % 256) = ((2 ^ r : Nat) : Int) := by
 have h : (2 : Nat) ^ r < 2 ^ 8 := Nat.pow_lt_pow_right (by omega) hr
 have e : (2 : Int) ^ r = ((2 ^ r : Nat) : Int) := (Int.natCast_pow 2 r).symm
 rw [e]
 generalize 2 ^ r = y at *
 omega
theorem xor_byte {x : Int} (h : 0 ≤ x ∧ x < 256) {r : Nat} (hr : r < 8) : 0 ≤ bits .xor .u8 x ((2 : Int) ^ r % 256) ∧ bits .xor .u8 x ((2 : Int) ^ r % 256) < 256 := by
 obtain ⟨n, rfl⟩ : ∃ n : Nat, x = n := ⟨x.toNat, by omega⟩
 have h2 : (2 : Nat) ^ r < 256 := by have : (2 : Nat) ^ r < 2 ^ 8 := Nat.pow_lt_pow_right (by omega) hr; omega
 rw [two_pow_mod r hr, bits_xor_u8 n _ (by omega) h2]
 have := Nat.xor_lt_two_pow (n := 8) (x := n) (y := 2 ^ r) (by omega) (by omega)
 omega
set_option maxHeartbeats 8000000 in
set_option maxRecDepth 100000 in
theorem spoil_any (w : World) (S : Nat → Prop) (v : Value) (l : List Int) (bit mask : Int) (h : BV w S v l) (hl : l.length ≤ 1000000) :
  Calls Tryz.prog 80 #[v, .int .i64 bit, .int .u32 mask] w fun e w' => ∃ v', e = .returned v' ∧ BO w.heap.size w' v' (spoilL bit mask l) ∧ Below w.heap.size w w' := by
 obtain ⟨A0, c0, rfl, _, _⟩ := h.len
 have H := hid h
 have HI := hid Tryz.info5
 obtain ⟨n, hn⟩ : ∃ n, l.length = n := ⟨_, rfl⟩
 have HN := hid hn
 have HS : Hid (Sl w 1 (.slice A0 n c0) n (u8s l)) := hid (by have := h.sl; rw [hn] at this; exact this)
 rw [hn] at hl ⊢
 have iw8 : IntKind.i64.wrap (8 * (n : Int)) = 8 * (n : Int) := iX
 clear h hn
 have hby := H.out.byt
 have HBY := hid hby
 clear hby
 rcases Int.lt_or_le bit (-32) with c1 | c1
 ·go_enter Tryz.func80, Tryz.ntmps80
  go_wp2_with (at_builtin; refine wp_app w.heap.size rfl _ _ 25 5 (.int .u8 0) 1 1 rfl Tryz.underlying25 HI.out rfl (by omega) (by omega) rfl rfl (World.ownsRow_nil _ _ _ _) HS.out (by omega) (Nat.le_refl _) ?_; intro v1 w1 hown hfr hat; simp only [Nat.zero_add, List.nil_append] at hown; have O1 : Hid (w1.ownsRow w.heap.size 5 1 v1 n (u8s l)) := hid hown; have B1 : Hid (Below w.heap.size w w1) := hid (Frm.below (Below.refl _ _) hfr (Nat.le_refl _) (fun g hg => by cases hg)); obtain ⟨A, c, rfl⟩ := own_slice' hown; clear hown hfr hat)
  have FIN : Hid (∀ W l', W.ownsRow w.heap.size 5 1 (.slice A n c) n (u8s l') → Byt l' → l'.length = n → spoilL bit mask l = l' → BO w.heap.size W (.slice A n c) (spoilL bit mask l)) := hid (fun W l' ho hb hl he => ⟨by rw [he, hl]; exact ho, by rw [he]; exact hb⟩)
  (try go_wp2_with fail)
  go_ret
  exact ⟨_, rfl, FIN.out _ _ O1.out HBY.out HN.out (by unfold spoilL; rw [if_pos (.inl c1)]), B1.out⟩
 ·rcases Int.lt_or_le (8 * (n : Int)) bit with c2 | c2
  ·go_enter Tryz.func80, Tryz.ntmps80
   go_wp2_with (at_builtin; refine wp_app w.heap.size rfl _ _ 25 5 (.int .u8 0) 1 1 rfl Tryz.underlying25 HI.out rfl (by omega) (by omega) rfl rfl (World.ownsRow_nil _ _ _ _) HS.out (by omega) (Nat.le_refl _) ?_; intro v1 w1 hown hfr hat; simp only [Nat.zero_add, List.nil_append] at hown; have O1 : Hid (w1.ownsRow w.heap.size 5 1 v1 n (u8s l)) := hid hown; have B1 : Hid (Below w.heap.size w w1) := hid (Frm.below (Below.refl _ _) hfr (Nat.le_refl _) (fun g hg => by cases hg)); obtain ⟨A, c, rfl⟩ := own_slice' hown; clear hown hfr hat)
   have FIN : Hid (∀ W l', W.ownsRow w.heap.size 5 1 (.slice A n c) n (u8s l') → Byt l' → l'.length = n → spoilL bit mask l = l' → BO w.heap.size W (.slice A n c) (spoilL bit mask l)) := hid (fun W l' ho hb hl he => ⟨by rw [he, hl]; exact ho, by rw [he]; exact hb⟩)
   (try go_wp2_with fail)
   go_ret
   exact ⟨_, rfl, FIN.out _ _ O1.out HBY.out HN.out (by unfold spoilL; rw [if_pos (.inr (by rw [HN.out]; exact c2))]), B1.out⟩
  ·have hfin : spoilL bit mask l = spI bit mask l 32 := by unfold spoilL; rw [HN.out, if_neg (by omega)]
   have HF := hid hfin
   clear hfin
   go_enter Tryz.func80, Tryz.ntmps80
   go_wp2_with (at_builtin; refine wp_app w.heap.size rfl _ _ 25 5 (.int .u8 0) 1 1 rfl Tryz.underlying25 HI.out rfl (by omega) (by omega) rfl rfl (World.ownsRow_nil _ _ _ _) HS.out (by omega) (Nat.le_refl _) ?_; intro v1 w1 hown hfr hat; simp only [Nat.zero_add, List.nil_append] at hown; have O1 : Hid (w1.ownsRow w.heap.size 5 1 v1 n (u8s l)) := hid hown; have B1 : Hid (Below w.heap.size w w1) := hid (Frm.below (Below.refl _ _) hfr (Nat.le_refl _) (fun g hg => by cases hg)); obtain ⟨A, c, rfl⟩ := own_slice' hown; clear hown hfr hat)
   have FIN : Hid (∀ W l', W.ownsRow w.heap.size 5 1 (.slice A n c) n (u8s l') → Byt l' → l'.length = n → spoilL bit mask l = l' → BO w.heap.size W (.slice A n c) (spoilL bit mask l)) := hid (fun W l' ho hb hl he => ⟨by rw [he, hl]; exact ho, by rw [he]; exact hb⟩)
   (try go_wp2_with fail)
   go_loopw [8] (fun i wr => ∃ k : Nat, k ≤ 32 ∧ i = .int .i64 k ∧ wr.ownsRow w.heap.size 5 1 (.slice A n c) n (u8s (spI bit mask l k)) ∧ Byt (spI bit mask l k) ∧ Below w.heap.size w wr) (fun i _ => 32 - (intOf i).toNat)
   case atStart => exact ⟨0, by omega, rfl, O1.out, HBY.out, B1.out⟩
   case round =>
    obtain ⟨k, hk, rfl, ho, hby, hb⟩ := hrel
    have HO := hid ho
    have HB := hid hb
    have hlen : (spI bit mask l k).length = n := by rw [spI_len]; exact HN.out
    have iwk : IntKind.i64.wrap ((k : Int) + 1) = (k : Int) + 1 := iX
    by_cases hlt : k < 32
    ·have k0 : (0 : Int) ≤ (k : Int) := by omega
     have k1 : (k : Int) < 32 := by omega
     have iwb : IntKind.i64.wrap (bit + (k : Int)) = bit + (k : Int) := iX
     obtain ⟨q, hq⟩ : ∃ q, (bits .and .u32 (mask / 2 ^ k) 1 == 1) = q := ⟨_, rfl⟩
     have hst : spI bit mask l (k + 1) = if q = true ∧ 0 ≤ bit + k ∧ bit + k < 8 * (n : Int) then flipI (spI bit mask l k) (bit + k).toNat else spI bit mask l k := by rw [← hq, ← HN.out]; rfl
     by_cases hc : q = true ∧ 0 ≤ bit + k ∧ bit + k < 8 * (n : Int)
     ·rw [if_pos hc] at hst
      obtain ⟨rfl, c3, c4⟩ := hc
      have ho' := ho
      obtain ⟨p, hp⟩ := lx ((bit + k).toNat)
      have hp2 : bit + k = (p : Int) := by omega
      rw [← hp] at hst
      have hO : BO w.heap.size wr (.slice A n c) (spI bit mask l k) := ⟨by rw [hlen]; exact ho, hby⟩
      obtain ⟨ad, hA, d0⟩ := Sl.at_ (by have := hO.bv.sl; rw [hlen] at this; exact this) (by omega : p / 8 < n)
      subst hA
      rw [u8s_at _ _ (by omega)] at d0
      have f0 := hO.free (p / 8)
      have hxb := hby _ (List.getElem_mem (by omega : p / 8 < (spI bit mask l k).length))
      have hget : (spI bit mask l k).getD (p / 8) 0 = (spI bit mask l k)[p / 8]'(by omega) := by rw [List.getD_eq_getElem?_getD, List.getElem?_eq_getElem (by omega)]; rfl
      obtain ⟨x, hx⟩ : ∃ x, (spI bit mask l k)[p / 8]'(by omega) = x := ⟨_, rfl⟩
      rw [hx] at d0 hxb hget
      have hz2 := xor_byte hxb (by omega : p % 8 < 8)
      obtain ⟨z, hz⟩ : ∃ z, bits .xor .u8 x ((2 : Int) ^ (p % 8) % 256) = z := ⟨_, rfl⟩
      have hfl : spI bit mask l (k + 1) = (spI bit mask l k).set (p / 8) z := by rw [hst]; unfold flipI; rw [hget, hz]
      rw [hz] at hz2
      have SET := hid (hO.setb (p / 8) hz2)
      obtain ⟨u, hu⟩ := lx (p / 8)
      obtain ⟨r, hr⟩ := lx (p % 8)
      rw [← hu] at d0 f0 SET hfl
      rw [← hr] at hz
      have eq1 : (bit + (k : Int)) / 8 = (u : Int) := by omega
      have er1 : (bit + (k : Int)) % 8 = (r : Int) := by omega
      have q1 : (u : Int) < (n : Int) := by omega
      have q0 : (0 : Int) ≤ (u : Int) := by omega
      have r0 : (0 : Int) ≤ (r : Int) := by omega
      have ert : (r : Int).toNat = r := by omega
      have HFL := hid hfl
      have HOB : Hid (BO w.heap.size wr (.slice (some ad) n c) (spI bit mask l k)) := hid hO
      clear hO ho ho' hby hst hp hp2 hget hx hlen hu hr hfl
      go_wp2_with fail
      go_roundw
      case rel => exact ⟨k + 1, by omega, by go_num, by rw [HFL.out]; have := SET.out.1.1; rw [List.length_set, spI_len, HN.out] at this; exact this, by rw [HFL.out]; exact SET.out.1.2, (HB.out.setCell (by have := SET.out.2; unfold Addr.add; split <;> exact this) _)⟩
      case measure => simp [intOf]; omega
     ·rw [if_neg hc] at hst
      have HST := hid hst
      have REL : Hid (wr.ownsRow w.heap.size 5 1 (.slice A n c) n (u8s (spI bit mask l (k + 1))) ∧ Byt (spI bit mask l (k + 1))) := hid (by rw [hst]; exact ⟨ho, hby⟩)
      clear hst ho hby hlen hb
      cases q
      ·clear hc
       go_wp2_with fail
       go_roundw
       case rel => exact ⟨k + 1, by omega, by go_num, REL.out.1, REL.out.2, HB.out⟩
       case measure => simp [intOf]; omega
      ·rcases Int.lt_or_le (bit + k) 0 with c3 | c3
       ·clear hc
        go_wp2_with fail
        go_roundw
        case rel => exact ⟨k + 1, by omega, by go_num, REL.out.1, REL.out.2, HB.out⟩
        case measure => simp [intOf]; omega
       ·have c4 : ¬ bit + (k : Int) < 8 * (n : Int) := fun h => hc ⟨rfl, c3, h⟩
        clear hc
        go_wp2_with fail
        go_roundw
        case rel => exact ⟨k + 1, by omega, by go_num, REL.out.1, REL.out.2, HB.out⟩
        case measure => simp [intOf]; omega
    ·obtain rfl : k = 32 := by omega
     have R := hid (FIN.out _ _ ho hby hlen HF.out)
     clear ho hby hlen
     go_wp2_with fail
     go_ret
     exact ⟨_, rfl, R.out, HB.out⟩
end
end Go.Proofs.YtdneakejlbabeaaGreat
