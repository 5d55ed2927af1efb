/- Parts of the walk: Fj, Ve, Wg. -/
import Derived.Test.YtdneakejlbabeaaGreatM00
import Derived.Test.YtdneakejlbabeaaGreatM10
import Derived.Deep.RegionHeld3
import Derived.Test.YtdneakejlbabeaaGreatM38
import Derived.Test.YtdneakejlbabeaaGreatM09
namespace Go.Proofs.YtdneakejlbabeaaGreat
open Go.RowKit
set_option linter.unusedVariables false
set_option linter.unusedSimpArgs false
section
theorem join_at (w : World) (S : Nat → Prop) (va vb : Value) (a b : List Ev) (ha : ERow S w va a) (hb : ERow S w vb b) (la : a.length ≤ 500000) (lb : b.length ≤ 500000)
  (sma : ∀ e ∈ a, e.data.length ≤ 2000000 ∧ e.pk.data.length ≤ 2000000) (smb : ∀ e ∈ b, e.data.length ≤ 2000000 ∧ e.pk.data.length ≤ 2000000) (l : List (Int × Ev)) (at_ side : Int) (ok : Bool) (hJ : J a b = (l, at_, side, ok)) :
  Calls Tryz.prog 11 #[va, vb] w fun r w' => ∃ A c D, r = .returned (.tuple #[.slice A l.length c, .int .i64 at_, .int .i64 side, .bool ok]) ∧ NRow D w' (.slice A l.length c) l ∧ Below w.heap.size w w' := by
 refine (join_any w S va vb a b ha hb la lb sma smb).mono ?_
 rintro r w' ⟨v, D, rfl, hr, hb⟩
 rw [hJ] at hr
 obtain ⟨A, c, rfl, _⟩ := hr.len
 exact ⟨A, c, D, by rw [hJ], hr, hb⟩
theorem erow_nil (S : Nat → Prop) (w : World) : ERow S w (.slice none 0 0) [] := ⟨[], rfl, Sl.nil w 12, fun i a b h => by simp at h⟩
theorem EV.bare (S : Nat → Prop) (w : World) (e : Ev) (h1 : e.data = []) (h2 : e.pk.data = []) : EV w S e (.slice none 0 0, .slice none 0 0) := ⟨by rw [h1]; exact BV.nil _ _, by rw [h2]; exact BV.nil _ _⟩
/-- A row of one bare event. -/
theorem erow_one (S : Nat → Prop) (w : World) (e : Ev) (h1 : e.data = []) (h2 : e.pk.data = []) (h : Nat) (hh : h = w.heap.size) : ERow S (w.alloc (.cells (ecells e (.slice none 0 0, .slice none 0 0)).toArray 29)) (.slice (some ⟨h, 0, none⟩) 1 1) [e] := by
 refine ⟨[(.slice none 0 0, .slice none 0 0)], rfl, ?_, fun i a b ha hb => ?_⟩
 ·have := Sl.boxk w 29 12 (ecells e (.slice none 0 0, .slice none 0 0)) h hh rfl (EV.one (EV.bare S w e h1 h2))
  simpa [rowsG] using this
 ·have hi := (List.getElem?_eq_some_iff.1 ha).1
  simp only [List.length_cons, List.length_nil] at hi
  obtain rfl : i = 0 := by omega
  simp only [List.getElem?_cons_zero, Option.some.injEq] at ha hb
  subst ha
  subst hb
  exact EV.bare S _ e h1 h2
set_option maxHeartbeats 4000000 in
set_option maxRecDepth 100000 in
theorem wakes_any (w : World) : Calls Tryz.prog 16 #[] w fun r w' => r = .returned (.bool true) ∧ Below w.heap.size w w' := by
 go_enter Tryz.func16, Tryz.ntmps16
 go_wp2_with fail
 refine (join_at w (fun _ => False) _ _ [] [] (erow_nil _ _) (erow_nil _ _) (by simp) (by simp) (by simp) (by simp) [] 0 0 true (by decide)).mono ?_
 rintro r w1 ⟨A, c, D, rfl, hr, hb⟩
 have B1 := hid hb
 clear hr hb
 go_wp2_with fail
 refine (join_at _ (fun _ => False) _ _ [⟨6, 0, [], ⟨0, 0, 0, 0, 0, [], false, 0, 0⟩⟩] [⟨4, 0, [], ⟨1, 0, 0, 0, 0, [], false, 0, 0⟩⟩] ((erow_one _ w1 _ rfl rfl _ rfl).below (ba)) (erow_one _ _ _ rfl rfl _ (by simp)) (by simp) (by simp) (by simp) (by simp) [] 0 1 false (by decide)).mono ?_
 rintro r w2 ⟨A2, c2, D2, rfl, hr, hb⟩
 have hb2 := B1.out.trans ((((Below.refl w1.heap.size w1).alloc (Nat.le_refl _) _).alloc (by simp) _).trans (hb.mono (by simp; omega)) |>.mono B1.out.size)
 have B2 := hid hb2
 clear hr hb hb2
 go_wp2_with fail
 go_ret
 exact ⟨rfl, B2.out⟩
end

section
/-- Was it sent by the other side, among the first m? -/
def fndP (l : List (Int × Ev)) (q : Int) (p : Pk) (m : Nat) : Bool := (l.take m).any fun y => (y.1 != q) && (y.2.kind == 5) && decide (y.2.pk = p)
theorem fndP_succ (l : List (Int × Ev)) (q : Int) (p : Pk) (m : Nat) (y : Int × Ev) (h : l[m]? = some y) : fndP l q p (m + 1) = (fndP l q p m || ((y.1 != q) && (y.2.kind == 5) && decide (y.2.pk = p))) := by
 unfold fndP
 rw [List.take_add_one, h, List.any_append]
 simp
theorem fndP_caus {l : List (Int × Ev)} (h : Caus l) (ht : Two l) {i : Nat} {q : Int} {e : Ev} (hi : l[i]? = some (q, e)) (h4 : e.kind = 4) : fndP l q e.pk i = true := by
 obtain ⟨j, f, hj, hf, h5, h6⟩ := h i q e hi h4
 have hq := ht _ (List.mem_of_getElem? hi)
 unfold fndP
 rw [List.any_eq_true]
 refine ⟨(1 - q, f), List.mem_of_getElem? (i := j) (by rw [List.getElem?_take, if_pos hj]; exact hf), ?_⟩
 simp only [h5, h6, decide_true, Bool.and_true, Bool.and_eq_true, beq_self_eq_true, bne_iff_ne]
 dsimp only at hq
 omega
/-- Each event of the row is the next one of its side. -/
theorem right_at {a b : List Ev} {l : List (Int × Ev)} (h : Right a b l) {j : Nat} {e : Ev} : (l[j]? = some (0, e) → a[(only 0 (l.take j)).length]? = some e) ∧ (l[j]? = some (1, e) → b[(only 1 (l.take j)).length]? = some e) := by
 have key : ∀ (s : Int) (c : List Ev), only s l = c → l[j]? = some (s, e) → c[(only s (l.take j)).length]? = some e := fun s c hc hj => by
  have h2 := only_app s (l.take (j + 1)) (l.drop (j + 1))
  rw [List.take_append_drop, List.take_add_one, hj] at h2
  simp only [Option.toList_some] at h2
  rw [only_app, only_yes, hc] at h2
  rw [h2, List.append_assoc, List.getElem?_append_right (Nat.le_refl _), Nat.sub_self]
  rfl
 exact ⟨key 0 a h.o0, key 1 b h.o1⟩
theorem only_step (l : List (Int × Ev)) (s q : Int) (j : Nat) (e : Ev) (h : l[j]? = some (q, e)) : (only s (l.take (j + 1))).length = (only s (l.take j)).length + (if q = s then 1 else 0) := by
 rw [List.take_add_one, h]
 simp only [Option.toList_some]
 rw [only_app, List.length_append]
 by_cases hq : q = s
 ·subst hq
  rw [only_yes, if_pos rfl]
  rfl
 ·rw [only_no s q e hq, if_neg hq]
  rfl
theorem right_small {a b : List Ev} {l : List (Int × Ev)} (h : Right a b l) (ha : SmallE a) (hb : SmallE b) : Small l := fun y hy => by
 obtain ⟨s, e⟩ := y
 have hs := h.t _ hy
 have hm := mem_only hy
 dsimp only at hs
 rcases hs with rfl | rfl
 ·rw [h.o0] at hm
  exact ha.up e hm
 ·rw [h.o1] at hm
  exact hb.up e hm
theorem only_two {l : List (Int × Ev)} (h : Two l) : only 2 l = [] := by
 unfold only
 rw [List.filter_eq_nil_iff.2 (fun y hy => by have := h y hy; simp; omega)]
 rfl
end

section
theorem ncells_below {w w' : World} {p : Addr} {s : Int} {e : Ev} {x : Value × Value} (h : NCells w p s e x) (k : Below w.heap.size w w') : NCells w' p s e x := by
 have g : ∀ (p : Addr) (v : Value), w.cell? p = some v → w'.cell? p = some v := fun p v hv => (k.cell (World.block_lt_of_cell? w _ hv)).trans hv
 obtain ⟨h0, h1, h2, h3, h4, h5, h6, h7, h8, h9, h10, h11, h12⟩ := h
 exact ⟨g _ _ h0, g _ _ h1, g _ _ h2, g _ _ h3, g _ _ h4, g _ _ h5, g _ _ h6, g _ _ h7, g _ _ h8, g _ _ h9, g _ _ h10, g _ _ h11, g _ _ h12⟩
theorem evb {S : Nat → Prop} {w w' : World} {e : Ev} {x : Value × Value} (h : EV w S e x) (k : Below w.heap.size w w') : EV w' S e x := ⟨h.1.below k, h.2.below k⟩
set_option maxHeartbeats 8000000 in
set_option maxRecDepth 100000 in
theorem same_at (w : World) (S S' : Nat → Prop) (v u : Value) (l : List (Int × Ev)) (h : NRow S w v l) (h' : NRow S' w u l) (hl : l.length ≤ 1000000) : Calls Tryz.prog 13 #[v, u] w fun r w' => r = .returned (.bool true) ∧ Below w.heap.size w w' := by
 obtain ⟨A, c, rfl, _⟩ := h.len
 obtain ⟨B, d, rfl, _⟩ := h'.len
 have H := hid h
 have H' := hid h'
 clear h h'
 go_enter Tryz.func13, Tryz.ntmps13
 go_wp2_with fail
 go_loopw [13] (fun i wr => ∃ m : Nat, m ≤ l.length ∧ i = .int .i64 m ∧ Below w.heap.size w wr) (fun i _ => l.length - (intOf i).toNat)
 case atStart => exact ⟨0, Nat.zero_le _, rfl, Below.refl _ _⟩
 case round =>
  obtain ⟨m, hm, rfl, hb⟩ := hrel
  have BR := hid hb
  clear hb
  by_cases hml : m < l.length
  ·have m0 : (0 : Int) ≤ (m : Int) := by omega
   have m1 : (m : Int) < (l.length : Int) := by omega
   have iwm : IntKind.i64.wrap ((m : Int) + 1) = (m : Int) + 1 := iX
   obtain ⟨ad, q, e, x, y, rfl, he, hx, hce⟩ := NRow.ev (H.out.below BR.out) hml
   obtain ⟨bd, q', e', x', y', rfl, he', hx', hce'⟩ := NRow.ev (H'.out.below BR.out) hml
   have heq : (q, e) = (q', e') := by rw [he'] at he; exact ((Option.some.injEq _ _).mp he).symm
   injection heq with e1 e2
   subst e1 e2
   obtain ⟨X, x, rfl, _⟩ := hx.1.len
   obtain ⟨Y, y, rfl, _⟩ := hx.2.len
   obtain ⟨X2, x2, rfl, _⟩ := hx'.1.len
   obtain ⟨Y2, y2, rfl, _⟩ := hx'.2.len
   have EX : Hid (EV wr S e (.slice X e.data.length x, .slice Y e.pk.data.length y)) := hid hx
   have EY : Hid (EV wr S' e (.slice X2 e.data.length x2, .slice Y2 e.pk.data.length y2)) := hid hx'
   have N1 := hid hce
   have N2 := hid hce'
   have KE : Hid (∀ W, Below wr.heap.size wr W → (W.cell? (ad.add (m * 13)) = some (.int .i64 q) ∧ W.cell? ⟨(ad.add (m * 13)).block, (ad.add (m * 13)).off + 1, none⟩ = some (.int .i64 e.kind) ∧ W.cell? ⟨(ad.add (m * 13)).block, (ad.add (m * 13)).off + 2, none⟩ = some (.int .i64 e.n) ∧ W.cell? ⟨(ad.add (m * 13)).block, (ad.add (m * 13)).off + 3, none⟩ = some (.slice X e.data.length x) ∧ W.cell? ⟨(ad.add (m * 13)).block, (ad.add (m * 13)).off + 4, none⟩ = some (.int .i64 e.pk.kind) ∧ W.cell? ⟨(ad.add (m * 13)).block, (ad.add (m * 13)).off + 5, none⟩ = some (.int .i64 e.pk.path) ∧ W.cell? ⟨(ad.add (m * 13)).block, (ad.add (m * 13)).off + 6, none⟩ = some (.int .i64 e.pk.number) ∧ W.cell? ⟨(ad.add (m * 13)).block, (ad.add (m * 13)).off + 7, none⟩ = some (.int .i64 e.pk.of_) ∧ W.cell? ⟨(ad.add (m * 13)).block, (ad.add (m * 13)).off + 8, none⟩ = some (.int .i64 e.pk.from_) ∧ W.cell? ⟨(ad.add (m * 13)).block, (ad.add (m * 13)).off + 9, none⟩ = some (.slice Y e.pk.data.length y) ∧ W.cell? ⟨(ad.add (m * 13)).block, (ad.add (m * 13)).off + 10, none⟩ = some (.bool e.pk.fin) ∧ W.cell? ⟨(ad.add (m * 13)).block, (ad.add (m * 13)).off + 11, none⟩ = some (.int .i64 e.pk.seen) ∧ W.cell? ⟨(ad.add (m * 13)).block, (ad.add (m * 13)).off + 12, none⟩ = some (.int .i64 e.pk.limit)) ∧ (W.cell? (bd.add (m * 13)) = some (.int .i64 q) ∧ W.cell? ⟨(bd.add (m * 13)).block, (bd.add (m * 13)).off + 1, none⟩ = some (.int .i64 e.kind) ∧ W.cell? ⟨(bd.add (m * 13)).block, (bd.add (m * 13)).off + 2, none⟩ = some (.int .i64 e.n) ∧ W.cell? ⟨(bd.add (m * 13)).block, (bd.add (m * 13)).off + 3, none⟩ = some (.slice X2 e.data.length x2) ∧ W.cell? ⟨(bd.add (m * 13)).block, (bd.add (m * 13)).off + 4, none⟩ = some (.int .i64 e.pk.kind) ∧ W.cell? ⟨(bd.add (m * 13)).block, (bd.add (m * 13)).off + 5, none⟩ = some (.int .i64 e.pk.path) ∧ W.cell? ⟨(bd.add (m * 13)).block, (bd.add (m * 13)).off + 6, none⟩ = some (.int .i64 e.pk.number) ∧ W.cell? ⟨(bd.add (m * 13)).block, (bd.add (m * 13)).off + 7, none⟩ = some (.int .i64 e.pk.of_) ∧ W.cell? ⟨(bd.add (m * 13)).block, (bd.add (m * 13)).off + 8, none⟩ = some (.int .i64 e.pk.from_) ∧ W.cell? ⟨(bd.add (m * 13)).block, (bd.add (m * 13)).off + 9, none⟩ = some (.slice Y2 e.pk.data.length y2) ∧ W.cell? ⟨(bd.add (m * 13)).block, (bd.add (m * 13)).off + 10, none⟩ = some (.bool e.pk.fin) ∧ W.cell? ⟨(bd.add (m * 13)).block, (bd.add (m * 13)).off + 11, none⟩ = some (.int .i64 e.pk.seen) ∧ W.cell? ⟨(bd.add (m * 13)).block, (bd.add (m * 13)).off + 12, none⟩ = some (.int .i64 e.pk.limit))) := hid (fun W hW => ⟨ncells_below N1.out hW, ncells_below N2.out hW⟩)
   clear he he' hx hx' hce hce' N1 N2
   go_wp2_with fail
   refine wp_region_held_drew (S := fun w' => (w'.cell? (ad.add (m * 13)) = some (.int .i64 q) ∧ w'.cell? ⟨(ad.add (m * 13)).block, (ad.add (m * 13)).off + 1, none⟩ = some (.int .i64 e.kind) ∧ w'.cell? ⟨(ad.add (m * 13)).block, (ad.add (m * 13)).off + 2, none⟩ = some (.int .i64 e.n) ∧ w'.cell? ⟨(ad.add (m * 13)).block, (ad.add (m * 13)).off + 3, none⟩ = some (.slice X e.data.length x) ∧ w'.cell? ⟨(ad.add (m * 13)).block, (ad.add (m * 13)).off + 4, none⟩ = some (.int .i64 e.pk.kind) ∧ w'.cell? ⟨(ad.add (m * 13)).block, (ad.add (m * 13)).off + 5, none⟩ = some (.int .i64 e.pk.path) ∧ w'.cell? ⟨(ad.add (m * 13)).block, (ad.add (m * 13)).off + 6, none⟩ = some (.int .i64 e.pk.number) ∧ w'.cell? ⟨(ad.add (m * 13)).block, (ad.add (m * 13)).off + 7, none⟩ = some (.int .i64 e.pk.of_) ∧ w'.cell? ⟨(ad.add (m * 13)).block, (ad.add (m * 13)).off + 8, none⟩ = some (.int .i64 e.pk.from_) ∧ w'.cell? ⟨(ad.add (m * 13)).block, (ad.add (m * 13)).off + 9, none⟩ = some (.slice Y e.pk.data.length y) ∧ w'.cell? ⟨(ad.add (m * 13)).block, (ad.add (m * 13)).off + 10, none⟩ = some (.bool e.pk.fin) ∧ w'.cell? ⟨(ad.add (m * 13)).block, (ad.add (m * 13)).off + 11, none⟩ = some (.int .i64 e.pk.seen) ∧ w'.cell? ⟨(ad.add (m * 13)).block, (ad.add (m * 13)).off + 12, none⟩ = some (.int .i64 e.pk.limit)) ∧ (w'.cell? (bd.add (m * 13)) = some (.int .i64 q) ∧ w'.cell? ⟨(bd.add (m * 13)).block, (bd.add (m * 13)).off + 1, none⟩ = some (.int .i64 e.kind) ∧ w'.cell? ⟨(bd.add (m * 13)).block, (bd.add (m * 13)).off + 2, none⟩ = some (.int .i64 e.n) ∧ w'.cell? ⟨(bd.add (m * 13)).block, (bd.add (m * 13)).off + 3, none⟩ = some (.slice X2 e.data.length x2) ∧ w'.cell? ⟨(bd.add (m * 13)).block, (bd.add (m * 13)).off + 4, none⟩ = some (.int .i64 e.pk.kind) ∧ w'.cell? ⟨(bd.add (m * 13)).block, (bd.add (m * 13)).off + 5, none⟩ = some (.int .i64 e.pk.path) ∧ w'.cell? ⟨(bd.add (m * 13)).block, (bd.add (m * 13)).off + 6, none⟩ = some (.int .i64 e.pk.number) ∧ w'.cell? ⟨(bd.add (m * 13)).block, (bd.add (m * 13)).off + 7, none⟩ = some (.int .i64 e.pk.of_) ∧ w'.cell? ⟨(bd.add (m * 13)).block, (bd.add (m * 13)).off + 8, none⟩ = some (.int .i64 e.pk.from_) ∧ w'.cell? ⟨(bd.add (m * 13)).block, (bd.add (m * 13)).off + 9, none⟩ = some (.slice Y2 e.pk.data.length y2) ∧ w'.cell? ⟨(bd.add (m * 13)).block, (bd.add (m * 13)).off + 10, none⟩ = some (.bool e.pk.fin) ∧ w'.cell? ⟨(bd.add (m * 13)).block, (bd.add (m * 13)).off + 11, none⟩ = some (.int .i64 e.pk.seen) ∧ w'.cell? ⟨(bd.add (m * 13)).block, (bd.add (m * 13)).off + 12, none⟩ = some (.int .i64 e.pk.limit))) (by kernel_rfl) (KE.out _ bD) (fun hHeld => ?_)
   obtain ⟨wd, hwd⟩ := lx (wr.drew)
   have GD : Hid (Below wr.heap.size wr wd) := hid (by rw [hwd]; exact bD)
   rw [← hwd] at hHeld ⊢
   clear hwd
   refine tk 0 (oi := ⟨some 16, _, _, _, _, _⟩) rfl ?_
   refine tk 1 (oi := ⟨some 17, _, _, _, _, _⟩) rfl ?_
   refine tk 2 (oi := ⟨some 18, _, _, _, _, _⟩) rfl ?_
   refine tk 3 (oi := ⟨some 19, _, _, _, _, _⟩) rfl ?_
   refine tk 4 (oi := ⟨some 20, _, _, _, _, _⟩) rfl ?_
   refine tk 5 (oi := ⟨some 21, _, _, _, _, _⟩) rfl ?_
   refine tk 6 (oi := ⟨some 22, _, _, _, _, _⟩) rfl ?_
   refine tk 7 (oi := ⟨some 23, _, _, _, _, _⟩) rfl ?_
   refine tk 8 (oi := ⟨some 24, _, _, _, _, _⟩) rfl ?_
   refine tk 9 (oi := ⟨some 25, _, _, _, _, _⟩) rfl ?_
   refine tk 10 (oi := ⟨some 26, _, _, _, _, _⟩) rfl ?_
   refine tk 11 (oi := ⟨some 27, _, _, _, _, _⟩) rfl ?_
   refine tk 12 (oi := ⟨some 28, _, _, _, _, _⟩) rfl ?_
   refine tk 13 (oi := ⟨some 29, _, _, _, _, _⟩) rfl ?_
   refine tk 14 (oi := ⟨some 30, _, _, _, _, _⟩) rfl ?_
   refine tk 15 (oi := ⟨some 31, _, _, _, _, _⟩) rfl ?_
   refine tk 16 (oi := ⟨some 32, _, _, _, _, _⟩) rfl ?_
   refine tk 17 (oi := ⟨some 33, _, _, _, _, _⟩) rfl ?_
   refine tk 18 (oi := ⟨some 34, _, _, _, _, _⟩) rfl ?_
   refine tk 19 (oi := ⟨some 35, _, _, _, _, _⟩) rfl ?_
   refine tk 20 (oi := ⟨some 36, _, _, _, _, _⟩) rfl ?_
   refine tk 21 (oi := ⟨some 37, _, _, _, _, _⟩) rfl ?_
   refine rD 22 (o := ⟨some 38, _, _, _, _, _⟩) rfl (fun K hK => ?_)
   go_simp
   refine (sev_at wd _ _ e e _ _ _ _ true (by simp) (evb EX.out GD.out) (evb EY.out GD.out)).mono ?_
   rintro r w5 ⟨rfl, hb5⟩
   have G5 := hid (bO GD.out hb5)
   refine Ko hK (KE.out _ G5.out) (fun hHeld => ?_)
   clear hK K hb5
   refine tk 23 (oi := ⟨some 39, _, _, _, _, _⟩) rfl ?_
   refine tk 24 (oi := ⟨some 40, _, _, _, _, _⟩) rfl ?_
   refine dn ?_
   clear hHeld KE
   have B5 := hid (bO BR.out G5.out)
   go_wp2_with fail
   go_roundw
   case rel => exact ⟨m + 1, hml, by go_num, B5.out⟩
   case measure => simp [intOf]; omega
  ·have m1 : ¬ (m : Int) < (l.length : Int) := by omega
   go_wp2_with fail
   go_ret
   exact ⟨rfl, BR.out⟩
end
end Go.Proofs.YtdneakejlbabeaaGreat
