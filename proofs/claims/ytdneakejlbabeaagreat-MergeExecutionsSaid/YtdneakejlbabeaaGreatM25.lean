/- Parts of the walk: Ua, Ub. -/
import Derived.Test.YtdneakejlbabeaaGreatM13
import Derived.Test.YtdneakejlbabeaaGreatM19
import Derived.Test.YtdneakejlbabeaaGreatM21
import Derived.Test.YtdneakejlbabeaaGreatM23
import Derived.Test.YtdneakejlbabeaaGreatM24
namespace Go.Proofs.YtdneakejlbabeaaGreat
open Go.RowKit
set_option linter.unusedVariables false
set_option linter.unusedSimpArgs false

structure DuV where
  ge : Bool → Nat
  x : Bool → EndV
  v : Bool → Value
  l : Bool → List By2
  u : Bool → Value
  g : Bool → List Int
/-- An end's code. -/
def kk (s : Bool) : Nat := if s then 200 else 100
def up {α : Type} (f : Bool → α) (s : Bool) (y : α) : Bool → α := fun t => if t = s then y else f t
theorem up_same {α : Type} (f : Bool → α) (s : Bool) (y : α) : up f s y s = y := by simp [up]
theorem up_other {α : Type} (f : Bool → α) {s t : Bool} (y : α) (h : t ≠ s) : up f s y t = f t := by simp [up, h]
theorem up_not {α : Type} (f : Bool → α) (s : Bool) (y : α) : up f s y (!s) = f (!s) := up_other f y (by cases s <;> simp)
theorem kk_cases (s : Bool) : kk s = 100 ∨ kk s = 200 := by cases s <;> simp [kk]
theorem kk_ne {s t : Bool} (h : t ≠ s) : kk t + 100 ≤ kk s ∨ kk s + 100 ≤ kk t := by cases s <;> cases t <;> simp [kk] at *
theorem sN_cases (s : Bool) : sN s = 0 ∨ sN s = 1 := by cases s <;> simp [sN]
theorem sN_ne {s t : Bool} (h : t ≠ s) : sN t ≠ sN s := by cases s <;> cases t <;> simp [sN] at *
abbrev dcs (d : DuV) : Array Value := #[.pointer (some ⟨d.ge false, 0, none⟩), .pointer (some ⟨d.ge true, 0, none⟩), d.v false, d.v true, d.u false, d.u true]
structure DuS (o : Nat → Nat) (B : Nat) (w : World) (gd : Nat) (d : DuV) : Prop where
  blk : Blk w gd (dcs d) 87
  og : o gd = 300
  gb : B ≤ gd
  e : ∀ s, EndS o (kk s) B w (d.ge s) (d.x s)
  n : ∀ s, BRw o B w (d.v s) (d.l s)
  no : ∀ s, Ow o w (302 + sN s) (d.v s)
  g : ∀ s, BO B w (d.u s) (d.g s)
  go : ∀ s, Ow o w (304 + sN s) (d.u s)
/-- The codes of a duel. -/
def DC : Nat → Prop := fun c => 100 ≤ c ∧ c < 400
section
variable {C : Nat → Prop} {o o' : Nat → Nat} {B : Nat} {w w' : World} {gd : Nat} {d : DuV}
theorem BRw.stp {v : Value} {l : List By2} {c : Nat} (h : BRw o B w v l) (ow : Ow o w c v) (s : Stp C o o' w w') (h0 : ¬ C 0) (hc : ¬ C c) (hz : c ≠ 0) : BRw o' B w' v l := OutG.frmO liesB h ow s h0 hc hz
theorem BO.stp {v : Value} {l : List Int} {c : Nat} (h : BO B w v l) (ow : Ow o w c v) (s : Stp C o o' w w') (hc : ¬ C c) : BO B w' v l := h.frm s.f (fun j hj e => hc ((ow j hj).1 ▸ e))
theorem DuS.frm (h : DuS o B w gd d) (s : Stp C o o' w w') (h0 : ¬ C 0) (hC : ∀ c, C c → ¬ DC c) : DuS o' B w' gd d := by
  have hk := fun s => kk_cases s
  have hs := fun s => sN_cases s
  refine ⟨h.blk.frm s.f (fun e => hC _ e (by rw [h.og]; exact ⟨by omega, by omega⟩)), (s.ag _ h.blk.lt).trans h.og, h.gb, fun t => (h.e t).frm s h0 (fun c hc => ?_), fun t => (h.n t).stp (h.no t) s h0 (fun e => hC _ e ?_) (by omega), fun t => (h.no t).frm s.ag s.size, fun t => (h.g t).stp (h.go t) s (fun e => hC _ e ?_), fun t => (h.go t).frm s.ag s.size⟩
  · have h1 := hC c hc
    have h2 := hk t
    unfold DC at h1
    omega
  · have := hs t
    exact ⟨by omega, by omega⟩
  · have := hs t
    exact ⟨by omega, by omega⟩
theorem DuS.below (h : DuS o B w gd d) (b : Below w.heap.size w w') : DuS o B w' gd d := h.frm (C := fun _ => False) (Stp.below b) (fun h => h) (fun _ h => h.elim)
/-- An end acted. -/
theorem DuS.putE (h : DuS o B w gd d) {s : Bool} {x' : EndV} (he : EndS o' (kk s) B w' (d.ge s) x') (st : Stp (EC (kk s)) o o' w w') : DuS o' B w' gd { d with x := up d.x s x' } := by
  have hk := kk_cases s
  have hs := fun s => sN_cases s
  refine ⟨h.blk.frm st.f (fun e => by rw [h.og] at e; have := e.1; have := e.2; omega), (st.ag _ h.blk.lt).trans h.og, h.gb, fun t => ?_, fun t => (h.n t).stp (h.no t) st (fun e => by have := e.1; omega) (fun e => by have := e.2; have := hs t; omega) (by omega), fun t => (h.no t).frm st.ag st.size, fun t => (h.g t).stp (h.go t) st (fun e => by have := e.2; have := hs t; omega), fun t => (h.go t).frm st.ag st.size⟩
  by_cases ht : t = s
  · subst ht
    show EndS o' (kk t) B w' (d.ge t) (up d.x t x' t)
    rw [up_same]
    exact he
  · show EndS o' (kk t) B w' (d.ge t) (up d.x s x' t)
    rw [up_other _ _ ht]
    refine (h.e t).frm st (fun e => by have := e.1; omega) (fun c hc => ?_)
    have := kk_ne ht
    have h1 := hc.1
    have h2 := hc.2
    omega
theorem dcs_v (d : DuV) (s : Bool) (v : Value) (l : Bool → List By2) : (dcs d).setIfInBounds (2 + sN s) v = dcs { d with v := up d.v s v, l := l } := by
  cases s <;> simp [dcs, sN, up]
/-- What is under way at a side is something else. -/
theorem DuS.putN (h : DuS o B w gd d) {s : Bool} {l' : List By2} (hn : NSet o B w gd s l' w') : ∃ (o' : Nat → Nat) (v' : Value), DuS o' B w' gd { d with v := up d.v s v', l := up d.l s l' } ∧ Stp (fun c => c = 300 ∨ c = 302 + sN s) o o' w w' := by
  obtain ⟨o', v', st, hc, hb, hw⟩ := hn
  have hk := fun s => kk_cases s
  have hs := fun s => sN_cases s
  have h1 := hs s
  refine ⟨o', v', ⟨?_, (st.ag _ h.blk.lt).trans h.og, h.gb, fun t => (h.e t).frm st (by omega) (fun c hc => by have := hk t; omega), fun t => ?_, fun t => ?_, fun t => (h.g t).stp (h.go t) st (by have := hs t; omega), fun t => (h.go t).frm st.ag st.size⟩, st⟩
  · have := hc _ _ h.blk
    rw [dcs_v d s v' (up d.l s l')] at this
    exact this
  · show BRw o' B w' (up d.v s v' t) (up d.l s l' t)
    by_cases ht : t = s
    · subst ht
      rw [up_same, up_same]
      exact hb
    · rw [up_other _ _ ht, up_other _ _ ht]
      have := sN_ne ht
      exact (h.n t).stp (h.no t) st (by omega) (by omega) (by omega)
  · show Ow o' w' (302 + sN t) (up d.v s v' t)
    by_cases ht : t = s
    · subst ht
      rw [up_same]
      exact hw
    · rw [up_other _ _ ht]
      exact (h.no t).frm st.ag st.size
theorem dcs_u (d : DuV) (s : Bool) (v : Value) (g : Bool → List Int) : (dcs d).setIfInBounds (4 + sN s) v = dcs { d with u := up d.u s v, g := g } := by
  cases s <;> simp [dcs, sN, up]
/-- What was read at a side is something else. -/
theorem DuS.putG (h : DuS o B w gd d) {s : Bool} {g' : List Int} {v' : Value} (st : Stp (fun c => c = 300 ∨ c = 304 + sN s) o o' w w') (hb : Blk w' gd ((dcs d).setIfInBounds (4 + sN s) v') 87) (hg : BO B w' v' g') (hw : Ow o' w' (304 + sN s) v') : DuS o' B w' gd { d with u := up d.u s v', g := up d.g s g' } := by
  have hk := fun s => kk_cases s
  have hs := fun s => sN_cases s
  have h1 := hs s
  refine ⟨?_, (st.ag _ h.blk.lt).trans h.og, h.gb, fun t => (h.e t).frm st (by omega) (fun c hc => by have := hk t; omega), fun t => (h.n t).stp (h.no t) st (by omega) (by have := hs t; omega) (by omega), fun t => (h.no t).frm st.ag st.size, fun t => ?_, fun t => ?_⟩
  · rw [dcs_u d s v' (up d.g s g')] at hb
    exact hb
  · show BO B w' (up d.u s v' t) (up d.g s g' t)
    by_cases ht : t = s
    · subst ht
      rw [up_same, up_same]
      exact hg
    · rw [up_other _ _ ht, up_other _ _ ht]
      have := sN_ne ht
      exact (h.g t).stp (h.go t) st (by omega)
  · show Ow o' w' (304 + sN t) (up d.u s v' t)
    by_cases ht : t = s
    · subst ht
      rw [up_same]
      exact hw
    · rw [up_other _ _ ht]
      exact (h.go t).frm st.ag st.size
theorem BRw.byt {v : Value} {l : List By2} (h : BRw o B w v l) {y : By2} (hy : y ∈ l) : Byt y.1 := by
  obtain ⟨vs, _, h2, h3, _⟩ := h
  obtain ⟨i, hi⟩ := List.getElem?_of_mem hy
  have hl := (List.getElem?_eq_some_iff.1 hi).1
  exact (h3 i y _ hi (List.getElem?_eq_getElem (by omega))).byt
end
/-! ### What holds at rest -/
/-- Bytes under way come of a packet that was said. -/
def NOk (ps : List Pk) (y : By2) : Prop := ∃ p ∈ ps, RightP p p.data.length ∧ Byt (sealL (plainL p)) ∧ ((y.2 = false ∧ y.1 = sealL (plainL p)) ∨ (y.2 = true ∧ y.1 ≠ sealL (plainL p) ∧ ∃ bit mask, y.1 = spoilL bit mask (sealL (plainL p))))
theorem NOk.mono {ps qs : List Pk} {y : By2} (h : NOk ps y) (hs : ∀ p ∈ ps, p ∈ qs) : NOk qs y := by
  obtain ⟨p, hp, h1⟩ := h
  exact ⟨p, hs p hp, h1⟩
theorem NOk.len {ps : List Pk} {y : By2} (h : NOk ps y) : y.1.length ≤ 1004 := by
  obtain ⟨p, _, hr, _, h⟩ := h
  have h1 := plainL_len hr
  have h2 := sealL_len (plainL p)
  rcases h with ⟨_, h⟩ | ⟨_, _, bit, mask, h⟩
  · rw [h]; omega
  · rw [h, spoilL_len]; omega
theorem NOk.spoil {ps : List Pk} {y : List Int} {bit mask : Int} (h : NOk ps (y, false)) (hne : spoilL bit mask y ≠ y) : NOk ps (spoilL bit mask y, true) := by
  obtain ⟨p, hp, hr, hb, ⟨_, h⟩ | ⟨h, _⟩⟩ := h
  · dsimp only at h
    rw [h] at hne ⊢
    exact ⟨p, hp, hr, hb, .inr ⟨rfl, hne, bit, mask, rfl⟩⟩
  · cases h
/-- What is unpacked was said. -/
theorem NOk.came {ps : List Pk} {y : By2} {p : Pk} (h : NOk ps y) (hb : Byt y.1) (hp : RightP p p.data.length) (he : y.1 = sealL (plainL p)) : p ∈ ps := by
  obtain ⟨q, hq, hr, hbq, h⟩ := h
  rcases h with ⟨_, h⟩ | ⟨_, hne, bit, mask, h⟩
  · rw [h] at he
    rw [packet_inj hp hr he.symm]
    exact hq
  · exfalso
    rw [he] at h hb hne
    exact hne (seal_burst hb hbq h.symm)
structure DInv (N : Bool → Nat) (d : DuV) (wl : List (Int × Ev)) : Prop where
  ok : ∀ s, EOk (N s) (d.x s)
  es : ∀ s, only (sI s) wl = (d.x s).es
  c : Caus wl
  t : Two wl
  net : ∀ s, ∀ y ∈ d.l s, NOk (sents (d.x (!s)).es) y
  nl : ∀ s, (d.l s).length ≤ 200
  out : ∀ s, ∀ p ∈ (d.x s).outs, p ∈ sents (d.x s).es
  gl : ∀ s, (d.g s).length ≤ N s
  sm : ∀ s, ∀ e ∈ (d.x s).es, e.data.length ≤ 1000000 ∧ e.pk.data.length ≤ 1000000
theorem sents_mem {l : List Ev} {p : Pk} (h : p ∈ sents l) : ∃ e ∈ l, e.kind = 5 ∧ e.pk = p := by
  induction l with
  | nil => simp [sents] at h
  | cons e l ih =>
    simp only [sents] at h
    split at h
    · rename_i h5
      rcases List.mem_cons.1 h with h | h
      · exact ⟨e, by simp, h5, h.symm⟩
      · obtain ⟨f, h1, h2⟩ := ih h
        exact ⟨f, by simp [h1], h2⟩
    · obtain ⟨f, h1, h2⟩ := ih h
      exact ⟨f, by simp [h1], h2⟩
theorem sI_not (s : Bool) : sI (!s) = 1 - sI s := by cases s <;> simp [sI]
theorem sI_two (s : Bool) : sI s = 0 ∨ sI s = 1 := by cases s <;> simp [sI]
theorem only_map (s t : Bool) (l : List Ev) : only (sI s) (l.map fun e => (sI t, e)) = if s = t then l else [] := by
  induction l with
  | nil => simp [only]
  | cons e l ih =>
    have h1 : (e :: l).map (fun e => (sI t, e)) = [(sI t, e)] ++ l.map fun e => (sI t, e) := rfl
    rw [h1, only_app, ih]
    by_cases h : s = t
    · subst h
      rw [only_yes, if_pos rfl, if_pos rfl]
      rfl
    · rw [only_no _ _ _ (by cases s <;> cases t <;> simp [sI] at *), if_neg h, if_neg h]
      rfl
theorem Caus.append (s : Int) : ∀ (es : List Ev) {l : List (Int × Ev)}, Caus l → (∀ e ∈ es, e.kind = 4 → ∃ f, (1 - s, f) ∈ l ∧ f.kind = 5 ∧ f.pk = e.pk) → Caus (l ++ es.map fun e => (s, e))
  | [], l, h, _ => by simpa using h
  | e :: es, l, h, he => by
    have h1 : l ++ (e :: es).map (fun e => (s, e)) = (l ++ [(s, e)]) ++ es.map fun e => (s, e) := by simp
    rw [h1]
    refine Caus.append s es (h.snoc s e (he e (by simp))) (fun f hf h4 => ?_)
    obtain ⟨g, h2, h3⟩ := he f (by simp [hf]) h4
    exact ⟨g, List.mem_append_left _ h2, h3⟩
theorem Two.append {l : List (Int × Ev)} (h : Two l) {s : Int} (hs : s = 0 ∨ s = 1) (es : List Ev) : Two (l ++ es.map fun e => (s, e)) := by
  intro y hy
  rcases List.mem_append.1 hy with hy | hy
  · exact h y hy
  · obtain ⟨e, _, rfl⟩ := List.mem_map.1 hy
    exact hs
/-- An end acted. -/
theorem DInv.act {N : Bool → Nat} {d : DuV} {wl : List (Int × Ev)} (h : DInv N d wl) {s : Bool} {x' : EndV} {es : List Ev} (ha : Act (N s + 500000) (d.x s) x' es) (hc : ∀ e ∈ es, e.kind = 4 → e.pk ∈ sents (d.x (!s)).es) : DInv (up N s (N s + 500000)) { d with x := up d.x s x' } (wl ++ es.map fun e => (sI s, e)) := by
  have oth : ∀ {α : Type} (f : Bool → α) (y : α) {t : Bool}, t ≠ s → up f s y t = f t := fun {α} f y {t} ht => up_other f y ht
  refine ⟨fun t => ?_, fun t => ?_, Caus.append (sI s) es h.c (fun e he h4 => ?_), h.t.append (sI_two s) es, fun t y hy => ?_, h.nl, fun t p hp => ?_, fun t => ?_, fun t e he => ?_⟩
  · by_cases ht : t = s
    · subst ht
      show EOk (up N t _ t) (up d.x t x' t)
      rw [up_same, up_same]
      exact ha.ok
    · show EOk (up N s _ t) (up d.x s x' t)
      rw [oth _ _ ht, oth _ _ ht]
      exact h.ok t
  · show only (sI t) _ = (up d.x s x' t).es
    rw [only_app, only_map, h.es t]
    by_cases ht : t = s
    · subst ht
      rw [up_same, if_pos rfl, ha.es]
    · rw [oth _ _ ht, if_neg ht, List.append_nil]
  · obtain ⟨f, h1, h2, h3⟩ := sents_mem (hc e he h4)
    rw [← h.es, sI_not] at h1
    exact ⟨f, only_mem h1, h2, h3⟩
  · show NOk (sents (up d.x s x' (!t)).es) y
    by_cases ht : (!t) = s
    · rw [ht, up_same]
      have h1 := h.net t y hy
      rw [ht] at h1
      exact h1.mono (fun p hp => by rw [ha.es, sents_app]; exact List.mem_append_left _ hp)
    · rw [oth _ _ ht]
      exact h.net t y hy
  · have hp' : p ∈ (up d.x s x' t).outs := hp
    show p ∈ sents (up d.x s x' t).es
    by_cases ht : t = s
    · subst ht
      rw [up_same] at hp' ⊢
      rw [ha.outs] at hp'
      rw [ha.es, sents_app]
      rcases List.mem_append.1 hp' with h1 | h1
      · exact List.mem_append_left _ (h.out t p h1)
      · exact List.mem_append_right _ h1
    · rw [oth _ _ ht] at hp' ⊢
      exact h.out t p hp'
  · show (d.g t).length ≤ up N s _ t
    have := h.gl t
    by_cases ht : t = s
    · subst ht
      rw [up_same]
      omega
    · rw [oth _ _ ht]
      exact this
  · have he' : e ∈ (up d.x s x' t).es := he
    by_cases ht : t = s
    · subst ht
      rw [up_same, ha.es] at he'
      rcases List.mem_append.1 he' with h1 | h1
      · exact h.sm t e h1
      · exact ha.sm e h1
    · rw [oth _ _ ht] at he'
      exact h.sm t e he'
theorem DInv.upN {N M : Bool → Nat} {d : DuV} {wl : List (Int × Ev)} (h : DInv N d wl) (hM : ∀ s, N s ≤ M s ∧ M s ≤ 40000000) : DInv M d wl :=
  ⟨fun s => (h.ok s).up (hM s).1 (hM s).2, h.es, h.c, h.t, h.net, h.nl, h.out, fun s => Nat.le_trans (h.gl s) (hM s).1, h.sm⟩
/-- What is under way is something else. -/
theorem DInv.netw {N : Bool → Nat} {d : DuV} {wl : List (Int × Ev)} (h : DInv N d wl) {s : Bool} {l' : List By2} (v : Bool → Value) (hl : l'.length ≤ 200) (hn : ∀ y ∈ l', NOk (sents (d.x (!s)).es) y) : DInv N { d with v := v, l := up d.l s l' } wl := by
  refine ⟨h.ok, h.es, h.c, h.t, fun t y hy => ?_, fun t => ?_, h.out, h.gl, h.sm⟩
  · have hy' : y ∈ up d.l s l' t := hy
    by_cases ht : t = s
    · subst ht
      rw [up_same] at hy'
      exact hn y hy'
    · rw [up_other _ _ ht] at hy'
      exact h.net t y hy'
  · show (up d.l s l' t).length ≤ 200
    by_cases ht : t = s
    · subst ht
      rw [up_same]
      exact hl
    · rw [up_other _ _ ht]
      exact h.nl t
theorem DInv.gotw {N : Bool → Nat} {d : DuV} {wl : List (Int × Ev)} (h : DInv N d wl) {s : Bool} {g' : List Int} (u : Bool → Value) (hl : g'.length ≤ N s) : DInv N { d with u := u, g := up d.g s g' } wl := by
  refine ⟨h.ok, h.es, h.c, h.t, h.net, h.nl, h.out, fun t => ?_, h.sm⟩
  show (up d.g s g' t).length ≤ N t
  by_cases ht : t = s
  · subst ht
    rw [up_same]
    exact hl
  · rw [up_other _ _ ht]
    exact h.gl t
end Go.Proofs.YtdneakejlbabeaaGreat

namespace Go.Proofs.YtdneakejlbabeaaGreat
open Go.RowKit
set_option linter.unusedVariables false
set_option linter.unusedSimpArgs false

theorem PkRow.prow {o : Nat → Nat} {B : Nat} {w : World} {v : Value} {ps : List Pk} (h : PkRow o B w v ps) : PRow (frozen o) w v ps :=
  OutG.row (fun p x hx u hu => by
    simp only [pcells, List.mem_cons, List.not_mem_nil, or_false] at hu
    rcases hu with rfl | rfl | rfl | rfl | rfl | rfl | rfl | rfl | rfl <;> first | rfl | exact BV.oneC hx) h
theorem idx80_0 (p q : Option Addr) (w : World) : (Instr.index 80 (.agg #[.pointer p, .pointer q]) (.int .i64 0)).run Tryz.prog w = .ok (.pointer p) w := by kernel_rfl
theorem idx80_1 (p q : Option Addr) (w : World) : (Instr.index 80 (.agg #[.pointer p, .pointer q]) (.int .i64 1)).run Tryz.prog w = .ok (.pointer q) w := by kernel_rfl
attribute [local go_sem] idx80_0 idx80_1
def tookE (x : EndV) : EndV := { x with vO := .slice none 0 0, outs := [] }
/-- What an end said is taken. -/
theorem DuS.took {o : Nat → Nat} {B : Nat} {w : World} {gd : Nat} {d : DuV} (h : DuS o B w gd d) (s : Bool) : DuS o B (w.setCell ⟨d.ge s, 18, none⟩ (.slice none 0 0)) gd { d with x := up d.x s (tookE (d.x s)) } ∧ Stp (fun c => c = kk s) o o w (w.setCell ⟨d.ge s, 18, none⟩ (.slice none 0 0)) := by
  have he := h.e s
  have st : Stp (fun c => c = kk s) o o w (w.setCell ⟨d.ge s, 18, none⟩ (.slice none 0 0)) := ⟨(Frm.refl _ _).setCell (.inl he.og) _, Agr.refl _ _⟩
  refine ⟨h.putE (s := s) (he.put8 (st.mono (fun c hc => .inl hc)) (by simpa using he.blk.set 18 (.slice none 0 0)) ⟨OutG.nil _ _ _ _ _ _ _, fun j hj => by cases hj⟩) (st.mono (fun c hc => by rw [hc]; exact ⟨by omega, by omega⟩)), st⟩
theorem DInv.took {N : Bool → Nat} {d : DuV} {wl : List (Int × Ev)} (h : DInv N d wl) (s : Bool) : DInv N { d with x := up d.x s (tookE (d.x s)) } wl := by
  have he : ∀ t, (up d.x s (tookE (d.x s)) t).es = (d.x t).es := fun t => by
    by_cases ht : t = s
    · subst ht; rw [up_same]; rfl
    · rw [up_other _ _ ht]
  refine ⟨fun t => ?_, fun t => ?_, h.c, h.t, fun t y hy => ?_, h.nl, fun t p hp => ?_, h.gl, fun t e hx => h.sm t e (by rw [← he]; exact hx)⟩
  · show EOk (N t) (up d.x s _ t)
    by_cases ht : t = s
    · subst ht
      rw [up_same]
      obtain ⟨h1, h2, h3, h4, h5, h6, h7, h8, h9, h10⟩ := h.ok t
      exact ⟨h1, h2, h3, h4, h5, h6, h7, h8, Nat.zero_le _, h10⟩
    · rw [up_other _ _ ht]
      exact h.ok t
  · show _ = (up d.x s _ t).es
    rw [he]
    exact h.es t
  · show NOk (sents (up d.x s _ (!t)).es) y
    rw [he]
    exact h.net t y hy
  · have hp' : p ∈ (up d.x s (tookE (d.x s)) t).outs := hp
    show p ∈ sents (up d.x s _ t).es
    rw [he]
    by_cases ht : t = s
    · subst ht
      rw [up_same] at hp'
      cases hp'
    · rw [up_other _ _ ht] at hp'
      exact h.out t p hp'
/-- A packet of an end's is put. -/
def PassI (o : Nat → Nat) (B : Nat) (w : World) (gd : Nat) (N : Bool → Nat) (d : DuV) (wl : List (Int × Ev)) (j : Nat) (wr : World) : Prop :=
  ∃ (o' : Nat → Nat) (d' : DuV), DuS o' B wr gd d' ∧ Stp DC o o' w wr ∧ DInv N d' wl ∧ d'.ge = d.ge ∧ (1 ≤ j → (d'.x false).outs = []) ∧ (2 ≤ j → (d'.x true).outs = [])
def PutI (o1 : Nat → Nat) (B : Nat) (w1 : World) (gd : Nat) (N : Bool → Nat) (d1 : DuV) (wl : List (Int × Ev)) (s : Bool) (ws : World) : Prop :=
  ∃ (o' : Nat → Nat) (d' : DuV), DuS o' B ws gd d' ∧ Stp (fun c => c = 300 ∨ c = 302 + sN (!s)) o1 o' w1 ws ∧ DInv N d' wl ∧ d'.ge = d1.ge ∧ d'.x = d1.x
theorem PutI.put {o1 o2 : Nat → Nat} {B : Nat} {w1 ws w' : World} {gd : Nat} {N : Bool → Nat} {d1 d2 : DuV} {wl : List (Int × Ev)} {s : Bool} {p : Pk} {e : Ending} (h : DuS o2 B ws gd d2) (st : Stp (fun c => c = 300 ∨ c = 302 + sN (!s)) o1 o2 w1 ws) (hi : DInv N d2 wl) (hge : d2.ge = d1.ge) (hx : d2.x = d1.x) (hp : p ∈ sents (d2.x s).es) (hn : NPutR o2 B ws gd (!s) (d2.l (!s)) p e w') :
    ∃ n : Int, e = .returned (.int .i64 n) ∧ PutI o1 B w1 gd N d1 wl s w' := by
  obtain ⟨n, rfl, hn | ⟨hr, hl, hn⟩⟩ := hn
  · exact ⟨n, rfl, o2, d2, h.below hn, st.trans (Stp.below hn), hi, hge, hx⟩
  · obtain ⟨o3, v3, h3, st3⟩ := h.putN hn
    refine ⟨n, rfl, o3, _, h3, st.trans st3, hi.netw _ (by rw [List.length_append]; exact hl) (fun y hy => ?_), hge, hx⟩
    rw [Bool.not_not]
    have hmem : ∀ y ∈ d2.l (!s) ++ [(sealL (plainL p), false)], Byt y.1 := fun y hy => by
      have := (h3.n (!s)).byt (y := y)
      show Byt y.1
      refine this ?_
      show y ∈ up d2.l (!s) _ (!s)
      rw [up_same]
      exact hy
    rcases List.mem_append.1 hy with h1 | h1
    · have := hi.net (!s) y h1
      rwa [Bool.not_not] at this
    · rw [List.mem_singleton.1 h1]
      exact ⟨p, hp, hr, hmem (sealL (plainL p), false) (by simp), .inl ⟨rfl, rfl⟩⟩
theorem PassI.next {o o1 : Nat → Nat} {B : Nat} {w wr w1 w' : World} {gd : Nat} {N : Bool → Nat} {d d1 : DuV} {wl : List (Int × Ev)} {s : Bool} {j : Nat} (hj : (j : Int) = sI s) (h : DuS o1 B wr gd d1) (st : Stp DC o o1 w wr) (hge : d1.ge = d.ge) (h0 : 1 ≤ j → (d1.x false).outs = [])
    (hs1 : Stp (fun c => c = kk s) o1 o1 wr w1) (hp : PutI o1 B w1 gd N { d1 with x := up d1.x s (tookE (d1.x s)) } wl s w') : PassI o B w gd N d wl (j + 1) w' := by
  obtain ⟨o2, d2, h2, st2, hi2, hge2, hx2⟩ := hp
  have hk := kk_cases s
  have hn := sN_cases (!s)
  refine ⟨o2, d2, h2, (st.trans (hs1.mono (fun c hc => by rw [hc]; exact ⟨by omega, by omega⟩))).trans (st2.mono (fun c hc => by rcases hc with rfl | rfl <;> exact ⟨by omega, by omega⟩)), hi2, hge2.trans hge, fun _ => ?_, fun h2j => ?_⟩
  · rw [hx2]
    show (up d1.x s _ false).outs = []
    cases s
    · rw [up_same]; rfl
    · rw [up_other _ _ (by simp)]
      exact h0 (by simp [sI] at hj; omega)
  · rw [hx2]
    show (up d1.x s _ true).outs = []
    cases s
    · simp [sI] at hj; omega
    · rw [up_same]; rfl
def PassR (o : Nat → Nat) (B : Nat) (w : World) (gd : Nat) (N : Bool → Nat) (d : DuV) (wl : List (Int × Ev)) (e : Ending) (w' : World) : Prop := e = .returned (.tuple #[]) ∧ PassI o B w gd N d wl 2 w'
set_option maxHeartbeats 16000000 in
set_option maxRecDepth 100000 in
theorem pass_any (o : Nat → Nat) (B : Nat) (w : World) (gd : Nat) (N : Bool → Nat) (d : DuV) (wl : List (Int × Ev)) (h : DuS o B w gd d) (hi : DInv N d wl) (hB : B ≤ w.heap.size) :
    Calls Tryz.prog 32 #[.pointer (some ⟨gd, 0, none⟩)] w fun e w' => PassR o B w gd N d wl e w' := by
  have START : Hid (PassI o B w gd N d wl 0 w) := Lib.hid ⟨o, d, h, Stp.refl _ _ _, hi, rfl, fun h => by omega, fun h => by omega⟩
  have n0 := h.blk.cell 0
  have n1 := h.blk.cell 1
  simp only [List.getElem?_toArray, List.getElem?_cons_zero, List.getElem?_cons_succ] at n0 n1
  clear h hi
  go_enter Tryz.func32, Tryz.ntmps32
  go_wp2_with fail
  clear n0 n1
  go_loopw [10] (fun i wr => ∃ j : Nat, j ≤ 2 ∧ i = .int .i64 j ∧ PassI o B w gd N d wl j wr) (fun i _ => 2 - (intOf i).toNat)
  case atStart => exact ⟨0, Nat.zero_le _, rfl, START.out⟩
  case round =>
    obtain ⟨j, hj, rfl, hI⟩ := hrel
    have HI := Lib.hid hI
    obtain ⟨o1, d1, h1, st1, hi1, hge1, hz0, hz1⟩ := hI
    by_cases hj2 : j < 2
    · obtain ⟨s, hs⟩ : ∃ s : Bool, (j : Int) = sI s := by
        rcases (by omega : j = 0 ∨ j = 1) with rfl | rfl
        · exact ⟨false, rfl⟩
        · exact ⟨true, rfl⟩
      have hgs : d.ge s = d1.ge s := by rw [hge1]
      have sr := st1.size
      have j1 : (j : Int) < 2 := by omega
      have iwj : IntKind.i64.wrap ((j : Int) + 1) = (j : Int) + 1 := IntWalk.i64_in _ ⟨by omega, by omega⟩
      obtain ⟨h2, st2⟩ := h1.took s
      have hi2 := hi1.took s
      have r8 := (h1.e s).c8.r
      have ow8 := (h1.e s).c8.ow
      have hout := hi1.out s
      obtain ⟨A8, c8, hv8⟩ := r8.form
      have TK : Hid (Calls Tryz.prog 50 #[.pointer (some ⟨d.ge s, 0, none⟩)] wr fun e w' => e = .returned (.slice A8 (d1.x s).outs.length c8) ∧ w' = wr.setCell ⟨d1.ge s, 18, none⟩ (.slice none 0 0)) := Lib.hid (by rw [hgs, ← hv8]; exact etake_any o1 (kk s) B wr (d1.ge s) (d1.x s) (h1.e s))
      obtain ⟨w1, hw1⟩ : ∃ W, W = wr.setCell ⟨d1.ge s, 18, none⟩ (.slice none 0 0) := ⟨_, rfl⟩
      rw [← hw1] at h2 st2 TK
      have RW : Hid (PkRow o1 B w1 (.slice A8 (d1.x s).outs.length c8) (d1.x s).outs ∧ Ow o1 w1 (kk s + 8) (.slice A8 (d1.x s).outs.length c8)) := Lib.hid (by
        have hk := kk_cases s
        rw [← hv8]
        exact ⟨r8.frmO liesP ow8 st2 (by omega) (by omega) (by omega), ow8.frm st2.ag st2.size⟩)
      have NXT : Hid (∀ w', PutI o1 B w1 gd N { d1 with x := up d1.x s (tookE (d1.x s)) } wl s w' → PassI o B w gd N d wl (j + 1) w') := Lib.hid (fun w' hp => PassI.next hs h1 st1 hge1 hz0 st2 hp)
      obtain ⟨d2, hd2⟩ : ∃ d2 : DuV, d2 = { d1 with x := up d1.x s (tookE (d1.x s)) } := ⟨_, rfl⟩
      rw [← hd2] at h2 hi2 NXT
      have hes2 : (d2.x s).es = (d1.x s).es := by rw [hd2]; show (up d1.x s _ s).es = _; rw [up_same]; rfl
      have P0 : Hid (PutI o1 B w1 gd N d2 wl s w1) := Lib.hid ⟨o1, d2, h2, Stp.refl _ _ _, hi2, rfl, rfl⟩
      obtain ⟨ps, hps⟩ : ∃ ps, (d1.x s).outs = ps := ⟨_, rfl⟩
      rw [hps] at RW TK hout
      have HOUT : Hid (∀ p ∈ ps, p ∈ sents (d2.x s).es ∧ p.data.length ≤ 1000000) := Lib.hid (fun p hp => by
        have h1 := hout p hp
        rw [hes2]
        refine ⟨h1, ?_⟩
        obtain ⟨e, he, _, rfl⟩ := sents_mem h1
        exact (hi1.sm s e he).2)
      obtain ⟨np, hnp⟩ : ∃ n, ps.length = n := ⟨_, rfl⟩
      rw [hnp] at TK RW
      have hnpl : np ≤ 100000000 := by
        have q1 := (hi1.ok s).outs
        have q2 := (hi1.ok s).N
        have q3 := (h1.e s).said_le
        rw [hps] at q1
        omega
      have HNP := Lib.hid hnp
      have HW1 := Lib.hid hw1
      have HS := Lib.hid hs
      clear h1 st1 hi1 hge1 hz0 hz1 h2 st2 hi2 r8 ow8 hout hv8 hgs hd2 hes2 hps hnp hw1 HI
      rcases (by omega : j = 0 ∨ j = 1) with rfl | rfl
      · obtain rfl : s = false := by cases s <;> simp [sI] at hs <;> rfl
        unfold sI at HS
        clear hs
        go_wp2_with fail
        refine TK.out.mono ?_
        rintro e w1 ⟨rfl, rfl⟩
        have SZ : Hid (B ≤ w1.heap.size) := Lib.hid (Nat.le_trans (Nat.le_trans hB sr) (by rw [HW1.out]; simp [World.setCell]))
        go_wp2_with fail
        go_loopw [17] (fun i ws => ∃ m : Nat, m ≤ np ∧ i = .int .i64 m ∧ PutI o1 B w1 gd N d2 wl false ws) (fun i _ => np - (intOf i).toNat)
        case atStart => exact ⟨0, Nat.zero_le _, rfl, P0.out⟩
        case round =>
          obtain ⟨m, hm, rfl, hI2⟩ := hrel
          have HI2 := Lib.hid hI2
          clear hI2
          by_cases hmn : m < np
          · have m0 : (0 : Int) ≤ (m : Int) := by omega
            have m1 : (m : Int) < (np : Int) := by omega
            have iwm : IntKind.i64.wrap ((m : Int) + 1) = (m : Int) + 1 := IntWalk.i64_in _ ⟨by omega, by omega⟩
            obtain ⟨o3, d3, h3, st3, hi3, hge3, hx3⟩ := HI2.out
            have sr3 := st3.size
            have hrw : PkRow o3 B _ (.slice A8 np c8) ps := RW.out.1.frmO liesP RW.out.2 st3 (by omega) (by simp [sN, kk]) (by simp [kk])
            obtain ⟨ad, p, xv, rfl, hp, hbv, q0, q1, q2, q3, q4, q5, q6, q7, q8⟩ := PRow.pk hrw.prow (i := m) (by have := HNP.out; omega)
            have hpm := HOUT.out p (List.mem_of_getElem? hp)
            rw [← hx3] at hpm
            obtain ⟨Ax, cx, rfl, _, _⟩ := hbv.len
            have HB := Lib.hid hbv
            have H3 := Lib.hid h3
            have I3 := Lib.hid hi3
            have ST3 := Lib.hid st3
            have G3 := Lib.hid hge3
            have X3 := Lib.hid hx3
            have HPM := Lib.hid hpm
            clear h3 st3 hi3 hge3 hx3 hpm hbv hrw hp HI2
            go_wp2_with fail
            obtain ⟨w5, hw5⟩ : ∃ W, W = wr.alloc (.cells #[.int .i64 p.kind, .int .i64 p.path, .int .i64 p.number, .int .i64 p.of_, .int .i64 p.from_, .slice Ax p.data.length cx, .bool p.fin, .int .i64 p.seen, .int .i64 p.limit] 27) := ⟨_, rfl⟩
            obtain ⟨gp, hgp⟩ : ∃ h, h = wr.heap.size := ⟨_, rfl⟩
            have B5 : Hid (Below wr.heap.size wr w5) := Lib.hid (by rw [hw5]; exact (Below.refl _ _).alloc (Nat.le_refl _) _)
            have BX : Hid (Blk w5 gp (pcells p (.slice Ax p.data.length cx)).toArray 27) := Lib.hid (by rw [hw5, hgp]; exact Blk.new _ _ _)
            rw [← hw5, ← hgp]
            clear hw5 hgp q0 q1 q2 q3 q4 q5 q6 q7 q8
            obtain ⟨k0, k1, k2, k3, k4, k5, k6, k7, k8⟩ := PB.of BX.out
            have H5 := Lib.hid (H3.out.below B5.out.drew)
            have NP : Hid (Calls Tryz.prog 51 #[.pointer (some ⟨gd, 2, none⟩), .int .i64 (sI (!false)), pagg p (.slice Ax p.data.length cx)] w5.drew fun e w' => ∃ n : Int, e = .returned (.int .i64 n) ∧ PutI o1 B w1 gd N d2 wl false w') := Lib.hid ((nput_any w5.drew gd o3 B d3.v d3.l (!false) p (frozen o3) _ (H5.out.blk.cell 2) (H5.out.blk.cell 3) (fun i => H5.out.blk.free i) H5.out.n (H5.out.no _) H5.out.og (Nat.le_trans (Nat.le_trans SZ.out sr3) B5.out.size) (HB.out.below B5.out.drew) HPM.out.2).mono (fun e w' hn => PutI.put H5.out (ST3.out.trans (Stp.below B5.out.drew)) I3.out G3.out X3.out HPM.out.1 hn))
            unfold sI at NP
            clear H3
            go_wp2_with fail
            refine wp_region_still_tail (id := 6) 6 (by kernel_rfl) (by kernel_rfl) ?_
            change wpStill _ _ (World.drew _) (fun a' => wpList _ _ _ _ a' (World.drew _)) _ _
            simp only [List.take_succ_cons, List.take_zero, List.drop_succ_cons, List.drop_zero]
            repeat still_step
            refine wpStill_nil ?_
            go_wp2_with fail
            refine NP.out.mono ?_
            rintro e w7 ⟨n7, rfl, hp7⟩
            have P7 := Lib.hid hp7
            clear hp7
            go_wp2_with fail
            go_roundw
            case rel => exact ⟨m + 1, hmn, by go_num, P7.out⟩
            case measure => simp [intOf]; omega
          · have m1 : ¬ (m : Int) < (np : Int) := by omega
            have NX := Lib.hid (NXT.out _ HI2.out)
            clear HI2
            go_wp2_with fail
            go_roundw
            case rel => exact ⟨_, by omega, by go_num, NX.out⟩
            case measure => simp [intOf]
      · obtain rfl : s = true := by cases s <;> simp [sI] at hs <;> rfl
        unfold sI at HS
        clear hs
        go_wp2_with fail
        refine TK.out.mono ?_
        rintro e w1 ⟨rfl, rfl⟩
        have SZ : Hid (B ≤ w1.heap.size) := Lib.hid (Nat.le_trans (Nat.le_trans hB sr) (by rw [HW1.out]; simp [World.setCell]))
        go_wp2_with fail
        go_loopw [17] (fun i ws => ∃ m : Nat, m ≤ np ∧ i = .int .i64 m ∧ PutI o1 B w1 gd N d2 wl true ws) (fun i _ => np - (intOf i).toNat)
        case atStart => exact ⟨0, Nat.zero_le _, rfl, P0.out⟩
        case round =>
          obtain ⟨m, hm, rfl, hI2⟩ := hrel
          have HI2 := Lib.hid hI2
          clear hI2
          by_cases hmn : m < np
          · have m0 : (0 : Int) ≤ (m : Int) := by omega
            have m1 : (m : Int) < (np : Int) := by omega
            have iwm : IntKind.i64.wrap ((m : Int) + 1) = (m : Int) + 1 := IntWalk.i64_in _ ⟨by omega, by omega⟩
            obtain ⟨o3, d3, h3, st3, hi3, hge3, hx3⟩ := HI2.out
            have sr3 := st3.size
            have hrw : PkRow o3 B _ (.slice A8 np c8) ps := RW.out.1.frmO liesP RW.out.2 st3 (by omega) (by simp [sN, kk]) (by simp [kk])
            obtain ⟨ad, p, xv, rfl, hp, hbv, q0, q1, q2, q3, q4, q5, q6, q7, q8⟩ := PRow.pk hrw.prow (i := m) (by have := HNP.out; omega)
            have hpm := HOUT.out p (List.mem_of_getElem? hp)
            rw [← hx3] at hpm
            obtain ⟨Ax, cx, rfl, _, _⟩ := hbv.len
            have HB := Lib.hid hbv
            have H3 := Lib.hid h3
            have I3 := Lib.hid hi3
            have ST3 := Lib.hid st3
            have G3 := Lib.hid hge3
            have X3 := Lib.hid hx3
            have HPM := Lib.hid hpm
            clear h3 st3 hi3 hge3 hx3 hpm hbv hrw hp HI2
            go_wp2_with fail
            obtain ⟨w5, hw5⟩ : ∃ W, W = wr.alloc (.cells #[.int .i64 p.kind, .int .i64 p.path, .int .i64 p.number, .int .i64 p.of_, .int .i64 p.from_, .slice Ax p.data.length cx, .bool p.fin, .int .i64 p.seen, .int .i64 p.limit] 27) := ⟨_, rfl⟩
            obtain ⟨gp, hgp⟩ : ∃ h, h = wr.heap.size := ⟨_, rfl⟩
            have B5 : Hid (Below wr.heap.size wr w5) := Lib.hid (by rw [hw5]; exact (Below.refl _ _).alloc (Nat.le_refl _) _)
            have BX : Hid (Blk w5 gp (pcells p (.slice Ax p.data.length cx)).toArray 27) := Lib.hid (by rw [hw5, hgp]; exact Blk.new _ _ _)
            rw [← hw5, ← hgp]
            clear hw5 hgp q0 q1 q2 q3 q4 q5 q6 q7 q8
            obtain ⟨k0, k1, k2, k3, k4, k5, k6, k7, k8⟩ := PB.of BX.out
            have H5 := Lib.hid (H3.out.below B5.out.drew)
            have NP : Hid (Calls Tryz.prog 51 #[.pointer (some ⟨gd, 2, none⟩), .int .i64 (sI (!true)), pagg p (.slice Ax p.data.length cx)] w5.drew fun e w' => ∃ n : Int, e = .returned (.int .i64 n) ∧ PutI o1 B w1 gd N d2 wl true w') := Lib.hid ((nput_any w5.drew gd o3 B d3.v d3.l (!true) p (frozen o3) _ (H5.out.blk.cell 2) (H5.out.blk.cell 3) (fun i => H5.out.blk.free i) H5.out.n (H5.out.no _) H5.out.og (Nat.le_trans (Nat.le_trans SZ.out sr3) B5.out.size) (HB.out.below B5.out.drew) HPM.out.2).mono (fun e w' hn => PutI.put H5.out (ST3.out.trans (Stp.below B5.out.drew)) I3.out G3.out X3.out HPM.out.1 hn))
            unfold sI at NP
            clear H3
            go_wp2_with fail
            refine wp_region_still_tail (id := 6) 6 (by kernel_rfl) (by kernel_rfl) ?_
            change wpStill _ _ (World.drew _) (fun a' => wpList _ _ _ _ a' (World.drew _)) _ _
            simp only [List.take_succ_cons, List.take_zero, List.drop_succ_cons, List.drop_zero]
            repeat still_step
            refine wpStill_nil ?_
            go_wp2_with fail
            refine NP.out.mono ?_
            rintro e w7 ⟨n7, rfl, hp7⟩
            have P7 := Lib.hid hp7
            clear hp7
            go_wp2_with fail
            go_roundw
            case rel => exact ⟨m + 1, hmn, by go_num, P7.out⟩
            case measure => simp [intOf]; omega
          · have m1 : ¬ (m : Int) < (np : Int) := by omega
            have NX := Lib.hid (NXT.out _ HI2.out)
            clear HI2
            go_wp2_with fail
            go_roundw
            case rel => exact ⟨_, by omega, by go_num, NX.out⟩
            case measure => simp [intOf]
    · obtain rfl : j = 2 := by omega
      clear h1 st1 hi1 hge1 hz0 hz1
      go_wp2_with fail
      refine bodyPost_ret (results_none rfl _ _ _) rfl ?_
      exact ⟨rfl, HI.out⟩
end Go.Proofs.YtdneakejlbabeaaGreat
