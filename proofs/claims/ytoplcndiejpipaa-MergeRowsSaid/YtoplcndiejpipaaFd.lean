/- Rows that a call lays anew, thing by thing; one side's events of a joined row. -/
import Derived.Test.YtoplcndiejpipaaFc
namespace Go.Proofs.Ytoplcndiejpipaa
open Go.RowKit
set_option linter.unusedVariables false
set_option linter.unusedSimpArgs false

theorem own_frm {S : Nat → Prop} {w w' : World} {base e size n : Nat} {v : Value} {xs : List Value} (h : w.ownsRow base e size v n xs) (k : Frm S w w') (hn : ∀ g, v.ownBlock = some g → ¬ S g) : w'.ownsRow base e size v n xs := by
  refine ⟨h.1, ?_⟩
  rcases h.2 with hn | ⟨g, cap, cur, rfl, hb, hgg, rest⟩
  · exact .inl hn
  · exact .inr ⟨g, cap, cur, rfl, hb, (k.block g (Array.getElem?_eq_some_iff.1 hgg).1 (hn g rfl)).trans hgg, rest⟩
theorem own_base {w : World} {base base' e size n : Nat} {v : Value} {xs : List Value} (h : w.ownsRow base e size v n xs) (hb : base' ≤ base) : w.ownsRow base' e size v n xs := by
  refine ⟨h.1, ?_⟩
  rcases h.2 with hn | ⟨g, cap, cur, rfl, hb', rest⟩
  · exact .inl hn
  · exact .inr ⟨g, cap, cur, rfl, by omega, rest⟩

/-- What a thing that lies about in memory is: it holds behind what does not touch its own, and may be said of more. -/
structure Lies {α β : Type} (X : (Nat → Prop) → World → α → β → Prop) : Prop where
  frm : ∀ {S T : Nat → Prop} {w w' : World} {a : α} {b : β}, X S w a b → Frm T w w' → (∀ j, S j → ¬ T j) → X S w' a b
  mono : ∀ {S S' : Nat → Prop} {w : World} {a : α} {b : β}, X S w a b → (∀ j, S j → j < w.heap.size → S' j) → X S' w a b
theorem liesE : Lies (fun S w (e : Ev) x => EV w S e x) := ⟨fun h k hT => h.frm k hT, fun h hS => h.mono hS⟩
theorem liesN : Lies (fun S w (y : Int × Ev) x => EV w S y.2 x) := ⟨fun h k hT => h.frm k hT, fun h hS => h.mono hS⟩
theorem liesP : Lies (fun S w (p : Pk) x => BV w S x p.data) := ⟨fun h k hT => h.frm k hT, fun h hS => h.mono hS⟩

/-- A row of the call's own. -/
def OutG {α β : Type} (f : α → β → List Value) (k te : Nat) (X : (Nat → Prop) → World → α → β → Prop) (base : Nat) (S : Nat → Prop) (w : World) (v : Value) (l : List α) : Prop :=
  ∃ vs : List β, w.ownsRow base te k v l.length (rowsG f l vs) ∧ vs.length = l.length ∧ (∀ (i : Nat) (a : α) (b : β), l[i]? = some a → vs[i]? = some b → X S w a b) ∧ (∀ j, v.ownBlock = some j → ¬ S j)
section
variable {α β : Type} {f : α → β → List Value} {k te : Nat} {X : (Nat → Prop) → World → α → β → Prop} {base : Nat} {S T : Nat → Prop} {w w' : World} {v : Value} {l : List α}
theorem OutG.nil (f : α → β → List Value) (k te : Nat) (X : (Nat → Prop) → World → α → β → Prop) (base : Nat) (S : Nat → Prop) (w : World) : OutG f k te X base S w (.slice none 0 0) ([] : List α) :=
  ⟨[], World.ownsRow_nil _ _ _ _, rfl, fun i a b h => by simp at h, fun j h => by cases h⟩
theorem OutG.frm (hX : Lies X) (h : OutG f k te X base S w v l) (kf : Frm T w w') (hT : ∀ j, S j → ¬ T j) (hv : ∀ j, v.ownBlock = some j → ¬ T j) : OutG f k te X base S w' v l := by
  obtain ⟨vs, h1, h2, h3, h4⟩ := h
  exact ⟨vs, own_frm h1 kf hv, h2, fun i a b ha hb => hX.frm (h3 i a b ha hb) kf hT, h4⟩
theorem OutG.below (hX : Lies X) (h : OutG f k te X base S w v l) (kb : Below w.heap.size w w') : OutG f k te X base S w' v l :=
  h.frm hX (Frm.of_below (S := fun _ => False) kb) (fun _ _ h => h) (fun _ _ h => h)
theorem OutG.form (h : OutG f k te X base S w v l) : ∃ A c, v = .slice A l.length c := by
  obtain ⟨vs, h1, _⟩ := h
  exact own_slice' h1
theorem OutG.row (hf1 : ∀ a b, X S w a b → ∀ u ∈ f a b, u.oneCell' = true) (h : OutG f k te X base S w v l) : RowV f k (X S) w v l := by
  obtain ⟨vs, h1, h2, h3, _⟩ := h
  exact ⟨vs, h2, Sl.of_own h1 (rowsG_all _ l vs (fun i a b ha hb => hf1 a b (h3 i a b ha hb))), h3⟩
theorem OutG.own (h : OutG f k te X base S w v l) : ∀ j, v.ownBlock = some j → base ≤ j ∧ j < w.heap.size := by
  obtain ⟨vs, h1, _⟩ := h
  exact fun j hj => h1.lt j hj
/-- One thing more: w the world ahead, W1 that in which the thing was laid, W2 that of the append. -/
theorem OutG.snoc (hX : Lies X) {a : α} {b : β} {W1 W2 : World} {v' : Value} {T' : Nat → Prop} {vs : List β} (h1 : w.ownsRow base te k v l.length (rowsG f l vs)) (h2 : vs.length = l.length) (h3 : ∀ (i : Nat) (a : α) (b : β), l[i]? = some a → vs[i]? = some b → X S w a b) (h4 : ∀ j, v.ownBlock = some j → ¬ S j) (k1 : Below w.heap.size w W1) (hx : X T' W1 a b) (hT' : ∀ j, T' j → w.heap.size ≤ j) {o : Obj}
    (hfr : Frm (fun j => v.ownBlock = some j) (W1.alloc o) W2) (hown : W2.ownsRow base te k v' (l.length + 1) (rowsG f l vs ++ f a b)) (hat : v'.ownBlock = v.ownBlock ∨ v'.ownBlock = some (W1.alloc o).heap.size) :
    OutG f k te X base (fun j => (S j ∧ j < w.heap.size) ∨ (T' j ∧ j < W1.heap.size)) W2 v' (l ++ [a]) := by
  have hlt := h1.lt
  have F : Frm (fun j => v.ownBlock = some j) w W2 := (((Frm.of_below k1).alloc o)).trans hfr
  have F1 : Frm (fun j => v.ownBlock = some j) W1 W2 := ((Frm.refl _ W1).alloc o).trans hfr
  have sz := k1.size
  refine ⟨vs ++ [b], ?_, by simp [h2], fun i a' b' ha hb => ?_, fun j hj hS => ?_⟩
  · rw [rowsG_snoc l a vs b h2, List.length_append]
    exact hown
  · by_cases hi : i < l.length
    · rw [List.getElem?_append_left hi] at ha
      rw [List.getElem?_append_left (by omega)] at hb
      have g1 := hX.mono (S' := fun j => S j ∧ j < w.heap.size) (h3 i a' b' ha hb) (fun j hj hl => ⟨hj, hl⟩)
      have g2 := hX.frm g1 F (fun j hj e => h4 j e hj.1)
      exact hX.mono g2 (fun j hj _ => .inl hj)
    · have hi2 : i < (l ++ [a]).length := (List.getElem?_eq_some_iff.1 ha).1
      simp only [List.length_append, List.length_cons, List.length_nil] at hi2
      obtain rfl : i = l.length := by omega
      rw [List.getElem?_append_right (Nat.le_refl _), Nat.sub_self] at ha
      rw [List.getElem?_append_right (by omega), h2, Nat.sub_self] at hb
      simp only [List.getElem?_cons_zero, Option.some.injEq] at ha hb
      subst ha
      subst hb
      have g1 := hX.mono (S' := fun j => T' j ∧ j < W1.heap.size) hx (fun j hj hl => ⟨hj, hl⟩)
      have g2 := hX.frm g1 F1 (fun j hj e => by have := (hlt j e).2; have := hT' j hj.1; omega)
      exact hX.mono g2 (fun j hj _ => .inr hj)
  · rcases hat with e | e
    · rw [e] at hj
      have := hlt j hj
      rcases hS with hS | hS
      · exact h4 j hj hS.1
      · have := hT' j hS.1
        omega
    · rw [e] at hj
      injection hj with hj
      have : (W1.alloc o).heap.size = W1.heap.size + 1 := by simp
      rcases hS with hS | hS <;> omega
end
theorem Try.info27 : (Try.prog.info? 27).map (fun i => (i.zero, i.size, i.bytes)) = some (some (.agg #[.int .i64 0, .int .i64 0, .slice none 0 0, .int .i64 0, .int .i64 0, .int .i64 0, .int .i64 0, .int .i64 0, .slice none 0 0, .bool false, .int .i64 0, .int .i64 0]), 12, 128) := by kernel_rfl
theorem Try.info37 : (Try.prog.info? 37).map (fun i => (i.zero, i.size, i.bytes)) = some (some (.agg #[.int .i64 0, .int .i64 0, .int .i64 0, .slice none 0 0, .int .i64 0, .int .i64 0, .int .i64 0, .int .i64 0, .int .i64 0, .slice none 0 0, .bool false, .int .i64 0, .int .i64 0]), 13, 136) := by kernel_rfl
theorem Try.info25 : (Try.prog.info? 25).map (fun i => (i.zero, i.size, i.bytes)) = some (some (.agg #[.int .i64 0, .int .i64 0, .int .i64 0, .int .i64 0, .int .i64 0, .slice none 0 0, .bool false, .int .i64 0, .int .i64 0]), 9, 88) := by kernel_rfl
theorem BV.one {w : World} {S : Nat → Prop} {v : Value} {l : List Int} (h : BV w S v l) : v.oneCell' = true := by
  obtain ⟨A, c, rfl, _⟩ := h
  rfl
theorem EV.one {w : World} {S : Nat → Prop} {e : Ev} {x : Value × Value} (h : EV w S e x) : ∀ u ∈ ecells e x, u.oneCell' = true := by
  intro u hu
  simp only [ecells, List.mem_cons, List.not_mem_nil, or_false] at hu
  rcases hu with rfl | rfl | rfl | rfl | rfl | rfl | rfl | rfl | rfl | rfl | rfl | rfl
  · rfl
  · rfl
  · exact h.1.one
  · rfl
  · rfl
  · rfl
  · rfl
  · rfl
  · exact h.2.one
  · rfl
  · rfl
  · rfl
theorem EV.one' {w : World} {S : Nat → Prop} {y : Int × Ev} {x : Value × Value} (h : EV w S y.2 x) : ∀ u ∈ ncells y x, u.oneCell' = true := by
  intro u hu
  rcases List.mem_cons.1 hu with rfl | hu
  · rfl
  · exact EV.one h u hu
/-- One thing in a block of its own. -/
theorem Sl.boxk (w : World) (e : TypeId) (k : Nat) (cs : List Value) (h : Nat) (hh : h = w.heap.size) (hk : cs.length = k) (h1 : ∀ u ∈ cs, u.oneCell' = true) : Sl (w.alloc (.cells cs.toArray e)) k (.slice (some ⟨h, 0, none⟩) 1 1) 1 cs := by
  subst hh
  refine ⟨_, 1, rfl, Nat.le_refl _, by simp [maxLen], by omega, h1, fun _ => ⟨_, rfl, fun j u hj => ?_⟩⟩
  have ha : (⟨w.heap.size, 0, none⟩ : Addr).add j = ⟨w.heap.size, j, none⟩ := by unfold Addr.add; split <;> simp_all
  rw [ha, (Blk.new w cs.toArray e).cell j]
  simpa using hj
abbrev NRow (S : Nat → Prop) (w : World) (v : Value) (ns : List (Int × Ev)) : Prop := RowV ncells 13 (fun w y x => EV w S y.2 x) w v ns
def only (s : Int) (ns : List (Int × Ev)) : List Ev := (ns.filter (fun y => y.1 == s)).map (·.2)
theorem only_snoc (s : Int) (ns : List (Int × Ev)) (k : Nat) (y : Int × Ev) (h : ns[k]? = some y) : only s (ns.take (k + 1)) = if y.1 = s then only s (ns.take k) ++ [y.2] else only s (ns.take k) := by
  unfold only
  rw [List.take_add_one, h]
  simp only [Option.toList_some, List.filter_append, List.map_append]
  by_cases e : y.1 = s
  · simp [e]
  · simp [e]
theorem only_length (s : Int) (ns : List (Int × Ev)) : (only s ns).length ≤ ns.length := by
  unfold only
  rw [List.length_map]
  exact List.length_filter_le _ _
theorem NRow.below {S : Nat → Prop} {w w' : World} {v : Value} {ns : List (Int × Ev)} (h : NRow S w v ns) (k : Below w.heap.size w w') : NRow S w' v ns :=
  RowV.below h k (fun a b hab => ⟨hab.1.below k, hab.2.below k⟩)
/-- The cells of an entry at an address. -/
def NCells (w : World) (p : Addr) (s : Int) (e : Ev) (x : Value × Value) : Prop :=
  w.cell? p = some (.int .i64 s) ∧ w.cell? ⟨p.block, p.off + 1, none⟩ = some (.int .i64 e.kind) ∧ w.cell? ⟨p.block, p.off + 2, none⟩ = some (.int .i64 e.n) ∧ w.cell? ⟨p.block, p.off + 3, none⟩ = some x.1 ∧ w.cell? ⟨p.block, p.off + 4, none⟩ = some (.int .i64 e.pk.kind) ∧ w.cell? ⟨p.block, p.off + 5, none⟩ = some (.int .i64 e.pk.path) ∧ w.cell? ⟨p.block, p.off + 6, none⟩ = some (.int .i64 e.pk.number) ∧
    w.cell? ⟨p.block, p.off + 7, none⟩ = some (.int .i64 e.pk.of_) ∧ w.cell? ⟨p.block, p.off + 8, none⟩ = some (.int .i64 e.pk.from_) ∧ w.cell? ⟨p.block, p.off + 9, none⟩ = some x.2 ∧ w.cell? ⟨p.block, p.off + 10, none⟩ = some (.bool e.pk.fin) ∧ w.cell? ⟨p.block, p.off + 11, none⟩ = some (.int .i64 e.pk.seen) ∧ w.cell? ⟨p.block, p.off + 12, none⟩ = some (.int .i64 e.pk.limit)
theorem NRow.ev {S : Nat → Prop} {w : World} {A : Option Addr} {n c : Nat} {ns : List (Int × Ev)} (h : NRow S w (.slice A n c) ns) {i : Nat} (hi : i < ns.length) : ∃ ad s e x y, A = some ad ∧ ns[i]? = some (s, e) ∧ EV w S e (x, y) ∧ NCells w (ad.add (i * 13)) s e (x, y) := by
  obtain ⟨ad, ⟨s, e⟩, ⟨x, y⟩, rfl, he, hx, hc⟩ := RowV.at_ h (by omega) ncells_len hi
  have h0 := hc 0 _ rfl
  rw [addr_zero] at h0
  have g := fun (j : Nat) (hj : j ≠ 0) (u : Value) (hu : (ncells (s, e) (x, y))[j]? = some u) => by
    have := hc j u hu
    rw [addr_pos _ _ hj] at this
    exact this
  exact ⟨ad, s, e, x, y, rfl, he, hx, h0, g 1 (by omega) _ rfl, g 2 (by omega) _ rfl, g 3 (by omega) _ rfl, g 4 (by omega) _ rfl, g 5 (by omega) _ rfl, g 6 (by omega) _ rfl, g 7 (by omega) _ rfl, g 8 (by omega) _ rfl, g 9 (by omega) _ rfl, g 10 (by omega) _ rfl, g 11 (by omega) _ rfl, g 12 (by omega) _ rfl⟩
end Go.Proofs.Ytoplcndiejpipaa
