/- Small laws for the walks of chapter 2's laws. -/
import Derived.Test.YtgcolhcajmbehaaFns
import Derived.Deep.AppendLies
namespace Go.Proofs.Ytgcolhcajmbehaa
open Go.RowKit

theorem u8s_take (l : List Nat) (m : Nat) : (u8s l).take m = u8s (l.take m) := by simp [u8s, List.map_take]
theorem take_lt {l : List Nat} (m : Nat) (h : ∀ x ∈ l, x < 256) : ∀ x ∈ l.take m, x < 256 := fun x hx => h x (List.mem_of_mem_take hx)
theorem lt_append {l m : List Nat} (h : ∀ x ∈ l, x < 256) (k : ∀ x ∈ m, x < 256) : ∀ x ∈ l ++ m, x < 256 := fun x hx => by
  rcases List.mem_append.1 hx with h1 | h1
  · exact h x h1
  · exact k x h1
theorem own_len {w : World} {base : Nat} {e : TypeId} {n : Nat} {v : Value} {xs : List Value} (h : w.ownsRow base e 1 v n xs) : xs.length = n := by simpa using h.1

/-- A slice of bytes that came in. -/
theorem bytes_of_row {w : World} {a : Option Addr} {len cap : Nat} {zs : List Int} (h : (a = none ∧ len = 0 ∧ cap = 0 ∧ zs = []) ∨
  ∃ x, a = some x ∧ len ≤ cap ∧ cap ≤ maxLen ∧ zs.length = cap ∧ (∀ i, i < zs.length → w.cell? (x.add i) = some (.int .u8 (zs.getD i 0))) ∧ ∀ n ∈ zs, (Lit.int .u8 n).wf = true) :
    ∃ bs : List Nat, Sl w 1 (.slice a len cap) len (u8s bs) ∧ ∀ x ∈ bs, x < 256 := by
  rcases h with ⟨rfl, rfl, rfl, rfl⟩ | ⟨x, rfl, hl, hm, hz, hc, hw⟩
  · exact ⟨[], Sl.nil w 1, by simp⟩
  · have hwf : ∀ n ∈ zs, 0 ≤ n ∧ n ≤ 255 := fun n hn => by
      have := hw n hn
      simp only [Lit.wf, Bool.and_eq_true, decide_eq_true_eq] at this
      have h1 : IntKind.u8.min = 0 := rfl
      have h2 : IntKind.u8.max = 255 := rfl
      omega
    refine ⟨(zs.take len).map Int.toNat, ⟨some x, cap, rfl, hl, hm, by simp [u8s]; omega, u8s_one _, fun _ => ⟨x, rfl, fun j u hj => ?_⟩⟩, ?_⟩
    · simp only [u8s, List.map_map, List.getElem?_map, Option.map_eq_some_iff] at hj
      obtain ⟨z, hz1, rfl⟩ := hj
      rw [List.getElem?_take] at hz1
      split at hz1
      · have hj2 : j < zs.length := (List.getElem?_eq_some_iff.1 hz1).1
        rw [hc j hj2, List.getD_eq_getElem?_getD, hz1]
        have := hwf z (List.mem_of_getElem? hz1)
        simp only [Option.getD_some, Function.comp_apply]
        rw [Int.toNat_of_nonneg this.1]
      · cases hz1
    · intro n hn
      simp only [List.mem_map] at hn
      obtain ⟨z, hz1, rfl⟩ := hn
      have := hwf z (List.mem_of_mem_take hz1)
      omega

theorem split_two {b : List Nat} {n i : Nat} (hl : b.length = n) (hb : ∀ x ∈ b, x < 256) (hi : i + 1 < n) :
    ∃ pre x y post, b = pre ++ x :: y :: post ∧ pre.length = i ∧ x < 256 ∧ y < 256 ∧ ∀ z ∈ post, z < 256 := by
  refine ⟨b.take i, b[i]'(by omega), b[i + 1]'(by omega), b.drop (i + 2), ?_, by simp; omega, hb _ (List.getElem_mem _), hb _ (List.getElem_mem _), fun z hz => hb z (List.mem_of_mem_drop hz)⟩
  rw [← List.drop_eq_getElem_cons, ← List.drop_eq_getElem_cons, List.take_append_drop]
theorem two_get0 {pre post : List Nat} {x y i : Nat} (h : pre.length = i) : (u8s (pre ++ x :: y :: post))[i]? = some (.int .u8 x) := by
  subst h
  simp [u8s]
theorem two_get1 {pre post : List Nat} {x y i : Nat} (h : pre.length = i) : (u8s (pre ++ x :: y :: post))[i + 1]? = some (.int .u8 y) := by
  subst h
  simp [u8s]
theorem two_swap {pre post : List Nat} {x y i : Nat} (h : pre.length = i) : ((u8s (pre ++ x :: y :: post)).set i (.int .u8 y)).set (i + 1) (.int .u8 x) = u8s (pre ++ y :: x :: post) := by
  subst h
  simp [u8s]
theorem split_one {b : List Nat} {n i : Nat} (hl : b.length = n) (hb : ∀ x ∈ b, x < 256) (hi : i < n) :
    ∃ pre x post, b = pre ++ x :: post ∧ pre.length = i ∧ x < 256 ∧ ∀ z ∈ post, z < 256 := by
  refine ⟨b.take i, b[i]'(by omega), b.drop (i + 1), ?_, by simp; omega, hb _ (List.getElem_mem _), fun z hz => hb z (List.mem_of_mem_drop hz)⟩
  rw [← List.drop_eq_getElem_cons, List.take_append_drop]
theorem one_get {pre post : List Nat} {x i : Nat} (h : pre.length = i) : (u8s (pre ++ x :: post))[i]? = some (.int .u8 x) := by
  subst h
  simp [u8s]
theorem one_set {pre post : List Nat} {x y i : Nat} (h : pre.length = i) : (u8s (pre ++ x :: post)).set i (.int .u8 y) = u8s (pre ++ y :: post) := by
  subst h
  simp [u8s]
theorem Sl.lt_of {w : World} {n : Nat} {v : Value} {xs : List Value} (h : Sl w 1 v n xs) (g : Nat) (hg : v.ownBlock = some g) (hn : 0 < n) : g < w.heap.size := by
  obtain ⟨A, c, rfl, _, _, hl, _, hr⟩ := h
  obtain ⟨ad, rfl, hc⟩ := hr (by omega)
  injection hg with hg
  have := World.block_lt_of_cell? w _ (hc 0 (xs[0]'(by omega)) (List.getElem?_eq_getElem (by omega)))
  have hb : (ad.add 0).block = ad.block := by unfold Addr.add; split <;> rfl
  omega

theorem sl_cell {w : World} {g n c i : Nat} {b : List Nat} (h : Sl w 1 (.slice (some ⟨g, 0, none⟩) n c) n (u8s b)) (hi : i < n) (x : Nat) (hx : b[i]? = some x) : w.cell? ⟨g, i, none⟩ = some (.int .u8 x) := by
  obtain ⟨ad, e, hc⟩ := h.at_ hi
  injection e with e
  subst e
  have ha : (⟨g, 0, none⟩ : Addr).add i = ⟨g, i, none⟩ := by unfold Addr.add; split <;> simp_all
  rw [ha] at hc
  rw [hc]
  simp [u8s, List.getD_eq_getElem?_getD, hx]

/-- What stands while a law's last line is reckoned: the table, three texts, and that nothing old has turned. -/
structure Big (w0 w : World) (K : Nat) (vt vb vc vd : Value) (n : Nat) (b c d : List Nat) : Prop where
  t : Sl w 1 vt 256 (u32s (tabN 256))
  b : Sl w 1 vb n (u8s b)
  c : Sl w 1 vc n (u8s c)
  d : Sl w 1 vd n (u8s d)
  k : Below w0.heap.size w0 w
  s : w0.heap.size ≤ w.heap.size
  z : K ≤ w.heap.size
  l : ∀ g, (vt.ownBlock = some g ∨ vb.ownBlock = some g ∨ vc.ownBlock = some g ∨ vd.ownBlock = some g) → g < K
section
variable {w0 w w1 : World} {K : Nat} {vt vb vc vd : Value} {n : Nat} {b c d : List Nat}
theorem Big.below (h : Big w0 w K vt vb vc vd n b c d) (k : Below w.heap.size w w1) : Big w0 w1 K vt vb vc vd n b c d :=
  ⟨h.t.below k, h.b.below k, h.c.below k, h.d.below k, h.k.trans (k.mono h.s), Nat.le_trans h.s k.size, Nat.le_trans h.z k.size, h.l⟩
theorem Big.alloc (h : Big w0 w K vt vb vc vd n b c d) (o : Obj) : Big w0 (w.alloc o) K vt vb vc vd n b c d := h.below ((Below.refl _ _).alloc (Nat.le_refl _) _)
theorem Big.drew (h : Big w0 w K vt vb vc vd n b c d) : Big w0 w.drew K vt vb vc vd n b c d := ⟨h.t, h.b, h.c, h.d, h.k.drew, h.s, h.z, h.l⟩
theorem Big.frm {v : Value} (h : Big w0 w K vt vb vc vd n b c d) (k : Frm (fun j => v.ownBlock = some j) w w1) (hv : ∀ g, v.ownBlock = some g → K ≤ g) (hw : w0.heap.size ≤ K) : Big w0 w1 K vt vb vc vd n b c d :=
  ⟨h.t.frm k (fun g hg e => by have := h.l g (.inl hg); have := hv g e; omega), h.b.frm k (fun g hg e => by have := h.l g (.inr (.inl hg)); have := hv g e; omega),
    h.c.frm k (fun g hg e => by have := h.l g (.inr (.inr (.inl hg))); have := hv g e; omega), h.d.frm k (fun g hg e => by have := h.l g (.inr (.inr (.inr hg))); have := hv g e; omega),
    Frm.below h.k k h.s (fun g e => Nat.le_trans hw (hv g e)), Nat.le_trans h.s k.size, Nat.le_trans h.z k.size, h.l⟩
end
theorem alloc_size (w : World) (o : Obj) : (w.alloc o).heap.size = w.heap.size + 1 := by simp
theorem drew_size (w : World) : w.drew.heap.size = w.heap.size := rfl
theorem own_lower {w : World} {base base' size n : Nat} {e : TypeId} {v : Value} {xs : List Value} (h : w.ownsRow base e size v n xs) (hb : base' ≤ base) : w.ownsRow base' e size v n xs :=
  ⟨h.1, h.2.elim Or.inl (fun ⟨g, cap, cur, hv, hg, r⟩ => Or.inr ⟨g, cap, cur, hv, Nat.le_trans hb hg, r⟩)⟩
theorem own_alloc {w : World} {base size n : Nat} {e : TypeId} {v : Value} {xs : List Value} (h : w.ownsRow base e size v n xs) (o : Obj) : (w.alloc o).ownsRow base e size v n xs := h.alloc o
theorem Sl.one_at (w : World) (e : TypeId) (u : Value) (h : Nat) (hh : h = w.heap.size) (h1 : u.oneCell' = true) : Sl (w.alloc (.cells #[u] e)) 1 (.slice (some ⟨h, 0, none⟩) 1 1) 1 [u] := hh ▸ Sl.one w e u h1

theorem of_val (w : World) (vt vb : Value) (n m : Nat) (t b : List Nat) (r : Nat) (ht : Sl w 1 vt n (u32s t)) (hb : Sl w 1 vb m (u8s b)) (hn : n = 256) (ht2 : ∀ x ∈ t, x < 4294967296) (hb2 : ∀ x ∈ b, x < 256) (hr : r = ofN t b) :
    Calls Try.prog 8 #[vt, vb] w fun e w' => e = .returned (.int .u32 (r : Nat)) ∧ w = w' := hr ▸ of_any w vt vb n m t b ht hb hn ht2 hb2

/-- The copy, for a walk that knows its own slice's form. -/
theorem copy_own (w : World) (v : Value) (n : Nat) (b : List Nat) (h : Sl w 1 v n (u8s b)) (hn : n ≤ 1000) (h0 : 0 < n) :
    Calls Try.prog 10 #[v] w fun e w' => ∃ g c, e = .returned (.slice (some ⟨g, 0, none⟩) n c) ∧ w.heap.size ≤ g ∧ g < w'.heap.size ∧ w'.ownsRow w.heap.size 5 1 (.slice (some ⟨g, 0, none⟩) n c) n (u8s b) ∧ Below w.heap.size w w' := by
  refine (copy_any w v n _ h (by omega)).mono ?_
  rintro e w1 ⟨v1, rfl, ho, hb⟩
  obtain ⟨g, c, rfl, hg, hl⟩ := ho.form h0
  exact ⟨g, c, rfl, hg, hl, ho, hb⟩
end Go.Proofs.Ytgcolhcajmbehaa
