/- The store and the reference's beside one another: what one act turns leaves the other as it was. -/
import Derived.Test.YtfcagjnedaaadaaRu
import Derived.Test.YtfcagjnedaaadaaRs
namespace Go.Proofs.Ytfcagjnedaaadaa
open Go.RowKit

structure Two (B : Nat) (w : World) (U : Nat → Prop) (gs bs gr M L : Nat) (st : St) (L' : Nat) (l : List (Int × Bk)) (dead armed : Bool) (N : Int) : Prop where
  u : ∀ j, U j → B ≤ j ∧ j < w.heap.size
  ex : ∃ (P R S S' : Nat → Prop) (v : Value), Sto w gs bs S M L st ∧ RSt w gr S' 0 L' v l dead armed N ∧ P gs ∧ P bs ∧ (∀ j, S j → P j) ∧ R gr ∧ (∀ j, S' j → R j) ∧ (∀ j, v.ownBlock = some j → R j) ∧
    (∀ j, P j → ¬ R j) ∧ (∀ j, P j → U j) ∧ (∀ j, R j → U j)

theorem RSt.frm2 {S T : Nat → Prop} {w w' : World} {g base L : Nat} {v : Value} {l : List (Int × Bk)} {dead armed : Bool} {N : Int} (h : RSt w g S base L v l dead armed N) (k : Frm T w w') (hT : ∀ j, S j → ¬ T j) (hg : ¬ T g) (hb : ∀ j, v.ownBlock = some j → ¬ T j) : RSt w' g S base L v l dead armed N := by
  obtain ⟨vs, h1, h2, h3, h4, h5⟩ := h.blk
  exact ⟨⟨vs, h1.frm k hg, own_frm h2 k hb, h3, fun i x u hi hu => (h4 i x u hi hu).frm k hT, h5⟩, h.base, h.av⟩
theorem RSt.near {S : Nat → Prop} {w : World} {g base L : Nat} {v : Value} {l : List (Int × Bk)} {dead armed : Bool} {N : Int} (h : RSt w g S base L v l dead armed N) : RSt w g (fun j => S j ∧ j < w.heap.size) base L v l dead armed N := by
  obtain ⟨vs, h1, h2, h3, h4, h5⟩ := h.blk
  exact ⟨⟨vs, h1, h2, h3, fun i x u hi hu => (h4 i x u hi hu).near, fun j hj => ⟨(h5 j hj).1, fun hs => (h5 j hj).2 hs.1⟩⟩, h.base, fun j hj => h.av j hj.1⟩

section
variable {B : Nat} {w w' : World} {U T : Nat → Prop} {gs bs gr M L M2 L2 L3 : Nat} {st : St} {L' : Nat} {l : List (Int × Bk)} {dead armed : Bool} {N : Int}
theorem Two.frm (h : Two B w U gs bs gr M L st L' l dead armed N) (k : Frm T w w') (hT : ∀ j, U j → ¬ T j) : Two B w' U gs bs gr M L st L' l dead armed N := by
  obtain ⟨P, R, S, S', v, h1, h2, p1, p2, p3, r1, r2, r3, d, pu, ru⟩ := h.ex
  exact ⟨fun j hj => ⟨(h.u j hj).1, Nat.lt_of_lt_of_le (h.u j hj).2 k.size⟩, P, R, S, S', v, h1.frm k (fun j hj => hT j (pu j (p3 j hj))) (hT _ (pu _ p1)) (hT _ (pu _ p2)), h2.frm2 k (fun j hj => hT j (ru j (r2 j hj))) (hT _ (ru _ r1)) (fun j hj => hT j (ru j (r3 j hj))), p1, p2, p3, r1, r2, r3, d, pu, ru⟩
theorem Two.below (h : Two B w U gs bs gr M L st L' l dead armed N) (k : Below w.heap.size w w') : Two B w' U gs bs gr M L st L' l dead armed N :=
  h.frm (Frm.of_below (S := fun _ => False) k) (fun _ _ h => h)
theorem Two.big (h : Two B w U gs bs gr M L st L' l dead armed N) (hM : M ≤ M2) (hL : L ≤ L2) (hL' : L' ≤ L3) : Two B w U gs bs gr M2 L2 st L3 l dead armed N := by
  obtain ⟨P, R, S, S', v, h1, h2, h3⟩ := h.ex
  exact ⟨h.u, P, R, S, S', v, h1.mono (fun _ h => h) h1.av hM hL, h2.big hL', h3⟩
theorem Two.prog (h : Two B w U gs bs gr M L st L' l dead armed N) : ∃ S, Sto w gs bs S M L st ∧ ∀ w' M2 L2 st2, Sto w' gs bs (fun j => S j ∨ w.heap.size ≤ j) M2 L2 st2 → Frm (fun j => j = gs ∨ j = bs) w w' →
    Two B w' (fun j => U j ∨ (w.heap.size ≤ j ∧ j < w'.heap.size)) gs bs gr M2 L2 st2 L' l dead armed N ∧ Frm U w w' := by
  obtain ⟨P, R, S, S', v, h1, h2, p1, p2, p3, r1, r2, r3, d, pu, ru⟩ := h.ex
  refine ⟨S, h1, fun w' M2 L2 st2 g1 k => ⟨⟨fun j hj => ?_, fun j => P j ∨ (w.heap.size ≤ j ∧ j < w'.heap.size), R, fun j => (S j ∨ w.heap.size ≤ j) ∧ j < w'.heap.size, S', v, g1.lt, h2.frm2 k ?_ ?_ ?_, .inl p1, .inl p2, ?_, r1, r2, r3, ?_, ?_, fun j hj => .inl (ru j hj)⟩, k.mono ?_⟩⟩
  · have := k.size
    rcases hj with hj | hj
    · have := h.u j hj
      omega
    · have := h.u gs (pu _ p1)
      omega
  · rintro j hj (rfl | rfl)
    · exact d _ p1 (r2 _ hj)
    · exact d _ p2 (r2 _ hj)
  · rintro (e | e)
    · subst e; exact d _ p1 r1
    · subst e; exact d _ p2 r1
  · rintro j hj (rfl | rfl)
    · exact d _ p1 (r3 _ hj)
    · exact d _ p2 (r3 _ hj)
  · rintro j ⟨hj | hj, hlt⟩
    · exact .inl (p3 j hj)
    · exact .inr ⟨hj, hlt⟩
  · rintro j (hj | hj) hr
    · exact d j hj hr
    · have := (h.u j (ru j hr)).2
      omega
  · rintro j (hj | hj)
    · exact .inl (pu j hj)
    · exact .inr hj
  · rintro j (rfl | rfl)
    · exact pu _ p1
    · exact pu _ p2
theorem Two.refr (h : Two B w U gs bs gr M L st L' l dead armed N) : ∃ S' v, RSt w gr S' 0 L' v l dead armed N ∧ ∀ w' L2 k st2, ROut w gr S' v L2 k st2 w' →
    ∃ l2 d2 a2 N2, Two B w' (fun j => U j ∨ (w.heap.size ≤ j ∧ j < w'.heap.size)) gs bs gr M L st L2 l2 d2 a2 N2 ∧ Rel st2 l2 d2 a2 N2 ∧ l2.length ≤ k ∧ -(k : Int) ≤ N2 ∧ N2 ≤ 5 ∧ Frm U w w' := by
  obtain ⟨P, R, S, S', v, h1, h2, p1, p2, p3, r1, r2, r3, d, pu, ru⟩ := h.ex
  refine ⟨S', v, h2, fun w' L2 k st2 hout => ?_⟩
  obtain ⟨S2, v2, l2, d2, a2, N2, g1, g2, g3, g4, g5, g6, g7, g8⟩ := hout
  have hv2 : ∀ j, v2.ownBlock = some j → j < w'.heap.size := fun j hj => by
    obtain ⟨_, _, ho, _⟩ := g1.blk
    exact (ho.lt j hj).2
  refine ⟨l2, d2, a2, N2, ⟨fun j hj => ?_, P, fun j => R j ∨ (w.heap.size ≤ j ∧ j < w'.heap.size), S, fun j => S2 j ∧ j < w'.heap.size, v2, h1.frm g4 ?_ ?_ ?_, g1.near, p1, p2, p3, .inl r1, ?_, ?_, ?_, fun j hj => .inl (pu j hj), ?_⟩, g5, g6, g7, g8, g4.mono ?_⟩
  · have := g4.size
    rcases hj with hj | hj
    · have := h.u j hj
      omega
    · have := h.u gs (pu _ p1)
      omega
  · rintro j hj (rfl | e)
    · exact d _ (p3 _ hj) r1
    · exact d _ (p3 _ hj) (r3 _ e)
  · rintro (e | e)
    · subst e; exact d _ p1 r1
    · exact d _ p1 (r3 _ e)
  · rintro (e | e)
    · subst e; exact d _ p2 r1
    · exact d _ p2 (r3 _ e)
  · rintro j ⟨hj, hlt⟩
    rcases g2 j hj with h' | h'
    · exact .inl (r2 j h')
    · exact .inr ⟨h', hlt⟩
  · intro j hj
    rcases g3 j hj with h' | h'
    · exact .inl (r3 j h')
    · exact .inr ⟨h', hv2 j hj⟩
  · rintro j hj (hr | hr)
    · exact d j hj hr
    · have := (h.u j (pu j hj)).2
      omega
  · rintro j (hj | hj)
    · exact .inl (ru j hj)
    · exact .inr hj
  · rintro j (rfl | e)
    · exact ru _ r1
    · exact ru _ (r3 _ e)
theorem Two.bw (h : Two B w U gs bs gr M L st L' l dead armed N) : ∃ S S' v, BW gs bs S M L st gr S' 0 L' v l dead armed N w w := by
  obtain ⟨P, R, S, S', v, h1, h2, _⟩ := h.ex
  exact ⟨S, S', v, h1, h2, Below.refl _ _⟩
theorem Two.ne (h : Two B w U gs bs gr M L st L' l dead armed N) : U gs ∧ U gr := by
  obtain ⟨P, R, S, S', v, h1, h2, p1, p2, p3, r1, r2, r3, d, pu, ru⟩ := h.ex
  exact ⟨pu _ p1, ru _ r1⟩
end

/-- What stands at the head of a round of StorePlays. -/
def Head (B : Nat) (w0 : World) (gs bs gr k : Nat) (W : World) : Prop :=
  ∃ U st l dead armed N, Two B W U gs bs gr k (20 * k) st (20 * k) l dead armed N ∧ Rel st l dead armed N ∧ l.length ≤ k ∧ -(k : Int) ≤ N ∧ N ≤ 5 ∧ Below B w0 W
/-- .. and behind its act. -/
def Done (B : Nat) (w0 : World) (gs bs gr k : Nat) (vb : Value) (gl m : Nat) (bl : List Int) (W : World) : Prop :=
  ∃ U st l dead armed N, Two B W U gs bs gr k (20 * k) st (20 * k) l dead armed N ∧ Rel st l dead armed N ∧ l.length ≤ k ∧ -(k : Int) ≤ N ∧ N ≤ 5 ∧ Below B w0 W ∧ Sl W 1 vb m (u8s bl) ∧ Blk W gl (lentC bl 3).toArray 5
/-- What stands ahead of its act: the bytes, and the lent ones, are not the stores'. -/
structure Ready (B : Nat) (w0 : World) (U : Nat → Prop) (gs bs gr M L : Nat) (st : St) (L' : Nat) (l : List (Int × Bk)) (dead armed : Bool) (N : Int) (vb : Value) (gl m : Nat) (bl : List Int) (W : World) : Prop where
  two : Two B W U gs bs gr M L st L' l dead armed N
  bel : Below B w0 W
  b : Sl W 1 vb m (u8s bl)
  lent : Blk W gl (lentC bl 3).toArray 5
  bu : ∀ j, vb.ownBlock = some j → ¬ U j ∧ j < W.heap.size
  lu : ¬ U gl
section
variable {B : Nat} {w0 : World} {U : Nat → Prop} {gs bs gr M L : Nat} {st : St} {L' : Nat} {l : List (Int × Bk)} {dead armed : Bool} {N : Int} {vb : Value} {gl m : Nat} {bl : List Int} {W W' : World}
theorem Ready.next {M2 L2 L3 : Nat} {st2 : St} {l2 : List (Int × Bk)} {d2 a2 : Bool} {N2 : Int} (h : Ready B w0 U gs bs gr M L st L' l dead armed N vb gl m bl W) (f : Frm U W W') (t : Two B W' (fun j => U j ∨ (W.heap.size ≤ j ∧ j < W'.heap.size)) gs bs gr M2 L2 st2 L3 l2 d2 a2 N2) (hB : B ≤ W.heap.size) :
    Ready B w0 (fun j => U j ∨ (W.heap.size ≤ j ∧ j < W'.heap.size)) gs bs gr M2 L2 st2 L3 l2 d2 a2 N2 vb gl m bl W' :=
  ⟨t, Frm.below h.bel f hB (fun i hi => (h.two.u i hi).1), h.b.frm f (fun j hj => (h.bu j hj).1), h.lent.frm f h.lu, fun j hj => ⟨fun e => by
    rcases e with e | e
    · exact (h.bu j hj).1 e
    · have := (h.bu j hj).2
      omega, Nat.lt_of_lt_of_le (h.bu j hj).2 f.size⟩, fun e => by
    rcases e with e | e
    · exact h.lu e
    · have := h.lent.lt
      omega⟩
theorem Ready.lentSl {gl : Nat} (h : Blk W gl (lentC bl 3).toArray 5) (hm : bl.length = m) (hm2 : m ≤ 1000) : Sl W 1 (.slice (some ⟨gl, 0, none⟩) m (m + 3)) m (u8s bl) := by
  refine ⟨_, m + 3, rfl, by omega, by simp only [maxLen]; omega, by rw [u8s_length, hm, Nat.mul_one], u8s_one _, fun _ => ⟨_, rfl, fun j u hj => ?_⟩⟩
  have ha : (⟨gl, 0, none⟩ : Addr).add j = ⟨gl, j, none⟩ := by unfold Addr.add; split <;> simp_all
  rw [ha, h.cell j]
  have hlt := (List.getElem?_eq_some_iff.1 hj).1
  simp only [lentC, List.getElem?_toArray]
  rw [List.getElem?_append_left hlt]
  exact hj
end
end Go.Proofs.Ytfcagjnedaaadaa
