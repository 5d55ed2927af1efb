/- The reference's acts beside the store's function: each act, whatever it comes to. -/
import Derived.Test.YtfcagjnedaaadaaRp
import Derived.Test.YtfcagjnedaaadaaRj0
import Derived.Test.YtfcagjnedaaadaaRj1
import Derived.Test.YtfcagjnedaaadaaRj2
import Derived.Test.YtfcagjnedaaadaaRj3
namespace Go.Proofs.Ytfcagjnedaaadaa
open Go.RowKit

/-- What an act of the reference leaves: a store that goes with st'. -/
def ROut (w : World) (gr : Nat) (S : Nat → Prop) (v : Value) (L2 k : Nat) (st' : St) (w' : World) : Prop :=
  ∃ S2 v2 l2 d2 a2 N2, RSt w' gr S2 0 L2 v2 l2 d2 a2 N2 ∧ (∀ j, S2 j → S j ∨ w.heap.size ≤ j) ∧ (∀ j, v2.ownBlock = some j → v.ownBlock = some j ∨ w.heap.size ≤ j) ∧
    Frm (fun j => j = gr ∨ v.ownBlock = some j) w w' ∧ Rel st' l2 d2 a2 N2 ∧ l2.length ≤ k ∧ -(k : Int) ≤ N2 ∧ N2 ≤ 5

section
variable {w w' : World} {gr : Nat} {S : Nat → Prop} {L L2 K : Nat} {v : Value} {l : List (Int × Bk)} {dead armed : Bool} {N : Int} {st : St}

theorem RB1.big {x : Int × Bk} {u : Value} (h : RB1 w S L x u) (hL : L ≤ L2) : RB1 w S L2 x u := by
  obtain ⟨A, c, e1, e2, e3, e4, e5, e6, e7⟩ := h
  exact ⟨A, c, e1, e2, e3, e4, e5, by omega, e7⟩
theorem RSt.big {base : Nat} (h : RSt w gr S base L v l dead armed N) (hL : L ≤ L2) : RSt w gr S base L2 v l dead armed N := by
  obtain ⟨vs, h1, h2, h3, h4, h5⟩ := h.blk
  exact ⟨⟨vs, h1, h2, h3, fun i x u hi hu => (h4 i x u hi hu).big hL, h5⟩, h.base, h.av⟩

theorem Rel.blown (h : Rel st l dead true 0) : Rel { st with dead := true } l true true 0 := ⟨h.f, rfl, h.lit, h.left, h.srt⟩
theorem Rel.run (h : Rel st l dead armed N) (hc : ¬ (armed = true ∧ N = 0)) (f' : Int → Option Bk) (l' : List (Int × Bk)) (hf : ∀ k, f' k = getL k l') (hs : Srt l') : Rel { st with left := mx 0 (st.left - 1), f := f' } l' dead armed (N - 1) :=
  ⟨hf, h.dead, h.lit, fun ha => by
    obtain ⟨h1, h2⟩ := h.left ha
    have h3 : N ≠ 0 := fun e => hc ⟨ha, e⟩
    simp only [h1, mx]
    split <;> omega, hs⟩
theorem Rel.run_fuse (h : Rel st l dead armed N) (hc : armed = true ∧ N = 0) (f' : Int → Option Bk) : runS st f' = (6, { st with dead := true }) := by
  unfold runS
  rw [if_pos ⟨h.lit.trans hc.1, (h.left hc.1).1.trans hc.2⟩]
theorem Rel.run_go (h : Rel st l dead armed N) (hc : ¬ (armed = true ∧ N = 0)) (f' : Int → Option Bk) : runS st f' = (0, { st with left := mx 0 (st.left - 1), f := f' }) := by
  unfold runS
  rw [if_neg]
  rintro ⟨h1, h2⟩
  have ha := h.lit.symm.trans h1
  exact hc ⟨ha, (h.left ha).1.symm.trans h2⟩

theorem ROut.same (h : RSt w gr S 0 L v l dead armed N) (hr : Rel st l dead armed N) (hL : L ≤ L2) (hl : l.length ≤ K) (hN1 : -(K : Int) ≤ N) (hN2 : N ≤ 5) : ROut w gr S v L2 (K + 1) st w :=
  ⟨S, v, l, dead, armed, N, h.big hL, fun _ h => .inl h, fun _ h => .inl h, Frm.refl _ _, hr, by omega, by omega, hN2⟩
theorem ROut.fuse (h : RSt w' gr S 0 L v l true true 0) (hf : Frm (· = gr) w w') (hr : Rel st l dead true 0) (hL : L ≤ L2) (hl : l.length ≤ K) : ROut w gr S v L2 (K + 1) { st with dead := true } w' :=
  ⟨S, v, l, true, true, 0, h.big hL, fun _ h => .inl h, fun _ h => .inl h, hf.mono (fun _ h => .inl h), hr.blown, by omega, by omega, by omega⟩
theorem ROut.run {S2 : Nat → Prop} {v2 : Value} {l2 : List (Int × Bk)} {f' : Int → Option Bk} (h : RSt w' gr S2 0 L v2 l2 dead armed (N - 1)) (hS : ∀ j, S2 j → S j ∨ w.heap.size ≤ j) (hv : ∀ j, v2.ownBlock = some j → v.ownBlock = some j ∨ w.heap.size ≤ j) (hf : Frm (fun j => j = gr ∨ v.ownBlock = some j) w w')
    (hr : Rel st l dead armed N) (hc : ¬ (armed = true ∧ N = 0)) (hf' : ∀ k, f' k = getL k l2) (hs : Srt l2) (hL : L ≤ L2) (hl : l2.length ≤ K + 1) (hN1 : -(K : Int) ≤ N) (hN2 : N ≤ 5) : ROut w gr S v L2 (K + 1) { st with left := mx 0 (st.left - 1), f := f' } w' :=
  ⟨S2, v2, l2, dead, armed, N - 1, h.big hL, hS, hv, hf, hr.run hc f' l2 hf' hs, by omega, by omega, by omega⟩

theorem rapp_any (h : RSt w gr S 0 L v l dead armed N) (hr : Rel st l dead armed N) (hl : l.length ≤ K) (hK : K ≤ 900) (hL : L ≤ 1000000) (hN1 : -(K : Int) ≤ N) (hN2 : N ≤ 5) (n : Int) (hwn : (Lit.int .i64 n).wf = true)
    (A : Option Addr) (m c : Nat) (ys : List Int) (hys : Sl w 1 (.slice A m c) m (u8s ys)) (hm : m ≤ 1000) (hA : ∀ j, (Value.slice A m c).ownBlock = some j → j ≠ gr) (r : Int) (st' : St) (hs' : appS st n ys = (r, st')) :
    Calls Try.prog 22 #[.pointer (some ⟨gr, 0, none⟩), .int .i64 n, .slice A m c] w fun e w' => e = .returned (.int .i64 r) ∧ ROut w gr S v (L + m) (K + 1) st' w' := by
  unfold appS at hs'
  cases dead
  · by_cases hn : n < 1
    · have e : mayS st n = 1 := by unfold mayS; rw [hr.dead]; simp [hn]
      simp [e] at hs'
      obtain ⟨rfl, rfl⟩ := hs'
      refine (rapp_arg w gr S 0 L v l armed N h n hn _).mono ?_
      rintro e _ ⟨rfl, rfl⟩
      exact ⟨rfl, ROut.same h hr (by omega) hl hN1 hN2⟩
    · have e : mayS st n = 0 := by unfold mayS; rw [hr.dead]; simp [hn]
      rw [if_pos e] at hs'
      by_cases hc : armed = true ∧ N = 0
      · rw [hr.run_fuse hc] at hs'
        injection hs' with h1 h2
        subst h1
        subst h2
        obtain ⟨rfl, rfl⟩ := hc
        refine (rapp_fuse w gr S 0 L v l h n hn _).mono ?_
        rintro e w' ⟨rfl, h1, h2⟩
        exact ⟨rfl, ROut.fuse h1 h2 hr (by omega) hl⟩
      · rw [hr.run_go hc] at hs'
        injection hs' with h1 h2
        subst h1
        subst h2
        have hNN : -1000000 ≤ N ∧ N ≤ 1000000 := by omega
        by_cases hat : atN n l < l.length
        · obtain ⟨x, hx⟩ : ∃ x, l[atN n l]? = some x := ⟨_, List.getElem?_eq_getElem hat⟩
          have hxn := atN_hit n l x hx
          have hfx : st.f n = some x.2 := by rw [hr.f, getL_at, hx]; rfl
          refine (rapp_old w gr S 0 L v l false armed N h rfl (by omega) hL n hn (atN n l) x rfl hx hc hNN A m c ys hys hm hA).mono ?_
          rintro e w' ⟨rfl, v', S', h1, h2, h3, h4⟩
          refine ⟨rfl, ROut.run h1 h2 h3 h4 hr hc (fun k => ?_) (srt_set l hr.srt _ x _ hx) (Nat.le_refl _) (by rw [List.length_set]; omega) hN1 hN2⟩
          rw [getL_set l hr.srt _ x _ hx k, hxn]
          have : bkAt st.f n = x.2 := by unfold bkAt; rw [hfx]; rfl
          rw [this]
          unfold upd
          split
          · rfl
          · exact hr.f k
        · have hat' : atN n l = l.length := by have := atN_le n l; omega
          have hno : getL n l = none := by
            have := getL_some n l
            rw [hat'] at this
            simpa using this
          have hbk : bkAt st.f n = ([], 0, false) := by unfold bkAt; rw [hr.f, hno]; rfl
          have hil := insN_le n l
          have fin : ∀ e w', (e = Ending.returned (.int .i64 0) ∧ ∃ v' S', RSt w' gr S' 0 (L + m) v' (l.take (insN n l) ++ (n, (ys, 0, false)) :: l.drop (insN n l)) false armed (N - 1) ∧ (∀ j, S' j → S j ∨ w.heap.size ≤ j) ∧ (∀ j, v'.ownBlock = some j → v.ownBlock = some j ∨ w.heap.size ≤ j) ∧ Frm (fun j => j = gr ∨ v.ownBlock = some j) w w') →
              e = Ending.returned (.int .i64 0) ∧ ROut w gr S v (L + m) (K + 1) { st with left := mx 0 (st.left - 1), f := upd st.f n (some ((bkAt st.f n).1 ++ ys, (bkAt st.f n).2.1, (bkAt st.f n).2.2)) } w' := by
            rintro e w' ⟨rfl, v', S', h1, h2, h3, h4⟩
            refine ⟨rfl, ROut.run h1 h2 h3 h4 hr hc (fun k => ?_) (srt_ins l hr.srt n _ hno) (Nat.le_refl _) (by rw [List.length_append, List.length_take, List.length_cons, List.length_drop]; omega) hN1 hN2⟩
            have e := getL_ins l n (ys, 0, false) k
            rw [if_pos hno] at e
            rw [e, hbk]
            unfold upd
            split
            · rfl
            · exact hr.f k
          obtain ⟨vs, hb, ho, hvl, hv, hav⟩ := h.blk
          rcases ho.2 with ⟨e1, e2⟩ | ⟨ga, cap, cur, e1, _, _, hcap, _⟩
          · subst e1
            exact (rapp_new0 w gr S 0 L l false armed N h rfl (by omega) hL n hwn hn (by omega) hat' hc hNN A m c ys hys hm hA e2).mono (fun e w' hh => fin e w' (by rw [show insN n l = 0 by omega]; exact hh))
          · subst e1
            by_cases hk : insN n l < l.length
            · exact (rapp_new2 w gr S 0 L ga l.length cap l false armed N (insN n l) h rfl (by omega) hL n hwn hn rfl hat' hc hNN A m c ys hys hm hA rfl hk).mono fin
            · have hk' : insN n l = l.length := by omega
              rw [hk'] at fin
              by_cases hcc : l.length < cap
              · exact (rapp_new3 w gr S 0 L ga cap l false armed N l.length h rfl (by omega) hL n hwn hn hk' hat' hc hNN A m c ys hys hm hA rfl hcc).mono fin
              · obtain rfl : cap = l.length := by omega
                exact (rapp_new1 w gr S 0 L ga l false armed N l.length h rfl (by omega) hL n hwn hn hk' hat' hc hNN A m c ys hys hm hA rfl).mono fin
  · have e : mayS st n = 6 := by unfold mayS; rw [hr.dead]; simp
    simp [e] at hs'
    obtain ⟨rfl, rfl⟩ := hs'
    refine (rapp_dead w gr S 0 L v l armed N h n _).mono ?_
    rintro e _ ⟨rfl, rfl⟩
    exact ⟨rfl, ROut.same h hr (by omega) hl hN1 hN2⟩

/-- What stands against an act, in both. -/
theorem beg_there (hr : Rel st l dead armed N) (n : Int) : (thereS st n ≠ 0 → ∃ i, begI l dead n = (i, thereS st n)) ∧ (thereS st n = 0 → begI l dead n = ((atN n l : Int), 0) ∧ ∃ x, l[atN n l]? = some x ∧ x.1 = n ∧ st.f n = some x.2) := by
  unfold thereS begI mayS
  rw [hr.dead]
  have hsome : (st.f n).isSome = decide (atN n l < l.length) := by rw [hr.f, getL_some]
  cases dead
  · by_cases hn : n < 1
    · simp [hn]
    · by_cases hat : atN n l < l.length
      · obtain ⟨x, hx⟩ : ∃ x, l[atN n l]? = some x := ⟨_, List.getElem?_eq_getElem hat⟩
        have h1 : ¬ atI n l < 0 := by unfold atI; rw [if_pos hat]; omega
        have h2 : atI n l = (atN n l : Int) := by unfold atI; rw [if_pos hat]
        rw [hsome]
        simp only [hn, hat, decide_true, if_true, if_false, Bool.false_eq_true, h2, ne_eq, not_true_eq_false, false_implies, true_and, forall_const]
        exact ⟨by rw [if_neg (by omega)], x, hx, atN_hit n l x hx, by rw [hr.f, getL_at, hx]; rfl⟩
      · have h1 : atI n l < 0 := by unfold atI; rw [if_neg hat]; omega
        rw [hsome]
        simp [hn, hat, h1]
  · simp

theorem rsync_any (h : RSt w gr S 0 L v l dead armed N) (hr : Rel st l dead armed N) (hl : l.length ≤ K) (hK : K ≤ 900) (hN1 : -(K : Int) ≤ N) (hN2 : N ≤ 5) (n : Int) (r : Int) (st' : St) (hs' : syncS st n = (r, st')) :
    Calls Try.prog 23 #[.pointer (some ⟨gr, 0, none⟩), .int .i64 n] w fun e w' => e = .returned (.int .i64 r) ∧ ROut w gr S v L (K + 1) st' w' := by
  unfold syncS at hs'
  have hbt := beg_there hr n
  by_cases ht : thereS st n = 0
  · obtain ⟨hb, x, hx, hxn, hfx⟩ := hbt.2 ht
    rw [if_pos ht] at hs'
    by_cases hc : armed = true ∧ N = 0
    · rw [hr.run_fuse hc] at hs'
      injection hs' with h1 h2
      subst h1
      subst h2
      obtain ⟨rfl, rfl⟩ := hc
      refine (rsync_fuse w gr S 0 L v l dead h (by omega) n _ hb).mono ?_
      rintro e w' ⟨rfl, h1, h2⟩
      exact ⟨rfl, ROut.fuse h1 h2 hr (Nat.le_refl _) hl⟩
    · rw [hr.run_go hc] at hs'
      injection hs' with h1 h2
      subst h1
      subst h2
      refine (rsync_go w gr S 0 L v l dead armed N h (by omega) n _ x hb hx hc (by omega)).mono ?_
      rintro e w' ⟨rfl, h1, h2⟩
      refine ⟨rfl, ROut.run h1 (fun _ h => .inl h) (fun _ h => .inl h) h2 hr hc (fun k => ?_) (srt_set l hr.srt _ x _ hx) (Nat.le_refl _) (by rw [List.length_set]; omega) hN1 hN2⟩
      have : bkAt st.f n = x.2 := by unfold bkAt; rw [hfx]; rfl
      rw [getL_set l hr.srt _ x _ hx k, hxn, this]
      unfold upd
      split
      · rfl
      · exact hr.f k
  · obtain ⟨i, hb⟩ := hbt.1 ht
    rw [if_neg ht] at hs'
    injection hs' with h1 h2
    subst h1
    subst h2
    refine (rsync_err w gr S 0 L v l dead armed N h (by omega) n i _ hb ht).mono ?_
    rintro e _ ⟨rfl, rfl⟩
    exact ⟨rfl, ROut.same h hr (Nat.le_refl _) hl hN1 hN2⟩

theorem rdrop_any (h : RSt w gr S 0 L v l dead armed N) (hr : Rel st l dead armed N) (hl : l.length ≤ K) (hK : K ≤ 900) (hN1 : -(K : Int) ≤ N) (hN2 : N ≤ 5) (n : Int) (r : Int) (st' : St) (hs' : dropS st n = (r, st')) :
    Calls Try.prog 25 #[.pointer (some ⟨gr, 0, none⟩), .int .i64 n] w fun e w' => e = .returned (.int .i64 r) ∧ ROut w gr S v L (K + 1) st' w' := by
  unfold dropS at hs'
  have hbt := beg_there hr n
  by_cases ht : thereS st n = 0
  · obtain ⟨hb, x, hx, hxn, hfx⟩ := hbt.2 ht
    rw [if_pos ht] at hs'
    by_cases hc : armed = true ∧ N = 0
    · rw [hr.run_fuse hc] at hs'
      injection hs' with h1 h2
      subst h1
      subst h2
      obtain ⟨rfl, rfl⟩ := hc
      refine (rdrop_fuse w gr S 0 L v l dead h (by omega) n _ hb).mono ?_
      rintro e w' ⟨rfl, h1, h2⟩
      exact ⟨rfl, ROut.fuse h1 h2 hr (Nat.le_refl _) hl⟩
    · rw [hr.run_go hc] at hs'
      injection hs' with h1 h2
      subst h1
      subst h2
      refine (rdrop_go w gr S 0 L v l dead armed N h (by omega) n _ x hb hx hc (by omega)).mono ?_
      rintro e w' ⟨rfl, ⟨v', h1, h3⟩, h2⟩
      refine ⟨rfl, ROut.run h1 (fun _ h => .inl h.1) (fun j hj => .inr (h3 j hj)) (h2.mono (fun _ h => .inl h)) hr hc (fun k => ?_) (srt_del l hr.srt _) (Nat.le_refl _) (by rw [List.length_append, List.length_take, List.length_drop]; omega) hN1 hN2⟩
      rw [getL_del l hr.srt _ x hx k, hxn]
      unfold upd
      split
      · rfl
      · exact hr.f k
  · obtain ⟨i, hb⟩ := hbt.1 ht
    rw [if_neg ht] at hs'
    injection hs' with h1 h2
    subst h1
    subst h2
    refine (rdrop_err w gr S 0 L v l dead armed N h (by omega) n i _ hb ht).mono ?_
    rintro e _ ⟨rfl, rfl⟩
    exact ⟨rfl, ROut.same h hr (Nat.le_refl _) hl hN1 hN2⟩

theorem rcut_any (h : RSt w gr S 0 L v l dead armed N) (hr : Rel st l dead armed N) (hl : l.length ≤ K) (hK : K ≤ 900) (hL : L ≤ 1000000) (hN1 : -(K : Int) ≤ N) (hN2 : N ≤ 5) (n to : Int) (r : Int) (st' : St) (hs' : cutS st n to = (r, st')) :
    Calls Try.prog 24 #[.pointer (some ⟨gr, 0, none⟩), .int .i64 n, .int .i64 to] w fun e w' => e = .returned (.int .i64 r) ∧ ROut w gr S v L (K + 1) st' w' := by
  unfold cutS at hs'
  have hbt := beg_there hr n
  by_cases ht : thereS st n = 0
  · obtain ⟨hb, x, hx, hxn, hfx⟩ := hbt.2 ht
    have hbk : bkAt st.f n = x.2 := by unfold bkAt; rw [hfx]; rfl
    rw [if_pos ht, hbk] at hs'
    by_cases hto : to < 0 ∨ (x.2.1.length : Int) < to
    · rw [if_pos hto] at hs'
      injection hs' with h1 h2
      subst h1
      subst h2
      refine (rcut_arg w gr S 0 L v l dead armed N h (by omega) n to _ x hb hx hto).mono ?_
      rintro e _ ⟨rfl, rfl⟩
      exact ⟨rfl, ROut.same h hr (Nat.le_refl _) hl hN1 hN2⟩
    · rw [if_neg hto] at hs'
      by_cases hc : armed = true ∧ N = 0
      · rw [hr.run_fuse hc] at hs'
        injection hs' with h1 h2
        subst h1
        subst h2
        obtain ⟨rfl, rfl⟩ := hc
        refine (rcut_fuse w gr S 0 L v l dead h (by omega) n to _ x hb hx (by omega)).mono ?_
        rintro e w' ⟨rfl, h1, h2⟩
        exact ⟨rfl, ROut.fuse h1 h2 hr (Nat.le_refl _) hl⟩
      · rw [hr.run_go hc] at hs'
        injection hs' with h1 h2
        subst h1
        subst h2
        obtain ⟨t, rfl⟩ : ∃ t : Nat, to = (t : Int) := ⟨to.toNat, by omega⟩
        refine (rcut_go w gr S 0 L v l dead armed N h (by omega) hL n t _ x hb hx (by omega) hc (by omega)).mono ?_
        rintro e w' ⟨rfl, h1, h2⟩
        refine ⟨rfl, ROut.run h1 (fun _ h => h) (fun _ h => .inl h) h2 hr hc (fun k => ?_) (srt_set l hr.srt _ x _ hx) (Nat.le_refl _) (by rw [List.length_set]; omega) hN1 hN2⟩
        rw [getL_set l hr.srt _ x _ hx k, hxn, Int.toNat_natCast]
        unfold upd
        split
        · rfl
        · exact hr.f k
  · obtain ⟨i, hb⟩ := hbt.1 ht
    rw [if_neg ht] at hs'
    injection hs' with h1 h2
    subst h1
    subst h2
    refine (rcut_err w gr S 0 L v l dead armed N h (by omega) n to i _ hb ht).mono ?_
    rintro e _ ⟨rfl, rfl⟩
    exact ⟨rfl, ROut.same h hr (Nat.le_refl _) hl hN1 hN2⟩

theorem rfuse_out (h : RSt w gr S 0 L v l dead armed N) (hr : Rel st l dead armed N) (hl : l.length ≤ K) (n nl : Int) (hnl : mx 0 n = nl) (hn : n ≤ 5) :
    Calls Try.prog 27 #[.pointer (some ⟨gr, 0, none⟩), .int .i64 n] w fun e w' => e = .returned (.tuple #[]) ∧ ROut w gr S v L (K + 1) { st with lit := true, left := nl } w' := by
  refine (rfuse_any w gr S 0 L v l dead armed N h n nl hnl).mono ?_
  rintro e w' ⟨rfl, h1, h2⟩
  have h0 : 0 ≤ nl ∧ nl ≤ 5 := by rw [← hnl]; unfold mx; split <;> omega
  exact ⟨rfl, S, v, l, dead, true, nl, h1, fun _ h => .inl h, fun _ h => .inl h, h2.mono (fun _ h => .inl h), ⟨hr.f, hr.dead, rfl, fun _ => ⟨rfl, h0.1⟩, hr.srt⟩, by omega, by omega, h0.2⟩

theorem rcrash_out (h : RSt w gr S 0 L v l dead armed N) (hr : Rel st l dead armed N) (hl : l.length ≤ K) (hK : K ≤ 900) (hL : L ≤ 1000000) (hN1 : -(K : Int) ≤ N) (hN2 : N ≤ 5) (keep : Int) :
    Calls Try.prog 29 #[.pointer (some ⟨gr, 0, none⟩), .int .i64 keep] w fun e w' => e = .returned (.tuple #[]) ∧ ROut w gr S v L (K + 1) (crashS st keep) w' := by
  refine (rcrash_any w gr S 0 L v l dead armed N h (by omega) hL keep).mono ?_
  rintro e w' ⟨rfl, ⟨v', T, h1, h3, h4⟩, h2⟩
  refine ⟨rfl, T, v', crashL keep l, false, false, N, h1, fun j hj => .inr (h3 j hj), fun j hj => .inr (h4 j hj), h2.mono (fun _ h => .inl h), ⟨fun k => ?_, rfl, rfl, fun h => (by cases h), srt_crash keep l hr.srt⟩, ?_, by omega, hN2⟩
  · show (st.f k).bind (crash1 keep) = _
    rw [hr.f, getL_crash keep l hr.srt]
  · have := crashL_length keep l
    omega
end
end Go.Proofs.Ytfcagjnedaaadaa
