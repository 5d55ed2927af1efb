/- A part of the walk. -/
import Derived.RegionTactic
import Derived.Below
namespace Go.Proofs.YtdneakejlbabeaaGreat
open Go.RowKit
set_option linter.unusedVariables false
set_option linter.unusedSimpArgs false

def slotsOf (o : Oper) : List Tmp := o.op.operands.toList.filterMap fun | .tmp t => some t | _ => none
def isDst (ops : Array Oper) (t : Tmp) : Bool := ops.any fun p => p.dst == some t
def chkOne (ops : Array Oper) (outs : List Tmp) (N i : Nat) (o : Oper) : Bool :=
  o.guard.isNone && (o.after.all fun e => !Region.binds .any e || decide (e.on < i)) &&
    ((slotsOf o).all fun t => outs.contains t || o.after.any fun e => Region.binds .any e && ((ops[e.on]?).bind (·.dst)) == some t) &&
    (match o.dst with
      | none => true
      | some d => decide (d < N) && (List.range ops.size).all fun j => j == i || ((ops[j]?).bind (·.dst)) != some d)
def chkEach (ops : Array Oper) (outs : List Tmp) (N : Nat) : Bool := (outs.all fun t => !isDst ops t) && (List.range ops.size).all fun i => match ops[i]? with
  | none => true
  | some o => chkOne ops outs N i o
def AllOps (S : Oper → Prop) : List Oper → Prop
  | [] => True
  | o :: l => S o ∧ AllOps S l
theorem AllOps.get {S : Oper → Prop} : ∀ {l : List Oper}, AllOps S l → ∀ o ∈ l, S o
  | [], _, _, h => by cases h
  | x :: l, h, o, ho => by
    rcases List.mem_cons.1 ho with rfl | ho
    · exact h.1
    · exact AllOps.get h.2 o ho
theorem AllOps.nil {S : Oper → Prop} : AllOps S [] := trivial
theorem AllOps.cons {S : Oper → Prop} {o : Oper} {l : List Oper} (h : S o) (k : AllOps S l) : AllOps S (o :: l) := ⟨h, k⟩
theorem isDst_of {ops : Array Oper} {i : Nat} {o : Oper} {d : Tmp} (h : ops[i]? = some o) (hd : o.dst = some d) : isDst ops d = true := by
  unfold isDst
  rw [Array.any_eq_true']
  exact ⟨o, Array.mem_of_getElem? h, by simp [hd]⟩

/-- What an operation must do in whatever world. -/
def StepOk (P : Program) (Q : Exit → Act → World → Prop) (B : Nat) (W : World) (ok : Tmp → Value → World → Prop) (o : Oper) : Prop :=
  ∀ (a : Act) (w : World) (K : Act → World → Prop), Below B W w → (∀ t ∈ slotsOf o, ok t (a.tmps.getD t undef) w) →
    (∀ v w', (∀ d, o.dst = some d → ok d v w') → Below w.heap.size w w' → K (a.put o.dst v) w') → Oper.wp P o a w K Q

section
variable {P : Program} {ops : Array Oper} {Q : Exit → Act → World → Prop} {a0 : Act} {w0 : World} {N : Nat} {outs : List Tmp} {ok : Tmp → Value → World → Prop}
structure EachInv (ops : Array Oper) (outs : List Tmp) (a0 : Act) (w0 : World) (N : Nat) (ok : Tmp → Value → World → Prop) (listed : Array Bool) (a : Act) (w : World) : Prop where
  ls : listed.size = ops.size
  sz : a.tmps.size = N
  df : a.defers = a0.defers
  bl : Below w0.heap.size w0 w
  same : ∀ t, isDst ops t = false → a.tmps.getD t undef = a0.tmps.getD t undef
  out : ∀ t ∈ outs, ok t (a.tmps.getD t undef) w
  inn : ∀ j o d, ops[j]? = some o → listed.getD j false = true → o.dst = some d → ok d (a.tmps.getD d undef) w

theorem chk_at (h : chkEach ops outs N = true) {i : Nat} {o : Oper} (hi : ops[i]? = some o) : o.guard = none ∧ (∀ e ∈ o.after, Region.binds .any e = true → e.on < i) ∧
    (∀ t ∈ slotsOf o, t ∉ outs → ∃ e ∈ o.after, Region.binds .any e = true ∧ ((ops[e.on]?).bind (·.dst)) = some t) ∧
    (∀ d, o.dst = some d → d < N ∧ ∀ j p, ops[j]? = some p → p.dst = some d → j = i) := by
  have hlt := (Array.getElem?_eq_some_iff.1 hi).1
  unfold chkEach at h
  rw [Bool.and_eq_true] at h
  have h1 := List.all_eq_true.1 h.2 i (List.mem_range.2 hlt)
  rw [hi] at h1
  simp only [chkOne, Bool.and_eq_true] at h1
  obtain ⟨⟨⟨g1, g2⟩, g3⟩, g4⟩ := h1
  refine ⟨by simpa using g1, fun e he hb => ?_, fun t ht hd => ?_, fun d hd => ?_⟩
  · have := Array.all_eq_true_iff_forall_mem.1 g2 e he
    simpa [hb] using this
  · have := List.all_eq_true.1 g3 t ht
    rw [Bool.or_eq_true] at this
    rcases this with this | this
    · exact absurd (by simpa using this) hd
    obtain ⟨e, he, hb⟩ := Array.any_eq_true'.1 this
    simp only [Bool.and_eq_true, beq_iff_eq] at hb
    exact ⟨e, he, hb⟩
  · rw [hd] at g4
    simp only [Bool.and_eq_true, decide_eq_true_eq] at g4
    refine ⟨g4.1, fun j p hj hp => ?_⟩
    have hjl := (Array.getElem?_eq_some_iff.1 hj).1
    have := List.all_eq_true.1 g4.2 j (List.mem_range.2 hjl)
    rw [hj] at this
    simp only [Option.bind_some, hp, bne_self_eq_false, Bool.or_false, beq_iff_eq] at this
    exact this

theorem chk_outs (h : chkEach ops outs N = true) {t : Tmp} (ht : t ∈ outs) : isDst ops t = false := by
  unfold chkEach at h
  rw [Bool.and_eq_true] at h
  simpa using List.all_eq_true.1 h.1 t ht
theorem each_any (hchk : chkEach ops outs N = true) (mono : ∀ t v w w', ok t v w → Below w.heap.size w w' → ok t v w')
    (each : ∀ o ∈ ops.toList, StepOk P Q w0.heap.size w0 ok o)
    (fin : ∀ a w, EachInv ops outs a0 w0 N ok (Array.replicate ops.size true) a w → Q .normal a w) :
    ∀ (fuel : Nat) (listed : Array Bool) (a : Act) (w : World), (∀ k, (List.range ops.size).countP (fun i => !listed.getD i true) = k → k ≤ fuel) → EachInv ops outs a0 w0 N ok listed a w → wpAny P .any ops Q fuel listed a w := by
  have done : ∀ (listed : Array Bool) (a : Act) (w : World), Region.ready .any ops listed = [] → EachInv ops outs a0 w0 N ok listed a w → Q .normal a w := by
    intro listed a w hr h
    have all : ∀ i, i < ops.size → listed.getD i false = true := by
      intro i
      induction i using Nat.strongRecOn with
      | _ i ih =>
        intro hi
        apply Classical.byContradiction
        intro hn
        have hil : i < listed.size := by rw [h.ls]; exact hi
        have hn' : listed.getD i true = false := by
          rw [Array.getD_eq_getD_getElem?, Array.getElem?_eq_getElem hil] at hn ⊢
          simpa using hn
        have : i ∈ Region.ready .any ops listed := by
          rw [mem_ready]
          have ho : ops[i]? = some ops[i] := Array.getElem?_eq_getElem hi
          exact ⟨hn', _, ho, fun e he hb => ih e.on ((chk_at hchk ho).2.1 e he hb) (Nat.lt_trans ((chk_at hchk ho).2.1 e he hb) hi)⟩
        rw [hr] at this
        cases this
    have e : listed = Array.replicate ops.size true := by
      apply Array.ext
      · simp [h.ls]
      · intro i h1 h2
        have := all i (by rw [← h.ls]; exact h1)
        rw [Array.getD_eq_getD_getElem?, Array.getElem?_eq_getElem h1] at this
        simpa using this
    rw [e] at h
    exact fin a w h
  intro fuel
  induction fuel with
  | zero =>
    intro listed a w hc h
    have hz : (List.range ops.size).countP (fun i => !listed.getD i true) = 0 := Nat.le_zero.1 (hc _ rfl)
    have hr : Region.ready .any ops listed = [] := by
      apply List.eq_nil_iff_forall_not_mem.2
      intro i hi
      obtain ⟨h1, o, ho, _⟩ := mem_ready.1 hi
      have := List.countP_eq_zero.1 hz i (List.mem_range.2 (Array.getElem?_eq_some_iff.1 ho).1)
      rw [h1] at this
      simp at this
    exact ⟨hr, done listed a w hr h⟩
  | succ fuel ih =>
    intro listed a w hc h
    refine ⟨fun hr => done listed a w hr h, fun i hi => ?_⟩
    obtain ⟨hn, o, ho, hall⟩ := mem_ready.1 hi
    obtain ⟨hg, hback, hsl, hdst⟩ := chk_at hchk ho
    have hlt := (Array.getElem?_eq_some_iff.1 ho).1
    have hll : i < listed.size := by rw [h.ls]; exact hlt
    refine wpOp_step ho (fun K hK => ?_)
    rw [if_pos (by simp [Region.wanted, hg])]
    refine each o (by have := Array.mem_of_getElem? ho; exact Array.mem_toList_iff.2 this) a w K h.bl (fun t ht => ?_) (fun v w' hv hb => hK _ _ (ih _ _ _ ?_ ?_))
    · by_cases hd : t ∈ outs
      · exact h.out t hd
      · obtain ⟨e, he, hb, hp⟩ := hsl t ht hd
        cases hpo : ops[e.on]? with
        | none => rw [hpo] at hp; cases hp
        | some p =>
          rw [hpo] at hp
          exact h.inn e.on p t hpo (hall e he hb) hp
    · intro k hk
      have h2 := hc _ rfl
      have h3 : (List.range ops.size).countP (fun j => !(listed.setIfInBounds i true).getD j true) < (List.range ops.size).countP (fun j => !listed.getD j true) := by
        have key : ∀ (l : List Nat), l.Nodup → i ∈ l → l.countP (fun j => !(listed.setIfInBounds i true).getD j true) + 1 = l.countP (fun j => !listed.getD j true) := by
          intro l
          induction l with
          | nil => intro _ h; cases h
          | cons x l ihl =>
            intro hnd hm
            rw [List.nodup_cons] at hnd
            rw [List.countP_cons, List.countP_cons]
            by_cases hx : x = i
            · subst hx
              have e1 : l.countP (fun j => !(listed.setIfInBounds x true).getD j true) = l.countP (fun j => !listed.getD j true) := by
                apply List.countP_congr
                intro j hj
                have hne : x ≠ j := fun e => hnd.1 (e ▸ hj)
                rw [getD_set_ne true hne]
              have e2 : (listed.setIfInBounds x true).getD x true = true := by simp [hll]
              rw [e1, e2, hn]
              simp
            · have hm' : i ∈ l := by
                rcases List.mem_cons.1 hm with h | h
                · exact absurd h.symm hx
                · exact h
              have := ihl hnd.2 hm'
              rw [getD_set_ne true (Ne.symm hx)]
              omega
        have := key _ List.nodup_range (List.mem_range.2 hlt)
        omega
      omega
    · have hput : ∀ t, (∀ d, o.dst = some d → d ≠ t) → (a.put o.dst v).tmps.getD t undef = a.tmps.getD t undef := by
        intro t ht
        cases hd : o.dst with
        | none => rfl
        | some d =>
          have := ht d hd
          simp only [Act.put]
          rw [Array.getD_eq_getD_getElem?, Array.getD_eq_getD_getElem?, Array.getElem?_setIfInBounds_ne this]
      have hself : ∀ d, o.dst = some d → (a.put o.dst v).tmps.getD d undef = v := by
        intro d hd
        have hdl := (hdst d hd).1
        rw [hd]
        simp only [Act.put]
        rw [Array.getD_eq_getD_getElem?, Array.getElem?_setIfInBounds_self_of_lt (by rw [h.sz]; exact hdl)]
        rfl
      refine ⟨by simp [h.ls], ?_, ?_, h.bl.trans (hb.mono h.bl.size), fun t ht => ?_, fun t ht => ?_, fun j p d hj hl hp => ?_⟩
      · cases hd : o.dst <;> simp [Act.put, h.sz]
      · cases hd : o.dst <;> simp [Act.put, h.df]
      · have hne : ∀ d, o.dst = some d → d ≠ t := fun d hd e => by
          have := isDst_of ho hd
          rw [e, ht] at this
          cases this
        rw [hput t hne]
        exact h.same t ht
      · have hne : ∀ d, o.dst = some d → d ≠ t := fun d hd e => by
          have := isDst_of ho hd
          rw [e, chk_outs hchk ht] at this
          cases this
        rw [hput t hne]
        exact mono _ _ _ _ (h.out t ht) hb
      · by_cases hji : j = i
        · subst hji
          have : p = o := by rw [ho] at hj; injection hj with hj; exact hj.symm
          subst this
          rw [hself d hp]
          exact hv d hp
        · have hl' : listed.getD j false = true := by rw [getD_set_ne false (Ne.symm hji)] at hl; exact hl
          rw [hput d (fun d' hd' e => by
            subst e
            exact hji ((hdst d' hd').2 j p hj hp))]
          exact mono _ _ _ _ (h.inn j p d hj hl' hp) hb

theorem tmps_as {a : Act} (hs : a.tmps.size = N) (he : ∀ t, isDst ops t = false → a.tmps.getD t undef = a0.tmps.getD t undef) (f : Nat → Value) (hf : ∀ t, isDst ops t = true → a.tmps.getD t undef = f t) :
    a.tmps = ((List.range N).map fun t => if isDst ops t = true then f t else a0.tmps.getD t undef).toArray := by
  apply Array.ext
  · simp [hs]
  · intro i h1 h2
    have e : a.tmps[i] = a.tmps.getD i undef := by rw [Array.getD_eq_getD_getElem?, Array.getElem?_eq_getElem h1]; rfl
    rw [e]
    simp only [List.getElem_toArray, List.getElem_map, List.getElem_range]
    cases h : isDst ops i with
    | true => simp [hf i h]
    | false => simp only [Bool.false_eq_true, if_false]; exact he i h
theorem wp_region_each {id : Nat} (hm : P.follows .mixedOrders = true) (N : Nat) (outs : List Tmp) (hN : a0.tmps.size = N) (hchk : chkEach ops outs N = true) (ok : Tmp → Value → World → Prop)
    (mono : ∀ t v w w', ok t v w → Below w.heap.size w w' → ok t v w')
    (h0 : ∀ t ∈ outs, ok t (a0.tmps.getD t undef) w0.drew)
    (each : AllOps (StepOk P Q w0.heap.size w0 ok) ops.toList)
    (fin : ∀ (f : Nat → Value) w (L : Array Value), L = ((List.range N).map fun t => if isDst ops t = true then f t else a0.tmps.getD t undef).toArray → (∀ t, isDst ops t = true → ok t (f t) w) → Below w0.heap.size w0 w → Q .normal ⟨L, a0.defers⟩ w) :
    (Code.region id ops true).wp P Q a0 w0 := by
  refine wp_region_any hm (each_any (N := N) (outs := outs) (a0 := a0) (w0 := w0) hchk mono each.get (fun a w h => ?_) ops.size _ _ _ (fun k hk => ?_) ?_)
  · have hk : ∀ t, isDst ops t = true → ok t (a.tmps.getD t undef) w := by
      intro t ht
      unfold isDst at ht
      obtain ⟨p, hp, hd⟩ := Array.any_eq_true'.1 ht
      obtain ⟨j, hj, rfl⟩ := Array.mem_iff_getElem.1 hp
      exact h.inn j _ t (Array.getElem?_eq_getElem hj) (by simp [hj]) (by simpa using hd)
    have e := tmps_as h.sz h.same (fun t => a.tmps.getD t undef) (fun t _ => rfl)
    have := fin (fun t => a.tmps.getD t undef) w a.tmps e hk h.bl
    rw [← h.df] at this
    exact this
  · rw [← hk]
    exact Nat.le_trans List.countP_le_length (by simp)
  · refine ⟨by simp, hN, rfl, ⟨rfl, rfl, rfl, Nat.le_refl _, fun _ _ => rfl⟩, fun t ht => rfl, fun t ht => h0 t ht, fun j o d hj hl _ => ?_⟩
    have hlt := (Array.getElem?_eq_some_iff.1 hj).1
    simp [hlt] at hl
end
end Go.Proofs.YtdneakejlbabeaaGreat
