/- Maps from numbers to blocks: what they hold as a function of the key; the laws at the operations. -/
import Derived.Test.YtfcagjnedaaadaaProg
import Derived.Test.YtfcagjnedaaadaaHS
import Derived.Maps.RangeWalk
import Derived.Maps.Ext
namespace Go.Proofs.Ytfcagjnedaaadaa
open Go.RowKit Go.Maps
open Go.ChangeMaps Go.MapKept Go.WideShapes
open Go.WideElems (Fit rd rg pl rd_key rd_val rg_of other_key)

/-- A store at a key that is there, while the map is ranged over. -/
theorem ranges_store {H : Type} {P : Program} {k t e : TypeId} {R : Value → Option (DataW H × List MemPlace)} {w : World} {b r n : Nat} {D : DataW H} {left : Lit → Bool} {cnt : Nat}
    (h : w.ranges P k R b r n D left cnt) (K : Keyed P k) (ht : P.underlying t = some (.map k e)) (hn : n < maxLen) {key val : Value} {kl : Lit} {d : DataW H} {ps : List MemPlace} (hkey : keyOf P k key = some kl) (hv : R val = some (d, ps)) (hth : Maps.has D kl = true) :
    ∃ w', (Instr.mapUpdate t (.map (some b)) key val).run P w = .ok () w' ∧ w'.ranges P k R b r n (D.put kl d) left cnt ∧ w.mapTurned w' b := by
  have hne := h.ne
  obtain ⟨es, clock, since, seen, c0, hb, F, hs, rfl, hr, hold, rfl, hl1, hl2, hsc, hsk⟩ := h
  obtain ⟨p, hp, hpk⟩ := List.any_eq_true.1 hth
  obtain ⟨x0, hx0, rfl⟩ := List.mem_map.1 (mem_sorted.1 hp)
  have e0 : (rg P k R x0).1 = kl := WideAt.sameKey_eq hpk
  have hx0k : x0.key = key := by
    obtain ⟨y, hy⟩ := F.reads x0 hx0
    rw [rg_of hy] at e0
    exact K.inj (e0 ▸ rd_key hy) hkey
  obtain ⟨es', clock', hrun, F', hput, _⟩ := Maps.fit_store (R' := R) K ht hb F (Nat.lt_of_le_of_lt hs hn) (fun _ _ _ _ hz => hz) hkey hv
  rcases K.find w hkey es.toList F.keys with ⟨h1, h2⟩ | ⟨j, e1, h1, h2, h3⟩
  · exact absurd hx0k (h2 x0 hx0)
  · have hj : es[j]? = some e1 := by simpa using h2
    have hjl : j < es.toList.length := (List.getElem?_eq_some_iff.1 h2).1
    have hlist : (es.modify j (fun e' => { e' with key := key, val := val })).toList = es.toList.set j { e1 with key := key, val := val } := by rw [Array.toList_modify, modify_eq_set _ _ _ _ h2]
    have hrun2 : (Instr.mapUpdate t (.map (some b)) key val).run P w = .ok () (setBlock w b (.map (es.modify j (fun e' => { e' with key := key, val := val })) clock)) := by
      simp [Instr.mapUpdate, run_underlying ht, MapKept.run_getObj_map hb, K.check w false hkey, h1, hj, h3, K.stays w hkey, MapKept.run_setObj_map _ hb, Result.andThen, setBlock]
    have he := hrun.symm.trans hrun2
    injection he with _ he
    have hm := (heap_setBlock_same hb (.map es' clock')).symm.trans ((congrArg (fun w : World => w.heap[b]?) he).trans (heap_setBlock_same hb _))
    injection hm with hm
    injection hm with hm1 hm2
    subst hm1
    subst hm2
    have hnew : (rg P k R { e1 with key := key, val := val }).1 = kl := by rw [rg_of (WideElems.rd_mk hkey hv)]
    have hx01 : x0 = e1 := by
      obtain ⟨i, hi⟩ := List.getElem?_of_mem hx0
      by_cases hij : i = j
      · rw [hij, h2] at hi
        exact (Option.some.inj hi).symm
      · exact absurd (hx0k.trans h3.symm) (other_key F h2 hi hij)
    subst hx01
    refine ⟨_, hrun, ⟨_, _, since, seen, c0, heap_setBlock_same hb _, F', by simpa using hs, by rw [DataW.put_eq, hput], (heap_setBlock_other hb _ hne).trans hr, fun x hx => ?_, ?_, fun x hx => ?_, fun x1 hx1 => ?_, hsc, hsk⟩, ⟨es, _, _, _, hb, rfl⟩⟩
    · rw [hlist] at hx
      rcases List.mem_or_eq_of_mem_set hx with h | rfl
      · exact hold x h
      · exact hold x0 hx0
    · have e2 : ∀ a : Array MapEntry, (leftOf a seen).size = a.toList.countP (fun e => !seen.contains e.born) := fun a => by
        unfold leftOf
        rw [← Array.length_toList, Array.toList_filter, List.countP_eq_length_filter]
      rw [e2, e2, hlist, List.countP_set hjl]
      have e3 : es.toList[j] = x0 := by rw [List.getElem?_eq_getElem hjl] at h2; exact Option.some.inj h2
      rw [e3]
      have : (if (!seen.contains x0.born) = true then 1 else 0) ≤ es.toList.countP (fun e => !seen.contains e.born) := by
        split
        · exact List.countP_pos_iff.2 ⟨x0, hx0, by assumption⟩
        · omega
      simp only
      omega
    · rw [hlist] at hx
      rcases List.mem_or_eq_of_mem_set hx with h | rfl
      · exact hl1 x h
      · show left (rg P k R { x0 with key := key, val := val }).1 = _
        rw [hnew, ← e0]
        exact hl1 x0 hx0
    · obtain ⟨x, hx, rfl⟩ := hl2 x1 hx1
      obtain ⟨i, hi⟩ := List.getElem?_of_mem hx
      have hil : i < es.toList.length := (List.getElem?_eq_some_iff.1 hi).1
      by_cases hij : i = j
      · subst hij
        rw [h2] at hi
        have := Option.some.inj hi
        subst this
        refine ⟨{ x0 with key := key, val := val }, ?_, by rw [hnew, e0]⟩
        rw [hlist]
        exact List.mem_set hil _
      · refine ⟨x, ?_, rfl⟩
        rw [hlist]
        refine List.mem_of_getElem? (i := i) ?_
        rw [List.getElem?_set_ne (fun h => hij h.symm)]
        exact hi

/-- A block's value as it stands, as a datum. -/
def RB (v : Value) : Option (DataW Value × List MemPlace) := some (.held v, [])
/-- The zero value of a block. -/
abbrev zB : Value := .agg #[.slice none 0 0, .int .i64 0, .bool false]
theorem law3 : Keyed Try.prog 3 := int_keyed Try.underlying3
theorem zero60 (w : World) : (zeroValue 60).run Try.prog w = .ok zB w := by kernel_rfl
theorem RB_inv {v : Value} {d : DataW Value} {ps : List MemPlace} (h : RB v = some (d, ps)) : d = .held v := by
  unfold RB at h
  injection h with h
  injection h with h _
  exact h.symm
def upd {α : Type} (g : Int → Option α) (k : Int) (v : Option α) : Int → Option α := fun j => if j = k then v else g j
@[simp] theorem upd_same {α : Type} (g : Int → Option α) (k : Int) (v : Option α) : upd g k v k = v := by simp [upd]
theorem upd_other {α : Type} (g : Int → Option α) {k j : Int} (v : Option α) (h : j ≠ k) : upd g k v j = g j := by simp [upd, h]

def valD (z : DataW Value) : Option Value → DataW Value
  | none => z
  | some v => .held v

/-- The datum D holds, at each key, what g says. -/
def Says (D : DataW Value) (g : Int → Option Value) : Prop := ∀ k z, D.atKey (.int .i64 k) z = valD z (g k)
theorem Says.none {D : DataW Value} {g : Int → Option Value} (h : Says D g) {k : Int} (e : g k = .none) : Maps.has D (.int .i64 k) = false :=
  Maps.has_false_of_atKey (fun z => by rw [h, e]; rfl)
theorem Says.some {D : DataW Value} {g : Int → Option Value} (h : Says D g) {k : Int} {v : Value} (e : g k = .some v) : Maps.has D (.int .i64 k) = true :=
  Maps.has_true_of_atKey (y := .held v) (fun z => by rw [h, e]; rfl)
theorem Says.has {D : DataW Value} {g : Int → Option Value} (h : Says D g) (k : Int) : Maps.has D (.int .i64 k) = (g k).isSome := by
  cases e : g k with
  | none => rw [h.none e]; rfl
  | some v => rw [h.some e]; rfl
theorem Says.put {D : DataW Value} {g : Int → Option Value} (h : Says D g) (hm : Maps.IsMap D) (k : Int) (hk : (Lit.int .i64 k).wf = true) (v : Value) : Says (D.put (.int .i64 k) (.held v)) (upd g k (.some v)) := by
  intro j z
  by_cases e : j = k
  · subst e
    rw [Maps.atKey_put_same hm (law3.key (Maps.keyOf_int_mk Try.underlying3 hk)), upd_same]; rfl
  · rw [Maps.atKey_put_other (by simpa using e), upd_other _ _ e, h]
theorem Says.del {D : DataW Value} {g : Int → Option Value} (h : Says D g) (k : Int) : Says (D.del (.int .i64 k)) (upd g k .none) := by
  intro j z
  by_cases e : j = k
  · subst e
    rw [Maps.atKey_del_same, upd_same]; rfl
  · rw [Maps.atKey_del_other (by simpa using e), upd_other _ _ e, h]

/-- Block b is a map that holds what g says, of at most N entries. -/
def MpV (w : World) (b N : Nat) (g : Int → Option Value) : Prop := ∃ D n, n ≤ N ∧ w.ownsMap Try.prog 3 RB b n D ∧ Says D g
/-- .. and it is being ranged over by the iterator at block r. -/
def MpR (w : World) (b r N : Nat) (g : Int → Option Value) (left : Lit → Bool) (cnt : Nat) : Prop := ∃ D n, n ≤ N ∧ w.ranges Try.prog 3 RB b r n D left cnt ∧ Says D g

theorem MpV.lt {w : World} {b N : Nat} {g : Int → Option Value} (h : MpV w b N g) : b < w.heap.size := by
  obtain ⟨D, n, _, ho, _⟩ := h
  exact ho.lt
theorem grown_frm {S : Nat → Prop} {w w' : World} (k : Frm S w w') {b : Nat} (hb : b < w.heap.size) (hn : ¬ S b) : w'.heap[b]? = w.heap[b]? := k.block b hb hn
theorem MpV.frm {S : Nat → Prop} {w w' : World} {b N : Nat} {g : Int → Option Value} (h : MpV w b N g) (k : Frm S w w') (hn : ¬ S b) : MpV w' b N g := by
  obtain ⟨D, n, h1, ho, h2⟩ := h
  have hl := ho.lt
  obtain ⟨es, clock, hb, F, hs, hD⟩ := ho
  exact ⟨D, n, h1, ⟨es, clock, (k.block b hl hn).trans hb, F, hs, hD⟩, h2⟩
theorem MpR.frm {S : Nat → Prop} {w w' : World} {b r N : Nat} {g : Int → Option Value} {left : Lit → Bool} {cnt : Nat} (h : MpR w b r N g left cnt) (k : Frm S w w') (hn : ¬ S b) (hr : ¬ S r) : MpR w' b r N g left cnt := by
  obtain ⟨D, n, h1, ho, h2⟩ := h
  have hl := ho.owns.lt
  have hl2 := ho.lt
  obtain ⟨es, clock, since, seen, c0, hb, F, hs, hD, hrr, rest⟩ := ho
  exact ⟨D, n, h1, ⟨es, clock, since, seen, c0, (k.block b hl hn).trans hb, F, hs, hD, (k.block r hl2 hr).trans hrr, rest⟩, h2⟩
theorem MpR.owns {w : World} {b r N : Nat} {g : Int → Option Value} {left : Lit → Bool} {cnt : Nat} (h : MpR w b r N g left cnt) : MpV w b N g := by
  obtain ⟨D, n, h1, ho, h2⟩ := h
  exact ⟨D, n, h1, ho.owns, h2⟩
theorem MpR.ne {w : World} {b r N : Nat} {g : Int → Option Value} {left : Lit → Bool} {cnt : Nat} (h : MpR w b r N g left cnt) : r ≠ b := by
  obtain ⟨D, n, h1, ho, h2⟩ := h
  exact ho.ne
theorem MpR.lt {w : World} {b r N : Nat} {g : Int → Option Value} {left : Lit → Bool} {cnt : Nat} (h : MpR w b r N g left cnt) : r < w.heap.size := by
  obtain ⟨D, n, h1, ho, h2⟩ := h
  exact ho.lt
theorem MpR.left_eq {w : World} {b r N : Nat} {g : Int → Option Value} {left : Lit → Bool} {cnt : Nat} (h : MpR w b r N g left cnt) : w.rangeLeft b r = cnt := by
  obtain ⟨D, n, h1, ho, h2⟩ := h
  exact ho.left_eq
theorem MpV.mono {w : World} {b N N' : Nat} {g : Int → Option Value} (h : MpV w b N g) (hN : N ≤ N') : MpV w b N' g := by
  obtain ⟨D, n, h1, h2⟩ := h
  exact ⟨D, n, Nat.le_trans h1 hN, h2⟩
theorem MpV.made (w : World) : MpV (w.alloc (.map #[] 0)) w.heap.size 0 (fun _ => none) :=
  ⟨_, 0, Nat.le_refl _, World.ownsMap_made w Try.prog 3 RB, fun _ _ => rfl⟩

theorem Frm.of_turned {w w' : World} {b : Nat} (h : w.mapTurned w' b) : Frm (· = b) w w' := by
  obtain ⟨es, c, es', c', hb, rfl⟩ := h
  exact ⟨rfl, rfl, rfl, by simp [setBlock], fun k _ hn => heap_setBlock_other hb _ hn⟩

section
variable {P : Program} {w : World} {ops : Array Oper} {rest : List Oper} {o : Oper} {a : Act} {Q : Exit → Act → World → Prop}

theorem wp_look (hg : o.guard = none) (m x : Operand) (hop : o.op = Op.lookup 55 m x false) (b N : Nat) (g : Int → Option Value) (hm : a.eval m = .map (some b)) (h : MpV w b N g)
    (k : Int) (hx : a.eval x = .int .i64 k) (hk : (Lit.int .i64 k).wf = true) (v : Value) (hv : (g k).getD zB = v) (hK : wpList Try.prog ops Q rest (a.put o.dst v) w) : wpList Try.prog ops Q (o :: rest) a w := by
  obtain ⟨D, n, _, ho, hs⟩ := h
  refine wpList_plain hg fun K' hK' => ?_
  obtain ⟨v', ps, hrun, hv'⟩ := ho.lookup law3 Try.underlying55 (zero60 w) (zd := .held zB) (zp := []) rfl (Maps.keyOf_int_mk Try.underlying3 hk)
  have e := RB_inv hv'
  rw [hs] at e
  obtain rfl : v = v' := by
    rw [← hv]
    cases hgk : g k with
    | none => rw [hgk] at e; injection e with e
    | some u => rw [hgk] at e; injection e with e
  unfold Oper.wp
  simp [execOp, hop, hm, hx, hrun, Result.andThen]
  exact hK' _ _ hK

theorem wp_look_ok (hg : o.guard = none) (m x : Operand) (hop : o.op = Op.lookup 55 m x true) (b N : Nat) (g : Int → Option Value) (hm : a.eval m = .map (some b)) (h : MpV w b N g)
    (k : Int) (hx : a.eval x = .int .i64 k) (hk : (Lit.int .i64 k).wf = true) (v : Value) (hv : (g k).getD zB = v) (is : Bool) (his : (g k).isSome = is) (hK : wpList Try.prog ops Q rest (a.put o.dst (.tuple #[v, .bool is])) w) : wpList Try.prog ops Q (o :: rest) a w := by
  obtain ⟨D, n, _, ho, hs⟩ := h
  refine wpList_lookup_own_ok w hg m x 55 hop 3 60 law3 Try.underlying55 RB (zero60 w) (.held zB) [] rfl b n D hm ho _ _ hx (Maps.keyOf_int_mk Try.underlying3 hk) fun v' ps hv' => ?_
  have e := RB_inv hv'
  rw [hs] at e
  obtain rfl : v = v' := by
    rw [← hv]
    cases hgk : g k with
    | none => rw [hgk] at e; injection e with e
    | some u => rw [hgk] at e; injection e with e
  rw [hs.has, his]
  exact hK

theorem wp_put (hg : o.guard = none) (m x v : Operand) (hop : o.op = Op.mapUpdate 55 m x v) (b N : Nat) (g : Int → Option Value) (hm : a.eval m = .map (some b)) (h : MpV w b N g) (hN : N < maxLen)
    (k : Int) (hx : a.eval x = .int .i64 k) (hk : (Lit.int .i64 k).wf = true) (u : Value) (hu : a.eval v = u) (hK : ∀ w', MpV w' b (N + 1) (upd g k (some u)) → Frm (· = b) w w' → wpList Try.prog ops Q rest (a.put o.dst undef) w') : wpList Try.prog ops Q (o :: rest) a w := by
  obtain ⟨D, n, hn, ho, hs⟩ := h
  refine wpList_mapUpdate_own w hg m x v 55 hop 3 60 law3 Try.underlying55 RB b n D hm ho (Nat.lt_of_le_of_lt hn hN) _ u _ hx hu (Maps.keyOf_int_mk Try.underlying3 hk) (.held u) [] rfl fun w' ho' hg' => ?_
  exact hK w' ⟨_, n + 1, by omega, ho', hs.put (ho.tidy law3).isMap k hk u⟩ ((Frm.of_grown hg').mono (fun k e => by injection e with e; exact e.symm))

theorem wp_del (hg : o.guard = none) (m x : Operand) (hop : o.op = Op.call { callee := Callee.builtin Builtin.delete, args := #[m, x], argTypes := #[55, 3] }) (b N : Nat) (g : Int → Option Value) (hm : a.eval m = .map (some b)) (h : MpV w b N g)
    (k : Int) (hx : a.eval x = .int .i64 k) (hk : (Lit.int .i64 k).wf = true) (hK : ∀ w', MpV w' b N (upd g k none) → Frm (· = b) w w' → wpList Try.prog ops Q rest (a.put o.dst (.tuple #[])) w') : wpList Try.prog ops Q (o :: rest) a w := by
  obtain ⟨D, n, hn, ho, hs⟩ := h
  refine wpList_delete_own w hg m x 55 3 hop 60 law3 Try.underlying55 RB b n D hm ho _ _ hx (Maps.keyOf_int_mk Try.underlying3 hk) fun w' ho' hg' => ?_
  exact hK w' ⟨_, n, hn, ho', hs.del k⟩ (Frm.of_turned hg')

theorem wp_range (hg : o.guard = none) (m : Operand) (hop : o.op = Op.range 55 m) (b N : Nat) (g : Int → Option Value) (hm : a.eval m = .map (some b)) (h : MpV w b N g)
    (hK : ∀ w' left cnt, MpR w' b w.heap.size N g left cnt → (∀ k, left (.int .i64 k) = (g k).isSome) → Frm (fun _ => False) w w' → wpList Try.prog ops Q rest (a.put o.dst (.pointer (some ⟨w.heap.size, 0, none⟩))) w') : wpList Try.prog ops Q (o :: rest) a w := by
  obtain ⟨D, n, hn, ho, hs⟩ := h
  refine wpList_range_own w hg m 55 hop 3 60 law3 Try.underlying55 RB b n D hm ho fun w' hr hg' _ => ?_
  exact hK w' _ _ ⟨D, n, hn, hr, hs⟩ hs.has ((Frm.of_grown hg').mono (fun k e => by cases e))

set_option maxRecDepth 100000 in
theorem wp_next (hg : o.guard = none) (it : Operand) (hop : o.op = Op.next it false) (b r N : Nat) (g : Int → Option Value) (left : Lit → Bool) (cnt : Nat) (hit : a.eval it = .pointer (some ⟨r, 0, none⟩)) (h : MpR w b r N g left cnt)
    (hDone : (∀ kl, left kl = false) → wpList Try.prog ops Q rest (a.put o.dst (.tuple #[.bool false])) w)
    (hMore : ∀ (x : Int) (v : Value) (w' : World) (cnt' : Nat), (Lit.int .i64 x).wf = true → left (.int .i64 x) = true → g x = some v → MpR w' b r N g (fun z => left z && !z.sameKey (.int .i64 x)) cnt' → cnt' < cnt → Frm (· = r) w w' →
      (Instr.entry (.pointer (some ⟨r, 0, none⟩))).run Try.prog w' = .ok (.tuple #[.int .i64 x, v]) w' → wpList Try.prog ops Q rest (a.put o.dst (.tuple #[.bool true, .int .i64 x, v])) w') :
    wpList Try.prog ops Q (o :: rest) a w := by
  obtain ⟨D, n, hn, hr, hs⟩ := h
  refine wpList_next_ranges w hg it hop 3 law3 RB (Value.int .i64) (fun v : Value => v) (fun key kl hkey => by obtain ⟨x, rfl, _⟩ := Maps.keyOf_int_inv Try.underlying3 hkey; exact ⟨x, rfl⟩) (fun v y hv => ⟨v, rfl⟩)
    b r n D left cnt hit hr (fun _ hl => hDone hl) (fun x v kl y w' cnt' hkey hlk hv hat hrg hlt hgr hsz hen => ?_)
  obtain ⟨x', ex, rfl, hwx⟩ := Maps.keyOf_int_inv Try.underlying3 hkey
  cases ex
  have hgx : g x = some v := by
    have e1 := hat (.held zB)
    have e2 := hat .nil
    rw [hs] at e1 e2
    obtain ⟨d, ps⟩ := y
    obtain rfl := RB_inv hv
    cases hgk : g x with
    | none =>
      rw [hgk] at e2
      have e3 : (DataW.nil : DataW Value) = .held v := e2
      cases e3
    | some u =>
      rw [hgk] at e1
      have e3 : (DataW.held u : DataW Value) = .held v := e1
      injection e3 with e3
      rw [e3]
  exact hMore x v w' cnt' hwx hlk hgx ⟨D, n, hn, hrg, hs⟩ hlt ((Frm.of_grown hgr).mono (fun k e => by injection e with e; exact e.symm)) hen

theorem wp_del_r (hg : o.guard = none) (m x : Operand) (hop : o.op = Op.call { callee := Callee.builtin Builtin.delete, args := #[m, x], argTypes := #[55, 3] }) (b r N : Nat) (g : Int → Option Value) (left : Lit → Bool) (cnt : Nat) (hm : a.eval m = .map (some b)) (h : MpR w b r N g left cnt)
    (k : Int) (hx : a.eval x = .int .i64 k) (hk : (Lit.int .i64 k).wf = true) (hK : ∀ w' cnt', MpR w' b r N (upd g k none) (fun z => left z && !z.sameKey (.int .i64 k)) cnt' → cnt' ≤ cnt → Frm (· = b) w w' → wpList Try.prog ops Q rest (a.put o.dst (.tuple #[])) w') : wpList Try.prog ops Q (o :: rest) a w := by
  obtain ⟨D, n, hn, ho, hs⟩ := h
  refine wpList_delete_ranges w hg m x 55 3 hop 60 law3 Try.underlying55 RB b r n D left cnt hm ho _ _ hx (Maps.keyOf_int_mk Try.underlying3 hk) fun w' cnt' ho' hle hg' => ?_
  exact hK w' cnt' ⟨_, n, hn, ho', hs.del k⟩ hle (Frm.of_turned hg')

theorem wp_put_r (hg : o.guard = none) (m x v : Operand) (hop : o.op = Op.mapUpdate 55 m x v) (b r N : Nat) (g : Int → Option Value) (left : Lit → Bool) (cnt : Nat) (hm : a.eval m = .map (some b)) (h : MpR w b r N g left cnt) (hN : N < maxLen)
    (k : Int) (hx : a.eval x = .int .i64 k) (hk : (Lit.int .i64 k).wf = true) (u0 : Value) (hth : g k = some u0) (u : Value) (hu : a.eval v = u) (hK : ∀ w', MpR w' b r N (upd g k (some u)) left cnt → Frm (· = b) w w' → wpList Try.prog ops Q rest (a.put o.dst undef) w') : wpList Try.prog ops Q (o :: rest) a w := by
  obtain ⟨D, n, hn, ho, hs⟩ := h
  refine wpList_plain hg fun K' hK' => ?_
  obtain ⟨w', hrun, r1, r2⟩ := ranges_store ho law3 Try.underlying55 (Nat.lt_of_le_of_lt hn hN) (Maps.keyOf_int_mk Try.underlying3 hk) (val := u) (d := .held u) (ps := []) rfl (hs.some hth)
  unfold Oper.wp
  simp [execOp, hop, hm, hx, hu, hrun, Result.andThen]
  exact hK' _ _ (hK w' ⟨_, n, hn, r1, hs.put (ho.owns.tidy law3).isMap k hk u⟩ (Frm.of_turned r2))
end
end Go.Proofs.Ytfcagjnedaaadaa
