/- Events and packets as they lie in memory; small laws. -/
import Derived.Test.YtoplcndiejpipaaHM
import Derived.Test.YtoplcndiejpipaaProg
import Derived.Laws.BytesString
import Derived.Laws.Cells
import Derived.Laws.Strings
import Derived.BigQuiet
namespace Go.Proofs.Ytoplcndiejpipaa
open Go.RowKit
set_option linter.unusedVariables false

structure Pk where
  kind : Int
  path : Int
  number : Int
  of_ : Int
  from_ : Int
  data : List Int
  fin : Bool
  seen : Int
  limit : Int
deriving DecidableEq
structure Ev where
  kind : Int
  n : Int
  data : List Int
  pk : Pk
deriving DecidableEq

def u8s (l : List Int) : List Value := l.map fun n : Int => .int .u8 n
theorem u8s_one (l : List Int) : ∀ u ∈ u8s l, u.oneCell' = true := by simp [u8s, Value.oneCell']
theorem u8s_length (l : List Int) : (u8s l).length = l.length := by simp [u8s]
theorem u8s_append (l k : List Int) : u8s (l ++ k) = u8s l ++ u8s k := by simp [u8s]

/-- A text's letters as numbers. -/
def toBA (l : List Int) : ByteArray := l.foldl (fun r n => r.push (UInt8.ofNat n.toNat)) ByteArray.empty
theorem toBA_list (l : List Int) : (toBA l).data.toList = l.map fun n => UInt8.ofNat n.toNat := by
  unfold toBA
  have h : ∀ (l : List Int) (r : ByteArray), (l.foldl (fun r n => r.push (UInt8.ofNat n.toNat)) r).data.toList = r.data.toList ++ l.map fun n => UInt8.ofNat n.toNat := by
    intro l
    induction l with
    | nil => intro r; simp
    | cons x l ih => intro r; rw [List.foldl_cons, ih]; simp [ByteArray.push]
  rw [h]
  simp [ByteArray.empty, ByteArray.emptyWithCapacity]
  rfl
def Byt (l : List Int) : Prop := ∀ x ∈ l, 0 ≤ x ∧ x < 256
theorem toBA_inj {l k : List Int} (hl : Byt l) (hk : Byt k) (h : toBA l = toBA k) : l = k := by
  have h2 : l.map (fun n => UInt8.ofNat n.toNat) = k.map (fun n => UInt8.ofNat n.toNat) := by rw [← toBA_list, ← toBA_list, h]
  clear h
  induction l generalizing k with
  | nil => cases k with
    | nil => rfl
    | cons y k => simp at h2
  | cons x l ih =>
    cases k with
    | nil => simp at h2
    | cons y k =>
      simp only [List.map_cons, List.cons.injEq] at h2
      have hx := hl x (by simp)
      have hy := hk y (by simp)
      have e : x = y := by
        have := congrArg UInt8.toNat h2.1
        simp only [UInt8.toNat_ofNat'] at this
        omega
      rw [e, ih (fun z hz => hl z (by simp [hz])) (fun z hz => hk z (by simp [hz])) h2.2]
theorem toBA_eq {l k : List Int} (hl : Byt l) (hk : Byt k) : ((toBA l).toList == (toBA k).toList) = decide (l = k) := by
  by_cases h : l = k
  · subst h; simp
  · have : ¬ (toBA l).toList = (toBA k).toList := fun e => h (toBA_inj hl hk (by
      rw [ByteArray.toList_eq, ByteArray.toList_eq] at e
      have e2 : (toBA l).data = (toBA k).data := Array.ext' e
      cases hx : toBA l
      cases hy : toBA k
      rw [hx, hy] at e2
      exact congrArg ByteArray.mk e2))
    simp [h, this]

/-- A slice of bytes; its memory lies among S. -/
def BV (w : World) (S : Nat → Prop) (v : Value) (l : List Int) : Prop :=
  ∃ A c, v = .slice A l.length c ∧ Sl w 1 v l.length (u8s l) ∧ (0 < l.length → ∀ j, v.ownBlock = some j → S j ∧ j < w.heap.size) ∧ Byt l
theorem BV.frm {S T : Nat → Prop} {w w' : World} {v : Value} {l : List Int} (h : BV w S v l) (k : Frm T w w') (hT : ∀ j, S j → ¬ T j) : BV w' S v l := by
  obtain ⟨A, c, rfl, h1, h2, h3⟩ := h
  refine ⟨A, c, rfl, ?_, fun h0 j hj => ⟨(h2 h0 j hj).1, Nat.lt_of_lt_of_le (h2 h0 j hj).2 k.size⟩, h3⟩
  by_cases h0 : 0 < l.length
  · exact h1.frm k (fun j hj => hT j (h2 h0 j hj).1)
  · obtain ⟨A', c', e, g1, g2, g3, g4, g5⟩ := h1
    injection e with e1 e2 e3
    subst e1
    subst e3
    exact ⟨A, c, rfl, g1, g2, g3, g4, fun hp => absurd hp (by rw [u8s_length]; exact h0)⟩
theorem BV.below {S : Nat → Prop} {w w' : World} {v : Value} {l : List Int} (h : BV w S v l) (k : Below w.heap.size w w') : BV w' S v l :=
  h.frm (Frm.of_below (S := fun _ => False) k) (fun _ _ h => h)
theorem BV.mono {S S' : Nat → Prop} {w : World} {v : Value} {l : List Int} (h : BV w S v l) (hS : ∀ j, S j → j < w.heap.size → S' j) : BV w S' v l := by
  obtain ⟨A, c, e1, e2, e3, e4⟩ := h
  exact ⟨A, c, e1, e2, fun h0 j hj => ⟨hS j (e3 h0 j hj).1 (e3 h0 j hj).2, (e3 h0 j hj).2⟩, e4⟩
theorem BV.nil (w : World) (S : Nat → Prop) : BV w S (.slice none 0 0) [] := ⟨none, 0, rfl, Sl.nil w 1, fun h => by simp at h, fun x hx => by simp at hx⟩

def pcells (p : Pk) (v : Value) : List Value := [.int .i64 p.kind, .int .i64 p.path, .int .i64 p.number, .int .i64 p.of_, .int .i64 p.from_, v, .bool p.fin, .int .i64 p.seen, .int .i64 p.limit]
def ecells (e : Ev) (x : Value × Value) : List Value := [.int .i64 e.kind, .int .i64 e.n, x.1, .int .i64 e.pk.kind, .int .i64 e.pk.path, .int .i64 e.pk.number, .int .i64 e.pk.of_, .int .i64 e.pk.from_, x.2, .bool e.pk.fin, .int .i64 e.pk.seen, .int .i64 e.pk.limit]
def ncells (y : Int × Ev) (x : Value × Value) : List Value := .int .i64 y.1 :: ecells y.2 x
/-- A packet, an event, as they are handed on. -/
abbrev pagg (p : Pk) (v : Value) : Value := .agg #[.int .i64 p.kind, .int .i64 p.path, .int .i64 p.number, .int .i64 p.of_, .int .i64 p.from_, v, .bool p.fin, .int .i64 p.seen, .int .i64 p.limit]
abbrev eagg (e : Ev) (x y : Value) : Value := .agg #[.int .i64 e.kind, .int .i64 e.n, x, .int .i64 e.pk.kind, .int .i64 e.pk.path, .int .i64 e.pk.number, .int .i64 e.pk.of_, .int .i64 e.pk.from_, y, .bool e.pk.fin, .int .i64 e.pk.seen, .int .i64 e.pk.limit]
def EV (w : World) (S : Nat → Prop) (e : Ev) (x : Value × Value) : Prop := BV w S x.1 e.data ∧ BV w S x.2 e.pk.data
theorem EV.frm {S T : Nat → Prop} {w w' : World} {e : Ev} {x : Value × Value} (h : EV w S e x) (k : Frm T w w') (hT : ∀ j, S j → ¬ T j) : EV w' S e x := ⟨h.1.frm k hT, h.2.frm k hT⟩
theorem EV.mono {S S' : Nat → Prop} {w : World} {e : Ev} {x : Value × Value} (h : EV w S e x) (hS : ∀ j, S j → j < w.heap.size → S' j) : EV w S' e x := ⟨h.1.mono hS, h.2.mono hS⟩

/-! ### Rows of things of k cells each -/
def rowsG {α β : Type} (f : α → β → List Value) : List α → List β → List Value
  | a :: l, b :: vs => f a b ++ rowsG f l vs
  | _, _ => []
section
variable {α β : Type} {f : α → β → List Value} {k : Nat}
theorem rowsG_length (hf : ∀ a b, (f a b).length = k) : ∀ (l : List α) (vs : List β), vs.length = l.length → (rowsG f l vs).length = l.length * k
  | [], [], _ => by simp [rowsG]
  | x :: l, v :: vs, h => by
    simp only [rowsG, List.length_append, hf, List.length_cons] at h ⊢
    rw [rowsG_length hf l vs (by omega), Nat.add_mul]
    omega
theorem rowsG_get (hf : ∀ a b, (f a b).length = k) : ∀ (l : List α) (vs : List β) (i j : Nat) (x : α) (v : β), l[i]? = some x → vs[i]? = some v → j < k → (rowsG f l vs)[i * k + j]? = (f x v)[j]?
  | x :: l, v :: vs, 0, j, _, _, h1, h2, hj => by
    simp at h1 h2
    subst h1
    subst h2
    simp only [rowsG, Nat.zero_mul, Nat.zero_add]
    rw [List.getElem?_append_left (by rw [hf]; exact hj)]
  | x :: l, v :: vs, i + 1, j, _, _, h1, h2, hj => by
    simp only [List.getElem?_cons_succ] at h1 h2
    simp only [rowsG]
    rw [List.getElem?_append_right (by rw [hf, Nat.add_mul]; omega)]
    have e : (i + 1) * k + j - (f x v).length = i * k + j := by rw [hf, Nat.add_mul]; omega
    rw [e]
    exact rowsG_get hf l vs i j _ _ h1 h2 hj
  | [], _, i, j, _, _, h1, _, _ => by simp at h1
  | _ :: _, [], i, j, _, _, _, h2, _ => by simp at h2
theorem rowsG_append : ∀ (l l2 : List α) (vs vs2 : List β), vs.length = l.length → rowsG f (l ++ l2) (vs ++ vs2) = rowsG f l vs ++ rowsG f l2 vs2
  | [], l2, [], vs2, _ => by simp [rowsG]
  | x :: l, l2, v :: vs, vs2, h => by
    simp only [List.cons_append, rowsG, List.append_assoc]
    rw [rowsG_append l l2 vs vs2 (by simpa using h)]
theorem rowsG_snoc (l : List α) (x : α) (vs : List β) (v : β) (h : vs.length = l.length) : rowsG f (l ++ [x]) (vs ++ [v]) = rowsG f l vs ++ f x v := by
  rw [rowsG_append l [x] vs [v] h]
  simp [rowsG]
theorem rowsG_all (P : Value → Prop) : ∀ (l : List α) (vs : List β), (∀ (i : Nat) (x : α) (v : β), l[i]? = some x → vs[i]? = some v → ∀ u ∈ f x v, P u) → ∀ u ∈ rowsG f l vs, P u
  | [], _, _ => by simp [rowsG]
  | _ :: _, [], _ => by simp [rowsG]
  | x :: l, v :: vs, h => by
    intro u hu
    simp only [rowsG, List.mem_append] at hu
    rcases hu with hu | hu
    · exact h 0 x v rfl rfl u hu
    · exact rowsG_all P l vs (fun i y z hy hz => h (i + 1) y z (by simpa using hy) (by simpa using hz)) u hu
end

theorem sl_conv {w : World} {A : Option Addr} {n c : Nat} {l : List Int} (h : Sl w 1 (.slice A n c) n (u8s l)) : (convert 23 9 (.slice A n c)).run Try.prog w = .ok (.string (toBA l)) w := by
  rw [run_convert_bytes_string w 23 9 5 A n c Try.underlying23 Try.underlying5 Try.underlying9]
  obtain ⟨A', c', e, h1, h2, h3, h4, h5⟩ := h
  injection e with e1 e2 e3
  subst e1
  rw [u8s_length, Nat.mul_one] at h3
  rcases A with _ | a
  · have : l = [] := by
      cases l with
      | nil => rfl
      | cons x l => obtain ⟨_, e, _⟩ := h5 (by simp [u8s]); cases e
    subst this
    simp only [List.length_nil] at h3
    subst h3
    rfl
  · refine run_bytesToString w a n c l ?_
    have := run_loadCells_list (P := Try.prog) (w := w) a (u8s l) (fun j v hj => by
      obtain ⟨ad, e, hc⟩ := h5 (by have := (List.getElem?_eq_some_iff.1 hj).1; omega)
      injection e with e
      subst e
      exact hc j v hj)
    rw [u8s_length, h3] at this
    exact this
end Go.Proofs.Ytoplcndiejpipaa
