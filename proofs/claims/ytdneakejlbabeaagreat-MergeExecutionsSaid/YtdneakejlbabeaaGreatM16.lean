/- Parts of the walk: Jh, Ji, Jj, Jk. -/
import Derived.Test.YtdneakejlbabeaaGreatM15
namespace Go.Proofs.YtdneakejlbabeaaGreat
open Go.RowKit
set_option linter.unusedVariables false
set_option linter.unusedSimpArgs false

section
variable {o o' : Nat → Nat} {k B : Nat} {w w' : World} {ge : Nat} {x : EndV}
theorem EndS.put3 (h : EndS o k B w ge x) (s : Stp (fun c => c = k + 3) o o' w w') {bu' ac' : Int} {vb' : Value} {ob' : List Int} {cl' : Bool} (h3 : C3 o' k B w' x.go bu' ac' vb' ob' cl') : EndS o' k B w' ge { x with bu := bu', ac := ac', vb := vb', ob := ob', cl := cl' } :=
  have kp := h.kp
  ⟨h.blk.frm s.f (fun e => by have := h.og; omega), (s.ag _ h.blk.lt).trans h.og, h.ge, h.kp, h.c1.frm s (by omega), h.c2.frm s (by omega), h3, h.c4.frm s (by omega), h.c5.frm s (by omega), h.c6.frm s (by omega), h.c7.frm s (by omega) (by omega), h.c8.frm s (by omega) (by omega), fun i p hi => (h.c9 i p hi).frm s (by omega), h.np⟩
theorem EndS.put5 (h : EndS o k B w ge x) (s : Stp (fun c => c = k + 5) o o' w w') {wi' : Int} {ta' : Nat} {en' : Int} {vib' : Value} {ib' : List Int} {vg' : Value} {got' : List (Int × Int)} (h5 : C5 o' k B w' x.gi wi' ta' en' vib' ib' vg' got') : EndS o' k B w' ge { x with wi := wi', ta := ta', en := en', vib := vib', ib := ib', vg := vg', got := got' } :=
  have kp := h.kp
  ⟨h.blk.frm s.f (fun e => by have := h.og; omega), (s.ag _ h.blk.lt).trans h.og, h.ge, h.kp, h.c1.frm s (by omega), h.c2.frm s (by omega), h.c3.frm s (by omega), h.c4.frm s (by omega), h5, h.c6.frm s (by omega), h.c7.frm s (by omega) (by omega), h.c8.frm s (by omega) (by omega), fun i p hi => (h.c9 i p hi).frm s (by omega), h.np⟩
theorem EndS.put2 (h : EndS o k B w ge x) (s : Stp (fun c => c = k + 2) o o' w w') {due' : List Int} (h2 : C2 o' k B w' x.vD due') : EndS o' k B w' ge { x with due := due' } :=
  have kp := h.kp
  ⟨h.blk.frm s.f (fun e => by have := h.og; omega), (s.ag _ h.blk.lt).trans h.og, h.ge, h.kp, h.c1.frm s (by omega), h2, h.c3.frm s (by omega), h.c4.frm s (by omega), h.c5.frm s (by omega), h.c6.frm s (by omega), h.c7.frm s (by omega) (by omega), h.c8.frm s (by omega) (by omega), fun i p hi => (h.c9 i p hi).frm s (by omega), h.np⟩
end
/-- The packets sent among events. -/
def sents : List Ev → List Pk
  | [] => []
  | e :: l => if e.kind = 5 then e.pk :: sents l else sents l
theorem sents_app : ∀ (a b : List Ev), sents (a ++ b) = sents a ++ sents b
  | [], b => rfl
  | e :: a, b => by simp only [List.cons_append, sents, sents_app a b]; split <;> rfl
theorem sents_map (d : List Pk) : sents (d.map fun p => (⟨5, 0, [], p⟩ : Ev)) = d := by
  induction d with
  | nil => rfl
  | cons p d ih => simp only [List.map_cons, sents, if_true, ih]
/-- An end that acted: its new events, what it said. -/
structure Act (N : Nat) (x x' : EndV) (d : List Ev) : Prop where
  es : x'.es = x.es ++ d
  outs : x'.outs = x.outs ++ sents d
  ok : EOk N x'
  side : x'.side = x.side
  sm : ∀ e ∈ d, e.data.length ≤ 1000000 ∧ e.pk.data.length ≤ 1000000
theorem Act.pump {N : Nat} {x y z : EndV} {d : List Ev} {p : List Pk} (h : Act N x y d) (g : Grw y z p) : Act N x z (d ++ p.map fun p => ⟨5, 0, [], p⟩) :=
  ⟨by rw [g.es, h.es]; simp, by rw [g.outs, h.outs, sents_app, sents_map]; simp, h.ok.grw g, by rw [g.e]; exact h.side, fun e he => (List.mem_append.1 he).elim (h.sm e) (fun he => by obtain ⟨p, hp, rfl⟩ := List.mem_map.1 he; exact ⟨Nat.zero_le _, g.sm p hp⟩)⟩
/-- What taking leaves. -/
def ETakeR (o : Nat → Nat) (k B : Nat) (w : World) (ge : Nat) (x : EndV) (e : Ending) (w' : World) : Prop :=
  e = .returned x.vO ∧ EndS (fun j => if x.vO.ownBlock = some j then 0 else o j) k B w' ge { x with vO := .slice none 0 0, outs := [] } ∧ PkRow o B w x.vO x.outs ∧ w' = w.setCell ⟨ge, 18, none⟩ (.slice none 0 0)
theorem etake_any (o : Nat → Nat) (k B : Nat) (w : World) (ge : Nat) (x : EndV) (h : EndS o k B w ge x) :
    Calls Tryz.prog 50 #[.pointer (some ⟨ge, 0, none⟩)] w fun e w' => e = .returned x.vO ∧ w' = w.setCell ⟨ge, 18, none⟩ (.slice none 0 0) := by
  have n18 := h.blk.cell 18
  have y18 := h.blk.free 18
  simp only [List.getElem?_toArray, List.getElem?_cons_zero, List.getElem?_cons_succ] at n18
  obtain ⟨A, c, hv⟩ := h.c8.r.form
  rw [hv] at n18 ⊢
  clear h hv
  go_enter Tryz.func50, Tryz.ntmps50
  go_wp2_with fail
  go_ret
  exact ⟨rfl, rfl⟩
/-- What a call on an end leaves. -/
def CallR (o : Nat → Nat) (k B N : Nat) (w : World) (ge : Nat) (x : EndV) (w' : World) : Prop :=
  ∃ (o' : Nat → Nat) (x' : EndV) (d : List Ev), EndS o' k B w' ge x' ∧ Stp (EC k) o o' w w' ∧ Act (N + 500000) x x' d ∧ ∀ e ∈ d, e.kind ≠ 4
theorem Act.refl {N : Nat} {x : EndV} (h : EOk N x) (hN : N + 500000 ≤ 40000000) : Act (N + 500000) x x [] := by
  obtain ⟨h1, h2, h3, h4, h5, h6, h7, h8, h9, h10⟩ := h
  exact ⟨by simp, by simp [sents], ⟨h1, h2, h3, h4, h5, by omega, by omega, by omega, by omega, hN⟩, rfl, fun e h => (by cases h)⟩
theorem CallR.pump {o : Nat → Nat} {k B N : Nat} {w : World} {ge : Nat} {x : EndV} {w' w'' : World} {o' : Nat → Nat} {x' : EndV} {d : List Ev} {e : Ending} (hs : Stp (EC k) o o' w w') (ha : Act (N + 500000) x x' d) (hd : ∀ e ∈ d, e.kind ≠ 4) (hp : PumpR o' k B w' ge x' e w'') : CallR o k B N w ge x w'' := by
  obtain ⟨_, o2, x2, p, hx2, hs2, hg2⟩ := hp
  refine ⟨o2, x2, _, hx2, hs.trans hs2, ha.pump hg2, fun e he => ?_⟩
  rcases List.mem_append.1 he with h | h
  · exact hd e h
  · obtain ⟨p, _, rfl⟩ := List.mem_map.1 h
    simp
set_option maxHeartbeats 4000000 in
set_option maxRecDepth 100000 in
theorem close_any (o : Nat → Nat) (k B N : Nat) (w : World) (ge : Nat) (x : EndV) (h : EndS o k B w ge x) (hok : EOk N x) (hN : N + 500000 ≤ 40000000) (hB : B ≤ w.heap.size) :
    Calls Tryz.prog 42 #[.pointer (some ⟨ge, 0, none⟩)] w fun e w' => ∃ q : Bool, e = .returned (.bool q) ∧ CallR o k B N w ge x w' := by
  have H := Lib.hid h
  have OK := Lib.hid hok
  have kp := h.kp
  have n12 := h.blk.cell 12
  have g3 := h.c3.blk.cell 3
  have y3 := h.c3.blk.free 3
  simp only [List.getElem?_toArray, List.getElem?_cons_zero, List.getElem?_cons_succ] at n12 g3
  have hsl := h.said_le
  have hes := hok.es
  have hNN := hok.N
  clear h hok
  rcases hcl : x.cl with _ | _
  · rw [hcl] at g3
    go_enter Tryz.func42, Tryz.ntmps42
    go_wp2_with fail
    have S1 : Stp (fun c => c = k + 3) o o w (w.setCell ⟨x.go, 3, none⟩ (.bool true)) := ⟨(Frm.refl _ _).setCell (.inl H.out.c3.og) _, Agr.refl _ _⟩
    have f1 := (Frm.refl (· = x.go) w).setg (i := 3) (.bool true)
    have X1 := Lib.hid (H.out.put3 S1 (bu' := x.bu) (ac' := x.ac) (vb' := x.vb) (ob' := x.ob) (cl' := true) ⟨by simpa using H.out.c3.blk.set 3 (.bool true), H.out.c3.r.frm f1 (fun j hj e => H.out.c3.ne j hj e), H.out.c3.ow.frm (Agr.refl _ _) f1.size, H.out.c3.og, H.out.c3.ge, H.out.c3.ne⟩)
    have T1 : Hid (Stp (EC k) o o w (w.setCell ⟨x.go, 3, none⟩ (.bool true))) := Lib.hid (S1.mono (fun c hc => by rw [hc]; exact ⟨by omega, by omega⟩))
    obtain ⟨w1, hw1⟩ : ∃ W, W = w.setCell ⟨x.go, 3, none⟩ (.bool true) := ⟨_, rfl⟩
    rw [← hw1] at X1 T1 ⊢
    clear S1 f1 hw1
    refine (event_any o k B w1 ge _ ⟨6, 0, [], ⟨0, 0, 0, 0, 0, [], false, 0, 0⟩⟩ (.slice none 0 0) (.slice none 0 0) X1.out (Nat.le_trans hB T1.out.size) ⟨BV.nil _ _, BV.nil _ _⟩ (by dsimp only; omega)).mono ?_
    rintro e w2 ⟨rfl, o2, vE, m0, hx2, hs2⟩
    have X2 := Lib.hid hx2
    have T2 := Lib.hid (T1.out.trans (hs2.mono (fun c hc => by rcases hc with rfl | rfl; exact ⟨by omega, by omega⟩; exact ⟨by omega, by omega⟩)))
    clear hx2 hs2
    have OK2 : Hid (Act (N + 500000) x { x with cl := true, vE := vE, es := x.es ++ [⟨6, 0, [], ⟨0, 0, 0, 0, 0, [], false, 0, 0⟩⟩], m0 := m0 } [⟨6, 0, [], ⟨0, 0, 0, 0, 0, [], false, 0, 0⟩⟩]) := Lib.hid (by
      obtain ⟨h1, h2, h3, h4, h5, h6, h7, h8, h9, h10⟩ := OK.out
      exact ⟨rfl, by simp [sents], ⟨h1, h2, h3, h4, h5, by dsimp only; omega, by dsimp only; omega, by simp; omega, by dsimp only; omega, hN⟩, rfl, fun e he => by rw [List.mem_singleton.1 he]; exact ⟨Nat.zero_le _, Nat.zero_le _⟩⟩)
    go_wp2_with fail
    refine (pump_any o2 k B _ w2 ge _ X2.out OK2.out.ok (Nat.le_trans hB T2.out.size)).mono ?_
    intro e w3 hp
    have HP := Lib.hid (CallR.pump T2.out OK2.out (by intro e he; rw [List.mem_singleton] at he; subst he; simp) hp)
    obtain ⟨rfl, _⟩ := hp
    go_wp2_with fail
    go_ret
    exact ⟨_, rfl, HP.out⟩
  · rw [hcl] at g3
    go_enter Tryz.func42, Tryz.ntmps42
    go_wp2_with fail
    go_ret
    exact ⟨_, rfl, o, x, [], H.out, Stp.refl _ _ _, Act.refl OK.out hN, fun e h => by cases h⟩
end Go.Proofs.YtdneakejlbabeaaGreat

namespace Go.Proofs.YtdneakejlbabeaaGreat
open Go.RowKit
set_option linter.unusedVariables false
set_option linter.unusedSimpArgs false

def noPk : Pk := ⟨0, 0, 0, 0, 0, [], false, 0, 0⟩
set_option maxHeartbeats 8000000 in
set_option maxRecDepth 100000 in
theorem ewrite_any (o : Nat → Nat) (k B N : Nat) (w : World) (ge : Nat) (x : EndV) (v : Value) (l : List Int) (h : EndS o k B w ge x) (hok : EOk N x) (hN : N + 500000 ≤ 40000000) (hB : B ≤ w.heap.size) (hv : BV w (frozen o) v l) (hl : l.length ≤ 1000000) :
    Calls Tryz.prog 40 #[.pointer (some ⟨ge, 0, none⟩), v] w fun e w' => ∃ n : Int, e = .returned (.int .i64 n) ∧ CallR o k B N w ge x w' := by
  have H := Lib.hid h
  have OK := Lib.hid hok
  have HV := Lib.hid hv
  have HI := Lib.hid Tryz.info5
  have kp := h.kp
  have n12 := h.blk.cell 12
  simp only [List.getElem?_toArray, List.getElem?_cons_zero, List.getElem?_cons_succ] at n12
  have hsl := h.said_le
  have hes := hok.es
  have hNN := hok.N
  have hob := hok.ob
  obtain ⟨Ab, cb, hvb⟩ := own_slice' h.c3.r.1
  have OB : Hid (ObC w x.go x.bu x.ac Ab x.ob.length cb x.cl) := Lib.hid (by have := h.c3.blk; rw [hvb] at this; exact this)
  have OV : Hid (w.ownsRow B 5 1 (.slice Ab x.ob.length cb) x.ob.length (u8s x.ob)) := Lib.hid (by have := h.c3.r.1; rw [hvb] at this; exact this)
  have hne : Hid (∀ j, (Value.slice Ab x.ob.length cb).ownBlock = some j → j ≠ x.go) := Lib.hid (fun j hj => h.c3.ne j (by rw [hvb]; exact hj))
  have HVB := Lib.hid hvb
  obtain ⟨Av, cv, rfl, hlc, hcm⟩ := hv.len
  clear h hok hvb hv
  go_enter Tryz.func40, Tryz.ntmps40
  go_wp2_with fail
  refine (owrite_any w B x.go x.bu x.ac Ab cb x.ob x.cl _ _ l OB.out OV.out hB hne.out HV.out hob hl).mono ?_
  rintro e w1 ⟨n, A', c', hn1, hn2, rfl, hob1, hown1, hf1, hat1⟩
  have S1 : Stp (fun c => c = k + 3) o (ext o w.heap.size (.slice A' (x.ob.length + n) c') (k + 3)) w w1 := ⟨hf1.mono (fun j hj => by
    rcases hj with rfl | hj
    · exact H.out.c3.og
    · exact (H.out.c3.ow j (by rw [HVB.out]; exact hj)).1), ext_agr _ _ _ _⟩
  have hlen : (x.ob ++ l.take n).length = x.ob.length + n := by rw [List.length_append, List.length_take]; omega
  have OW1 : Ow (ext o w.heap.size (.slice A' (x.ob.length + n) c') (k + 3)) w1 (k + 3) (.slice A' (x.ob.length + n) c') := ext_ow (v := x.vb) H.out.c3.ow (by rw [HVB.out]; exact hat1) (fun j hj => (hown1.lt j hj).2)
  have X1 := Lib.hid (H.out.put3 S1 (bu' := x.bu) (ac' := x.ac) (vb' := .slice A' (x.ob.length + n) c') (ob' := x.ob ++ l.take n) (cl' := x.cl) ⟨hob1, ⟨by rw [hlen]; exact hown1, fun y hy => by
      rcases List.mem_append.1 hy with hy | hy
      · exact H.out.c3.r.2 y hy
      · exact HV.out.byt y (List.mem_of_mem_take hy)⟩, OW1, (S1.ag _ H.out.c3.blk.lt).trans H.out.c3.og, H.out.c3.ge, fun j hj e => by
      rcases hat1 with e1 | e1
      · exact hne.out j (e1 ▸ hj) e
      · have h1 := e1 j hj
        have h2 := H.out.c3.blk.lt
        omega⟩)
  have T1 := Lib.hid (S1.mono (D := EC k) (fun c hc => by rw [hc]; exact ⟨by omega, by omega⟩))
  have V1 : Hid (BV w1 (frozen (ext o w.heap.size (.slice A' (x.ob.length + n) c') (k + 3))) (.slice Av l.length cv) l) := Lib.hid (((HV.out.mono (S' := fun j => frozen o j ∧ j < w.heap.size) (fun j hj hl => ⟨hj, hl⟩)).frm S1.f (fun j hj e => by have h1 : o j = 0 := hj.1; omega)).mono (fun j hj _ => frozen_ag S1.ag j hj.1 hj.2))
  obtain ⟨o1, ho1⟩ : ∃ f, f = ext o w.heap.size (.slice A' (x.ob.length + n) c') (k + 3) := ⟨_, rfl⟩
  obtain ⟨vb1, hvb1⟩ : ∃ u, u = Value.slice A' (x.ob.length + n) c' := ⟨_, rfl⟩
  rw [← ho1] at X1 T1 V1
  rw [← hvb1] at X1
  have s1 := hf1.size
  clear hob1 hown1 hf1 hat1 S1 OW1 ho1 hvb1 OB OV hne
  have OK1 : Hid (EOk N { x with bu := x.bu, ac := x.ac, vb := vb1, ob := x.ob ++ l.take n, cl := x.cl }) := Lib.hid (by
    obtain ⟨h1, h2, h3, h4, h5, h6, h7, h8, h9, h10⟩ := OK.out
    exact ⟨h1, h2, h3, h4, by dsimp only; omega, h6, h7, h8, h9, h10⟩)
  rcases Nat.eq_zero_or_pos n with h0 | h0
  · subst h0
    go_wp2_with fail
    go_ret
    obtain ⟨h1, h2, h3, h4, h5, h6, h7, h8, h9, h10⟩ := OK1.out
    exact ⟨_, rfl, o1, _, [], X1.out, T1.out, ⟨by simp, by simp [sents], ⟨h1, h2, h3, h4, h5, by omega, by omega, by omega, by omega, hN⟩, rfl, fun e h => (by cases h)⟩, fun e h => by cases h⟩
  · have n0 : (0 : Int) < (n : Int) := by omega
    have i0 : (0 : Int) ≤ (n : Int) := by omega
    have i1 : (n : Int) ≤ (l.length : Int) := by omega
    have i2 : (n : Int) ≤ (cv : Int) := by omega
    have VT := Lib.hid (V1.out.take (m := n) hn1)
    have hlt : (l.take n).length = n := by rw [List.length_take]; omega
    have HLT := Lib.hid hlt
    have HS : Hid (Sl w1 1 (.slice Av n cv) n (u8s (l.take n))) := Lib.hid (by have := VT.out.sl; rw [hlt] at this; exact this)
    clear hlt
    go_wp2_with (at_builtin; refine wp_app w1.heap.size rfl _ _ 25 5 (.int .u8 0) 1 1 rfl Tryz.underlying25 HI.out rfl (by omega) (by omega) rfl rfl (World.ownsRow_nil _ _ _ _) HS.out (by omega) (Nat.le_refl _) ?_; intro v7 w7 hown hfr hat; simp only [Nat.zero_add, List.nil_append] at hown; have O7 := Lib.hid hown; have B7 : Hid (Below w1.heap.size w1 w7) := Lib.hid (Frm.below (Below.refl _ _) hfr (Nat.le_refl _) (fun g hg => by cases hg)); obtain ⟨A7, c7, rfl⟩ := own_slice' hown; clear hown hfr hat)
    have S7 : Stp (fun _ => False) o1 (scr o1 w1.heap.size 0) w1 w7 := ⟨Frm.of_below B7.out, scr_agr _ _ _⟩
    have X7 := Lib.hid (X1.out.frm S7 (fun h => h) (fun _ h => h.elim))
    have T7 := Lib.hid (T1.out.trans (S7.mono (fun _ h => h.elim)))
    have D7 : Hid (BV w7 (frozen (scr o1 w1.heap.size 0)) (.slice A7 n c7) (l.take n)) := Lib.hid (by
      have hb : BO w1.heap.size w7 (.slice A7 n c7) (l.take n) := ⟨by rw [HLT.out]; exact O7.out, fun y hy => HV.out.byt y (List.mem_of_mem_take hy)⟩
      exact hb.bv.mono (fun j hj _ => scr_new hj))
    (try go_wp2_with fail)
    refine (event_any _ k B w7 ge _ ⟨1, 0, l.take n, noPk⟩ (.slice A7 n c7) (.slice none 0 0) X7.out (Nat.le_trans hB T7.out.size) ⟨D7.out, BV.nil _ _⟩ (by dsimp only; omega)).mono ?_
    rintro e w2 ⟨rfl, o2, vE, m0, hx2, hs2⟩
    have X2 := Lib.hid hx2
    have T2 := Lib.hid (T7.out.trans (hs2.mono (fun c hc => by rcases hc with rfl | rfl; exact ⟨by omega, by omega⟩; exact ⟨by omega, by omega⟩)))
    clear hx2 hs2 S7
    have n24 := X2.out.blk.cell 24
    have y24 := X2.out.blk.free 24
    simp only [List.getElem?_toArray, List.getElem?_cons_zero, List.getElem?_cons_succ] at n24
    obtain ⟨mm, hmm⟩ : ∃ m, IntKind.i64.wrap (x.m5 + (n : Int)) = m := ⟨_, rfl⟩
    go_wp2_with fail
    refine wp_region_still_tail (id := 4) 10 (by kernel_rfl) (by kernel_rfl) ?_
    change wpStill _ _ (World.drew _) (fun a' => wpList _ _ _ _ a' (World.drew _)) _ _
    simp only [List.take_succ_cons, List.take_zero, List.drop_succ_cons, List.drop_zero]
    repeat still_step
    refine wpStill_nil ?_
    go_wp2_with fail
    obtain ⟨wa, hwa⟩ : ∃ W, W = (w2.setCell ⟨ge, 24, none⟩ (.int .i64 mm)).drew := ⟨_, rfl⟩
    have SA : Stp (fun c => c = k) o2 o2 w2 wa := by rw [hwa]; exact ⟨((Frm.refl _ _).setCell (.inl X2.out.og) _).drew, Agr.refl _ _⟩
    have XA := Lib.hid (X2.out.putI SA x.now x.limit x.sent m0 x.m1 x.m2 x.m3 x.m4 mm x.m6 x.m7 (by rw [hwa]; exact Blk.drew (by simpa using X2.out.blk.set 24 (.int .i64 mm))))
    have TA := Lib.hid (T2.out.trans (SA.mono (fun c hc => by rw [hc]; exact ⟨by omega, by omega⟩)))
    rw [← hwa]
    clear hwa SA n24 y24 hmm
    have AC : Hid (Act (N + 500000) x { x with bu := x.bu, ac := x.ac, vb := vb1, ob := x.ob ++ l.take n, cl := x.cl, vE := vE, es := x.es ++ [⟨1, 0, l.take n, noPk⟩], now := x.now, limit := x.limit, sent := x.sent, m0 := m0, m1 := x.m1, m2 := x.m2, m3 := x.m3, m4 := x.m4, m5 := mm, m6 := x.m6, m7 := x.m7 } [⟨1, 0, l.take n, noPk⟩]) := Lib.hid (by
      obtain ⟨h1, h2, h3, h4, h5, h6, h7, h8, h9, h10⟩ := OK1.out
      exact ⟨rfl, by simp [sents], ⟨h1, h2, h3, h4, h5, by dsimp only at h6 ⊢; omega, by dsimp only at h7 ⊢; omega, by simp; omega, by dsimp only at h9 ⊢; omega, hN⟩, rfl, fun e he => by rw [List.mem_singleton.1 he]; exact ⟨Nat.le_trans (List.length_take_le _ _) (by omega), Nat.zero_le _⟩⟩)
    refine (pump_any o2 k B _ wa ge _ XA.out AC.out.ok (Nat.le_trans hB TA.out.size)).mono ?_
    intro e w3 hp
    have HP := Lib.hid (CallR.pump TA.out AC.out (by intro e he; rw [List.mem_singleton] at he; subst he; simp) hp)
    obtain ⟨rfl, _⟩ := hp
    go_wp2_with fail
    go_ret
    exact ⟨_, rfl, HP.out⟩
end Go.Proofs.YtdneakejlbabeaaGreat

namespace Go.Proofs.YtdneakejlbabeaaGreat
open Go.RowKit
set_option linter.unusedVariables false
set_option linter.unusedSimpArgs false

theorem BV.stp {C : Nat → Prop} {o o' : Nat → Nat} {w w' : World} {v : Value} {l : List Int} (h : BV w (frozen o) v l) (s : Stp C o o' w w') (h0 : ¬ C 0) : BV w' (frozen o') v l :=
  ((h.mono (S' := fun j => frozen o j ∧ j < w.heap.size) (fun j hj hl => ⟨hj, hl⟩)).frm s.f (fun j hj e => h0 (by have h1 : o j = 0 := hj.1; rw [h1] at e; exact e))).mono (fun j hj _ => frozen_ag s.ag j hj.1 hj.2)
theorem ec0 {k : Nat} (h : 0 < k) : ¬ EC k 0 := fun e => by have := e.1; omega
def EReadR (o : Nat → Nat) (k B N : Nat) (w : World) (ge : Nat) (x : EndV) (e : Ending) (w' : World) : Prop :=
  ∃ (v : Value) (l : List Int) (o' : Nat → Nat) (x' : EndV) (d : List Ev), e = .returned v ∧ BV w' (frozen o') v l ∧ l.length ≤ 4096 ∧ EndS o' k B w' ge x' ∧ Stp (EC k) o o' w w' ∧ Act (N + 500000) x x' d ∧ ∀ e ∈ d, e.kind ≠ 4
set_option maxHeartbeats 8000000 in
set_option maxRecDepth 100000 in
theorem eread_any (o : Nat → Nat) (k B N : Nat) (w : World) (ge : Nat) (x : EndV) (n : Int) (h : EndS o k B w ge x) (hok : EOk N x) (hN : N + 500000 ≤ 40000000) (hB : B ≤ w.heap.size) :
    Calls Tryz.prog 41 #[.pointer (some ⟨ge, 0, none⟩), .int .i64 n] w fun e w' => EReadR o k B N w ge x e w' := by
  have H := Lib.hid h
  have OK := Lib.hid hok
  have HI := Lib.hid Tryz.info5
  have kp := h.kp
  have n15 := h.blk.cell 15
  simp only [List.getElem?_toArray, List.getElem?_cons_zero, List.getElem?_cons_succ] at n15
  have hsl := h.said_le
  have hes := hok.es
  have hNN := hok.N
  have I := h.c5.r
  have hnn := frontL_nonneg I.srt.a
  have htop := frontL_top I.top (by omega)
  have htk := I.tk
  have hbn := I.bn
  obtain ⟨f, hf⟩ : ∃ f : Nat, frontL x.got = (f : Int) := ⟨(frontL x.got).toNat, by omega⟩
  have HF := Lib.hid hf
  have HI5 := Lib.hid I
  clear h hok I
  go_enter Tryz.func41, Tryz.ntmps41
  go_wp2_with fail
  refine (iread_any (fun j => B ≤ j) x.ib x.ta f n HI5.out.blk HI5.out.r HI5.out.b.bv HF.out (by omega) (by omega) (by omega)).mono ?_
  rintro e w1 ⟨v1, l1, wz, rfl, hbo, hlen, hbz, rfl⟩
  have S1 : Stp (fun c => c = k + 5) o (scr o w.heap.size 0) w (wz.setCell ⟨x.gi, 1, none⟩ (.int .i64 ((x.ta + l1.length : Nat) : Int))) := ⟨(Frm.of_below hbz).setCell (.inl (H.out.c5.ow _ (.inl rfl))) _, scr_agr _ _ _⟩
  have hI1 := (HI5.out.below hbz).setT (x.ta + l1.length) (by rw [HF.out]; omega)
  have X1 := Lib.hid (H.out.put5 S1 ⟨hI1, fun i hi => (S1.ag i (HI5.out.lt i hi)).trans (H.out.c5.ow i hi)⟩)
  have T1 := Lib.hid (S1.mono (D := EC k) (fun c hc => by rw [hc]; exact ⟨by omega, by omega⟩))
  have V1 : Hid (BV (wz.setCell ⟨x.gi, 1, none⟩ (.int .i64 ((x.ta + l1.length : Nat) : Int))) (frozen (scr o w.heap.size 0)) v1 l1) := Lib.hid (hbo.bv.mono (fun j hj _ => scr_new hj))
  obtain ⟨A1, c1, rfl⟩ := own_slice' hbo.1
  obtain ⟨w1, hw1⟩ : ∃ W, W = wz.setCell ⟨x.gi, 1, none⟩ (.int .i64 ((x.ta + l1.length : Nat) : Int)) := ⟨_, rfl⟩
  rw [← hw1] at X1 T1 V1 ⊢
  obtain ⟨o1, ho1⟩ : ∃ f, f = scr o w.heap.size 0 := ⟨_, rfl⟩
  rw [← ho1] at X1 T1 V1
  have hl4 : l1.length ≤ 4096 := by omega
  clear hbo hbz hI1 S1 hw1 ho1
  have OK1 : Hid (EOk N { x with wi := x.wi, ta := x.ta + l1.length, en := x.en, vib := x.vib, ib := x.ib, vg := x.vg, got := x.got }) := Lib.hid (by
    obtain ⟨h1, h2, h3, h4, h5, h6, h7, h8, h9, h10⟩ := OK.out
    exact ⟨h1, h2, h3, h4, h5, h6, h7, h8, h9, h10⟩)
  obtain ⟨m, hm⟩ : ∃ m, l1.length = m := ⟨_, rfl⟩
  have HM := Lib.hid hm
  rw [hm] at hl4 ⊢
  have X1' := X1
  rcases Nat.eq_zero_or_pos m with h0 | h0
  · subst h0
    go_wp2_with fail
    go_ret
    obtain ⟨h1, h2, h3, h4, h5, h6, h7, h8, h9, h10⟩ := OK1.out
    exact ⟨_, l1, o1, _, [], rfl, by have := V1.out; rw [hm] at this; exact this, by rw [hm]; exact hl4, X1.out, T1.out, ⟨by simp, by simp [sents], ⟨h1, h2, h3, h4, h5, by omega, by omega, by omega, by omega, hN⟩, rfl, fun e h => (by cases h)⟩, fun e h => by cases h⟩
  · have m0 : (0 : Int) < (m : Int) := by omega
    have HS : Hid (Sl w1 1 (.slice A1 m c1) m (u8s l1)) := Lib.hid (by have := V1.out.sl; rw [hm] at this; exact this)
    have V1' : Hid (BV w1 (frozen o1) (.slice A1 m c1) l1) := Lib.hid (by have := V1.out; rw [hm] at this; exact this)
    clear hm V1 X1'
    go_wp2_with (at_builtin; refine wp_app w1.heap.size rfl _ _ 25 5 (.int .u8 0) 1 1 rfl Tryz.underlying25 HI.out rfl (by omega) (by omega) rfl rfl (World.ownsRow_nil _ _ _ _) HS.out (by omega) (Nat.le_refl _) ?_; intro v7 w7 hown hfr hat; simp only [Nat.zero_add, List.nil_append] at hown; have O7 := Lib.hid hown; have B7 : Hid (Below w1.heap.size w1 w7) := Lib.hid (Frm.below (Below.refl _ _) hfr (Nat.le_refl _) (fun g hg => by cases hg)); obtain ⟨A7, c7, rfl⟩ := own_slice' hown; clear hown hfr hat)
    have S7 : Stp (fun _ => False) o1 (scr o1 w1.heap.size 0) w1 w7 := ⟨Frm.of_below B7.out, scr_agr _ _ _⟩
    have X7 := Lib.hid (X1.out.frm S7 (fun h => h) (fun _ h => h.elim))
    have T7 := Lib.hid (T1.out.trans (S7.mono (fun _ h => h.elim)))
    have W7 := Lib.hid (V1'.out.stp S7 (fun h => h))
    have D7 : Hid (BV w7 (frozen (scr o1 w1.heap.size 0)) (.slice A7 m c7) l1) := Lib.hid (by
      have hb : BO w1.heap.size w7 (.slice A7 m c7) l1 := ⟨by rw [HM.out]; exact O7.out, V1'.out.byt⟩
      exact hb.bv.mono (fun j hj _ => scr_new hj))
    (try go_wp2_with fail)
    refine (event_any _ k B w7 ge _ ⟨2, 0, l1, noPk⟩ (.slice A7 m c7) (.slice none 0 0) X7.out (Nat.le_trans hB T7.out.size) ⟨D7.out, BV.nil _ _⟩ (by dsimp only; omega)).mono ?_
    rintro e w2 ⟨rfl, o2, vE, m0, hx2, hs2⟩
    have X2 := Lib.hid hx2
    have T2 := Lib.hid (T7.out.trans (hs2.mono (fun c hc => by rcases hc with rfl | rfl; exact ⟨by omega, by omega⟩; exact ⟨by omega, by omega⟩)))
    have W2 := Lib.hid (W7.out.stp hs2 (by omega))
    clear hx2 hs2 S7
    have n25 := X2.out.blk.cell 25
    have y25 := X2.out.blk.free 25
    simp only [List.getElem?_toArray, List.getElem?_cons_zero, List.getElem?_cons_succ] at n25
    obtain ⟨mm, hmm⟩ : ∃ q, IntKind.i64.wrap (x.m6 + (m : Int)) = q := ⟨_, rfl⟩
    go_wp2_with fail
    refine wp_region_still_tail (id := 4) 11 (by kernel_rfl) (by kernel_rfl) ?_
    change wpStill _ _ (World.drew _) (fun a' => wpList _ _ _ _ a' (World.drew _)) _ _
    simp only [List.take_succ_cons, List.take_zero, List.drop_succ_cons, List.drop_zero]
    repeat still_step
    refine wpStill_nil ?_
    go_wp2_with fail
    go_ret
    have SA : Stp (fun c => c = k) o2 o2 w2 (w2.setCell ⟨ge, 25, none⟩ (.int .i64 mm)).drew := ⟨((Frm.refl _ _).setCell (.inl X2.out.og) _).drew, Agr.refl _ _⟩
    have XA := X2.out.putI SA x.now x.limit x.sent m0 x.m1 x.m2 x.m3 x.m4 x.m5 mm x.m7 (Blk.drew (by simpa using X2.out.blk.set 25 (.int .i64 mm)))
    refine ⟨_, l1, o2, _, [⟨2, 0, l1, noPk⟩], rfl, W2.out.stp SA (by omega), by rw [HM.out]; exact hl4, XA, T2.out.trans (SA.mono (fun c hc => by rw [hc]; exact ⟨by omega, by omega⟩)), ?_, by intro e he; rw [List.mem_singleton] at he; subst he; simp⟩
    obtain ⟨h1, h2, h3, h4, h5, h6, h7, h8, h9, h10⟩ := OK1.out
    exact ⟨rfl, by simp [sents], ⟨h1, h2, h3, h4, h5, by dsimp only at h6 ⊢; omega, by dsimp only at h7 ⊢; omega, by simp; omega, by dsimp only at h9 ⊢; omega, hN⟩, rfl, fun e he => by rw [List.mem_singleton.1 he]; exact ⟨by show l1.length ≤ 1000000; have := HM.out; omega, Nat.zero_le _⟩⟩
end Go.Proofs.YtdneakejlbabeaaGreat

namespace Go.Proofs.YtdneakejlbabeaaGreat
open Go.RowKit
set_option linter.unusedVariables false
set_option linter.unusedSimpArgs false

def GivenR (o : Nat → Nat) (k B : Nat) (w : World) (ge : Nat) (x : EndV) (n : Nat) (e : Ending) (w' : World) : Prop :=
  e = .returned (.tuple #[]) ∧ ∃ (o' : Nat → Nat) (vl' : Value) (lost' : List (Int × Int)) (m : Int), EndS o' k B w' ge { x with vl := vl', lost := lost', m7 := m } ∧ Stp (fun c => c = k) o o' w w' ∧ lost'.length ≤ x.lost.length + n
set_option maxHeartbeats 8000000 in
set_option maxRecDepth 100000 in
theorem given_any' (o : Nat → Nat) (k B : Nat) (w : World) (ge : Nat) (x : EndV) (v : Value) (ls : List O4) (h : EndS o k B w ge x) (hB : B ≤ w.heap.size) (hr : RG outc 4 w v ls) (hv : ∀ j, v.ownBlock = some j → o j ≠ k) (hl : x.lost.length + ls.length ≤ 100000000) :
    Calls Tryz.prog 60 #[.pointer (some ⟨ge, 0, none⟩), v] w fun e w' => GivenR o k B w ge x ls.length e w' := by
  have H := Lib.hid h
  have HR := Lib.hid hr
  have HV := Lib.hid hv
  have kp := h.kp
  obtain ⟨A, c, rfl, _, _⟩ := hr.len
  clear h hr hv
  go_enter Tryz.func60, Tryz.ntmps60
  go_wp2_with fail
  go_loopw [8] (fun i wr => ∃ (j : Nat) (o' : Nat → Nat) (vl' : Value) (lost' : List (Int × Int)) (m : Int), j ≤ ls.length ∧ i = .int .i64 j ∧ EndS o' k B wr ge { x with vl := vl', lost := lost', m7 := m } ∧ Stp (fun c => c = k) o o' w wr ∧ lost'.length ≤ x.lost.length + j) (fun i _ => ls.length - (intOf i).toNat)
  case atStart => exact ⟨0, o, x.vl, x.lost, x.m7, Nat.zero_le _, rfl, H.out, Stp.refl _ _ _, by omega⟩
  case round =>
    obtain ⟨j, o1, vl1, lost1, m1, hj, rfl, hx1, hs1, hlo1⟩ := hrel
    have X1 := Lib.hid hx1
    have S1 := Lib.hid hs1
    have sr := hs1.size
    clear hx1 hs1
    by_cases hjl : j < ls.length
    · have j0 : (0 : Int) ≤ (j : Int) := by omega
      have j1 : (j : Int) < (ls.length : Int) := by omega
      have iwj : IntKind.i64.wrap ((j : Int) + 1) = (j : Int) + 1 := IntWalk.i64_in _ ⟨by omega, by omega⟩
      have RR1 : RG outc 4 wr (.slice A ls.length c) ls := HR.out.frm S1.out.f (fun j hj he => HV.out j hj he)
      obtain ⟨ad, rfl, d0, d1, d2, d3⟩ := out_at RR1 hjl
      obtain ⟨y, hy⟩ : ∃ y, ls[j] = y := ⟨_, rfl⟩
      rw [hy] at d0 d1 d2 d3
      clear hy RR1
      go_wp2_with fail
      obtain ⟨w2, hw2⟩ : ∃ W, W = wr.alloc (.cells #[.int .i64 y.1, .int .i64 y.2.1, .int .i64 y.2.2.1, .int .i64 y.2.2.2] 140) := ⟨_, rfl⟩
      obtain ⟨gx, hgx⟩ : ∃ h, h = wr.heap.size := ⟨_, rfl⟩
      have B2 : Below wr.heap.size wr w2 := by rw [hw2]; exact (Below.refl _ _).alloc (Nat.le_refl _) _
      have BX : Hid (Blk w2 gx #[.int .i64 y.1, .int .i64 y.2.1, .int .i64 y.2.2.1, .int .i64 y.2.2.2] 140) := Lib.hid (by rw [hw2, hgx]; exact Blk.new _ _ _)
      have X2 := Lib.hid (X1.out.below B2)
      have S2 := Lib.hid (S1.out.trans (Stp.below B2))
      rw [← hw2, ← hgx]
      clear hw2 hgx B2 d0 d1 d2 d3
      have b1 := BX.out.cell 1
      have b2 := BX.out.cell 2
      simp only [List.getElem?_toArray, List.getElem?_cons_zero, List.getElem?_cons_succ] at b1 b2
      go_wp2_with fail
      refine wp_region_still_tail (id := 3) 7 (by kernel_rfl) (by kernel_rfl) ?_
      change wpStill _ _ (World.drew _) (fun a' => wpList _ _ _ _ a' (World.drew _)) _ _
      simp only [List.take_succ_cons, List.take_zero, List.drop_succ_cons, List.drop_zero]
      repeat still_step
      refine wpStill_nil ?_
      go_wp2_with fail
      refine (plost_any w2.drew ge 13 vl1 lost1 y.2.1 y.2.2.1 (X2.out.blk.cell 14) (X2.out.blk.free 14) X2.out.c4.r (by omega)).mono ?_
      rintro e w3 ⟨rfl, v', hc⟩
      have S3 : Stp (fun c => c = k) o1 (ext o1 w2.heap.size v' (k + 4)) w2 w3 := ⟨(Frm.refl _ w2).drew.trans (hc.f.mono (fun j hj => by rw [hj]; exact X2.out.og)), ext_agr _ _ _ _⟩
      have so := setAdd_o y.2.1 y.2.2.1 X2.out.c4.s
      have X3 := Lib.hid (X2.out.put4 S3 x.sent v' (setAdd y.2.1 y.2.2.1 lost1) (by simpa using hc.c _ _ X2.out.blk) ⟨hc.r, fun j hj => by
        rcases hc.n with e | e
        · have h1 := X2.out.c4.ow j (e ▸ hj)
          exact ⟨(ext_agr o1 _ v' _ j h1.2).trans h1.1, Nat.lt_of_lt_of_le h1.2 S3.size⟩
        · have h1 := e j hj
          have h2 : w2.drew.heap.size = w2.heap.size := rfl
          unfold ext
          rw [if_neg (by omega), if_pos hj]
          exact ⟨rfl, h1.2⟩, so.s⟩)
      have hlo3 : (setAdd y.2.1 y.2.2.1 lost1).length ≤ x.lost.length + (j + 1) := by have := so.len; dsimp only at this; omega
      have T3 := Lib.hid (S2.out.trans S3)
      obtain ⟨lost3, hlost3⟩ : ∃ l, l = setAdd y.2.1 y.2.2.1 lost1 := ⟨_, rfl⟩
      obtain ⟨o3, ho3⟩ : ∃ f, f = ext o1 w2.heap.size v' (k + 4) := ⟨_, rfl⟩
      rw [← hlost3] at X3 hlo3
      rw [← ho3] at X3 T3
      clear hc S3 so hlost3 ho3 b1 b2
      have n26 := X3.out.blk.cell 26
      have y26 := X3.out.blk.free 26
      simp only [List.getElem?_toArray, List.getElem?_cons_zero, List.getElem?_cons_succ] at n26
      obtain ⟨mm, hmm⟩ : ∃ m, IntKind.i64.wrap (m1 + 1) = m := ⟨_, rfl⟩
      go_wp2_with fail
      refine wp_region_still_tail (id := 4) 9 (by kernel_rfl) (by kernel_rfl) ?_
      change wpStill _ _ (World.drew _) (fun a' => wpList _ _ _ _ a' (World.drew _)) _ _
      simp only [List.take_succ_cons, List.take_zero, List.drop_succ_cons, List.drop_zero]
      repeat still_step
      refine wpStill_nil ?_
      go_wp2_with fail
      go_roundw
      case rel =>
        have SA : Stp (fun c => c = k) o3 o3 w3 (w3.setCell ⟨ge, 26, none⟩ (.int .i64 mm)).drew := ⟨((Frm.refl _ _).setCell (.inl X3.out.og) _).drew, Agr.refl _ _⟩
        have XA := X3.out.putI SA x.now x.limit x.sent x.m0 x.m1 x.m2 x.m3 x.m4 x.m5 x.m6 mm (Blk.drew (by simpa using X3.out.blk.set 26 (.int .i64 mm)))
        exact ⟨j + 1, o3, v', lost3, mm, hjl, by go_num, XA, T3.out.trans SA, hlo3⟩
      case measure => simp [intOf]; omega
    · have j1 : ¬ (j : Int) < (ls.length : Int) := by omega
      obtain rfl : j = ls.length := by omega
      go_wp2_with fail
      go_end0
      exact ⟨rfl, o1, vl1, lost1, m1, X1.out, S1.out, hlo1⟩
theorem given_any (o : Nat → Nat) (k B : Nat) (w : World) (ge : Nat) (x : EndV) (v : Value) (ls : List O4) (h : EndS o k B w ge x) (hB : B ≤ w.heap.size) (hr : RG outc 4 w v ls) (hv : ∀ j, v.ownBlock = some j → o j ≠ k ∧ j < w.heap.size) (hl : x.lost.length + ls.length ≤ 100000000) :
    Calls Tryz.prog 60 #[.pointer (some ⟨ge, 0, none⟩), v] w fun e w' => GivenR o k B w ge x ls.length e w' := given_any' o k B w ge x v ls h hB hr (fun j hj => (hv j hj).1) hl
def EJoinR (o : Nat → Nat) (k B : Nat) (w : World) (ge : Nat) (x : EndV) (i : Nat) (e : Ending) (w' : World) : Prop :=
  e = .returned (.tuple #[]) ∧ ∃ (o' : Nat → Nat) (x1 : EndV) (d : List Pk) (n : Int), EndS o' k B w' ge { x1 with due := x1.due.set i n } ∧ Stp (EC k) o o' w w' ∧ Grw x x1 d
set_option maxHeartbeats 8000000 in
set_option maxRecDepth 100000 in
theorem ejoin_any (o : Nat → Nat) (k B : Nat) (w : World) (ge : Nat) (x : EndV) (i : Nat) (q : PathV) (h : EndS o k B w ge x) (hB : B ≤ w.heap.size) (hi : x.ps[i]? = some q) (hd : x.due.length = x.ps.length) (hl : x.es.length ≤ 100000000) (hl2 : x.outs.length ≤ 100000000) :
    Calls Tryz.prog 59 #[.pointer (some ⟨ge, 0, none⟩), .int .i64 (i : Int)] w fun e w' => EJoinR o k B w ge x i e w' := by
  have H := Lib.hid h
  have HQ := Lib.hid hi
  have kp := h.kp
  have hil := (List.getElem?_eq_some_iff.1 hi).1
  have np := h.np
  have qs0 : Hid (0 ≤ q.s) := Lib.hid (h.c9 i q hi).r.s0.1
  clear h hi
  have TAIL : Hid (∀ (o1 : Nat → Nat) (w1 : World) (x1 : EndV), EndS o1 k B w1 ge x1 → x1.due.length = x.due.length → ∃ (ad : Addr) (c : Nat) (old : Int), w1.cell? ⟨ge, 10, none⟩ = some (.slice (some ad) x.due.length c) ∧ w1.cell? ⟨ge, 8, none⟩ = some (.int .i64 x1.now) ∧ w1.cell? ⟨ge, 5, none⟩ = some (.int .i64 x1.c5) ∧ w1.cell? (ad.add i) = some (.int .i64 old) ∧ w1.frozen? (ad.add i) = false ∧ ∀ n : Int, EndS o1 k B (w1.setCell (ad.add i) (.int .i64 n)) ge { x1 with due := x1.due.set i n } ∧ Stp (fun c => c = k + 2) o1 o1 w1 (w1.setCell (ad.add i) (.int .i64 n))) := Lib.hid (fun o1 w1 x1 hx hdl => by
    have c10 := hx.blk.cell 10
    have c8 := hx.blk.cell 8
    have c5 := hx.blk.cell 5
    simp only [List.getElem?_toArray, List.getElem?_cons_zero, List.getElem?_cons_succ] at c10 c8 c5
    have ho := hx.c2.r
    have hlt : i < x1.due.length := by omega
    rcases ho.2 with ⟨e, h0⟩ | ⟨gd, cap, cur, e, _⟩
    · omega
    · have hea : (⟨gd, 0, none⟩ : Addr).add i = ⟨gd, i, none⟩ := by
        by_cases h0 : i = 0
        · subst h0; exact addr_zero _
        · rw [addr_pos _ _ h0]; simp
      rw [e] at c10 ho
      have hcell := ho.cellAt i (by omega)
      rw [List.getElem?_map, List.getElem?_eq_getElem hlt] at hcell
      have hog : o1 gd = k + 2 := (hx.c2.ow gd (by rw [e]; rfl)).1
      refine ⟨⟨gd, 0, none⟩, cap, x1.due[i], by rw [← hdl]; exact c10, c8, c5, by rw [hea]; exact hcell, by rw [hea]; exact ho.frozenAt i, fun n => ?_⟩
      rw [hea]
      have s : Stp (fun c => c = k + 2) o1 o1 w1 (w1.setCell ⟨gd, i, none⟩ (.int .i64 n)) := ⟨(Frm.refl _ _).setCell (.inl hog) _, Agr.refl _ _⟩
      refine ⟨hx.put2 s ⟨?_, hx.c2.ow.frm (Agr.refl _ _) s.size⟩, s⟩
      have hst := (ho.stored i (.int .i64 n)).1
      rw [e, List.length_set, List.map_set]
      exact hst)
  go_enter Tryz.func59, Tryz.ntmps59
  go_wp2_with fail
  refine (say_any o k B w ge x ⟨1, (i : Int), 0, 0, 0, [], false, 0, 0⟩ (.slice none 0 0) i q H.out hB (BV.nil _ _) HQ.out rfl hl hl2).mono ?_
  intro e w2 hsay
  obtain ⟨n1, b1, o2, x2, d2, rfl, hx2, hs2, hg2, hdl2⟩ : ∃ (n : Int) (b : Bool) (o2 : Nat → Nat) (x2 : EndV) (d : List Pk), e = .returned (.tuple #[.int .i64 n, .bool b]) ∧ EndS o2 k B w2 ge x2 ∧ Stp (EC k) o o2 w w2 ∧ Grw x x2 d ∧ x2.due = x.due := by
    rcases hsay with ⟨_, rfl, hb⟩ | ⟨hs, rfl, o2, vE, vO, m0, m1, m2, hx, hst⟩
    · exact ⟨_, _, o, x, [], rfl, H.out.below hb, Stp.below hb, Grw.refl x, rfl⟩
    · refine ⟨_, _, o2, _, [⟨1, (i : Int), q.s, 0, 0, [], false, 0, 0⟩], rfl, hx, hst, ⟨rfl, rfl, rfl, by simp, ?_, Nat.le_refl _, fun p hp => by rw [List.mem_singleton.1 hp]; exact Nat.zero_le _⟩, rfl⟩
      have h1 := said_set (q' := { q with s := q.s + 1 }) HQ.out
      have h0 := qs0.out
      dsimp only at h1 ⊢
      simp only [List.length_cons, List.length_nil]
      omega
  have X2 := Lib.hid hx2
  have S2 := Lib.hid hs2
  have G2 := Lib.hid hg2
  obtain ⟨ad, cD, old, t10, t8, t5, tc, tf, tput⟩ := TAIL.out o2 w2 x2 hx2 (by rw [hdl2])
  have TP := Lib.hid tput
  have i0 : (0 : Int) ≤ (i : Int) := by omega
  have i1 : (i : Int) < (x.due.length : Int) := by omega
  obtain ⟨nn, hnn⟩ : ∃ z, IntKind.i64.wrap (x2.now + x2.c5) = z := ⟨_, rfl⟩
  clear hsay hx2 hs2 hg2 tput
  go_wp2_with fail
  refine wp_region_still_tail (id := 1) 16 (by kernel_rfl) (by kernel_rfl) ?_
  change wpStill _ _ (World.drew _) (fun a' => wpList _ _ _ _ a' (World.drew _)) _ _
  simp only [List.take_succ_cons, List.take_zero, List.drop_succ_cons, List.drop_zero]
  repeat still_step
  refine wpStill_nil ?_
  go_wp2_with fail
  go_end0
  obtain ⟨hx3, hs3⟩ := TP.out nn
  exact ⟨rfl, o2, x2, d2, nn, hx3.drew, S2.out.trans ((hs3.mono (fun c hc => by rw [hc]; exact ⟨by omega, by omega⟩)).drew), G2.out⟩
end Go.Proofs.YtdneakejlbabeaaGreat
