/- Parts of the walk: Ek, Eh, Dg. -/
import Derived.Test.YtdneakejlbabeaaGreatM00
import Derived.Test.YtdneakejlbabeaaGreatM16
import Derived.Test.YtdneakejlbabeaaGreatM12
import Derived.Test.YtdneakejlbabeaaGreatM15
import Derived.Deep.RegionHeld3
import Derived.Deep.RegionLaw
import Derived.Test.YtdneakejlbabeaaGreatM03
namespace Go.Proofs.YtdneakejlbabeaaGreat
open Go.RowKit
set_option linter.unusedVariables false
set_option linter.unusedSimpArgs false
section
attribute [local go_sem] run_max2' run_min2' run_max_ run_min_
/-- An inbox. -/
structure InAt (B : Nat) (w : World) (g : Nat) (wi : Int) (ta : Nat) (en : Int) (vb : Value) (bl : List Int) (vg : Value) (rs : List (Int × Int)) : Prop where
 blk : IbC w g wi ta en vb vg
 b : BO B w vb bl
 r : RR w vg rs
 srt : Srt rs
 top : ∀ r ∈ rs, r.2 ≤ (bl.length : Int)
 bn : bl.length ≤ 4096
 tk : (ta : Int) ≤ frontL rs
 wi : 0 ≤ wi ∧ wi ≤ 400
 nb : ∀ j, vb.ownBlock = some j → j ≠ g
 ng : ∀ j, vg.ownBlock = some j → j ≠ g ∧ ¬ vb.ownBlock = some j ∧ j < w.heap.size
 ge : B ≤ g
/-- Its blocks. -/
def ifp (g : Nat) (vb vg : Value) (i : Nat) : Prop := i = g ∨ vb.ownBlock = some i ∨ vg.ownBlock = some i
theorem frontL_top {rs : List (Int × Int)} {n : Int} (h : ∀ r ∈ rs, r.2 ≤ n) (h0 : 0 ≤ n) : frontL rs ≤ n := by
 cases rs with
 | nil => exact h0
 | cons r rs => rw [frontL_cons]; have := h r (by simp); split <;> omega
section
variable {B : Nat} {w w' wz : World} {g : Nat} {wi : Int} {ta : Nat} {en : Int} {vb vg : Value} {bl : List Int} {rs : List (Int × Int)}
theorem BO.frm {v : Value} {l : List Int} (h : BO B w v l) {T : Nat → Prop} (k : Frm T w w') (hT : ∀ j, v.ownBlock = some j → ¬ T j) : BO B w' v l := ⟨own_frm h.1 k hT, h.2⟩
theorem InAt.frm (h : InAt B w g wi ta en vb bl vg rs) {T : Nat → Prop} (k : Frm T w w') (hT : ∀ i, ifp g vb vg i → ¬ T i) : InAt B w' g wi ta en vb bl vg rs :=
 ⟨h.blk.frm k (hT _ (.inl rfl)), h.b.frm k (fun j hj => hT j (.inr (.inl hj))), h.r.frm k (fun j hj => hT j (.inr (.inr hj))), h.srt, h.top, h.bn, h.tk, h.wi, h.nb, fun j hj => ⟨(h.ng j hj).1, (h.ng j hj).2.1, Nat.lt_of_lt_of_le (h.ng j hj).2.2 k.size⟩, h.ge⟩
theorem InAt.below (h : InAt B w g wi ta en vb bl vg rs) (k : Below w.heap.size w w') : InAt B w' g wi ta en vb bl vg rs := h.frm (Frm.of_below (S := fun _ => False) k) (fun _ _ h => h)
theorem InAt.lt (h : InAt B w g wi ta en vb bl vg rs) : ∀ i, ifp g vb vg i → i < w.heap.size := fun i hi => by
 rcases hi with rfl | hi | hi
 ·exact h.blk.lt
 ·exact (h.b.1.lt i hi).2
 ·exact (h.ng i hi).2.2
theorem InAt.ta_le (h : InAt B w g wi ta en vb bl vg rs) : ta ≤ bl.length := by
 have h1 := frontL_top h.top (by omega)
 have h2 := h.tk
 omega
theorem InAt.setE (h : InAt B w g wi ta en vb bl vg rs) (x : Int) : InAt B (w.setCell ⟨g, 2, none⟩ (.int .i64 x)) g wi ta x vb bl vg rs := by
 have f := (Frm.refl (· = g) w).setg (i := 2) (.int .i64 x)
 exact ⟨by simpa using h.blk.set 2 (.int .i64 x), h.b.frm f (fun j hj => h.nb j hj), h.r.frm f (fun j hj => (h.ng j hj).1), h.srt, h.top, h.bn, h.tk, h.wi, h.nb, fun j hj => ⟨(h.ng j hj).1, (h.ng j hj).2.1, Nat.lt_of_lt_of_le (h.ng j hj).2.2 f.size⟩, h.ge⟩
theorem InAt.setT (h : InAt B w g wi ta en vb bl vg rs) (t : Nat) (ht : (t : Int) ≤ frontL rs) : InAt B (w.setCell ⟨g, 1, none⟩ (.int .i64 (t : Int))) g wi t en vb bl vg rs := by
 have f := (Frm.refl (· = g) w).setg (i := 1) (.int .i64 (t : Int))
 exact ⟨by simpa using h.blk.set 1 (.int .i64 (t : Int)), h.b.frm f (fun j hj => h.nb j hj), h.r.frm f (fun j hj => (h.ng j hj).1), h.srt, h.top, h.bn, ht, h.wi, h.nb, fun j hj => ⟨(h.ng j hj).1, (h.ng j hj).2.1, Nat.lt_of_lt_of_le (h.ng j hj).2.2 f.size⟩, h.ge⟩
/-- Its bytes grow by one. -/
theorem InAt.grow (h : InAt B w g wi ta en vb bl vg rs) {w1 : World} {v : Value} {x : Int} (hx : 0 ≤ x ∧ x < 256) (hl : bl.length < 4096) (k : Frm (fun j => vb.ownBlock = some j) w w1) (ho : w1.ownsRow B 5 1 v (bl.length + 1) (u8s bl ++ [.int .u8 x])) (hat : v.ownBlock = vb.ownBlock ∨ ∀ j, v.ownBlock = some j → w.heap.size ≤ j) :
  InAt B (w1.setCell ⟨g, 3, none⟩ v) g wi ta en v (bl ++ [x]) vg rs ∧ Mv (ifp g vb vg) (ifp g v vg) w (w1.setCell ⟨g, 3, none⟩ v) := by
 have f := (Frm.refl (· = g) w1).setg (i := 3) v
 have gl := h.blk.lt
 have nb : ∀ j, v.ownBlock = some j → j ≠ g := fun j hj => by
  rcases hat with e | e
  ·exact h.nb j (e ▸ hj)
  ·have := e j hj; omega
 refine ⟨⟨by simpa using (h.blk.frm k (fun e => h.nb g e rfl)).set 3 v, ⟨?_, fun y hy => ?_⟩, (h.r.frm k (fun j hj => (h.ng j hj).2.1)).frm f (fun j hj => (h.ng j hj).1), h.srt, fun r hr => ?_, by simp; omega, h.tk, h.wi, nb, fun j hj => ⟨(h.ng j hj).1, fun e => ?_, Nat.lt_of_lt_of_le (h.ng j hj).2.2 (Nat.le_trans k.size f.size)⟩, h.ge⟩, ⟨?_, fun i hi => ?_⟩⟩
 ·have e : u8s (bl ++ [x]) = u8s bl ++ [.int .u8 x] := by simp [u8s]
  rw [e, List.length_append]
  exact own_frm ho f (fun j hj => nb j hj)
 ·rcases List.mem_append.1 hy with hy | hy
  ·exact h.b.2 y hy
  ·rw [List.mem_singleton] at hy; subst hy; exact hx
 ·have := h.top r hr
  simp only [List.length_append, List.length_cons, List.length_nil]
  omega
 ·rcases hat with e' | e'
  ·exact (h.ng j hj).2.1 (e' ▸ e)
  ·have := e' j e; have := (h.ng j hj).2.2; omega
 ·exact (k.mono (fun j hj => .inr (.inl hj))).trans (f.mono (fun j hj => .inl hj))
 ·rcases hi with hi | hi | hi
  ·exact .inl (.inl hi)
  ·rcases hat with e | e
   ·exact .inl (.inr (.inl (e ▸ hi)))
   ·exact .inr (e i hi)
  ·exact .inl (.inr (.inr hi))
/-- A byte of it is turned. -/
theorem InAt.setb (h : InAt B w g wi ta en vb bl vg rs) {ad : Addr} {n c : Nat} (hv : vb = .slice (some ad) n c) {i : Nat} (hi : i < bl.length) {x : Int} (hx : 0 ≤ x ∧ x < 256) :
  InAt B (w.setCell (ad.add i) (.int .u8 x)) g wi ta en vb (bl.set i x) vg rs ∧ Frm (fun j => vb.ownBlock = some j) w (w.setCell (ad.add i) (.int .u8 x)) := by
 obtain ⟨ho, hby⟩ := h.b
 have ho' := ho
 rcases ho.2 with ⟨e, h0⟩ | ⟨gb, cap, cur, e, _⟩
 ·omega
 ·subst e
  injection hv with e1 e2 e3
  injection e1 with e1
  have ea : ad.add i = ⟨gb, i, none⟩ := by
   rw [← e1]
   by_cases h0 : i = 0
   ·subst h0; exact addr_zero _
   ·rw [addr_pos _ _ h0]; simp
  rw [ea]
  obtain ⟨o2, g2⟩ := ho.stored i (.int .u8 x)
  have f : Frm (fun j => (Value.slice (some ⟨gb, 0, none⟩) bl.length cap).ownBlock = some j) w (w.setCell ⟨gb, i, none⟩ (.int .u8 x)) := (Frm.of_grown g2).mono (fun j hj => hj)
  have hne := h.nb gb rfl
  refine ⟨⟨h.blk.frm f (fun e => h.nb g e rfl), ⟨?_, fun y hy => ?_⟩, h.r.frm f (fun j hj => (h.ng j hj).2.1), h.srt, by simpa using h.top, by simpa using h.bn, h.tk, h.wi, h.nb, fun j hj => ⟨(h.ng j hj).1, (h.ng j hj).2.1, Nat.lt_of_lt_of_le (h.ng j hj).2.2 f.size⟩, h.ge⟩, f⟩
  ·have e : u8s (bl.set i x) = (u8s bl).set i (.int .u8 x) := by simp [u8s, List.map_set]
   rw [e, List.length_set]
   exact o2
  ·rcases List.mem_or_eq_of_mem_set hy with h1 | h1
   ·exact hby y h1
   ·rw [h1]; exact hx
/-- Its ranges are turned. -/
theorem InAt.setR (h : InAt B w g wi ta en vb bl vg rs) {vg' : Value} {f t : Int} (ht : t ≤ (bl.length : Int)) (hc : SetC w g 4 vg vg' (setAdd f t rs) w') :
  InAt B w' g wi ta en vb bl vg' (setAdd f t rs) ∧ Mv (ifp g vb vg) (ifp g vb vg') w w' := by
 have o := setAdd_o f t h.srt
 have gl := h.blk.lt
 refine ⟨⟨by simpa using hc.c _ _ h.blk, h.b.frm hc.f (fun j hj => h.nb j hj), hc.r, o.s, o.top _ h.top ht, h.bn, Int.le_trans h.tk o.front, h.wi, h.nb, fun j hj => ?_, h.ge⟩, hc.f.mono (fun j hj => .inl hj), fun i hi => ?_⟩
 ·rcases hc.n with e | e
  ·subst e
   exact ⟨(h.ng j hj).1, (h.ng j hj).2.1, Nat.lt_of_lt_of_le (h.ng j hj).2.2 hc.f.size⟩
  ·have := e j hj
   refine ⟨by omega, fun e2 => ?_, (e j hj).2⟩
   have := (h.b.1.lt j e2).2
   omega
 ·rcases hi with hi | hi | hi
  ·exact .inl (.inl hi)
  ·exact .inl (.inr (.inl hi))
  ·rcases hc.n with e | e
   ·exact .inl (.inr (.inr (e ▸ hi)))
   ·exact .inr (e i hi).1
end
theorem BO.free {B : Nat} {w : World} {ad : Addr} {n c : Nat} {l : List Int} (h : BO B w (.slice (some ad) n c) l) (i : Nat) : w.frozen? (ad.add i) = false := by
 obtain ⟨ho, _⟩ := h
 have ho' := ho
 rcases ho.2 with ⟨e, h0⟩ | ⟨gb, cap, cur, e, _⟩
 ·cases e
 ·injection e with e1 e2 e3
  injection e1 with e1
  have ea : ad.add i = ⟨gb, i, none⟩ := by
   rw [e1]
   by_cases h0 : i = 0
   ·subst h0; exact addr_zero _
   ·rw [addr_pos _ _ h0]; simp
  rw [ea]
  subst e1 e2 e3
  exact ho'.frozenAt i
/-- How many bytes there are. -/
def bytesAt (w : World) (g : Nat) : Nat := match w.cell? ⟨g, 3, none⟩ with
 | some (.slice _ n _) => n
 | _ => 0
def IPutR (B : Nat) (w : World) (g : Nat) (wi : Int) (ta : Nat) (F : Nat → Prop) (rs : List (Int × Int)) (l : List Int) (e : Ending) (w' : World) : Prop :=
 ∃ (n en' : Int) (vb' : Value) (bl' : List Int) (vg' : Value) (rs' : List (Int × Int)), e = .returned (.int .i64 n) ∧ InAt B w' g wi ta en' vb' bl' vg' rs' ∧ rs'.length ≤ rs.length + l.length ∧ Mv F (ifp g vb' vg') w w'
set_option maxHeartbeats 8000000 in
set_option maxRecDepth 100000 in
theorem iput_any (B : Nat) (w : World) (g : Nat) (wi : Int) (ta : Nat) (en : Int) (vb : Value) (bl : List Int) (vg : Value) (rs : List (Int × Int)) (S : Nat → Prop) (v : Value) (l : List Int) (fn : Nat) (fin : Bool) (h : InAt B w g wi ta en vb bl vg rs) (hB : B ≤ w.heap.size)
  (hv : BV w S v l) (hS : ∀ j, S j → j < w.heap.size → ¬ ifp g vb vg j) (hfl : fn + l.length ≤ 4096) (hrs : rs.length ≤ 50000000) :
  Calls Tryz.prog 74 #[.pointer (some ⟨g, 0, none⟩), .int .i64 (fn : Int), v, .bool fin] w fun e w' => IPutR B w g wi ta (ifp g vb vg) rs l e w' := by
 obtain ⟨A, c, rfl, hlc, hcm⟩ := hv.len
 have H := hid h
 have M0 := Mv.refl (ifp g vb vg) w
 have HV := hid (hv.mono (S' := fun j => ¬ ifp g vb vg j) hS)
 obtain ⟨F, hF⟩ := lx (ifp g vb vg)
 rw [← hF]
 rw [← hF] at HV
 have M0 : Hid (Mv F (ifp g vb vg) w w) := hid (hF ▸ M0)
 have HI := hid Tryz.info5
 have n1 : ¬ (8192 : Int) < (fn : Int) := by omega
 have ta0 : ta ≤ 4096 := Nat.le_trans h.ta_le h.bn
 have wi0 := h.wi
 clear h hv hS hF
 go_enter Tryz.func74, Tryz.ntmps74
 go_wp2_with fail
 go_loopw [9, 18] (fun n i wr => ∃ (j : Nat) (x : Int) (vb' : Value) (bl' : List Int) (vg' : Value) (rs' : List (Int × Int)), j ≤ l.length ∧ i = .int .i64 j ∧ n = .int .i64 x ∧ InAt B wr g wi ta en vb' bl' vg' rs' ∧ rs'.length ≤ rs.length + j ∧ Mv F (ifp g vb' vg') w wr) (fun _ i _ => l.length - (intOf i).toNat)
 case atStart => exact ⟨0, _, vb, bl, vg, rs, Nat.zero_le _, rfl, rfl, H.out, Nat.le_refl _, M0.out⟩
 case round =>
  obtain ⟨j, x, vb, bl, vg, rs2, hj, rfl, rfl, h, hlr, hm⟩ := hrel
  have HR := hid h
  have M := hid hm
  have sr : w.heap.size ≤ wr.heap.size := hm.f.size
  have DV := hid (HV.out.frm hm.f (fun j hj => hj))
  obtain ⟨Ab, cb, rfl⟩ := own_slice' h.b.1
  obtain ⟨Ag, cg, rfl, _, _⟩ := h.r.len
  clear h hm
  by_cases hjl : j < l.length
  ·have j0 : (0 : Int) ≤ (j : Int) := by omega
   have j1 : (j : Int) < (l.length : Int) := by omega
   have iwj : IntKind.i64.wrap ((j : Int) + 1) = (j : Int) + 1 := iX
   obtain ⟨p, hp⟩ : ∃ p : Nat, fn + j = p := ⟨_, rfl⟩
   have iwp : IntKind.i64.wrap ((fn : Int) + (j : Int)) = (p : Int) := by rw [iX]; omega
   have iwq : IntKind.i64.wrap ((p : Int) + 1) = (p : Int) + 1 := iX
   have n2 : ¬ (p : Int) < 0 := by omega
   have hp96 : p < 4096 := by omega
   obtain ⟨ad, rfl, d0⟩ := Sl.at_ DV.out.sl hjl
   rw [u8s_at l j hjl] at d0
   have hy0 : 0 ≤ l[j] ∧ l[j] < 256 := DV.out.byt _ (List.getElem_mem hjl)
   obtain ⟨y, hy⟩ : ∃ y, l[j] = y := ⟨_, rfl⟩
   rw [hy] at d0 hy0
   clear hy
   have LIM : Hid (∀ W, Below wr.heap.size wr W → Calls Tryz.prog 76 #[.pointer (some ⟨g, 0, none⟩)] W fun e w' => e = .returned (.int .i64 (ta + wi)) ∧ Below W.heap.size W w') := hid (fun W hW => ilimit_any W g wi ta en _ _ _ _ _ _ (HR.out.below hW).blk ⟨by omega, by omega, by omega, by omega⟩)
   obtain ⟨q, hq⟩ : ∃ q, hasL (p : Int) ((p : Int) + 1) rs2 = q := ⟨_, rfl⟩
   have HAS : Hid (∀ W, Below wr.heap.size wr W → Calls Tryz.prog 103 #[.pointer (some ⟨g, 4, none⟩), .int .i64 p, .int .i64 ((p : Int) + 1)] W fun e w' => e = .returned (.bool q) ∧ Below W.heap.size W w') := hid (fun W hW => (has_any W g 4 _ rs2 _ _ ((HR.out.below hW).blk.cell 4) (HR.out.below hW).r).mono (by rintro e w' ⟨rfl, hb⟩; exact ⟨by rw [hq], hb⟩))
   clear hq
   rcases Int.lt_or_le (p : Int) ((ta : Int) + wi) with c1 | c1
   ·go_wp2_with fail
    refine (LIM.out _ (Below.refl _ _)).mono ?_
    rintro e w1 ⟨rfl, hb1⟩
    have B1 := hid hb1
    have P1 := hid (HR.out.below hb1)
    have M1 := hid (M.out.trans ⟨Frm.of_below hb1, fun i hi => .inl hi⟩ : Mv F (ifp g (.slice Ab bl.length cb) (.slice Ag rs2.length cg)) w w1)
    have s1 := hb1.size
    have e2 := P1.out.blk.cell 2
    simp only [gA, gZ, gC] at e2
    clear hb1
    rcases Int.lt_or_le en 0 with c2 | c2
    ·have c3 : ¬ 0 ≤ en := by omega
     go_wp2_with fail
     refine (HAS.out _ B1.out).mono ?_
     rintro e w2 ⟨rfl, hb2⟩
     have P2 := hid (P1.out.below hb2)
     have M2 := hid (M1.out.trans ⟨Frm.of_below hb2, fun i hi => .inl hi⟩ : Mv F (ifp g (.slice Ab bl.length cb) (.slice Ag rs2.length cg)) w w2)
     have s2 := hb2.size
     clear hb2
     cases q
     ·go_wp2_with fail
      go_loopw [] (fun ws => ∃ (vb2 : Value) (bl2 : List Int), InAt B ws g wi ta en vb2 bl2 (.slice Ag rs2.length cg) rs2 ∧ Mv F (ifp g vb2 (.slice Ag rs2.length cg)) w ws) (fun ws => 4097 - bytesAt ws g)
      case atStart => exact ⟨_, _, P2.out, M2.out⟩
      case round =>
       obtain ⟨vb2, bl2, h2, hm2⟩ := hrel
       have P3 := hid h2
       have M3 := hid hm2
       have s3 := hm2.f.size
       obtain ⟨A2, c2_, rfl⟩ := own_slice' h2.b.1
       have e3 := h2.blk.cell 3
       have f3 := h2.blk.free 3
       have bn2 := h2.bn
       simp only [gA, gZ, gC] at e3
       have me : Hid (bytesAt wr g = bl2.length) := hid (by unfold bytesAt; rw [e3])
       clear h2 hm2
       by_cases hle : bl2.length ≤ p
       ·have k1 : (bl2.length : Int) ≤ (p : Int) := by omega
        go_wp2_with (at_builtin; refine wp_app B rfl _ _ 25 5 (.int .u8 0) 1 1 rfl Tryz.underlying25 HI.out rfl (by omega) (by omega) rfl rfl (P3.out.b.1.alloc _) (Sl.one wr 5 (.int .u8 0) rfl) (by omega) (Nat.le_trans hB (Nat.le_trans s3 (by simp))) ?_; intro v9 w9 hown hfr hat; have kf := Frm.trans ((Frm.refl (fun j => (Value.slice A2 bl2.length c2_).ownBlock = some j) wr).alloc _) hfr; have GR := hid (P3.out.grow (x := 0) (by omega) (by omega) kf hown (hat.imp id (fun e j hj => by rw [e] at hj; injection hj with hj; rw [← hj]; simp))); have GB := P3.out.blk.frm kf (fun e => P3.out.nb g e rfl); have e9 := GB.cell 3; have f9 := GB.free 3; simp only [gA, gZ, gC] at e9; obtain ⟨A9, c9, rfl⟩ := own_slice' hown; clear hown hfr hat GB kf)
        (try go_wp2_with fail)
        go_roundw
        case rel => exact ⟨_, _, GR.out.1, M3.out.trans GR.out.2⟩
        case measure =>
         have e := GR.out.1.blk.cell 3
         simp only [gA, gZ, gC] at e
         rw [me.out]
         unfold bytesAt
         rw [e]
         simp only
         omega
       ·have k1 : ¬ (bl2.length : Int) ≤ (p : Int) := by omega
        have k2 : (p : Int) < (bl2.length : Int) := by omega
        have k3 : (0 : Int) ≤ (p : Int) := by omega
        obtain ⟨ad2, hA2, d2⟩ := Sl.at_ P3.out.b.bv.sl (by omega : p < bl2.length)
        subst hA2
        have fz := P3.out.b.free p
        go_wp2_with fail
        obtain ⟨SB, SF⟩ := P3.out.setb rfl (by omega : p < bl2.length) hy0
        have M4 := hid (M3.out.trans ⟨SF.mono (fun j hj => .inr (.inl hj)), fun i hi => .inl hi⟩ : Mv F (ifp g (.slice (some ad2) bl2.length c2_) (.slice Ag rs2.length cg)) w _)
        have P4 := hid SB
        clear SB SF
        refine (setadd_any _ g 4 _ rs2 (p : Int) ((p : Int) + 1) (P4.out.blk.cell 4) (P4.out.blk.free 4) P4.out.r (by omega)).mono ?_
        intro e w5 hh
        obtain ⟨vg5, h5⟩ := hh.c
        obtain ⟨rfl, _⟩ := hh
        have R5 := hid (P4.out.setR (by rw [List.length_set]; omega) h5)
        have L5 := (setAdd_o (p : Int) ((p : Int) + 1) P4.out.srt).len
        clear h5
        go_wp2_with fail
        go_roundw
        case rel => exact ⟨j + 1, _, _, _, _, _, hjl, by go_num, rfl, R5.out.1, by omega, M4.out.trans R5.out.2⟩
        case measure => simp [intOf]; omega
     ·have PX := P2
      have MX := M2
      go_wp2_with fail
      go_roundw
      case rel => exact ⟨j + 1, _, _, _, _, _, hjl, by go_num, rfl, PX.out, by omega, MX.out⟩
      case measure => simp [intOf]; omega
    ·rcases Int.lt_or_le (p : Int) en with c3 | c3
     ·go_wp2_with fail
      refine (HAS.out _ B1.out).mono ?_
      rintro e w2 ⟨rfl, hb2⟩
      have P2 := hid (P1.out.below hb2)
      have M2 := hid (M1.out.trans ⟨Frm.of_below hb2, fun i hi => .inl hi⟩ : Mv F (ifp g (.slice Ab bl.length cb) (.slice Ag rs2.length cg)) w w2)
      have s2 := hb2.size
      clear hb2
      cases q
      ·go_wp2_with fail
       go_loopw [] (fun ws => ∃ (vb2 : Value) (bl2 : List Int), InAt B ws g wi ta en vb2 bl2 (.slice Ag rs2.length cg) rs2 ∧ Mv F (ifp g vb2 (.slice Ag rs2.length cg)) w ws) (fun ws => 4097 - bytesAt ws g)
       case atStart => exact ⟨_, _, P2.out, M2.out⟩
       case round =>
        obtain ⟨vb2, bl2, h2, hm2⟩ := hrel
        have P3 := hid h2
        have M3 := hid hm2
        have s3 := hm2.f.size
        obtain ⟨A2, c2_, rfl⟩ := own_slice' h2.b.1
        have e3 := h2.blk.cell 3
        have f3 := h2.blk.free 3
        have bn2 := h2.bn
        simp only [gA, gZ, gC] at e3
        have me : Hid (bytesAt wr g = bl2.length) := hid (by unfold bytesAt; rw [e3])
        clear h2 hm2
        by_cases hle : bl2.length ≤ p
        ·have k1 : (bl2.length : Int) ≤ (p : Int) := by omega
         go_wp2_with (at_builtin; refine wp_app B rfl _ _ 25 5 (.int .u8 0) 1 1 rfl Tryz.underlying25 HI.out rfl (by omega) (by omega) rfl rfl (P3.out.b.1.alloc _) (Sl.one wr 5 (.int .u8 0) rfl) (by omega) (Nat.le_trans hB (Nat.le_trans s3 (by simp))) ?_; intro v9 w9 hown hfr hat; have kf := Frm.trans ((Frm.refl (fun j => (Value.slice A2 bl2.length c2_).ownBlock = some j) wr).alloc _) hfr; have GR := hid (P3.out.grow (x := 0) (by omega) (by omega) kf hown (hat.imp id (fun e j hj => by rw [e] at hj; injection hj with hj; rw [← hj]; simp))); have GB := P3.out.blk.frm kf (fun e => P3.out.nb g e rfl); have e9 := GB.cell 3; have f9 := GB.free 3; simp only [gA, gZ, gC] at e9; obtain ⟨A9, c9, rfl⟩ := own_slice' hown; clear hown hfr hat GB kf)
         (try go_wp2_with fail)
         go_roundw
         case rel => exact ⟨_, _, GR.out.1, M3.out.trans GR.out.2⟩
         case measure =>
          have e := GR.out.1.blk.cell 3
          simp only [gA, gZ, gC] at e
          rw [me.out]
          unfold bytesAt
          rw [e]
          simp only
          omega
        ·have k1 : ¬ (bl2.length : Int) ≤ (p : Int) := by omega
         have k2 : (p : Int) < (bl2.length : Int) := by omega
         have k3 : (0 : Int) ≤ (p : Int) := by omega
         obtain ⟨ad2, hA2, d2⟩ := Sl.at_ P3.out.b.bv.sl (by omega : p < bl2.length)
         subst hA2
         have fz := P3.out.b.free p
         go_wp2_with fail
         obtain ⟨SB, SF⟩ := P3.out.setb rfl (by omega : p < bl2.length) hy0
         have M4 := hid (M3.out.trans ⟨SF.mono (fun j hj => .inr (.inl hj)), fun i hi => .inl hi⟩ : Mv F (ifp g (.slice (some ad2) bl2.length c2_) (.slice Ag rs2.length cg)) w _)
         have P4 := hid SB
         clear SB SF
         refine (setadd_any _ g 4 _ rs2 (p : Int) ((p : Int) + 1) (P4.out.blk.cell 4) (P4.out.blk.free 4) P4.out.r (by omega)).mono ?_
         intro e w5 hh
         obtain ⟨vg5, h5⟩ := hh.c
         obtain ⟨rfl, _⟩ := hh
         have R5 := hid (P4.out.setR (by rw [List.length_set]; omega) h5)
         have L5 := (setAdd_o (p : Int) ((p : Int) + 1) P4.out.srt).len
         clear h5
         go_wp2_with fail
         go_roundw
         case rel => exact ⟨j + 1, _, _, _, _, _, hjl, by go_num, rfl, R5.out.1, by omega, M4.out.trans R5.out.2⟩
         case measure => simp [intOf]; omega
      ·have PX := P2
       have MX := M2
       go_wp2_with fail
       go_roundw
       case rel => exact ⟨j + 1, _, _, _, _, _, hjl, by go_num, rfl, PX.out, by omega, MX.out⟩
       case measure => simp [intOf]; omega
     ·have PX := P1
      have MX := M1
      go_wp2_with fail
      go_roundw
      case rel => exact ⟨j + 1, _, _, _, _, _, hjl, by go_num, rfl, PX.out, by omega, MX.out⟩
      case measure => simp [intOf]; omega
   ·go_wp2_with fail
    refine (LIM.out _ (Below.refl _ _)).mono ?_
    rintro e w1 ⟨rfl, hb1⟩
    have PX := hid (HR.out.below hb1)
    have MX := hid (M.out.trans ⟨Frm.of_below hb1, fun i hi => .inl hi⟩ : Mv F (ifp g (.slice Ab bl.length cb) (.slice Ag rs2.length cg)) w w1)
    clear hb1
    go_wp2_with fail
    go_roundw
    case rel => exact ⟨j + 1, _, _, _, _, _, hjl, by go_num, rfl, PX.out, by omega, MX.out⟩
    case measure => simp [intOf]; omega
  ·have j1 : ¬ (j : Int) < (l.length : Int) := by omega
   obtain rfl : j = l.length := by omega
   have e2 := HR.out.blk.cell 2
   have f2 := HR.out.blk.free 2
   have e4 := HR.out.blk.cell 4
   simp only [gA, gZ, gC] at e2 e4
   obtain ⟨m, hm⟩ : ∃ m, rs2.length = m := ⟨_, rfl⟩
   have hr := HR.out.r
   rw [hm] at e4 hlr
   obtain ⟨a2, ha2⟩ : ∃ a : Nat, fn + l.length = a := ⟨_, rfl⟩
   have iw2 : IntKind.i64.wrap ((fn : Int) + (l.length : Int)) = (a2 : Int) := by rw [iX]; omega
   have iw3 : IntKind.i64.wrap (-(l.length : Int)) = -(l.length : Int) := iX
   have k1 : -(l.length : Int) ≤ (fn : Int) := by omega
   have k2 : (fn : Int) ≤ 4096 := by omega
   have k3 : (0 : Int) ≤ (a2 : Int) := by omega
   have k4 : (a2 : Int) ≤ 4096 := by omega
   rcases Nat.eq_zero_or_pos m with hm0 | hm0
   ·have m0 : ¬ (0 : Int) < (m : Int) := by omega
    cases fin
    ·go_wp2_with fail
     go_ret
     first
      | exact ⟨_, _, _, _, _, _, rfl, HR.out, by omega, M.out⟩
      | exact ⟨_, _, _, _, _, _, rfl, HR.out.setE _, by omega, M.out.trans ⟨((Frm.refl (· = g) wr).setg _).mono (fun i hi => .inl hi), fun i hi => .inl hi⟩⟩
    ·rcases Int.lt_or_le en 0 with c2 | c2
     ·rcases Int.lt_or_le (a2 : Int) 0 with c3 | c3
      ·omega
      ·go_wp2_with fail
       go_ret
       first
        | exact ⟨_, _, _, _, _, _, rfl, HR.out, by omega, M.out⟩
        | exact ⟨_, _, _, _, _, _, rfl, HR.out.setE _, by omega, M.out.trans ⟨((Frm.refl (· = g) wr).setg _).mono (fun i hi => .inl hi), fun i hi => .inl hi⟩⟩
     ·go_wp2_with fail
      go_ret
      first
       | exact ⟨_, _, _, _, _, _, rfl, HR.out, by omega, M.out⟩
       | exact ⟨_, _, _, _, _, _, rfl, HR.out.setE _, by omega, M.out.trans ⟨((Frm.refl (· = g) wr).setg _).mono (fun i hi => .inl hi), fun i hi => .inl hi⟩⟩
   ·have m0 : (0 : Int) < (m : Int) := by omega
    obtain ⟨i, hi⟩ : ∃ i, m - 1 = i := ⟨_, rfl⟩
    have iw4 : IntKind.i64.wrap ((m : Int) - 1) = (i : Int) := by rw [iX]; omega
    have i0 : (0 : Int) ≤ (i : Int) := by omega
    have i1 : (i : Int) < (m : Int) := by omega
    obtain ⟨ad, rfl, d0, d1⟩ := RR.at_ hr (by omega : i < rs2.length)
    obtain ⟨tp, htp⟩ : ∃ x, rs2[i].2 = x := ⟨_, rfl⟩
    rw [htp] at d1
    clear d0 htp
    cases fin
    ·go_wp2_with fail
     go_ret
     first
      | exact ⟨_, _, _, _, _, _, rfl, HR.out, by omega, M.out⟩
      | exact ⟨_, _, _, _, _, _, rfl, HR.out.setE _, by omega, M.out.trans ⟨((Frm.refl (· = g) wr).setg _).mono (fun i hi => .inl hi), fun i hi => .inl hi⟩⟩
    ·rcases Int.lt_or_le en 0 with c2 | c2
     ·rcases Int.lt_or_le (a2 : Int) tp with c3 | c3
      ·go_wp2_with fail
       go_ret
       first
        | exact ⟨_, _, _, _, _, _, rfl, HR.out, by omega, M.out⟩
        | exact ⟨_, _, _, _, _, _, rfl, HR.out.setE _, by omega, M.out.trans ⟨((Frm.refl (· = g) wr).setg _).mono (fun i hi => .inl hi), fun i hi => .inl hi⟩⟩
      ·go_wp2_with fail
       go_ret
       first
        | exact ⟨_, _, _, _, _, _, rfl, HR.out, by omega, M.out⟩
        | exact ⟨_, _, _, _, _, _, rfl, HR.out.setE _, by omega, M.out.trans ⟨((Frm.refl (· = g) wr).setg _).mono (fun i hi => .inl hi), fun i hi => .inl hi⟩⟩
     ·go_wp2_with fail
      go_ret
      first
       | exact ⟨_, _, _, _, _, _, rfl, HR.out, by omega, M.out⟩
       | exact ⟨_, _, _, _, _, _, rfl, HR.out.setE _, by omega, M.out.trans ⟨((Frm.refl (· = g) wr).setg _).mono (fun i hi => .inl hi), fun i hi => .inl hi⟩⟩
end

section
attribute [local go_sem] run_max2' run_min2' run_max_ run_min_
section
variable {B : Nat} {w w' wz : World} {gp gG gW : Nat} {u j b b' : Bool} {s s' : Int} {v v' : Value} {l l' : List O4}
theorem PathAt.putF (h : PathAt B w gp gG gW u j b s v l) (f : Frm (· = gp) w w') (hc : CellSet w w' gp 6 v') (ho : OG outc 4 140 B w' v' l') (hv : ∀ i, v'.ownBlock = some i → i ≠ gp ∧ i ≠ gG ∧ i ≠ gW) : PathAt B w' gp gG gW u j b s v' l' :=
 ⟨by simpa using hc _ _ h.blk, h.g.frm f (fun e => h.ne.1 e.symm), h.wd.frm f (fun e => h.ne.2.1 e.symm), ho, h.ne, hv, h.s0, h.ge⟩
end
def PAckedR (B : Nat) (w : World) (gp gG gW : Nat) (u j : Bool) (s : Int) (v : Value) (l : List O4) (e : Ending) (w' : World) : Prop :=
 ∃ q b' v2 l2, e = .returned (.bool q) ∧ PathAt B w' gp gG gW u j b' s v2 l2 ∧ l2.length ≤ l.length ∧ Mv (pfp gp gG gW v) (pfp gp gG gW v2) w w'
set_option maxHeartbeats 8000000 in
set_option maxRecDepth 100000 in
theorem packed_any (B : Nat) (w : World) (gp gG gW : Nat) (u j b : Bool) (s : Int) (v : Value) (l : List O4) (num now : Int) (h : PathAt B w gp gG gW u j b s v l) (hB : B ≤ w.heap.size) (hl : l.length ≤ 100000000) :
  Calls Tryz.prog 77 #[.pointer (some ⟨gp, 0, none⟩), .int .i64 num, .int .i64 now] w fun e w' => PAckedR B w gp gG gW u j s v l e w' := by
 have H := hid h
 have c6 := h.blk.cell 6
 have f6 := h.blk.free 6
 simp only [gA, gZ, gC] at c6
 have RV := hid (Sl.of_own h.l (rowc_one outc_one l) : RG outc 4 w v l)
 clear h
 go_enter Tryz.func77, Tryz.ntmps77
 go_wp2_with fail
 refine (ftake_any w gp 6 v l num c6 f6 RV.out hl).mono ?_
 rintro e w1 (⟨o, rfl, hb⟩ | ⟨o, v2, l2, hm, hl2, rfl, hf, hc, ho⟩)
 ·have BH := hid hb
  clear hb
  go_wp2_with fail
  go_ret
  have hb := BH.out.alloc BH.out.size (.cells #[.int .i64 o.1, .int .i64 o.2.1, .int .i64 o.2.2.1, .int .i64 o.2.2.2] 140)
  exact ⟨_, _, _, _, rfl, H.out.below hb, Nat.le_refl _, ⟨Frm.of_below hb, fun i hi => .inl hi⟩⟩
 ·have hv : ∀ i, v2.ownBlock = some i → w.heap.size ≤ i := fun i hi => (ho.lt i hi).1
  have pl := H.out.blk.lt
  have gl := H.out.g.lt
  have wl := H.out.wd.lt
  have P1 := H.out.putF hf hc (own_base ho hB) (fun i hi => by have := hv i hi; omega)
  have M1 : Mv (pfp gp gG gW v) (pfp gp gG gW v2) w w1 := ⟨hf.mono (fun i hi => .inl hi), fun i hi => by
   rcases hi with hi | hi | hi | hi
   ·exact .inl (.inl hi)
   ·exact .inl (.inr (.inl hi))
   ·exact .inl (.inr (.inr (.inl hi)))
   ·exact .inr (hv i hi)⟩
  obtain ⟨w2, hw2⟩ := lx (w1.alloc (.cells #[.int .i64 o.1, .int .i64 o.2.1, .int .i64 o.2.2.1, .int .i64 o.2.2.2] 140))
  obtain ⟨gx, hgx⟩ := lx (w1.heap.size)
  have B2 : Below w1.heap.size w1 w2 := by rw [hw2]; exact ba
  have BX : Hid (Blk w2 gx #[.int .i64 o.1, .int .i64 o.2.1, .int .i64 o.2.2.1, .int .i64 o.2.2.2] 140) := hid (by rw [hw2, hgx]; exact Blk.new _ _ _)
  have P2 := hid (P1.below B2)
  have M2 := hid (M1.trans ⟨Frm.of_below B2, fun i hi => .inl hi⟩ : Mv _ (pfp gp gG gW v2) w w2)
  have HL := hid hl2
  go_wp2_with fail
  rw [← hw2, ← hgx]
  clear hw2 hgx B2 M1 P1 hv hf hc ho hm hl2
  have d4 := P2.out.blk.cell 4
  have d5 := P2.out.blk.cell 5
  have x3 := BX.out.cell 3
  simp only [gA, gZ, gC] at d4 d5 x3
  obtain ⟨z, hz⟩ : ∃ z, IntKind.i64.wrap (now - o.2.2.2) = z := ⟨_, rfl⟩
  go_wp2_with fail
  refine wp_region_still_tail (id := 3) 8 (by kernel_rfl) (by kernel_rfl) ?_
  change wpStill _ _ (World.drew _) (fun a' => wpList _ _ _ _ a' (World.drew _)) _ _
  simp only [List.take_succ_cons, List.take_zero, List.drop_succ_cons, List.drop_zero]
  repeat still_step
  refine wpStill_nil ?_
  go_wp2_with fail
  have Dr : Below w2.heap.size w2 w2.drew := (Below.refl _ _).drew
  have P3 := P2.out.below Dr
  have M3 := M2.out.trans ⟨Frm.of_below Dr, fun i hi => .inl hi⟩
  refine (sample_any gG z w2.drew P3.g).mono ?_
  rintro e w3 ⟨rfl, hg3, hf3⟩
  have P4 := hid (P3.setG hg3 hf3)
  have M4 := hid (M3.trans ⟨hf3.mono (fun i hi => .inr (.inl hi)), fun i hi => .inl hi⟩ : Mv _ (pfp gp gG gW v2) w w3)
  clear P3 M3 Dr hg3 hf3 d4 d5 x3
  have d5 := P4.out.blk.cell 5
  simp only [gA, gZ, gC] at d5
  go_wp2_with fail
  refine (wack_any gW w3 P4.out.wd).mono ?_
  rintro e w4 ⟨rfl, hg4, hf4⟩
  have P5 := hid (P4.out.setW hg4 hf4)
  have M5 := hid (M4.out.trans ⟨hf4.mono (fun i hi => .inr (.inr (.inl hi))), fun i hi => .inl hi⟩ : Mv _ (pfp gp gG gW v2) w w4)
  clear hg4 hf4 d5
  have d2 := P5.out.blk.cell 2
  have f2 := P5.out.blk.free 2
  simp only [gA, gZ, gC] at d2
  go_wp2_with fail
  go_ret
  exact ⟨_, _, _, _, rfl, P5.out.setB, HL.out, M5.out.trans ⟨((Frm.refl (· = gp) w4).setg _).mono (fun i hi => .inl hi), fun i hi => .inl hi⟩⟩
end

section
attribute [local go_sem] run_max2' run_min2' run_max_ run_min_
theorem BV.take {w : World} {S : Nat → Prop} {A : Option Addr} {c n : Nat} {l : List Int} (h : BV w S (.slice A n c) l) {m : Nat} (hm : m ≤ l.length) : BV w S (.slice A m c) (l.take m) := by
 obtain ⟨A', c', e, h1, h2, h3⟩ := h
 injection e with e1 e2 e3
 subst e1 e2 e3
 have ho : (Value.slice A m c).ownBlock = (Value.slice A l.length c).ownBlock := by cases A <;> rfl
 have hl : (l.take m).length = m := by rw [List.length_take]; omega
 refine ⟨A, c, by rw [hl], ?_, fun h0 j hj => h2 (by omega) j (ho ▸ hj), fun x hx => h3 x (List.mem_of_mem_take hx)⟩
 rw [hl]
 have := h1.take hm
 rw [show u8s (l.take m) = (u8s l).take m from by simp [u8s, List.map_take]]
 exact this
theorem BV.belowB {S : Nat → Prop} {w w' : World} {v : Value} {l : List Int} (h : BV w S v l) {B : Nat} (hB : w.heap.size ≤ B) (k : Below B w w') : BV w' S v l := h.below (k.mono hB)
/-- What a seal holds. -/
def openL (l : List Int) : Option (List Int) := if l.length < 4 then none else if sealL (l.take (l.length - 4)) = l then some (l.take (l.length - 4)) else none
def OpenR (w : World) (x : Option (List Int)) (e : Ending) (w' : World) : Prop := ∃ v', e = .returned (.tuple #[v', .bool x.isSome]) ∧ BO w.heap.size w' v' (x.getD []) ∧ Below w.heap.size w w'
theorem BO.nil (B : Nat) (w : World) : BO B w (.slice none 0 0) [] := ⟨World.ownsRow_nil _ _ _ _, fun x h => by cases h⟩
theorem results_two {fn : Func} {t u : Tmp} (h : fn.results = #[.tmp t, .tmp u]) (tmps : Array Value) (P : Program) (w : World) :
  (results fn tmps).run P w = .ok (.tuple #[tmps.getD t undef, tmps.getD u undef]) w := by
 simp [results, h]
set_option maxHeartbeats 8000000 in
set_option maxRecDepth 100000 in
theorem open_any (w : World) (S : Nat → Prop) (v : Value) (l : List Int) (h : BV w S v l) (hl : l.length ≤ 1000000) : Calls Tryz.prog 71 #[v] w fun e w' => OpenR w (openL l) e w' := by
 obtain ⟨n, hn⟩ : ∃ n, l.length = n := ⟨_, rfl⟩
 obtain ⟨A, c, e0⟩ : ∃ A c, v = .slice A l.length c := by obtain ⟨A, c, e0, _⟩ := h; exact ⟨A, c, e0⟩
 subst e0
 rw [hn] at h hl ⊢
 have HN := hid hn
 have H := hid h
 have HI := hid Tryz.info5
 have HS : Hid (Sl w 1 (.slice A n c) n (u8s l)) := hid (by have := h.sl; rw [hn] at this; exact this)
 have hcap : n ≤ c := by obtain ⟨A', c', e, h1, _⟩ := HS.out; injection e with _ _ e; omega
 by_cases h4 : n < 4
 ·have e : openL l = none := by unfold openL; rw [if_pos (by omega)]
  rw [e]
  have i4 : (n : Int) < 4 := by omega
  clear h hn e
  go_enter Tryz.func71, Tryz.ntmps71
  go_wp2_with fail
  go_quiet (fail)
  go_wp2_with fail
  refine bodyPost_ret (results_two rfl _ _ _) rfl ?_
  exact ⟨_, rfl, BO.nil _ _, below_drewN (Below.refl _ _) _⟩
 ·obtain ⟨m, rfl⟩ : ∃ m, n = m + 4 := ⟨n - 4, by omega⟩
  have i4 : ¬ ((m + 4 : Nat) : Int) < 4 := by omega
  have i4' : ¬ (m : Int) + 4 < 4 := by omega
  have iw : IntKind.i64.wrap (((m + 4 : Nat) : Int) - 4) = (m : Int) := by rw [iX]; omega
  have iw' : IntKind.i64.wrap ((m : Int) + 4 - 4) = (m : Int) := by rw [iX]; omega
  have iwm : IntKind.i64.wrap (m : Int) = (m : Int) := iX
  have im : (m : Int) ≤ (c : Int) := by omega
  have im0 : (0 : Int) ≤ (m : Int) := by omega
  have CE : Hid (∀ W, Below w.heap.size w W → (convert 25 9 (.slice A (m + 4) c)).run Tryz.prog W = .ok (.string (toBA l)) W) := hid (fun W hW => sl_conv (HS.out.below hW))
  have HT : Hid (∀ W, Below w.heap.size w W → BV W S (.slice A m c) (l.take m)) := hid (fun W hW => (H.out.below hW).take (by have := HN.out; omega))
  have G : Hid (Below w.heap.size w w.drew) := hid (Below.refl _ _).drew
  obtain ⟨q, hq⟩ : ∃ q, decide (sealL (l.take m) = l) = q := ⟨_, rfl⟩
  have e : openL l = if q = true then some (l.take m) else none := by
   unfold openL
   rw [if_neg (by have := HN.out; omega), show l.length - 4 = m by have := HN.out; omega, ← hq]
   simp
  rw [e]
  have HQ := hid hq
  have hby := H.out.byt
  have HE := hid (toBA_eq (sealL_byt (fun x hx => hby x (List.mem_of_mem_take hx) : Byt (l.take m))) hby)
  clear h hn e hq hby
  have hc0 := CE.out w.drew G.out
  have hne : ((toBA (sealL (l.take m))).toList == (toBA l).toList) = q := by rw [HE.out, HQ.out]
  go_enter Tryz.func71, Tryz.ntmps71
  go_wp2_with fail
  refine wp_region_held_drew (S := fun w' => (convert 25 9 (.slice A (m + 4) c)).run Tryz.prog w' = .ok (.string (toBA l)) w') (by kernel_rfl) hc0 (fun hHeld => ?_)
  refine tk 0 (oi := ⟨some 4, _, _, _, _, _⟩) rfl ?_
  refine tk 1 (oi := ⟨some 5, _, _, _, _, _⟩) rfl ?_
  refine tk 2 (oi := ⟨some 6, _, _, _, _, _⟩) rfl ?_
  refine tk 3 (oi := ⟨some 7, _, _, _, _, _⟩) rfl ?_
  refine tk 4 (oi := ⟨some 8, _, _, _, _, _⟩) rfl ?_
  refine tk 5 (oi := ⟨some 9, _, _, _, _, _⟩) rfl ?_
  refine tk 6 (oi := ⟨some 10, _, _, _, _, _⟩) rfl ?_
  refine tk 7 (oi := ⟨some 11, _, _, _, _, _⟩) rfl ?_
  refine tk 8 (oi := ⟨some 12, _, _, _, _, _⟩) rfl ?_
  refine tk 11 (oi := ⟨some 15, _, _, _, _, _⟩) rfl ?_
  refine tk 12 (oi := ⟨some 16, _, _, _, _, _⟩) rfl ?_
  refine rD 9 (o := ⟨some 13, _, _, _, _, _⟩) rfl (fun K hK => ?_)
  go_simp
  refine (seal_any _ S _ (l.take m) (HT.out _ G.out) (by rw [List.length_take]; omega)).mono ?_
  rintro r wz ⟨v1, rfl, hbo, hb⟩
  obtain ⟨A1, c1, rfl⟩ := own_slice' hbo.1
  have kc := sl_conv (Sl.of_own hbo.1 (u8s_one _))
  have g_ := G.out.trans (hb.mono G.out.size)
  clear G hb
  have G := hid g_
  clear g_ hbo
  refine Ko hK (CE.out _ G.out) (fun hHeld => ?_)
  clear hK K
  refine rD 10 (o := ⟨some 14, _, _, _, _, _⟩) rfl (fun K hK => ?_)
  go_simp
  refine Ko hK (CE.out _ G.out) (fun hHeld => ?_)
  clear hK K
  refine tk 13 (oi := ⟨some 17, _, _, _, _, _⟩) rfl ?_
  refine tk 14 (oi := ⟨some 18, _, _, _, _, _⟩) rfl ?_
  refine dn ?_
  all_goals
   have T2 := HT.out wz G.out
   have HS2 := hid T2.sl
   have hlm : (l.take m).length = m := by rw [List.length_take]; have := HN.out; omega
   rw [hlm] at HS2
   clear T2
   rw [show (decide ((m : Int) + 4 < 4) || !q) = !q from by rw [decide_eq_false (by omega)]; rfl, decide_eq_false (show ¬ (m : Int) + 4 < 4 by omega)]
   clear i4 i4'
   cases q
   ·go_wp2_with fail
    refine bodyPost_ret (results_two rfl _ _ _) rfl ?_
    exact ⟨_, rfl, BO.nil _ _, G.out⟩
   ·go_wp2_with (at_builtin; refine wp_app w.heap.size rfl _ _ 25 5 (.int .u8 0) 1 1 rfl Tryz.underlying25 HI.out rfl (by omega) (by omega) rfl rfl (World.ownsRow_nil _ _ _ _) HS2.out (by omega) G.out.size ?_; intro v7 w7 hown hfr hat; simp only [Nat.zero_add, List.nil_append] at hown; have HO := hid hown; have HB : Hid (Below w.heap.size w w7) := hid (Frm.below G.out hfr G.out.size (fun g hg => by cases hg)); obtain ⟨A7, c7, rfl⟩ := own_slice' hown; clear hown hfr hat)
    (try go_wp2_with fail)
    refine bodyPost_ret (results_two rfl _ _ _) rfl ?_
    exact ⟨_, rfl, ⟨by show World.ownsRow _ _ _ _ _ (l.take m).length _; rw [hlm]; exact HO.out, fun x hx => H.out.byt x (List.mem_of_mem_take hx)⟩, HB.out⟩
end
end Go.Proofs.YtdneakejlbabeaaGreat
