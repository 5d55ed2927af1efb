/- Parts of the walk: Vf. -/
import Derived.Test.YtdneakejlbabeaaGreatM34
namespace Go.Proofs.YtdneakejlbabeaaGreat
open Go.RowKit
set_option linter.unusedVariables false
set_option linter.unusedSimpArgs false

theorem ECells.below {w w' : World} {p : Addr} {e : Ev} {x : Value × Value} (h : ECells w p e x) (k : Below w.heap.size w w') : ECells w' p e x := by
  have g : ∀ (p : Addr) (v : Value), w.cell? p = some v → w'.cell? p = some v := fun p v hv => (k.cell (World.block_lt_of_cell? w _ hv)).trans hv
  obtain ⟨h0, h1, h2, h3, h4, h5, h6, h7, h8, h9, h10, h11⟩ := h
  exact ⟨g _ _ h0, g _ _ h1, g _ _ h2, g _ _ h3, g _ _ h4, g _ _ h5, g _ _ h6, g _ _ h7, g _ _ h8, g _ _ h9, g _ _ h10, g _ _ h11⟩
theorem NCells.below {w w' : World} {p : Addr} {s : Int} {e : Ev} {x : Value × Value} (h : NCells w p s e x) (k : Below w.heap.size w w') : NCells w' p s e x := by
  have g : ∀ (p : Addr) (v : Value), w.cell? p = some v → w'.cell? p = some v := fun p v hv => (k.cell (World.block_lt_of_cell? w _ hv)).trans hv
  obtain ⟨h0, h1, h2, h3, h4, h5, h6, h7, h8, h9, h10, h11, h12⟩ := h
  exact ⟨g _ _ h0, g _ _ h1, g _ _ h2, g _ _ h3, g _ _ h4, g _ _ h5, g _ _ h6, g _ _ h7, g _ _ h8, g _ _ h9, g _ _ h10, g _ _ h11, g _ _ h12⟩
theorem ev_below {S : Nat → Prop} {w w' : World} {e : Ev} {x : Value × Value} (h : EV w S e x) (k : Below w.heap.size w w') : EV w' S e x := ⟨h.1.below k, h.2.below k⟩
/-- Where the loop over the joined row stands. -/
def ExI (w3 : World) (gn : Nat) (l : List (Int × Ev)) (j : Nat) (wr : World) : Prop :=
  Below w3.heap.size w3 wr ∧ Blk wr gn #[.int .i64 ((only 0 (l.take j)).length : Int), .int .i64 ((only 1 (l.take j)).length : Int)] 50
theorem ExI.below {w3 : World} {gn : Nat} {l : List (Int × Ev)} {j : Nat} {wr W : World} (h : ExI w3 gn l j wr) (k : Below wr.heap.size wr W) : ExI w3 gn l j W := ⟨Below.on' h.1 (Nat.le_refl _) k, h.2.below k⟩
theorem ExI.next0 {w3 : World} {gn : Nat} {l : List (Int × Ev)} {j : Nat} {wr : World} (h : ExI w3 gn l j wr) (hg : w3.heap.size ≤ gn) {e : Ev} (hl : l[j]? = some (0, e)) : ExI w3 gn l (j + 1) (wr.setCell ⟨gn, 0, none⟩ (.int .i64 (((only 0 (l.take j)).length : Int) + 1))) := by
  refine ⟨Frm.below h.1 ((Frm.refl (· = gn) wr).setg _) h.1.size (fun i hi => by rw [hi]; exact hg), ?_⟩
  have h2 := h.2.set 0 (.int .i64 (((only 0 (l.take j)).length : Int) + 1))
  rw [only_step l 0 0 j e hl, only_step l 1 0 j e hl]
  simpa using h2
theorem ExI.next1 {w3 : World} {gn : Nat} {l : List (Int × Ev)} {j : Nat} {wr : World} (h : ExI w3 gn l j wr) (hg : w3.heap.size ≤ gn) {e : Ev} (hl : l[j]? = some (1, e)) : ExI w3 gn l (j + 1) (wr.setCell ⟨gn, 1, none⟩ (.int .i64 (((only 1 (l.take j)).length : Int) + 1))) := by
  refine ⟨Frm.below h.1 ((Frm.refl (· = gn) wr).setg _) h.1.size (fun i hi => by rw [hi]; exact hg), ?_⟩
  have h2 := h.2.set 1 (.int .i64 (((only 1 (l.take j)).length : Int) + 1))
  rw [only_step l 0 1 j e hl, only_step l 1 1 j e hl]
  simpa using h2
set_option maxHeartbeats 32000000 in
set_option maxRecDepth 100000 in
theorem exec_any (w : World) (s0 s1 s2 s3 s4 s5 s6 : Int) (a : Option Addr) (len cap : Nat) (hr : ChRow w a len) (hlc : len ≤ cap) (hcm : cap ≤ maxLen) :
    Calls Tryz.prog 4 #[.agg #[.int .i64 s0, .int .i64 s1, .int .i64 s2, .int .i64 s3, .int .i64 s4, .int .i64 s5, .int .i64 s6], .slice a len cap] w fun r w' => r = .returned (.bool true) ∧ Below w.heap.size w w' := by
  have HR := Lib.hid hr
  clear hr
  obtain ⟨w0, hw0⟩ : ∃ W, W = w.alloc (.cells #[.int .i64 s0, .int .i64 s1, .int .i64 s2, .int .i64 s3, .int .i64 s4, .int .i64 s5, .int .i64 s6] 23) := ⟨_, rfl⟩
  obtain ⟨gs, hgs⟩ : ∃ h, h = w.heap.size := ⟨_, rfl⟩
  have BS : Hid (Blk w0 gs #[.int .i64 s0, .int .i64 s1, .int .i64 s2, .int .i64 s3, .int .i64 s4, .int .i64 s5, .int .i64 s6] 23) := Lib.hid (by rw [hw0, hgs]; exact Blk.new _ _ _)
  have B0 : Hid (Below w.heap.size w w0) := Lib.hid (by rw [hw0]; exact (Below.refl _ _).alloc (Nat.le_refl _) _)
  have hw0' := hw0.symm
  have hgs' := hgs.symm
  have k0 := BS.out.cell 0
  have k1 := BS.out.cell 1
  have k2 := BS.out.cell 2
  have k3 := BS.out.cell 3
  have k4 := BS.out.cell 4
  have k5 := BS.out.cell 5
  have k6 := BS.out.cell 6
  simp only [List.getElem?_toArray, List.getElem?_cons_zero, List.getElem?_cons_succ] at k0 k1 k2 k3 k4 k5 k6
  clear hw0 hgs
  go_enter Tryz.func4, Tryz.ntmps4
  go_wp2_with fail
  clear hw0' hgs'
  refine (config_any w0 s0 s1 s2 s3 s4 s5 s6).mono ?_
  rintro r w1 ⟨c, nn, rfl, hc, hn1, hn2, hb1⟩
  have R1 := Lib.hid ((HR.out.below B0.out).below hb1)
  have B1 := Lib.hid (Below.on' B0.out (Nat.le_refl _) hb1)
  have HC := Lib.hid hc
  clear hb1 hc k0 k1 k2 k3 k4 k5 k6 BS HR B0
  go_wp2_with fail
  refine (logs_any w1 c nn HC.out ⟨hn1, hn2⟩ a len cap R1.out hlc hcm 60 (by omega)).mono ?_
  rintro r w2 ⟨v0, v1, a1, b1, wl, S, rfl, h0, h1, hR, la, lb, sa, sb, hb2⟩
  have B2 := Lib.hid (Below.on' B1.out (Nat.le_refl _) hb2)
  obtain ⟨A0, c0, rfl, _⟩ := h0.len
  obtain ⟨A1, c1, rfl, _⟩ := h1.len
  obtain ⟨l, hJ, hRl⟩ := J_right hR
  have hll := hRl.len
  have SM := Lib.hid (right_small hRl sa sb)
  have RR := Lib.hid hRl
  have JJ := Lib.hid hJ
  obtain ⟨W2, hW2⟩ : ∃ W, W = w2.alloc (.cells #[.slice A0 a1.length c0, .slice A1 b1.length c1] 31) := ⟨_, rfl⟩
  obtain ⟨gx, hgx⟩ : ∃ g, g = w2.heap.size := ⟨_, rfl⟩
  have BX : Hid (Blk W2 gx #[.slice A0 a1.length c0, .slice A1 b1.length c1] 31) := Lib.hid (by rw [hW2, hgx]; exact Blk.new _ _ _)
  have BW : Hid (Below w2.heap.size w2 W2) := Lib.hid (by rw [hW2]; exact (Below.refl _ _).alloc (Nat.le_refl _) _)
  have E0 := Lib.hid (h0.below BW.out)
  have E1 := Lib.hid (h1.below BW.out)
  have B3 := Lib.hid (Below.on' B2.out (Nat.le_refl _) BW.out)
  have SA := Lib.hid sa
  have SB := Lib.hid sb
  have hW2' := hW2.symm
  have hgx' := hgx.symm
  have k0 := BX.out.cell 0
  have k1 := BX.out.cell 1
  simp only [List.getElem?_toArray, List.getElem?_cons_zero, List.getElem?_cons_succ] at k0 k1
  clear h0 h1 hb2 hR hRl hJ sa sb R1 B1 B2 HC BW hW2 hgx hn1 hn2 hcm hlc
  go_wp2_with fail
  clear hW2' hgx'
  refine (join_at W2 S _ _ a1 b1 E0.out E1.out la lb SA.out SB.out l 0 0 true JJ.out).mono ?_
  rintro r w3 ⟨A, cc, D, rfl, hr, hb3⟩
  have NR := Lib.hid hr
  obtain ⟨A', c', ea, hcl, _⟩ := hr.len
  injection ea with eA eb ec
  subst eA ec
  clear eb
  have BX3 := Lib.hid (BX.out.below hb3)
  have F0 := Lib.hid (E0.out.below hb3)
  have F1 := Lib.hid (E1.out.below hb3)
  have B4 := Lib.hid (Below.on' B3.out (Nat.le_refl _) hb3)
  have hne : ((l.length : Int) != (a1.length : Int) + (b1.length : Int)) = false := by rw [hll]; simp
  have iwl : IntKind.i64.wrap ((a1.length : Int) + (b1.length : Int)) = (a1.length : Int) + (b1.length : Int) := IntWalk.i64_in _ ⟨by omega, by omega⟩
  have gxl := BX3.out.lt
  have hlm : l.length ≤ 1000000 := by omega
  clear hll
  obtain ⟨W4, hW4⟩ : ∃ W, W = w3.alloc (.cells #[.int .i64 0, .int .i64 0] 50) := ⟨_, rfl⟩
  obtain ⟨gn, hgn⟩ : ∃ g, g = w3.heap.size := ⟨_, rfl⟩
  have BW4 : Hid (Below w3.heap.size w3 W4) := Lib.hid (by rw [hW4]; exact (Below.refl _ _).alloc (Nat.le_refl _) _)
  have START : Hid (ExI w3 gn l 0 W4) := Lib.hid ⟨BW4.out, by rw [hW4, hgn]; exact Blk.new _ _ _⟩
  have hgl : w3.heap.size ≤ gn := by omega
  have hW4' := hW4.symm
  have hgn' := hgn.symm
  have k0 := BX3.out.cell 0
  have k1 := BX3.out.cell 1
  simp only [List.getElem?_toArray, List.getElem?_cons_zero, List.getElem?_cons_succ] at k0 k1
  clear hr hb3 hW4 hgn E0 E1 B3 BX SA SB JJ BW4
  go_wp2_with fail
  clear hW4' hgn' hne iwl k0 k1
  go_loopw [54] (fun i wr => ∃ j : Nat, j ≤ l.length ∧ i = .int .i64 j ∧ ExI w3 gn l j wr) (fun i _ => l.length - (intOf i).toNat)
  case atStart => exact ⟨0, Nat.zero_le _, rfl, START.out⟩
  case round =>
    obtain ⟨j, hj, rfl, hI⟩ := hrel
    have HI := Lib.hid hI
    clear hI START
    by_cases hjl : j < l.length
    · have j0 : (0 : Int) ≤ (j : Int) := by omega
      have j1 : (j : Int) < (l.length : Int) := by omega
      have iwj : IntKind.i64.wrap ((j : Int) + 1) = (j : Int) + 1 := IntWalk.i64_in _ ⟨by omega, by omega⟩
      obtain ⟨ad2, q, e, x, y, rfl, he, hx, hce⟩ := NRow.ev NR.out hjl
      have hq := RR.out.t _ (List.mem_of_getElem? he)
      dsimp only at hq
      obtain ⟨a0_, a1_, a2, a3, a4, a5, a6, a7, a8, a9, a10, a11, a12⟩ := hce.below HI.out.1
      clear hce
      obtain ⟨X1, z1_, rfl, _⟩ := hx.1.len
      obtain ⟨Y1, z2_, rfl, _⟩ := hx.2.len
      have HX : Hid (EV w3 D e (.slice X1 e.data.length z1_, .slice Y1 e.pk.data.length z2_)) := Lib.hid hx
      clear hx
      have jc : (j : Int) ≤ (cc : Int) := by omega
      rcases hq with rfl | rfl
      · obtain ⟨n, hn⟩ : ∃ n, (only 0 (l.take j)).length = n := ⟨_, rfl⟩
        have hat := (right_at RR.out (j := j) (e := e)).1 he
        rw [hn] at hat
        have hnl : n < a1.length := (List.getElem?_eq_some_iff.1 hat).1
        have n0 : (0 : Int) ≤ (n : Int) := by omega
        have n1 : (n : Int) < (a1.length : Int) := by omega
        have nd : decide (a1.length ≤ n) = false := decide_eq_false (by omega)
        have iwn : IntKind.i64.wrap ((n : Int) + 1) = (n : Int) + 1 := IntWalk.i64_in _ ⟨by omega, by omega⟩
        have HE := Lib.hid he
        obtain ⟨gE, hgE⟩ : ∃ g, g = wr.heap.size := ⟨_, rfl⟩
        obtain ⟨W5, hW5⟩ : ∃ W, W = wr.alloc (.cells #[.int .i64 0, .int .i64 e.kind, .int .i64 e.n, .slice X1 e.data.length z1_, .int .i64 e.pk.kind, .int .i64 e.pk.path, .int .i64 e.pk.number, .int .i64 e.pk.of_, .int .i64 e.pk.from_, .slice Y1 e.pk.data.length z2_, .bool e.pk.fin, .int .i64 e.pk.seen, .int .i64 e.pk.limit] 52) := ⟨_, rfl⟩
        have K5 : Hid (Below wr.heap.size wr W5) := Lib.hid (by rw [hW5]; exact (Below.refl _ _).alloc (Nat.le_refl _) _)
        have BE : Hid (Blk W5 gE #[.int .i64 0, .int .i64 e.kind, .int .i64 e.n, .slice X1 e.data.length z1_, .int .i64 e.pk.kind, .int .i64 e.pk.path, .int .i64 e.pk.number, .int .i64 e.pk.of_, .int .i64 e.pk.from_, .slice Y1 e.pk.data.length z2_, .bool e.pk.fin, .int .i64 e.pk.seen, .int .i64 e.pk.limit] 52) := Lib.hid (by rw [hW5, hgE]; exact Blk.new _ _ _)
        have I5 := Lib.hid (HI.out.below K5.out)
        have E5 := Lib.hid (ev_below HX.out I5.out.1)
        have hgng : gE ≠ gn := by have := HI.out.2.lt; omega
        have hW5' := hW5.symm
        have hgE' := hgE.symm
        clear he hW5 hgE
        go_wp2_with fail
        clear hW5' hgE' a0_ a1_ a2 a3 a4 a5 a6 a7 a8 a9 a10 a11 a12
        obtain ⟨bd, e', x, y, rfl, he', hx', hce⟩ := ERow.ev (F0.out.below I5.out.1) hnl
        obtain rfl : e = e' := by rw [he'] at hat; exact ((Option.some.injEq _ _).mp hat).symm
        obtain ⟨X2, z3_, rfl, _⟩ := hx'.1.len
        obtain ⟨Y2, z4_, rfl, _⟩ := hx'.2.len
        have HX' : Hid (EV W5 S e (.slice X2 e.data.length z3_, .slice Y2 e.pk.data.length z4_)) := Lib.hid hx'
        have HCE := Lib.hid hce
        clear hx' hce he' hat
        have KE : Hid (∀ w', Below W5.heap.size W5 w' → (w'.cell? ⟨gE, 0, none⟩ = some (.int .i64 0) ∧ w'.cell? ⟨gE, 1, none⟩ = some (.int .i64 e.kind) ∧ w'.cell? ⟨gE, 2, none⟩ = some (.int .i64 e.n) ∧ w'.cell? ⟨gE, 3, none⟩ = some (.slice X1 e.data.length z1_) ∧ w'.cell? ⟨gE, 4, none⟩ = some (.int .i64 e.pk.kind) ∧ w'.cell? ⟨gE, 5, none⟩ = some (.int .i64 e.pk.path) ∧ w'.cell? ⟨gE, 6, none⟩ = some (.int .i64 e.pk.number) ∧ w'.cell? ⟨gE, 7, none⟩ = some (.int .i64 e.pk.of_) ∧ w'.cell? ⟨gE, 8, none⟩ = some (.int .i64 e.pk.from_) ∧ w'.cell? ⟨gE, 9, none⟩ = some (.slice Y1 e.pk.data.length z2_) ∧ w'.cell? ⟨gE, 10, none⟩ = some (.bool e.pk.fin) ∧ w'.cell? ⟨gE, 11, none⟩ = some (.int .i64 e.pk.seen) ∧ w'.cell? ⟨gE, 12, none⟩ = some (.int .i64 e.pk.limit) ∧ w'.cell? ⟨gn, 0, none⟩ = some (.int .i64 (n : Int)) ∧ w'.cell? ⟨gx, 0, none⟩ = some (.slice (some bd) a1.length c0) ∧ w'.cell? (bd.add (n * 12)) = some (.int .i64 e.kind) ∧ w'.cell? ⟨(bd.add (n * 12)).block, (bd.add (n * 12)).off + 1, none⟩ = some (.int .i64 e.n) ∧ w'.cell? ⟨(bd.add (n * 12)).block, (bd.add (n * 12)).off + 2, none⟩ = some (.slice X2 e.data.length z3_) ∧ w'.cell? ⟨(bd.add (n * 12)).block, (bd.add (n * 12)).off + 3, none⟩ = some (.int .i64 e.pk.kind) ∧ w'.cell? ⟨(bd.add (n * 12)).block, (bd.add (n * 12)).off + 4, none⟩ = some (.int .i64 e.pk.path) ∧ w'.cell? ⟨(bd.add (n * 12)).block, (bd.add (n * 12)).off + 5, none⟩ = some (.int .i64 e.pk.number) ∧ w'.cell? ⟨(bd.add (n * 12)).block, (bd.add (n * 12)).off + 6, none⟩ = some (.int .i64 e.pk.of_) ∧ w'.cell? ⟨(bd.add (n * 12)).block, (bd.add (n * 12)).off + 7, none⟩ = some (.int .i64 e.pk.from_) ∧ w'.cell? ⟨(bd.add (n * 12)).block, (bd.add (n * 12)).off + 8, none⟩ = some (.slice Y2 e.pk.data.length z4_) ∧ w'.cell? ⟨(bd.add (n * 12)).block, (bd.add (n * 12)).off + 9, none⟩ = some (.bool e.pk.fin) ∧ w'.cell? ⟨(bd.add (n * 12)).block, (bd.add (n * 12)).off + 10, none⟩ = some (.int .i64 e.pk.seen) ∧ w'.cell? ⟨(bd.add (n * 12)).block, (bd.add (n * 12)).off + 11, none⟩ = some (.int .i64 e.pk.limit))) := Lib.hid (fun W hW => by
          have bx := (BX3.out.below I5.out.1).below hW
          have be := BE.out.below hW
          have bn := (I5.out.below hW).2.cell 0
          simp only [List.getElem?_toArray, List.getElem?_cons_zero, List.getElem?_cons_succ] at bn
          rw [hn] at bn
          exact ⟨be.cell 0, be.cell 1, be.cell 2, be.cell 3, be.cell 4, be.cell 5, be.cell 6, be.cell 7, be.cell 8, be.cell 9, be.cell 10, be.cell 11, be.cell 12, bn, bx.cell 0, HCE.out.below hW⟩)
        refine wp_region_held_drew (S := fun w' => w'.cell? ⟨gE, 0, none⟩ = some (.int .i64 0) ∧ w'.cell? ⟨gE, 1, none⟩ = some (.int .i64 e.kind) ∧ w'.cell? ⟨gE, 2, none⟩ = some (.int .i64 e.n) ∧ w'.cell? ⟨gE, 3, none⟩ = some (.slice X1 e.data.length z1_) ∧ w'.cell? ⟨gE, 4, none⟩ = some (.int .i64 e.pk.kind) ∧ w'.cell? ⟨gE, 5, none⟩ = some (.int .i64 e.pk.path) ∧ w'.cell? ⟨gE, 6, none⟩ = some (.int .i64 e.pk.number) ∧ w'.cell? ⟨gE, 7, none⟩ = some (.int .i64 e.pk.of_) ∧ w'.cell? ⟨gE, 8, none⟩ = some (.int .i64 e.pk.from_) ∧ w'.cell? ⟨gE, 9, none⟩ = some (.slice Y1 e.pk.data.length z2_) ∧ w'.cell? ⟨gE, 10, none⟩ = some (.bool e.pk.fin) ∧ w'.cell? ⟨gE, 11, none⟩ = some (.int .i64 e.pk.seen) ∧ w'.cell? ⟨gE, 12, none⟩ = some (.int .i64 e.pk.limit) ∧ w'.cell? ⟨gn, 0, none⟩ = some (.int .i64 (n : Int)) ∧ w'.cell? ⟨gx, 0, none⟩ = some (.slice (some bd) a1.length c0) ∧ w'.cell? (bd.add (n * 12)) = some (.int .i64 e.kind) ∧ w'.cell? ⟨(bd.add (n * 12)).block, (bd.add (n * 12)).off + 1, none⟩ = some (.int .i64 e.n) ∧ w'.cell? ⟨(bd.add (n * 12)).block, (bd.add (n * 12)).off + 2, none⟩ = some (.slice X2 e.data.length z3_) ∧ w'.cell? ⟨(bd.add (n * 12)).block, (bd.add (n * 12)).off + 3, none⟩ = some (.int .i64 e.pk.kind) ∧ w'.cell? ⟨(bd.add (n * 12)).block, (bd.add (n * 12)).off + 4, none⟩ = some (.int .i64 e.pk.path) ∧ w'.cell? ⟨(bd.add (n * 12)).block, (bd.add (n * 12)).off + 5, none⟩ = some (.int .i64 e.pk.number) ∧ w'.cell? ⟨(bd.add (n * 12)).block, (bd.add (n * 12)).off + 6, none⟩ = some (.int .i64 e.pk.of_) ∧ w'.cell? ⟨(bd.add (n * 12)).block, (bd.add (n * 12)).off + 7, none⟩ = some (.int .i64 e.pk.from_) ∧ w'.cell? ⟨(bd.add (n * 12)).block, (bd.add (n * 12)).off + 8, none⟩ = some (.slice Y2 e.pk.data.length z4_) ∧ w'.cell? ⟨(bd.add (n * 12)).block, (bd.add (n * 12)).off + 9, none⟩ = some (.bool e.pk.fin) ∧ w'.cell? ⟨(bd.add (n * 12)).block, (bd.add (n * 12)).off + 10, none⟩ = some (.int .i64 e.pk.seen) ∧ w'.cell? ⟨(bd.add (n * 12)).block, (bd.add (n * 12)).off + 11, none⟩ = some (.int .i64 e.pk.limit)) (by kernel_rfl) (KE.out _ (Below.refl _ _).drew) (fun hHeld => ?_)
        obtain ⟨wd, hwd⟩ : ∃ W, W = W5.drew := ⟨_, rfl⟩
        have GD : Hid (Below W5.heap.size W5 wd) := Lib.hid (by rw [hwd]; exact (Below.refl _ _).drew)
        rw [← hwd] at hHeld ⊢
        clear hwd
        refine tk 0 (oi := ⟨some 59, _, _, _, _, _⟩) rfl ?_
        refine tk 1 (oi := ⟨some 60, _, _, _, _, _⟩) rfl ?_
        refine tk 2 (oi := ⟨some 61, _, _, _, _, _⟩) rfl ?_
        refine tk 3 (oi := ⟨some 62, _, _, _, _, _⟩) rfl ?_
        refine sk 4 (oi := ⟨some 63, _, _, _, _, _⟩) rfl ?_
        refine sk 5 (oi := ⟨some 64, _, _, _, _, _⟩) rfl ?_
        refine sk 6 (oi := ⟨some 65, _, _, _, _, _⟩) rfl ?_
        refine tk 7 (oi := ⟨some 66, _, _, _, _, _⟩) rfl ?_
        refine tk 8 (oi := ⟨some 67, _, _, _, _, _⟩) rfl ?_
        refine tk 9 (oi := ⟨some 68, _, _, _, _, _⟩) rfl ?_
        refine tk 10 (oi := ⟨some 69, _, _, _, _, _⟩) rfl ?_
        refine tk 11 (oi := ⟨some 70, _, _, _, _, _⟩) rfl ?_
        refine tk 12 (oi := ⟨some 71, _, _, _, _, _⟩) rfl ?_
        refine tk 13 (oi := ⟨some 72, _, _, _, _, _⟩) rfl ?_
        refine tk 14 (oi := ⟨some 73, _, _, _, _, _⟩) rfl ?_
        refine tk 15 (oi := ⟨some 74, _, _, _, _, _⟩) rfl ?_
        refine tk 16 (oi := ⟨some 75, _, _, _, _, _⟩) rfl ?_
        refine tk 17 (oi := ⟨some 76, _, _, _, _, _⟩) rfl ?_
        refine tk 18 (oi := ⟨some 77, _, _, _, _, _⟩) rfl ?_
        refine tk 19 (oi := ⟨some 78, _, _, _, _, _⟩) rfl ?_
        refine tk 20 (oi := ⟨some 79, _, _, _, _, _⟩) rfl ?_
        refine tk 21 (oi := ⟨some 80, _, _, _, _, _⟩) rfl ?_
        refine tk 22 (oi := ⟨some 81, _, _, _, _, _⟩) rfl ?_
        refine tk 23 (oi := ⟨some 82, _, _, _, _, _⟩) rfl ?_
        refine tk 24 (oi := ⟨some 83, _, _, _, _, _⟩) rfl ?_
        refine tk 25 (oi := ⟨some 84, _, _, _, _, _⟩) rfl ?_
        refine tk 26 (oi := ⟨some 85, _, _, _, _, _⟩) rfl ?_
        refine tk 27 (oi := ⟨some 86, _, _, _, _, _⟩) rfl ?_
        refine tk 28 (oi := ⟨some 87, _, _, _, _, _⟩) rfl ?_
        refine tk 29 (oi := ⟨some 88, _, _, _, _, _⟩) rfl ?_
        refine tk 30 (oi := ⟨some 89, _, _, _, _, _⟩) rfl ?_
        refine tk 31 (oi := ⟨some 90, _, _, _, _, _⟩) rfl ?_
        refine tk 32 (oi := ⟨some 91, _, _, _, _, _⟩) rfl ?_
        refine wpAnyH_ready (rs := [33]) (by kernel_rfl) (by simp) ?_; refine AllReadyH.cons (o := ⟨some 92, _, _, _, _, _⟩) rfl (fun K hK => ?_) AllReadyH.nil
        go_simp
        refine (sev_at wd _ _ e e _ _ _ _ true (by simp) (ev_below E5.out GD.out) (ev_below HX'.out GD.out)).mono ?_
        rintro r w5 ⟨rfl, hb5⟩
        have G5 := Lib.hid (Below.on' GD.out (Nat.le_refl _) hb5)
        refine hK.out _ _ (KE.out _ G5.out) (fun hHeld => ?_)
        clear hK K hb5
        (try simp only [Act.put, List.setIfInBounds_toArray, List.set_cons_zero, List.set_cons_succ])
        refine tk 34 (oi := ⟨some 93, _, _, _, _, _⟩) rfl ?_
        refine tk 35 (oi := ⟨some 94, _, _, _, _, _⟩) rfl ?_
        refine wpAnyH_done (by kernel_rfl) ?_ _
        clear hHeld
        have I6 := Lib.hid (I5.out.below G5.out)
        have be := BE.out.below G5.out
        have e0 := be.cell 0
        have e1 := be.cell 1
        have bq := I6.out.2.cell 0
        have fq := I6.out.2.free 0
        simp only [List.getElem?_toArray, List.getElem?_cons_zero, List.getElem?_cons_succ] at e0 e1 bq
        rw [hn] at bq
        have BE6 := Lib.hid be
        have NX := Lib.hid (I6.out.next0 hgl HE.out)
        clear be I5 E5 G5 GD KE HCE HX' K5 BE nd n0 n1
        by_cases hk4 : e.kind = 4
        · have q4 : (e.kind != 4) = false := by simp [hk4]
          have HK4 := Lib.hid hk4
          clear hk4
          go_wp2_with fail
          obtain ⟨W6, hW6⟩ : ∃ W, W = w5.setCell ⟨gn, 0, none⟩ (.int .i64 ((n : Int) + 1)) := ⟨_, rfl⟩
          have I7 : Hid (ExI w3 gn l (j + 1) W6) := Lib.hid (by have := NX.out; rw [hn] at this; rw [hW6]; exact this)
          have F6 : Hid (Frm (· = gn) w5 W6) := Lib.hid (by rw [hW6]; exact (Frm.refl _ _).setg _)
          have BE7 : Hid (Blk W6 gE #[.int .i64 0, .int .i64 e.kind, .int .i64 e.n, .slice X1 e.data.length z1_, .int .i64 e.pk.kind, .int .i64 e.pk.path, .int .i64 e.pk.number, .int .i64 e.pk.of_, .int .i64 e.pk.from_, .slice Y1 e.pk.data.length z2_, .bool e.pk.fin, .int .i64 e.pk.seen, .int .i64 e.pk.limit] 52) := Lib.hid (BE6.out.frm F6.out (by exact hgng))
          rw [← hW6]
          clear hW6 NX e0 e1 bq fq iwn I6
          go_loopw [13, 109] (fun f i wr => ∃ m : Nat, m ≤ j ∧ i = .int .i64 m ∧ f = .bool (fndP l 0 e.pk m) ∧ Below W6.heap.size W6 wr) (fun _ i _ => j - (intOf i).toNat)
          case atStart => exact ⟨0, Nat.zero_le _, rfl, rfl, Below.refl _ _⟩
          case round =>
            obtain ⟨m, hm, rfl, rfl, hbm⟩ := hrel
            have KM := Lib.hid hbm
            clear hbm
            by_cases hmj : m < j
            · have m0 : (0 : Int) ≤ (m : Int) := by omega
              have m1 : (m : Int) < (j : Int) := by omega
              have iwm : IntKind.i64.wrap ((m : Int) + 1) = (m : Int) + 1 := IntWalk.i64_in _ ⟨by omega, by omega⟩
              obtain ⟨ad3, q2, e2, x, y, ea3, he2, hx, hce⟩ := NRow.ev (NR.out.below (Below.on' I7.out.1 (Nat.le_refl _) KM.out)) (show m < l.length by omega)
              injection ea3 with ea3
              subst ea3
              obtain ⟨b0, b1_, b2, b3, b4, b5, b6, b7, b8, b9, b10, b11, b12⟩ := hce
              obtain ⟨X3, z5_, rfl, _⟩ := hx.1.len
              obtain ⟨Y3, z6_, rfl, _⟩ := hx.2.len
              have HX3 : Hid (EV wr D e2 (.slice X3 e2.data.length z5_, .slice Y3 e2.pk.data.length z6_)) := Lib.hid hx
              have FS := Lib.hid (fndP_succ l 0 e.pk m (q2, e2) he2)
              obtain ⟨gI, hgI⟩ : ∃ g, g = wr.heap.size := ⟨_, rfl⟩
              obtain ⟨W8, hW8⟩ : ∃ W, W = wr.alloc (.cells #[.int .i64 q2, .int .i64 e2.kind, .int .i64 e2.n, .slice X3 e2.data.length z5_, .int .i64 e2.pk.kind, .int .i64 e2.pk.path, .int .i64 e2.pk.number, .int .i64 e2.pk.of_, .int .i64 e2.pk.from_, .slice Y3 e2.pk.data.length z6_, .bool e2.pk.fin, .int .i64 e2.pk.seen, .int .i64 e2.pk.limit] 52) := ⟨_, rfl⟩
              have K8 : Hid (Below wr.heap.size wr W8) := Lib.hid (by rw [hW8]; exact (Below.refl _ _).alloc (Nat.le_refl _) _)
              have BI : Hid (Blk W8 gI #[.int .i64 q2, .int .i64 e2.kind, .int .i64 e2.n, .slice X3 e2.data.length z5_, .int .i64 e2.pk.kind, .int .i64 e2.pk.path, .int .i64 e2.pk.number, .int .i64 e2.pk.of_, .int .i64 e2.pk.from_, .slice Y3 e2.pk.data.length z6_, .bool e2.pk.fin, .int .i64 e2.pk.seen, .int .i64 e2.pk.limit] 52) := Lib.hid (by rw [hW8, hgI]; exact Blk.new _ _ _)
              have K9 := Lib.hid (Below.on' KM.out (Nat.le_refl _) K8.out)
              have be := BE7.out.below K9.out
              have bi := BI.out
              have e0 := be.cell 0
              have d0 := bi.cell 0
              have e1 := be.cell 1
              have d1 := bi.cell 1
              have e4 := be.cell 4
              have d4 := bi.cell 4
              have e5 := be.cell 5
              have d5 := bi.cell 5
              have e6 := be.cell 6
              have d6 := bi.cell 6
              have e7 := be.cell 7
              have d7 := bi.cell 7
              have e8 := be.cell 8
              have d8 := bi.cell 8
              have e9 := be.cell 9
              have d9 := bi.cell 9
              have e10 := be.cell 10
              have d10 := bi.cell 10
              have e11 := be.cell 11
              have d11 := bi.cell 11
              have e12 := be.cell 12
              have d12 := bi.cell 12
              simp only [List.getElem?_toArray, List.getElem?_cons_zero, List.getElem?_cons_succ] at e0 e1 e4 e5 e6 e7 e8 e9 e10 e11 e12 d0 d1 d4 d5 d6 d7 d8 d9 d10 d11 d12
              have hW8' := hW8.symm
              have hgI' := hgI.symm
              obtain ⟨Fd, hFd⟩ : ∃ F, fndP l 0 e.pk m = F := ⟨_, rfl⟩
              obtain ⟨c1_, hc1⟩ : ∃ b, (q2 != 0) = b := ⟨_, rfl⟩
              obtain ⟨c2_, hc2⟩ : ∃ b, (e2.kind == 5) = b := ⟨_, rfl⟩
              obtain ⟨c3_, hc3⟩ : ∃ b, decide (e2.pk = e.pk) = b := ⟨_, rfl⟩
              have FM : Hid (fndP l 0 e.pk (m + 1) = (Fd || (c1_ && c2_ && c3_))) := Lib.hid (by rw [FS.out, hFd, ← hc1, ← hc2, ← hc3])
              have H3 := Lib.hid hc3
              have EX := Lib.hid (ev_below HX3.out K8.out)
              have EY := Lib.hid (ev_below (ev_below HX.out I7.out.1) K9.out)
              rw [hFd]
              clear hx he2 be bi FS hFd hW8 hgI hc3
              cases Fd
              · cases c1_
                · go_wp2_with fail
                  go_roundw
                  case rel => exact ⟨m + 1, by omega, by go_num, by rw [FM.out]; rfl, K9.out⟩
                  case measure => simp [intOf]; omega
                · cases c2_
                  · go_wp2_with fail
                    go_roundw
                    case rel => exact ⟨m + 1, by omega, by go_num, by rw [FM.out]; rfl, K9.out⟩
                    case measure => simp [intOf]; omega
                  · go_wp2_with fail
                    refine (rsame_at W8 _ _ e2.pk e.pk _ _ c3_ H3.out EX.out.2 EY.out.2).mono ?_
                    rintro r w9 ⟨rfl, hb9⟩
                    have K10 := Lib.hid (Below.on' K9.out (Nat.le_refl _) hb9)
                    clear hb9
                    go_wp2_with fail
                    go_roundw
                    case rel => exact ⟨m + 1, by omega, by go_num, by rw [FM.out]; cases c3_ <;> rfl, K10.out⟩
                    case measure => simp [intOf]; omega
              · go_wp2_with fail
                go_roundw
                case rel => exact ⟨m + 1, by omega, by go_num, by rw [FM.out]; rfl, K9.out⟩
                case measure => simp [intOf]; omega
            · have m1 : ¬ (m : Int) < (j : Int) := by omega
              obtain rfl : m = j := by omega
              have hf := fndP_caus RR.out.c RR.out.t HE.out HK4.out
              rw [hf]
              clear hf
              go_wp2_with fail
              go_roundw
              case rel => exact ⟨m + 1, hjl, by go_num, I7.out.below KM.out⟩
              case measure => simp [intOf]; omega
        · have q4 : (e.kind != 4) = true := by simpa using hk4
          clear hk4
          go_wp2_with fail
          go_roundw
          case rel => exact ⟨j + 1, hjl, by go_num, by have := NX.out; rw [hn] at this; exact this⟩
          case measure => simp [intOf]; omega
      · obtain ⟨n, hn⟩ : ∃ n, (only 1 (l.take j)).length = n := ⟨_, rfl⟩
        have hat := (right_at RR.out (j := j) (e := e)).2 he
        rw [hn] at hat
        have hnl : n < b1.length := (List.getElem?_eq_some_iff.1 hat).1
        have n0 : (0 : Int) ≤ (n : Int) := by omega
        have n1 : (n : Int) < (b1.length : Int) := by omega
        have nd : decide (b1.length ≤ n) = false := decide_eq_false (by omega)
        have iwn : IntKind.i64.wrap ((n : Int) + 1) = (n : Int) + 1 := IntWalk.i64_in _ ⟨by omega, by omega⟩
        have HE := Lib.hid he
        obtain ⟨gE, hgE⟩ : ∃ g, g = wr.heap.size := ⟨_, rfl⟩
        obtain ⟨W5, hW5⟩ : ∃ W, W = wr.alloc (.cells #[.int .i64 1, .int .i64 e.kind, .int .i64 e.n, .slice X1 e.data.length z1_, .int .i64 e.pk.kind, .int .i64 e.pk.path, .int .i64 e.pk.number, .int .i64 e.pk.of_, .int .i64 e.pk.from_, .slice Y1 e.pk.data.length z2_, .bool e.pk.fin, .int .i64 e.pk.seen, .int .i64 e.pk.limit] 52) := ⟨_, rfl⟩
        have K5 : Hid (Below wr.heap.size wr W5) := Lib.hid (by rw [hW5]; exact (Below.refl _ _).alloc (Nat.le_refl _) _)
        have BE : Hid (Blk W5 gE #[.int .i64 1, .int .i64 e.kind, .int .i64 e.n, .slice X1 e.data.length z1_, .int .i64 e.pk.kind, .int .i64 e.pk.path, .int .i64 e.pk.number, .int .i64 e.pk.of_, .int .i64 e.pk.from_, .slice Y1 e.pk.data.length z2_, .bool e.pk.fin, .int .i64 e.pk.seen, .int .i64 e.pk.limit] 52) := Lib.hid (by rw [hW5, hgE]; exact Blk.new _ _ _)
        have I5 := Lib.hid (HI.out.below K5.out)
        have E5 := Lib.hid (ev_below HX.out I5.out.1)
        have hgng : gE ≠ gn := by have := HI.out.2.lt; omega
        have hW5' := hW5.symm
        have hgE' := hgE.symm
        clear he hW5 hgE
        go_wp2_with fail
        clear hW5' hgE' a0_ a1_ a2 a3 a4 a5 a6 a7 a8 a9 a10 a11 a12
        obtain ⟨bd, e', x, y, rfl, he', hx', hce⟩ := ERow.ev (F1.out.below I5.out.1) hnl
        obtain rfl : e = e' := by rw [he'] at hat; exact ((Option.some.injEq _ _).mp hat).symm
        obtain ⟨X2, z3_, rfl, _⟩ := hx'.1.len
        obtain ⟨Y2, z4_, rfl, _⟩ := hx'.2.len
        have HX' : Hid (EV W5 S e (.slice X2 e.data.length z3_, .slice Y2 e.pk.data.length z4_)) := Lib.hid hx'
        have HCE := Lib.hid hce
        clear hx' hce he' hat
        have KE : Hid (∀ w', Below W5.heap.size W5 w' → (w'.cell? ⟨gE, 0, none⟩ = some (.int .i64 1) ∧ w'.cell? ⟨gE, 1, none⟩ = some (.int .i64 e.kind) ∧ w'.cell? ⟨gE, 2, none⟩ = some (.int .i64 e.n) ∧ w'.cell? ⟨gE, 3, none⟩ = some (.slice X1 e.data.length z1_) ∧ w'.cell? ⟨gE, 4, none⟩ = some (.int .i64 e.pk.kind) ∧ w'.cell? ⟨gE, 5, none⟩ = some (.int .i64 e.pk.path) ∧ w'.cell? ⟨gE, 6, none⟩ = some (.int .i64 e.pk.number) ∧ w'.cell? ⟨gE, 7, none⟩ = some (.int .i64 e.pk.of_) ∧ w'.cell? ⟨gE, 8, none⟩ = some (.int .i64 e.pk.from_) ∧ w'.cell? ⟨gE, 9, none⟩ = some (.slice Y1 e.pk.data.length z2_) ∧ w'.cell? ⟨gE, 10, none⟩ = some (.bool e.pk.fin) ∧ w'.cell? ⟨gE, 11, none⟩ = some (.int .i64 e.pk.seen) ∧ w'.cell? ⟨gE, 12, none⟩ = some (.int .i64 e.pk.limit) ∧ w'.cell? ⟨gn, 1, none⟩ = some (.int .i64 (n : Int)) ∧ w'.cell? ⟨gx, 1, none⟩ = some (.slice (some bd) b1.length c1) ∧ w'.cell? (bd.add (n * 12)) = some (.int .i64 e.kind) ∧ w'.cell? ⟨(bd.add (n * 12)).block, (bd.add (n * 12)).off + 1, none⟩ = some (.int .i64 e.n) ∧ w'.cell? ⟨(bd.add (n * 12)).block, (bd.add (n * 12)).off + 2, none⟩ = some (.slice X2 e.data.length z3_) ∧ w'.cell? ⟨(bd.add (n * 12)).block, (bd.add (n * 12)).off + 3, none⟩ = some (.int .i64 e.pk.kind) ∧ w'.cell? ⟨(bd.add (n * 12)).block, (bd.add (n * 12)).off + 4, none⟩ = some (.int .i64 e.pk.path) ∧ w'.cell? ⟨(bd.add (n * 12)).block, (bd.add (n * 12)).off + 5, none⟩ = some (.int .i64 e.pk.number) ∧ w'.cell? ⟨(bd.add (n * 12)).block, (bd.add (n * 12)).off + 6, none⟩ = some (.int .i64 e.pk.of_) ∧ w'.cell? ⟨(bd.add (n * 12)).block, (bd.add (n * 12)).off + 7, none⟩ = some (.int .i64 e.pk.from_) ∧ w'.cell? ⟨(bd.add (n * 12)).block, (bd.add (n * 12)).off + 8, none⟩ = some (.slice Y2 e.pk.data.length z4_) ∧ w'.cell? ⟨(bd.add (n * 12)).block, (bd.add (n * 12)).off + 9, none⟩ = some (.bool e.pk.fin) ∧ w'.cell? ⟨(bd.add (n * 12)).block, (bd.add (n * 12)).off + 10, none⟩ = some (.int .i64 e.pk.seen) ∧ w'.cell? ⟨(bd.add (n * 12)).block, (bd.add (n * 12)).off + 11, none⟩ = some (.int .i64 e.pk.limit))) := Lib.hid (fun W hW => by
          have bx := (BX3.out.below I5.out.1).below hW
          have be := BE.out.below hW
          have bn := (I5.out.below hW).2.cell 1
          simp only [List.getElem?_toArray, List.getElem?_cons_zero, List.getElem?_cons_succ] at bn
          rw [hn] at bn
          exact ⟨be.cell 0, be.cell 1, be.cell 2, be.cell 3, be.cell 4, be.cell 5, be.cell 6, be.cell 7, be.cell 8, be.cell 9, be.cell 10, be.cell 11, be.cell 12, bn, bx.cell 1, HCE.out.below hW⟩)
        refine wp_region_held_drew (S := fun w' => w'.cell? ⟨gE, 0, none⟩ = some (.int .i64 1) ∧ w'.cell? ⟨gE, 1, none⟩ = some (.int .i64 e.kind) ∧ w'.cell? ⟨gE, 2, none⟩ = some (.int .i64 e.n) ∧ w'.cell? ⟨gE, 3, none⟩ = some (.slice X1 e.data.length z1_) ∧ w'.cell? ⟨gE, 4, none⟩ = some (.int .i64 e.pk.kind) ∧ w'.cell? ⟨gE, 5, none⟩ = some (.int .i64 e.pk.path) ∧ w'.cell? ⟨gE, 6, none⟩ = some (.int .i64 e.pk.number) ∧ w'.cell? ⟨gE, 7, none⟩ = some (.int .i64 e.pk.of_) ∧ w'.cell? ⟨gE, 8, none⟩ = some (.int .i64 e.pk.from_) ∧ w'.cell? ⟨gE, 9, none⟩ = some (.slice Y1 e.pk.data.length z2_) ∧ w'.cell? ⟨gE, 10, none⟩ = some (.bool e.pk.fin) ∧ w'.cell? ⟨gE, 11, none⟩ = some (.int .i64 e.pk.seen) ∧ w'.cell? ⟨gE, 12, none⟩ = some (.int .i64 e.pk.limit) ∧ w'.cell? ⟨gn, 1, none⟩ = some (.int .i64 (n : Int)) ∧ w'.cell? ⟨gx, 1, none⟩ = some (.slice (some bd) b1.length c1) ∧ w'.cell? (bd.add (n * 12)) = some (.int .i64 e.kind) ∧ w'.cell? ⟨(bd.add (n * 12)).block, (bd.add (n * 12)).off + 1, none⟩ = some (.int .i64 e.n) ∧ w'.cell? ⟨(bd.add (n * 12)).block, (bd.add (n * 12)).off + 2, none⟩ = some (.slice X2 e.data.length z3_) ∧ w'.cell? ⟨(bd.add (n * 12)).block, (bd.add (n * 12)).off + 3, none⟩ = some (.int .i64 e.pk.kind) ∧ w'.cell? ⟨(bd.add (n * 12)).block, (bd.add (n * 12)).off + 4, none⟩ = some (.int .i64 e.pk.path) ∧ w'.cell? ⟨(bd.add (n * 12)).block, (bd.add (n * 12)).off + 5, none⟩ = some (.int .i64 e.pk.number) ∧ w'.cell? ⟨(bd.add (n * 12)).block, (bd.add (n * 12)).off + 6, none⟩ = some (.int .i64 e.pk.of_) ∧ w'.cell? ⟨(bd.add (n * 12)).block, (bd.add (n * 12)).off + 7, none⟩ = some (.int .i64 e.pk.from_) ∧ w'.cell? ⟨(bd.add (n * 12)).block, (bd.add (n * 12)).off + 8, none⟩ = some (.slice Y2 e.pk.data.length z4_) ∧ w'.cell? ⟨(bd.add (n * 12)).block, (bd.add (n * 12)).off + 9, none⟩ = some (.bool e.pk.fin) ∧ w'.cell? ⟨(bd.add (n * 12)).block, (bd.add (n * 12)).off + 10, none⟩ = some (.int .i64 e.pk.seen) ∧ w'.cell? ⟨(bd.add (n * 12)).block, (bd.add (n * 12)).off + 11, none⟩ = some (.int .i64 e.pk.limit)) (by kernel_rfl) (KE.out _ (Below.refl _ _).drew) (fun hHeld => ?_)
        obtain ⟨wd, hwd⟩ : ∃ W, W = W5.drew := ⟨_, rfl⟩
        have GD : Hid (Below W5.heap.size W5 wd) := Lib.hid (by rw [hwd]; exact (Below.refl _ _).drew)
        rw [← hwd] at hHeld ⊢
        clear hwd
        refine tk 0 (oi := ⟨some 59, _, _, _, _, _⟩) rfl ?_
        refine tk 1 (oi := ⟨some 60, _, _, _, _, _⟩) rfl ?_
        refine tk 2 (oi := ⟨some 61, _, _, _, _, _⟩) rfl ?_
        refine tk 3 (oi := ⟨some 62, _, _, _, _, _⟩) rfl ?_
        refine tk 4 (oi := ⟨some 63, _, _, _, _, _⟩) rfl ?_
        refine tk 5 (oi := ⟨some 64, _, _, _, _, _⟩) rfl ?_
        refine tk 6 (oi := ⟨some 65, _, _, _, _, _⟩) rfl ?_
        refine tk 7 (oi := ⟨some 66, _, _, _, _, _⟩) rfl ?_
        refine tk 8 (oi := ⟨some 67, _, _, _, _, _⟩) rfl ?_
        refine tk 9 (oi := ⟨some 68, _, _, _, _, _⟩) rfl ?_
        refine tk 10 (oi := ⟨some 69, _, _, _, _, _⟩) rfl ?_
        refine tk 11 (oi := ⟨some 70, _, _, _, _, _⟩) rfl ?_
        refine tk 12 (oi := ⟨some 71, _, _, _, _, _⟩) rfl ?_
        refine tk 13 (oi := ⟨some 72, _, _, _, _, _⟩) rfl ?_
        refine tk 14 (oi := ⟨some 73, _, _, _, _, _⟩) rfl ?_
        refine tk 15 (oi := ⟨some 74, _, _, _, _, _⟩) rfl ?_
        refine tk 16 (oi := ⟨some 75, _, _, _, _, _⟩) rfl ?_
        refine tk 17 (oi := ⟨some 76, _, _, _, _, _⟩) rfl ?_
        refine tk 18 (oi := ⟨some 77, _, _, _, _, _⟩) rfl ?_
        refine tk 19 (oi := ⟨some 78, _, _, _, _, _⟩) rfl ?_
        refine tk 20 (oi := ⟨some 79, _, _, _, _, _⟩) rfl ?_
        refine tk 21 (oi := ⟨some 80, _, _, _, _, _⟩) rfl ?_
        refine tk 22 (oi := ⟨some 81, _, _, _, _, _⟩) rfl ?_
        refine tk 23 (oi := ⟨some 82, _, _, _, _, _⟩) rfl ?_
        refine tk 24 (oi := ⟨some 83, _, _, _, _, _⟩) rfl ?_
        refine tk 25 (oi := ⟨some 84, _, _, _, _, _⟩) rfl ?_
        refine tk 26 (oi := ⟨some 85, _, _, _, _, _⟩) rfl ?_
        refine tk 27 (oi := ⟨some 86, _, _, _, _, _⟩) rfl ?_
        refine tk 28 (oi := ⟨some 87, _, _, _, _, _⟩) rfl ?_
        refine tk 29 (oi := ⟨some 88, _, _, _, _, _⟩) rfl ?_
        refine tk 30 (oi := ⟨some 89, _, _, _, _, _⟩) rfl ?_
        refine tk 31 (oi := ⟨some 90, _, _, _, _, _⟩) rfl ?_
        refine tk 32 (oi := ⟨some 91, _, _, _, _, _⟩) rfl ?_
        refine wpAnyH_ready (rs := [33]) (by kernel_rfl) (by simp) ?_; refine AllReadyH.cons (o := ⟨some 92, _, _, _, _, _⟩) rfl (fun K hK => ?_) AllReadyH.nil
        go_simp
        refine (sev_at wd _ _ e e _ _ _ _ true (by simp) (ev_below E5.out GD.out) (ev_below HX'.out GD.out)).mono ?_
        rintro r w5 ⟨rfl, hb5⟩
        have G5 := Lib.hid (Below.on' GD.out (Nat.le_refl _) hb5)
        refine hK.out _ _ (KE.out _ G5.out) (fun hHeld => ?_)
        clear hK K hb5
        (try simp only [Act.put, List.setIfInBounds_toArray, List.set_cons_zero, List.set_cons_succ])
        refine tk 34 (oi := ⟨some 93, _, _, _, _, _⟩) rfl ?_
        refine tk 35 (oi := ⟨some 94, _, _, _, _, _⟩) rfl ?_
        refine wpAnyH_done (by kernel_rfl) ?_ _
        clear hHeld
        have I6 := Lib.hid (I5.out.below G5.out)
        have be := BE.out.below G5.out
        have e0 := be.cell 0
        have e1 := be.cell 1
        have bq := I6.out.2.cell 1
        have fq := I6.out.2.free 1
        simp only [List.getElem?_toArray, List.getElem?_cons_zero, List.getElem?_cons_succ] at e0 e1 bq
        rw [hn] at bq
        have BE6 := Lib.hid be
        have NX := Lib.hid (I6.out.next1 hgl HE.out)
        clear be I5 E5 G5 GD KE HCE HX' K5 BE nd n0 n1
        by_cases hk4 : e.kind = 4
        · have q4 : (e.kind != 4) = false := by simp [hk4]
          have HK4 := Lib.hid hk4
          clear hk4
          go_wp2_with fail
          obtain ⟨W6, hW6⟩ : ∃ W, W = w5.setCell ⟨gn, 1, none⟩ (.int .i64 ((n : Int) + 1)) := ⟨_, rfl⟩
          have I7 : Hid (ExI w3 gn l (j + 1) W6) := Lib.hid (by have := NX.out; rw [hn] at this; rw [hW6]; exact this)
          have F6 : Hid (Frm (· = gn) w5 W6) := Lib.hid (by rw [hW6]; exact (Frm.refl _ _).setg _)
          have BE7 : Hid (Blk W6 gE #[.int .i64 1, .int .i64 e.kind, .int .i64 e.n, .slice X1 e.data.length z1_, .int .i64 e.pk.kind, .int .i64 e.pk.path, .int .i64 e.pk.number, .int .i64 e.pk.of_, .int .i64 e.pk.from_, .slice Y1 e.pk.data.length z2_, .bool e.pk.fin, .int .i64 e.pk.seen, .int .i64 e.pk.limit] 52) := Lib.hid (BE6.out.frm F6.out (by exact hgng))
          rw [← hW6]
          clear hW6 NX e0 e1 bq fq iwn I6
          go_loopw [13, 109] (fun f i wr => ∃ m : Nat, m ≤ j ∧ i = .int .i64 m ∧ f = .bool (fndP l 1 e.pk m) ∧ Below W6.heap.size W6 wr) (fun _ i _ => j - (intOf i).toNat)
          case atStart => exact ⟨0, Nat.zero_le _, rfl, rfl, Below.refl _ _⟩
          case round =>
            obtain ⟨m, hm, rfl, rfl, hbm⟩ := hrel
            have KM := Lib.hid hbm
            clear hbm
            by_cases hmj : m < j
            · have m0 : (0 : Int) ≤ (m : Int) := by omega
              have m1 : (m : Int) < (j : Int) := by omega
              have iwm : IntKind.i64.wrap ((m : Int) + 1) = (m : Int) + 1 := IntWalk.i64_in _ ⟨by omega, by omega⟩
              obtain ⟨ad3, q2, e2, x, y, ea3, he2, hx, hce⟩ := NRow.ev (NR.out.below (Below.on' I7.out.1 (Nat.le_refl _) KM.out)) (show m < l.length by omega)
              injection ea3 with ea3
              subst ea3
              obtain ⟨b0, b1_, b2, b3, b4, b5, b6, b7, b8, b9, b10, b11, b12⟩ := hce
              obtain ⟨X3, z5_, rfl, _⟩ := hx.1.len
              obtain ⟨Y3, z6_, rfl, _⟩ := hx.2.len
              have HX3 : Hid (EV wr D e2 (.slice X3 e2.data.length z5_, .slice Y3 e2.pk.data.length z6_)) := Lib.hid hx
              have FS := Lib.hid (fndP_succ l 1 e.pk m (q2, e2) he2)
              obtain ⟨gI, hgI⟩ : ∃ g, g = wr.heap.size := ⟨_, rfl⟩
              obtain ⟨W8, hW8⟩ : ∃ W, W = wr.alloc (.cells #[.int .i64 q2, .int .i64 e2.kind, .int .i64 e2.n, .slice X3 e2.data.length z5_, .int .i64 e2.pk.kind, .int .i64 e2.pk.path, .int .i64 e2.pk.number, .int .i64 e2.pk.of_, .int .i64 e2.pk.from_, .slice Y3 e2.pk.data.length z6_, .bool e2.pk.fin, .int .i64 e2.pk.seen, .int .i64 e2.pk.limit] 52) := ⟨_, rfl⟩
              have K8 : Hid (Below wr.heap.size wr W8) := Lib.hid (by rw [hW8]; exact (Below.refl _ _).alloc (Nat.le_refl _) _)
              have BI : Hid (Blk W8 gI #[.int .i64 q2, .int .i64 e2.kind, .int .i64 e2.n, .slice X3 e2.data.length z5_, .int .i64 e2.pk.kind, .int .i64 e2.pk.path, .int .i64 e2.pk.number, .int .i64 e2.pk.of_, .int .i64 e2.pk.from_, .slice Y3 e2.pk.data.length z6_, .bool e2.pk.fin, .int .i64 e2.pk.seen, .int .i64 e2.pk.limit] 52) := Lib.hid (by rw [hW8, hgI]; exact Blk.new _ _ _)
              have K9 := Lib.hid (Below.on' KM.out (Nat.le_refl _) K8.out)
              have be := BE7.out.below K9.out
              have bi := BI.out
              have e0 := be.cell 0
              have d0 := bi.cell 0
              have e1 := be.cell 1
              have d1 := bi.cell 1
              have e4 := be.cell 4
              have d4 := bi.cell 4
              have e5 := be.cell 5
              have d5 := bi.cell 5
              have e6 := be.cell 6
              have d6 := bi.cell 6
              have e7 := be.cell 7
              have d7 := bi.cell 7
              have e8 := be.cell 8
              have d8 := bi.cell 8
              have e9 := be.cell 9
              have d9 := bi.cell 9
              have e10 := be.cell 10
              have d10 := bi.cell 10
              have e11 := be.cell 11
              have d11 := bi.cell 11
              have e12 := be.cell 12
              have d12 := bi.cell 12
              simp only [List.getElem?_toArray, List.getElem?_cons_zero, List.getElem?_cons_succ] at e0 e1 e4 e5 e6 e7 e8 e9 e10 e11 e12 d0 d1 d4 d5 d6 d7 d8 d9 d10 d11 d12
              have hW8' := hW8.symm
              have hgI' := hgI.symm
              obtain ⟨Fd, hFd⟩ : ∃ F, fndP l 1 e.pk m = F := ⟨_, rfl⟩
              obtain ⟨c1_, hc1⟩ : ∃ b, (q2 != 1) = b := ⟨_, rfl⟩
              obtain ⟨c2_, hc2⟩ : ∃ b, (e2.kind == 5) = b := ⟨_, rfl⟩
              obtain ⟨c3_, hc3⟩ : ∃ b, decide (e2.pk = e.pk) = b := ⟨_, rfl⟩
              have FM : Hid (fndP l 1 e.pk (m + 1) = (Fd || (c1_ && c2_ && c3_))) := Lib.hid (by rw [FS.out, hFd, ← hc1, ← hc2, ← hc3])
              have H3 := Lib.hid hc3
              have EX := Lib.hid (ev_below HX3.out K8.out)
              have EY := Lib.hid (ev_below (ev_below HX.out I7.out.1) K9.out)
              rw [hFd]
              clear hx he2 be bi FS hFd hW8 hgI hc3
              cases Fd
              · cases c1_
                · go_wp2_with fail
                  go_roundw
                  case rel => exact ⟨m + 1, by omega, by go_num, by rw [FM.out]; rfl, K9.out⟩
                  case measure => simp [intOf]; omega
                · cases c2_
                  · go_wp2_with fail
                    go_roundw
                    case rel => exact ⟨m + 1, by omega, by go_num, by rw [FM.out]; rfl, K9.out⟩
                    case measure => simp [intOf]; omega
                  · go_wp2_with fail
                    refine (rsame_at W8 _ _ e2.pk e.pk _ _ c3_ H3.out EX.out.2 EY.out.2).mono ?_
                    rintro r w9 ⟨rfl, hb9⟩
                    have K10 := Lib.hid (Below.on' K9.out (Nat.le_refl _) hb9)
                    clear hb9
                    go_wp2_with fail
                    go_roundw
                    case rel => exact ⟨m + 1, by omega, by go_num, by rw [FM.out]; cases c3_ <;> rfl, K10.out⟩
                    case measure => simp [intOf]; omega
              · go_wp2_with fail
                go_roundw
                case rel => exact ⟨m + 1, by omega, by go_num, by rw [FM.out]; rfl, K9.out⟩
                case measure => simp [intOf]; omega
            · have m1 : ¬ (m : Int) < (j : Int) := by omega
              obtain rfl : m = j := by omega
              have hf := fndP_caus RR.out.c RR.out.t HE.out HK4.out
              rw [hf]
              clear hf
              go_wp2_with fail
              go_roundw
              case rel => exact ⟨m + 1, hjl, by go_num, I7.out.below KM.out⟩
              case measure => simp [intOf]; omega
        · have q4 : (e.kind != 4) = true := by simpa using hk4
          clear hk4
          go_wp2_with fail
          go_roundw
          case rel => exact ⟨j + 1, hjl, by go_num, by have := NX.out; rw [hn] at this; exact this⟩
          case measure => simp [intOf]; omega
    · have j1 : ¬ (j : Int) < (l.length : Int) := by omega
      have NR3 := Lib.hid (NR.out.below HI.out.1)
      have BX5 := Lib.hid (BX3.out.below HI.out.1)
      have E0 := Lib.hid (F0.out.below HI.out.1)
      have E1 := Lib.hid (F1.out.below HI.out.1)
      have B5 := Lib.hid (Below.on' B4.out (Nat.le_refl _) HI.out.1)
      have R0 := RR.out.o0
      have R1 := RR.out.o1
      have R2 := only_two RR.out.t
      have KE : Hid (∀ w', Below wr.heap.size wr w' → (w'.cell? ⟨gx, 0, none⟩ = some (.slice A0 a1.length c0) ∧ w'.cell? ⟨gx, 1, none⟩ = some (.slice A1 b1.length c1))) := Lib.hid (fun W hW => ⟨(BX5.out.below hW).cell 0, (BX5.out.below hW).cell 1⟩)
      clear HI BX3 F0 F1 B4 NR
      go_wp2_with fail
      refine wp_region_held_drew (S := fun w' => w'.cell? ⟨gx, 0, none⟩ = some (.slice A0 a1.length c0) ∧ w'.cell? ⟨gx, 1, none⟩ = some (.slice A1 b1.length c1)) (by kernel_rfl) (KE.out _ (Below.refl _ _).drew) (fun hHeld => ?_)
      obtain ⟨wd, hwd⟩ : ∃ W, W = wr.drew := ⟨_, rfl⟩
      have GD : Hid (Below wr.heap.size wr wd) := Lib.hid (by rw [hwd]; exact (Below.refl _ _).drew)
      rw [← hwd] at hHeld ⊢
      clear hwd
      refine tk 0 (oi := ⟨some 140, _, _, _, _, _⟩) rfl ?_
      refine tk 2 (oi := ⟨some 142, _, _, _, _, _⟩) rfl ?_
      refine tk 3 (oi := ⟨some 143, _, _, _, _, _⟩) rfl ?_
      refine wpAnyH_ready (rs := [1]) (by kernel_rfl) (by simp) ?_; refine AllReadyH.cons (o := ⟨some 141, _, _, _, _, _⟩) rfl (fun K hK => ?_) AllReadyH.nil
      go_simp
      refine (only_any wd D _ l 0 (NR3.out.below GD.out) hlm SM.out).mono ?_
      rintro r x1 ⟨u0, S0, rfl, he1, hb1⟩
      rw [R0] at he1
      obtain ⟨Q0, d0, rfl, _⟩ := RowV.len he1
      have H1 := Lib.hid he1
      have G1 := Lib.hid (Below.on' GD.out (Nat.le_refl _) hb1)
      refine hK.out _ _ (KE.out _ G1.out) (fun hHeld => ?_)
      clear hK K he1 hb1
      (try simp only [Act.put, List.setIfInBounds_toArray, List.set_cons_zero, List.set_cons_succ])
      refine wpAnyH_ready (rs := [4]) (by kernel_rfl) (by simp) ?_; refine AllReadyH.cons (o := ⟨some 144, _, _, _, _, _⟩) rfl (fun K hK => ?_) AllReadyH.nil
      go_simp
      refine (all_at x1 S0 S _ _ a1 a1 true (by simp) H1.out (E0.out.below G1.out)).mono ?_
      rintro r x2 ⟨rfl, hb2⟩
      have G2 := Lib.hid (Below.on' G1.out (Nat.le_refl _) hb2)
      refine hK.out _ _ (KE.out _ G2.out) (fun hHeld => ?_)
      clear hK K hb2
      (try simp only [Act.put, List.setIfInBounds_toArray, List.set_cons_zero, List.set_cons_succ])
      refine tk 5 (oi := ⟨some 145, _, _, _, _, _⟩) rfl ?_
      refine tk 6 (oi := ⟨some 146, _, _, _, _, _⟩) rfl ?_
      refine tk 8 (oi := ⟨some 148, _, _, _, _, _⟩) rfl ?_
      refine tk 9 (oi := ⟨some 149, _, _, _, _, _⟩) rfl ?_
      refine wpAnyH_ready (rs := [7]) (by kernel_rfl) (by simp) ?_; refine AllReadyH.cons (o := ⟨some 147, _, _, _, _, _⟩) rfl (fun K hK => ?_) AllReadyH.nil
      go_simp
      refine (only_any x2 D _ l 1 (NR3.out.below G2.out) hlm SM.out).mono ?_
      rintro r x3 ⟨u1, S1, rfl, he1, hb1⟩
      rw [R1] at he1
      obtain ⟨Q1, d1, rfl, _⟩ := RowV.len he1
      have H3 := Lib.hid he1
      have G3 := Lib.hid (Below.on' G2.out (Nat.le_refl _) hb1)
      refine hK.out _ _ (KE.out _ G3.out) (fun hHeld => ?_)
      clear hK K he1 hb1
      (try simp only [Act.put, List.setIfInBounds_toArray, List.set_cons_zero, List.set_cons_succ])
      refine wpAnyH_ready (rs := [10]) (by kernel_rfl) (by simp) ?_; refine AllReadyH.cons (o := ⟨some 150, _, _, _, _, _⟩) rfl (fun K hK => ?_) AllReadyH.nil
      go_simp
      refine (all_at x3 S1 S _ _ b1 b1 true (by simp) H3.out (E1.out.below G3.out)).mono ?_
      rintro r x4 ⟨rfl, hb2⟩
      have G4 := Lib.hid (Below.on' G3.out (Nat.le_refl _) hb2)
      refine hK.out _ _ (KE.out _ G4.out) (fun hHeld => ?_)
      clear hK K hb2
      (try simp only [Act.put, List.setIfInBounds_toArray, List.set_cons_zero, List.set_cons_succ])
      refine tk 11 (oi := ⟨some 151, _, _, _, _, _⟩) rfl ?_
      refine tk 12 (oi := ⟨some 152, _, _, _, _, _⟩) rfl ?_
      refine tk 13 (oi := ⟨some 153, _, _, _, _, _⟩) rfl ?_
      refine wpAnyH_ready (rs := [14]) (by kernel_rfl) (by simp) ?_; refine AllReadyH.cons (o := ⟨some 154, _, _, _, _, _⟩) rfl (fun K hK => ?_) AllReadyH.nil
      go_simp
      refine (only_any x4 D _ l 2 (NR3.out.below G4.out) hlm SM.out).mono ?_
      rintro r x5 ⟨u2, S2, rfl, he1, hb1⟩
      rw [R2] at he1
      obtain ⟨Q2, d2, rfl, _⟩ := RowV.len he1
      have G5 := Lib.hid (Below.on' G4.out (Nat.le_refl _) hb1)
      refine hK.out _ _ (KE.out _ G5.out) (fun hHeld => ?_)
      clear hK K he1 hb1
      (try simp only [Act.put, List.setIfInBounds_toArray, List.set_cons_zero, List.set_cons_succ])
      refine tk 15 (oi := ⟨some 155, _, _, _, _, _⟩) rfl ?_
      refine tk 16 (oi := ⟨some 156, _, _, _, _, _⟩) rfl ?_
      refine tk 17 (oi := ⟨some 157, _, _, _, _, _⟩) rfl ?_
      refine tk 18 (oi := ⟨some 158, _, _, _, _, _⟩) rfl ?_
      refine wpAnyH_ready (rs := [19]) (by kernel_rfl) (by simp) ?_; refine AllReadyH.cons (o := ⟨some 159, _, _, _, _, _⟩) rfl (fun K hK => ?_) AllReadyH.nil
      go_simp
      refine (wakes_any x5).mono ?_
      rintro r x6 ⟨rfl, hb2⟩
      have G6 := Lib.hid (Below.on' G5.out (Nat.le_refl _) hb2)
      refine hK.out _ _ (KE.out _ G6.out) (fun hHeld => ?_)
      clear hK K hb2
      (try simp only [Act.put, List.setIfInBounds_toArray, List.set_cons_zero, List.set_cons_succ])
      refine tk 20 (oi := ⟨some 160, _, _, _, _, _⟩) rfl ?_
      refine tk 21 (oi := ⟨some 4, _, _, _, _, _⟩) rfl ?_
      refine wpAnyH_done (by kernel_rfl) ?_ _
      clear hHeld
      have FINB := Lib.hid (Below.on' B5.out (Nat.le_refl _) G6.out)
      go_wp2_with fail
      go_ret
      exact ⟨rfl, FINB.out⟩
end Go.Proofs.YtdneakejlbabeaaGreat
