/- Proved: SumParts returns true for every input, and leaves its arguments as they were; no further condition.
   The frame around the walk was written by the guide's proof-skeleton program. -/
import Derived.Test.YtgcolhcajmbehaaRows
import Derived.Test.YtgcolhcajmbehaaFns
import Derived.Test.YtgcolhcajmbehaaLin
import Derived.Test.YtgcolhcajmbehaaAid
import Derived.Deep.RegionHeld3
import Derived.Deep.AppendLies
import Derived.WalkKit
import Derived.ProofKit
import Derived.OpenShut
import Derived.ShutString
import Derived.ChangeOld
import Derived.Below
namespace Go.Proofs.Ytgcolhcajmbehaa.sumParts
open Go.ChangeShapes Go.WideShapes Go.ChangeAt Go.RowKit
open Go.ChangeMaps (open_string shut_string)
set_option linter.unusedVariables false

theorem own : ownKnob Try.prog.godebug = none := by kernel_rfl
theorem laidOut : laidOutB Try.prog = true := by kernel_rfl

theorem app_own {w : World} {base n : Nat} {v : Value} {b : List Nat} {d : Nat} (h : w.ownsRow base 5 1 v n (u8s b ++ [.int .u8 (d : Int)])) : w.ownsRow base 5 1 v n (u8s (b ++ [d])) := by simpa [u8s] using h
theorem ne_blk {h g n c n' c' : Nat} (hne : h ≠ g) : ∀ j, (Value.slice (some ⟨h, 0, none⟩) n' c').ownBlock = some j → ¬ (Value.slice (some ⟨g, 0, none⟩) n c).ownBlock = some j := by
  intro j h1 h2
  injection h1 with h1
  injection h2 with h2
  simp only at h1 h2
  omega
theorem own_ge {g n c K : Nat} (h : K ≤ g) : ∀ j, (Value.slice (some ⟨g, 0, none⟩) n c).ownBlock = some j → K ≤ j := by
  intro j h1
  injection h1 with h1
  simp only at h1
  omega

/-- WHAT THE WALK IS TOLD OF A SLICE OF INTEGERS THAT CAME IN: it is nil; or it leads to a row of 'cap' cells, the numbers 'zs' (the first 'len' are its elements, the rest its spare room), each fitting its kind. -/
def IsRow (k : IntKind) (w : World) (a : Option Addr) (len cap : Nat) (zs : List Int) : Prop :=
  (a = none ∧ len = 0 ∧ cap = 0 ∧ zs = []) ∨
  ∃ x, a = some x ∧ len ≤ cap ∧ cap ≤ maxLen ∧ zs.length = cap ∧ (∀ i, i < zs.length → w.cell? (x.add i) = some (.int k (zs.getD i 0))) ∧ ∀ n ∈ zs, (Lit.int k n).wf = true

/-! ### STEP 1: THE WALK: the Go text returns true, AND WRITES NOTHING THAT WAS THERE: 'Below w.heap.size w w'' (Derived/Below.lean: '.refl', '.alloc', '.drew', '.setCell' at a new block, '.trans'). Open each 'IsRow' by 'rcases' AHEAD of 'go_enter'; part every test ahead of the walk. -/
set_option maxHeartbeats 16000000 in
set_option maxRecDepth 100000 in
theorem walk (a0 : Option Addr) (len0 cap0 : Nat) (z0 : List Int) (a1 : Int) (a2 : Int) (w : World) (w0 : IsRow .u8 w a0 len0 cap0 z0) (w1 : (Lit.int .i64 a1).wf = true) (w2 : (Lit.int .i64 a2).wf = true) :
    Calls Try.prog 3 #[.slice a0 len0 cap0, .int .i64 a1, .int .i64 a2] w fun e w' => e = .returned (.bool true) ∧ Below w.heap.size w w' := by
  obtain ⟨bs, hbs, hb256⟩ := bytes_of_row w0
  have HBS := Lib.hid hbs
  have HLT := Lib.hid hb256
  clear hbs hb256 w0 w1 w2
  go_enter Try.func3, Try.ntmps3
  go_wp2_with fail
  refine (cut_any _ _ _ _ 60 HBS.out (by omega)).mono ?_
  rintro e w1 ⟨v1, rfl, ho, hb⟩
  obtain ⟨n0, hn0⟩ : ∃ n0, n0 = min len0 60 := ⟨_, rfl⟩
  have n60 : n0 ≤ 60 := by omega
  rw [← hn0, u8s_take] at ho
  have HL := Lib.hid (take_lt 60 HLT.out)
  generalize bs.take 60 = b0 at ho HL
  have HO := Lib.hid ho
  have HB := Lib.hid hb
  have sz := hb.size
  clear ho hb hn0 HBS HLT
  have HI := Lib.hid Try.info5
  go_wp2_with (at_builtin; refine wp_app w.heap.size rfl _ _ 22 5 (.int .u8 0) 1 1 rfl Try.underlying22 HI.out rfl (by omega) (by omega) rfl rfl (HO.out.alloc _) (Sl.box w1 5 #[.int .u8 1, .int .u8 2] 2 rfl (by simp [maxLen]) (by simp [Value.oneCell'])) (by omega) (Nat.le_trans sz (by simp)) ?_; intro v2 w2 hown hfr hat)
  have sz2 : w.heap.size ≤ w2.heap.size := Nat.le_trans sz (Nat.le_trans (by simp) hfr.size)
  have HB2 := Lib.hid (Frm.below (HB.out.alloc sz _) hfr (Nat.le_trans sz (by simp)) (fun g hg => (HO.out.lt g hg).1))
  obtain ⟨b, n, hbl, hb256, hn, hob⟩ : ∃ (b : List Nat) (n : Nat), b.length = n ∧ (∀ x ∈ b, x < 256) ∧ n = n0 + 2 ∧ w2.ownsRow w.heap.size 5 1 v2 n (u8s b) := ⟨b0 ++ [1, 2], n0 + 2, by have := own_len hown; simp [u8s] at this ⊢; omega, lt_append HL.out (by decide), rfl, by simpa [u8s] using hown⟩
  have n2 : 2 ≤ n := by omega
  have n62 : n ≤ 62 := by omega
  obtain ⟨gb, cb, rfl, gb0, _⟩ := hob.form (by omega)
  have HOB := Lib.hid hob
  have HBL := Lib.hid hbl
  have HLT := Lib.hid hb256
  clear hown hfr hat hbl hb256 hob hn HO HB HL n60 sz
  go_wp2_with fail
  refine (table_any _).mono ?_
  rintro e w3 ⟨vt, rfl, ho, hb⟩
  have HT := Lib.hid (Sl.of_own ho (u32s_one _))
  have HSB := Lib.hid ((Sl.of_own HOB.out (u8s_one _)).below hb)
  have sz3 : w.heap.size ≤ w3.heap.size := Nat.le_trans sz2 hb.size
  have HB3 := Lib.hid (HB2.out.trans (hb.mono sz2))
  clear ho hb HB2 sz2
  have HTL := Lib.hid (tabN_lt 256 (Nat.le_refl _))
  obtain ⟨At, ct, rfl, _, _⟩ := HT.out.len
  go_wp2_with fail
  refine (of_any _ _ _ 256 n (tabN 256) b HT.out HSB.out rfl HTL.out HLT.out).mono ?_
  rintro e _ ⟨rfl, rfl⟩
  obtain ⟨sb, hsb⟩ : ∃ sb, sb = ofN (tabN 256) b := ⟨_, rfl⟩
  rw [← hsb]
  have HS := Lib.hid hsb
  clear hsb
  go_wp2_with fail
  refine (within_any a1 (n - 1) _ (by omega) (by omega)).mono ?_
  rintro e _ ⟨rfl, rfl⟩
  obtain ⟨i, hi⟩ : ∃ i : Nat, (i : Int) = a1 % (n - 1) := ⟨(a1 % (n - 1)).toNat, Int.toNat_of_nonneg (Int.emod_nonneg _ (by omega))⟩
  have hi1 : i + 1 < n := by have := Int.emod_lt_of_pos a1 (b := (n : Int) - 1) (by omega); omega
  rw [← hi]
  clear hi
  go_wp2_with fail
  refine (copy_any _ _ _ _ HSB.out (by omega)).mono ?_
  rintro e w4 ⟨vc, rfl, ho, hb⟩
  obtain ⟨gc, cc, rfl, gc0, _⟩ := ho.form (by omega)
  have gc1 : w.heap.size ≤ gc := Nat.le_trans sz3 gc0
  have hlc : gc < w4.heap.size := (ho.lt gc rfl).2
  obtain ⟨pre, x, y, post, hsplit, hpl, hx, hy, hpost⟩ := split_two HBL.out HLT.out hi1
  have HSP := Lib.hid hsplit
  have HPO := Lib.hid hpost
  have kx : w4.cell? ⟨gc, i, none⟩ = some (.int .u8 x) := by rw [ho.cellAt i (by omega), hsplit]; exact two_get0 hpl
  have ky : w4.cell? ⟨gc, i + 1, none⟩ = some (.int .u8 y) := by rw [ho.cellAt (i + 1) (by omega), hsplit]; exact two_get1 hpl
  have fx := ho.frozenAt i
  have fy := ho.frozenAt (i + 1)
  have HPL := Lib.hid hpl
  have HOC := Lib.hid ho
  have HT4 := Lib.hid (HT.out.below hb)
  have HSB4 := Lib.hid (HSB.out.below hb)
  have sz4 : w.heap.size ≤ w4.heap.size := Nat.le_trans sz3 hb.size
  have HB4 := Lib.hid (HB3.out.trans (hb.mono sz3))
  have hgbc : gb < gc := by have := HSB.out.lt_of gb rfl (by omega); omega
  have htc : ∀ g, (Value.slice At 256 ct).ownBlock = some g → g < gc := fun g hg => Nat.lt_of_lt_of_le (HT.out.lt_of g hg (by omega)) gc0
  have HTC := Lib.hid htc
  clear ho hb hpl HB3 HT HSB hsplit hpost htc
  have i1 : (i : Int) < (n : Int) := by omega
  have i2 : (i : Int) + 1 < (n : Int) := by omega
  have i3 : (0 : Int) ≤ (i : Int) := by omega
  have i4 : (0 : Int) ≤ (i : Int) + 1 := by omega
  have i5 : ((i : Int) + 1).toNat = i + 1 := by omega
  go_wp2_with fail
  go_region
  have F5 : Frm (· = gc) w4 ((w4.setCell ⟨gc, i, none⟩ (.int .u8 y)).setCell ⟨gc, i + 1, none⟩ (.int .u8 x)).drew := (((Frm.refl _ _).setg _).setg _).drew
  have HOC5 : Hid (((w4.setCell ⟨gc, i, none⟩ (.int .u8 y)).setCell ⟨gc, i + 1, none⟩ (.int .u8 x)).drew.ownsRow w3.heap.size 5 1 (.slice (some ⟨gc, 0, none⟩) n cc) n (u8s (pre ++ y :: x :: post))) := by
    have h1 := ((HOC.out.stored i (.int .u8 y)).1.stored (i + 1) (.int .u8 x)).1
    rw [HSP.out, two_swap HPL.out] at h1
    exact h1
  generalize ((w4.setCell ⟨gc, i, none⟩ (.int .u8 y)).setCell ⟨gc, i + 1, none⟩ (.int .u8 x)).drew = w5 at *
  have HT5 := Lib.hid (HT4.out.frm F5 (by intro g hg e; subst e; have := HTC.out _ hg; omega))
  have HSB5 := Lib.hid (HSB4.out.frm F5 (by intro g hg e; subst e; injection hg with hg; simp at hg; omega))
  have sz5 : w.heap.size ≤ w5.heap.size := Nat.le_trans sz4 F5.size
  have HB5 := Lib.hid (Frm.below HB4.out F5 sz4 (by rintro j rfl; exact gc1))
  have hlc5 : gc < w5.heap.size := Nat.lt_of_lt_of_le hlc F5.size
  clear F5 HT4 HSB4 HB4 HOC kx ky fx fy sz4 hlc HTC
  go_wp2_with fail
  refine (copy_any _ _ _ _ HSB5.out (by omega)).mono ?_
  rintro e w6 ⟨vd, rfl, ho, hb⟩
  obtain ⟨gd, cd, rfl, gd0, _⟩ := ho.form (by omega)
  have gd1 : w.heap.size ≤ gd := Nat.le_trans sz5 gd0
  have HOD := Lib.hid ho
  have HT6 := Lib.hid (HT5.out.below hb)
  have HSB6 := Lib.hid (HSB5.out.below hb)
  have HSC6 := Lib.hid ((Sl.of_own HOC5.out (u8s_one _)).below hb)
  have HB6 := Lib.hid (HB5.out.trans (hb.mono sz5))
  have sz6 : w.heap.size ≤ w6.heap.size := Nat.le_trans sz5 hb.size
  have hgcd : gc < gd := by omega
  have htd : ∀ g, (Value.slice At 256 ct).ownBlock = some g → g < gd := fun g hg => Nat.lt_of_lt_of_le (HT5.out.lt_of g hg (by omega)) gd0
  have HTD := Lib.hid htd
  clear ho hb HT5 HSB5 HOC5 HB5 sz5 htd
  go_wp2_with fail
  refine (within_any a2 (8 * n) _ (by omega) (by omega)).mono ?_
  rintro e _ ⟨rfl, rfl⟩
  obtain ⟨k, hk⟩ : ∃ k : Nat, (k : Int) = a2 % (8 * n) := ⟨(a2 % (8 * n)).toNat, Int.toNat_of_nonneg (Int.emod_nonneg _ (by omega))⟩
  have hk1 : k < 8 * n := by have := Int.emod_lt_of_pos a2 (b := 8 * (n : Int)) (by omega); omega
  rw [← hk]
  clear hk
  obtain ⟨q, hq⟩ : ∃ q, q = k / 8 := ⟨_, rfl⟩
  obtain ⟨r, hr⟩ : ∃ r, r = k % 8 := ⟨_, rfl⟩
  have hq1 : q < n := by omega
  have hr8 : r < 8 := by omega
  have eq1 : (k : Int) / 8 = (q : Int) := by omega
  have er1 : (k : Int) % 8 = (r : Int) := by omega
  clear hq hr hk1
  obtain ⟨pre2, z, post2, hsp2, hpl2, hz, hpost2⟩ := split_one HBL.out HLT.out hq1
  have kz : w6.cell? ⟨gd, q, none⟩ = some (.int .u8 z) := by rw [HOD.out.cellAt q (by omega), hsp2]; exact one_get hpl2
  have fz := HOD.out.frozenAt q
  have HSP2 := Lib.hid hsp2
  have HPL2 := Lib.hid hpl2
  have HPO2 := Lib.hid hpost2
  clear hsp2 hpl2 hpost2
  have q1 : (q : Int) < (n : Int) := by omega
  have q3 : (0 : Int) ≤ (q : Int) := by omega
  have hp8 : 2 ^ r < 2 ^ 8 := Nat.pow_lt_pow_right (by omega) hr8
  have hp0 : 2 ^ r ≠ 0 := Nat.pos_iff_ne_zero.1 (Nat.two_pow_pos r)
  obtain ⟨zz, hzz⟩ : ∃ zz, zz = z ^^^ 2 ^ r := ⟨_, rfl⟩
  have hzz2 : zz < 256 := hzz ▸ Nat.xor_lt_two_pow (n := 8) hz hp8
  have exz : bits BinOp.xor IntKind.u8 (z : Int) (2 ^ r % 256) = (zz : Int) := by
    rw [hzz, show ((2 : Int) ^ r % 256) = ((2 ^ r : Nat) : Int) from by rw [Int.emod_eq_of_lt (Int.le_of_lt (Int.pow_pos (by omega))) (by exact_mod_cast hp8)]; simp]
    exact bits_xor_u8 z _ hz hp8
  have HZZ := Lib.hid hzz
  have HP8 := Lib.hid hp8
  have HP0 := Lib.hid hp0
  clear hzz hp8 hp0
  go_wp2_with fail
  have F7 : Frm (· = gd) w6 (w6.setCell ⟨gd, q, none⟩ (.int .u8 zz)) := (Frm.refl _ _).setg _
  have HOD7 : Hid ((w6.setCell ⟨gd, q, none⟩ (.int .u8 zz)).ownsRow w5.heap.size 5 1 (.slice (some ⟨gd, 0, none⟩) n cd) n (u8s (pre2 ++ zz :: post2))) := by
    have h1 := (HOD.out.stored q (.int .u8 zz)).1
    rw [HSP2.out, one_set HPL2.out] at h1
    exact h1
  generalize (w6.setCell ⟨gd, q, none⟩ (.int .u8 zz)) = w7 at *
  have hgd7 : gd < w7.heap.size := (HOD7.out.lt gd rfl).2
  have BG7 : Hid (Big w w7 w7.heap.size (.slice At 256 ct) (.slice (some ⟨gb, 0, none⟩) n cb) (.slice (some ⟨gc, 0, none⟩) n cc) (.slice (some ⟨gd, 0, none⟩) n cd) n b (pre ++ y :: x :: post) (pre2 ++ zz :: post2)) :=
    ⟨HT6.out.frm F7 (by intro g hg e; subst e; have := HTD.out _ hg; omega), HSB6.out.frm F7 (by intro g hg e; subst e; injection hg with hg; simp at hg; omega), HSC6.out.frm F7 (by intro g hg e; subst e; injection hg with hg; simp at hg; omega),
      Sl.of_own HOD7.out (u8s_one _), Frm.below HB6.out F7 sz6 (by rintro j rfl; exact gd1), Nat.le_trans sz6 F7.size, Nat.le_refl _,
      by intro g hg; rcases hg with hg | hg | hg | hg; · have := HTD.out _ hg; omega
         · injection hg with hg; simp at hg; omega
         · injection hg with hg; simp at hg; omega
         · injection hg with hg; simp at hg; omega⟩
  have sz7 : w.heap.size ≤ w7.heap.size := BG7.out.s
  have BG : Hid (Big w w7.drew w7.heap.size (.slice At 256 ct) (.slice (some ⟨gb, 0, none⟩) n cb) (.slice (some ⟨gc, 0, none⟩) n cc) (.slice (some ⟨gd, 0, none⟩) n cd) n b (pre ++ y :: x :: post) (pre2 ++ zz :: post2)) := BG7.out.drew
  have HGX : Hid (b[i]? = some x ∧ b[i + 1]? = some y) := by
    have hp := HPL.out
    have hb := HSP.out
    subst hp
    rw [hb]
    exact ⟨by simp, by simp⟩
  have HXY : Hid (b = pre ++ x :: y :: post ∧ b = pre2 ++ z :: post2 ∧ (∀ u ∈ post, u < 256) ∧ (∀ u ∈ post2, u < 256)) := ⟨HSP.out, HSP2.out, HPO.out, HPO2.out⟩
  clear F7 HT6 HSB6 HSC6 HOD HOD7 HB6 HTD sz6 kz fz eq1 er1 exz HSP HSP2 HPO HPO2 HPL HPL2 hgcd hgbc gc1 gd1 gb0 gc0 gd0 hlc5 q1 q3 hq1 hr8 hgd7 sz3
  -- what the last line comes to
  obtain ⟨oc, hoc⟩ : ∃ oc, oc = ofN (tabN 256) (pre ++ y :: x :: post) := ⟨_, rfl⟩
  obtain ⟨od, hod⟩ : ∃ od, od = ofN (tabN 256) (pre2 ++ zz :: post2) := ⟨_, rfl⟩
  obtain ⟨o0, ho0⟩ : ∃ o0, o0 = ofN (tabN 256) (b ++ [0]) := ⟨_, rfl⟩
  obtain ⟨o1, ho1⟩ : ∃ o1, o1 = ofN (tabN 256) (b ++ [1]) := ⟨_, rfl⟩
  have r1 : ((oc : Int) == (sb : Int)) = ((x : Int) == (y : Int)) := by
    rw [hoc, HS.out, HXY.out.1, Bool.eq_iff_iff]
    simp only [beq_iff_eq, Int.natCast_inj]
    exact of_swap pre post x y hx hy HXY.out.2.2.1
  have r2 : ((od : Int) != (sb : Int)) = true := by
    rw [hod, HS.out, HXY.out.2.1, HZZ.out, bne_iff_ne, Ne, Int.natCast_inj]
    exact of_turn pre2 post2 z (2 ^ r) hz HP8.out HP0.out HXY.out.2.2.2
  have r3 : ((o0 : Int) != (o1 : Int)) = true := by
    rw [ho0, ho1, bne_iff_ne, Ne, Int.natCast_inj]
    exact fun e => of_turn b [] 0 1 (by omega) (by omega) (by omega) (by simp) e.symm
  have HC := Lib.hid hoc
  have HD := Lib.hid hod
  have H0 := Lib.hid ho0
  have H1 := Lib.hid ho1
  have LC := Lib.hid (show ∀ u ∈ pre ++ y :: x :: post, u < 256 from fun u hu => HLT.out u (by rw [HXY.out.1]; simp only [List.mem_append, List.mem_cons] at hu ⊢; rcases hu with h | h | h | h; exact .inl h; exact .inr (.inr (.inl h)); exact .inr (.inl h); exact .inr (.inr (.inr h))))
  have LD := Lib.hid (show ∀ u ∈ pre2 ++ zz :: post2, u < 256 from lt_append (fun u hu => HLT.out u (by rw [HXY.out.2.1]; simp [hu])) (by intro u hu; rcases List.mem_cons.1 hu with rfl | h; exact hzz2; exact HXY.out.2.2.2 u h))
  have L0 := Lib.hid (lt_append HLT.out (show ∀ u ∈ [0], u < 256 by decide))
  have L1 := Lib.hid (lt_append HLT.out (show ∀ u ∈ [1], u < 256 by decide))
  have kx : w7.cell? ⟨gb, i, none⟩ = some (.int .u8 x) := sl_cell BG7.out.b (by omega) x HGX.out.1
  have ky : w7.cell? ⟨gb, i + 1, none⟩ = some (.int .u8 y) := sl_cell BG7.out.b hi1 y HGX.out.2
  clear hoc hod ho0 ho1 HS HXY HZZ HP8 HP0
  have iw : IntKind.i64.wrap ((i : Int) + 1) = (i : Int) + 1 := IntWalk.i64_in _ ⟨by omega, by omega⟩
  obtain ⟨BW, hBW⟩ : ∃ BW : World → Prop, BW = fun w' => Big w w' w7.heap.size (.slice At 256 ct) (.slice (some ⟨gb, 0, none⟩) n cb) (.slice (some ⟨gc, 0, none⟩) n cc) (.slice (some ⟨gd, 0, none⟩) n cd) n b (pre ++ y :: x :: post) (pre2 ++ zz :: post2) := ⟨_, rfl⟩
  have BA : Hid (∀ W o, BW W → BW (W.alloc o)) := by subst hBW; exact fun W o h => Big.alloc h o
  have BD : Hid (∀ W, BW W → BW W.drew) := by subst hBW; exact fun W h => Big.drew h
  have BB : Hid (∀ W w1, BW W → Below W.heap.size W w1 → BW w1) := by subst hBW; exact fun W w1 h k => Big.below h k
  have BF : Hid (∀ (W w1 : World) (v : Value), BW W → Frm (fun j => v.ownBlock = some j) W w1 → (∀ g, v.ownBlock = some g → w7.heap.size ≤ g) → BW w1) := by subst hBW; exact fun W w1 v h k hv => Big.frm h k hv sz7
  have Bt : Hid (∀ W, BW W → Sl W 1 (.slice At 256 ct) 256 (u32s (tabN 256))) := by subst hBW; exact fun W h => Big.t h
  have Bb : Hid (∀ W, BW W → Sl W 1 (.slice (some ⟨gb, 0, none⟩) n cb) n (u8s b)) := by subst hBW; exact fun W h => Big.b h
  have Bc : Hid (∀ W, BW W → Sl W 1 (.slice (some ⟨gc, 0, none⟩) n cc) n (u8s (pre ++ y :: x :: post))) := by subst hBW; exact fun W h => Big.c h
  have Bd : Hid (∀ W, BW W → Sl W 1 (.slice (some ⟨gd, 0, none⟩) n cd) n (u8s (pre2 ++ zz :: post2))) := by subst hBW; exact fun W h => Big.d h
  have Bk : Hid (∀ W, BW W → Below w.heap.size w W ∧ w.heap.size ≤ W.heap.size) := by subst hBW; exact fun W h => ⟨Big.k h, Big.s h⟩
  have Bz : Hid (∀ W, BW W → w7.heap.size ≤ W.heap.size) := by subst hBW; exact fun W h => Big.z h
  have G7 : Hid (BW w7) := by subst hBW; exact BG7.out
  have G : Hid (BW w7.drew) := by subst hBW; exact BG.out
  clear hBW BG BG7
  have KE : Hid (∀ W, BW W → W.cell? ⟨gb, i, none⟩ = some (.int .u8 x) ∧ W.cell? ⟨gb, i + 1, none⟩ = some (.int .u8 y)) := Lib.hid (fun W hW => ⟨sl_cell (Bb.out _ hW) (by omega) x HGX.out.1, sl_cell (Bb.out _ hW) hi1 y HGX.out.2⟩)
  go_region_held3 (fun w' => w'.cell? ⟨gb, i, none⟩ = some (.int .u8 x) ∧ w'.cell? ⟨gb, i + 1, none⟩ = some (.int .u8 y)) (first | with_reducible exact KE.out _ G.out | with_reducible exact KE.out _ (BA.out _ _ G.out) | with_reducible exact KE.out _ (BA.out _ _ (BA.out _ _ G.out)) | go_keep) (first | (go_at_call 8; (first | (have g_ := (BA.out _ (.cells #[.int .u8 1] 5) (BA.out _ (.cells #[.int .u8 0] 5) G.out)); have nB0_ := ((Sl.one_at wz 5 (.int .u8 0) (wz.heap.size) (by simp) rfl).alloc (.cells #[.int .u8 1] 5)); have nB1_ := (Sl.one_at (wz.alloc (.cells #[.int .u8 0] 5)) 5 (.int .u8 1) (wz.heap.size + 1) (by simp) rfl); (try (have nO_ := (HO.out.lt gn rfl).2)); have hw_ : ∃ W, W = (wz.alloc (.cells #[.int .u8 0] 5)).alloc (.cells #[.int .u8 1] 5) := ⟨_, rfl⟩; (try (have qHO_ := (own_alloc (own_alloc HO.out (.cells #[.int .u8 0] 5)) (.cells #[.int .u8 1] 5)); clear HO)); clear G; obtain ⟨wz, hwq_⟩ := hw_; rw [← hwq_]; rw [← hwq_] at g_ nB0_ nB1_; (try (rw [← hwq_] at qHO_; have HO := Lib.hid qHO_; clear qHO_)); clear hwq_; have G := Lib.hid g_; clear g_; have B0 := Lib.hid nB0_; clear nB0_; have B1 := Lib.hid nB1_; clear nB1_) | (have g_ := (BA.out _ (.cells #[.int .u8 0] 5) (BA.out _ (.cells #[.int .u8 1] 5) G.out)); have nB1_ := ((Sl.one_at wz 5 (.int .u8 1) (wz.heap.size) (by simp) rfl).alloc (.cells #[.int .u8 0] 5)); have nB0_ := (Sl.one_at (wz.alloc (.cells #[.int .u8 1] 5)) 5 (.int .u8 0) (wz.heap.size + 1) (by simp) rfl); (try (have nO_ := (HO.out.lt gn rfl).2)); have hw_ : ∃ W, W = (wz.alloc (.cells #[.int .u8 1] 5)).alloc (.cells #[.int .u8 0] 5) := ⟨_, rfl⟩; (try (have qHO_ := (own_alloc (own_alloc HO.out (.cells #[.int .u8 1] 5)) (.cells #[.int .u8 0] 5)); clear HO)); clear G; obtain ⟨wz, hwq_⟩ := hw_; rw [← hwq_]; rw [← hwq_] at g_ nB1_ nB0_; (try (rw [← hwq_] at qHO_; have HO := Lib.hid qHO_; clear qHO_)); clear hwq_; have G := Lib.hid g_; clear g_; have B1 := Lib.hid nB1_; clear nB1_; have B0 := Lib.hid nB0_; clear nB0_) | (have g_ := (BA.out _ (.cells #[.int .u8 0] 5) G.out); have nB0_ := (Sl.one_at wz 5 (.int .u8 0) (wz.heap.size) (by simp) rfl); (try (have nO_ := (HO.out.lt gn rfl).2)); have hw_ : ∃ W, W = wz.alloc (.cells #[.int .u8 0] 5) := ⟨_, rfl⟩; (try (have qB1_ := (B1.out.alloc (.cells #[.int .u8 0] 5)); clear B1)); (try (have qHO_ := (own_alloc HO.out (.cells #[.int .u8 0] 5)); clear HO)); clear G; obtain ⟨wz, hwq_⟩ := hw_; rw [← hwq_]; rw [← hwq_] at g_ nB0_; (try (rw [← hwq_] at qB1_; have B1 := Lib.hid qB1_; clear qB1_)); (try (rw [← hwq_] at qHO_; have HO := Lib.hid qHO_; clear qHO_)); clear hwq_; have G := Lib.hid g_; clear g_; have B0 := Lib.hid nB0_; clear nB0_) | (have g_ := (BA.out _ (.cells #[.int .u8 1] 5) G.out); have nB1_ := (Sl.one_at wz 5 (.int .u8 1) (wz.heap.size) (by simp) rfl); (try (have nO_ := (HO.out.lt gn rfl).2)); have hw_ : ∃ W, W = wz.alloc (.cells #[.int .u8 1] 5) := ⟨_, rfl⟩; (try (have qB0_ := (B0.out.alloc (.cells #[.int .u8 1] 5)); clear B0)); (try (have qHO_ := (own_alloc HO.out (.cells #[.int .u8 1] 5)); clear HO)); clear G; obtain ⟨wz, hwq_⟩ := hw_; rw [← hwq_]; rw [← hwq_] at g_ nB1_; (try (rw [← hwq_] at qB0_; have B0 := Lib.hid qB0_; clear qB0_)); (try (rw [← hwq_] at qHO_; have HO := Lib.hid qHO_; clear qHO_)); clear hwq_; have G := Lib.hid g_; clear g_; have B1 := Lib.hid nB1_; clear nB1_) | (have g_ := G.out; obtain ⟨wz, hwq_⟩ : ∃ W, W = w7.drew := ⟨_, rfl⟩; rw [← hwq_]; rw [← hwq_] at g_; clear hwq_ G; have G := Lib.hid g_; clear g_) | skip); (first | ((with_reducible refine (of_val _ _ _ 256 n (tabN 256) (pre ++ y :: x :: post) oc (Bt.out _ G.out) (Bc.out _ G.out) rfl HTL.out LC.out HC.out).mono ?_); rintro e _ ⟨rfl, rfl⟩) | ((with_reducible refine (of_val _ _ _ 256 n (tabN 256) (pre2 ++ zz :: post2) od (Bt.out _ G.out) (Bd.out _ G.out) rfl HTL.out LD.out HD.out).mono ?_); rintro e _ ⟨rfl, rfl⟩) | ((with_reducible refine (of_val _ _ _ 256 (n + 1) (tabN 256) (b ++ [0]) o0 (Bt.out _ G.out) (Sl.of_own HA.out (u8s_one _)) rfl HTL.out L0.out H0.out).mono ?_); rintro e _ ⟨rfl, rfl⟩) | ((with_reducible refine (of_val _ _ _ 256 (n + 1) (tabN 256) (b ++ [1]) o1 (Bt.out _ G.out) (Sl.of_own HA.out (u8s_one _)) rfl HTL.out L1.out H1.out).mono ?_); rintro e _ ⟨rfl, rfl⟩))) | (go_at_call 10; (first | (have g_ := (BA.out _ (.cells #[.int .u8 1] 5) (BA.out _ (.cells #[.int .u8 0] 5) G.out)); have nB0_ := ((Sl.one_at wz 5 (.int .u8 0) (wz.heap.size) (by simp) rfl).alloc (.cells #[.int .u8 1] 5)); have nB1_ := (Sl.one_at (wz.alloc (.cells #[.int .u8 0] 5)) 5 (.int .u8 1) (wz.heap.size + 1) (by simp) rfl); (try (have nO_ := (HO.out.lt gn rfl).2)); have hw_ : ∃ W, W = (wz.alloc (.cells #[.int .u8 0] 5)).alloc (.cells #[.int .u8 1] 5) := ⟨_, rfl⟩; (try (have qHO_ := (own_alloc (own_alloc HO.out (.cells #[.int .u8 0] 5)) (.cells #[.int .u8 1] 5)); clear HO)); clear G; obtain ⟨wz, hwq_⟩ := hw_; rw [← hwq_]; rw [← hwq_] at g_ nB0_ nB1_; (try (rw [← hwq_] at qHO_; have HO := Lib.hid qHO_; clear qHO_)); clear hwq_; have G := Lib.hid g_; clear g_; have B0 := Lib.hid nB0_; clear nB0_; have B1 := Lib.hid nB1_; clear nB1_) | (have g_ := (BA.out _ (.cells #[.int .u8 0] 5) (BA.out _ (.cells #[.int .u8 1] 5) G.out)); have nB1_ := ((Sl.one_at wz 5 (.int .u8 1) (wz.heap.size) (by simp) rfl).alloc (.cells #[.int .u8 0] 5)); have nB0_ := (Sl.one_at (wz.alloc (.cells #[.int .u8 1] 5)) 5 (.int .u8 0) (wz.heap.size + 1) (by simp) rfl); (try (have nO_ := (HO.out.lt gn rfl).2)); have hw_ : ∃ W, W = (wz.alloc (.cells #[.int .u8 1] 5)).alloc (.cells #[.int .u8 0] 5) := ⟨_, rfl⟩; (try (have qHO_ := (own_alloc (own_alloc HO.out (.cells #[.int .u8 1] 5)) (.cells #[.int .u8 0] 5)); clear HO)); clear G; obtain ⟨wz, hwq_⟩ := hw_; rw [← hwq_]; rw [← hwq_] at g_ nB1_ nB0_; (try (rw [← hwq_] at qHO_; have HO := Lib.hid qHO_; clear qHO_)); clear hwq_; have G := Lib.hid g_; clear g_; have B1 := Lib.hid nB1_; clear nB1_; have B0 := Lib.hid nB0_; clear nB0_) | (have g_ := (BA.out _ (.cells #[.int .u8 0] 5) G.out); have nB0_ := (Sl.one_at wz 5 (.int .u8 0) (wz.heap.size) (by simp) rfl); (try (have nO_ := (HO.out.lt gn rfl).2)); have hw_ : ∃ W, W = wz.alloc (.cells #[.int .u8 0] 5) := ⟨_, rfl⟩; (try (have qB1_ := (B1.out.alloc (.cells #[.int .u8 0] 5)); clear B1)); (try (have qHO_ := (own_alloc HO.out (.cells #[.int .u8 0] 5)); clear HO)); clear G; obtain ⟨wz, hwq_⟩ := hw_; rw [← hwq_]; rw [← hwq_] at g_ nB0_; (try (rw [← hwq_] at qB1_; have B1 := Lib.hid qB1_; clear qB1_)); (try (rw [← hwq_] at qHO_; have HO := Lib.hid qHO_; clear qHO_)); clear hwq_; have G := Lib.hid g_; clear g_; have B0 := Lib.hid nB0_; clear nB0_) | (have g_ := (BA.out _ (.cells #[.int .u8 1] 5) G.out); have nB1_ := (Sl.one_at wz 5 (.int .u8 1) (wz.heap.size) (by simp) rfl); (try (have nO_ := (HO.out.lt gn rfl).2)); have hw_ : ∃ W, W = wz.alloc (.cells #[.int .u8 1] 5) := ⟨_, rfl⟩; (try (have qB0_ := (B0.out.alloc (.cells #[.int .u8 1] 5)); clear B0)); (try (have qHO_ := (own_alloc HO.out (.cells #[.int .u8 1] 5)); clear HO)); clear G; obtain ⟨wz, hwq_⟩ := hw_; rw [← hwq_]; rw [← hwq_] at g_ nB1_; (try (rw [← hwq_] at qB0_; have B0 := Lib.hid qB0_; clear qB0_)); (try (rw [← hwq_] at qHO_; have HO := Lib.hid qHO_; clear qHO_)); clear hwq_; have G := Lib.hid g_; clear g_; have B1 := Lib.hid nB1_; clear nB1_) | (have g_ := G.out; obtain ⟨wz, hwq_⟩ : ∃ W, W = w7.drew := ⟨_, rfl⟩; rw [← hwq_]; rw [← hwq_] at g_; clear hwq_ G; have G := Lib.hid g_; clear g_) | skip); (with_reducible refine (copy_own _ _ n b (Bb.out _ G.out) (by omega) (by omega)).mono ?_); rintro e wz ⟨gn, cn, rfl, hgn, hln, hon, hbn⟩; have HO := Lib.hid (own_lower (base' := w7.heap.size) hon (Bz.out _ G.out)); have hgK := Nat.le_trans (Bz.out _ G.out) hgn; (try (have m0_ := Nat.lt_of_lt_of_le (Sl.lt_of B0.out _ rfl (by omega)) hgn)); (try (have m1_ := Nat.lt_of_lt_of_le (Sl.lt_of B1.out _ rfl (by omega)) hgn)); (try (have B0_ := Lib.hid (B0.out.below hbn); clear B0; have B0 := B0_; clear B0_)); (try (have B1_ := Lib.hid (B1.out.below hbn); clear B1; have B1 := B1_; clear B1_)); have g_ := BB.out _ _ G.out hbn; clear G hon hbn hgn hln; have G := Lib.hid g_; clear g_) | (go_at_call 11; (first | (have g_ := (BA.out _ (.cells #[.int .u8 1] 5) (BA.out _ (.cells #[.int .u8 0] 5) G.out)); have nB0_ := ((Sl.one_at wz 5 (.int .u8 0) (wz.heap.size) (by simp) rfl).alloc (.cells #[.int .u8 1] 5)); have nB1_ := (Sl.one_at (wz.alloc (.cells #[.int .u8 0] 5)) 5 (.int .u8 1) (wz.heap.size + 1) (by simp) rfl); (try (have nO_ := (HO.out.lt gn rfl).2)); have hw_ : ∃ W, W = (wz.alloc (.cells #[.int .u8 0] 5)).alloc (.cells #[.int .u8 1] 5) := ⟨_, rfl⟩; (try (have qHO_ := (own_alloc (own_alloc HO.out (.cells #[.int .u8 0] 5)) (.cells #[.int .u8 1] 5)); clear HO)); clear G; obtain ⟨wz, hwq_⟩ := hw_; rw [← hwq_]; rw [← hwq_] at g_ nB0_ nB1_; (try (rw [← hwq_] at qHO_; have HO := Lib.hid qHO_; clear qHO_)); clear hwq_; have G := Lib.hid g_; clear g_; have B0 := Lib.hid nB0_; clear nB0_; have B1 := Lib.hid nB1_; clear nB1_) | (have g_ := (BA.out _ (.cells #[.int .u8 0] 5) (BA.out _ (.cells #[.int .u8 1] 5) G.out)); have nB1_ := ((Sl.one_at wz 5 (.int .u8 1) (wz.heap.size) (by simp) rfl).alloc (.cells #[.int .u8 0] 5)); have nB0_ := (Sl.one_at (wz.alloc (.cells #[.int .u8 1] 5)) 5 (.int .u8 0) (wz.heap.size + 1) (by simp) rfl); (try (have nO_ := (HO.out.lt gn rfl).2)); have hw_ : ∃ W, W = (wz.alloc (.cells #[.int .u8 1] 5)).alloc (.cells #[.int .u8 0] 5) := ⟨_, rfl⟩; (try (have qHO_ := (own_alloc (own_alloc HO.out (.cells #[.int .u8 1] 5)) (.cells #[.int .u8 0] 5)); clear HO)); clear G; obtain ⟨wz, hwq_⟩ := hw_; rw [← hwq_]; rw [← hwq_] at g_ nB1_ nB0_; (try (rw [← hwq_] at qHO_; have HO := Lib.hid qHO_; clear qHO_)); clear hwq_; have G := Lib.hid g_; clear g_; have B1 := Lib.hid nB1_; clear nB1_; have B0 := Lib.hid nB0_; clear nB0_) | (have g_ := (BA.out _ (.cells #[.int .u8 0] 5) G.out); have nB0_ := (Sl.one_at wz 5 (.int .u8 0) (wz.heap.size) (by simp) rfl); (try (have nO_ := (HO.out.lt gn rfl).2)); have hw_ : ∃ W, W = wz.alloc (.cells #[.int .u8 0] 5) := ⟨_, rfl⟩; (try (have qB1_ := (B1.out.alloc (.cells #[.int .u8 0] 5)); clear B1)); (try (have qHO_ := (own_alloc HO.out (.cells #[.int .u8 0] 5)); clear HO)); clear G; obtain ⟨wz, hwq_⟩ := hw_; rw [← hwq_]; rw [← hwq_] at g_ nB0_; (try (rw [← hwq_] at qB1_; have B1 := Lib.hid qB1_; clear qB1_)); (try (rw [← hwq_] at qHO_; have HO := Lib.hid qHO_; clear qHO_)); clear hwq_; have G := Lib.hid g_; clear g_; have B0 := Lib.hid nB0_; clear nB0_) | (have g_ := (BA.out _ (.cells #[.int .u8 1] 5) G.out); have nB1_ := (Sl.one_at wz 5 (.int .u8 1) (wz.heap.size) (by simp) rfl); (try (have nO_ := (HO.out.lt gn rfl).2)); have hw_ : ∃ W, W = wz.alloc (.cells #[.int .u8 1] 5) := ⟨_, rfl⟩; (try (have qB0_ := (B0.out.alloc (.cells #[.int .u8 1] 5)); clear B0)); (try (have qHO_ := (own_alloc HO.out (.cells #[.int .u8 1] 5)); clear HO)); clear G; obtain ⟨wz, hwq_⟩ := hw_; rw [← hwq_]; rw [← hwq_] at g_ nB1_; (try (rw [← hwq_] at qB0_; have B0 := Lib.hid qB0_; clear qB0_)); (try (rw [← hwq_] at qHO_; have HO := Lib.hid qHO_; clear qHO_)); clear hwq_; have G := Lib.hid g_; clear g_; have B1 := Lib.hid nB1_; clear nB1_) | (have g_ := G.out; obtain ⟨wz, hwq_⟩ : ∃ W, W = w7.drew := ⟨_, rfl⟩; rw [← hwq_]; rw [← hwq_] at g_; clear hwq_ G; have G := Lib.hid g_; clear g_) | skip); (with_reducible refine (wakes_any _).mono ?_); rintro e wz ⟨rfl, hbk⟩; have g_ := BB.out _ _ G.out hbk; clear G hbk; have G := Lib.hid g_; clear g_) | ((first | (have g_ := (BA.out _ (.cells #[.int .u8 1] 5) (BA.out _ (.cells #[.int .u8 0] 5) G.out)); have nB0_ := ((Sl.one_at wz 5 (.int .u8 0) (wz.heap.size) (by simp) rfl).alloc (.cells #[.int .u8 1] 5)); have nB1_ := (Sl.one_at (wz.alloc (.cells #[.int .u8 0] 5)) 5 (.int .u8 1) (wz.heap.size + 1) (by simp) rfl); (try (have nO_ := (HO.out.lt gn rfl).2)); have hw_ : ∃ W, W = (wz.alloc (.cells #[.int .u8 0] 5)).alloc (.cells #[.int .u8 1] 5) := ⟨_, rfl⟩; (try (have qHO_ := (own_alloc (own_alloc HO.out (.cells #[.int .u8 0] 5)) (.cells #[.int .u8 1] 5)); clear HO)); clear G; obtain ⟨wz, hwq_⟩ := hw_; rw [← hwq_]; rw [← hwq_] at g_ nB0_ nB1_; (try (rw [← hwq_] at qHO_; have HO := Lib.hid qHO_; clear qHO_)); clear hwq_; have G := Lib.hid g_; clear g_; have B0 := Lib.hid nB0_; clear nB0_; have B1 := Lib.hid nB1_; clear nB1_) | (have g_ := (BA.out _ (.cells #[.int .u8 0] 5) (BA.out _ (.cells #[.int .u8 1] 5) G.out)); have nB1_ := ((Sl.one_at wz 5 (.int .u8 1) (wz.heap.size) (by simp) rfl).alloc (.cells #[.int .u8 0] 5)); have nB0_ := (Sl.one_at (wz.alloc (.cells #[.int .u8 1] 5)) 5 (.int .u8 0) (wz.heap.size + 1) (by simp) rfl); (try (have nO_ := (HO.out.lt gn rfl).2)); have hw_ : ∃ W, W = (wz.alloc (.cells #[.int .u8 1] 5)).alloc (.cells #[.int .u8 0] 5) := ⟨_, rfl⟩; (try (have qHO_ := (own_alloc (own_alloc HO.out (.cells #[.int .u8 1] 5)) (.cells #[.int .u8 0] 5)); clear HO)); clear G; obtain ⟨wz, hwq_⟩ := hw_; rw [← hwq_]; rw [← hwq_] at g_ nB1_ nB0_; (try (rw [← hwq_] at qHO_; have HO := Lib.hid qHO_; clear qHO_)); clear hwq_; have G := Lib.hid g_; clear g_; have B1 := Lib.hid nB1_; clear nB1_; have B0 := Lib.hid nB0_; clear nB0_) | (have g_ := (BA.out _ (.cells #[.int .u8 0] 5) G.out); have nB0_ := (Sl.one_at wz 5 (.int .u8 0) (wz.heap.size) (by simp) rfl); (try (have nO_ := (HO.out.lt gn rfl).2)); have hw_ : ∃ W, W = wz.alloc (.cells #[.int .u8 0] 5) := ⟨_, rfl⟩; (try (have qB1_ := (B1.out.alloc (.cells #[.int .u8 0] 5)); clear B1)); (try (have qHO_ := (own_alloc HO.out (.cells #[.int .u8 0] 5)); clear HO)); clear G; obtain ⟨wz, hwq_⟩ := hw_; rw [← hwq_]; rw [← hwq_] at g_ nB0_; (try (rw [← hwq_] at qB1_; have B1 := Lib.hid qB1_; clear qB1_)); (try (rw [← hwq_] at qHO_; have HO := Lib.hid qHO_; clear qHO_)); clear hwq_; have G := Lib.hid g_; clear g_; have B0 := Lib.hid nB0_; clear nB0_) | (have g_ := (BA.out _ (.cells #[.int .u8 1] 5) G.out); have nB1_ := (Sl.one_at wz 5 (.int .u8 1) (wz.heap.size) (by simp) rfl); (try (have nO_ := (HO.out.lt gn rfl).2)); have hw_ : ∃ W, W = wz.alloc (.cells #[.int .u8 1] 5) := ⟨_, rfl⟩; (try (have qB0_ := (B0.out.alloc (.cells #[.int .u8 1] 5)); clear B0)); (try (have qHO_ := (own_alloc HO.out (.cells #[.int .u8 1] 5)); clear HO)); clear G; obtain ⟨wz, hwq_⟩ := hw_; rw [← hwq_]; rw [← hwq_] at g_ nB1_; (try (rw [← hwq_] at qB0_; have B0 := Lib.hid qB0_; clear qB0_)); (try (rw [← hwq_] at qHO_; have HO := Lib.hid qHO_; clear qHO_)); clear hwq_; have G := Lib.hid g_; clear g_; have B1 := Lib.hid nB1_; clear nB1_) | (have g_ := G.out; obtain ⟨wz, hwq_⟩ : ∃ W, W = w7.drew := ⟨_, rfl⟩; rw [← hwq_]; rw [← hwq_] at g_; clear hwq_ G; have G := Lib.hid g_; clear g_) | skip); (first | (refine step_app (v := .slice (some ⟨gn, 0, none⟩) n cn) w7.heap.size (by rfl) _ _ 22 5 (.int .u8 0) 1 1 (by rfl) Try.underlying22 HI.out rfl (by omega) (by omega) (by rfl) (by rfl) HO.out B0.out (by omega) (Bz.out _ G.out) ?_; intro va wz hown hfr hat; have HA := Lib.hid (app_own hown : wz.ownsRow w7.heap.size 5 1 va (n + 1) (u8s (b ++ [0]))); (try (have o_ := Lib.hid (Sl.frm B1.out hfr (ne_blk (by omega))); clear B1; have B1 := o_; clear o_)); have g_ := BF.out _ _ _ G.out hfr (own_ge hgK); clear G HO B0 hown hfr hat; have G := Lib.hid g_; clear g_) | (refine step_app (v := .slice (some ⟨gn, 0, none⟩) n cn) w7.heap.size (by rfl) _ _ 22 5 (.int .u8 0) 1 1 (by rfl) Try.underlying22 HI.out rfl (by omega) (by omega) (by rfl) (by rfl) HO.out B1.out (by omega) (Bz.out _ G.out) ?_; intro va wz hown hfr hat; have HA := Lib.hid (app_own hown : wz.ownsRow w7.heap.size 5 1 va (n + 1) (u8s (b ++ [1]))); (try (have o_ := Lib.hid (Sl.frm B0.out hfr (ne_blk (by omega))); clear B0; have B0 := o_; clear o_)); have g_ := BF.out _ _ _ G.out hfr (own_ge hgK); clear G HO B1 hown hfr hat; have G := Lib.hid g_; clear g_))))
  all_goals
    go_wp2_with fail
    go_ret
    exact ⟨rfl, (Bk.out _ G.out).1⟩

/-! ### THE ROW's STEP: WRITTEN OUT: LEAVE IT -/
set_option maxRecDepth 100000 in
theorem lifted (os : Os) (started : os.Started) (H : Type) (enc : TypeId × Value → H) :
    ReturnsInHanded {} Try.checked os 3 .any (Rows.sumPartsSpec.pre6 enc Try.prog Try.f3 Rows.sumPartsRow.domain false) (Rows.sumPartsSpec.post enc Try.prog Try.f3 false true false false) := by
  refine returnsInHanded_of_change (C := Try.checked) own started (by kernel_rfl) Try.func3
    (ChangeSpec.witness6 (enc := enc) (C := Try.checked) false ⟨#[], #[.slice none 0 0, .int .i64 0, .int .i64 0], []⟩ 8 (by kernel_rfl) (by kernel_rfl) (by kernel_rfl) (by kernel_rfl)) ?_
  intro W base args ds gs before hval0 hW hcnd _
  have hval : ∀ (j : Nat) t v, Try.f3.params[j]? = some t → args[j]? = some v → Value.okWide Try.prog W .any base t v := hval0
  have hW' := hW
  obtain ⟨p, q, hA0, hV, rfl, hfz, hnd⟩ := hW
  have hA : DataW.TrodAll enc Try.prog W 0 (fun _ => true) true Try.f3.params.toList args.toList ds p := hA0
  rw [Try.params3] at hA hval
  obtain ⟨v0, vs0, d0, ds0, p0, q0, hargs, rfl, rfl, h0, r0⟩ := trodAll_cons hA
  obtain ⟨v1, vs1, d1, ds1, p1, q1, rfl, rfl, rfl, h1, r1⟩ := trodAll_cons r0
  obtain ⟨v2, vs2, d2, ds2, p2, q2, rfl, rfl, rfl, h2, r2⟩ := trodAll_cons r1
  obtain ⟨rfl, rfl, rfl⟩ := trodAll_nil r2
  obtain rfl : args = #[v0, v1, v2] := by cases args; simp_all
  obtain ⟨rfl, rfl⟩ := trodVars_none hV
  obtain ⟨a0, len0, cap0, rfl⟩ := okWide_slice Try.underlying22 (hval 0 22 v0 rfl rfl)
  have k0 := h0
  have lt0 : ∀ x ∈ p0, x.block < W.heap.size := by obtain ⟨m, hm⟩ := k0; exact DataW.trod_lt m _ _ _ hm
  obtain ⟨z0, w0⟩ : ∃ zs, IsRow .u8 W a0 len0 cap0 zs := by
    obtain ⟨fuel, hf⟩ := h0
    rcases open_ints Try.underlying22 Try.underlying5 (by kernel_rfl) hf with ⟨hcs, _⟩ | ⟨x, l, c, zs, hcs, _, hl, hm, hz, _, hcell, hwz⟩
    · simp [Value.cells] at hcs
      obtain ⟨rfl, rfl, rfl⟩ := hcs
      exact ⟨[], .inl ⟨rfl, rfl, rfl, rfl⟩⟩
    · simp [Value.cells] at hcs
      obtain ⟨rfl, rfl, rfl⟩ := hcs
      exact ⟨zs, .inr ⟨_, rfl, hl, hm, by simpa using hz, hcell, hwz⟩⟩
  obtain ⟨a1, rfl, rfl, rfl, w1⟩ := open_int Try.underlying3 (hval 1 3 v1 rfl rfl) h1
  obtain ⟨a2, rfl, rfl, rfl, w2⟩ := open_int Try.underlying3 (hval 2 3 v2 rfl rfl) h2
  clear hA0 hval0
  refine (walk a0 len0 cap0 z0 a1 a2 W w0 w1 w2).mono fun e W' ⟨he, bel⟩ => ?_
  subst he
  exact ⟨_, rfl, _, _, _, [], _, [], hW', trodAll_mk1 (shut_bool Try.underlying4 _), (trodAll_cons_mk (Below.trod laidOut (by kernel_rfl) (of_decide_eq_true (by kernel_rfl)) k0 bel lt0) (trodAll_cons_mk (shut_int Try.underlying3 w1) (trodAll_cons_mk (shut_int Try.underlying3 w2) trodAll_mk0))), rfl, bel.frame _, fun h => by cases h⟩

theorem over : Rows.sumPartsRow.holds Try.pinned (OpenSpec.ofChange Rows.sumPartsSpec) :=
  OpenClaim.holds_of_wide 3 Try.f3 rfl rfl rfl rfl rfl rfl rfl ⟨rfl, rfl, rfl, rfl, rfl⟩ rfl rfl rfl rfl rfl (by kernel_rfl) Try.func3 (by kernel_rfl)
    (of_decide_eq_true (by kernel_rfl)) (by unfold Func.isWrapper; first | (rw [if_pos (by decide +kernel)]; kernel_rfl) | (rw [if_neg (by decide +kernel)]; exact ⟨rfl, rfl⟩))
    (fun os started H enc _ => lifted os started H enc)

/-- ████ THE STATEMENT ████ -/
theorem proved : Rows.SumPartsSaid := over
#print axioms proved
end Go.Proofs.Ytgcolhcajmbehaa.sumParts
