/- Proved: SumTables returns true for every input, and leaves its arguments as they were; no further condition.
   The frame around the walk was written by the guide's proof-skeleton program. -/
import Derived.Test.YtgcolhcajmbehaaRows
import Derived.Test.YtgcolhcajmbehaaFns
import Derived.Test.YtgcolhcajmbehaaLin2
import Derived.Test.YtgcolhcajmbehaaAid
import Derived.Test.YtgcolhcajmbehaaAid2
import Derived.Deep.RegionHeld3
import Derived.Deep.AppendLies
import Derived.WalkKit
import Derived.ProofKit
import Derived.OpenShut
import Derived.ShutString
import Derived.ChangeOld
import Derived.Below
namespace Go.Proofs.Ytgcolhcajmbehaa.sumTables
open Go.ChangeShapes Go.WideShapes Go.ChangeAt Go.RowKit
open Go.ChangeMaps (open_string shut_string)
set_option linter.unusedVariables false

theorem own : ownKnob Try.prog.godebug = none := by kernel_rfl
theorem laidOut : laidOutB Try.prog = true := by kernel_rfl

/-- WHAT THE WALK IS TOLD OF A SLICE OF INTEGERS THAT CAME IN: it is nil; or it leads to a row of 'cap' cells, the numbers 'zs' (the first 'len' are its elements, the rest its spare room), each fitting its kind. -/
def IsRow (k : IntKind) (w : World) (a : Option Addr) (len cap : Nat) (zs : List Int) : Prop :=
  (a = none ∧ len = 0 ∧ cap = 0 ∧ zs = []) ∨
  ∃ x, a = some x ∧ len ≤ cap ∧ cap ≤ maxLen ∧ zs.length = cap ∧ (∀ i, i < zs.length → w.cell? (x.add i) = some (.int k (zs.getD i 0))) ∧ ∀ n ∈ zs, (Lit.int k n).wf = true

/-! ### STEP 1: THE WALK: the Go text returns true, AND WRITES NOTHING THAT WAS THERE: 'Below w.heap.size w w'' (Derived/Below.lean: '.refl', '.alloc', '.drew', '.setCell' at a new block, '.trans'). Open each 'IsRow' by 'rcases' AHEAD of 'go_enter'; part every test ahead of the walk. -/
set_option maxHeartbeats 16000000 in
set_option maxRecDepth 100000 in
theorem walk (a0 : Option Addr) (len0 cap0 : Nat) (z0 : List Int) (a1 : Option Addr) (len1 cap1 : Nat) (z1 : List Int) (a2 : Int) (w : World) (w0 : IsRow .u8 w a0 len0 cap0 z0) (w1 : IsRow .u8 w a1 len1 cap1 z1) (w2 : (Lit.int .i64 a2).wf = true) :
    Calls Try.prog 4 #[.slice a0 len0 cap0, .slice a1 len1 cap1, .int .i64 a2] w fun e w' => e = .returned (.bool true) ∧ Below w.heap.size w w' := by
  obtain ⟨aa, has, ha256⟩ := bytes_of_row w0
  obtain ⟨bs, hbs, hb256⟩ := bytes_of_row w1
  have HAS := Lib.hid has
  have HBS := Lib.hid hbs
  have HAL := Lib.hid ha256
  have HBL := Lib.hid hb256
  have hla : aa.length = len0 := by
    obtain ⟨_, _, _, _, _, h, _⟩ := has
    simpa [u8s] using h
  have hlb : bs.length = len1 := by
    obtain ⟨_, _, _, _, _, h, _⟩ := hbs
    simpa [u8s] using h
  have HLA := Lib.hid hla
  have HLB := Lib.hid hlb
  have hl0 : len0 ≤ 9223372036854775807 := by
    obtain ⟨A, c, h, h1, h2, _⟩ := has
    unfold maxLen at h2; omega
  have hl1 : len1 ≤ 9223372036854775807 := by
    obtain ⟨A, c, h, h1, h2, _⟩ := hbs
    unfold maxLen at h2; omega
  have hc0 : len0 ≤ cap0 := by
    obtain ⟨A, c, h, h1, h2, _⟩ := has
    injection h with _ _ h
    omega
  have hc1 : len1 ≤ cap1 := by
    obtain ⟨A, c, h, h1, h2, _⟩ := hbs
    injection h with _ _ h
    omega
  clear has hbs ha256 hb256 w0 w1 w2 hla hlb
  obtain ⟨m, hm⟩ : ∃ m : Nat, m = min (min len0 len1) 60 := ⟨_, rfl⟩
  have hm0 : m ≤ len0 := by omega
  have hm1 : m ≤ len1 := by omega
  have hm60 : m ≤ 60 := by omega
  have em1 : (if (60 : Int) < (if (len1 : Int) < (len0 : Int) then (len1 : Int) else (len0 : Int)) then (60 : Int) else (if (len1 : Int) < (len0 : Int) then (len1 : Int) else (len0 : Int))) = (m : Int) := by
    repeat' split
    all_goals omega
  have hmm : ∀ (ats : Array TypeId) (ty : TypeId), Builtin.min_ ats ty #[.int .i64 (len0 : Int), .int .i64 (len1 : Int), .int .i64 60] = pure (.int .i64 (m : Int)) := by
    intro ats ty
    rw [run_min3, em1]
  have HI := Lib.hid Try.info5
  have hmk := fun W => make_eq (P := Try.prog) 22 5 (.int .u8 0) 1 Try.underlying22 HI.out rfl m (by omega) (by omega) W
  clear em1 hm
  go_enter Try.func4, Try.ntmps4
  go_wp2_with fail
  refine (table_any _).mono ?_
  rintro e w1 ⟨vt, rfl, ho, hb⟩
  obtain ⟨gt, ct, rfl, gt0, _⟩ := ho.form (by omega)
  have k0 : w1.cell? ⟨gt, 0, none⟩ = some (.int .u32 0) := by rw [ho.cellAt 0 (by omega), tab_cell (by omega), show entN 0 = 0 from by rw [entN_eq]; decide +kernel]; rfl
  have k128 : w1.cell? ⟨gt, 128, none⟩ = some (.int .u32 3988292384) := by rw [ho.cellAt 128 (by omega), tab_cell (by omega), show entN 128 = 3988292384 from by rw [entN_eq]; decide +kernel]; rfl
  have k1 : w1.cell? ⟨gt, 1, none⟩ = some (.int .u32 1996959894) := by rw [ho.cellAt 1 (by omega), tab_cell (by omega), show entN 1 = 1996959894 from by rw [entN_eq]; decide +kernel]; rfl
  have k255 : w1.cell? ⟨gt, 255, none⟩ = some (.int .u32 755167117) := by rw [ho.cellAt 255 (by omega), tab_cell (by omega), show entN 255 = 755167117 from by rw [entN_eq]; decide +kernel]; rfl
  have HO := Lib.hid ho
  have HB := Lib.hid hb
  have sz := hb.size
  clear ho hb
  go_wp2_with fail
  refine (within_any a2 256 _ (by omega) (by omega)).mono ?_
  rintro e _ ⟨rfl, rfl⟩
  obtain ⟨i, hi⟩ : ∃ i : Nat, (i : Int) = a2 % 256 := ⟨(a2 % 256).toNat, Int.toNat_of_nonneg (Int.emod_nonneg _ (by omega))⟩
  have hi1 : i < 256 := by have := Int.emod_lt_of_pos a2 (b := 256) (by omega); omega
  rw [← hi]
  clear hi k0 k1 k128 k255
  obtain ⟨ei, hei⟩ : ∃ ei, ei = entN i := ⟨_, rfl⟩
  have ki : w1.cell? ⟨gt, i, none⟩ = some (.int .u32 ei) := by rw [HO.out.cellAt i (by omega), tab_cell hi1, hei]
  have fi := HO.out.frozenAt i
  have HEI := Lib.hid hei
  have ii1 : (i : Int) < 256 := by omega
  have ii0 : (0 : Int) ≤ (i : Int) := by omega
  clear hei
  go_wp2_with fail
  refine (table_any _).mono ?_
  rintro e w2 ⟨vu, rfl, ho, hb⟩
  obtain ⟨gu, cu, rfl, gu0, _⟩ := ho.form (by omega)
  have ku : w2.cell? ⟨gu, i, none⟩ = some (.int .u32 ei) := by rw [ho.cellAt i (by omega), tab_cell hi1, HEI.out]
  have HB2 := Lib.hid ((HB.out.setCell (p := ⟨gt, i, none⟩) gt0 _).trans (hb.mono (Nat.le_trans sz (by simp [World.setCell]))))
  have sz2 : w.heap.size ≤ w2.heap.size := Nat.le_trans sz (Nat.le_trans (by simp [World.setCell]) hb.size)
  have HU := Lib.hid (Sl.of_own ho (u32s_one _))
  clear ho hb ki fi HO HB sz HEI
  go_wp2_with fail
  have FC := make_own w2 w.heap.size 5 (.int .u8 0) m sz2 (by unfold maxLen; omega)
  have FZ := make_own (w2.alloc (.cells (madeCells #[.int .u8 0] m) 5)) w.heap.size 5 (.int .u8 0) m (Nat.le_trans sz2 (by simp)) (by unfold maxLen; omega)
  rw [alloc_size, zeros_u8s] at FZ
  rw [zeros_u8s] at FC
  have HC := Lib.hid (FC.alloc (.cells (madeCells #[.int .u8 0] m) 5))
  have HZ := Lib.hid FZ
  have HB3 := Lib.hid ((HB2.out.alloc sz2 (.cells (madeCells #[.int .u8 0] m) 5)).alloc (Nat.le_trans sz2 (by simp)) (.cells (madeCells #[.int .u8 0] m) 5))
  have HU3 := Lib.hid ((HU.out.alloc (.cells (madeCells #[.int .u8 0] m) 5)).alloc (.cells (madeCells #[.int .u8 0] m) 5))
  have hgu := HU.out.lt_of gu rfl (by omega)
  clear FC FZ HB2 HU ku gt0 gu0 ii0 ii1 hi1
  go_region
  · have HC4 := Lib.hid (own_drew HC.out)
    have HZ4 := Lib.hid (Sl.of_own HZ.out (u8s_one _)).drew
    have HB4 := Lib.hid HB3.out.drew
    have HU4 := Lib.hid HU3.out.drew
    clear HC HZ HB3 HU3
    generalize World.drew _ = w4 at *
    generalize w2.heap.size = p at *
    have HU := HU4
    have HZ := HZ4
    clear HU4 HZ4
    have HSO : Hid (w4.ownsRow w.heap.size 5 1 (.slice (some ⟨p, 0, none⟩) m m) m (u8s (so aa bs m 0))) := by rw [so_zero]; exact HC4.out
    clear HC4
    have nz : ¬ p + 1 = p := by omega
    have nu : ¬ gu = p := by omega
    have sz4 : w.heap.size ≤ p := by omega
    go_wp2_with fail
    go_loopw [77] (fun i wr => ∃ k : Nat, k ≤ m ∧ i = .int .i64 k ∧ wr.ownsRow w.heap.size 5 1 (.slice (some ⟨p, 0, none⟩) m m) m (u8s (so aa bs m k)) ∧ Sl wr 1 (.slice (some ⟨p + 1, 0, none⟩) m m) m (u8s (List.replicate m 0)) ∧ Sl wr 1 (.slice (some ⟨gu, 0, none⟩) 256 cu) 256 (u32s (tabN 256)) ∧ Below w.heap.size w wr) (fun i _ => m - (intOf i).toNat)
    case atStart => exact ⟨0, by omega, rfl, HSO.out, HZ.out, HU.out, HB4.out⟩
    case round =>
      clear HSO HZ HU HB4
      obtain ⟨k, hk, rfl, hso, hz, hu, hb⟩ := hrel
      have HSO := Lib.hid hso
      have HZ := Lib.hid hz
      have HU := Lib.hid hu
      have HB := Lib.hid hb
      clear hso hz hu hb
      by_cases hlt : k < m
      · have HA0 := Lib.hid (fun h : w.heap.size ≤ w.heap.size => HAS.out)
        obtain ⟨xa, rfl, ca⟩ := HAS.out.at_ (i := k) (by omega)
        obtain ⟨xb, rfl, cb⟩ := HBS.out.at_ (i := k) (by omega)
        rw [u8s_getD _ _ (by rw [HLA.out]; omega)] at ca
        rw [u8s_getD _ _ (by rw [HLB.out]; omega)] at cb
        have ca2 := (HB.out.cell (World.block_lt_of_cell? w _ ca)).trans ca
        have cb2 := (HB.out.cell (World.block_lt_of_cell? w _ cb)).trans cb
        obtain ⟨xv, hxv⟩ : ∃ xv, xv = aa.getD k 0 := ⟨_, rfl⟩
        obtain ⟨yv, hyv⟩ : ∃ yv, yv = bs.getD k 0 := ⟨_, rfl⟩
        rw [← hxv] at ca2
        rw [← hyv] at cb2
        have hx256 : xv < 256 := hxv ▸ getD_lt HAL.out k
        have hy256 : yv < 256 := hyv ▸ getD_lt HBL.out k
        obtain ⟨zv, hzv⟩ : ∃ zv, zv = xv ^^^ yv := ⟨_, rfl⟩
        have exy : bits BinOp.xor IntKind.u8 (xv : Int) (yv : Int) = (zv : Int) := by rw [hzv]; exact bits_xor_u8 xv yv hx256 hy256
        have hset := so_set aa bs m k (by rw [HLA.out]; omega) (by rw [HLB.out]; omega) hlt
        rw [← hxv, ← hyv, ← hzv] at hset
        have HST := Lib.hid hset
        obtain ⟨cv, kc⟩ : ∃ cv, wr.cell? ⟨p, k, none⟩ = some cv := own_cell HSO.out hlt
        have fc := HSO.out.frozenAt k
        have k1 : (k : Int) < (m : Int) := by omega
        have k2 : (k : Int) < (len0 : Int) := by omega
        have k3 : (k : Int) < (len1 : Int) := by omega
        have k0 : (0 : Int) ≤ (k : Int) := by omega
        clear ca cb hset hxv hyv hzv HA0
        go_wp2_with fail
        go_region
        have F5 : Frm (· = p) wr (wr.setCell ⟨p, k, none⟩ (.int .u8 zv)).drew := ((Frm.refl _ _).setg _).drew
        have HSO5 : Hid ((wr.setCell ⟨p, k, none⟩ (.int .u8 zv)).drew.ownsRow w.heap.size 5 1 (.slice (some ⟨p, 0, none⟩) m m) m (u8s (so aa bs m (k + 1)))) := by
          have h1 := (HSO.out.stored k (.int .u8 zv)).1
          rw [u8s_set, HST.out] at h1
          exact h1
        generalize (wr.setCell ⟨p, k, none⟩ (.int .u8 zv)).drew = w5 at *
        have HZ5 := Lib.hid (HZ.out.frm F5 (by intro g hg e; injection hg with hg; simp only at hg; omega))
        have HU5 := Lib.hid (HU.out.frm F5 (by intro g hg e; injection hg with hg; simp only at hg; omega))
        have HB5 := Lib.hid (Frm.below HB.out F5 HB.out.size (by rintro j rfl; exact sz4))
        clear F5 ca2 cb2 kc fc
        go_wp2_with fail
        go_roundw
        case rel => exact ⟨k + 1, by omega, by go_num, HSO5.out, HZ5.out, HU5.out, HB5.out⟩
        case measure => simp [intOf]; omega
      · obtain rfl : k = m := by omega
        have HC := Lib.hid (Sl.of_own HSO.out (u8s_one _))
        have HA := Lib.hid (show Sl _ 1 _ k (u8s (aa.take k)) from u8s_take aa k ▸ (HAS.out.below (HB.out.mono (Nat.le_refl _))).take hm0)
        have HBb := Lib.hid (show Sl _ 1 _ k (u8s (bs.take k)) from u8s_take bs k ▸ (HBS.out.below (HB.out.mono (Nat.le_refl _))).take hm1)
        clear HSO
        obtain ⟨oa, hoa⟩ : ∃ o, o = ofN (tabN 256) (aa.take k) := ⟨_, rfl⟩
        obtain ⟨ob, hob⟩ : ∃ o, o = ofN (tabN 256) (bs.take k) := ⟨_, rfl⟩
        obtain ⟨oc, hoc⟩ : ∃ o, o = ofN (tabN 256) (so aa bs k k) := ⟨_, rfl⟩
        obtain ⟨oz, hoz⟩ : ∃ o, o = ofN (tabN 256) (List.replicate k 0) := ⟨_, rfl⟩
        have hlea : (aa.take k).length = k := by rw [List.length_take, HLA.out]; omega
        have hleb : (bs.take k).length = k := by rw [List.length_take, HLB.out]; omega
        have LA := Lib.hid (take_lt k HAL.out)
        have LB := Lib.hid (take_lt k HBL.out)
        have LC := Lib.hid (by rw [so_all]; exact zip_lt _ _ LA.out LB.out : ∀ x ∈ so aa bs k k, x < 256)
        have LZ := Lib.hid (show ∀ x ∈ List.replicate k 0, x < 256 by simp)
        have LN := Lib.hid (show ∀ x ∈ ([] : List Nat), x < 256 by simp)
        have TL := tabN_lt 256 (Nat.le_refl _)
        have ha := of_lt TL (aa.take k)
        have hb := of_lt TL (bs.take k)
        have hc := of_lt TL (so aa bs k k)
        have hz := of_lt TL (List.replicate k 0)
        have h3 := of_three (aa.take k) (bs.take k) (by rw [hlea, hleb]) LA.out LB.out
        rw [hlea, ← so_all, ← hoa, ← hob, ← hoc, ← hoz] at h3
        rw [← hoa] at ha
        rw [← hob] at hb
        rw [← hoc] at hc
        rw [← hoz] at hz
        have e1 : bits BinOp.xor IntKind.u32 (oa : Int) (ob : Int) = ((oa ^^^ ob : Nat) : Int) := bits_xor_u32 oa ob ha hb
        have e2 : bits BinOp.xor IntKind.u32 (oc : Int) (oz : Int) = ((oa ^^^ ob : Nat) : Int) := by rw [h3]; exact bits_xor_u32 oc oz hc hz
        generalize oa ^^^ ob = oo at e1 e2
        have n0 : 0 = ofN (tabN 256) [] := by rw [of_eq, upN_nil, Nat.xor_self]
        have N0 := Lib.hid n0
        have HTL := Lib.hid TL
        have Ha := Lib.hid hoa
        have Hb := Lib.hid hob
        have Hc := Lib.hid hoc
        have Hz := Lib.hid hoz
        have HN := fun W => Lib.hid (Sl.nil W 1)
        have m0 : (0 : Int) ≤ (k : Int) := by omega
        have m1 : (k : Int) ≤ (len0 : Int) := by omega
        have m2 : (k : Int) ≤ (len1 : Int) := by omega
        have m3 : (k : Int) ≤ (cap0 : Int) := by omega
        have m4 : (k : Int) ≤ (cap1 : Int) := by omega
        clear ha hb hc hz h3 n0 TL hoa hob hoc hoz hlea hleb hmk hmm HAS HBS
        go_wp2_with fail
        go_region_held3 (fun _ => True) (trivial) (first | (go_at_call 8; (with_reducible refine (of_val _ _ _ 256 k (tabN 256) (aa.take k) oa HU.out.drew HA.out.drew rfl HTL.out LA.out Ha.out).mono ?_); rintro e _ ⟨rfl, rfl⟩) | (go_at_call 8; (with_reducible refine (of_val _ _ _ 256 k (tabN 256) (bs.take k) ob HU.out.drew HBb.out.drew rfl HTL.out LB.out Hb.out).mono ?_); rintro e _ ⟨rfl, rfl⟩) | (go_at_call 8; (with_reducible refine (of_val _ _ _ 256 k (tabN 256) (so aa bs k k) oc HU.out.drew HC.out.drew rfl HTL.out LC.out Hc.out).mono ?_); rintro e _ ⟨rfl, rfl⟩) | (go_at_call 8; (with_reducible refine (of_val _ _ _ 256 k (tabN 256) (List.replicate k 0) oz HU.out.drew HZ.out.drew rfl HTL.out LZ.out Hz.out).mono ?_); rintro e _ ⟨rfl, rfl⟩) | (go_at_call 8; (with_reducible refine (of_val _ _ _ 256 0 (tabN 256) [] 0 HU.out.drew (HN _).out rfl HTL.out LN.out N0.out).mono ?_); rintro e _ ⟨rfl, rfl⟩) | (go_at_call 11; (with_reducible refine (wakes_any _).mono ?_); rintro e wk ⟨rfl, hbk⟩; have HK := Lib.hid (Below.trans (Below.drew HB.out) (hbk.mono HB.out.size)); clear hbk))
        go_wp2_with fail
        go_ret
        exact ⟨rfl, HK.out⟩
  · have HC4 := Lib.hid (own_drew HZ.out)
    have HZ4 := Lib.hid (Sl.of_own HC.out (u8s_one _)).drew
    have HB4 := Lib.hid HB3.out.drew
    have HU4 := Lib.hid HU3.out.drew
    clear HC HZ HB3 HU3
    generalize World.drew _ = w4 at *
    generalize w2.heap.size = p at *
    have HU := HU4
    have HZ := HZ4
    clear HU4 HZ4
    have HSO : Hid (w4.ownsRow w.heap.size 5 1 (.slice (some ⟨p + 1, 0, none⟩) m m) m (u8s (so aa bs m 0))) := by rw [so_zero]; exact HC4.out
    clear HC4
    have nz : ¬ p = p + 1 := by omega
    have nu : ¬ gu = p + 1 := by omega
    have sz4 : w.heap.size ≤ p + 1 := by omega
    go_wp2_with fail
    go_loopw [77] (fun i wr => ∃ k : Nat, k ≤ m ∧ i = .int .i64 k ∧ wr.ownsRow w.heap.size 5 1 (.slice (some ⟨p + 1, 0, none⟩) m m) m (u8s (so aa bs m k)) ∧ Sl wr 1 (.slice (some ⟨p, 0, none⟩) m m) m (u8s (List.replicate m 0)) ∧ Sl wr 1 (.slice (some ⟨gu, 0, none⟩) 256 cu) 256 (u32s (tabN 256)) ∧ Below w.heap.size w wr) (fun i _ => m - (intOf i).toNat)
    case atStart => exact ⟨0, by omega, rfl, HSO.out, HZ.out, HU.out, HB4.out⟩
    case round =>
      clear HSO HZ HU HB4
      obtain ⟨k, hk, rfl, hso, hz, hu, hb⟩ := hrel
      have HSO := Lib.hid hso
      have HZ := Lib.hid hz
      have HU := Lib.hid hu
      have HB := Lib.hid hb
      clear hso hz hu hb
      by_cases hlt : k < m
      · have HA0 := Lib.hid (fun h : w.heap.size ≤ w.heap.size => HAS.out)
        obtain ⟨xa, rfl, ca⟩ := HAS.out.at_ (i := k) (by omega)
        obtain ⟨xb, rfl, cb⟩ := HBS.out.at_ (i := k) (by omega)
        rw [u8s_getD _ _ (by rw [HLA.out]; omega)] at ca
        rw [u8s_getD _ _ (by rw [HLB.out]; omega)] at cb
        have ca2 := (HB.out.cell (World.block_lt_of_cell? w _ ca)).trans ca
        have cb2 := (HB.out.cell (World.block_lt_of_cell? w _ cb)).trans cb
        obtain ⟨xv, hxv⟩ : ∃ xv, xv = aa.getD k 0 := ⟨_, rfl⟩
        obtain ⟨yv, hyv⟩ : ∃ yv, yv = bs.getD k 0 := ⟨_, rfl⟩
        rw [← hxv] at ca2
        rw [← hyv] at cb2
        have hx256 : xv < 256 := hxv ▸ getD_lt HAL.out k
        have hy256 : yv < 256 := hyv ▸ getD_lt HBL.out k
        obtain ⟨zv, hzv⟩ : ∃ zv, zv = xv ^^^ yv := ⟨_, rfl⟩
        have exy : bits BinOp.xor IntKind.u8 (xv : Int) (yv : Int) = (zv : Int) := by rw [hzv]; exact bits_xor_u8 xv yv hx256 hy256
        have hset := so_set aa bs m k (by rw [HLA.out]; omega) (by rw [HLB.out]; omega) hlt
        rw [← hxv, ← hyv, ← hzv] at hset
        have HST := Lib.hid hset
        obtain ⟨cv, kc⟩ : ∃ cv, wr.cell? ⟨p + 1, k, none⟩ = some cv := own_cell HSO.out hlt
        have fc := HSO.out.frozenAt k
        have k1 : (k : Int) < (m : Int) := by omega
        have k2 : (k : Int) < (len0 : Int) := by omega
        have k3 : (k : Int) < (len1 : Int) := by omega
        have k0 : (0 : Int) ≤ (k : Int) := by omega
        clear ca cb hset hxv hyv hzv HA0
        go_wp2_with fail
        go_region
        have F5 : Frm (· = p + 1) wr (wr.setCell ⟨p + 1, k, none⟩ (.int .u8 zv)).drew := ((Frm.refl _ _).setg _).drew
        have HSO5 : Hid ((wr.setCell ⟨p + 1, k, none⟩ (.int .u8 zv)).drew.ownsRow w.heap.size 5 1 (.slice (some ⟨p + 1, 0, none⟩) m m) m (u8s (so aa bs m (k + 1)))) := by
          have h1 := (HSO.out.stored k (.int .u8 zv)).1
          rw [u8s_set, HST.out] at h1
          exact h1
        generalize (wr.setCell ⟨p + 1, k, none⟩ (.int .u8 zv)).drew = w5 at *
        have HZ5 := Lib.hid (HZ.out.frm F5 (by intro g hg e; injection hg with hg; simp only at hg; omega))
        have HU5 := Lib.hid (HU.out.frm F5 (by intro g hg e; injection hg with hg; simp only at hg; omega))
        have HB5 := Lib.hid (Frm.below HB.out F5 HB.out.size (by rintro j rfl; exact sz4))
        clear F5 ca2 cb2 kc fc
        go_wp2_with fail
        go_roundw
        case rel => exact ⟨k + 1, by omega, by go_num, HSO5.out, HZ5.out, HU5.out, HB5.out⟩
        case measure => simp [intOf]; omega
      · obtain rfl : k = m := by omega
        have HC := Lib.hid (Sl.of_own HSO.out (u8s_one _))
        have HA := Lib.hid (show Sl _ 1 _ k (u8s (aa.take k)) from u8s_take aa k ▸ (HAS.out.below (HB.out.mono (Nat.le_refl _))).take hm0)
        have HBb := Lib.hid (show Sl _ 1 _ k (u8s (bs.take k)) from u8s_take bs k ▸ (HBS.out.below (HB.out.mono (Nat.le_refl _))).take hm1)
        clear HSO
        obtain ⟨oa, hoa⟩ : ∃ o, o = ofN (tabN 256) (aa.take k) := ⟨_, rfl⟩
        obtain ⟨ob, hob⟩ : ∃ o, o = ofN (tabN 256) (bs.take k) := ⟨_, rfl⟩
        obtain ⟨oc, hoc⟩ : ∃ o, o = ofN (tabN 256) (so aa bs k k) := ⟨_, rfl⟩
        obtain ⟨oz, hoz⟩ : ∃ o, o = ofN (tabN 256) (List.replicate k 0) := ⟨_, rfl⟩
        have hlea : (aa.take k).length = k := by rw [List.length_take, HLA.out]; omega
        have hleb : (bs.take k).length = k := by rw [List.length_take, HLB.out]; omega
        have LA := Lib.hid (take_lt k HAL.out)
        have LB := Lib.hid (take_lt k HBL.out)
        have LC := Lib.hid (by rw [so_all]; exact zip_lt _ _ LA.out LB.out : ∀ x ∈ so aa bs k k, x < 256)
        have LZ := Lib.hid (show ∀ x ∈ List.replicate k 0, x < 256 by simp)
        have LN := Lib.hid (show ∀ x ∈ ([] : List Nat), x < 256 by simp)
        have TL := tabN_lt 256 (Nat.le_refl _)
        have ha := of_lt TL (aa.take k)
        have hb := of_lt TL (bs.take k)
        have hc := of_lt TL (so aa bs k k)
        have hz := of_lt TL (List.replicate k 0)
        have h3 := of_three (aa.take k) (bs.take k) (by rw [hlea, hleb]) LA.out LB.out
        rw [hlea, ← so_all, ← hoa, ← hob, ← hoc, ← hoz] at h3
        rw [← hoa] at ha
        rw [← hob] at hb
        rw [← hoc] at hc
        rw [← hoz] at hz
        have e1 : bits BinOp.xor IntKind.u32 (oa : Int) (ob : Int) = ((oa ^^^ ob : Nat) : Int) := bits_xor_u32 oa ob ha hb
        have e2 : bits BinOp.xor IntKind.u32 (oc : Int) (oz : Int) = ((oa ^^^ ob : Nat) : Int) := by rw [h3]; exact bits_xor_u32 oc oz hc hz
        generalize oa ^^^ ob = oo at e1 e2
        have n0 : 0 = ofN (tabN 256) [] := by rw [of_eq, upN_nil, Nat.xor_self]
        have N0 := Lib.hid n0
        have HTL := Lib.hid TL
        have Ha := Lib.hid hoa
        have Hb := Lib.hid hob
        have Hc := Lib.hid hoc
        have Hz := Lib.hid hoz
        have HN := fun W => Lib.hid (Sl.nil W 1)
        have m0 : (0 : Int) ≤ (k : Int) := by omega
        have m1 : (k : Int) ≤ (len0 : Int) := by omega
        have m2 : (k : Int) ≤ (len1 : Int) := by omega
        have m3 : (k : Int) ≤ (cap0 : Int) := by omega
        have m4 : (k : Int) ≤ (cap1 : Int) := by omega
        clear ha hb hc hz h3 n0 TL hoa hob hoc hoz hlea hleb hmk hmm HAS HBS
        go_wp2_with fail
        go_region_held3 (fun _ => True) (trivial) (first | (go_at_call 8; (with_reducible refine (of_val _ _ _ 256 k (tabN 256) (aa.take k) oa HU.out.drew HA.out.drew rfl HTL.out LA.out Ha.out).mono ?_); rintro e _ ⟨rfl, rfl⟩) | (go_at_call 8; (with_reducible refine (of_val _ _ _ 256 k (tabN 256) (bs.take k) ob HU.out.drew HBb.out.drew rfl HTL.out LB.out Hb.out).mono ?_); rintro e _ ⟨rfl, rfl⟩) | (go_at_call 8; (with_reducible refine (of_val _ _ _ 256 k (tabN 256) (so aa bs k k) oc HU.out.drew HC.out.drew rfl HTL.out LC.out Hc.out).mono ?_); rintro e _ ⟨rfl, rfl⟩) | (go_at_call 8; (with_reducible refine (of_val _ _ _ 256 k (tabN 256) (List.replicate k 0) oz HU.out.drew HZ.out.drew rfl HTL.out LZ.out Hz.out).mono ?_); rintro e _ ⟨rfl, rfl⟩) | (go_at_call 8; (with_reducible refine (of_val _ _ _ 256 0 (tabN 256) [] 0 HU.out.drew (HN _).out rfl HTL.out LN.out N0.out).mono ?_); rintro e _ ⟨rfl, rfl⟩) | (go_at_call 11; (with_reducible refine (wakes_any _).mono ?_); rintro e wk ⟨rfl, hbk⟩; have HK := Lib.hid (Below.trans (Below.drew HB.out) (hbk.mono HB.out.size)); clear hbk))
        go_wp2_with fail
        go_ret
        exact ⟨rfl, HK.out⟩

/-! ### THE ROW's STEP: WRITTEN OUT: LEAVE IT -/
set_option maxRecDepth 100000 in
theorem lifted (os : Os) (started : os.Started) (H : Type) (enc : TypeId × Value → H) :
    ReturnsInHanded {} Try.checked os 4 .any (Rows.sumTablesSpec.pre6 enc Try.prog Try.f4 Rows.sumTablesRow.domain false) (Rows.sumTablesSpec.post enc Try.prog Try.f4 false true false false) := by
  refine returnsInHanded_of_change (C := Try.checked) own started (by kernel_rfl) Try.func4
    (ChangeSpec.witness6 (enc := enc) (C := Try.checked) false ⟨#[], #[.slice none 0 0, .slice none 0 0, .int .i64 0], []⟩ 8 (by kernel_rfl) (by kernel_rfl) (by kernel_rfl) (by kernel_rfl)) ?_
  intro W base args ds gs before hval0 hW hcnd _
  have hval : ∀ (j : Nat) t v, Try.f4.params[j]? = some t → args[j]? = some v → Value.okWide Try.prog W .any base t v := hval0
  have hW' := hW
  obtain ⟨p, q, hA0, hV, rfl, hfz, hnd⟩ := hW
  have hA : DataW.TrodAll enc Try.prog W 0 (fun _ => true) true Try.f4.params.toList args.toList ds p := hA0
  rw [Try.params4] at hA hval
  obtain ⟨v0, vs0, d0, ds0, p0, q0, hargs, rfl, rfl, h0, r0⟩ := trodAll_cons hA
  obtain ⟨v1, vs1, d1, ds1, p1, q1, rfl, rfl, rfl, h1, r1⟩ := trodAll_cons r0
  obtain ⟨v2, vs2, d2, ds2, p2, q2, rfl, rfl, rfl, h2, r2⟩ := trodAll_cons r1
  obtain ⟨rfl, rfl, rfl⟩ := trodAll_nil r2
  obtain rfl : args = #[v0, v1, v2] := by cases args; simp_all
  obtain ⟨rfl, rfl⟩ := trodVars_none hV
  obtain ⟨a0, len0, cap0, rfl⟩ := okWide_slice Try.underlying22 (hval 0 22 v0 rfl rfl)
  have k0 := h0
  have lt0 : ∀ x ∈ p0, x.block < W.heap.size := by obtain ⟨m, hm⟩ := k0; exact DataW.trod_lt m _ _ _ hm
  obtain ⟨z0, w0⟩ : ∃ zs, IsRow .u8 W a0 len0 cap0 zs := by
    obtain ⟨fuel, hf⟩ := h0
    rcases open_ints Try.underlying22 Try.underlying5 (by kernel_rfl) hf with ⟨hcs, _⟩ | ⟨x, l, c, zs, hcs, _, hl, hm, hz, _, hcell, hwz⟩
    · simp [Value.cells] at hcs
      obtain ⟨rfl, rfl, rfl⟩ := hcs
      exact ⟨[], .inl ⟨rfl, rfl, rfl, rfl⟩⟩
    · simp [Value.cells] at hcs
      obtain ⟨rfl, rfl, rfl⟩ := hcs
      exact ⟨zs, .inr ⟨_, rfl, hl, hm, by simpa using hz, hcell, hwz⟩⟩
  obtain ⟨a1, len1, cap1, rfl⟩ := okWide_slice Try.underlying22 (hval 1 22 v1 rfl rfl)
  have k1 := h1
  have lt1 : ∀ x ∈ p1, x.block < W.heap.size := by obtain ⟨m, hm⟩ := k1; exact DataW.trod_lt m _ _ _ hm
  obtain ⟨z1, w1⟩ : ∃ zs, IsRow .u8 W a1 len1 cap1 zs := by
    obtain ⟨fuel, hf⟩ := h1
    rcases open_ints Try.underlying22 Try.underlying5 (by kernel_rfl) hf with ⟨hcs, _⟩ | ⟨x, l, c, zs, hcs, _, hl, hm, hz, _, hcell, hwz⟩
    · simp [Value.cells] at hcs
      obtain ⟨rfl, rfl, rfl⟩ := hcs
      exact ⟨[], .inl ⟨rfl, rfl, rfl, rfl⟩⟩
    · simp [Value.cells] at hcs
      obtain ⟨rfl, rfl, rfl⟩ := hcs
      exact ⟨zs, .inr ⟨_, rfl, hl, hm, by simpa using hz, hcell, hwz⟩⟩
  obtain ⟨a2, rfl, rfl, rfl, w2⟩ := open_int Try.underlying3 (hval 2 3 v2 rfl rfl) h2
  clear hA0 hval0
  refine (walk a0 len0 cap0 z0 a1 len1 cap1 z1 a2 W w0 w1 w2).mono fun e W' ⟨he, bel⟩ => ?_
  subst he
  exact ⟨_, rfl, _, _, _, [], _, [], hW', trodAll_mk1 (shut_bool Try.underlying4 _), (trodAll_cons_mk (Below.trod laidOut (by kernel_rfl) (of_decide_eq_true (by kernel_rfl)) k0 bel lt0) (trodAll_cons_mk (Below.trod laidOut (by kernel_rfl) (of_decide_eq_true (by kernel_rfl)) k1 bel lt1) (trodAll_cons_mk (shut_int Try.underlying3 w2) trodAll_mk0))), rfl, bel.frame _, fun h => by cases h⟩

theorem over : Rows.sumTablesRow.holds Try.pinned (OpenSpec.ofChange Rows.sumTablesSpec) :=
  OpenClaim.holds_of_wide 4 Try.f4 rfl rfl rfl rfl rfl rfl rfl ⟨rfl, rfl, rfl, rfl, rfl⟩ rfl rfl rfl rfl rfl (by kernel_rfl) Try.func4 (by kernel_rfl)
    (of_decide_eq_true (by kernel_rfl)) (by unfold Func.isWrapper; first | (rw [if_pos (by decide +kernel)]; kernel_rfl) | (rw [if_neg (by decide +kernel)]; exact ⟨rfl, rfl⟩))
    (fun os started H enc _ => lifted os started H enc)

/-- ████ THE STATEMENT ████ -/
theorem proved : Rows.SumTablesSaid := over
#print axioms proved
end Go.Proofs.Ytgcolhcajmbehaa.sumTables
