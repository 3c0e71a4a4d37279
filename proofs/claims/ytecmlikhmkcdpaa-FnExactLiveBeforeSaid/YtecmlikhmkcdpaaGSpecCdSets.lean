/- Contracts: spec_cdSets, bwiter, lifting, impl_liveSets. -/
import Derived.Test.YtecmlikhmkcdpaaGK
import Derived.Test.YtecmlikhmkcdpaaGSpecCdShape
import Derived.Test.YtecmlikhmkcdpaaGSpecL1Put
import Derived.Test.YtecmlikhmkcdpaaGImplIsCodeC1
import Derived.Test.YtecmlikhmkcdpaaGImplInstrReads
import Derived.Deep.RegionWith
import Derived.LoopIn
import Derived.LoopNIn
import Derived.OrdersIn
import Derived.OwnWalkIn
import Derived.RangeFuncBound
import Derived.RangeFuncCalls
import Derived.RangeFuncLeaves
import Derived.RangeFuncNested
import Derived.RegionIn
import Derived.Shelf.Abstract
import Derived.Shelf.RegionOpen
import Derived.TacticsInMore
namespace Go.Proofs.Ytecmlikhmkcdpaa.G
open Go.RowKit Go.Proofs.YtecmlikhmkcdpaaW.PrintWords Go.Proofs.YtecmlikhmkcdpaaW.PrintLast Go.Proofs.YtecmlikhmkcdpaaW.PrintMore
attribute [local go_sem] max2_int min2_int max_two min_two max_three min_three max_four min_four   -- for this text's walks alone
set_option linter.unusedVariables false
set_option linter.unusedSimpArgs false

/-! ### spec_cdSets: function 98 -/
def spec_cdSets.l0 : Nat → List (S67) → List (List Int) → Int → Option ((List (List Int)))
 | 0, _, _, _ => none
 | k + 1, x0, x5, x6 => if x6 ≥ 0 then (if 0 ≤ x6 then (if x6 < (x0.length : Int) then (if 0 < (x5.length : Int) then ((spec_cdBefore.f k ((rd_T67 x0 x6).f0) ((rd_T67 x0 x6).f1) ((rd_T67 x0 x6).f2) ((rd_T67 x0 x6).f3) ((rd_T67 x0 x6).f4) (rd_L4 x5 0)).bind fun t226 => ((some (([t226] : List (List Int)) : List (List Int))).bind fun y229 => (if y229.length + x5.length < 5864062014805 then (spec_cdSets.l0 k x0 (y229 ++ x5) (wrap64 (x6 - 1))) else (none)))) else (none)) else (none)) else (none)) else (some x5)
def spec_cdSets.f (k : Nat) (l0 : List (S67)) (l1 : List Int) : Option ((List (List Int))) := (spec_l1Own.f l1).bind fun t218 => (spec_cdSets.l0 k l0 (([t218] : List (List Int))) (wrap64 ((l0.length : Int) - 1)))
theorem spec_cdSets.mono_l : ∀ k, (∀ y0 y1 y2, LeO (spec_cdSets.l0 k y0 y1 y2) (spec_cdSets.l0 (k + 1) y0 y1 y2))
 | 0 => fun _ _ _ r h => by simp [spec_cdSets.l0] at h
 | k + 1 => by
  have ih0 := spec_cdSets.mono_l k
  ·intro y0 y1 y2
   unfold spec_cdSets.l0
   repeat' first
   | (with_reducible exact ih0 _ _ _)
   | (with_reducible exact spec_cdBefore.mono _ _ _ _ _ _ _)
   | (with_reducible exact LeO.refl _)
   | (with_reducible exact LeO.none _)
   | (with_reducible refine LeO.ite ?_ ?_)
   | (with_reducible refine LeO.bind ?_ (fun _ => ?_))
   | exact ih0 _ _ _
   | exact spec_cdBefore.mono _ _ _ _ _ _ _
   | exact LeO.none _
   | refine LeO.ite ?_ ?_
   | refine LeO.bind ?_ (fun _ => ?_)
theorem spec_cdSets.mono : ∀ a0 a1 k, LeO (spec_cdSets.f k a0 a1) (spec_cdSets.f (k + 1) a0 a1) := by
 intro a0 a1 k
 have ih0 := spec_cdSets.mono_l k
 unfold spec_cdSets.f
 repeat' first
   | (with_reducible exact ih0 _ _ _)
   | (with_reducible exact spec_cdBefore.mono _ _ _ _ _ _ _)
   | (with_reducible exact LeO.refl _)
   | (with_reducible exact LeO.none _)
   | (with_reducible refine LeO.ite ?_ ?_)
   | (with_reducible refine LeO.bind ?_ (fun _ => ?_))
   | exact ih0 _ _ _
   | exact spec_cdBefore.mono _ _ _ _ _ _ _
   | exact LeO.none _
   | refine LeO.ite ?_ ?_
   | refine LeO.bind ?_ (fun _ => ?_)
def spec_cdSets.T5 : Bool × List (List Nat × List Nat) := (true, [([], []), ([], []), ([0, 1], [0, 1]), ([2], [2]), ([], []), ([4], [4]), ([5], [5]), ([3, 6], [3, 6]), ([7], [7]), ([], []), ([8, 9, 7], [8, 9]), ([10, 10, 0, 1, 2, 3, 4, 5, 6, 7, 8, 9, 10], [4, 9, 10])])
def spec_cdSets.B5 : List Nat := [0, 0, 3, 7, 0, 16, 48, 127, 255, 0, 1023, 2047]
theorem spec_cdSets.tab5 : rtab .any (opsOf Try.f98 5) = spec_cdSets.T5 := by kernel_rfl
theorem spec_cdSets.bits5 : waitsOk spec_cdSets.T5.2 spec_cdSets.B5 = true := by kernel_rfl
set_option maxHeartbeats 8000000 in
set_option maxRecDepth 100000 in
theorem spec_cdSets.calls (k : Nat) (A0 : Option Addr) (c0 : Nat) (l0 : List (S67)) (A1 : Option Addr) (c1 : Nat) (l1 : List Int) (r : List (List Int)) (w : World) (hr0 : Kd.C k67 w A0 l0.length l0) (hc0 : l0.length ≤ c0) (hr1 : Kd.C (Kd.int .i64) w A1 l1.length l1) (hc1 : l1.length ≤ c1) (h : spec_cdSets.f k l0 l1 = some r) :
  Calls Try.prog 98 #[.slice A0 l0.length c0, .slice A1 l1.length c1] w fun e w' => ∃ v0_ : Value, e = .returned (v0_) ∧ Kd.N (Kd.slice 3 (Kd.int .i64)) 40 w' w.heap.size (fun k_ => (w.heap.size ≤ k_)) v0_ r ∧ Below w.heap.size w w' := by
 have hu67 := Try.underlying67
 have HR0 := zK hr0
 have HC0 := zK hc0
 clear hr0 hc0
 have HR1 := zK hr1
 have HC1 := zK hc1
 clear hr1 hc1
 have HB := zK (Below.refl w.heap.size w)
 have H : ((spec_l1Own.f l1).bind fun t218 => (spec_cdSets.l0 k l0 (([t218] : List (List Int))) (wrap64 ((l0.length : Int) - 1)))) = some r := h
 clear h
 replace H := Option.bind_eq_some_iff.mp H
 obtain ⟨t218, A30, H⟩ := H
 replace H : (spec_cdSets.l0 k l0 (([t218] : List (List Int))) (wrap64 ((l0.length : Int) - 1))) = some r := H
 have A3 := zK A30
 clear A30
 obtain ⟨y221, hy221⟩ : ∃ y_ : List (List Int), y_ = (([t218] : List (List Int))) := ⟨_, rfl⟩
 replace H : (spec_cdSets.l0 k l0 y221 (wrap64 ((l0.length : Int) - 1))) = some r := by first | (rw [hy221]; with_reducible exact H) | (have H2_ := (Option.bind_some _ _).symm.trans H; rw [hy221]; with_reducible exact H2_) | (have H2_ := (Option.bind_some _ _).symm.trans H; with_reducible exact H2_) | with_reducible exact H | (rw [hy221]; exact H) | exact H
 have Ny221 := zK hy221
 clear hy221
 have H' := zK H
 clear H
 go_enter Try.func98, Try.ntmps98
 go_wp2_with (first | ((with_reducible refine gate_callee (f := 76) rfl ?_); refine goesL_ (some 8) rfl rfl Try.func76 (by kernel_rfl) rfl #[.slice A1 l1.length c1] rfl (by (try simp only [z6, z7, z8]); first | done | rfl | (simp only [z4, z5]; rfl)) ?_; (with_reducible refine (spec_l1Own.calls _ _ l1 t218 _ ?side1 ?side2 A3.out).mono ?_); (case side1 => repeat (first | exact HR1.out | (with_reducible refine Kd.C_alloc ?_ _) | (with_reducible refine Kd.C_drewN ?_ _) | (with_reducible refine Kd.C_drew ?_))); (case side2 => exact HC1.out); rintro e w4 ⟨v219, rfl, ho0, hb⟩; refine ⟨_, rfl, ?_⟩; have n0_ := zK (Kd.R_lower (Kd.R_newM (M := fun k_ => (w.heap.size ≤ k_)) ho0 (zN (by repeat (first | (with_reducible first | exact HB.out | apply zA | apply zB | apply zC) | exact HB.out))) (fun k_ h_ => h_)) (zN (by repeat (first | (with_reducible first | exact HB.out | apply zA | apply zB | apply zC) | exact HB.out)))); have n1_ := zK (zL (by repeat (first | (with_reducible first | exact HB.out | apply zA | apply zB | apply zC) | exact HB.out)) hb); clear HB; have HO220 := n0_; have HB := n1_; clear n0_ n1_; (try clear hb); (try clear hb2); (try clear hk); (try clear hi); (try clear ho0); obtain ⟨Ao5, co5, eo5⟩ := Kd.R_slice HO220.out; subst eo5) | ((with_reducible refine gate_dst (N := 9) rfl ?_); refine Kd.N_lit (Kd.slice 3 (Kd.int .i64)) _ 40 ?hg (N' := 9) ?hd (xs := ([t218] : List (List Int))) (inner := [.slice Ao5 t218.length co5]) (ok := (fun k_ => (w.heap.size ≤ k_))) (okp := (fun k_ => (w.heap.size ≤ k_))) ?hr ?hp (fun _ hk => hk) ((show ∀ k_, w4.heap.size ≤ k_ → (fun k_ => (w.heap.size ≤ k_)) k_ from fun k_ hk => (Nat.le_trans (zN (by repeat (first | (with_reducible first | exact HB.out | apply zA | apply zB | apply zC) | exact HB.out))) hk)) _ (Nat.le_refl _)) (Below.refl _ _) (Nat.le_refl _) (by simp) ?_; (case hd => rfl); (case hg => rfl); (case hr => first | (go_simp; done) | (go_simp; rfl)); (case hp => exact (Reps.one (show Kd.FK (Kd.slice 3 (Kd.int .i64)) _ _ t218 [.slice Ao5 t218.length co5] from (Kd.FK_slice_mk (Kd.R_reads' (Kd.R_mono (ok' := (fun k_ => (w.heap.size ≤ k_))) (HO220.out) (fun k_ hk => hk.1))).2.1 (Kd.R_F (Kd.R_mono (ok' := (fun k_ => (w.heap.size ≤ k_))) (HO220.out) (fun k_ hk => hk.1))))) (Reps.none _ _))); intro v222 w6 ho7 hb hg_ hnew_; clear hg_ hnew_; (first | rw [← Ny221.out] at ho7 | (simp only [Int.reduceToNat] at ho7; rw [← Ny221.out] at ho7)); have n0_ := zK (Kd.N_lower ho7 (zN (by repeat (first | (with_reducible first | exact HB.out | apply zA | apply zB | apply zC) | exact HB.out)))); have n1_ := zK (zL (by repeat (first | (with_reducible first | exact HB.out | apply zA | apply zB | apply zC) | exact HB.out)) hb); clear HB; clear HO220; have HO223 := n0_; have HB := n1_; clear n0_ n1_; clear hb ho7))
 go_loopg [5, 6] k (fun kq v5 v6 w' => ∃ (x5_1 : List (List Int)) (x6_1 : Int), v6 = .int .i64 x6_1 ∧ Aside0 (spec_cdSets.l0 kq l0 x5_1 x6_1 = some r) ∧ Aside0 (kq ≤ k) ∧ Aside0 (Kd.N (Kd.slice 3 (Kd.int .i64)) 40 w' w.heap.size (fun k_ => (w.heap.size ≤ k_)) v5 x5_1) ∧ Aside0 (Below w.heap.size w w'))
 case atStart => exact ⟨(y221), (wrap64 ((l0.length : Int) - 1)), (by first | rfl | (simp; done) | (simp [*]; done)), H', ⟨Nat.le_refl _⟩, ⟨by (with_reducible repeat (first | apply Kd.N_alloc | apply Kd.N_drewN | apply Kd.N_drew)); exact HO223.out⟩, ⟨by repeat (first | (with_reducible first | exact HB.out | apply zA | apply zB | apply zC) | exact HB.out)⟩⟩
 case round =>
  clear H'
  try clear c1
  try clear p2
  try clear p6
  try clear c7
  obtain ⟨x5_1, x6_1, rfl, HA, HK1, HO_5, HB⟩ := hrel
  cases gk with
  | zero => exact absurd HA.out (by simp [spec_cdSets.l0])
  | succ k1 =>
   have H := HA.out
   clear HA
   simp only [spec_cdSets.l0] at H
   by_cases c8 : x6_1 ≥ 0
   ·rw [if_pos c8] at H
    have c8b0 : decide (0 ≤ x6_1) = true := decide_eq_true c8
    clear c8
    by_cases c9 : 0 ≤ x6_1
    ·rw [if_pos c9] at H
     have c9b0 : decide (0 ≤ x6_1) = true := decide_eq_true c9
     clear c9
     by_cases c10 : x6_1 < (l0.length : Int)
     ·rw [if_pos c10] at H
      have c10b0 : decide (x6_1 < (l0.length : Int)) = true := decide_eq_true c10
      clear c10
      by_cases c11 : 0 < (x5_1.length : Int)
      ·rw [if_pos c11] at H
       have c11b0 : decide (0 < (x5_1.length : Int)) = true := decide_eq_true c11
       have c11b1 : decide (0 < x5_1.length) = true := decide_eq_true (by omega)
       clear c11
       replace H := Option.bind_eq_some_iff.mp H
       obtain ⟨t226, A120, H⟩ := H
       replace H : ((some (([t226] : List (List Int)) : List (List Int))).bind fun y229 => (if y229.length + x5_1.length < 5864062014805 then (spec_cdSets.l0 k1 l0 (y229 ++ x5_1) (wrap64 (x6_1 - 1))) else (none))) = some r := H
       have A12 := zK A120
       clear A120
       obtain ⟨y229, hy229⟩ : ∃ y_ : List (List Int), y_ = (([t226] : List (List Int))) := ⟨_, rfl⟩
       replace H : (if y229.length + x5_1.length < 5864062014805 then (spec_cdSets.l0 k1 l0 (y229 ++ x5_1) (wrap64 (x6_1 - 1))) else (none)) = some r := by first | (rw [hy229]; with_reducible exact H) | (have H2_ := (Option.bind_some _ _).symm.trans H; rw [hy229]; with_reducible exact H2_) | (have H2_ := (Option.bind_some _ _).symm.trans H; with_reducible exact H2_) | with_reducible exact H | (rw [hy229]; exact H) | exact H
       have Ny229 := zK hy229
       clear hy229
       by_cases c13 : y229.length + x5_1.length < 5864062014805
       ·rw [if_pos c13] at H
        have LMc13 := zK c13
        clear c13
        obtain ⟨y232, hy232⟩ : ∃ y_ : List (List Int), y_ = (y229 ++ x5_1) := ⟨_, rfl⟩
        replace H : (spec_cdSets.l0 k1 l0 y232 (wrap64 (x6_1 - 1))) = some r := by first | (rw [hy232]; with_reducible exact H) | (have H2_ := (Option.bind_some _ _).symm.trans H; rw [hy232]; with_reducible exact H2_) | (have H2_ := (Option.bind_some _ _).symm.trans H; with_reducible exact H2_) | with_reducible exact H | (rw [hy232]; exact H) | exact H
        have Ny232 := zK hy232
        clear hy232
        have H' := zK H
        clear H
        try go_wp2
        have n0_ := zK (Kd.N_drew HO_5.out)
        have n1_ := zK (zC HB.out)
        clear HO_5
        clear HB
        have HO_5 := n0_
        have HB := n1_
        clear n0_ n1_
        have p224 : 0 ≤ (x6_1 : Int) := zo
        have q224 : x6_1 < (l0.length : Int) := zo
        obtain ⟨ad224, e224, hx224_0, hx224_1, hx224_2, hx224_3, hx224_4⟩ := at_T67 HR0.out x6_1 p224 q224
        have hw224_4 := hx224_4
        have hw224_3 := hx224_3
        have hw224_2 := hx224_2
        have hw224_1 := hx224_1
        have hw224_0 := hx224_0
        cases e224
        replace hx224_0 := zt HB.out hx224_0
        replace hx224_1 := zt HB.out hx224_1
        replace hx224_2 := zt HB.out hx224_2
        replace hx224_3 := zt HB.out hx224_3
        replace hx224_4 := zt HB.out hx224_4
        replace p224 := eq_true p224
        replace q224 := eq_true q224
        obtain ⟨Ao15, co15, eo15⟩ := Kd.N_slice HO_5.out
        (first | subst eo15 | (injection eo15 with f1_ f2_ f3_; have f4_ := f1_.symm; have f5_ := f3_.symm; clear f1_ f2_ f3_; subst f4_; subst f5_))
        have p225 : 0 ≤ (0 : Int) := (by omega)
        have q225 : 0 < (x5_1.length : Int) := zo
        obtain ⟨ad225, A225_0, c225_0, e225, hx225_0, hl225_0, hi225_0⟩ := at_L4 (Kd.N_reads' HO_5.out).2.2 0 p225 q225
        cases e225
        obtain ⟨ce225, hce225, hMe225, hcc225⟩ := Kd.N_get HO_5.out [] 0 p225 (by first | exact q225 | exact zo | (have e_ := (Kd.N_reads' HO_5.out).1; omega))
        obtain ⟨ua225_0, uc225_0, rfl, ul225_0, ge225_0⟩ := Kd.FK_slice_open hMe225
        have hv225_0 := hcc225 0 _ rfl
        rw [Nat.add_zero, show ((Kd.slice 3 (Kd.int .i64))).sz = 1 from rfl, Nat.mul_one] at hv225_0
        replace hv225_0 := Option.some.inj (hv225_0.symm.trans hx225_0)
        injection hv225_0 with hva_ hvn_ hvc_
        rw [hva_] at ge225_0
        rw [hvc_] at ul225_0
        have HL225_0 := zK (show Kd.V (Kd.int .i64) 3 _ w.heap.size _ _ (rd_L4 x5_1 0) from Kd.V_mk ul225_0 ge225_0)
        clear hva_ hvn_ hvc_ ge225_0 ul225_0
        clear hcc225 hce225
        have qi225 : (0 < x5_1.length) = True := eq_true (by omega)
        (try rw [show ((0 : Int)).toNat = 0 from rfl] at hx225_0)
        (try rw [Addr.add_zero'] at hx225_0)
        have HR225_0 := zK hi225_0
        have HC225_0 := zK hl225_0
        clear hi225_0 hl225_0
        replace p225 := eq_true p225
        replace q225 := eq_true q225
        refine start_ (n := 12) (S := fun w' => w'.cell? (ad224.add ((x6_1).toNat * 5)) = some (.string ((rd_T67 l0 x6_1).f0)) ∧ w'.cell? ⟨(ad224.add ((x6_1).toNat * 5)).block, (ad224.add ((x6_1).toNat * 5)).off + 1, none⟩ = some (.int .i64 ((rd_T67 l0 x6_1).f1)) ∧ w'.cell? ⟨(ad224.add ((x6_1).toNat * 5)).block, (ad224.add ((x6_1).toNat * 5)).off + 2, none⟩ = some (.int .i64 ((rd_T67 l0 x6_1).f2)) ∧ w'.cell? ⟨(ad224.add ((x6_1).toNat * 5)).block, (ad224.add ((x6_1).toNat * 5)).off + 3, none⟩ = some (.int .i64 ((rd_T67 l0 x6_1).f3)) ∧ w'.cell? ⟨(ad224.add ((x6_1).toNat * 5)).block, (ad224.add ((x6_1).toNat * 5)).off + 4, none⟩ = some (.int .i64 ((rd_T67 l0 x6_1).f4)) ∧ w'.cell? ad225 = some (.slice A225_0 (rd_L4 x5_1 0).length c225_0)) (ds := [10]) #[false, false, false, false, false, false, false, false, false, false, false, false] (by kernel_rfl) rfl rfl ⟨(zt HB.out hw224_0), (zt HB.out hw224_1), (zt HB.out hw224_2), (zt HB.out hw224_3), (zt HB.out hw224_4), hx225_0⟩ (fun hHeld => ?_); refine with_tabW spec_cdSets.tab5 spec_cdSets.bits5 (fun HT_ HW_ => ?_)
        generalize wr.drew = w14 at HO_5 HB HL225_0 HR225_0 hx224_0 hx224_1 hx224_2 hx224_3 hx224_4 hx225_0 hHeld ⊢
        refine pure_ (i := 0) (N := some 17) (v := ?_) (a' := ?_) #[true, false, false, false, false, false, false, false, false, false, false, false] rfl rfl (any_of HT_.out (by kernel_rfl)) (fun _ _ _ h => h) (Or.inl ⟨by rfl, ?_⟩) ?_ ?_
        rotate_left
        ·intro w'
         go_simp
         with_reducible rfl
        rotate_left
        ·simp only [Act.put, z1, z2, z3, i64_w, i32_w]
         rfl
        refine pure_ (i := 1) (N := some 18) (v := ?_) (a' := ?_) #[true, true, false, false, false, false, false, false, false, false, false, false] rfl rfl (any_of HT_.out (by kernel_rfl)) (fun _ _ _ h => h) (Or.inl ⟨by rfl, ?_⟩) ?_ ?_
        rotate_left
        ·intro w'
         go_simp
         with_reducible rfl
        rotate_left
        ·simp only [Act.put, z1, z2, z3, i64_w, i32_w]
         rfl
        refine pure_ (i := 2) (N := some 19) (v := ?_) (a' := ?_) #[true, true, true, false, false, false, false, false, false, false, false, false] rfl rfl (any_of HT_.out (by kernel_rfl)) (fun _ _ _ h => h) (Or.inl ⟨by rfl, ?_⟩) ?_ ?_
        rotate_left
        ·intro w'
         go_simp
         with_reducible rfl
        rotate_left
        ·simp only [Act.put, z1, z2, z3, i64_w, i32_w]
         rfl
        refine pure_ (i := 4) (N := some 21) (v := ?_) (a' := ?_) #[true, true, true, false, true, false, false, false, false, false, false, false] rfl rfl (any_of HT_.out (by kernel_rfl)) (fun _ _ _ h => h) (Or.inl ⟨by rfl, ?_⟩) ?_ ?_
        rotate_left
        ·intro w'
         go_simp
         with_reducible rfl
        rotate_left
        ·simp only [Act.put, z1, z2, z3, i64_w, i32_w]
         rfl
        refine pure_ (i := 5) (N := some 22) (v := ?_) (a' := ?_) #[true, true, true, false, true, true, false, false, false, false, false, false] rfl rfl (any_of HT_.out (by kernel_rfl)) (fun _ _ _ h => h) (Or.inl ⟨by rfl, ?_⟩) ?_ ?_
        rotate_left
        ·intro w'
         go_simp
         with_reducible rfl
        rotate_left
        ·simp only [Act.put, z1, z2, z3, i64_w, i32_w]
         rfl
        refine pure_ (i := 9) (N := some 26) (v := ?_) (a' := ?_) #[true, true, true, false, true, true, false, false, false, true, false, false] rfl rfl (any_of HT_.out (by kernel_rfl)) (fun _ _ _ h => h) (Or.inl ⟨by rfl, ?_⟩) ?_ ?_
        rotate_left
        ·intro w'
         go_simp
         with_reducible rfl
        rotate_left
        ·simp only [Act.put, z1, z2, z3, i64_w, i32_w]
         rfl
        refine take_ (i := 3) (N := some 20) (v := ?_) (a' := ?_) #[true, true, true, true, true, true, false, false, false, true, false, false] rfl rfl (take_ofW HT_.out HW_.out (by kernel_rfl)) (fun _ _ _ h => h) (Or.inl ⟨by rfl, ?_⟩) hHeld ?_ ?_
        rotate_left
        ·rintro w' ⟨s0, s1, s2, s3, s4, s5⟩
         go_simp
         with_reducible rfl
        rotate_left
        ·simp only [Act.put, z1, z2, z3, i64_w, i32_w]
         rfl
        refine take_ (i := 6) (N := some 23) (v := ?_) (a' := ?_) #[true, true, true, true, true, true, true, false, false, true, false, false] rfl rfl (take_ofW HT_.out HW_.out (by kernel_rfl)) (fun _ _ _ h => h) (Or.inl ⟨by rfl, ?_⟩) hHeld ?_ ?_
        rotate_left
        ·rintro w' ⟨s0, s1, s2, s3, s4, s5⟩
         go_simp
         with_reducible rfl
        rotate_left
        ·simp only [Act.put, z1, z2, z3, i64_w, i32_w]
         rfl
        refine one_ (i := 7) (N := some 24) #[true, true, true, true, true, true, true, true, false, true, false, false] rfl rfl (one_of HT_.out (by kernel_rfl)) (by decide) (fun K hK => ?_)
        refine goes_ Try.func102 (by kernel_rfl) rfl #[.agg #[.string ((rd_T67 l0 x6_1).f0), .int .i64 ((rd_T67 l0 x6_1).f1), .int .i64 ((rd_T67 l0 x6_1).f2), .int .i64 ((rd_T67 l0 x6_1).f3), .int .i64 ((rd_T67 l0 x6_1).f4)], .slice A225_0 (rd_L4 x5_1 0).length c225_0] (by rfl) rfl rfl (by (try simp only [z6, z7, z8]); first | done | rfl | (simp only [z4, z5]; rfl)) ?_
        with_reducible refine (spec_cdBefore.calls k1 ((rd_T67 l0 x6_1).f0) ((rd_T67 l0 x6_1).f1) ((rd_T67 l0 x6_1).f2) ((rd_T67 l0 x6_1).f3) ((rd_T67 l0 x6_1).f4) _ _ (rd_L4 x5_1 0) t226 _ ?side1 ?side2 A12.out).mono ?_
        (case side1 => repeat (first | exact (by repeat (first | (with_reducible exact HR225_0.out) | (with_reducible refine Kd.C_alloc ?_ _) | (with_reducible refine Kd.C_drewN ?_ _) | (with_reducible refine Kd.C_drew ?_) | exact HR225_0.out)) | (with_reducible refine Kd.C_alloc ?_ _) | (with_reducible refine Kd.C_drewN ?_ _) | (with_reducible refine Kd.C_drew ?_)))
        (case side2 => exact HC225_0.out)
        rintro e w16 ⟨v227, rfl, ho0, hb⟩
        have HS5_ := (hb.cell (zW _ _ (hHeld.2.2.2.2.2))).trans (hHeld.2.2.2.2.2)
        refine ⟨_, rfl, ?_⟩
        have n0_ := zK (Kd.N_elder' (by (with_reducible repeat (first | apply Kd.N_alloc | apply Kd.N_drewN | apply Kd.N_drew)); exact HO_5.out) (Kd.R_base ho0) hb)
        have n1_ := zK (Kd.V_elder' (by (with_reducible repeat (first | apply Kd.V_alloc | apply Kd.V_drewN | apply Kd.V_drew)); exact HL225_0.out) (Kd.R_base ho0) hb)
        have n2_ := zK (Kd.R_lower (Kd.R_newM (M := fun k_ => (w.heap.size ≤ k_)) ho0 (zN (by repeat (first | (with_reducible first | exact HB.out | apply zA | apply zB | apply zC) | exact HB.out))) (fun k_ h_ => h_)) (zN (by repeat (first | (with_reducible first | exact HB.out | apply zA | apply zB | apply zC) | exact HB.out))))
        have n3_ := zK (Kd.C_below (by repeat (first | (with_reducible exact HR225_0.out) | (with_reducible refine Kd.C_alloc ?_ _) | (with_reducible refine Kd.C_drewN ?_ _) | (with_reducible refine Kd.C_drew ?_) | exact HR225_0.out)) hb)
        have n4_ := zK (zL (by repeat (first | (with_reducible first | exact HB.out | apply zA | apply zB | apply zC) | exact HB.out)) hb)
        clear HO_5
        clear HL225_0
        clear HR225_0
        clear HB
        have HO_5 := n0_
        have HL225_0 := n1_
        have HO228 := n2_
        have HR225_0 := n3_
        have HB := n4_
        clear n0_ n1_ n2_ n3_ n4_
        (try clear hb)
        (try clear hb2)
        (try clear hk)
        (try clear hi)
        (try clear ho0)
        obtain ⟨Ao17, co17, eo17⟩ := Kd.R_slice HO228.out
        (first | subst eo17 | (injection eo17 with f1_ f2_ f3_; have f4_ := f1_.symm; have f5_ := f3_.symm; clear f1_ f2_ f3_; subst f4_; subst f5_))
        refine hK.out _ _ ⟨(zt HB.out hw224_0), (zt HB.out hw224_1), (zt HB.out hw224_2), (zt HB.out hw224_3), (zt HB.out hw224_4), HS5_⟩ (fun hHeld => ?_)
        clear hK K
        refine norm_ (a' := ?_) ?_ ?_
        rotate_left
        ·show Act.put _ (some 24) _ = _
         simp only [Act.put, z1, z2, z3, i64_w, i32_w]
         rfl
        refine one_ (i := 8) (N := some 25) #[true, true, true, true, true, true, true, true, true, true, false, false] rfl rfl (one_of HT_.out (by kernel_rfl)) (by decide) (fun K hK => ?_)
        refine Kd.N_lit_step (Kd.slice 3 (Kd.int .i64)) _ 40 ?hg (N' := 25) ?hd (xs := ([t226] : List (List Int))) (inner := [.slice Ao17 t226.length co17]) (ok := (fun k_ => (w.heap.size ≤ k_) ∧ some k_ ≠ (.slice (some ad225) x5_1.length co15 : Value).ownBlock)) (okp := (fun k_ => (w.heap.size ≤ k_) ∧ some k_ ≠ (.slice (some ad225) x5_1.length co15 : Value).ownBlock)) ?hr ?hp (fun _ hk => hk) ((show ∀ k_, w16.heap.size ≤ k_ → (fun k_ => (w.heap.size ≤ k_) ∧ some k_ ≠ (.slice (some ad225) x5_1.length co15 : Value).ownBlock) k_ from fun k_ hk => ⟨(Nat.le_trans (zN (by repeat (first | (with_reducible first | exact HB.out | apply zA | apply zB | apply zC) | exact HB.out))) hk), Kd.fresh' (Kd.N_lt (by (with_reducible repeat (first | apply Kd.N_alloc | apply Kd.N_drewN | apply Kd.N_drew)); exact HO_5.out)) k_ hk⟩) _ (Nat.le_refl _)) (Below.refl _ _) (Nat.le_refl _) (by simp) ?_; (case hd => rfl); (case hg => rfl); (case hr => first | (go_simp; done) | (go_simp; rfl)); (case hp => exact (Reps.one (show Kd.FK (Kd.slice 3 (Kd.int .i64)) _ _ t226 [.slice Ao17 t226.length co17] from (Kd.FK_slice_mk (Kd.R_reads' (Kd.R_mono (ok' := (fun k_ => (w.heap.size ≤ k_) ∧ some k_ ≠ (.slice (some ad225) x5_1.length co15 : Value).ownBlock)) (Kd.R_apart' (HO228.out) (Kd.N_typed HO_5.out) (by decide)) (fun k_ hk => ⟨hk.1.1, hk.2⟩))).2.1 (Kd.R_F (Kd.R_mono (ok' := (fun k_ => (w.heap.size ≤ k_) ∧ some k_ ≠ (.slice (some ad225) x5_1.length co15 : Value).ownBlock)) (Kd.R_apart' (HO228.out) (Kd.N_typed HO_5.out) (by decide)) (fun k_ hk => ⟨hk.1.1, hk.2⟩))))) (Reps.none _ _)))
        intro v230 w18 ho19 hb hg_ hnew_
        have HS5_ := (hb.cell (zW _ _ (hHeld.2.2.2.2.2))).trans (hHeld.2.2.2.2.2)
        clear hg_ hnew_
        (first | rw [← Ny229.out] at ho19 | (simp only [Int.reduceToNat] at ho19; rw [← Ny229.out] at ho19))
        have n0_ := zK (Kd.N_elder' (by (with_reducible repeat (first | apply Kd.N_alloc | apply Kd.N_drewN | apply Kd.N_drew)); exact HO_5.out) (Kd.N_base ho19) hb)
        have n1_ := zK (Kd.V_elder' (by (with_reducible repeat (first | apply Kd.V_alloc | apply Kd.V_drewN | apply Kd.V_drew)); exact HL225_0.out) (Kd.N_base ho19) hb)
        have n2_ := zK (Kd.N_lower ho19 (zN (by repeat (first | (with_reducible first | exact HB.out | apply zA | apply zB | apply zC) | exact HB.out))))
        have n3_ := zK (Kd.C_below (by repeat (first | (with_reducible exact HR225_0.out) | (with_reducible refine Kd.C_alloc ?_ _) | (with_reducible refine Kd.C_drewN ?_ _) | (with_reducible refine Kd.C_drew ?_) | exact HR225_0.out)) hb)
        have n4_ := zK (zL (by repeat (first | (with_reducible first | exact HB.out | apply zA | apply zB | apply zC) | exact HB.out)) hb)
        clear HO_5
        clear HL225_0
        clear HR225_0
        clear HB
        clear HO228
        have HO_5 := n0_
        have HL225_0 := n1_
        have HO231 := n2_
        have HR225_0 := n3_
        have HB := n4_
        clear n0_ n1_ n2_ n3_ n4_
        clear hb ho19
        refine hK.out _ _ ⟨(zt HB.out hw224_0), (zt HB.out hw224_1), (zt HB.out hw224_2), (zt HB.out hw224_3), (zt HB.out hw224_4), HS5_⟩ (fun hHeld => ?_)
        clear hK K
        refine norm_ (a' := ?_) ?_ ?_
        rotate_left
        ·show Act.put _ (some 25) _ = _
         simp only [Act.put, z1, z2, z3, i64_w, i32_w]
         rfl
        refine last_ (i := 10) (N := some 27) #[true, true, true, true, true, true, true, true, true, true, true, false] rfl rfl (one_of HT_.out (by kernel_rfl)) (by decide) (fun K hK => ?_)
        refine Kd.N_append_rows_step (Kd.slice 3 (Kd.int .i64)) (w0 := w) w.heap.size (by rfl) (.tmp 25) (.tmp 26) 41 40 (.slice none 0 0) 24 rfl Try.underlying41 info40 rfl (by decide) (by omega) v230 y229 x5_1 _ _ _ (fun k_ => (w.heap.size ≤ k_)) (fun k_ => ((fun k_ => (w.heap.size ≤ k_))) k_ ∧ some k_ ≠ (v230 : Value).ownBlock) rfl rfl ?aO ?aR (fun _ hk => hk) ?aF ?aB ?aS ?aL ?_
        (case aR => exact (by skip; exact Kd.N_F (Kd.N_mono (ok' := (fun k_ => ((fun k_ => (w.heap.size ≤ k_))) k_ ∧ some k_ ≠ (v230 : Value).ownBlock)) (HO_5.out) (fun k_ hk => ⟨hk.1.1, hk.2⟩))))
        (case aB => exact (by repeat (first | (with_reducible first | exact HB.out | apply zA | apply zB | apply zC) | exact HB.out)))
        (case aF => exact (fun k_ hk => (Nat.le_trans (zN (by repeat (first | (with_reducible first | exact HB.out | apply zA | apply zB | apply zC) | exact HB.out))) hk)))
        (case aO => exact (by (with_reducible repeat (first | apply Kd.N_alloc | apply Kd.N_drewN | apply Kd.N_drew)); exact Kd.N_mono HO231.out (fun _ hk => hk.1)))
        (case aS => exact (zN (by repeat (first | (with_reducible first | exact HB.out | apply zA | apply zB | apply zC) | exact HB.out))))
        (case aL => have := LMc13.out; omega)
        intro v233 w20 ho hb hg hat
        rw [← Ny232.out] at ho
        have n0_ := zK (Kd.N_afterv (ok := (fun k_ => (w.heap.size ≤ k_))) (by (with_reducible repeat (first | apply Kd.N_alloc | apply Kd.N_drewN | apply Kd.N_drew)); exact Kd.N_mono HO_5.out (fun _ hk => ⟨hk.1.1, hk.2⟩)) hg hat)
        have n1_ := zK (Kd.V_afterv (ok := (fun k_ => (w.heap.size ≤ k_) ∧ some k_ ≠ (.slice (some ad225) x5_1.length co15 : Value).ownBlock)) (by (with_reducible repeat (first | apply Kd.V_alloc | apply Kd.V_drewN | apply Kd.V_drew)); exact Kd.V_mono HL225_0.out (fun _ hk => ⟨⟨hk.1.1.1, hk.1.1.2⟩, hk.2⟩)) hg hat)
        have n2_ := zK (hb)
        have n3_ := zK (ho)
        clear HO_5
        clear HL225_0
        clear HB
        clear HO231
        have HO_5 := n0_
        have HL225_0 := n1_
        have HB := n2_
        have HO234 := n3_
        clear n0_ n1_ n2_ n3_
        clear ho hb hg hat
        refine hK.out _ _ ?_
        clear hK K
        refine norm_ (a' := ?_) ?_ ?_
        rotate_left
        ·show Act.put _ (some 27) _ = _
         simp only [Act.put, z1, z2, z3, i64_w, i32_w]
         rfl
        refine pure_ (i := 11) (N := some 5) (v := ?_) (a' := ?_) #[true, true, true, true, true, true, true, true, true, true, true, true] rfl rfl (any_of HT_.out (by kernel_rfl)) (fun _ _ _ h => h) (Or.inl ⟨by rfl, ?_⟩) ?_ ?_
        rotate_left
        ·intro w'
         go_simp
         with_reducible rfl
        rotate_left
        ·simp only [Act.put, z1, z2, z3, i64_w, i32_w]
         rfl
        refine done_ (done_of HT_.out (by kernel_rfl)) ?_
        try go_wp2
        go_roundg k1
        case measure => have := HK1.out; omega
        case rel => exact ⟨(y232), (wrap64 (x6_1 - 1)), (by first | rfl | (simp; done) | (simp [*]; done)), H', ⟨by have := HK1.out; omega⟩, ⟨by (with_reducible repeat (first | apply Kd.N_alloc | apply Kd.N_drewN | apply Kd.N_drew)); exact HO234.out⟩, ⟨by repeat (first | (with_reducible first | exact HB.out | apply zA | apply zB | apply zC) | exact HB.out)⟩⟩
       ·rw [if_neg c13] at H
        exact absurd H (by simp)
      ·rw [if_neg c11] at H
       exact absurd H (by simp)
     ·rw [if_neg c10] at H
      exact absurd H (by simp)
    ·rw [if_neg c9] at H
     exact absurd H (by simp)
   ·rw [if_neg c8] at H
    have c8b0 : decide (0 ≤ x6_1) = false := decide_eq_false c8
    clear c8
    obtain rfl := Option.some.inj H
    go_wp2
    go_ret
    exact ⟨_, by first | rfl | (simp [errW_none, errW_some] <;> rfl) | (simp [*, errW_none, errW_some] <;> rfl), by (with_reducible repeat (first | apply Kd.N_alloc | apply Kd.N_drewN | apply Kd.N_drew)); exact HO_5.out, by repeat (first | (with_reducible first | exact HB.out | apply zA | apply zB | apply zC) | exact HB.out)⟩

/-! ### bwiter -/
-- needs: Derived.RangeFuncNested
-- needs: Derived.RangeFuncBound
-- needs: Derived.RangeFuncCalls
-- needs: Derived.RangeFuncLeaves
-- needs: Derived.Shelf.Abstract
-- needs: Derived.Shelf.RegionOpen
-- needs: Derived.OwnWalkIn
-- needs: Derived.TacticsInMore
-- needs: Derived.LoopNIn
-- needs: Derived.LoopIn
section
attribute [local go_sem] Oper.semAt_some
abbrev bwiter.handA (n : Nat) := { i : Nat // i < n }
def bwiter.hand_encs (xs : List S67) (x : bwiter.handA xs.length) : Array Value := #[.int .i64 (x.1 : Int), .agg #[.string (rd_T67 xs (x.1 : Int)).f0, .int .i64 (rd_T67 xs (x.1 : Int)).f1, .int .i64 (rd_T67 xs (x.1 : Int)).f2, .int .i64 (rd_T67 xs (x.1 : Int)).f3, .int .i64 (rd_T67 xs (x.1 : Int)).f4]]
/-- What a round keeps: what lay below n₀, and the iterator's own box. -/
def bwiter.hand_keep (n₀ Bs : Nat) (W W' : World) : Prop := Below n₀ W W' ∧ W'.heap[Bs]? = W.heap[Bs]?
theorem bwiter.hand_keep_t {n₀ Bs : Nat} {X Y Z : World} (h : bwiter.hand_keep n₀ Bs X Y) (k : bwiter.hand_keep n₀ Bs Y Z) : bwiter.hand_keep n₀ Bs X Z := ⟨h.1.trans k.1, k.2.trans h.2⟩
theorem bwiter.hand_keep_b {n₀ Bs : Nat} {w : World} (hn : n₀ ≤ w.heap.size) (hB : Bs < w.heap.size) (W : World) (l : Nat) (o o' : Obj) (hl : w.heap.size ≤ l) (h : W.heap[l]? = some o) (hc : o.isCells = false) (hw : o.isWalk = false) : bwiter.hand_keep n₀ Bs W (W.putObj l o') :=
 ⟨belowK_b hn W l o o' hl h hc hw, World.putObj_heap_other (by omega)⟩
/-- What has come when only c elements are left. -/
def bwiter.hand_from (n : Nat) : Nat → List (bwiter.handA n)
 | 0 => []
 | m + 1 => bwiter.hand_from n m ++ (if h : n - 1 - m < n then [⟨n - 1 - m, h⟩] else [])
theorem bwiter.hand_from_len (n m : Nat) (h : m ≤ n) : (bwiter.hand_from n m).length = m := by
 induction m with
 | zero => rfl
 | succ m ih => rw [bwiter.hand_from, dif_pos (by omega), List.length_append, ih (by omega)]; rfl
theorem bwiter.hand_make (F : Fence) (n : Nat) (h5 : F.fn 103) (hro : F.round = none) (a : Option Addr) (len cap : Nat) (w : World) :
  CallsIn F n Try.prog 103 #[.slice a len cap] w fun e w' => e = .returned (.func (.func 151) #[] #[.pointer (some ⟨w.heap.size, 0, none⟩)]) ∧ w' = w.alloc (.cells #[.slice a len cap] 24) := by
 refine callsIn_of_wp Try.func103 rfl h5 ?_ hro
 simp only [Try.ntmps103, List.size_toArray, List.length_cons, List.length_nil, Nat.reduceAdd, Nat.reduceSub, Array.replicate_succ, Array.replicate_zero, List.push_toArray, List.append_toArray, List.nil_append, List.cons_append]
 gi_wp2
 go_ret
 exact ⟨rfl, rfl⟩
set_option maxRecDepth 100000 in
set_option maxHeartbeats 4000000 in
theorem bwiter.hand_walk (F : Fence) (n n₀ : Nat) (h8 : F.fn 151) (hro : F.round = none) (hn : 1 ≤ n) (l Bs cap : Nat) (A : Option Addr) (xs : List S67) (w0 : World) (hreach : xs.length ≤ 1000000) (hC : Kd.C k67 w0 A xs.length xs) (J Jx : List (bwiter.handA xs.length) → World → Prop)
  (hY : ∀ pre x W, J pre W → pre.length < xs.length → YieldAt F (n - 1) Try.prog l (bwiter.hand_encs xs x) W fun e W' =>
   (e = .returned (.bool true) ∧ J (pre ++ [x]) W' ∧ bwiter.hand_keep n₀ Bs W W') ∨ (e = .returned (.bool false) ∧ Jx (pre ++ [x]) W'))
  (hn₀ : w0.heap.size ≤ n₀) (W : World) (hW : Below w0.heap.size w0 W) (hBs : W.cell? ⟨Bs, 0, none⟩ = some (.slice A xs.length cap)) (h0 : J [] W) :
  CallsIn F n Try.prog 151 #[.func (.yield l) #[] #[], .pointer (some ⟨Bs, 0, none⟩)] W fun e W' => (∃ v, e = .returned v) ∧
   ((∃ ys, ys = bwiter.hand_from xs.length xs.length ∧ J ys W') ∨ (∃ pre, (∃ k, k ≤ xs.length ∧ pre = bwiter.hand_from xs.length k) ∧ Jx pre W')) := by
 refine callsIn_of_wp Try.func151 rfl h8 ?_ hro
 simp only [Try.ntmps151, List.size_toArray, List.length_cons, List.length_nil, Nat.reduceAdd, Nat.reduceSub, Array.replicate_succ, Array.replicate_zero, List.push_toArray, List.append_toArray, List.nil_append, List.cons_append]
 have hw0 : wrap64 ((xs.length : Int) - 1) = (xs.length : Int) - 1 := by unfold wrap64; omega
 gi_wp2
 gi_loopw [3] (fun i wr => ∃ c : Nat, c ≤ xs.length ∧ i = .int .i64 ((c : Int) - 1) ∧ J (bwiter.hand_from xs.length (xs.length - c)) wr ∧ bwiter.hand_keep n₀ Bs W wr)
  (fun i _ => (intOf i + 1).toNat)
 case atStart => exact ⟨xs.length, Nat.le_refl _, by simp [hw0], by rw [Nat.sub_self]; exact h0, Below.refl _ _, rfl⟩
 case round =>
  obtain ⟨c, hk, rfl, hJs, hnx⟩ := hrel
  have hbs := (World.cell?_of_block (a := ⟨Bs, 0, none⟩) hnx.2).trans hBs
  cases c with
  | zero =>
   gi_wp2
   go_end0
   exact ⟨⟨_, rfl⟩, .inl ⟨_, rfl, by rw [Nat.sub_zero] at hJs; exact hJs⟩⟩
  | succ j =>
   have hj : j < xs.length := by omega
   have hCr : Kd.C k67 wr A xs.length xs := Kd.C_below hC (hW.trans (hnx.1.mono hn₀))
   obtain ⟨ad, hA, hx0, hx1, hx2, hx3, hx4⟩ := at_T67 hCr (j : Int) (by omega) (by omega)
   subst hA
   have e1 : ((j + 1 : Nat) : Int) - 1 = (j : Int) := by omega
   simp only [e1]
   have hlen := bwiter.hand_from_len xs.length (xs.length - (j + 1)) (by omega)
   obtain ⟨fn, tmps, assign, body, hy, hR⟩ := hY _ ⟨j, hj⟩ wr hJs (by rw [hlen]; omega)
   simp only [bwiter.hand_encs] at hy
   simp only [Int.toNat_natCast] at hx0 hx1 hx2 hx3 hx4
   have hwj : wrap64 ((j : Int) - 1) = (j : Int) - 1 := by unfold wrap64; omega
   have hstep : bwiter.hand_from xs.length (xs.length - (j + 1)) ++ [⟨j, hj⟩] = bwiter.hand_from xs.length (xs.length - j) := by
    rw [show xs.length - j = (xs.length - (j + 1)) + 1 by omega, bwiter.hand_from, dif_pos (by omega)]
    congr 3
    omega
   rw [hstep] at hR
   gi_wp2
   refine hR.mono ?_
   rintro e W3 (⟨rfl, hJ3, hk3⟩ | ⟨rfl, hJx3⟩)
   ·gi_wp2
    go_roundw
    case rel => exact ⟨j, by omega, by simp [hwj], hJ3, bwiter.hand_keep_t hnx hk3⟩
    case measure => simp [intOf, hwj]
   ·gi_wp2
    refine bodyPost_ret (results_none rfl _ _ _) rfl ?_
    exact ⟨⟨_, rfl⟩, .inr ⟨_, ⟨xs.length - j, by omega, rfl⟩, hJx3⟩⟩
theorem bwiter.hand_stops (F : Fence) (n : Nat) (h8 : F.fn 151) (hro : F.round = none) (hn : 1 ≤ n) (Bs cap : Nat) (A : Option Addr) (xs : List S67) (w0 w : World) (hreach : xs.length ≤ 1000000) (hC : Kd.C k67 w0 A xs.length xs) (hb : Below w0.heap.size w0 w) (hBs : w.cell? ⟨Bs, 0, none⟩ = some (.slice A xs.length cap)) (hlt : Bs < w.heap.size) :
  SeqStopsK F n Try.prog 151 #[.pointer (some ⟨Bs, 0, none⟩)] (bwiter.hand_encs xs) (bwiter.hand_keep w0.heap.size Bs) (fun ys => ys = bwiter.hand_from xs.length xs.length) (fun pre => ∃ k, k ≤ xs.length ∧ pre = bwiter.hand_from xs.length k) xs.length w := fun l J Jx W hW _ _ hY h0 =>
 bwiter.hand_walk F n w0.heap.size h8 hro hn l Bs cap A xs w0 hreach hC J Jx hY (Nat.le_refl _) W (hb.trans (hW.mono hb.size)) ((hW.cell (p := ⟨Bs, 0, none⟩) hlt).trans hBs) h0
end

/-! ### lifting -/
-- needs: Derived.RangeFuncNested
-- needs: Derived.RangeFuncBound
-- needs: Derived.RangeFuncCalls
-- needs: Derived.RangeFuncLeaves
-- needs: Derived.Shelf.Abstract
-- needs: Derived.Shelf.RegionOpen
-- needs: Derived.OwnWalkIn
-- needs: Derived.TacticsInMore
-- needs: Derived.LoopNIn
-- needs: Derived.LoopIn
-- needs: Derived.OrdersIn
theorem lifting.hand_op {F : Fence} {n : Nat} {P : Program} {l : Nat} {o : Oper} {a : Act} {w : World} {K : Act → World → Prop} {Q : Exit → Act → World → Prop} (hro : F.round = none) (hd : ∀ c, o.op ≠ .defer c) (h : o.wpIn F n P a w K Q) : o.wpIn (F.inRound l) n P a w K Q := by
 unfold Oper.wpIn at *
 refine ⟨h.1, ?_⟩
 have h2 := h.2
 rw [hro, Oper.semAt_none] at h2
 rw [Fence.inRound_round, Oper.semAt_some l _ o hd]
 exact h2
theorem lifting.hand_any {F : Fence} {n : Nat} {P : Program} {l : Nat} {md : Region.Mode} {ops : Array Oper} {Q : Exit → Act → World → Prop} (hro : F.round = none) (hd : ∀ (i : Nat) (o : Oper), ops[i]? = some o → ∀ c, o.op ≠ .defer c) : ∀ (fuel : Nat) (listed : Array Bool) (a : Act) (w : World), wpAnyIn F n P md ops Q fuel listed a w → wpAnyIn (F.inRound l) n P md ops Q fuel listed a w
 | 0, _, _, _, h => h
 | fuel + 1, listed, a, w, h => by
  refine ⟨h.1, fun i hi => ?_⟩
  have h2 := wpOpIn_mono (fun a w => lifting.hand_any (l := l) hro hd fuel (listed.setIfInBounds i true) a w) (h.2 i hi)
  unfold wpOpIn at *
  split
  ·rename_i ho
   simp only [ho] at h2
   exact h2
  ·rename_i o ho
   simp only [ho] at h2
   split
   ·rename_i hw
    simp only [hw, if_true] at h2
    exact lifting.hand_op hro (hd i o ho) h2
   ·rename_i hw
    simp only [hw] at h2
    exact h2

/-! ### impl_liveSets: function 100 -/
-- needs: Derived.RangeFuncNested
-- needs: Derived.RangeFuncBound
-- needs: Derived.RangeFuncCalls
-- needs: Derived.RangeFuncLeaves
-- needs: Derived.Shelf.Abstract
-- needs: Derived.Shelf.RegionOpen
-- needs: Derived.OwnWalkIn
-- needs: Derived.TacticsInMore
-- needs: Derived.LoopNIn
-- needs: Derived.LoopIn
-- needs: Derived.OrdersIn
-- needs: Derived.RegionIn
-- needs: Derived.Deep.RegionWith
section
attribute [local go_sem] Oper.semAt_some
def impl_liveSets.hand_want (L : List Int) : Prop := L.Pairwise (· < ·) ∧ ∀ r ∈ L, 0 ≤ r ∧ r ≤ 5
/-- The instruction i, and what is alive before it. -/
def impl_liveSets.hand_bef (xs : List S67) (i : Nat) (L : List Int) : Option (List Int) := impl_Instr_before.f 1000 (rd_T67 xs (i : Int)).f0 (rd_T67 xs (i : Int)).f1 (rd_T67 xs (i : Int)).f2 (rd_T67 xs (i : Int)).f3 (rd_T67 xs (i : Int)).f4 L
def impl_liveSets.hand_at (xs : List S67) (out : List Int) : Nat → List Int
 | 0 => out
 | m + 1 => (impl_liveSets.hand_bef xs (xs.length - 1 - m) (impl_liveSets.hand_at xs out m)).getD []
def impl_liveSets.hand_ok (xs : List S67) (out : List Int) : Prop := xs.length ≤ 1000 ∧ out.length ≤ 1000 ∧ impl_liveSets.hand_want out ∧ ∀ i, i < xs.length → ∀ L, impl_liveSets.hand_want L → ∃ r, impl_liveSets.hand_bef xs i L = some r ∧ impl_liveSets.hand_want r
open Classical in
noncomputable def impl_liveSets.f (k : Nat) (l0 : List (S67)) (l1 : List Int) : Option ((List (List Int))) := if impl_liveSets.hand_ok l0 l1 then some ((List.range (l0.length + 1)).map fun j => impl_liveSets.hand_at l0 l1 (l0.length - j)) else none
theorem impl_liveSets.mono : ∀ a0 a1 k, LeO (impl_liveSets.f k a0 a1) (impl_liveSets.f (k + 1) a0 a1) := fun _ _ _ => LeO.refl _
/-- The rows of the sets: each of the call's own, no two of them in one block. -/
def impl_liveSets.hand_rows (n base g : Nat) (V : Nat → Value) (Ls : Nat → List Int) (Fo : Nat → Nat) (W : World) : Prop :=
 W.heap[g]? = some (.cells ((List.range (n + 1)).map V).toArray 40 (0, 0)) ∧ ∀ j, j ≤ n → Kd.R (Kd.int .i64) 3 W base (fun k => Fo k = j) (V j) (Ls j)
theorem impl_liveSets.hand_blk {W W' : World} {row : Option Nat} {k t B : Nat} {cells : Array Value} (h : W.heap[k]? = some (.cells cells t (0, 0))) (hg : W.grownBy W' row) (hr : ∀ r, row = some r → B ≤ r ∧ ∃ o : Obj, W.heap[r]? = some o ∧ o.isCells = false) : W'.heap[k]? = some (.cells cells t (0, 0)) :=
 (hg.block k (Array.getElem?_eq_some_iff.1 h).1 (fun e => by
  obtain ⟨_, o, ho, hc⟩ := hr k e.symm
  rw [h] at ho
  cases ho
  cases hc)).trans h
theorem impl_liveSets.hand_rows_kept {n base g : Nat} {V : Nat → Value} {Ls : Nat → List Int} {Fo : Nat → Nat} {W W' : World} {row : Option Nat} (h : impl_liveSets.hand_rows n base g V Ls Fo W) (hg : W.grownBy W' row) (hr : ∀ r, row = some r → ∃ o : Obj, W.heap[r]? = some o ∧ o.isCells = false) : impl_liveSets.hand_rows n base g V Ls Fo W' := by
 obtain ⟨h1, h2⟩ := h
 have hne : ∀ k cells t, W.heap[k]? = some (.cells cells t (0, 0)) → some k ≠ row := fun k cells t hc e => by
  obtain ⟨o, ho, hf⟩ := hr k e.symm
  rw [hc] at ho
  cases ho
  cases hf
 refine ⟨(hg.block g (Array.getElem?_eq_some_iff.1 h1).1 (hne _ _ _ h1)).trans h1, fun j hj => ?_⟩
 refine Kd.R_mono (Kd.R_move (Kd.R_bound (h2 j hj)) (fun k hk => ?_)) (fun _ hk => hk.1)
 obtain ⟨_, _, hlt, q, _, cells, hc⟩ := hk
 exact hg.block k hlt (hne _ _ _ hc)
theorem impl_liveSets.hand_rows_below {n base g : Nat} {V : Nat → Value} {Ls : Nat → List Int} {Fo : Nat → Nat} {W W' : World} (h : impl_liveSets.hand_rows n base g V Ls Fo W) (hb : Below W.heap.size W W') : impl_liveSets.hand_rows n base g V Ls Fo W' :=
 ⟨(hb.block g (Array.getElem?_eq_some_iff.1 h.1).1).trans h.1, fun j hj => Kd.R_below (h.2 j hj) hb⟩
/-- The cell of a row. -/
theorem impl_liveSets.hand_rows_cell {n base g : Nat} {V : Nat → Value} {Ls : Nat → List Int} {Fo : Nat → Nat} {W : World} (h : impl_liveSets.hand_rows n base g V Ls Fo W) (j : Nat) (hj : j ≤ n) : W.cell? ⟨g, j, none⟩ = some (V j) ∧ W.frozen? ⟨g, j, none⟩ = false := by
 have h1 := h.1
 constructor
 ·simp [World.cell?, h1, show j < n + 1 by omega]
 ·simp [World.frozen?, h1]
theorem impl_liveSets.hand_types {w : World} {base g : Nat} {ok : Nat → Prop} {v : Value} {xs : List Int} {cells : Array Value} (h : Kd.R (Kd.int .i64) 3 w base ok v xs) (hb : w.heap[g]? = some (.cells cells 40 (0, 0))) : Kd.R (Kd.int .i64) 3 w base (fun k => ok k ∧ k ≠ g) v xs :=
 Kd.R_mono (Kd.R_bound h) (fun k hk => ⟨hk.1, by
  obtain ⟨_, _, _, q, hq, cells', hc⟩ := hk
  rintro rfl
  rw [hc] at hb
  injection hb with hb
  injection hb with _ hb
  subst hb
  simp [Kd.int, Kd.scalar] at hq⟩)
/-- A row is laid anew. -/
theorem impl_liveSets.hand_rows_put {n base g b0 : Nat} {V : Nat → Value} {Ls : Nat → List Int} {Fo : Nat → Nat} {W : World} (h : impl_liveSets.hand_rows n base g V Ls Fo W) (i : Nat) (hi : i ≤ n) (v : Value) (L : List Int) (hb : base ≤ b0) (hR : Kd.R (Kd.int .i64) 3 W b0 (fun _ => True) v L) (hold : ∀ j, j ≤ n → ∀ k, (V j).ownBlock = some k → k < b0) :
  impl_liveSets.hand_rows n base g (fun j => if j = i then v else V j) (fun j => if j = i then L else Ls j) (fun k => if b0 ≤ k then i else Fo k) (W.setCell ⟨g, i, none⟩ v) := by
 obtain ⟨h1, h2⟩ := h
 have hgl := (Array.getElem?_eq_some_iff.1 h1).1
 refine ⟨?_, fun j hj => ?_⟩
 ·have := blk_set h1 i v
  rw [this]
  congr 2
  apply Array.ext_getElem?
  intro t
  simp only [Array.getElem?_setIfInBounds, List.getElem?_toArray, List.getElem?_map]
  by_cases e : i = t
  ·subst e
   rw [if_pos rfl]
   simp [show i < n + 1 by omega]
  ·rw [if_neg e]
   by_cases ht : t < n + 1
   ·simp [ht, show ¬ t = i from fun h => e h.symm]
   ·simp [ht]
 ·by_cases e : j = i
  ·subst e
   dsimp only
   rw [if_pos rfl, if_pos rfl]
   have h3 := impl_liveSets.hand_types hR h1
   have h4 := Kd.R_bound h3
   refine Kd.R_mono (Kd.R_far (p := ⟨g, j, none⟩) (Kd.R_lower h4 hb) (fun k hk => hk.1.2) v) (fun k hk => ?_)
   rw [if_pos hk.2.1]
  ·dsimp only
   rw [if_neg e, if_neg e]
   have h3 := impl_liveSets.hand_types (h2 j hj) h1
   have h4 := Kd.R_tight rfl h3
   refine Kd.R_mono (Kd.R_far (p := ⟨g, i, none⟩) h4 (fun k hk => h3.1 k hk.symm |>.2) v) (fun k hk => ?_)
   have := hold j hj k hk.symm
   rw [if_neg (by omega)]
   exact (h2 j hj).1 k hk.symm
theorem impl_liveSets.hand_zero (n : Nat) : madeCells (Value.cells (.slice none 0 0)) (n * 1) = ((List.range n).map fun _ => (Value.slice none 0 0)).toArray := by
 rw [Nat.mul_one]
 apply Array.ext
 ·simp [madeCells]
 ·intro i h1 h2
  simp [madeCells, Value.cells, Nat.mod_one]
/-- What a round leaves behind it. -/
theorem impl_liveSets.hand_fin (l0 : List S67) (l1 : List Int) (w w2 W Wd : World) (V : Nat → Value) (Ls : Nat → List Int) (Fo : Nat → Nat) (pre : List (bwiter.handA l0.length)) (x : bwiter.handA l0.length) (rb : List Int)
  (h1 : impl_liveSets.hand_rows l0.length w.heap.size w.heap.size V Ls Fo W) (h2 : ∀ j, impl_liveSets.hand_want (Ls j)) (h3 : ∀ m, m ≤ l0.length → pre = bwiter.hand_from l0.length m → ∀ t, t ≤ m → Ls (l0.length - t) = impl_liveSets.hand_at l0 l1 t)
  (h4 : Boxed W (w.heap.size + 1) 41 (.slice (some ⟨w.heap.size, 0, none⟩) (l0.length + 1) (l0.length + 1))) (h5 : Below w.heap.size w W) (h6 : w2.heap.size < W.heap.size) (h7 : w.heap.size < w2.heap.size) {B : Nat} (hB : w.heap.size + 2 ≤ B) (hWd : Wd = W.drew) (hbef : impl_liveSets.hand_bef l0 x.1 (Ls (x.1 + 1)) = some rb) (hwr : impl_liveSets.hand_want rb) :
  ∀ (W1 : World) (Ar : Option Addr) (cr : Nat) (r : List Int), Below W.drew.heap.size W.drew W1 → Kd.R (Kd.int .i64) 3 W1 W.drew.heap.size (fun _ => True) (.slice Ar r.length cr) r → rb = r → impl_liveSets.hand_want r →
   KeepsFrom B W (W1.setCell ⟨w.heap.size, x.1, none⟩ (.slice Ar r.length cr)) ∧ bwiter.hand_keep w.heap.size w2.heap.size W (W1.setCell ⟨w.heap.size, x.1, none⟩ (.slice Ar r.length cr)) ∧
   (∃ (V : Nat → Value) (Ls : Nat → List Int) (Fo : Nat → Nat), impl_liveSets.hand_rows l0.length w.heap.size w.heap.size V Ls Fo (W1.setCell ⟨w.heap.size, x.1, none⟩ (.slice Ar r.length cr)) ∧ (∀ j, impl_liveSets.hand_want (Ls j)) ∧ ∀ m, m ≤ l0.length → pre ++ [x] = bwiter.hand_from l0.length m → ∀ t, t ≤ m → Ls (l0.length - t) = impl_liveSets.hand_at l0 l1 t) ∧ Boxed (W1.setCell ⟨w.heap.size, x.1, none⟩ (.slice Ar r.length cr)) (w.heap.size + 1) 41 (.slice (some ⟨w.heap.size, 0, none⟩) (l0.length + 1) (l0.length + 1)) ∧ Below w.heap.size w (W1.setCell ⟨w.heap.size, x.1, none⟩ (.slice Ar r.length cr)) ∧ w2.heap.size < (W1.setCell ⟨w.heap.size, x.1, none⟩ (.slice Ar r.length cr)).heap.size := by
 intro W1 Ar cr r hb hR hr hw
 subst hr
 have hx := x.2
 have hb1 : Below W.heap.size W W1 := ⟨hb.os, hb.tape, hb.output, hb.size, hb.block⟩
 have hgl : w.heap.size < W.heap.size := (Array.getElem?_eq_some_iff.1 h1.1).1
 have hset : ∀ k, k ≠ w.heap.size → (W1.setCell ⟨w.heap.size, x.1, none⟩ (.slice Ar rb.length cr)).heap[k]? = W1.heap[k]? := fun k hk => Below.heap_setCell W1 ⟨w.heap.size, x.1, none⟩ _ k hk
 have hsz : (W1.setCell ⟨w.heap.size, x.1, none⟩ (.slice Ar rb.length cr)).heap.size = W1.heap.size := by simp [World.setCell]
 have hB1 : Below w.heap.size W (W1.setCell ⟨w.heap.size, x.1, none⟩ (.slice Ar rb.length cr)) := (hb1.mono h5.size).setCell (p := ⟨w.heap.size, x.1, none⟩) (Nat.le_refl _) _
 have hrows := impl_liveSets.hand_rows_put (b0 := W.heap.size) (impl_liveSets.hand_rows_below h1 hb1) x.1 (by omega) (.slice Ar rb.length cr) rb h5.size hR (fun j hj k hk => ((Kd.R_bound (h1.2 j hj)).1 k hk).2.2.1)
 refine ⟨⟨by rw [hsz]; exact hb1.size, fun k o hk ho _ => (hset k (by omega)).trans ((hb1.block k (Array.getElem?_eq_some_iff.1 ho).1).trans ho)⟩, ⟨hB1, (hset _ (fun e => ?_)).trans (hb1.block _ h6)⟩, ⟨_, _, _, hrows, fun j => ?_, fun m hm e t ht => ?_⟩, (hset _ (by omega)).trans ((hb1.block _ h4.lt).trans h4), h5.trans hB1, by rw [hsz]; exact Nat.lt_of_lt_of_le h6 hb1.size⟩
 ·omega
 ·split
  ·exact hw
  ·exact h2 j
 ·cases m with
  | zero => cases pre <;> cases e
  | succ m =>
   rw [bwiter.hand_from, dif_pos (by omega)] at e
   obtain ⟨e1, e2⟩ := List.append_inj' e rfl
   have e3 : x.1 = l0.length - 1 - m := by
    have := congrArg (fun l => l.map (fun y : bwiter.handA l0.length => y.1)) e2
    simpa using this
   by_cases ht2 : t = m + 1
   ·subst ht2
    rw [if_pos (by omega)]
    have h7 := h3 m (by omega) e1 m (Nat.le_refl _)
    rw [show l0.length - m = x.1 + 1 by omega] at h7
    show rb = (impl_liveSets.hand_bef l0 (l0.length - 1 - m) (impl_liveSets.hand_at l0 l1 m)).getD []
    rw [← e3, ← h7, hbef]
    rfl
   ·rw [if_neg (by omega)]
    exact h3 m (by omega) e1 t (by omega)
/-- The loop's two codes. -/
def impl_liveSets.hand_pick (f : Func) : Option (Code × Code) := match f.body with
 | some (.seq _ (.seq _ (.seq _ (.seq (.seq _ (.block _ (.rangeFunc _ _ a b))) _)))) => some (a, b)
 | _ => none
def impl_liveSets.hand_post (Post : World → Prop) : Exit → Act → World → Prop
 | .normal, _, w => Post w
 | _, _, _ => False
/-- The frame of a round. -/
abbrev impl_liveSets.hand_act (l0 : List S67) (A0 A1 Ao : Option Addr) (c0 n1 c1 co g Bs Bx : Nat) (x : bwiter.handA l0.length) : Act := { tmps := #[.slice A0 l0.length c0, .slice A1 n1 c1, undef, undef, .slice none 0 0, .pointer (some ⟨g + 1, 0, none⟩), .int .i64 (x.1 : Int), .pointer (some ⟨Bx, 0, none⟩), .slice A0 l0.length c0, .int .i64 (l0.length : Int), .int .i64 ((l0.length : Int) + 1), .slice (some ⟨g, 0, none⟩) (l0.length + 1) (l0.length + 1), .slice (some ⟨g, 0, none⟩) (l0.length + 1) (l0.length + 1), .slice A0 l0.length c0, .int .i64 (l0.length : Int), .slice A1 n1 c1, .slice Ao n1 co, .pointer (some ⟨g, l0.length, none⟩), .slice A0 l0.length c0, .func (.func 151) #[] #[.pointer (some ⟨Bs, 0, none⟩)], .int .i64 (x.1 : Int), .agg #[.string (rd_T67 l0 (x.1 : Int)).f0, .int .i64 (rd_T67 l0 (x.1 : Int)).f1, .int .i64 (rd_T67 l0 (x.1 : Int)).f2, .int .i64 (rd_T67 l0 (x.1 : Int)).f3, .int .i64 (rd_T67 l0 (x.1 : Int)).f4], undef, undef, undef, undef, undef, undef, undef, undef, undef, undef, undef], defers := [] }
set_option maxRecDepth 100000 in
set_option maxHeartbeats 8000000 in
theorem impl_liveSets.hand_body {As Bo : Code} (hp : impl_liveSets.hand_pick Try.f100 = some (As, Bo)) (l0 : List S67) (A0 A1 Ao : Option Addr) (c0 n1 c1 co g Bs Bx l : Nat) (x : bwiter.handA l0.length) (W : World) (vx : Value) (Ai : Option Addr) (ci : Nat) (Li rb : List Int) (Post : World → Prop)
  (hcb : W.cell? ⟨g + 1, 0, none⟩ = some (.slice (some ⟨g, 0, none⟩) (l0.length + 1) (l0.length + 1))) (hblt : g + 1 < W.heap.size) (hcx : W.cell? ⟨g, x.1, none⟩ = some vx) (hfx : W.frozen? ⟨g, x.1, none⟩ = false) (hcy : W.cell? ⟨g, x.1 + 1, none⟩ = some (.slice Ai Li.length ci)) (hli : Li.length ≤ ci) (hCi : Kd.C (Kd.int .i64) W Ai Li.length Li)
  (hx2 : W.heap[Bx]? = some (.cells #[.string (rd_T67 l0 (x.1 : Int)).f0, .int .i64 (rd_T67 l0 (x.1 : Int)).f1, .int .i64 (rd_T67 l0 (x.1 : Int)).f2, .int .i64 (rd_T67 l0 (x.1 : Int)).f3, .int .i64 (rd_T67 l0 (x.1 : Int)).f4] 67 (0, 0))) (hn : l0.length ≤ 1000) (hbef : impl_liveSets.hand_bef l0 x.1 Li = some rb)
  (hfin : ∀ (W1 : World) (Ar : Option Addr) (cr : Nat), Below W.drew.heap.size W.drew W1 → Kd.R (Kd.int .i64) 3 W1 W.drew.heap.size (fun _ => True) (.slice Ar rb.length cr) rb → Post (W1.setCell ⟨g, x.1, none⟩ (.slice Ar rb.length cr))) :
  Bo.wpIn (Fence.wide.inRound l) 6 Try.prog (impl_liveSets.hand_post Post) (impl_liveSets.hand_act l0 A0 A1 Ao c0 n1 c1 co g Bs Bx x) W := by
 unfold impl_liveSets.hand_pick Try.f100 at hp
 dsimp only at hp
 injection hp with hp
 injection hp with hp1 hp2
 subst hp2
 clear hp1
 have hx := x.2
 have hxi : (x.1 : Int) < (l0.length : Int) := by omega
 have hxn : (x.1 : Int) < (l0.length : Int) + 1 := by omega
 have hxm : (x.1 : Int) + 1 < (l0.length : Int) + 1 := by omega
 have hwx : wrap64 ((x.1 : Int) + 1) = (x.1 : Int) + 1 := by unfold wrap64; omega
 have hwx2 : IntKind.i64.wrap ((x.1 : Int) + 1) = (x.1 : Int) + 1 := by unfold IntKind.wrap; (try simp [IntKind.signed, IntKind.bits]); omega
 have htn : ((x.1 : Int) + 1).toNat = x.1 + 1 := by omega
 have hglt : g < W.heap.size := by omega
 have hd0 : W.cell? ⟨Bx, 0, none⟩ = some (.string (rd_T67 l0 (x.1 : Int)).f0) := (zI hx2 0).trans rfl
 have hd1 : W.cell? ⟨Bx, 1, none⟩ = some (.int .i64 (rd_T67 l0 (x.1 : Int)).f1) := (zI hx2 1).trans rfl
 have hd2 : W.cell? ⟨Bx, 2, none⟩ = some (.int .i64 (rd_T67 l0 (x.1 : Int)).f2) := (zI hx2 2).trans rfl
 have hd3 : W.cell? ⟨Bx, 3, none⟩ = some (.int .i64 (rd_T67 l0 (x.1 : Int)).f3) := (zI hx2 3).trans rfl
 have hd4 : W.cell? ⟨Bx, 4, none⟩ = some (.int .i64 (rd_T67 l0 (x.1 : Int)).f4) := (zI hx2 4).trans rfl
 clear hx2
 gi_wp2
 refine wpIn_region_any (by kernel_rfl) (lifting.hand_any rfl ?_ _ _ _ _ ?_)
 ·intro i o hi c
  rcases i with _ | _ | _ | _ | _ | _ | _ | _ | _ | _ | _ | i <;> simp at hi <;> (subst hi; intro h; cases h)
 change wpAnyIn _ _ _ _ _ _ _ _ _ (World.drew _)
 refine wpAnyIn_take (i := 1) (v := .int .i64 (x.1 : Int)) rfl rfl (by kernel_rfl) (by kernel_rfl) (by kernel_rfl) (fun _ _ _ h => h) ⟨Or.inl ⟨by rfl, by intro w_; go_simp⟩, fun _ => rfl⟩ ?_
 refine wpAnyIn_take (i := 4) (v := .int .i64 (x.1 : Int)) rfl rfl (by kernel_rfl) (by kernel_rfl) (by kernel_rfl) (fun _ _ _ h => h) ⟨Or.inl ⟨by rfl, by intro w_; go_simp⟩, fun _ => rfl⟩ ?_
 refine wpAnyIn_take (i := 5) (v := .int .i64 ((x.1 : Int) + 1)) rfl rfl (by kernel_rfl) (by kernel_rfl) (by kernel_rfl) (fun _ _ _ h => h) ⟨Or.inl ⟨by rfl, by intro w_; go_simp⟩, fun _ => rfl⟩ ?_
 refine wpAnyIn_ready (rs := [0, 2, 3]) (by kernel_rfl) (by simp) ?_
 refine AllReadyIn.cons rfl (fun K hK => ?_) ?_
 ·skip
  go_simp
  refine hK _ _ ?_
  clear hK K
  refine wpAnyIn_ready (rs := [2, 3]) (by kernel_rfl) (by simp) ?_
  refine AllReadyIn.cons rfl (fun K hK => ?_) ?_
  ·skip
   go_simp
   refine hK _ _ ?_
   clear hK K
   refine wpAnyIn_ready (rs := [3]) (by kernel_rfl) (by simp) ?_
   refine AllReadyIn.cons rfl (fun K hK => ?_) ?_
   ·skip
    go_simp
    refine hK _ _ ?_
    clear hK K
    refine wpAnyIn_take (i := 6) (v := .pointer (some ⟨g, x.1 + 1, none⟩)) rfl rfl (by kernel_rfl) (by kernel_rfl) (by kernel_rfl) (fun _ _ _ h => h) ⟨Or.inl ⟨by rfl, by intro w_; go_simp <;> (intro h_; omega)⟩, fun _ => rfl⟩ ?_
    refine wpAnyIn_ready (rs := [7]) (by kernel_rfl) (by simp) ?_
    refine AllReadyIn.cons rfl (fun K hK => ?_) ?_
    ·skip
     go_simp
     refine hK _ _ ?_
     clear hK K
     refine wpAnyIn_ready (rs := [8]) (by kernel_rfl) (by simp) ?_
     refine AllReadyIn.cons rfl (fun K hK => ?_) ?_
     ·skip
      go_simp
      refine ⟨trivial, ?_⟩
      refine (callsIn_wide.2 (impl_Instr_before.calls 1000 _ _ _ _ _ Ai ci Li rb _ ?_ hli hbef)).mono ?_
      ·exact hCi
      rintro e w7 ⟨v7, rfl, hv7, hb7⟩
      obtain ⟨Ar, cr, rfl⟩ := Kd.R_slice hv7
      have hcb7 := (hb7.cell (p := ⟨g + 1, 0, none⟩) hblt).trans hcb
      have hcx7 := (hb7.cell (p := ⟨g, x.1, none⟩) hglt).trans hcx
      have hfx7 : w7.frozen? ⟨g, x.1, none⟩ = false := (World.frozen?_of_block (hb7.block _ hglt)).trans hfx
      refine hK _ _ ?_
      clear hK K
      refine wpAnyIn_take (i := 9) (v := .pointer (some ⟨g, x.1, none⟩)) rfl rfl (by kernel_rfl) (by kernel_rfl) (by kernel_rfl) (fun _ _ _ h => h) ⟨Or.inl ⟨by rfl, by intro w_; go_simp <;> (intro h_; omega)⟩, fun _ => rfl⟩ ?_
      refine wpAnyIn_ready (rs := [10]) (by kernel_rfl) (by simp) ?_
      refine AllReadyIn.cons rfl (fun K hK => ?_) ?_
      ·skip
       go_simp
       refine hK _ _ ?_
       clear hK K
       refine wpAnyIn_done (by kernel_rfl) ?_ _
       exact hfin _ _ _ hb7 hv7
      exact AllReadyIn.nil
     exact AllReadyIn.nil
    exact AllReadyIn.nil
   exact AllReadyIn.nil
  refine AllReadyIn.cons rfl (fun K hK => ?_) ?_
  ·skip
   go_simp
   refine hK _ _ ?_
   clear hK K
   refine wpAnyIn_take (i := 6) (v := .pointer (some ⟨g, x.1 + 1, none⟩)) rfl rfl (by kernel_rfl) (by kernel_rfl) (by kernel_rfl) (fun _ _ _ h => h) ⟨Or.inl ⟨by rfl, by intro w_; go_simp <;> (intro h_; omega)⟩, fun _ => rfl⟩ ?_
   refine wpAnyIn_ready (rs := [2, 7]) (by kernel_rfl) (by simp) ?_
   refine AllReadyIn.cons rfl (fun K hK => ?_) ?_
   ·skip
    go_simp
    refine hK _ _ ?_
    clear hK K
    refine wpAnyIn_ready (rs := [7]) (by kernel_rfl) (by simp) ?_
    refine AllReadyIn.cons rfl (fun K hK => ?_) ?_
    ·skip
     go_simp
     refine hK _ _ ?_
     clear hK K
     refine wpAnyIn_ready (rs := [8]) (by kernel_rfl) (by simp) ?_
     refine AllReadyIn.cons rfl (fun K hK => ?_) ?_
     ·skip
      go_simp
      refine ⟨trivial, ?_⟩
      refine (callsIn_wide.2 (impl_Instr_before.calls 1000 _ _ _ _ _ Ai ci Li rb _ ?_ hli hbef)).mono ?_
      ·exact hCi
      rintro e w7 ⟨v7, rfl, hv7, hb7⟩
      obtain ⟨Ar, cr, rfl⟩ := Kd.R_slice hv7
      have hcb7 := (hb7.cell (p := ⟨g + 1, 0, none⟩) hblt).trans hcb
      have hcx7 := (hb7.cell (p := ⟨g, x.1, none⟩) hglt).trans hcx
      have hfx7 : w7.frozen? ⟨g, x.1, none⟩ = false := (World.frozen?_of_block (hb7.block _ hglt)).trans hfx
      refine hK _ _ ?_
      clear hK K
      refine wpAnyIn_take (i := 9) (v := .pointer (some ⟨g, x.1, none⟩)) rfl rfl (by kernel_rfl) (by kernel_rfl) (by kernel_rfl) (fun _ _ _ h => h) ⟨Or.inl ⟨by rfl, by intro w_; go_simp <;> (intro h_; omega)⟩, fun _ => rfl⟩ ?_
      refine wpAnyIn_ready (rs := [10]) (by kernel_rfl) (by simp) ?_
      refine AllReadyIn.cons rfl (fun K hK => ?_) ?_
      ·skip
       go_simp
       refine hK _ _ ?_
       clear hK K
       refine wpAnyIn_done (by kernel_rfl) ?_ _
       exact hfin _ _ _ hb7 hv7
      exact AllReadyIn.nil
     exact AllReadyIn.nil
    exact AllReadyIn.nil
   refine AllReadyIn.cons rfl (fun K hK => ?_) ?_
   ·skip
    go_simp
    refine hK _ _ ?_
    clear hK K
    refine wpAnyIn_ready (rs := [2]) (by kernel_rfl) (by simp) ?_
    refine AllReadyIn.cons rfl (fun K hK => ?_) ?_
    ·skip
     go_simp
     refine hK _ _ ?_
     clear hK K
     refine wpAnyIn_ready (rs := [8]) (by kernel_rfl) (by simp) ?_
     refine AllReadyIn.cons rfl (fun K hK => ?_) ?_
     ·skip
      go_simp
      refine ⟨trivial, ?_⟩
      refine (callsIn_wide.2 (impl_Instr_before.calls 1000 _ _ _ _ _ Ai ci Li rb _ ?_ hli hbef)).mono ?_
      ·exact hCi
      rintro e w7 ⟨v7, rfl, hv7, hb7⟩
      obtain ⟨Ar, cr, rfl⟩ := Kd.R_slice hv7
      have hcb7 := (hb7.cell (p := ⟨g + 1, 0, none⟩) hblt).trans hcb
      have hcx7 := (hb7.cell (p := ⟨g, x.1, none⟩) hglt).trans hcx
      have hfx7 : w7.frozen? ⟨g, x.1, none⟩ = false := (World.frozen?_of_block (hb7.block _ hglt)).trans hfx
      refine hK _ _ ?_
      clear hK K
      refine wpAnyIn_take (i := 9) (v := .pointer (some ⟨g, x.1, none⟩)) rfl rfl (by kernel_rfl) (by kernel_rfl) (by kernel_rfl) (fun _ _ _ h => h) ⟨Or.inl ⟨by rfl, by intro w_; go_simp <;> (intro h_; omega)⟩, fun _ => rfl⟩ ?_
      refine wpAnyIn_ready (rs := [10]) (by kernel_rfl) (by simp) ?_
      refine AllReadyIn.cons rfl (fun K hK => ?_) ?_
      ·skip
       go_simp
       refine hK _ _ ?_
       clear hK K
       refine wpAnyIn_done (by kernel_rfl) ?_ _
       exact hfin _ _ _ hb7 hv7
      exact AllReadyIn.nil
     exact AllReadyIn.nil
    exact AllReadyIn.nil
   exact AllReadyIn.nil
  exact AllReadyIn.nil
 refine AllReadyIn.cons rfl (fun K hK => ?_) ?_
 ·skip
  go_simp
  refine hK _ _ ?_
  clear hK K
  refine wpAnyIn_ready (rs := [0, 3]) (by kernel_rfl) (by simp) ?_
  refine AllReadyIn.cons rfl (fun K hK => ?_) ?_
  ·skip
   go_simp
   refine hK _ _ ?_
   clear hK K
   refine wpAnyIn_ready (rs := [3]) (by kernel_rfl) (by simp) ?_
   refine AllReadyIn.cons rfl (fun K hK => ?_) ?_
   ·skip
    go_simp
    refine hK _ _ ?_
    clear hK K
    refine wpAnyIn_take (i := 6) (v := .pointer (some ⟨g, x.1 + 1, none⟩)) rfl rfl (by kernel_rfl) (by kernel_rfl) (by kernel_rfl) (fun _ _ _ h => h) ⟨Or.inl ⟨by rfl, by intro w_; go_simp <;> (intro h_; omega)⟩, fun _ => rfl⟩ ?_
    refine wpAnyIn_ready (rs := [7]) (by kernel_rfl) (by simp) ?_
    refine AllReadyIn.cons rfl (fun K hK => ?_) ?_
    ·skip
     go_simp
     refine hK _ _ ?_
     clear hK K
     refine wpAnyIn_ready (rs := [8]) (by kernel_rfl) (by simp) ?_
     refine AllReadyIn.cons rfl (fun K hK => ?_) ?_
     ·skip
      go_simp
      refine ⟨trivial, ?_⟩
      refine (callsIn_wide.2 (impl_Instr_before.calls 1000 _ _ _ _ _ Ai ci Li rb _ ?_ hli hbef)).mono ?_
      ·exact hCi
      rintro e w7 ⟨v7, rfl, hv7, hb7⟩
      obtain ⟨Ar, cr, rfl⟩ := Kd.R_slice hv7
      have hcb7 := (hb7.cell (p := ⟨g + 1, 0, none⟩) hblt).trans hcb
      have hcx7 := (hb7.cell (p := ⟨g, x.1, none⟩) hglt).trans hcx
      have hfx7 : w7.frozen? ⟨g, x.1, none⟩ = false := (World.frozen?_of_block (hb7.block _ hglt)).trans hfx
      refine hK _ _ ?_
      clear hK K
      refine wpAnyIn_take (i := 9) (v := .pointer (some ⟨g, x.1, none⟩)) rfl rfl (by kernel_rfl) (by kernel_rfl) (by kernel_rfl) (fun _ _ _ h => h) ⟨Or.inl ⟨by rfl, by intro w_; go_simp <;> (intro h_; omega)⟩, fun _ => rfl⟩ ?_
      refine wpAnyIn_ready (rs := [10]) (by kernel_rfl) (by simp) ?_
      refine AllReadyIn.cons rfl (fun K hK => ?_) ?_
      ·skip
       go_simp
       refine hK _ _ ?_
       clear hK K
       refine wpAnyIn_done (by kernel_rfl) ?_ _
       exact hfin _ _ _ hb7 hv7
      exact AllReadyIn.nil
     exact AllReadyIn.nil
    exact AllReadyIn.nil
   exact AllReadyIn.nil
  refine AllReadyIn.cons rfl (fun K hK => ?_) ?_
  ·skip
   go_simp
   refine hK _ _ ?_
   clear hK K
   refine wpAnyIn_take (i := 6) (v := .pointer (some ⟨g, x.1 + 1, none⟩)) rfl rfl (by kernel_rfl) (by kernel_rfl) (by kernel_rfl) (fun _ _ _ h => h) ⟨Or.inl ⟨by rfl, by intro w_; go_simp <;> (intro h_; omega)⟩, fun _ => rfl⟩ ?_
   refine wpAnyIn_ready (rs := [0, 7]) (by kernel_rfl) (by simp) ?_
   refine AllReadyIn.cons rfl (fun K hK => ?_) ?_
   ·skip
    go_simp
    refine hK _ _ ?_
    clear hK K
    refine wpAnyIn_ready (rs := [7]) (by kernel_rfl) (by simp) ?_
    refine AllReadyIn.cons rfl (fun K hK => ?_) ?_
    ·skip
     go_simp
     refine hK _ _ ?_
     clear hK K
     refine wpAnyIn_ready (rs := [8]) (by kernel_rfl) (by simp) ?_
     refine AllReadyIn.cons rfl (fun K hK => ?_) ?_
     ·skip
      go_simp
      refine ⟨trivial, ?_⟩
      refine (callsIn_wide.2 (impl_Instr_before.calls 1000 _ _ _ _ _ Ai ci Li rb _ ?_ hli hbef)).mono ?_
      ·exact hCi
      rintro e w7 ⟨v7, rfl, hv7, hb7⟩
      obtain ⟨Ar, cr, rfl⟩ := Kd.R_slice hv7
      have hcb7 := (hb7.cell (p := ⟨g + 1, 0, none⟩) hblt).trans hcb
      have hcx7 := (hb7.cell (p := ⟨g, x.1, none⟩) hglt).trans hcx
      have hfx7 : w7.frozen? ⟨g, x.1, none⟩ = false := (World.frozen?_of_block (hb7.block _ hglt)).trans hfx
      refine hK _ _ ?_
      clear hK K
      refine wpAnyIn_take (i := 9) (v := .pointer (some ⟨g, x.1, none⟩)) rfl rfl (by kernel_rfl) (by kernel_rfl) (by kernel_rfl) (fun _ _ _ h => h) ⟨Or.inl ⟨by rfl, by intro w_; go_simp <;> (intro h_; omega)⟩, fun _ => rfl⟩ ?_
      refine wpAnyIn_ready (rs := [10]) (by kernel_rfl) (by simp) ?_
      refine AllReadyIn.cons rfl (fun K hK => ?_) ?_
      ·skip
       go_simp
       refine hK _ _ ?_
       clear hK K
       refine wpAnyIn_done (by kernel_rfl) ?_ _
       exact hfin _ _ _ hb7 hv7
      exact AllReadyIn.nil
     exact AllReadyIn.nil
    exact AllReadyIn.nil
   refine AllReadyIn.cons rfl (fun K hK => ?_) ?_
   ·skip
    go_simp
    refine hK _ _ ?_
    clear hK K
    refine wpAnyIn_ready (rs := [0, 8]) (by kernel_rfl) (by simp) ?_
    refine AllReadyIn.cons rfl (fun K hK => ?_) ?_
    ·skip
     go_simp
     refine hK _ _ ?_
     clear hK K
     refine wpAnyIn_ready (rs := [8]) (by kernel_rfl) (by simp) ?_
     refine AllReadyIn.cons rfl (fun K hK => ?_) ?_
     ·skip
      go_simp
      refine ⟨trivial, ?_⟩
      refine (callsIn_wide.2 (impl_Instr_before.calls 1000 _ _ _ _ _ Ai ci Li rb _ ?_ hli hbef)).mono ?_
      ·exact hCi
      rintro e w7 ⟨v7, rfl, hv7, hb7⟩
      obtain ⟨Ar, cr, rfl⟩ := Kd.R_slice hv7
      have hcb7 := (hb7.cell (p := ⟨g + 1, 0, none⟩) hblt).trans hcb
      have hcx7 := (hb7.cell (p := ⟨g, x.1, none⟩) hglt).trans hcx
      have hfx7 : w7.frozen? ⟨g, x.1, none⟩ = false := (World.frozen?_of_block (hb7.block _ hglt)).trans hfx
      refine hK _ _ ?_
      clear hK K
      refine wpAnyIn_take (i := 9) (v := .pointer (some ⟨g, x.1, none⟩)) rfl rfl (by kernel_rfl) (by kernel_rfl) (by kernel_rfl) (fun _ _ _ h => h) ⟨Or.inl ⟨by rfl, by intro w_; go_simp <;> (intro h_; omega)⟩, fun _ => rfl⟩ ?_
      refine wpAnyIn_ready (rs := [10]) (by kernel_rfl) (by simp) ?_
      refine AllReadyIn.cons rfl (fun K hK => ?_) ?_
      ·skip
       go_simp
       refine hK _ _ ?_
       clear hK K
       refine wpAnyIn_done (by kernel_rfl) ?_ _
       exact hfin _ _ _ hb7 hv7
      exact AllReadyIn.nil
     exact AllReadyIn.nil
    refine AllReadyIn.cons rfl (fun K hK => ?_) ?_
    ·skip
     go_simp
     refine ⟨trivial, ?_⟩
     refine (callsIn_wide.2 (impl_Instr_before.calls 1000 _ _ _ _ _ Ai ci Li rb _ ?_ hli hbef)).mono ?_
     ·exact hCi
     rintro e w7 ⟨v7, rfl, hv7, hb7⟩
     obtain ⟨Ar, cr, rfl⟩ := Kd.R_slice hv7
     have hcb7 := (hb7.cell (p := ⟨g + 1, 0, none⟩) hblt).trans hcb
     have hcx7 := (hb7.cell (p := ⟨g, x.1, none⟩) hglt).trans hcx
     have hfx7 : w7.frozen? ⟨g, x.1, none⟩ = false := (World.frozen?_of_block (hb7.block _ hglt)).trans hfx
     refine hK _ _ ?_
     clear hK K
     refine wpAnyIn_ready (rs := [0]) (by kernel_rfl) (by simp) ?_
     refine AllReadyIn.cons rfl (fun K hK => ?_) ?_
     ·skip
      go_simp
      refine hK _ _ ?_
      clear hK K
      refine wpAnyIn_take (i := 9) (v := .pointer (some ⟨g, x.1, none⟩)) rfl rfl (by kernel_rfl) (by kernel_rfl) (by kernel_rfl) (fun _ _ _ h => h) ⟨Or.inl ⟨by rfl, by intro w_; go_simp <;> (intro h_; omega)⟩, fun _ => rfl⟩ ?_
      refine wpAnyIn_ready (rs := [10]) (by kernel_rfl) (by simp) ?_
      refine AllReadyIn.cons rfl (fun K hK => ?_) ?_
      ·skip
       go_simp
       refine hK _ _ ?_
       clear hK K
       refine wpAnyIn_done (by kernel_rfl) ?_ _
       exact hfin _ _ _ hb7 hv7
      exact AllReadyIn.nil
     exact AllReadyIn.nil
    exact AllReadyIn.nil
   exact AllReadyIn.nil
  exact AllReadyIn.nil
 refine AllReadyIn.cons rfl (fun K hK => ?_) ?_
 ·skip
  go_simp
  refine hK _ _ ?_
  clear hK K
  refine wpAnyIn_take (i := 6) (v := .pointer (some ⟨g, x.1 + 1, none⟩)) rfl rfl (by kernel_rfl) (by kernel_rfl) (by kernel_rfl) (fun _ _ _ h => h) ⟨Or.inl ⟨by rfl, by intro w_; go_simp <;> (intro h_; omega)⟩, fun _ => rfl⟩ ?_
  refine wpAnyIn_ready (rs := [0, 2, 7]) (by kernel_rfl) (by simp) ?_
  refine AllReadyIn.cons rfl (fun K hK => ?_) ?_
  ·skip
   go_simp
   refine hK _ _ ?_
   clear hK K
   refine wpAnyIn_ready (rs := [2, 7]) (by kernel_rfl) (by simp) ?_
   refine AllReadyIn.cons rfl (fun K hK => ?_) ?_
   ·skip
    go_simp
    refine hK _ _ ?_
    clear hK K
    refine wpAnyIn_ready (rs := [7]) (by kernel_rfl) (by simp) ?_
    refine AllReadyIn.cons rfl (fun K hK => ?_) ?_
    ·skip
     go_simp
     refine hK _ _ ?_
     clear hK K
     refine wpAnyIn_ready (rs := [8]) (by kernel_rfl) (by simp) ?_
     refine AllReadyIn.cons rfl (fun K hK => ?_) ?_
     ·skip
      go_simp
      refine ⟨trivial, ?_⟩
      refine (callsIn_wide.2 (impl_Instr_before.calls 1000 _ _ _ _ _ Ai ci Li rb _ ?_ hli hbef)).mono ?_
      ·exact hCi
      rintro e w7 ⟨v7, rfl, hv7, hb7⟩
      obtain ⟨Ar, cr, rfl⟩ := Kd.R_slice hv7
      have hcb7 := (hb7.cell (p := ⟨g + 1, 0, none⟩) hblt).trans hcb
      have hcx7 := (hb7.cell (p := ⟨g, x.1, none⟩) hglt).trans hcx
      have hfx7 : w7.frozen? ⟨g, x.1, none⟩ = false := (World.frozen?_of_block (hb7.block _ hglt)).trans hfx
      refine hK _ _ ?_
      clear hK K
      refine wpAnyIn_take (i := 9) (v := .pointer (some ⟨g, x.1, none⟩)) rfl rfl (by kernel_rfl) (by kernel_rfl) (by kernel_rfl) (fun _ _ _ h => h) ⟨Or.inl ⟨by rfl, by intro w_; go_simp <;> (intro h_; omega)⟩, fun _ => rfl⟩ ?_
      refine wpAnyIn_ready (rs := [10]) (by kernel_rfl) (by simp) ?_
      refine AllReadyIn.cons rfl (fun K hK => ?_) ?_
      ·skip
       go_simp
       refine hK _ _ ?_
       clear hK K
       refine wpAnyIn_done (by kernel_rfl) ?_ _
       exact hfin _ _ _ hb7 hv7
      exact AllReadyIn.nil
     exact AllReadyIn.nil
    exact AllReadyIn.nil
   refine AllReadyIn.cons rfl (fun K hK => ?_) ?_
   ·skip
    go_simp
    refine hK _ _ ?_
    clear hK K
    refine wpAnyIn_ready (rs := [2]) (by kernel_rfl) (by simp) ?_
    refine AllReadyIn.cons rfl (fun K hK => ?_) ?_
    ·skip
     go_simp
     refine hK _ _ ?_
     clear hK K
     refine wpAnyIn_ready (rs := [8]) (by kernel_rfl) (by simp) ?_
     refine AllReadyIn.cons rfl (fun K hK => ?_) ?_
     ·skip
      go_simp
      refine ⟨trivial, ?_⟩
      refine (callsIn_wide.2 (impl_Instr_before.calls 1000 _ _ _ _ _ Ai ci Li rb _ ?_ hli hbef)).mono ?_
      ·exact hCi
      rintro e w7 ⟨v7, rfl, hv7, hb7⟩
      obtain ⟨Ar, cr, rfl⟩ := Kd.R_slice hv7
      have hcb7 := (hb7.cell (p := ⟨g + 1, 0, none⟩) hblt).trans hcb
      have hcx7 := (hb7.cell (p := ⟨g, x.1, none⟩) hglt).trans hcx
      have hfx7 : w7.frozen? ⟨g, x.1, none⟩ = false := (World.frozen?_of_block (hb7.block _ hglt)).trans hfx
      refine hK _ _ ?_
      clear hK K
      refine wpAnyIn_take (i := 9) (v := .pointer (some ⟨g, x.1, none⟩)) rfl rfl (by kernel_rfl) (by kernel_rfl) (by kernel_rfl) (fun _ _ _ h => h) ⟨Or.inl ⟨by rfl, by intro w_; go_simp <;> (intro h_; omega)⟩, fun _ => rfl⟩ ?_
      refine wpAnyIn_ready (rs := [10]) (by kernel_rfl) (by simp) ?_
      refine AllReadyIn.cons rfl (fun K hK => ?_) ?_
      ·skip
       go_simp
       refine hK _ _ ?_
       clear hK K
       refine wpAnyIn_done (by kernel_rfl) ?_ _
       exact hfin _ _ _ hb7 hv7
      exact AllReadyIn.nil
     exact AllReadyIn.nil
    exact AllReadyIn.nil
   exact AllReadyIn.nil
  refine AllReadyIn.cons rfl (fun K hK => ?_) ?_
  ·skip
   go_simp
   refine hK _ _ ?_
   clear hK K
   refine wpAnyIn_ready (rs := [0, 7]) (by kernel_rfl) (by simp) ?_
   refine AllReadyIn.cons rfl (fun K hK => ?_) ?_
   ·skip
    go_simp
    refine hK _ _ ?_
    clear hK K
    refine wpAnyIn_ready (rs := [7]) (by kernel_rfl) (by simp) ?_
    refine AllReadyIn.cons rfl (fun K hK => ?_) ?_
    ·skip
     go_simp
     refine hK _ _ ?_
     clear hK K
     refine wpAnyIn_ready (rs := [8]) (by kernel_rfl) (by simp) ?_
     refine AllReadyIn.cons rfl (fun K hK => ?_) ?_
     ·skip
      go_simp
      refine ⟨trivial, ?_⟩
      refine (callsIn_wide.2 (impl_Instr_before.calls 1000 _ _ _ _ _ Ai ci Li rb _ ?_ hli hbef)).mono ?_
      ·exact hCi
      rintro e w7 ⟨v7, rfl, hv7, hb7⟩
      obtain ⟨Ar, cr, rfl⟩ := Kd.R_slice hv7
      have hcb7 := (hb7.cell (p := ⟨g + 1, 0, none⟩) hblt).trans hcb
      have hcx7 := (hb7.cell (p := ⟨g, x.1, none⟩) hglt).trans hcx
      have hfx7 : w7.frozen? ⟨g, x.1, none⟩ = false := (World.frozen?_of_block (hb7.block _ hglt)).trans hfx
      refine hK _ _ ?_
      clear hK K
      refine wpAnyIn_take (i := 9) (v := .pointer (some ⟨g, x.1, none⟩)) rfl rfl (by kernel_rfl) (by kernel_rfl) (by kernel_rfl) (fun _ _ _ h => h) ⟨Or.inl ⟨by rfl, by intro w_; go_simp <;> (intro h_; omega)⟩, fun _ => rfl⟩ ?_
      refine wpAnyIn_ready (rs := [10]) (by kernel_rfl) (by simp) ?_
      refine AllReadyIn.cons rfl (fun K hK => ?_) ?_
      ·skip
       go_simp
       refine hK _ _ ?_
       clear hK K
       refine wpAnyIn_done (by kernel_rfl) ?_ _
       exact hfin _ _ _ hb7 hv7
      exact AllReadyIn.nil
     exact AllReadyIn.nil
    exact AllReadyIn.nil
   refine AllReadyIn.cons rfl (fun K hK => ?_) ?_
   ·skip
    go_simp
    refine hK _ _ ?_
    clear hK K
    refine wpAnyIn_ready (rs := [0, 8]) (by kernel_rfl) (by simp) ?_
    refine AllReadyIn.cons rfl (fun K hK => ?_) ?_
    ·skip
     go_simp
     refine hK _ _ ?_
     clear hK K
     refine wpAnyIn_ready (rs := [8]) (by kernel_rfl) (by simp) ?_
     refine AllReadyIn.cons rfl (fun K hK => ?_) ?_
     ·skip
      go_simp
      refine ⟨trivial, ?_⟩
      refine (callsIn_wide.2 (impl_Instr_before.calls 1000 _ _ _ _ _ Ai ci Li rb _ ?_ hli hbef)).mono ?_
      ·exact hCi
      rintro e w7 ⟨v7, rfl, hv7, hb7⟩
      obtain ⟨Ar, cr, rfl⟩ := Kd.R_slice hv7
      have hcb7 := (hb7.cell (p := ⟨g + 1, 0, none⟩) hblt).trans hcb
      have hcx7 := (hb7.cell (p := ⟨g, x.1, none⟩) hglt).trans hcx
      have hfx7 : w7.frozen? ⟨g, x.1, none⟩ = false := (World.frozen?_of_block (hb7.block _ hglt)).trans hfx
      refine hK _ _ ?_
      clear hK K
      refine wpAnyIn_take (i := 9) (v := .pointer (some ⟨g, x.1, none⟩)) rfl rfl (by kernel_rfl) (by kernel_rfl) (by kernel_rfl) (fun _ _ _ h => h) ⟨Or.inl ⟨by rfl, by intro w_; go_simp <;> (intro h_; omega)⟩, fun _ => rfl⟩ ?_
      refine wpAnyIn_ready (rs := [10]) (by kernel_rfl) (by simp) ?_
      refine AllReadyIn.cons rfl (fun K hK => ?_) ?_
      ·skip
       go_simp
       refine hK _ _ ?_
       clear hK K
       refine wpAnyIn_done (by kernel_rfl) ?_ _
       exact hfin _ _ _ hb7 hv7
      exact AllReadyIn.nil
     exact AllReadyIn.nil
    refine AllReadyIn.cons rfl (fun K hK => ?_) ?_
    ·skip
     go_simp
     refine ⟨trivial, ?_⟩
     refine (callsIn_wide.2 (impl_Instr_before.calls 1000 _ _ _ _ _ Ai ci Li rb _ ?_ hli hbef)).mono ?_
     ·exact hCi
     rintro e w7 ⟨v7, rfl, hv7, hb7⟩
     obtain ⟨Ar, cr, rfl⟩ := Kd.R_slice hv7
     have hcb7 := (hb7.cell (p := ⟨g + 1, 0, none⟩) hblt).trans hcb
     have hcx7 := (hb7.cell (p := ⟨g, x.1, none⟩) hglt).trans hcx
     have hfx7 : w7.frozen? ⟨g, x.1, none⟩ = false := (World.frozen?_of_block (hb7.block _ hglt)).trans hfx
     refine hK _ _ ?_
     clear hK K
     refine wpAnyIn_ready (rs := [0]) (by kernel_rfl) (by simp) ?_
     refine AllReadyIn.cons rfl (fun K hK => ?_) ?_
     ·skip
      go_simp
      refine hK _ _ ?_
      clear hK K
      refine wpAnyIn_take (i := 9) (v := .pointer (some ⟨g, x.1, none⟩)) rfl rfl (by kernel_rfl) (by kernel_rfl) (by kernel_rfl) (fun _ _ _ h => h) ⟨Or.inl ⟨by rfl, by intro w_; go_simp <;> (intro h_; omega)⟩, fun _ => rfl⟩ ?_
      refine wpAnyIn_ready (rs := [10]) (by kernel_rfl) (by simp) ?_
      refine AllReadyIn.cons rfl (fun K hK => ?_) ?_
      ·skip
       go_simp
       refine hK _ _ ?_
       clear hK K
       refine wpAnyIn_done (by kernel_rfl) ?_ _
       exact hfin _ _ _ hb7 hv7
      exact AllReadyIn.nil
     exact AllReadyIn.nil
    exact AllReadyIn.nil
   exact AllReadyIn.nil
  refine AllReadyIn.cons rfl (fun K hK => ?_) ?_
  ·skip
   go_simp
   refine hK _ _ ?_
   clear hK K
   refine wpAnyIn_ready (rs := [0, 2]) (by kernel_rfl) (by simp) ?_
   refine AllReadyIn.cons rfl (fun K hK => ?_) ?_
   ·skip
    go_simp
    refine hK _ _ ?_
    clear hK K
    refine wpAnyIn_ready (rs := [2]) (by kernel_rfl) (by simp) ?_
    refine AllReadyIn.cons rfl (fun K hK => ?_) ?_
    ·skip
     go_simp
     refine hK _ _ ?_
     clear hK K
     refine wpAnyIn_ready (rs := [8]) (by kernel_rfl) (by simp) ?_
     refine AllReadyIn.cons rfl (fun K hK => ?_) ?_
     ·skip
      go_simp
      refine ⟨trivial, ?_⟩
      refine (callsIn_wide.2 (impl_Instr_before.calls 1000 _ _ _ _ _ Ai ci Li rb _ ?_ hli hbef)).mono ?_
      ·exact hCi
      rintro e w7 ⟨v7, rfl, hv7, hb7⟩
      obtain ⟨Ar, cr, rfl⟩ := Kd.R_slice hv7
      have hcb7 := (hb7.cell (p := ⟨g + 1, 0, none⟩) hblt).trans hcb
      have hcx7 := (hb7.cell (p := ⟨g, x.1, none⟩) hglt).trans hcx
      have hfx7 : w7.frozen? ⟨g, x.1, none⟩ = false := (World.frozen?_of_block (hb7.block _ hglt)).trans hfx
      refine hK _ _ ?_
      clear hK K
      refine wpAnyIn_take (i := 9) (v := .pointer (some ⟨g, x.1, none⟩)) rfl rfl (by kernel_rfl) (by kernel_rfl) (by kernel_rfl) (fun _ _ _ h => h) ⟨Or.inl ⟨by rfl, by intro w_; go_simp <;> (intro h_; omega)⟩, fun _ => rfl⟩ ?_
      refine wpAnyIn_ready (rs := [10]) (by kernel_rfl) (by simp) ?_
      refine AllReadyIn.cons rfl (fun K hK => ?_) ?_
      ·skip
       go_simp
       refine hK _ _ ?_
       clear hK K
       refine wpAnyIn_done (by kernel_rfl) ?_ _
       exact hfin _ _ _ hb7 hv7
      exact AllReadyIn.nil
     exact AllReadyIn.nil
    exact AllReadyIn.nil
   refine AllReadyIn.cons rfl (fun K hK => ?_) ?_
   ·skip
    go_simp
    refine hK _ _ ?_
    clear hK K
    refine wpAnyIn_ready (rs := [0, 8]) (by kernel_rfl) (by simp) ?_
    refine AllReadyIn.cons rfl (fun K hK => ?_) ?_
    ·skip
     go_simp
     refine hK _ _ ?_
     clear hK K
     refine wpAnyIn_ready (rs := [8]) (by kernel_rfl) (by simp) ?_
     refine AllReadyIn.cons rfl (fun K hK => ?_) ?_
     ·skip
      go_simp
      refine ⟨trivial, ?_⟩
      refine (callsIn_wide.2 (impl_Instr_before.calls 1000 _ _ _ _ _ Ai ci Li rb _ ?_ hli hbef)).mono ?_
      ·exact hCi
      rintro e w7 ⟨v7, rfl, hv7, hb7⟩
      obtain ⟨Ar, cr, rfl⟩ := Kd.R_slice hv7
      have hcb7 := (hb7.cell (p := ⟨g + 1, 0, none⟩) hblt).trans hcb
      have hcx7 := (hb7.cell (p := ⟨g, x.1, none⟩) hglt).trans hcx
      have hfx7 : w7.frozen? ⟨g, x.1, none⟩ = false := (World.frozen?_of_block (hb7.block _ hglt)).trans hfx
      refine hK _ _ ?_
      clear hK K
      refine wpAnyIn_take (i := 9) (v := .pointer (some ⟨g, x.1, none⟩)) rfl rfl (by kernel_rfl) (by kernel_rfl) (by kernel_rfl) (fun _ _ _ h => h) ⟨Or.inl ⟨by rfl, by intro w_; go_simp <;> (intro h_; omega)⟩, fun _ => rfl⟩ ?_
      refine wpAnyIn_ready (rs := [10]) (by kernel_rfl) (by simp) ?_
      refine AllReadyIn.cons rfl (fun K hK => ?_) ?_
      ·skip
       go_simp
       refine hK _ _ ?_
       clear hK K
       refine wpAnyIn_done (by kernel_rfl) ?_ _
       exact hfin _ _ _ hb7 hv7
      exact AllReadyIn.nil
     exact AllReadyIn.nil
    refine AllReadyIn.cons rfl (fun K hK => ?_) ?_
    ·skip
     go_simp
     refine ⟨trivial, ?_⟩
     refine (callsIn_wide.2 (impl_Instr_before.calls 1000 _ _ _ _ _ Ai ci Li rb _ ?_ hli hbef)).mono ?_
     ·exact hCi
     rintro e w7 ⟨v7, rfl, hv7, hb7⟩
     obtain ⟨Ar, cr, rfl⟩ := Kd.R_slice hv7
     have hcb7 := (hb7.cell (p := ⟨g + 1, 0, none⟩) hblt).trans hcb
     have hcx7 := (hb7.cell (p := ⟨g, x.1, none⟩) hglt).trans hcx
     have hfx7 : w7.frozen? ⟨g, x.1, none⟩ = false := (World.frozen?_of_block (hb7.block _ hglt)).trans hfx
     refine hK _ _ ?_
     clear hK K
     refine wpAnyIn_ready (rs := [0]) (by kernel_rfl) (by simp) ?_
     refine AllReadyIn.cons rfl (fun K hK => ?_) ?_
     ·skip
      go_simp
      refine hK _ _ ?_
      clear hK K
      refine wpAnyIn_take (i := 9) (v := .pointer (some ⟨g, x.1, none⟩)) rfl rfl (by kernel_rfl) (by kernel_rfl) (by kernel_rfl) (fun _ _ _ h => h) ⟨Or.inl ⟨by rfl, by intro w_; go_simp <;> (intro h_; omega)⟩, fun _ => rfl⟩ ?_
      refine wpAnyIn_ready (rs := [10]) (by kernel_rfl) (by simp) ?_
      refine AllReadyIn.cons rfl (fun K hK => ?_) ?_
      ·skip
       go_simp
       refine hK _ _ ?_
       clear hK K
       refine wpAnyIn_done (by kernel_rfl) ?_ _
       exact hfin _ _ _ hb7 hv7
      exact AllReadyIn.nil
     exact AllReadyIn.nil
    exact AllReadyIn.nil
   exact AllReadyIn.nil
  exact AllReadyIn.nil
 exact AllReadyIn.nil
set_option maxRecDepth 100000 in
set_option maxHeartbeats 8000000 in
theorem impl_liveSets.hand_S (A0 : Option Addr) (c0 : Nat) (l0 : List (S67)) (A1 : Option Addr) (c1 : Nat) (l1 : List Int) (w : World) (hr0 : Kd.C k67 w A0 l0.length l0) (hc0 : l0.length ≤ c0) (hr1 : Kd.C (Kd.int .i64) w A1 l1.length l1) (hc1 : l1.length ≤ c1) (hok : impl_liveSets.hand_ok l0 l1) :
  Calls Try.prog 100 #[.slice A0 l0.length c0, .slice A1 l1.length c1] w fun e w' => ∃ (g : Nat) (V : Nat → Value) (Ls : Nat → List Int) (Fo : Nat → Nat), e = .returned (.slice (some ⟨g, 0, none⟩) (l0.length + 1) (l0.length + 1)) ∧ impl_liveSets.hand_rows l0.length w.heap.size g V Ls Fo w' ∧ (∀ t, t ≤ l0.length → Ls (l0.length - t) = impl_liveSets.hand_at l0 l1 t) ∧ w.heap.size ≤ g ∧ Below w.heap.size w w' := by
 obtain ⟨hn, hn1, hw1, hcl⟩ := hok
 obtain ⟨i0, hi, hz0, hz1, hz2⟩ := info_parts info40
 have hwn : wrap64 ((l0.length : Int) + 1) = (l0.length : Int) + 1 := by unfold wrap64; omega
 obtain ⟨Z, hZ⟩ : ∃ Z : Array Value, Z = ((List.range (l0.length + 1)).map fun _ => (Value.slice none 0 0)).toArray := ⟨_, rfl⟩
 have hmk : ∀ W : World, (Instr.makeSlice 41 (.int .i64 ((l0.length : Int) + 1)) (.int .i64 ((l0.length : Int) + 1))).run Try.prog W = .ok (.slice (some ⟨W.heap.size, 0, none⟩) (l0.length + 1) (l0.length + 1)) (W.alloc (.cells Z 40)) := fun W => by
  have := run_makeSlice (P := Try.prog) (w := W) 41 40 i0 _ Try.underlying41 hi hz0 .i64 .i64 ((l0.length : Int) + 1) ((l0.length : Int) + 1) (by omega) (Int.le_refl _) (by rw [hz1]; omega) (by rw [hz2]; omega) (by omega)
  rw [hz1, show ((l0.length : Int) + 1).toNat = l0.length + 1 by omega, impl_liveSets.hand_zero, ← hZ] at this
  exact this
 have hcl1 : slices_Clone_int_int.f l1 = some l1 := by
  unfold slices_Clone_int_int.f
  rw [Option.bind_some, if_pos (by simp; omega), List.nil_append]
 have HZ := zK hZ
 clear hZ
 refine (callsIn_wide (n := 8)).1 ?_
 refine callsIn_of_wp_marks Try.func100 rfl trivial ?_ rfl
 simp only [Try.ntmps100, List.size_toArray, List.length_cons, List.length_nil, Nat.reduceAdd, Nat.reduceSub, Array.replicate_succ, Array.replicate_zero, List.push_toArray, List.append_toArray, List.nil_append, List.cons_append]
 refine wpIn_wide.2 ?_
 go_wp2
 have hbx := Boxed.new (w.alloc (.cells Z 40)) 41 (.slice (some ⟨w.heap.size, 0, none⟩) (l0.length + 1) (l0.length + 1))
 rw [World.size_alloc] at hbx
 have hgz : ((w.alloc (.cells Z 40)).alloc (.cells #[.slice (some ⟨w.heap.size, 0, none⟩) (l0.length + 1) (l0.length + 1)] 41)).heap[w.heap.size]? = some (.cells Z 40 (0, 0)) := zG (blk_new w _) _
 have hB1 : Below w.heap.size w ((w.alloc (.cells Z 40)).alloc (.cells #[.slice (some ⟨w.heap.size, 0, none⟩) (l0.length + 1) (l0.length + 1)] 41)) := zA (zA (Below.refl _ _) _) _
 generalize (w.alloc (.cells Z 40)).alloc (.cells #[.slice (some ⟨w.heap.size, 0, none⟩) (l0.length + 1) (l0.length + 1)] 41) = W1 at hbx hgz hB1 ⊢
 have hcb := hbx.cell
 have hcn : W1.cell? ⟨w.heap.size, l0.length, none⟩ = some (.slice none 0 0) := by simp [World.cell?, hgz, HZ.out]
 have hfn : W1.frozen? ⟨w.heap.size, l0.length, none⟩ = false := by simp [World.frozen?, hgz]
 have hbl := hbx.lt
 rename_i K hK
 have key : ∀ (w1 : World) (Ao : Option Addr) (co : Nat), Below W1.drew.heap.size W1.drew w1 → Kd.R (Kd.int .i64) 3 w1 W1.drew.heap.size (fun _ => True) (.slice Ao l1.length co) l1 →
   K { tmps := #[.slice A0 l0.length c0, .slice A1 l1.length c1, undef, undef, .slice none 0 0, .pointer (some ⟨w.heap.size + 1, 0, none⟩), undef, undef, .slice A0 l0.length c0, .int .i64 (l0.length : Int), .int .i64 ((l0.length : Int) + 1), .slice (some ⟨w.heap.size, 0, none⟩) (l0.length + 1) (l0.length + 1), .slice (some ⟨w.heap.size, 0, none⟩) (l0.length + 1) (l0.length + 1), .slice A0 l0.length c0, .int .i64 (l0.length : Int), .slice A1 l1.length c1, .slice Ao l1.length co, .pointer (some ⟨w.heap.size, l0.length, none⟩), undef, undef, undef, undef, undef, undef, undef, undef, undef, undef, undef, undef, undef, undef, undef], defers := [] } (w1.setCell ⟨w.heap.size, l0.length, none⟩ (.slice Ao l1.length co)) := by
  intro w1 Ao co hb1 hv1
  have hb1 : Below W1.heap.size W1 w1 := ⟨hb1.os, hb1.tape, hb1.output, hb1.size, hb1.block⟩
  have hbk : ∀ k, k < W1.heap.size → w1.heap[k]? = W1.heap[k]? := fun k hk => hb1.block k hk
  have hr0' : impl_liveSets.hand_rows l0.length w.heap.size w.heap.size (fun _ => .slice none 0 0) (fun _ => []) (fun _ => 0) w1 := ⟨by rw [hbk _ (by omega), hgz, HZ.out], fun j _ => Kd.R_nil _ _ _ _ _⟩
  have hrows := impl_liveSets.hand_rows_put hr0' l0.length (Nat.le_refl _) (.slice Ao l1.length co) l1 (b0 := W1.heap.size) (by omega) hv1 (fun j _ k e => by cases e)
  have hbx1 : Boxed w1 (w.heap.size + 1) 41 (.slice (some ⟨w.heap.size, 0, none⟩) (l0.length + 1) (l0.length + 1)) := (hbk _ hbl).trans hbx
  have hbx2 : Boxed (w1.setCell ⟨w.heap.size, l0.length, none⟩ (.slice Ao l1.length co)) (w.heap.size + 1) 41 (.slice (some ⟨w.heap.size, 0, none⟩) (l0.length + 1) (l0.length + 1)) := (Below.heap_setCell w1 ⟨w.heap.size, l0.length, none⟩ _ (w.heap.size + 1) (by simp)).trans hbx1
  have hB2 : Below w.heap.size w (w1.setCell ⟨w.heap.size, l0.length, none⟩ (.slice Ao l1.length co)) := zD (hB1.trans (hb1.mono hB1.size)) (Nat.le_refl _)
  clear hcb hcn hfn hv1 hr0' hbx hbx1 hgz hbl hb1 hB1 hbk
  generalize w1.setCell ⟨w.heap.size, l0.length, none⟩ (.slice Ao l1.length co) = w2 at hrows hbx2 hB2 ⊢
  generalize hV : (fun j => if j = l0.length then (Value.slice Ao l1.length co) else .slice none 0 0) = V0 at hrows
  generalize hL : (fun j => if j = l0.length then l1 else ([] : List Int)) = L0 at hrows
  generalize (fun k => if W1.heap.size ≤ k then l0.length else 0) = F0 at hrows
  clear hV
  have hwant0 : ∀ j, impl_liveSets.hand_want (L0 j) := fun j => by
   rw [← hL]
   dsimp only
   split
   ·exact hw1
   ·exact ⟨List.Pairwise.nil, fun r hr => by cases hr⟩
  have hexp0 : L0 l0.length = l1 := by rw [← hL]; simp
  clear hL
  refine hK _ _ ?_
  clear hK
  go_wp2_with (go_at_call 103; refine (callsIn_wide.1 (bwiter.hand_make Fence.wide 8 trivial rfl A0 l0.length c0 _)).mono ?_; rintro e w' ⟨rfl, rfl⟩)
  refine (wpIn_wide (n := 8)).1 ?_
  have hgl : w.heap.size < w2.heap.size := (Array.getElem?_eq_some_iff.1 hrows.1).1
  refine wpIn_rangeFunc_ownH (n := 8) (F := Fence.wide) rfl (by decide) (gf := 151) (lb := #[.pointer (some ⟨w2.heap.size, 0, none⟩)]) rfl trivial (enters_of Try.func151 (by kernel_rfl) rfl)
   (bwiter.hand_stops Fence.wide 7 trivial rfl (by decide) w2.heap.size c0 A0 l0 w (w2.alloc (.cells #[.slice A0 l0.length c0] 24)) (by omega) hr0 (hB2.alloc hB2.size _) (Boxed.new w2 24 _).cell (by simp)) bwiter.hand_keep_t (bwiter.hand_keep_b (by simp; omega) (by simp)) (Below.refl _ _) (fun _ => rfl)
   (fun pre W => (∃ (V : Nat → Value) (Ls : Nat → List Int) (Fo : Nat → Nat), impl_liveSets.hand_rows l0.length w.heap.size w.heap.size V Ls Fo W ∧ (∀ j, impl_liveSets.hand_want (Ls j)) ∧ ∀ m, m ≤ l0.length → pre = bwiter.hand_from l0.length m → ∀ t, t ≤ m → Ls (l0.length - t) = impl_liveSets.hand_at l0 l1 t) ∧ Boxed W (w.heap.size + 1) 41 (.slice (some ⟨w.heap.size, 0, none⟩) (l0.length + 1) (l0.length + 1)) ∧ Below w.heap.size w W ∧ w2.heap.size < W.heap.size)
   (fun _ _ _ => False)
   ?_ (fun _ _ _ _ _ hs _ _ => hs) ?_
   (fun x a' W => ∃ Bx, w2.heap.size < Bx ∧ W.heap[Bx]? = some (.cells #[.string (rd_T67 l0 (x.1 : Int)).f0, .int .i64 (rd_T67 l0 (x.1 : Int)).f1, .int .i64 (rd_T67 l0 (x.1 : Int)).f2, .int .i64 (rd_T67 l0 (x.1 : Int)).f3, .int .i64 (rd_T67 l0 (x.1 : Int)).f4] 67 (0, 0)) ∧ a' = impl_liveSets.hand_act l0 A0 A1 Ao c0 l1.length c1 co w.heap.size w2.heap.size Bx x)
   ?_ ?_ ?_ ?_ ?_
  ·intro s W W' row hs hg hr
   obtain ⟨⟨V, Ls, Fo, h1, h2, h3⟩, h4, h5, h6⟩ := hs
   exact ⟨⟨V, Ls, Fo, impl_liveSets.hand_rows_kept h1 hg (fun r e => (hr r e).2), h2, h3⟩, impl_liveSets.hand_blk h4 hg hr, ownFrom_below (β := Unit) (Nat.le_refl _) (by simp; omega) () W W' row h5 hg hr, Nat.lt_of_lt_of_le h6 hg.size⟩
  ·refine ⟨⟨V0, L0, F0, impl_liveSets.hand_rows_below hrows (zA (Below.refl _ _) _), hwant0, fun m hm e t ht => ?_⟩, hbx2.alloc _, hB2.alloc hB2.size _, by simp⟩
   have := congrArg List.length e
   rw [bwiter.hand_from_len _ _ hm] at this
   obtain rfl : m = 0 := this.symm
   obtain rfl : t = 0 := by omega
   exact hexp0
  ·intro x a' s W W' row hs hg hr
   obtain ⟨Bx, h1, h2, h3⟩ := hs
   exact ⟨Bx, h1, impl_liveSets.hand_blk h2 hg hr, h3⟩
  ·intro l pre x W K hi hKK
   obtain ⟨⟨V, Ls, Fo, h1, h2, h3⟩, h4, h5, h6⟩ := hi
   simp only [bwiter.hand_encs]
   gi_wp2
   exact hKK _ _ ((KeepsOthers.alloc _ _).from _) ⟨(Below.refl w.heap.size W).alloc h5.size _, Below.heap_alloc _ _ _ h6⟩ ⟨⟨V, Ls, Fo, impl_liveSets.hand_rows_below h1 (zA (Below.refl _ _) _), h2, h3⟩, h4.alloc _, h5.alloc h5.size _, by simp; omega⟩ ⟨W.heap.size, h6, blk_new _ _, rfl⟩
  ·rintro l pre x a' W hl hrr ⟨⟨V, Ls, Fo, h1, h2, h3⟩, h4, h5, h6⟩ ⟨Bx, hx1, hx2, rfl⟩ hlt
   have hx := x.2
   obtain ⟨hcx, hfx⟩ := impl_liveSets.hand_rows_cell h1 x.1 (by omega)
   obtain ⟨hcy, _⟩ := impl_liveSets.hand_rows_cell h1 (x.1 + 1) (by omega)
   obtain ⟨Ai, ci, hvi, hli, hCi⟩ := Kd.R_reads (h1.2 (x.1 + 1) (by omega))
   rw [hvi] at hcy
   obtain ⟨rb, hbef, hwr⟩ := hcl x.1 hx (Ls (x.1 + 1)) (h2 _)
   have hfin := impl_liveSets.hand_fin l0 l1 w w2 W W.drew V Ls Fo pre x rb h1 h2 h3 h4 h5 h6 hgl (B := (w2.alloc (.cells #[.slice A0 l0.length c0] 24)).heap.size) (by have := hB2.size; simp; omega) rfl hbef hwr
   exact wpIn_mono (impl_liveSets.hand_body (As := _) (Bo := _) rfl l0 A0 A1 Ao c0 l1.length c1 co w.heap.size w2.heap.size Bx l x W (V x.1) Ai ci (Ls (x.1 + 1)) rb _ h4.cell h4.lt hcx hfx hcy hli hCi hx2 hn hbef (fun W1 Ar cr hb hR => hfin W1 Ar cr rb hb hR rfl hwr)) (fun e a w hq => by cases e <;> first | exact hq | exact hq.elim)
  ·rintro D ys W hD rfl ⟨⟨V, Ls, Fo, h1, h2, h3⟩, h4, h5, h6⟩ hKd
   have hcc := h4.cell
   go_wp2
   refine ⟨by simp, .inl ⟨_, _, rfl, run_takeDeferred hKd, ?_⟩⟩
   exact ⟨_, results_tmp rfl _ _ _, w.heap.size, V, Ls, Fo, rfl, impl_liveSets.hand_rows_kept h1 (grownBy_putObj' W D _) (fun r e => by cases e; exact ⟨_, hKd, rfl⟩), fun t ht => h3 l0.length (Nat.le_refl _) rfl t ht, Nat.le_refl _, h5.trans (belowK_b (w := w) (Nat.le_refl _) W D _ _ (Nat.le_trans hB2.size (Nat.le_trans (by simp) hD)) hKd rfl rfl)⟩
  ·intro D c pre W _ _ h _
   exact h.elim
 refine wp_mono (Q := Exit.then K (fun _ _ _ => False)) ?_ (fun e a w h => by cases e <;> first | exact h | exact h.elim)
 go_region_with (go_at_call 79; refine (slices_Clone_int_int.calls A1 c1 l1 l1 _ ?_ hc1 ?_).mono ?_; exact (Kd.C_below hr1 (by repeat (first | exact hB1 | apply below_drew))); exact hcl1; rintro e w1 ⟨v1, rfl, hv1, hb1⟩; obtain ⟨Ao, co, rfl⟩ := Kd.R_slice hv1; have hcb1 := (hb1.cell (p := ⟨w.heap.size + 1, 0, none⟩) hbl).trans hcb; have hcn1 := (hb1.cell (p := ⟨w.heap.size, l0.length, none⟩) (Nat.lt_trans (Nat.lt_succ_self _) hbl)).trans hcn; have hfn1 : w1.frozen? ⟨w.heap.size, l0.length, none⟩ = false := (World.frozen?_of_block (hb1.block _ (Nat.lt_trans (Nat.lt_succ_self _) hbl))).trans hfn)
 all_goals exact key _ _ _ hb1 hv1
theorem impl_liveSets.calls (k : Nat) (A0 : Option Addr) (c0 : Nat) (l0 : List (S67)) (A1 : Option Addr) (c1 : Nat) (l1 : List Int) (r : List (List Int)) (w : World) (hr0 : Kd.C k67 w A0 l0.length l0) (hc0 : l0.length ≤ c0) (hr1 : Kd.C (Kd.int .i64) w A1 l1.length l1) (hc1 : l1.length ≤ c1) (h : impl_liveSets.f k l0 l1 = some r) :
  Calls Try.prog 100 #[.slice A0 l0.length c0, .slice A1 l1.length c1] w fun e w' => ∃ v0_ : Value, e = .returned (v0_) ∧ Kd.N (Kd.slice 3 (Kd.int .i64)) 40 w' w.heap.size (fun k_ => (w.heap.size ≤ k_)) v0_ r ∧ Below w.heap.size w w' := by
 unfold impl_liveSets.f at h
 by_cases hok : impl_liveSets.hand_ok l0 l1
 ·rw [if_pos hok] at h
  obtain rfl := Option.some.inj h
  refine (impl_liveSets.hand_S A0 c0 l0 A1 c1 l1 w hr0 hc0 hr1 hc1 hok).mono ?_
  rintro e w' ⟨g, V, Ls, Fo, rfl, hrows, hexp, hgb, hB⟩
  have hs1 : (Kd.slice 3 (Kd.int .i64)).sz = 1 := rfl
  refine ⟨_, rfl, Kd.R_N ⟨fun k hk => ?_, (List.range (l0.length + 1)).map V, ⟨by simp [hs1], .inr ⟨g, l0.length + 1, _, by simp, hgb, hrows.1, by simp, by have := hok.1; unfold maxLen; omega, by simp [hs1], ?_⟩⟩, ?_, fun j p hj => ?_⟩, hB⟩
  ·have : g = k := by simpa [Value.ownBlock] using hk
   omega
  ·rw [hs1, Nat.mul_one]
   exact List.take_of_length_le (by simp)
  ·simp [hs1]
  ·have hjl : j < l0.length + 1 := by
    have := (List.getElem?_eq_some_iff.1 hj).1
    simpa using this
   have hp : Ls j = p := by
    rw [List.getElem?_map, List.getElem?_range hjl] at hj
    have e := Option.some.inj hj
    rw [← e]
    show Ls j = impl_liveSets.hand_at l0 l1 (l0.length - j)
    rw [← hexp (l0.length - j) (by omega)]
    congr 1
    omega
   have hcs : (((List.range (l0.length + 1)).map V).drop (j * (Kd.slice 3 (Kd.int .i64)).sz)).take (Kd.slice 3 (Kd.int .i64)).sz = [V j] := by
    show (((List.range (l0.length + 1)).map V).drop (j * 1)).take 1 = [V j]
    rw [Nat.mul_one, List.drop_eq_getElem_cons (by simpa using hjl)]
    simp
   rw [hcs]
   refine ⟨V j, rfl, ?_⟩
   rw [← hp]
   refine Kd.R_mono (Kd.R_bound (impl_liveSets.hand_types (hrows.2 j (by omega)) hrows.1)) (fun k hk => ⟨hk.2.1, fun e => ?_⟩)
   have : k = g := by simpa [Value.ownBlock] using e
   exact hk.1.2 this
 ·rw [if_neg hok] at h
  cases h
end

end Go.Proofs.Ytecmlikhmkcdpaa.G
