/- Contracts: laws_heldIntS, spec_LiveBefore, impl_liveSets_first, impl_LiveBefore, laws_FnExactLiveBefore. -/
import Derived.Test.YtecmlikhmkcdpaaGK
import Derived.Test.YtecmlikhmkcdpaaTV
import Derived.Test.YtecmlikhmkcdpaaGLawsSzInstr
import Derived.Test.YtecmlikhmkcdpaaGSpecCdShape
import Derived.Test.YtecmlikhmkcdpaaGImplIsCodeC1
import Derived.Test.YtecmlikhmkcdpaaGSpecCdSets
import Derived.Test.YtecmlikhmkcdpaaGLawsMarkText
namespace Go.Proofs.Ytecmlikhmkcdpaa.G
open Go.RowKit Go.Proofs.YtecmlikhmkcdpaaW.PrintWords Go.Proofs.YtecmlikhmkcdpaaW.PrintLast Go.Proofs.YtecmlikhmkcdpaaW.PrintMore
attribute [local go_sem] max2_int min2_int max_two min_two max_three min_three max_four min_four   -- for this text's walks alone
set_option linter.unusedVariables false
set_option linter.unusedSimpArgs false

/-! ### laws_heldIntS: function 46 -/
def laws_heldIntS.l0 : Nat → List Int → Int → Int → Option (Int)
 | 0, _, _, _ => none
 | k + 1, x0, x1, x5 => if x5 < (x0.length : Int) then (if 0 ≤ x5 then (if (rd x0 x5) = x1 then (laws_heldIntS.l0 k x0 (wrap64 (x1 + 1)) (wrap64 (x5 + 1))) else (some (-1))) else (none)) else (some x1)
def laws_heldIntS.f (k : Nat) (l0 : List Int) (a1 : Int) : Option (Int) := laws_heldIntS.l0 k l0 a1 0
theorem laws_heldIntS.mono_l : ∀ k, (∀ y0 y1 y2, LeO (laws_heldIntS.l0 k y0 y1 y2) (laws_heldIntS.l0 (k + 1) y0 y1 y2))
 | 0 => fun _ _ _ r h => by simp [laws_heldIntS.l0] at h
 | k + 1 => by
  have ih0 := laws_heldIntS.mono_l k
  ·intro y0 y1 y2
   unfold laws_heldIntS.l0
   repeat' first
   | (with_reducible exact ih0 _ _ _)
   | (with_reducible exact LeO.refl _)
   | (with_reducible exact LeO.none _)
   | (with_reducible refine LeO.ite ?_ ?_)
   | (with_reducible refine LeO.bind ?_ (fun _ => ?_))
   | exact ih0 _ _ _
   | exact LeO.none _
   | refine LeO.ite ?_ ?_
   | refine LeO.bind ?_ (fun _ => ?_)
theorem laws_heldIntS.mono : ∀ a0 a1 k, LeO (laws_heldIntS.f k a0 a1) (laws_heldIntS.f (k + 1) a0 a1) := by
 intro a0 a1 k
 have ih0 := laws_heldIntS.mono_l k
 unfold laws_heldIntS.f
 repeat' first
   | (with_reducible exact ih0 _ _ _)
   | (with_reducible exact LeO.refl _)
   | (with_reducible exact LeO.none _)
   | (with_reducible refine LeO.ite ?_ ?_)
   | (with_reducible refine LeO.bind ?_ (fun _ => ?_))
   | exact ih0 _ _ _
   | exact LeO.none _
   | refine LeO.ite ?_ ?_
   | refine LeO.bind ?_ (fun _ => ?_)
set_option maxHeartbeats 8000000 in
set_option maxRecDepth 100000 in
theorem laws_heldIntS.calls (k : Nat) (A0 : Option Addr) (c0 : Nat) (l0 : List Int) (a1 : Int) (r : Int) (w : World) (hr0 : Kd.C (Kd.int .i64) w A0 l0.length l0) (hc0 : l0.length ≤ c0) (h : laws_heldIntS.f k l0 a1 = some r) :
  Calls Try.prog 46 #[.slice A0 l0.length c0, .int .i64 a1] w fun e w' => e = .returned (.int .i64 r) ∧ Drawn0 w w' := by
 have HR0 := zK hr0
 have HC0 := zK hc0
 clear hr0 hc0
 have H : (laws_heldIntS.l0 k l0 a1 0) = some r := h
 clear h
 have H' := zK H
 clear H
 go_enter Try.func46, Try.ntmps46
 go_wp2
 go_loopg [1, 5] k (fun kq v1 v5 w' => ∃ (x1_1 : Int) (x5_1 : Int), v1 = .int .i64 x1_1 ∧ v5 = .int .i64 x5_1 ∧ Aside0 (laws_heldIntS.l0 kq l0 x1_1 x5_1 = some r) ∧ Aside0 (kq ≤ k) ∧ Drawn0 w w')
 case atStart => exact ⟨(a1), (0), (by first | rfl | (simp; done) | (simp [*]; done)), (by first | rfl | (simp; done) | (simp [*]; done)), H', ⟨Nat.le_refl _⟩, by repeat (first | exact Drawn0.refl _ | apply Drawn0.step)⟩
 case round =>
  clear H'
  try clear p2
  obtain ⟨x1_1, x5_1, rfl, rfl, HA, HK1, ⟨m1, rfl⟩⟩ := hrel
  cases gk with
  | zero => exact absurd HA.out (by simp [laws_heldIntS.l0])
  | succ k1 =>
   have H := HA.out
   clear HA
   simp only [laws_heldIntS.l0] at H
   by_cases c3 : x5_1 < (l0.length : Int)
   ·rw [if_pos c3] at H
    have c3b0 : decide (x5_1 < (l0.length : Int)) = true := decide_eq_true c3
    clear c3
    by_cases c4 : 0 ≤ x5_1
    ·rw [if_pos c4] at H
     have c4b0 : decide (0 ≤ x5_1) = true := decide_eq_true c4
     clear c4
     by_cases c5 : (rd l0 x5_1) = x1_1
     ·rw [if_pos c5] at H
      have c5b0 : ((rd l0 x5_1) == x1_1) = true := beq_iff_eq.mpr c5
      have c5b1 : ((rd l0 x5_1) != x1_1) = false := bne_eq_false_iff_eq.mpr c5
      clear c5
      have H' := zK H
      clear H
      have p654 : 0 ≤ (x5_1 : Int) := zo
      have q654 : x5_1 < (l0.length : Int) := zo
      obtain ⟨ad654, e654, hx654_0⟩ := Kd.at_int HR0.out x5_1 p654 q654
      cases e654
      replace p654 := eq_true p654
      replace q654 := eq_true q654
      go_wp2
      go_roundg k1
      case measure => have := HK1.out; omega
      case rel => exact ⟨(wrap64 (x1_1 + 1)), (wrap64 (x5_1 + 1)), (by first | rfl | (simp; done) | (simp [*]; done)), (by first | rfl | (simp; done) | (simp [*]; done)), H', ⟨by have := HK1.out; omega⟩, by repeat (first | exact Drawn0.refl _ | apply Drawn0.step)⟩
     ·rw [if_neg c5] at H
      have c5b0 : ((rd l0 x5_1) == x1_1) = false := beq_eq_false_iff_ne.mpr c5
      have c5b1 : ((rd l0 x5_1) != x1_1) = true := bne_iff_ne.mpr c5
      obtain rfl := Option.some.inj H
      have p654 : 0 ≤ (x5_1 : Int) := zo
      have q654 : x5_1 < (l0.length : Int) := zo
      obtain ⟨ad654, e654, hx654_0⟩ := Kd.at_int HR0.out x5_1 p654 q654
      cases e654
      replace p654 := eq_true p654
      replace q654 := eq_true q654
      go_wp2
      go_ret
      exact ⟨by first | rfl | (simp; done) | (simp [*]; done), by repeat (first | exact Drawn0.refl _ | apply Drawn0.step)⟩
    ·rw [if_neg c4] at H
     exact absurd H (by simp)
   ·rw [if_neg c3] at H
    have c3b0 : decide (x5_1 < (l0.length : Int)) = false := decide_eq_false c3
    clear c3
    obtain rfl := Option.some.inj H
    go_wp2
    go_ret
    exact ⟨by first | rfl | (simp; done) | (simp [*]; done), by repeat (first | exact Drawn0.refl _ | apply Drawn0.step)⟩

/-! ### spec_LiveBefore: function 51 -/
def spec_LiveBefore.f (k : Nat) (l0 : List (S67)) (l1 : List Int) : Option (List Int × Bool) := (spec_cdCode.f k l0).bind fun t655 => (if t655 = true then ((spec_cdWanted.f k l1).bind fun t656 => (if t656 = true then ((spec_cdSets.f k l0 l1).bind fun t657 => (if 0 < (t657.length : Int) then (some (rd_L4 t657 0, true)) else (none))) else (some (([] : List Int), false)))) else (some (([] : List Int), false)))
theorem spec_LiveBefore.mono : ∀ a0 a1 k, LeO (spec_LiveBefore.f k a0 a1) (spec_LiveBefore.f (k + 1) a0 a1) := by
 intro a0 a1 k
 unfold spec_LiveBefore.f
 repeat' first
   | (with_reducible exact spec_cdCode.mono _ _)
   | (with_reducible exact spec_cdSets.mono _ _ _)
   | (with_reducible exact spec_cdWanted.mono _ _)
   | (with_reducible exact LeO.refl _)
   | (with_reducible exact LeO.none _)
   | (with_reducible refine LeO.ite ?_ ?_)
   | (with_reducible refine LeO.bind ?_ (fun _ => ?_))
   | exact spec_cdCode.mono _ _
   | exact spec_cdSets.mono _ _ _
   | exact spec_cdWanted.mono _ _
   | exact LeO.none _
   | refine LeO.ite ?_ ?_
   | refine LeO.bind ?_ (fun _ => ?_)
set_option maxHeartbeats 8000000 in
set_option maxRecDepth 100000 in
theorem spec_LiveBefore.calls (k : Nat) (A0 : Option Addr) (c0 : Nat) (l0 : List (S67)) (A1 : Option Addr) (c1 : Nat) (l1 : List Int) (r1 : List Int) (r2 : Bool) (w : World) (hr0 : Kd.C k67 w A0 l0.length l0) (hc0 : l0.length ≤ c0) (hr1 : Kd.C (Kd.int .i64) w A1 l1.length l1) (hc1 : l1.length ≤ c1) (h : spec_LiveBefore.f k l0 l1 = some (r1, r2)) :
  Calls Try.prog 51 #[.slice A0 l0.length c0, .slice A1 l1.length c1] w fun e w' => ∃ v0_ : Value, e = .returned (.tuple #[v0_, .bool r2]) ∧ Kd.V (Kd.int .i64) 3 w' w.heap.size (fun k_ => (w.heap.size ≤ k_)) v0_ r1 ∧ Below w.heap.size w w' := by
 have HR0 := zK hr0
 have HC0 := zK hc0
 clear hr0 hc0
 have HR1 := zK hr1
 have HC1 := zK hc1
 clear hr1 hc1
 have HB := zK (Below.refl w.heap.size w)
 have H : ((spec_cdCode.f k l0).bind fun t655 => (if t655 = true then ((spec_cdWanted.f k l1).bind fun t656 => (if t656 = true then ((spec_cdSets.f k l0 l1).bind fun t657 => (if 0 < (t657.length : Int) then (some (rd_L4 t657 0, true)) else (none))) else (some (([] : List Int), false)))) else (some (([] : List Int), false)))) = some (r1, r2) := h
 clear h
 replace H := Option.bind_eq_some_iff.mp H
 obtain ⟨t655, A30, H⟩ := H
 replace H : (if t655 = true then ((spec_cdWanted.f k l1).bind fun t656 => (if t656 = true then ((spec_cdSets.f k l0 l1).bind fun t657 => (if 0 < (t657.length : Int) then (some (rd_L4 t657 0, true)) else (none))) else (some (([] : List Int), false)))) else (some (([] : List Int), false))) = some (r1, r2) := H
 have A3 := zK A30
 clear A30
 by_cases c4 : t655 = true
 ·subst c4
  have H1 : ((spec_cdWanted.f k l1).bind fun t656 => (if t656 = true then ((spec_cdSets.f k l0 l1).bind fun t657 => (if 0 < (t657.length : Int) then (some (rd_L4 t657 0, true)) else (none))) else (some (([] : List Int), false)))) = some (r1, r2) := by rw [if_pos rfl] at H; exact H
  clear H
  have H := H1
  clear H1
  replace H := Option.bind_eq_some_iff.mp H
  obtain ⟨t656, A50, H⟩ := H
  replace H : (if t656 = true then ((spec_cdSets.f k l0 l1).bind fun t657 => (if 0 < (t657.length : Int) then (some (rd_L4 t657 0, true)) else (none))) else (some (([] : List Int), false))) = some (r1, r2) := H
  have A5 := zK A50
  clear A50
  by_cases c6 : t656 = true
  ·subst c6
   have H1 : ((spec_cdSets.f k l0 l1).bind fun t657 => (if 0 < (t657.length : Int) then (some (rd_L4 t657 0, true)) else (none))) = some (r1, r2) := by rw [if_pos rfl] at H; exact H
   clear H
   have H := H1
   clear H1
   replace H := Option.bind_eq_some_iff.mp H
   obtain ⟨t657, A70, H⟩ := H
   replace H : (if 0 < (t657.length : Int) then (some (rd_L4 t657 0, true)) else (none)) = some (r1, r2) := H
   have A7 := zK A70
   clear A70
   by_cases c8 : 0 < (t657.length : Int)
   ·rw [if_pos c8] at H
    have c8b0 : decide (0 < (t657.length : Int)) = true := decide_eq_true c8
    have c8b1 : decide (0 < t657.length) = true := decide_eq_true (by omega)
    clear c8
    simp only [Option.some.injEq, Prod.mk.injEq] at H
    obtain ⟨rfl, rfl⟩ := H
    go_enter Try.func51, Try.ntmps51
    go_wp2_with (first | ((with_reducible refine gate_callee (f := 58) rfl ?_); refine goesL_ (some 7) rfl rfl Try.func58 (by kernel_rfl) rfl #[.slice A0 l0.length c0] rfl (by (try simp only [z6, z7, z8]); first | done | rfl | (simp only [z4, z5]; rfl)) ?_; (with_reducible refine (spec_cdCode.calls k _ _ l0 true _ ?side1 ?side2 A3.out).mono ?_); (case side1 => repeat (first | exact HR0.out | (with_reducible refine Kd.C_alloc ?_ _) | (with_reducible refine Kd.C_drewN ?_ _) | (with_reducible refine Kd.C_drew ?_))); (case side2 => exact HC0.out); rintro e w9 ⟨rfl, hb⟩; refine ⟨_, rfl, ?_⟩; have n0_ := zK (zL (by repeat (first | (with_reducible first | exact HB.out | apply zA | apply zB | apply zC) | exact HB.out)) hb); clear HB; have HB := n0_; clear n0_; (try clear hb); (try clear hb2); (try clear hk); (try clear hi)) | (go_at_call 97; (with_reducible refine (spec_cdWanted.calls k _ _ l1 true _ ?side1 ?side2 A5.out).mono ?_); (case side1 => repeat (first | exact (Kd.C_below HR1.out HB.out) | (with_reducible refine Kd.C_alloc ?_ _) | (with_reducible refine Kd.C_drewN ?_ _) | (with_reducible refine Kd.C_drew ?_))); (case side2 => exact HC1.out); rintro e w' ⟨rfl, ⟨nd, rfl⟩⟩) | ((with_reducible refine gate_callee (f := 98) rfl ?_); refine goesL_ (some 16) rfl rfl Try.func98 (by kernel_rfl) rfl #[.slice A0 l0.length c0, .slice A1 l1.length c1] rfl (by (try simp only [z6, z7, z8]); first | done | rfl | (simp only [z4, z5]; rfl)) ?_; (with_reducible refine (spec_cdSets.calls k _ _ l0 _ _ l1 t657 _ ?side1 ?side2 ?side3 ?side4 A7.out).mono ?_); (case side1 => repeat (first | exact (Kd.C_below HR0.out (by repeat (first | (with_reducible first | exact HB.out | apply zA | apply zB | apply zC) | exact HB.out))) | (with_reducible refine Kd.C_alloc ?_ _) | (with_reducible refine Kd.C_drewN ?_ _) | (with_reducible refine Kd.C_drew ?_))); (case side2 => exact HC0.out); (case side3 => repeat (first | exact (Kd.C_below HR1.out (by repeat (first | (with_reducible first | exact HB.out | apply zA | apply zB | apply zC) | exact HB.out))) | (with_reducible refine Kd.C_alloc ?_ _) | (with_reducible refine Kd.C_drewN ?_ _) | (with_reducible refine Kd.C_drew ?_))); (case side4 => exact HC1.out); rintro e w10 ⟨v658, rfl, ho0, hb⟩; refine ⟨_, rfl, ?_⟩; have n0_ := zK (Kd.N_lower (Kd.N_mono (ok' := fun k_ => (w.heap.size ≤ k_)) ho0 (fun k_ hk_ => (Nat.le_trans (zN (by repeat (first | (with_reducible first | exact HB.out | apply zA | apply zB | apply zC) | exact HB.out))) hk_))) (zN (by repeat (first | (with_reducible first | exact HB.out | apply zA | apply zB | apply zC) | exact HB.out)))); have n1_ := zK (zL (by repeat (first | (with_reducible first | exact HB.out | apply zA | apply zB | apply zC) | exact HB.out)) hb); clear HB; have HO659 := n0_; have HB := n1_; clear n0_ n1_; (try clear hb); (try clear hb2); (try clear hk); (try clear hi); (try clear ho0); obtain ⟨Ao11, co11, eo11⟩ := Kd.N_slice HO659.out; subst eo11; have p660 : 0 ≤ (0 : Int) := (by omega); have q660 : 0 < (t657.length : Int) := zo; obtain ⟨ad660, A660_0, c660_0, e660, hx660_0, hl660_0, hi660_0⟩ := at_L4 (Kd.N_reads' HO659.out).2.2 0 p660 q660; cases e660; obtain ⟨ce660, hce660, hMe660, hcc660⟩ := Kd.N_get HO659.out [] 0 p660 (by first | exact q660 | exact zo | (have e_ := (Kd.N_reads' HO659.out).1; omega)); obtain ⟨ua660_0, uc660_0, rfl, ul660_0, ge660_0⟩ := Kd.FK_slice_open hMe660; have hv660_0 := hcc660 0 _ rfl; rw [Nat.add_zero, show ((Kd.slice 3 (Kd.int .i64))).sz = 1 from rfl, Nat.mul_one] at hv660_0; replace hv660_0 := Option.some.inj (hv660_0.symm.trans hx660_0); injection hv660_0 with hva_ hvn_ hvc_; rw [hva_] at ge660_0; rw [hvc_] at ul660_0; have HL660_0 := zK (show Kd.V (Kd.int .i64) 3 _ w.heap.size _ _ (rd_L4 t657 0) from Kd.V_mk ul660_0 ge660_0); clear hva_ hvn_ hvc_ ge660_0 ul660_0; clear hcc660 hce660; have qi660 : (0 < t657.length) = True := eq_true (by omega); (try rw [show ((0 : Int)).toNat = 0 from rfl] at hx660_0); (try rw [Addr.add_zero'] at hx660_0); have HR660_0 := zK hi660_0; have HC660_0 := zK hl660_0; clear hi660_0 hl660_0; replace p660 := eq_true p660; replace q660 := eq_true q660))
    go_ret2
    exact ⟨_, by first | rfl | (simp [errW_none, errW_some] <;> rfl) | (simp [*, errW_none, errW_some] <;> rfl), by (with_reducible repeat (first | apply Kd.V_alloc | apply Kd.V_drewN | apply Kd.V_drew)); exact Kd.V_mono HL660_0.out (fun _ hk => hk.1), by repeat (first | (with_reducible first | exact HB.out | apply zA | apply zB | apply zC) | exact HB.out)⟩
   ·rw [if_neg c8] at H
    exact absurd H (by simp)
  ·replace c6 := Bool.eq_false_iff.mpr c6
   subst c6
   have H1 : (some (([] : List Int), false)) = some (r1, r2) := by rw [if_neg (show ¬ (false = true) by decide)] at H; exact H
   clear H
   have H := H1
   clear H1
   simp only [Option.some.injEq, Prod.mk.injEq] at H
   obtain ⟨rfl, rfl⟩ := H
   go_enter Try.func51, Try.ntmps51
   go_wp2_with (first | ((with_reducible refine gate_callee (f := 58) rfl ?_); refine goesL_ (some 7) rfl rfl Try.func58 (by kernel_rfl) rfl #[.slice A0 l0.length c0] rfl (by (try simp only [z6, z7, z8]); first | done | rfl | (simp only [z4, z5]; rfl)) ?_; (with_reducible refine (spec_cdCode.calls k _ _ l0 true _ ?side1 ?side2 A3.out).mono ?_); (case side1 => repeat (first | exact HR0.out | (with_reducible refine Kd.C_alloc ?_ _) | (with_reducible refine Kd.C_drewN ?_ _) | (with_reducible refine Kd.C_drew ?_))); (case side2 => exact HC0.out); rintro e w12 ⟨rfl, hb⟩; refine ⟨_, rfl, ?_⟩; have n0_ := zK (zL (by repeat (first | (with_reducible first | exact HB.out | apply zA | apply zB | apply zC) | exact HB.out)) hb); clear HB; have HB := n0_; clear n0_; (try clear hb); (try clear hb2); (try clear hk); (try clear hi)) | (go_at_call 97; (with_reducible refine (spec_cdWanted.calls k _ _ l1 false _ ?side1 ?side2 A5.out).mono ?_); (case side1 => repeat (first | exact (Kd.C_below HR1.out HB.out) | (with_reducible refine Kd.C_alloc ?_ _) | (with_reducible refine Kd.C_drewN ?_ _) | (with_reducible refine Kd.C_drew ?_))); (case side2 => exact HC1.out); rintro e w' ⟨rfl, ⟨nd, rfl⟩⟩))
   go_ret2
   exact ⟨_, by first | rfl | (simp [errW_none, errW_some] <;> rfl) | (simp [*, errW_none, errW_some] <;> rfl), Kd.V_nil _ _ _ _ _, by repeat (first | (with_reducible first | exact HB.out | apply zA | apply zB | apply zC) | exact HB.out)⟩
 ·replace c4 := Bool.eq_false_iff.mpr c4
  subst c4
  have H1 : (some (([] : List Int), false)) = some (r1, r2) := by rw [if_neg (show ¬ (false = true) by decide)] at H; exact H
  clear H
  have H := H1
  clear H1
  simp only [Option.some.injEq, Prod.mk.injEq] at H
  obtain ⟨rfl, rfl⟩ := H
  go_enter Try.func51, Try.ntmps51
  go_wp2_with (first | ((with_reducible refine gate_callee (f := 58) rfl ?_); refine goesL_ (some 7) rfl rfl Try.func58 (by kernel_rfl) rfl #[.slice A0 l0.length c0] rfl (by (try simp only [z6, z7, z8]); first | done | rfl | (simp only [z4, z5]; rfl)) ?_; (with_reducible refine (spec_cdCode.calls k _ _ l0 false _ ?side1 ?side2 A3.out).mono ?_); (case side1 => repeat (first | exact HR0.out | (with_reducible refine Kd.C_alloc ?_ _) | (with_reducible refine Kd.C_drewN ?_ _) | (with_reducible refine Kd.C_drew ?_))); (case side2 => exact HC0.out); rintro e w13 ⟨rfl, hb⟩; refine ⟨_, rfl, ?_⟩; have n0_ := zK (zL (by repeat (first | (with_reducible first | exact HB.out | apply zA | apply zB | apply zC) | exact HB.out)) hb); clear HB; have HB := n0_; clear n0_; (try clear hb); (try clear hb2); (try clear hk); (try clear hi)))
  go_ret2
  exact ⟨_, by first | rfl | (simp [errW_none, errW_some] <;> rfl) | (simp [*, errW_none, errW_some] <;> rfl), Kd.V_nil _ _ _ _ _, by repeat (first | (with_reducible first | exact HB.out | apply zA | apply zB | apply zC) | exact HB.out)⟩

/-! ### impl_liveSets_first: function 100 -/
noncomputable section
open Classical in
noncomputable def impl_liveSets_first.f (l0 : List (S67)) (l1 : List Int) : Option (List Int) := if impl_liveSets.hand_ok l0 l1 then some (impl_liveSets.hand_at l0 l1 l0.length) else none
theorem impl_liveSets_first.calls (A0 : Option Addr) (c0 : Nat) (l0 : List (S67)) (A1 : Option Addr) (c1 : Nat) (l1 : List Int) (r : List Int) (w : World) (hr0 : Kd.C k67 w A0 l0.length l0) (hc0 : l0.length ≤ c0) (hr1 : Kd.C (Kd.int .i64) w A1 l1.length l1) (hc1 : l1.length ≤ c1) (h : impl_liveSets_first.f l0 l1 = some r) :
  Calls Try.prog 100 #[.slice A0 l0.length c0, .slice A1 l1.length c1] w fun e w' => ∃ v0_ : Value, (∃ (g n c : Nat), e = .returned (.slice (some ⟨g, 0, none⟩) (n + 1) c) ∧ w'.cell? ⟨g, 0, none⟩ = some v0_) ∧ Kd.R (Kd.int .i64) 3 w' w.heap.size (fun _ => True) v0_ r ∧ Below w.heap.size w w' := by
 unfold impl_liveSets_first.f at h
 by_cases hok : impl_liveSets.hand_ok l0 l1
 ·rw [if_pos hok] at h
  obtain rfl := Option.some.inj h
  refine (impl_liveSets.hand_S A0 c0 l0 A1 c1 l1 w hr0 hc0 hr1 hc1 hok).mono ?_
  rintro e w' ⟨g, V, Ls, Fo, rfl, hrows, hexp, hgb, hB⟩
  have h0 := hrows.2 0 (by omega)
  rw [show Ls 0 = impl_liveSets.hand_at l0 l1 l0.length from by rw [← hexp l0.length (Nat.le_refl _), Nat.sub_self]] at h0
  exact ⟨V 0, ⟨g, l0.length, l0.length + 1, rfl, (impl_liveSets.hand_rows_cell hrows 0 (by omega)).1⟩, Kd.R_mono h0 (fun _ _ => trivial), hB⟩
 ·rw [if_neg hok] at h
  exact absurd h (by simp)
end

/-! ### impl_LiveBefore: function 52 -/
noncomputable def impl_LiveBefore.f (k : Nat) (l0 : List (S67)) (l1 : List Int) : Option (List Int × Bool) := (impl_IsCode.f k l0).bind fun t667 => (if t667 = true then ((impl_areWanted.f k l1).bind fun t668 => (if t668 = true then ((impl_liveSets_first.f l0 l1).bind fun t669 => (some (t669, true))) else (some (([] : List Int), false)))) else (some (([] : List Int), false)))
theorem impl_LiveBefore.mono : ∀ a0 a1 k, LeO (impl_LiveBefore.f k a0 a1) (impl_LiveBefore.f (k + 1) a0 a1) := by
 intro a0 a1 k
 unfold impl_LiveBefore.f
 repeat' first
   | (with_reducible exact impl_IsCode.mono _ _)
   | (with_reducible exact impl_areWanted.mono _ _)
   | (with_reducible exact LeO.refl _)
   | (with_reducible exact LeO.none _)
   | (with_reducible refine LeO.ite ?_ ?_)
   | (with_reducible refine LeO.bind ?_ (fun _ => ?_))
   | exact impl_IsCode.mono _ _
   | exact impl_areWanted.mono _ _
   | exact LeO.none _
   | refine LeO.ite ?_ ?_
   | refine LeO.bind ?_ (fun _ => ?_)
set_option maxHeartbeats 8000000 in
set_option maxRecDepth 100000 in
theorem impl_LiveBefore.calls (k : Nat) (A0 : Option Addr) (c0 : Nat) (l0 : List (S67)) (A1 : Option Addr) (c1 : Nat) (l1 : List Int) (r1 : List Int) (r2 : Bool) (w : World) (hr0 : Kd.C k67 w A0 l0.length l0) (hc0 : l0.length ≤ c0) (hr1 : Kd.C (Kd.int .i64) w A1 l1.length l1) (hc1 : l1.length ≤ c1) (h : impl_LiveBefore.f k l0 l1 = some (r1, r2)) :
  Calls Try.prog 52 #[.slice A0 l0.length c0, .slice A1 l1.length c1] w fun e w' => ∃ v0_ : Value, e = .returned (.tuple #[v0_, .bool r2]) ∧ Kd.R (Kd.int .i64) 3 w' w.heap.size (fun _ => True) v0_ r1 ∧ Below w.heap.size w w' := by
 have HR0 := zK hr0
 have HC0 := zK hc0
 clear hr0 hc0
 have HR1 := zK hr1
 have HC1 := zK hc1
 clear hr1 hc1
 have HB := zK (Below.refl w.heap.size w)
 have H : ((impl_IsCode.f k l0).bind fun t667 => (if t667 = true then ((impl_areWanted.f k l1).bind fun t668 => (if t668 = true then ((impl_liveSets_first.f l0 l1).bind fun t669 => (some (t669, true))) else (some (([] : List Int), false)))) else (some (([] : List Int), false)))) = some (r1, r2) := h
 clear h
 replace H := Option.bind_eq_some_iff.mp H
 obtain ⟨t667, A30, H⟩ := H
 replace H : (if t667 = true then ((impl_areWanted.f k l1).bind fun t668 => (if t668 = true then ((impl_liveSets_first.f l0 l1).bind fun t669 => (some (t669, true))) else (some (([] : List Int), false)))) else (some (([] : List Int), false))) = some (r1, r2) := H
 have A3 := zK A30
 clear A30
 by_cases c4 : t667 = true
 ·subst c4
  have H1 : ((impl_areWanted.f k l1).bind fun t668 => (if t668 = true then ((impl_liveSets_first.f l0 l1).bind fun t669 => (some (t669, true))) else (some (([] : List Int), false)))) = some (r1, r2) := by rw [if_pos rfl] at H; exact H
  clear H
  have H := H1
  clear H1
  replace H := Option.bind_eq_some_iff.mp H
  obtain ⟨t668, A50, H⟩ := H
  replace H : (if t668 = true then ((impl_liveSets_first.f l0 l1).bind fun t669 => (some (t669, true))) else (some (([] : List Int), false))) = some (r1, r2) := H
  have A5 := zK A50
  clear A50
  by_cases c6 : t668 = true
  ·subst c6
   have H1 : ((impl_liveSets_first.f l0 l1).bind fun t669 => (some (t669, true))) = some (r1, r2) := by rw [if_pos rfl] at H; exact H
   clear H
   have H := H1
   clear H1
   replace H := Option.bind_eq_some_iff.mp H
   obtain ⟨t669, A70, H⟩ := H
   replace H : (some (t669, true)) = some (r1, r2) := H
   have A7 := zK A70
   clear A70
   simp only [Option.some.injEq, Prod.mk.injEq] at H
   obtain ⟨rfl, rfl⟩ := H
   go_enter Try.func52, Try.ntmps52
   go_wp2_with (first | ((with_reducible refine gate_callee (f := 60) rfl ?_); refine goesL_ (some 7) rfl rfl Try.func60 (by kernel_rfl) rfl #[.slice A0 l0.length c0] rfl (by (try simp only [z6, z7, z8]); first | done | rfl | (simp only [z4, z5]; rfl)) ?_; (with_reducible refine (impl_IsCode.calls k _ _ l0 true _ ?side1 ?side2 A3.out).mono ?_); (case side1 => repeat (first | exact HR0.out | (with_reducible refine Kd.C_alloc ?_ _) | (with_reducible refine Kd.C_drewN ?_ _) | (with_reducible refine Kd.C_drew ?_))); (case side2 => exact HC0.out); rintro e w8 ⟨rfl, hb⟩; refine ⟨_, rfl, ?_⟩; have n0_ := zK (zL (by repeat (first | (with_reducible first | exact HB.out | apply zA | apply zB | apply zC) | exact HB.out)) hb); clear HB; have HB := n0_; clear n0_; (try clear hb); (try clear hb2); (try clear hk); (try clear hi)) | (go_at_call 94; (with_reducible refine (impl_areWanted.calls k _ _ l1 true _ ?side1 ?side2 A5.out).mono ?_); (case side1 => repeat (first | exact (Kd.C_below HR1.out HB.out) | (with_reducible refine Kd.C_alloc ?_ _) | (with_reducible refine Kd.C_drewN ?_ _) | (with_reducible refine Kd.C_drew ?_))); (case side2 => exact HC1.out); rintro e w' ⟨rfl, ⟨nd, rfl⟩⟩) | ((with_reducible refine gate_callee (f := 100) rfl ?_); refine goesL_ (some 16) rfl rfl Try.func100 (by kernel_rfl) rfl #[.slice A0 l0.length c0, .slice A1 l1.length c1] rfl (by (try simp only [z6, z7, z8]); first | done | rfl | (simp only [z4, z5]; rfl)) ?_; (with_reducible refine (impl_liveSets_first.calls _ _ l0 _ _ l1 t669 _ ?side1 ?side2 ?side3 ?side4 A7.out).mono ?_); (case side1 => repeat (first | exact (Kd.C_below HR0.out (by repeat (first | (with_reducible first | exact HB.out | apply zA | apply zB | apply zC) | exact HB.out))) | (with_reducible refine Kd.C_alloc ?_ _) | (with_reducible refine Kd.C_drewN ?_ _) | (with_reducible refine Kd.C_drew ?_))); (case side2 => exact HC0.out); (case side3 => repeat (first | exact (Kd.C_below HR1.out (by repeat (first | (with_reducible first | exact HB.out | apply zA | apply zB | apply zC) | exact HB.out))) | (with_reducible refine Kd.C_alloc ?_ _) | (with_reducible refine Kd.C_drewN ?_ _) | (with_reducible refine Kd.C_drew ?_))); (case side4 => exact HC1.out); rintro e w9 ⟨v670, ⟨gF, nF, cF, rfl, hcF⟩, ho0, hb⟩; refine ⟨_, rfl, ?_⟩; have n0_ := zK (Kd.R_lower ho0 (zN (by repeat (first | (with_reducible first | exact HB.out | apply zA | apply zB | apply zC) | exact HB.out)))); have n1_ := zK (zL (by repeat (first | (with_reducible first | exact HB.out | apply zA | apply zB | apply zC) | exact HB.out)) hb); clear HB; have HO671 := n0_; have HB := n1_; clear n0_ n1_; (try clear hb); (try clear hb2); (try clear hk); (try clear hi); (try clear ho0)))
   go_ret2
   exact ⟨_, by first | rfl | (simp [errW_none, errW_some] <;> rfl) | (simp [*, errW_none, errW_some] <;> rfl), by (with_reducible repeat (first | apply Kd.R_alloc | apply Kd.R_drewN | apply Kd.R_drew)); exact HO671.out, by repeat (first | (with_reducible first | exact HB.out | apply zA | apply zB | apply zC) | exact HB.out)⟩
  ·replace c6 := Bool.eq_false_iff.mpr c6
   subst c6
   have H1 : (some (([] : List Int), false)) = some (r1, r2) := by rw [if_neg (show ¬ (false = true) by decide)] at H; exact H
   clear H
   have H := H1
   clear H1
   simp only [Option.some.injEq, Prod.mk.injEq] at H
   obtain ⟨rfl, rfl⟩ := H
   go_enter Try.func52, Try.ntmps52
   go_wp2_with (first | ((with_reducible refine gate_callee (f := 60) rfl ?_); refine goesL_ (some 7) rfl rfl Try.func60 (by kernel_rfl) rfl #[.slice A0 l0.length c0] rfl (by (try simp only [z6, z7, z8]); first | done | rfl | (simp only [z4, z5]; rfl)) ?_; (with_reducible refine (impl_IsCode.calls k _ _ l0 true _ ?side1 ?side2 A3.out).mono ?_); (case side1 => repeat (first | exact HR0.out | (with_reducible refine Kd.C_alloc ?_ _) | (with_reducible refine Kd.C_drewN ?_ _) | (with_reducible refine Kd.C_drew ?_))); (case side2 => exact HC0.out); rintro e w10 ⟨rfl, hb⟩; refine ⟨_, rfl, ?_⟩; have n0_ := zK (zL (by repeat (first | (with_reducible first | exact HB.out | apply zA | apply zB | apply zC) | exact HB.out)) hb); clear HB; have HB := n0_; clear n0_; (try clear hb); (try clear hb2); (try clear hk); (try clear hi)) | (go_at_call 94; (with_reducible refine (impl_areWanted.calls k _ _ l1 false _ ?side1 ?side2 A5.out).mono ?_); (case side1 => repeat (first | exact (Kd.C_below HR1.out HB.out) | (with_reducible refine Kd.C_alloc ?_ _) | (with_reducible refine Kd.C_drewN ?_ _) | (with_reducible refine Kd.C_drew ?_))); (case side2 => exact HC1.out); rintro e w' ⟨rfl, ⟨nd, rfl⟩⟩))
   go_ret2
   exact ⟨_, by first | rfl | (simp [errW_none, errW_some] <;> rfl) | (simp [*, errW_none, errW_some] <;> rfl), by first | exact Kd.R_nil _ _ _ _ _ | exact Kd.N_nil _ _ _ _ _ | exact Kd.V_nil _ _ _ _ _ | exact Kd.Q_nil _ _ _ _ _ | exact Kd.S_nil _ _ _ _ _, by repeat (first | (with_reducible first | exact HB.out | apply zA | apply zB | apply zC) | exact HB.out)⟩
 ·replace c4 := Bool.eq_false_iff.mpr c4
  subst c4
  have H1 : (some (([] : List Int), false)) = some (r1, r2) := by rw [if_neg (show ¬ (false = true) by decide)] at H; exact H
  clear H
  have H := H1
  clear H1
  simp only [Option.some.injEq, Prod.mk.injEq] at H
  obtain ⟨rfl, rfl⟩ := H
  go_enter Try.func52, Try.ntmps52
  go_wp2_with (first | ((with_reducible refine gate_callee (f := 60) rfl ?_); refine goesL_ (some 7) rfl rfl Try.func60 (by kernel_rfl) rfl #[.slice A0 l0.length c0] rfl (by (try simp only [z6, z7, z8]); first | done | rfl | (simp only [z4, z5]; rfl)) ?_; (with_reducible refine (impl_IsCode.calls k _ _ l0 false _ ?side1 ?side2 A3.out).mono ?_); (case side1 => repeat (first | exact HR0.out | (with_reducible refine Kd.C_alloc ?_ _) | (with_reducible refine Kd.C_drewN ?_ _) | (with_reducible refine Kd.C_drew ?_))); (case side2 => exact HC0.out); rintro e w11 ⟨rfl, hb⟩; refine ⟨_, rfl, ?_⟩; have n0_ := zK (zL (by repeat (first | (with_reducible first | exact HB.out | apply zA | apply zB | apply zC) | exact HB.out)) hb); clear HB; have HB := n0_; clear n0_; (try clear hb); (try clear hb2); (try clear hk); (try clear hi)))
  go_ret2
  exact ⟨_, by first | rfl | (simp [errW_none, errW_some] <;> rfl) | (simp [*, errW_none, errW_some] <;> rfl), by first | exact Kd.R_nil _ _ _ _ _ | exact Kd.N_nil _ _ _ _ _ | exact Kd.V_nil _ _ _ _ _ | exact Kd.Q_nil _ _ _ _ _ | exact Kd.S_nil _ _ _ _ _, by repeat (first | (with_reducible first | exact HB.out | apply zA | apply zB | apply zC) | exact HB.out)⟩

/-! ### laws_FnExactLiveBefore: function 11 -/
mutual
noncomputable def laws_FnExactLiveBefore.j0 : Nat → List (S65) → List Int → List Int → Bool → List (S67) → List Int → List Int → Bool → Bool → Option (Bool)
 | 0, _, _, _, _, _, _, _, _, _ => none
 | k + 1, x0, x1, x6, x7, x8, x9, x10, x11, x51 => if x51 = true then (some false) else ((laws_toInstrS.f k x0).bind fun t694 => ((laws_eqInstrS.f k x8 t694).bind fun t697 => (if t697 = true then ((laws_toIntS.f k x1).bind fun t698 => ((laws_eqIntS.f k x9 t698).bind fun t701 => (if t701 = true then ((laws_markInstrS.f k x8 1).bind fun bt702 => ((laws_markIntS.f k x9 bt702.1).bind fun bt704 => (if bt704.1 < 0 then (laws_FnExactLiveBefore.j1 k x0 x1 x6 x7 x10 true) else ((laws_eqIntS.f k x10 x6).bind fun t706 => (if t706 = true then (laws_FnExactLiveBefore.j1 k x0 x1 x6 x7 x10 (x11 != x7)) else (laws_FnExactLiveBefore.j1 k x0 x1 x6 x7 x10 true)))))) else (some false)))) else (some false))))
noncomputable def laws_FnExactLiveBefore.j1 : Nat → List (S65) → List Int → List Int → Bool → List Int → Bool → Option (Bool)
 | 0, _, _, _, _, _, _ => none
 | k + 1, x0, x1, x6, x7, x10, x80 => if x80 = true then (some false) else ((laws_markIntS.f k x10 1).bind fun bt707 => ((laws_heldIntS.f k bt707.2 1).bind fun t709 => (if t709 < 0 then (some false) else (if t709 = bt707.1 then ((laws_toInstrS.f k x0).bind fun t710 => ((laws_toIntS.f k x1).bind fun t713 => ((impl_LiveBefore.f k t710 t713).bind fun bt716 => ((laws_eqIntS.f k bt716.1 x6).bind fun t720 => (if t720 = true then (laws_FnExactLiveBefore.j2 k bt707.2 bt707.1 (bt716.2 != x7)) else (laws_FnExactLiveBefore.j2 k bt707.2 bt707.1 true)))))) else (some false)))))
noncomputable def laws_FnExactLiveBefore.j2 : Nat → List Int → Int → Bool → Option (Bool)
 | 0, _, _, _ => none
 | k + 1, x10, x13, x108 => if x108 = true then (some false) else ((laws_heldIntS.f k x10 1).bind fun t721 => (if t721 < 0 then (some false) else (if t721 = x13 then (some true) else (some false))))
end
noncomputable def laws_FnExactLiveBefore.f (k : Nat) (l0 : List (S65)) (l1 : List Int) : Option (Bool) := if (l1.length : Int) > 1048576 then (some true) else ((laws_szInstrS.f k l0 1048576).bind fun t672 => (if t672 < 0 then (some true) else ((laws_toInstrS.f k l0).bind fun t673 => ((laws_toIntS.f k l1).bind fun t676 => ((spec_LiveBefore.f k t673 t676).bind fun bt679 => ((laws_toInstrS.f k l0).bind fun t683 => ((laws_toIntS.f k l1).bind fun t686 => ((impl_LiveBefore.f k t683 t686).bind fun bt689 => ((laws_eqIntS.f k bt689.1 bt679.1).bind fun t693 => (if t693 = true then (laws_FnExactLiveBefore.j0 k l0 l1 bt679.1 bt679.2 t683 t686 bt689.1 bt689.2 (bt689.2 != bt679.2)) else (laws_FnExactLiveBefore.j0 k l0 l1 bt679.1 bt679.2 t683 t686 bt689.1 bt689.2 true)))))))))))
theorem laws_FnExactLiveBefore.mono_l : ∀ k, (∀ y0 y1 y2 y3 y4 y5 y6 y7 y8, LeO (laws_FnExactLiveBefore.j0 k y0 y1 y2 y3 y4 y5 y6 y7 y8) (laws_FnExactLiveBefore.j0 (k + 1) y0 y1 y2 y3 y4 y5 y6 y7 y8)) ∧ (∀ y0 y1 y2 y3 y4 y5, LeO (laws_FnExactLiveBefore.j1 k y0 y1 y2 y3 y4 y5) (laws_FnExactLiveBefore.j1 (k + 1) y0 y1 y2 y3 y4 y5)) ∧ (∀ y0 y1 y2, LeO (laws_FnExactLiveBefore.j2 k y0 y1 y2) (laws_FnExactLiveBefore.j2 (k + 1) y0 y1 y2))
 | 0 => ⟨fun _ _ _ _ _ _ _ _ _ r h => by simp [laws_FnExactLiveBefore.j0] at h, fun _ _ _ _ _ _ r h => by simp [laws_FnExactLiveBefore.j1] at h, fun _ _ _ r h => by simp [laws_FnExactLiveBefore.j2] at h⟩
 | k + 1 => by
  obtain ⟨ih0, ih1, ih2⟩ := laws_FnExactLiveBefore.mono_l k
  refine ⟨?_, ?_, ?_⟩
  ·intro y0 y1 y2 y3 y4 y5 y6 y7 y8
   unfold laws_FnExactLiveBefore.j0
   repeat' first
   | (with_reducible exact ih0 _ _ _ _ _ _ _ _ _)
   | (with_reducible exact ih1 _ _ _ _ _ _)
   | (with_reducible exact ih2 _ _ _)
   | (with_reducible exact impl_LiveBefore.mono _ _ _)
   | (with_reducible exact laws_eqInstrS.mono _ _ _)
   | (with_reducible exact laws_eqIntS.mono _ _ _)
   | (with_reducible exact laws_heldIntS.mono _ _ _)
   | (with_reducible exact laws_markInstrS.mono _ _ _)
   | (with_reducible exact laws_markIntS.mono _ _ _)
   | (with_reducible exact laws_szInstrS.mono _ _ _)
   | (with_reducible exact laws_toInstrS.mono _ _)
   | (with_reducible exact laws_toIntS.mono _ _)
   | (with_reducible exact spec_LiveBefore.mono _ _ _)
   | (with_reducible exact LeO.refl _)
   | (with_reducible exact LeO.none _)
   | (with_reducible refine LeO.ite ?_ ?_)
   | (with_reducible refine LeO.bind ?_ (fun _ => ?_))
   | exact ih0 _ _ _ _ _ _ _ _ _
   | exact ih1 _ _ _ _ _ _
   | exact ih2 _ _ _
   | exact impl_LiveBefore.mono _ _ _
   | exact laws_eqInstrS.mono _ _ _
   | exact laws_eqIntS.mono _ _ _
   | exact laws_heldIntS.mono _ _ _
   | exact laws_markInstrS.mono _ _ _
   | exact laws_markIntS.mono _ _ _
   | exact laws_szInstrS.mono _ _ _
   | exact laws_toInstrS.mono _ _
   | exact laws_toIntS.mono _ _
   | exact spec_LiveBefore.mono _ _ _
   | exact LeO.none _
   | refine LeO.ite ?_ ?_
   | refine LeO.bind ?_ (fun _ => ?_)
  ·intro y0 y1 y2 y3 y4 y5
   unfold laws_FnExactLiveBefore.j1
   repeat' first
   | (with_reducible exact ih0 _ _ _ _ _ _ _ _ _)
   | (with_reducible exact ih1 _ _ _ _ _ _)
   | (with_reducible exact ih2 _ _ _)
   | (with_reducible exact impl_LiveBefore.mono _ _ _)
   | (with_reducible exact laws_eqInstrS.mono _ _ _)
   | (with_reducible exact laws_eqIntS.mono _ _ _)
   | (with_reducible exact laws_heldIntS.mono _ _ _)
   | (with_reducible exact laws_markInstrS.mono _ _ _)
   | (with_reducible exact laws_markIntS.mono _ _ _)
   | (with_reducible exact laws_szInstrS.mono _ _ _)
   | (with_reducible exact laws_toInstrS.mono _ _)
   | (with_reducible exact laws_toIntS.mono _ _)
   | (with_reducible exact spec_LiveBefore.mono _ _ _)
   | (with_reducible exact LeO.refl _)
   | (with_reducible exact LeO.none _)
   | (with_reducible refine LeO.ite ?_ ?_)
   | (with_reducible refine LeO.bind ?_ (fun _ => ?_))
   | exact ih0 _ _ _ _ _ _ _ _ _
   | exact ih1 _ _ _ _ _ _
   | exact ih2 _ _ _
   | exact impl_LiveBefore.mono _ _ _
   | exact laws_eqInstrS.mono _ _ _
   | exact laws_eqIntS.mono _ _ _
   | exact laws_heldIntS.mono _ _ _
   | exact laws_markInstrS.mono _ _ _
   | exact laws_markIntS.mono _ _ _
   | exact laws_szInstrS.mono _ _ _
   | exact laws_toInstrS.mono _ _
   | exact laws_toIntS.mono _ _
   | exact spec_LiveBefore.mono _ _ _
   | exact LeO.none _
   | refine LeO.ite ?_ ?_
   | refine LeO.bind ?_ (fun _ => ?_)
  ·intro y0 y1 y2
   unfold laws_FnExactLiveBefore.j2
   repeat' first
   | (with_reducible exact ih0 _ _ _ _ _ _ _ _ _)
   | (with_reducible exact ih1 _ _ _ _ _ _)
   | (with_reducible exact ih2 _ _ _)
   | (with_reducible exact impl_LiveBefore.mono _ _ _)
   | (with_reducible exact laws_eqInstrS.mono _ _ _)
   | (with_reducible exact laws_eqIntS.mono _ _ _)
   | (with_reducible exact laws_heldIntS.mono _ _ _)
   | (with_reducible exact laws_markInstrS.mono _ _ _)
   | (with_reducible exact laws_markIntS.mono _ _ _)
   | (with_reducible exact laws_szInstrS.mono _ _ _)
   | (with_reducible exact laws_toInstrS.mono _ _)
   | (with_reducible exact laws_toIntS.mono _ _)
   | (with_reducible exact spec_LiveBefore.mono _ _ _)
   | (with_reducible exact LeO.refl _)
   | (with_reducible exact LeO.none _)
   | (with_reducible refine LeO.ite ?_ ?_)
   | (with_reducible refine LeO.bind ?_ (fun _ => ?_))
   | exact ih0 _ _ _ _ _ _ _ _ _
   | exact ih1 _ _ _ _ _ _
   | exact ih2 _ _ _
   | exact impl_LiveBefore.mono _ _ _
   | exact laws_eqInstrS.mono _ _ _
   | exact laws_eqIntS.mono _ _ _
   | exact laws_heldIntS.mono _ _ _
   | exact laws_markInstrS.mono _ _ _
   | exact laws_markIntS.mono _ _ _
   | exact laws_szInstrS.mono _ _ _
   | exact laws_toInstrS.mono _ _
   | exact laws_toIntS.mono _ _
   | exact spec_LiveBefore.mono _ _ _
   | exact LeO.none _
   | refine LeO.ite ?_ ?_
   | refine LeO.bind ?_ (fun _ => ?_)
theorem laws_FnExactLiveBefore.mono : ∀ a0 a1 k, LeO (laws_FnExactLiveBefore.f k a0 a1) (laws_FnExactLiveBefore.f (k + 1) a0 a1) := by
 intro a0 a1 k
 obtain ⟨ih0, ih1, ih2⟩ := laws_FnExactLiveBefore.mono_l k
 unfold laws_FnExactLiveBefore.f
 repeat' first
   | (with_reducible exact ih0 _ _ _ _ _ _ _ _ _)
   | (with_reducible exact ih1 _ _ _ _ _ _)
   | (with_reducible exact ih2 _ _ _)
   | (with_reducible exact impl_LiveBefore.mono _ _ _)
   | (with_reducible exact laws_eqInstrS.mono _ _ _)
   | (with_reducible exact laws_eqIntS.mono _ _ _)
   | (with_reducible exact laws_heldIntS.mono _ _ _)
   | (with_reducible exact laws_markInstrS.mono _ _ _)
   | (with_reducible exact laws_markIntS.mono _ _ _)
   | (with_reducible exact laws_szInstrS.mono _ _ _)
   | (with_reducible exact laws_toInstrS.mono _ _)
   | (with_reducible exact laws_toIntS.mono _ _)
   | (with_reducible exact spec_LiveBefore.mono _ _ _)
   | (with_reducible exact LeO.refl _)
   | (with_reducible exact LeO.none _)
   | (with_reducible refine LeO.ite ?_ ?_)
   | (with_reducible refine LeO.bind ?_ (fun _ => ?_))
   | exact ih0 _ _ _ _ _ _ _ _ _
   | exact ih1 _ _ _ _ _ _
   | exact ih2 _ _ _
   | exact impl_LiveBefore.mono _ _ _
   | exact laws_eqInstrS.mono _ _ _
   | exact laws_eqIntS.mono _ _ _
   | exact laws_heldIntS.mono _ _ _
   | exact laws_markInstrS.mono _ _ _
   | exact laws_markIntS.mono _ _ _
   | exact laws_szInstrS.mono _ _ _
   | exact laws_toInstrS.mono _ _
   | exact laws_toIntS.mono _ _
   | exact spec_LiveBefore.mono _ _ _
   | exact LeO.none _
   | refine LeO.ite ?_ ?_
   | refine LeO.bind ?_ (fun _ => ?_)
set_option maxHeartbeats 8000000 in
set_option maxRecDepth 100000 in
theorem laws_FnExactLiveBefore.calls (k : Nat) (A0 : Option Addr) (c0 : Nat) (l0 : List (S65)) (A1 : Option Addr) (c1 : Nat) (l1 : List Int) (r : Bool) (w : World) (hr0 : Kd.C k65 w A0 l0.length l0) (hc0 : l0.length ≤ c0) (hr1 : Kd.C (Kd.int .i64) w A1 l1.length l1) (hc1 : l1.length ≤ c1) (h : laws_FnExactLiveBefore.f k l0 l1 = some r) (hr : r = true) :
  Calls Try.prog 11 #[.slice A0 l0.length c0, .slice A1 l1.length c1] w fun e w' => e = .returned (.bool r) ∧ Below w.heap.size w w' := by
 have HR0 := zK hr0
 have HC0 := zK hc0
 clear hr0 hc0
 have HR1 := zK hr1
 have HC1 := zK hc1
 clear hr1 hc1
 have HB := zK (Below.refl w.heap.size w)
 have H : (if (l1.length : Int) > 1048576 then (some true) else ((laws_szInstrS.f k l0 1048576).bind fun t672 => (if t672 < 0 then (some true) else ((laws_toInstrS.f k l0).bind fun t673 => ((laws_toIntS.f k l1).bind fun t676 => ((spec_LiveBefore.f k t673 t676).bind fun bt679 => ((laws_toInstrS.f k l0).bind fun t683 => ((laws_toIntS.f k l1).bind fun t686 => ((impl_LiveBefore.f k t683 t686).bind fun bt689 => ((laws_eqIntS.f k bt689.1 bt679.1).bind fun t693 => (if t693 = true then (laws_FnExactLiveBefore.j0 k l0 l1 bt679.1 bt679.2 t683 t686 bt689.1 bt689.2 (bt689.2 != bt679.2)) else (laws_FnExactLiveBefore.j0 k l0 l1 bt679.1 bt679.2 t683 t686 bt689.1 bt689.2 true)))))))))))) = some r := h
 clear h
 by_cases c3 : (l1.length : Int) > 1048576
 ·rw [if_pos c3] at H
  have c3b0 : decide (1048576 < (l1.length : Int)) = true := decide_eq_true c3
  have c3b1 : decide (1048576 < l1.length) = true := decide_eq_true (by omega)
  clear c3
  obtain rfl := Option.some.inj H
  go_enter Try.func11, Try.ntmps11
  go_wp2
  go_ret
  exact ⟨by first | rfl | (simp [errW_none, errW_some] <;> rfl) | (simp [*, errW_none, errW_some] <;> rfl), by repeat (first | (with_reducible first | exact HB.out | apply zA | apply zB | apply zC) | exact HB.out)⟩
 ·rw [if_neg c3] at H
  have c3b0 : decide (1048576 < (l1.length : Int)) = false := decide_eq_false c3
  have c3b1 : decide (1048576 < l1.length) = false := decide_eq_false (by omega)
  clear c3
  replace H := Option.bind_eq_some_iff.mp H
  obtain ⟨t672, A40, H⟩ := H
  replace H : (if t672 < 0 then (some true) else ((laws_toInstrS.f k l0).bind fun t673 => ((laws_toIntS.f k l1).bind fun t676 => ((spec_LiveBefore.f k t673 t676).bind fun bt679 => ((laws_toInstrS.f k l0).bind fun t683 => ((laws_toIntS.f k l1).bind fun t686 => ((impl_LiveBefore.f k t683 t686).bind fun bt689 => ((laws_eqIntS.f k bt689.1 bt679.1).bind fun t693 => (if t693 = true then (laws_FnExactLiveBefore.j0 k l0 l1 bt679.1 bt679.2 t683 t686 bt689.1 bt689.2 (bt689.2 != bt679.2)) else (laws_FnExactLiveBefore.j0 k l0 l1 bt679.1 bt679.2 t683 t686 bt689.1 bt689.2 true)))))))))) = some r := H
  have A4 := zK A40
  clear A40
  by_cases c5 : t672 < 0
  ·rw [if_pos c5] at H
   have c5b0 : decide (t672 < 0) = true := decide_eq_true c5
   clear c5
   obtain rfl := Option.some.inj H
   go_enter Try.func11, Try.ntmps11
   go_wp2_with (first | ((with_reducible refine gate_callee (f := 14) rfl ?_); refine goesL_ (some 22) rfl rfl Try.func14 (by kernel_rfl) rfl #[.slice A0 l0.length c0, .int .i64 1048576] rfl (by (try simp only [z6, z7, z8]); first | done | rfl | (simp only [z4, z5]; rfl)) ?_; (with_reducible refine (laws_szInstrS.calls k _ _ l0 1048576 t672 _ ?side1 ?side2 A4.out).mono ?_); (case side1 => repeat (first | exact HR0.out | (with_reducible refine Kd.C_alloc ?_ _) | (with_reducible refine Kd.C_drewN ?_ _) | (with_reducible refine Kd.C_drew ?_))); (case side2 => exact HC0.out); rintro e w6 ⟨rfl, hb⟩; refine ⟨_, rfl, ?_⟩; have n0_ := zK (zL (by repeat (first | (with_reducible first | exact HB.out | apply zA | apply zB | apply zC) | exact HB.out)) hb); clear HB; have HB := n0_; clear n0_; (try clear hb); (try clear hb2); (try clear hk); (try clear hi)))
   go_ret
   exact ⟨by first | rfl | (simp [errW_none, errW_some] <;> rfl) | (simp [*, errW_none, errW_some] <;> rfl), by repeat (first | (with_reducible first | exact HB.out | apply zA | apply zB | apply zC) | exact HB.out)⟩
  ·rw [if_neg c5] at H
   have c5b0 : decide (t672 < 0) = false := decide_eq_false c5
   clear c5
   replace H := Option.bind_eq_some_iff.mp H
   obtain ⟨t673, A70, H⟩ := H
   replace H : ((laws_toIntS.f k l1).bind fun t676 => ((spec_LiveBefore.f k t673 t676).bind fun bt679 => ((laws_toInstrS.f k l0).bind fun t683 => ((laws_toIntS.f k l1).bind fun t686 => ((impl_LiveBefore.f k t683 t686).bind fun bt689 => ((laws_eqIntS.f k bt689.1 bt679.1).bind fun t693 => (if t693 = true then (laws_FnExactLiveBefore.j0 k l0 l1 bt679.1 bt679.2 t683 t686 bt689.1 bt689.2 (bt689.2 != bt679.2)) else (laws_FnExactLiveBefore.j0 k l0 l1 bt679.1 bt679.2 t683 t686 bt689.1 bt689.2 true)))))))) = some r := H
   have A7 := zK A70
   clear A70
   replace H := Option.bind_eq_some_iff.mp H
   obtain ⟨t676, A80, H⟩ := H
   replace H : ((spec_LiveBefore.f k t673 t676).bind fun bt679 => ((laws_toInstrS.f k l0).bind fun t683 => ((laws_toIntS.f k l1).bind fun t686 => ((impl_LiveBefore.f k t683 t686).bind fun bt689 => ((laws_eqIntS.f k bt689.1 bt679.1).bind fun t693 => (if t693 = true then (laws_FnExactLiveBefore.j0 k l0 l1 bt679.1 bt679.2 t683 t686 bt689.1 bt689.2 (bt689.2 != bt679.2)) else (laws_FnExactLiveBefore.j0 k l0 l1 bt679.1 bt679.2 t683 t686 bt689.1 bt689.2 true))))))) = some r := H
   have A8 := zK A80
   clear A80
   replace H := Option.bind_eq_some_iff.mp H
   obtain ⟨⟨t679, t682⟩, A90, H⟩ := H
   replace H : ((laws_toInstrS.f k l0).bind fun t683 => ((laws_toIntS.f k l1).bind fun t686 => ((impl_LiveBefore.f k t683 t686).bind fun bt689 => ((laws_eqIntS.f k bt689.1 t679).bind fun t693 => (if t693 = true then (laws_FnExactLiveBefore.j0 k l0 l1 t679 t682 t683 t686 bt689.1 bt689.2 (bt689.2 != t682)) else (laws_FnExactLiveBefore.j0 k l0 l1 t679 t682 t683 t686 bt689.1 bt689.2 true)))))) = some r := H
   have A9 := zK A90
   clear A90
   replace H := Option.bind_eq_some_iff.mp H
   obtain ⟨t683, A100, H⟩ := H
   replace H : ((laws_toIntS.f k l1).bind fun t686 => ((impl_LiveBefore.f k t683 t686).bind fun bt689 => ((laws_eqIntS.f k bt689.1 t679).bind fun t693 => (if t693 = true then (laws_FnExactLiveBefore.j0 k l0 l1 t679 t682 t683 t686 bt689.1 bt689.2 (bt689.2 != t682)) else (laws_FnExactLiveBefore.j0 k l0 l1 t679 t682 t683 t686 bt689.1 bt689.2 true))))) = some r := H
   have A10 := zK A100
   clear A100
   replace H := Option.bind_eq_some_iff.mp H
   obtain ⟨t686, A110, H⟩ := H
   replace H : ((impl_LiveBefore.f k t683 t686).bind fun bt689 => ((laws_eqIntS.f k bt689.1 t679).bind fun t693 => (if t693 = true then (laws_FnExactLiveBefore.j0 k l0 l1 t679 t682 t683 t686 bt689.1 bt689.2 (bt689.2 != t682)) else (laws_FnExactLiveBefore.j0 k l0 l1 t679 t682 t683 t686 bt689.1 bt689.2 true)))) = some r := H
   have A11 := zK A110
   clear A110
   replace H := Option.bind_eq_some_iff.mp H
   obtain ⟨⟨t689, t690⟩, A120, H⟩ := H
   replace H : ((laws_eqIntS.f k t689 t679).bind fun t693 => (if t693 = true then (laws_FnExactLiveBefore.j0 k l0 l1 t679 t682 t683 t686 t689 t690 (t690 != t682)) else (laws_FnExactLiveBefore.j0 k l0 l1 t679 t682 t683 t686 t689 t690 true))) = some r := H
   have A12 := zK A120
   clear A120
   have HC13 := zK H
   clear H
   go_enter Try.func11, Try.ntmps11
   go_upto_region 11 with (first | ((with_reducible refine gate_callee (f := 14) rfl ?_); refine goesL_ (some 22) rfl rfl Try.func14 (by kernel_rfl) rfl #[.slice A0 l0.length c0, .int .i64 1048576] rfl (by (try simp only [z6, z7, z8]); first | done | rfl | (simp only [z4, z5]; rfl)) ?_; (with_reducible refine (laws_szInstrS.calls k _ _ l0 1048576 t672 _ ?side1 ?side2 A4.out).mono ?_); (case side1 => repeat (first | exact HR0.out | (with_reducible refine Kd.C_alloc ?_ _) | (with_reducible refine Kd.C_drewN ?_ _) | (with_reducible refine Kd.C_drew ?_))); (case side2 => exact HC0.out); rintro e w14 ⟨rfl, hb⟩; refine ⟨_, rfl, ?_⟩; have n0_ := zK (zL (by repeat (first | (with_reducible first | exact HB.out | apply zA | apply zB | apply zC) | exact HB.out)) hb); clear HB; have HB := n0_; clear n0_; (try clear hb); (try clear hb2); (try clear hk); (try clear hi)) | ((with_reducible refine gate_callee (f := 16) rfl ?_); refine goesL_ (some 27) rfl rfl Try.func16 (by kernel_rfl) rfl #[.slice A0 l0.length c0] rfl (by (try simp only [z6, z7, z8]); first | done | rfl | (simp only [z4, z5]; rfl)) ?_; (with_reducible refine (laws_toInstrS.calls k _ _ l0 t673 _ ?side1 ?side2 A7.out).mono ?_); (case side1 => repeat (first | exact (Kd.C_below HR0.out HB.out) | (with_reducible refine Kd.C_alloc ?_ _) | (with_reducible refine Kd.C_drewN ?_ _) | (with_reducible refine Kd.C_drew ?_))); (case side2 => exact HC0.out); rintro e w15 ⟨v674, rfl, ho0, hb⟩; refine ⟨_, rfl, ?_⟩; have n0_ := zK (Kd.R_lower ho0 (zN (by repeat (first | (with_reducible first | exact HB.out | apply zA | apply zB | apply zC) | exact HB.out)))); have n1_ := zK (zL (by repeat (first | (with_reducible first | exact HB.out | apply zA | apply zB | apply zC) | exact HB.out)) hb); clear HB; have HO675 := n0_; have HB := n1_; clear n0_ n1_; (try clear hb); (try clear hb2); (try clear hk); (try clear hi); (try clear ho0)) | ((with_reducible refine gate_callee (f := 33) rfl ?_); refine goesL_ (some 29) rfl rfl Try.func33 (by kernel_rfl) rfl #[.slice A1 l1.length c1] rfl (by (try simp only [z6, z7, z8]); first | done | rfl | (simp only [z4, z5]; rfl)) ?_; (with_reducible refine (laws_toIntS.calls k _ _ l1 t676 _ ?side1 ?side2 A8.out).mono ?_); (case side1 => repeat (first | exact (Kd.C_below HR1.out HB.out) | (with_reducible refine Kd.C_alloc ?_ _) | (with_reducible refine Kd.C_drewN ?_ _) | (with_reducible refine Kd.C_drew ?_))); (case side2 => exact HC1.out); rintro e w16 ⟨v677, rfl, ho0, hb⟩; refine ⟨_, rfl, ?_⟩; have n0_ := zK (Kd.R_below (by (with_reducible repeat (first | apply Kd.R_alloc | apply Kd.R_drewN | apply Kd.R_drew)); exact HO675.out) hb); have n1_ := zK (Kd.R_lower ho0 (zN (by repeat (first | (with_reducible first | exact HB.out | apply zA | apply zB | apply zC) | exact HB.out)))); have n2_ := zK (zL (by repeat (first | (with_reducible first | exact HB.out | apply zA | apply zB | apply zC) | exact HB.out)) hb); clear HO675; clear HB; have HO675 := n0_; have HO678 := n1_; have HB := n2_; clear n0_ n1_ n2_; (try clear hb); (try clear hb2); (try clear hk); (try clear hi); (try clear ho0); obtain ⟨Ao17, co17, eo17⟩ := Kd.R_slice HO675.out; subst eo17; obtain ⟨Ao18, co18, eo18⟩ := Kd.R_slice HO678.out; subst eo18) | ((with_reducible refine gate_callee (f := 51) rfl ?_); refine goesL_ (some 30) rfl rfl Try.func51 (by kernel_rfl) rfl #[.slice Ao17 t673.length co17, .slice Ao18 t676.length co18] rfl (by (try simp only [z6, z7, z8]); first | done | rfl | (simp only [z4, z5]; rfl)) ?_; (with_reducible refine (spec_LiveBefore.calls k _ _ t673 _ _ t676 t679 t682 _ ?side1 ?side2 ?side3 ?side4 A9.out).mono ?_); (case side1 => repeat (first | exact (Kd.R_reads' HO675.out).2.2 | (with_reducible refine Kd.C_alloc ?_ _) | (with_reducible refine Kd.C_drewN ?_ _) | (with_reducible refine Kd.C_drew ?_))); (case side2 => exact (Kd.R_reads' HO675.out).2.1); (case side3 => repeat (first | exact (Kd.R_reads' HO678.out).2.2 | (with_reducible refine Kd.C_alloc ?_ _) | (with_reducible refine Kd.C_drewN ?_ _) | (with_reducible refine Kd.C_drew ?_))); (case side4 => exact (Kd.R_reads' HO678.out).2.1); rintro e w19 ⟨v680, rfl, ho0, hb⟩; refine ⟨_, rfl, ?_⟩; have n0_ := zK (Kd.R_below (by (with_reducible repeat (first | apply Kd.R_alloc | apply Kd.R_drewN | apply Kd.R_drew)); exact HO675.out) hb); have n1_ := zK (Kd.R_below (by (with_reducible repeat (first | apply Kd.R_alloc | apply Kd.R_drewN | apply Kd.R_drew)); exact HO678.out) hb); have n2_ := zK (Kd.V_lower (Kd.V_mono (ok' := fun k_ => some k_ ≠ (.slice Ao17 t673.length co17 : Value).ownBlock ∧ some k_ ≠ (.slice Ao18 t676.length co18 : Value).ownBlock) ho0 (fun k_ hk_ => ⟨(Kd.fresh' (Kd.R_lt (by (with_reducible repeat (first | apply Kd.R_alloc | apply Kd.R_drewN | apply Kd.R_drew)); exact HO675.out)) k_ hk_), (Kd.fresh' (Kd.R_lt (by (with_reducible repeat (first | apply Kd.R_alloc | apply Kd.R_drewN | apply Kd.R_drew)); exact HO678.out)) k_ hk_)⟩)) (zN (by repeat (first | (with_reducible first | exact HB.out | apply zA | apply zB | apply zC) | exact HB.out)))); have n3_ := zK (zL (by repeat (first | (with_reducible first | exact HB.out | apply zA | apply zB | apply zC) | exact HB.out)) hb); clear HO675; clear HO678; clear HB; have HO675 := n0_; have HO678 := n1_; have HO681 := n2_; have HB := n3_; clear n0_ n1_ n2_ n3_; (try clear hb); (try clear hb2); (try clear hk); (try clear hi); (try clear ho0)) | ((with_reducible refine gate_callee (f := 16) rfl ?_); refine goesL_ (some 34) rfl rfl Try.func16 (by kernel_rfl) rfl #[.slice A0 l0.length c0] rfl (by (try simp only [z6, z7, z8]); first | done | rfl | (simp only [z4, z5]; rfl)) ?_; (with_reducible refine (laws_toInstrS.calls k _ _ l0 t683 _ ?side1 ?side2 A10.out).mono ?_); (case side1 => repeat (first | exact (Kd.C_below HR0.out HB.out) | (with_reducible refine Kd.C_alloc ?_ _) | (with_reducible refine Kd.C_drewN ?_ _) | (with_reducible refine Kd.C_drew ?_))); (case side2 => exact HC0.out); rintro e w20 ⟨v684, rfl, ho0, hb⟩; refine ⟨_, rfl, ?_⟩; have n0_ := zK (Kd.R_elder' (by (with_reducible repeat (first | apply Kd.R_alloc | apply Kd.R_drewN | apply Kd.R_drew)); exact HO675.out) (Kd.R_base ho0) hb); have n1_ := zK (Kd.R_below (by (with_reducible repeat (first | apply Kd.R_alloc | apply Kd.R_drewN | apply Kd.R_drew)); exact HO678.out) hb); have n2_ := zK (Kd.V_elder' (by (with_reducible repeat (first | apply Kd.V_alloc | apply Kd.V_drewN | apply Kd.V_drew)); exact HO681.out) (Kd.R_base ho0) hb); have n3_ := zK (Kd.R_lower (Kd.R_new' ho0 (Kd.R_lt (by (with_reducible repeat (first | apply Kd.R_alloc | apply Kd.R_drewN | apply Kd.R_drew)); exact HO675.out))) (zN (by repeat (first | (with_reducible first | exact HB.out | apply zA | apply zB | apply zC) | exact HB.out)))); have n4_ := zK (zL (by repeat (first | (with_reducible first | exact HB.out | apply zA | apply zB | apply zC) | exact HB.out)) hb); clear HO675; clear HO678; clear HO681; clear HB; have HO675 := n0_; have HO678 := n1_; have HO681 := n2_; have HO685 := n3_; have HB := n4_; clear n0_ n1_ n2_ n3_ n4_; (try clear hb); (try clear hb2); (try clear hk); (try clear hi); (try clear ho0)) | ((with_reducible refine gate_callee (f := 33) rfl ?_); refine goesL_ (some 36) rfl rfl Try.func33 (by kernel_rfl) rfl #[.slice A1 l1.length c1] rfl (by (try simp only [z6, z7, z8]); first | done | rfl | (simp only [z4, z5]; rfl)) ?_; (with_reducible refine (laws_toIntS.calls k _ _ l1 t686 _ ?side1 ?side2 A11.out).mono ?_); (case side1 => repeat (first | exact (Kd.C_below HR1.out HB.out) | (with_reducible refine Kd.C_alloc ?_ _) | (with_reducible refine Kd.C_drewN ?_ _) | (with_reducible refine Kd.C_drew ?_))); (case side2 => exact HC1.out); rintro e w21 ⟨v687, rfl, ho0, hb⟩; refine ⟨_, rfl, ?_⟩; have n0_ := zK (Kd.R_below (by (with_reducible repeat (first | apply Kd.R_alloc | apply Kd.R_drewN | apply Kd.R_drew)); exact HO675.out) hb); have n1_ := zK (Kd.R_elder' (by (with_reducible repeat (first | apply Kd.R_alloc | apply Kd.R_drewN | apply Kd.R_drew)); exact HO678.out) (Kd.R_base ho0) hb); have n2_ := zK (Kd.V_elder' (by (with_reducible repeat (first | apply Kd.V_alloc | apply Kd.V_drewN | apply Kd.V_drew)); exact HO681.out) (Kd.R_base ho0) hb); have n3_ := zK (Kd.R_below (by (with_reducible repeat (first | apply Kd.R_alloc | apply Kd.R_drewN | apply Kd.R_drew)); exact HO685.out) hb); have n4_ := zK (Kd.R_lower (Kd.R_new' ho0 (Kd.R_lt (by (with_reducible repeat (first | apply Kd.R_alloc | apply Kd.R_drewN | apply Kd.R_drew)); exact HO678.out))) (zN (by repeat (first | (with_reducible first | exact HB.out | apply zA | apply zB | apply zC) | exact HB.out)))); have n5_ := zK (zL (by repeat (first | (with_reducible first | exact HB.out | apply zA | apply zB | apply zC) | exact HB.out)) hb); clear HO675; clear HO678; clear HO681; clear HO685; clear HB; have HO675 := n0_; have HO678 := n1_; have HO681 := n2_; have HO685 := n3_; have HO688 := n4_; have HB := n5_; clear n0_ n1_ n2_ n3_ n4_ n5_; (try clear hb); (try clear hb2); (try clear hk); (try clear hi); (try clear ho0); obtain ⟨Ao22, co22, eo22⟩ := Kd.R_slice HO685.out; subst eo22; obtain ⟨Ao23, co23, eo23⟩ := Kd.R_slice HO688.out; subst eo23) | ((with_reducible refine gate_callee (f := 52) rfl ?_); refine goesL_ (some 40) rfl rfl Try.func52 (by kernel_rfl) rfl #[.slice Ao22 t683.length co22, .slice Ao23 t686.length co23] rfl (by (try simp only [z6, z7, z8]); first | done | rfl | (simp only [z4, z5]; rfl)) ?_; (with_reducible refine (impl_LiveBefore.calls k _ _ t683 _ _ t686 t689 t690 _ ?side1 ?side2 ?side3 ?side4 A12.out).mono ?_); (case side1 => repeat (first | exact (Kd.R_reads' HO685.out).2.2 | (with_reducible refine Kd.C_alloc ?_ _) | (with_reducible refine Kd.C_drewN ?_ _) | (with_reducible refine Kd.C_drew ?_))); (case side2 => exact (Kd.R_reads' HO685.out).2.1); (case side3 => repeat (first | exact (Kd.R_reads' HO688.out).2.2 | (with_reducible refine Kd.C_alloc ?_ _) | (with_reducible refine Kd.C_drewN ?_ _) | (with_reducible refine Kd.C_drew ?_))); (case side4 => exact (Kd.R_reads' HO688.out).2.1); rintro e w24 ⟨v691, rfl, ho0, hb⟩; refine ⟨_, rfl, ?_⟩; have n0_ := zK (Kd.R_below (by (with_reducible repeat (first | apply Kd.R_alloc | apply Kd.R_drewN | apply Kd.R_drew)); exact HO675.out) hb); have n1_ := zK (Kd.R_elder' (by (with_reducible repeat (first | apply Kd.R_alloc | apply Kd.R_drewN | apply Kd.R_drew)); exact HO678.out) (Kd.R_base ho0) hb); have n2_ := zK (Kd.V_elder' (by (with_reducible repeat (first | apply Kd.V_alloc | apply Kd.V_drewN | apply Kd.V_drew)); exact HO681.out) (Kd.R_base ho0) hb); have n3_ := zK (Kd.R_below (by (with_reducible repeat (first | apply Kd.R_alloc | apply Kd.R_drewN | apply Kd.R_drew)); exact HO685.out) hb); have n4_ := zK (Kd.R_elder' (by (with_reducible repeat (first | apply Kd.R_alloc | apply Kd.R_drewN | apply Kd.R_drew)); exact HO688.out) (Kd.R_base ho0) hb); have n5_ := zK (Kd.R_lower (Kd.R_new' (Kd.R_new' ho0 (Kd.R_lt (by (with_reducible repeat (first | apply Kd.R_alloc | apply Kd.R_drewN | apply Kd.R_drew)); exact HO678.out))) (Kd.R_lt (by (with_reducible repeat (first | apply Kd.R_alloc | apply Kd.R_drewN | apply Kd.R_drew)); exact HO688.out))) (zN (by repeat (first | (with_reducible first | exact HB.out | apply zA | apply zB | apply zC) | exact HB.out)))); have n6_ := zK (zL (by repeat (first | (with_reducible first | exact HB.out | apply zA | apply zB | apply zC) | exact HB.out)) hb); clear HO675; clear HO678; clear HO681; clear HO685; clear HO688; clear HB; have HO675 := n0_; have HO678 := n1_; have HO681 := n2_; have HO685 := n3_; have HO688 := n4_; have HO692 := n5_; have HB := n6_; clear n0_ n1_ n2_ n3_ n4_ n5_ n6_; (try clear hb); (try clear hb2); (try clear hk); (try clear hi); (try clear ho0)))
   (try simp only [Act.put, z1, z2, z3])
   go_cut [51] (fun v51 wc => ∃ (kq : Nat) (x51_12 : Bool), v51 = .bool x51_12 ∧ Aside0 (laws_FnExactLiveBefore.j0 kq l0 l1 t679 t682 t683 t686 t689 t690 x51_12 = some r) ∧ Aside0 (kq ≤ k) ∧ Aside0 (Kd.V (Kd.int .i64) 3 wc w.heap.size (fun k_ => some k_ ≠ ((.slice Ao22 t683.length co22) : Value).ownBlock ∧ some k_ ≠ ((.slice Ao23 t686.length co23) : Value).ownBlock ∧ some k_ ≠ (v691 : Value).ownBlock) v680 t679) ∧ Aside0 (Kd.R k67 67 wc w.heap.size (fun _ => True) (.slice Ao22 t683.length co22) t683) ∧ Aside0 (Kd.R (Kd.int .i64) 3 wc w.heap.size (fun k_ => some k_ ≠ (v691 : Value).ownBlock) (.slice Ao23 t686.length co23) t686) ∧ Aside0 (Kd.R (Kd.int .i64) 3 wc w.heap.size (fun k_ => some k_ ≠ ((.slice Ao23 t686.length co23) : Value).ownBlock) v691 t689) ∧ Aside0 (Below w.heap.size w wc))
   case first =>
    have H := HC13.out
    clear HC13
    replace H := Option.bind_eq_some_iff.mp H
    obtain ⟨t693, A250, H⟩ := H
    replace H : (if t693 = true then (laws_FnExactLiveBefore.j0 k l0 l1 t679 t682 t683 t686 t689 t690 (t690 != t682)) else (laws_FnExactLiveBefore.j0 k l0 l1 t679 t682 t683 t686 t689 t690 true)) = some r := H
    have A25 := zK A250
    clear A250
    by_cases c26 : t693 = true
    ·subst c26
     have H1 : (laws_FnExactLiveBefore.j0 k l0 l1 t679 t682 t683 t686 t689 t690 (t690 != t682)) = some r := by rw [if_pos rfl] at H; exact H
     clear H
     have H := H1
     clear H1
     have H' := zK H
     clear H
     obtain ⟨Ao27, co27, eo27⟩ := Kd.R_slice HO692.out
     subst eo27
     obtain ⟨Ao28, co28, eo28⟩ := Kd.V_slice HO681.out
     subst eo28
     go_wp2_with (first | ((with_reducible refine gate_callee (f := 36) rfl ?_); refine goesL_ (some 45) rfl rfl Try.func36 (by kernel_rfl) rfl #[.slice Ao27 t689.length co27, .slice Ao28 t679.length co28] rfl (by (try simp only [z6, z7, z8]); first | done | rfl | (simp only [z4, z5]; rfl)) ?_; (with_reducible refine (laws_eqIntS.calls k _ _ t689 _ _ t679 true _ ?side1 ?side2 ?side3 ?side4 A25.out).mono ?_); (case side1 => repeat (first | exact (Kd.R_reads' HO692.out).2.2 | (with_reducible refine Kd.C_alloc ?_ _) | (with_reducible refine Kd.C_drewN ?_ _) | (with_reducible refine Kd.C_drew ?_))); (case side2 => exact (Kd.R_reads' HO692.out).2.1); (case side3 => repeat (first | exact (Kd.V_reads' HO681.out).2.2 | (with_reducible refine Kd.C_alloc ?_ _) | (with_reducible refine Kd.C_drewN ?_ _) | (with_reducible refine Kd.C_drew ?_))); (case side4 => exact (Kd.V_reads' HO681.out).2.1); rintro e w' ⟨rfl, ⟨nd, rfl⟩⟩; refine ⟨_, rfl, ?_⟩))
     go_meet
     case rel => exact ⟨_, ((t690 != t682)), (by first | rfl | (simp; done) | (simp [*]; done)), H', ⟨by first | omega | exact Nat.le_refl _⟩, ⟨by (with_reducible repeat (first | apply Kd.V_alloc | apply Kd.V_drewN | apply Kd.V_drew)); exact Kd.V_mono HO681.out (fun _ hk => ⟨hk.1.1.2, ⟨hk.1.2, hk.2⟩⟩)⟩, ⟨by (with_reducible repeat (first | apply Kd.R_alloc | apply Kd.R_drewN | apply Kd.R_drew)); exact Kd.R_mono HO685.out (fun _ hk => trivial)⟩, ⟨by (with_reducible repeat (first | apply Kd.R_alloc | apply Kd.R_drewN | apply Kd.R_drew)); exact Kd.R_mono HO688.out (fun _ hk => hk.2)⟩, ⟨by (with_reducible repeat (first | apply Kd.R_alloc | apply Kd.R_drewN | apply Kd.R_drew)); exact Kd.R_mono HO692.out (fun _ hk => hk.2)⟩, ⟨by repeat (first | (with_reducible first | exact HB.out | apply zA | apply zB | apply zC) | exact HB.out)⟩⟩
    ·replace c26 := Bool.eq_false_iff.mpr c26
     subst c26
     have H1 : (laws_FnExactLiveBefore.j0 k l0 l1 t679 t682 t683 t686 t689 t690 true) = some r := by rw [if_neg (show ¬ (false = true) by decide)] at H; exact H
     clear H
     have H := H1
     clear H1
     have H' := zK H
     clear H
     obtain ⟨Ao29, co29, eo29⟩ := Kd.R_slice HO692.out
     subst eo29
     obtain ⟨Ao30, co30, eo30⟩ := Kd.V_slice HO681.out
     subst eo30
     go_wp2_with (first | ((with_reducible refine gate_callee (f := 36) rfl ?_); refine goesL_ (some 45) rfl rfl Try.func36 (by kernel_rfl) rfl #[.slice Ao29 t689.length co29, .slice Ao30 t679.length co30] rfl (by (try simp only [z6, z7, z8]); first | done | rfl | (simp only [z4, z5]; rfl)) ?_; (with_reducible refine (laws_eqIntS.calls k _ _ t689 _ _ t679 false _ ?side1 ?side2 ?side3 ?side4 A25.out).mono ?_); (case side1 => repeat (first | exact (Kd.R_reads' HO692.out).2.2 | (with_reducible refine Kd.C_alloc ?_ _) | (with_reducible refine Kd.C_drewN ?_ _) | (with_reducible refine Kd.C_drew ?_))); (case side2 => exact (Kd.R_reads' HO692.out).2.1); (case side3 => repeat (first | exact (Kd.V_reads' HO681.out).2.2 | (with_reducible refine Kd.C_alloc ?_ _) | (with_reducible refine Kd.C_drewN ?_ _) | (with_reducible refine Kd.C_drew ?_))); (case side4 => exact (Kd.V_reads' HO681.out).2.1); rintro e w' ⟨rfl, ⟨nd, rfl⟩⟩; refine ⟨_, rfl, ?_⟩))
     go_meet
     case rel => exact ⟨_, (true), (by first | rfl | (simp; done) | (simp [*]; done)), H', ⟨by first | omega | exact Nat.le_refl _⟩, ⟨by (with_reducible repeat (first | apply Kd.V_alloc | apply Kd.V_drewN | apply Kd.V_drew)); exact Kd.V_mono HO681.out (fun _ hk => ⟨hk.1.1.2, ⟨hk.1.2, hk.2⟩⟩)⟩, ⟨by (with_reducible repeat (first | apply Kd.R_alloc | apply Kd.R_drewN | apply Kd.R_drew)); exact Kd.R_mono HO685.out (fun _ hk => trivial)⟩, ⟨by (with_reducible repeat (first | apply Kd.R_alloc | apply Kd.R_drewN | apply Kd.R_drew)); exact Kd.R_mono HO688.out (fun _ hk => hk.2)⟩, ⟨by (with_reducible repeat (first | apply Kd.R_alloc | apply Kd.R_drewN | apply Kd.R_drew)); exact Kd.R_mono HO692.out (fun _ hk => hk.2)⟩, ⟨by repeat (first | (with_reducible first | exact HB.out | apply zA | apply zB | apply zC) | exact HB.out)⟩⟩
   case rest =>
    clear HC13
    try clear c1
    try clear c2
    try clear p2
    try clear c3
    try clear c3b0
    try clear c3b1
    try clear c5
    try clear c5b0
    try clear c11
    try clear c14
    try clear c16
    try clear c26
    obtain ⟨kq, x51_12, rfl, HA, HJ12, HO_6, HO_8, HO_9, HO_10, HB⟩ := hcut
    cases kq with
    | zero => exact absurd HA.out (by simp [laws_FnExactLiveBefore.j0])
    | succ kj12 =>
     have H := HA.out
     clear HA
     simp only [laws_FnExactLiveBefore.j0] at H
     by_cases c31 : x51_12 = true
     ·subst c31
      have H1 : (some false) = some r := by rw [if_pos rfl] at H; exact H
      clear H
      have H := H1
      clear H1
      exact absurd ((Option.some.inj H).trans hr) (by decide)
     ·replace c31 := Bool.eq_false_iff.mpr c31
      subst c31
      have H1 : ((laws_toInstrS.f kj12 l0).bind fun t694 => ((laws_eqInstrS.f kj12 t683 t694).bind fun t697 => (if t697 = true then ((laws_toIntS.f kj12 l1).bind fun t698 => ((laws_eqIntS.f kj12 t686 t698).bind fun t701 => (if t701 = true then ((laws_markInstrS.f kj12 t683 1).bind fun bt702 => ((laws_markIntS.f kj12 t686 bt702.1).bind fun bt704 => (if bt704.1 < 0 then (laws_FnExactLiveBefore.j1 kj12 l0 l1 t679 t682 t689 true) else ((laws_eqIntS.f kj12 t689 t679).bind fun t706 => (if t706 = true then (laws_FnExactLiveBefore.j1 kj12 l0 l1 t679 t682 t689 (t690 != t682)) else (laws_FnExactLiveBefore.j1 kj12 l0 l1 t679 t682 t689 true)))))) else (some false)))) else (some false)))) = some r := by rw [if_neg (show ¬ (false = true) by decide)] at H; exact H
      clear H
      have H := H1
      clear H1
      replace H := Option.bind_eq_some_iff.mp H
      obtain ⟨t694, A320, H⟩ := H
      replace H : ((laws_eqInstrS.f kj12 t683 t694).bind fun t697 => (if t697 = true then ((laws_toIntS.f kj12 l1).bind fun t698 => ((laws_eqIntS.f kj12 t686 t698).bind fun t701 => (if t701 = true then ((laws_markInstrS.f kj12 t683 1).bind fun bt702 => ((laws_markIntS.f kj12 t686 bt702.1).bind fun bt704 => (if bt704.1 < 0 then (laws_FnExactLiveBefore.j1 kj12 l0 l1 t679 t682 t689 true) else ((laws_eqIntS.f kj12 t689 t679).bind fun t706 => (if t706 = true then (laws_FnExactLiveBefore.j1 kj12 l0 l1 t679 t682 t689 (t690 != t682)) else (laws_FnExactLiveBefore.j1 kj12 l0 l1 t679 t682 t689 true)))))) else (some false)))) else (some false))) = some r := H
      have A32 := zK A320
      clear A320
      replace H := Option.bind_eq_some_iff.mp H
      obtain ⟨t697, A330, H⟩ := H
      replace H : (if t697 = true then ((laws_toIntS.f kj12 l1).bind fun t698 => ((laws_eqIntS.f kj12 t686 t698).bind fun t701 => (if t701 = true then ((laws_markInstrS.f kj12 t683 1).bind fun bt702 => ((laws_markIntS.f kj12 t686 bt702.1).bind fun bt704 => (if bt704.1 < 0 then (laws_FnExactLiveBefore.j1 kj12 l0 l1 t679 t682 t689 true) else ((laws_eqIntS.f kj12 t689 t679).bind fun t706 => (if t706 = true then (laws_FnExactLiveBefore.j1 kj12 l0 l1 t679 t682 t689 (t690 != t682)) else (laws_FnExactLiveBefore.j1 kj12 l0 l1 t679 t682 t689 true)))))) else (some false)))) else (some false)) = some r := H
      have A33 := zK A330
      clear A330
      by_cases c34 : t697 = true
      ·subst c34
       have H1 : ((laws_toIntS.f kj12 l1).bind fun t698 => ((laws_eqIntS.f kj12 t686 t698).bind fun t701 => (if t701 = true then ((laws_markInstrS.f kj12 t683 1).bind fun bt702 => ((laws_markIntS.f kj12 t686 bt702.1).bind fun bt704 => (if bt704.1 < 0 then (laws_FnExactLiveBefore.j1 kj12 l0 l1 t679 t682 t689 true) else ((laws_eqIntS.f kj12 t689 t679).bind fun t706 => (if t706 = true then (laws_FnExactLiveBefore.j1 kj12 l0 l1 t679 t682 t689 (t690 != t682)) else (laws_FnExactLiveBefore.j1 kj12 l0 l1 t679 t682 t689 true)))))) else (some false)))) = some r := by rw [if_pos rfl] at H; exact H
       clear H
       have H := H1
       clear H1
       replace H := Option.bind_eq_some_iff.mp H
       obtain ⟨t698, A350, H⟩ := H
       replace H : ((laws_eqIntS.f kj12 t686 t698).bind fun t701 => (if t701 = true then ((laws_markInstrS.f kj12 t683 1).bind fun bt702 => ((laws_markIntS.f kj12 t686 bt702.1).bind fun bt704 => (if bt704.1 < 0 then (laws_FnExactLiveBefore.j1 kj12 l0 l1 t679 t682 t689 true) else ((laws_eqIntS.f kj12 t689 t679).bind fun t706 => (if t706 = true then (laws_FnExactLiveBefore.j1 kj12 l0 l1 t679 t682 t689 (t690 != t682)) else (laws_FnExactLiveBefore.j1 kj12 l0 l1 t679 t682 t689 true)))))) else (some false))) = some r := H
       have A35 := zK A350
       clear A350
       replace H := Option.bind_eq_some_iff.mp H
       obtain ⟨t701, A360, H⟩ := H
       replace H : (if t701 = true then ((laws_markInstrS.f kj12 t683 1).bind fun bt702 => ((laws_markIntS.f kj12 t686 bt702.1).bind fun bt704 => (if bt704.1 < 0 then (laws_FnExactLiveBefore.j1 kj12 l0 l1 t679 t682 t689 true) else ((laws_eqIntS.f kj12 t689 t679).bind fun t706 => (if t706 = true then (laws_FnExactLiveBefore.j1 kj12 l0 l1 t679 t682 t689 (t690 != t682)) else (laws_FnExactLiveBefore.j1 kj12 l0 l1 t679 t682 t689 true)))))) else (some false)) = some r := H
       have A36 := zK A360
       clear A360
       by_cases c37 : t701 = true
       ·subst c37
        have H1 : ((laws_markInstrS.f kj12 t683 1).bind fun bt702 => ((laws_markIntS.f kj12 t686 bt702.1).bind fun bt704 => (if bt704.1 < 0 then (laws_FnExactLiveBefore.j1 kj12 l0 l1 t679 t682 t689 true) else ((laws_eqIntS.f kj12 t689 t679).bind fun t706 => (if t706 = true then (laws_FnExactLiveBefore.j1 kj12 l0 l1 t679 t682 t689 (t690 != t682)) else (laws_FnExactLiveBefore.j1 kj12 l0 l1 t679 t682 t689 true)))))) = some r := by rw [if_pos rfl] at H; exact H
        clear H
        have H := H1
        clear H1
        replace H := Option.bind_eq_some_iff.mp H
        obtain ⟨⟨t702, t703⟩, A380, H⟩ := H
        replace H : ((laws_markIntS.f kj12 t686 t702).bind fun bt704 => (if bt704.1 < 0 then (laws_FnExactLiveBefore.j1 kj12 l0 l1 t679 t682 t689 true) else ((laws_eqIntS.f kj12 t689 t679).bind fun t706 => (if t706 = true then (laws_FnExactLiveBefore.j1 kj12 l0 l1 t679 t682 t689 (t690 != t682)) else (laws_FnExactLiveBefore.j1 kj12 l0 l1 t679 t682 t689 true))))) = some r := H
        have A38 := zK A380
        clear A380
        replace H := Option.bind_eq_some_iff.mp H
        obtain ⟨⟨t704, t705⟩, A390, H⟩ := H
        replace H : (if t704 < 0 then (laws_FnExactLiveBefore.j1 kj12 l0 l1 t679 t682 t689 true) else ((laws_eqIntS.f kj12 t689 t679).bind fun t706 => (if t706 = true then (laws_FnExactLiveBefore.j1 kj12 l0 l1 t679 t682 t689 (t690 != t682)) else (laws_FnExactLiveBefore.j1 kj12 l0 l1 t679 t682 t689 true)))) = some r := H
        have A39 := zK A390
        clear A390
        have HC40 := zK H
        clear H
        go_upto_region 20 with (first | ((with_reducible refine gate_callee (f := 16) rfl ?_); refine goesL_ (some 54) rfl rfl Try.func16 (by kernel_rfl) rfl #[.slice A0 l0.length c0] rfl (by (try simp only [z6, z7, z8]); first | done | rfl | (simp only [z4, z5]; rfl)) ?_; (with_reducible refine (laws_toInstrS.calls kj12 _ _ l0 t694 _ ?side1 ?side2 A32.out).mono ?_); (case side1 => repeat (first | exact (Kd.C_below HR0.out HB.out) | (with_reducible refine Kd.C_alloc ?_ _) | (with_reducible refine Kd.C_drewN ?_ _) | (with_reducible refine Kd.C_drew ?_))); (case side2 => exact HC0.out); rintro e w41 ⟨v695, rfl, ho0, hb⟩; refine ⟨_, rfl, ?_⟩; have n0_ := zK (Kd.V_elder' (by (with_reducible repeat (first | apply Kd.V_alloc | apply Kd.V_drewN | apply Kd.V_drew)); exact HO_6.out) (Kd.R_base ho0) hb); have n1_ := zK (Kd.R_elder' (by (with_reducible repeat (first | apply Kd.R_alloc | apply Kd.R_drewN | apply Kd.R_drew)); exact HO_8.out) (Kd.R_base ho0) hb); have n2_ := zK (Kd.R_below (by (with_reducible repeat (first | apply Kd.R_alloc | apply Kd.R_drewN | apply Kd.R_drew)); exact HO_9.out) hb); have n3_ := zK (Kd.R_below (by (with_reducible repeat (first | apply Kd.R_alloc | apply Kd.R_drewN | apply Kd.R_drew)); exact HO_10.out) hb); have n4_ := zK (Kd.R_lower (Kd.R_new' ho0 (Kd.R_lt (by (with_reducible repeat (first | apply Kd.R_alloc | apply Kd.R_drewN | apply Kd.R_drew)); exact HO_8.out))) (zN (by repeat (first | (with_reducible first | exact HB.out | apply zA | apply zB | apply zC) | exact HB.out)))); have n5_ := zK (zL (by repeat (first | (with_reducible first | exact HB.out | apply zA | apply zB | apply zC) | exact HB.out)) hb); clear HO_6; clear HO_8; clear HO_9; clear HO_10; clear HB; have HO_6 := n0_; have HO_8 := n1_; have HO_9 := n2_; have HO_10 := n3_; have HO696 := n4_; have HB := n5_; clear n0_ n1_ n2_ n3_ n4_ n5_; (try clear hb); (try clear hb2); (try clear hk); (try clear hi); (try clear ho0); obtain ⟨Ao42, co42, eo42⟩ := Kd.R_slice HO696.out; subst eo42) | ((with_reducible refine gate_callee (f := 18) rfl ?_); refine goesL_ (some 55) rfl rfl Try.func18 (by kernel_rfl) rfl #[.slice Ao22 t683.length co22, .slice Ao42 t694.length co42] rfl (by (try simp only [z6, z7, z8]); first | done | rfl | (simp only [z4, z5]; rfl)) ?_; (with_reducible refine (laws_eqInstrS.calls kj12 _ _ t683 _ _ t694 true _ ?side1 ?side2 ?side3 ?side4 A33.out).mono ?_); (case side1 => repeat (first | exact (Kd.R_reads' HO_8.out).2.2 | (with_reducible refine Kd.C_alloc ?_ _) | (with_reducible refine Kd.C_drewN ?_ _) | (with_reducible refine Kd.C_drew ?_))); (case side2 => exact (Kd.R_reads' HO_8.out).2.1); (case side3 => repeat (first | exact (Kd.R_reads' HO696.out).2.2 | (with_reducible refine Kd.C_alloc ?_ _) | (with_reducible refine Kd.C_drewN ?_ _) | (with_reducible refine Kd.C_drew ?_))); (case side4 => exact (Kd.R_reads' HO696.out).2.1); rintro e w43 ⟨rfl, hb⟩; refine ⟨_, rfl, ?_⟩; have n0_ := zK (Kd.V_below (by (with_reducible repeat (first | apply Kd.V_alloc | apply Kd.V_drewN | apply Kd.V_drew)); exact HO_6.out) hb); have n1_ := zK (Kd.R_below (by (with_reducible repeat (first | apply Kd.R_alloc | apply Kd.R_drewN | apply Kd.R_drew)); exact HO_8.out) hb); have n2_ := zK (Kd.R_below (by (with_reducible repeat (first | apply Kd.R_alloc | apply Kd.R_drewN | apply Kd.R_drew)); exact HO_9.out) hb); have n3_ := zK (Kd.R_below (by (with_reducible repeat (first | apply Kd.R_alloc | apply Kd.R_drewN | apply Kd.R_drew)); exact HO_10.out) hb); have n4_ := zK (Kd.R_below (by (with_reducible repeat (first | apply Kd.R_alloc | apply Kd.R_drewN | apply Kd.R_drew)); exact HO696.out) hb); have n5_ := zK (zL (by repeat (first | (with_reducible first | exact HB.out | apply zA | apply zB | apply zC) | exact HB.out)) hb); clear HO_6; clear HO_8; clear HO_9; clear HO_10; clear HO696; clear HB; have HO_6 := n0_; have HO_8 := n1_; have HO_9 := n2_; have HO_10 := n3_; have HO696 := n4_; have HB := n5_; clear n0_ n1_ n2_ n3_ n4_ n5_; (try clear hb); (try clear hb2); (try clear hk); (try clear hi)) | ((with_reducible refine gate_callee (f := 33) rfl ?_); refine goesL_ (some 59) rfl rfl Try.func33 (by kernel_rfl) rfl #[.slice A1 l1.length c1] rfl (by (try simp only [z6, z7, z8]); first | done | rfl | (simp only [z4, z5]; rfl)) ?_; (with_reducible refine (laws_toIntS.calls kj12 _ _ l1 t698 _ ?side1 ?side2 A35.out).mono ?_); (case side1 => repeat (first | exact (Kd.C_below HR1.out HB.out) | (with_reducible refine Kd.C_alloc ?_ _) | (with_reducible refine Kd.C_drewN ?_ _) | (with_reducible refine Kd.C_drew ?_))); (case side2 => exact HC1.out); rintro e w44 ⟨v699, rfl, ho0, hb⟩; refine ⟨_, rfl, ?_⟩; have n0_ := zK (Kd.V_elder' (by (with_reducible repeat (first | apply Kd.V_alloc | apply Kd.V_drewN | apply Kd.V_drew)); exact HO_6.out) (Kd.R_base ho0) hb); have n1_ := zK (Kd.R_below (by (with_reducible repeat (first | apply Kd.R_alloc | apply Kd.R_drewN | apply Kd.R_drew)); exact HO_8.out) hb); have n2_ := zK (Kd.R_elder' (by (with_reducible repeat (first | apply Kd.R_alloc | apply Kd.R_drewN | apply Kd.R_drew)); exact HO_9.out) (Kd.R_base ho0) hb); have n3_ := zK (Kd.R_elder' (by (with_reducible repeat (first | apply Kd.R_alloc | apply Kd.R_drewN | apply Kd.R_drew)); exact HO_10.out) (Kd.R_base ho0) hb); have n4_ := zK (Kd.R_below (by (with_reducible repeat (first | apply Kd.R_alloc | apply Kd.R_drewN | apply Kd.R_drew)); exact HO696.out) hb); have n5_ := zK (Kd.R_lower (Kd.R_new' (Kd.R_new' ho0 (Kd.R_lt (by (with_reducible repeat (first | apply Kd.R_alloc | apply Kd.R_drewN | apply Kd.R_drew)); exact HO_9.out))) (Kd.R_lt (by (with_reducible repeat (first | apply Kd.R_alloc | apply Kd.R_drewN | apply Kd.R_drew)); exact HO_10.out))) (zN (by repeat (first | (with_reducible first | exact HB.out | apply zA | apply zB | apply zC) | exact HB.out)))); have n6_ := zK (zL (by repeat (first | (with_reducible first | exact HB.out | apply zA | apply zB | apply zC) | exact HB.out)) hb); clear HO_6; clear HO_8; clear HO_9; clear HO_10; clear HO696; clear HB; have HO_6 := n0_; have HO_8 := n1_; have HO_9 := n2_; have HO_10 := n3_; have HO696 := n4_; have HO700 := n5_; have HB := n6_; clear n0_ n1_ n2_ n3_ n4_ n5_ n6_; (try clear hb); (try clear hb2); (try clear hk); (try clear hi); (try clear ho0); obtain ⟨Ao45, co45, eo45⟩ := Kd.R_slice HO700.out; subst eo45) | ((with_reducible refine gate_callee (f := 36) rfl ?_); refine goesL_ (some 60) rfl rfl Try.func36 (by kernel_rfl) rfl #[.slice Ao23 t686.length co23, .slice Ao45 t698.length co45] rfl (by (try simp only [z6, z7, z8]); first | done | rfl | (simp only [z4, z5]; rfl)) ?_; (with_reducible refine (laws_eqIntS.calls kj12 _ _ t686 _ _ t698 true _ ?side1 ?side2 ?side3 ?side4 A36.out).mono ?_); (case side1 => repeat (first | exact (Kd.R_reads' HO_9.out).2.2 | (with_reducible refine Kd.C_alloc ?_ _) | (with_reducible refine Kd.C_drewN ?_ _) | (with_reducible refine Kd.C_drew ?_))); (case side2 => exact (Kd.R_reads' HO_9.out).2.1); (case side3 => repeat (first | exact (Kd.R_reads' HO700.out).2.2 | (with_reducible refine Kd.C_alloc ?_ _) | (with_reducible refine Kd.C_drewN ?_ _) | (with_reducible refine Kd.C_drew ?_))); (case side4 => exact (Kd.R_reads' HO700.out).2.1); rintro e w' ⟨rfl, ⟨nd, rfl⟩⟩; refine ⟨_, rfl, ?_⟩) | ((with_reducible refine gate_callee (f := 19) rfl ?_); refine goesL_ (some 64) rfl rfl Try.func19 (by kernel_rfl) rfl #[.slice Ao22 t683.length co22, .int .i64 1] rfl (by (try simp only [z6, z7, z8]); first | done | rfl | (simp only [z4, z5]; rfl)) ?_; (with_reducible refine (laws_markInstrS.calls kj12 (fun k_ => some k_ = (.slice Ao22 t683.length co22 : Value).ownBlock) (.slice Ao22 t683.length co22) t683 1 t702 t703 w _ ?side1 ?side2 A38.out).mono ?_); (case side1 => repeat (first | (with_reducible first | exact HB.out | apply zA | apply zB | apply zC) | exact HB.out)); (case side2 => exact Kd.R_tight rfl HO_8.out); rintro e w46 ⟨rfl, hy0, hb, hkp⟩; refine ⟨_, rfl, ?_⟩; have n0_ := zK (Kd.V_mono (ok' := fun k_ => some k_ ≠ (.slice Ao22 t683.length co22 : Value).ownBlock ∧ some k_ ≠ (.slice Ao23 t686.length co23 : Value).ownBlock ∧ some k_ ≠ (v691 : Value).ownBlock ∧ some k_ ≠ (.slice Ao42 t694.length co42 : Value).ownBlock ∧ some k_ ≠ (.slice Ao45 t698.length co45 : Value).ownBlock) (Kd.V_keptB (HO_6.out) hkp (fun k_ hk_ hs_ => (hk_.1.1.1) hs_)) (fun k_ hk_ => ⟨hk_.1.1.1.1, hk_.1.1.1.2.1, hk_.1.1.1.2.2, hk_.1.1.2, hk_.1.2⟩)); have n1_ := zK (Kd.R_reok rfl hy0 (fun k_ e_ => HO_8.out.1 k_ e_)); have n2_ := zK (Kd.R_mono (ok' := fun k_ => some k_ ≠ (v691 : Value).ownBlock ∧ some k_ ≠ (.slice Ao45 t698.length co45 : Value).ownBlock) (Kd.R_keptB ((Kd.R_apart' HO_9.out (Kd.R_typed HO_8.out) (by decide))) hkp (fun k_ hk_ hs_ => (hk_.2) hs_)) (fun k_ hk_ => ⟨hk_.1.1.1, hk_.1.1.2⟩)); have n3_ := zK (Kd.R_mono (ok' := fun k_ => some k_ ≠ (.slice Ao23 t686.length co23 : Value).ownBlock ∧ some k_ ≠ (.slice Ao45 t698.length co45 : Value).ownBlock) (Kd.R_keptB ((Kd.R_apart' HO_10.out (Kd.R_typed HO_8.out) (by decide))) hkp (fun k_ hk_ hs_ => (hk_.2) hs_)) (fun k_ hk_ => ⟨hk_.1.1.1, hk_.1.1.2⟩)); have n4_ := zK (Kd.R_mono (ok' := fun k_ => some k_ ≠ (.slice Ao22 t683.length co22 : Value).ownBlock) (Kd.R_keptB (HO696.out) hkp (fun k_ hk_ hs_ => (hk_.2) hs_)) (fun k_ hk_ => hk_.1.2)); have n5_ := zK (Kd.R_mono (ok' := fun k_ => some k_ ≠ (.slice Ao23 t686.length co23 : Value).ownBlock ∧ some k_ ≠ (v691 : Value).ownBlock) (Kd.R_keptB ((Kd.R_apart' HO700.out (Kd.R_typed HO_8.out) (by decide))) hkp (fun k_ hk_ hs_ => (hk_.2) hs_)) (fun k_ hk_ => ⟨hk_.1.1.1.2, hk_.1.1.2⟩)); have n6_ := zK (hb); clear HO_6; clear HO_8; clear HO_9; clear HO_10; clear HO696; clear HO700; clear HB; have HO_6 := n0_; have HO_8 := n1_; have HO_9 := n2_; have HO_10 := n3_; have HO696 := n4_; have HO700 := n5_; have HB := n6_; clear n0_ n1_ n2_ n3_ n4_ n5_ n6_; (try clear hb); (try clear hkp); (try clear hy0)) | ((with_reducible refine gate_callee (f := 37) rfl ?_); refine goesL_ (some 67) rfl rfl Try.func37 (by kernel_rfl) rfl #[.slice Ao23 t686.length co23, .int .i64 t702] rfl (by (try simp only [z6, z7, z8]); first | done | rfl | (simp only [z4, z5]; rfl)) ?_; (with_reducible refine (laws_markIntS.calls kj12 (fun k_ => some k_ = (.slice Ao23 t686.length co23 : Value).ownBlock) (.slice Ao23 t686.length co23) t686 t702 t704 t705 w _ ?side1 ?side2 A39.out).mono ?_); (case side1 => repeat (first | (with_reducible first | exact HB.out | apply zA | apply zB | apply zC) | exact HB.out)); (case side2 => exact Kd.R_tight rfl HO_9.out); rintro e w47 ⟨rfl, hy0, hb, hkp⟩; refine ⟨_, rfl, ?_⟩; have n0_ := zK (Kd.V_mono (ok' := fun k_ => some k_ ≠ (.slice Ao22 t683.length co22 : Value).ownBlock ∧ some k_ ≠ (.slice Ao23 t686.length co23 : Value).ownBlock ∧ some k_ ≠ (v691 : Value).ownBlock ∧ some k_ ≠ (.slice Ao42 t694.length co42 : Value).ownBlock ∧ some k_ ≠ (.slice Ao45 t698.length co45 : Value).ownBlock) (Kd.V_keptB (HO_6.out) hkp (fun k_ hk_ hs_ => (hk_.2.1) hs_)) (fun k_ hk_ => ⟨hk_.1.1, hk_.1.2.1, hk_.1.2.2.1, hk_.1.2.2.2.1, hk_.1.2.2.2.2⟩)); have n1_ := zK (Kd.R_mono (ok' := fun k_ => some k_ ≠ (.slice Ao42 t694.length co42 : Value).ownBlock) (Kd.R_keptB ((Kd.R_apart' HO_8.out (Kd.R_typed HO_9.out) (by decide))) hkp (fun k_ hk_ hs_ => (hk_.2) hs_)) (fun k_ hk_ => hk_.1.1.2)); have n2_ := zK (Kd.R_reok rfl hy0 (fun k_ e_ => HO_9.out.1 k_ e_)); have n3_ := zK (Kd.R_mono (ok' := fun k_ => some k_ ≠ (.slice Ao23 t686.length co23 : Value).ownBlock ∧ some k_ ≠ (.slice Ao45 t698.length co45 : Value).ownBlock) (Kd.R_keptB (HO_10.out) hkp (fun k_ hk_ hs_ => (hk_.1) hs_)) (fun k_ hk_ => ⟨hk_.1.1, hk_.1.2⟩)); have n4_ := zK (Kd.R_mono (ok' := fun k_ => some k_ ≠ (.slice Ao22 t683.length co22 : Value).ownBlock) (Kd.R_keptB ((Kd.R_apart' HO696.out (Kd.R_typed HO_9.out) (by decide))) hkp (fun k_ hk_ hs_ => (hk_.2) hs_)) (fun k_ hk_ => hk_.1.1)); have n5_ := zK (Kd.R_mono (ok' := fun k_ => some k_ ≠ (.slice Ao23 t686.length co23 : Value).ownBlock ∧ some k_ ≠ (v691 : Value).ownBlock) (Kd.R_keptB (HO700.out) hkp (fun k_ hk_ hs_ => (hk_.1) hs_)) (fun k_ hk_ => ⟨hk_.1.1, hk_.1.2⟩)); have n6_ := zK (hb); clear HO_6; clear HO_8; clear HO_9; clear HO_10; clear HO696; clear HO700; clear HB; have HO_6 := n0_; have HO_8 := n1_; have HO_9 := n2_; have HO_10 := n3_; have HO696 := n4_; have HO700 := n5_; have HB := n6_; clear n0_ n1_ n2_ n3_ n4_ n5_ n6_; (try clear hb); (try clear hkp); (try clear hy0)))
        (try simp only [Act.put, z1, z2, z3])
        go_cut [80] (fun v80 wc => ∃ (kq : Nat) (x80_39 : Bool), v80 = .bool x80_39 ∧ Aside0 (laws_FnExactLiveBefore.j1 kq l0 l1 t679 t682 t689 x80_39 = some r) ∧ Aside0 (kq ≤ kj12) ∧ Aside0 (Kd.V (Kd.int .i64) 3 wc w.heap.size (fun k_ => some k_ ≠ (v691 : Value).ownBlock) v680 t679) ∧ Aside0 (Kd.R (Kd.int .i64) 3 wc w.heap.size (fun _ => True) v691 t689) ∧ Aside0 (Below w.heap.size w wc))
        case first =>
         have H := HC40.out
         clear HC40
         by_cases c48 : t704 < 0
         ·rw [if_pos c48] at H
          have c48b0 : decide (t704 < 0) = true := decide_eq_true c48
          clear c48
          (first | rw [c48b0] | (simp only [i64_w, i32_w]; rw [c48b0]) | skip)
          have H' := zK H
          clear H
          go_wp2
          go_meet
          case rel => exact ⟨_, (true), (by first | rfl | (simp; done) | (simp [*]; done)), H', ⟨by have := HJ12.out; first | omega | exact Nat.le_refl _⟩, ⟨by (with_reducible repeat (first | apply Kd.V_alloc | apply Kd.V_drewN | apply Kd.V_drew)); exact Kd.V_mono HO_6.out (fun _ hk => hk.2.2.1)⟩, ⟨by (with_reducible repeat (first | apply Kd.R_alloc | apply Kd.R_drewN | apply Kd.R_drew)); exact Kd.R_mono HO_10.out (fun _ hk => trivial)⟩, ⟨by repeat (first | (with_reducible first | exact HB.out | apply zA | apply zB | apply zC) | exact HB.out)⟩⟩
         ·rw [if_neg c48] at H
          have c48b0 : decide (t704 < 0) = false := decide_eq_false c48
          clear c48
          (first | rw [c48b0] | (simp only [i64_w, i32_w]; rw [c48b0]) | skip)
          replace H := Option.bind_eq_some_iff.mp H
          obtain ⟨t706, A490, H⟩ := H
          replace H : (if t706 = true then (laws_FnExactLiveBefore.j1 kj12 l0 l1 t679 t682 t689 (t690 != t682)) else (laws_FnExactLiveBefore.j1 kj12 l0 l1 t679 t682 t689 true)) = some r := H
          have A49 := zK A490
          clear A490
          by_cases c50 : t706 = true
          ·subst c50
           have H1 : (laws_FnExactLiveBefore.j1 kj12 l0 l1 t679 t682 t689 (t690 != t682)) = some r := by rw [if_pos rfl] at H; exact H
           clear H
           have H := H1
           clear H1
           have H' := zK H
           clear H
           obtain ⟨Ao51, co51, eo51⟩ := Kd.R_slice HO_10.out
           subst eo51
           obtain ⟨Ao52, co52, eo52⟩ := Kd.V_slice HO_6.out
           subst eo52
           go_wp2_with (first | (go_at_call 36; (with_reducible refine (laws_eqIntS.calls kj12 _ _ t689 _ _ t679 true _ ?side1 ?side2 ?side3 ?side4 A49.out).mono ?_); (case side1 => repeat (first | exact (Kd.R_reads' HO_10.out).2.2 | (with_reducible refine Kd.C_alloc ?_ _) | (with_reducible refine Kd.C_drewN ?_ _) | (with_reducible refine Kd.C_drew ?_))); (case side2 => exact (Kd.R_reads' HO_10.out).2.1); (case side3 => repeat (first | exact (Kd.V_reads' HO_6.out).2.2 | (with_reducible refine Kd.C_alloc ?_ _) | (with_reducible refine Kd.C_drewN ?_ _) | (with_reducible refine Kd.C_drew ?_))); (case side4 => exact (Kd.V_reads' HO_6.out).2.1); rintro e w' ⟨rfl, ⟨nd, rfl⟩⟩))
           go_meet
           case rel => exact ⟨_, ((t690 != t682)), (by first | rfl | (simp; done) | (simp [*]; done)), H', ⟨by have := HJ12.out; first | omega | exact Nat.le_refl _⟩, ⟨by (with_reducible repeat (first | apply Kd.V_alloc | apply Kd.V_drewN | apply Kd.V_drew)); exact Kd.V_mono HO_6.out (fun _ hk => hk.2.2.1)⟩, ⟨by (with_reducible repeat (first | apply Kd.R_alloc | apply Kd.R_drewN | apply Kd.R_drew)); exact Kd.R_mono HO_10.out (fun _ hk => trivial)⟩, ⟨by repeat (first | (with_reducible first | exact HB.out | apply zA | apply zB | apply zC) | exact HB.out)⟩⟩
          ·replace c50 := Bool.eq_false_iff.mpr c50
           subst c50
           have H1 : (laws_FnExactLiveBefore.j1 kj12 l0 l1 t679 t682 t689 true) = some r := by rw [if_neg (show ¬ (false = true) by decide)] at H; exact H
           clear H
           have H := H1
           clear H1
           have H' := zK H
           clear H
           obtain ⟨Ao53, co53, eo53⟩ := Kd.R_slice HO_10.out
           subst eo53
           obtain ⟨Ao54, co54, eo54⟩ := Kd.V_slice HO_6.out
           subst eo54
           go_wp2_with (first | (go_at_call 36; (with_reducible refine (laws_eqIntS.calls kj12 _ _ t689 _ _ t679 false _ ?side1 ?side2 ?side3 ?side4 A49.out).mono ?_); (case side1 => repeat (first | exact (Kd.R_reads' HO_10.out).2.2 | (with_reducible refine Kd.C_alloc ?_ _) | (with_reducible refine Kd.C_drewN ?_ _) | (with_reducible refine Kd.C_drew ?_))); (case side2 => exact (Kd.R_reads' HO_10.out).2.1); (case side3 => repeat (first | exact (Kd.V_reads' HO_6.out).2.2 | (with_reducible refine Kd.C_alloc ?_ _) | (with_reducible refine Kd.C_drewN ?_ _) | (with_reducible refine Kd.C_drew ?_))); (case side4 => exact (Kd.V_reads' HO_6.out).2.1); rintro e w' ⟨rfl, ⟨nd, rfl⟩⟩))
           go_meet
           case rel => exact ⟨_, (true), (by first | rfl | (simp; done) | (simp [*]; done)), H', ⟨by have := HJ12.out; first | omega | exact Nat.le_refl _⟩, ⟨by (with_reducible repeat (first | apply Kd.V_alloc | apply Kd.V_drewN | apply Kd.V_drew)); exact Kd.V_mono HO_6.out (fun _ hk => hk.2.2.1)⟩, ⟨by (with_reducible repeat (first | apply Kd.R_alloc | apply Kd.R_drewN | apply Kd.R_drew)); exact Kd.R_mono HO_10.out (fun _ hk => trivial)⟩, ⟨by repeat (first | (with_reducible first | exact HB.out | apply zA | apply zB | apply zC) | exact HB.out)⟩⟩
        case rest =>
         clear HC40
         try clear c1
         try clear c2
         try clear p2
         try clear c3
         try clear c3b0
         try clear c3b1
         try clear c4
         try clear c5
         try clear c5b0
         try clear c11
         try clear c14
         try clear c16
         try clear c18
         try clear c19
         try clear c26
         try clear c31
         try clear c33
         try clear c34
         try clear c36
         try clear c37
         try clear c48
         try clear c48b0
         try clear c50
         try clear c51
         try clear c52
         try clear p2
         obtain ⟨kq, x80_39, rfl, HA, HJ39, HO_6, HO_10, HB⟩ := hcut
         cases kq with
         | zero => exact absurd HA.out (by simp [laws_FnExactLiveBefore.j1])
         | succ kj39 =>
          have H := HA.out
          clear HA
          simp only [laws_FnExactLiveBefore.j1] at H
          by_cases c55 : x80_39 = true
          ·subst c55
           have H1 : (some false) = some r := by rw [if_pos rfl] at H; exact H
           clear H
           have H := H1
           clear H1
           exact absurd ((Option.some.inj H).trans hr) (by decide)
          ·replace c55 := Bool.eq_false_iff.mpr c55
           subst c55
           have H1 : ((laws_markIntS.f kj39 t689 1).bind fun bt707 => ((laws_heldIntS.f kj39 bt707.2 1).bind fun t709 => (if t709 < 0 then (some false) else (if t709 = bt707.1 then ((laws_toInstrS.f kj39 l0).bind fun t710 => ((laws_toIntS.f kj39 l1).bind fun t713 => ((impl_LiveBefore.f kj39 t710 t713).bind fun bt716 => ((laws_eqIntS.f kj39 bt716.1 t679).bind fun t720 => (if t720 = true then (laws_FnExactLiveBefore.j2 kj39 bt707.2 bt707.1 (bt716.2 != t682)) else (laws_FnExactLiveBefore.j2 kj39 bt707.2 bt707.1 true)))))) else (some false))))) = some r := by rw [if_neg (show ¬ (false = true) by decide)] at H; exact H
           clear H
           have H := H1
           clear H1
           replace H := Option.bind_eq_some_iff.mp H
           obtain ⟨⟨t707, t708⟩, A560, H⟩ := H
           replace H : ((laws_heldIntS.f kj39 t708 1).bind fun t709 => (if t709 < 0 then (some false) else (if t709 = t707 then ((laws_toInstrS.f kj39 l0).bind fun t710 => ((laws_toIntS.f kj39 l1).bind fun t713 => ((impl_LiveBefore.f kj39 t710 t713).bind fun bt716 => ((laws_eqIntS.f kj39 bt716.1 t679).bind fun t720 => (if t720 = true then (laws_FnExactLiveBefore.j2 kj39 t708 t707 (bt716.2 != t682)) else (laws_FnExactLiveBefore.j2 kj39 t708 t707 true)))))) else (some false)))) = some r := H
           have A56 := zK A560
           clear A560
           replace H := Option.bind_eq_some_iff.mp H
           obtain ⟨t709, A570, H⟩ := H
           replace H : (if t709 < 0 then (some false) else (if t709 = t707 then ((laws_toInstrS.f kj39 l0).bind fun t710 => ((laws_toIntS.f kj39 l1).bind fun t713 => ((impl_LiveBefore.f kj39 t710 t713).bind fun bt716 => ((laws_eqIntS.f kj39 bt716.1 t679).bind fun t720 => (if t720 = true then (laws_FnExactLiveBefore.j2 kj39 t708 t707 (bt716.2 != t682)) else (laws_FnExactLiveBefore.j2 kj39 t708 t707 true)))))) else (some false))) = some r := H
           have A57 := zK A570
           clear A570
           by_cases c58 : t709 < 0
           ·rw [if_pos c58] at H
            have c58b0 : decide (t709 < 0) = true := decide_eq_true c58
            clear c58
            exact absurd ((Option.some.inj H).trans hr) (by decide)
           ·rw [if_neg c58] at H
            have c58b0 : decide (t709 < 0) = false := decide_eq_false c58
            clear c58
            by_cases c61 : t709 = t707
            ·rw [if_pos c61] at H
             have c61b0 : (t709 == t707) = true := beq_iff_eq.mpr c61
             have c61b1 : (t709 != t707) = false := bne_eq_false_iff_eq.mpr c61
             clear c61
             replace H := Option.bind_eq_some_iff.mp H
             obtain ⟨t710, A620, H⟩ := H
             replace H : ((laws_toIntS.f kj39 l1).bind fun t713 => ((impl_LiveBefore.f kj39 t710 t713).bind fun bt716 => ((laws_eqIntS.f kj39 bt716.1 t679).bind fun t720 => (if t720 = true then (laws_FnExactLiveBefore.j2 kj39 t708 t707 (bt716.2 != t682)) else (laws_FnExactLiveBefore.j2 kj39 t708 t707 true))))) = some r := H
             have A62 := zK A620
             clear A620
             replace H := Option.bind_eq_some_iff.mp H
             obtain ⟨t713, A630, H⟩ := H
             replace H : ((impl_LiveBefore.f kj39 t710 t713).bind fun bt716 => ((laws_eqIntS.f kj39 bt716.1 t679).bind fun t720 => (if t720 = true then (laws_FnExactLiveBefore.j2 kj39 t708 t707 (bt716.2 != t682)) else (laws_FnExactLiveBefore.j2 kj39 t708 t707 true)))) = some r := H
             have A63 := zK A630
             clear A630
             replace H := Option.bind_eq_some_iff.mp H
             obtain ⟨⟨t716, t717⟩, A640, H⟩ := H
             replace H : ((laws_eqIntS.f kj39 t716 t679).bind fun t720 => (if t720 = true then (laws_FnExactLiveBefore.j2 kj39 t708 t707 (t717 != t682)) else (laws_FnExactLiveBefore.j2 kj39 t708 t707 true))) = some r := H
             have A64 := zK A640
             clear A640
             have HC65 := zK H
             clear H
             obtain ⟨Ao66, co66, eo66⟩ := Kd.R_slice HO_10.out
             subst eo66
             go_upto_region 31 with (first | ((with_reducible refine gate_callee (f := 37) rfl ?_); refine goesL_ (some 83) rfl rfl Try.func37 (by kernel_rfl) rfl #[.slice Ao66 t689.length co66, .int .i64 1] rfl (by (try simp only [z6, z7, z8]); first | done | rfl | (simp only [z4, z5]; rfl)) ?_; (with_reducible refine (laws_markIntS.calls kj39 (fun k_ => some k_ = (.slice Ao66 t689.length co66 : Value).ownBlock) (.slice Ao66 t689.length co66) t689 1 t707 t708 w _ ?side1 ?side2 A56.out).mono ?_); (case side1 => repeat (first | (with_reducible first | exact HB.out | apply zA | apply zB | apply zC) | exact HB.out)); (case side2 => exact Kd.R_tight rfl HO_10.out); rintro e w67 ⟨rfl, hy0, hb, hkp⟩; refine ⟨_, rfl, ?_⟩; have n0_ := zK (Kd.V_mono (ok' := fun k_ => some k_ ≠ (.slice Ao66 t689.length co66 : Value).ownBlock) (Kd.V_keptB (HO_6.out) hkp (fun k_ hk_ hs_ => (hk_) hs_)) (fun k_ hk_ => hk_.1)); have n1_ := zK (Kd.R_reok rfl hy0 (fun k_ e_ => HO_10.out.1 k_ e_)); have n2_ := zK (hb); clear HO_6; clear HO_10; clear HB; have HO_6 := n0_; have HO_10 := n1_; have HB := n2_; clear n0_ n1_ n2_; (try clear hb); (try clear hkp); (try clear hy0)) | ((with_reducible refine gate_callee (f := 46) rfl ?_); refine goesL_ (some 86) rfl rfl Try.func46 (by kernel_rfl) rfl #[.slice Ao66 t708.length co66, .int .i64 1] rfl (by (try simp only [z6, z7, z8]); first | done | (rw [show t708.length = t689.length from (Kd.R_reads' HO_10.out).1.symm] <;> rfl) | rfl | (simp only [z4, z5]; rfl)) ?_; (with_reducible refine (laws_heldIntS.calls kj39 _ _ t708 1 t709 _ ?side1 ?side2 A57.out).mono ?_); (case side1 => repeat (first | exact (Kd.R_reads' HO_10.out).2.2 | (with_reducible refine Kd.C_alloc ?_ _) | (with_reducible refine Kd.C_drewN ?_ _) | (with_reducible refine Kd.C_drew ?_))); (case side2 => rw [show t708.length = t689.length from (Kd.R_reads' HO_10.out).1.symm]; exact (Kd.R_reads' HO_10.out).2.1); rintro e w' ⟨rfl, ⟨nd, rfl⟩⟩; refine ⟨_, rfl, ?_⟩) | ((with_reducible refine gate_callee (f := 16) rfl ?_); refine goesL_ (some 94) rfl rfl Try.func16 (by kernel_rfl) rfl #[.slice A0 l0.length c0] rfl (by (try simp only [z6, z7, z8]); first | done | rfl | (simp only [z4, z5]; rfl)) ?_; (with_reducible refine (laws_toInstrS.calls kj39 _ _ l0 t710 _ ?side1 ?side2 A62.out).mono ?_); (case side1 => repeat (first | exact (Kd.C_below HR0.out (by repeat (first | (with_reducible first | exact HB.out | apply zA | apply zB | apply zC) | exact HB.out))) | (with_reducible refine Kd.C_alloc ?_ _) | (with_reducible refine Kd.C_drewN ?_ _) | (with_reducible refine Kd.C_drew ?_))); (case side2 => exact HC0.out); rintro e w68 ⟨v711, rfl, ho0, hb⟩; refine ⟨_, rfl, ?_⟩; have n0_ := zK (Kd.V_elder' (by (with_reducible repeat (first | apply Kd.V_alloc | apply Kd.V_drewN | apply Kd.V_drew)); exact HO_6.out) (Kd.R_base ho0) hb); have n1_ := zK (Kd.R_below (by (with_reducible repeat (first | apply Kd.R_alloc | apply Kd.R_drewN | apply Kd.R_drew)); exact HO_10.out) hb); have n2_ := zK (Kd.R_lower ho0 (zN (by repeat (first | (with_reducible first | exact HB.out | apply zA | apply zB | apply zC) | exact HB.out)))); have n3_ := zK (zL (by repeat (first | (with_reducible first | exact HB.out | apply zA | apply zB | apply zC) | exact HB.out)) hb); clear HO_6; clear HO_10; clear HB; have HO_6 := n0_; have HO_10 := n1_; have HO712 := n2_; have HB := n3_; clear n0_ n1_ n2_ n3_; (try clear hb); (try clear hb2); (try clear hk); (try clear hi); (try clear ho0)) | ((with_reducible refine gate_callee (f := 33) rfl ?_); refine goesL_ (some 96) rfl rfl Try.func33 (by kernel_rfl) rfl #[.slice A1 l1.length c1] rfl (by (try simp only [z6, z7, z8]); first | done | rfl | (simp only [z4, z5]; rfl)) ?_; (with_reducible refine (laws_toIntS.calls kj39 _ _ l1 t713 _ ?side1 ?side2 A63.out).mono ?_); (case side1 => repeat (first | exact (Kd.C_below HR1.out HB.out) | (with_reducible refine Kd.C_alloc ?_ _) | (with_reducible refine Kd.C_drewN ?_ _) | (with_reducible refine Kd.C_drew ?_))); (case side2 => exact HC1.out); rintro e w69 ⟨v714, rfl, ho0, hb⟩; refine ⟨_, rfl, ?_⟩; have n0_ := zK (Kd.V_elder' (by (with_reducible repeat (first | apply Kd.V_alloc | apply Kd.V_drewN | apply Kd.V_drew)); exact HO_6.out) (Kd.R_base ho0) hb); have n1_ := zK (Kd.R_elder' (by (with_reducible repeat (first | apply Kd.R_alloc | apply Kd.R_drewN | apply Kd.R_drew)); exact HO_10.out) (Kd.R_base ho0) hb); have n2_ := zK (Kd.R_below (by (with_reducible repeat (first | apply Kd.R_alloc | apply Kd.R_drewN | apply Kd.R_drew)); exact HO712.out) hb); have n3_ := zK (Kd.R_lower (Kd.R_new' ho0 (Kd.R_lt (by (with_reducible repeat (first | apply Kd.R_alloc | apply Kd.R_drewN | apply Kd.R_drew)); exact HO_10.out))) (zN (by repeat (first | (with_reducible first | exact HB.out | apply zA | apply zB | apply zC) | exact HB.out)))); have n4_ := zK (zL (by repeat (first | (with_reducible first | exact HB.out | apply zA | apply zB | apply zC) | exact HB.out)) hb); clear HO_6; clear HO_10; clear HO712; clear HB; have HO_6 := n0_; have HO_10 := n1_; have HO712 := n2_; have HO715 := n3_; have HB := n4_; clear n0_ n1_ n2_ n3_ n4_; (try clear hb); (try clear hb2); (try clear hk); (try clear hi); (try clear ho0); obtain ⟨Ao70, co70, eo70⟩ := Kd.R_slice HO712.out; subst eo70; obtain ⟨Ao71, co71, eo71⟩ := Kd.R_slice HO715.out; subst eo71) | ((with_reducible refine gate_callee (f := 52) rfl ?_); refine goesL_ (some 97) rfl rfl Try.func52 (by kernel_rfl) rfl #[.slice Ao70 t710.length co70, .slice Ao71 t713.length co71] rfl (by (try simp only [z6, z7, z8]); first | done | rfl | (simp only [z4, z5]; rfl)) ?_; (with_reducible refine (impl_LiveBefore.calls kj39 _ _ t710 _ _ t713 t716 t717 _ ?side1 ?side2 ?side3 ?side4 A64.out).mono ?_); (case side1 => repeat (first | exact (Kd.R_reads' HO712.out).2.2 | (with_reducible refine Kd.C_alloc ?_ _) | (with_reducible refine Kd.C_drewN ?_ _) | (with_reducible refine Kd.C_drew ?_))); (case side2 => exact (Kd.R_reads' HO712.out).2.1); (case side3 => repeat (first | exact (Kd.R_reads' HO715.out).2.2 | (with_reducible refine Kd.C_alloc ?_ _) | (with_reducible refine Kd.C_drewN ?_ _) | (with_reducible refine Kd.C_drew ?_))); (case side4 => exact (Kd.R_reads' HO715.out).2.1); rintro e w72 ⟨v718, rfl, ho0, hb⟩; refine ⟨_, rfl, ?_⟩; have n0_ := zK (Kd.V_elder' (by (with_reducible repeat (first | apply Kd.V_alloc | apply Kd.V_drewN | apply Kd.V_drew)); exact HO_6.out) (Kd.R_base ho0) hb); have n1_ := zK (Kd.R_elder' (by (with_reducible repeat (first | apply Kd.R_alloc | apply Kd.R_drewN | apply Kd.R_drew)); exact HO_10.out) (Kd.R_base ho0) hb); have n2_ := zK (Kd.R_below (by (with_reducible repeat (first | apply Kd.R_alloc | apply Kd.R_drewN | apply Kd.R_drew)); exact HO712.out) hb); have n3_ := zK (Kd.R_elder' (by (with_reducible repeat (first | apply Kd.R_alloc | apply Kd.R_drewN | apply Kd.R_drew)); exact HO715.out) (Kd.R_base ho0) hb); have n4_ := zK (Kd.R_lower (Kd.R_new' (Kd.R_new' ho0 (Kd.R_lt (by (with_reducible repeat (first | apply Kd.R_alloc | apply Kd.R_drewN | apply Kd.R_drew)); exact HO_10.out))) (Kd.R_lt (by (with_reducible repeat (first | apply Kd.R_alloc | apply Kd.R_drewN | apply Kd.R_drew)); exact HO715.out))) (zN (by repeat (first | (with_reducible first | exact HB.out | apply zA | apply zB | apply zC) | exact HB.out)))); have n5_ := zK (zL (by repeat (first | (with_reducible first | exact HB.out | apply zA | apply zB | apply zC) | exact HB.out)) hb); clear HO_6; clear HO_10; clear HO712; clear HO715; clear HB; have HO_6 := n0_; have HO_10 := n1_; have HO712 := n2_; have HO715 := n3_; have HO719 := n4_; have HB := n5_; clear n0_ n1_ n2_ n3_ n4_ n5_; (try clear hb); (try clear hb2); (try clear hk); (try clear hi); (try clear ho0)))
             (try simp only [Act.put, z1, z2, z3])
             go_cut [108] (fun v108 wc => ∃ (kq : Nat) (x108_64 : Bool), v108 = .bool x108_64 ∧ Aside0 (laws_FnExactLiveBefore.j2 kq t708 t707 x108_64 = some r) ∧ Aside0 (kq ≤ kj39) ∧ Aside0 (Kd.R (Kd.int .i64) 3 wc w.heap.size (fun _ => True) (.slice Ao66 t689.length co66) t708) ∧ Aside0 (Below w.heap.size w wc))
             case first =>
              have H := HC65.out
              clear HC65
              replace H := Option.bind_eq_some_iff.mp H
              obtain ⟨t720, A730, H⟩ := H
              replace H : (if t720 = true then (laws_FnExactLiveBefore.j2 kj39 t708 t707 (t717 != t682)) else (laws_FnExactLiveBefore.j2 kj39 t708 t707 true)) = some r := H
              have A73 := zK A730
              clear A730
              by_cases c74 : t720 = true
              ·subst c74
               have H1 : (laws_FnExactLiveBefore.j2 kj39 t708 t707 (t717 != t682)) = some r := by rw [if_pos rfl] at H; exact H
               clear H
               have H := H1
               clear H1
               have H' := zK H
               clear H
               obtain ⟨Ao75, co75, eo75⟩ := Kd.R_slice HO719.out
               subst eo75
               obtain ⟨Ao76, co76, eo76⟩ := Kd.V_slice HO_6.out
               subst eo76
               go_wp2_with (first | ((with_reducible refine gate_callee (f := 36) rfl ?_); refine goesL_ (some 102) rfl rfl Try.func36 (by kernel_rfl) rfl #[.slice Ao75 t716.length co75, .slice Ao76 t679.length co76] rfl (by (try simp only [z6, z7, z8]); first | done | rfl | (simp only [z4, z5]; rfl)) ?_; (with_reducible refine (laws_eqIntS.calls kj39 _ _ t716 _ _ t679 true _ ?side1 ?side2 ?side3 ?side4 A73.out).mono ?_); (case side1 => repeat (first | exact (Kd.R_reads' HO719.out).2.2 | (with_reducible refine Kd.C_alloc ?_ _) | (with_reducible refine Kd.C_drewN ?_ _) | (with_reducible refine Kd.C_drew ?_))); (case side2 => exact (Kd.R_reads' HO719.out).2.1); (case side3 => repeat (first | exact (Kd.V_reads' HO_6.out).2.2 | (with_reducible refine Kd.C_alloc ?_ _) | (with_reducible refine Kd.C_drewN ?_ _) | (with_reducible refine Kd.C_drew ?_))); (case side4 => exact (Kd.V_reads' HO_6.out).2.1); rintro e w' ⟨rfl, ⟨nd, rfl⟩⟩; refine ⟨_, rfl, ?_⟩))
               go_meet
               case rel => exact ⟨_, ((t717 != t682)), (by first | rfl | (simp; done) | (simp [*]; done)), H', ⟨by have := HJ12.out; have := HJ39.out; first | omega | exact Nat.le_refl _⟩, ⟨by (with_reducible repeat (first | apply Kd.R_alloc | apply Kd.R_drewN | apply Kd.R_drew)); exact Kd.R_mono HO_10.out (fun _ hk => trivial)⟩, ⟨by repeat (first | (with_reducible first | exact HB.out | apply zA | apply zB | apply zC) | exact HB.out)⟩⟩
              ·replace c74 := Bool.eq_false_iff.mpr c74
               subst c74
               have H1 : (laws_FnExactLiveBefore.j2 kj39 t708 t707 true) = some r := by rw [if_neg (show ¬ (false = true) by decide)] at H; exact H
               clear H
               have H := H1
               clear H1
               have H' := zK H
               clear H
               obtain ⟨Ao77, co77, eo77⟩ := Kd.R_slice HO719.out
               subst eo77
               obtain ⟨Ao78, co78, eo78⟩ := Kd.V_slice HO_6.out
               subst eo78
               go_wp2_with (first | ((with_reducible refine gate_callee (f := 36) rfl ?_); refine goesL_ (some 102) rfl rfl Try.func36 (by kernel_rfl) rfl #[.slice Ao77 t716.length co77, .slice Ao78 t679.length co78] rfl (by (try simp only [z6, z7, z8]); first | done | rfl | (simp only [z4, z5]; rfl)) ?_; (with_reducible refine (laws_eqIntS.calls kj39 _ _ t716 _ _ t679 false _ ?side1 ?side2 ?side3 ?side4 A73.out).mono ?_); (case side1 => repeat (first | exact (Kd.R_reads' HO719.out).2.2 | (with_reducible refine Kd.C_alloc ?_ _) | (with_reducible refine Kd.C_drewN ?_ _) | (with_reducible refine Kd.C_drew ?_))); (case side2 => exact (Kd.R_reads' HO719.out).2.1); (case side3 => repeat (first | exact (Kd.V_reads' HO_6.out).2.2 | (with_reducible refine Kd.C_alloc ?_ _) | (with_reducible refine Kd.C_drewN ?_ _) | (with_reducible refine Kd.C_drew ?_))); (case side4 => exact (Kd.V_reads' HO_6.out).2.1); rintro e w' ⟨rfl, ⟨nd, rfl⟩⟩; refine ⟨_, rfl, ?_⟩))
               go_meet
               case rel => exact ⟨_, (true), (by first | rfl | (simp; done) | (simp [*]; done)), H', ⟨by have := HJ12.out; have := HJ39.out; first | omega | exact Nat.le_refl _⟩, ⟨by (with_reducible repeat (first | apply Kd.R_alloc | apply Kd.R_drewN | apply Kd.R_drew)); exact Kd.R_mono HO_10.out (fun _ hk => trivial)⟩, ⟨by repeat (first | (with_reducible first | exact HB.out | apply zA | apply zB | apply zC) | exact HB.out)⟩⟩
             case rest =>
              clear HC65
              try clear c1
              try clear c2
              try clear p2
              try clear c3
              try clear c3b0
              try clear c3b1
              try clear c4
              try clear c5
              try clear c5b0
              try clear c6
              try clear c7
              try clear c11
              try clear c14
              try clear c16
              try clear c18
              try clear c19
              try clear c26
              try clear c31
              try clear c33
              try clear c34
              try clear c36
              try clear c37
              try clear c46
              try clear c48
              try clear c48b0
              try clear c50
              try clear c51
              try clear c52
              try clear c55
              try clear c58
              try clear c58b0
              try clear c61
              try clear c61b0
              try clear c61b1
              try clear c74
              try clear p2
              obtain ⟨kq, x108_64, rfl, HA, HJ64, HO_10, HB⟩ := hcut
              have hl10_64 := (Kd.R_reads' HO_10.out).1
              rw [hl10_64] at HO_10
              (try simp only [hl10_64])
              cases kq with
              | zero => exact absurd HA.out (by simp [laws_FnExactLiveBefore.j2])
              | succ kj64 =>
               have H := HA.out
               clear HA
               simp only [laws_FnExactLiveBefore.j2] at H
               by_cases c79 : x108_64 = true
               ·subst c79
                have H1 : (some false) = some r := by rw [if_pos rfl] at H; exact H
                clear H
                have H := H1
                clear H1
                exact absurd ((Option.some.inj H).trans hr) (by decide)
               ·replace c79 := Bool.eq_false_iff.mpr c79
                subst c79
                have H1 : ((laws_heldIntS.f kj64 t708 1).bind fun t721 => (if t721 < 0 then (some false) else (if t721 = t707 then (some true) else (some false)))) = some r := by rw [if_neg (show ¬ (false = true) by decide)] at H; exact H
                clear H
                have H := H1
                clear H1
                replace H := Option.bind_eq_some_iff.mp H
                obtain ⟨t721, A800, H⟩ := H
                replace H : (if t721 < 0 then (some false) else (if t721 = t707 then (some true) else (some false))) = some r := H
                have A80 := zK A800
                clear A800
                by_cases c81 : t721 < 0
                ·rw [if_pos c81] at H
                 have c81b0 : decide (t721 < 0) = true := decide_eq_true c81
                 clear c81
                 exact absurd ((Option.some.inj H).trans hr) (by decide)
                ·rw [if_neg c81] at H
                 have c81b0 : decide (t721 < 0) = false := decide_eq_false c81
                 clear c81
                 by_cases c82 : t721 = t707
                 ·rw [if_pos c82] at H
                  have c82b0 : (t721 == t707) = true := beq_iff_eq.mpr c82
                  have c82b1 : (t721 != t707) = false := bne_eq_false_iff_eq.mpr c82
                  clear c82
                  obtain rfl := Option.some.inj H
                  go_wp2_with (first | ((with_reducible refine gate_callee (f := 46) rfl ?_); refine goesL_ (some 111) rfl rfl Try.func46 (by kernel_rfl) rfl #[.slice Ao66 t708.length co66, .int .i64 1] rfl (by (try simp only [z6, z7, z8]); first | done | rfl | (simp only [z4, z5]; rfl)) ?_; (with_reducible refine (laws_heldIntS.calls kj64 _ _ t708 1 t721 _ ?side1 ?side2 A80.out).mono ?_); (case side1 => repeat (first | exact (Kd.R_reads' HO_10.out).2.2 | (with_reducible refine Kd.C_alloc ?_ _) | (with_reducible refine Kd.C_drewN ?_ _) | (with_reducible refine Kd.C_drew ?_))); (case side2 => exact (Kd.R_reads' HO_10.out).2.1); rintro e w' ⟨rfl, ⟨nd, rfl⟩⟩; refine ⟨_, rfl, ?_⟩))
                  go_ret
                  exact ⟨by first | rfl | (simp [errW_none, errW_some] <;> rfl) | (simp [*, errW_none, errW_some] <;> rfl), by repeat (first | (with_reducible first | exact HB.out | apply zA | apply zB | apply zC) | exact HB.out)⟩
                 ·rw [if_neg c82] at H
                  have c82b0 : (t721 == t707) = false := beq_eq_false_iff_ne.mpr c82
                  have c82b1 : (t721 != t707) = true := bne_iff_ne.mpr c82
                  exact absurd ((Option.some.inj H).trans hr) (by decide)
            ·rw [if_neg c61] at H
             have c61b0 : (t709 == t707) = false := beq_eq_false_iff_ne.mpr c61
             have c61b1 : (t709 != t707) = true := bne_iff_ne.mpr c61
             exact absurd ((Option.some.inj H).trans hr) (by decide)
       ·replace c37 := Bool.eq_false_iff.mpr c37
        subst c37
        have H1 : (some false) = some r := by rw [if_neg (show ¬ (false = true) by decide)] at H; exact H
        clear H
        have H := H1
        clear H1
        exact absurd ((Option.some.inj H).trans hr) (by decide)
      ·replace c34 := Bool.eq_false_iff.mpr c34
       subst c34
       have H1 : (some false) = some r := by rw [if_neg (show ¬ (false = true) by decide)] at H; exact H
       clear H
       have H := H1
       clear H1
       exact absurd ((Option.some.inj H).trans hr) (by decide)

end Go.Proofs.Ytecmlikhmkcdpaa.G
