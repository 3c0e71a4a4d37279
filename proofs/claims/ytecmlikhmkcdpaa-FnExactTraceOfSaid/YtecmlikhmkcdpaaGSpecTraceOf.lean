/- Contracts: spec_TraceOf, impl_isWord, impl_areRegs_c1, slices_IndexFunc_int_int_impl_areRegs_c1, slices_ContainsFunc_int_int_impl_areRegs_c1, impl_areRegs, impl_bit, impl_apply, impl_Instr_word. -/
import Derived.Test.YtecmlikhmkcdpaaGK
import Derived.Test.YtecmlikhmkcdpaaTW
import Derived.Test.YtecmlikhmkcdpaaGSpecCdGood
import Derived.Test.YtecmlikhmkcdpaaGSpecL1All
namespace Go.Proofs.Ytecmlikhmkcdpaa.G
open Go.RowKit Go.Proofs.YtecmlikhmkcdpaaW.PrintWords Go.Proofs.YtecmlikhmkcdpaaW.PrintLast Go.Proofs.YtecmlikhmkcdpaaW.PrintMore
attribute [local go_sem] max2_int min2_int max_two min_two max_three min_three max_four min_four   -- for this text's walks alone
set_option linter.unusedVariables false
set_option linter.unusedSimpArgs false

/-! ### spec_TraceOf: function 32 -/
mutual
def spec_TraceOf.j0 : Nat → List (S67) → List Int → Bool → Option ((List (List Int)) × Bool)
 | 0, _, _, _ => none
 | k + 1, x0, x1, x16 => if x16 = true then (some (([] : List (List Int)), false)) else ((spec_l1Own.f x1).bind fun t602 => (spec_TraceOf.l0 k (([t602] : List (List Int))) x0 (x0.length : Int) 0))
def spec_TraceOf.l0 : Nat → List (List Int) → List (S67) → Int → Int → Option ((List (List Int)) × Bool)
 | 0, _, _, _, _ => none
 | k + 1, x6, x20, x21, x22 => if x22 < x21 then (if 0 ≤ x22 then (if x22 < (x20.length : Int) then (if 0 ≤ (wrap64 ((x6.length : Int) - 1)) then (if (wrap64 ((x6.length : Int) - 1)) < (x6.length : Int) then ((spec_cdStep.f ((rd_T67 x20 x22).f0) ((rd_T67 x20 x22).f1) ((rd_T67 x20 x22).f2) ((rd_T67 x20 x22).f3) ((rd_T67 x20 x22).f4) (rd_L5 x6 (wrap64 ((x6.length : Int) - 1)))).bind fun t611 => (if x6.length < 5864062014805 then (spec_TraceOf.l0 k (x6 ++ [t611]) x20 x21 (wrap64 (x22 + 1))) else (none))) else (none)) else (none)) else (none)) else (none)) else (some (x6, true))
end
def spec_TraceOf.f (k : Nat) (l0 : List (S67)) (l1 : List Int) : Option ((List (List Int)) × Bool) := (spec_cdCode.f k l0).bind fun t600 => (if t600 = true then ((spec_cdRegs.f k l1).bind fun t601 => (spec_TraceOf.j0 k l0 l1 (!t601))) else (spec_TraceOf.j0 k l0 l1 true))
theorem spec_TraceOf.mono_l : ∀ k, (∀ y0 y1 y2, LeO (spec_TraceOf.j0 k y0 y1 y2) (spec_TraceOf.j0 (k + 1) y0 y1 y2)) ∧ (∀ y0 y1 y2 y3, LeO (spec_TraceOf.l0 k y0 y1 y2 y3) (spec_TraceOf.l0 (k + 1) y0 y1 y2 y3))
 | 0 => ⟨fun _ _ _ r h => by simp [spec_TraceOf.j0] at h, fun _ _ _ _ r h => by simp [spec_TraceOf.l0] at h⟩
 | k + 1 => by
  obtain ⟨ih0, ih1⟩ := spec_TraceOf.mono_l k
  refine ⟨?_, ?_⟩
  ·intro y0 y1 y2
   unfold spec_TraceOf.j0
   repeat' first
   | (with_reducible exact ih0 _ _ _)
   | (with_reducible exact ih1 _ _ _ _)
   | (with_reducible exact spec_cdCode.mono _ _)
   | (with_reducible exact spec_cdRegs.mono _ _)
   | (with_reducible exact LeO.refl _)
   | (with_reducible exact LeO.none _)
   | (with_reducible refine LeO.ite ?_ ?_)
   | (with_reducible refine LeO.bind ?_ (fun _ => ?_))
   | exact ih0 _ _ _
   | exact ih1 _ _ _ _
   | exact spec_cdCode.mono _ _
   | exact spec_cdRegs.mono _ _
   | exact LeO.none _
   | refine LeO.ite ?_ ?_
   | refine LeO.bind ?_ (fun _ => ?_)
  ·intro y0 y1 y2 y3
   unfold spec_TraceOf.l0
   repeat' first
   | (with_reducible exact ih0 _ _ _)
   | (with_reducible exact ih1 _ _ _ _)
   | (with_reducible exact spec_cdCode.mono _ _)
   | (with_reducible exact spec_cdRegs.mono _ _)
   | (with_reducible exact LeO.refl _)
   | (with_reducible exact LeO.none _)
   | (with_reducible refine LeO.ite ?_ ?_)
   | (with_reducible refine LeO.bind ?_ (fun _ => ?_))
   | exact ih0 _ _ _
   | exact ih1 _ _ _ _
   | exact spec_cdCode.mono _ _
   | exact spec_cdRegs.mono _ _
   | exact LeO.none _
   | refine LeO.ite ?_ ?_
   | refine LeO.bind ?_ (fun _ => ?_)
theorem spec_TraceOf.mono : ∀ a0 a1 k, LeO (spec_TraceOf.f k a0 a1) (spec_TraceOf.f (k + 1) a0 a1) := by
 intro a0 a1 k
 obtain ⟨ih0, ih1⟩ := spec_TraceOf.mono_l k
 unfold spec_TraceOf.f
 repeat' first
   | (with_reducible exact ih0 _ _ _)
   | (with_reducible exact ih1 _ _ _ _)
   | (with_reducible exact spec_cdCode.mono _ _)
   | (with_reducible exact spec_cdRegs.mono _ _)
   | (with_reducible exact LeO.refl _)
   | (with_reducible exact LeO.none _)
   | (with_reducible refine LeO.ite ?_ ?_)
   | (with_reducible refine LeO.bind ?_ (fun _ => ?_))
   | exact ih0 _ _ _
   | exact ih1 _ _ _ _
   | exact spec_cdCode.mono _ _
   | exact spec_cdRegs.mono _ _
   | exact LeO.none _
   | refine LeO.ite ?_ ?_
   | refine LeO.bind ?_ (fun _ => ?_)
def spec_TraceOf.T7 : Bool × List (List Nat × List Nat) := (true, [([], []), ([], []), ([], []), ([], []), ([3], [3]), ([4], [4]), ([2, 5], [2, 5]), ([6], [6]), ([1, 7], [1, 7]), ([8], [8]), ([0, 9, 8], [0, 9]), ([10, 10, 0, 1, 2, 3, 4, 5, 6, 7, 8, 9, 10], [0, 2, 3, 10])])
def spec_TraceOf.B7 : List Nat := [0, 0, 0, 0, 8, 24, 60, 124, 254, 510, 1023, 2047]
theorem spec_TraceOf.tab7 : rtab .any (opsOf Try.f32 7) = spec_TraceOf.T7 := by kernel_rfl
theorem spec_TraceOf.bits7 : waitsOk spec_TraceOf.T7.2 spec_TraceOf.B7 = true := by kernel_rfl
set_option maxHeartbeats 8000000 in
set_option maxRecDepth 100000 in
theorem spec_TraceOf.calls (k : Nat) (A0 : Option Addr) (c0 : Nat) (l0 : List (S67)) (A1 : Option Addr) (c1 : Nat) (l1 : List Int) (r1 : List (List Int)) (r2 : Bool) (w : World) (hr0 : Kd.C k67 w A0 l0.length l0) (hc0 : l0.length ≤ c0) (hr1 : Kd.C (Kd.int .i64) w A1 l1.length l1) (hc1 : l1.length ≤ c1) (h : spec_TraceOf.f k l0 l1 = some (r1, r2)) :
  Calls Try.prog 32 #[.slice A0 l0.length c0, .slice A1 l1.length c1] w fun e w' => ∃ v0_ : Value, e = .returned (.tuple #[v0_, .bool r2]) ∧ Kd.N (Kd.slice 3 (Kd.int .i64)) 40 w' w.heap.size (fun k_ => (w.heap.size ≤ k_)) v0_ r1 ∧ Below w.heap.size w w' := by
 have hu67 := Try.underlying67
 have HR0 := zK hr0
 have HC0 := zK hc0
 clear hr0 hc0
 have HR1 := zK hr1
 have HC1 := zK hc1
 clear hr1 hc1
 have HB := zK (Below.refl w.heap.size w)
 have H : ((spec_cdCode.f k l0).bind fun t600 => (if t600 = true then ((spec_cdRegs.f k l1).bind fun t601 => (spec_TraceOf.j0 k l0 l1 (!t601))) else (spec_TraceOf.j0 k l0 l1 true))) = some (r1, r2) := h
 clear h
 have HC3 := zK H
 clear H
 go_enter Try.func32, Try.ntmps32
 go_upto_region 1 with (fail)
 go_cut [16] (fun v16 wc => ∃ (kq : Nat) (x16_2 : Bool), v16 = .bool x16_2 ∧ Aside0 (spec_TraceOf.j0 kq l0 l1 x16_2 = some (r1, r2)) ∧ Aside0 (kq ≤ k) ∧ Aside0 (Below w.heap.size w wc))
 case first =>
  have H := HC3.out
  clear HC3
  replace H := Option.bind_eq_some_iff.mp H
  obtain ⟨t600, A40, H⟩ := H
  replace H : (if t600 = true then ((spec_cdRegs.f k l1).bind fun t601 => (spec_TraceOf.j0 k l0 l1 (!t601))) else (spec_TraceOf.j0 k l0 l1 true)) = some (r1, r2) := H
  have A4 := zK A40
  clear A40
  by_cases c5 : t600 = true
  ·subst c5
   rw [if_pos rfl] at H
   replace H := Option.bind_eq_some_iff.mp H
   obtain ⟨t601, A60, H⟩ := H
   replace H : (spec_TraceOf.j0 k l0 l1 (!t601)) = some (r1, r2) := H
   have A6 := zK A60
   clear A60
   have H' := zK H
   clear H
   go_wp2_with (first | ((with_reducible refine gate_callee (f := 58) rfl ?_); refine goesL_ (some 10) rfl rfl Try.func58 (by kernel_rfl) rfl #[.slice A0 l0.length c0] rfl (by (try simp only [z6, z7, z8]); first | done | rfl | (simp only [z4, z5]; rfl)) ?_; (with_reducible refine (spec_cdCode.calls k _ _ l0 true _ ?side1 ?side2 A4.out).mono ?_); (case side1 => repeat (first | exact (Kd.C_below HR0.out HB.out) | (with_reducible refine Kd.C_alloc ?_ _) | (with_reducible refine Kd.C_drewN ?_ _) | (with_reducible refine Kd.C_drew ?_))); (case side2 => exact HC0.out); rintro e w7 ⟨rfl, hb⟩; refine ⟨_, rfl, ?_⟩; have n0_ := zK (zL (by repeat (first | (with_reducible first | exact HB.out | apply zA | apply zB | apply zC) | exact HB.out)) hb); clear HB; have HB := n0_; clear n0_; (try clear hb); (try clear hb2); (try clear hk); (try clear hi)) | (go_at_call 75; (with_reducible refine (spec_cdRegs.calls k _ _ l1 t601 _ ?side1 ?side2 A6.out).mono ?_); (case side1 => repeat (first | exact (Kd.C_below HR1.out HB.out) | (with_reducible refine Kd.C_alloc ?_ _) | (with_reducible refine Kd.C_drewN ?_ _) | (with_reducible refine Kd.C_drew ?_))); (case side2 => exact HC1.out); rintro e w' ⟨rfl, ⟨nd, rfl⟩⟩))
   go_meet
   case rel => exact ⟨_, (!t601), (by first | rfl | (simp; done) | (simp [*]; done)), H', ⟨by first | omega | exact Nat.le_refl _⟩, ⟨by repeat (first | (with_reducible first | exact HB.out | apply zA | apply zB | apply zC) | exact HB.out)⟩⟩
  ·replace c5 := Bool.eq_false_iff.mpr c5
   subst c5
   rw [if_neg (show ¬ (false = true) by decide)] at H
   have H' := zK H
   clear H
   go_wp2_with (first | ((with_reducible refine gate_callee (f := 58) rfl ?_); refine goesL_ (some 10) rfl rfl Try.func58 (by kernel_rfl) rfl #[.slice A0 l0.length c0] rfl (by (try simp only [z6, z7, z8]); first | done | rfl | (simp only [z4, z5]; rfl)) ?_; (with_reducible refine (spec_cdCode.calls k _ _ l0 false _ ?side1 ?side2 A4.out).mono ?_); (case side1 => repeat (first | exact (Kd.C_below HR0.out HB.out) | (with_reducible refine Kd.C_alloc ?_ _) | (with_reducible refine Kd.C_drewN ?_ _) | (with_reducible refine Kd.C_drew ?_))); (case side2 => exact HC0.out); rintro e w8 ⟨rfl, hb⟩; refine ⟨_, rfl, ?_⟩; have n0_ := zK (zL (by repeat (first | (with_reducible first | exact HB.out | apply zA | apply zB | apply zC) | exact HB.out)) hb); clear HB; have HB := n0_; clear n0_; (try clear hb); (try clear hb2); (try clear hk); (try clear hi)))
   go_meet
   case rel => exact ⟨_, (true), (by first | rfl | (simp; done) | (simp [*]; done)), H', ⟨by first | omega | exact Nat.le_refl _⟩, ⟨by repeat (first | (with_reducible first | exact HB.out | apply zA | apply zB | apply zC) | exact HB.out)⟩⟩
 case rest =>
  clear HC3
  try clear c1
  try clear p2
  try clear c3
  try clear c5
  obtain ⟨kq, x16_2, rfl, HA, HJ2, HB⟩ := hcut
  cases kq with
  | zero => exact absurd HA.out (by simp [spec_TraceOf.j0])
  | succ kj2 =>
   have H := HA.out
   clear HA
   simp only [spec_TraceOf.j0] at H
   by_cases c9 : x16_2 = true
   ·subst c9
    rw [if_pos rfl] at H
    simp only [Option.some.injEq, Prod.mk.injEq] at H
    obtain ⟨rfl, rfl⟩ := H
    go_wp2
    go_ret2
    exact ⟨_, by first | rfl | (simp [errW_none, errW_some] <;> rfl) | (simp [*, errW_none, errW_some] <;> rfl), by first | exact Kd.S_nil _ _ _ _ _ | exact Kd.N_nil _ _ _ _ _ | exact Kd.V_nil _ _ _ _ _ | exact Kd.Q_nil _ _ _ _ _ | exact Kd.R_nil _ _ _ _ _, by repeat (first | (with_reducible first | exact HB.out | apply zA | apply zB | apply zC) | exact HB.out)⟩
   ·replace c9 := Bool.eq_false_iff.mpr c9
    subst c9
    rw [if_neg (show ¬ (false = true) by decide)] at H
    replace H := Option.bind_eq_some_iff.mp H
    obtain ⟨t602, A100, H⟩ := H
    replace H : (spec_TraceOf.l0 kj2 (([t602] : List (List Int))) l0 (l0.length : Int) 0) = some (r1, r2) := H
    have A10 := zK A100
    clear A100
    obtain ⟨y605, hy605⟩ : ∃ y_ : List (List Int), y_ = (([t602] : List (List Int))) := ⟨_, rfl⟩
    replace H : (spec_TraceOf.l0 kj2 y605 l0 (l0.length : Int) 0) = some (r1, r2) := by first | (rw [hy605]; with_reducible exact H) | (have H2_ := (Option.bind_some _ _).symm.trans H; rw [hy605]; with_reducible exact H2_) | (have H2_ := (Option.bind_some _ _).symm.trans H; with_reducible exact H2_) | with_reducible exact H | (rw [hy605]; exact H) | exact H
    have Ny605 := zK hy605
    clear hy605
    have H' := zK H
    clear H
    go_wp2_with (first | ((with_reducible refine gate_callee (f := 76) rfl ?_); refine goesL_ (some 18) rfl rfl Try.func76 (by kernel_rfl) rfl #[.slice A1 l1.length c1] rfl (by (try simp only [z6, z7, z8]); first | done | rfl | (simp only [z4, z5]; rfl)) ?_; (with_reducible refine (spec_l1Own.calls _ _ l1 t602 _ ?side1 ?side2 A10.out).mono ?_); (case side1 => repeat (first | exact (Kd.C_below HR1.out HB.out) | (with_reducible refine Kd.C_alloc ?_ _) | (with_reducible refine Kd.C_drewN ?_ _) | (with_reducible refine Kd.C_drew ?_))); (case side2 => exact HC1.out); rintro e w11 ⟨v603, rfl, ho0, hb⟩; refine ⟨_, rfl, ?_⟩; have n0_ := zK (Kd.R_lower (Kd.R_newM (M := fun k_ => (w.heap.size ≤ k_)) ho0 (zN (by repeat (first | (with_reducible first | exact HB.out | apply zA | apply zB | apply zC) | exact HB.out))) (fun k_ h_ => h_)) (zN (by repeat (first | (with_reducible first | exact HB.out | apply zA | apply zB | apply zC) | exact HB.out)))); have n1_ := zK (zL (by repeat (first | (with_reducible first | exact HB.out | apply zA | apply zB | apply zC) | exact HB.out)) hb); clear HB; have HO604 := n0_; have HB := n1_; clear n0_ n1_; (try clear hb); (try clear hb2); (try clear hk); (try clear hi); (try clear ho0); obtain ⟨Ao12, co12, eo12⟩ := Kd.R_slice HO604.out; subst eo12) | ((with_reducible refine gate_dst (N := 19) rfl ?_); refine Kd.N_lit (Kd.slice 3 (Kd.int .i64)) _ 40 ?hg (N' := 19) ?hd (xs := ([t602] : List (List Int))) (inner := [.slice Ao12 t602.length co12]) (ok := (fun k_ => (w.heap.size ≤ k_))) (okp := (fun k_ => (w.heap.size ≤ k_))) ?hr ?hp (fun _ hk => hk) ((show ∀ k_, w11.heap.size ≤ k_ → (fun k_ => (w.heap.size ≤ k_)) k_ from fun k_ hk => (Nat.le_trans (zN (by repeat (first | (with_reducible first | exact HB.out | apply zA | apply zB | apply zC) | exact HB.out))) hk)) _ (Nat.le_refl _)) (Below.refl _ _) (Nat.le_refl _) (by simp) ?_; (case hd => rfl); (case hg => rfl); (case hr => first | (go_simp; done) | (go_simp; rfl)); (case hp => exact (Reps.one (show Kd.FK (Kd.slice 3 (Kd.int .i64)) _ _ t602 [.slice Ao12 t602.length co12] from (Kd.FK_slice_mk (Kd.R_reads' (Kd.R_mono (ok' := (fun k_ => (w.heap.size ≤ k_))) (HO604.out) (fun k_ hk => hk.1))).2.1 (Kd.R_F (Kd.R_mono (ok' := (fun k_ => (w.heap.size ≤ k_))) (HO604.out) (fun k_ hk => hk.1))))) (Reps.none _ _))); intro v606 w13 ho14 hb hg_ hnew_; clear hg_ hnew_; (first | rw [← Ny605.out] at ho14 | (simp only [Int.reduceToNat] at ho14; rw [← Ny605.out] at ho14)); have n0_ := zK (Kd.N_lower ho14 (zN (by repeat (first | (with_reducible first | exact HB.out | apply zA | apply zB | apply zC) | exact HB.out)))); have n1_ := zK (zL (by repeat (first | (with_reducible first | exact HB.out | apply zA | apply zB | apply zC) | exact HB.out)) hb); clear HB; clear HO604; have HO607 := n0_; have HB := n1_; clear n0_ n1_; clear hb ho14))
    go_loopg [6, 22] kj2 (fun kq v6 v22 w' => ∃ (x6_2 : List (List Int)) (x22_2 : Int), v22 = .int .i64 x22_2 ∧ Aside0 (spec_TraceOf.l0 kq x6_2 l0 (l0.length : Int) x22_2 = some (r1, r2)) ∧ Aside0 (kq ≤ kj2) ∧ Aside0 (Kd.N (Kd.slice 3 (Kd.int .i64)) 40 w' w.heap.size (fun k_ => (w.heap.size ≤ k_)) v6 x6_2) ∧ Aside0 (Below w.heap.size w w'))
    case atStart => exact ⟨(y605), (0), (by first | rfl | (simp; done) | (simp [*]; done)), H', ⟨Nat.le_refl _⟩, ⟨by (with_reducible repeat (first | apply Kd.N_alloc | apply Kd.N_drewN | apply Kd.N_drew)); exact HO607.out⟩, ⟨by repeat (first | (with_reducible first | exact HB.out | apply zA | apply zB | apply zC) | exact HB.out)⟩⟩
    case round =>
     clear H'
     try clear c1
     try clear p2
     try clear c3
     try clear c5
     try clear c7
     try clear c9
     try clear p2
     obtain ⟨x6_2, x22_2, rfl, HA, HK2, HO_6, HB⟩ := hrel
     cases gk with
     | zero => exact absurd HA.out (by simp [spec_TraceOf.l0])
     | succ k2 =>
      have H := HA.out
      clear HA
      simp only [spec_TraceOf.l0] at H
      by_cases c15 : x22_2 < (l0.length : Int)
      ·rw [if_pos c15] at H
       have c15b0 : decide (x22_2 < (l0.length : Int)) = true := decide_eq_true c15
       clear c15
       by_cases c16 : 0 ≤ x22_2
       ·rw [if_pos c16] at H
        have c16b0 : decide (0 ≤ x22_2) = true := decide_eq_true c16
        clear c16
        by_cases c17 : x22_2 < (l0.length : Int)
        ·rw [if_pos c17] at H
         have c17b0 : decide (x22_2 < (l0.length : Int)) = true := decide_eq_true c17
         clear c17
         obtain ⟨ji18, hji18⟩ : ∃ j_ : Int, (wrap64 ((x6_2.length : Int) - 1)) = j_ := ⟨_, rfl⟩
         replace H : (if 0 ≤ (ji18) then (if (ji18) < (x6_2.length : Int) then ((spec_cdStep.f ((rd_T67 l0 x22_2).f0) ((rd_T67 l0 x22_2).f1) ((rd_T67 l0 x22_2).f2) ((rd_T67 l0 x22_2).f3) ((rd_T67 l0 x22_2).f4) (rd_L5 x6_2 (ji18))).bind fun t611 => (if x6_2.length < 5864062014805 then (spec_TraceOf.l0 k2 (x6_2 ++ [t611]) l0 (l0.length : Int) (wrap64 (x22_2 + 1))) else (none))) else (none)) else (none)) = some (r1, r2) := by first | (rw [hji18] at H; exact H) | (simp only [hji18] at H ⊢; exact H)
         have hji18w : (IntKind.i64.wrap ((x6_2.length : Int) - 1)) = ji18 := (i64_w _).trans hji18
         by_cases c19 : 0 ≤ (ji18)
         ·rw [if_pos c19] at H
          have c19b0 : decide (0 ≤ (ji18)) = true := decide_eq_true c19
          clear c19
          by_cases c20 : (ji18) < (x6_2.length : Int)
          ·rw [if_pos c20] at H
           have c20b0 : decide ((ji18) < (x6_2.length : Int)) = true := decide_eq_true c20
           clear c20
           replace H := Option.bind_eq_some_iff.mp H
           obtain ⟨t611, A210, H⟩ := H
           replace H : (if x6_2.length < 5864062014805 then (spec_TraceOf.l0 k2 (x6_2 ++ [t611]) l0 (l0.length : Int) (wrap64 (x22_2 + 1))) else (none)) = some (r1, r2) := H
           have A21 := zK A210
           clear A210
           by_cases c22 : x6_2.length < 5864062014805
           ·rw [if_pos c22] at H
            have LMc22 := zK c22
            clear c22
            obtain ⟨y614, hy614⟩ : ∃ y_ : List (List Int), y_ = (x6_2 ++ [t611]) := ⟨_, rfl⟩
            replace H : (spec_TraceOf.l0 k2 y614 l0 (l0.length : Int) (wrap64 (x22_2 + 1))) = some (r1, r2) := by first | (rw [hy614]; with_reducible exact H) | (have H2_ := (Option.bind_some _ _).symm.trans H; rw [hy614]; with_reducible exact H2_) | (have H2_ := (Option.bind_some _ _).symm.trans H; with_reducible exact H2_) | with_reducible exact H | (rw [hy614]; exact H) | exact H
            have Ny614 := zK hy614
            clear hy614
            have H' := zK H
            clear H
            have p608 : 0 ≤ (x22_2 : Int) := zo
            have q608 : x22_2 < (l0.length : Int) := zo
            obtain ⟨ad608, e608, hx608_0, hx608_1, hx608_2, hx608_3, hx608_4⟩ := at_T67 HR0.out x22_2 p608 q608
            cases e608
            replace hx608_0 := zt HB.out hx608_0
            replace hx608_1 := zt HB.out hx608_1
            replace hx608_2 := zt HB.out hx608_2
            replace hx608_3 := zt HB.out hx608_3
            replace hx608_4 := zt HB.out hx608_4
            replace p608 := eq_true p608
            replace q608 := eq_true q608
            try go_wp2_with (first | ((with_reducible refine gate_dst (N := 8) rfl ?_); refine box_event ?hg (N := 8) ?hd (cs := #[.string (⟨#[]⟩ : ByteArray), .int .i64 0, .int .i64 0, .int .i64 0, .int .i64 0]) (t := 67) ?hr ?_; (case hd => rfl); (case hg => rfl); (case hr => first | (go_simp; done) | (go_simp; rfl)); intro gb609 hg w23 hbox hb; have n0_ := zK (Kd.N_below (Kd.N_elderB (by (with_reducible repeat (first | apply Kd.N_alloc | apply Kd.N_drewN | apply Kd.N_drew)); exact HO_6.out) gb609 (Nat.le_of_eq hg.symm)) hb); have n1_ := zK (zL (by repeat (first | (with_reducible first | exact HB.out | apply zA | apply zB | apply zC) | exact HB.out)) hb); have n2_ := zK (hbox); have n3_ := zK ((by rw [hg]; exact (zN (by repeat (first | (with_reducible first | exact HB.out | apply zA | apply zB | apply zC) | exact HB.out))) : w.heap.size ≤ gb609)); have n4_ := n3_; clear HO_6; clear HB; have HO_6 := n0_; have HB := n1_; have BK609 := n2_; have GW609 := n3_; have GE609 := n4_; clear n0_ n1_ n2_ n3_ n4_; clear hb hbox hg; have hcz24_0 : w23.cell? ⟨gb609, 0, none⟩ = some (.string (⟨#[]⟩ : ByteArray)) := (zI BK609.out 0).trans rfl; have hcz24_1 : w23.cell? ⟨gb609, 1, none⟩ = some (.int .i64 0) := (zI BK609.out 1).trans rfl; have hcz24_2 : w23.cell? ⟨gb609, 2, none⟩ = some (.int .i64 0) := (zI BK609.out 2).trans rfl; have hcz24_3 : w23.cell? ⟨gb609, 3, none⟩ = some (.int .i64 0) := (zI BK609.out 3).trans rfl; have hcz24_4 : w23.cell? ⟨gb609, 4, none⟩ = some (.int .i64 0) := (zI BK609.out 4).trans rfl; have hfz24_0 := zH BK609.out 0; have hfz24_1 := zH BK609.out 1; have hfz24_2 := zH BK609.out 2; have hfz24_3 := zH BK609.out 3; have hfz24_4 := zH BK609.out 4))
            have n0_ : Aside0 (Kd.N (Kd.slice 3 (Kd.int .i64)) 40 (((((w23.setCell ⟨gb609, 0, none⟩ (.string ((rd_T67 l0 x22_2).f0))).setCell ⟨gb609, 1, none⟩ (.int .i64 ((rd_T67 l0 x22_2).f1))).setCell ⟨gb609, 2, none⟩ (.int .i64 ((rd_T67 l0 x22_2).f2))).setCell ⟨gb609, 3, none⟩ (.int .i64 ((rd_T67 l0 x22_2).f3))).setCell ⟨gb609, 4, none⟩ (.int .i64 ((rd_T67 l0 x22_2).f4))) w.heap.size (fun k_ => (w.heap.size ≤ k_) ∧ k_ ≠ gb609) u6 x6_2) := ⟨by (with_reducible repeat (first | apply Kd.N_alloc | apply Kd.N_drewN | apply Kd.N_drew)); exact Kd.N_mono (Kd.N_far (p := ⟨gb609, 4, none⟩) (Kd.N_far (p := ⟨gb609, 3, none⟩) (Kd.N_far (p := ⟨gb609, 2, none⟩) (Kd.N_far (p := ⟨gb609, 1, none⟩) (Kd.N_far (p := ⟨gb609, 0, none⟩) (Kd.N_mono HO_6.out (fun k_ hk => (⟨hk, hk.2⟩ : _ ∧ k_ ≠ gb609))) (fun _ hk => hk.2) (.string ((rd_T67 l0 x22_2).f0))) (fun _ hk => hk.2) (.int .i64 ((rd_T67 l0 x22_2).f1))) (fun _ hk => hk.2) (.int .i64 ((rd_T67 l0 x22_2).f2))) (fun _ hk => hk.2) (.int .i64 ((rd_T67 l0 x22_2).f3))) (fun _ hk => hk.2) (.int .i64 ((rd_T67 l0 x22_2).f4))) (fun _ hk => ⟨hk.1.1, hk.1.2⟩)⟩
            have n1_ : Aside0 ((((((w23.setCell ⟨gb609, 0, none⟩ (.string ((rd_T67 l0 x22_2).f0))).setCell ⟨gb609, 1, none⟩ (.int .i64 ((rd_T67 l0 x22_2).f1))).setCell ⟨gb609, 2, none⟩ (.int .i64 ((rd_T67 l0 x22_2).f2))).setCell ⟨gb609, 3, none⟩ (.int .i64 ((rd_T67 l0 x22_2).f3))).setCell ⟨gb609, 4, none⟩ (.int .i64 ((rd_T67 l0 x22_2).f4))).heap[gb609]? = some (.cells #[.string ((rd_T67 l0 x22_2).f0), .int .i64 ((rd_T67 l0 x22_2).f1), .int .i64 ((rd_T67 l0 x22_2).f2), .int .i64 ((rd_T67 l0 x22_2).f3), .int .i64 ((rd_T67 l0 x22_2).f4)] 67 (0, 0))) := ⟨by (with_reducible repeat (first | refine zE ?_ _ | refine zF ?_ | refine zG ?_ _)); refine blk_put (cs := #[.string ((rd_T67 l0 x22_2).f0), .int .i64 ((rd_T67 l0 x22_2).f1), .int .i64 ((rd_T67 l0 x22_2).f2), .int .i64 ((rd_T67 l0 x22_2).f3), .int .i64 0]) ?_ 4 _ rfl; (with_reducible repeat (first | refine zE ?_ _ | refine zF ?_ | refine zG ?_ _)); refine blk_put (cs := #[.string ((rd_T67 l0 x22_2).f0), .int .i64 ((rd_T67 l0 x22_2).f1), .int .i64 ((rd_T67 l0 x22_2).f2), .int .i64 0, .int .i64 0]) ?_ 3 _ rfl; (with_reducible repeat (first | refine zE ?_ _ | refine zF ?_ | refine zG ?_ _)); refine blk_put (cs := #[.string ((rd_T67 l0 x22_2).f0), .int .i64 ((rd_T67 l0 x22_2).f1), .int .i64 0, .int .i64 0, .int .i64 0]) ?_ 2 _ rfl; (with_reducible repeat (first | refine zE ?_ _ | refine zF ?_ | refine zG ?_ _)); refine blk_put (cs := #[.string ((rd_T67 l0 x22_2).f0), .int .i64 0, .int .i64 0, .int .i64 0, .int .i64 0]) ?_ 1 _ rfl; (with_reducible repeat (first | refine zE ?_ _ | refine zF ?_ | refine zG ?_ _)); refine blk_put (cs := #[.string (⟨#[]⟩ : ByteArray), .int .i64 0, .int .i64 0, .int .i64 0, .int .i64 0]) ?_ 0 _ rfl; (with_reducible repeat (first | refine zE ?_ _ | refine zF ?_ | refine zG ?_ _)); exact BK609.out⟩
            have n2_ : Aside0 (Below w.heap.size w (((((w23.setCell ⟨gb609, 0, none⟩ (.string ((rd_T67 l0 x22_2).f0))).setCell ⟨gb609, 1, none⟩ (.int .i64 ((rd_T67 l0 x22_2).f1))).setCell ⟨gb609, 2, none⟩ (.int .i64 ((rd_T67 l0 x22_2).f2))).setCell ⟨gb609, 3, none⟩ (.int .i64 ((rd_T67 l0 x22_2).f3))).setCell ⟨gb609, 4, none⟩ (.int .i64 ((rd_T67 l0 x22_2).f4)))) := ⟨by repeat (first | (with_reducible first | exact HB.out | apply zA | apply zB | apply zC | refine zD ?_ GE609.out) | exact HB.out)⟩
            (try clear HO_6)
            (try clear BK609)
            (try clear HB)
            generalize (((((w23.setCell ⟨gb609, 0, none⟩ (.string ((rd_T67 l0 x22_2).f0))).setCell ⟨gb609, 1, none⟩ (.int .i64 ((rd_T67 l0 x22_2).f1))).setCell ⟨gb609, 2, none⟩ (.int .i64 ((rd_T67 l0 x22_2).f2))).setCell ⟨gb609, 3, none⟩ (.int .i64 ((rd_T67 l0 x22_2).f3))).setCell ⟨gb609, 4, none⟩ (.int .i64 ((rd_T67 l0 x22_2).f4))) = w25 at n0_ n1_ n2_ ⊢
            have HO_6 := n0_
            have BK609 := n1_
            have HB := n2_
            clear n0_ n1_ n2_
            have n0_ := zK (Kd.N_drew HO_6.out)
            have n1_ := zK (zF BK609.out)
            have n2_ := zK (zC HB.out)
            clear HO_6
            clear BK609
            clear HB
            have HO_6 := n0_
            have BK609 := n1_
            have HB := n2_
            clear n0_ n1_ n2_
            obtain ⟨Ao27, co27, eo27⟩ := Kd.N_slice HO_6.out
            (first | subst eo27 | (injection eo27 with f1_ f2_ f3_; have f4_ := f1_.symm; have f5_ := f3_.symm; clear f1_ f2_ f3_; subst f4_; subst f5_))
            have p610 : 0 ≤ ((ji18) : Int) := zo
            have q610 : (ji18) < (x6_2.length : Int) := zo
            obtain ⟨ad610, A610_0, c610_0, e610, hx610_0, hl610_0, hi610_0⟩ := at_L5 (Kd.N_reads' HO_6.out).2.2 (ji18) p610 q610
            cases e610
            obtain ⟨ce610, hce610, hMe610, hcc610⟩ := Kd.N_get HO_6.out [] (ji18) p610 (by first | exact q610 | exact zo | (have e_ := (Kd.N_reads' HO_6.out).1; omega))
            obtain ⟨ua610_0, uc610_0, rfl, ul610_0, ge610_0⟩ := Kd.FK_slice_open hMe610
            have hv610_0 := hcc610 0 _ rfl
            rw [Nat.add_zero, show ((Kd.slice 3 (Kd.int .i64))).sz = 1 from rfl, Nat.mul_one] at hv610_0
            replace hv610_0 := Option.some.inj (hv610_0.symm.trans hx610_0)
            injection hv610_0 with hva_ hvn_ hvc_
            rw [hva_] at ge610_0
            rw [hvc_] at ul610_0
            have HL610_0 := zK (show Kd.V (Kd.int .i64) 3 _ w.heap.size _ _ (rd_L5 x6_2 (ji18)) from Kd.V_mk ul610_0 ge610_0)
            clear hva_ hvn_ hvc_ ge610_0 ul610_0
            clear hcc610 hce610
            have HR610_0 := zK hi610_0
            have HC610_0 := zK hl610_0
            clear hi610_0 hl610_0
            replace p610 := eq_true p610
            replace q610 := eq_true q610
            refine start_ (n := 12) (S := fun w' => w'.cell? ⟨gb609, 0, none⟩ = some (.string ((rd_T67 l0 x22_2).f0)) ∧ w'.cell? ⟨gb609, 1, none⟩ = some (.int .i64 ((rd_T67 l0 x22_2).f1)) ∧ w'.cell? ⟨gb609, 2, none⟩ = some (.int .i64 ((rd_T67 l0 x22_2).f2)) ∧ w'.cell? ⟨gb609, 3, none⟩ = some (.int .i64 ((rd_T67 l0 x22_2).f3)) ∧ w'.cell? ⟨gb609, 4, none⟩ = some (.int .i64 ((rd_T67 l0 x22_2).f4)) ∧ w'.cell? (ad610.add ((ji18)).toNat) = some (.slice A610_0 (rd_L5 x6_2 (ji18)).length c610_0)) (ds := [9, 10]) #[false, false, false, false, false, false, false, false, false, false, false, false] (by kernel_rfl) rfl rfl ⟨(zI BK609.out 0).trans rfl, (zI BK609.out 1).trans rfl, (zI BK609.out 2).trans rfl, (zI BK609.out 3).trans rfl, (zI BK609.out 4).trans rfl, hx610_0⟩ (fun hHeld => ?_); refine with_tabW spec_TraceOf.tab7 spec_TraceOf.bits7 (fun HT_ HW_ => ?_)
            generalize w25.drew = w26 at HO_6 BK609 HB HL610_0 HR610_0 hx610_0 hHeld ⊢
            refine pure_ (i := 0) (N := some 26) (v := ?_) (a' := ?_) #[true, false, false, false, false, false, false, false, false, false, false, false] rfl rfl (any_of HT_.out (by kernel_rfl)) (fun _ _ _ h => h) (Or.inl ⟨by rfl, ?_⟩) ?_ ?_
            rotate_left
            ·intro w'
             go_simp
             with_reducible rfl
            rotate_left
            ·simp only [Act.put, z1, z2, z3, i64_w, i32_w]
             rfl
            refine pure_ (i := 2) (N := some 28) (v := ?_) (a' := ?_) #[true, false, true, false, false, false, false, false, false, false, false, false] rfl rfl (any_of HT_.out (by kernel_rfl)) (fun _ _ _ h => h) (Or.inl ⟨by rfl, ?_⟩) ?_ ?_
            rotate_left
            ·intro w'
             go_simp
             with_reducible rfl
            rotate_left
            ·simp only [Act.put, z1, z2, z3, i64_w, i32_w]
             rfl
            refine pure_ (i := 3) (N := some 29) (v := ?_) (a' := ?_) #[true, false, true, true, false, false, false, false, false, false, false, false] rfl rfl (any_of HT_.out (by kernel_rfl)) (fun _ _ _ h => h) (Or.inl ⟨by rfl, ?_⟩) ?_ ?_
            rotate_left
            ·intro w'
             go_simp
             with_reducible rfl
            rotate_left
            ·simp only [Act.put, z1, z2, z3, i64_w, i32_w]
             rfl
            refine pure_ (i := 4) (N := some 30) (v := ?_) (a' := ?_) #[true, false, true, true, true, false, false, false, false, false, false, false] rfl rfl (any_of HT_.out (by kernel_rfl)) (fun _ _ _ h => h) (Or.inl ⟨by rfl, ?_⟩) ?_ ?_
            rotate_left
            ·intro w'
             go_simp
             with_reducible rfl
            rotate_left
            ·simp only [Act.put, z1, z2, z3, i64_w, i32_w]
             rfl
            refine pure_ (i := 5) (N := some 31) (v := ?_) (a' := ?_) #[true, false, true, true, true, true, false, false, false, false, false, false] rfl rfl (any_of HT_.out (by kernel_rfl)) (fun _ _ _ h => h) (Or.inl ⟨by rfl, ?_⟩) ?_ ?_
            rotate_left
            ·intro w'
             go_simp
             with_reducible rfl
            rotate_left
            ·simp only [Act.put, z1, z2, z3, i64_w, i32_w]
             rfl
            refine pure_ (i := 6) (N := some 32) (v := ?_) (a' := ?_) #[true, false, true, true, true, true, true, false, false, false, false, false] rfl rfl (any_of HT_.out (by kernel_rfl)) (fun _ _ _ h => h) (Or.inl ⟨by rfl, ?_⟩) ?_ ?_
            rotate_left
            ·intro w'
             go_simp
             with_reducible rfl
            rotate_left
            ·simp only [Act.put, z1, z2, z3, i64_w, i32_w]
             rfl
            refine take_ (i := 1) (N := some 27) (v := ?_) (a' := ?_) #[true, true, true, true, true, true, true, false, false, false, false, false] rfl rfl (take_ofW HT_.out HW_.out (by kernel_rfl)) (fun _ _ _ h => h) (Or.inl ⟨by rfl, ?_⟩) hHeld ?_ ?_
            rotate_left
            ·rintro w' ⟨s0, s1, s2, s3, s4, s5⟩
             go_simp
             with_reducible rfl
            rotate_left
            ·simp only [Act.put, z1, z2, z3, i64_w, i32_w]
             rfl
            refine take_ (i := 7) (N := some 33) (v := ?_) (a' := ?_) #[true, true, true, true, true, true, true, true, false, false, false, false] rfl rfl (take_ofW HT_.out HW_.out (by kernel_rfl)) (fun _ _ _ h => h) (Or.inl ⟨by rfl, ?_⟩) hHeld ?_ ?_
            rotate_left
            ·rintro w' ⟨s0, s1, s2, s3, s4, s5⟩
             go_simp
             with_reducible rfl
            rotate_left
            ·simp only [Act.put, z1, z2, z3, i64_w, i32_w]
             rfl
            refine one_ (i := 8) (N := some 34) #[true, true, true, true, true, true, true, true, true, false, false, false] rfl rfl (one_of HT_.out (by kernel_rfl)) (by decide) (fun K hK => ?_)
            refine goes_ Try.func77 (by kernel_rfl) rfl #[.agg #[.string ((rd_T67 l0 x22_2).f0), .int .i64 ((rd_T67 l0 x22_2).f1), .int .i64 ((rd_T67 l0 x22_2).f2), .int .i64 ((rd_T67 l0 x22_2).f3), .int .i64 ((rd_T67 l0 x22_2).f4)], .slice A610_0 (rd_L5 x6_2 (ji18)).length c610_0] (by rfl) rfl rfl (by (try simp only [z6, z7, z8]); first | done | (simp only [hji18]; rfl) | rfl | (simp only [z4, z5]; rfl)) ?_
            with_reducible refine (spec_cdStep.calls ((rd_T67 l0 x22_2).f0) ((rd_T67 l0 x22_2).f1) ((rd_T67 l0 x22_2).f2) ((rd_T67 l0 x22_2).f3) ((rd_T67 l0 x22_2).f4) _ _ (rd_L5 x6_2 (ji18)) t611 _ ?side1 ?side2 A21.out).mono ?_
            (case side1 => repeat (first | exact (by repeat (first | (with_reducible exact HR610_0.out) | (with_reducible refine Kd.C_alloc ?_ _) | (with_reducible refine Kd.C_drewN ?_ _) | (with_reducible refine Kd.C_drew ?_) | exact HR610_0.out)) | (with_reducible refine Kd.C_alloc ?_ _) | (with_reducible refine Kd.C_drewN ?_ _) | (with_reducible refine Kd.C_drew ?_)))
            (case side2 => exact HC610_0.out)
            rintro e w28 ⟨v612, rfl, ho0, hb⟩
            have HS5_ := (hb.cell (zW _ _ (hHeld.2.2.2.2.2))).trans (hHeld.2.2.2.2.2)
            refine ⟨_, rfl, ?_⟩
            have n0_ := zK (Kd.N_elder' (by (with_reducible repeat (first | apply Kd.N_alloc | apply Kd.N_drewN | apply Kd.N_drew)); exact HO_6.out) (Kd.R_base ho0) hb)
            have n1_ := zK (Kd.V_elder' (by (with_reducible repeat (first | apply Kd.V_alloc | apply Kd.V_drewN | apply Kd.V_drew)); exact HL610_0.out) (Kd.R_base ho0) hb)
            have n2_ := zK (Kd.R_lower (Kd.R_newM (M := fun k_ => (w.heap.size ≤ k_)) ho0 (zN (by repeat (first | (with_reducible first | exact HB.out | apply zA | apply zB | apply zC | refine zD ?_ GE609.out) | exact HB.out))) (fun k_ h_ => h_)) (zN (by repeat (first | (with_reducible first | exact HB.out | apply zA | apply zB | apply zC | refine zD ?_ GE609.out) | exact HB.out))))
            have n3_ := zK (zM (g := gb609) (o := .cells #[.string ((rd_T67 l0 x22_2).f0), .int .i64 ((rd_T67 l0 x22_2).f1), .int .i64 ((rd_T67 l0 x22_2).f2), .int .i64 ((rd_T67 l0 x22_2).f3), .int .i64 ((rd_T67 l0 x22_2).f4)] 67 (0, 0)) (by (with_reducible repeat (first | refine zE ?_ _ | refine zF ?_ | refine zG ?_ _)); exact BK609.out) hb)
            have n4_ := zK (Kd.C_below (by repeat (first | (with_reducible exact HR610_0.out) | (with_reducible refine Kd.C_alloc ?_ _) | (with_reducible refine Kd.C_drewN ?_ _) | (with_reducible refine Kd.C_drew ?_) | exact HR610_0.out)) hb)
            have n5_ := zK (zL (by repeat (first | (with_reducible first | exact HB.out | apply zA | apply zB | apply zC | refine zD ?_ GE609.out) | exact HB.out)) hb)
            clear HO_6
            clear HL610_0
            clear BK609
            clear HR610_0
            clear HB
            have HO_6 := n0_
            have HL610_0 := n1_
            have HO613 := n2_
            have BK609 := n3_
            have HR610_0 := n4_
            have HB := n5_
            clear n0_ n1_ n2_ n3_ n4_ n5_
            (try clear hb)
            (try clear hb2)
            (try clear hk)
            (try clear hi)
            (try clear ho0)
            obtain ⟨Ao30, co30, eo30⟩ := Kd.R_slice HO613.out
            (first | subst eo30 | (injection eo30 with f1_ f2_ f3_; have f4_ := f1_.symm; have f5_ := f3_.symm; clear f1_ f2_ f3_; subst f4_; subst f5_))
            refine hK.out _ _ ⟨(zI BK609.out 0).trans rfl, (zI BK609.out 1).trans rfl, (zI BK609.out 2).trans rfl, (zI BK609.out 3).trans rfl, (zI BK609.out 4).trans rfl, HS5_⟩ (fun hHeld => ?_)
            clear hK K
            refine norm_ (a' := ?_) ?_ ?_
            rotate_left
            ·show Act.put _ (some 34) _ = _
             simp only [Act.put, z1, z2, z3, i64_w, i32_w]
             rfl
            refine last_ (i := 9) (N := some 35) #[true, true, true, true, true, true, true, true, true, true, false, false] rfl rfl (one_of HT_.out (by kernel_rfl)) (by decide) (fun K hK => ?_)
            refine value_ (w1 := ?_) (v := ?_) (by rfl) rfl ?_ ?_
            rotate_left 2
            ·go_simp
             constructor
             ·rfl
             ·rfl
            refine hK.out _ _ ?_
            clear hK K
            refine norm_ (a' := ?_) ?_ ?_
            rotate_left
            ·show Act.put _ (some 35) _ = _
             simp only [Act.put, z1, z2, z3, i64_w, i32_w]
             rfl
            refine last_ (i := 10) (N := some 36) #[true, true, true, true, true, true, true, true, true, true, true, false] rfl rfl (one_of HT_.out (by kernel_rfl)) (by decide) (fun K hK => ?_)
            refine Kd.N_append_step (Kd.slice 3 (Kd.int .i64)) (w0 := w) w.heap.size (by rfl) (.tmp 26) (.tmp 35) 41 40 (.slice none 0 0) 24 rfl Try.underlying41 info40 rfl (by decide) (by omega) (.slice (some ad610) x6_2.length co27) x6_2 t611 [.slice Ao30 t611.length co30] (fun k_ => (w.heap.size ≤ k_) ∧ k_ ≠ gb609) (fun k_ => ((fun k_ => (w.heap.size ≤ k_) ∧ k_ ≠ gb609)) k_ ∧ some k_ ≠ (.slice (some ad610) x6_2.length co27 : Value).ownBlock) rfl rfl ?aP (fun _ hk => hk) ?aF ?aO ?aB ?aS ?aL ?_
            (case aP => exact (Kd.FK_slice_mk (Kd.R_reads' (Kd.R_mono (ok' := (fun k_ => ((fun k_ => (w.heap.size ≤ k_) ∧ k_ ≠ gb609)) k_ ∧ some k_ ≠ (.slice (some ad610) x6_2.length co27 : Value).ownBlock)) (Kd.R_types (Kd.R_apart' (HO613.out) (Kd.N_typed HO_6.out) (by decide)) BK609.out (by decide)) (fun k_ hk => ⟨⟨hk.1.1.1, hk.2⟩, hk.1.2⟩))).2.1 (Kd.R_F (Kd.R_mono (ok' := (fun k_ => ((fun k_ => (w.heap.size ≤ k_) ∧ k_ ≠ gb609)) k_ ∧ some k_ ≠ (.slice (some ad610) x6_2.length co27 : Value).ownBlock)) (Kd.R_types (Kd.R_apart' (HO613.out) (Kd.N_typed HO_6.out) (by decide)) BK609.out (by decide)) (fun k_ hk => ⟨⟨hk.1.1.1, hk.2⟩, hk.1.2⟩)))))
            (case aB => exact (by repeat (first | (with_reducible first | exact HB.out | apply zA | apply zB | apply zC | refine zD ?_ GE609.out) | exact HB.out)))
            (case aF => exact (fun k_ hk => ⟨(Nat.le_trans (zN (by repeat (first | (with_reducible first | exact HB.out | apply zA | apply zB | apply zC | refine zD ?_ GE609.out) | exact HB.out))) hk), Kd.freshB (g := gb609) (o := .cells #[.string ((rd_T67 l0 x22_2).f0), .int .i64 ((rd_T67 l0 x22_2).f1), .int .i64 ((rd_T67 l0 x22_2).f2), .int .i64 ((rd_T67 l0 x22_2).f3), .int .i64 ((rd_T67 l0 x22_2).f4)] 67 (0, 0)) (by (with_reducible repeat (first | refine zE ?_ _ | refine zF ?_ | refine zG ?_ _)); exact BK609.out) k_ hk⟩))
            (case aO => exact (by (with_reducible repeat (first | apply Kd.N_alloc | apply Kd.N_drewN | apply Kd.N_drew)); exact Kd.N_mono HO_6.out (fun _ hk => ⟨hk.1.1, hk.1.2⟩)))
            (case aS => exact (zN (by repeat (first | (with_reducible first | exact HB.out | apply zA | apply zB | apply zC | refine zD ?_ GE609.out) | exact HB.out))))
            (case aL => have := LMc22.out; omega)
            intro v615 w29 ho hb hg hat
            rw [← Ny614.out] at ho
            have n0_ := zK (blk_grown (g := gb609) (o := .cells #[.string ((rd_T67 l0 x22_2).f0), .int .i64 ((rd_T67 l0 x22_2).f1), .int .i64 ((rd_T67 l0 x22_2).f2), .int .i64 ((rd_T67 l0 x22_2).f3), .int .i64 ((rd_T67 l0 x22_2).f4)] 67 (0, 0)) (by (with_reducible repeat (first | refine zE ?_ _ | refine zF ?_ | refine zG ?_ _)); exact BK609.out) hg (Kd.N_ne HO_6.out BK609.out (by decide)))
            have n1_ := zK (Kd.V_afterv (ok := (fun k_ => (w.heap.size ≤ k_) ∧ some k_ ≠ (.slice Ao30 t611.length co30 : Value).ownBlock ∧ k_ ≠ gb609)) (by (with_reducible repeat (first | apply Kd.V_alloc | apply Kd.V_drewN | apply Kd.V_drew)); exact Kd.V_mono HL610_0.out (fun _ hk => ⟨⟨hk.1.1.1, ⟨hk.2, hk.1.1.2⟩⟩, hk.1.2⟩)) hg hat)
            have n2_ := zK (hb)
            have n3_ := zK (ho)
            clear BK609
            clear HL610_0
            clear HB
            clear HO_6
            clear HO613
            have BK609 := n0_
            have HL610_0 := n1_
            have HB := n2_
            have HO616 := n3_
            clear n0_ n1_ n2_ n3_
            clear ho hb hg hat
            refine hK.out _ _ ?_
            clear hK K
            refine norm_ (a' := ?_) ?_ ?_
            rotate_left
            ·show Act.put _ (some 36) _ = _
             simp only [Act.put, z1, z2, z3, i64_w, i32_w]
             rfl
            refine pure_ (i := 11) (N := some 6) (v := ?_) (a' := ?_) #[true, true, true, true, true, true, true, true, true, true, true, true] rfl rfl (any_of HT_.out (by kernel_rfl)) (fun _ _ _ h => h) (Or.inl ⟨by rfl, ?_⟩) ?_ ?_
            rotate_left
            ·intro w'
             go_simp
             with_reducible rfl
            rotate_left
            ·simp only [Act.put, z1, z2, z3, i64_w, i32_w]
             rfl
            refine done_ (done_of HT_.out (by kernel_rfl)) ?_
            try go_wp2
            go_roundg k2
            case measure => have := HJ2.out; have := HK2.out; omega
            case rel => exact ⟨(y614), (wrap64 (x22_2 + 1)), (by first | rfl | (simp; done) | (simp [*]; done)), H', ⟨by have := HJ2.out; have := HK2.out; omega⟩, ⟨by (with_reducible repeat (first | apply Kd.N_alloc | apply Kd.N_drewN | apply Kd.N_drew)); exact Kd.N_mono HO616.out (fun _ hk => hk.1)⟩, ⟨by repeat (first | (with_reducible first | exact HB.out | apply zA | apply zB | apply zC | refine zD ?_ GE609.out) | exact HB.out)⟩⟩
           ·rw [if_neg c22] at H
            exact absurd H (by simp)
          ·rw [if_neg c20] at H
           exact absurd H (by simp)
         ·rw [if_neg c19] at H
          exact absurd H (by simp)
        ·rw [if_neg c17] at H
         exact absurd H (by simp)
       ·rw [if_neg c16] at H
        exact absurd H (by simp)
      ·rw [if_neg c15] at H
       have c15b0 : decide (x22_2 < (l0.length : Int)) = false := decide_eq_false c15
       clear c15
       simp only [Option.some.injEq, Prod.mk.injEq] at H
       obtain ⟨rfl, rfl⟩ := H
       go_wp2
       go_ret2
       exact ⟨_, by first | rfl | (simp [errW_none, errW_some] <;> rfl) | (simp [*, errW_none, errW_some] <;> rfl), by (with_reducible repeat (first | apply Kd.N_alloc | apply Kd.N_drewN | apply Kd.N_drew)); exact HO_6.out, by repeat (first | (with_reducible first | exact HB.out | apply zA | apply zB | apply zC) | exact HB.out)⟩

/-! ### impl_isWord: function 134 -/
def impl_isWord.f (a0 : Int) : Option (Bool) := (impl_within.f a0 0 63).bind fun t617 => (some t617)
set_option maxHeartbeats 8000000 in
set_option maxRecDepth 100000 in
theorem impl_isWord.calls (a0 : Int) (r : Bool) (w : World) (h : impl_isWord.f a0 = some r) :
  Calls Try.prog 134 #[.int .i64 a0] w fun e w' => e = .returned (.bool r) ∧ Drawn0 w w' := by
 have H : ((impl_within.f a0 0 63).bind fun t617 => (some t617)) = some r := h
 clear h
 replace H := Option.bind_eq_some_iff.mp H
 obtain ⟨t617, A20, H⟩ := H
 replace H : (some t617) = some r := H
 have A2 := zK A20
 clear A20
 obtain rfl := Option.some.inj H
 go_enter Try.func134, Try.ntmps134
 go_wp2_with (first | ((with_reducible refine gate_callee (f := 84) rfl ?_); refine goesL_ (some 4) rfl rfl Try.func84 (by kernel_rfl) rfl #[.int .i64 a0, .int .i64 0, .int .i64 63] rfl (by (try simp only [z6, z7, z8]); first | done | rfl | (simp only [z4, z5]; rfl)) ?_; (with_reducible refine (impl_within.calls a0 0 63 t617 _ A2.out).mono ?_); rintro e w' ⟨rfl, ⟨nd, rfl⟩⟩; refine ⟨_, rfl, ?_⟩))
 go_ret
 exact ⟨by first | rfl | (simp; done) | (simp [*]; done), by repeat (first | exact Drawn0.refl _ | apply Drawn0.step)⟩

/-! ### impl_areRegs_c1: function 133 -/
def impl_areRegs_c1.f (a0 : Int) : Option (Bool) := (impl_isWord.f a0).bind fun t618 => (some (!t618))
set_option maxHeartbeats 8000000 in
set_option maxRecDepth 100000 in
theorem impl_areRegs_c1.calls (a0 : Int) (r : Bool) (w : World) (h : impl_areRegs_c1.f a0 = some r) :
  Calls Try.prog 133 #[.int .i64 a0] w fun e w' => e = .returned (.bool r) ∧ Drawn0 w w' := by
 have H : ((impl_isWord.f a0).bind fun t618 => (some (!t618))) = some r := h
 clear h
 replace H := Option.bind_eq_some_iff.mp H
 obtain ⟨t618, A20, H⟩ := H
 replace H : (some (!t618)) = some r := H
 have A2 := zK A20
 clear A20
 obtain rfl := Option.some.inj H
 go_enter Try.func133, Try.ntmps133
 go_wp2_with (first | ((with_reducible refine gate_callee (f := 134) rfl ?_); refine goesL_ (some 4) rfl rfl Try.func134 (by kernel_rfl) rfl #[.int .i64 a0] rfl (by (try simp only [z6, z7, z8]); first | done | rfl | (simp only [z4, z5]; rfl)) ?_; (with_reducible refine (impl_isWord.calls a0 t618 _ A2.out).mono ?_); rintro e w' ⟨rfl, ⟨nd, rfl⟩⟩; refine ⟨_, rfl, ?_⟩))
 go_ret
 exact ⟨by first | rfl | (simp; done) | (simp [*]; done), by repeat (first | exact Drawn0.refl _ | apply Drawn0.step)⟩

/-! ### slices_IndexFunc_int_int_impl_areRegs_c1: function 213 -/
def slices_IndexFunc_int_int_impl_areRegs_c1.l0 : Nat → List Int → Int → Int → Option (Int)
 | 0, _, _, _ => none
 | k + 1, x0, x7, x8 => if x8 < x7 then (if 0 ≤ x8 then (if x8 < (x0.length : Int) then ((impl_areRegs_c1.f (rd x0 x8)).bind fun t620 => (if t620 = true then (some x8) else (slices_IndexFunc_int_int_impl_areRegs_c1.l0 k x0 x7 (wrap64 (x8 + 1))))) else (none)) else (none)) else (some (-1))
def slices_IndexFunc_int_int_impl_areRegs_c1.f (k : Nat) (l0 : List Int) : Option (Int) := slices_IndexFunc_int_int_impl_areRegs_c1.l0 k l0 (l0.length : Int) 0
theorem slices_IndexFunc_int_int_impl_areRegs_c1.mono_l : ∀ k, (∀ y0 y1 y2, LeO (slices_IndexFunc_int_int_impl_areRegs_c1.l0 k y0 y1 y2) (slices_IndexFunc_int_int_impl_areRegs_c1.l0 (k + 1) y0 y1 y2))
 | 0 => fun _ _ _ r h => by simp [slices_IndexFunc_int_int_impl_areRegs_c1.l0] at h
 | k + 1 => by
  have ih0 := slices_IndexFunc_int_int_impl_areRegs_c1.mono_l k
  ·intro y0 y1 y2
   unfold slices_IndexFunc_int_int_impl_areRegs_c1.l0
   repeat' first
   | (with_reducible exact ih0 _ _ _)
   | (with_reducible exact LeO.refl _)
   | (with_reducible exact LeO.none _)
   | (with_reducible refine LeO.ite ?_ ?_)
   | (with_reducible refine LeO.bind ?_ (fun _ => ?_))
   | exact ih0 _ _ _
   | exact LeO.none _
   | refine LeO.ite ?_ ?_
   | refine LeO.bind ?_ (fun _ => ?_)
theorem slices_IndexFunc_int_int_impl_areRegs_c1.mono : ∀ a0 k, LeO (slices_IndexFunc_int_int_impl_areRegs_c1.f k a0) (slices_IndexFunc_int_int_impl_areRegs_c1.f (k + 1) a0) := by
 intro a0 k
 have ih0 := slices_IndexFunc_int_int_impl_areRegs_c1.mono_l k
 unfold slices_IndexFunc_int_int_impl_areRegs_c1.f
 repeat' first
   | (with_reducible exact ih0 _ _ _)
   | (with_reducible exact LeO.refl _)
   | (with_reducible exact LeO.none _)
   | (with_reducible refine LeO.ite ?_ ?_)
   | (with_reducible refine LeO.bind ?_ (fun _ => ?_))
   | exact ih0 _ _ _
   | exact LeO.none _
   | refine LeO.ite ?_ ?_
   | refine LeO.bind ?_ (fun _ => ?_)
set_option maxHeartbeats 8000000 in
set_option maxRecDepth 100000 in
theorem slices_IndexFunc_int_int_impl_areRegs_c1.calls (k : Nat) (A0 : Option Addr) (c0 : Nat) (l0 : List Int) (r : Int) (w : World) (hr0 : Kd.C (Kd.int .i64) w A0 l0.length l0) (hc0 : l0.length ≤ c0) (h : slices_IndexFunc_int_int_impl_areRegs_c1.f k l0 = some r) :
  Calls Try.prog 167 #[.slice A0 l0.length c0, .func (.func 133) #[] #[]] w fun e w' => e = .returned (.int .i64 r) ∧ Drawn0 w w' := by
 have HR0 := zK hr0
 have HC0 := zK hc0
 clear hr0 hc0
 have H : (slices_IndexFunc_int_int_impl_areRegs_c1.l0 k l0 (l0.length : Int) 0) = some r := h
 clear h
 have H' := zK H
 clear H
 go_enter Try.func167, Try.ntmps167
 go_wp2
 go_loopg [8] k (fun kq v8 w' => ∃ (x8_1 : Int), v8 = .int .i64 x8_1 ∧ Aside0 (slices_IndexFunc_int_int_impl_areRegs_c1.l0 kq l0 (l0.length : Int) x8_1 = some r) ∧ Aside0 (kq ≤ k) ∧ Drawn0 w w')
 case atStart => exact ⟨(0), (by first | rfl | (simp; done) | (simp [*]; done)), H', ⟨Nat.le_refl _⟩, by repeat (first | exact Drawn0.refl _ | apply Drawn0.step)⟩
 case round =>
  clear H'
  try clear c1
  obtain ⟨x8_1, rfl, HA, HK1, ⟨m1, rfl⟩⟩ := hrel
  cases gk with
  | zero => exact absurd HA.out (by simp [slices_IndexFunc_int_int_impl_areRegs_c1.l0])
  | succ k1 =>
   have H := HA.out
   clear HA
   simp only [slices_IndexFunc_int_int_impl_areRegs_c1.l0] at H
   by_cases c2 : x8_1 < (l0.length : Int)
   ·rw [if_pos c2] at H
    have c2b0 : decide (x8_1 < (l0.length : Int)) = true := decide_eq_true c2
    clear c2
    by_cases c3 : 0 ≤ x8_1
    ·rw [if_pos c3] at H
     have c3b0 : decide (0 ≤ x8_1) = true := decide_eq_true c3
     clear c3
     by_cases c4 : x8_1 < (l0.length : Int)
     ·rw [if_pos c4] at H
      have c4b0 : decide (x8_1 < (l0.length : Int)) = true := decide_eq_true c4
      clear c4
      replace H := Option.bind_eq_some_iff.mp H
      obtain ⟨t620, A50, H⟩ := H
      replace H : (if t620 = true then (some x8_1) else (slices_IndexFunc_int_int_impl_areRegs_c1.l0 k1 l0 (l0.length : Int) (wrap64 (x8_1 + 1)))) = some r := H
      have A5 := zK A50
      clear A50
      by_cases c6 : t620 = true
      ·subst c6
       rw [if_pos rfl] at H
       obtain rfl := Option.some.inj H
       have p619 : 0 ≤ (x8_1 : Int) := zo
       have q619 : x8_1 < (l0.length : Int) := zo
       obtain ⟨ad619, e619, hx619_0⟩ := Kd.at_int HR0.out x8_1 p619 q619
       cases e619
       replace p619 := eq_true p619
       replace q619 := eq_true q619
       go_wp2_with (first | (go_at_call 133; (with_reducible refine (impl_areRegs_c1.calls (rd l0 x8_1) true _ A5.out).mono ?_); rintro e w' ⟨rfl, ⟨nd, rfl⟩⟩))
       go_ret
       exact ⟨by first | rfl | (simp; done) | (simp [*]; done), by repeat (first | exact Drawn0.refl _ | apply Drawn0.step)⟩
      ·replace c6 := Bool.eq_false_iff.mpr c6
       subst c6
       rw [if_neg (show ¬ (false = true) by decide)] at H
       have H' := zK H
       clear H
       have p619 : 0 ≤ (x8_1 : Int) := zo
       have q619 : x8_1 < (l0.length : Int) := zo
       obtain ⟨ad619, e619, hx619_0⟩ := Kd.at_int HR0.out x8_1 p619 q619
       cases e619
       replace p619 := eq_true p619
       replace q619 := eq_true q619
       go_wp2_with (first | (go_at_call 133; (with_reducible refine (impl_areRegs_c1.calls (rd l0 x8_1) false _ A5.out).mono ?_); rintro e w' ⟨rfl, ⟨nd, rfl⟩⟩))
       go_roundg k1
       case measure => have := HK1.out; omega
       case rel => exact ⟨(wrap64 (x8_1 + 1)), (by first | rfl | (simp; done) | (simp [*]; done)), H', ⟨by have := HK1.out; omega⟩, by repeat (first | exact Drawn0.refl _ | apply Drawn0.step)⟩
     ·rw [if_neg c4] at H
      exact absurd H (by simp)
    ·rw [if_neg c3] at H
     exact absurd H (by simp)
   ·rw [if_neg c2] at H
    have c2b0 : decide (x8_1 < (l0.length : Int)) = false := decide_eq_false c2
    clear c2
    obtain rfl := Option.some.inj H
    go_wp2
    go_ret
    exact ⟨by first | rfl | (simp; done) | (simp [*]; done), by repeat (first | exact Drawn0.refl _ | apply Drawn0.step)⟩

/-! ### slices_ContainsFunc_int_int_impl_areRegs_c1: function 212 -/
def slices_ContainsFunc_int_int_impl_areRegs_c1.f (k : Nat) (l0 : List Int) : Option (Bool) := (slices_IndexFunc_int_int_impl_areRegs_c1.f k l0).bind fun t621 => (some (decide (t621 ≥ 0)))
theorem slices_ContainsFunc_int_int_impl_areRegs_c1.mono : ∀ a0 k, LeO (slices_ContainsFunc_int_int_impl_areRegs_c1.f k a0) (slices_ContainsFunc_int_int_impl_areRegs_c1.f (k + 1) a0) := by
 intro a0 k
 unfold slices_ContainsFunc_int_int_impl_areRegs_c1.f
 repeat' first
   | (with_reducible exact slices_IndexFunc_int_int_impl_areRegs_c1.mono _ _)
   | (with_reducible exact LeO.refl _)
   | (with_reducible exact LeO.none _)
   | (with_reducible refine LeO.ite ?_ ?_)
   | (with_reducible refine LeO.bind ?_ (fun _ => ?_))
   | exact slices_IndexFunc_int_int_impl_areRegs_c1.mono _ _
   | exact LeO.none _
   | refine LeO.ite ?_ ?_
   | refine LeO.bind ?_ (fun _ => ?_)
set_option maxHeartbeats 8000000 in
set_option maxRecDepth 100000 in
theorem slices_ContainsFunc_int_int_impl_areRegs_c1.calls (k : Nat) (A0 : Option Addr) (c0 : Nat) (l0 : List Int) (r : Bool) (w : World) (hr0 : Kd.C (Kd.int .i64) w A0 l0.length l0) (hc0 : l0.length ≤ c0) (h : slices_ContainsFunc_int_int_impl_areRegs_c1.f k l0 = some r) :
  Calls Try.prog 132 #[.slice A0 l0.length c0, .func (.func 133) #[] #[]] w fun e w' => e = .returned (.bool r) ∧ Drawn0 w w' := by
 have HR0 := zK hr0
 have HC0 := zK hc0
 clear hr0 hc0
 have H : ((slices_IndexFunc_int_int_impl_areRegs_c1.f k l0).bind fun t621 => (some (decide (t621 ≥ 0)))) = some r := h
 clear h
 replace H := Option.bind_eq_some_iff.mp H
 obtain ⟨t621, A20, H⟩ := H
 replace H : (some (decide (t621 ≥ 0))) = some r := H
 have A2 := zK A20
 clear A20
 obtain rfl := Option.some.inj H
 go_enter Try.func132, Try.ntmps132
 go_wp2_with (first | ((with_reducible refine gate_callee (f := 167) rfl ?_); refine goesL_ (some 7) rfl rfl Try.func167 (by kernel_rfl) rfl #[.slice A0 l0.length c0, .func (.func 133) #[] #[]] rfl (by (try simp only [z6, z7, z8]); first | done | rfl | (simp only [z4, z5]; rfl)) ?_; (with_reducible refine (slices_IndexFunc_int_int_impl_areRegs_c1.calls k _ _ l0 t621 _ ?side1 ?side2 A2.out).mono ?_); (case side1 => repeat (first | exact HR0.out | (with_reducible refine Kd.C_alloc ?_ _) | (with_reducible refine Kd.C_drewN ?_ _) | (with_reducible refine Kd.C_drew ?_))); (case side2 => exact HC0.out); rintro e w' ⟨rfl, ⟨nd, rfl⟩⟩; refine ⟨_, rfl, ?_⟩))
 go_ret
 exact ⟨by first | rfl | (simp; done) | (simp [*]; done), by repeat (first | exact Drawn0.refl _ | apply Drawn0.step)⟩

/-! ### impl_areRegs: function 78 -/
def impl_areRegs.f (k : Nat) (l0 : List Int) : Option (Bool) := if (l0.length : Int) = 6 then ((slices_ContainsFunc_int_int_impl_areRegs_c1.f k l0).bind fun t622 => (some (!t622))) else (some false)
theorem impl_areRegs.mono : ∀ a0 k, LeO (impl_areRegs.f k a0) (impl_areRegs.f (k + 1) a0) := by
 intro a0 k
 unfold impl_areRegs.f
 repeat' first
   | (with_reducible exact slices_ContainsFunc_int_int_impl_areRegs_c1.mono _ _)
   | (with_reducible exact LeO.refl _)
   | (with_reducible exact LeO.none _)
   | (with_reducible refine LeO.ite ?_ ?_)
   | (with_reducible refine LeO.bind ?_ (fun _ => ?_))
   | exact slices_ContainsFunc_int_int_impl_areRegs_c1.mono _ _
   | exact LeO.none _
   | refine LeO.ite ?_ ?_
   | refine LeO.bind ?_ (fun _ => ?_)
set_option maxHeartbeats 8000000 in
set_option maxRecDepth 100000 in
theorem impl_areRegs.calls (k : Nat) (A0 : Option Addr) (c0 : Nat) (l0 : List Int) (r : Bool) (w : World) (hr0 : Kd.C (Kd.int .i64) w A0 l0.length l0) (hc0 : l0.length ≤ c0) (h : impl_areRegs.f k l0 = some r) :
  Calls Try.prog 78 #[.slice A0 l0.length c0] w fun e w' => e = .returned (.bool r) ∧ Drawn0 w w' := by
 have HR0 := zK hr0
 have HC0 := zK hc0
 clear hr0 hc0
 have H : (if (l0.length : Int) = 6 then ((slices_ContainsFunc_int_int_impl_areRegs_c1.f k l0).bind fun t622 => (some (!t622))) else (some false)) = some r := h
 clear h
 by_cases c2 : (l0.length : Int) = 6
 ·rw [if_pos c2] at H
  have c2b0 : ((l0.length : Int) == 6) = true := beq_iff_eq.mpr c2
  have c2b1 : ((l0.length : Int) != 6) = false := bne_eq_false_iff_eq.mpr c2
  clear c2
  replace H := Option.bind_eq_some_iff.mp H
  obtain ⟨t622, A30, H⟩ := H
  replace H : (some (!t622)) = some r := H
  have A3 := zK A30
  clear A30
  obtain rfl := Option.some.inj H
  go_enter Try.func78, Try.ntmps78
  go_wp2_with (first | (go_at_call 132; (with_reducible refine (slices_ContainsFunc_int_int_impl_areRegs_c1.calls k _ _ l0 t622 _ ?side1 ?side2 A3.out).mono ?_); (case side1 => repeat (first | exact HR0.out | (with_reducible refine Kd.C_alloc ?_ _) | (with_reducible refine Kd.C_drewN ?_ _) | (with_reducible refine Kd.C_drew ?_))); (case side2 => exact HC0.out); rintro e w' ⟨rfl, ⟨nd, rfl⟩⟩))
  go_ret
  exact ⟨by first | rfl | (simp; done) | (simp [*]; done), by repeat (first | exact Drawn0.refl _ | apply Drawn0.step)⟩
 ·rw [if_neg c2] at H
  have c2b0 : ((l0.length : Int) == 6) = false := beq_eq_false_iff_ne.mpr c2
  have c2b1 : ((l0.length : Int) != 6) = true := bne_iff_ne.mpr c2
  obtain rfl := Option.some.inj H
  go_enter Try.func78, Try.ntmps78
  go_wp2
  go_ret
  exact ⟨by first | rfl | (simp; done) | (simp [*]; done), by repeat (first | exact Drawn0.refl _ | apply Drawn0.step)⟩

/-! ### impl_bit: function 166 -/
def impl_bit.f (a0 : Bool) : Option (Int) := if a0 = true then (some 1) else (some 0)
set_option maxHeartbeats 8000000 in
set_option maxRecDepth 100000 in
theorem impl_bit.calls (a0 : Bool) (r : Int) (w : World) (h : impl_bit.f a0 = some r) :
  Calls Try.prog 166 #[.bool a0] w fun e w' => e = .returned (.int .i64 r) ∧ Drawn0 w w' := by
 have H : (if a0 = true then (some 1) else (some 0)) = some r := h
 clear h
 by_cases c2 : a0 = true
 ·subst c2
  rw [if_pos rfl] at H
  obtain rfl := Option.some.inj H
  go_enter Try.func166, Try.ntmps166
  go_wp2
  go_ret
  exact ⟨by first | rfl | (simp; done) | (simp [*]; done), by repeat (first | exact Drawn0.refl _ | apply Drawn0.step)⟩
 ·replace c2 := Bool.eq_false_iff.mpr c2
  subst c2
  rw [if_neg (show ¬ (false = true) by decide)] at H
  obtain rfl := Option.some.inj H
  go_enter Try.func166, Try.ntmps166
  go_wp2
  go_ret
  exact ⟨by first | rfl | (simp; done) | (simp [*]; done), by repeat (first | exact Drawn0.refl _ | apply Drawn0.step)⟩

/-! ### impl_apply: function 128 -/
def impl_apply.f (a0 : ByteArray) (a1 : Int) (a2 : Int) : Option (Int) := if a0.toList = ([110, 111, 116] : List UInt8) then (some (Go.bits .and .i64 (wrap64 (63 - a1)) 63)) else (if a0.toList = ([110, 101, 103] : List UInt8) then (some (Go.bits .and .i64 (wrap64 (-a1)) 63)) else (if a0.toList = ([97, 100, 100] : List UInt8) then (some (Go.bits .and .i64 (wrap64 (a1 + a2)) 63)) else (if a0.toList = ([115, 117, 98] : List UInt8) then (some (Go.bits .and .i64 (wrap64 (a1 - a2)) 63)) else (if a0.toList = ([109, 117, 108] : List UInt8) then (some (Go.bits .and .i64 (wrap64 (a1 * a2)) 63)) else (if a0.toList = ([97, 110, 100] : List UInt8) then (some (Go.bits .and .i64 (Go.bits .and .i64 a1 a2) 63)) else (if a0.toList = ([111, 114] : List UInt8) then (some (Go.bits .and .i64 (Go.bits .or .i64 a1 a2) 63)) else (if a0.toList = ([120, 111, 114] : List UInt8) then (some (Go.bits .and .i64 (Go.bits .xor .i64 a1 a2) 63)) else (if a0.toList = ([115, 104, 108] : List UInt8) then (if a2 < 6 then (if 0 ≤ a2 then (some (Go.bits .and .i64 (shl .i64 a1 a2) 63)) else (none)) else (some (Go.bits .and .i64 0 63))) else (if a0.toList = ([115, 104, 114] : List UInt8) then (if a2 < 6 then (if 0 ≤ a2 then (some (Go.bits .and .i64 (shr .i64 a1 a2) 63)) else (none)) else (some (Go.bits .and .i64 0 63))) else (if a0.toList = ([108, 101, 115, 115] : List UInt8) then ((impl_bit.f (decide (a1 < a2))).bind fun t623 => (some (Go.bits .and .i64 t623 63))) else (if a0.toList = ([101, 113] : List UInt8) then ((impl_bit.f (a1 == a2)).bind fun t624 => (some (Go.bits .and .i64 t624 63))) else (some (Go.bits .and .i64 0 63)))))))))))))
set_option maxHeartbeats 8000000 in
set_option maxRecDepth 100000 in
theorem impl_apply.calls (a0 : ByteArray) (a1 : Int) (a2 : Int) (r : Int) (w : World) (h : impl_apply.f a0 a1 a2 = some r) :
  Calls Try.prog 128 #[.string a0, .int .i64 a1, .int .i64 a2] w fun e w' => e = .returned (.int .i64 r) ∧ Drawn0 w w' := by
 have H : (if a0.toList = ([110, 111, 116] : List UInt8) then (some (Go.bits .and .i64 (wrap64 (63 - a1)) 63)) else (if a0.toList = ([110, 101, 103] : List UInt8) then (some (Go.bits .and .i64 (wrap64 (-a1)) 63)) else (if a0.toList = ([97, 100, 100] : List UInt8) then (some (Go.bits .and .i64 (wrap64 (a1 + a2)) 63)) else (if a0.toList = ([115, 117, 98] : List UInt8) then (some (Go.bits .and .i64 (wrap64 (a1 - a2)) 63)) else (if a0.toList = ([109, 117, 108] : List UInt8) then (some (Go.bits .and .i64 (wrap64 (a1 * a2)) 63)) else (if a0.toList = ([97, 110, 100] : List UInt8) then (some (Go.bits .and .i64 (Go.bits .and .i64 a1 a2) 63)) else (if a0.toList = ([111, 114] : List UInt8) then (some (Go.bits .and .i64 (Go.bits .or .i64 a1 a2) 63)) else (if a0.toList = ([120, 111, 114] : List UInt8) then (some (Go.bits .and .i64 (Go.bits .xor .i64 a1 a2) 63)) else (if a0.toList = ([115, 104, 108] : List UInt8) then (if a2 < 6 then (if 0 ≤ a2 then (some (Go.bits .and .i64 (shl .i64 a1 a2) 63)) else (none)) else (some (Go.bits .and .i64 0 63))) else (if a0.toList = ([115, 104, 114] : List UInt8) then (if a2 < 6 then (if 0 ≤ a2 then (some (Go.bits .and .i64 (shr .i64 a1 a2) 63)) else (none)) else (some (Go.bits .and .i64 0 63))) else (if a0.toList = ([108, 101, 115, 115] : List UInt8) then ((impl_bit.f (decide (a1 < a2))).bind fun t623 => (some (Go.bits .and .i64 t623 63))) else (if a0.toList = ([101, 113] : List UInt8) then ((impl_bit.f (a1 == a2)).bind fun t624 => (some (Go.bits .and .i64 t624 63))) else (some (Go.bits .and .i64 0 63)))))))))))))) = some r := h
 clear h
 by_cases c4 : a0.toList = ([110, 111, 116] : List UInt8)
 ·rw [if_pos c4] at H
  have c4b0 : (a0.toList == ([110, 111, 116] : List UInt8)) = true := beq_iff_eq.mpr c4
  have c4b1 : (a0.toList != ([110, 111, 116] : List UInt8)) = false := bne_eq_false_iff_eq.mpr c4
  clear c4
  obtain rfl := Option.some.inj H
  go_enter Try.func128, Try.ntmps128
  go_wp2
  go_ret
  exact ⟨by first | rfl | (simp; done) | (simp [*]; done), by repeat (first | exact Drawn0.refl _ | apply Drawn0.step)⟩
 ·rw [if_neg c4] at H
  have c4b0 : (a0.toList == ([110, 111, 116] : List UInt8)) = false := beq_eq_false_iff_ne.mpr c4
  have c4b1 : (a0.toList != ([110, 111, 116] : List UInt8)) = true := bne_iff_ne.mpr c4
  by_cases c5 : a0.toList = ([110, 101, 103] : List UInt8)
  ·rw [if_pos c5] at H
   have c5b0 : (a0.toList == ([110, 101, 103] : List UInt8)) = true := beq_iff_eq.mpr c5
   have c5b1 : (a0.toList != ([110, 101, 103] : List UInt8)) = false := bne_eq_false_iff_eq.mpr c5
   clear c5
   obtain rfl := Option.some.inj H
   go_enter Try.func128, Try.ntmps128
   go_wp2
   go_ret
   exact ⟨by first | rfl | (simp; done) | (simp [*]; done), by repeat (first | exact Drawn0.refl _ | apply Drawn0.step)⟩
  ·rw [if_neg c5] at H
   have c5b0 : (a0.toList == ([110, 101, 103] : List UInt8)) = false := beq_eq_false_iff_ne.mpr c5
   have c5b1 : (a0.toList != ([110, 101, 103] : List UInt8)) = true := bne_iff_ne.mpr c5
   by_cases c6 : a0.toList = ([97, 100, 100] : List UInt8)
   ·rw [if_pos c6] at H
    have c6b0 : (a0.toList == ([97, 100, 100] : List UInt8)) = true := beq_iff_eq.mpr c6
    have c6b1 : (a0.toList != ([97, 100, 100] : List UInt8)) = false := bne_eq_false_iff_eq.mpr c6
    clear c6
    obtain rfl := Option.some.inj H
    go_enter Try.func128, Try.ntmps128
    go_wp2
    go_ret
    exact ⟨by first | rfl | (simp; done) | (simp [*]; done), by repeat (first | exact Drawn0.refl _ | apply Drawn0.step)⟩
   ·rw [if_neg c6] at H
    have c6b0 : (a0.toList == ([97, 100, 100] : List UInt8)) = false := beq_eq_false_iff_ne.mpr c6
    have c6b1 : (a0.toList != ([97, 100, 100] : List UInt8)) = true := bne_iff_ne.mpr c6
    by_cases c7 : a0.toList = ([115, 117, 98] : List UInt8)
    ·rw [if_pos c7] at H
     have c7b0 : (a0.toList == ([115, 117, 98] : List UInt8)) = true := beq_iff_eq.mpr c7
     have c7b1 : (a0.toList != ([115, 117, 98] : List UInt8)) = false := bne_eq_false_iff_eq.mpr c7
     clear c7
     obtain rfl := Option.some.inj H
     go_enter Try.func128, Try.ntmps128
     go_wp2
     go_ret
     exact ⟨by first | rfl | (simp; done) | (simp [*]; done), by repeat (first | exact Drawn0.refl _ | apply Drawn0.step)⟩
    ·rw [if_neg c7] at H
     have c7b0 : (a0.toList == ([115, 117, 98] : List UInt8)) = false := beq_eq_false_iff_ne.mpr c7
     have c7b1 : (a0.toList != ([115, 117, 98] : List UInt8)) = true := bne_iff_ne.mpr c7
     by_cases c8 : a0.toList = ([109, 117, 108] : List UInt8)
     ·rw [if_pos c8] at H
      have c8b0 : (a0.toList == ([109, 117, 108] : List UInt8)) = true := beq_iff_eq.mpr c8
      have c8b1 : (a0.toList != ([109, 117, 108] : List UInt8)) = false := bne_eq_false_iff_eq.mpr c8
      clear c8
      obtain rfl := Option.some.inj H
      go_enter Try.func128, Try.ntmps128
      go_wp2
      go_ret
      exact ⟨by first | rfl | (simp; done) | (simp [*]; done), by repeat (first | exact Drawn0.refl _ | apply Drawn0.step)⟩
     ·rw [if_neg c8] at H
      have c8b0 : (a0.toList == ([109, 117, 108] : List UInt8)) = false := beq_eq_false_iff_ne.mpr c8
      have c8b1 : (a0.toList != ([109, 117, 108] : List UInt8)) = true := bne_iff_ne.mpr c8
      by_cases c9 : a0.toList = ([97, 110, 100] : List UInt8)
      ·rw [if_pos c9] at H
       have c9b0 : (a0.toList == ([97, 110, 100] : List UInt8)) = true := beq_iff_eq.mpr c9
       have c9b1 : (a0.toList != ([97, 110, 100] : List UInt8)) = false := bne_eq_false_iff_eq.mpr c9
       clear c9
       obtain rfl := Option.some.inj H
       go_enter Try.func128, Try.ntmps128
       go_wp2
       go_ret
       exact ⟨by first | rfl | (simp; done) | (simp [*]; done), by repeat (first | exact Drawn0.refl _ | apply Drawn0.step)⟩
      ·rw [if_neg c9] at H
       have c9b0 : (a0.toList == ([97, 110, 100] : List UInt8)) = false := beq_eq_false_iff_ne.mpr c9
       have c9b1 : (a0.toList != ([97, 110, 100] : List UInt8)) = true := bne_iff_ne.mpr c9
       by_cases c10 : a0.toList = ([111, 114] : List UInt8)
       ·rw [if_pos c10] at H
        have c10b0 : (a0.toList == ([111, 114] : List UInt8)) = true := beq_iff_eq.mpr c10
        have c10b1 : (a0.toList != ([111, 114] : List UInt8)) = false := bne_eq_false_iff_eq.mpr c10
        clear c10
        obtain rfl := Option.some.inj H
        go_enter Try.func128, Try.ntmps128
        go_wp2
        go_ret
        exact ⟨by first | rfl | (simp; done) | (simp [*]; done), by repeat (first | exact Drawn0.refl _ | apply Drawn0.step)⟩
       ·rw [if_neg c10] at H
        have c10b0 : (a0.toList == ([111, 114] : List UInt8)) = false := beq_eq_false_iff_ne.mpr c10
        have c10b1 : (a0.toList != ([111, 114] : List UInt8)) = true := bne_iff_ne.mpr c10
        by_cases c11 : a0.toList = ([120, 111, 114] : List UInt8)
        ·rw [if_pos c11] at H
         have c11b0 : (a0.toList == ([120, 111, 114] : List UInt8)) = true := beq_iff_eq.mpr c11
         have c11b1 : (a0.toList != ([120, 111, 114] : List UInt8)) = false := bne_eq_false_iff_eq.mpr c11
         clear c11
         obtain rfl := Option.some.inj H
         go_enter Try.func128, Try.ntmps128
         go_wp2
         go_ret
         exact ⟨by first | rfl | (simp; done) | (simp [*]; done), by repeat (first | exact Drawn0.refl _ | apply Drawn0.step)⟩
        ·rw [if_neg c11] at H
         have c11b0 : (a0.toList == ([120, 111, 114] : List UInt8)) = false := beq_eq_false_iff_ne.mpr c11
         have c11b1 : (a0.toList != ([120, 111, 114] : List UInt8)) = true := bne_iff_ne.mpr c11
         by_cases c12 : a0.toList = ([115, 104, 108] : List UInt8)
         ·rw [if_pos c12] at H
          have c12b0 : (a0.toList == ([115, 104, 108] : List UInt8)) = true := beq_iff_eq.mpr c12
          have c12b1 : (a0.toList != ([115, 104, 108] : List UInt8)) = false := bne_eq_false_iff_eq.mpr c12
          clear c12
          by_cases c13 : a2 < 6
          ·rw [if_pos c13] at H
           have c13b0 : decide (a2 < 6) = true := decide_eq_true c13
           clear c13
           by_cases c14 : 0 ≤ a2
           ·rw [if_pos c14] at H
            have c14b0 := eq_true c14
            have c14b1 : decide (0 ≤ a2) = true := decide_eq_true c14
            clear c14
            obtain ⟨ji15, hji15⟩ : ∃ j_ : Int, (shl .i64 a1 a2) = j_ := ⟨_, rfl⟩
            replace H : (some (Go.bits .and .i64 (ji15) 63)) = some r := by first | (rw [hji15] at H; exact H) | (simp only [hji15] at H ⊢; exact H)
            have hji15_ : (IntKind.i64.wrap (a1 * 2 ^ min a2.toNat 64)) = ji15 := hji15
            have hji15z : a2 ≤ 64 → (IntKind.i64.wrap (a1 * 2 ^ a2.toNat)) = ji15 := shl_small hji15
            have hji15y : (wrap64 (a1 * 2 ^ min a2.toNat 64)) = ji15 := (i64_w _).symm.trans hji15_
            have hji15x : a2 ≤ 64 → (wrap64 (a1 * 2 ^ a2.toNat)) = ji15 := fun h_ => (i64_w _).symm.trans (hji15z h_)
            obtain rfl := Option.some.inj H
            go_enter Try.func128, Try.ntmps128
            go_wp2
            go_ret
            exact ⟨by first | rfl | (simp; done) | (simp only [← hji15] <;> (first | rfl | simp)) | (simp [*]; done), by repeat (first | exact Drawn0.refl _ | apply Drawn0.step)⟩
           ·rw [if_neg c14] at H
            exact absurd H (by simp)
          ·rw [if_neg c13] at H
           have c13b0 : decide (a2 < 6) = false := decide_eq_false c13
           clear c13
           obtain rfl := Option.some.inj H
           go_enter Try.func128, Try.ntmps128
           go_wp2
           go_ret
           exact ⟨by first | rfl | (simp; done) | (simp [*]; done), by repeat (first | exact Drawn0.refl _ | apply Drawn0.step)⟩
         ·rw [if_neg c12] at H
          have c12b0 : (a0.toList == ([115, 104, 108] : List UInt8)) = false := beq_eq_false_iff_ne.mpr c12
          have c12b1 : (a0.toList != ([115, 104, 108] : List UInt8)) = true := bne_iff_ne.mpr c12
          by_cases c16 : a0.toList = ([115, 104, 114] : List UInt8)
          ·rw [if_pos c16] at H
           have c16b0 : (a0.toList == ([115, 104, 114] : List UInt8)) = true := beq_iff_eq.mpr c16
           have c16b1 : (a0.toList != ([115, 104, 114] : List UInt8)) = false := bne_eq_false_iff_eq.mpr c16
           clear c16
           by_cases c17 : a2 < 6
           ·rw [if_pos c17] at H
            have c17b0 : decide (a2 < 6) = true := decide_eq_true c17
            clear c17
            by_cases c18 : 0 ≤ a2
            ·rw [if_pos c18] at H
             have c18b0 := eq_true c18
             have c18b1 : decide (0 ≤ a2) = true := decide_eq_true c18
             clear c18
             obtain ⟨ji19, hji19⟩ : ∃ j_ : Int, (shr .i64 a1 a2) = j_ := ⟨_, rfl⟩
             replace H : (some (Go.bits .and .i64 (ji19) 63)) = some r := by first | (rw [hji19] at H; exact H) | (simp only [hji19] at H ⊢; exact H)
             have hji19_ : (a1 / 2 ^ min a2.toNat 64) = ji19 := hji19
             have hji19z : a2 ≤ 64 → (a1 / 2 ^ a2.toNat) = ji19 := shr_small hji19
             obtain rfl := Option.some.inj H
             go_enter Try.func128, Try.ntmps128
             go_wp2
             go_ret
             exact ⟨by first | rfl | (simp; done) | (simp only [← hji19] <;> (first | rfl | simp)) | (simp [*]; done), by repeat (first | exact Drawn0.refl _ | apply Drawn0.step)⟩
            ·rw [if_neg c18] at H
             exact absurd H (by simp)
           ·rw [if_neg c17] at H
            have c17b0 : decide (a2 < 6) = false := decide_eq_false c17
            clear c17
            obtain rfl := Option.some.inj H
            go_enter Try.func128, Try.ntmps128
            go_wp2
            go_ret
            exact ⟨by first | rfl | (simp; done) | (simp [*]; done), by repeat (first | exact Drawn0.refl _ | apply Drawn0.step)⟩
          ·rw [if_neg c16] at H
           have c16b0 : (a0.toList == ([115, 104, 114] : List UInt8)) = false := beq_eq_false_iff_ne.mpr c16
           have c16b1 : (a0.toList != ([115, 104, 114] : List UInt8)) = true := bne_iff_ne.mpr c16
           by_cases c20 : a0.toList = ([108, 101, 115, 115] : List UInt8)
           ·rw [if_pos c20] at H
            have c20b0 : (a0.toList == ([108, 101, 115, 115] : List UInt8)) = true := beq_iff_eq.mpr c20
            have c20b1 : (a0.toList != ([108, 101, 115, 115] : List UInt8)) = false := bne_eq_false_iff_eq.mpr c20
            clear c20
            replace H := Option.bind_eq_some_iff.mp H
            obtain ⟨t623, A210, H⟩ := H
            replace H : (some (Go.bits .and .i64 t623 63)) = some r := H
            have A21 := zK A210
            clear A210
            obtain rfl := Option.some.inj H
            go_enter Try.func128, Try.ntmps128
            go_wp2_with (first | ((with_reducible refine gate_callee (f := 166) rfl ?_); refine goesL_ (some 66) rfl rfl Try.func166 (by kernel_rfl) rfl #[.bool (decide (a1 < a2))] rfl (by (try simp only [z6, z7, z8]); first | done | rfl | (simp only [z4, z5]; rfl)) ?_; (with_reducible refine (impl_bit.calls (decide (a1 < a2)) t623 _ A21.out).mono ?_); rintro e w' ⟨rfl, ⟨nd, rfl⟩⟩; refine ⟨_, rfl, ?_⟩))
            go_ret
            exact ⟨by first | rfl | (simp; done) | (simp [*]; done), by repeat (first | exact Drawn0.refl _ | apply Drawn0.step)⟩
           ·rw [if_neg c20] at H
            have c20b0 : (a0.toList == ([108, 101, 115, 115] : List UInt8)) = false := beq_eq_false_iff_ne.mpr c20
            have c20b1 : (a0.toList != ([108, 101, 115, 115] : List UInt8)) = true := bne_iff_ne.mpr c20
            by_cases c22 : a0.toList = ([101, 113] : List UInt8)
            ·rw [if_pos c22] at H
             have c22b0 : (a0.toList == ([101, 113] : List UInt8)) = true := beq_iff_eq.mpr c22
             have c22b1 : (a0.toList != ([101, 113] : List UInt8)) = false := bne_eq_false_iff_eq.mpr c22
             clear c22
             replace H := Option.bind_eq_some_iff.mp H
             obtain ⟨t624, A230, H⟩ := H
             replace H : (some (Go.bits .and .i64 t624 63)) = some r := H
             have A23 := zK A230
             clear A230
             obtain rfl := Option.some.inj H
             go_enter Try.func128, Try.ntmps128
             go_wp2_with (first | ((with_reducible refine gate_callee (f := 166) rfl ?_); refine goesL_ (some 72) rfl rfl Try.func166 (by kernel_rfl) rfl #[.bool (a1 == a2)] rfl (by (try simp only [z6, z7, z8]); first | done | rfl | (simp only [z4, z5]; rfl)) ?_; (with_reducible refine (impl_bit.calls (a1 == a2) t624 _ A23.out).mono ?_); rintro e w' ⟨rfl, ⟨nd, rfl⟩⟩; refine ⟨_, rfl, ?_⟩))
             go_ret
             exact ⟨by first | rfl | (simp; done) | (simp [*]; done), by repeat (first | exact Drawn0.refl _ | apply Drawn0.step)⟩
            ·rw [if_neg c22] at H
             have c22b0 : (a0.toList == ([101, 113] : List UInt8)) = false := beq_eq_false_iff_ne.mpr c22
             have c22b1 : (a0.toList != ([101, 113] : List UInt8)) = true := bne_iff_ne.mpr c22
             obtain rfl := Option.some.inj H
             go_enter Try.func128, Try.ntmps128
             go_wp2
             go_ret
             exact ⟨by first | rfl | (simp; done) | (simp [*]; done), by repeat (first | exact Drawn0.refl _ | apply Drawn0.step)⟩

/-! ### impl_Instr_word: function 135 -/
def impl_Instr_word.j0 : Nat → Int → Int → Bool → ByteArray → Int → Int → Int → Int → Option (Int)
 | 0, _, _, _, _, _, _, _, _ => none
 | k + 1, x1, x2, x24, x626000, x626001, x626002, x626003, x626004 => if x24 = true then (if 0 ≤ 3 then (if 3 ≤ (x626000.size : Int) then ((impl_apply.f (x626000.extract 0 3) x1 x626004).bind fun t628 => (some t628)) else (none)) else (none)) else ((impl_apply.f x626000 x1 x2).bind fun t629 => (some t629))
def impl_Instr_word.f (k : Nat) (a0_0 : ByteArray) (a0_1 : Int) (a0_2 : Int) (a0_3 : Int) (a0_4 : Int) (a1 : Int) (a2 : Int) : Option (Int) := if a0_0.toList = ([115, 101, 116] : List UInt8) then (some a0_4) else (if a0_0.toList = ([109, 111, 118] : List UInt8) then (some a1) else (if a0_0.toList = ([108, 101, 97] : List UInt8) then ((impl_apply.f (⟨#[115, 104, 108]⟩ : ByteArray) a2 a0_4).bind fun t626 => ((impl_apply.f (⟨#[97, 100, 100]⟩ : ByteArray) a1 t626).bind fun t627 => (some t627))) else (if a0_0.toList = ([97, 100, 100, 105] : List UInt8) then (impl_Instr_word.j0 k a1 a2 (a0_0.toList == ([97, 100, 100, 105] : List UInt8)) a0_0 a0_1 a0_2 a0_3 a0_4) else (if a0_0.toList = ([97, 110, 100, 105] : List UInt8) then (impl_Instr_word.j0 k a1 a2 (a0_0.toList == ([97, 110, 100, 105] : List UInt8)) a0_0 a0_1 a0_2 a0_3 a0_4) else (if a0_0.toList = ([120, 111, 114, 105] : List UInt8) then (impl_Instr_word.j0 k a1 a2 (a0_0.toList == ([120, 111, 114, 105] : List UInt8)) a0_0 a0_1 a0_2 a0_3 a0_4) else (if a0_0.toList = ([115, 104, 108, 105] : List UInt8) then (impl_Instr_word.j0 k a1 a2 (a0_0.toList == ([115, 104, 108, 105] : List UInt8)) a0_0 a0_1 a0_2 a0_3 a0_4) else (impl_Instr_word.j0 k a1 a2 (a0_0.toList == ([115, 104, 114, 105] : List UInt8)) a0_0 a0_1 a0_2 a0_3 a0_4)))))))
theorem impl_Instr_word.mono_l : ∀ k, (∀ y0 y1 y2 y3 y4 y5 y6 y7, LeO (impl_Instr_word.j0 k y0 y1 y2 y3 y4 y5 y6 y7) (impl_Instr_word.j0 (k + 1) y0 y1 y2 y3 y4 y5 y6 y7))
 | 0 => fun _ _ _ _ _ _ _ _ r h => by simp [impl_Instr_word.j0] at h
 | k + 1 => by
  have ih0 := impl_Instr_word.mono_l k
  ·intro y0 y1 y2 y3 y4 y5 y6 y7
   unfold impl_Instr_word.j0
   repeat' first
   | (with_reducible exact ih0 _ _ _ _ _ _ _ _)
   | (with_reducible exact LeO.refl _)
   | (with_reducible exact LeO.none _)
   | (with_reducible refine LeO.ite ?_ ?_)
   | (with_reducible refine LeO.bind ?_ (fun _ => ?_))
   | exact ih0 _ _ _ _ _ _ _ _
   | exact LeO.none _
   | refine LeO.ite ?_ ?_
   | refine LeO.bind ?_ (fun _ => ?_)
theorem impl_Instr_word.mono : ∀ a0 a1 a2 a3 a4 a5 a6 k, LeO (impl_Instr_word.f k a0 a1 a2 a3 a4 a5 a6) (impl_Instr_word.f (k + 1) a0 a1 a2 a3 a4 a5 a6) := by
 intro a0 a1 a2 a3 a4 a5 a6 k
 have ih0 := impl_Instr_word.mono_l k
 unfold impl_Instr_word.f
 repeat' first
   | (with_reducible exact ih0 _ _ _ _ _ _ _ _)
   | (with_reducible exact LeO.refl _)
   | (with_reducible exact LeO.none _)
   | (with_reducible refine LeO.ite ?_ ?_)
   | (with_reducible refine LeO.bind ?_ (fun _ => ?_))
   | exact ih0 _ _ _ _ _ _ _ _
   | exact LeO.none _
   | refine LeO.ite ?_ ?_
   | refine LeO.bind ?_ (fun _ => ?_)
set_option maxHeartbeats 8000000 in
set_option maxRecDepth 100000 in
theorem impl_Instr_word.calls (k : Nat) (a0_0 : ByteArray) (a0_1 : Int) (a0_2 : Int) (a0_3 : Int) (a0_4 : Int) (a1 : Int) (a2 : Int) (r : Int) (w : World) (h : impl_Instr_word.f k a0_0 a0_1 a0_2 a0_3 a0_4 a1 a2 = some r) :
  Calls Try.prog 135 #[.agg #[.string a0_0, .int .i64 a0_1, .int .i64 a0_2, .int .i64 a0_3, .int .i64 a0_4], .int .i64 a1, .int .i64 a2] w fun e w' => e = .returned (.int .i64 r) ∧ Below w.heap.size w w' := by
 have hu67 := Try.underlying67
 have HB := zK (Below.refl w.heap.size w)
 have H : (if a0_0.toList = ([115, 101, 116] : List UInt8) then (some a0_4) else (if a0_0.toList = ([109, 111, 118] : List UInt8) then (some a1) else (if a0_0.toList = ([108, 101, 97] : List UInt8) then ((impl_apply.f (⟨#[115, 104, 108]⟩ : ByteArray) a2 a0_4).bind fun t626 => ((impl_apply.f (⟨#[97, 100, 100]⟩ : ByteArray) a1 t626).bind fun t627 => (some t627))) else (if a0_0.toList = ([97, 100, 100, 105] : List UInt8) then (impl_Instr_word.j0 k a1 a2 (a0_0.toList == ([97, 100, 100, 105] : List UInt8)) a0_0 a0_1 a0_2 a0_3 a0_4) else (if a0_0.toList = ([97, 110, 100, 105] : List UInt8) then (impl_Instr_word.j0 k a1 a2 (a0_0.toList == ([97, 110, 100, 105] : List UInt8)) a0_0 a0_1 a0_2 a0_3 a0_4) else (if a0_0.toList = ([120, 111, 114, 105] : List UInt8) then (impl_Instr_word.j0 k a1 a2 (a0_0.toList == ([120, 111, 114, 105] : List UInt8)) a0_0 a0_1 a0_2 a0_3 a0_4) else (if a0_0.toList = ([115, 104, 108, 105] : List UInt8) then (impl_Instr_word.j0 k a1 a2 (a0_0.toList == ([115, 104, 108, 105] : List UInt8)) a0_0 a0_1 a0_2 a0_3 a0_4) else (impl_Instr_word.j0 k a1 a2 (a0_0.toList == ([115, 104, 114, 105] : List UInt8)) a0_0 a0_1 a0_2 a0_3 a0_4)))))))) = some r := h
 clear h
 by_cases c4 : a0_0.toList = ([115, 101, 116] : List UInt8)
 ·rw [if_pos c4] at H
  have c4b0 : (a0_0.toList == ([115, 101, 116] : List UInt8)) = true := beq_iff_eq.mpr c4
  have c4b1 : (a0_0.toList != ([115, 101, 116] : List UInt8)) = false := bne_eq_false_iff_eq.mpr c4
  clear c4
  obtain rfl := Option.some.inj H
  go_enter Try.func135, Try.ntmps135
  go_wp2_with (first | ((with_reducible refine gate_dst (N := 3) rfl ?_); refine box_event ?hg (N := 3) ?hd (cs := #[.string a0_0, .int .i64 a0_1, .int .i64 a0_2, .int .i64 a0_3, .int .i64 a0_4]) (t := 67) ?hr ?_; (case hd => rfl); (case hg => rfl); (case hr => first | (go_simp; done) | (go_simp; rfl)); intro gb625 hg w5 hbox hb; have n0_ := zK (zL (by repeat (first | (with_reducible first | exact HB.out | apply zA | apply zB | apply zC) | exact HB.out)) hb); have n1_ := zK (hbox); have n2_ := zK ((by rw [hg]; exact (zN (by repeat (first | (with_reducible first | exact HB.out | apply zA | apply zB | apply zC) | exact HB.out))) : w.heap.size ≤ gb625)); have n3_ := n2_; clear HB; have HB := n0_; have BK625 := n1_; have GW625 := n2_; have GE625 := n3_; clear n0_ n1_ n2_ n3_; clear hb hbox hg; have hcz6_0 : w5.cell? ⟨gb625, 0, none⟩ = some (.string a0_0) := (zI BK625.out 0).trans rfl; have hcz6_1 : w5.cell? ⟨gb625, 1, none⟩ = some (.int .i64 a0_1) := (zI BK625.out 1).trans rfl; have hcz6_2 : w5.cell? ⟨gb625, 2, none⟩ = some (.int .i64 a0_2) := (zI BK625.out 2).trans rfl; have hcz6_3 : w5.cell? ⟨gb625, 3, none⟩ = some (.int .i64 a0_3) := (zI BK625.out 3).trans rfl; have hcz6_4 : w5.cell? ⟨gb625, 4, none⟩ = some (.int .i64 a0_4) := (zI BK625.out 4).trans rfl; have hfz6_0 := zH BK625.out 0; have hfz6_1 := zH BK625.out 1; have hfz6_2 := zH BK625.out 2; have hfz6_3 := zH BK625.out 3; have hfz6_4 := zH BK625.out 4))
  repeat (go_quiet (first | ((with_reducible refine gate_dst (N := 3) rfl ?_); refine box_event ?hg (N := 3) ?hd (cs := #[.string a0_0, .int .i64 a0_1, .int .i64 a0_2, .int .i64 a0_3, .int .i64 a0_4]) (t := 67) ?hr ?_; (case hd => rfl); (case hg => rfl); (case hr => first | (go_simp; done) | (go_simp; rfl)); intro gb625 hg w5 hbox hb; have n0_ := zK (zL (by repeat (first | (with_reducible first | exact HB.out | apply zA | apply zB | apply zC) | exact HB.out)) hb); have n1_ := zK (hbox); have n2_ := zK ((by rw [hg]; exact (zN (by repeat (first | (with_reducible first | exact HB.out | apply zA | apply zB | apply zC) | exact HB.out))) : w.heap.size ≤ gb625)); have n3_ := n2_; clear HB; have HB := n0_; have BK625 := n1_; have GW625 := n2_; have GE625 := n3_; clear n0_ n1_ n2_ n3_; clear hb hbox hg; have hcz6_0 : w5.cell? ⟨gb625, 0, none⟩ = some (.string a0_0) := (zI BK625.out 0).trans rfl; have hcz6_1 : w5.cell? ⟨gb625, 1, none⟩ = some (.int .i64 a0_1) := (zI BK625.out 1).trans rfl; have hcz6_2 : w5.cell? ⟨gb625, 2, none⟩ = some (.int .i64 a0_2) := (zI BK625.out 2).trans rfl; have hcz6_3 : w5.cell? ⟨gb625, 3, none⟩ = some (.int .i64 a0_3) := (zI BK625.out 3).trans rfl; have hcz6_4 : w5.cell? ⟨gb625, 4, none⟩ = some (.int .i64 a0_4) := (zI BK625.out 4).trans rfl; have hfz6_0 := zH BK625.out 0; have hfz6_1 := zH BK625.out 1; have hfz6_2 := zH BK625.out 2; have hfz6_3 := zH BK625.out 3; have hfz6_4 := zH BK625.out 4)); try go_wp2_with (first | ((with_reducible refine gate_dst (N := 3) rfl ?_); refine box_event ?hg (N := 3) ?hd (cs := #[.string a0_0, .int .i64 a0_1, .int .i64 a0_2, .int .i64 a0_3, .int .i64 a0_4]) (t := 67) ?hr ?_; (case hd => rfl); (case hg => rfl); (case hr => first | (go_simp; done) | (go_simp; rfl)); intro gb625 hg w5 hbox hb; have n0_ := zK (zL (by repeat (first | (with_reducible first | exact HB.out | apply zA | apply zB | apply zC) | exact HB.out)) hb); have n1_ := zK (hbox); have n2_ := zK ((by rw [hg]; exact (zN (by repeat (first | (with_reducible first | exact HB.out | apply zA | apply zB | apply zC) | exact HB.out))) : w.heap.size ≤ gb625)); have n3_ := n2_; clear HB; have HB := n0_; have BK625 := n1_; have GW625 := n2_; have GE625 := n3_; clear n0_ n1_ n2_ n3_; clear hb hbox hg; have hcz6_0 : w5.cell? ⟨gb625, 0, none⟩ = some (.string a0_0) := (zI BK625.out 0).trans rfl; have hcz6_1 : w5.cell? ⟨gb625, 1, none⟩ = some (.int .i64 a0_1) := (zI BK625.out 1).trans rfl; have hcz6_2 : w5.cell? ⟨gb625, 2, none⟩ = some (.int .i64 a0_2) := (zI BK625.out 2).trans rfl; have hcz6_3 : w5.cell? ⟨gb625, 3, none⟩ = some (.int .i64 a0_3) := (zI BK625.out 3).trans rfl; have hcz6_4 : w5.cell? ⟨gb625, 4, none⟩ = some (.int .i64 a0_4) := (zI BK625.out 4).trans rfl; have hfz6_0 := zH BK625.out 0; have hfz6_1 := zH BK625.out 1; have hfz6_2 := zH BK625.out 2; have hfz6_3 := zH BK625.out 3; have hfz6_4 := zH BK625.out 4)))
  go_ret
  exact ⟨by first | rfl | (simp [errW_none, errW_some] <;> rfl) | (simp [*, errW_none, errW_some] <;> rfl), by repeat (first | (with_reducible first | exact HB.out | apply zA | apply zB | apply zC | refine zD ?_ GE625.out) | exact HB.out)⟩
 ·rw [if_neg c4] at H
  have c4b0 : (a0_0.toList == ([115, 101, 116] : List UInt8)) = false := beq_eq_false_iff_ne.mpr c4
  have c4b1 : (a0_0.toList != ([115, 101, 116] : List UInt8)) = true := bne_iff_ne.mpr c4
  by_cases c7 : a0_0.toList = ([109, 111, 118] : List UInt8)
  ·rw [if_pos c7] at H
   have c7b0 : (a0_0.toList == ([109, 111, 118] : List UInt8)) = true := beq_iff_eq.mpr c7
   have c7b1 : (a0_0.toList != ([109, 111, 118] : List UInt8)) = false := bne_eq_false_iff_eq.mpr c7
   clear c7
   obtain rfl := Option.some.inj H
   go_enter Try.func135, Try.ntmps135
   go_wp2_with (first | ((with_reducible refine gate_dst (N := 3) rfl ?_); refine box_event ?hg (N := 3) ?hd (cs := #[.string a0_0, .int .i64 a0_1, .int .i64 a0_2, .int .i64 a0_3, .int .i64 a0_4]) (t := 67) ?hr ?_; (case hd => rfl); (case hg => rfl); (case hr => first | (go_simp; done) | (go_simp; rfl)); intro gb625 hg w8 hbox hb; have n0_ := zK (zL (by repeat (first | (with_reducible first | exact HB.out | apply zA | apply zB | apply zC) | exact HB.out)) hb); have n1_ := zK (hbox); have n2_ := zK ((by rw [hg]; exact (zN (by repeat (first | (with_reducible first | exact HB.out | apply zA | apply zB | apply zC) | exact HB.out))) : w.heap.size ≤ gb625)); have n3_ := n2_; clear HB; have HB := n0_; have BK625 := n1_; have GW625 := n2_; have GE625 := n3_; clear n0_ n1_ n2_ n3_; clear hb hbox hg; have hcz9_0 : w8.cell? ⟨gb625, 0, none⟩ = some (.string a0_0) := (zI BK625.out 0).trans rfl; have hcz9_1 : w8.cell? ⟨gb625, 1, none⟩ = some (.int .i64 a0_1) := (zI BK625.out 1).trans rfl; have hcz9_2 : w8.cell? ⟨gb625, 2, none⟩ = some (.int .i64 a0_2) := (zI BK625.out 2).trans rfl; have hcz9_3 : w8.cell? ⟨gb625, 3, none⟩ = some (.int .i64 a0_3) := (zI BK625.out 3).trans rfl; have hcz9_4 : w8.cell? ⟨gb625, 4, none⟩ = some (.int .i64 a0_4) := (zI BK625.out 4).trans rfl; have hfz9_0 := zH BK625.out 0; have hfz9_1 := zH BK625.out 1; have hfz9_2 := zH BK625.out 2; have hfz9_3 := zH BK625.out 3; have hfz9_4 := zH BK625.out 4))
   repeat (go_quiet (first | ((with_reducible refine gate_dst (N := 3) rfl ?_); refine box_event ?hg (N := 3) ?hd (cs := #[.string a0_0, .int .i64 a0_1, .int .i64 a0_2, .int .i64 a0_3, .int .i64 a0_4]) (t := 67) ?hr ?_; (case hd => rfl); (case hg => rfl); (case hr => first | (go_simp; done) | (go_simp; rfl)); intro gb625 hg w8 hbox hb; have n0_ := zK (zL (by repeat (first | (with_reducible first | exact HB.out | apply zA | apply zB | apply zC) | exact HB.out)) hb); have n1_ := zK (hbox); have n2_ := zK ((by rw [hg]; exact (zN (by repeat (first | (with_reducible first | exact HB.out | apply zA | apply zB | apply zC) | exact HB.out))) : w.heap.size ≤ gb625)); have n3_ := n2_; clear HB; have HB := n0_; have BK625 := n1_; have GW625 := n2_; have GE625 := n3_; clear n0_ n1_ n2_ n3_; clear hb hbox hg; have hcz9_0 : w8.cell? ⟨gb625, 0, none⟩ = some (.string a0_0) := (zI BK625.out 0).trans rfl; have hcz9_1 : w8.cell? ⟨gb625, 1, none⟩ = some (.int .i64 a0_1) := (zI BK625.out 1).trans rfl; have hcz9_2 : w8.cell? ⟨gb625, 2, none⟩ = some (.int .i64 a0_2) := (zI BK625.out 2).trans rfl; have hcz9_3 : w8.cell? ⟨gb625, 3, none⟩ = some (.int .i64 a0_3) := (zI BK625.out 3).trans rfl; have hcz9_4 : w8.cell? ⟨gb625, 4, none⟩ = some (.int .i64 a0_4) := (zI BK625.out 4).trans rfl; have hfz9_0 := zH BK625.out 0; have hfz9_1 := zH BK625.out 1; have hfz9_2 := zH BK625.out 2; have hfz9_3 := zH BK625.out 3; have hfz9_4 := zH BK625.out 4)); try go_wp2_with (first | ((with_reducible refine gate_dst (N := 3) rfl ?_); refine box_event ?hg (N := 3) ?hd (cs := #[.string a0_0, .int .i64 a0_1, .int .i64 a0_2, .int .i64 a0_3, .int .i64 a0_4]) (t := 67) ?hr ?_; (case hd => rfl); (case hg => rfl); (case hr => first | (go_simp; done) | (go_simp; rfl)); intro gb625 hg w8 hbox hb; have n0_ := zK (zL (by repeat (first | (with_reducible first | exact HB.out | apply zA | apply zB | apply zC) | exact HB.out)) hb); have n1_ := zK (hbox); have n2_ := zK ((by rw [hg]; exact (zN (by repeat (first | (with_reducible first | exact HB.out | apply zA | apply zB | apply zC) | exact HB.out))) : w.heap.size ≤ gb625)); have n3_ := n2_; clear HB; have HB := n0_; have BK625 := n1_; have GW625 := n2_; have GE625 := n3_; clear n0_ n1_ n2_ n3_; clear hb hbox hg; have hcz9_0 : w8.cell? ⟨gb625, 0, none⟩ = some (.string a0_0) := (zI BK625.out 0).trans rfl; have hcz9_1 : w8.cell? ⟨gb625, 1, none⟩ = some (.int .i64 a0_1) := (zI BK625.out 1).trans rfl; have hcz9_2 : w8.cell? ⟨gb625, 2, none⟩ = some (.int .i64 a0_2) := (zI BK625.out 2).trans rfl; have hcz9_3 : w8.cell? ⟨gb625, 3, none⟩ = some (.int .i64 a0_3) := (zI BK625.out 3).trans rfl; have hcz9_4 : w8.cell? ⟨gb625, 4, none⟩ = some (.int .i64 a0_4) := (zI BK625.out 4).trans rfl; have hfz9_0 := zH BK625.out 0; have hfz9_1 := zH BK625.out 1; have hfz9_2 := zH BK625.out 2; have hfz9_3 := zH BK625.out 3; have hfz9_4 := zH BK625.out 4)))
   go_ret
   exact ⟨by first | rfl | (simp [errW_none, errW_some] <;> rfl) | (simp [*, errW_none, errW_some] <;> rfl), by repeat (first | (with_reducible first | exact HB.out | apply zA | apply zB | apply zC | refine zD ?_ GE625.out) | exact HB.out)⟩
  ·rw [if_neg c7] at H
   have c7b0 : (a0_0.toList == ([109, 111, 118] : List UInt8)) = false := beq_eq_false_iff_ne.mpr c7
   have c7b1 : (a0_0.toList != ([109, 111, 118] : List UInt8)) = true := bne_iff_ne.mpr c7
   by_cases c10 : a0_0.toList = ([108, 101, 97] : List UInt8)
   ·rw [if_pos c10] at H
    have c10b0 : (a0_0.toList == ([108, 101, 97] : List UInt8)) = true := beq_iff_eq.mpr c10
    have c10b1 : (a0_0.toList != ([108, 101, 97] : List UInt8)) = false := bne_eq_false_iff_eq.mpr c10
    clear c10
    replace H := Option.bind_eq_some_iff.mp H
    obtain ⟨t626, A110, H⟩ := H
    replace H : ((impl_apply.f (⟨#[97, 100, 100]⟩ : ByteArray) a1 t626).bind fun t627 => (some t627)) = some r := H
    have A11 := zK A110
    clear A110
    replace H := Option.bind_eq_some_iff.mp H
    obtain ⟨t627, A120, H⟩ := H
    replace H : (some t627) = some r := H
    have A12 := zK A120
    clear A120
    obtain rfl := Option.some.inj H
    go_enter Try.func135, Try.ntmps135
    go_wp2_with (first | ((with_reducible refine gate_dst (N := 3) rfl ?_); refine box_event ?hg (N := 3) ?hd (cs := #[.string a0_0, .int .i64 a0_1, .int .i64 a0_2, .int .i64 a0_3, .int .i64 a0_4]) (t := 67) ?hr ?_; (case hd => rfl); (case hg => rfl); (case hr => first | (go_simp; done) | (go_simp; rfl)); intro gb625 hg w13 hbox hb; have n0_ := zK (zL (by repeat (first | (with_reducible first | exact HB.out | apply zA | apply zB | apply zC) | exact HB.out)) hb); have n1_ := zK (hbox); have n2_ := zK ((by rw [hg]; exact (zN (by repeat (first | (with_reducible first | exact HB.out | apply zA | apply zB | apply zC) | exact HB.out))) : w.heap.size ≤ gb625)); have n3_ := n2_; clear HB; have HB := n0_; have BK625 := n1_; have GW625 := n2_; have GE625 := n3_; clear n0_ n1_ n2_ n3_; clear hb hbox hg; have hcz14_0 : w13.cell? ⟨gb625, 0, none⟩ = some (.string a0_0) := (zI BK625.out 0).trans rfl; have hcz14_1 : w13.cell? ⟨gb625, 1, none⟩ = some (.int .i64 a0_1) := (zI BK625.out 1).trans rfl; have hcz14_2 : w13.cell? ⟨gb625, 2, none⟩ = some (.int .i64 a0_2) := (zI BK625.out 2).trans rfl; have hcz14_3 : w13.cell? ⟨gb625, 3, none⟩ = some (.int .i64 a0_3) := (zI BK625.out 3).trans rfl; have hcz14_4 : w13.cell? ⟨gb625, 4, none⟩ = some (.int .i64 a0_4) := (zI BK625.out 4).trans rfl; have hfz14_0 := zH BK625.out 0; have hfz14_1 := zH BK625.out 1; have hfz14_2 := zH BK625.out 2; have hfz14_3 := zH BK625.out 3; have hfz14_4 := zH BK625.out 4) | (go_at_call 128; (with_reducible refine (impl_apply.calls (⟨#[115, 104, 108]⟩ : ByteArray) a2 a0_4 t626 _ A11.out).mono ?_); rintro e w' ⟨rfl, ⟨nd, rfl⟩⟩; (try first | exact ⟨rfl, _, World.drewN_drewN _ _ _⟩ | exact ⟨rfl, _, Eq.trans (World.drewN_drewN _ _ _) (congrArg (World.drewN _) (Nat.add_assoc _ _ _))⟩)) | (go_at_call 128; (with_reducible refine (impl_apply.calls (⟨#[97, 100, 100]⟩ : ByteArray) a1 t626 t627 _ A12.out).mono ?_); rintro e w' ⟨rfl, ⟨nd, rfl⟩⟩; (try first | exact ⟨rfl, _, World.drewN_drewN _ _ _⟩ | exact ⟨rfl, _, Eq.trans (World.drewN_drewN _ _ _) (congrArg (World.drewN _) (Nat.add_assoc _ _ _))⟩)))
    repeat (go_quiet (first | ((with_reducible refine gate_dst (N := 3) rfl ?_); refine box_event ?hg (N := 3) ?hd (cs := #[.string a0_0, .int .i64 a0_1, .int .i64 a0_2, .int .i64 a0_3, .int .i64 a0_4]) (t := 67) ?hr ?_; (case hd => rfl); (case hg => rfl); (case hr => first | (go_simp; done) | (go_simp; rfl)); intro gb625 hg w13 hbox hb; have n0_ := zK (zL (by repeat (first | (with_reducible first | exact HB.out | apply zA | apply zB | apply zC) | exact HB.out)) hb); have n1_ := zK (hbox); have n2_ := zK ((by rw [hg]; exact (zN (by repeat (first | (with_reducible first | exact HB.out | apply zA | apply zB | apply zC) | exact HB.out))) : w.heap.size ≤ gb625)); have n3_ := n2_; clear HB; have HB := n0_; have BK625 := n1_; have GW625 := n2_; have GE625 := n3_; clear n0_ n1_ n2_ n3_; clear hb hbox hg; have hcz14_0 : w13.cell? ⟨gb625, 0, none⟩ = some (.string a0_0) := (zI BK625.out 0).trans rfl; have hcz14_1 : w13.cell? ⟨gb625, 1, none⟩ = some (.int .i64 a0_1) := (zI BK625.out 1).trans rfl; have hcz14_2 : w13.cell? ⟨gb625, 2, none⟩ = some (.int .i64 a0_2) := (zI BK625.out 2).trans rfl; have hcz14_3 : w13.cell? ⟨gb625, 3, none⟩ = some (.int .i64 a0_3) := (zI BK625.out 3).trans rfl; have hcz14_4 : w13.cell? ⟨gb625, 4, none⟩ = some (.int .i64 a0_4) := (zI BK625.out 4).trans rfl; have hfz14_0 := zH BK625.out 0; have hfz14_1 := zH BK625.out 1; have hfz14_2 := zH BK625.out 2; have hfz14_3 := zH BK625.out 3; have hfz14_4 := zH BK625.out 4) | (go_at_call 128; (with_reducible refine (impl_apply.calls (⟨#[115, 104, 108]⟩ : ByteArray) a2 a0_4 t626 _ A11.out).mono ?_); rintro e w' ⟨rfl, ⟨nd, rfl⟩⟩; (try first | exact ⟨rfl, _, World.drewN_drewN _ _ _⟩ | exact ⟨rfl, _, Eq.trans (World.drewN_drewN _ _ _) (congrArg (World.drewN _) (Nat.add_assoc _ _ _))⟩)) | (go_at_call 128; (with_reducible refine (impl_apply.calls (⟨#[97, 100, 100]⟩ : ByteArray) a1 t626 t627 _ A12.out).mono ?_); rintro e w' ⟨rfl, ⟨nd, rfl⟩⟩; (try first | exact ⟨rfl, _, World.drewN_drewN _ _ _⟩ | exact ⟨rfl, _, Eq.trans (World.drewN_drewN _ _ _) (congrArg (World.drewN _) (Nat.add_assoc _ _ _))⟩))); try go_wp2_with (first | ((with_reducible refine gate_dst (N := 3) rfl ?_); refine box_event ?hg (N := 3) ?hd (cs := #[.string a0_0, .int .i64 a0_1, .int .i64 a0_2, .int .i64 a0_3, .int .i64 a0_4]) (t := 67) ?hr ?_; (case hd => rfl); (case hg => rfl); (case hr => first | (go_simp; done) | (go_simp; rfl)); intro gb625 hg w13 hbox hb; have n0_ := zK (zL (by repeat (first | (with_reducible first | exact HB.out | apply zA | apply zB | apply zC) | exact HB.out)) hb); have n1_ := zK (hbox); have n2_ := zK ((by rw [hg]; exact (zN (by repeat (first | (with_reducible first | exact HB.out | apply zA | apply zB | apply zC) | exact HB.out))) : w.heap.size ≤ gb625)); have n3_ := n2_; clear HB; have HB := n0_; have BK625 := n1_; have GW625 := n2_; have GE625 := n3_; clear n0_ n1_ n2_ n3_; clear hb hbox hg; have hcz14_0 : w13.cell? ⟨gb625, 0, none⟩ = some (.string a0_0) := (zI BK625.out 0).trans rfl; have hcz14_1 : w13.cell? ⟨gb625, 1, none⟩ = some (.int .i64 a0_1) := (zI BK625.out 1).trans rfl; have hcz14_2 : w13.cell? ⟨gb625, 2, none⟩ = some (.int .i64 a0_2) := (zI BK625.out 2).trans rfl; have hcz14_3 : w13.cell? ⟨gb625, 3, none⟩ = some (.int .i64 a0_3) := (zI BK625.out 3).trans rfl; have hcz14_4 : w13.cell? ⟨gb625, 4, none⟩ = some (.int .i64 a0_4) := (zI BK625.out 4).trans rfl; have hfz14_0 := zH BK625.out 0; have hfz14_1 := zH BK625.out 1; have hfz14_2 := zH BK625.out 2; have hfz14_3 := zH BK625.out 3; have hfz14_4 := zH BK625.out 4) | (go_at_call 128; (with_reducible refine (impl_apply.calls (⟨#[115, 104, 108]⟩ : ByteArray) a2 a0_4 t626 _ A11.out).mono ?_); rintro e w' ⟨rfl, ⟨nd, rfl⟩⟩; (try first | exact ⟨rfl, _, World.drewN_drewN _ _ _⟩ | exact ⟨rfl, _, Eq.trans (World.drewN_drewN _ _ _) (congrArg (World.drewN _) (Nat.add_assoc _ _ _))⟩)) | (go_at_call 128; (with_reducible refine (impl_apply.calls (⟨#[97, 100, 100]⟩ : ByteArray) a1 t626 t627 _ A12.out).mono ?_); rintro e w' ⟨rfl, ⟨nd, rfl⟩⟩; (try first | exact ⟨rfl, _, World.drewN_drewN _ _ _⟩ | exact ⟨rfl, _, Eq.trans (World.drewN_drewN _ _ _) (congrArg (World.drewN _) (Nat.add_assoc _ _ _))⟩))))
    go_ret
    exact ⟨by first | rfl | (simp [errW_none, errW_some] <;> rfl) | (simp [*, errW_none, errW_some] <;> rfl), by repeat (first | (with_reducible first | exact HB.out | apply zA | apply zB | apply zC | refine zD ?_ GE625.out) | exact HB.out)⟩
   ·rw [if_neg c10] at H
    have c10b0 : (a0_0.toList == ([108, 101, 97] : List UInt8)) = false := beq_eq_false_iff_ne.mpr c10
    have c10b1 : (a0_0.toList != ([108, 101, 97] : List UInt8)) = true := bne_iff_ne.mpr c10
    have HC15 := zK H
    clear H
    go_enter Try.func135, Try.ntmps135
    go_upto_if 24 with (first | ((with_reducible refine gate_dst (N := 3) rfl ?_); refine box_event ?hg (N := 3) ?hd (cs := #[.string a0_0, .int .i64 a0_1, .int .i64 a0_2, .int .i64 a0_3, .int .i64 a0_4]) (t := 67) ?hr ?_; (case hd => rfl); (case hg => rfl); (case hr => first | (go_simp; done) | (go_simp; rfl)); intro gb625 hg w16 hbox hb; have n0_ := zK (zL (by repeat (first | (with_reducible first | exact HB.out | apply zA | apply zB | apply zC) | exact HB.out)) hb); have n1_ := zK (hbox); have n2_ := zK ((by rw [hg]; exact (zN (by repeat (first | (with_reducible first | exact HB.out | apply zA | apply zB | apply zC) | exact HB.out))) : w.heap.size ≤ gb625)); have n3_ := n2_; clear HB; have HB := n0_; have BK625 := n1_; have GW625 := n2_; have GE625 := n3_; clear n0_ n1_ n2_ n3_; clear hb hbox hg; have hcz17_0 : w16.cell? ⟨gb625, 0, none⟩ = some (.string a0_0) := (zI BK625.out 0).trans rfl; have hcz17_1 : w16.cell? ⟨gb625, 1, none⟩ = some (.int .i64 a0_1) := (zI BK625.out 1).trans rfl; have hcz17_2 : w16.cell? ⟨gb625, 2, none⟩ = some (.int .i64 a0_2) := (zI BK625.out 2).trans rfl; have hcz17_3 : w16.cell? ⟨gb625, 3, none⟩ = some (.int .i64 a0_3) := (zI BK625.out 3).trans rfl; have hcz17_4 : w16.cell? ⟨gb625, 4, none⟩ = some (.int .i64 a0_4) := (zI BK625.out 4).trans rfl; have hfz17_0 := zH BK625.out 0; have hfz17_1 := zH BK625.out 1; have hfz17_2 := zH BK625.out 2; have hfz17_3 := zH BK625.out 3; have hfz17_4 := zH BK625.out 4))
    repeat (go_quiet (first | ((with_reducible refine gate_dst (N := 3) rfl ?_); refine box_event ?hg (N := 3) ?hd (cs := #[.string a0_0, .int .i64 a0_1, .int .i64 a0_2, .int .i64 a0_3, .int .i64 a0_4]) (t := 67) ?hr ?_; (case hd => rfl); (case hg => rfl); (case hr => first | (go_simp; done) | (go_simp; rfl)); intro gb625 hg w16 hbox hb; have n0_ := zK (zL (by repeat (first | (with_reducible first | exact HB.out | apply zA | apply zB | apply zC) | exact HB.out)) hb); have n1_ := zK (hbox); have n2_ := zK ((by rw [hg]; exact (zN (by repeat (first | (with_reducible first | exact HB.out | apply zA | apply zB | apply zC) | exact HB.out))) : w.heap.size ≤ gb625)); have n3_ := n2_; clear HB; have HB := n0_; have BK625 := n1_; have GW625 := n2_; have GE625 := n3_; clear n0_ n1_ n2_ n3_; clear hb hbox hg; have hcz17_0 : w16.cell? ⟨gb625, 0, none⟩ = some (.string a0_0) := (zI BK625.out 0).trans rfl; have hcz17_1 : w16.cell? ⟨gb625, 1, none⟩ = some (.int .i64 a0_1) := (zI BK625.out 1).trans rfl; have hcz17_2 : w16.cell? ⟨gb625, 2, none⟩ = some (.int .i64 a0_2) := (zI BK625.out 2).trans rfl; have hcz17_3 : w16.cell? ⟨gb625, 3, none⟩ = some (.int .i64 a0_3) := (zI BK625.out 3).trans rfl; have hcz17_4 : w16.cell? ⟨gb625, 4, none⟩ = some (.int .i64 a0_4) := (zI BK625.out 4).trans rfl; have hfz17_0 := zH BK625.out 0; have hfz17_1 := zH BK625.out 1; have hfz17_2 := zH BK625.out 2; have hfz17_3 := zH BK625.out 3; have hfz17_4 := zH BK625.out 4)); go_upto_if 24 with (first | ((with_reducible refine gate_dst (N := 3) rfl ?_); refine box_event ?hg (N := 3) ?hd (cs := #[.string a0_0, .int .i64 a0_1, .int .i64 a0_2, .int .i64 a0_3, .int .i64 a0_4]) (t := 67) ?hr ?_; (case hd => rfl); (case hg => rfl); (case hr => first | (go_simp; done) | (go_simp; rfl)); intro gb625 hg w16 hbox hb; have n0_ := zK (zL (by repeat (first | (with_reducible first | exact HB.out | apply zA | apply zB | apply zC) | exact HB.out)) hb); have n1_ := zK (hbox); have n2_ := zK ((by rw [hg]; exact (zN (by repeat (first | (with_reducible first | exact HB.out | apply zA | apply zB | apply zC) | exact HB.out))) : w.heap.size ≤ gb625)); have n3_ := n2_; clear HB; have HB := n0_; have BK625 := n1_; have GW625 := n2_; have GE625 := n3_; clear n0_ n1_ n2_ n3_; clear hb hbox hg; have hcz17_0 : w16.cell? ⟨gb625, 0, none⟩ = some (.string a0_0) := (zI BK625.out 0).trans rfl; have hcz17_1 : w16.cell? ⟨gb625, 1, none⟩ = some (.int .i64 a0_1) := (zI BK625.out 1).trans rfl; have hcz17_2 : w16.cell? ⟨gb625, 2, none⟩ = some (.int .i64 a0_2) := (zI BK625.out 2).trans rfl; have hcz17_3 : w16.cell? ⟨gb625, 3, none⟩ = some (.int .i64 a0_3) := (zI BK625.out 3).trans rfl; have hcz17_4 : w16.cell? ⟨gb625, 4, none⟩ = some (.int .i64 a0_4) := (zI BK625.out 4).trans rfl; have hfz17_0 := zH BK625.out 0; have hfz17_1 := zH BK625.out 1; have hfz17_2 := zH BK625.out 2; have hfz17_3 := zH BK625.out 3; have hfz17_4 := zH BK625.out 4)))
    (try simp only [Act.put, z1, z2, z3])
    go_cut [24] (fun v24 wc => ∃ (kq : Nat) (x24_14 : Bool), v24 = .bool x24_14 ∧ Aside0 (impl_Instr_word.j0 kq a1 a2 x24_14 a0_0 a0_1 a0_2 a0_3 a0_4 = some r) ∧ Aside0 (kq ≤ k) ∧ Aside0 (wc.heap[gb625]? = some (.cells #[.string a0_0, .int .i64 a0_1, .int .i64 a0_2, .int .i64 a0_3, .int .i64 a0_4] 67 (0, 0))) ∧ Aside0 (Below w.heap.size w wc))
    case first =>
     have H := HC15.out
     clear HC15
     by_cases c18 : a0_0.toList = ([97, 100, 100, 105] : List UInt8)
     ·rw [if_pos c18] at H
      have c18b0 : (a0_0.toList == ([97, 100, 100, 105] : List UInt8)) = true := beq_iff_eq.mpr c18
      have c18b1 : (a0_0.toList != ([97, 100, 100, 105] : List UInt8)) = false := bne_eq_false_iff_eq.mpr c18
      clear c18
      (first | rw [c18b0] | (simp only [i64_w, i32_w]; rw [c18b0]) | skip)
      have H' := zK H
      clear H
      go_wp2
      repeat (go_quiet (fail); try go_wp2)
      go_meet
      case rel => exact ⟨_, ((a0_0.toList == ([97, 100, 100, 105] : List UInt8))), (by first | rfl | (simp; done) | (simp [*]; done)), H', ⟨by first | omega | exact Nat.le_refl _⟩, ⟨by (with_reducible repeat (first | refine zE ?_ _ | refine zF ?_ | refine zG ?_ _)); exact BK625.out⟩, ⟨by repeat (first | (with_reducible first | exact HB.out | apply zA | apply zB | apply zC | refine zD ?_ GE625.out) | exact HB.out)⟩⟩
     ·rw [if_neg c18] at H
      have c18b0 : (a0_0.toList == ([97, 100, 100, 105] : List UInt8)) = false := beq_eq_false_iff_ne.mpr c18
      have c18b1 : (a0_0.toList != ([97, 100, 100, 105] : List UInt8)) = true := bne_iff_ne.mpr c18
      (first | rw [c18b0] | (simp only [i64_w, i32_w]; rw [c18b0]) | skip)
      by_cases c19 : a0_0.toList = ([97, 110, 100, 105] : List UInt8)
      ·rw [if_pos c19] at H
       have c19b0 : (a0_0.toList == ([97, 110, 100, 105] : List UInt8)) = true := beq_iff_eq.mpr c19
       have c19b1 : (a0_0.toList != ([97, 110, 100, 105] : List UInt8)) = false := bne_eq_false_iff_eq.mpr c19
       clear c19
       have H' := zK H
       clear H
       go_wp2
       repeat (go_quiet (fail); try go_wp2)
       go_meet
       case rel => exact ⟨_, ((a0_0.toList == ([97, 110, 100, 105] : List UInt8))), (by first | rfl | (simp; done) | (simp [*]; done)), H', ⟨by first | omega | exact Nat.le_refl _⟩, ⟨by (with_reducible repeat (first | refine zE ?_ _ | refine zF ?_ | refine zG ?_ _)); exact BK625.out⟩, ⟨by repeat (first | (with_reducible first | exact HB.out | apply zA | apply zB | apply zC | refine zD ?_ GE625.out) | exact HB.out)⟩⟩
      ·rw [if_neg c19] at H
       have c19b0 : (a0_0.toList == ([97, 110, 100, 105] : List UInt8)) = false := beq_eq_false_iff_ne.mpr c19
       have c19b1 : (a0_0.toList != ([97, 110, 100, 105] : List UInt8)) = true := bne_iff_ne.mpr c19
       by_cases c20 : a0_0.toList = ([120, 111, 114, 105] : List UInt8)
       ·rw [if_pos c20] at H
        have c20b0 : (a0_0.toList == ([120, 111, 114, 105] : List UInt8)) = true := beq_iff_eq.mpr c20
        have c20b1 : (a0_0.toList != ([120, 111, 114, 105] : List UInt8)) = false := bne_eq_false_iff_eq.mpr c20
        clear c20
        have H' := zK H
        clear H
        go_wp2
        repeat (go_quiet (fail); try go_wp2)
        go_meet
        case rel => exact ⟨_, ((a0_0.toList == ([120, 111, 114, 105] : List UInt8))), (by first | rfl | (simp; done) | (simp [*]; done)), H', ⟨by first | omega | exact Nat.le_refl _⟩, ⟨by (with_reducible repeat (first | refine zE ?_ _ | refine zF ?_ | refine zG ?_ _)); exact BK625.out⟩, ⟨by repeat (first | (with_reducible first | exact HB.out | apply zA | apply zB | apply zC | refine zD ?_ GE625.out) | exact HB.out)⟩⟩
       ·rw [if_neg c20] at H
        have c20b0 : (a0_0.toList == ([120, 111, 114, 105] : List UInt8)) = false := beq_eq_false_iff_ne.mpr c20
        have c20b1 : (a0_0.toList != ([120, 111, 114, 105] : List UInt8)) = true := bne_iff_ne.mpr c20
        by_cases c21 : a0_0.toList = ([115, 104, 108, 105] : List UInt8)
        ·rw [if_pos c21] at H
         have c21b0 : (a0_0.toList == ([115, 104, 108, 105] : List UInt8)) = true := beq_iff_eq.mpr c21
         have c21b1 : (a0_0.toList != ([115, 104, 108, 105] : List UInt8)) = false := bne_eq_false_iff_eq.mpr c21
         clear c21
         have H' := zK H
         clear H
         go_wp2
         repeat (go_quiet (fail); try go_wp2)
         go_meet
         case rel => exact ⟨_, ((a0_0.toList == ([115, 104, 108, 105] : List UInt8))), (by first | rfl | (simp; done) | (simp [*]; done)), H', ⟨by first | omega | exact Nat.le_refl _⟩, ⟨by (with_reducible repeat (first | refine zE ?_ _ | refine zF ?_ | refine zG ?_ _)); exact BK625.out⟩, ⟨by repeat (first | (with_reducible first | exact HB.out | apply zA | apply zB | apply zC | refine zD ?_ GE625.out) | exact HB.out)⟩⟩
        ·rw [if_neg c21] at H
         have c21b0 : (a0_0.toList == ([115, 104, 108, 105] : List UInt8)) = false := beq_eq_false_iff_ne.mpr c21
         have c21b1 : (a0_0.toList != ([115, 104, 108, 105] : List UInt8)) = true := bne_iff_ne.mpr c21
         have H' := zK H
         clear H
         go_wp2
         repeat (go_quiet (fail); try go_wp2)
         go_meet
         case rel => exact ⟨_, ((a0_0.toList == ([115, 104, 114, 105] : List UInt8))), (by first | rfl | (simp; done) | (simp [*]; done)), H', ⟨by first | omega | exact Nat.le_refl _⟩, ⟨by (with_reducible repeat (first | refine zE ?_ _ | refine zF ?_ | refine zG ?_ _)); exact BK625.out⟩, ⟨by repeat (first | (with_reducible first | exact HB.out | apply zA | apply zB | apply zC | refine zD ?_ GE625.out) | exact HB.out)⟩⟩
    case rest =>
     clear HC15
     try clear c1
     try clear c2
     try clear p2
     try clear c4
     try clear c4b0
     try clear c4b1
     try clear c7
     try clear c7b0
     try clear c7b1
     try clear c10
     try clear c10b0
     try clear c10b1
     try clear c13
     try clear c18
     try clear c18b0
     try clear c18b1
     try clear c19
     try clear c19b0
     try clear c19b1
     try clear c20
     try clear c20b0
     try clear c20b1
     try clear c21
     try clear c21b0
     try clear c21b1
     try clear hcz14_0
     try clear hcz14_1
     try clear hcz14_2
     try clear hcz14_3
     try clear hcz14_4
     try clear hcz17_0
     try clear hcz17_1
     try clear hcz17_2
     try clear hcz17_3
     try clear hcz17_4
     try clear hcz6_0
     try clear hcz6_1
     try clear hcz6_2
     try clear hcz6_3
     try clear hcz6_4
     try clear hcz9_0
     try clear hcz9_1
     try clear hcz9_2
     try clear hcz9_3
     try clear hcz9_4
     try clear hfz14_0
     try clear hfz14_1
     try clear hfz14_2
     try clear hfz14_3
     try clear hfz14_4
     try clear hfz17_0
     try clear hfz17_1
     try clear hfz17_2
     try clear hfz17_3
     try clear hfz17_4
     try clear hfz6_0
     try clear hfz6_1
     try clear hfz6_2
     try clear hfz6_3
     try clear hfz6_4
     try clear hfz9_0
     try clear hfz9_1
     try clear hfz9_2
     try clear hfz9_3
     try clear hfz9_4
     obtain ⟨kq, x24_14, rfl, HA, HJ14, BK625, HB⟩ := hcut
     cases kq with
     | zero => exact absurd HA.out (by simp [impl_Instr_word.j0])
     | succ kj14 =>
      have H := HA.out
      clear HA
      simp only [impl_Instr_word.j0] at H
      by_cases c22 : x24_14 = true
      ·subst c22
       rw [if_pos rfl] at H
       by_cases c23 : 0 ≤ 3
       ·rw [if_pos c23] at H
        have c23b0 := eq_true c23
        have c23b1 : decide (0 ≤ 3) = true := decide_eq_true c23
        clear c23
        by_cases c24 : 3 ≤ (a0_0.size : Int)
        ·rw [if_pos c24] at H
         have c24b0 := eq_true c24
         have c24b1 : decide (3 ≤ (a0_0.size : Int)) = true := decide_eq_true c24
         clear c24
         replace H := Option.bind_eq_some_iff.mp H
         obtain ⟨t628, A250, H⟩ := H
         replace H : (some t628) = some r := H
         have A25 := zK A250
         clear A250
         obtain rfl := Option.some.inj H
         have hcz26_0 : wc.cell? ⟨gb625, 0, none⟩ = some (.string a0_0) := (zI BK625.out 0).trans rfl
         have hcz26_1 : wc.cell? ⟨gb625, 1, none⟩ = some (.int .i64 a0_1) := (zI BK625.out 1).trans rfl
         have hcz26_2 : wc.cell? ⟨gb625, 2, none⟩ = some (.int .i64 a0_2) := (zI BK625.out 2).trans rfl
         have hcz26_3 : wc.cell? ⟨gb625, 3, none⟩ = some (.int .i64 a0_3) := (zI BK625.out 3).trans rfl
         have hcz26_4 : wc.cell? ⟨gb625, 4, none⟩ = some (.int .i64 a0_4) := (zI BK625.out 4).trans rfl
         have hfz26_0 := zH BK625.out 0
         have hfz26_1 := zH BK625.out 1
         have hfz26_2 := zH BK625.out 2
         have hfz26_3 := zH BK625.out 3
         have hfz26_4 := zH BK625.out 4
         go_wp2_with (first | (go_at_call 128; (with_reducible refine (impl_apply.calls (a0_0.extract 0 3) a1 a0_4 t628 _ A25.out).mono ?_); rintro e w' ⟨rfl, ⟨nd, rfl⟩⟩; (try first | exact ⟨rfl, _, World.drewN_drewN _ _ _⟩ | exact ⟨rfl, _, Eq.trans (World.drewN_drewN _ _ _) (congrArg (World.drewN _) (Nat.add_assoc _ _ _))⟩)))
         repeat (go_quiet (first | (go_at_call 128; (with_reducible refine (impl_apply.calls (a0_0.extract 0 3) a1 a0_4 t628 _ A25.out).mono ?_); rintro e w' ⟨rfl, ⟨nd, rfl⟩⟩; (try first | exact ⟨rfl, _, World.drewN_drewN _ _ _⟩ | exact ⟨rfl, _, Eq.trans (World.drewN_drewN _ _ _) (congrArg (World.drewN _) (Nat.add_assoc _ _ _))⟩))); try go_wp2_with (first | (go_at_call 128; (with_reducible refine (impl_apply.calls (a0_0.extract 0 3) a1 a0_4 t628 _ A25.out).mono ?_); rintro e w' ⟨rfl, ⟨nd, rfl⟩⟩; (try first | exact ⟨rfl, _, World.drewN_drewN _ _ _⟩ | exact ⟨rfl, _, Eq.trans (World.drewN_drewN _ _ _) (congrArg (World.drewN _) (Nat.add_assoc _ _ _))⟩))))
         go_ret
         exact ⟨by first | rfl | (simp [errW_none, errW_some] <;> rfl) | (simp [*, errW_none, errW_some] <;> rfl), by repeat (first | (with_reducible first | exact HB.out | apply zA | apply zB | apply zC | refine zD ?_ GE625.out) | exact HB.out)⟩
        ·rw [if_neg c24] at H
         exact absurd H (by simp)
       ·rw [if_neg c23] at H
        exact absurd H (by simp)
      ·replace c22 := Bool.eq_false_iff.mpr c22
       subst c22
       rw [if_neg (show ¬ (false = true) by decide)] at H
       replace H := Option.bind_eq_some_iff.mp H
       obtain ⟨t629, A270, H⟩ := H
       replace H : (some t629) = some r := H
       have A27 := zK A270
       clear A270
       obtain rfl := Option.some.inj H
       have hcz28_0 : wc.cell? ⟨gb625, 0, none⟩ = some (.string a0_0) := (zI BK625.out 0).trans rfl
       have hcz28_1 : wc.cell? ⟨gb625, 1, none⟩ = some (.int .i64 a0_1) := (zI BK625.out 1).trans rfl
       have hcz28_2 : wc.cell? ⟨gb625, 2, none⟩ = some (.int .i64 a0_2) := (zI BK625.out 2).trans rfl
       have hcz28_3 : wc.cell? ⟨gb625, 3, none⟩ = some (.int .i64 a0_3) := (zI BK625.out 3).trans rfl
       have hcz28_4 : wc.cell? ⟨gb625, 4, none⟩ = some (.int .i64 a0_4) := (zI BK625.out 4).trans rfl
       have hfz28_0 := zH BK625.out 0
       have hfz28_1 := zH BK625.out 1
       have hfz28_2 := zH BK625.out 2
       have hfz28_3 := zH BK625.out 3
       have hfz28_4 := zH BK625.out 4
       go_wp2_with (first | (go_at_call 128; (with_reducible refine (impl_apply.calls a0_0 a1 a2 t629 _ A27.out).mono ?_); rintro e w' ⟨rfl, ⟨nd, rfl⟩⟩; (try first | exact ⟨rfl, _, World.drewN_drewN _ _ _⟩ | exact ⟨rfl, _, Eq.trans (World.drewN_drewN _ _ _) (congrArg (World.drewN _) (Nat.add_assoc _ _ _))⟩)))
       repeat (go_quiet (first | (go_at_call 128; (with_reducible refine (impl_apply.calls a0_0 a1 a2 t629 _ A27.out).mono ?_); rintro e w' ⟨rfl, ⟨nd, rfl⟩⟩; (try first | exact ⟨rfl, _, World.drewN_drewN _ _ _⟩ | exact ⟨rfl, _, Eq.trans (World.drewN_drewN _ _ _) (congrArg (World.drewN _) (Nat.add_assoc _ _ _))⟩))); try go_wp2_with (first | (go_at_call 128; (with_reducible refine (impl_apply.calls a0_0 a1 a2 t629 _ A27.out).mono ?_); rintro e w' ⟨rfl, ⟨nd, rfl⟩⟩; (try first | exact ⟨rfl, _, World.drewN_drewN _ _ _⟩ | exact ⟨rfl, _, Eq.trans (World.drewN_drewN _ _ _) (congrArg (World.drewN _) (Nat.add_assoc _ _ _))⟩))))
       go_ret
       exact ⟨by first | rfl | (simp [errW_none, errW_some] <;> rfl) | (simp [*, errW_none, errW_some] <;> rfl), by repeat (first | (with_reducible first | exact HB.out | apply zA | apply zB | apply zC | refine zD ?_ GE625.out) | exact HB.out)⟩

end Go.Proofs.Ytecmlikhmkcdpaa.G
