/- Contracts: spec_PutInput, impl_Node_100. -/
import Derived.Test.YtaddadknmipfeaaFK
import Derived.Test.YtaddadknmipfeaaFSpecExGood
import Derived.Test.YtaddadknmipfeaaFSpecL1In
import Derived.Test.YtaddadknmipfeaaFSpecExMoved
import Derived.Lib.SliceRun
namespace Go.Proofs.Ytaddadknmipfeaa.F
open Go.RowKit Go.Proofs.YtaddadknmipfeaaW.PrintWords Go.Proofs.YtaddadknmipfeaaW.PrintLast Go.Proofs.YtaddadknmipfeaaW.PrintMore
attribute [local go_sem] max2_int min2_int max_two min_two max_three min_three max_four min_four   -- for this text's walks alone
set_option linter.unusedVariables false
set_option linter.unusedSimpArgs false

/-! ### spec_PutInput: function 36 -/
mutual
def spec_PutInput.j0 : Nat → List (S89) → Int → List (S89) → Bool → Option ((List (S89)) × Bool)
  | 0, _, _, _, _ => none
  | k + 1, x0, x1, x2, x27 => if x27 = true then (some (([] : List (S89)), false)) else (spec_PutInput.l0 k x0 x1 x2 false x0 (x0.length : Int) 0)
def spec_PutInput.l0 : Nat → List (S89) → Int → List (S89) → Bool → List (S89) → Int → Int → Option ((List (S89)) × Bool)
  | 0, _, _, _, _, _, _, _ => none
  | k + 1, x0, x1, x2, x8, x28, x29, x30 => if x30 < x29 then (if 0 ≤ x30 then (if x30 < (x28.length : Int) then (if x8 = true then (spec_PutInput.l0 k x0 x1 x2 true x28 x29 (wrap64 (x30 + 1))) else (if ((rd_T89 x28 x30).f0).toList = ([105, 110] : List UInt8) then (spec_PutInput.l0 k x0 x1 x2 (((rd_T89 x28 x30).f3) == x1) x28 x29 (wrap64 (x30 + 1))) else (spec_PutInput.l0 k x0 x1 x2 false x28 x29 (wrap64 (x30 + 1))))) else (none)) else (none)) else (if x8 = true then ((some (([] : List (S89)) : List (S89))).bind fun y471 => (if y471.length + x2.length < 3518437208883 then (if 0 ≤ (x0.length : Int) then (if ((x0.length : Int) : Int).toNat ≤ 35184372088832 then (spec_PutInput.l1 k x1 x2 (y471 ++ x2) (List.replicate ((x0.length : Int) : Int).toNat 0) x0 (x0.length : Int) 0) else (none)) else (none)) else (none))) else ((some (([] : List (S89)) : List (S89))).bind fun y465 => (if y465.length + x0.length < 3518437208883 then (some ((y465 ++ x0), true)) else (none))))
def spec_PutInput.l1 : Nat → Int → List (S89) → List (S89) → List Int → List (S89) → Int → Int → Option ((List (S89)) × Bool)
  | 0, _, _, _, _, _, _, _ => none
  | k + 1, x1, x2, x11, x12, x58, x59, x60 => if x60 < x59 then (if 0 ≤ x60 then (if x60 < (x58.length : Int) then (if ((rd_T89 x58 x60).f0).toList = ([105, 110] : List UInt8) then (if ((rd_T89 x58 x60).f3) = x1 then (if x60 < (x12.length : Int) then (spec_PutInput.l1 k x1 x2 x11 (x12.set (x60 : Int).toNat (wrap64 ((x2.length : Int) - 1))) x58 x59 (wrap64 (x60 + 1))) else (none)) else (if x60 < (x12.length : Int) then ((some (x12.set (x60 : Int).toNat (x11.length : Int) : List Int)).bind fun y483 => ((spec_exMoved.f k ((rd_T89 x58 x60).f0) ((rd_T89 x58 x60).f1) ((rd_T89 x58 x60).f2) ((rd_T89 x58 x60).f3) y483).bind fun bt484 => (if x11.length < 3518437208883 then (spec_PutInput.l1 k x1 x2 (x11 ++ [(⟨bt484.1, bt484.2.1, bt484.2.2.1, bt484.2.2.2⟩ : S89)]) y483 x58 x59 (wrap64 (x60 + 1))) else (none)))) else (none))) else (if x60 < (x12.length : Int) then ((some (x12.set (x60 : Int).toNat (x11.length : Int) : List Int)).bind fun y491 => ((spec_exMoved.f k ((rd_T89 x58 x60).f0) ((rd_T89 x58 x60).f1) ((rd_T89 x58 x60).f2) ((rd_T89 x58 x60).f3) y491).bind fun bt492 => (if x11.length < 3518437208883 then (spec_PutInput.l1 k x1 x2 (x11 ++ [(⟨bt492.1, bt492.2.1, bt492.2.2.1, bt492.2.2.2⟩ : S89)]) y491 x58 x59 (wrap64 (x60 + 1))) else (none)))) else (none))) else (none)) else (none)) else (if (x11.length : Int) > 24 then (some (([] : List (S89)), false)) else (some (x11, true)))
end
def spec_PutInput.f (k : Nat) (l0 : List (S89)) (a1 : Int) (l2 : List (S89)) : Option ((List (S89)) × Bool) := (spec_exGood.f k l0).bind fun t460 => (if t460 = true then ((spec_exGood.f k l2).bind fun t461 => (if t461 = true then ((spec_l1In.f a1 0 1).bind fun t462 => (spec_PutInput.j0 k l0 a1 l2 (!t462))) else (spec_PutInput.j0 k l0 a1 l2 true))) else (spec_PutInput.j0 k l0 a1 l2 true))
theorem spec_PutInput.mono_l : ∀ k, (∀ y0 y1 y2 y3, LeO (spec_PutInput.j0 k y0 y1 y2 y3) (spec_PutInput.j0 (k + 1) y0 y1 y2 y3)) ∧ (∀ y0 y1 y2 y3 y4 y5 y6, LeO (spec_PutInput.l0 k y0 y1 y2 y3 y4 y5 y6) (spec_PutInput.l0 (k + 1) y0 y1 y2 y3 y4 y5 y6)) ∧ (∀ y0 y1 y2 y3 y4 y5 y6, LeO (spec_PutInput.l1 k y0 y1 y2 y3 y4 y5 y6) (spec_PutInput.l1 (k + 1) y0 y1 y2 y3 y4 y5 y6))
  | 0 => ⟨fun _ _ _ _ r h => by simp [spec_PutInput.j0] at h, fun _ _ _ _ _ _ _ r h => by simp [spec_PutInput.l0] at h, fun _ _ _ _ _ _ _ r h => by simp [spec_PutInput.l1] at h⟩
  | k + 1 => by
    obtain ⟨ih0, ih1, ih2⟩ := spec_PutInput.mono_l k
    refine ⟨?_, ?_, ?_⟩
    · intro y0 y1 y2 y3
      unfold spec_PutInput.j0
      repeat' first
      | (with_reducible exact ih0 _ _ _ _)
      | (with_reducible exact ih1 _ _ _ _ _ _ _)
      | (with_reducible exact ih2 _ _ _ _ _ _ _)
      | (with_reducible exact spec_exGood.mono _ _)
      | (with_reducible exact spec_exMoved.mono _ _ _ _ _ _)
      | (with_reducible exact LeO.refl _)
      | (with_reducible exact LeO.none _)
      | (with_reducible refine LeO.ite ?_ ?_)
      | (with_reducible refine LeO.bind ?_ (fun _ => ?_))
      | exact ih0 _ _ _ _
      | exact ih1 _ _ _ _ _ _ _
      | exact ih2 _ _ _ _ _ _ _
      | exact spec_exGood.mono _ _
      | exact spec_exMoved.mono _ _ _ _ _ _
      | exact LeO.none _
      | refine LeO.ite ?_ ?_
      | refine LeO.bind ?_ (fun _ => ?_)
    · intro y0 y1 y2 y3 y4 y5 y6
      unfold spec_PutInput.l0
      repeat' first
      | (with_reducible exact ih0 _ _ _ _)
      | (with_reducible exact ih1 _ _ _ _ _ _ _)
      | (with_reducible exact ih2 _ _ _ _ _ _ _)
      | (with_reducible exact spec_exGood.mono _ _)
      | (with_reducible exact spec_exMoved.mono _ _ _ _ _ _)
      | (with_reducible exact LeO.refl _)
      | (with_reducible exact LeO.none _)
      | (with_reducible refine LeO.ite ?_ ?_)
      | (with_reducible refine LeO.bind ?_ (fun _ => ?_))
      | exact ih0 _ _ _ _
      | exact ih1 _ _ _ _ _ _ _
      | exact ih2 _ _ _ _ _ _ _
      | exact spec_exGood.mono _ _
      | exact spec_exMoved.mono _ _ _ _ _ _
      | exact LeO.none _
      | refine LeO.ite ?_ ?_
      | refine LeO.bind ?_ (fun _ => ?_)
    · intro y0 y1 y2 y3 y4 y5 y6
      unfold spec_PutInput.l1
      repeat' first
      | (with_reducible exact ih0 _ _ _ _)
      | (with_reducible exact ih1 _ _ _ _ _ _ _)
      | (with_reducible exact ih2 _ _ _ _ _ _ _)
      | (with_reducible exact spec_exGood.mono _ _)
      | (with_reducible exact spec_exMoved.mono _ _ _ _ _ _)
      | (with_reducible exact LeO.refl _)
      | (with_reducible exact LeO.none _)
      | (with_reducible refine LeO.ite ?_ ?_)
      | (with_reducible refine LeO.bind ?_ (fun _ => ?_))
      | exact ih0 _ _ _ _
      | exact ih1 _ _ _ _ _ _ _
      | exact ih2 _ _ _ _ _ _ _
      | exact spec_exGood.mono _ _
      | exact spec_exMoved.mono _ _ _ _ _ _
      | exact LeO.none _
      | refine LeO.ite ?_ ?_
      | refine LeO.bind ?_ (fun _ => ?_)
theorem spec_PutInput.mono : ∀ a0 a1 a2 k, LeO (spec_PutInput.f k a0 a1 a2) (spec_PutInput.f (k + 1) a0 a1 a2) := by
  intro a0 a1 a2 k
  obtain ⟨ih0, ih1, ih2⟩ := spec_PutInput.mono_l k
  unfold spec_PutInput.f
  repeat' first
      | (with_reducible exact ih0 _ _ _ _)
      | (with_reducible exact ih1 _ _ _ _ _ _ _)
      | (with_reducible exact ih2 _ _ _ _ _ _ _)
      | (with_reducible exact spec_exGood.mono _ _)
      | (with_reducible exact spec_exMoved.mono _ _ _ _ _ _)
      | (with_reducible exact LeO.refl _)
      | (with_reducible exact LeO.none _)
      | (with_reducible refine LeO.ite ?_ ?_)
      | (with_reducible refine LeO.bind ?_ (fun _ => ?_))
      | exact ih0 _ _ _ _
      | exact ih1 _ _ _ _ _ _ _
      | exact ih2 _ _ _ _ _ _ _
      | exact spec_exGood.mono _ _
      | exact spec_exMoved.mono _ _ _ _ _ _
      | exact LeO.none _
      | refine LeO.ite ?_ ?_
      | refine LeO.bind ?_ (fun _ => ?_)
set_option maxHeartbeats 8000000 in
set_option maxRecDepth 100000 in
theorem spec_PutInput.calls (k : Nat) (A0 : Option Addr) (c0 : Nat) (l0 : List (S89)) (a1 : Int) (A2 : Option Addr) (c2 : Nat) (l2 : List (S89)) (r1 : List (S89)) (r2 : Bool) (w : World) (hr0 : Kd.C k89 w A0 l0.length l0) (hc0 : l0.length ≤ c0) (hr2 : Kd.C k89 w A2 l2.length l2) (hc2 : l2.length ≤ c2) (h : spec_PutInput.f k l0 a1 l2 = some (r1, r2)) :
    Calls Try.prog 36 #[.slice A0 l0.length c0, .int .i64 a1, .slice A2 l2.length c2] w fun e w' => ∃ v0_ : Value, e = .returned (.tuple #[v0_, .bool r2]) ∧ Kd.R k89 89 w' w.heap.size (fun _ => True) v0_ r1 ∧ Below w.heap.size w w' := by
  have hu89 := Try.underlying89
  have HR0 := Aside0.mk hr0
  have HC0 := Aside0.mk hc0
  clear hr0 hc0
  have HR2 := Aside0.mk hr2
  have HC2 := Aside0.mk hc2
  clear hr2 hc2
  have HB := Aside0.mk (Below.refl w.heap.size w)
  have H : ((spec_exGood.f k l0).bind fun t460 => (if t460 = true then ((spec_exGood.f k l2).bind fun t461 => (if t461 = true then ((spec_l1In.f a1 0 1).bind fun t462 => (spec_PutInput.j0 k l0 a1 l2 (!t462))) else (spec_PutInput.j0 k l0 a1 l2 true))) else (spec_PutInput.j0 k l0 a1 l2 true))) = some (r1, r2) := h
  clear h
  have HC4 := Aside0.mk H
  clear H
  go_enter Try.func36, Try.ntmps36
  go_upto_region 1 with (fail)
  go_cut [27] (fun v27 wc => ∃ (kq : Nat) (x27_3 : Bool), v27 = .bool x27_3 ∧ Aside0 (spec_PutInput.j0 kq l0 a1 l2 x27_3 = some (r1, r2)) ∧ Aside0 (kq ≤ k) ∧ Aside0 (Below w.heap.size w wc))
  case first =>
    have H := HC4.out
    clear HC4
    replace H := Option.bind_eq_some_iff.mp H
    obtain ⟨t460, A50, H⟩ := H
    replace H : (if t460 = true then ((spec_exGood.f k l2).bind fun t461 => (if t461 = true then ((spec_l1In.f a1 0 1).bind fun t462 => (spec_PutInput.j0 k l0 a1 l2 (!t462))) else (spec_PutInput.j0 k l0 a1 l2 true))) else (spec_PutInput.j0 k l0 a1 l2 true)) = some (r1, r2) := H
    have A5 := Aside0.mk A50
    clear A50
    by_cases c6 : t460 = true
    · subst c6
      have H1 : ((spec_exGood.f k l2).bind fun t461 => (if t461 = true then ((spec_l1In.f a1 0 1).bind fun t462 => (spec_PutInput.j0 k l0 a1 l2 (!t462))) else (spec_PutInput.j0 k l0 a1 l2 true))) = some (r1, r2) := by rw [if_pos rfl] at H; exact H
      clear H
      have H := H1
      clear H1
      replace H := Option.bind_eq_some_iff.mp H
      obtain ⟨t461, A70, H⟩ := H
      replace H : (if t461 = true then ((spec_l1In.f a1 0 1).bind fun t462 => (spec_PutInput.j0 k l0 a1 l2 (!t462))) else (spec_PutInput.j0 k l0 a1 l2 true)) = some (r1, r2) := H
      have A7 := Aside0.mk A70
      clear A70
      by_cases c8 : t461 = true
      · subst c8
        have H1 : ((spec_l1In.f a1 0 1).bind fun t462 => (spec_PutInput.j0 k l0 a1 l2 (!t462))) = some (r1, r2) := by rw [if_pos rfl] at H; exact H
        clear H
        have H := H1
        clear H1
        replace H := Option.bind_eq_some_iff.mp H
        obtain ⟨t462, A90, H⟩ := H
        replace H : (spec_PutInput.j0 k l0 a1 l2 (!t462)) = some (r1, r2) := H
        have A9 := Aside0.mk A90
        clear A90
        have H' := Aside0.mk H
        clear H
        go_wp2_with (first | ((with_reducible refine gate_callee (f := 87) rfl ?_); refine goesL_ (some 16) rfl rfl Try.func87 (by kernel_rfl) rfl #[.slice A0 l0.length c0] rfl (by (try simp only [List.map_toArray, List.map_cons, List.map_nil]); first | done | rfl | (simp only [List.length_drop, List.length_take]; rfl)) ?_; (with_reducible refine (spec_exGood.calls k _ _ l0 true _ ?side1 ?side2 A5.out).mono ?_); (case side1 => repeat (first | exact (Kd.C_below HR0.out HB.out) | (with_reducible refine Kd.C_alloc ?_ _) | (with_reducible refine Kd.C_drewN ?_ _) | (with_reducible refine Kd.C_drew ?_))); (case side2 => exact HC0.out); rintro e w10 ⟨rfl, hb⟩; refine ⟨_, rfl, ?_⟩; have n0_ := Aside0.mk (below_step (by repeat (first | (with_reducible first | exact HB.out | apply below_alloc | apply pw_below_drewN | apply below_drew1) | exact HB.out)) hb); clear HB; have HB := n0_; clear n0_; (try clear hb); (try clear hb2); (try clear hk); (try clear hi)) | (go_at_call 87; (with_reducible refine (spec_exGood.calls k _ _ l2 true _ ?side1 ?side2 A7.out).mono ?_); (case side1 => repeat (first | exact (Kd.C_below HR2.out HB.out) | (with_reducible refine Kd.C_alloc ?_ _) | (with_reducible refine Kd.C_drewN ?_ _) | (with_reducible refine Kd.C_drew ?_))); (case side2 => exact HC2.out); rintro e w11 ⟨rfl, hb⟩; have n0_ := Aside0.mk (below_step (by repeat (first | (with_reducible first | exact HB.out | apply below_alloc | apply pw_below_drewN | apply below_drew1) | exact HB.out)) hb); clear HB; have HB := n0_; clear n0_; (try clear hb); (try clear hb2); (try clear hk); (try clear hi)) | (go_at_call 94; (with_reducible refine (spec_l1In.calls a1 0 1 t462 _ A9.out).mono ?_); rintro e w' ⟨rfl, ⟨nd, rfl⟩⟩))
        go_meet
        case rel => exact ⟨_, (!t462), (by first | rfl | (simp; done) | (simp [*]; done)), H', ⟨by first | omega | exact Nat.le_refl _⟩, ⟨by repeat (first | (with_reducible first | exact HB.out | apply below_alloc | apply pw_below_drewN | apply below_drew1) | exact HB.out)⟩⟩
      · replace c8 := Bool.eq_false_iff.mpr c8
        subst c8
        have H1 : (spec_PutInput.j0 k l0 a1 l2 true) = some (r1, r2) := by rw [if_neg (show ¬ (false = true) by decide)] at H; exact H
        clear H
        have H := H1
        clear H1
        have H' := Aside0.mk H
        clear H
        go_wp2_with (first | ((with_reducible refine gate_callee (f := 87) rfl ?_); refine goesL_ (some 16) rfl rfl Try.func87 (by kernel_rfl) rfl #[.slice A0 l0.length c0] rfl (by (try simp only [List.map_toArray, List.map_cons, List.map_nil]); first | done | rfl | (simp only [List.length_drop, List.length_take]; rfl)) ?_; (with_reducible refine (spec_exGood.calls k _ _ l0 true _ ?side1 ?side2 A5.out).mono ?_); (case side1 => repeat (first | exact (Kd.C_below HR0.out HB.out) | (with_reducible refine Kd.C_alloc ?_ _) | (with_reducible refine Kd.C_drewN ?_ _) | (with_reducible refine Kd.C_drew ?_))); (case side2 => exact HC0.out); rintro e w12 ⟨rfl, hb⟩; refine ⟨_, rfl, ?_⟩; have n0_ := Aside0.mk (below_step (by repeat (first | (with_reducible first | exact HB.out | apply below_alloc | apply pw_below_drewN | apply below_drew1) | exact HB.out)) hb); clear HB; have HB := n0_; clear n0_; (try clear hb); (try clear hb2); (try clear hk); (try clear hi)) | (go_at_call 87; (with_reducible refine (spec_exGood.calls k _ _ l2 false _ ?side1 ?side2 A7.out).mono ?_); (case side1 => repeat (first | exact (Kd.C_below HR2.out HB.out) | (with_reducible refine Kd.C_alloc ?_ _) | (with_reducible refine Kd.C_drewN ?_ _) | (with_reducible refine Kd.C_drew ?_))); (case side2 => exact HC2.out); rintro e w13 ⟨rfl, hb⟩; have n0_ := Aside0.mk (below_step (by repeat (first | (with_reducible first | exact HB.out | apply below_alloc | apply pw_below_drewN | apply below_drew1) | exact HB.out)) hb); clear HB; have HB := n0_; clear n0_; (try clear hb); (try clear hb2); (try clear hk); (try clear hi)))
        go_meet
        case rel => exact ⟨_, (true), (by first | rfl | (simp; done) | (simp [*]; done)), H', ⟨by first | omega | exact Nat.le_refl _⟩, ⟨by repeat (first | (with_reducible first | exact HB.out | apply below_alloc | apply pw_below_drewN | apply below_drew1) | exact HB.out)⟩⟩
    · replace c6 := Bool.eq_false_iff.mpr c6
      subst c6
      have H1 : (spec_PutInput.j0 k l0 a1 l2 true) = some (r1, r2) := by rw [if_neg (show ¬ (false = true) by decide)] at H; exact H
      clear H
      have H := H1
      clear H1
      have H' := Aside0.mk H
      clear H
      go_wp2_with (first | ((with_reducible refine gate_callee (f := 87) rfl ?_); refine goesL_ (some 16) rfl rfl Try.func87 (by kernel_rfl) rfl #[.slice A0 l0.length c0] rfl (by (try simp only [List.map_toArray, List.map_cons, List.map_nil]); first | done | rfl | (simp only [List.length_drop, List.length_take]; rfl)) ?_; (with_reducible refine (spec_exGood.calls k _ _ l0 false _ ?side1 ?side2 A5.out).mono ?_); (case side1 => repeat (first | exact (Kd.C_below HR0.out HB.out) | (with_reducible refine Kd.C_alloc ?_ _) | (with_reducible refine Kd.C_drewN ?_ _) | (with_reducible refine Kd.C_drew ?_))); (case side2 => exact HC0.out); rintro e w14 ⟨rfl, hb⟩; refine ⟨_, rfl, ?_⟩; have n0_ := Aside0.mk (below_step (by repeat (first | (with_reducible first | exact HB.out | apply below_alloc | apply pw_below_drewN | apply below_drew1) | exact HB.out)) hb); clear HB; have HB := n0_; clear n0_; (try clear hb); (try clear hb2); (try clear hk); (try clear hi)))
      go_meet
      case rel => exact ⟨_, (true), (by first | rfl | (simp; done) | (simp [*]; done)), H', ⟨by first | omega | exact Nat.le_refl _⟩, ⟨by repeat (first | (with_reducible first | exact HB.out | apply below_alloc | apply pw_below_drewN | apply below_drew1) | exact HB.out)⟩⟩
  case rest =>
    clear HC4
    try clear c2
    try clear p2
    try clear c3
    try clear c6
    try clear c8
    obtain ⟨kq, x27_3, rfl, HA, HJ3, HB⟩ := hcut
    cases kq with
    | zero => exact absurd HA.out (by simp [spec_PutInput.j0])
    | succ kj3 =>
      have H := HA.out
      clear HA
      simp only [spec_PutInput.j0] at H
      by_cases c15 : x27_3 = true
      · subst c15
        have H1 : (some (([] : List (S89)), false)) = some (r1, r2) := by rw [if_pos rfl] at H; exact H
        clear H
        have H := H1
        clear H1
        simp only [Option.some.injEq, Prod.mk.injEq] at H
        obtain ⟨rfl, rfl⟩ := H
        go_wp2
        go_ret2
        exact ⟨_, by first | rfl | (simp [errW_none, errW_some] <;> rfl) | (simp [*, errW_none, errW_some] <;> rfl), by first | exact Kd.R_nil _ _ _ _ _ | exact Kd.N_nil _ _ _ _ _ | exact Kd.V_nil _ _ _ _ _ | exact Kd.Q_nil _ _ _ _ _ | exact Kd.S_nil _ _ _ _ _, by repeat (first | (with_reducible first | exact HB.out | apply below_alloc | apply pw_below_drewN | apply below_drew1) | exact HB.out)⟩
      · replace c15 := Bool.eq_false_iff.mpr c15
        subst c15
        have H1 : (spec_PutInput.l0 kj3 l0 a1 l2 false l0 (l0.length : Int) 0) = some (r1, r2) := by rw [if_neg (show ¬ (false = true) by decide)] at H; exact H
        clear H
        have H := H1
        clear H1
        have H' := Aside0.mk H
        clear H
        go_wp2
        go_loopg [8, 30] kj3 (fun kq v8 v30 w' => ∃ (x8_2 : Bool) (x30_2 : Int), v8 = .bool x8_2 ∧ v30 = .int .i64 x30_2 ∧ Aside0 (spec_PutInput.l0 kq l0 a1 l2 x8_2 l0 (l0.length : Int) x30_2 = some (r1, r2)) ∧ Aside0 (kq ≤ kj3) ∧ Aside0 (Below w.heap.size w w'))
        case atStart => exact ⟨(false), (0), (by first | rfl | (simp; done) | (simp [*]; done)), (by first | rfl | (simp; done) | (simp [*]; done)), H', ⟨Nat.le_refl _⟩, ⟨by repeat (first | (with_reducible first | exact HB.out | apply below_alloc | apply pw_below_drewN | apply below_drew1) | exact HB.out)⟩⟩
        case round =>
          clear H'
          try clear c1
          try clear c2
          try clear p2
          try clear c3
          try clear c6
          try clear c8
          try clear c15
          try clear p2
          obtain ⟨x8_2, x30_2, rfl, rfl, HA, HK2, HB⟩ := hrel
          cases gk with
          | zero => exact absurd HA.out (by simp [spec_PutInput.l0])
          | succ k2 =>
            have H := HA.out
            clear HA
            simp only [spec_PutInput.l0] at H
            by_cases c16 : x30_2 < (l0.length : Int)
            · rw [if_pos c16] at H
              have c16b0 : decide (x30_2 < (l0.length : Int)) = true := decide_eq_true c16
              clear c16
              by_cases c17 : 0 ≤ x30_2
              · rw [if_pos c17] at H
                have c17b0 : decide (0 ≤ x30_2) = true := decide_eq_true c17
                clear c17
                by_cases c18 : x30_2 < (l0.length : Int)
                · rw [if_pos c18] at H
                  have c18b0 : decide (x30_2 < (l0.length : Int)) = true := decide_eq_true c18
                  clear c18
                  by_cases c19 : x8_2 = true
                  · subst c19
                    have H1 : (spec_PutInput.l0 k2 l0 a1 l2 true l0 (l0.length : Int) (wrap64 (x30_2 + 1))) = some (r1, r2) := by rw [if_pos rfl] at H; exact H
                    clear H
                    have H := H1
                    clear H1
                    have H' := Aside0.mk H
                    clear H
                    have p463 : 0 ≤ (x30_2 : Int) := of_decide_eq_true (by first | (with_reducible assumption) | assumption)
                    have q463 : x30_2 < (l0.length : Int) := of_decide_eq_true (by first | (with_reducible assumption) | assumption)
                    obtain ⟨ad463, e463, hx463_0, hx463_1, hx463_2, hx463_3⟩ := at_T89 HR0.out x30_2 p463 q463
                    cases e463
                    replace hx463_0 := (HB.out.cell (World.block_lt_of_cell? w _ hx463_0)).trans hx463_0
                    replace hx463_1 := (HB.out.cell (World.block_lt_of_cell? w _ hx463_1)).trans hx463_1
                    replace hx463_2 := (HB.out.cell (World.block_lt_of_cell? w _ hx463_2)).trans hx463_2
                    replace hx463_3 := (HB.out.cell (World.block_lt_of_cell? w _ hx463_3)).trans hx463_3
                    replace p463 := eq_true p463
                    replace q463 := eq_true q463
                    go_wp2_with (first | ((with_reducible refine gate_dst (N := 10) rfl ?_); refine box_event ?hg (N := 10) ?hd (cs := #[.string (⟨#[]⟩ : ByteArray), .int .i64 0, .int .i64 0, .int .i64 0]) (t := 89) ?hr ?_; (case hd => rfl); (case hg => rfl); (case hr => first | (go_simp; done) | (go_simp; rfl)); intro gb464 hg w20 hbox hb; have n0_ := Aside0.mk (below_step (by repeat (first | (with_reducible first | exact HB.out | apply below_alloc | apply pw_below_drewN | apply below_drew1) | exact HB.out)) hb); have n1_ := Aside0.mk (hbox); have n2_ := Aside0.mk ((by rw [hg]; exact (below_size (by repeat (first | (with_reducible first | exact HB.out | apply below_alloc | apply pw_below_drewN | apply below_drew1) | exact HB.out))) : w.heap.size ≤ gb464)); have n3_ := Aside0.mk ((by rw [hg]; exact (below_size (by repeat (first | (with_reducible first | exact HB.out | apply below_alloc | apply pw_below_drewN | apply below_drew1) | exact HB.out))) : w.heap.size ≤ gb464)); clear HB; have HB := n0_; have BK464 := n1_; have GW464 := n2_; have GE464 := n3_; clear n0_ n1_ n2_ n3_; clear hb hbox hg; have hcz21_0 : w20.cell? ⟨gb464, 0, none⟩ = some (.string (⟨#[]⟩ : ByteArray)) := (blk_cell BK464.out 0).trans rfl; have hcz21_1 : w20.cell? ⟨gb464, 1, none⟩ = some (.int .i64 0) := (blk_cell BK464.out 1).trans rfl; have hcz21_2 : w20.cell? ⟨gb464, 2, none⟩ = some (.int .i64 0) := (blk_cell BK464.out 2).trans rfl; have hcz21_3 : w20.cell? ⟨gb464, 3, none⟩ = some (.int .i64 0) := (blk_cell BK464.out 3).trans rfl; have hfz21_0 := blk_frozen BK464.out 0; have hfz21_1 := blk_frozen BK464.out 1; have hfz21_2 := blk_frozen BK464.out 2; have hfz21_3 := blk_frozen BK464.out 3))
                    go_roundg k2
                    case measure => have := HJ3.out; have := HK2.out; omega
                    case rel => exact ⟨(true), (wrap64 (x30_2 + 1)), (by first | rfl | (simp; done) | (simp [*]; done)), (by first | rfl | (simp; done) | (simp [*]; done)), H', ⟨by have := HJ3.out; have := HK2.out; omega⟩, ⟨by repeat (first | (with_reducible first | exact HB.out | apply below_alloc | apply pw_below_drewN | apply below_drew1 | refine below_set ?_ GE464.out) | exact HB.out)⟩⟩
                  · replace c19 := Bool.eq_false_iff.mpr c19
                    subst c19
                    have H1 : (if ((rd_T89 l0 x30_2).f0).toList = ([105, 110] : List UInt8) then (spec_PutInput.l0 k2 l0 a1 l2 (((rd_T89 l0 x30_2).f3) == a1) l0 (l0.length : Int) (wrap64 (x30_2 + 1))) else (spec_PutInput.l0 k2 l0 a1 l2 false l0 (l0.length : Int) (wrap64 (x30_2 + 1)))) = some (r1, r2) := by rw [if_neg (show ¬ (false = true) by decide)] at H; exact H
                    clear H
                    have H := H1
                    clear H1
                    by_cases c22 : ((rd_T89 l0 x30_2).f0).toList = ([105, 110] : List UInt8)
                    · rw [if_pos c22] at H
                      have c22b0 : (((rd_T89 l0 x30_2).f0).toList == ([105, 110] : List UInt8)) = true := beq_iff_eq.mpr c22
                      have c22b1 : (((rd_T89 l0 x30_2).f0).toList != ([105, 110] : List UInt8)) = false := bne_eq_false_iff_eq.mpr c22
                      clear c22
                      have H' := Aside0.mk H
                      clear H
                      have p463 : 0 ≤ (x30_2 : Int) := of_decide_eq_true (by first | (with_reducible assumption) | assumption)
                      have q463 : x30_2 < (l0.length : Int) := of_decide_eq_true (by first | (with_reducible assumption) | assumption)
                      obtain ⟨ad463, e463, hx463_0, hx463_1, hx463_2, hx463_3⟩ := at_T89 HR0.out x30_2 p463 q463
                      cases e463
                      replace hx463_0 := (HB.out.cell (World.block_lt_of_cell? w _ hx463_0)).trans hx463_0
                      replace hx463_1 := (HB.out.cell (World.block_lt_of_cell? w _ hx463_1)).trans hx463_1
                      replace hx463_2 := (HB.out.cell (World.block_lt_of_cell? w _ hx463_2)).trans hx463_2
                      replace hx463_3 := (HB.out.cell (World.block_lt_of_cell? w _ hx463_3)).trans hx463_3
                      replace p463 := eq_true p463
                      replace q463 := eq_true q463
                      go_wp2_with (first | ((with_reducible refine gate_dst (N := 10) rfl ?_); refine box_event ?hg (N := 10) ?hd (cs := #[.string (⟨#[]⟩ : ByteArray), .int .i64 0, .int .i64 0, .int .i64 0]) (t := 89) ?hr ?_; (case hd => rfl); (case hg => rfl); (case hr => first | (go_simp; done) | (go_simp; rfl)); intro gb464 hg w23 hbox hb; have n0_ := Aside0.mk (below_step (by repeat (first | (with_reducible first | exact HB.out | apply below_alloc | apply pw_below_drewN | apply below_drew1) | exact HB.out)) hb); have n1_ := Aside0.mk (hbox); have n2_ := Aside0.mk ((by rw [hg]; exact (below_size (by repeat (first | (with_reducible first | exact HB.out | apply below_alloc | apply pw_below_drewN | apply below_drew1) | exact HB.out))) : w.heap.size ≤ gb464)); have n3_ := Aside0.mk ((by rw [hg]; exact (below_size (by repeat (first | (with_reducible first | exact HB.out | apply below_alloc | apply pw_below_drewN | apply below_drew1) | exact HB.out))) : w.heap.size ≤ gb464)); clear HB; have HB := n0_; have BK464 := n1_; have GW464 := n2_; have GE464 := n3_; clear n0_ n1_ n2_ n3_; clear hb hbox hg; have hcz24_0 : w23.cell? ⟨gb464, 0, none⟩ = some (.string (⟨#[]⟩ : ByteArray)) := (blk_cell BK464.out 0).trans rfl; have hcz24_1 : w23.cell? ⟨gb464, 1, none⟩ = some (.int .i64 0) := (blk_cell BK464.out 1).trans rfl; have hcz24_2 : w23.cell? ⟨gb464, 2, none⟩ = some (.int .i64 0) := (blk_cell BK464.out 2).trans rfl; have hcz24_3 : w23.cell? ⟨gb464, 3, none⟩ = some (.int .i64 0) := (blk_cell BK464.out 3).trans rfl; have hfz24_0 := blk_frozen BK464.out 0; have hfz24_1 := blk_frozen BK464.out 1; have hfz24_2 := blk_frozen BK464.out 2; have hfz24_3 := blk_frozen BK464.out 3))
                      go_roundg k2
                      case measure => have := HJ3.out; have := HK2.out; omega
                      case rel => exact ⟨((((rd_T89 l0 x30_2).f3) == a1)), (wrap64 (x30_2 + 1)), (by first | rfl | (simp; done) | (simp [*]; done)), (by first | rfl | (simp; done) | (simp [*]; done)), H', ⟨by have := HJ3.out; have := HK2.out; omega⟩, ⟨by repeat (first | (with_reducible first | exact HB.out | apply below_alloc | apply pw_below_drewN | apply below_drew1 | refine below_set ?_ GE464.out) | exact HB.out)⟩⟩
                    · rw [if_neg c22] at H
                      have c22b0 : (((rd_T89 l0 x30_2).f0).toList == ([105, 110] : List UInt8)) = false := beq_eq_false_iff_ne.mpr c22
                      have c22b1 : (((rd_T89 l0 x30_2).f0).toList != ([105, 110] : List UInt8)) = true := bne_iff_ne.mpr c22
                      have H' := Aside0.mk H
                      clear H
                      have p463 : 0 ≤ (x30_2 : Int) := of_decide_eq_true (by first | (with_reducible assumption) | assumption)
                      have q463 : x30_2 < (l0.length : Int) := of_decide_eq_true (by first | (with_reducible assumption) | assumption)
                      obtain ⟨ad463, e463, hx463_0, hx463_1, hx463_2, hx463_3⟩ := at_T89 HR0.out x30_2 p463 q463
                      cases e463
                      replace hx463_0 := (HB.out.cell (World.block_lt_of_cell? w _ hx463_0)).trans hx463_0
                      replace hx463_1 := (HB.out.cell (World.block_lt_of_cell? w _ hx463_1)).trans hx463_1
                      replace hx463_2 := (HB.out.cell (World.block_lt_of_cell? w _ hx463_2)).trans hx463_2
                      replace hx463_3 := (HB.out.cell (World.block_lt_of_cell? w _ hx463_3)).trans hx463_3
                      replace p463 := eq_true p463
                      replace q463 := eq_true q463
                      go_wp2_with (first | ((with_reducible refine gate_dst (N := 10) rfl ?_); refine box_event ?hg (N := 10) ?hd (cs := #[.string (⟨#[]⟩ : ByteArray), .int .i64 0, .int .i64 0, .int .i64 0]) (t := 89) ?hr ?_; (case hd => rfl); (case hg => rfl); (case hr => first | (go_simp; done) | (go_simp; rfl)); intro gb464 hg w25 hbox hb; have n0_ := Aside0.mk (below_step (by repeat (first | (with_reducible first | exact HB.out | apply below_alloc | apply pw_below_drewN | apply below_drew1) | exact HB.out)) hb); have n1_ := Aside0.mk (hbox); have n2_ := Aside0.mk ((by rw [hg]; exact (below_size (by repeat (first | (with_reducible first | exact HB.out | apply below_alloc | apply pw_below_drewN | apply below_drew1) | exact HB.out))) : w.heap.size ≤ gb464)); have n3_ := Aside0.mk ((by rw [hg]; exact (below_size (by repeat (first | (with_reducible first | exact HB.out | apply below_alloc | apply pw_below_drewN | apply below_drew1) | exact HB.out))) : w.heap.size ≤ gb464)); clear HB; have HB := n0_; have BK464 := n1_; have GW464 := n2_; have GE464 := n3_; clear n0_ n1_ n2_ n3_; clear hb hbox hg; have hcz26_0 : w25.cell? ⟨gb464, 0, none⟩ = some (.string (⟨#[]⟩ : ByteArray)) := (blk_cell BK464.out 0).trans rfl; have hcz26_1 : w25.cell? ⟨gb464, 1, none⟩ = some (.int .i64 0) := (blk_cell BK464.out 1).trans rfl; have hcz26_2 : w25.cell? ⟨gb464, 2, none⟩ = some (.int .i64 0) := (blk_cell BK464.out 2).trans rfl; have hcz26_3 : w25.cell? ⟨gb464, 3, none⟩ = some (.int .i64 0) := (blk_cell BK464.out 3).trans rfl; have hfz26_0 := blk_frozen BK464.out 0; have hfz26_1 := blk_frozen BK464.out 1; have hfz26_2 := blk_frozen BK464.out 2; have hfz26_3 := blk_frozen BK464.out 3))
                      go_roundg k2
                      case measure => have := HJ3.out; have := HK2.out; omega
                      case rel => exact ⟨(false), (wrap64 (x30_2 + 1)), (by first | rfl | (simp; done) | (simp [*]; done)), (by first | rfl | (simp; done) | (simp [*]; done)), H', ⟨by have := HJ3.out; have := HK2.out; omega⟩, ⟨by repeat (first | (with_reducible first | exact HB.out | apply below_alloc | apply pw_below_drewN | apply below_drew1 | refine below_set ?_ GE464.out) | exact HB.out)⟩⟩
                · rw [if_neg c18] at H
                  exact absurd H (by simp)
              · rw [if_neg c17] at H
                exact absurd H (by simp)
            · rw [if_neg c16] at H
              have c16b0 : decide (x30_2 < (l0.length : Int)) = false := decide_eq_false c16
              clear c16
              by_cases c27 : x8_2 = true
              · subst c27
                have H1 : ((some (([] : List (S89)) : List (S89))).bind fun y471 => (if y471.length + l2.length < 3518437208883 then (if 0 ≤ (l0.length : Int) then (if ((l0.length : Int) : Int).toNat ≤ 35184372088832 then (spec_PutInput.l1 k2 a1 l2 (y471 ++ l2) (List.replicate ((l0.length : Int) : Int).toNat 0) l0 (l0.length : Int) 0) else (none)) else (none)) else (none))) = some (r1, r2) := by rw [if_pos rfl] at H; exact H
                clear H
                have H := H1
                clear H1
                obtain ⟨y471, hy471⟩ : ∃ y_ : List (S89), y_ = (([] : List (S89))) := ⟨_, rfl⟩
                replace H : (if y471.length + l2.length < 3518437208883 then (if 0 ≤ (l0.length : Int) then (if ((l0.length : Int) : Int).toNat ≤ 35184372088832 then (spec_PutInput.l1 k2 a1 l2 (y471 ++ l2) (List.replicate ((l0.length : Int) : Int).toNat 0) l0 (l0.length : Int) 0) else (none)) else (none)) else (none)) = some (r1, r2) := by first | (rw [hy471]; with_reducible exact H) | (have H2_ := (Option.bind_some _ _).symm.trans H; rw [hy471]; with_reducible exact H2_) | (have H2_ := (Option.bind_some _ _).symm.trans H; with_reducible exact H2_) | with_reducible exact H | (rw [hy471]; exact H) | exact H
                have Ny471 := Aside0.mk hy471
                clear hy471
                by_cases c28 : y471.length + l2.length < 3518437208883
                · rw [if_pos c28] at H
                  have LMc28 := Aside0.mk c28
                  clear c28
                  obtain ⟨y474, hy474⟩ : ∃ y_ : List (S89), y_ = (y471 ++ l2) := ⟨_, rfl⟩
                  replace H : (if 0 ≤ (l0.length : Int) then (if ((l0.length : Int) : Int).toNat ≤ 35184372088832 then (spec_PutInput.l1 k2 a1 l2 y474 (List.replicate ((l0.length : Int) : Int).toNat 0) l0 (l0.length : Int) 0) else (none)) else (none)) = some (r1, r2) := by first | (rw [hy474]; with_reducible exact H) | (have H2_ := (Option.bind_some _ _).symm.trans H; rw [hy474]; with_reducible exact H2_) | (have H2_ := (Option.bind_some _ _).symm.trans H; with_reducible exact H2_) | with_reducible exact H | (rw [hy474]; exact H) | exact H
                  have Ny474 := Aside0.mk hy474
                  clear hy474
                  by_cases c29 : 0 ≤ (l0.length : Int)
                  · rw [if_pos c29] at H
                    have c29b0 := eq_true c29
                    have c29b1 : decide (0 ≤ (l0.length : Int)) = true := decide_eq_true c29
                    clear c29
                    by_cases c30 : ((l0.length : Int) : Int).toNat ≤ 35184372088832
                    · rw [if_pos c30] at H
                      have c30b0 := eq_true c30
                      have c30b1 : decide (((l0.length : Int) : Int).toNat ≤ 35184372088832) = true := decide_eq_true c30
                      clear c30
                      obtain ⟨y477, hy477⟩ : ∃ y_ : List Int, y_ = (List.replicate ((l0.length : Int) : Int).toNat 0) := ⟨_, rfl⟩
                      replace H : (spec_PutInput.l1 k2 a1 l2 y474 y477 l0 (l0.length : Int) 0) = some (r1, r2) := by first | (rw [hy477]; with_reducible exact H) | (have H2_ := (Option.bind_some _ _).symm.trans H; rw [hy477]; with_reducible exact H2_) | (have H2_ := (Option.bind_some _ _).symm.trans H; with_reducible exact H2_) | with_reducible exact H | (rw [hy477]; exact H) | exact H
                      have Ny477 := Aside0.mk hy477
                      clear hy477
                      have H' := Aside0.mk H
                      clear H
                      go_wp2_with (first | ((with_reducible refine gate_dst (N := 52) rfl ?_); refine Kd.R_lit k89 _ 89 ?hg (N := 52) ?hd (xs := ([] : List (S89))) (inner := []) (ok := fun _ => True) (okp := fun _ => True) ?hr ?hp (fun _ hk => hk) trivial (Below.refl _ _) (Nat.le_refl _) (by simp) ?_; (case hd => rfl); (case hg => rfl); (case hr => first | (go_simp; done) | (go_simp; rfl)); (case hp => exact (Reps.none _ _)); intro v472 w31 ho32 hb hg_ hnew_; clear hg_ hnew_; (first | rw [← Ny471.out] at ho32 | (simp only [Int.reduceToNat] at ho32; rw [← Ny471.out] at ho32)); have n0_ := Aside0.mk (Kd.R_lower ho32 (below_size (by repeat (first | (with_reducible first | exact HB.out | apply below_alloc | apply pw_below_drewN | apply below_drew1) | exact HB.out)))); have n1_ := Aside0.mk (below_step (by repeat (first | (with_reducible first | exact HB.out | apply below_alloc | apply pw_below_drewN | apply below_drew1) | exact HB.out)) hb); clear HB; have HO473 := n0_; have HB := n1_; clear n0_ n1_; clear hb ho32) | ((with_reducible refine gate_builtin (b := .append) (xs := #[.tmp 52, .tmp 53]) rfl ?_); at_builtin; refine Kd.R_append_rows k89 (w0 := w) w.heap.size rfl (.tmp 52) (.tmp 53) 27 89 (.agg #[(.string ⟨#[]⟩), (.int .i64 0), (.int .i64 0), (.int .i64 0)]) 40 rfl Try.underlying27 info89 rfl (by decide) (by omega) v472 y471 l2 _ _ _ (fun _ => True) (fun _ => False) rfl rfl ?aO ?aR (fun _ _ h => h) (fun _ h => h.elim) ?aF ?aB ?aS ?aL ?_; (case aR => repeat (first | exact (Kd.C_below HR2.out HB.out) | (with_reducible refine Kd.C_alloc ?_ _) | (with_reducible refine Kd.C_drewN ?_ _) | (with_reducible refine Kd.C_drew ?_))); (case aB => exact (by repeat (first | (with_reducible first | exact HB.out | apply below_alloc | apply pw_below_drewN | apply below_drew1) | exact HB.out))); (case aF => exact (fun _ _ => trivial)); (case aO => exact (by (with_reducible repeat (first | apply Kd.R_alloc | apply Kd.R_drewN | apply Kd.R_drew)); exact HO473.out)); (case aS => exact (below_size (by repeat (first | (with_reducible first | exact HB.out | apply below_alloc | apply pw_below_drewN | apply below_drew1) | exact HB.out)))); (case aL => have := LMc28.out; omega); intro v475 w33 ho hb hg hat; rw [← Ny474.out] at ho; have n0_ := Aside0.mk (hb); have n1_ := Aside0.mk (ho); clear HB; clear HO473; have HB := n0_; have HO476 := n1_; clear n0_ n1_; clear ho hb hg hat) | ((with_reducible refine gate_dst (N := 57) rfl ?_); refine Kd.R_make (Kd.int .i64) _ 3 rfl (N := 57) rfl 24 _ _ rfl (l0.length : Int) rfl rfl Try.underlying24 (.int .i64 0) 8 info3 rfl (by decide) (by omega) 0 (ok := fun _ => True) (okp := fun _ => True) rfl (fun _ hk => hk) trivial (of_decide_eq_true (by first | (with_reducible assumption) | assumption)) (Nat.le_trans (Nat.mul_le_mul_right _ (of_decide_eq_true (by first | (with_reducible assumption) | assumption) : (l0.length : Int).toNat ≤ 35184372088832)) (by omega)) (Below.refl _ _) (Nat.le_refl _) ?_; intro v478 w34 ho35 hb hg_ hnew_; clear hg_ hnew_; (first | rw [← Ny477.out] at ho35 | (simp only [Int.reduceToNat] at ho35; rw [← Ny477.out] at ho35)); have n0_ := Aside0.mk (Kd.R_below (by (with_reducible repeat (first | apply Kd.R_alloc | apply Kd.R_drewN | apply Kd.R_drew)); exact HO476.out) hb); have n1_ := Aside0.mk (Kd.R_lower ho35 (below_size (by repeat (first | (with_reducible first | exact HB.out | apply below_alloc | apply pw_below_drewN | apply below_drew1) | exact HB.out)))); have n2_ := Aside0.mk (below_step (by repeat (first | (with_reducible first | exact HB.out | apply below_alloc | apply pw_below_drewN | apply below_drew1) | exact HB.out)) hb); clear HO476; clear HB; have HO476 := n0_; have HO479 := n1_; have HB := n2_; clear n0_ n1_ n2_; clear hb ho35))
                      go_loopg [11, 60] k2 (fun kq v11 v60 w' => ∃ (x11_3 : List (S89)) (x12_3 : List Int) (x60_3 : Int), v60 = .int .i64 x60_3 ∧ Aside0 (spec_PutInput.l1 kq a1 l2 x11_3 x12_3 l0 (l0.length : Int) x60_3 = some (r1, r2)) ∧ Aside0 (kq ≤ k2) ∧ Aside0 (Kd.R k89 89 w' w.heap.size (fun _ => True) v11 x11_3) ∧ Aside0 (Kd.R (Kd.int .i64) 3 w' w.heap.size (fun _ => True) v478 x12_3) ∧ Aside0 (Below w.heap.size w w'))
                      case atStart => exact ⟨(y474), (y477), (0), (by first | rfl | (simp; done) | (simp [*]; done)), H', ⟨Nat.le_refl _⟩, ⟨by (with_reducible repeat (first | apply Kd.R_alloc | apply Kd.R_drewN | apply Kd.R_drew)); exact HO476.out⟩, ⟨by (with_reducible repeat (first | apply Kd.R_alloc | apply Kd.R_drewN | apply Kd.R_drew)); exact HO479.out⟩, ⟨by repeat (first | (with_reducible first | exact HB.out | apply below_alloc | apply pw_below_drewN | apply below_drew1) | exact HB.out)⟩⟩
                      case round =>
                        clear H'
                        try clear c1
                        try clear c2
                        try clear p2
                        try clear c3
                        try clear p4
                        try clear q4
                        try clear hx4
                        try clear c6
                        try clear p6
                        try clear c8
                        try clear c15
                        try clear c16
                        try clear c16b0
                        try clear c17
                        try clear c17b0
                        try clear c18
                        try clear c18b0
                        try clear c19
                        try clear c22
                        try clear c22b0
                        try clear c22b1
                        try clear c27
                        try clear c28
                        try clear c29
                        try clear c29b0
                        try clear c29b1
                        try clear c30
                        try clear c30b0
                        try clear c30b1
                        try clear hcz21_0
                        try clear hcz21_1
                        try clear hcz21_2
                        try clear hcz21_3
                        try clear hcz24_0
                        try clear hcz24_1
                        try clear hcz24_2
                        try clear hcz24_3
                        try clear hcz26_0
                        try clear hcz26_1
                        try clear hcz26_2
                        try clear hcz26_3
                        try clear hfz21_0
                        try clear hfz21_1
                        try clear hfz21_2
                        try clear hfz21_3
                        try clear hfz24_0
                        try clear hfz24_1
                        try clear hfz24_2
                        try clear hfz24_3
                        try clear hfz26_0
                        try clear hfz26_1
                        try clear hfz26_2
                        try clear hfz26_3
                        try clear hx463_0
                        try clear hx463_1
                        try clear hx463_2
                        try clear hx463_3
                        try clear p2
                        try clear p463
                        try clear q463
                        obtain ⟨x11_3, x12_3, x60_3, rfl, HA, HK3, HO_11, HO_12, HB⟩ := hrel
                        cases gk with
                        | zero => exact absurd HA.out (by simp [spec_PutInput.l1])
                        | succ k3 =>
                          have H := HA.out
                          clear HA
                          simp only [spec_PutInput.l1] at H
                          by_cases c36 : x60_3 < (l0.length : Int)
                          · rw [if_pos c36] at H
                            have c36b0 : decide (x60_3 < (l0.length : Int)) = true := decide_eq_true c36
                            clear c36
                            by_cases c37 : 0 ≤ x60_3
                            · rw [if_pos c37] at H
                              have c37b0 : decide (0 ≤ x60_3) = true := decide_eq_true c37
                              clear c37
                              by_cases c38 : x60_3 < (l0.length : Int)
                              · rw [if_pos c38] at H
                                have c38b0 : decide (x60_3 < (l0.length : Int)) = true := decide_eq_true c38
                                clear c38
                                by_cases c39 : ((rd_T89 l0 x60_3).f0).toList = ([105, 110] : List UInt8)
                                · rw [if_pos c39] at H
                                  have c39b0 : (((rd_T89 l0 x60_3).f0).toList == ([105, 110] : List UInt8)) = true := beq_iff_eq.mpr c39
                                  have c39b1 : (((rd_T89 l0 x60_3).f0).toList != ([105, 110] : List UInt8)) = false := bne_eq_false_iff_eq.mpr c39
                                  clear c39
                                  by_cases c40 : ((rd_T89 l0 x60_3).f3) = a1
                                  · rw [if_pos c40] at H
                                    have c40b0 : (((rd_T89 l0 x60_3).f3) == a1) = true := beq_iff_eq.mpr c40
                                    have c40b1 : (((rd_T89 l0 x60_3).f3) != a1) = false := bne_eq_false_iff_eq.mpr c40
                                    clear c40
                                    by_cases c41 : x60_3 < (x12_3.length : Int)
                                    · rw [if_pos c41] at H
                                      have c41b0 : decide (x60_3 < (x12_3.length : Int)) = true := decide_eq_true c41
                                      clear c41
                                      obtain ⟨y482, hy482⟩ : ∃ y_ : List Int, y_ = (x12_3.set (x60_3 : Int).toNat (wrap64 ((l2.length : Int) - 1))) := ⟨_, rfl⟩
                                      replace H : (spec_PutInput.l1 k3 a1 l2 x11_3 y482 l0 (l0.length : Int) (wrap64 (x60_3 + 1))) = some (r1, r2) := by first | (rw [hy482]; with_reducible exact H) | (have H2_ := (Option.bind_some _ _).symm.trans H; rw [hy482]; with_reducible exact H2_) | (have H2_ := (Option.bind_some _ _).symm.trans H; with_reducible exact H2_) | with_reducible exact H | (rw [hy482]; exact H) | exact H
                                      have Ny482 := Aside0.mk hy482
                                      clear hy482
                                      have H' := Aside0.mk H
                                      clear H
                                      have p480 : 0 ≤ (x60_3 : Int) := of_decide_eq_true (by first | (with_reducible assumption) | assumption)
                                      have q480 : x60_3 < (l0.length : Int) := of_decide_eq_true (by first | (with_reducible assumption) | assumption)
                                      obtain ⟨ad480, e480, hx480_0, hx480_1, hx480_2, hx480_3⟩ := at_T89 HR0.out x60_3 p480 q480
                                      cases e480
                                      replace hx480_0 := (HB.out.cell (World.block_lt_of_cell? w _ hx480_0)).trans hx480_0
                                      replace hx480_1 := (HB.out.cell (World.block_lt_of_cell? w _ hx480_1)).trans hx480_1
                                      replace hx480_2 := (HB.out.cell (World.block_lt_of_cell? w _ hx480_2)).trans hx480_2
                                      replace hx480_3 := (HB.out.cell (World.block_lt_of_cell? w _ hx480_3)).trans hx480_3
                                      replace p480 := eq_true p480
                                      replace q480 := eq_true q480
                                      go_wp2_with (first | ((with_reducible refine gate_dst (N := 14) rfl ?_); refine box_event ?hg (N := 14) ?hd (cs := #[.string (⟨#[]⟩ : ByteArray), .int .i64 0, .int .i64 0, .int .i64 0]) (t := 89) ?hr ?_; (case hd => rfl); (case hg => rfl); (case hr => first | (go_simp; done) | (go_simp; rfl)); intro gb481 hg w43 hbox hb; have n0_ := Aside0.mk (Kd.R_below (Kd.R_elderB (by (with_reducible repeat (first | apply Kd.R_alloc | apply Kd.R_drewN | apply Kd.R_drew)); exact HO_11.out) gb481 (Nat.le_of_eq hg.symm)) hb); have n1_ := Aside0.mk (Kd.R_below (by (with_reducible repeat (first | apply Kd.R_alloc | apply Kd.R_drewN | apply Kd.R_drew)); exact HO_12.out) hb); have n2_ := Aside0.mk (below_step (by repeat (first | (with_reducible first | exact HB.out | apply below_alloc | apply pw_below_drewN | apply below_drew1) | exact HB.out)) hb); have n3_ := Aside0.mk (hbox); have n4_ := Aside0.mk ((by rw [hg]; exact (below_size (by repeat (first | (with_reducible first | exact HB.out | apply below_alloc | apply pw_below_drewN | apply below_drew1) | exact HB.out))) : w.heap.size ≤ gb481)); have n5_ := Aside0.mk ((by rw [hg]; exact (below_size (by repeat (first | (with_reducible first | exact HB.out | apply below_alloc | apply pw_below_drewN | apply below_drew1) | exact HB.out))) : w.heap.size ≤ gb481)); clear HO_11; clear HO_12; clear HB; have HO_11 := n0_; have HO_12 := n1_; have HB := n2_; have BK481 := n3_; have GW481 := n4_; have GE481 := n5_; clear n0_ n1_ n2_ n3_ n4_ n5_; clear hb hbox hg; have hcz44_0 : w43.cell? ⟨gb481, 0, none⟩ = some (.string (⟨#[]⟩ : ByteArray)) := (blk_cell BK481.out 0).trans rfl; have hcz44_1 : w43.cell? ⟨gb481, 1, none⟩ = some (.int .i64 0) := (blk_cell BK481.out 1).trans rfl; have hcz44_2 : w43.cell? ⟨gb481, 2, none⟩ = some (.int .i64 0) := (blk_cell BK481.out 2).trans rfl; have hcz44_3 : w43.cell? ⟨gb481, 3, none⟩ = some (.int .i64 0) := (blk_cell BK481.out 3).trans rfl; have hfz44_0 := blk_frozen BK481.out 0; have hfz44_1 := blk_frozen BK481.out 1; have hfz44_2 := blk_frozen BK481.out 2; have hfz44_3 := blk_frozen BK481.out 3) | ((with_reducible refine gate_store (t := 89) (p := 14) rfl ?_); refine store_event (t := 89) (p := 14) (v := ?vo_w45) (w1 := ((((w43.setCell ⟨gb481, 0, none⟩ (.string ((rd_T89 l0 x60_3).f0))).setCell ⟨gb481, 1, none⟩ (.int .i64 ((rd_T89 l0 x60_3).f1))).setCell ⟨gb481, 2, none⟩ (.int .i64 ((rd_T89 l0 x60_3).f2))).setCell ⟨gb481, 3, none⟩ (.int .i64 ((rd_T89 l0 x60_3).f3)))) ?hg ?ho ?hn ?hr ?_; (case ho => rfl); (case hg => rfl); (case hn => rfl); (case hr => first | (go_simp; done) | (go_simp; rfl)); intro w45 hw; have n0_ : Aside0 (Kd.R k89 89 w45 w.heap.size (fun k_ => k_ ≠ gb481) u11 x11_3) := ⟨(by rw [hw]; exact (by (with_reducible repeat (first | apply Kd.R_alloc | apply Kd.R_drewN | apply Kd.R_drew)); exact Kd.R_mono (Kd.R_far (p := ⟨gb481, 3, none⟩) (Kd.R_far (p := ⟨gb481, 2, none⟩) (Kd.R_far (p := ⟨gb481, 1, none⟩) (Kd.R_far (p := ⟨gb481, 0, none⟩) (Kd.R_mono HO_11.out (fun k_ hk => (⟨hk, hk.2⟩ : _ ∧ k_ ≠ gb481))) (fun _ hk => hk.2) (.string ((rd_T89 l0 x60_3).f0))) (fun _ hk => hk.2) (.int .i64 ((rd_T89 l0 x60_3).f1))) (fun _ hk => hk.2) (.int .i64 ((rd_T89 l0 x60_3).f2))) (fun _ hk => hk.2) (.int .i64 ((rd_T89 l0 x60_3).f3))) (fun _ hk => hk.1.2)))⟩; have n1_ : Aside0 (Kd.R (Kd.int .i64) 3 w45 w.heap.size (fun _ => True) v478 x12_3) := ⟨(by rw [hw]; exact (by (with_reducible repeat (first | apply Kd.R_alloc | apply Kd.R_drewN | apply Kd.R_drew)); exact Kd.R_mono (Kd.R_far (p := ⟨gb481, 3, none⟩) (Kd.R_far (p := ⟨gb481, 2, none⟩) (Kd.R_far (p := ⟨gb481, 1, none⟩) (Kd.R_far (p := ⟨gb481, 0, none⟩) (Kd.R_types HO_12.out BK481.out (by decide)) (fun _ hk => hk.2) (.string ((rd_T89 l0 x60_3).f0))) (fun _ hk => hk.2) (.int .i64 ((rd_T89 l0 x60_3).f1))) (fun _ hk => hk.2) (.int .i64 ((rd_T89 l0 x60_3).f2))) (fun _ hk => hk.2) (.int .i64 ((rd_T89 l0 x60_3).f3))) (fun _ hk => trivial)))⟩; have n2_ : Aside0 (w45.heap[gb481]? = some (.cells #[.string ((rd_T89 l0 x60_3).f0), .int .i64 ((rd_T89 l0 x60_3).f1), .int .i64 ((rd_T89 l0 x60_3).f2), .int .i64 ((rd_T89 l0 x60_3).f3)] 89 (0, 0))) := ⟨(by rw [hw]; exact (by (with_reducible repeat (first | refine blk_drewN ?_ _ | refine blk_drew ?_ | refine blk_alloc ?_ _)); refine blk_put (cs := #[.string ((rd_T89 l0 x60_3).f0), .int .i64 ((rd_T89 l0 x60_3).f1), .int .i64 ((rd_T89 l0 x60_3).f2), .int .i64 0]) ?_ 3 _ rfl; (with_reducible repeat (first | refine blk_drewN ?_ _ | refine blk_drew ?_ | refine blk_alloc ?_ _)); refine blk_put (cs := #[.string ((rd_T89 l0 x60_3).f0), .int .i64 ((rd_T89 l0 x60_3).f1), .int .i64 0, .int .i64 0]) ?_ 2 _ rfl; (with_reducible repeat (first | refine blk_drewN ?_ _ | refine blk_drew ?_ | refine blk_alloc ?_ _)); refine blk_put (cs := #[.string ((rd_T89 l0 x60_3).f0), .int .i64 0, .int .i64 0, .int .i64 0]) ?_ 1 _ rfl; (with_reducible repeat (first | refine blk_drewN ?_ _ | refine blk_drew ?_ | refine blk_alloc ?_ _)); refine blk_put (cs := #[.string (⟨#[]⟩ : ByteArray), .int .i64 0, .int .i64 0, .int .i64 0]) ?_ 0 _ rfl; (with_reducible repeat (first | refine blk_drewN ?_ _ | refine blk_drew ?_ | refine blk_alloc ?_ _)); exact BK481.out))⟩; have n3_ : Aside0 (Below w.heap.size w w45) := ⟨(by rw [hw]; exact (by repeat (first | (with_reducible first | exact HB.out | apply below_alloc | apply pw_below_drewN | apply below_drew1 | refine below_set ?_ GE481.out) | exact HB.out)))⟩; clear hw; clear HO_11; clear HO_12; clear BK481; clear HB; have HO_11 := n0_; have HO_12 := n1_; have BK481 := n2_; have HB := n3_; clear n0_ n1_ n2_ n3_; have hcz46_0 : w45.cell? ⟨gb481, 0, none⟩ = some (.string ((rd_T89 l0 x60_3).f0)) := (blk_cell BK481.out 0).trans rfl; have hcz46_1 : w45.cell? ⟨gb481, 1, none⟩ = some (.int .i64 ((rd_T89 l0 x60_3).f1)) := (blk_cell BK481.out 1).trans rfl; have hcz46_2 : w45.cell? ⟨gb481, 2, none⟩ = some (.int .i64 ((rd_T89 l0 x60_3).f2)) := (blk_cell BK481.out 2).trans rfl; have hcz46_3 : w45.cell? ⟨gb481, 3, none⟩ = some (.int .i64 ((rd_T89 l0 x60_3).f3)) := (blk_cell BK481.out 3).trans rfl; have hfz46_0 := blk_frozen BK481.out 0; have hfz46_1 := blk_frozen BK481.out 1; have hfz46_2 := blk_frozen BK481.out 2; have hfz46_3 := blk_frozen BK481.out 3; have p42 : 0 ≤ (x60_3 : Int) := of_decide_eq_true (by first | (with_reducible assumption) | assumption); have q42 : (x60_3 : Int) < ((x12_3.length : Int) : Int) := of_decide_eq_true (by first | (with_reducible assumption) | assumption); obtain ⟨go42, co42, eo42, gb42, gl42, cl42, HG42⟩ := Kd.R_form HO_12.out (by omega); (first | cases eo42 | (injection eo42 with ea_ en_ ec_; (first | subst ea_ | (injection ea_ with ea_; subst ea_)); subst ec_; clear en_)); have GB42 := Aside0.mk gb42; have GG42 := Aside0.mk HG42; clear gb42 gl42 HG42; obtain ⟨hx42_0, hf42_0⟩ := Kd.R_celln 0 HO_12.out (x60_3 : Int) p42 q42; replace p42 := eq_true p42; replace q42 := eq_true q42; obtain ⟨hy47_, hz47_⟩ := Kd.R_celln 0 HO_12.out (x60_3 : Int) (of_decide_eq_true (by first | (with_reducible assumption) | assumption)) (of_decide_eq_true (by first | (with_reducible assumption) | assumption)); have HP47 := Kd.R_putg HO_12.out (x60_3 : Int) (wrap64 ((l2.length : Int) - 1))) | ((with_reducible refine gate_store (t := 3) (p := 79) rfl ?_); refine store_event (t := 3) (p := 79) (v := ?vo_w48) (w1 := (w45.setCell ⟨go42, (x60_3 : Int).toNat, none⟩ (.int .i64 (wrap64 ((l2.length : Int) - 1))))) ?hg ?ho ?hn ?hr ?_; (case ho => rfl); (case hg => rfl); (case hn => rfl); (case hr => first | (go_simp; done) | (go_simp; rfl)); intro w48 hw; have hg : w45.grownBy w48 (some go42) := (by rw [hw]; exact HP47.2); have hp_ : Kd.R (Kd.int .i64) 3 w48 w.heap.size (fun _ => True) (.slice (some ⟨go42, 0, none⟩) x12_3.length co42) y482 := (by rw [hw, Ny482.out]; exact HP47.1); clear HP47; have n0_ := Aside0.mk (Kd.R_over' (v := (.slice (some ⟨go42, 0, none⟩) x12_3.length co42)) (by (with_reducible repeat (first | apply Kd.R_alloc | apply Kd.R_drewN | apply Kd.R_drew)); exact HO_11.out) (Kd.R_typed HO_12.out) (by decide) hg); have n1_ := Aside0.mk (hp_); have n2_ := Aside0.mk (blk_grown (g := gb481) (o := .cells #[.string ((rd_T89 l0 x60_3).f0), .int .i64 ((rd_T89 l0 x60_3).f1), .int .i64 ((rd_T89 l0 x60_3).f2), .int .i64 ((rd_T89 l0 x60_3).f3)] 89 (0, 0)) (by (with_reducible repeat (first | refine blk_drewN ?_ _ | refine blk_drew ?_ | refine blk_alloc ?_ _)); exact BK481.out) hg (Kd.R_ne HO_12.out BK481.out (by decide))); have n3_ := Aside0.mk ((by rw [hw]; exact below_set (HB.out) GB42.out : Below w.heap.size w w48)); clear HO_11; clear HO_12; clear BK481; clear HB; have HO_11 := n0_; have HO_12 := n1_; have BK481 := n2_; have HB := n3_; clear n0_ n1_ n2_ n3_; clear hg hw hp_))
                                      go_roundg k3
                                      case measure => have := HJ3.out; have := HK2.out; have := HK3.out; omega
                                      case rel => exact ⟨(x11_3), (y482), (wrap64 (x60_3 + 1)), (by first | rfl | (simp; done) | (simp [*]; done)), H', ⟨by have := HJ3.out; have := HK2.out; have := HK3.out; omega⟩, ⟨by (with_reducible repeat (first | apply Kd.R_alloc | apply Kd.R_drewN | apply Kd.R_drew)); exact Kd.R_mono HO_11.out (fun _ hk => trivial)⟩, ⟨by (with_reducible repeat (first | apply Kd.R_alloc | apply Kd.R_drewN | apply Kd.R_drew)); exact HO_12.out⟩, ⟨by repeat (first | (with_reducible first | exact HB.out | apply below_alloc | apply pw_below_drewN | apply below_drew1 | refine below_set ?_ GE481.out) | exact HB.out)⟩⟩
                                    · rw [if_neg c41] at H
                                      exact absurd H (by simp)
                                  · rw [if_neg c40] at H
                                    have c40b0 : (((rd_T89 l0 x60_3).f3) == a1) = false := beq_eq_false_iff_ne.mpr c40
                                    have c40b1 : (((rd_T89 l0 x60_3).f3) != a1) = true := bne_iff_ne.mpr c40
                                    by_cases c49 : x60_3 < (x12_3.length : Int)
                                    · rw [if_pos c49] at H
                                      have c49b0 : decide (x60_3 < (x12_3.length : Int)) = true := decide_eq_true c49
                                      clear c49
                                      obtain ⟨y483, hy483⟩ : ∃ y_ : List Int, y_ = (x12_3.set (x60_3 : Int).toNat (x11_3.length : Int)) := ⟨_, rfl⟩
                                      replace H : ((spec_exMoved.f k3 ((rd_T89 l0 x60_3).f0) ((rd_T89 l0 x60_3).f1) ((rd_T89 l0 x60_3).f2) ((rd_T89 l0 x60_3).f3) y483).bind fun bt484 => (if x11_3.length < 3518437208883 then (spec_PutInput.l1 k3 a1 l2 (x11_3 ++ [(⟨bt484.1, bt484.2.1, bt484.2.2.1, bt484.2.2.2⟩ : S89)]) y483 l0 (l0.length : Int) (wrap64 (x60_3 + 1))) else (none))) = some (r1, r2) := by first | (rw [hy483]; with_reducible exact H) | (have H2_ := (Option.bind_some _ _).symm.trans H; rw [hy483]; with_reducible exact H2_) | (have H2_ := (Option.bind_some _ _).symm.trans H; with_reducible exact H2_) | with_reducible exact H | (rw [hy483]; exact H) | exact H
                                      have Ny483 := Aside0.mk hy483
                                      clear hy483
                                      replace H := Option.bind_eq_some_iff.mp H
                                      obtain ⟨⟨t484, t485, t486, t487⟩, A510, H⟩ := H
                                      replace H : (if x11_3.length < 3518437208883 then (spec_PutInput.l1 k3 a1 l2 (x11_3 ++ [(⟨t484, t485, t486, t487⟩ : S89)]) y483 l0 (l0.length : Int) (wrap64 (x60_3 + 1))) else (none)) = some (r1, r2) := H
                                      have A51 := Aside0.mk A510
                                      clear A510
                                      by_cases c52 : x11_3.length < 3518437208883
                                      · rw [if_pos c52] at H
                                        have LMc52 := Aside0.mk c52
                                        clear c52
                                        obtain ⟨y488, hy488⟩ : ∃ y_ : List (S89), y_ = (x11_3 ++ [(⟨t484, t485, t486, t487⟩ : S89)]) := ⟨_, rfl⟩
                                        replace H : (spec_PutInput.l1 k3 a1 l2 y488 y483 l0 (l0.length : Int) (wrap64 (x60_3 + 1))) = some (r1, r2) := by first | (rw [hy488]; with_reducible exact H) | (have H2_ := (Option.bind_some _ _).symm.trans H; rw [hy488]; with_reducible exact H2_) | (have H2_ := (Option.bind_some _ _).symm.trans H; with_reducible exact H2_) | with_reducible exact H | (rw [hy488]; exact H) | exact H
                                        have Ny488 := Aside0.mk hy488
                                        clear hy488
                                        have H' := Aside0.mk H
                                        clear H
                                        have p480 : 0 ≤ (x60_3 : Int) := of_decide_eq_true (by first | (with_reducible assumption) | assumption)
                                        have q480 : x60_3 < (l0.length : Int) := of_decide_eq_true (by first | (with_reducible assumption) | assumption)
                                        obtain ⟨ad480, e480, hx480_0, hx480_1, hx480_2, hx480_3⟩ := at_T89 HR0.out x60_3 p480 q480
                                        cases e480
                                        replace hx480_0 := (HB.out.cell (World.block_lt_of_cell? w _ hx480_0)).trans hx480_0
                                        replace hx480_1 := (HB.out.cell (World.block_lt_of_cell? w _ hx480_1)).trans hx480_1
                                        replace hx480_2 := (HB.out.cell (World.block_lt_of_cell? w _ hx480_2)).trans hx480_2
                                        replace hx480_3 := (HB.out.cell (World.block_lt_of_cell? w _ hx480_3)).trans hx480_3
                                        replace p480 := eq_true p480
                                        replace q480 := eq_true q480
                                        go_wp2_with (first | ((with_reducible refine gate_dst (N := 14) rfl ?_); refine box_event ?hg (N := 14) ?hd (cs := #[.string (⟨#[]⟩ : ByteArray), .int .i64 0, .int .i64 0, .int .i64 0]) (t := 89) ?hr ?_; (case hd => rfl); (case hg => rfl); (case hr => first | (go_simp; done) | (go_simp; rfl)); intro gb481 hg w53 hbox hb; have n0_ := Aside0.mk (Kd.R_below (Kd.R_elderB (by (with_reducible repeat (first | apply Kd.R_alloc | apply Kd.R_drewN | apply Kd.R_drew)); exact HO_11.out) gb481 (Nat.le_of_eq hg.symm)) hb); have n1_ := Aside0.mk (Kd.R_below (by (with_reducible repeat (first | apply Kd.R_alloc | apply Kd.R_drewN | apply Kd.R_drew)); exact HO_12.out) hb); have n2_ := Aside0.mk (below_step (by repeat (first | (with_reducible first | exact HB.out | apply below_alloc | apply pw_below_drewN | apply below_drew1) | exact HB.out)) hb); have n3_ := Aside0.mk (hbox); have n4_ := Aside0.mk ((by rw [hg]; exact (below_size (by repeat (first | (with_reducible first | exact HB.out | apply below_alloc | apply pw_below_drewN | apply below_drew1) | exact HB.out))) : w.heap.size ≤ gb481)); have n5_ := Aside0.mk ((by rw [hg]; exact (below_size (by repeat (first | (with_reducible first | exact HB.out | apply below_alloc | apply pw_below_drewN | apply below_drew1) | exact HB.out))) : w.heap.size ≤ gb481)); clear HO_11; clear HO_12; clear HB; have HO_11 := n0_; have HO_12 := n1_; have HB := n2_; have BK481 := n3_; have GW481 := n4_; have GE481 := n5_; clear n0_ n1_ n2_ n3_ n4_ n5_; clear hb hbox hg; have hcz54_0 : w53.cell? ⟨gb481, 0, none⟩ = some (.string (⟨#[]⟩ : ByteArray)) := (blk_cell BK481.out 0).trans rfl; have hcz54_1 : w53.cell? ⟨gb481, 1, none⟩ = some (.int .i64 0) := (blk_cell BK481.out 1).trans rfl; have hcz54_2 : w53.cell? ⟨gb481, 2, none⟩ = some (.int .i64 0) := (blk_cell BK481.out 2).trans rfl; have hcz54_3 : w53.cell? ⟨gb481, 3, none⟩ = some (.int .i64 0) := (blk_cell BK481.out 3).trans rfl; have hfz54_0 := blk_frozen BK481.out 0; have hfz54_1 := blk_frozen BK481.out 1; have hfz54_2 := blk_frozen BK481.out 2; have hfz54_3 := blk_frozen BK481.out 3) | ((with_reducible refine gate_store (t := 89) (p := 14) rfl ?_); refine store_event (t := 89) (p := 14) (v := ?vo_w55) (w1 := ((((w53.setCell ⟨gb481, 0, none⟩ (.string ((rd_T89 l0 x60_3).f0))).setCell ⟨gb481, 1, none⟩ (.int .i64 ((rd_T89 l0 x60_3).f1))).setCell ⟨gb481, 2, none⟩ (.int .i64 ((rd_T89 l0 x60_3).f2))).setCell ⟨gb481, 3, none⟩ (.int .i64 ((rd_T89 l0 x60_3).f3)))) ?hg ?ho ?hn ?hr ?_; (case ho => rfl); (case hg => rfl); (case hn => rfl); (case hr => first | (go_simp; done) | (go_simp; rfl)); intro w55 hw; have n0_ : Aside0 (Kd.R k89 89 w55 w.heap.size (fun k_ => k_ ≠ gb481) u11 x11_3) := ⟨(by rw [hw]; exact (by (with_reducible repeat (first | apply Kd.R_alloc | apply Kd.R_drewN | apply Kd.R_drew)); exact Kd.R_mono (Kd.R_far (p := ⟨gb481, 3, none⟩) (Kd.R_far (p := ⟨gb481, 2, none⟩) (Kd.R_far (p := ⟨gb481, 1, none⟩) (Kd.R_far (p := ⟨gb481, 0, none⟩) (Kd.R_mono HO_11.out (fun k_ hk => (⟨hk, hk.2⟩ : _ ∧ k_ ≠ gb481))) (fun _ hk => hk.2) (.string ((rd_T89 l0 x60_3).f0))) (fun _ hk => hk.2) (.int .i64 ((rd_T89 l0 x60_3).f1))) (fun _ hk => hk.2) (.int .i64 ((rd_T89 l0 x60_3).f2))) (fun _ hk => hk.2) (.int .i64 ((rd_T89 l0 x60_3).f3))) (fun _ hk => hk.1.2)))⟩; have n1_ : Aside0 (Kd.R (Kd.int .i64) 3 w55 w.heap.size (fun _ => True) v478 x12_3) := ⟨(by rw [hw]; exact (by (with_reducible repeat (first | apply Kd.R_alloc | apply Kd.R_drewN | apply Kd.R_drew)); exact Kd.R_mono (Kd.R_far (p := ⟨gb481, 3, none⟩) (Kd.R_far (p := ⟨gb481, 2, none⟩) (Kd.R_far (p := ⟨gb481, 1, none⟩) (Kd.R_far (p := ⟨gb481, 0, none⟩) (Kd.R_types HO_12.out BK481.out (by decide)) (fun _ hk => hk.2) (.string ((rd_T89 l0 x60_3).f0))) (fun _ hk => hk.2) (.int .i64 ((rd_T89 l0 x60_3).f1))) (fun _ hk => hk.2) (.int .i64 ((rd_T89 l0 x60_3).f2))) (fun _ hk => hk.2) (.int .i64 ((rd_T89 l0 x60_3).f3))) (fun _ hk => trivial)))⟩; have n2_ : Aside0 (w55.heap[gb481]? = some (.cells #[.string ((rd_T89 l0 x60_3).f0), .int .i64 ((rd_T89 l0 x60_3).f1), .int .i64 ((rd_T89 l0 x60_3).f2), .int .i64 ((rd_T89 l0 x60_3).f3)] 89 (0, 0))) := ⟨(by rw [hw]; exact (by (with_reducible repeat (first | refine blk_drewN ?_ _ | refine blk_drew ?_ | refine blk_alloc ?_ _)); refine blk_put (cs := #[.string ((rd_T89 l0 x60_3).f0), .int .i64 ((rd_T89 l0 x60_3).f1), .int .i64 ((rd_T89 l0 x60_3).f2), .int .i64 0]) ?_ 3 _ rfl; (with_reducible repeat (first | refine blk_drewN ?_ _ | refine blk_drew ?_ | refine blk_alloc ?_ _)); refine blk_put (cs := #[.string ((rd_T89 l0 x60_3).f0), .int .i64 ((rd_T89 l0 x60_3).f1), .int .i64 0, .int .i64 0]) ?_ 2 _ rfl; (with_reducible repeat (first | refine blk_drewN ?_ _ | refine blk_drew ?_ | refine blk_alloc ?_ _)); refine blk_put (cs := #[.string ((rd_T89 l0 x60_3).f0), .int .i64 0, .int .i64 0, .int .i64 0]) ?_ 1 _ rfl; (with_reducible repeat (first | refine blk_drewN ?_ _ | refine blk_drew ?_ | refine blk_alloc ?_ _)); refine blk_put (cs := #[.string (⟨#[]⟩ : ByteArray), .int .i64 0, .int .i64 0, .int .i64 0]) ?_ 0 _ rfl; (with_reducible repeat (first | refine blk_drewN ?_ _ | refine blk_drew ?_ | refine blk_alloc ?_ _)); exact BK481.out))⟩; have n3_ : Aside0 (Below w.heap.size w w55) := ⟨(by rw [hw]; exact (by repeat (first | (with_reducible first | exact HB.out | apply below_alloc | apply pw_below_drewN | apply below_drew1 | refine below_set ?_ GE481.out) | exact HB.out)))⟩; clear hw; clear HO_11; clear HO_12; clear BK481; clear HB; have HO_11 := n0_; have HO_12 := n1_; have BK481 := n2_; have HB := n3_; clear n0_ n1_ n2_ n3_; have hcz56_0 : w55.cell? ⟨gb481, 0, none⟩ = some (.string ((rd_T89 l0 x60_3).f0)) := (blk_cell BK481.out 0).trans rfl; have hcz56_1 : w55.cell? ⟨gb481, 1, none⟩ = some (.int .i64 ((rd_T89 l0 x60_3).f1)) := (blk_cell BK481.out 1).trans rfl; have hcz56_2 : w55.cell? ⟨gb481, 2, none⟩ = some (.int .i64 ((rd_T89 l0 x60_3).f2)) := (blk_cell BK481.out 2).trans rfl; have hcz56_3 : w55.cell? ⟨gb481, 3, none⟩ = some (.int .i64 ((rd_T89 l0 x60_3).f3)) := (blk_cell BK481.out 3).trans rfl; have hfz56_0 := blk_frozen BK481.out 0; have hfz56_1 := blk_frozen BK481.out 1; have hfz56_2 := blk_frozen BK481.out 2; have hfz56_3 := blk_frozen BK481.out 3; obtain ⟨Ao57, co57, eo57⟩ := Kd.R_slice HO_11.out; subst eo57; have p50 : 0 ≤ (x60_3 : Int) := of_decide_eq_true (by first | (with_reducible assumption) | assumption); have q50 : (x60_3 : Int) < ((x12_3.length : Int) : Int) := of_decide_eq_true (by first | (with_reducible assumption) | assumption); obtain ⟨go50, co50, eo50, gb50, gl50, cl50, HG50⟩ := Kd.R_form HO_12.out (by omega); (first | cases eo50 | (injection eo50 with ea_ en_ ec_; (first | subst ea_ | (injection ea_ with ea_; subst ea_)); subst ec_; clear en_)); have GB50 := Aside0.mk gb50; have GG50 := Aside0.mk HG50; clear gb50 gl50 HG50; obtain ⟨hx50_0, hf50_0⟩ := Kd.R_celln 0 HO_12.out (x60_3 : Int) p50 q50; replace p50 := eq_true p50; replace q50 := eq_true q50; obtain ⟨hy58_, hz58_⟩ := Kd.R_celln 0 HO_12.out (x60_3 : Int) (of_decide_eq_true (by first | (with_reducible assumption) | assumption)) (of_decide_eq_true (by first | (with_reducible assumption) | assumption)); have HP58 := Kd.R_putg HO_12.out (x60_3 : Int) (x11_3.length : Int)) | ((with_reducible refine gate_store (t := 3) (p := 84) rfl ?_); refine store_event (t := 3) (p := 84) (v := ?vo_w59) (w1 := (w55.setCell ⟨go50, (x60_3 : Int).toNat, none⟩ (.int .i64 (x11_3.length : Int)))) ?hg ?ho ?hn ?hr ?_; (case ho => rfl); (case hg => rfl); (case hn => rfl); (case hr => first | (go_simp; done) | (go_simp; rfl)); intro w59 hw; have hg : w55.grownBy w59 (some go50) := (by rw [hw]; exact HP58.2); have hp_ : Kd.R (Kd.int .i64) 3 w59 w.heap.size (fun _ => True) (.slice (some ⟨go50, 0, none⟩) x12_3.length co50) y483 := (by rw [hw, Ny483.out]; exact HP58.1); clear HP58; have n0_ := Aside0.mk (Kd.R_over' (v := (.slice (some ⟨go50, 0, none⟩) x12_3.length co50)) (by (with_reducible repeat (first | apply Kd.R_alloc | apply Kd.R_drewN | apply Kd.R_drew)); exact HO_11.out) (Kd.R_typed HO_12.out) (by decide) hg); have n1_ := Aside0.mk (hp_); have n2_ := Aside0.mk (blk_grown (g := gb481) (o := .cells #[.string ((rd_T89 l0 x60_3).f0), .int .i64 ((rd_T89 l0 x60_3).f1), .int .i64 ((rd_T89 l0 x60_3).f2), .int .i64 ((rd_T89 l0 x60_3).f3)] 89 (0, 0)) (by (with_reducible repeat (first | refine blk_drewN ?_ _ | refine blk_drew ?_ | refine blk_alloc ?_ _)); exact BK481.out) hg (Kd.R_ne HO_12.out BK481.out (by decide))); have n3_ := Aside0.mk ((by rw [hw]; exact below_set (HB.out) GB50.out : Below w.heap.size w w59)); clear HO_11; clear HO_12; clear BK481; clear HB; have HO_11 := n0_; have HO_12 := n1_; have BK481 := n2_; have HB := n3_; clear n0_ n1_ n2_ n3_; clear hg hw hp_; have hcz60_0 : w59.cell? ⟨gb481, 0, none⟩ = some (.string ((rd_T89 l0 x60_3).f0)) := (blk_cell BK481.out 0).trans rfl; have hcz60_1 : w59.cell? ⟨gb481, 1, none⟩ = some (.int .i64 ((rd_T89 l0 x60_3).f1)) := (blk_cell BK481.out 1).trans rfl; have hcz60_2 : w59.cell? ⟨gb481, 2, none⟩ = some (.int .i64 ((rd_T89 l0 x60_3).f2)) := (blk_cell BK481.out 2).trans rfl; have hcz60_3 : w59.cell? ⟨gb481, 3, none⟩ = some (.int .i64 ((rd_T89 l0 x60_3).f3)) := (blk_cell BK481.out 3).trans rfl; have hfz60_0 := blk_frozen BK481.out 0; have hfz60_1 := blk_frozen BK481.out 1; have hfz60_2 := blk_frozen BK481.out 2; have hfz60_3 := blk_frozen BK481.out 3) | ((with_reducible refine gate_callee (f := 98) rfl ?_); refine goesL_ (some 88) rfl rfl Try.func98 (by kernel_rfl) rfl #[.agg #[.string ((rd_T89 l0 x60_3).f0), .int .i64 ((rd_T89 l0 x60_3).f1), .int .i64 ((rd_T89 l0 x60_3).f2), .int .i64 ((rd_T89 l0 x60_3).f3)], .slice (some ⟨go50, 0, none⟩) y483.length co50] rfl (by (try simp only [List.map_toArray, List.map_cons, List.map_nil]); first | done | (rw [show y483.length = x12_3.length from (Kd.R_reads' HO_12.out).1.symm] <;> rfl) | rfl | (simp only [List.length_drop, List.length_take]; rfl)) ?_; (with_reducible refine (spec_exMoved.calls k3 ((rd_T89 l0 x60_3).f0) ((rd_T89 l0 x60_3).f1) ((rd_T89 l0 x60_3).f2) ((rd_T89 l0 x60_3).f3) _ _ y483 t484 t485 t486 t487 _ ?side1 ?side2 A51.out).mono ?_); (case side1 => repeat (first | exact (Kd.R_reads' HO_12.out).2.2 | (with_reducible refine Kd.C_alloc ?_ _) | (with_reducible refine Kd.C_drewN ?_ _) | (with_reducible refine Kd.C_drew ?_))); (case side2 => rw [show y483.length = x12_3.length from (Kd.R_reads' HO_12.out).1.symm]; exact (Kd.R_reads' HO_12.out).2.1); rintro e w61 ⟨rfl, hb⟩; refine ⟨_, rfl, ?_⟩; have n0_ := Aside0.mk (Kd.R_below (by (with_reducible repeat (first | apply Kd.R_alloc | apply Kd.R_drewN | apply Kd.R_drew)); exact HO_11.out) hb); have n1_ := Aside0.mk (Kd.R_below (by (with_reducible repeat (first | apply Kd.R_alloc | apply Kd.R_drewN | apply Kd.R_drew)); exact HO_12.out) hb); have n2_ := Aside0.mk (blk_below (g := gb481) (o := .cells #[.string ((rd_T89 l0 x60_3).f0), .int .i64 ((rd_T89 l0 x60_3).f1), .int .i64 ((rd_T89 l0 x60_3).f2), .int .i64 ((rd_T89 l0 x60_3).f3)] 89 (0, 0)) (by (with_reducible repeat (first | refine blk_drewN ?_ _ | refine blk_drew ?_ | refine blk_alloc ?_ _)); exact BK481.out) hb); have n3_ := Aside0.mk (below_step (by repeat (first | (with_reducible first | exact HB.out | apply below_alloc | apply pw_below_drewN | apply below_drew1 | refine below_set ?_ GE481.out) | exact HB.out)) hb); clear HO_11; clear HO_12; clear BK481; clear HB; have HO_11 := n0_; have HO_12 := n1_; have BK481 := n2_; have HB := n3_; clear n0_ n1_ n2_ n3_; (try clear hb); (try clear hb2); (try clear hk); (try clear hi)) | ((with_reducible refine gate_builtin (b := .append) (xs := #[.tmp 85, .tmp 89]) rfl ?_); at_builtin; refine Kd.R_append k89 (w0 := w) w.heap.size rfl (.tmp 85) (.tmp 89) 27 89 (.agg #[(.string ⟨#[]⟩), (.int .i64 0), (.int .i64 0), (.int .i64 0)]) 40 rfl Try.underlying27 info89 rfl (by decide) (by omega) (.slice Ao57 x11_3.length co57) x11_3 (⟨t484, t485, t486, t487⟩ : S89) [.string t484, .int .i64 t485, .int .i64 t486, .int .i64 t487] (fun k_ => k_ ≠ gb481) (fun _ => False) rfl rfl ?aP (fun _ hk => hk.elim) ?aF ?aO ?aB ?aS ?aL ?_; (case aP => exact k89_mkM _ _ _ (⟨t484, t485, t486, t487⟩ : S89)); (case aB => exact (by repeat (first | (with_reducible first | exact HB.out | apply below_alloc | apply pw_below_drewN | apply below_drew1 | refine below_set ?_ GE481.out) | exact HB.out))); (case aF => exact (fun k_ hk => Kd.freshB (g := gb481) (o := .cells #[.string ((rd_T89 l0 x60_3).f0), .int .i64 ((rd_T89 l0 x60_3).f1), .int .i64 ((rd_T89 l0 x60_3).f2), .int .i64 ((rd_T89 l0 x60_3).f3)] 89 (0, 0)) (by (with_reducible repeat (first | refine blk_drewN ?_ _ | refine blk_drew ?_ | refine blk_alloc ?_ _)); exact BK481.out) k_ hk)); (case aO => exact (by (with_reducible repeat (first | apply Kd.R_alloc | apply Kd.R_drewN | apply Kd.R_drew)); exact HO_11.out)); (case aS => exact (below_size (by repeat (first | (with_reducible first | exact HB.out | apply below_alloc | apply pw_below_drewN | apply below_drew1 | refine below_set ?_ GE481.out) | exact HB.out)))); (case aL => have := LMc52.out; omega); intro v489 w62 ho hb hg hat; rw [← Ny488.out] at ho; have n0_ := Aside0.mk (Kd.R_over' (by (with_reducible repeat (first | apply Kd.R_alloc | apply Kd.R_drewN | apply Kd.R_drew)); exact HO_12.out) (Kd.R_typed (by (with_reducible repeat (first | apply Kd.R_alloc | apply Kd.R_drewN | apply Kd.R_drew)); exact HO_11.out)) (by decide) hg); have n1_ := Aside0.mk (blk_grown (g := gb481) (o := .cells #[.string ((rd_T89 l0 x60_3).f0), .int .i64 ((rd_T89 l0 x60_3).f1), .int .i64 ((rd_T89 l0 x60_3).f2), .int .i64 ((rd_T89 l0 x60_3).f3)] 89 (0, 0)) (by (with_reducible repeat (first | refine blk_drewN ?_ _ | refine blk_drew ?_ | refine blk_alloc ?_ _)); exact BK481.out) hg (Kd.R_away HO_11.out (fun _ hk => hk))); have n2_ := Aside0.mk (hb); have n3_ := Aside0.mk (ho); clear HO_12; clear BK481; clear HB; clear HO_11; have HO_12 := n0_; have BK481 := n1_; have HB := n2_; have HO490 := n3_; clear n0_ n1_ n2_ n3_; clear ho hb hg hat))
                                        go_roundg k3
                                        case measure => have := HJ3.out; have := HK2.out; have := HK3.out; omega
                                        case rel => exact ⟨(y488), (y483), (wrap64 (x60_3 + 1)), (by first | rfl | (simp; done) | (simp [*]; done)), H', ⟨by have := HJ3.out; have := HK2.out; have := HK3.out; omega⟩, ⟨by (with_reducible repeat (first | apply Kd.R_alloc | apply Kd.R_drewN | apply Kd.R_drew)); exact Kd.R_mono HO490.out (fun _ hk => trivial)⟩, ⟨by (with_reducible repeat (first | apply Kd.R_alloc | apply Kd.R_drewN | apply Kd.R_drew)); exact HO_12.out⟩, ⟨by repeat (first | (with_reducible first | exact HB.out | apply below_alloc | apply pw_below_drewN | apply below_drew1 | refine below_set ?_ GE481.out) | exact HB.out)⟩⟩
                                      · rw [if_neg c52] at H
                                        exact absurd H (by simp)
                                    · rw [if_neg c49] at H
                                      exact absurd H (by simp)
                                · rw [if_neg c39] at H
                                  have c39b0 : (((rd_T89 l0 x60_3).f0).toList == ([105, 110] : List UInt8)) = false := beq_eq_false_iff_ne.mpr c39
                                  have c39b1 : (((rd_T89 l0 x60_3).f0).toList != ([105, 110] : List UInt8)) = true := bne_iff_ne.mpr c39
                                  by_cases c63 : x60_3 < (x12_3.length : Int)
                                  · rw [if_pos c63] at H
                                    have c63b0 : decide (x60_3 < (x12_3.length : Int)) = true := decide_eq_true c63
                                    clear c63
                                    obtain ⟨y491, hy491⟩ : ∃ y_ : List Int, y_ = (x12_3.set (x60_3 : Int).toNat (x11_3.length : Int)) := ⟨_, rfl⟩
                                    replace H : ((spec_exMoved.f k3 ((rd_T89 l0 x60_3).f0) ((rd_T89 l0 x60_3).f1) ((rd_T89 l0 x60_3).f2) ((rd_T89 l0 x60_3).f3) y491).bind fun bt492 => (if x11_3.length < 3518437208883 then (spec_PutInput.l1 k3 a1 l2 (x11_3 ++ [(⟨bt492.1, bt492.2.1, bt492.2.2.1, bt492.2.2.2⟩ : S89)]) y491 l0 (l0.length : Int) (wrap64 (x60_3 + 1))) else (none))) = some (r1, r2) := by first | (rw [hy491]; with_reducible exact H) | (have H2_ := (Option.bind_some _ _).symm.trans H; rw [hy491]; with_reducible exact H2_) | (have H2_ := (Option.bind_some _ _).symm.trans H; with_reducible exact H2_) | with_reducible exact H | (rw [hy491]; exact H) | exact H
                                    have Ny491 := Aside0.mk hy491
                                    clear hy491
                                    replace H := Option.bind_eq_some_iff.mp H
                                    obtain ⟨⟨t492, t493, t494, t495⟩, A650, H⟩ := H
                                    replace H : (if x11_3.length < 3518437208883 then (spec_PutInput.l1 k3 a1 l2 (x11_3 ++ [(⟨t492, t493, t494, t495⟩ : S89)]) y491 l0 (l0.length : Int) (wrap64 (x60_3 + 1))) else (none)) = some (r1, r2) := H
                                    have A65 := Aside0.mk A650
                                    clear A650
                                    by_cases c66 : x11_3.length < 3518437208883
                                    · rw [if_pos c66] at H
                                      have LMc66 := Aside0.mk c66
                                      clear c66
                                      obtain ⟨y496, hy496⟩ : ∃ y_ : List (S89), y_ = (x11_3 ++ [(⟨t492, t493, t494, t495⟩ : S89)]) := ⟨_, rfl⟩
                                      replace H : (spec_PutInput.l1 k3 a1 l2 y496 y491 l0 (l0.length : Int) (wrap64 (x60_3 + 1))) = some (r1, r2) := by first | (rw [hy496]; with_reducible exact H) | (have H2_ := (Option.bind_some _ _).symm.trans H; rw [hy496]; with_reducible exact H2_) | (have H2_ := (Option.bind_some _ _).symm.trans H; with_reducible exact H2_) | with_reducible exact H | (rw [hy496]; exact H) | exact H
                                      have Ny496 := Aside0.mk hy496
                                      clear hy496
                                      have H' := Aside0.mk H
                                      clear H
                                      have p480 : 0 ≤ (x60_3 : Int) := of_decide_eq_true (by first | (with_reducible assumption) | assumption)
                                      have q480 : x60_3 < (l0.length : Int) := of_decide_eq_true (by first | (with_reducible assumption) | assumption)
                                      obtain ⟨ad480, e480, hx480_0, hx480_1, hx480_2, hx480_3⟩ := at_T89 HR0.out x60_3 p480 q480
                                      cases e480
                                      replace hx480_0 := (HB.out.cell (World.block_lt_of_cell? w _ hx480_0)).trans hx480_0
                                      replace hx480_1 := (HB.out.cell (World.block_lt_of_cell? w _ hx480_1)).trans hx480_1
                                      replace hx480_2 := (HB.out.cell (World.block_lt_of_cell? w _ hx480_2)).trans hx480_2
                                      replace hx480_3 := (HB.out.cell (World.block_lt_of_cell? w _ hx480_3)).trans hx480_3
                                      replace p480 := eq_true p480
                                      replace q480 := eq_true q480
                                      go_wp2_with (first | ((with_reducible refine gate_dst (N := 14) rfl ?_); refine box_event ?hg (N := 14) ?hd (cs := #[.string (⟨#[]⟩ : ByteArray), .int .i64 0, .int .i64 0, .int .i64 0]) (t := 89) ?hr ?_; (case hd => rfl); (case hg => rfl); (case hr => first | (go_simp; done) | (go_simp; rfl)); intro gb481 hg w67 hbox hb; have n0_ := Aside0.mk (Kd.R_below (Kd.R_elderB (by (with_reducible repeat (first | apply Kd.R_alloc | apply Kd.R_drewN | apply Kd.R_drew)); exact HO_11.out) gb481 (Nat.le_of_eq hg.symm)) hb); have n1_ := Aside0.mk (Kd.R_below (by (with_reducible repeat (first | apply Kd.R_alloc | apply Kd.R_drewN | apply Kd.R_drew)); exact HO_12.out) hb); have n2_ := Aside0.mk (below_step (by repeat (first | (with_reducible first | exact HB.out | apply below_alloc | apply pw_below_drewN | apply below_drew1) | exact HB.out)) hb); have n3_ := Aside0.mk (hbox); have n4_ := Aside0.mk ((by rw [hg]; exact (below_size (by repeat (first | (with_reducible first | exact HB.out | apply below_alloc | apply pw_below_drewN | apply below_drew1) | exact HB.out))) : w.heap.size ≤ gb481)); have n5_ := Aside0.mk ((by rw [hg]; exact (below_size (by repeat (first | (with_reducible first | exact HB.out | apply below_alloc | apply pw_below_drewN | apply below_drew1) | exact HB.out))) : w.heap.size ≤ gb481)); clear HO_11; clear HO_12; clear HB; have HO_11 := n0_; have HO_12 := n1_; have HB := n2_; have BK481 := n3_; have GW481 := n4_; have GE481 := n5_; clear n0_ n1_ n2_ n3_ n4_ n5_; clear hb hbox hg; have hcz68_0 : w67.cell? ⟨gb481, 0, none⟩ = some (.string (⟨#[]⟩ : ByteArray)) := (blk_cell BK481.out 0).trans rfl; have hcz68_1 : w67.cell? ⟨gb481, 1, none⟩ = some (.int .i64 0) := (blk_cell BK481.out 1).trans rfl; have hcz68_2 : w67.cell? ⟨gb481, 2, none⟩ = some (.int .i64 0) := (blk_cell BK481.out 2).trans rfl; have hcz68_3 : w67.cell? ⟨gb481, 3, none⟩ = some (.int .i64 0) := (blk_cell BK481.out 3).trans rfl; have hfz68_0 := blk_frozen BK481.out 0; have hfz68_1 := blk_frozen BK481.out 1; have hfz68_2 := blk_frozen BK481.out 2; have hfz68_3 := blk_frozen BK481.out 3) | ((with_reducible refine gate_store (t := 89) (p := 14) rfl ?_); refine store_event (t := 89) (p := 14) (v := ?vo_w69) (w1 := ((((w67.setCell ⟨gb481, 0, none⟩ (.string ((rd_T89 l0 x60_3).f0))).setCell ⟨gb481, 1, none⟩ (.int .i64 ((rd_T89 l0 x60_3).f1))).setCell ⟨gb481, 2, none⟩ (.int .i64 ((rd_T89 l0 x60_3).f2))).setCell ⟨gb481, 3, none⟩ (.int .i64 ((rd_T89 l0 x60_3).f3)))) ?hg ?ho ?hn ?hr ?_; (case ho => rfl); (case hg => rfl); (case hn => rfl); (case hr => first | (go_simp; done) | (go_simp; rfl)); intro w69 hw; have n0_ : Aside0 (Kd.R k89 89 w69 w.heap.size (fun k_ => k_ ≠ gb481) u11 x11_3) := ⟨(by rw [hw]; exact (by (with_reducible repeat (first | apply Kd.R_alloc | apply Kd.R_drewN | apply Kd.R_drew)); exact Kd.R_mono (Kd.R_far (p := ⟨gb481, 3, none⟩) (Kd.R_far (p := ⟨gb481, 2, none⟩) (Kd.R_far (p := ⟨gb481, 1, none⟩) (Kd.R_far (p := ⟨gb481, 0, none⟩) (Kd.R_mono HO_11.out (fun k_ hk => (⟨hk, hk.2⟩ : _ ∧ k_ ≠ gb481))) (fun _ hk => hk.2) (.string ((rd_T89 l0 x60_3).f0))) (fun _ hk => hk.2) (.int .i64 ((rd_T89 l0 x60_3).f1))) (fun _ hk => hk.2) (.int .i64 ((rd_T89 l0 x60_3).f2))) (fun _ hk => hk.2) (.int .i64 ((rd_T89 l0 x60_3).f3))) (fun _ hk => hk.1.2)))⟩; have n1_ : Aside0 (Kd.R (Kd.int .i64) 3 w69 w.heap.size (fun _ => True) v478 x12_3) := ⟨(by rw [hw]; exact (by (with_reducible repeat (first | apply Kd.R_alloc | apply Kd.R_drewN | apply Kd.R_drew)); exact Kd.R_mono (Kd.R_far (p := ⟨gb481, 3, none⟩) (Kd.R_far (p := ⟨gb481, 2, none⟩) (Kd.R_far (p := ⟨gb481, 1, none⟩) (Kd.R_far (p := ⟨gb481, 0, none⟩) (Kd.R_types HO_12.out BK481.out (by decide)) (fun _ hk => hk.2) (.string ((rd_T89 l0 x60_3).f0))) (fun _ hk => hk.2) (.int .i64 ((rd_T89 l0 x60_3).f1))) (fun _ hk => hk.2) (.int .i64 ((rd_T89 l0 x60_3).f2))) (fun _ hk => hk.2) (.int .i64 ((rd_T89 l0 x60_3).f3))) (fun _ hk => trivial)))⟩; have n2_ : Aside0 (w69.heap[gb481]? = some (.cells #[.string ((rd_T89 l0 x60_3).f0), .int .i64 ((rd_T89 l0 x60_3).f1), .int .i64 ((rd_T89 l0 x60_3).f2), .int .i64 ((rd_T89 l0 x60_3).f3)] 89 (0, 0))) := ⟨(by rw [hw]; exact (by (with_reducible repeat (first | refine blk_drewN ?_ _ | refine blk_drew ?_ | refine blk_alloc ?_ _)); refine blk_put (cs := #[.string ((rd_T89 l0 x60_3).f0), .int .i64 ((rd_T89 l0 x60_3).f1), .int .i64 ((rd_T89 l0 x60_3).f2), .int .i64 0]) ?_ 3 _ rfl; (with_reducible repeat (first | refine blk_drewN ?_ _ | refine blk_drew ?_ | refine blk_alloc ?_ _)); refine blk_put (cs := #[.string ((rd_T89 l0 x60_3).f0), .int .i64 ((rd_T89 l0 x60_3).f1), .int .i64 0, .int .i64 0]) ?_ 2 _ rfl; (with_reducible repeat (first | refine blk_drewN ?_ _ | refine blk_drew ?_ | refine blk_alloc ?_ _)); refine blk_put (cs := #[.string ((rd_T89 l0 x60_3).f0), .int .i64 0, .int .i64 0, .int .i64 0]) ?_ 1 _ rfl; (with_reducible repeat (first | refine blk_drewN ?_ _ | refine blk_drew ?_ | refine blk_alloc ?_ _)); refine blk_put (cs := #[.string (⟨#[]⟩ : ByteArray), .int .i64 0, .int .i64 0, .int .i64 0]) ?_ 0 _ rfl; (with_reducible repeat (first | refine blk_drewN ?_ _ | refine blk_drew ?_ | refine blk_alloc ?_ _)); exact BK481.out))⟩; have n3_ : Aside0 (Below w.heap.size w w69) := ⟨(by rw [hw]; exact (by repeat (first | (with_reducible first | exact HB.out | apply below_alloc | apply pw_below_drewN | apply below_drew1 | refine below_set ?_ GE481.out) | exact HB.out)))⟩; clear hw; clear HO_11; clear HO_12; clear BK481; clear HB; have HO_11 := n0_; have HO_12 := n1_; have BK481 := n2_; have HB := n3_; clear n0_ n1_ n2_ n3_; have hcz70_0 : w69.cell? ⟨gb481, 0, none⟩ = some (.string ((rd_T89 l0 x60_3).f0)) := (blk_cell BK481.out 0).trans rfl; have hcz70_1 : w69.cell? ⟨gb481, 1, none⟩ = some (.int .i64 ((rd_T89 l0 x60_3).f1)) := (blk_cell BK481.out 1).trans rfl; have hcz70_2 : w69.cell? ⟨gb481, 2, none⟩ = some (.int .i64 ((rd_T89 l0 x60_3).f2)) := (blk_cell BK481.out 2).trans rfl; have hcz70_3 : w69.cell? ⟨gb481, 3, none⟩ = some (.int .i64 ((rd_T89 l0 x60_3).f3)) := (blk_cell BK481.out 3).trans rfl; have hfz70_0 := blk_frozen BK481.out 0; have hfz70_1 := blk_frozen BK481.out 1; have hfz70_2 := blk_frozen BK481.out 2; have hfz70_3 := blk_frozen BK481.out 3; obtain ⟨Ao71, co71, eo71⟩ := Kd.R_slice HO_11.out; subst eo71; have p64 : 0 ≤ (x60_3 : Int) := of_decide_eq_true (by first | (with_reducible assumption) | assumption); have q64 : (x60_3 : Int) < ((x12_3.length : Int) : Int) := of_decide_eq_true (by first | (with_reducible assumption) | assumption); obtain ⟨go64, co64, eo64, gb64, gl64, cl64, HG64⟩ := Kd.R_form HO_12.out (by omega); (first | cases eo64 | (injection eo64 with ea_ en_ ec_; (first | subst ea_ | (injection ea_ with ea_; subst ea_)); subst ec_; clear en_)); have GB64 := Aside0.mk gb64; have GG64 := Aside0.mk HG64; clear gb64 gl64 HG64; obtain ⟨hx64_0, hf64_0⟩ := Kd.R_celln 0 HO_12.out (x60_3 : Int) p64 q64; replace p64 := eq_true p64; replace q64 := eq_true q64; obtain ⟨hy72_, hz72_⟩ := Kd.R_celln 0 HO_12.out (x60_3 : Int) (of_decide_eq_true (by first | (with_reducible assumption) | assumption)) (of_decide_eq_true (by first | (with_reducible assumption) | assumption)); have HP72 := Kd.R_putg HO_12.out (x60_3 : Int) (x11_3.length : Int)) | ((with_reducible refine gate_store (t := 3) (p := 84) rfl ?_); refine store_event (t := 3) (p := 84) (v := ?vo_w73) (w1 := (w69.setCell ⟨go64, (x60_3 : Int).toNat, none⟩ (.int .i64 (x11_3.length : Int)))) ?hg ?ho ?hn ?hr ?_; (case ho => rfl); (case hg => rfl); (case hn => rfl); (case hr => first | (go_simp; done) | (go_simp; rfl)); intro w73 hw; have hg : w69.grownBy w73 (some go64) := (by rw [hw]; exact HP72.2); have hp_ : Kd.R (Kd.int .i64) 3 w73 w.heap.size (fun _ => True) (.slice (some ⟨go64, 0, none⟩) x12_3.length co64) y491 := (by rw [hw, Ny491.out]; exact HP72.1); clear HP72; have n0_ := Aside0.mk (Kd.R_over' (v := (.slice (some ⟨go64, 0, none⟩) x12_3.length co64)) (by (with_reducible repeat (first | apply Kd.R_alloc | apply Kd.R_drewN | apply Kd.R_drew)); exact HO_11.out) (Kd.R_typed HO_12.out) (by decide) hg); have n1_ := Aside0.mk (hp_); have n2_ := Aside0.mk (blk_grown (g := gb481) (o := .cells #[.string ((rd_T89 l0 x60_3).f0), .int .i64 ((rd_T89 l0 x60_3).f1), .int .i64 ((rd_T89 l0 x60_3).f2), .int .i64 ((rd_T89 l0 x60_3).f3)] 89 (0, 0)) (by (with_reducible repeat (first | refine blk_drewN ?_ _ | refine blk_drew ?_ | refine blk_alloc ?_ _)); exact BK481.out) hg (Kd.R_ne HO_12.out BK481.out (by decide))); have n3_ := Aside0.mk ((by rw [hw]; exact below_set (HB.out) GB64.out : Below w.heap.size w w73)); clear HO_11; clear HO_12; clear BK481; clear HB; have HO_11 := n0_; have HO_12 := n1_; have BK481 := n2_; have HB := n3_; clear n0_ n1_ n2_ n3_; clear hg hw hp_; have hcz74_0 : w73.cell? ⟨gb481, 0, none⟩ = some (.string ((rd_T89 l0 x60_3).f0)) := (blk_cell BK481.out 0).trans rfl; have hcz74_1 : w73.cell? ⟨gb481, 1, none⟩ = some (.int .i64 ((rd_T89 l0 x60_3).f1)) := (blk_cell BK481.out 1).trans rfl; have hcz74_2 : w73.cell? ⟨gb481, 2, none⟩ = some (.int .i64 ((rd_T89 l0 x60_3).f2)) := (blk_cell BK481.out 2).trans rfl; have hcz74_3 : w73.cell? ⟨gb481, 3, none⟩ = some (.int .i64 ((rd_T89 l0 x60_3).f3)) := (blk_cell BK481.out 3).trans rfl; have hfz74_0 := blk_frozen BK481.out 0; have hfz74_1 := blk_frozen BK481.out 1; have hfz74_2 := blk_frozen BK481.out 2; have hfz74_3 := blk_frozen BK481.out 3) | ((with_reducible refine gate_callee (f := 98) rfl ?_); refine goesL_ (some 88) rfl rfl Try.func98 (by kernel_rfl) rfl #[.agg #[.string ((rd_T89 l0 x60_3).f0), .int .i64 ((rd_T89 l0 x60_3).f1), .int .i64 ((rd_T89 l0 x60_3).f2), .int .i64 ((rd_T89 l0 x60_3).f3)], .slice (some ⟨go64, 0, none⟩) y491.length co64] rfl (by (try simp only [List.map_toArray, List.map_cons, List.map_nil]); first | done | (rw [show y491.length = x12_3.length from (Kd.R_reads' HO_12.out).1.symm] <;> rfl) | rfl | (simp only [List.length_drop, List.length_take]; rfl)) ?_; (with_reducible refine (spec_exMoved.calls k3 ((rd_T89 l0 x60_3).f0) ((rd_T89 l0 x60_3).f1) ((rd_T89 l0 x60_3).f2) ((rd_T89 l0 x60_3).f3) _ _ y491 t492 t493 t494 t495 _ ?side1 ?side2 A65.out).mono ?_); (case side1 => repeat (first | exact (Kd.R_reads' HO_12.out).2.2 | (with_reducible refine Kd.C_alloc ?_ _) | (with_reducible refine Kd.C_drewN ?_ _) | (with_reducible refine Kd.C_drew ?_))); (case side2 => rw [show y491.length = x12_3.length from (Kd.R_reads' HO_12.out).1.symm]; exact (Kd.R_reads' HO_12.out).2.1); rintro e w75 ⟨rfl, hb⟩; refine ⟨_, rfl, ?_⟩; have n0_ := Aside0.mk (Kd.R_below (by (with_reducible repeat (first | apply Kd.R_alloc | apply Kd.R_drewN | apply Kd.R_drew)); exact HO_11.out) hb); have n1_ := Aside0.mk (Kd.R_below (by (with_reducible repeat (first | apply Kd.R_alloc | apply Kd.R_drewN | apply Kd.R_drew)); exact HO_12.out) hb); have n2_ := Aside0.mk (blk_below (g := gb481) (o := .cells #[.string ((rd_T89 l0 x60_3).f0), .int .i64 ((rd_T89 l0 x60_3).f1), .int .i64 ((rd_T89 l0 x60_3).f2), .int .i64 ((rd_T89 l0 x60_3).f3)] 89 (0, 0)) (by (with_reducible repeat (first | refine blk_drewN ?_ _ | refine blk_drew ?_ | refine blk_alloc ?_ _)); exact BK481.out) hb); have n3_ := Aside0.mk (below_step (by repeat (first | (with_reducible first | exact HB.out | apply below_alloc | apply pw_below_drewN | apply below_drew1 | refine below_set ?_ GE481.out) | exact HB.out)) hb); clear HO_11; clear HO_12; clear BK481; clear HB; have HO_11 := n0_; have HO_12 := n1_; have BK481 := n2_; have HB := n3_; clear n0_ n1_ n2_ n3_; (try clear hb); (try clear hb2); (try clear hk); (try clear hi)) | ((with_reducible refine gate_builtin (b := .append) (xs := #[.tmp 85, .tmp 89]) rfl ?_); at_builtin; refine Kd.R_append k89 (w0 := w) w.heap.size rfl (.tmp 85) (.tmp 89) 27 89 (.agg #[(.string ⟨#[]⟩), (.int .i64 0), (.int .i64 0), (.int .i64 0)]) 40 rfl Try.underlying27 info89 rfl (by decide) (by omega) (.slice Ao71 x11_3.length co71) x11_3 (⟨t492, t493, t494, t495⟩ : S89) [.string t492, .int .i64 t493, .int .i64 t494, .int .i64 t495] (fun k_ => k_ ≠ gb481) (fun _ => False) rfl rfl ?aP (fun _ hk => hk.elim) ?aF ?aO ?aB ?aS ?aL ?_; (case aP => exact k89_mkM _ _ _ (⟨t492, t493, t494, t495⟩ : S89)); (case aB => exact (by repeat (first | (with_reducible first | exact HB.out | apply below_alloc | apply pw_below_drewN | apply below_drew1 | refine below_set ?_ GE481.out) | exact HB.out))); (case aF => exact (fun k_ hk => Kd.freshB (g := gb481) (o := .cells #[.string ((rd_T89 l0 x60_3).f0), .int .i64 ((rd_T89 l0 x60_3).f1), .int .i64 ((rd_T89 l0 x60_3).f2), .int .i64 ((rd_T89 l0 x60_3).f3)] 89 (0, 0)) (by (with_reducible repeat (first | refine blk_drewN ?_ _ | refine blk_drew ?_ | refine blk_alloc ?_ _)); exact BK481.out) k_ hk)); (case aO => exact (by (with_reducible repeat (first | apply Kd.R_alloc | apply Kd.R_drewN | apply Kd.R_drew)); exact HO_11.out)); (case aS => exact (below_size (by repeat (first | (with_reducible first | exact HB.out | apply below_alloc | apply pw_below_drewN | apply below_drew1 | refine below_set ?_ GE481.out) | exact HB.out)))); (case aL => have := LMc66.out; omega); intro v497 w76 ho hb hg hat; rw [← Ny496.out] at ho; have n0_ := Aside0.mk (Kd.R_over' (by (with_reducible repeat (first | apply Kd.R_alloc | apply Kd.R_drewN | apply Kd.R_drew)); exact HO_12.out) (Kd.R_typed (by (with_reducible repeat (first | apply Kd.R_alloc | apply Kd.R_drewN | apply Kd.R_drew)); exact HO_11.out)) (by decide) hg); have n1_ := Aside0.mk (blk_grown (g := gb481) (o := .cells #[.string ((rd_T89 l0 x60_3).f0), .int .i64 ((rd_T89 l0 x60_3).f1), .int .i64 ((rd_T89 l0 x60_3).f2), .int .i64 ((rd_T89 l0 x60_3).f3)] 89 (0, 0)) (by (with_reducible repeat (first | refine blk_drewN ?_ _ | refine blk_drew ?_ | refine blk_alloc ?_ _)); exact BK481.out) hg (Kd.R_away HO_11.out (fun _ hk => hk))); have n2_ := Aside0.mk (hb); have n3_ := Aside0.mk (ho); clear HO_12; clear BK481; clear HB; clear HO_11; have HO_12 := n0_; have BK481 := n1_; have HB := n2_; have HO498 := n3_; clear n0_ n1_ n2_ n3_; clear ho hb hg hat))
                                      go_roundg k3
                                      case measure => have := HJ3.out; have := HK2.out; have := HK3.out; omega
                                      case rel => exact ⟨(y496), (y491), (wrap64 (x60_3 + 1)), (by first | rfl | (simp; done) | (simp [*]; done)), H', ⟨by have := HJ3.out; have := HK2.out; have := HK3.out; omega⟩, ⟨by (with_reducible repeat (first | apply Kd.R_alloc | apply Kd.R_drewN | apply Kd.R_drew)); exact Kd.R_mono HO498.out (fun _ hk => trivial)⟩, ⟨by (with_reducible repeat (first | apply Kd.R_alloc | apply Kd.R_drewN | apply Kd.R_drew)); exact HO_12.out⟩, ⟨by repeat (first | (with_reducible first | exact HB.out | apply below_alloc | apply pw_below_drewN | apply below_drew1 | refine below_set ?_ GE481.out) | exact HB.out)⟩⟩
                                    · rw [if_neg c66] at H
                                      exact absurd H (by simp)
                                  · rw [if_neg c63] at H
                                    exact absurd H (by simp)
                              · rw [if_neg c38] at H
                                exact absurd H (by simp)
                            · rw [if_neg c37] at H
                              exact absurd H (by simp)
                          · rw [if_neg c36] at H
                            have c36b0 : decide (x60_3 < (l0.length : Int)) = false := decide_eq_false c36
                            clear c36
                            by_cases c77 : (x11_3.length : Int) > 24
                            · rw [if_pos c77] at H
                              have c77b0 : decide (24 < (x11_3.length : Int)) = true := decide_eq_true c77
                              have c77b1 : decide (24 < x11_3.length) = true := decide_eq_true (by omega)
                              clear c77
                              simp only [Option.some.injEq, Prod.mk.injEq] at H
                              obtain ⟨rfl, rfl⟩ := H
                              obtain ⟨Ao78, co78, eo78⟩ := Kd.R_slice HO_11.out
                              subst eo78
                              go_wp2
                              go_ret2
                              exact ⟨_, by first | rfl | (simp [errW_none, errW_some] <;> rfl) | (simp [*, errW_none, errW_some] <;> rfl), by first | exact Kd.R_nil _ _ _ _ _ | exact Kd.N_nil _ _ _ _ _ | exact Kd.V_nil _ _ _ _ _ | exact Kd.Q_nil _ _ _ _ _ | exact Kd.S_nil _ _ _ _ _, by repeat (first | (with_reducible first | exact HB.out | apply below_alloc | apply pw_below_drewN | apply below_drew1) | exact HB.out)⟩
                            · rw [if_neg c77] at H
                              have c77b0 : decide (24 < (x11_3.length : Int)) = false := decide_eq_false c77
                              have c77b1 : decide (24 < x11_3.length) = false := decide_eq_false (by omega)
                              clear c77
                              simp only [Option.some.injEq, Prod.mk.injEq] at H
                              obtain ⟨rfl, rfl⟩ := H
                              obtain ⟨Ao79, co79, eo79⟩ := Kd.R_slice HO_11.out
                              subst eo79
                              go_wp2
                              go_ret2
                              exact ⟨_, by first | rfl | (simp [errW_none, errW_some] <;> rfl) | (simp [*, errW_none, errW_some] <;> rfl), by (with_reducible repeat (first | apply Kd.R_alloc | apply Kd.R_drewN | apply Kd.R_drew)); exact HO_11.out, by repeat (first | (with_reducible first | exact HB.out | apply below_alloc | apply pw_below_drewN | apply below_drew1) | exact HB.out)⟩
                    · rw [if_neg c30] at H
                      exact absurd H (by simp)
                  · rw [if_neg c29] at H
                    exact absurd H (by simp)
                · rw [if_neg c28] at H
                  exact absurd H (by simp)
              · replace c27 := Bool.eq_false_iff.mpr c27
                subst c27
                have H1 : ((some (([] : List (S89)) : List (S89))).bind fun y465 => (if y465.length + l0.length < 3518437208883 then (some ((y465 ++ l0), true)) else (none))) = some (r1, r2) := by rw [if_neg (show ¬ (false = true) by decide)] at H; exact H
                clear H
                have H := H1
                clear H1
                obtain ⟨y465, hy465⟩ : ∃ y_ : List (S89), y_ = (([] : List (S89))) := ⟨_, rfl⟩
                replace H : (if y465.length + l0.length < 3518437208883 then (some ((y465 ++ l0), true)) else (none)) = some (r1, r2) := by first | (rw [hy465]; with_reducible exact H) | (have H2_ := (Option.bind_some _ _).symm.trans H; rw [hy465]; with_reducible exact H2_) | (have H2_ := (Option.bind_some _ _).symm.trans H; with_reducible exact H2_) | with_reducible exact H | (rw [hy465]; exact H) | exact H
                have Ny465 := Aside0.mk hy465
                clear hy465
                by_cases c80 : y465.length + l0.length < 3518437208883
                · rw [if_pos c80] at H
                  have LMc80 := Aside0.mk c80
                  clear c80
                  obtain ⟨y468, hy468⟩ : ∃ y_ : List (S89), y_ = (y465 ++ l0) := ⟨_, rfl⟩
                  replace H : (some (y468, true)) = some (r1, r2) := by first | (rw [hy468]; with_reducible exact H) | (have H2_ := (Option.bind_some _ _).symm.trans H; rw [hy468]; with_reducible exact H2_) | (have H2_ := (Option.bind_some _ _).symm.trans H; with_reducible exact H2_) | with_reducible exact H | (rw [hy468]; exact H) | exact H
                  have Ny468 := Aside0.mk hy468
                  clear hy468
                  simp only [Option.some.injEq, Prod.mk.injEq] at H
                  obtain ⟨rfl, rfl⟩ := H
                  go_wp2_with (first | ((with_reducible refine gate_dst (N := 49) rfl ?_); refine Kd.R_lit k89 _ 89 ?hg (N := 49) ?hd (xs := ([] : List (S89))) (inner := []) (ok := fun _ => True) (okp := fun _ => True) ?hr ?hp (fun _ hk => hk) trivial (Below.refl _ _) (Nat.le_refl _) (by simp) ?_; (case hd => rfl); (case hg => rfl); (case hr => first | (go_simp; done) | (go_simp; rfl)); (case hp => exact (Reps.none _ _)); intro v466 w81 ho82 hb hg_ hnew_; clear hg_ hnew_; (first | rw [← Ny465.out] at ho82 | (simp only [Int.reduceToNat] at ho82; rw [← Ny465.out] at ho82)); have n0_ := Aside0.mk (Kd.R_lower ho82 (below_size (by repeat (first | (with_reducible first | exact HB.out | apply below_alloc | apply pw_below_drewN | apply below_drew1) | exact HB.out)))); have n1_ := Aside0.mk (below_step (by repeat (first | (with_reducible first | exact HB.out | apply below_alloc | apply pw_below_drewN | apply below_drew1) | exact HB.out)) hb); clear HB; have HO467 := n0_; have HB := n1_; clear n0_ n1_; clear hb ho82) | ((with_reducible refine gate_builtin (b := .append) (xs := #[.tmp 49, .tmp 50]) rfl ?_); at_builtin; refine Kd.R_append_rows k89 (w0 := w) w.heap.size rfl (.tmp 49) (.tmp 50) 27 89 (.agg #[(.string ⟨#[]⟩), (.int .i64 0), (.int .i64 0), (.int .i64 0)]) 40 rfl Try.underlying27 info89 rfl (by decide) (by omega) v466 y465 l0 _ _ _ (fun _ => True) (fun _ => False) rfl rfl ?aO ?aR (fun _ _ h => h) (fun _ h => h.elim) ?aF ?aB ?aS ?aL ?_; (case aR => repeat (first | exact (Kd.C_below HR0.out HB.out) | (with_reducible refine Kd.C_alloc ?_ _) | (with_reducible refine Kd.C_drewN ?_ _) | (with_reducible refine Kd.C_drew ?_))); (case aB => exact (by repeat (first | (with_reducible first | exact HB.out | apply below_alloc | apply pw_below_drewN | apply below_drew1) | exact HB.out))); (case aF => exact (fun _ _ => trivial)); (case aO => exact (by (with_reducible repeat (first | apply Kd.R_alloc | apply Kd.R_drewN | apply Kd.R_drew)); exact HO467.out)); (case aS => exact (below_size (by repeat (first | (with_reducible first | exact HB.out | apply below_alloc | apply pw_below_drewN | apply below_drew1) | exact HB.out)))); (case aL => have := LMc80.out; omega); intro v469 w83 ho hb hg hat; rw [← Ny468.out] at ho; have n0_ := Aside0.mk (hb); have n1_ := Aside0.mk (ho); clear HB; clear HO467; have HB := n0_; have HO470 := n1_; clear n0_ n1_; clear ho hb hg hat))
                  go_ret2
                  exact ⟨_, by first | rfl | (simp [errW_none, errW_some] <;> rfl) | (simp [*, errW_none, errW_some] <;> rfl), by (with_reducible repeat (first | apply Kd.R_alloc | apply Kd.R_drewN | apply Kd.R_drew)); exact HO470.out, by repeat (first | (with_reducible first | exact HB.out | apply below_alloc | apply pw_below_drewN | apply below_drew1) | exact HB.out)⟩
                · rw [if_neg c80] at H
                  exact absurd H (by simp)

/-! ### impl_Node_100: function 100 -/
def impl_Node_100.f (l0 : List (S89)) : Option ((List (S89))) := (some (([] : List (S89)) : List (S89))).bind fun y499 => (if y499.length + l0.length < 3518437208883 then (some (y499 ++ l0)) else (none))
-- needs: Derived.Lib.SliceRun
set_option maxHeartbeats 8000000 in
set_option maxRecDepth 100000 in
theorem impl_Node_100.calls (A0 : Option Addr) (c0 : Nat) (l0 : List (S89)) (r : List (S89)) (w : World) (hr0 : Kd.C k89 w A0 l0.length l0) (hc0 : l0.length ≤ c0) (h : impl_Node_100.f l0 = some r) :
    Calls Try.prog 100 #[.slice A0 l0.length c0] w fun e w' => ∃ v0_ : Value, e = .returned (v0_) ∧ Kd.R k89 89 w' w.heap.size (fun _ => True) v0_ r ∧ Below w.heap.size w w' := by
  cases A0 with
  | none =>
    have hl : l0 = [] := by
      rcases Nat.eq_zero_or_pos l0.length with h0 | h0
      · exact List.length_eq_zero_iff.1 h0
      · obtain ⟨_, e, _⟩ := hr0.2.2 h0
        cases e
    subst hl
    obtain rfl : r = [] := by
      have h' := h
      simp [impl_Node_100.f] at h'
      exact h'
    clear h hr0 hc0
    have hnil := fun W : World => Lib.run_eql_slice_nil (P := Try.prog) W 27 89 none 0 c0 0 0 Try.underlying27
    simp only [Option.isNone_none, List.length_nil] at hnil ⊢
    go_enter Try.func100, Try.ntmps100
    go_wp2
    go_ret
    exact ⟨_, rfl, Kd.R_nil _ _ _ _ _, Below.refl _ _⟩
  | some ad =>
    have HR0 := Aside0.mk hr0
    have HC0 := Aside0.mk hc0
    clear hr0 hc0
    have HB := Aside0.mk (Below.refl w.heap.size w)
    have H : ((some (([] : List (S89)) : List (S89))).bind fun y499 => (if y499.length + l0.length < 3518437208883 then (some (y499 ++ l0)) else (none))) = some r := h
    clear h
    obtain ⟨y499, hy499⟩ : ∃ y_ : List (S89), y_ = (([] : List (S89))) := ⟨_, rfl⟩
    replace H : (if y499.length + l0.length < 3518437208883 then (some (y499 ++ l0)) else (none)) = some r := by first | (rw [hy499]; with_reducible exact H) | (have H2_ := (Option.bind_some _ _).symm.trans H; rw [hy499]; with_reducible exact H2_) | (have H2_ := (Option.bind_some _ _).symm.trans H; with_reducible exact H2_) | with_reducible exact H | (rw [hy499]; exact H) | exact H
    have Ny499 := Aside0.mk hy499
    clear hy499
    by_cases c2 : y499.length + l0.length < 3518437208883
    · rw [if_pos c2] at H
      have LMc2 := Aside0.mk c2
      clear c2
      obtain ⟨y502, hy502⟩ : ∃ y_ : List (S89), y_ = (y499 ++ l0) := ⟨_, rfl⟩
      replace H : (some y502) = some r := by first | (rw [hy502]; with_reducible exact H) | (have H2_ := (Option.bind_some _ _).symm.trans H; rw [hy502]; with_reducible exact H2_) | (have H2_ := (Option.bind_some _ _).symm.trans H; with_reducible exact H2_) | with_reducible exact H | (rw [hy502]; exact H) | exact H
      have Ny502 := Aside0.mk hy502
      clear hy502
      obtain rfl := Option.some.inj H
      have hnil := fun W : World => Lib.run_eql_slice_nil (P := Try.prog) W 27 89 (some ad) l0.length c0 0 0 Try.underlying27
      simp only [Option.isNone_some] at hnil
      go_enter Try.func100, Try.ntmps100
      go_wp2_with (first | ((with_reducible refine gate_dst (N := 5) rfl ?_); refine Kd.R_lit k89 _ 89 ?hg (N := 5) ?hd (xs := ([] : List (S89))) (inner := []) (ok := fun _ => True) (okp := fun _ => True) ?hr ?hp (fun _ hk => hk) trivial (Below.refl _ _) (Nat.le_refl _) (by simp) ?_; (case hd => rfl); (case hg => rfl); (case hr => first | (go_simp; done) | (go_simp; rfl)); (case hp => exact (Reps.none _ _)); intro v500 w3 ho4 hb hg_ hnew_; clear hg_ hnew_; (first | rw [← Ny499.out] at ho4 | (simp only [Int.reduceToNat] at ho4; rw [← Ny499.out] at ho4)); have n0_ := Aside0.mk (Kd.R_lower ho4 (below_size (by repeat (first | (with_reducible first | exact HB.out | apply below_alloc | apply pw_below_drewN | apply below_drew1) | exact HB.out)))); have n1_ := Aside0.mk (below_step (by repeat (first | (with_reducible first | exact HB.out | apply below_alloc | apply pw_below_drewN | apply below_drew1) | exact HB.out)) hb); clear HB; have HO501 := n0_; have HB := n1_; clear n0_ n1_; clear hb ho4) | ((with_reducible refine gate_builtin (b := .append) (xs := #[.tmp 5, .tmp 6]) rfl ?_); at_builtin; refine Kd.R_append_rows k89 (w0 := w) w.heap.size rfl (.tmp 5) (.tmp 6) 27 89 (.agg #[(.string ⟨#[]⟩), (.int .i64 0), (.int .i64 0), (.int .i64 0)]) 40 rfl Try.underlying27 info89 rfl (by decide) (by omega) v500 y499 l0 _ _ _ (fun _ => True) (fun _ => False) rfl rfl ?aO ?aR (fun _ _ h => h) (fun _ h => h.elim) ?aF ?aB ?aS ?aL ?_; (case aR => repeat (first | exact (Kd.C_below HR0.out HB.out) | (with_reducible refine Kd.C_alloc ?_ _) | (with_reducible refine Kd.C_drewN ?_ _) | (with_reducible refine Kd.C_drew ?_))); (case aB => exact (by repeat (first | (with_reducible first | exact HB.out | apply below_alloc | apply pw_below_drewN | apply below_drew1) | exact HB.out))); (case aF => exact (fun _ _ => trivial)); (case aO => exact (by (with_reducible repeat (first | apply Kd.R_alloc | apply Kd.R_drewN | apply Kd.R_drew)); exact HO501.out)); (case aS => exact (below_size (by repeat (first | (with_reducible first | exact HB.out | apply below_alloc | apply pw_below_drewN | apply below_drew1) | exact HB.out)))); (case aL => have := LMc2.out; omega); intro v503 w5 ho hb hg hat; rw [← Ny502.out] at ho; have n0_ := Aside0.mk (hb); have n1_ := Aside0.mk (ho); clear HB; clear HO501; have HB := n0_; have HO504 := n1_; clear n0_ n1_; clear ho hb hg hat))
      go_ret
      exact ⟨_, by first | rfl | (simp [errW_none, errW_some] <;> rfl) | (simp [*, errW_none, errW_some] <;> rfl), by (with_reducible repeat (first | apply Kd.R_alloc | apply Kd.R_drewN | apply Kd.R_drew)); exact HO504.out, by repeat (first | (with_reducible first | exact HB.out | apply below_alloc | apply pw_below_drewN | apply below_drew1) | exact HB.out)⟩
    · rw [if_neg c2] at H
      exact absurd H (by simp)

end Go.Proofs.Ytaddadknmipfeaa.F
