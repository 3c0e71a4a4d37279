/- Contracts: laws_FnExactRenameCode. -/
import Derived.Test.YtecmlikhmkcdpaaFK
import Derived.Test.YtecmlikhmkcdpaaFLawsSzInstr
import Derived.Test.YtecmlikhmkcdpaaFImplIsCodeC1
import Derived.Test.YtecmlikhmkcdpaaFLawsHeldInstrS
import Derived.Test.YtecmlikhmkcdpaaFSpecL1Has
import Derived.Test.YtecmlikhmkcdpaaFSpecRenameCode
import Derived.Test.YtecmlikhmkcdpaaFImplRenameCode
namespace Go.Proofs.Ytecmlikhmkcdpaa.F
open Go.RowKit Go.Proofs.YtecmlikhmkcdpaaW.PrintWords Go.Proofs.YtecmlikhmkcdpaaW.PrintLast Go.Proofs.YtecmlikhmkcdpaaW.PrintMore
attribute [local go_sem] max2_int min2_int max_two min_two max_three min_three max_four min_four   -- for this text's walks alone
set_option linter.unusedVariables false
set_option linter.unusedSimpArgs false

/-! ### laws_FnExactRenameCode: function 9 -/
mutual
def laws_FnExactRenameCode.j0 : Nat → List (S65) → List Int → List (S67) → Bool → List (S67) → List Int → List (S67) → Bool → Bool → Option (Bool)
 | 0, _, _, _, _, _, _, _, _, _ => none
 | k + 1, x0, x1, x6, x7, x8, x9, x10, x11, x51 => if x51 = true then (some false) else ((laws_toInstrS.f k x0).bind fun t1081 => ((laws_eqInstrS.f k x8 t1081).bind fun t1084 => (if t1084 = true then ((laws_toIntS.f k x1).bind fun t1085 => ((laws_eqIntS.f k x9 t1085).bind fun t1088 => (if t1088 = true then ((laws_markInstrS.f k x8 1).bind fun bt1089 => ((laws_markIntS.f k x9 bt1089.1).bind fun bt1091 => (if bt1091.1 < 0 then (laws_FnExactRenameCode.j1 k x0 x1 x6 x7 x10 true) else ((laws_eqInstrS.f k x10 x6).bind fun t1093 => (if t1093 = true then (laws_FnExactRenameCode.j1 k x0 x1 x6 x7 x10 (x11 != x7)) else (laws_FnExactRenameCode.j1 k x0 x1 x6 x7 x10 true)))))) else (some false)))) else (some false))))
def laws_FnExactRenameCode.j1 : Nat → List (S65) → List Int → List (S67) → Bool → List (S67) → Bool → Option (Bool)
 | 0, _, _, _, _, _, _ => none
 | k + 1, x0, x1, x6, x7, x10, x80 => if x80 = true then (some false) else ((laws_markInstrS.f k x10 1).bind fun bt1094 => ((laws_heldInstrS.f k bt1094.2 1).bind fun t1096 => (if t1096 < 0 then (some false) else (if t1096 = bt1094.1 then ((laws_toInstrS.f k x0).bind fun t1097 => ((laws_toIntS.f k x1).bind fun t1100 => ((impl_RenameCode.f k t1097 t1100).bind fun bt1103 => ((laws_eqInstrS.f k bt1103.1 x6).bind fun t1107 => (if t1107 = true then (laws_FnExactRenameCode.j2 k bt1094.2 bt1094.1 (bt1103.2 != x7)) else (laws_FnExactRenameCode.j2 k bt1094.2 bt1094.1 true)))))) else (some false)))))
def laws_FnExactRenameCode.j2 : Nat → List (S67) → Int → Bool → Option (Bool)
 | 0, _, _, _ => none
 | k + 1, x10, x13, x108 => if x108 = true then (some false) else ((laws_heldInstrS.f k x10 1).bind fun t1108 => (if t1108 < 0 then (some false) else (if t1108 = x13 then (some true) else (some false))))
end
def laws_FnExactRenameCode.f (k : Nat) (l0 : List (S65)) (l1 : List Int) : Option (Bool) := if (l1.length : Int) > 1048576 then (some true) else ((laws_szInstrS.f k l0 1048576).bind fun t1059 => (if t1059 < 0 then (some true) else ((laws_toInstrS.f k l0).bind fun t1060 => ((laws_toIntS.f k l1).bind fun t1063 => ((spec_RenameCode.f k t1060 t1063).bind fun bt1066 => ((laws_toInstrS.f k l0).bind fun t1070 => ((laws_toIntS.f k l1).bind fun t1073 => ((impl_RenameCode.f k t1070 t1073).bind fun bt1076 => ((laws_eqInstrS.f k bt1076.1 bt1066.1).bind fun t1080 => (if t1080 = true then (laws_FnExactRenameCode.j0 k l0 l1 bt1066.1 bt1066.2 t1070 t1073 bt1076.1 bt1076.2 (bt1076.2 != bt1066.2)) else (laws_FnExactRenameCode.j0 k l0 l1 bt1066.1 bt1066.2 t1070 t1073 bt1076.1 bt1076.2 true)))))))))))
theorem laws_FnExactRenameCode.mono_l : ∀ k, (∀ y0 y1 y2 y3 y4 y5 y6 y7 y8, LeO (laws_FnExactRenameCode.j0 k y0 y1 y2 y3 y4 y5 y6 y7 y8) (laws_FnExactRenameCode.j0 (k + 1) y0 y1 y2 y3 y4 y5 y6 y7 y8)) ∧ (∀ y0 y1 y2 y3 y4 y5, LeO (laws_FnExactRenameCode.j1 k y0 y1 y2 y3 y4 y5) (laws_FnExactRenameCode.j1 (k + 1) y0 y1 y2 y3 y4 y5)) ∧ (∀ y0 y1 y2, LeO (laws_FnExactRenameCode.j2 k y0 y1 y2) (laws_FnExactRenameCode.j2 (k + 1) y0 y1 y2))
 | 0 => ⟨fun _ _ _ _ _ _ _ _ _ r h => by simp [laws_FnExactRenameCode.j0] at h, fun _ _ _ _ _ _ r h => by simp [laws_FnExactRenameCode.j1] at h, fun _ _ _ r h => by simp [laws_FnExactRenameCode.j2] at h⟩
 | k + 1 => by
  obtain ⟨ih0, ih1, ih2⟩ := laws_FnExactRenameCode.mono_l k
  refine ⟨?_, ?_, ?_⟩
  ·intro y0 y1 y2 y3 y4 y5 y6 y7 y8
   unfold laws_FnExactRenameCode.j0
   repeat' first
   | (with_reducible exact ih0 _ _ _ _ _ _ _ _ _)
   | (with_reducible exact ih1 _ _ _ _ _ _)
   | (with_reducible exact ih2 _ _ _)
   | (with_reducible exact impl_RenameCode.mono _ _ _)
   | (with_reducible exact laws_eqInstrS.mono _ _ _)
   | (with_reducible exact laws_eqIntS.mono _ _ _)
   | (with_reducible exact laws_heldInstrS.mono _ _ _)
   | (with_reducible exact laws_markInstrS.mono _ _ _)
   | (with_reducible exact laws_markIntS.mono _ _ _)
   | (with_reducible exact laws_szInstrS.mono _ _ _)
   | (with_reducible exact laws_toInstrS.mono _ _)
   | (with_reducible exact laws_toIntS.mono _ _)
   | (with_reducible exact spec_RenameCode.mono _ _ _)
   | (with_reducible exact LeO.refl _)
   | (with_reducible exact LeO.none _)
   | (with_reducible refine LeO.ite ?_ ?_)
   | (with_reducible refine LeO.bind ?_ (fun _ => ?_))
   | exact ih0 _ _ _ _ _ _ _ _ _
   | exact ih1 _ _ _ _ _ _
   | exact ih2 _ _ _
   | exact impl_RenameCode.mono _ _ _
   | exact laws_eqInstrS.mono _ _ _
   | exact laws_eqIntS.mono _ _ _
   | exact laws_heldInstrS.mono _ _ _
   | exact laws_markInstrS.mono _ _ _
   | exact laws_markIntS.mono _ _ _
   | exact laws_szInstrS.mono _ _ _
   | exact laws_toInstrS.mono _ _
   | exact laws_toIntS.mono _ _
   | exact spec_RenameCode.mono _ _ _
   | exact LeO.none _
   | refine LeO.ite ?_ ?_
   | refine LeO.bind ?_ (fun _ => ?_)
  ·intro y0 y1 y2 y3 y4 y5
   unfold laws_FnExactRenameCode.j1
   repeat' first
   | (with_reducible exact ih0 _ _ _ _ _ _ _ _ _)
   | (with_reducible exact ih1 _ _ _ _ _ _)
   | (with_reducible exact ih2 _ _ _)
   | (with_reducible exact impl_RenameCode.mono _ _ _)
   | (with_reducible exact laws_eqInstrS.mono _ _ _)
   | (with_reducible exact laws_eqIntS.mono _ _ _)
   | (with_reducible exact laws_heldInstrS.mono _ _ _)
   | (with_reducible exact laws_markInstrS.mono _ _ _)
   | (with_reducible exact laws_markIntS.mono _ _ _)
   | (with_reducible exact laws_szInstrS.mono _ _ _)
   | (with_reducible exact laws_toInstrS.mono _ _)
   | (with_reducible exact laws_toIntS.mono _ _)
   | (with_reducible exact spec_RenameCode.mono _ _ _)
   | (with_reducible exact LeO.refl _)
   | (with_reducible exact LeO.none _)
   | (with_reducible refine LeO.ite ?_ ?_)
   | (with_reducible refine LeO.bind ?_ (fun _ => ?_))
   | exact ih0 _ _ _ _ _ _ _ _ _
   | exact ih1 _ _ _ _ _ _
   | exact ih2 _ _ _
   | exact impl_RenameCode.mono _ _ _
   | exact laws_eqInstrS.mono _ _ _
   | exact laws_eqIntS.mono _ _ _
   | exact laws_heldInstrS.mono _ _ _
   | exact laws_markInstrS.mono _ _ _
   | exact laws_markIntS.mono _ _ _
   | exact laws_szInstrS.mono _ _ _
   | exact laws_toInstrS.mono _ _
   | exact laws_toIntS.mono _ _
   | exact spec_RenameCode.mono _ _ _
   | exact LeO.none _
   | refine LeO.ite ?_ ?_
   | refine LeO.bind ?_ (fun _ => ?_)
  ·intro y0 y1 y2
   unfold laws_FnExactRenameCode.j2
   repeat' first
   | (with_reducible exact ih0 _ _ _ _ _ _ _ _ _)
   | (with_reducible exact ih1 _ _ _ _ _ _)
   | (with_reducible exact ih2 _ _ _)
   | (with_reducible exact impl_RenameCode.mono _ _ _)
   | (with_reducible exact laws_eqInstrS.mono _ _ _)
   | (with_reducible exact laws_eqIntS.mono _ _ _)
   | (with_reducible exact laws_heldInstrS.mono _ _ _)
   | (with_reducible exact laws_markInstrS.mono _ _ _)
   | (with_reducible exact laws_markIntS.mono _ _ _)
   | (with_reducible exact laws_szInstrS.mono _ _ _)
   | (with_reducible exact laws_toInstrS.mono _ _)
   | (with_reducible exact laws_toIntS.mono _ _)
   | (with_reducible exact spec_RenameCode.mono _ _ _)
   | (with_reducible exact LeO.refl _)
   | (with_reducible exact LeO.none _)
   | (with_reducible refine LeO.ite ?_ ?_)
   | (with_reducible refine LeO.bind ?_ (fun _ => ?_))
   | exact ih0 _ _ _ _ _ _ _ _ _
   | exact ih1 _ _ _ _ _ _
   | exact ih2 _ _ _
   | exact impl_RenameCode.mono _ _ _
   | exact laws_eqInstrS.mono _ _ _
   | exact laws_eqIntS.mono _ _ _
   | exact laws_heldInstrS.mono _ _ _
   | exact laws_markInstrS.mono _ _ _
   | exact laws_markIntS.mono _ _ _
   | exact laws_szInstrS.mono _ _ _
   | exact laws_toInstrS.mono _ _
   | exact laws_toIntS.mono _ _
   | exact spec_RenameCode.mono _ _ _
   | exact LeO.none _
   | refine LeO.ite ?_ ?_
   | refine LeO.bind ?_ (fun _ => ?_)
theorem laws_FnExactRenameCode.mono : ∀ a0 a1 k, LeO (laws_FnExactRenameCode.f k a0 a1) (laws_FnExactRenameCode.f (k + 1) a0 a1) := by
 intro a0 a1 k
 obtain ⟨ih0, ih1, ih2⟩ := laws_FnExactRenameCode.mono_l k
 unfold laws_FnExactRenameCode.f
 repeat' first
   | (with_reducible exact ih0 _ _ _ _ _ _ _ _ _)
   | (with_reducible exact ih1 _ _ _ _ _ _)
   | (with_reducible exact ih2 _ _ _)
   | (with_reducible exact impl_RenameCode.mono _ _ _)
   | (with_reducible exact laws_eqInstrS.mono _ _ _)
   | (with_reducible exact laws_eqIntS.mono _ _ _)
   | (with_reducible exact laws_heldInstrS.mono _ _ _)
   | (with_reducible exact laws_markInstrS.mono _ _ _)
   | (with_reducible exact laws_markIntS.mono _ _ _)
   | (with_reducible exact laws_szInstrS.mono _ _ _)
   | (with_reducible exact laws_toInstrS.mono _ _)
   | (with_reducible exact laws_toIntS.mono _ _)
   | (with_reducible exact spec_RenameCode.mono _ _ _)
   | (with_reducible exact LeO.refl _)
   | (with_reducible exact LeO.none _)
   | (with_reducible refine LeO.ite ?_ ?_)
   | (with_reducible refine LeO.bind ?_ (fun _ => ?_))
   | exact ih0 _ _ _ _ _ _ _ _ _
   | exact ih1 _ _ _ _ _ _
   | exact ih2 _ _ _
   | exact impl_RenameCode.mono _ _ _
   | exact laws_eqInstrS.mono _ _ _
   | exact laws_eqIntS.mono _ _ _
   | exact laws_heldInstrS.mono _ _ _
   | exact laws_markInstrS.mono _ _ _
   | exact laws_markIntS.mono _ _ _
   | exact laws_szInstrS.mono _ _ _
   | exact laws_toInstrS.mono _ _
   | exact laws_toIntS.mono _ _
   | exact spec_RenameCode.mono _ _ _
   | exact LeO.none _
   | refine LeO.ite ?_ ?_
   | refine LeO.bind ?_ (fun _ => ?_)
set_option maxHeartbeats 8000000 in
set_option maxRecDepth 100000 in
theorem laws_FnExactRenameCode.calls (k : Nat) (A0 : Option Addr) (c0 : Nat) (l0 : List (S65)) (A1 : Option Addr) (c1 : Nat) (l1 : List Int) (r : Bool) (w : World) (hr0 : Kd.C k65 w A0 l0.length l0) (hc0 : l0.length ≤ c0) (hr1 : Kd.C (Kd.int .i64) w A1 l1.length l1) (hc1 : l1.length ≤ c1) (h : laws_FnExactRenameCode.f k l0 l1 = some r) (hr : r = true) :
  Calls Try.prog 9 #[.slice A0 l0.length c0, .slice A1 l1.length c1] w fun e w' => e = .returned (.bool r) ∧ Below w.heap.size w w' := by
 have HR0 := zK hr0
 have HC0 := zK hc0
 clear hr0 hc0
 have HR1 := zK hr1
 have HC1 := zK hc1
 clear hr1 hc1
 have HB := zK (Below.refl w.heap.size w)
 have H : (if (l1.length : Int) > 1048576 then (some true) else ((laws_szInstrS.f k l0 1048576).bind fun t1059 => (if t1059 < 0 then (some true) else ((laws_toInstrS.f k l0).bind fun t1060 => ((laws_toIntS.f k l1).bind fun t1063 => ((spec_RenameCode.f k t1060 t1063).bind fun bt1066 => ((laws_toInstrS.f k l0).bind fun t1070 => ((laws_toIntS.f k l1).bind fun t1073 => ((impl_RenameCode.f k t1070 t1073).bind fun bt1076 => ((laws_eqInstrS.f k bt1076.1 bt1066.1).bind fun t1080 => (if t1080 = true then (laws_FnExactRenameCode.j0 k l0 l1 bt1066.1 bt1066.2 t1070 t1073 bt1076.1 bt1076.2 (bt1076.2 != bt1066.2)) else (laws_FnExactRenameCode.j0 k l0 l1 bt1066.1 bt1066.2 t1070 t1073 bt1076.1 bt1076.2 true)))))))))))) = some r := h
 clear h
 by_cases c3 : (l1.length : Int) > 1048576
 ·rw [if_pos c3] at H
  have c3b0 : decide (1048576 < (l1.length : Int)) = true := decide_eq_true c3
  have c3b1 : decide (1048576 < l1.length) = true := decide_eq_true (by omega)
  clear c3
  obtain rfl := Option.some.inj H
  go_enter Try.func9, Try.ntmps9
  go_wp2
  go_ret
  exact ⟨by first | rfl | (simp [errW_none, errW_some] <;> rfl) | (simp [*, errW_none, errW_some] <;> rfl), by repeat (first | (with_reducible first | exact HB.out | apply zA | apply zB | apply zC) | exact HB.out)⟩
 ·rw [if_neg c3] at H
  have c3b0 : decide (1048576 < (l1.length : Int)) = false := decide_eq_false c3
  have c3b1 : decide (1048576 < l1.length) = false := decide_eq_false (by omega)
  clear c3
  replace H := Option.bind_eq_some_iff.mp H
  obtain ⟨t1059, A40, H⟩ := H
  replace H : (if t1059 < 0 then (some true) else ((laws_toInstrS.f k l0).bind fun t1060 => ((laws_toIntS.f k l1).bind fun t1063 => ((spec_RenameCode.f k t1060 t1063).bind fun bt1066 => ((laws_toInstrS.f k l0).bind fun t1070 => ((laws_toIntS.f k l1).bind fun t1073 => ((impl_RenameCode.f k t1070 t1073).bind fun bt1076 => ((laws_eqInstrS.f k bt1076.1 bt1066.1).bind fun t1080 => (if t1080 = true then (laws_FnExactRenameCode.j0 k l0 l1 bt1066.1 bt1066.2 t1070 t1073 bt1076.1 bt1076.2 (bt1076.2 != bt1066.2)) else (laws_FnExactRenameCode.j0 k l0 l1 bt1066.1 bt1066.2 t1070 t1073 bt1076.1 bt1076.2 true)))))))))) = some r := H
  have A4 := zK A40
  clear A40
  by_cases c5 : t1059 < 0
  ·rw [if_pos c5] at H
   have c5b0 : decide (t1059 < 0) = true := decide_eq_true c5
   clear c5
   obtain rfl := Option.some.inj H
   go_enter Try.func9, Try.ntmps9
   go_wp2_with (first | ((with_reducible refine gate_callee (f := 14) rfl ?_); refine goesL_ (some 22) rfl rfl Try.func14 (by kernel_rfl) rfl #[.slice A0 l0.length c0, .int .i64 1048576] rfl (by (try simp only [z6, z7, z8]); first | done | rfl | (simp only [z4, z5]; rfl)) ?_; (with_reducible refine (laws_szInstrS.calls k _ _ l0 1048576 t1059 _ ?side1 ?side2 A4.out).mono ?_); (case side1 => repeat (first | exact HR0.out | (with_reducible refine Kd.C_alloc ?_ _) | (with_reducible refine Kd.C_drewN ?_ _) | (with_reducible refine Kd.C_drew ?_))); (case side2 => exact HC0.out); rintro e w6 ⟨rfl, hb⟩; refine ⟨_, rfl, ?_⟩; have n0_ := zK (zL (by repeat (first | (with_reducible first | exact HB.out | apply zA | apply zB | apply zC) | exact HB.out)) hb); clear HB; have HB := n0_; clear n0_; (try clear hb); (try clear hb2); (try clear hk); (try clear hi)))
   go_ret
   exact ⟨by first | rfl | (simp [errW_none, errW_some] <;> rfl) | (simp [*, errW_none, errW_some] <;> rfl), by repeat (first | (with_reducible first | exact HB.out | apply zA | apply zB | apply zC) | exact HB.out)⟩
  ·rw [if_neg c5] at H
   have c5b0 : decide (t1059 < 0) = false := decide_eq_false c5
   clear c5
   replace H := Option.bind_eq_some_iff.mp H
   obtain ⟨t1060, A70, H⟩ := H
   replace H : ((laws_toIntS.f k l1).bind fun t1063 => ((spec_RenameCode.f k t1060 t1063).bind fun bt1066 => ((laws_toInstrS.f k l0).bind fun t1070 => ((laws_toIntS.f k l1).bind fun t1073 => ((impl_RenameCode.f k t1070 t1073).bind fun bt1076 => ((laws_eqInstrS.f k bt1076.1 bt1066.1).bind fun t1080 => (if t1080 = true then (laws_FnExactRenameCode.j0 k l0 l1 bt1066.1 bt1066.2 t1070 t1073 bt1076.1 bt1076.2 (bt1076.2 != bt1066.2)) else (laws_FnExactRenameCode.j0 k l0 l1 bt1066.1 bt1066.2 t1070 t1073 bt1076.1 bt1076.2 true)))))))) = some r := H
   have A7 := zK A70
   clear A70
   replace H := Option.bind_eq_some_iff.mp H
   obtain ⟨t1063, A80, H⟩ := H
   replace H : ((spec_RenameCode.f k t1060 t1063).bind fun bt1066 => ((laws_toInstrS.f k l0).bind fun t1070 => ((laws_toIntS.f k l1).bind fun t1073 => ((impl_RenameCode.f k t1070 t1073).bind fun bt1076 => ((laws_eqInstrS.f k bt1076.1 bt1066.1).bind fun t1080 => (if t1080 = true then (laws_FnExactRenameCode.j0 k l0 l1 bt1066.1 bt1066.2 t1070 t1073 bt1076.1 bt1076.2 (bt1076.2 != bt1066.2)) else (laws_FnExactRenameCode.j0 k l0 l1 bt1066.1 bt1066.2 t1070 t1073 bt1076.1 bt1076.2 true))))))) = some r := H
   have A8 := zK A80
   clear A80
   replace H := Option.bind_eq_some_iff.mp H
   obtain ⟨⟨t1066, t1067⟩, A90, H⟩ := H
   replace H : ((laws_toInstrS.f k l0).bind fun t1070 => ((laws_toIntS.f k l1).bind fun t1073 => ((impl_RenameCode.f k t1070 t1073).bind fun bt1076 => ((laws_eqInstrS.f k bt1076.1 t1066).bind fun t1080 => (if t1080 = true then (laws_FnExactRenameCode.j0 k l0 l1 t1066 t1067 t1070 t1073 bt1076.1 bt1076.2 (bt1076.2 != t1067)) else (laws_FnExactRenameCode.j0 k l0 l1 t1066 t1067 t1070 t1073 bt1076.1 bt1076.2 true)))))) = some r := H
   have A9 := zK A90
   clear A90
   replace H := Option.bind_eq_some_iff.mp H
   obtain ⟨t1070, A100, H⟩ := H
   replace H : ((laws_toIntS.f k l1).bind fun t1073 => ((impl_RenameCode.f k t1070 t1073).bind fun bt1076 => ((laws_eqInstrS.f k bt1076.1 t1066).bind fun t1080 => (if t1080 = true then (laws_FnExactRenameCode.j0 k l0 l1 t1066 t1067 t1070 t1073 bt1076.1 bt1076.2 (bt1076.2 != t1067)) else (laws_FnExactRenameCode.j0 k l0 l1 t1066 t1067 t1070 t1073 bt1076.1 bt1076.2 true))))) = some r := H
   have A10 := zK A100
   clear A100
   replace H := Option.bind_eq_some_iff.mp H
   obtain ⟨t1073, A110, H⟩ := H
   replace H : ((impl_RenameCode.f k t1070 t1073).bind fun bt1076 => ((laws_eqInstrS.f k bt1076.1 t1066).bind fun t1080 => (if t1080 = true then (laws_FnExactRenameCode.j0 k l0 l1 t1066 t1067 t1070 t1073 bt1076.1 bt1076.2 (bt1076.2 != t1067)) else (laws_FnExactRenameCode.j0 k l0 l1 t1066 t1067 t1070 t1073 bt1076.1 bt1076.2 true)))) = some r := H
   have A11 := zK A110
   clear A110
   replace H := Option.bind_eq_some_iff.mp H
   obtain ⟨⟨t1076, t1077⟩, A120, H⟩ := H
   replace H : ((laws_eqInstrS.f k t1076 t1066).bind fun t1080 => (if t1080 = true then (laws_FnExactRenameCode.j0 k l0 l1 t1066 t1067 t1070 t1073 t1076 t1077 (t1077 != t1067)) else (laws_FnExactRenameCode.j0 k l0 l1 t1066 t1067 t1070 t1073 t1076 t1077 true))) = some r := H
   have A12 := zK A120
   clear A120
   have HC13 := zK H
   clear H
   go_enter Try.func9, Try.ntmps9
   go_upto_region 11 with (first | ((with_reducible refine gate_callee (f := 14) rfl ?_); refine goesL_ (some 22) rfl rfl Try.func14 (by kernel_rfl) rfl #[.slice A0 l0.length c0, .int .i64 1048576] rfl (by (try simp only [z6, z7, z8]); first | done | rfl | (simp only [z4, z5]; rfl)) ?_; (with_reducible refine (laws_szInstrS.calls k _ _ l0 1048576 t1059 _ ?side1 ?side2 A4.out).mono ?_); (case side1 => repeat (first | exact HR0.out | (with_reducible refine Kd.C_alloc ?_ _) | (with_reducible refine Kd.C_drewN ?_ _) | (with_reducible refine Kd.C_drew ?_))); (case side2 => exact HC0.out); rintro e w14 ⟨rfl, hb⟩; refine ⟨_, rfl, ?_⟩; have n0_ := zK (zL (by repeat (first | (with_reducible first | exact HB.out | apply zA | apply zB | apply zC) | exact HB.out)) hb); clear HB; have HB := n0_; clear n0_; (try clear hb); (try clear hb2); (try clear hk); (try clear hi)) | ((with_reducible refine gate_callee (f := 16) rfl ?_); refine goesL_ (some 27) rfl rfl Try.func16 (by kernel_rfl) rfl #[.slice A0 l0.length c0] rfl (by (try simp only [z6, z7, z8]); first | done | rfl | (simp only [z4, z5]; rfl)) ?_; (with_reducible refine (laws_toInstrS.calls k _ _ l0 t1060 _ ?side1 ?side2 A7.out).mono ?_); (case side1 => repeat (first | exact (Kd.C_below HR0.out HB.out) | (with_reducible refine Kd.C_alloc ?_ _) | (with_reducible refine Kd.C_drewN ?_ _) | (with_reducible refine Kd.C_drew ?_))); (case side2 => exact HC0.out); rintro e w15 ⟨v1061, rfl, ho0, hb⟩; refine ⟨_, rfl, ?_⟩; have n0_ := zK (Kd.R_lower ho0 (zN (by repeat (first | (with_reducible first | exact HB.out | apply zA | apply zB | apply zC) | exact HB.out)))); have n1_ := zK (zL (by repeat (first | (with_reducible first | exact HB.out | apply zA | apply zB | apply zC) | exact HB.out)) hb); clear HB; have HO1062 := n0_; have HB := n1_; clear n0_ n1_; (try clear hb); (try clear hb2); (try clear hk); (try clear hi); (try clear ho0)) | ((with_reducible refine gate_callee (f := 33) rfl ?_); refine goesL_ (some 29) rfl rfl Try.func33 (by kernel_rfl) rfl #[.slice A1 l1.length c1] rfl (by (try simp only [z6, z7, z8]); first | done | rfl | (simp only [z4, z5]; rfl)) ?_; (with_reducible refine (laws_toIntS.calls k _ _ l1 t1063 _ ?side1 ?side2 A8.out).mono ?_); (case side1 => repeat (first | exact (Kd.C_below HR1.out HB.out) | (with_reducible refine Kd.C_alloc ?_ _) | (with_reducible refine Kd.C_drewN ?_ _) | (with_reducible refine Kd.C_drew ?_))); (case side2 => exact HC1.out); rintro e w16 ⟨v1064, rfl, ho0, hb⟩; refine ⟨_, rfl, ?_⟩; have n0_ := zK (Kd.R_below (by (with_reducible repeat (first | apply Kd.R_alloc | apply Kd.R_drewN | apply Kd.R_drew)); exact HO1062.out) hb); have n1_ := zK (Kd.R_lower ho0 (zN (by repeat (first | (with_reducible first | exact HB.out | apply zA | apply zB | apply zC) | exact HB.out)))); have n2_ := zK (zL (by repeat (first | (with_reducible first | exact HB.out | apply zA | apply zB | apply zC) | exact HB.out)) hb); clear HO1062; clear HB; have HO1062 := n0_; have HO1065 := n1_; have HB := n2_; clear n0_ n1_ n2_; (try clear hb); (try clear hb2); (try clear hk); (try clear hi); (try clear ho0); obtain ⟨Ao17, co17, eo17⟩ := Kd.R_slice HO1062.out; subst eo17; obtain ⟨Ao18, co18, eo18⟩ := Kd.R_slice HO1065.out; subst eo18) | ((with_reducible refine gate_callee (f := 47) rfl ?_); refine goesL_ (some 30) rfl rfl Try.func47 (by kernel_rfl) rfl #[.slice Ao17 t1060.length co17, .slice Ao18 t1063.length co18] rfl (by (try simp only [z6, z7, z8]); first | done | rfl | (simp only [z4, z5]; rfl)) ?_; (with_reducible refine (spec_RenameCode.calls k _ _ t1060 _ _ t1063 t1066 t1067 _ ?side1 ?side2 ?side3 ?side4 A9.out).mono ?_); (case side1 => repeat (first | exact (Kd.R_reads' HO1062.out).2.2 | (with_reducible refine Kd.C_alloc ?_ _) | (with_reducible refine Kd.C_drewN ?_ _) | (with_reducible refine Kd.C_drew ?_))); (case side2 => exact (Kd.R_reads' HO1062.out).2.1); (case side3 => repeat (first | exact (Kd.R_reads' HO1065.out).2.2 | (with_reducible refine Kd.C_alloc ?_ _) | (with_reducible refine Kd.C_drewN ?_ _) | (with_reducible refine Kd.C_drew ?_))); (case side4 => exact (Kd.R_reads' HO1065.out).2.1); rintro e w19 ⟨v1068, rfl, ho0, hb⟩; refine ⟨_, rfl, ?_⟩; have n0_ := zK (Kd.R_elder' (by (with_reducible repeat (first | apply Kd.R_alloc | apply Kd.R_drewN | apply Kd.R_drew)); exact HO1062.out) (Kd.R_base ho0) hb); have n1_ := zK (Kd.R_below (by (with_reducible repeat (first | apply Kd.R_alloc | apply Kd.R_drewN | apply Kd.R_drew)); exact HO1065.out) hb); have n2_ := zK (Kd.R_lower (Kd.R_new' ho0 (Kd.R_lt (by (with_reducible repeat (first | apply Kd.R_alloc | apply Kd.R_drewN | apply Kd.R_drew)); exact HO1062.out))) (zN (by repeat (first | (with_reducible first | exact HB.out | apply zA | apply zB | apply zC) | exact HB.out)))); have n3_ := zK (zL (by repeat (first | (with_reducible first | exact HB.out | apply zA | apply zB | apply zC) | exact HB.out)) hb); clear HO1062; clear HO1065; clear HB; have HO1062 := n0_; have HO1065 := n1_; have HO1069 := n2_; have HB := n3_; clear n0_ n1_ n2_ n3_; (try clear hb); (try clear hb2); (try clear hk); (try clear hi); (try clear ho0)) | ((with_reducible refine gate_callee (f := 16) rfl ?_); refine goesL_ (some 34) rfl rfl Try.func16 (by kernel_rfl) rfl #[.slice A0 l0.length c0] rfl (by (try simp only [z6, z7, z8]); first | done | rfl | (simp only [z4, z5]; rfl)) ?_; (with_reducible refine (laws_toInstrS.calls k _ _ l0 t1070 _ ?side1 ?side2 A10.out).mono ?_); (case side1 => repeat (first | exact (Kd.C_below HR0.out HB.out) | (with_reducible refine Kd.C_alloc ?_ _) | (with_reducible refine Kd.C_drewN ?_ _) | (with_reducible refine Kd.C_drew ?_))); (case side2 => exact HC0.out); rintro e w20 ⟨v1071, rfl, ho0, hb⟩; refine ⟨_, rfl, ?_⟩; have n0_ := zK (Kd.R_elder' (by (with_reducible repeat (first | apply Kd.R_alloc | apply Kd.R_drewN | apply Kd.R_drew)); exact HO1062.out) (Kd.R_base ho0) hb); have n1_ := zK (Kd.R_below (by (with_reducible repeat (first | apply Kd.R_alloc | apply Kd.R_drewN | apply Kd.R_drew)); exact HO1065.out) hb); have n2_ := zK (Kd.R_elder' (by (with_reducible repeat (first | apply Kd.R_alloc | apply Kd.R_drewN | apply Kd.R_drew)); exact HO1069.out) (Kd.R_base ho0) hb); have n3_ := zK (Kd.R_lower (Kd.R_new' (Kd.R_new' ho0 (Kd.R_lt (by (with_reducible repeat (first | apply Kd.R_alloc | apply Kd.R_drewN | apply Kd.R_drew)); exact HO1062.out))) (Kd.R_lt (by (with_reducible repeat (first | apply Kd.R_alloc | apply Kd.R_drewN | apply Kd.R_drew)); exact HO1069.out))) (zN (by repeat (first | (with_reducible first | exact HB.out | apply zA | apply zB | apply zC) | exact HB.out)))); have n4_ := zK (zL (by repeat (first | (with_reducible first | exact HB.out | apply zA | apply zB | apply zC) | exact HB.out)) hb); clear HO1062; clear HO1065; clear HO1069; clear HB; have HO1062 := n0_; have HO1065 := n1_; have HO1069 := n2_; have HO1072 := n3_; have HB := n4_; clear n0_ n1_ n2_ n3_ n4_; (try clear hb); (try clear hb2); (try clear hk); (try clear hi); (try clear ho0)) | ((with_reducible refine gate_callee (f := 33) rfl ?_); refine goesL_ (some 36) rfl rfl Try.func33 (by kernel_rfl) rfl #[.slice A1 l1.length c1] rfl (by (try simp only [z6, z7, z8]); first | done | rfl | (simp only [z4, z5]; rfl)) ?_; (with_reducible refine (laws_toIntS.calls k _ _ l1 t1073 _ ?side1 ?side2 A11.out).mono ?_); (case side1 => repeat (first | exact (Kd.C_below HR1.out HB.out) | (with_reducible refine Kd.C_alloc ?_ _) | (with_reducible refine Kd.C_drewN ?_ _) | (with_reducible refine Kd.C_drew ?_))); (case side2 => exact HC1.out); rintro e w21 ⟨v1074, rfl, ho0, hb⟩; refine ⟨_, rfl, ?_⟩; have n0_ := zK (Kd.R_below (by (with_reducible repeat (first | apply Kd.R_alloc | apply Kd.R_drewN | apply Kd.R_drew)); exact HO1062.out) hb); have n1_ := zK (Kd.R_elder' (by (with_reducible repeat (first | apply Kd.R_alloc | apply Kd.R_drewN | apply Kd.R_drew)); exact HO1065.out) (Kd.R_base ho0) hb); have n2_ := zK (Kd.R_below (by (with_reducible repeat (first | apply Kd.R_alloc | apply Kd.R_drewN | apply Kd.R_drew)); exact HO1069.out) hb); have n3_ := zK (Kd.R_below (by (with_reducible repeat (first | apply Kd.R_alloc | apply Kd.R_drewN | apply Kd.R_drew)); exact HO1072.out) hb); have n4_ := zK (Kd.R_lower (Kd.R_new' ho0 (Kd.R_lt (by (with_reducible repeat (first | apply Kd.R_alloc | apply Kd.R_drewN | apply Kd.R_drew)); exact HO1065.out))) (zN (by repeat (first | (with_reducible first | exact HB.out | apply zA | apply zB | apply zC) | exact HB.out)))); have n5_ := zK (zL (by repeat (first | (with_reducible first | exact HB.out | apply zA | apply zB | apply zC) | exact HB.out)) hb); clear HO1062; clear HO1065; clear HO1069; clear HO1072; clear HB; have HO1062 := n0_; have HO1065 := n1_; have HO1069 := n2_; have HO1072 := n3_; have HO1075 := n4_; have HB := n5_; clear n0_ n1_ n2_ n3_ n4_ n5_; (try clear hb); (try clear hb2); (try clear hk); (try clear hi); (try clear ho0); obtain ⟨Ao22, co22, eo22⟩ := Kd.R_slice HO1072.out; subst eo22; obtain ⟨Ao23, co23, eo23⟩ := Kd.R_slice HO1075.out; subst eo23) | ((with_reducible refine gate_callee (f := 48) rfl ?_); refine goesL_ (some 40) rfl rfl Try.func48 (by kernel_rfl) rfl #[.slice Ao22 t1070.length co22, .slice Ao23 t1073.length co23] rfl (by (try simp only [z6, z7, z8]); first | done | rfl | (simp only [z4, z5]; rfl)) ?_; (with_reducible refine (impl_RenameCode.calls k _ _ t1070 _ _ t1073 t1076 t1077 _ ?side1 ?side2 ?side3 ?side4 A12.out).mono ?_); (case side1 => repeat (first | exact (Kd.R_reads' HO1072.out).2.2 | (with_reducible refine Kd.C_alloc ?_ _) | (with_reducible refine Kd.C_drewN ?_ _) | (with_reducible refine Kd.C_drew ?_))); (case side2 => exact (Kd.R_reads' HO1072.out).2.1); (case side3 => repeat (first | exact (Kd.R_reads' HO1075.out).2.2 | (with_reducible refine Kd.C_alloc ?_ _) | (with_reducible refine Kd.C_drewN ?_ _) | (with_reducible refine Kd.C_drew ?_))); (case side4 => exact (Kd.R_reads' HO1075.out).2.1); rintro e w24 ⟨v1078, rfl, ho0, hb⟩; refine ⟨_, rfl, ?_⟩; have n0_ := zK (Kd.R_elder' (by (with_reducible repeat (first | apply Kd.R_alloc | apply Kd.R_drewN | apply Kd.R_drew)); exact HO1062.out) (Kd.R_base ho0) hb); have n1_ := zK (Kd.R_below (by (with_reducible repeat (first | apply Kd.R_alloc | apply Kd.R_drewN | apply Kd.R_drew)); exact HO1065.out) hb); have n2_ := zK (Kd.R_elder' (by (with_reducible repeat (first | apply Kd.R_alloc | apply Kd.R_drewN | apply Kd.R_drew)); exact HO1069.out) (Kd.R_base ho0) hb); have n3_ := zK (Kd.R_elder' (by (with_reducible repeat (first | apply Kd.R_alloc | apply Kd.R_drewN | apply Kd.R_drew)); exact HO1072.out) (Kd.R_base ho0) hb); have n4_ := zK (Kd.R_below (by (with_reducible repeat (first | apply Kd.R_alloc | apply Kd.R_drewN | apply Kd.R_drew)); exact HO1075.out) hb); have n5_ := zK (Kd.R_lower (Kd.R_new' (Kd.R_new' (Kd.R_new' ho0 (Kd.R_lt (by (with_reducible repeat (first | apply Kd.R_alloc | apply Kd.R_drewN | apply Kd.R_drew)); exact HO1062.out))) (Kd.R_lt (by (with_reducible repeat (first | apply Kd.R_alloc | apply Kd.R_drewN | apply Kd.R_drew)); exact HO1069.out))) (Kd.R_lt (by (with_reducible repeat (first | apply Kd.R_alloc | apply Kd.R_drewN | apply Kd.R_drew)); exact HO1072.out))) (zN (by repeat (first | (with_reducible first | exact HB.out | apply zA | apply zB | apply zC) | exact HB.out)))); have n6_ := zK (zL (by repeat (first | (with_reducible first | exact HB.out | apply zA | apply zB | apply zC) | exact HB.out)) hb); clear HO1062; clear HO1065; clear HO1069; clear HO1072; clear HO1075; clear HB; have HO1062 := n0_; have HO1065 := n1_; have HO1069 := n2_; have HO1072 := n3_; have HO1075 := n4_; have HO1079 := n5_; have HB := n6_; clear n0_ n1_ n2_ n3_ n4_ n5_ n6_; (try clear hb); (try clear hb2); (try clear hk); (try clear hi); (try clear ho0)))
   (try simp only [Act.put, z1, z2, z3])
   go_cut [51] (fun v51 wc => ∃ (kq : Nat) (x51_12 : Bool), v51 = .bool x51_12 ∧ Aside0 (laws_FnExactRenameCode.j0 kq l0 l1 t1066 t1067 t1070 t1073 t1076 t1077 x51_12 = some r) ∧ Aside0 (kq ≤ k) ∧ Aside0 (Kd.R k67 67 wc w.heap.size (fun k_ => some k_ ≠ ((.slice Ao22 t1070.length co22) : Value).ownBlock ∧ some k_ ≠ (v1078 : Value).ownBlock) v1068 t1066) ∧ Aside0 (Kd.R k67 67 wc w.heap.size (fun k_ => some k_ ≠ (v1068 : Value).ownBlock ∧ some k_ ≠ (v1078 : Value).ownBlock) (.slice Ao22 t1070.length co22) t1070) ∧ Aside0 (Kd.R (Kd.int .i64) 3 wc w.heap.size (fun _ => True) (.slice Ao23 t1073.length co23) t1073) ∧ Aside0 (Kd.R k67 67 wc w.heap.size (fun k_ => some k_ ≠ (v1068 : Value).ownBlock ∧ some k_ ≠ ((.slice Ao22 t1070.length co22) : Value).ownBlock) v1078 t1076) ∧ Aside0 (Below w.heap.size w wc))
   case first =>
    have H := HC13.out
    clear HC13
    replace H := Option.bind_eq_some_iff.mp H
    obtain ⟨t1080, A250, H⟩ := H
    replace H : (if t1080 = true then (laws_FnExactRenameCode.j0 k l0 l1 t1066 t1067 t1070 t1073 t1076 t1077 (t1077 != t1067)) else (laws_FnExactRenameCode.j0 k l0 l1 t1066 t1067 t1070 t1073 t1076 t1077 true)) = some r := H
    have A25 := zK A250
    clear A250
    by_cases c26 : t1080 = true
    ·subst c26
     rw [if_pos rfl] at H
     have H' := zK H
     clear H
     obtain ⟨Ao27, co27, eo27⟩ := Kd.R_slice HO1079.out
     subst eo27
     obtain ⟨Ao28, co28, eo28⟩ := Kd.R_slice HO1069.out
     subst eo28
     go_wp2_with (first | ((with_reducible refine gate_callee (f := 18) rfl ?_); refine goesL_ (some 45) rfl rfl Try.func18 (by kernel_rfl) rfl #[.slice Ao27 t1076.length co27, .slice Ao28 t1066.length co28] rfl (by (try simp only [z6, z7, z8]); first | done | rfl | (simp only [z4, z5]; rfl)) ?_; (with_reducible refine (laws_eqInstrS.calls k _ _ t1076 _ _ t1066 true _ ?side1 ?side2 ?side3 ?side4 A25.out).mono ?_); (case side1 => repeat (first | exact (Kd.R_reads' HO1079.out).2.2 | (with_reducible refine Kd.C_alloc ?_ _) | (with_reducible refine Kd.C_drewN ?_ _) | (with_reducible refine Kd.C_drew ?_))); (case side2 => exact (Kd.R_reads' HO1079.out).2.1); (case side3 => repeat (first | exact (Kd.R_reads' HO1069.out).2.2 | (with_reducible refine Kd.C_alloc ?_ _) | (with_reducible refine Kd.C_drewN ?_ _) | (with_reducible refine Kd.C_drew ?_))); (case side4 => exact (Kd.R_reads' HO1069.out).2.1); rintro e w29 ⟨rfl, hb⟩; refine ⟨_, rfl, ?_⟩; have n0_ := zK (Kd.R_below (by (with_reducible repeat (first | apply Kd.R_alloc | apply Kd.R_drewN | apply Kd.R_drew)); exact HO1062.out) hb); have n1_ := zK (Kd.R_below (by (with_reducible repeat (first | apply Kd.R_alloc | apply Kd.R_drewN | apply Kd.R_drew)); exact HO1065.out) hb); have n2_ := zK (Kd.R_below (by (with_reducible repeat (first | apply Kd.R_alloc | apply Kd.R_drewN | apply Kd.R_drew)); exact HO1069.out) hb); have n3_ := zK (Kd.R_below (by (with_reducible repeat (first | apply Kd.R_alloc | apply Kd.R_drewN | apply Kd.R_drew)); exact HO1072.out) hb); have n4_ := zK (Kd.R_below (by (with_reducible repeat (first | apply Kd.R_alloc | apply Kd.R_drewN | apply Kd.R_drew)); exact HO1075.out) hb); have n5_ := zK (Kd.R_below (by (with_reducible repeat (first | apply Kd.R_alloc | apply Kd.R_drewN | apply Kd.R_drew)); exact HO1079.out) hb); have n6_ := zK (zL (by repeat (first | (with_reducible first | exact HB.out | apply zA | apply zB | apply zC) | exact HB.out)) hb); clear HO1062; clear HO1065; clear HO1069; clear HO1072; clear HO1075; clear HO1079; clear HB; have HO1062 := n0_; have HO1065 := n1_; have HO1069 := n2_; have HO1072 := n3_; have HO1075 := n4_; have HO1079 := n5_; have HB := n6_; clear n0_ n1_ n2_ n3_ n4_ n5_ n6_; (try clear hb); (try clear hb2); (try clear hk); (try clear hi)))
     go_meet
     case rel => exact ⟨_, ((t1077 != t1067)), (by first | rfl | (simp; done) | (simp [*]; done)), H', ⟨by first | omega | exact Nat.le_refl _⟩, ⟨by (with_reducible repeat (first | apply Kd.R_alloc | apply Kd.R_drewN | apply Kd.R_drew)); exact Kd.R_mono HO1069.out (fun _ hk => ⟨hk.1.2, hk.2⟩)⟩, ⟨by (with_reducible repeat (first | apply Kd.R_alloc | apply Kd.R_drewN | apply Kd.R_drew)); exact Kd.R_mono HO1072.out (fun _ hk => ⟨hk.1.2, hk.2⟩)⟩, ⟨by (with_reducible repeat (first | apply Kd.R_alloc | apply Kd.R_drewN | apply Kd.R_drew)); exact Kd.R_mono HO1075.out (fun _ hk => trivial)⟩, ⟨by (with_reducible repeat (first | apply Kd.R_alloc | apply Kd.R_drewN | apply Kd.R_drew)); exact Kd.R_mono HO1079.out (fun _ hk => ⟨hk.1.2, hk.2⟩)⟩, ⟨by repeat (first | (with_reducible first | exact HB.out | apply zA | apply zB | apply zC) | exact HB.out)⟩⟩
    ·replace c26 := Bool.eq_false_iff.mpr c26
     subst c26
     rw [if_neg (show ¬ (false = true) by decide)] at H
     have H' := zK H
     clear H
     obtain ⟨Ao30, co30, eo30⟩ := Kd.R_slice HO1079.out
     subst eo30
     obtain ⟨Ao31, co31, eo31⟩ := Kd.R_slice HO1069.out
     subst eo31
     go_wp2_with (first | ((with_reducible refine gate_callee (f := 18) rfl ?_); refine goesL_ (some 45) rfl rfl Try.func18 (by kernel_rfl) rfl #[.slice Ao30 t1076.length co30, .slice Ao31 t1066.length co31] rfl (by (try simp only [z6, z7, z8]); first | done | rfl | (simp only [z4, z5]; rfl)) ?_; (with_reducible refine (laws_eqInstrS.calls k _ _ t1076 _ _ t1066 false _ ?side1 ?side2 ?side3 ?side4 A25.out).mono ?_); (case side1 => repeat (first | exact (Kd.R_reads' HO1079.out).2.2 | (with_reducible refine Kd.C_alloc ?_ _) | (with_reducible refine Kd.C_drewN ?_ _) | (with_reducible refine Kd.C_drew ?_))); (case side2 => exact (Kd.R_reads' HO1079.out).2.1); (case side3 => repeat (first | exact (Kd.R_reads' HO1069.out).2.2 | (with_reducible refine Kd.C_alloc ?_ _) | (with_reducible refine Kd.C_drewN ?_ _) | (with_reducible refine Kd.C_drew ?_))); (case side4 => exact (Kd.R_reads' HO1069.out).2.1); rintro e w32 ⟨rfl, hb⟩; refine ⟨_, rfl, ?_⟩; have n0_ := zK (Kd.R_below (by (with_reducible repeat (first | apply Kd.R_alloc | apply Kd.R_drewN | apply Kd.R_drew)); exact HO1062.out) hb); have n1_ := zK (Kd.R_below (by (with_reducible repeat (first | apply Kd.R_alloc | apply Kd.R_drewN | apply Kd.R_drew)); exact HO1065.out) hb); have n2_ := zK (Kd.R_below (by (with_reducible repeat (first | apply Kd.R_alloc | apply Kd.R_drewN | apply Kd.R_drew)); exact HO1069.out) hb); have n3_ := zK (Kd.R_below (by (with_reducible repeat (first | apply Kd.R_alloc | apply Kd.R_drewN | apply Kd.R_drew)); exact HO1072.out) hb); have n4_ := zK (Kd.R_below (by (with_reducible repeat (first | apply Kd.R_alloc | apply Kd.R_drewN | apply Kd.R_drew)); exact HO1075.out) hb); have n5_ := zK (Kd.R_below (by (with_reducible repeat (first | apply Kd.R_alloc | apply Kd.R_drewN | apply Kd.R_drew)); exact HO1079.out) hb); have n6_ := zK (zL (by repeat (first | (with_reducible first | exact HB.out | apply zA | apply zB | apply zC) | exact HB.out)) hb); clear HO1062; clear HO1065; clear HO1069; clear HO1072; clear HO1075; clear HO1079; clear HB; have HO1062 := n0_; have HO1065 := n1_; have HO1069 := n2_; have HO1072 := n3_; have HO1075 := n4_; have HO1079 := n5_; have HB := n6_; clear n0_ n1_ n2_ n3_ n4_ n5_ n6_; (try clear hb); (try clear hb2); (try clear hk); (try clear hi)))
     go_meet
     case rel => exact ⟨_, (true), (by first | rfl | (simp; done) | (simp [*]; done)), H', ⟨by first | omega | exact Nat.le_refl _⟩, ⟨by (with_reducible repeat (first | apply Kd.R_alloc | apply Kd.R_drewN | apply Kd.R_drew)); exact Kd.R_mono HO1069.out (fun _ hk => ⟨hk.1.2, hk.2⟩)⟩, ⟨by (with_reducible repeat (first | apply Kd.R_alloc | apply Kd.R_drewN | apply Kd.R_drew)); exact Kd.R_mono HO1072.out (fun _ hk => ⟨hk.1.2, hk.2⟩)⟩, ⟨by (with_reducible repeat (first | apply Kd.R_alloc | apply Kd.R_drewN | apply Kd.R_drew)); exact Kd.R_mono HO1075.out (fun _ hk => trivial)⟩, ⟨by (with_reducible repeat (first | apply Kd.R_alloc | apply Kd.R_drewN | apply Kd.R_drew)); exact Kd.R_mono HO1079.out (fun _ hk => ⟨hk.1.2, hk.2⟩)⟩, ⟨by repeat (first | (with_reducible first | exact HB.out | apply zA | apply zB | apply zC) | exact HB.out)⟩⟩
   case rest =>
    clear HC13
    try clear c1
    try clear c2
    try clear p2
    try clear c3
    try clear c3b0
    try clear c3b1
    try clear c4
    try clear c5
    try clear c5b0
    try clear c9
    try clear c14
    try clear c16
    try clear c18
    try clear c26
    obtain ⟨kq, x51_12, rfl, HA, HJ12, HO_6, HO_8, HO_9, HO_10, HB⟩ := hcut
    cases kq with
    | zero => exact absurd HA.out (by simp [laws_FnExactRenameCode.j0])
    | succ kj12 =>
     have H := HA.out
     clear HA
     simp only [laws_FnExactRenameCode.j0] at H
     by_cases c33 : x51_12 = true
     ·subst c33
      rw [if_pos rfl] at H
      exact absurd ((Option.some.inj H).trans hr) (by decide)
     ·replace c33 := Bool.eq_false_iff.mpr c33
      subst c33
      rw [if_neg (show ¬ (false = true) by decide)] at H
      replace H := Option.bind_eq_some_iff.mp H
      obtain ⟨t1081, A340, H⟩ := H
      replace H : ((laws_eqInstrS.f kj12 t1070 t1081).bind fun t1084 => (if t1084 = true then ((laws_toIntS.f kj12 l1).bind fun t1085 => ((laws_eqIntS.f kj12 t1073 t1085).bind fun t1088 => (if t1088 = true then ((laws_markInstrS.f kj12 t1070 1).bind fun bt1089 => ((laws_markIntS.f kj12 t1073 bt1089.1).bind fun bt1091 => (if bt1091.1 < 0 then (laws_FnExactRenameCode.j1 kj12 l0 l1 t1066 t1067 t1076 true) else ((laws_eqInstrS.f kj12 t1076 t1066).bind fun t1093 => (if t1093 = true then (laws_FnExactRenameCode.j1 kj12 l0 l1 t1066 t1067 t1076 (t1077 != t1067)) else (laws_FnExactRenameCode.j1 kj12 l0 l1 t1066 t1067 t1076 true)))))) else (some false)))) else (some false))) = some r := H
      have A34 := zK A340
      clear A340
      replace H := Option.bind_eq_some_iff.mp H
      obtain ⟨t1084, A350, H⟩ := H
      replace H : (if t1084 = true then ((laws_toIntS.f kj12 l1).bind fun t1085 => ((laws_eqIntS.f kj12 t1073 t1085).bind fun t1088 => (if t1088 = true then ((laws_markInstrS.f kj12 t1070 1).bind fun bt1089 => ((laws_markIntS.f kj12 t1073 bt1089.1).bind fun bt1091 => (if bt1091.1 < 0 then (laws_FnExactRenameCode.j1 kj12 l0 l1 t1066 t1067 t1076 true) else ((laws_eqInstrS.f kj12 t1076 t1066).bind fun t1093 => (if t1093 = true then (laws_FnExactRenameCode.j1 kj12 l0 l1 t1066 t1067 t1076 (t1077 != t1067)) else (laws_FnExactRenameCode.j1 kj12 l0 l1 t1066 t1067 t1076 true)))))) else (some false)))) else (some false)) = some r := H
      have A35 := zK A350
      clear A350
      by_cases c36 : t1084 = true
      ·subst c36
       rw [if_pos rfl] at H
       replace H := Option.bind_eq_some_iff.mp H
       obtain ⟨t1085, A370, H⟩ := H
       replace H : ((laws_eqIntS.f kj12 t1073 t1085).bind fun t1088 => (if t1088 = true then ((laws_markInstrS.f kj12 t1070 1).bind fun bt1089 => ((laws_markIntS.f kj12 t1073 bt1089.1).bind fun bt1091 => (if bt1091.1 < 0 then (laws_FnExactRenameCode.j1 kj12 l0 l1 t1066 t1067 t1076 true) else ((laws_eqInstrS.f kj12 t1076 t1066).bind fun t1093 => (if t1093 = true then (laws_FnExactRenameCode.j1 kj12 l0 l1 t1066 t1067 t1076 (t1077 != t1067)) else (laws_FnExactRenameCode.j1 kj12 l0 l1 t1066 t1067 t1076 true)))))) else (some false))) = some r := H
       have A37 := zK A370
       clear A370
       replace H := Option.bind_eq_some_iff.mp H
       obtain ⟨t1088, A380, H⟩ := H
       replace H : (if t1088 = true then ((laws_markInstrS.f kj12 t1070 1).bind fun bt1089 => ((laws_markIntS.f kj12 t1073 bt1089.1).bind fun bt1091 => (if bt1091.1 < 0 then (laws_FnExactRenameCode.j1 kj12 l0 l1 t1066 t1067 t1076 true) else ((laws_eqInstrS.f kj12 t1076 t1066).bind fun t1093 => (if t1093 = true then (laws_FnExactRenameCode.j1 kj12 l0 l1 t1066 t1067 t1076 (t1077 != t1067)) else (laws_FnExactRenameCode.j1 kj12 l0 l1 t1066 t1067 t1076 true)))))) else (some false)) = some r := H
       have A38 := zK A380
       clear A380
       by_cases c39 : t1088 = true
       ·subst c39
        rw [if_pos rfl] at H
        replace H := Option.bind_eq_some_iff.mp H
        obtain ⟨⟨t1089, t1090⟩, A400, H⟩ := H
        replace H : ((laws_markIntS.f kj12 t1073 t1089).bind fun bt1091 => (if bt1091.1 < 0 then (laws_FnExactRenameCode.j1 kj12 l0 l1 t1066 t1067 t1076 true) else ((laws_eqInstrS.f kj12 t1076 t1066).bind fun t1093 => (if t1093 = true then (laws_FnExactRenameCode.j1 kj12 l0 l1 t1066 t1067 t1076 (t1077 != t1067)) else (laws_FnExactRenameCode.j1 kj12 l0 l1 t1066 t1067 t1076 true))))) = some r := H
        have A40 := zK A400
        clear A400
        replace H := Option.bind_eq_some_iff.mp H
        obtain ⟨⟨t1091, t1092⟩, A410, H⟩ := H
        replace H : (if t1091 < 0 then (laws_FnExactRenameCode.j1 kj12 l0 l1 t1066 t1067 t1076 true) else ((laws_eqInstrS.f kj12 t1076 t1066).bind fun t1093 => (if t1093 = true then (laws_FnExactRenameCode.j1 kj12 l0 l1 t1066 t1067 t1076 (t1077 != t1067)) else (laws_FnExactRenameCode.j1 kj12 l0 l1 t1066 t1067 t1076 true)))) = some r := H
        have A41 := zK A410
        clear A410
        have HC42 := zK H
        clear H
        go_upto_region 20 with (first | ((with_reducible refine gate_callee (f := 16) rfl ?_); refine goesL_ (some 54) rfl rfl Try.func16 (by kernel_rfl) rfl #[.slice A0 l0.length c0] rfl (by (try simp only [z6, z7, z8]); first | done | rfl | (simp only [z4, z5]; rfl)) ?_; (with_reducible refine (laws_toInstrS.calls kj12 _ _ l0 t1081 _ ?side1 ?side2 A34.out).mono ?_); (case side1 => repeat (first | exact (Kd.C_below HR0.out HB.out) | (with_reducible refine Kd.C_alloc ?_ _) | (with_reducible refine Kd.C_drewN ?_ _) | (with_reducible refine Kd.C_drew ?_))); (case side2 => exact HC0.out); rintro e w43 ⟨v1082, rfl, ho0, hb⟩; refine ⟨_, rfl, ?_⟩; have n0_ := zK (Kd.R_elder' (by (with_reducible repeat (first | apply Kd.R_alloc | apply Kd.R_drewN | apply Kd.R_drew)); exact HO_6.out) (Kd.R_base ho0) hb); have n1_ := zK (Kd.R_elder' (by (with_reducible repeat (first | apply Kd.R_alloc | apply Kd.R_drewN | apply Kd.R_drew)); exact HO_8.out) (Kd.R_base ho0) hb); have n2_ := zK (Kd.R_below (by (with_reducible repeat (first | apply Kd.R_alloc | apply Kd.R_drewN | apply Kd.R_drew)); exact HO_9.out) hb); have n3_ := zK (Kd.R_elder' (by (with_reducible repeat (first | apply Kd.R_alloc | apply Kd.R_drewN | apply Kd.R_drew)); exact HO_10.out) (Kd.R_base ho0) hb); have n4_ := zK (Kd.R_lower (Kd.R_new' (Kd.R_new' (Kd.R_new' ho0 (Kd.R_lt (by (with_reducible repeat (first | apply Kd.R_alloc | apply Kd.R_drewN | apply Kd.R_drew)); exact HO_6.out))) (Kd.R_lt (by (with_reducible repeat (first | apply Kd.R_alloc | apply Kd.R_drewN | apply Kd.R_drew)); exact HO_8.out))) (Kd.R_lt (by (with_reducible repeat (first | apply Kd.R_alloc | apply Kd.R_drewN | apply Kd.R_drew)); exact HO_10.out))) (zN (by repeat (first | (with_reducible first | exact HB.out | apply zA | apply zB | apply zC) | exact HB.out)))); have n5_ := zK (zL (by repeat (first | (with_reducible first | exact HB.out | apply zA | apply zB | apply zC) | exact HB.out)) hb); clear HO_6; clear HO_8; clear HO_9; clear HO_10; clear HB; have HO_6 := n0_; have HO_8 := n1_; have HO_9 := n2_; have HO_10 := n3_; have HO1083 := n4_; have HB := n5_; clear n0_ n1_ n2_ n3_ n4_ n5_; (try clear hb); (try clear hb2); (try clear hk); (try clear hi); (try clear ho0); obtain ⟨Ao44, co44, eo44⟩ := Kd.R_slice HO1083.out; subst eo44) | ((with_reducible refine gate_callee (f := 18) rfl ?_); refine goesL_ (some 55) rfl rfl Try.func18 (by kernel_rfl) rfl #[.slice Ao22 t1070.length co22, .slice Ao44 t1081.length co44] rfl (by (try simp only [z6, z7, z8]); first | done | rfl | (simp only [z4, z5]; rfl)) ?_; (with_reducible refine (laws_eqInstrS.calls kj12 _ _ t1070 _ _ t1081 true _ ?side1 ?side2 ?side3 ?side4 A35.out).mono ?_); (case side1 => repeat (first | exact (Kd.R_reads' HO_8.out).2.2 | (with_reducible refine Kd.C_alloc ?_ _) | (with_reducible refine Kd.C_drewN ?_ _) | (with_reducible refine Kd.C_drew ?_))); (case side2 => exact (Kd.R_reads' HO_8.out).2.1); (case side3 => repeat (first | exact (Kd.R_reads' HO1083.out).2.2 | (with_reducible refine Kd.C_alloc ?_ _) | (with_reducible refine Kd.C_drewN ?_ _) | (with_reducible refine Kd.C_drew ?_))); (case side4 => exact (Kd.R_reads' HO1083.out).2.1); rintro e w45 ⟨rfl, hb⟩; refine ⟨_, rfl, ?_⟩; have n0_ := zK (Kd.R_below (by (with_reducible repeat (first | apply Kd.R_alloc | apply Kd.R_drewN | apply Kd.R_drew)); exact HO_6.out) hb); have n1_ := zK (Kd.R_below (by (with_reducible repeat (first | apply Kd.R_alloc | apply Kd.R_drewN | apply Kd.R_drew)); exact HO_8.out) hb); have n2_ := zK (Kd.R_below (by (with_reducible repeat (first | apply Kd.R_alloc | apply Kd.R_drewN | apply Kd.R_drew)); exact HO_9.out) hb); have n3_ := zK (Kd.R_below (by (with_reducible repeat (first | apply Kd.R_alloc | apply Kd.R_drewN | apply Kd.R_drew)); exact HO_10.out) hb); have n4_ := zK (Kd.R_below (by (with_reducible repeat (first | apply Kd.R_alloc | apply Kd.R_drewN | apply Kd.R_drew)); exact HO1083.out) hb); have n5_ := zK (zL (by repeat (first | (with_reducible first | exact HB.out | apply zA | apply zB | apply zC) | exact HB.out)) hb); clear HO_6; clear HO_8; clear HO_9; clear HO_10; clear HO1083; clear HB; have HO_6 := n0_; have HO_8 := n1_; have HO_9 := n2_; have HO_10 := n3_; have HO1083 := n4_; have HB := n5_; clear n0_ n1_ n2_ n3_ n4_ n5_; (try clear hb); (try clear hb2); (try clear hk); (try clear hi)) | ((with_reducible refine gate_callee (f := 33) rfl ?_); refine goesL_ (some 59) rfl rfl Try.func33 (by kernel_rfl) rfl #[.slice A1 l1.length c1] rfl (by (try simp only [z6, z7, z8]); first | done | rfl | (simp only [z4, z5]; rfl)) ?_; (with_reducible refine (laws_toIntS.calls kj12 _ _ l1 t1085 _ ?side1 ?side2 A37.out).mono ?_); (case side1 => repeat (first | exact (Kd.C_below HR1.out HB.out) | (with_reducible refine Kd.C_alloc ?_ _) | (with_reducible refine Kd.C_drewN ?_ _) | (with_reducible refine Kd.C_drew ?_))); (case side2 => exact HC1.out); rintro e w46 ⟨v1086, rfl, ho0, hb⟩; refine ⟨_, rfl, ?_⟩; have n0_ := zK (Kd.R_below (by (with_reducible repeat (first | apply Kd.R_alloc | apply Kd.R_drewN | apply Kd.R_drew)); exact HO_6.out) hb); have n1_ := zK (Kd.R_below (by (with_reducible repeat (first | apply Kd.R_alloc | apply Kd.R_drewN | apply Kd.R_drew)); exact HO_8.out) hb); have n2_ := zK (Kd.R_elder' (by (with_reducible repeat (first | apply Kd.R_alloc | apply Kd.R_drewN | apply Kd.R_drew)); exact HO_9.out) (Kd.R_base ho0) hb); have n3_ := zK (Kd.R_below (by (with_reducible repeat (first | apply Kd.R_alloc | apply Kd.R_drewN | apply Kd.R_drew)); exact HO_10.out) hb); have n4_ := zK (Kd.R_below (by (with_reducible repeat (first | apply Kd.R_alloc | apply Kd.R_drewN | apply Kd.R_drew)); exact HO1083.out) hb); have n5_ := zK (Kd.R_lower (Kd.R_new' ho0 (Kd.R_lt (by (with_reducible repeat (first | apply Kd.R_alloc | apply Kd.R_drewN | apply Kd.R_drew)); exact HO_9.out))) (zN (by repeat (first | (with_reducible first | exact HB.out | apply zA | apply zB | apply zC) | exact HB.out)))); have n6_ := zK (zL (by repeat (first | (with_reducible first | exact HB.out | apply zA | apply zB | apply zC) | exact HB.out)) hb); clear HO_6; clear HO_8; clear HO_9; clear HO_10; clear HO1083; clear HB; have HO_6 := n0_; have HO_8 := n1_; have HO_9 := n2_; have HO_10 := n3_; have HO1083 := n4_; have HO1087 := n5_; have HB := n6_; clear n0_ n1_ n2_ n3_ n4_ n5_ n6_; (try clear hb); (try clear hb2); (try clear hk); (try clear hi); (try clear ho0); obtain ⟨Ao47, co47, eo47⟩ := Kd.R_slice HO1087.out; subst eo47) | ((with_reducible refine gate_callee (f := 36) rfl ?_); refine goesL_ (some 60) rfl rfl Try.func36 (by kernel_rfl) rfl #[.slice Ao23 t1073.length co23, .slice Ao47 t1085.length co47] rfl (by (try simp only [z6, z7, z8]); first | done | rfl | (simp only [z4, z5]; rfl)) ?_; (with_reducible refine (laws_eqIntS.calls kj12 _ _ t1073 _ _ t1085 true _ ?side1 ?side2 ?side3 ?side4 A38.out).mono ?_); (case side1 => repeat (first | exact (Kd.R_reads' HO_9.out).2.2 | (with_reducible refine Kd.C_alloc ?_ _) | (with_reducible refine Kd.C_drewN ?_ _) | (with_reducible refine Kd.C_drew ?_))); (case side2 => exact (Kd.R_reads' HO_9.out).2.1); (case side3 => repeat (first | exact (Kd.R_reads' HO1087.out).2.2 | (with_reducible refine Kd.C_alloc ?_ _) | (with_reducible refine Kd.C_drewN ?_ _) | (with_reducible refine Kd.C_drew ?_))); (case side4 => exact (Kd.R_reads' HO1087.out).2.1); rintro e w' ⟨rfl, ⟨nd, rfl⟩⟩; refine ⟨_, rfl, ?_⟩) | ((with_reducible refine gate_callee (f := 19) rfl ?_); refine goesL_ (some 64) rfl rfl Try.func19 (by kernel_rfl) rfl #[.slice Ao22 t1070.length co22, .int .i64 1] rfl (by (try simp only [z6, z7, z8]); first | done | rfl | (simp only [z4, z5]; rfl)) ?_; (with_reducible refine (laws_markInstrS.calls kj12 (fun k_ => some k_ = (.slice Ao22 t1070.length co22 : Value).ownBlock) (.slice Ao22 t1070.length co22) t1070 1 t1089 t1090 w _ ?side1 ?side2 A40.out).mono ?_); (case side1 => repeat (first | (with_reducible first | exact HB.out | apply zA | apply zB | apply zC) | exact HB.out)); (case side2 => exact Kd.R_tight rfl HO_8.out); rintro e w48 ⟨rfl, hy0, hb, hkp⟩; refine ⟨_, rfl, ?_⟩; have n0_ := zK (Kd.R_mono (ok' := fun k_ => some k_ ≠ (.slice Ao22 t1070.length co22 : Value).ownBlock ∧ some k_ ≠ (v1078 : Value).ownBlock ∧ some k_ ≠ (.slice Ao44 t1081.length co44 : Value).ownBlock) (Kd.R_keptB (HO_6.out) hkp (fun k_ hk_ hs_ => (hk_.1.1) hs_)) (fun k_ hk_ => ⟨hk_.1.1.1, hk_.1.1.2, hk_.1.2⟩)); have n1_ := zK (Kd.R_reok rfl hy0 (fun k_ e_ => HO_8.out.1 k_ e_)); have n2_ := zK (Kd.R_mono (ok' := fun k_ => some k_ ≠ (.slice Ao47 t1085.length co47 : Value).ownBlock) (Kd.R_keptB ((Kd.R_apart' HO_9.out (Kd.R_typed HO_8.out) (by decide))) hkp (fun k_ hk_ hs_ => (hk_.2) hs_)) (fun k_ hk_ => hk_.1.1.2)); have n3_ := zK (Kd.R_mono (ok' := fun k_ => some k_ ≠ (v1068 : Value).ownBlock ∧ some k_ ≠ (.slice Ao22 t1070.length co22 : Value).ownBlock ∧ some k_ ≠ (.slice Ao44 t1081.length co44 : Value).ownBlock) (Kd.R_keptB (HO_10.out) hkp (fun k_ hk_ hs_ => (hk_.1.2) hs_)) (fun k_ hk_ => ⟨hk_.1.1.1, hk_.1.1.2, hk_.1.2⟩)); have n4_ := zK (Kd.R_mono (ok' := fun k_ => some k_ ≠ (v1068 : Value).ownBlock ∧ some k_ ≠ (.slice Ao22 t1070.length co22 : Value).ownBlock ∧ some k_ ≠ (v1078 : Value).ownBlock) (Kd.R_keptB (HO1083.out) hkp (fun k_ hk_ hs_ => (hk_.1.2) hs_)) (fun k_ hk_ => ⟨hk_.1.1.1.2, hk_.1.1.2, hk_.1.2⟩)); have n5_ := zK (Kd.R_mono (ok' := fun k_ => some k_ ≠ (.slice Ao23 t1073.length co23 : Value).ownBlock) (Kd.R_keptB ((Kd.R_apart' HO1087.out (Kd.R_typed HO_8.out) (by decide))) hkp (fun k_ hk_ hs_ => (hk_.2) hs_)) (fun k_ hk_ => hk_.1.1.2)); have n6_ := zK (hb); clear HO_6; clear HO_8; clear HO_9; clear HO_10; clear HO1083; clear HO1087; clear HB; have HO_6 := n0_; have HO_8 := n1_; have HO_9 := n2_; have HO_10 := n3_; have HO1083 := n4_; have HO1087 := n5_; have HB := n6_; clear n0_ n1_ n2_ n3_ n4_ n5_ n6_; (try clear hb); (try clear hkp); (try clear hy0)) | ((with_reducible refine gate_callee (f := 37) rfl ?_); refine goesL_ (some 67) rfl rfl Try.func37 (by kernel_rfl) rfl #[.slice Ao23 t1073.length co23, .int .i64 t1089] rfl (by (try simp only [z6, z7, z8]); first | done | rfl | (simp only [z4, z5]; rfl)) ?_; (with_reducible refine (laws_markIntS.calls kj12 (fun k_ => some k_ = (.slice Ao23 t1073.length co23 : Value).ownBlock) (.slice Ao23 t1073.length co23) t1073 t1089 t1091 t1092 w _ ?side1 ?side2 A41.out).mono ?_); (case side1 => repeat (first | (with_reducible first | exact HB.out | apply zA | apply zB | apply zC) | exact HB.out)); (case side2 => exact Kd.R_tight rfl HO_9.out); rintro e w49 ⟨rfl, hy0, hb, hkp⟩; refine ⟨_, rfl, ?_⟩; have n0_ := zK (Kd.R_mono (ok' := fun k_ => some k_ ≠ (.slice Ao22 t1070.length co22 : Value).ownBlock ∧ some k_ ≠ (v1078 : Value).ownBlock ∧ some k_ ≠ (.slice Ao44 t1081.length co44 : Value).ownBlock) (Kd.R_keptB ((Kd.R_apart' HO_6.out (Kd.R_typed HO_9.out) (by decide))) hkp (fun k_ hk_ hs_ => (hk_.2) hs_)) (fun k_ hk_ => ⟨hk_.1.1.1, hk_.1.1.2.1, hk_.1.1.2.2⟩)); have n1_ := zK (Kd.R_mono (ok' := fun k_ => some k_ ≠ (v1068 : Value).ownBlock ∧ some k_ ≠ (v1078 : Value).ownBlock ∧ some k_ ≠ (.slice Ao44 t1081.length co44 : Value).ownBlock) (Kd.R_keptB ((Kd.R_apart' HO_8.out (Kd.R_typed HO_9.out) (by decide))) hkp (fun k_ hk_ hs_ => (hk_.2) hs_)) (fun k_ hk_ => ⟨hk_.1.1.1.1, hk_.1.1.1.2, hk_.1.1.2⟩)); have n2_ := zK (Kd.R_reok rfl hy0 (fun k_ e_ => HO_9.out.1 k_ e_)); have n3_ := zK (Kd.R_mono (ok' := fun k_ => some k_ ≠ (v1068 : Value).ownBlock ∧ some k_ ≠ (.slice Ao22 t1070.length co22 : Value).ownBlock ∧ some k_ ≠ (.slice Ao44 t1081.length co44 : Value).ownBlock) (Kd.R_keptB ((Kd.R_apart' HO_10.out (Kd.R_typed HO_9.out) (by decide))) hkp (fun k_ hk_ hs_ => (hk_.2) hs_)) (fun k_ hk_ => ⟨hk_.1.1.1, hk_.1.1.2.1, hk_.1.1.2.2⟩)); have n4_ := zK (Kd.R_mono (ok' := fun k_ => some k_ ≠ (v1068 : Value).ownBlock ∧ some k_ ≠ (.slice Ao22 t1070.length co22 : Value).ownBlock ∧ some k_ ≠ (v1078 : Value).ownBlock) (Kd.R_keptB ((Kd.R_apart' HO1083.out (Kd.R_typed HO_9.out) (by decide))) hkp (fun k_ hk_ hs_ => (hk_.2) hs_)) (fun k_ hk_ => ⟨hk_.1.1.1, hk_.1.1.2.1, hk_.1.1.2.2⟩)); have n5_ := zK (Kd.R_mono (ok' := fun k_ => some k_ ≠ (.slice Ao23 t1073.length co23 : Value).ownBlock) (Kd.R_keptB (HO1087.out) hkp (fun k_ hk_ hs_ => (hk_) hs_)) (fun k_ hk_ => hk_.1)); have n6_ := zK (hb); clear HO_6; clear HO_8; clear HO_9; clear HO_10; clear HO1083; clear HO1087; clear HB; have HO_6 := n0_; have HO_8 := n1_; have HO_9 := n2_; have HO_10 := n3_; have HO1083 := n4_; have HO1087 := n5_; have HB := n6_; clear n0_ n1_ n2_ n3_ n4_ n5_ n6_; (try clear hb); (try clear hkp); (try clear hy0)))
        (try simp only [Act.put, z1, z2, z3])
        go_cut [80] (fun v80 wc => ∃ (kq : Nat) (x80_41 : Bool), v80 = .bool x80_41 ∧ Aside0 (laws_FnExactRenameCode.j1 kq l0 l1 t1066 t1067 t1076 x80_41 = some r) ∧ Aside0 (kq ≤ kj12) ∧ Aside0 (Kd.R k67 67 wc w.heap.size (fun k_ => some k_ ≠ (v1078 : Value).ownBlock) v1068 t1066) ∧ Aside0 (Kd.R k67 67 wc w.heap.size (fun k_ => some k_ ≠ (v1068 : Value).ownBlock) v1078 t1076) ∧ Aside0 (Below w.heap.size w wc))
        case first =>
         have H := HC42.out
         clear HC42
         by_cases c50 : t1091 < 0
         ·rw [if_pos c50] at H
          have c50b0 : decide (t1091 < 0) = true := decide_eq_true c50
          clear c50
          (first | rw [c50b0] | (simp only [i64_w, i32_w]; rw [c50b0]) | skip)
          have H' := zK H
          clear H
          go_wp2
          go_meet
          case rel => exact ⟨_, (true), (by first | rfl | (simp; done) | (simp [*]; done)), H', ⟨by have := HJ12.out; first | omega | exact Nat.le_refl _⟩, ⟨by (with_reducible repeat (first | apply Kd.R_alloc | apply Kd.R_drewN | apply Kd.R_drew)); exact Kd.R_mono HO_6.out (fun _ hk => hk.2.1)⟩, ⟨by (with_reducible repeat (first | apply Kd.R_alloc | apply Kd.R_drewN | apply Kd.R_drew)); exact Kd.R_mono HO_10.out (fun _ hk => hk.1)⟩, ⟨by repeat (first | (with_reducible first | exact HB.out | apply zA | apply zB | apply zC) | exact HB.out)⟩⟩
         ·rw [if_neg c50] at H
          have c50b0 : decide (t1091 < 0) = false := decide_eq_false c50
          clear c50
          (first | rw [c50b0] | (simp only [i64_w, i32_w]; rw [c50b0]) | skip)
          replace H := Option.bind_eq_some_iff.mp H
          obtain ⟨t1093, A510, H⟩ := H
          replace H : (if t1093 = true then (laws_FnExactRenameCode.j1 kj12 l0 l1 t1066 t1067 t1076 (t1077 != t1067)) else (laws_FnExactRenameCode.j1 kj12 l0 l1 t1066 t1067 t1076 true)) = some r := H
          have A51 := zK A510
          clear A510
          by_cases c52 : t1093 = true
          ·subst c52
           rw [if_pos rfl] at H
           have H' := zK H
           clear H
           obtain ⟨Ao53, co53, eo53⟩ := Kd.R_slice HO_10.out
           subst eo53
           obtain ⟨Ao54, co54, eo54⟩ := Kd.R_slice HO_6.out
           subst eo54
           go_wp2_with (first | (go_at_call 18; (with_reducible refine (laws_eqInstrS.calls kj12 _ _ t1076 _ _ t1066 true _ ?side1 ?side2 ?side3 ?side4 A51.out).mono ?_); (case side1 => repeat (first | exact (Kd.R_reads' HO_10.out).2.2 | (with_reducible refine Kd.C_alloc ?_ _) | (with_reducible refine Kd.C_drewN ?_ _) | (with_reducible refine Kd.C_drew ?_))); (case side2 => exact (Kd.R_reads' HO_10.out).2.1); (case side3 => repeat (first | exact (Kd.R_reads' HO_6.out).2.2 | (with_reducible refine Kd.C_alloc ?_ _) | (with_reducible refine Kd.C_drewN ?_ _) | (with_reducible refine Kd.C_drew ?_))); (case side4 => exact (Kd.R_reads' HO_6.out).2.1); rintro e w55 ⟨rfl, hb⟩; have n0_ := zK (Kd.R_below (by (with_reducible repeat (first | apply Kd.R_alloc | apply Kd.R_drewN | apply Kd.R_drew)); exact HO_6.out) hb); have n1_ := zK (Kd.R_below (by (with_reducible repeat (first | apply Kd.R_alloc | apply Kd.R_drewN | apply Kd.R_drew)); exact HO_8.out) hb); have n2_ := zK (Kd.R_below (by (with_reducible repeat (first | apply Kd.R_alloc | apply Kd.R_drewN | apply Kd.R_drew)); exact HO_9.out) hb); have n3_ := zK (Kd.R_below (by (with_reducible repeat (first | apply Kd.R_alloc | apply Kd.R_drewN | apply Kd.R_drew)); exact HO_10.out) hb); have n4_ := zK (Kd.R_below (by (with_reducible repeat (first | apply Kd.R_alloc | apply Kd.R_drewN | apply Kd.R_drew)); exact HO1083.out) hb); have n5_ := zK (Kd.R_below (by (with_reducible repeat (first | apply Kd.R_alloc | apply Kd.R_drewN | apply Kd.R_drew)); exact HO1087.out) hb); have n6_ := zK (zL (by repeat (first | (with_reducible first | exact HB.out | apply zA | apply zB | apply zC) | exact HB.out)) hb); clear HO_6; clear HO_8; clear HO_9; clear HO_10; clear HO1083; clear HO1087; clear HB; have HO_6 := n0_; have HO_8 := n1_; have HO_9 := n2_; have HO_10 := n3_; have HO1083 := n4_; have HO1087 := n5_; have HB := n6_; clear n0_ n1_ n2_ n3_ n4_ n5_ n6_; (try clear hb); (try clear hb2); (try clear hk); (try clear hi)))
           go_meet
           case rel => exact ⟨_, ((t1077 != t1067)), (by first | rfl | (simp; done) | (simp [*]; done)), H', ⟨by have := HJ12.out; first | omega | exact Nat.le_refl _⟩, ⟨by (with_reducible repeat (first | apply Kd.R_alloc | apply Kd.R_drewN | apply Kd.R_drew)); exact Kd.R_mono HO_6.out (fun _ hk => hk.2.1)⟩, ⟨by (with_reducible repeat (first | apply Kd.R_alloc | apply Kd.R_drewN | apply Kd.R_drew)); exact Kd.R_mono HO_10.out (fun _ hk => hk.1)⟩, ⟨by repeat (first | (with_reducible first | exact HB.out | apply zA | apply zB | apply zC) | exact HB.out)⟩⟩
          ·replace c52 := Bool.eq_false_iff.mpr c52
           subst c52
           rw [if_neg (show ¬ (false = true) by decide)] at H
           have H' := zK H
           clear H
           obtain ⟨Ao56, co56, eo56⟩ := Kd.R_slice HO_10.out
           subst eo56
           obtain ⟨Ao57, co57, eo57⟩ := Kd.R_slice HO_6.out
           subst eo57
           go_wp2_with (first | (go_at_call 18; (with_reducible refine (laws_eqInstrS.calls kj12 _ _ t1076 _ _ t1066 false _ ?side1 ?side2 ?side3 ?side4 A51.out).mono ?_); (case side1 => repeat (first | exact (Kd.R_reads' HO_10.out).2.2 | (with_reducible refine Kd.C_alloc ?_ _) | (with_reducible refine Kd.C_drewN ?_ _) | (with_reducible refine Kd.C_drew ?_))); (case side2 => exact (Kd.R_reads' HO_10.out).2.1); (case side3 => repeat (first | exact (Kd.R_reads' HO_6.out).2.2 | (with_reducible refine Kd.C_alloc ?_ _) | (with_reducible refine Kd.C_drewN ?_ _) | (with_reducible refine Kd.C_drew ?_))); (case side4 => exact (Kd.R_reads' HO_6.out).2.1); rintro e w58 ⟨rfl, hb⟩; have n0_ := zK (Kd.R_below (by (with_reducible repeat (first | apply Kd.R_alloc | apply Kd.R_drewN | apply Kd.R_drew)); exact HO_6.out) hb); have n1_ := zK (Kd.R_below (by (with_reducible repeat (first | apply Kd.R_alloc | apply Kd.R_drewN | apply Kd.R_drew)); exact HO_8.out) hb); have n2_ := zK (Kd.R_below (by (with_reducible repeat (first | apply Kd.R_alloc | apply Kd.R_drewN | apply Kd.R_drew)); exact HO_9.out) hb); have n3_ := zK (Kd.R_below (by (with_reducible repeat (first | apply Kd.R_alloc | apply Kd.R_drewN | apply Kd.R_drew)); exact HO_10.out) hb); have n4_ := zK (Kd.R_below (by (with_reducible repeat (first | apply Kd.R_alloc | apply Kd.R_drewN | apply Kd.R_drew)); exact HO1083.out) hb); have n5_ := zK (Kd.R_below (by (with_reducible repeat (first | apply Kd.R_alloc | apply Kd.R_drewN | apply Kd.R_drew)); exact HO1087.out) hb); have n6_ := zK (zL (by repeat (first | (with_reducible first | exact HB.out | apply zA | apply zB | apply zC) | exact HB.out)) hb); clear HO_6; clear HO_8; clear HO_9; clear HO_10; clear HO1083; clear HO1087; clear HB; have HO_6 := n0_; have HO_8 := n1_; have HO_9 := n2_; have HO_10 := n3_; have HO1083 := n4_; have HO1087 := n5_; have HB := n6_; clear n0_ n1_ n2_ n3_ n4_ n5_ n6_; (try clear hb); (try clear hb2); (try clear hk); (try clear hi)))
           go_meet
           case rel => exact ⟨_, (true), (by first | rfl | (simp; done) | (simp [*]; done)), H', ⟨by have := HJ12.out; first | omega | exact Nat.le_refl _⟩, ⟨by (with_reducible repeat (first | apply Kd.R_alloc | apply Kd.R_drewN | apply Kd.R_drew)); exact Kd.R_mono HO_6.out (fun _ hk => hk.2.1)⟩, ⟨by (with_reducible repeat (first | apply Kd.R_alloc | apply Kd.R_drewN | apply Kd.R_drew)); exact Kd.R_mono HO_10.out (fun _ hk => hk.1)⟩, ⟨by repeat (first | (with_reducible first | exact HB.out | apply zA | apply zB | apply zC) | exact HB.out)⟩⟩
        case rest =>
         clear HC42
         try clear c1
         try clear c2
         try clear p2
         try clear c3
         try clear c3b0
         try clear c3b1
         try clear c4
         try clear c5
         try clear c5b0
         try clear c9
         try clear c14
         try clear c16
         try clear c18
         try clear c19
         try clear c26
         try clear c33
         try clear c36
         try clear c37
         try clear c39
         try clear c47
         try clear c48
         try clear c50
         try clear c50b0
         try clear c52
         try clear p2
         obtain ⟨kq, x80_41, rfl, HA, HJ41, HO_6, HO_10, HB⟩ := hcut
         cases kq with
         | zero => exact absurd HA.out (by simp [laws_FnExactRenameCode.j1])
         | succ kj41 =>
          have H := HA.out
          clear HA
          simp only [laws_FnExactRenameCode.j1] at H
          by_cases c59 : x80_41 = true
          ·subst c59
           rw [if_pos rfl] at H
           exact absurd ((Option.some.inj H).trans hr) (by decide)
          ·replace c59 := Bool.eq_false_iff.mpr c59
           subst c59
           rw [if_neg (show ¬ (false = true) by decide)] at H
           replace H := Option.bind_eq_some_iff.mp H
           obtain ⟨⟨t1094, t1095⟩, A600, H⟩ := H
           replace H : ((laws_heldInstrS.f kj41 t1095 1).bind fun t1096 => (if t1096 < 0 then (some false) else (if t1096 = t1094 then ((laws_toInstrS.f kj41 l0).bind fun t1097 => ((laws_toIntS.f kj41 l1).bind fun t1100 => ((impl_RenameCode.f kj41 t1097 t1100).bind fun bt1103 => ((laws_eqInstrS.f kj41 bt1103.1 t1066).bind fun t1107 => (if t1107 = true then (laws_FnExactRenameCode.j2 kj41 t1095 t1094 (bt1103.2 != t1067)) else (laws_FnExactRenameCode.j2 kj41 t1095 t1094 true)))))) else (some false)))) = some r := H
           have A60 := zK A600
           clear A600
           replace H := Option.bind_eq_some_iff.mp H
           obtain ⟨t1096, A610, H⟩ := H
           replace H : (if t1096 < 0 then (some false) else (if t1096 = t1094 then ((laws_toInstrS.f kj41 l0).bind fun t1097 => ((laws_toIntS.f kj41 l1).bind fun t1100 => ((impl_RenameCode.f kj41 t1097 t1100).bind fun bt1103 => ((laws_eqInstrS.f kj41 bt1103.1 t1066).bind fun t1107 => (if t1107 = true then (laws_FnExactRenameCode.j2 kj41 t1095 t1094 (bt1103.2 != t1067)) else (laws_FnExactRenameCode.j2 kj41 t1095 t1094 true)))))) else (some false))) = some r := H
           have A61 := zK A610
           clear A610
           by_cases c62 : t1096 < 0
           ·rw [if_pos c62] at H
            have c62b0 : decide (t1096 < 0) = true := decide_eq_true c62
            clear c62
            exact absurd ((Option.some.inj H).trans hr) (by decide)
           ·rw [if_neg c62] at H
            have c62b0 : decide (t1096 < 0) = false := decide_eq_false c62
            clear c62
            by_cases c66 : t1096 = t1094
            ·rw [if_pos c66] at H
             have c66b0 : (t1096 == t1094) = true := beq_iff_eq.mpr c66
             have c66b1 : (t1096 != t1094) = false := bne_eq_false_iff_eq.mpr c66
             clear c66
             replace H := Option.bind_eq_some_iff.mp H
             obtain ⟨t1097, A670, H⟩ := H
             replace H : ((laws_toIntS.f kj41 l1).bind fun t1100 => ((impl_RenameCode.f kj41 t1097 t1100).bind fun bt1103 => ((laws_eqInstrS.f kj41 bt1103.1 t1066).bind fun t1107 => (if t1107 = true then (laws_FnExactRenameCode.j2 kj41 t1095 t1094 (bt1103.2 != t1067)) else (laws_FnExactRenameCode.j2 kj41 t1095 t1094 true))))) = some r := H
             have A67 := zK A670
             clear A670
             replace H := Option.bind_eq_some_iff.mp H
             obtain ⟨t1100, A680, H⟩ := H
             replace H : ((impl_RenameCode.f kj41 t1097 t1100).bind fun bt1103 => ((laws_eqInstrS.f kj41 bt1103.1 t1066).bind fun t1107 => (if t1107 = true then (laws_FnExactRenameCode.j2 kj41 t1095 t1094 (bt1103.2 != t1067)) else (laws_FnExactRenameCode.j2 kj41 t1095 t1094 true)))) = some r := H
             have A68 := zK A680
             clear A680
             replace H := Option.bind_eq_some_iff.mp H
             obtain ⟨⟨t1103, t1104⟩, A690, H⟩ := H
             replace H : ((laws_eqInstrS.f kj41 t1103 t1066).bind fun t1107 => (if t1107 = true then (laws_FnExactRenameCode.j2 kj41 t1095 t1094 (t1104 != t1067)) else (laws_FnExactRenameCode.j2 kj41 t1095 t1094 true))) = some r := H
             have A69 := zK A690
             clear A690
             have HC70 := zK H
             clear H
             obtain ⟨Ao71, co71, eo71⟩ := Kd.R_slice HO_10.out
             subst eo71
             go_upto_region 31 with (first | ((with_reducible refine gate_callee (f := 19) rfl ?_); refine goesL_ (some 83) rfl rfl Try.func19 (by kernel_rfl) rfl #[.slice Ao71 t1076.length co71, .int .i64 1] rfl (by (try simp only [z6, z7, z8]); first | done | rfl | (simp only [z4, z5]; rfl)) ?_; (with_reducible refine (laws_markInstrS.calls kj41 (fun k_ => some k_ = (.slice Ao71 t1076.length co71 : Value).ownBlock) (.slice Ao71 t1076.length co71) t1076 1 t1094 t1095 w _ ?side1 ?side2 A60.out).mono ?_); (case side1 => repeat (first | (with_reducible first | exact HB.out | apply zA | apply zB | apply zC) | exact HB.out)); (case side2 => exact Kd.R_tight rfl HO_10.out); rintro e w72 ⟨rfl, hy0, hb, hkp⟩; refine ⟨_, rfl, ?_⟩; have n0_ := zK (Kd.R_mono (ok' := fun k_ => some k_ ≠ (.slice Ao71 t1076.length co71 : Value).ownBlock) (Kd.R_keptB (HO_6.out) hkp (fun k_ hk_ hs_ => (hk_) hs_)) (fun k_ hk_ => hk_.1)); have n1_ := zK (Kd.R_reok rfl hy0 (fun k_ e_ => HO_10.out.1 k_ e_)); have n2_ := zK (hb); clear HO_6; clear HO_10; clear HB; have HO_6 := n0_; have HO_10 := n1_; have HB := n2_; clear n0_ n1_ n2_; (try clear hb); (try clear hkp); (try clear hy0)) | ((with_reducible refine gate_callee (f := 20) rfl ?_); refine goesL_ (some 86) rfl rfl Try.func20 (by kernel_rfl) rfl #[.slice Ao71 t1095.length co71, .int .i64 1] rfl (by (try simp only [z6, z7, z8]); first | done | (rw [show t1095.length = t1076.length from (Kd.R_reads' HO_10.out).1.symm] <;> rfl) | rfl | (simp only [z4, z5]; rfl)) ?_; (with_reducible refine (laws_heldInstrS.calls kj41 _ _ t1095 1 t1096 _ ?side1 ?side2 A61.out).mono ?_); (case side1 => repeat (first | exact (Kd.R_reads' HO_10.out).2.2 | (with_reducible refine Kd.C_alloc ?_ _) | (with_reducible refine Kd.C_drewN ?_ _) | (with_reducible refine Kd.C_drew ?_))); (case side2 => rw [show t1095.length = t1076.length from (Kd.R_reads' HO_10.out).1.symm]; exact (Kd.R_reads' HO_10.out).2.1); rintro e w73 ⟨rfl, hb⟩; refine ⟨_, rfl, ?_⟩; have n0_ := zK (Kd.R_below (by (with_reducible repeat (first | apply Kd.R_alloc | apply Kd.R_drewN | apply Kd.R_drew)); exact HO_6.out) hb); have n1_ := zK (Kd.R_below (by (with_reducible repeat (first | apply Kd.R_alloc | apply Kd.R_drewN | apply Kd.R_drew)); exact HO_10.out) hb); have n2_ := zK (zL (by repeat (first | (with_reducible first | exact HB.out | apply zA | apply zB | apply zC) | exact HB.out)) hb); clear HO_6; clear HO_10; clear HB; have HO_6 := n0_; have HO_10 := n1_; have HB := n2_; clear n0_ n1_ n2_; (try clear hb); (try clear hb2); (try clear hk); (try clear hi)) | ((with_reducible refine gate_callee (f := 16) rfl ?_); refine goesL_ (some 94) rfl rfl Try.func16 (by kernel_rfl) rfl #[.slice A0 l0.length c0] rfl (by (try simp only [z6, z7, z8]); first | done | rfl | (simp only [z4, z5]; rfl)) ?_; (with_reducible refine (laws_toInstrS.calls kj41 _ _ l0 t1097 _ ?side1 ?side2 A67.out).mono ?_); (case side1 => repeat (first | exact (Kd.C_below HR0.out HB.out) | (with_reducible refine Kd.C_alloc ?_ _) | (with_reducible refine Kd.C_drewN ?_ _) | (with_reducible refine Kd.C_drew ?_))); (case side2 => exact HC0.out); rintro e w74 ⟨v1098, rfl, ho0, hb⟩; refine ⟨_, rfl, ?_⟩; have n0_ := zK (Kd.R_elder' (by (with_reducible repeat (first | apply Kd.R_alloc | apply Kd.R_drewN | apply Kd.R_drew)); exact HO_6.out) (Kd.R_base ho0) hb); have n1_ := zK (Kd.R_elder' (by (with_reducible repeat (first | apply Kd.R_alloc | apply Kd.R_drewN | apply Kd.R_drew)); exact HO_10.out) (Kd.R_base ho0) hb); have n2_ := zK (Kd.R_lower (Kd.R_new' (Kd.R_new' ho0 (Kd.R_lt (by (with_reducible repeat (first | apply Kd.R_alloc | apply Kd.R_drewN | apply Kd.R_drew)); exact HO_6.out))) (Kd.R_lt (by (with_reducible repeat (first | apply Kd.R_alloc | apply Kd.R_drewN | apply Kd.R_drew)); exact HO_10.out))) (zN (by repeat (first | (with_reducible first | exact HB.out | apply zA | apply zB | apply zC) | exact HB.out)))); have n3_ := zK (zL (by repeat (first | (with_reducible first | exact HB.out | apply zA | apply zB | apply zC) | exact HB.out)) hb); clear HO_6; clear HO_10; clear HB; have HO_6 := n0_; have HO_10 := n1_; have HO1099 := n2_; have HB := n3_; clear n0_ n1_ n2_ n3_; (try clear hb); (try clear hb2); (try clear hk); (try clear hi); (try clear ho0)) | ((with_reducible refine gate_callee (f := 33) rfl ?_); refine goesL_ (some 96) rfl rfl Try.func33 (by kernel_rfl) rfl #[.slice A1 l1.length c1] rfl (by (try simp only [z6, z7, z8]); first | done | rfl | (simp only [z4, z5]; rfl)) ?_; (with_reducible refine (laws_toIntS.calls kj41 _ _ l1 t1100 _ ?side1 ?side2 A68.out).mono ?_); (case side1 => repeat (first | exact (Kd.C_below HR1.out HB.out) | (with_reducible refine Kd.C_alloc ?_ _) | (with_reducible refine Kd.C_drewN ?_ _) | (with_reducible refine Kd.C_drew ?_))); (case side2 => exact HC1.out); rintro e w75 ⟨v1101, rfl, ho0, hb⟩; refine ⟨_, rfl, ?_⟩; have n0_ := zK (Kd.R_below (by (with_reducible repeat (first | apply Kd.R_alloc | apply Kd.R_drewN | apply Kd.R_drew)); exact HO_6.out) hb); have n1_ := zK (Kd.R_below (by (with_reducible repeat (first | apply Kd.R_alloc | apply Kd.R_drewN | apply Kd.R_drew)); exact HO_10.out) hb); have n2_ := zK (Kd.R_below (by (with_reducible repeat (first | apply Kd.R_alloc | apply Kd.R_drewN | apply Kd.R_drew)); exact HO1099.out) hb); have n3_ := zK (Kd.R_lower ho0 (zN (by repeat (first | (with_reducible first | exact HB.out | apply zA | apply zB | apply zC) | exact HB.out)))); have n4_ := zK (zL (by repeat (first | (with_reducible first | exact HB.out | apply zA | apply zB | apply zC) | exact HB.out)) hb); clear HO_6; clear HO_10; clear HO1099; clear HB; have HO_6 := n0_; have HO_10 := n1_; have HO1099 := n2_; have HO1102 := n3_; have HB := n4_; clear n0_ n1_ n2_ n3_ n4_; (try clear hb); (try clear hb2); (try clear hk); (try clear hi); (try clear ho0); obtain ⟨Ao76, co76, eo76⟩ := Kd.R_slice HO1099.out; subst eo76; obtain ⟨Ao77, co77, eo77⟩ := Kd.R_slice HO1102.out; subst eo77) | ((with_reducible refine gate_callee (f := 48) rfl ?_); refine goesL_ (some 97) rfl rfl Try.func48 (by kernel_rfl) rfl #[.slice Ao76 t1097.length co76, .slice Ao77 t1100.length co77] rfl (by (try simp only [z6, z7, z8]); first | done | rfl | (simp only [z4, z5]; rfl)) ?_; (with_reducible refine (impl_RenameCode.calls kj41 _ _ t1097 _ _ t1100 t1103 t1104 _ ?side1 ?side2 ?side3 ?side4 A69.out).mono ?_); (case side1 => repeat (first | exact (Kd.R_reads' HO1099.out).2.2 | (with_reducible refine Kd.C_alloc ?_ _) | (with_reducible refine Kd.C_drewN ?_ _) | (with_reducible refine Kd.C_drew ?_))); (case side2 => exact (Kd.R_reads' HO1099.out).2.1); (case side3 => repeat (first | exact (Kd.R_reads' HO1102.out).2.2 | (with_reducible refine Kd.C_alloc ?_ _) | (with_reducible refine Kd.C_drewN ?_ _) | (with_reducible refine Kd.C_drew ?_))); (case side4 => exact (Kd.R_reads' HO1102.out).2.1); rintro e w78 ⟨v1105, rfl, ho0, hb⟩; refine ⟨_, rfl, ?_⟩; have n0_ := zK (Kd.R_elder' (by (with_reducible repeat (first | apply Kd.R_alloc | apply Kd.R_drewN | apply Kd.R_drew)); exact HO_6.out) (Kd.R_base ho0) hb); have n1_ := zK (Kd.R_elder' (by (with_reducible repeat (first | apply Kd.R_alloc | apply Kd.R_drewN | apply Kd.R_drew)); exact HO_10.out) (Kd.R_base ho0) hb); have n2_ := zK (Kd.R_elder' (by (with_reducible repeat (first | apply Kd.R_alloc | apply Kd.R_drewN | apply Kd.R_drew)); exact HO1099.out) (Kd.R_base ho0) hb); have n3_ := zK (Kd.R_below (by (with_reducible repeat (first | apply Kd.R_alloc | apply Kd.R_drewN | apply Kd.R_drew)); exact HO1102.out) hb); have n4_ := zK (Kd.R_lower (Kd.R_new' (Kd.R_new' (Kd.R_new' ho0 (Kd.R_lt (by (with_reducible repeat (first | apply Kd.R_alloc | apply Kd.R_drewN | apply Kd.R_drew)); exact HO_6.out))) (Kd.R_lt (by (with_reducible repeat (first | apply Kd.R_alloc | apply Kd.R_drewN | apply Kd.R_drew)); exact HO_10.out))) (Kd.R_lt (by (with_reducible repeat (first | apply Kd.R_alloc | apply Kd.R_drewN | apply Kd.R_drew)); exact HO1099.out))) (zN (by repeat (first | (with_reducible first | exact HB.out | apply zA | apply zB | apply zC) | exact HB.out)))); have n5_ := zK (zL (by repeat (first | (with_reducible first | exact HB.out | apply zA | apply zB | apply zC) | exact HB.out)) hb); clear HO_6; clear HO_10; clear HO1099; clear HO1102; clear HB; have HO_6 := n0_; have HO_10 := n1_; have HO1099 := n2_; have HO1102 := n3_; have HO1106 := n4_; have HB := n5_; clear n0_ n1_ n2_ n3_ n4_ n5_; (try clear hb); (try clear hb2); (try clear hk); (try clear hi); (try clear ho0)))
             (try simp only [Act.put, z1, z2, z3])
             go_cut [108] (fun v108 wc => ∃ (kq : Nat) (x108_69 : Bool), v108 = .bool x108_69 ∧ Aside0 (laws_FnExactRenameCode.j2 kq t1095 t1094 x108_69 = some r) ∧ Aside0 (kq ≤ kj41) ∧ Aside0 (Kd.R k67 67 wc w.heap.size (fun _ => True) (.slice Ao71 t1076.length co71) t1095) ∧ Aside0 (Below w.heap.size w wc))
             case first =>
              have H := HC70.out
              clear HC70
              replace H := Option.bind_eq_some_iff.mp H
              obtain ⟨t1107, A790, H⟩ := H
              replace H : (if t1107 = true then (laws_FnExactRenameCode.j2 kj41 t1095 t1094 (t1104 != t1067)) else (laws_FnExactRenameCode.j2 kj41 t1095 t1094 true)) = some r := H
              have A79 := zK A790
              clear A790
              by_cases c80 : t1107 = true
              ·subst c80
               rw [if_pos rfl] at H
               have H' := zK H
               clear H
               obtain ⟨Ao81, co81, eo81⟩ := Kd.R_slice HO1106.out
               subst eo81
               obtain ⟨Ao82, co82, eo82⟩ := Kd.R_slice HO_6.out
               subst eo82
               go_wp2_with (first | ((with_reducible refine gate_callee (f := 18) rfl ?_); refine goesL_ (some 102) rfl rfl Try.func18 (by kernel_rfl) rfl #[.slice Ao81 t1103.length co81, .slice Ao82 t1066.length co82] rfl (by (try simp only [z6, z7, z8]); first | done | rfl | (simp only [z4, z5]; rfl)) ?_; (with_reducible refine (laws_eqInstrS.calls kj41 _ _ t1103 _ _ t1066 true _ ?side1 ?side2 ?side3 ?side4 A79.out).mono ?_); (case side1 => repeat (first | exact (Kd.R_reads' HO1106.out).2.2 | (with_reducible refine Kd.C_alloc ?_ _) | (with_reducible refine Kd.C_drewN ?_ _) | (with_reducible refine Kd.C_drew ?_))); (case side2 => exact (Kd.R_reads' HO1106.out).2.1); (case side3 => repeat (first | exact (Kd.R_reads' HO_6.out).2.2 | (with_reducible refine Kd.C_alloc ?_ _) | (with_reducible refine Kd.C_drewN ?_ _) | (with_reducible refine Kd.C_drew ?_))); (case side4 => exact (Kd.R_reads' HO_6.out).2.1); rintro e w83 ⟨rfl, hb⟩; refine ⟨_, rfl, ?_⟩; have n0_ := zK (Kd.R_below (by (with_reducible repeat (first | apply Kd.R_alloc | apply Kd.R_drewN | apply Kd.R_drew)); exact HO_6.out) hb); have n1_ := zK (Kd.R_below (by (with_reducible repeat (first | apply Kd.R_alloc | apply Kd.R_drewN | apply Kd.R_drew)); exact HO_10.out) hb); have n2_ := zK (Kd.R_below (by (with_reducible repeat (first | apply Kd.R_alloc | apply Kd.R_drewN | apply Kd.R_drew)); exact HO1099.out) hb); have n3_ := zK (Kd.R_below (by (with_reducible repeat (first | apply Kd.R_alloc | apply Kd.R_drewN | apply Kd.R_drew)); exact HO1102.out) hb); have n4_ := zK (Kd.R_below (by (with_reducible repeat (first | apply Kd.R_alloc | apply Kd.R_drewN | apply Kd.R_drew)); exact HO1106.out) hb); have n5_ := zK (zL (by repeat (first | (with_reducible first | exact HB.out | apply zA | apply zB | apply zC) | exact HB.out)) hb); clear HO_6; clear HO_10; clear HO1099; clear HO1102; clear HO1106; clear HB; have HO_6 := n0_; have HO_10 := n1_; have HO1099 := n2_; have HO1102 := n3_; have HO1106 := n4_; have HB := n5_; clear n0_ n1_ n2_ n3_ n4_ n5_; (try clear hb); (try clear hb2); (try clear hk); (try clear hi)))
               go_meet
               case rel => exact ⟨_, ((t1104 != t1067)), (by first | rfl | (simp; done) | (simp [*]; done)), H', ⟨by have := HJ12.out; have := HJ41.out; first | omega | exact Nat.le_refl _⟩, ⟨by (with_reducible repeat (first | apply Kd.R_alloc | apply Kd.R_drewN | apply Kd.R_drew)); exact Kd.R_mono HO_10.out (fun _ hk => trivial)⟩, ⟨by repeat (first | (with_reducible first | exact HB.out | apply zA | apply zB | apply zC) | exact HB.out)⟩⟩
              ·replace c80 := Bool.eq_false_iff.mpr c80
               subst c80
               rw [if_neg (show ¬ (false = true) by decide)] at H
               have H' := zK H
               clear H
               obtain ⟨Ao84, co84, eo84⟩ := Kd.R_slice HO1106.out
               subst eo84
               obtain ⟨Ao85, co85, eo85⟩ := Kd.R_slice HO_6.out
               subst eo85
               go_wp2_with (first | ((with_reducible refine gate_callee (f := 18) rfl ?_); refine goesL_ (some 102) rfl rfl Try.func18 (by kernel_rfl) rfl #[.slice Ao84 t1103.length co84, .slice Ao85 t1066.length co85] rfl (by (try simp only [z6, z7, z8]); first | done | rfl | (simp only [z4, z5]; rfl)) ?_; (with_reducible refine (laws_eqInstrS.calls kj41 _ _ t1103 _ _ t1066 false _ ?side1 ?side2 ?side3 ?side4 A79.out).mono ?_); (case side1 => repeat (first | exact (Kd.R_reads' HO1106.out).2.2 | (with_reducible refine Kd.C_alloc ?_ _) | (with_reducible refine Kd.C_drewN ?_ _) | (with_reducible refine Kd.C_drew ?_))); (case side2 => exact (Kd.R_reads' HO1106.out).2.1); (case side3 => repeat (first | exact (Kd.R_reads' HO_6.out).2.2 | (with_reducible refine Kd.C_alloc ?_ _) | (with_reducible refine Kd.C_drewN ?_ _) | (with_reducible refine Kd.C_drew ?_))); (case side4 => exact (Kd.R_reads' HO_6.out).2.1); rintro e w86 ⟨rfl, hb⟩; refine ⟨_, rfl, ?_⟩; have n0_ := zK (Kd.R_below (by (with_reducible repeat (first | apply Kd.R_alloc | apply Kd.R_drewN | apply Kd.R_drew)); exact HO_6.out) hb); have n1_ := zK (Kd.R_below (by (with_reducible repeat (first | apply Kd.R_alloc | apply Kd.R_drewN | apply Kd.R_drew)); exact HO_10.out) hb); have n2_ := zK (Kd.R_below (by (with_reducible repeat (first | apply Kd.R_alloc | apply Kd.R_drewN | apply Kd.R_drew)); exact HO1099.out) hb); have n3_ := zK (Kd.R_below (by (with_reducible repeat (first | apply Kd.R_alloc | apply Kd.R_drewN | apply Kd.R_drew)); exact HO1102.out) hb); have n4_ := zK (Kd.R_below (by (with_reducible repeat (first | apply Kd.R_alloc | apply Kd.R_drewN | apply Kd.R_drew)); exact HO1106.out) hb); have n5_ := zK (zL (by repeat (first | (with_reducible first | exact HB.out | apply zA | apply zB | apply zC) | exact HB.out)) hb); clear HO_6; clear HO_10; clear HO1099; clear HO1102; clear HO1106; clear HB; have HO_6 := n0_; have HO_10 := n1_; have HO1099 := n2_; have HO1102 := n3_; have HO1106 := n4_; have HB := n5_; clear n0_ n1_ n2_ n3_ n4_ n5_; (try clear hb); (try clear hb2); (try clear hk); (try clear hi)))
               go_meet
               case rel => exact ⟨_, (true), (by first | rfl | (simp; done) | (simp [*]; done)), H', ⟨by have := HJ12.out; have := HJ41.out; first | omega | exact Nat.le_refl _⟩, ⟨by (with_reducible repeat (first | apply Kd.R_alloc | apply Kd.R_drewN | apply Kd.R_drew)); exact Kd.R_mono HO_10.out (fun _ hk => trivial)⟩, ⟨by repeat (first | (with_reducible first | exact HB.out | apply zA | apply zB | apply zC) | exact HB.out)⟩⟩
             case rest =>
              clear HC70
              try clear c1
              try clear c2
              try clear p2
              try clear c3
              try clear c3b0
              try clear c3b1
              try clear c4
              try clear c5
              try clear c5b0
              try clear c6
              try clear c8
              try clear c9
              try clear c14
              try clear c16
              try clear c18
              try clear c19
              try clear c20
              try clear c26
              try clear c33
              try clear c36
              try clear c37
              try clear c39
              try clear c47
              try clear c48
              try clear c50
              try clear c50b0
              try clear c52
              try clear c59
              try clear c62
              try clear c62b0
              try clear c66
              try clear c66b0
              try clear c66b1
              try clear c80
              try clear p2
              obtain ⟨kq, x108_69, rfl, HA, HJ69, HO_10, HB⟩ := hcut
              have hl10_69 := (Kd.R_reads' HO_10.out).1
              rw [hl10_69] at HO_10
              (try simp only [hl10_69])
              cases kq with
              | zero => exact absurd HA.out (by simp [laws_FnExactRenameCode.j2])
              | succ kj69 =>
               have H := HA.out
               clear HA
               simp only [laws_FnExactRenameCode.j2] at H
               by_cases c87 : x108_69 = true
               ·subst c87
                rw [if_pos rfl] at H
                exact absurd ((Option.some.inj H).trans hr) (by decide)
               ·replace c87 := Bool.eq_false_iff.mpr c87
                subst c87
                rw [if_neg (show ¬ (false = true) by decide)] at H
                replace H := Option.bind_eq_some_iff.mp H
                obtain ⟨t1108, A880, H⟩ := H
                replace H : (if t1108 < 0 then (some false) else (if t1108 = t1094 then (some true) else (some false))) = some r := H
                have A88 := zK A880
                clear A880
                by_cases c89 : t1108 < 0
                ·rw [if_pos c89] at H
                 have c89b0 : decide (t1108 < 0) = true := decide_eq_true c89
                 clear c89
                 exact absurd ((Option.some.inj H).trans hr) (by decide)
                ·rw [if_neg c89] at H
                 have c89b0 : decide (t1108 < 0) = false := decide_eq_false c89
                 clear c89
                 by_cases c91 : t1108 = t1094
                 ·rw [if_pos c91] at H
                  have c91b0 : (t1108 == t1094) = true := beq_iff_eq.mpr c91
                  have c91b1 : (t1108 != t1094) = false := bne_eq_false_iff_eq.mpr c91
                  clear c91
                  obtain rfl := Option.some.inj H
                  go_wp2_with (first | ((with_reducible refine gate_callee (f := 20) rfl ?_); refine goesL_ (some 111) rfl rfl Try.func20 (by kernel_rfl) rfl #[.slice Ao71 t1095.length co71, .int .i64 1] rfl (by (try simp only [z6, z7, z8]); first | done | rfl | (simp only [z4, z5]; rfl)) ?_; (with_reducible refine (laws_heldInstrS.calls kj69 _ _ t1095 1 t1108 _ ?side1 ?side2 A88.out).mono ?_); (case side1 => repeat (first | exact (Kd.R_reads' HO_10.out).2.2 | (with_reducible refine Kd.C_alloc ?_ _) | (with_reducible refine Kd.C_drewN ?_ _) | (with_reducible refine Kd.C_drew ?_))); (case side2 => exact (Kd.R_reads' HO_10.out).2.1); rintro e w92 ⟨rfl, hb⟩; refine ⟨_, rfl, ?_⟩; have n0_ := zK (Kd.R_below (by (with_reducible repeat (first | apply Kd.R_alloc | apply Kd.R_drewN | apply Kd.R_drew)); exact HO_10.out) hb); have n1_ := zK (zL (by repeat (first | (with_reducible first | exact HB.out | apply zA | apply zB | apply zC) | exact HB.out)) hb); clear HO_10; clear HB; have HO_10 := n0_; have HB := n1_; clear n0_ n1_; (try clear hb); (try clear hb2); (try clear hk); (try clear hi)))
                  go_ret
                  exact ⟨by first | rfl | (simp [errW_none, errW_some] <;> rfl) | (simp [*, errW_none, errW_some] <;> rfl), by repeat (first | (with_reducible first | exact HB.out | apply zA | apply zB | apply zC) | exact HB.out)⟩
                 ·rw [if_neg c91] at H
                  have c91b0 : (t1108 == t1094) = false := beq_eq_false_iff_ne.mpr c91
                  have c91b1 : (t1108 != t1094) = true := bne_iff_ne.mpr c91
                  exact absurd ((Option.some.inj H).trans hr) (by decide)
            ·rw [if_neg c66] at H
             have c66b0 : (t1096 == t1094) = false := beq_eq_false_iff_ne.mpr c66
             have c66b1 : (t1096 != t1094) = true := bne_iff_ne.mpr c66
             exact absurd ((Option.some.inj H).trans hr) (by decide)
       ·replace c39 := Bool.eq_false_iff.mpr c39
        subst c39
        rw [if_neg (show ¬ (false = true) by decide)] at H
        exact absurd ((Option.some.inj H).trans hr) (by decide)
      ·replace c36 := Bool.eq_false_iff.mpr c36
       subst c36
       rw [if_neg (show ¬ (false = true) by decide)] at H
       exact absurd ((Option.some.inj H).trans hr) (by decide)

end Go.Proofs.Ytecmlikhmkcdpaa.F
