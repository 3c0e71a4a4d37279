/- Contracts: spec_l1Cur_next, spec_l1Cur_pick, spec_l1Cur_of, spec_l1Cur_among, spec_l1In, spec_exOne, spec_exOps, spec_l1HasS, spec_exTwo, spec_exParts, spec_exUses, spec_exWord, spec_exNode, spec_l1Has. -/
import Derived.Test.YtlcplhcccgbmnaaDK
namespace Go.Proofs.Ytlcplhcccgbmnaa.D
open Go.RowKit Go.Proofs.YtlcplhcccgbmnaaW.PrintWords Go.Proofs.YtlcplhcccgbmnaaW.PrintLast Go.Proofs.YtlcplhcccgbmnaaW.PrintMore
attribute [local go_sem] max2_int min2_int max_two min_two max_three min_three max_four min_four   -- for this text's walks alone
set_option linter.unusedVariables false
set_option linter.unusedSimpArgs false

/-! ### spec_l1Cur_next: function 109 -/
def spec_l1Cur_next.f (s0_0 : List Int) (s0_1 : Int) (s0_2 : Int) : Option (Int × Int × Int) := if s0_1 < (s0_0.length : Int) then (if 0 ≤ s0_1 then (if (wrap64 (s0_1 + 1)) ≤ (s0_0.length : Int) then (some (wrap64 (rd s0_0 s0_1), wrap64 (s0_1 + 1), IntKind.u64.wrap ((IntKind.u64.wrap ((IntKind.u64.wrap (s0_2 * 6364136223846793005)) + (IntKind.u64.wrap (wrap64 (rd s0_0 s0_1))))) + 1442695040888963407))) else (some (wrap64 (Go.bits .and .u64 ((IntKind.u64.wrap ((IntKind.u64.wrap ((IntKind.u64.wrap (s0_2 * 6364136223846793005)) + (IntKind.u64.wrap (wrap64 (rd s0_0 s0_1))))) + 1442695040888963407)) / 1099511627776) 255), wrap64 (s0_1 + 1), IntKind.u64.wrap ((IntKind.u64.wrap ((IntKind.u64.wrap (s0_2 * 6364136223846793005)) + (IntKind.u64.wrap (wrap64 (rd s0_0 s0_1))))) + 1442695040888963407)))) else (none)) else (if (wrap64 (s0_1 + 1)) ≤ (s0_0.length : Int) then (some (0, wrap64 (s0_1 + 1), IntKind.u64.wrap ((IntKind.u64.wrap (IntKind.u64.wrap (s0_2 * 6364136223846793005))) + 1442695040888963407))) else (some (wrap64 (Go.bits .and .u64 ((IntKind.u64.wrap ((IntKind.u64.wrap (IntKind.u64.wrap (s0_2 * 6364136223846793005))) + 1442695040888963407)) / 1099511627776) 255), wrap64 (s0_1 + 1), IntKind.u64.wrap ((IntKind.u64.wrap (IntKind.u64.wrap (s0_2 * 6364136223846793005))) + 1442695040888963407))))
set_option maxHeartbeats 8000000 in
set_option maxRecDepth 100000 in
theorem spec_l1Cur_next.calls (g : Nat) (s0_0 : List Int) (s0_1 : Int) (s0_2 : Int) (r1 : Int) (r2 : Int) (r3 : Int) (w0 w : World) (hI : IsS59 w0 w g s0_0 s0_1 s0_2) (hB : Below w0.heap.size w0 w) (h : spec_l1Cur_next.f s0_0 s0_1 s0_2 = some (r1, r2, r3)) :
  Calls Try.prog 109 #[.pointer (some ⟨g, 0, none⟩)] w fun e w' => e = .returned (.int .i64 r1) ∧ IsS59 w0 w' g s0_0 r2 r3 ∧ Below w0.heap.size w0 w' ∧ KeepBut w w' g none := by
 have HI0 := zK hI
 have HK := zK (KeepBut.refl w g none)
 have HL := zK hB.size
 clear hI
 have HW0 := zK hB.size
 have HB := zK hB
 clear hB
 have H : (if s0_1 < (s0_0.length : Int) then (if 0 ≤ s0_1 then (if (wrap64 (s0_1 + 1)) ≤ (s0_0.length : Int) then (some (wrap64 (rd s0_0 s0_1), wrap64 (s0_1 + 1), IntKind.u64.wrap ((IntKind.u64.wrap ((IntKind.u64.wrap (s0_2 * 6364136223846793005)) + (IntKind.u64.wrap (wrap64 (rd s0_0 s0_1))))) + 1442695040888963407))) else (some (wrap64 (Go.bits .and .u64 ((IntKind.u64.wrap ((IntKind.u64.wrap ((IntKind.u64.wrap (s0_2 * 6364136223846793005)) + (IntKind.u64.wrap (wrap64 (rd s0_0 s0_1))))) + 1442695040888963407)) / 1099511627776) 255), wrap64 (s0_1 + 1), IntKind.u64.wrap ((IntKind.u64.wrap ((IntKind.u64.wrap (s0_2 * 6364136223846793005)) + (IntKind.u64.wrap (wrap64 (rd s0_0 s0_1))))) + 1442695040888963407)))) else (none)) else (if (wrap64 (s0_1 + 1)) ≤ (s0_0.length : Int) then (some (0, wrap64 (s0_1 + 1), IntKind.u64.wrap ((IntKind.u64.wrap (IntKind.u64.wrap (s0_2 * 6364136223846793005))) + 1442695040888963407))) else (some (wrap64 (Go.bits .and .u64 ((IntKind.u64.wrap ((IntKind.u64.wrap (IntKind.u64.wrap (s0_2 * 6364136223846793005))) + 1442695040888963407)) / 1099511627776) 255), wrap64 (s0_1 + 1), IntKind.u64.wrap ((IntKind.u64.wrap (IntKind.u64.wrap (s0_2 * 6364136223846793005))) + 1442695040888963407))))) = some (r1, r2, r3) := h
 clear h
 by_cases c2 : s0_1 < (s0_0.length : Int)
 ·rw [if_pos c2] at H
  have c2b0 : decide (s0_1 < (s0_0.length : Int)) = true := decide_eq_true c2
  clear c2
  by_cases c3 : 0 ≤ s0_1
  ·rw [if_pos c3] at H
   have c3b0 : decide (0 ≤ s0_1) = true := decide_eq_true c3
   clear c3
   by_cases c4 : (wrap64 (s0_1 + 1)) ≤ (s0_0.length : Int)
   ·rw [if_pos c4] at H
    have c4b0 : decide ((wrap64 (s0_1 + 1)) ≤ (s0_0.length : Int)) = true := decide_eq_true c4
    clear c4
    simp only [Option.some.injEq, Prod.mk.injEq] at H
    obtain ⟨rfl, rfl, rfl⟩ := H
    obtain ⟨ASz5_0, cSz5_0, HGz5, hgz5, HSz5_0⟩ := HI0.out
    have hcz5_0 := cellS59_0 HGz5
    have hcz5_1 := cellS59_1 HGz5
    have hcz5_2 := cellS59_2 HGz5
    have hfz5_1 := zH HGz5 1
    have hfz5_2 := zH HGz5 2
    clear HGz5 hgz5
    have p197 : 0 ≤ (s0_1 : Int) := zo
    have q197 : s0_1 < (s0_0.length : Int) := zo
    obtain ⟨ad197, e197, hx197_0⟩ := Kd.at_int HSz5_0 s0_1 p197 q197
    cases e197
    replace hx197_0 := pw_cell_below HB.out hx197_0
    replace p197 := eq_true p197
    replace q197 := eq_true q197
    go_enter Try.func109, Try.ntmps109
    go_wp2
    repeat (go_quiet (fail); try go_wp2)
    go_ret
    exact ⟨yd, yf, yh, yc⟩
   ·rw [if_neg c4] at H
    have c4b0 : decide ((wrap64 (s0_1 + 1)) ≤ (s0_0.length : Int)) = false := decide_eq_false c4
    clear c4
    simp only [Option.some.injEq, Prod.mk.injEq] at H
    obtain ⟨rfl, rfl, rfl⟩ := H
    obtain ⟨ASz6_0, cSz6_0, HGz6, hgz6, HSz6_0⟩ := HI0.out
    have hcz6_0 := cellS59_0 HGz6
    have hcz6_1 := cellS59_1 HGz6
    have hcz6_2 := cellS59_2 HGz6
    have hfz6_1 := zH HGz6 1
    have hfz6_2 := zH HGz6 2
    clear HGz6 hgz6
    have p197 : 0 ≤ (s0_1 : Int) := zo
    have q197 : s0_1 < (s0_0.length : Int) := zo
    obtain ⟨ad197, e197, hx197_0⟩ := Kd.at_int HSz6_0 s0_1 p197 q197
    cases e197
    replace hx197_0 := pw_cell_below HB.out hx197_0
    replace p197 := eq_true p197
    replace q197 := eq_true q197
    go_enter Try.func109, Try.ntmps109
    go_wp2
    repeat (go_quiet (fail); try go_wp2)
    go_ret
    exact ⟨yd, yf, yh, yc⟩
  ·rw [if_neg c3] at H
   exact absurd H ye1
 ·rw [if_neg c2] at H
  have c2b0 : decide (s0_1 < (s0_0.length : Int)) = false := decide_eq_false c2
  clear c2
  by_cases c7 : (wrap64 (s0_1 + 1)) ≤ (s0_0.length : Int)
  ·rw [if_pos c7] at H
   have c7b0 : decide ((wrap64 (s0_1 + 1)) ≤ (s0_0.length : Int)) = true := decide_eq_true c7
   clear c7
   simp only [Option.some.injEq, Prod.mk.injEq] at H
   obtain ⟨rfl, rfl, rfl⟩ := H
   obtain ⟨ASz8_0, cSz8_0, HGz8, hgz8, HSz8_0⟩ := HI0.out
   have hcz8_0 := cellS59_0 HGz8
   have hcz8_1 := cellS59_1 HGz8
   have hcz8_2 := cellS59_2 HGz8
   have hfz8_1 := zH HGz8 1
   have hfz8_2 := zH HGz8 2
   clear HGz8 hgz8
   go_enter Try.func109, Try.ntmps109
   go_wp2
   repeat (go_quiet (fail); try go_wp2)
   go_ret
   exact ⟨yd, yf, yh, yc⟩
  ·rw [if_neg c7] at H
   have c7b0 : decide ((wrap64 (s0_1 + 1)) ≤ (s0_0.length : Int)) = false := decide_eq_false c7
   clear c7
   simp only [Option.some.injEq, Prod.mk.injEq] at H
   obtain ⟨rfl, rfl, rfl⟩ := H
   obtain ⟨ASz9_0, cSz9_0, HGz9, hgz9, HSz9_0⟩ := HI0.out
   have hcz9_0 := cellS59_0 HGz9
   have hcz9_1 := cellS59_1 HGz9
   have hcz9_2 := cellS59_2 HGz9
   have hfz9_1 := zH HGz9 1
   have hfz9_2 := zH HGz9 2
   clear HGz9 hgz9
   go_enter Try.func109, Try.ntmps109
   go_wp2
   repeat (go_quiet (fail); try go_wp2)
   go_ret
   exact ⟨yd, yf, yh, yc⟩

/-! ### spec_l1Cur_pick: function 55 -/
def spec_l1Cur_pick.f (s0_0 : List Int) (s0_1 : Int) (s0_2 : Int) (a1 : Int) : Option (Int × Int × Int) := if a1 ≤ 1 then (some (0, s0_1, s0_2)) else ((spec_l1Cur_next.f s0_0 s0_1 s0_2).bind fun bt198 => (if a1 > 200 then ((spec_l1Cur_next.f s0_0 bt198.2.1 bt198.2.2).bind fun bt201 => (if a1 = 0 then (none) else (some (Int.tmod (wrap64 ((wrap64 (bt198.1 * 256)) + bt201.1)) a1, bt201.2.1, bt201.2.2)))) else (if a1 = 0 then (none) else (some (Int.tmod bt198.1 a1, bt198.2.1, bt198.2.2)))))
set_option maxHeartbeats 8000000 in
set_option maxRecDepth 100000 in
theorem spec_l1Cur_pick.calls (g : Nat) (s0_0 : List Int) (s0_1 : Int) (s0_2 : Int) (a1 : Int) (r1 : Int) (r2 : Int) (r3 : Int) (w0 w : World) (hI : IsS59 w0 w g s0_0 s0_1 s0_2) (hB : Below w0.heap.size w0 w) (h : spec_l1Cur_pick.f s0_0 s0_1 s0_2 a1 = some (r1, r2, r3)) :
  Calls Try.prog 55 #[.pointer (some ⟨g, 0, none⟩), .int .i64 a1] w fun e w' => e = .returned (.int .i64 r1) ∧ IsS59 w0 w' g s0_0 r2 r3 ∧ Below w0.heap.size w0 w' ∧ KeepBut w w' g none := by
 have HI0 := zK hI
 have HK := zK (KeepBut.refl w g none)
 have HL := zK hB.size
 clear hI
 have HW0 := zK hB.size
 have HB := zK hB
 clear hB
 have H : (if a1 ≤ 1 then (some (0, s0_1, s0_2)) else ((spec_l1Cur_next.f s0_0 s0_1 s0_2).bind fun bt198 => (if a1 > 200 then ((spec_l1Cur_next.f s0_0 bt198.2.1 bt198.2.2).bind fun bt201 => (if a1 = 0 then (none) else (some (Int.tmod (wrap64 ((wrap64 (bt198.1 * 256)) + bt201.1)) a1, bt201.2.1, bt201.2.2)))) else (if a1 = 0 then (none) else (some (Int.tmod bt198.1 a1, bt198.2.1, bt198.2.2)))))) = some (r1, r2, r3) := h
 clear h
 by_cases c3 : a1 ≤ 1
 ·rw [if_pos c3] at H
  have c3b0 : decide (a1 ≤ 1) = true := decide_eq_true c3
  clear c3
  simp only [Option.some.injEq, Prod.mk.injEq] at H
  obtain ⟨rfl, rfl, rfl⟩ := H
  go_enter Try.func55, Try.ntmps55
  go_wp2
  go_ret
  exact ⟨yd, yf, yh, yc⟩
 ·rw [if_neg c3] at H
  have c3b0 : decide (a1 ≤ 1) = false := decide_eq_false c3
  clear c3
  replace H := Option.bind_eq_some_iff.mp H
  obtain ⟨⟨t198, t199, t200⟩, A40, H⟩ := H
  replace H : (if a1 > 200 then ((spec_l1Cur_next.f s0_0 t199 t200).bind fun bt201 => (if a1 = 0 then (none) else (some (Int.tmod (wrap64 ((wrap64 (t198 * 256)) + bt201.1)) a1, bt201.2.1, bt201.2.2)))) else (if a1 = 0 then (none) else (some (Int.tmod t198 a1, t199, t200)))) = some (r1, r2, r3) := H
  have A4 := zK A40
  clear A40
  by_cases c5 : a1 > 200
  ·rw [if_pos c5] at H
   have c5b0 : decide (200 < a1) = true := decide_eq_true c5
   clear c5
   replace H := Option.bind_eq_some_iff.mp H
   obtain ⟨⟨t201, t202, t203⟩, A60, H⟩ := H
   replace H : (if a1 = 0 then (none) else (some (Int.tmod (wrap64 ((wrap64 (t198 * 256)) + t201)) a1, t202, t203))) = some (r1, r2, r3) := H
   have A6 := zK A60
   clear A60
   by_cases c7 : a1 = 0
   ·rw [if_pos c7] at H
    exact absurd H ye1
   ·rw [if_neg c7] at H
    have c7b0 : (a1 == 0) = false := beq_eq_false_iff_ne.mpr c7
    have c7b1 : (a1 != 0) = true := bne_iff_ne.mpr c7
    simp only [Option.some.injEq, Prod.mk.injEq] at H
    obtain ⟨rfl, rfl, rfl⟩ := H
    go_enter Try.func55, Try.ntmps55
    go_wp2_with (first | ((with_reducible refine gate_callee (f := 109) rfl ?_); refine goesL_ (some 9) rfl rfl Try.func109 yi rfl #[.pointer (some ⟨g, 0, none⟩)] rfl yb ?_; (with_reducible refine (spec_l1Cur_next.calls g s0_0 s0_1 s0_2 t198 t199 t200 w0 _ ?side1 ?side2 A4.out).mono ?_); (case side1 => exact xxk); (case side2 => exact xxl); rintro e w8 ⟨rfl, hi, hb, hk⟩; refine ⟨_, rfl, ?_⟩; have n0_ := zK (KeepBut.trans yc hk (.inl rfl)); have n1_ := zK (hb); have n2_ := zK (hi); clear HK; clear HB; clear HI0; have HK := n0_; have HB := n1_; have HI0 := n2_; clear n0_ n1_ n2_; (try clear hb); (try clear hb2); (try clear hk); (try clear hi)) | ((with_reducible refine gate_callee (f := 109) rfl ?_); refine goesL_ (some 15) rfl rfl Try.func109 yi rfl #[.pointer (some ⟨g, 0, none⟩)] rfl yb ?_; (with_reducible refine (spec_l1Cur_next.calls g s0_0 t199 t200 t201 t202 t203 w0 _ ?side1 ?side2 A6.out).mono ?_); (case side1 => exact xxk); (case side2 => exact xxl); rintro e w9 ⟨rfl, hi, hb, hk⟩; refine ⟨_, rfl, ?_⟩; have n0_ := zK (KeepBut.trans yc hk (.inl rfl)); have n1_ := zK (hb); have n2_ := zK (hi); clear HK; clear HB; clear HI0; have HK := n0_; have HB := n1_; have HI0 := n2_; clear n0_ n1_ n2_; (try clear hb); (try clear hb2); (try clear hk); (try clear hi)))
    go_ret
    exact ⟨yd, yf, yh, yc⟩
  ·rw [if_neg c5] at H
   have c5b0 : decide (200 < a1) = false := decide_eq_false c5
   clear c5
   by_cases c10 : a1 = 0
   ·rw [if_pos c10] at H
    exact absurd H ye1
   ·rw [if_neg c10] at H
    have c10b0 : (a1 == 0) = false := beq_eq_false_iff_ne.mpr c10
    have c10b1 : (a1 != 0) = true := bne_iff_ne.mpr c10
    simp only [Option.some.injEq, Prod.mk.injEq] at H
    obtain ⟨rfl, rfl, rfl⟩ := H
    go_enter Try.func55, Try.ntmps55
    go_wp2_with (first | ((with_reducible refine gate_callee (f := 109) rfl ?_); refine goesL_ (some 9) rfl rfl Try.func109 yi rfl #[.pointer (some ⟨g, 0, none⟩)] rfl yb ?_; (with_reducible refine (spec_l1Cur_next.calls g s0_0 s0_1 s0_2 t198 t199 t200 w0 _ ?side1 ?side2 A4.out).mono ?_); (case side1 => exact xxk); (case side2 => exact xxl); rintro e w11 ⟨rfl, hi, hb, hk⟩; refine ⟨_, rfl, ?_⟩; have n0_ := zK (KeepBut.trans yc hk (.inl rfl)); have n1_ := zK (hb); have n2_ := zK (hi); clear HK; clear HB; clear HI0; have HK := n0_; have HB := n1_; have HI0 := n2_; clear n0_ n1_ n2_; (try clear hb); (try clear hb2); (try clear hk); (try clear hi)))
    go_ret
    exact ⟨yd, yf, yh, yc⟩

/-! ### spec_l1Cur_of: function 78 -/
def spec_l1Cur_of.f (s0_0 : List Int) (s0_1 : Int) (s0_2 : Int) (l1 : List ByteArray) : Option (ByteArray × Int × Int) := (spec_l1Cur_pick.f s0_0 s0_1 s0_2 (l1.length : Int)).bind fun bt204 => (if 0 ≤ bt204.1 then (if bt204.1 < (l1.length : Int) then (some (rdOf ByteArray.empty l1 bt204.1, bt204.2.1, bt204.2.2)) else (none)) else (none))
set_option maxHeartbeats 8000000 in
set_option maxRecDepth 100000 in
theorem spec_l1Cur_of.calls (g : Nat) (s0_0 : List Int) (s0_1 : Int) (s0_2 : Int) (A1 : Option Addr) (c1 : Nat) (l1 : List ByteArray) (r1 : ByteArray) (r2 : Int) (r3 : Int) (w0 w : World) (hI : IsS59 w0 w g s0_0 s0_1 s0_2) (hB : Below w0.heap.size w0 w) (hr1 : Kd.C Kd.string w A1 l1.length l1) (hc1 : l1.length ≤ c1) (hf1 : ∀ ad, A1 = some ad → 0 < l1.length → ad.block ≠ g) (h : spec_l1Cur_of.f s0_0 s0_1 s0_2 l1 = some (r1, r2, r3)) :
  Calls Try.prog 78 #[.pointer (some ⟨g, 0, none⟩), .slice A1 l1.length c1] w fun e w' => e = .returned (.string r1) ∧ IsS59 w0 w' g s0_0 r2 r3 ∧ Below w0.heap.size w0 w' ∧ KeepBut w w' g none := by
 have HR1 := zK hr1
 have HC1 := zK hc1
 clear hr1 hc1
 have HI0 := zK hI
 have HK := zK (KeepBut.refl w g none)
 have HL := zK hB.size
 clear hI
 have HW0 := zK hB.size
 have HB := zK hB
 clear hB
 have H : ((spec_l1Cur_pick.f s0_0 s0_1 s0_2 (l1.length : Int)).bind fun bt204 => (if 0 ≤ bt204.1 then (if bt204.1 < (l1.length : Int) then (some (rdOf ByteArray.empty l1 bt204.1, bt204.2.1, bt204.2.2)) else (none)) else (none))) = some (r1, r2, r3) := h
 clear h
 replace H := Option.bind_eq_some_iff.mp H
 obtain ⟨⟨t204, t205, t206⟩, A30, H⟩ := H
 replace H : (if 0 ≤ t204 then (if t204 < (l1.length : Int) then (some (rdOf ByteArray.empty l1 t204, t205, t206)) else (none)) else (none)) = some (r1, r2, r3) := H
 have A3 := zK A30
 clear A30
 by_cases c4 : 0 ≤ t204
 ·rw [if_pos c4] at H
  have c4b0 : decide (0 ≤ t204) = true := decide_eq_true c4
  clear c4
  by_cases c5 : t204 < (l1.length : Int)
  ·rw [if_pos c5] at H
   have c5b0 : decide (t204 < (l1.length : Int)) = true := decide_eq_true c5
   clear c5
   simp only [Option.some.injEq, Prod.mk.injEq] at H
   obtain ⟨rfl, rfl, rfl⟩ := H
   go_enter Try.func78, Try.ntmps78
   go_wp2_with (first | ((with_reducible refine gate_callee (f := 55) rfl ?_); refine goesL_ (some 9) rfl rfl Try.func55 yi rfl #[.pointer (some ⟨g, 0, none⟩), .int .i64 (l1.length : Int)] rfl yb ?_; (with_reducible refine (spec_l1Cur_pick.calls g s0_0 s0_1 s0_2 (l1.length : Int) t204 t205 t206 w0 _ ?side1 ?side2 A3.out).mono ?_); (case side1 => exact xxk); (case side2 => exact xxl); rintro e w6 ⟨rfl, hi, hb, hk⟩; refine ⟨_, rfl, ?_⟩; have n0_ := zK (KeepBut.trans yc hk (.inl rfl)); have n1_ := zK (hb); have n2_ := zK (hi); clear HK; clear HB; clear HI0; have HK := n0_; have HB := n1_; have HI0 := n2_; clear n0_ n1_ n2_; (try clear hb); (try clear hb2); (try clear hk); (try clear hi); have p207 : 0 ≤ (t204 : Int) := zo; have q207 : t204 < (l1.length : Int) := zo; obtain ⟨ad207, e207, hx207_0⟩ := Kd.at_string HR1.out t204 p207 q207; cases e207; replace hx207_0 := keep_cell HK.out hx207_0 (by first | (rw [add_block]; exact hf1 _ rfl (by omega)) | exact hf1 _ rfl (by omega) | exact hf1 ad207 rfl (by omega)); replace p207 := eq_true p207; replace q207 := eq_true q207))
   go_ret
   exact ⟨yd, yf, yh, yc⟩
  ·rw [if_neg c5] at H
   exact absurd H ye1
 ·rw [if_neg c4] at H
  exact absurd H ye1

/-! ### spec_l1Cur_among: function 88 -/
def spec_l1Cur_among.f (s0_0 : List Int) (s0_1 : Int) (s0_2 : Int) (l1 : List Int) : Option (Int × Int × Int) := (spec_l1Cur_pick.f s0_0 s0_1 s0_2 (l1.length : Int)).bind fun bt208 => (if 0 ≤ bt208.1 then (if bt208.1 < (l1.length : Int) then (some (rd l1 bt208.1, bt208.2.1, bt208.2.2)) else (none)) else (none))
set_option maxHeartbeats 8000000 in
set_option maxRecDepth 100000 in
theorem spec_l1Cur_among.calls (g : Nat) (s0_0 : List Int) (s0_1 : Int) (s0_2 : Int) (A1 : Option Addr) (c1 : Nat) (l1 : List Int) (r1 : Int) (r2 : Int) (r3 : Int) (w0 w : World) (hI : IsS59 w0 w g s0_0 s0_1 s0_2) (hB : Below w0.heap.size w0 w) (hr1 : Kd.C (Kd.int .i64) w A1 l1.length l1) (hc1 : l1.length ≤ c1) (hf1 : ∀ ad, A1 = some ad → 0 < l1.length → ad.block ≠ g) (h : spec_l1Cur_among.f s0_0 s0_1 s0_2 l1 = some (r1, r2, r3)) :
  Calls Try.prog 88 #[.pointer (some ⟨g, 0, none⟩), .slice A1 l1.length c1] w fun e w' => e = .returned (.int .i64 r1) ∧ IsS59 w0 w' g s0_0 r2 r3 ∧ Below w0.heap.size w0 w' ∧ KeepBut w w' g none := by
 have HR1 := zK hr1
 have HC1 := zK hc1
 clear hr1 hc1
 have HI0 := zK hI
 have HK := zK (KeepBut.refl w g none)
 have HL := zK hB.size
 clear hI
 have HW0 := zK hB.size
 have HB := zK hB
 clear hB
 have H : ((spec_l1Cur_pick.f s0_0 s0_1 s0_2 (l1.length : Int)).bind fun bt208 => (if 0 ≤ bt208.1 then (if bt208.1 < (l1.length : Int) then (some (rd l1 bt208.1, bt208.2.1, bt208.2.2)) else (none)) else (none))) = some (r1, r2, r3) := h
 clear h
 replace H := Option.bind_eq_some_iff.mp H
 obtain ⟨⟨t208, t209, t210⟩, A30, H⟩ := H
 replace H : (if 0 ≤ t208 then (if t208 < (l1.length : Int) then (some (rd l1 t208, t209, t210)) else (none)) else (none)) = some (r1, r2, r3) := H
 have A3 := zK A30
 clear A30
 by_cases c4 : 0 ≤ t208
 ·rw [if_pos c4] at H
  have c4b0 : decide (0 ≤ t208) = true := decide_eq_true c4
  clear c4
  by_cases c5 : t208 < (l1.length : Int)
  ·rw [if_pos c5] at H
   have c5b0 : decide (t208 < (l1.length : Int)) = true := decide_eq_true c5
   clear c5
   simp only [Option.some.injEq, Prod.mk.injEq] at H
   obtain ⟨rfl, rfl, rfl⟩ := H
   go_enter Try.func88, Try.ntmps88
   go_wp2_with (first | ((with_reducible refine gate_callee (f := 55) rfl ?_); refine goesL_ (some 9) rfl rfl Try.func55 yi rfl #[.pointer (some ⟨g, 0, none⟩), .int .i64 (l1.length : Int)] rfl yb ?_; (with_reducible refine (spec_l1Cur_pick.calls g s0_0 s0_1 s0_2 (l1.length : Int) t208 t209 t210 w0 _ ?side1 ?side2 A3.out).mono ?_); (case side1 => exact xxk); (case side2 => exact xxl); rintro e w6 ⟨rfl, hi, hb, hk⟩; refine ⟨_, rfl, ?_⟩; have n0_ := zK (KeepBut.trans yc hk (.inl rfl)); have n1_ := zK (hb); have n2_ := zK (hi); clear HK; clear HB; clear HI0; have HK := n0_; have HB := n1_; have HI0 := n2_; clear n0_ n1_ n2_; (try clear hb); (try clear hb2); (try clear hk); (try clear hi); have p211 : 0 ≤ (t208 : Int) := zo; have q211 : t208 < (l1.length : Int) := zo; obtain ⟨ad211, e211, hx211_0⟩ := Kd.at_int HR1.out t208 p211 q211; cases e211; replace hx211_0 := keep_cell HK.out hx211_0 (by first | (rw [add_block]; exact hf1 _ rfl (by omega)) | exact hf1 _ rfl (by omega) | exact hf1 ad211 rfl (by omega)); replace p211 := eq_true p211; replace q211 := eq_true q211))
   go_ret
   exact ⟨yd, yf, yh, yc⟩
  ·rw [if_neg c5] at H
   exact absurd H ye1
 ·rw [if_neg c4] at H
  exact absurd H ye1

/-! ### spec_l1In: function 61 -/
def spec_l1In.f (a0 : Int) (a1 : Int) (a2 : Int) : Option (Bool) := if a0 ≥ a1 then (some (decide (a0 ≤ a2))) else (some false)
set_option maxHeartbeats 8000000 in
set_option maxRecDepth 100000 in
theorem spec_l1In.calls (a0 : Int) (a1 : Int) (a2 : Int) (r : Bool) (w : World) (h : spec_l1In.f a0 a1 a2 = some r) :
  Calls Try.prog 61 #[.int .i64 a0, .int .i64 a1, .int .i64 a2] w fun e w' => e = .returned (.bool r) ∧ Drawn0 w w' := by
 have H : (if a0 ≥ a1 then (some (decide (a0 ≤ a2))) else (some false)) = some r := h
 clear h
 by_cases c4 : a0 ≥ a1
 ·rw [if_pos c4] at H
  have c4b0 : decide (a1 ≤ a0) = true := decide_eq_true c4
  clear c4
  obtain rfl := Option.some.inj H
  go_enter Try.func61, Try.ntmps61
  go_wp2
  go_ret
  exact ⟨ye, yg⟩
 ·rw [if_neg c4] at H
  have c4b0 : decide (a1 ≤ a0) = false := decide_eq_false c4
  clear c4
  obtain rfl := Option.some.inj H
  go_enter Try.func61, Try.ntmps61
  go_wp2
  go_ret
  exact ⟨ye, yg⟩

/-! ### spec_exOne: function 80 -/
def spec_exOne.f (a0 : ByteArray) : Option (Bool) := if a0.toList = ([110, 111, 116] : List UInt8) then (some true) else (some (a0.toList == ([110, 101, 103] : List UInt8)))
set_option maxHeartbeats 8000000 in
set_option maxRecDepth 100000 in
theorem spec_exOne.calls (a0 : ByteArray) (r : Bool) (w : World) (h : spec_exOne.f a0 = some r) :
  Calls Try.prog 80 #[.string a0] w fun e w' => e = .returned (.bool r) ∧ Drawn0 w w' := by
 have H : (if a0.toList = ([110, 111, 116] : List UInt8) then (some true) else (some (a0.toList == ([110, 101, 103] : List UInt8)))) = some r := h
 clear h
 by_cases c2 : a0.toList = ([110, 111, 116] : List UInt8)
 ·rw [if_pos c2] at H
  have c2b0 : (a0.toList == ([110, 111, 116] : List UInt8)) = true := beq_iff_eq.mpr c2
  have c2b1 : (a0.toList != ([110, 111, 116] : List UInt8)) = false := bne_eq_false_iff_eq.mpr c2
  clear c2
  obtain rfl := Option.some.inj H
  go_enter Try.func80, Try.ntmps80
  go_wp2
  go_ret
  exact ⟨ye, yg⟩
 ·rw [if_neg c2] at H
  have c2b0 : (a0.toList == ([110, 111, 116] : List UInt8)) = false := beq_eq_false_iff_ne.mpr c2
  have c2b1 : (a0.toList != ([110, 111, 116] : List UInt8)) = true := bne_iff_ne.mpr c2
  obtain rfl := Option.some.inj H
  go_enter Try.func80, Try.ntmps80
  go_wp2
  go_ret
  exact ⟨ye, yg⟩

/-! ### spec_exOps: function 79 -/
def spec_exOps.f  : Option (List ByteArray) := some (([(⟨#[97, 100, 100]⟩ : ByteArray), (⟨#[115, 117, 98]⟩ : ByteArray), (⟨#[109, 117, 108]⟩ : ByteArray), (⟨#[97, 110, 100]⟩ : ByteArray), (⟨#[111, 114]⟩ : ByteArray), (⟨#[120, 111, 114]⟩ : ByteArray), (⟨#[115, 104, 108]⟩ : ByteArray), (⟨#[115, 104, 114]⟩ : ByteArray), (⟨#[108, 101, 115, 115]⟩ : ByteArray), (⟨#[101, 113]⟩ : ByteArray)] : List ByteArray))
set_option maxHeartbeats 8000000 in
set_option maxRecDepth 100000 in
theorem spec_exOps.calls  (r : List ByteArray) (w : World) (h : spec_exOps.f  = some r) :
  Calls Try.prog 79 #[] w fun e w' => ∃ v0_ : Value, e = .returned (v0_) ∧ Kd.R Kd.string 9 w' w.heap.size (fun _ => True) v0_ r ∧ Below w.heap.size w w' := by
 have HB := zK (Below.refl w.heap.size w)
 have H : (some (([(⟨#[97, 100, 100]⟩ : ByteArray), (⟨#[115, 117, 98]⟩ : ByteArray), (⟨#[109, 117, 108]⟩ : ByteArray), (⟨#[97, 110, 100]⟩ : ByteArray), (⟨#[111, 114]⟩ : ByteArray), (⟨#[120, 111, 114]⟩ : ByteArray), (⟨#[115, 104, 108]⟩ : ByteArray), (⟨#[115, 104, 114]⟩ : ByteArray), (⟨#[108, 101, 115, 115]⟩ : ByteArray), (⟨#[101, 113]⟩ : ByteArray)] : List ByteArray))) = some r := h
 clear h
 obtain ⟨y212, hy212⟩ : ∃ y_ : List ByteArray, y_ = (([(⟨#[97, 100, 100]⟩ : ByteArray), (⟨#[115, 117, 98]⟩ : ByteArray), (⟨#[109, 117, 108]⟩ : ByteArray), (⟨#[97, 110, 100]⟩ : ByteArray), (⟨#[111, 114]⟩ : ByteArray), (⟨#[120, 111, 114]⟩ : ByteArray), (⟨#[115, 104, 108]⟩ : ByteArray), (⟨#[115, 104, 114]⟩ : ByteArray), (⟨#[108, 101, 115, 115]⟩ : ByteArray), (⟨#[101, 113]⟩ : ByteArray)] : List ByteArray)) := ⟨_, rfl⟩
 replace H : (some y212) = some r := by have hy_ := hy212; exact xH
 have Ny212 := zK hy212
 clear hy212
 obtain rfl := Option.some.inj H
 go_enter Try.func79, Try.ntmps79
 go_wp2_with (first | ((with_reducible refine gate_dst (N := 1) rfl ?_); refine Kd.R_lit Kd.string _ 9 ?hg (N := 1) ?hd (xs := ([(⟨#[97, 100, 100]⟩ : ByteArray), (⟨#[115, 117, 98]⟩ : ByteArray), (⟨#[109, 117, 108]⟩ : ByteArray), (⟨#[97, 110, 100]⟩ : ByteArray), (⟨#[111, 114]⟩ : ByteArray), (⟨#[120, 111, 114]⟩ : ByteArray), (⟨#[115, 104, 108]⟩ : ByteArray), (⟨#[115, 104, 114]⟩ : ByteArray), (⟨#[108, 101, 115, 115]⟩ : ByteArray), (⟨#[101, 113]⟩ : ByteArray)] : List ByteArray)) (inner := [.string (⟨#[97, 100, 100]⟩ : ByteArray), .string (⟨#[115, 117, 98]⟩ : ByteArray), .string (⟨#[109, 117, 108]⟩ : ByteArray), .string (⟨#[97, 110, 100]⟩ : ByteArray), .string (⟨#[111, 114]⟩ : ByteArray), .string (⟨#[120, 111, 114]⟩ : ByteArray), .string (⟨#[115, 104, 108]⟩ : ByteArray), .string (⟨#[115, 104, 114]⟩ : ByteArray), .string (⟨#[108, 101, 115, 115]⟩ : ByteArray), .string (⟨#[101, 113]⟩ : ByteArray)]) (ok := fun _ => True) (okp := fun _ => True) ?hr ?hp (fun _ hk => hk) trivial (Below.refl _ _) (Nat.le_refl _) ye1 ?_; (case hd | hg => rfl); (case hr => exact xxa); (case hp => exact xxe); intro v213 w1 ho2 hb hg_ hnew_; clear hg_ hnew_; (first | rw [← Ny212.out] at ho2 | (simp only [Int.reduceToNat] at ho2; rw [← Ny212.out] at ho2)); have n0_ := zK (Kd.R_lower ho2 (zN ya)); have n1_ := zK (zL ya hb); clear HB; have HO214 := n0_; have HB := n1_; clear n0_ n1_; clear hb ho2))
 go_ret
 exact ⟨_, yd, yR HO214.out, ya⟩

/-! ### spec_l1HasS: function 122 -/
def spec_l1HasS.l0 : Nat → ByteArray → List ByteArray → Int → Int → Option (Bool)
 | 0, _, _, _, _ => none
 | k + 1, x1, x7, x8, x9 => if x9 < x8 then (if 0 ≤ x9 then (if x9 < (x7.length : Int) then (if (rdOf ByteArray.empty x7 x9).toList = x1.toList then (some true) else (spec_l1HasS.l0 k x1 x7 x8 (wrap64 (x9 + 1)))) else (none)) else (none)) else (some false)
def spec_l1HasS.f (k : Nat) (l0 : List ByteArray) (a1 : ByteArray) : Option (Bool) := spec_l1HasS.l0 k a1 l0 (l0.length : Int) 0
theorem spec_l1HasS.mono_l : ∀ k, (∀ y0 y1 y2 y3, LeO (spec_l1HasS.l0 k y0 y1 y2 y3) (spec_l1HasS.l0 (k + 1) y0 y1 y2 y3))
 | 0 => fun _ _ _ _ r h => by simp [spec_l1HasS.l0] at h
 | k + 1 => by
  have ih0 := spec_l1HasS.mono_l k
  ·intro y0 y1 y2 y3
   unfold spec_l1HasS.l0
   repeat' first
   | (with_reducible exact ih0 _ _ _ _)
   | (with_reducible exact LeO.refl _)
   | (with_reducible exact LeO.none _)
   | (with_reducible refine LeO.ite ?_ ?_)
   | (with_reducible refine LeO.bind ?_ (fun _ => ?_))
   | exact ih0 _ _ _ _
   | exact LeO.none _
   | refine LeO.ite ?_ ?_
   | refine LeO.bind ?_ (fun _ => ?_)
theorem spec_l1HasS.mono : ∀ a0 a1 k, LeO (spec_l1HasS.f k a0 a1) (spec_l1HasS.f (k + 1) a0 a1) := by
 intro a0 a1 k
 have ih0 := spec_l1HasS.mono_l k
 unfold spec_l1HasS.f
 repeat' first
   | (with_reducible exact ih0 _ _ _ _)
   | (with_reducible exact LeO.refl _)
   | (with_reducible exact LeO.none _)
   | (with_reducible refine LeO.ite ?_ ?_)
   | (with_reducible refine LeO.bind ?_ (fun _ => ?_))
   | exact ih0 _ _ _ _
   | exact LeO.none _
   | refine LeO.ite ?_ ?_
   | refine LeO.bind ?_ (fun _ => ?_)
set_option maxHeartbeats 8000000 in
set_option maxRecDepth 100000 in
theorem spec_l1HasS.calls (k : Nat) (A0 : Option Addr) (c0 : Nat) (l0 : List ByteArray) (a1 : ByteArray) (r : Bool) (w : World) (hr0 : Kd.C Kd.string w A0 l0.length l0) (hc0 : l0.length ≤ c0) (h : spec_l1HasS.f k l0 a1 = some r) :
  Calls Try.prog 122 #[.slice A0 l0.length c0, .string a1] w fun e w' => e = .returned (.bool r) ∧ Drawn0 w w' := by
 have HR0 := zK hr0
 have HC0 := zK hc0
 clear hr0 hc0
 have H : (spec_l1HasS.l0 k a1 l0 (l0.length : Int) 0) = some r := h
 clear h
 have H' := zK H
 clear H
 go_enter Try.func122, Try.ntmps122
 go_wp2
 go_loopg [9] k (fun kq v9 w' => ∃ (x9_1 : Int), v9 = .int .i64 x9_1 ∧ Aside0 (spec_l1HasS.l0 kq a1 l0 (l0.length : Int) x9_1 = some r) ∧ Aside0 (kq ≤ k) ∧ Drawn0 w w')
 case atStart => exact ⟨(0), ye, H', ⟨Nat.le_refl _⟩, yg⟩
 case round =>
  clear H'
  try clear c1
  try clear p2
  obtain ⟨x9_1, rfl, HA, HK1, ⟨m1, rfl⟩⟩ := hrel
  cases gk with
  | zero => exact absurd HA.out (by simp [spec_l1HasS.l0])
  | succ k1 =>
   have H := HA.out
   clear HA
   simp only [spec_l1HasS.l0] at H
   by_cases c3 : x9_1 < (l0.length : Int)
   ·rw [if_pos c3] at H
    have c3b0 : decide (x9_1 < (l0.length : Int)) = true := decide_eq_true c3
    clear c3
    by_cases c4 : 0 ≤ x9_1
    ·rw [if_pos c4] at H
     have c4b0 : decide (0 ≤ x9_1) = true := decide_eq_true c4
     clear c4
     by_cases c5 : x9_1 < (l0.length : Int)
     ·rw [if_pos c5] at H
      have c5b0 : decide (x9_1 < (l0.length : Int)) = true := decide_eq_true c5
      clear c5
      by_cases c6 : (rdOf ByteArray.empty l0 x9_1).toList = a1.toList
      ·rw [if_pos c6] at H
       have c6b0 : ((rdOf ByteArray.empty l0 x9_1).toList == a1.toList) = true := beq_iff_eq.mpr c6
       have c6b1 : ((rdOf ByteArray.empty l0 x9_1).toList != a1.toList) = false := bne_eq_false_iff_eq.mpr c6
       clear c6
       obtain rfl := Option.some.inj H
       have p215 : 0 ≤ (x9_1 : Int) := zo
       have q215 : x9_1 < (l0.length : Int) := zo
       obtain ⟨ad215, e215, hx215_0⟩ := Kd.at_string HR0.out x9_1 p215 q215
       cases e215
       replace p215 := eq_true p215
       replace q215 := eq_true q215
       go_wp2
       go_ret
       exact ⟨ye, yg⟩
      ·rw [if_neg c6] at H
       have c6b0 : ((rdOf ByteArray.empty l0 x9_1).toList == a1.toList) = false := beq_eq_false_iff_ne.mpr c6
       have c6b1 : ((rdOf ByteArray.empty l0 x9_1).toList != a1.toList) = true := bne_iff_ne.mpr c6
       have H' := zK H
       clear H
       have p215 : 0 ≤ (x9_1 : Int) := zo
       have q215 : x9_1 < (l0.length : Int) := zo
       obtain ⟨ad215, e215, hx215_0⟩ := Kd.at_string HR0.out x9_1 p215 q215
       cases e215
       replace p215 := eq_true p215
       replace q215 := eq_true q215
       go_wp2
       go_roundg k1
       case measure => have := HK1.out; omega
       case rel => exact ⟨(wrap64 (x9_1 + 1)), ye, H', ⟨yb2⟩, yg⟩
     ·rw [if_neg c5] at H
      exact absurd H ye1
    ·rw [if_neg c4] at H
     exact absurd H ye1
   ·rw [if_neg c3] at H
    have c3b0 : decide (x9_1 < (l0.length : Int)) = false := decide_eq_false c3
    clear c3
    obtain rfl := Option.some.inj H
    go_wp2
    go_ret
    exact ⟨ye, yg⟩

/-! ### spec_exTwo: function 86 -/
def spec_exTwo.f (k : Nat) (a0 : ByteArray) : Option (Bool) := (spec_exOps.f).bind fun t216 => ((spec_l1HasS.f k t216 a0).bind fun t219 => (some t219))
theorem spec_exTwo.mono : ∀ a0 k, LeO (spec_exTwo.f k a0) (spec_exTwo.f (k + 1) a0) := by
 intro a0 k
 unfold spec_exTwo.f
 repeat' first
   | (with_reducible exact spec_l1HasS.mono _ _ _)
   | (with_reducible exact LeO.refl _)
   | (with_reducible exact LeO.none _)
   | (with_reducible refine LeO.ite ?_ ?_)
   | (with_reducible refine LeO.bind ?_ (fun _ => ?_))
   | exact spec_l1HasS.mono _ _ _
   | exact LeO.none _
   | refine LeO.ite ?_ ?_
   | refine LeO.bind ?_ (fun _ => ?_)
set_option maxHeartbeats 8000000 in
set_option maxRecDepth 100000 in
theorem spec_exTwo.calls (k : Nat) (a0 : ByteArray) (r : Bool) (w : World) (h : spec_exTwo.f k a0 = some r) :
  Calls Try.prog 86 #[.string a0] w fun e w' => e = .returned (.bool r) ∧ Below w.heap.size w w' := by
 have HB := zK (Below.refl w.heap.size w)
 have H : ((spec_exOps.f).bind fun t216 => ((spec_l1HasS.f k t216 a0).bind fun t219 => (some t219))) = some r := h
 clear h
 replace H := Option.bind_eq_some_iff.mp H
 obtain ⟨t216, A20, H⟩ := H
 replace H : ((spec_l1HasS.f k t216 a0).bind fun t219 => (some t219)) = some r := H
 have A2 := zK A20
 clear A20
 replace H := Option.bind_eq_some_iff.mp H
 obtain ⟨t219, A30, H⟩ := H
 replace H : (some t219) = some r := H
 have A3 := zK A30
 clear A30
 obtain rfl := Option.some.inj H
 go_enter Try.func86, Try.ntmps86
 go_wp2_with (first | ((with_reducible refine gate_callee (f := 79) rfl ?_); refine goesL_ (some 3) rfl rfl Try.func79 yi rfl #[] rfl yb ?_; (with_reducible refine (spec_exOps.calls  t216 _ A2.out).mono ?_); rintro e w4 ⟨v217, rfl, ho0, hb⟩; refine ⟨_, rfl, ?_⟩; have n0_ := zK (Kd.R_lower ho0 (zN ya)); have n1_ := zK (zL ya hb); clear HB; have HO218 := n0_; have HB := n1_; clear n0_ n1_; (try clear hb); (try clear hb2); (try clear hk); (try clear hi); (try clear ho0); obtain ⟨Ao5, co5, eo5⟩ := Kd.R_slice HO218.out; subst eo5) | ((with_reducible refine gate_callee (f := 122) rfl ?_); refine goesL_ (some 5) rfl rfl Try.func122 yi rfl #[.slice Ao5 t216.length co5, .string a0] rfl yb ?_; (with_reducible refine (spec_l1HasS.calls k _ _ t216 a0 t219 _ ?side1 ?side2 A3.out).mono ?_); (case side1 => repeat (first | exact (Kd.R_reads' HO218.out).2.2 | (with_reducible refine Kd.C_alloc ?_ _) | (with_reducible refine Kd.C_drewN ?_ _) | (with_reducible refine Kd.C_drew ?_))); (case side2 => exact (Kd.R_reads' HO218.out).2.1); rintro e w' ⟨rfl, ⟨nd, rfl⟩⟩; refine ⟨_, rfl, ?_⟩))
 go_ret
 exact ⟨yd, ya⟩

/-! ### spec_exParts: function 101 -/
def spec_exParts.f (k : Nat) (a0_0 : ByteArray) (a0_1 : Int) (a0_2 : Int) (a0_3 : Int) : Option (List Int) := (spec_exOne.f a0_0).bind fun t221 => (if t221 = true then (some (([a0_1] : List Int))) else ((spec_exTwo.f k a0_0).bind fun t225 => (if t225 = true then (some (([a0_1, a0_2] : List Int))) else (some ([] : List Int)))))
theorem spec_exParts.mono : ∀ a0 a1 a2 a3 k, LeO (spec_exParts.f k a0 a1 a2 a3) (spec_exParts.f (k + 1) a0 a1 a2 a3) := by
 intro a0 a1 a2 a3 k
 unfold spec_exParts.f
 repeat' first
   | (with_reducible exact spec_exTwo.mono _ _)
   | (with_reducible exact LeO.refl _)
   | (with_reducible exact LeO.none _)
   | (with_reducible refine LeO.ite ?_ ?_)
   | (with_reducible refine LeO.bind ?_ (fun _ => ?_))
   | exact spec_exTwo.mono _ _
   | exact LeO.none _
   | refine LeO.ite ?_ ?_
   | refine LeO.bind ?_ (fun _ => ?_)
set_option maxHeartbeats 8000000 in
set_option maxRecDepth 100000 in
theorem spec_exParts.calls (k : Nat) (a0_0 : ByteArray) (a0_1 : Int) (a0_2 : Int) (a0_3 : Int) (r : List Int) (w : World) (h : spec_exParts.f k a0_0 a0_1 a0_2 a0_3 = some r) :
  Calls Try.prog 101 #[.agg #[.string a0_0, .int .i64 a0_1, .int .i64 a0_2, .int .i64 a0_3]] w fun e w' => ∃ v0_ : Value, e = .returned (v0_) ∧ Kd.R (Kd.int .i64) 3 w' w.heap.size (fun _ => True) v0_ r ∧ Below w.heap.size w w' := by
 have hu47 := Try.underlying47
 have HB := zK (Below.refl w.heap.size w)
 have H : ((spec_exOne.f a0_0).bind fun t221 => (if t221 = true then (some (([a0_1] : List Int))) else ((spec_exTwo.f k a0_0).bind fun t225 => (if t225 = true then (some (([a0_1, a0_2] : List Int))) else (some ([] : List Int)))))) = some r := h
 clear h
 replace H := Option.bind_eq_some_iff.mp H
 obtain ⟨t221, A20, H⟩ := H
 replace H : (if t221 = true then (some (([a0_1] : List Int))) else ((spec_exTwo.f k a0_0).bind fun t225 => (if t225 = true then (some (([a0_1, a0_2] : List Int))) else (some ([] : List Int))))) = some r := H
 have A2 := zK A20
 clear A20
 by_cases c3 : t221 = true
 ·subst c3
  rw [if_pos rfl] at H
  obtain ⟨y222, hy222⟩ : ∃ y_ : List Int, y_ = (([a0_1] : List Int)) := ⟨_, rfl⟩
  replace H : (some y222) = some r := by have hy_ := hy222; exact xH
  have Ny222 := zK hy222
  clear hy222
  obtain rfl := Option.some.inj H
  go_enter Try.func101, Try.ntmps101
  go_wp2_with (first | ((with_reducible refine gate_dst (N := 1) rfl ?_); refine box_event ?hg (N := 1) ?hd (cs := #[.string a0_0, .int .i64 a0_1, .int .i64 a0_2, .int .i64 a0_3]) (t := 47) ?hr ?_; (case hd | hg => rfl); (case hr => exact xxa); intro gb220 hg w4 hbox hb; have n0_ := zK (zL ya hb); have n1_ := zK (hbox); have n2_ := zK ((by rw [hg]; exact (zN ya) : w.heap.size ≤ gb220)); have n3_ := n2_; clear HB; have HB := n0_; have BK220 := n1_; have GW220 := n2_; have GE220 := n3_; clear n0_ n1_ n2_ n3_; clear hb hbox hg; have hcz5_0 : w4.cell? ⟨gb220, 0, none⟩ = some (.string a0_0) := (zI BK220.out 0).trans rfl; have hcz5_1 : w4.cell? ⟨gb220, 1, none⟩ = some (.int .i64 a0_1) := (zI BK220.out 1).trans rfl; have hcz5_2 : w4.cell? ⟨gb220, 2, none⟩ = some (.int .i64 a0_2) := (zI BK220.out 2).trans rfl; have hcz5_3 : w4.cell? ⟨gb220, 3, none⟩ = some (.int .i64 a0_3) := (zI BK220.out 3).trans rfl; have hfz5_0 := zH BK220.out 0; have hfz5_1 := zH BK220.out 1; have hfz5_2 := zH BK220.out 2; have hfz5_3 := zH BK220.out 3) | ((with_reducible refine gate_callee (f := 80) rfl ?_); refine goesL_ (some 6) rfl rfl Try.func80 yi rfl #[.string a0_0] rfl yb ?_; (with_reducible refine (spec_exOne.calls a0_0 true _ A2.out).mono ?_); rintro e w' ⟨rfl, ⟨nd, rfl⟩⟩; refine ⟨_, rfl, ?_⟩) | ((with_reducible refine gate_dst (N := 9) rfl ?_); refine Kd.R_lit (Kd.int .i64) _ 3 ?hg (N := 9) ?hd (xs := ([a0_1] : List Int)) (inner := [.int .i64 a0_1]) (ok := fun _ => True) (okp := fun _ => True) ?hr ?hp (fun _ hk => hk) trivial (Below.refl _ _) (Nat.le_refl _) ye1 ?_; (case hd | hg => rfl); (case hr => exact xxa); (case hp => exact (Reps.one (show Kd.M (Kd.int .i64) _ _ _ a0_1 [.int .i64 a0_1] from rfl) (Reps.none _ _))); intro v223 w6 ho7 hb hg_ hnew_; clear hg_ hnew_; (first | rw [← Ny222.out] at ho7 | (simp only [Int.reduceToNat] at ho7; rw [← Ny222.out] at ho7)); have n0_ := zK (Kd.R_lower ho7 (zN yb1)); have n1_ := zK (zM (g := gb220) (o := .cells #[.string a0_0, .int .i64 a0_1, .int .i64 a0_2, .int .i64 a0_3] 47 (0, 0)) (yS BK220.out) hb); have n2_ := zK (zL yb1 hb); clear BK220; clear HB; have HO224 := n0_; have BK220 := n1_; have HB := n2_; clear n0_ n1_ n2_; clear hb ho7))
  go_ret
  exact ⟨_, yd, yR HO224.out, yb1⟩
 ·replace c3 := Bool.eq_false_iff.mpr c3
  subst c3
  rw [if_neg (show ¬ (false = true) by decide)] at H
  replace H := Option.bind_eq_some_iff.mp H
  obtain ⟨t225, A80, H⟩ := H
  replace H : (if t225 = true then (some (([a0_1, a0_2] : List Int))) else (some ([] : List Int))) = some r := H
  have A8 := zK A80
  clear A80
  by_cases c9 : t225 = true
  ·subst c9
   rw [if_pos rfl] at H
   obtain ⟨y226, hy226⟩ : ∃ y_ : List Int, y_ = (([a0_1, a0_2] : List Int)) := ⟨_, rfl⟩
   replace H : (some y226) = some r := by have hy_ := hy226; exact xH
   have Ny226 := zK hy226
   clear hy226
   obtain rfl := Option.some.inj H
   go_enter Try.func101, Try.ntmps101
   go_wp2_with (first | ((with_reducible refine gate_dst (N := 1) rfl ?_); refine box_event ?hg (N := 1) ?hd (cs := #[.string a0_0, .int .i64 a0_1, .int .i64 a0_2, .int .i64 a0_3]) (t := 47) ?hr ?_; (case hd | hg => rfl); (case hr => exact xxa); intro gb220 hg w10 hbox hb; have n0_ := zK (zL ya hb); have n1_ := zK (hbox); have n2_ := zK ((by rw [hg]; exact (zN ya) : w.heap.size ≤ gb220)); have n3_ := n2_; clear HB; have HB := n0_; have BK220 := n1_; have GW220 := n2_; have GE220 := n3_; clear n0_ n1_ n2_ n3_; clear hb hbox hg; have hcz11_0 : w10.cell? ⟨gb220, 0, none⟩ = some (.string a0_0) := (zI BK220.out 0).trans rfl; have hcz11_1 : w10.cell? ⟨gb220, 1, none⟩ = some (.int .i64 a0_1) := (zI BK220.out 1).trans rfl; have hcz11_2 : w10.cell? ⟨gb220, 2, none⟩ = some (.int .i64 a0_2) := (zI BK220.out 2).trans rfl; have hcz11_3 : w10.cell? ⟨gb220, 3, none⟩ = some (.int .i64 a0_3) := (zI BK220.out 3).trans rfl; have hfz11_0 := zH BK220.out 0; have hfz11_1 := zH BK220.out 1; have hfz11_2 := zH BK220.out 2; have hfz11_3 := zH BK220.out 3) | ((with_reducible refine gate_callee (f := 80) rfl ?_); refine goesL_ (some 6) rfl rfl Try.func80 yi rfl #[.string a0_0] rfl yb ?_; (with_reducible refine (spec_exOne.calls a0_0 false _ A2.out).mono ?_); rintro e w' ⟨rfl, ⟨nd, rfl⟩⟩; refine ⟨_, rfl, ?_⟩) | ((with_reducible refine gate_callee (f := 86) rfl ?_); refine goesL_ (some 13) rfl rfl Try.func86 yi rfl #[.string a0_0] rfl yb ?_; (with_reducible refine (spec_exTwo.calls k a0_0 true _ A8.out).mono ?_); rintro e w12 ⟨rfl, hb⟩; refine ⟨_, rfl, ?_⟩; have n0_ := zK (zM (g := gb220) (o := .cells #[.string a0_0, .int .i64 a0_1, .int .i64 a0_2, .int .i64 a0_3] 47 (0, 0)) (yS BK220.out) hb); have n1_ := zK (zL yb1 hb); clear BK220; clear HB; have BK220 := n0_; have HB := n1_; clear n0_ n1_; (try clear hb); (try clear hb2); (try clear hk); (try clear hi); have hcz13_0 : w12.cell? ⟨gb220, 0, none⟩ = some (.string a0_0) := (zI BK220.out 0).trans rfl; have hcz13_1 : w12.cell? ⟨gb220, 1, none⟩ = some (.int .i64 a0_1) := (zI BK220.out 1).trans rfl; have hcz13_2 : w12.cell? ⟨gb220, 2, none⟩ = some (.int .i64 a0_2) := (zI BK220.out 2).trans rfl; have hcz13_3 : w12.cell? ⟨gb220, 3, none⟩ = some (.int .i64 a0_3) := (zI BK220.out 3).trans rfl; have hfz13_0 := zH BK220.out 0; have hfz13_1 := zH BK220.out 1; have hfz13_2 := zH BK220.out 2; have hfz13_3 := zH BK220.out 3) | ((with_reducible refine gate_dst (N := 18) rfl ?_); refine Kd.R_lit (Kd.int .i64) _ 3 ?hg (N := 18) ?hd (xs := ([a0_1, a0_2] : List Int)) (inner := [.int .i64 a0_1, .int .i64 a0_2]) (ok := fun _ => True) (okp := fun _ => True) ?hr ?hp (fun _ hk => hk) trivial (Below.refl _ _) (Nat.le_refl _) ye1 ?_; (case hd | hg => rfl); (case hr => exact xxa); (case hp => exact xxf); intro v227 w14 ho15 hb hg_ hnew_; clear hg_ hnew_; (first | rw [← Ny226.out] at ho15 | (simp only [Int.reduceToNat] at ho15; rw [← Ny226.out] at ho15)); have n0_ := zK (Kd.R_lower ho15 (zN yb1)); have n1_ := zK (zM (g := gb220) (o := .cells #[.string a0_0, .int .i64 a0_1, .int .i64 a0_2, .int .i64 a0_3] 47 (0, 0)) (yS BK220.out) hb); have n2_ := zK (zL yb1 hb); clear BK220; clear HB; have HO228 := n0_; have BK220 := n1_; have HB := n2_; clear n0_ n1_ n2_; clear hb ho15))
   go_ret
   exact ⟨_, yd, yR HO228.out, yb1⟩
  ·replace c9 := Bool.eq_false_iff.mpr c9
   subst c9
   rw [if_neg (show ¬ (false = true) by decide)] at H
   obtain rfl := Option.some.inj H
   go_enter Try.func101, Try.ntmps101
   go_wp2_with (first | ((with_reducible refine gate_dst (N := 1) rfl ?_); refine box_event ?hg (N := 1) ?hd (cs := #[.string a0_0, .int .i64 a0_1, .int .i64 a0_2, .int .i64 a0_3]) (t := 47) ?hr ?_; (case hd | hg => rfl); (case hr => exact xxa); intro gb220 hg w16 hbox hb; have n0_ := zK (zL ya hb); have n1_ := zK (hbox); have n2_ := zK ((by rw [hg]; exact (zN ya) : w.heap.size ≤ gb220)); have n3_ := n2_; clear HB; have HB := n0_; have BK220 := n1_; have GW220 := n2_; have GE220 := n3_; clear n0_ n1_ n2_ n3_; clear hb hbox hg; have hcz17_0 : w16.cell? ⟨gb220, 0, none⟩ = some (.string a0_0) := (zI BK220.out 0).trans rfl; have hcz17_1 : w16.cell? ⟨gb220, 1, none⟩ = some (.int .i64 a0_1) := (zI BK220.out 1).trans rfl; have hcz17_2 : w16.cell? ⟨gb220, 2, none⟩ = some (.int .i64 a0_2) := (zI BK220.out 2).trans rfl; have hcz17_3 : w16.cell? ⟨gb220, 3, none⟩ = some (.int .i64 a0_3) := (zI BK220.out 3).trans rfl; have hfz17_0 := zH BK220.out 0; have hfz17_1 := zH BK220.out 1; have hfz17_2 := zH BK220.out 2; have hfz17_3 := zH BK220.out 3) | ((with_reducible refine gate_callee (f := 80) rfl ?_); refine goesL_ (some 6) rfl rfl Try.func80 yi rfl #[.string a0_0] rfl yb ?_; (with_reducible refine (spec_exOne.calls a0_0 false _ A2.out).mono ?_); rintro e w' ⟨rfl, ⟨nd, rfl⟩⟩; refine ⟨_, rfl, ?_⟩) | ((with_reducible refine gate_callee (f := 86) rfl ?_); refine goesL_ (some 13) rfl rfl Try.func86 yi rfl #[.string a0_0] rfl yb ?_; (with_reducible refine (spec_exTwo.calls k a0_0 false _ A8.out).mono ?_); rintro e w18 ⟨rfl, hb⟩; refine ⟨_, rfl, ?_⟩; have n0_ := zK (zM (g := gb220) (o := .cells #[.string a0_0, .int .i64 a0_1, .int .i64 a0_2, .int .i64 a0_3] 47 (0, 0)) (yS BK220.out) hb); have n1_ := zK (zL yb1 hb); clear BK220; clear HB; have BK220 := n0_; have HB := n1_; clear n0_ n1_; (try clear hb); (try clear hb2); (try clear hk); (try clear hi)))
   go_ret
   exact ⟨_, yd, yd1, yb1⟩

/-! ### spec_exUses: function 65 -/
mutual
def spec_exUses.l0 : Nat → List Int → List (S47) → Int → Int → Option (List Int)
 | 0, _, _, _, _ => none
 | k + 1, x3, x11, x12, x13 => if x13 < x12 then (if 0 ≤ x13 then (if x13 < (x11.length : Int) then ((spec_exParts.f k ((rd_T47 x11 x13).f0) ((rd_T47 x11 x13).f1) ((rd_T47 x11 x13).f2) ((rd_T47 x11 x13).f3)).bind fun t234 => (spec_exUses.l1 k x3 x11 x12 x13 t234 (t234.length : Int) 0)) else (none)) else (none)) else (some x3)
def spec_exUses.l1 : Nat → List Int → List (S47) → Int → Int → List Int → Int → Int → Option (List Int)
 | 0, _, _, _, _, _, _, _ => none
 | k + 1, x3, x11, x12, x13, x18, x19, x20 => if x20 < x19 then (if 0 ≤ x20 then (if x20 < (x18.length : Int) then (if 0 ≤ (rd x18 x20) then (if (rd x18 x20) < (x3.length : Int) then (spec_exUses.l1 k (x3.set ((rd x18 x20) : Int).toNat (wrap64 ((rd x3 (rd x18 x20)) + 1))) x11 x12 x13 x18 x19 (wrap64 (x20 + 1))) else (none)) else (none)) else (none)) else (none)) else (spec_exUses.l0 k x3 x11 x12 (wrap64 (x13 + 1)))
end
def spec_exUses.f (k : Nat) (l0 : List (S47)) : Option (List Int) := if 0 ≤ (l0.length : Int) then (if ((l0.length : Int) : Int).toNat ≤ 35184372088832 then (spec_exUses.l0 k (List.replicate ((l0.length : Int) : Int).toNat 0) l0 (l0.length : Int) 0) else (none)) else (none)
set_option maxHeartbeats 8000000 in
set_option maxRecDepth 100000 in
theorem spec_exUses.calls (k : Nat) (A0 : Option Addr) (c0 : Nat) (l0 : List (S47)) (r : List Int) (w : World) (hr0 : Kd.C k47 w A0 l0.length l0) (hc0 : l0.length ≤ c0) (h : spec_exUses.f k l0 = some r) :
  Calls Try.prog 65 #[.slice A0 l0.length c0] w fun e w' => ∃ v0_ : Value, e = .returned (v0_) ∧ Kd.R (Kd.int .i64) 3 w' w.heap.size (fun _ => True) v0_ r ∧ Below w.heap.size w w' := by
 have hu47 := Try.underlying47
 have HR0 := zK hr0
 have HC0 := zK hc0
 clear hr0 hc0
 have HB := zK (Below.refl w.heap.size w)
 have H : (if 0 ≤ (l0.length : Int) then (if ((l0.length : Int) : Int).toNat ≤ 35184372088832 then (spec_exUses.l0 k (List.replicate ((l0.length : Int) : Int).toNat 0) l0 (l0.length : Int) 0) else (none)) else (none)) = some r := h
 clear h
 by_cases c2 : 0 ≤ (l0.length : Int)
 ·rw [if_pos c2] at H
  have c2b0 := eq_true c2
  have c2b1 : decide (0 ≤ (l0.length : Int)) = true := decide_eq_true c2
  clear c2
  by_cases c3 : ((l0.length : Int) : Int).toNat ≤ 35184372088832
  ·rw [if_pos c3] at H
   have c3b0 := eq_true c3
   have c3b1 : decide (((l0.length : Int) : Int).toNat ≤ 35184372088832) = true := decide_eq_true c3
   clear c3
   obtain ⟨y229, hy229⟩ : ∃ y_ : List Int, y_ = (List.replicate ((l0.length : Int) : Int).toNat 0) := ⟨_, rfl⟩
   replace H : (spec_exUses.l0 k y229 l0 (l0.length : Int) 0) = some r := by have hy_ := hy229; exact xH
   have Ny229 := zK hy229
   clear hy229
   have H' := zK H
   clear H
   go_enter Try.func65, Try.ntmps65
   go_wp2_with (first | ((with_reducible refine gate_dst (N := 10) rfl ?_); refine Kd.R_make (Kd.int .i64) _ 3 rfl (N := 10) rfl 31 _ _ rfl (l0.length : Int) rfl rfl Try.underlying31 (.int .i64 0) 8 info3 rfl yp1 (by omega) 0 (ok := fun _ => True) (okp := fun _ => True) rfl (fun _ hk => hk) trivial (zo) (Nat.le_trans (Nat.mul_le_mul_right _ (zo : (l0.length : Int).toNat ≤ 35184372088832)) (by omega)) (Below.refl _ _) (Nat.le_refl _) ?_; intro v230 w4 ho5 hb hg_ hnew_; clear hg_ hnew_; (first | rw [← Ny229.out] at ho5 | (simp only [Int.reduceToNat] at ho5; rw [← Ny229.out] at ho5)); have n0_ := zK (Kd.R_lower ho5 (zN ya)); have n1_ := zK (zL ya hb); clear HB; have HO231 := n0_; have HB := n1_; clear n0_ n1_; clear hb ho5))
   go_loopg [13] k (fun kq v13 w' => ∃ (x3_1 : List Int) (x13_1 : Int), v13 = .int .i64 x13_1 ∧ Aside0 (spec_exUses.l0 kq x3_1 l0 (l0.length : Int) x13_1 = some r) ∧ Aside0 (kq ≤ k) ∧ Aside0 (Kd.R (Kd.int .i64) 3 w' w.heap.size (fun _ => True) v230 x3_1) ∧ Aside0 (Below w.heap.size w w'))
   case atStart => exact ⟨(y229), (0), ye, H', ⟨Nat.le_refl _⟩, ⟨yR HO231.out⟩, ⟨ya⟩⟩
   case round =>
    clear H'
    try clear c2
    try clear c2b0
    try clear c2b1
    try clear p2
    try clear c3
    try clear c3b0
    try clear c3b1
    obtain ⟨x3_1, x13_1, rfl, HA, HK1, HO_3, HB⟩ := hrel
    cases gk with
    | zero => exact absurd HA.out (by simp [spec_exUses.l0])
    | succ k1 =>
     have H := HA.out
     clear HA
     simp only [spec_exUses.l0] at H
     by_cases c6 : x13_1 < (l0.length : Int)
     ·rw [if_pos c6] at H
      have c6b0 : decide (x13_1 < (l0.length : Int)) = true := decide_eq_true c6
      clear c6
      by_cases c7 : 0 ≤ x13_1
      ·rw [if_pos c7] at H
       have c7b0 : decide (0 ≤ x13_1) = true := decide_eq_true c7
       clear c7
       by_cases c8 : x13_1 < (l0.length : Int)
       ·rw [if_pos c8] at H
        have c8b0 : decide (x13_1 < (l0.length : Int)) = true := decide_eq_true c8
        clear c8
        replace H := Option.bind_eq_some_iff.mp H
        obtain ⟨t234, A90, H⟩ := H
        replace H : (spec_exUses.l1 k1 x3_1 l0 (l0.length : Int) x13_1 t234 (t234.length : Int) 0) = some r := H
        have A9 := zK A90
        clear A90
        have H' := zK H
        clear H
        have p232 : 0 ≤ (x13_1 : Int) := zo
        have q232 : x13_1 < (l0.length : Int) := zo
        obtain ⟨ad232, e232, hx232_0, hx232_1, hx232_2, hx232_3⟩ := at_T47 HR0.out x13_1 p232 q232
        cases e232
        replace hx232_0 := zt HB.out hx232_0
        replace hx232_1 := zt HB.out hx232_1
        replace hx232_2 := zt HB.out hx232_2
        replace hx232_3 := zt HB.out hx232_3
        replace p232 := eq_true p232
        replace q232 := eq_true q232
        go_wp2_with (first | ((with_reducible refine gate_dst (N := 5) rfl ?_); refine box_event ?hg (N := 5) ?hd (cs := #[.string (⟨#[]⟩ : ByteArray), .int .i64 0, .int .i64 0, .int .i64 0]) (t := 47) ?hr ?_; (case hd | hg => rfl); (case hr => exact xxa); intro gb233 hg w10 hbox hb; have n0_ := zK (Kd.R_below yn hb); have n1_ := zK (zL ya hb); have n2_ := zK (hbox); have n3_ := zK ((by rw [hg]; exact (zN ya) : w.heap.size ≤ gb233)); have n4_ := n3_; clear HO_3; clear HB; have HO_3 := n0_; have HB := n1_; have BK233 := n2_; have GW233 := n3_; have GE233 := n4_; clear n0_ n1_ n2_ n3_ n4_; clear hb hbox hg; have hcz11_0 : w10.cell? ⟨gb233, 0, none⟩ = some (.string (⟨#[]⟩ : ByteArray)) := (zI BK233.out 0).trans rfl; have hcz11_1 : w10.cell? ⟨gb233, 1, none⟩ = some (.int .i64 0) := (zI BK233.out 1).trans rfl; have hcz11_2 : w10.cell? ⟨gb233, 2, none⟩ = some (.int .i64 0) := (zI BK233.out 2).trans rfl; have hcz11_3 : w10.cell? ⟨gb233, 3, none⟩ = some (.int .i64 0) := (zI BK233.out 3).trans rfl; have hfz11_0 := zH BK233.out 0; have hfz11_1 := zH BK233.out 1; have hfz11_2 := zH BK233.out 2; have hfz11_3 := zH BK233.out 3) | ((with_reducible refine gate_callee (f := 101) rfl ?_); refine goesL_ (some 18) rfl rfl Try.func101 yi rfl #[.agg #[.string ((rd_T47 l0 x13_1).f0), .int .i64 ((rd_T47 l0 x13_1).f1), .int .i64 ((rd_T47 l0 x13_1).f2), .int .i64 ((rd_T47 l0 x13_1).f3)]] rfl yb ?_; (with_reducible refine (spec_exParts.calls k1 ((rd_T47 l0 x13_1).f0) ((rd_T47 l0 x13_1).f1) ((rd_T47 l0 x13_1).f2) ((rd_T47 l0 x13_1).f3) t234 _ A9.out).mono ?_); rintro e w12 ⟨v235, rfl, ho0, hb⟩; refine ⟨_, rfl, ?_⟩; have n0_ := zK (Kd.R_elder' (by (with_reducible repeat (first | apply Kd.R_alloc | apply Kd.R_drewN | apply Kd.R_drew)); exact (Kd.R_mono (Kd.R_far (p := ⟨gb233, 3, none⟩) (Kd.R_far (p := ⟨gb233, 2, none⟩) (Kd.R_far (p := ⟨gb233, 1, none⟩) (Kd.R_far (p := ⟨gb233, 0, none⟩) (Kd.R_types HO_3.out BK233.out yp1) (fun _ hk => hk.2) (.string ((rd_T47 l0 x13_1).f0))) (fun _ hk => hk.2) (.int .i64 ((rd_T47 l0 x13_1).f1))) (fun _ hk => hk.2) (.int .i64 ((rd_T47 l0 x13_1).f2))) (fun _ hk => hk.2) (.int .i64 ((rd_T47 l0 x13_1).f3))) (fun _ h_ => h_.1))) (Kd.R_base ho0) hb); have n1_ := zK (Kd.R_lower (Kd.R_new' ho0 (Kd.R_lt (by (with_reducible repeat (first | apply Kd.R_alloc | apply Kd.R_drewN | apply Kd.R_drew)); exact (Kd.R_mono (Kd.R_far (p := ⟨gb233, 3, none⟩) (Kd.R_far (p := ⟨gb233, 2, none⟩) (Kd.R_far (p := ⟨gb233, 1, none⟩) (Kd.R_far (p := ⟨gb233, 0, none⟩) (Kd.R_types HO_3.out BK233.out yp1) (fun _ hk => hk.2) (.string ((rd_T47 l0 x13_1).f0))) (fun _ hk => hk.2) (.int .i64 ((rd_T47 l0 x13_1).f1))) (fun _ hk => hk.2) (.int .i64 ((rd_T47 l0 x13_1).f2))) (fun _ hk => hk.2) (.int .i64 ((rd_T47 l0 x13_1).f3))) (fun _ h_ => h_.1))))) (zN yg2)); have n2_ := zK (zM (g := gb233) (o := .cells #[.string ((rd_T47 l0 x13_1).f0), .int .i64 ((rd_T47 l0 x13_1).f1), .int .i64 ((rd_T47 l0 x13_1).f2), .int .i64 ((rd_T47 l0 x13_1).f3)] 47 (0, 0)) (by (with_reducible repeat (first | refine zE ?_ _ | refine zF ?_ | refine zG ?_ _)); refine blk_put (cs := #[.string ((rd_T47 l0 x13_1).f0), .int .i64 ((rd_T47 l0 x13_1).f1), .int .i64 ((rd_T47 l0 x13_1).f2), .int .i64 0]) ?_ 3 _ rfl; (with_reducible repeat (first | refine zE ?_ _ | refine zF ?_ | refine zG ?_ _)); refine blk_put (cs := #[.string ((rd_T47 l0 x13_1).f0), .int .i64 ((rd_T47 l0 x13_1).f1), .int .i64 0, .int .i64 0]) ?_ 2 _ rfl; (with_reducible repeat (first | refine zE ?_ _ | refine zF ?_ | refine zG ?_ _)); refine blk_put (cs := #[.string ((rd_T47 l0 x13_1).f0), .int .i64 0, .int .i64 0, .int .i64 0]) ?_ 1 _ rfl; (with_reducible repeat (first | refine zE ?_ _ | refine zF ?_ | refine zG ?_ _)); refine blk_put (cs := #[.string (⟨#[]⟩ : ByteArray), .int .i64 0, .int .i64 0, .int .i64 0]) ?_ 0 _ rfl; (with_reducible repeat (first | refine zE ?_ _ | refine zF ?_ | refine zG ?_ _)); exact BK233.out) hb); have n3_ := zK (zL yg2 hb); clear HO_3; clear BK233; clear HB; have HO_3 := n0_; have HO236 := n1_; have BK233 := n2_; have HB := n3_; clear n0_ n1_ n2_ n3_; (try clear hb); (try clear hb2); (try clear hk); (try clear hi); (try clear ho0); obtain ⟨Ao13, co13, eo13⟩ := Kd.R_slice HO236.out; subst eo13))
        go_loopg [20] k1 (fun kq v20 w' => ∃ (x3_2 : List Int) (x20_2 : Int), v20 = .int .i64 x20_2 ∧ Aside0 (spec_exUses.l1 kq x3_2 l0 (l0.length : Int) x13_1 t234 (t234.length : Int) x20_2 = some r) ∧ Aside0 (kq ≤ k1) ∧ Aside0 (Kd.R (Kd.int .i64) 3 w' w.heap.size (fun k_ => some k_ ≠ ((.slice Ao13 t234.length co13) : Value).ownBlock) v230 x3_2) ∧ Aside0 (Kd.R (Kd.int .i64) 3 w' w.heap.size (fun k_ => some k_ ≠ (v230 : Value).ownBlock) (.slice Ao13 t234.length co13) t234) ∧ Aside0 (w'.heap[gb233]? = some (.cells #[.string ((rd_T47 l0 x13_1).f0), .int .i64 ((rd_T47 l0 x13_1).f1), .int .i64 ((rd_T47 l0 x13_1).f2), .int .i64 ((rd_T47 l0 x13_1).f3)] 47 (0, 0))) ∧ Aside0 (Below w.heap.size w w'))
        case atStart => exact ⟨(x3_1), (0), ye, H', ⟨Nat.le_refl _⟩, ⟨by (with_reducible repeat (first | apply Kd.R_alloc | apply Kd.R_drewN | apply Kd.R_drew)); exact Kd.R_mono HO_3.out (fun _ hk => hk.2)⟩, ⟨by (with_reducible repeat (first | apply Kd.R_alloc | apply Kd.R_drewN | apply Kd.R_drew)); exact Kd.R_mono HO236.out (fun _ hk => hk.2)⟩, ⟨yS BK233.out⟩, ⟨yg2⟩⟩
        case round =>
         clear H'
         try clear c1
         try clear c2
         try clear c2b0
         try clear c2b1
         try clear p2
         try clear q2
         try clear hx2
         try clear c3
         try clear c3b0
         try clear c3b1
         try clear c6
         try clear c6b0
         try clear c7
         try clear c7b0
         try clear c8
         try clear c8b0
         try clear c10
         try clear hcz11_0
         try clear hcz11_1
         try clear hcz11_2
         try clear hcz11_3
         try clear hfz11_0
         try clear hfz11_1
         try clear hfz11_2
         try clear hfz11_3
         try clear hx232_0
         try clear hx232_1
         try clear hx232_2
         try clear hx232_3
         try clear p2
         try clear p232
         try clear q232
         obtain ⟨x3_2, x20_2, rfl, HA, HK2, HO_3, HO_18, BK233, HB⟩ := hrel
         cases gk with
         | zero => exact absurd HA.out (by simp [spec_exUses.l1])
         | succ k2 =>
          have H := HA.out
          clear HA
          simp only [spec_exUses.l1] at H
          by_cases c14 : x20_2 < (t234.length : Int)
          ·rw [if_pos c14] at H
           have c14b0 : decide (x20_2 < (t234.length : Int)) = true := decide_eq_true c14
           clear c14
           by_cases c15 : 0 ≤ x20_2
           ·rw [if_pos c15] at H
            have c15b0 : decide (0 ≤ x20_2) = true := decide_eq_true c15
            clear c15
            by_cases c16 : x20_2 < (t234.length : Int)
            ·rw [if_pos c16] at H
             have c16b0 : decide (x20_2 < (t234.length : Int)) = true := decide_eq_true c16
             clear c16
             by_cases c17 : 0 ≤ (rd t234 x20_2)
             ·rw [if_pos c17] at H
              have c17b0 : decide (0 ≤ (rd t234 x20_2)) = true := decide_eq_true c17
              clear c17
              by_cases c18 : (rd t234 x20_2) < (x3_2.length : Int)
              ·rw [if_pos c18] at H
               have c18b0 : decide ((rd t234 x20_2) < (x3_2.length : Int)) = true := decide_eq_true c18
               clear c18
               obtain ⟨y239, hy239⟩ : ∃ y_ : List Int, y_ = (x3_2.set ((rd t234 x20_2) : Int).toNat (wrap64 ((rd x3_2 (rd t234 x20_2)) + 1))) := ⟨_, rfl⟩
               replace H : (spec_exUses.l1 k2 y239 l0 (l0.length : Int) x13_1 t234 (t234.length : Int) (wrap64 (x20_2 + 1))) = some r := by have hy_ := hy239; exact xH
               have Ny239 := zK hy239
               clear hy239
               have H' := zK H
               clear H
               have p237 : 0 ≤ (x20_2 : Int) := zo
               have q237 : x20_2 < (t234.length : Int) := zo
               obtain ⟨ad237, e237, hx237_0⟩ := Kd.at_int (Kd.R_reads' HO_18.out).2.2 x20_2 p237 q237
               cases e237
               replace p237 := eq_true p237
               replace q237 := eq_true q237
               obtain ⟨Ao20, co20, eo20⟩ := Kd.R_slice HO_3.out
               subst eo20
               have p238 : 0 ≤ ((rd t234 x20_2) : Int) := zo
               have q238 : (rd t234 x20_2) < (x3_2.length : Int) := zo
               obtain ⟨ad238, e238, hx238_0⟩ := Kd.at_int (Kd.R_reads' HO_3.out).2.2 (rd t234 x20_2) p238 q238
               cases e238
               replace p238 := eq_true p238
               replace q238 := eq_true q238
               have p19 : 0 ≤ ((rd t234 x20_2) : Int) := zo
               have q19 : ((rd t234 x20_2) : Int) < ((x3_2.length : Int) : Int) := zo
               obtain ⟨go19, co19, eo19, gb19, gl19, cl19, HG19⟩ := Kd.R_form HO_3.out (by omega)
               (first | cases eo19 | (injection eo19 with ea_ en_ ec_; (first | subst ea_ | (injection ea_ with ea_; subst ea_)); subst ec_; clear en_))
               have GB19 := zK gb19
               have GG19 := zK HG19
               clear gb19 gl19 HG19
               (first | simp only [add_plain] at hx238_0 | skip)
               obtain ⟨hx19_0, hf19_0⟩ := Kd.R_celln 0 HO_3.out ((rd t234 x20_2) : Int) p19 q19
               replace p19 := eq_true p19
               replace q19 := eq_true q19
               have HP21 := Kd.R_putg HO_3.out ((rd t234 x20_2) : Int) (wrap64 ((rd x3_2 (rd t234 x20_2)) + 1))
               go_wp2_with (first | ((with_reducible refine gate_store (t := 3) (p := 29) rfl ?_); refine store_event (t := 3) (p := 29) (v := ?vo_w22) (w1 := (wr.setCell ⟨go19, ((rd t234 x20_2) : Int).toNat, none⟩ (.int .i64 (wrap64 ((rd x3_2 (rd t234 x20_2)) + 1))))) ?hg ?ho ?hn ?hr ?_; (case ho => rfl); (case hg => rfl); (case hn => rfl); (case hr => exact xxa); intro w22 hw; have hg : wr.grownBy w22 (some go19) := (by rw [hw]; exact HP21.2); have hp_ : Kd.R (Kd.int .i64) 3 w22 w.heap.size (fun k_ => some k_ ≠ (.slice (some ad237) t234.length co13 : Value).ownBlock) (.slice (some ⟨go19, 0, none⟩) x3_2.length co20) y239 := (by rw [hw, Ny239.out]; exact HP21.1); clear HP21; have n0_ := zK (hp_); have n1_ := zK (Kd.R_after (v := (.slice (some ⟨go19, 0, none⟩) x3_2.length co20)) (v1 := (.slice (some ⟨go19, 0, none⟩) x3_2.length co20)) (ok := (fun _ => True)) (by (with_reducible repeat (first | apply Kd.R_alloc | apply Kd.R_drewN | apply Kd.R_drew)); exact Kd.R_mono HO_18.out (fun _ hk => ⟨trivial, hk⟩)) hg (.inl rfl)); have n2_ := zK (blk_grown (g := gb233) (o := .cells #[.string ((rd_T47 l0 x13_1).f0), .int .i64 ((rd_T47 l0 x13_1).f1), .int .i64 ((rd_T47 l0 x13_1).f2), .int .i64 ((rd_T47 l0 x13_1).f3)] 47 (0, 0)) (yS BK233.out) hg (Kd.R_ne HO_3.out BK233.out yp1)); have n3_ := zK ((by rw [hw]; exact zD (HB.out) GB19.out : Below w.heap.size w w22)); clear HO_3; clear HO_18; clear BK233; clear HB; have HO_3 := n0_; have HO_18 := n1_; have BK233 := n2_; have HB := n3_; clear n0_ n1_ n2_ n3_; clear hg hw hp_))
               go_roundg k2
               case measure => have := HK1.out; have := HK2.out; omega
               case rel => exact ⟨(y239), (wrap64 (x20_2 + 1)), ye, H', ⟨yx⟩, ⟨yn⟩, ⟨by (with_reducible repeat (first | apply Kd.R_alloc | apply Kd.R_drewN | apply Kd.R_drew)); exact Kd.R_mono HO_18.out (fun _ hk => hk.2)⟩, ⟨yS BK233.out⟩, ⟨yg2⟩⟩
              ·rw [if_neg c18] at H
               exact absurd H ye1
             ·rw [if_neg c17] at H
              exact absurd H ye1
            ·rw [if_neg c16] at H
             exact absurd H ye1
           ·rw [if_neg c15] at H
            exact absurd H ye1
          ·rw [if_neg c14] at H
           have c14b0 : decide (x20_2 < (t234.length : Int)) = false := decide_eq_false c14
           clear c14
           have H' := zK H
           clear H
           go_wp2
           go_roundg k2
           case measure => have := HK1.out; have := HK2.out; omega
           case rel => exact ⟨(x3_2), (wrap64 (x13_1 + 1)), ye, H', ⟨yx⟩, ⟨by (with_reducible repeat (first | apply Kd.R_alloc | apply Kd.R_drewN | apply Kd.R_drew)); exact Kd.R_mono HO_3.out (fun _ hk => trivial)⟩, ⟨yg2⟩⟩
       ·rw [if_neg c8] at H
        exact absurd H ye1
      ·rw [if_neg c7] at H
       exact absurd H ye1
     ·rw [if_neg c6] at H
      have c6b0 : decide (x13_1 < (l0.length : Int)) = false := decide_eq_false c6
      clear c6
      obtain rfl := Option.some.inj H
      go_wp2
      go_ret
      exact ⟨_, yd, yn, ya⟩
  ·rw [if_neg c3] at H
   exact absurd H ye1
 ·rw [if_neg c2] at H
  exact absurd H ye1

/-! ### spec_exWord: function 74 -/
def spec_exWord.f (a0 : Int) : Option (Bool) := (spec_l1In.f a0 0 63).bind fun t240 => (some t240)
set_option maxHeartbeats 8000000 in
set_option maxRecDepth 100000 in
theorem spec_exWord.calls (a0 : Int) (r : Bool) (w : World) (h : spec_exWord.f a0 = some r) :
  Calls Try.prog 74 #[.int .i64 a0] w fun e w' => e = .returned (.bool r) ∧ Drawn0 w w' := by
 have H : ((spec_l1In.f a0 0 63).bind fun t240 => (some t240)) = some r := h
 clear h
 replace H := Option.bind_eq_some_iff.mp H
 obtain ⟨t240, A20, H⟩ := H
 replace H : (some t240) = some r := H
 have A2 := zK A20
 clear A20
 obtain rfl := Option.some.inj H
 go_enter Try.func74, Try.ntmps74
 go_wp2_with (first | ((with_reducible refine gate_callee (f := 61) rfl ?_); refine goesL_ (some 4) rfl rfl Try.func61 yi rfl #[.int .i64 a0, .int .i64 0, .int .i64 63] rfl yb ?_; (with_reducible refine (spec_l1In.calls a0 0 63 t240 _ A2.out).mono ?_); rintro e w' ⟨rfl, ⟨nd, rfl⟩⟩; refine ⟨_, rfl, ?_⟩))
 go_ret
 exact ⟨ye, yg⟩

/-! ### spec_exNode: function 111 -/
def spec_exNode.f (k : Nat) (a0_0 : ByteArray) (a0_1 : Int) (a0_2 : Int) (a0_3 : Int) (a1 : Int) : Option (Bool) := if a0_0.toList = ([105, 110] : List UInt8) then (if a0_1 = 0 then (if a0_2 = 0 then ((spec_l1In.f a0_3 0 1).bind fun t242 => (some t242)) else (some false)) else (some false)) else (if a0_0.toList = ([99, 111, 110, 115, 116] : List UInt8) then (if a0_1 = 0 then (if a0_2 = 0 then ((spec_exWord.f a0_3).bind fun t243 => (some t243)) else (some false)) else (some false)) else ((spec_exOne.f a0_0).bind fun t244 => (if t244 = true then ((spec_l1In.f a0_1 0 (wrap64 (a1 - 1))).bind fun t245 => (if t245 = true then (if a0_2 = 0 then (some (a0_3 == 0)) else (some false)) else (some false))) else ((spec_exTwo.f k a0_0).bind fun t246 => (if t246 = true then ((spec_l1In.f a0_1 0 (wrap64 (a1 - 1))).bind fun t247 => (if t247 = true then ((spec_l1In.f a0_2 0 (wrap64 (a1 - 1))).bind fun t248 => (if t248 = true then (some (a0_3 == 0)) else (some false))) else (some false))) else (some false))))))
set_option maxHeartbeats 8000000 in
set_option maxRecDepth 100000 in
theorem spec_exNode.calls (k : Nat) (a0_0 : ByteArray) (a0_1 : Int) (a0_2 : Int) (a0_3 : Int) (a1 : Int) (r : Bool) (w : World) (h : spec_exNode.f k a0_0 a0_1 a0_2 a0_3 a1 = some r) :
  Calls Try.prog 111 #[.agg #[.string a0_0, .int .i64 a0_1, .int .i64 a0_2, .int .i64 a0_3], .int .i64 a1] w fun e w' => e = .returned (.bool r) ∧ Below w.heap.size w w' := by
 have hu47 := Try.underlying47
 have HB := zK (Below.refl w.heap.size w)
 have H : (if a0_0.toList = ([105, 110] : List UInt8) then (if a0_1 = 0 then (if a0_2 = 0 then ((spec_l1In.f a0_3 0 1).bind fun t242 => (some t242)) else (some false)) else (some false)) else (if a0_0.toList = ([99, 111, 110, 115, 116] : List UInt8) then (if a0_1 = 0 then (if a0_2 = 0 then ((spec_exWord.f a0_3).bind fun t243 => (some t243)) else (some false)) else (some false)) else ((spec_exOne.f a0_0).bind fun t244 => (if t244 = true then ((spec_l1In.f a0_1 0 (wrap64 (a1 - 1))).bind fun t245 => (if t245 = true then (if a0_2 = 0 then (some (a0_3 == 0)) else (some false)) else (some false))) else ((spec_exTwo.f k a0_0).bind fun t246 => (if t246 = true then ((spec_l1In.f a0_1 0 (wrap64 (a1 - 1))).bind fun t247 => (if t247 = true then ((spec_l1In.f a0_2 0 (wrap64 (a1 - 1))).bind fun t248 => (if t248 = true then (some (a0_3 == 0)) else (some false))) else (some false))) else (some false))))))) = some r := h
 clear h
 by_cases c3 : a0_0.toList = ([105, 110] : List UInt8)
 ·rw [if_pos c3] at H
  have c3b0 : (a0_0.toList == ([105, 110] : List UInt8)) = true := beq_iff_eq.mpr c3
  have c3b1 : (a0_0.toList != ([105, 110] : List UInt8)) = false := bne_eq_false_iff_eq.mpr c3
  clear c3
  by_cases c4 : a0_1 = 0
  ·rw [if_pos c4] at H
   have c4b0 : (a0_1 == 0) = true := beq_iff_eq.mpr c4
   have c4b1 : (a0_1 != 0) = false := bne_eq_false_iff_eq.mpr c4
   clear c4
   by_cases c5 : a0_2 = 0
   ·rw [if_pos c5] at H
    have c5b0 : (a0_2 == 0) = true := beq_iff_eq.mpr c5
    have c5b1 : (a0_2 != 0) = false := bne_eq_false_iff_eq.mpr c5
    clear c5
    replace H := Option.bind_eq_some_iff.mp H
    obtain ⟨t242, A60, H⟩ := H
    replace H : (some t242) = some r := H
    have A6 := zK A60
    clear A60
    obtain rfl := Option.some.inj H
    go_enter Try.func111, Try.ntmps111
    go_wp2_with (first | ((with_reducible refine gate_dst (N := 2) rfl ?_); refine box_event ?hg (N := 2) ?hd (cs := #[.string a0_0, .int .i64 a0_1, .int .i64 a0_2, .int .i64 a0_3]) (t := 47) ?hr ?_; (case hd | hg => rfl); (case hr => exact xxa); intro gb241 hg w7 hbox hb; have n0_ := zK (zL ya hb); have n1_ := zK (hbox); have n2_ := zK ((by rw [hg]; exact (zN ya) : w.heap.size ≤ gb241)); have n3_ := n2_; clear HB; have HB := n0_; have BK241 := n1_; have GW241 := n2_; have GE241 := n3_; clear n0_ n1_ n2_ n3_; clear hb hbox hg; have hcz8_0 : w7.cell? ⟨gb241, 0, none⟩ = some (.string a0_0) := (zI BK241.out 0).trans rfl; have hcz8_1 : w7.cell? ⟨gb241, 1, none⟩ = some (.int .i64 a0_1) := (zI BK241.out 1).trans rfl; have hcz8_2 : w7.cell? ⟨gb241, 2, none⟩ = some (.int .i64 a0_2) := (zI BK241.out 2).trans rfl; have hcz8_3 : w7.cell? ⟨gb241, 3, none⟩ = some (.int .i64 a0_3) := (zI BK241.out 3).trans rfl; have hfz8_0 := zH BK241.out 0; have hfz8_1 := zH BK241.out 1; have hfz8_2 := zH BK241.out 2; have hfz8_3 := zH BK241.out 3) | (go_at_call 61; (with_reducible refine (spec_l1In.calls a0_3 0 1 t242 _ A6.out).mono ?_); rintro e w' ⟨rfl, ⟨nd, rfl⟩⟩))
    go_ret
    exact ⟨yd, yp⟩
   ·rw [if_neg c5] at H
    have c5b0 : (a0_2 == 0) = false := beq_eq_false_iff_ne.mpr c5
    have c5b1 : (a0_2 != 0) = true := bne_iff_ne.mpr c5
    obtain rfl := Option.some.inj H
    go_enter Try.func111, Try.ntmps111
    go_wp2_with (first | ((with_reducible refine gate_dst (N := 2) rfl ?_); refine box_event ?hg (N := 2) ?hd (cs := #[.string a0_0, .int .i64 a0_1, .int .i64 a0_2, .int .i64 a0_3]) (t := 47) ?hr ?_; (case hd | hg => rfl); (case hr => exact xxa); intro gb241 hg w9 hbox hb; have n0_ := zK (zL ya hb); have n1_ := zK (hbox); have n2_ := zK ((by rw [hg]; exact (zN ya) : w.heap.size ≤ gb241)); have n3_ := n2_; clear HB; have HB := n0_; have BK241 := n1_; have GW241 := n2_; have GE241 := n3_; clear n0_ n1_ n2_ n3_; clear hb hbox hg; have hcz10_0 : w9.cell? ⟨gb241, 0, none⟩ = some (.string a0_0) := (zI BK241.out 0).trans rfl; have hcz10_1 : w9.cell? ⟨gb241, 1, none⟩ = some (.int .i64 a0_1) := (zI BK241.out 1).trans rfl; have hcz10_2 : w9.cell? ⟨gb241, 2, none⟩ = some (.int .i64 a0_2) := (zI BK241.out 2).trans rfl; have hcz10_3 : w9.cell? ⟨gb241, 3, none⟩ = some (.int .i64 a0_3) := (zI BK241.out 3).trans rfl; have hfz10_0 := zH BK241.out 0; have hfz10_1 := zH BK241.out 1; have hfz10_2 := zH BK241.out 2; have hfz10_3 := zH BK241.out 3))
    go_ret
    exact ⟨yd, yp⟩
  ·rw [if_neg c4] at H
   have c4b0 : (a0_1 == 0) = false := beq_eq_false_iff_ne.mpr c4
   have c4b1 : (a0_1 != 0) = true := bne_iff_ne.mpr c4
   obtain rfl := Option.some.inj H
   go_enter Try.func111, Try.ntmps111
   go_wp2_with (first | ((with_reducible refine gate_dst (N := 2) rfl ?_); refine box_event ?hg (N := 2) ?hd (cs := #[.string a0_0, .int .i64 a0_1, .int .i64 a0_2, .int .i64 a0_3]) (t := 47) ?hr ?_; (case hd | hg => rfl); (case hr => exact xxa); intro gb241 hg w11 hbox hb; have n0_ := zK (zL ya hb); have n1_ := zK (hbox); have n2_ := zK ((by rw [hg]; exact (zN ya) : w.heap.size ≤ gb241)); have n3_ := n2_; clear HB; have HB := n0_; have BK241 := n1_; have GW241 := n2_; have GE241 := n3_; clear n0_ n1_ n2_ n3_; clear hb hbox hg; have hcz12_0 : w11.cell? ⟨gb241, 0, none⟩ = some (.string a0_0) := (zI BK241.out 0).trans rfl; have hcz12_1 : w11.cell? ⟨gb241, 1, none⟩ = some (.int .i64 a0_1) := (zI BK241.out 1).trans rfl; have hcz12_2 : w11.cell? ⟨gb241, 2, none⟩ = some (.int .i64 a0_2) := (zI BK241.out 2).trans rfl; have hcz12_3 : w11.cell? ⟨gb241, 3, none⟩ = some (.int .i64 a0_3) := (zI BK241.out 3).trans rfl; have hfz12_0 := zH BK241.out 0; have hfz12_1 := zH BK241.out 1; have hfz12_2 := zH BK241.out 2; have hfz12_3 := zH BK241.out 3))
   go_ret
   exact ⟨yd, yp⟩
 ·rw [if_neg c3] at H
  have c3b0 : (a0_0.toList == ([105, 110] : List UInt8)) = false := beq_eq_false_iff_ne.mpr c3
  have c3b1 : (a0_0.toList != ([105, 110] : List UInt8)) = true := bne_iff_ne.mpr c3
  by_cases c13 : a0_0.toList = ([99, 111, 110, 115, 116] : List UInt8)
  ·rw [if_pos c13] at H
   have c13b0 : (a0_0.toList == ([99, 111, 110, 115, 116] : List UInt8)) = true := beq_iff_eq.mpr c13
   have c13b1 : (a0_0.toList != ([99, 111, 110, 115, 116] : List UInt8)) = false := bne_eq_false_iff_eq.mpr c13
   clear c13
   by_cases c14 : a0_1 = 0
   ·rw [if_pos c14] at H
    have c14b0 : (a0_1 == 0) = true := beq_iff_eq.mpr c14
    have c14b1 : (a0_1 != 0) = false := bne_eq_false_iff_eq.mpr c14
    clear c14
    by_cases c15 : a0_2 = 0
    ·rw [if_pos c15] at H
     have c15b0 : (a0_2 == 0) = true := beq_iff_eq.mpr c15
     have c15b1 : (a0_2 != 0) = false := bne_eq_false_iff_eq.mpr c15
     clear c15
     replace H := Option.bind_eq_some_iff.mp H
     obtain ⟨t243, A160, H⟩ := H
     replace H : (some t243) = some r := H
     have A16 := zK A160
     clear A160
     obtain rfl := Option.some.inj H
     go_enter Try.func111, Try.ntmps111
     go_wp2_with (first | ((with_reducible refine gate_dst (N := 2) rfl ?_); refine box_event ?hg (N := 2) ?hd (cs := #[.string a0_0, .int .i64 a0_1, .int .i64 a0_2, .int .i64 a0_3]) (t := 47) ?hr ?_; (case hd | hg => rfl); (case hr => exact xxa); intro gb241 hg w17 hbox hb; have n0_ := zK (zL ya hb); have n1_ := zK (hbox); have n2_ := zK ((by rw [hg]; exact (zN ya) : w.heap.size ≤ gb241)); have n3_ := n2_; clear HB; have HB := n0_; have BK241 := n1_; have GW241 := n2_; have GE241 := n3_; clear n0_ n1_ n2_ n3_; clear hb hbox hg; have hcz18_0 : w17.cell? ⟨gb241, 0, none⟩ = some (.string a0_0) := (zI BK241.out 0).trans rfl; have hcz18_1 : w17.cell? ⟨gb241, 1, none⟩ = some (.int .i64 a0_1) := (zI BK241.out 1).trans rfl; have hcz18_2 : w17.cell? ⟨gb241, 2, none⟩ = some (.int .i64 a0_2) := (zI BK241.out 2).trans rfl; have hcz18_3 : w17.cell? ⟨gb241, 3, none⟩ = some (.int .i64 a0_3) := (zI BK241.out 3).trans rfl; have hfz18_0 := zH BK241.out 0; have hfz18_1 := zH BK241.out 1; have hfz18_2 := zH BK241.out 2; have hfz18_3 := zH BK241.out 3) | (go_at_call 74; (with_reducible refine (spec_exWord.calls a0_3 t243 _ A16.out).mono ?_); rintro e w' ⟨rfl, ⟨nd, rfl⟩⟩))
     go_ret
     exact ⟨yd, yp⟩
    ·rw [if_neg c15] at H
     have c15b0 : (a0_2 == 0) = false := beq_eq_false_iff_ne.mpr c15
     have c15b1 : (a0_2 != 0) = true := bne_iff_ne.mpr c15
     obtain rfl := Option.some.inj H
     go_enter Try.func111, Try.ntmps111
     go_wp2_with (first | ((with_reducible refine gate_dst (N := 2) rfl ?_); refine box_event ?hg (N := 2) ?hd (cs := #[.string a0_0, .int .i64 a0_1, .int .i64 a0_2, .int .i64 a0_3]) (t := 47) ?hr ?_; (case hd | hg => rfl); (case hr => exact xxa); intro gb241 hg w19 hbox hb; have n0_ := zK (zL ya hb); have n1_ := zK (hbox); have n2_ := zK ((by rw [hg]; exact (zN ya) : w.heap.size ≤ gb241)); have n3_ := n2_; clear HB; have HB := n0_; have BK241 := n1_; have GW241 := n2_; have GE241 := n3_; clear n0_ n1_ n2_ n3_; clear hb hbox hg; have hcz20_0 : w19.cell? ⟨gb241, 0, none⟩ = some (.string a0_0) := (zI BK241.out 0).trans rfl; have hcz20_1 : w19.cell? ⟨gb241, 1, none⟩ = some (.int .i64 a0_1) := (zI BK241.out 1).trans rfl; have hcz20_2 : w19.cell? ⟨gb241, 2, none⟩ = some (.int .i64 a0_2) := (zI BK241.out 2).trans rfl; have hcz20_3 : w19.cell? ⟨gb241, 3, none⟩ = some (.int .i64 a0_3) := (zI BK241.out 3).trans rfl; have hfz20_0 := zH BK241.out 0; have hfz20_1 := zH BK241.out 1; have hfz20_2 := zH BK241.out 2; have hfz20_3 := zH BK241.out 3))
     go_ret
     exact ⟨yd, yp⟩
   ·rw [if_neg c14] at H
    have c14b0 : (a0_1 == 0) = false := beq_eq_false_iff_ne.mpr c14
    have c14b1 : (a0_1 != 0) = true := bne_iff_ne.mpr c14
    obtain rfl := Option.some.inj H
    go_enter Try.func111, Try.ntmps111
    go_wp2_with (first | ((with_reducible refine gate_dst (N := 2) rfl ?_); refine box_event ?hg (N := 2) ?hd (cs := #[.string a0_0, .int .i64 a0_1, .int .i64 a0_2, .int .i64 a0_3]) (t := 47) ?hr ?_; (case hd | hg => rfl); (case hr => exact xxa); intro gb241 hg w21 hbox hb; have n0_ := zK (zL ya hb); have n1_ := zK (hbox); have n2_ := zK ((by rw [hg]; exact (zN ya) : w.heap.size ≤ gb241)); have n3_ := n2_; clear HB; have HB := n0_; have BK241 := n1_; have GW241 := n2_; have GE241 := n3_; clear n0_ n1_ n2_ n3_; clear hb hbox hg; have hcz22_0 : w21.cell? ⟨gb241, 0, none⟩ = some (.string a0_0) := (zI BK241.out 0).trans rfl; have hcz22_1 : w21.cell? ⟨gb241, 1, none⟩ = some (.int .i64 a0_1) := (zI BK241.out 1).trans rfl; have hcz22_2 : w21.cell? ⟨gb241, 2, none⟩ = some (.int .i64 a0_2) := (zI BK241.out 2).trans rfl; have hcz22_3 : w21.cell? ⟨gb241, 3, none⟩ = some (.int .i64 a0_3) := (zI BK241.out 3).trans rfl; have hfz22_0 := zH BK241.out 0; have hfz22_1 := zH BK241.out 1; have hfz22_2 := zH BK241.out 2; have hfz22_3 := zH BK241.out 3))
    go_ret
    exact ⟨yd, yp⟩
  ·rw [if_neg c13] at H
   have c13b0 : (a0_0.toList == ([99, 111, 110, 115, 116] : List UInt8)) = false := beq_eq_false_iff_ne.mpr c13
   have c13b1 : (a0_0.toList != ([99, 111, 110, 115, 116] : List UInt8)) = true := bne_iff_ne.mpr c13
   replace H := Option.bind_eq_some_iff.mp H
   obtain ⟨t244, A230, H⟩ := H
   replace H : (if t244 = true then ((spec_l1In.f a0_1 0 (wrap64 (a1 - 1))).bind fun t245 => (if t245 = true then (if a0_2 = 0 then (some (a0_3 == 0)) else (some false)) else (some false))) else ((spec_exTwo.f k a0_0).bind fun t246 => (if t246 = true then ((spec_l1In.f a0_1 0 (wrap64 (a1 - 1))).bind fun t247 => (if t247 = true then ((spec_l1In.f a0_2 0 (wrap64 (a1 - 1))).bind fun t248 => (if t248 = true then (some (a0_3 == 0)) else (some false))) else (some false))) else (some false)))) = some r := H
   have A23 := zK A230
   clear A230
   by_cases c24 : t244 = true
   ·subst c24
    rw [if_pos rfl] at H
    replace H := Option.bind_eq_some_iff.mp H
    obtain ⟨t245, A250, H⟩ := H
    replace H : (if t245 = true then (if a0_2 = 0 then (some (a0_3 == 0)) else (some false)) else (some false)) = some r := H
    have A25 := zK A250
    clear A250
    by_cases c26 : t245 = true
    ·subst c26
     rw [if_pos rfl] at H
     by_cases c27 : a0_2 = 0
     ·rw [if_pos c27] at H
      have c27b0 : (a0_2 == 0) = true := beq_iff_eq.mpr c27
      have c27b1 : (a0_2 != 0) = false := bne_eq_false_iff_eq.mpr c27
      clear c27
      obtain rfl := Option.some.inj H
      go_enter Try.func111, Try.ntmps111
      go_wp2_with (first | ((with_reducible refine gate_dst (N := 2) rfl ?_); refine box_event ?hg (N := 2) ?hd (cs := #[.string a0_0, .int .i64 a0_1, .int .i64 a0_2, .int .i64 a0_3]) (t := 47) ?hr ?_; (case hd | hg => rfl); (case hr => exact xxa); intro gb241 hg w28 hbox hb; have n0_ := zK (zL ya hb); have n1_ := zK (hbox); have n2_ := zK ((by rw [hg]; exact (zN ya) : w.heap.size ≤ gb241)); have n3_ := n2_; clear HB; have HB := n0_; have BK241 := n1_; have GW241 := n2_; have GE241 := n3_; clear n0_ n1_ n2_ n3_; clear hb hbox hg; have hcz29_0 : w28.cell? ⟨gb241, 0, none⟩ = some (.string a0_0) := (zI BK241.out 0).trans rfl; have hcz29_1 : w28.cell? ⟨gb241, 1, none⟩ = some (.int .i64 a0_1) := (zI BK241.out 1).trans rfl; have hcz29_2 : w28.cell? ⟨gb241, 2, none⟩ = some (.int .i64 a0_2) := (zI BK241.out 2).trans rfl; have hcz29_3 : w28.cell? ⟨gb241, 3, none⟩ = some (.int .i64 a0_3) := (zI BK241.out 3).trans rfl; have hfz29_0 := zH BK241.out 0; have hfz29_1 := zH BK241.out 1; have hfz29_2 := zH BK241.out 2; have hfz29_3 := zH BK241.out 3) | ((with_reducible refine gate_callee (f := 80) rfl ?_); refine goesL_ (some 42) rfl rfl Try.func80 yi rfl #[.string a0_0] rfl yb ?_; (with_reducible refine (spec_exOne.calls a0_0 true _ A23.out).mono ?_); rintro e w' ⟨rfl, ⟨nd, rfl⟩⟩; refine ⟨_, rfl, ?_⟩) | ((with_reducible refine gate_callee (f := 61) rfl ?_); refine goesL_ (some 47) rfl rfl Try.func61 yi rfl #[.int .i64 a0_1, .int .i64 0, .int .i64 (wrap64 (a1 - 1))] rfl yb ?_; (with_reducible refine (spec_l1In.calls a0_1 0 (wrap64 (a1 - 1)) true _ A25.out).mono ?_); rintro e w' ⟨rfl, ⟨nd, rfl⟩⟩; refine ⟨_, rfl, ?_⟩))
      go_ret
      exact ⟨yd, yp⟩
     ·rw [if_neg c27] at H
      have c27b0 : (a0_2 == 0) = false := beq_eq_false_iff_ne.mpr c27
      have c27b1 : (a0_2 != 0) = true := bne_iff_ne.mpr c27
      obtain rfl := Option.some.inj H
      go_enter Try.func111, Try.ntmps111
      go_wp2_with (first | ((with_reducible refine gate_dst (N := 2) rfl ?_); refine box_event ?hg (N := 2) ?hd (cs := #[.string a0_0, .int .i64 a0_1, .int .i64 a0_2, .int .i64 a0_3]) (t := 47) ?hr ?_; (case hd | hg => rfl); (case hr => exact xxa); intro gb241 hg w30 hbox hb; have n0_ := zK (zL ya hb); have n1_ := zK (hbox); have n2_ := zK ((by rw [hg]; exact (zN ya) : w.heap.size ≤ gb241)); have n3_ := n2_; clear HB; have HB := n0_; have BK241 := n1_; have GW241 := n2_; have GE241 := n3_; clear n0_ n1_ n2_ n3_; clear hb hbox hg; have hcz31_0 : w30.cell? ⟨gb241, 0, none⟩ = some (.string a0_0) := (zI BK241.out 0).trans rfl; have hcz31_1 : w30.cell? ⟨gb241, 1, none⟩ = some (.int .i64 a0_1) := (zI BK241.out 1).trans rfl; have hcz31_2 : w30.cell? ⟨gb241, 2, none⟩ = some (.int .i64 a0_2) := (zI BK241.out 2).trans rfl; have hcz31_3 : w30.cell? ⟨gb241, 3, none⟩ = some (.int .i64 a0_3) := (zI BK241.out 3).trans rfl; have hfz31_0 := zH BK241.out 0; have hfz31_1 := zH BK241.out 1; have hfz31_2 := zH BK241.out 2; have hfz31_3 := zH BK241.out 3) | ((with_reducible refine gate_callee (f := 80) rfl ?_); refine goesL_ (some 42) rfl rfl Try.func80 yi rfl #[.string a0_0] rfl yb ?_; (with_reducible refine (spec_exOne.calls a0_0 true _ A23.out).mono ?_); rintro e w' ⟨rfl, ⟨nd, rfl⟩⟩; refine ⟨_, rfl, ?_⟩) | ((with_reducible refine gate_callee (f := 61) rfl ?_); refine goesL_ (some 47) rfl rfl Try.func61 yi rfl #[.int .i64 a0_1, .int .i64 0, .int .i64 (wrap64 (a1 - 1))] rfl yb ?_; (with_reducible refine (spec_l1In.calls a0_1 0 (wrap64 (a1 - 1)) true _ A25.out).mono ?_); rintro e w' ⟨rfl, ⟨nd, rfl⟩⟩; refine ⟨_, rfl, ?_⟩))
      go_ret
      exact ⟨yd, yp⟩
    ·replace c26 := Bool.eq_false_iff.mpr c26
     subst c26
     rw [if_neg (show ¬ (false = true) by decide)] at H
     obtain rfl := Option.some.inj H
     go_enter Try.func111, Try.ntmps111
     go_wp2_with (first | ((with_reducible refine gate_dst (N := 2) rfl ?_); refine box_event ?hg (N := 2) ?hd (cs := #[.string a0_0, .int .i64 a0_1, .int .i64 a0_2, .int .i64 a0_3]) (t := 47) ?hr ?_; (case hd | hg => rfl); (case hr => exact xxa); intro gb241 hg w32 hbox hb; have n0_ := zK (zL ya hb); have n1_ := zK (hbox); have n2_ := zK ((by rw [hg]; exact (zN ya) : w.heap.size ≤ gb241)); have n3_ := n2_; clear HB; have HB := n0_; have BK241 := n1_; have GW241 := n2_; have GE241 := n3_; clear n0_ n1_ n2_ n3_; clear hb hbox hg; have hcz33_0 : w32.cell? ⟨gb241, 0, none⟩ = some (.string a0_0) := (zI BK241.out 0).trans rfl; have hcz33_1 : w32.cell? ⟨gb241, 1, none⟩ = some (.int .i64 a0_1) := (zI BK241.out 1).trans rfl; have hcz33_2 : w32.cell? ⟨gb241, 2, none⟩ = some (.int .i64 a0_2) := (zI BK241.out 2).trans rfl; have hcz33_3 : w32.cell? ⟨gb241, 3, none⟩ = some (.int .i64 a0_3) := (zI BK241.out 3).trans rfl; have hfz33_0 := zH BK241.out 0; have hfz33_1 := zH BK241.out 1; have hfz33_2 := zH BK241.out 2; have hfz33_3 := zH BK241.out 3) | ((with_reducible refine gate_callee (f := 80) rfl ?_); refine goesL_ (some 42) rfl rfl Try.func80 yi rfl #[.string a0_0] rfl yb ?_; (with_reducible refine (spec_exOne.calls a0_0 true _ A23.out).mono ?_); rintro e w' ⟨rfl, ⟨nd, rfl⟩⟩; refine ⟨_, rfl, ?_⟩) | ((with_reducible refine gate_callee (f := 61) rfl ?_); refine goesL_ (some 47) rfl rfl Try.func61 yi rfl #[.int .i64 a0_1, .int .i64 0, .int .i64 (wrap64 (a1 - 1))] rfl yb ?_; (with_reducible refine (spec_l1In.calls a0_1 0 (wrap64 (a1 - 1)) false _ A25.out).mono ?_); rintro e w' ⟨rfl, ⟨nd, rfl⟩⟩; refine ⟨_, rfl, ?_⟩))
     go_ret
     exact ⟨yd, yp⟩
   ·replace c24 := Bool.eq_false_iff.mpr c24
    subst c24
    rw [if_neg (show ¬ (false = true) by decide)] at H
    replace H := Option.bind_eq_some_iff.mp H
    obtain ⟨t246, A340, H⟩ := H
    replace H : (if t246 = true then ((spec_l1In.f a0_1 0 (wrap64 (a1 - 1))).bind fun t247 => (if t247 = true then ((spec_l1In.f a0_2 0 (wrap64 (a1 - 1))).bind fun t248 => (if t248 = true then (some (a0_3 == 0)) else (some false))) else (some false))) else (some false)) = some r := H
    have A34 := zK A340
    clear A340
    by_cases c35 : t246 = true
    ·subst c35
     rw [if_pos rfl] at H
     replace H := Option.bind_eq_some_iff.mp H
     obtain ⟨t247, A360, H⟩ := H
     replace H : (if t247 = true then ((spec_l1In.f a0_2 0 (wrap64 (a1 - 1))).bind fun t248 => (if t248 = true then (some (a0_3 == 0)) else (some false))) else (some false)) = some r := H
     have A36 := zK A360
     clear A360
     by_cases c37 : t247 = true
     ·subst c37
      rw [if_pos rfl] at H
      replace H := Option.bind_eq_some_iff.mp H
      obtain ⟨t248, A380, H⟩ := H
      replace H : (if t248 = true then (some (a0_3 == 0)) else (some false)) = some r := H
      have A38 := zK A380
      clear A380
      by_cases c39 : t248 = true
      ·subst c39
       rw [if_pos rfl] at H
       obtain rfl := Option.some.inj H
       go_enter Try.func111, Try.ntmps111
       go_wp2_with (first | ((with_reducible refine gate_dst (N := 2) rfl ?_); refine box_event ?hg (N := 2) ?hd (cs := #[.string a0_0, .int .i64 a0_1, .int .i64 a0_2, .int .i64 a0_3]) (t := 47) ?hr ?_; (case hd | hg => rfl); (case hr => exact xxa); intro gb241 hg w40 hbox hb; have n0_ := zK (zL ya hb); have n1_ := zK (hbox); have n2_ := zK ((by rw [hg]; exact (zN ya) : w.heap.size ≤ gb241)); have n3_ := n2_; clear HB; have HB := n0_; have BK241 := n1_; have GW241 := n2_; have GE241 := n3_; clear n0_ n1_ n2_ n3_; clear hb hbox hg; have hcz41_0 : w40.cell? ⟨gb241, 0, none⟩ = some (.string a0_0) := (zI BK241.out 0).trans rfl; have hcz41_1 : w40.cell? ⟨gb241, 1, none⟩ = some (.int .i64 a0_1) := (zI BK241.out 1).trans rfl; have hcz41_2 : w40.cell? ⟨gb241, 2, none⟩ = some (.int .i64 a0_2) := (zI BK241.out 2).trans rfl; have hcz41_3 : w40.cell? ⟨gb241, 3, none⟩ = some (.int .i64 a0_3) := (zI BK241.out 3).trans rfl; have hfz41_0 := zH BK241.out 0; have hfz41_1 := zH BK241.out 1; have hfz41_2 := zH BK241.out 2; have hfz41_3 := zH BK241.out 3) | ((with_reducible refine gate_callee (f := 80) rfl ?_); refine goesL_ (some 42) rfl rfl Try.func80 yi rfl #[.string a0_0] rfl yb ?_; (with_reducible refine (spec_exOne.calls a0_0 false _ A23.out).mono ?_); rintro e w' ⟨rfl, ⟨nd, rfl⟩⟩; refine ⟨_, rfl, ?_⟩) | ((with_reducible refine gate_callee (f := 86) rfl ?_); refine goesL_ (some 60) rfl rfl Try.func86 yi rfl #[.string a0_0] rfl yb ?_; (with_reducible refine (spec_exTwo.calls k a0_0 true _ A34.out).mono ?_); rintro e w42 ⟨rfl, hb⟩; refine ⟨_, rfl, ?_⟩; have n0_ := zK (zM (g := gb241) (o := .cells #[.string a0_0, .int .i64 a0_1, .int .i64 a0_2, .int .i64 a0_3] 47 (0, 0)) (yS BK241.out) hb); have n1_ := zK (zL yp hb); clear BK241; clear HB; have BK241 := n0_; have HB := n1_; clear n0_ n1_; (try clear hb); (try clear hb2); (try clear hk); (try clear hi); have hcz43_0 : w42.cell? ⟨gb241, 0, none⟩ = some (.string a0_0) := (zI BK241.out 0).trans rfl; have hcz43_1 : w42.cell? ⟨gb241, 1, none⟩ = some (.int .i64 a0_1) := (zI BK241.out 1).trans rfl; have hcz43_2 : w42.cell? ⟨gb241, 2, none⟩ = some (.int .i64 a0_2) := (zI BK241.out 2).trans rfl; have hcz43_3 : w42.cell? ⟨gb241, 3, none⟩ = some (.int .i64 a0_3) := (zI BK241.out 3).trans rfl; have hfz43_0 := zH BK241.out 0; have hfz43_1 := zH BK241.out 1; have hfz43_2 := zH BK241.out 2; have hfz43_3 := zH BK241.out 3) | (go_at_call 61; (with_reducible refine (spec_l1In.calls a0_1 0 (wrap64 (a1 - 1)) true _ A36.out).mono ?_); rintro e w' ⟨rfl, ⟨nd, rfl⟩⟩) | (go_at_call 61; (with_reducible refine (spec_l1In.calls a0_2 0 (wrap64 (a1 - 1)) true _ A38.out).mono ?_); rintro e w' ⟨rfl, ⟨nd, rfl⟩⟩))
       go_ret
       exact ⟨yd, yp⟩
      ·replace c39 := Bool.eq_false_iff.mpr c39
       subst c39
       rw [if_neg (show ¬ (false = true) by decide)] at H
       obtain rfl := Option.some.inj H
       go_enter Try.func111, Try.ntmps111
       go_wp2_with (first | ((with_reducible refine gate_dst (N := 2) rfl ?_); refine box_event ?hg (N := 2) ?hd (cs := #[.string a0_0, .int .i64 a0_1, .int .i64 a0_2, .int .i64 a0_3]) (t := 47) ?hr ?_; (case hd | hg => rfl); (case hr => exact xxa); intro gb241 hg w44 hbox hb; have n0_ := zK (zL ya hb); have n1_ := zK (hbox); have n2_ := zK ((by rw [hg]; exact (zN ya) : w.heap.size ≤ gb241)); have n3_ := n2_; clear HB; have HB := n0_; have BK241 := n1_; have GW241 := n2_; have GE241 := n3_; clear n0_ n1_ n2_ n3_; clear hb hbox hg; have hcz45_0 : w44.cell? ⟨gb241, 0, none⟩ = some (.string a0_0) := (zI BK241.out 0).trans rfl; have hcz45_1 : w44.cell? ⟨gb241, 1, none⟩ = some (.int .i64 a0_1) := (zI BK241.out 1).trans rfl; have hcz45_2 : w44.cell? ⟨gb241, 2, none⟩ = some (.int .i64 a0_2) := (zI BK241.out 2).trans rfl; have hcz45_3 : w44.cell? ⟨gb241, 3, none⟩ = some (.int .i64 a0_3) := (zI BK241.out 3).trans rfl; have hfz45_0 := zH BK241.out 0; have hfz45_1 := zH BK241.out 1; have hfz45_2 := zH BK241.out 2; have hfz45_3 := zH BK241.out 3) | ((with_reducible refine gate_callee (f := 80) rfl ?_); refine goesL_ (some 42) rfl rfl Try.func80 yi rfl #[.string a0_0] rfl yb ?_; (with_reducible refine (spec_exOne.calls a0_0 false _ A23.out).mono ?_); rintro e w' ⟨rfl, ⟨nd, rfl⟩⟩; refine ⟨_, rfl, ?_⟩) | ((with_reducible refine gate_callee (f := 86) rfl ?_); refine goesL_ (some 60) rfl rfl Try.func86 yi rfl #[.string a0_0] rfl yb ?_; (with_reducible refine (spec_exTwo.calls k a0_0 true _ A34.out).mono ?_); rintro e w46 ⟨rfl, hb⟩; refine ⟨_, rfl, ?_⟩; have n0_ := zK (zM (g := gb241) (o := .cells #[.string a0_0, .int .i64 a0_1, .int .i64 a0_2, .int .i64 a0_3] 47 (0, 0)) (yS BK241.out) hb); have n1_ := zK (zL yp hb); clear BK241; clear HB; have BK241 := n0_; have HB := n1_; clear n0_ n1_; (try clear hb); (try clear hb2); (try clear hk); (try clear hi); have hcz47_0 : w46.cell? ⟨gb241, 0, none⟩ = some (.string a0_0) := (zI BK241.out 0).trans rfl; have hcz47_1 : w46.cell? ⟨gb241, 1, none⟩ = some (.int .i64 a0_1) := (zI BK241.out 1).trans rfl; have hcz47_2 : w46.cell? ⟨gb241, 2, none⟩ = some (.int .i64 a0_2) := (zI BK241.out 2).trans rfl; have hcz47_3 : w46.cell? ⟨gb241, 3, none⟩ = some (.int .i64 a0_3) := (zI BK241.out 3).trans rfl; have hfz47_0 := zH BK241.out 0; have hfz47_1 := zH BK241.out 1; have hfz47_2 := zH BK241.out 2; have hfz47_3 := zH BK241.out 3) | (go_at_call 61; (with_reducible refine (spec_l1In.calls a0_1 0 (wrap64 (a1 - 1)) true _ A36.out).mono ?_); rintro e w' ⟨rfl, ⟨nd, rfl⟩⟩) | (go_at_call 61; (with_reducible refine (spec_l1In.calls a0_2 0 (wrap64 (a1 - 1)) false _ A38.out).mono ?_); rintro e w' ⟨rfl, ⟨nd, rfl⟩⟩))
       go_ret
       exact ⟨yd, yp⟩
     ·replace c37 := Bool.eq_false_iff.mpr c37
      subst c37
      rw [if_neg (show ¬ (false = true) by decide)] at H
      obtain rfl := Option.some.inj H
      go_enter Try.func111, Try.ntmps111
      go_wp2_with (first | ((with_reducible refine gate_dst (N := 2) rfl ?_); refine box_event ?hg (N := 2) ?hd (cs := #[.string a0_0, .int .i64 a0_1, .int .i64 a0_2, .int .i64 a0_3]) (t := 47) ?hr ?_; (case hd | hg => rfl); (case hr => exact xxa); intro gb241 hg w48 hbox hb; have n0_ := zK (zL ya hb); have n1_ := zK (hbox); have n2_ := zK ((by rw [hg]; exact (zN ya) : w.heap.size ≤ gb241)); have n3_ := n2_; clear HB; have HB := n0_; have BK241 := n1_; have GW241 := n2_; have GE241 := n3_; clear n0_ n1_ n2_ n3_; clear hb hbox hg; have hcz49_0 : w48.cell? ⟨gb241, 0, none⟩ = some (.string a0_0) := (zI BK241.out 0).trans rfl; have hcz49_1 : w48.cell? ⟨gb241, 1, none⟩ = some (.int .i64 a0_1) := (zI BK241.out 1).trans rfl; have hcz49_2 : w48.cell? ⟨gb241, 2, none⟩ = some (.int .i64 a0_2) := (zI BK241.out 2).trans rfl; have hcz49_3 : w48.cell? ⟨gb241, 3, none⟩ = some (.int .i64 a0_3) := (zI BK241.out 3).trans rfl; have hfz49_0 := zH BK241.out 0; have hfz49_1 := zH BK241.out 1; have hfz49_2 := zH BK241.out 2; have hfz49_3 := zH BK241.out 3) | ((with_reducible refine gate_callee (f := 80) rfl ?_); refine goesL_ (some 42) rfl rfl Try.func80 yi rfl #[.string a0_0] rfl yb ?_; (with_reducible refine (spec_exOne.calls a0_0 false _ A23.out).mono ?_); rintro e w' ⟨rfl, ⟨nd, rfl⟩⟩; refine ⟨_, rfl, ?_⟩) | ((with_reducible refine gate_callee (f := 86) rfl ?_); refine goesL_ (some 60) rfl rfl Try.func86 yi rfl #[.string a0_0] rfl yb ?_; (with_reducible refine (spec_exTwo.calls k a0_0 true _ A34.out).mono ?_); rintro e w50 ⟨rfl, hb⟩; refine ⟨_, rfl, ?_⟩; have n0_ := zK (zM (g := gb241) (o := .cells #[.string a0_0, .int .i64 a0_1, .int .i64 a0_2, .int .i64 a0_3] 47 (0, 0)) (yS BK241.out) hb); have n1_ := zK (zL yp hb); clear BK241; clear HB; have BK241 := n0_; have HB := n1_; clear n0_ n1_; (try clear hb); (try clear hb2); (try clear hk); (try clear hi); have hcz51_0 : w50.cell? ⟨gb241, 0, none⟩ = some (.string a0_0) := (zI BK241.out 0).trans rfl; have hcz51_1 : w50.cell? ⟨gb241, 1, none⟩ = some (.int .i64 a0_1) := (zI BK241.out 1).trans rfl; have hcz51_2 : w50.cell? ⟨gb241, 2, none⟩ = some (.int .i64 a0_2) := (zI BK241.out 2).trans rfl; have hcz51_3 : w50.cell? ⟨gb241, 3, none⟩ = some (.int .i64 a0_3) := (zI BK241.out 3).trans rfl; have hfz51_0 := zH BK241.out 0; have hfz51_1 := zH BK241.out 1; have hfz51_2 := zH BK241.out 2; have hfz51_3 := zH BK241.out 3) | (go_at_call 61; (with_reducible refine (spec_l1In.calls a0_1 0 (wrap64 (a1 - 1)) false _ A36.out).mono ?_); rintro e w' ⟨rfl, ⟨nd, rfl⟩⟩))
      go_ret
      exact ⟨yd, yp⟩
    ·replace c35 := Bool.eq_false_iff.mpr c35
     subst c35
     rw [if_neg (show ¬ (false = true) by decide)] at H
     obtain rfl := Option.some.inj H
     go_enter Try.func111, Try.ntmps111
     go_wp2_with (first | ((with_reducible refine gate_dst (N := 2) rfl ?_); refine box_event ?hg (N := 2) ?hd (cs := #[.string a0_0, .int .i64 a0_1, .int .i64 a0_2, .int .i64 a0_3]) (t := 47) ?hr ?_; (case hd | hg => rfl); (case hr => exact xxa); intro gb241 hg w52 hbox hb; have n0_ := zK (zL ya hb); have n1_ := zK (hbox); have n2_ := zK ((by rw [hg]; exact (zN ya) : w.heap.size ≤ gb241)); have n3_ := n2_; clear HB; have HB := n0_; have BK241 := n1_; have GW241 := n2_; have GE241 := n3_; clear n0_ n1_ n2_ n3_; clear hb hbox hg; have hcz53_0 : w52.cell? ⟨gb241, 0, none⟩ = some (.string a0_0) := (zI BK241.out 0).trans rfl; have hcz53_1 : w52.cell? ⟨gb241, 1, none⟩ = some (.int .i64 a0_1) := (zI BK241.out 1).trans rfl; have hcz53_2 : w52.cell? ⟨gb241, 2, none⟩ = some (.int .i64 a0_2) := (zI BK241.out 2).trans rfl; have hcz53_3 : w52.cell? ⟨gb241, 3, none⟩ = some (.int .i64 a0_3) := (zI BK241.out 3).trans rfl; have hfz53_0 := zH BK241.out 0; have hfz53_1 := zH BK241.out 1; have hfz53_2 := zH BK241.out 2; have hfz53_3 := zH BK241.out 3) | ((with_reducible refine gate_callee (f := 80) rfl ?_); refine goesL_ (some 42) rfl rfl Try.func80 yi rfl #[.string a0_0] rfl yb ?_; (with_reducible refine (spec_exOne.calls a0_0 false _ A23.out).mono ?_); rintro e w' ⟨rfl, ⟨nd, rfl⟩⟩; refine ⟨_, rfl, ?_⟩) | ((with_reducible refine gate_callee (f := 86) rfl ?_); refine goesL_ (some 60) rfl rfl Try.func86 yi rfl #[.string a0_0] rfl yb ?_; (with_reducible refine (spec_exTwo.calls k a0_0 false _ A34.out).mono ?_); rintro e w54 ⟨rfl, hb⟩; refine ⟨_, rfl, ?_⟩; have n0_ := zK (zM (g := gb241) (o := .cells #[.string a0_0, .int .i64 a0_1, .int .i64 a0_2, .int .i64 a0_3] 47 (0, 0)) (yS BK241.out) hb); have n1_ := zK (zL yp hb); clear BK241; clear HB; have BK241 := n0_; have HB := n1_; clear n0_ n1_; (try clear hb); (try clear hb2); (try clear hk); (try clear hi)))
     go_ret
     exact ⟨yd, yp⟩

/-! ### spec_l1Has: function 112 -/
def spec_l1Has.l0 : Nat → Int → List Int → Int → Int → Option (Bool)
 | 0, _, _, _, _ => none
 | k + 1, x1, x7, x8, x9 => if x9 < x8 then (if 0 ≤ x9 then (if x9 < (x7.length : Int) then (if (rd x7 x9) = x1 then (some true) else (spec_l1Has.l0 k x1 x7 x8 (wrap64 (x9 + 1)))) else (none)) else (none)) else (some false)
def spec_l1Has.f (k : Nat) (l0 : List Int) (a1 : Int) : Option (Bool) := spec_l1Has.l0 k a1 l0 (l0.length : Int) 0
set_option maxHeartbeats 8000000 in
set_option maxRecDepth 100000 in
theorem spec_l1Has.calls (k : Nat) (A0 : Option Addr) (c0 : Nat) (l0 : List Int) (a1 : Int) (r : Bool) (w : World) (hr0 : Kd.C (Kd.int .i64) w A0 l0.length l0) (hc0 : l0.length ≤ c0) (h : spec_l1Has.f k l0 a1 = some r) :
  Calls Try.prog 112 #[.slice A0 l0.length c0, .int .i64 a1] w fun e w' => e = .returned (.bool r) ∧ Drawn0 w w' := by
 have HR0 := zK hr0
 have HC0 := zK hc0
 clear hr0 hc0
 have H : (spec_l1Has.l0 k a1 l0 (l0.length : Int) 0) = some r := h
 clear h
 have H' := zK H
 clear H
 go_enter Try.func112, Try.ntmps112
 go_wp2
 go_loopg [9] k (fun kq v9 w' => ∃ (x9_1 : Int), v9 = .int .i64 x9_1 ∧ Aside0 (spec_l1Has.l0 kq a1 l0 (l0.length : Int) x9_1 = some r) ∧ Aside0 (kq ≤ k) ∧ Drawn0 w w')
 case atStart => exact ⟨(0), ye, H', ⟨Nat.le_refl _⟩, yg⟩
 case round =>
  clear H'
  try clear c1
  try clear p2
  obtain ⟨x9_1, rfl, HA, HK1, ⟨m1, rfl⟩⟩ := hrel
  cases gk with
  | zero => exact absurd HA.out (by simp [spec_l1Has.l0])
  | succ k1 =>
   have H := HA.out
   clear HA
   simp only [spec_l1Has.l0] at H
   by_cases c3 : x9_1 < (l0.length : Int)
   ·rw [if_pos c3] at H
    have c3b0 : decide (x9_1 < (l0.length : Int)) = true := decide_eq_true c3
    clear c3
    by_cases c4 : 0 ≤ x9_1
    ·rw [if_pos c4] at H
     have c4b0 : decide (0 ≤ x9_1) = true := decide_eq_true c4
     clear c4
     by_cases c5 : x9_1 < (l0.length : Int)
     ·rw [if_pos c5] at H
      have c5b0 : decide (x9_1 < (l0.length : Int)) = true := decide_eq_true c5
      clear c5
      by_cases c6 : (rd l0 x9_1) = a1
      ·rw [if_pos c6] at H
       have c6b0 : ((rd l0 x9_1) == a1) = true := beq_iff_eq.mpr c6
       have c6b1 : ((rd l0 x9_1) != a1) = false := bne_eq_false_iff_eq.mpr c6
       clear c6
       obtain rfl := Option.some.inj H
       have p249 : 0 ≤ (x9_1 : Int) := zo
       have q249 : x9_1 < (l0.length : Int) := zo
       obtain ⟨ad249, e249, hx249_0⟩ := Kd.at_int HR0.out x9_1 p249 q249
       cases e249
       replace p249 := eq_true p249
       replace q249 := eq_true q249
       go_wp2
       go_ret
       exact ⟨ye, yg⟩
      ·rw [if_neg c6] at H
       have c6b0 : ((rd l0 x9_1) == a1) = false := beq_eq_false_iff_ne.mpr c6
       have c6b1 : ((rd l0 x9_1) != a1) = true := bne_iff_ne.mpr c6
       have H' := zK H
       clear H
       have p249 : 0 ≤ (x9_1 : Int) := zo
       have q249 : x9_1 < (l0.length : Int) := zo
       obtain ⟨ad249, e249, hx249_0⟩ := Kd.at_int HR0.out x9_1 p249 q249
       cases e249
       replace p249 := eq_true p249
       replace q249 := eq_true q249
       go_wp2
       go_roundg k1
       case measure => have := HK1.out; omega
       case rel => exact ⟨(wrap64 (x9_1 + 1)), ye, H', ⟨yb2⟩, yg⟩
     ·rw [if_neg c5] at H
      exact absurd H ye1
    ·rw [if_neg c4] at H
     exact absurd H ye1
   ·rw [if_neg c3] at H
    have c3b0 : decide (x9_1 < (l0.length : Int)) = false := decide_eq_false c3
    clear c3
    obtain rfl := Option.some.inj H
    go_wp2
    go_ret
    exact ⟨ye, yg⟩

end Go.Proofs.Ytlcplhcccgbmnaa.D
