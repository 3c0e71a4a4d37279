/- Contracts: laws_big, laws_pSameExpr, laws_pSame, impl_within, slices_Index_string_string, slices_Contains_string_string, impl_binary, impl_operands, impl_Node_of, impl_uses, impl_isWord, impl_Node_isNode, slices_Index_int_int, slices_Contains_int_int. -/
import Derived.Test.YtlcplhcccgbmnaaDK
namespace Go.Proofs.Ytlcplhcccgbmnaa.D
open Go.RowKit Go.Proofs.YtlcplhcccgbmnaaW.PrintWords Go.Proofs.YtlcplhcccgbmnaaW.PrintLast Go.Proofs.YtlcplhcccgbmnaaW.PrintMore
attribute [local go_sem] max2_int min2_int max_two min_two max_three min_three max_four min_four   -- for this text's walks alone
set_option linter.unusedVariables false
set_option linter.unusedSimpArgs false
attribute [local go_sem high] eqA47

/-! ### laws_big: function 8 -/
def laws_big.f (l0 : List Int) (l1 : List Int) : Option (Bool) := if (l0.length : Int) > 1048576 then (some true) else (some (decide ((l1.length : Int) > (wrap64 (1048576 - (l0.length : Int))))))
set_option maxHeartbeats 8000000 in
set_option maxRecDepth 100000 in
theorem laws_big.calls (A0 : Option Addr) (c0 : Nat) (l0 : List Int) (A1 : Option Addr) (c1 : Nat) (l1 : List Int) (r : Bool) (w : World) (hr0 : Kd.C (Kd.int .u8) w A0 l0.length l0) (hc0 : l0.length ≤ c0) (hr1 : Kd.C (Kd.int .u8) w A1 l1.length l1) (hc1 : l1.length ≤ c1) (h : laws_big.f l0 l1 = some r) :
  Calls Try.prog 8 #[.slice A0 l0.length c0, .slice A1 l1.length c1] w fun e w' => e = .returned (.bool r) ∧ Drawn0 w w' := by
 have HR0 := zK hr0
 have HC0 := zK hc0
 clear hr0 hc0
 have HR1 := zK hr1
 have HC1 := zK hc1
 clear hr1 hc1
 have H : (if (l0.length : Int) > 1048576 then (some true) else (some (decide ((l1.length : Int) > (wrap64 (1048576 - (l0.length : Int))))))) = some r := h
 clear h
 by_cases c3 : (l0.length : Int) > 1048576
 ·rw [if_pos c3] at H
  have c3b0 : decide (1048576 < (l0.length : Int)) = true := decide_eq_true c3
  have c3b1 : decide (1048576 < l0.length) = true := decide_eq_true (by omega)
  clear c3
  obtain rfl := Option.some.inj H
  go_enter Try.func8, Try.ntmps8
  go_wp2
  go_ret
  exact ⟨ye, yg⟩
 ·rw [if_neg c3] at H
  have c3b0 : decide (1048576 < (l0.length : Int)) = false := decide_eq_false c3
  have c3b1 : decide (1048576 < l0.length) = false := decide_eq_false (by omega)
  clear c3
  obtain rfl := Option.some.inj H
  go_enter Try.func8, Try.ntmps8
  go_wp2
  go_ret
  exact ⟨ye, yg⟩

/-! ### laws_pSameExpr: function 12 -/
def laws_pSameExpr.l0 : Nat → List (S47) → List (S47) → Int → Int → Option (Bool)
 | 0, _, _, _, _ => none
 | k + 1, x0, x1, x12, x13 => if x13 < x12 then (if 0 ≤ x13 then (if x13 < (x0.length : Int) then (if x13 < (x1.length : Int) then (if (!((((rd_T47 x0 x13).f0).toList) == (((rd_T47 x1 x13).f0).toList)) || (!(((rd_T47 x0 x13).f1) == ((rd_T47 x1 x13).f1)) || (!(((rd_T47 x0 x13).f2) == ((rd_T47 x1 x13).f2)) || (!(((rd_T47 x0 x13).f3) == ((rd_T47 x1 x13).f3)))))) = true then (some false) else (laws_pSameExpr.l0 k x0 x1 x12 (wrap64 (x13 + 1)))) else (none)) else (none)) else (none)) else (some true)
def laws_pSameExpr.f (k : Nat) (l0 : List (S47)) (l1 : List (S47)) : Option (Bool) := if (l0.length : Int) = (l1.length : Int) then (laws_pSameExpr.l0 k l0 l1 (l0.length : Int) 0) else (some false)
set_option maxHeartbeats 8000000 in
set_option maxRecDepth 100000 in
theorem laws_pSameExpr.calls (k : Nat) (A0 : Option Addr) (c0 : Nat) (l0 : List (S47)) (A1 : Option Addr) (c1 : Nat) (l1 : List (S47)) (r : Bool) (w : World) (hr0 : Kd.C k47 w A0 l0.length l0) (hc0 : l0.length ≤ c0) (hr1 : Kd.C k47 w A1 l1.length l1) (hc1 : l1.length ≤ c1) (h : laws_pSameExpr.f k l0 l1 = some r) :
  Calls Try.prog 12 #[.slice A0 l0.length c0, .slice A1 l1.length c1] w fun e w' => e = .returned (.bool r) ∧ Drawn0 w w' := by
 have hu47 := Try.underlying47
 have HR0 := zK hr0
 have HC0 := zK hc0
 clear hr0 hc0
 have HR1 := zK hr1
 have HC1 := zK hc1
 clear hr1 hc1
 have H : (if (l0.length : Int) = (l1.length : Int) then (laws_pSameExpr.l0 k l0 l1 (l0.length : Int) 0) else (some false)) = some r := h
 clear h
 by_cases c3 : (l0.length : Int) = (l1.length : Int)
 ·rw [if_pos c3] at H
  have c3b0 : ((l0.length : Int) == (l1.length : Int)) = true := beq_iff_eq.mpr c3
  have c3b1 : ((l0.length : Int) != (l1.length : Int)) = false := bne_eq_false_iff_eq.mpr c3
  have c3b2 : (l0.length == l1.length) = true := by first | simpa using c3 | (simp at c3 ⊢; omega)
  clear c3
  have H' := zK H
  clear H
  go_enter Try.func12, Try.ntmps12
  go_wp2
  repeat (go_quiet (fail); try go_wp2)
  go_loopg [13] k (fun kq v13 w' => ∃ (x13_1 : Int), v13 = .int .i64 x13_1 ∧ Aside0 (laws_pSameExpr.l0 kq l0 l1 (l0.length : Int) x13_1 = some r) ∧ Aside0 (kq ≤ k) ∧ Drawn0 w w')
  case atStart => exact ⟨(0), ye, H', ⟨Nat.le_refl _⟩, yg⟩
  case round =>
   clear H'
   try clear c1
   try clear p2
   try clear c3
   try clear c3b0
   try clear c3b1
   try clear c3b2
   obtain ⟨x13_1, rfl, HA, HK1, ⟨m1, rfl⟩⟩ := hrel
   cases gk with
   | zero => exact absurd HA.out (by simp [laws_pSameExpr.l0])
   | succ k1 =>
    have H := HA.out
    clear HA
    simp only [laws_pSameExpr.l0] at H
    by_cases c4 : x13_1 < (l0.length : Int)
    ·rw [if_pos c4] at H
     have c4b0 : decide (x13_1 < (l0.length : Int)) = true := decide_eq_true c4
     clear c4
     by_cases c5 : 0 ≤ x13_1
     ·rw [if_pos c5] at H
      have c5b0 : decide (0 ≤ x13_1) = true := decide_eq_true c5
      clear c5
      by_cases c6 : x13_1 < (l0.length : Int)
      ·rw [if_pos c6] at H
       have c6b0 : decide (x13_1 < (l0.length : Int)) = true := decide_eq_true c6
       clear c6
       by_cases c7 : x13_1 < (l1.length : Int)
       ·rw [if_pos c7] at H
        have c7b0 : decide (x13_1 < (l1.length : Int)) = true := decide_eq_true c7
        clear c7
        by_cases c8 : (!((((rd_T47 l0 x13_1).f0).toList) == (((rd_T47 l1 x13_1).f0).toList)) || (!(((rd_T47 l0 x13_1).f1) == ((rd_T47 l1 x13_1).f1)) || (!(((rd_T47 l0 x13_1).f2) == ((rd_T47 l1 x13_1).f2)) || (!(((rd_T47 l0 x13_1).f3) == ((rd_T47 l1 x13_1).f3)))))) = true
        ·rw [if_pos c8] at H
         have c8b0 : (!((((rd_T47 l0 x13_1).f0).toList) == (((rd_T47 l1 x13_1).f0).toList)) || (!(((rd_T47 l0 x13_1).f1) == ((rd_T47 l1 x13_1).f1)) || (!(((rd_T47 l0 x13_1).f2) == ((rd_T47 l1 x13_1).f2)) || (!(((rd_T47 l0 x13_1).f3) == ((rd_T47 l1 x13_1).f3)))))) = true := c8
         clear c8
         obtain rfl := Option.some.inj H
         have p101 : 0 ≤ (x13_1 : Int) := zo
         have q101 : x13_1 < (l0.length : Int) := zo
         obtain ⟨ad101, e101, hx101_0, hx101_1, hx101_2, hx101_3⟩ := at_T47 HR0.out x13_1 p101 q101
         cases e101
         replace p101 := eq_true p101
         replace q101 := eq_true q101
         have p102 : 0 ≤ (x13_1 : Int) := zo
         have q102 : x13_1 < (l1.length : Int) := zo
         obtain ⟨ad102, e102, hx102_0, hx102_1, hx102_2, hx102_3⟩ := at_T47 HR1.out x13_1 p102 q102
         cases e102
         replace p102 := eq_true p102
         replace q102 := eq_true q102
         go_wp2
         repeat (go_quiet (fail); try go_wp2)
         go_ret
         exact ⟨ye, yg⟩
        ·rw [if_neg c8] at H
         have c8b0 : (!((((rd_T47 l0 x13_1).f0).toList) == (((rd_T47 l1 x13_1).f0).toList)) || (!(((rd_T47 l0 x13_1).f1) == ((rd_T47 l1 x13_1).f1)) || (!(((rd_T47 l0 x13_1).f2) == ((rd_T47 l1 x13_1).f2)) || (!(((rd_T47 l0 x13_1).f3) == ((rd_T47 l1 x13_1).f3)))))) = false := by simpa using c8
         clear c8
         have H' := zK H
         clear H
         have p101 : 0 ≤ (x13_1 : Int) := zo
         have q101 : x13_1 < (l0.length : Int) := zo
         obtain ⟨ad101, e101, hx101_0, hx101_1, hx101_2, hx101_3⟩ := at_T47 HR0.out x13_1 p101 q101
         cases e101
         replace p101 := eq_true p101
         replace q101 := eq_true q101
         have p102 : 0 ≤ (x13_1 : Int) := zo
         have q102 : x13_1 < (l1.length : Int) := zo
         obtain ⟨ad102, e102, hx102_0, hx102_1, hx102_2, hx102_3⟩ := at_T47 HR1.out x13_1 p102 q102
         cases e102
         replace p102 := eq_true p102
         replace q102 := eq_true q102
         go_wp2
         repeat (go_quiet (fail); try go_wp2)
         go_roundg k1
         case measure => have := HK1.out; omega
         case rel => exact ⟨(wrap64 (x13_1 + 1)), ye, H', ⟨yb2⟩, yg⟩
       ·rw [if_neg c7] at H
        exact absurd H ye1
      ·rw [if_neg c6] at H
       exact absurd H ye1
     ·rw [if_neg c5] at H
      exact absurd H ye1
    ·rw [if_neg c4] at H
     have c4b0 : decide (x13_1 < (l0.length : Int)) = false := decide_eq_false c4
     clear c4
     obtain rfl := Option.some.inj H
     go_wp2
     repeat (go_quiet (fail); try go_wp2)
     go_ret
     exact ⟨ye, yg⟩
 ·rw [if_neg c3] at H
  have c3b0 : ((l0.length : Int) == (l1.length : Int)) = false := beq_eq_false_iff_ne.mpr c3
  have c3b1 : ((l0.length : Int) != (l1.length : Int)) = true := bne_iff_ne.mpr c3
  have c3b2 : (l0.length == l1.length) = false := by first | simpa using c3 | (simp at c3 ⊢; omega)
  obtain rfl := Option.some.inj H
  go_enter Try.func12, Try.ntmps12
  go_wp2
  repeat (go_quiet (fail); try go_wp2)
  go_ret
  exact ⟨ye, yg⟩

/-! ### laws_pSame: function 18 -/
def laws_pSame.l0 : Nat → List Int → List Int → Int → Int → Option (Bool)
 | 0, _, _, _, _ => none
 | k + 1, x0, x1, x12, x13 => if x13 < x12 then (if 0 ≤ x13 then (if x13 < (x0.length : Int) then (if x13 < (x1.length : Int) then (if (rd x0 x13) = (rd x1 x13) then (laws_pSame.l0 k x0 x1 x12 (wrap64 (x13 + 1))) else (some false)) else (none)) else (none)) else (none)) else (some true)
def laws_pSame.f (k : Nat) (l0 : List Int) (l1 : List Int) : Option (Bool) := if (l0.length : Int) = (l1.length : Int) then (laws_pSame.l0 k l0 l1 (l0.length : Int) 0) else (some false)
set_option maxHeartbeats 8000000 in
set_option maxRecDepth 100000 in
theorem laws_pSame.calls (k : Nat) (A0 : Option Addr) (c0 : Nat) (l0 : List Int) (A1 : Option Addr) (c1 : Nat) (l1 : List Int) (r : Bool) (w : World) (hr0 : Kd.C (Kd.int .i64) w A0 l0.length l0) (hc0 : l0.length ≤ c0) (hr1 : Kd.C (Kd.int .i64) w A1 l1.length l1) (hc1 : l1.length ≤ c1) (h : laws_pSame.f k l0 l1 = some r) :
  Calls Try.prog 18 #[.slice A0 l0.length c0, .slice A1 l1.length c1] w fun e w' => e = .returned (.bool r) ∧ Drawn0 w w' := by
 have HR0 := zK hr0
 have HC0 := zK hc0
 clear hr0 hc0
 have HR1 := zK hr1
 have HC1 := zK hc1
 clear hr1 hc1
 have H : (if (l0.length : Int) = (l1.length : Int) then (laws_pSame.l0 k l0 l1 (l0.length : Int) 0) else (some false)) = some r := h
 clear h
 by_cases c3 : (l0.length : Int) = (l1.length : Int)
 ·rw [if_pos c3] at H
  have c3b0 : ((l0.length : Int) == (l1.length : Int)) = true := beq_iff_eq.mpr c3
  have c3b1 : ((l0.length : Int) != (l1.length : Int)) = false := bne_eq_false_iff_eq.mpr c3
  have c3b2 : (l0.length == l1.length) = true := by first | simpa using c3 | (simp at c3 ⊢; omega)
  clear c3
  have H' := zK H
  clear H
  go_enter Try.func18, Try.ntmps18
  go_wp2
  repeat (go_quiet (fail); try go_wp2)
  go_loopg [13] k (fun kq v13 w' => ∃ (x13_1 : Int), v13 = .int .i64 x13_1 ∧ Aside0 (laws_pSame.l0 kq l0 l1 (l0.length : Int) x13_1 = some r) ∧ Aside0 (kq ≤ k) ∧ Drawn0 w w')
  case atStart => exact ⟨(0), ye, H', ⟨Nat.le_refl _⟩, yg⟩
  case round =>
   clear H'
   try clear c1
   try clear p2
   try clear c3
   try clear c3b0
   try clear c3b1
   try clear c3b2
   obtain ⟨x13_1, rfl, HA, HK1, ⟨m1, rfl⟩⟩ := hrel
   cases gk with
   | zero => exact absurd HA.out (by simp [laws_pSame.l0])
   | succ k1 =>
    have H := HA.out
    clear HA
    simp only [laws_pSame.l0] at H
    by_cases c4 : x13_1 < (l0.length : Int)
    ·rw [if_pos c4] at H
     have c4b0 : decide (x13_1 < (l0.length : Int)) = true := decide_eq_true c4
     clear c4
     by_cases c5 : 0 ≤ x13_1
     ·rw [if_pos c5] at H
      have c5b0 : decide (0 ≤ x13_1) = true := decide_eq_true c5
      clear c5
      by_cases c6 : x13_1 < (l0.length : Int)
      ·rw [if_pos c6] at H
       have c6b0 : decide (x13_1 < (l0.length : Int)) = true := decide_eq_true c6
       clear c6
       by_cases c7 : x13_1 < (l1.length : Int)
       ·rw [if_pos c7] at H
        have c7b0 : decide (x13_1 < (l1.length : Int)) = true := decide_eq_true c7
        clear c7
        by_cases c8 : (rd l0 x13_1) = (rd l1 x13_1)
        ·rw [if_pos c8] at H
         have c8b0 : ((rd l0 x13_1) == (rd l1 x13_1)) = true := beq_iff_eq.mpr c8
         have c8b1 : ((rd l0 x13_1) != (rd l1 x13_1)) = false := bne_eq_false_iff_eq.mpr c8
         clear c8
         have H' := zK H
         clear H
         have p103 : 0 ≤ (x13_1 : Int) := zo
         have q103 : x13_1 < (l0.length : Int) := zo
         obtain ⟨ad103, e103, hx103_0⟩ := Kd.at_int HR0.out x13_1 p103 q103
         cases e103
         replace p103 := eq_true p103
         replace q103 := eq_true q103
         have p104 : 0 ≤ (x13_1 : Int) := zo
         have q104 : x13_1 < (l1.length : Int) := zo
         obtain ⟨ad104, e104, hx104_0⟩ := Kd.at_int HR1.out x13_1 p104 q104
         cases e104
         replace p104 := eq_true p104
         replace q104 := eq_true q104
         go_wp2
         repeat (go_quiet (fail); try go_wp2)
         go_roundg k1
         case measure => have := HK1.out; omega
         case rel => exact ⟨(wrap64 (x13_1 + 1)), ye, H', ⟨yb2⟩, yg⟩
        ·rw [if_neg c8] at H
         have c8b0 : ((rd l0 x13_1) == (rd l1 x13_1)) = false := beq_eq_false_iff_ne.mpr c8
         have c8b1 : ((rd l0 x13_1) != (rd l1 x13_1)) = true := bne_iff_ne.mpr c8
         obtain rfl := Option.some.inj H
         have p103 : 0 ≤ (x13_1 : Int) := zo
         have q103 : x13_1 < (l0.length : Int) := zo
         obtain ⟨ad103, e103, hx103_0⟩ := Kd.at_int HR0.out x13_1 p103 q103
         cases e103
         replace p103 := eq_true p103
         replace q103 := eq_true q103
         have p104 : 0 ≤ (x13_1 : Int) := zo
         have q104 : x13_1 < (l1.length : Int) := zo
         obtain ⟨ad104, e104, hx104_0⟩ := Kd.at_int HR1.out x13_1 p104 q104
         cases e104
         replace p104 := eq_true p104
         replace q104 := eq_true q104
         go_wp2
         repeat (go_quiet (fail); try go_wp2)
         go_ret
         exact ⟨ye, yg⟩
       ·rw [if_neg c7] at H
        exact absurd H ye1
      ·rw [if_neg c6] at H
       exact absurd H ye1
     ·rw [if_neg c5] at H
      exact absurd H ye1
    ·rw [if_neg c4] at H
     have c4b0 : decide (x13_1 < (l0.length : Int)) = false := decide_eq_false c4
     clear c4
     obtain rfl := Option.some.inj H
     go_wp2
     repeat (go_quiet (fail); try go_wp2)
     go_ret
     exact ⟨ye, yg⟩
 ·rw [if_neg c3] at H
  have c3b0 : ((l0.length : Int) == (l1.length : Int)) = false := beq_eq_false_iff_ne.mpr c3
  have c3b1 : ((l0.length : Int) != (l1.length : Int)) = true := bne_iff_ne.mpr c3
  have c3b2 : (l0.length == l1.length) = false := by first | simpa using c3 | (simp at c3 ⊢; omega)
  obtain rfl := Option.some.inj H
  go_enter Try.func18, Try.ntmps18
  go_wp2
  repeat (go_quiet (fail); try go_wp2)
  go_ret
  exact ⟨ye, yg⟩

/-! ### impl_within: function 56 -/
def impl_within.f (a0 : Int) (a1 : Int) (a2 : Int) : Option (Bool) := if a1 ≤ a0 then (some (decide (a0 ≤ a2))) else (some false)
set_option maxHeartbeats 8000000 in
set_option maxRecDepth 100000 in
theorem impl_within.calls (a0 : Int) (a1 : Int) (a2 : Int) (r : Bool) (w : World) (h : impl_within.f a0 a1 a2 = some r) :
  Calls Try.prog 56 #[.int .i64 a0, .int .i64 a1, .int .i64 a2] w fun e w' => e = .returned (.bool r) ∧ Drawn0 w w' := by
 have H : (if a1 ≤ a0 then (some (decide (a0 ≤ a2))) else (some false)) = some r := h
 clear h
 by_cases c4 : a1 ≤ a0
 ·rw [if_pos c4] at H
  have c4b0 : decide (a1 ≤ a0) = true := decide_eq_true c4
  clear c4
  obtain rfl := Option.some.inj H
  go_enter Try.func56, Try.ntmps56
  go_wp2
  go_ret
  exact ⟨ye, yg⟩
 ·rw [if_neg c4] at H
  have c4b0 : decide (a1 ≤ a0) = false := decide_eq_false c4
  clear c4
  obtain rfl := Option.some.inj H
  go_enter Try.func56, Try.ntmps56
  go_wp2
  go_ret
  exact ⟨ye, yg⟩

/-! ### slices_Index_string_string: function 132 -/
def slices_Index_string_string.l0 : Nat → List ByteArray → ByteArray → Int → Int → Option (Int)
 | 0, _, _, _, _ => none
 | k + 1, x0, x1, x7, x8 => if x8 < x7 then (if 0 ≤ x8 then (if x8 < (x0.length : Int) then (if x1.toList = (rdOf ByteArray.empty x0 x8).toList then (some x8) else (slices_Index_string_string.l0 k x0 x1 x7 (wrap64 (x8 + 1)))) else (none)) else (none)) else (some (-1))
def slices_Index_string_string.f (k : Nat) (l0 : List ByteArray) (a1 : ByteArray) : Option (Int) := slices_Index_string_string.l0 k l0 a1 (l0.length : Int) 0
set_option maxHeartbeats 8000000 in
set_option maxRecDepth 100000 in
theorem slices_Index_string_string.calls (k : Nat) (A0 : Option Addr) (c0 : Nat) (l0 : List ByteArray) (a1 : ByteArray) (r : Int) (w : World) (hr0 : Kd.C Kd.string w A0 l0.length l0) (hc0 : l0.length ≤ c0) (h : slices_Index_string_string.f k l0 a1 = some r) :
  Calls Try.prog 132 #[.slice A0 l0.length c0, .string a1] w fun e w' => e = .returned (.int .i64 r) ∧ Drawn0 w w' := by
 have HR0 := zK hr0
 have HC0 := zK hc0
 clear hr0 hc0
 have H : (slices_Index_string_string.l0 k l0 a1 (l0.length : Int) 0) = some r := h
 clear h
 have H' := zK H
 clear H
 go_enter Try.func132, Try.ntmps132
 go_wp2
 go_loopg [8] k (fun kq v8 w' => ∃ (x8_1 : Int), v8 = .int .i64 x8_1 ∧ Aside0 (slices_Index_string_string.l0 kq l0 a1 (l0.length : Int) x8_1 = some r) ∧ Aside0 (kq ≤ k) ∧ Drawn0 w w')
 case atStart => exact ⟨(0), ye, H', ⟨Nat.le_refl _⟩, yg⟩
 case round =>
  clear H'
  try clear c1
  try clear p2
  obtain ⟨x8_1, rfl, HA, HK1, ⟨m1, rfl⟩⟩ := hrel
  cases gk with
  | zero => exact absurd HA.out (by simp [slices_Index_string_string.l0])
  | succ k1 =>
   have H := HA.out
   clear HA
   simp only [slices_Index_string_string.l0] at H
   by_cases c3 : x8_1 < (l0.length : Int)
   ·rw [if_pos c3] at H
    have c3b0 : decide (x8_1 < (l0.length : Int)) = true := decide_eq_true c3
    clear c3
    by_cases c4 : 0 ≤ x8_1
    ·rw [if_pos c4] at H
     have c4b0 : decide (0 ≤ x8_1) = true := decide_eq_true c4
     clear c4
     by_cases c5 : x8_1 < (l0.length : Int)
     ·rw [if_pos c5] at H
      have c5b0 : decide (x8_1 < (l0.length : Int)) = true := decide_eq_true c5
      clear c5
      by_cases c6 : a1.toList = (rdOf ByteArray.empty l0 x8_1).toList
      ·rw [if_pos c6] at H
       have c6b0 : (a1.toList == (rdOf ByteArray.empty l0 x8_1).toList) = true := beq_iff_eq.mpr c6
       have c6b1 : (a1.toList != (rdOf ByteArray.empty l0 x8_1).toList) = false := bne_eq_false_iff_eq.mpr c6
       clear c6
       obtain rfl := Option.some.inj H
       have p105 : 0 ≤ (x8_1 : Int) := zo
       have q105 : x8_1 < (l0.length : Int) := zo
       obtain ⟨ad105, e105, hx105_0⟩ := Kd.at_string HR0.out x8_1 p105 q105
       cases e105
       replace p105 := eq_true p105
       replace q105 := eq_true q105
       go_wp2
       go_ret
       exact ⟨ye, yg⟩
      ·rw [if_neg c6] at H
       have c6b0 : (a1.toList == (rdOf ByteArray.empty l0 x8_1).toList) = false := beq_eq_false_iff_ne.mpr c6
       have c6b1 : (a1.toList != (rdOf ByteArray.empty l0 x8_1).toList) = true := bne_iff_ne.mpr c6
       have H' := zK H
       clear H
       have p105 : 0 ≤ (x8_1 : Int) := zo
       have q105 : x8_1 < (l0.length : Int) := zo
       obtain ⟨ad105, e105, hx105_0⟩ := Kd.at_string HR0.out x8_1 p105 q105
       cases e105
       replace p105 := eq_true p105
       replace q105 := eq_true q105
       go_wp2
       go_roundg k1
       case measure => have := HK1.out; omega
       case rel => exact ⟨(wrap64 (x8_1 + 1)), ye, H', ⟨yb2⟩, yg⟩
     ·rw [if_neg c5] at H
      exact absurd H ye1
    ·rw [if_neg c4] at H
     exact absurd H ye1
   ·rw [if_neg c3] at H
    have c3b0 : decide (x8_1 < (l0.length : Int)) = false := decide_eq_false c3
    clear c3
    obtain rfl := Option.some.inj H
    go_wp2
    go_ret
    exact ⟨ye, yg⟩

/-! ### slices_Contains_string_string: function 120 -/
def slices_Contains_string_string.f (k : Nat) (l0 : List ByteArray) (a1 : ByteArray) : Option (Bool) := (slices_Index_string_string.f k l0 a1).bind fun t106 => (some (decide (t106 ≥ 0)))
set_option maxHeartbeats 8000000 in
set_option maxRecDepth 100000 in
theorem slices_Contains_string_string.calls (k : Nat) (A0 : Option Addr) (c0 : Nat) (l0 : List ByteArray) (a1 : ByteArray) (r : Bool) (w : World) (hr0 : Kd.C Kd.string w A0 l0.length l0) (hc0 : l0.length ≤ c0) (h : slices_Contains_string_string.f k l0 a1 = some r) :
  Calls Try.prog 120 #[.slice A0 l0.length c0, .string a1] w fun e w' => e = .returned (.bool r) ∧ Drawn0 w w' := by
 have HR0 := zK hr0
 have HC0 := zK hc0
 clear hr0 hc0
 have H : ((slices_Index_string_string.f k l0 a1).bind fun t106 => (some (decide (t106 ≥ 0)))) = some r := h
 clear h
 replace H := Option.bind_eq_some_iff.mp H
 obtain ⟨t106, A30, H⟩ := H
 replace H : (some (decide (t106 ≥ 0))) = some r := H
 have A3 := zK A30
 clear A30
 obtain rfl := Option.some.inj H
 go_enter Try.func120, Try.ntmps120
 go_wp2_with (first | ((with_reducible refine gate_callee (f := 132) rfl ?_); refine goesL_ (some 7) rfl rfl Try.func132 yi rfl #[.slice A0 l0.length c0, .string a1] rfl yb ?_; (with_reducible refine (slices_Index_string_string.calls k _ _ l0 a1 t106 _ ?side1 ?side2 A3.out).mono ?_); (case side1 => exact xxc); (case side2 => exact HC0.out); rintro e w' ⟨rfl, ⟨nd, rfl⟩⟩; refine ⟨_, rfl, ?_⟩))
 go_ret
 exact ⟨ye, yg⟩

/-! ### impl_binary: function 121 -/
def impl_binary.f  : Option (List ByteArray) := some (([(⟨#[97, 100, 100]⟩ : ByteArray), (⟨#[115, 117, 98]⟩ : ByteArray), (⟨#[109, 117, 108]⟩ : ByteArray), (⟨#[97, 110, 100]⟩ : ByteArray), (⟨#[111, 114]⟩ : ByteArray), (⟨#[120, 111, 114]⟩ : ByteArray), (⟨#[115, 104, 108]⟩ : ByteArray), (⟨#[115, 104, 114]⟩ : ByteArray), (⟨#[108, 101, 115, 115]⟩ : ByteArray), (⟨#[101, 113]⟩ : ByteArray)] : List ByteArray))
set_option maxHeartbeats 8000000 in
set_option maxRecDepth 100000 in
theorem impl_binary.calls  (r : List ByteArray) (w : World) (h : impl_binary.f  = some r) :
  Calls Try.prog 121 #[] w fun e w' => ∃ v0_ : Value, e = .returned (v0_) ∧ Kd.R Kd.string 9 w' w.heap.size (fun _ => True) v0_ r ∧ Below w.heap.size w w' := by
 have HB := zK (Below.refl w.heap.size w)
 have H : (some (([(⟨#[97, 100, 100]⟩ : ByteArray), (⟨#[115, 117, 98]⟩ : ByteArray), (⟨#[109, 117, 108]⟩ : ByteArray), (⟨#[97, 110, 100]⟩ : ByteArray), (⟨#[111, 114]⟩ : ByteArray), (⟨#[120, 111, 114]⟩ : ByteArray), (⟨#[115, 104, 108]⟩ : ByteArray), (⟨#[115, 104, 114]⟩ : ByteArray), (⟨#[108, 101, 115, 115]⟩ : ByteArray), (⟨#[101, 113]⟩ : ByteArray)] : List ByteArray))) = some r := h
 clear h
 obtain ⟨y107, hy107⟩ : ∃ y_ : List ByteArray, y_ = (([(⟨#[97, 100, 100]⟩ : ByteArray), (⟨#[115, 117, 98]⟩ : ByteArray), (⟨#[109, 117, 108]⟩ : ByteArray), (⟨#[97, 110, 100]⟩ : ByteArray), (⟨#[111, 114]⟩ : ByteArray), (⟨#[120, 111, 114]⟩ : ByteArray), (⟨#[115, 104, 108]⟩ : ByteArray), (⟨#[115, 104, 114]⟩ : ByteArray), (⟨#[108, 101, 115, 115]⟩ : ByteArray), (⟨#[101, 113]⟩ : ByteArray)] : List ByteArray)) := ⟨_, rfl⟩
 replace H : (some y107) = some r := by have hy_ := hy107; exact xH
 have Ny107 := zK hy107
 clear hy107
 obtain rfl := Option.some.inj H
 go_enter Try.func121, Try.ntmps121
 go_wp2_with (first | ((with_reducible refine gate_dst (N := 1) rfl ?_); refine Kd.R_lit Kd.string _ 9 ?hg (N := 1) ?hd (xs := ([(⟨#[97, 100, 100]⟩ : ByteArray), (⟨#[115, 117, 98]⟩ : ByteArray), (⟨#[109, 117, 108]⟩ : ByteArray), (⟨#[97, 110, 100]⟩ : ByteArray), (⟨#[111, 114]⟩ : ByteArray), (⟨#[120, 111, 114]⟩ : ByteArray), (⟨#[115, 104, 108]⟩ : ByteArray), (⟨#[115, 104, 114]⟩ : ByteArray), (⟨#[108, 101, 115, 115]⟩ : ByteArray), (⟨#[101, 113]⟩ : ByteArray)] : List ByteArray)) (inner := [.string (⟨#[97, 100, 100]⟩ : ByteArray), .string (⟨#[115, 117, 98]⟩ : ByteArray), .string (⟨#[109, 117, 108]⟩ : ByteArray), .string (⟨#[97, 110, 100]⟩ : ByteArray), .string (⟨#[111, 114]⟩ : ByteArray), .string (⟨#[120, 111, 114]⟩ : ByteArray), .string (⟨#[115, 104, 108]⟩ : ByteArray), .string (⟨#[115, 104, 114]⟩ : ByteArray), .string (⟨#[108, 101, 115, 115]⟩ : ByteArray), .string (⟨#[101, 113]⟩ : ByteArray)]) (ok := fun _ => True) (okp := fun _ => True) ?hr ?hp (fun _ hk => hk) trivial (Below.refl _ _) (Nat.le_refl _) ye1 ?_; (case hd | hg => rfl); (case hr => exact xxa); (case hp => exact xxe); intro v108 w1 ho2 hb hg_ hnew_; clear hg_ hnew_; (first | rw [← Ny107.out] at ho2 | (simp only [Int.reduceToNat] at ho2; rw [← Ny107.out] at ho2)); have n0_ := zK (Kd.R_lower ho2 (zN ya)); have n1_ := zK (zL ya hb); clear HB; have HO109 := n0_; have HB := n1_; clear n0_ n1_; clear hb ho2))
 go_ret
 exact ⟨_, yd, yR HO109.out, ya⟩

/-! ### impl_operands: function 83 -/
mutual
def impl_operands.j0 : Nat → ByteArray → Bool → Option (Int)
 | 0, _, _ => none
 | k + 1, x0, x3 => if x3 = true then (some 0) else (if x0.toList = ([110, 111, 116] : List UInt8) then (impl_operands.j1 k x0 true) else (impl_operands.j1 k x0 (x0.toList == ([110, 101, 103] : List UInt8))))
def impl_operands.j1 : Nat → ByteArray → Bool → Option (Int)
 | 0, _, _ => none
 | k + 1, x0, x10 => if x10 = true then (some 1) else ((impl_binary.f).bind fun t110 => ((slices_Contains_string_string.f k t110 x0).bind fun t113 => (if t113 = true then (some 2) else (some (-1)))))
end
def impl_operands.f (k : Nat) (a0 : ByteArray) : Option (Int) := if a0.toList = ([105, 110] : List UInt8) then (impl_operands.j0 k a0 true) else (impl_operands.j0 k a0 (a0.toList == ([99, 111, 110, 115, 116] : List UInt8)))
set_option maxHeartbeats 8000000 in
set_option maxRecDepth 100000 in
theorem impl_operands.calls (k : Nat) (a0 : ByteArray) (r : Int) (w : World) (h : impl_operands.f k a0 = some r) :
  Calls Try.prog 83 #[.string a0] w fun e w' => e = .returned (.int .i64 r) ∧ Below w.heap.size w w' := by
 have HB := zK (Below.refl w.heap.size w)
 have H : (if a0.toList = ([105, 110] : List UInt8) then (impl_operands.j0 k a0 true) else (impl_operands.j0 k a0 (a0.toList == ([99, 111, 110, 115, 116] : List UInt8)))) = some r := h
 clear h
 have HC2 := zK H
 clear H
 go_enter Try.func83, Try.ntmps83
 go_upto_region 1 with (fail)
 go_cut [3] (fun v3 wc => ∃ (kq : Nat) (x3_1 : Bool), v3 = .bool x3_1 ∧ Aside0 (impl_operands.j0 kq a0 x3_1 = some r) ∧ Aside0 (kq ≤ k) ∧ Aside0 (Below w.heap.size w wc))
 case first =>
  have H := HC2.out
  clear HC2
  by_cases c3 : a0.toList = ([105, 110] : List UInt8)
  ·rw [if_pos c3] at H
   have c3b0 : (a0.toList == ([105, 110] : List UInt8)) = true := beq_iff_eq.mpr c3
   have c3b1 : (a0.toList != ([105, 110] : List UInt8)) = false := bne_eq_false_iff_eq.mpr c3
   clear c3
   (first | rw [c3b0] | (simp only [i64_w, i32_w]; rw [c3b0]) | skip)
   have H' := zK H
   clear H
   go_wp2
   go_meet
   case rel => exact ⟨_, (true), ye, H', ⟨by first | omega | exact Nat.le_refl _⟩, ⟨ya⟩⟩
  ·rw [if_neg c3] at H
   have c3b0 : (a0.toList == ([105, 110] : List UInt8)) = false := beq_eq_false_iff_ne.mpr c3
   have c3b1 : (a0.toList != ([105, 110] : List UInt8)) = true := bne_iff_ne.mpr c3
   (first | rw [c3b0] | (simp only [i64_w, i32_w]; rw [c3b0]) | skip)
   have H' := zK H
   clear H
   go_wp2
   go_meet
   case rel => exact ⟨_, ((a0.toList == ([99, 111, 110, 115, 116] : List UInt8))), ye, H', ⟨by first | omega | exact Nat.le_refl _⟩, ⟨ya⟩⟩
 case rest =>
  clear HC2
  try clear p2
  try clear c3
  try clear c3b0
  try clear c3b1
  obtain ⟨kq, x3_1, rfl, HA, HJ1, HB⟩ := hcut
  cases kq with
  | zero => exact absurd HA.out (by simp [impl_operands.j0])
  | succ kj1 =>
   have H := HA.out
   clear HA
   simp only [impl_operands.j0] at H
   by_cases c4 : x3_1 = true
   ·subst c4
    rw [if_pos rfl] at H
    obtain rfl := Option.some.inj H
    go_wp2
    go_ret
    exact ⟨yd, ya⟩
   ·replace c4 := Bool.eq_false_iff.mpr c4
    subst c4
    rw [if_neg (show ¬ (false = true) by decide)] at H
    have HC5 := zK H
    clear H
    go_upto_region 3 with (fail)
    go_cut [10] (fun v10 wc => ∃ (kq : Nat) (x10_4 : Bool), v10 = .bool x10_4 ∧ Aside0 (impl_operands.j1 kq a0 x10_4 = some r) ∧ Aside0 (kq ≤ kj1) ∧ Aside0 (Below w.heap.size w wc))
    case first =>
     have H := HC5.out
     clear HC5
     by_cases c6 : a0.toList = ([110, 111, 116] : List UInt8)
     ·rw [if_pos c6] at H
      have c6b0 : (a0.toList == ([110, 111, 116] : List UInt8)) = true := beq_iff_eq.mpr c6
      have c6b1 : (a0.toList != ([110, 111, 116] : List UInt8)) = false := bne_eq_false_iff_eq.mpr c6
      clear c6
      (first | rw [c6b0] | (simp only [i64_w, i32_w]; rw [c6b0]) | skip)
      have H' := zK H
      clear H
      go_wp2
      go_meet
      case rel => exact ⟨_, (true), ye, H', ⟨by have := HJ1.out; first | omega | exact Nat.le_refl _⟩, ⟨ya⟩⟩
     ·rw [if_neg c6] at H
      have c6b0 : (a0.toList == ([110, 111, 116] : List UInt8)) = false := beq_eq_false_iff_ne.mpr c6
      have c6b1 : (a0.toList != ([110, 111, 116] : List UInt8)) = true := bne_iff_ne.mpr c6
      (first | rw [c6b0] | (simp only [i64_w, i32_w]; rw [c6b0]) | skip)
      have H' := zK H
      clear H
      go_wp2
      go_meet
      case rel => exact ⟨_, ((a0.toList == ([110, 101, 103] : List UInt8))), ye, H', ⟨by have := HJ1.out; first | omega | exact Nat.le_refl _⟩, ⟨ya⟩⟩
    case rest =>
     clear HC5
     try clear p2
     try clear c3
     try clear c3b0
     try clear c3b1
     try clear c4
     try clear c6
     try clear c6b0
     try clear c6b1
     try clear p2
     obtain ⟨kq, x10_4, rfl, HA, HJ4, HB⟩ := hcut
     cases kq with
     | zero => exact absurd HA.out (by simp [impl_operands.j1])
     | succ kj4 =>
      have H := HA.out
      clear HA
      simp only [impl_operands.j1] at H
      by_cases c7 : x10_4 = true
      ·subst c7
       rw [if_pos rfl] at H
       obtain rfl := Option.some.inj H
       go_wp2
       go_ret
       exact ⟨yd, ya⟩
      ·replace c7 := Bool.eq_false_iff.mpr c7
       subst c7
       rw [if_neg (show ¬ (false = true) by decide)] at H
       replace H := Option.bind_eq_some_iff.mp H
       obtain ⟨t110, A80, H⟩ := H
       replace H : ((slices_Contains_string_string.f kj4 t110 a0).bind fun t113 => (if t113 = true then (some 2) else (some (-1)))) = some r := H
       have A8 := zK A80
       clear A80
       replace H := Option.bind_eq_some_iff.mp H
       obtain ⟨t113, A90, H⟩ := H
       replace H : (if t113 = true then (some 2) else (some (-1))) = some r := H
       have A9 := zK A90
       clear A90
       by_cases c10 : t113 = true
       ·subst c10
        rw [if_pos rfl] at H
        obtain rfl := Option.some.inj H
        go_wp2_with (first | ((with_reducible refine gate_callee (f := 121) rfl ?_); refine goesL_ (some 18) rfl rfl Try.func121 yi rfl #[] rfl yb ?_; (with_reducible refine (impl_binary.calls  t110 _ A8.out).mono ?_); rintro e w11 ⟨v111, rfl, ho0, hb⟩; refine ⟨_, rfl, ?_⟩; have n0_ := zK (Kd.R_lower ho0 (zN ya)); have n1_ := zK (zL ya hb); clear HB; have HO112 := n0_; have HB := n1_; clear n0_ n1_; (try clear hb); (try clear hb2); (try clear hk); (try clear hi); (try clear ho0); obtain ⟨Ao12, co12, eo12⟩ := Kd.R_slice HO112.out; subst eo12) | ((with_reducible refine gate_callee (f := 120) rfl ?_); refine goesL_ (some 20) rfl rfl Try.func120 yi rfl #[.slice Ao12 t110.length co12, .string a0] rfl yb ?_; (with_reducible refine (slices_Contains_string_string.calls kj4 _ _ t110 a0 true _ ?side1 ?side2 A9.out).mono ?_); (case side1 => repeat (first | exact (Kd.R_reads' HO112.out).2.2 | (with_reducible refine Kd.C_alloc ?_ _) | (with_reducible refine Kd.C_drewN ?_ _) | (with_reducible refine Kd.C_drew ?_))); (case side2 => exact (Kd.R_reads' HO112.out).2.1); rintro e w' ⟨rfl, ⟨nd, rfl⟩⟩; refine ⟨_, rfl, ?_⟩))
        go_ret
        exact ⟨yd, ya⟩
       ·replace c10 := Bool.eq_false_iff.mpr c10
        subst c10
        rw [if_neg (show ¬ (false = true) by decide)] at H
        obtain rfl := Option.some.inj H
        go_wp2_with (first | ((with_reducible refine gate_callee (f := 121) rfl ?_); refine goesL_ (some 18) rfl rfl Try.func121 yi rfl #[] rfl yb ?_; (with_reducible refine (impl_binary.calls  t110 _ A8.out).mono ?_); rintro e w13 ⟨v111, rfl, ho0, hb⟩; refine ⟨_, rfl, ?_⟩; have n0_ := zK (Kd.R_lower ho0 (zN ya)); have n1_ := zK (zL ya hb); clear HB; have HO112 := n0_; have HB := n1_; clear n0_ n1_; (try clear hb); (try clear hb2); (try clear hk); (try clear hi); (try clear ho0); obtain ⟨Ao14, co14, eo14⟩ := Kd.R_slice HO112.out; subst eo14) | ((with_reducible refine gate_callee (f := 120) rfl ?_); refine goesL_ (some 20) rfl rfl Try.func120 yi rfl #[.slice Ao14 t110.length co14, .string a0] rfl yb ?_; (with_reducible refine (slices_Contains_string_string.calls kj4 _ _ t110 a0 false _ ?side1 ?side2 A9.out).mono ?_); (case side1 => repeat (first | exact (Kd.R_reads' HO112.out).2.2 | (with_reducible refine Kd.C_alloc ?_ _) | (with_reducible refine Kd.C_drewN ?_ _) | (with_reducible refine Kd.C_drew ?_))); (case side2 => exact (Kd.R_reads' HO112.out).2.1); rintro e w' ⟨rfl, ⟨nd, rfl⟩⟩; refine ⟨_, rfl, ?_⟩))
        go_ret
        exact ⟨yd, ya⟩

/-! ### impl_Node_of: function 100 -/
def impl_Node_of.f (k : Nat) (a0_0 : ByteArray) (a0_1 : Int) (a0_2 : Int) (a0_3 : Int) : Option (List Int) := (some (([a0_1, a0_2] : List Int) : List Int)).bind fun y115 => ((impl_operands.f k a0_0).bind fun t118 => (if 0 ≤ (mx t118 0) then (if (mx t118 0) ≤ (y115.length : Int) then (some (y115.take ((mx t118 0) : Int).toNat)) else (none)) else (none)))
def impl_Node_of.T1 : Bool × List (List Nat × List Nat) := (true, [([], []), ([0], [0]), ([], []), ([2], [2]), ([1, 3], [1, 3]), ([], []), ([5], [5]), ([6], [6]), ([7], [7]), ([4, 8], [4, 8]), ([9, 7, 0, 1, 2, 3, 4, 5, 6, 7, 8, 9], [9])])
def impl_Node_of.B1 : List Nat := [0, 1, 0, 4, 15, 0, 32, 96, 224, 511, 1023]
theorem impl_Node_of.tab1 : rtab .any (opsOf Try.f100 1) = impl_Node_of.T1 := by kernel_rfl
theorem impl_Node_of.bits1 : waitsOk impl_Node_of.T1.2 impl_Node_of.B1 = true := by kernel_rfl
set_option maxHeartbeats 8000000 in
set_option maxRecDepth 100000 in
theorem impl_Node_of.calls (k : Nat) (a0_0 : ByteArray) (a0_1 : Int) (a0_2 : Int) (a0_3 : Int) (r : List Int) (w : World) (h : impl_Node_of.f k a0_0 a0_1 a0_2 a0_3 = some r) :
  Calls Try.prog 100 #[.agg #[.string a0_0, .int .i64 a0_1, .int .i64 a0_2, .int .i64 a0_3]] w fun e w' => ∃ v0_ : Value, e = .returned (v0_) ∧ Kd.R (Kd.int .i64) 3 w' w.heap.size (fun _ => True) v0_ r ∧ Below w.heap.size w w' := by
 have hu47 := Try.underlying47
 have HB := zK (Below.refl w.heap.size w)
 have H : ((some (([a0_1, a0_2] : List Int) : List Int)).bind fun y115 => ((impl_operands.f k a0_0).bind fun t118 => (if 0 ≤ (mx t118 0) then (if (mx t118 0) ≤ (y115.length : Int) then (some (y115.take ((mx t118 0) : Int).toNat)) else (none)) else (none)))) = some r := h
 clear h
 obtain ⟨y115, hy115⟩ : ∃ y_ : List Int, y_ = (([a0_1, a0_2] : List Int)) := ⟨_, rfl⟩
 replace H : ((impl_operands.f k a0_0).bind fun t118 => (if 0 ≤ (mx t118 0) then (if (mx t118 0) ≤ (y115.length : Int) then (some (y115.take ((mx t118 0) : Int).toNat)) else (none)) else (none))) = some r := by have hy_ := hy115; exact xH
 have Ny115 := zK hy115
 clear hy115
 replace H := Option.bind_eq_some_iff.mp H
 obtain ⟨t118, A20, H⟩ := H
 replace H : (if 0 ≤ (mx t118 0) then (if (mx t118 0) ≤ (y115.length : Int) then (some (y115.take ((mx t118 0) : Int).toNat)) else (none)) else (none)) = some r := H
 have A2 := zK A20
 clear A20
 obtain ⟨ji3, hji3⟩ : ∃ j_ : Int, (mx t118 0) = j_ := ⟨_, rfl⟩
 replace H : (if 0 ≤ (ji3) then (if (ji3) ≤ (y115.length : Int) then (some (y115.take ((ji3) : Int).toNat)) else (none)) else (none)) = some r := by first | (rw [hji3] at H; exact H) | (simp only [hji3] at H ⊢; exact H)
 (try rw [hji3] at A2)
 (try (have hji3l : 0 ≤ ji3 := by (rw [← hji3]; unfold mx; (repeat' split) <;> omega)))
 (try (have hji3m : 0 ≤ ji3 := by omega))
 have hji3_ : (if t118 < 0 then 0 else t118) = ji3 := hji3
 by_cases c4 : 0 ≤ (ji3)
 ·rw [if_pos c4] at H
  have c4b0 := eq_true c4
  have c4b1 : decide (0 ≤ (ji3)) = true := decide_eq_true c4
  clear c4
  by_cases c5 : (ji3) ≤ (y115.length : Int)
  ·rw [if_pos c5] at H
   have c5b0 := eq_true c5
   have c5b1 : decide ((ji3) ≤ (y115.length : Int)) = true := decide_eq_true c5
   clear c5
   obtain ⟨y119, hy119⟩ : ∃ y_ : List Int, y_ = (y115.take ((ji3) : Int).toNat) := ⟨_, rfl⟩
   replace H : (some y119) = some r := by have hy_ := hy119; exact xH
   have Ny119 := zK hy119
   clear hy119
   obtain rfl := Option.some.inj H
   go_enter Try.func100, Try.ntmps100
   try go_wp2_with (first | ((with_reducible refine gate_dst (N := 1) rfl ?_); refine box_event ?hg (N := 1) ?hd (cs := #[.string a0_0, .int .i64 a0_1, .int .i64 a0_2, .int .i64 a0_3]) (t := 47) ?hr ?_; (case hd | hg => rfl); (case hr => exact xxa); intro gb114 hg w6 hbox hb; have n0_ := zK (zL ya hb); have n1_ := zK (hbox); have n2_ := zK ((by rw [hg]; exact (zN ya) : w.heap.size ≤ gb114)); have n3_ := n2_; clear HB; have HB := n0_; have BK114 := n1_; have GW114 := n2_; have GE114 := n3_; clear n0_ n1_ n2_ n3_; clear hb hbox hg))
   have n0_ := zK (zF BK114.out)
   have n1_ := zK (zC HB.out)
   clear BK114
   clear HB
   have BK114 := n0_
   have HB := n1_
   clear n0_ n1_
   refine start_ (n := 11) (S := fun w' => w'.cell? ⟨gb114, 0, none⟩ = some (.string a0_0) ∧ w'.cell? ⟨gb114, 1, none⟩ = some (.int .i64 a0_1) ∧ w'.cell? ⟨gb114, 2, none⟩ = some (.int .i64 a0_2) ∧ w'.cell? ⟨gb114, 3, none⟩ = some (.int .i64 a0_3)) (ds := []) #[false, false, false, false, false, false, false, false, false, false, false] yi rfl rfl ⟨(zI BK114.out 0).trans rfl, (zI BK114.out 1).trans rfl, (zI BK114.out 2).trans rfl, (zI BK114.out 3).trans rfl⟩ (fun hHeld => ?_); refine with_tabW impl_Node_of.tab1 impl_Node_of.bits1 (fun HT_ HW_ => ?_)
   generalize w6.drew = w7 at BK114 HB hHeld ⊢
   refine pure_ (i := 0) (N := some 3) (v := ?_) (a' := ?_) #[true, false, false, false, false, false, false, false, false, false, false] rfl rfl (any_of HT_.out yi) (fun _ _ _ h => h) (Or.inl ⟨by rfl, ?_⟩) ?_ ?_
   rotate_left
   ·intro w'
    go_simp
    with_reducible rfl
   rotate_left
   ·simp only [Act.put, z1, z2, z3, i64_w, i32_w]
    rfl
   refine pure_ (i := 2) (N := some 5) (v := ?_) (a' := ?_) #[true, false, true, false, false, false, false, false, false, false, false] rfl rfl (any_of HT_.out yi) (fun _ _ _ h => h) (Or.inl ⟨by rfl, ?_⟩) ?_ ?_
   rotate_left
   ·intro w'
    go_simp
    with_reducible rfl
   rotate_left
   ·simp only [Act.put, z1, z2, z3, i64_w, i32_w]
    rfl
   refine pure_ (i := 5) (N := some 8) (v := ?_) (a' := ?_) #[true, false, true, false, false, true, false, false, false, false, false] rfl rfl (any_of HT_.out yi) (fun _ _ _ h => h) (Or.inl ⟨by rfl, ?_⟩) ?_ ?_
   rotate_left
   ·intro w'
    go_simp
    with_reducible rfl
   rotate_left
   ·simp only [Act.put, z1, z2, z3, i64_w, i32_w]
    rfl
   refine take_ (i := 1) (N := some 4) (v := ?_) (a' := ?_) #[true, true, true, false, false, true, false, false, false, false, false] rfl rfl (take_ofW HT_.out HW_.out yi) (fun _ _ _ h => h) (Or.inl ⟨by rfl, ?_⟩) hHeld ?_ ?_
   rotate_left
   ·rintro w' ⟨s0, s1, s2, s3⟩
    go_simp
    with_reducible rfl
   rotate_left
   ·simp only [Act.put, z1, z2, z3, i64_w, i32_w]
    rfl
   refine take_ (i := 3) (N := some 6) (v := ?_) (a' := ?_) #[true, true, true, true, false, true, false, false, false, false, false] rfl rfl (take_ofW HT_.out HW_.out yi) (fun _ _ _ h => h) (Or.inl ⟨by rfl, ?_⟩) hHeld ?_ ?_
   rotate_left
   ·rintro w' ⟨s0, s1, s2, s3⟩
    go_simp
    with_reducible rfl
   rotate_left
   ·simp only [Act.put, z1, z2, z3, i64_w, i32_w]
    rfl
   refine take_ (i := 6) (N := some 9) (v := ?_) (a' := ?_) #[true, true, true, true, false, true, true, false, false, false, false] rfl rfl (take_ofW HT_.out HW_.out yi) (fun _ _ _ h => h) (Or.inl ⟨by rfl, ?_⟩) hHeld ?_ ?_
   rotate_left
   ·rintro w' ⟨s0, s1, s2, s3⟩
    go_simp
    with_reducible rfl
   rotate_left
   ·simp only [Act.put, z1, z2, z3, i64_w, i32_w]
    rfl
   refine join_ (σ := Value) 2 #[true, true, true, true, true, true, true, true, true, false, false] (fun s_ => [(7, s_), (10, .int .i64 t118), (11, .int .i64 ji3)]) (fun s_ w' => (w'.cell? ⟨gb114, 0, none⟩ = some (.string a0_0) ∧ w'.cell? ⟨gb114, 1, none⟩ = some (.int .i64 a0_1) ∧ w'.cell? ⟨gb114, 2, none⟩ = some (.int .i64 a0_2) ∧ w'.cell? ⟨gb114, 3, none⟩ = some (.int .i64 a0_3)) ∧ (Kd.R (Kd.int .i64) 3 w' w.heap.size (fun _ => True) s_ y115) ∧ (w'.heap[gb114]? = some (.cells #[.string a0_0, .int .i64 a0_1, .int .i64 a0_2, .int .i64 a0_3] 47 (0, 0))) ∧ (Below w.heap.size w w')) ?_ ?_
   rotate_left
   ·intro hCont
    refine two_ (i := 4) (j := 7) (Ni := some 7) (Nj := some 10) #[true, true, true, true, true, true, true, false, false, false, false] #[true, true, true, true, false, true, true, true, false, false, false] rfl rfl rfl rfl (two_of HT_.out yi) yp1 yp1 (fun K hK => ?_) (fun K hK => ?_)
    ·skip
     refine Kd.R_lit_step (Kd.int .i64) _ 3 ?hg (N := 7) ?hd (xs := ([a0_1, a0_2] : List Int)) (inner := [.int .i64 a0_1, .int .i64 a0_2]) (ok := fun _ => True) (okp := fun _ => True) ?hr ?hp (fun _ hk => hk) trivial (Below.refl _ _) (Nat.le_refl _) ye1 ?_; (case hd | hg => rfl); (case hr => exact xxa); (case hp => exact xxf)
     intro v116 w8 ho9 hb hg_ hnew_
     clear hg_ hnew_
     (first | rw [← Ny115.out] at ho9 | (simp only [Int.reduceToNat] at ho9; rw [← Ny115.out] at ho9))
     have n0_ := zK (Kd.R_lower ho9 (zN yc1))
     have n1_ := zK (zM (g := gb114) (o := .cells #[.string a0_0, .int .i64 a0_1, .int .i64 a0_2, .int .i64 a0_3] 47 (0, 0)) (yS BK114.out) hb)
     have n2_ := zK (zL yc1 hb)
     clear BK114
     clear HB
     have HO117 := n0_
     have BK114 := n1_
     have HB := n2_
     clear n0_ n1_ n2_
     clear hb ho9
     refine hK.out _ _ ⟨(zI BK114.out 0).trans rfl, (zI BK114.out 1).trans rfl, (zI BK114.out 2).trans rfl, (zI BK114.out 3).trans rfl⟩ (fun hHeld => ?_)
     clear hK K
     refine norm_ (a' := ?_) ?_ ?_
     rotate_left
     ·show Act.put _ (some 7) _ = _
      simp only [Act.put, z1, z2, z3, i64_w, i32_w]
      rfl
     refine one_ (i := 7) (N := some 10) #[true, true, true, true, true, true, true, true, false, false, false] rfl rfl (one_of HT_.out yi) yp1 (fun K hK => ?_)
     refine goes_ Try.func83 yi rfl #[.string a0_0] (by rfl) rfl rfl yb ?_
     with_reducible refine (impl_operands.calls k a0_0 t118 _ A2.out).mono ?_
     rintro e w10 ⟨rfl, hb⟩
     refine ⟨_, rfl, ?_⟩
     have n0_ := zK (Kd.R_below (yR HO117.out) hb)
     have n1_ := zK (zM (g := gb114) (o := .cells #[.string a0_0, .int .i64 a0_1, .int .i64 a0_2, .int .i64 a0_3] 47 (0, 0)) (yS BK114.out) hb)
     have n2_ := zK (zL yc1 hb)
     clear HO117
     clear BK114
     clear HB
     have HO117 := n0_
     have BK114 := n1_
     have HB := n2_
     clear n0_ n1_ n2_
     (try clear hb)
     (try clear hb2)
     (try clear hk)
     (try clear hi)
     refine hK.out _ _ ⟨(zI BK114.out 0).trans rfl, (zI BK114.out 1).trans rfl, (zI BK114.out 2).trans rfl, (zI BK114.out 3).trans rfl⟩ (fun hHeld => ?_)
     clear hK K
     refine norm_ (a' := ?_) ?_ ?_
     rotate_left
     ·show Act.put _ (some 10) _ = _
      simp only [Act.put, z1, z2, z3, i64_w, i32_w]
      rfl
     refine pure_ (i := 8) (N := some 11) (v := ?_) (a' := ?_) #[true, true, true, true, true, true, true, true, true, false, false] rfl rfl (any_of HT_.out yi) (fun _ _ _ h => h) (Or.inl ⟨by rfl, ?_⟩) ?_ ?_
     rotate_left
     ·intro w'
      go_simp
      with_reducible rfl
     rotate_left
     ·simp only [Act.put, z1, z2, z3, i64_w, i32_w]
      rfl
     exact norm_ (by simp only [putAll, Act.put, z1, z2, z3]) (hCont (v116) _ ⟨hHeld, (yR HO117.out), (yS BK114.out), yc1⟩)
    ·skip
     refine goes_ Try.func83 yi rfl #[.string a0_0] (by rfl) rfl rfl yb ?_
     with_reducible refine (impl_operands.calls k a0_0 t118 _ A2.out).mono ?_
     rintro e w8 ⟨rfl, hb⟩
     refine ⟨_, rfl, ?_⟩
     have n0_ := zK (zM (g := gb114) (o := .cells #[.string a0_0, .int .i64 a0_1, .int .i64 a0_2, .int .i64 a0_3] 47 (0, 0)) (yS BK114.out) hb)
     have n1_ := zK (zL yc1 hb)
     clear BK114
     clear HB
     have BK114 := n0_
     have HB := n1_
     clear n0_ n1_
     (try clear hb)
     (try clear hb2)
     (try clear hk)
     (try clear hi)
     refine hK.out _ _ ⟨(zI BK114.out 0).trans rfl, (zI BK114.out 1).trans rfl, (zI BK114.out 2).trans rfl, (zI BK114.out 3).trans rfl⟩ (fun hHeld => ?_)
     clear hK K
     refine norm_ (a' := ?_) ?_ ?_
     rotate_left
     ·show Act.put _ (some 10) _ = _
      simp only [Act.put, z1, z2, z3, i64_w, i32_w]
      rfl
     refine pure_ (i := 8) (N := some 11) (v := ?_) (a' := ?_) #[true, true, true, true, false, true, true, true, true, false, false] rfl rfl (any_of HT_.out yi) (fun _ _ _ h => h) (Or.inl ⟨by rfl, ?_⟩) ?_ ?_
     rotate_left
     ·intro w'
      go_simp
      with_reducible rfl
     rotate_left
     ·simp only [Act.put, z1, z2, z3, i64_w, i32_w]
      rfl
     refine one_ (i := 4) (N := some 7) #[true, true, true, true, true, true, true, true, true, false, false] rfl rfl (one_of HT_.out yi) yp1 (fun K hK => ?_)
     refine Kd.R_lit_step (Kd.int .i64) _ 3 ?hg (N := 7) ?hd (xs := ([a0_1, a0_2] : List Int)) (inner := [.int .i64 a0_1, .int .i64 a0_2]) (ok := fun _ => True) (okp := fun _ => True) ?hr ?hp (fun _ hk => hk) trivial (Below.refl _ _) (Nat.le_refl _) ye1 ?_; (case hd | hg => rfl); (case hr => exact xxa); (case hp => exact xxf)
     intro v116 w9 ho10 hb hg_ hnew_
     clear hg_ hnew_
     (first | rw [← Ny115.out] at ho10 | (simp only [Int.reduceToNat] at ho10; rw [← Ny115.out] at ho10))
     have n0_ := zK (Kd.R_lower ho10 (zN yc1))
     have n1_ := zK (zM (g := gb114) (o := .cells #[.string a0_0, .int .i64 a0_1, .int .i64 a0_2, .int .i64 a0_3] 47 (0, 0)) (yS BK114.out) hb)
     have n2_ := zK (zL yc1 hb)
     clear BK114
     clear HB
     have HO117 := n0_
     have BK114 := n1_
     have HB := n2_
     clear n0_ n1_ n2_
     clear hb ho10
     refine hK.out _ _ ⟨(zI BK114.out 0).trans rfl, (zI BK114.out 1).trans rfl, (zI BK114.out 2).trans rfl, (zI BK114.out 3).trans rfl⟩ (fun hHeld => ?_)
     clear hK K
     refine norm_ (a' := ?_) ?_ ?_
     rotate_left
     ·show Act.put _ (some 7) _ = _
      simp only [Act.put, z1, z2, z3, i64_w, i32_w]
      rfl
     exact norm_ (by simp only [putAll, Act.put, z1, z2, z3]) (hCont (v116) _ ⟨hHeld, (yR HO117.out), (yS BK114.out), yc1⟩)
   rintro v116 w11 ⟨hS_, h0_, h1_, h2_⟩
   have n0_ : Aside0 (Kd.R (Kd.int .i64) 3 w11 w.heap.size (fun _ => True) v116 y115) := ⟨h0_⟩
   have n1_ : Aside0 (w11.heap[gb114]? = some (.cells #[.string a0_0, .int .i64 a0_1, .int .i64 a0_2, .int .i64 a0_3] 47 (0, 0))) := ⟨h1_⟩
   have n2_ : Aside0 (Below w.heap.size w w11) := ⟨h2_⟩
   clear BK114
   clear HB
   clear h0_ h1_ h2_
   have HO117 := n0_
   have BK114 := n1_
   have HB := n2_
   clear n0_ n1_ n2_
   have hHeld : w11.cell? ⟨gb114, 0, none⟩ = some (.string a0_0) ∧ w11.cell? ⟨gb114, 1, none⟩ = some (.int .i64 a0_1) ∧ w11.cell? ⟨gb114, 2, none⟩ = some (.int .i64 a0_2) ∧ w11.cell? ⟨gb114, 3, none⟩ = some (.int .i64 a0_3) := hS_
   obtain ⟨Ao12, co12, eo12⟩ := Kd.R_slice HO117.out
   (first | subst eo12 | (injection eo12 with f1_ f2_ f3_; have f4_ := f1_.symm; have f5_ := f3_.symm; clear f1_ f2_ f3_; subst f4_; subst f5_))
   have q13 : ((ji3) : Int) ≤ ((y115.length : Int) : Int) := zo
   obtain ⟨i013, hi013, _, hsz13, _⟩ := info_parts info3
   have hcut13 := cut_to (P := Try.prog) 31 3 .i64 Try.underlying31 hi013 Ao12 y115.length co12 (ji3) (zo) q13 (Kd.R_reads' HO117.out).2.1
   have hr13 := Kd.R_take (m := ((ji3) : Int).toNat) HO117.out (by omega)
   have hy13 : y119.length = ((ji3) : Int).toNat := (by rw [Ny119.out, z5]; omega)
   rw [← Ny119.out] at hr13
   rw [← hy13] at hr13 hcut13
   clear hy13 hi013 hsz13 HO117
   have HO121 := zK hr13
   clear hr13
   replace q13 := eq_true q13
   refine norm_ (a' := ?_) ?_ ?_
   rotate_left
   ·simp only [putAll, Act.put, z1, z2, z3]
    rfl
   refine pure_ (i := 9) (N := some 12) (v := ?_) (a' := ?_) #[true, true, true, true, true, true, true, true, true, true, false] rfl rfl (any_of HT_.out yi) (fun _ _ _ h => h) (Or.inl ⟨by rfl, ?_⟩) ?_ ?_
   rotate_left
   ·intro w'
    go_simp
    with_reducible rfl
   rotate_left
   ·simp only [Act.put, z1, z2, z3, i64_w, i32_w]
    rfl
   refine pure_ (i := 10) (N := some 2) (v := ?_) (a' := ?_) #[true, true, true, true, true, true, true, true, true, true, true] rfl rfl (any_of HT_.out yi) (fun _ _ _ h => h) (Or.inl ⟨by rfl, ?_⟩) ?_ ?_
   rotate_left
   ·intro w'
    go_simp
    with_reducible rfl
   rotate_left
   ·simp only [Act.put, z1, z2, z3, i64_w, i32_w]
    rfl
   refine done_ (done_of HT_.out yi) ?_
   try go_wp2
   go_ret
   exact ⟨_, by first | rfl | (simp [errW_none, errW_some] <;> rfl) | (simp only [← hji3]; first | rfl | (simp [errW_none, errW_some] <;> rfl)) | (simp [*, errW_none, errW_some] <;> rfl), yR HO121.out, yc1⟩
  ·rw [if_neg c5] at H
   exact absurd H ye1
 ·rw [if_neg c4] at H
  exact absurd H ye1

/-! ### impl_uses: function 64 -/
mutual
def impl_uses.l0 : Nat → List Int → List (S47) → Int → Int → Option (List Int)
 | 0, _, _, _, _ => none
 | k + 1, x3, x11, x12, x13 => if x13 < x12 then (if 0 ≤ x13 then (if x13 < (x11.length : Int) then ((impl_Node_of.f k ((rd_T47 x11 x13).f0) ((rd_T47 x11 x13).f1) ((rd_T47 x11 x13).f2) ((rd_T47 x11 x13).f3)).bind fun t127 => (impl_uses.l1 k x3 x11 x12 x13 t127 (t127.length : Int) 0)) else (none)) else (none)) else (some x3)
def impl_uses.l1 : Nat → List Int → List (S47) → Int → Int → List Int → Int → Int → Option (List Int)
 | 0, _, _, _, _, _, _, _ => none
 | k + 1, x3, x11, x12, x13, x18, x19, x20 => if x20 < x19 then (if 0 ≤ x20 then (if x20 < (x18.length : Int) then (if 0 ≤ (rd x18 x20) then (if (rd x18 x20) < (x3.length : Int) then (impl_uses.l1 k (x3.set ((rd x18 x20) : Int).toNat (wrap64 ((rd x3 (rd x18 x20)) + 1))) x11 x12 x13 x18 x19 (wrap64 (x20 + 1))) else (none)) else (none)) else (none)) else (none)) else (impl_uses.l0 k x3 x11 x12 (wrap64 (x13 + 1)))
end
def impl_uses.f (k : Nat) (l0 : List (S47)) : Option (List Int) := if 0 ≤ (l0.length : Int) then (if ((l0.length : Int) : Int).toNat ≤ 35184372088832 then (impl_uses.l0 k (List.replicate ((l0.length : Int) : Int).toNat 0) l0 (l0.length : Int) 0) else (none)) else (none)
set_option maxHeartbeats 8000000 in
set_option maxRecDepth 100000 in
theorem impl_uses.calls (k : Nat) (A0 : Option Addr) (c0 : Nat) (l0 : List (S47)) (r : List Int) (w : World) (hr0 : Kd.C k47 w A0 l0.length l0) (hc0 : l0.length ≤ c0) (h : impl_uses.f k l0 = some r) :
  Calls Try.prog 64 #[.slice A0 l0.length c0] w fun e w' => ∃ v0_ : Value, e = .returned (v0_) ∧ Kd.R (Kd.int .i64) 3 w' w.heap.size (fun _ => True) v0_ r ∧ Below w.heap.size w w' := by
 have hu47 := Try.underlying47
 have HR0 := zK hr0
 have HC0 := zK hc0
 clear hr0 hc0
 have HB := zK (Below.refl w.heap.size w)
 have H : (if 0 ≤ (l0.length : Int) then (if ((l0.length : Int) : Int).toNat ≤ 35184372088832 then (impl_uses.l0 k (List.replicate ((l0.length : Int) : Int).toNat 0) l0 (l0.length : Int) 0) else (none)) else (none)) = some r := h
 clear h
 by_cases c2 : 0 ≤ (l0.length : Int)
 ·rw [if_pos c2] at H
  have c2b0 := eq_true c2
  have c2b1 : decide (0 ≤ (l0.length : Int)) = true := decide_eq_true c2
  clear c2
  by_cases c3 : ((l0.length : Int) : Int).toNat ≤ 35184372088832
  ·rw [if_pos c3] at H
   have c3b0 := eq_true c3
   have c3b1 : decide (((l0.length : Int) : Int).toNat ≤ 35184372088832) = true := decide_eq_true c3
   clear c3
   obtain ⟨y122, hy122⟩ : ∃ y_ : List Int, y_ = (List.replicate ((l0.length : Int) : Int).toNat 0) := ⟨_, rfl⟩
   replace H : (impl_uses.l0 k y122 l0 (l0.length : Int) 0) = some r := by have hy_ := hy122; exact xH
   have Ny122 := zK hy122
   clear hy122
   have H' := zK H
   clear H
   go_enter Try.func64, Try.ntmps64
   go_wp2_with (first | ((with_reducible refine gate_dst (N := 10) rfl ?_); refine Kd.R_make (Kd.int .i64) _ 3 rfl (N := 10) rfl 31 _ _ rfl (l0.length : Int) rfl rfl Try.underlying31 (.int .i64 0) 8 info3 rfl yp1 (by omega) 0 (ok := fun _ => True) (okp := fun _ => True) rfl (fun _ hk => hk) trivial (zo) (Nat.le_trans (Nat.mul_le_mul_right _ (zo : (l0.length : Int).toNat ≤ 35184372088832)) (by omega)) (Below.refl _ _) (Nat.le_refl _) ?_; intro v123 w4 ho5 hb hg_ hnew_; clear hg_ hnew_; (first | rw [← Ny122.out] at ho5 | (simp only [Int.reduceToNat] at ho5; rw [← Ny122.out] at ho5)); have n0_ := zK (Kd.R_lower ho5 (zN ya)); have n1_ := zK (zL ya hb); clear HB; have HO124 := n0_; have HB := n1_; clear n0_ n1_; clear hb ho5))
   go_loopg [13] k (fun kq v13 w' => ∃ (x3_1 : List Int) (x13_1 : Int), v13 = .int .i64 x13_1 ∧ Aside0 (impl_uses.l0 kq x3_1 l0 (l0.length : Int) x13_1 = some r) ∧ Aside0 (kq ≤ k) ∧ Aside0 (Kd.R (Kd.int .i64) 3 w' w.heap.size (fun _ => True) v123 x3_1) ∧ Aside0 (Below w.heap.size w w'))
   case atStart => exact ⟨(y122), (0), ye, H', ⟨Nat.le_refl _⟩, ⟨yR HO124.out⟩, ⟨ya⟩⟩
   case round =>
    clear H'
    try clear c2
    try clear c2b0
    try clear c2b1
    try clear p2
    try clear c3
    try clear c3b0
    try clear c3b1
    obtain ⟨x3_1, x13_1, rfl, HA, HK1, HO_3, HB⟩ := hrel
    cases gk with
    | zero => exact absurd HA.out (by simp [impl_uses.l0])
    | succ k1 =>
     have H := HA.out
     clear HA
     simp only [impl_uses.l0] at H
     by_cases c6 : x13_1 < (l0.length : Int)
     ·rw [if_pos c6] at H
      have c6b0 : decide (x13_1 < (l0.length : Int)) = true := decide_eq_true c6
      clear c6
      by_cases c7 : 0 ≤ x13_1
      ·rw [if_pos c7] at H
       have c7b0 : decide (0 ≤ x13_1) = true := decide_eq_true c7
       clear c7
       by_cases c8 : x13_1 < (l0.length : Int)
       ·rw [if_pos c8] at H
        have c8b0 : decide (x13_1 < (l0.length : Int)) = true := decide_eq_true c8
        clear c8
        replace H := Option.bind_eq_some_iff.mp H
        obtain ⟨t127, A90, H⟩ := H
        replace H : (impl_uses.l1 k1 x3_1 l0 (l0.length : Int) x13_1 t127 (t127.length : Int) 0) = some r := H
        have A9 := zK A90
        clear A90
        have H' := zK H
        clear H
        have p125 : 0 ≤ (x13_1 : Int) := zo
        have q125 : x13_1 < (l0.length : Int) := zo
        obtain ⟨ad125, e125, hx125_0, hx125_1, hx125_2, hx125_3⟩ := at_T47 HR0.out x13_1 p125 q125
        cases e125
        replace hx125_0 := zt HB.out hx125_0
        replace hx125_1 := zt HB.out hx125_1
        replace hx125_2 := zt HB.out hx125_2
        replace hx125_3 := zt HB.out hx125_3
        replace p125 := eq_true p125
        replace q125 := eq_true q125
        go_wp2_with (first | ((with_reducible refine gate_dst (N := 5) rfl ?_); refine box_event ?hg (N := 5) ?hd (cs := #[.string (⟨#[]⟩ : ByteArray), .int .i64 0, .int .i64 0, .int .i64 0]) (t := 47) ?hr ?_; (case hd | hg => rfl); (case hr => exact xxa); intro gb126 hg w10 hbox hb; have n0_ := zK (Kd.R_below yn hb); have n1_ := zK (zL ya hb); have n2_ := zK (hbox); have n3_ := zK ((by rw [hg]; exact (zN ya) : w.heap.size ≤ gb126)); have n4_ := n3_; clear HO_3; clear HB; have HO_3 := n0_; have HB := n1_; have BK126 := n2_; have GW126 := n3_; have GE126 := n4_; clear n0_ n1_ n2_ n3_ n4_; clear hb hbox hg; have hcz11_0 : w10.cell? ⟨gb126, 0, none⟩ = some (.string (⟨#[]⟩ : ByteArray)) := (zI BK126.out 0).trans rfl; have hcz11_1 : w10.cell? ⟨gb126, 1, none⟩ = some (.int .i64 0) := (zI BK126.out 1).trans rfl; have hcz11_2 : w10.cell? ⟨gb126, 2, none⟩ = some (.int .i64 0) := (zI BK126.out 2).trans rfl; have hcz11_3 : w10.cell? ⟨gb126, 3, none⟩ = some (.int .i64 0) := (zI BK126.out 3).trans rfl; have hfz11_0 := zH BK126.out 0; have hfz11_1 := zH BK126.out 1; have hfz11_2 := zH BK126.out 2; have hfz11_3 := zH BK126.out 3) | ((with_reducible refine gate_callee (f := 100) rfl ?_); refine goesL_ (some 18) rfl rfl Try.func100 yi rfl #[.agg #[.string ((rd_T47 l0 x13_1).f0), .int .i64 ((rd_T47 l0 x13_1).f1), .int .i64 ((rd_T47 l0 x13_1).f2), .int .i64 ((rd_T47 l0 x13_1).f3)]] rfl yb ?_; (with_reducible refine (impl_Node_of.calls k1 ((rd_T47 l0 x13_1).f0) ((rd_T47 l0 x13_1).f1) ((rd_T47 l0 x13_1).f2) ((rd_T47 l0 x13_1).f3) t127 _ A9.out).mono ?_); rintro e w12 ⟨v128, rfl, ho0, hb⟩; refine ⟨_, rfl, ?_⟩; have n0_ := zK (Kd.R_elder' (by (with_reducible repeat (first | apply Kd.R_alloc | apply Kd.R_drewN | apply Kd.R_drew)); exact (Kd.R_mono (Kd.R_far (p := ⟨gb126, 3, none⟩) (Kd.R_far (p := ⟨gb126, 2, none⟩) (Kd.R_far (p := ⟨gb126, 1, none⟩) (Kd.R_far (p := ⟨gb126, 0, none⟩) (Kd.R_types HO_3.out BK126.out yp1) (fun _ hk => hk.2) (.string ((rd_T47 l0 x13_1).f0))) (fun _ hk => hk.2) (.int .i64 ((rd_T47 l0 x13_1).f1))) (fun _ hk => hk.2) (.int .i64 ((rd_T47 l0 x13_1).f2))) (fun _ hk => hk.2) (.int .i64 ((rd_T47 l0 x13_1).f3))) (fun _ h_ => h_.1))) (Kd.R_base ho0) hb); have n1_ := zK (Kd.R_lower (Kd.R_new' ho0 (Kd.R_lt (by (with_reducible repeat (first | apply Kd.R_alloc | apply Kd.R_drewN | apply Kd.R_drew)); exact (Kd.R_mono (Kd.R_far (p := ⟨gb126, 3, none⟩) (Kd.R_far (p := ⟨gb126, 2, none⟩) (Kd.R_far (p := ⟨gb126, 1, none⟩) (Kd.R_far (p := ⟨gb126, 0, none⟩) (Kd.R_types HO_3.out BK126.out yp1) (fun _ hk => hk.2) (.string ((rd_T47 l0 x13_1).f0))) (fun _ hk => hk.2) (.int .i64 ((rd_T47 l0 x13_1).f1))) (fun _ hk => hk.2) (.int .i64 ((rd_T47 l0 x13_1).f2))) (fun _ hk => hk.2) (.int .i64 ((rd_T47 l0 x13_1).f3))) (fun _ h_ => h_.1))))) (zN yh2)); have n2_ := zK (zM (g := gb126) (o := .cells #[.string ((rd_T47 l0 x13_1).f0), .int .i64 ((rd_T47 l0 x13_1).f1), .int .i64 ((rd_T47 l0 x13_1).f2), .int .i64 ((rd_T47 l0 x13_1).f3)] 47 (0, 0)) (by (with_reducible repeat (first | refine zE ?_ _ | refine zF ?_ | refine zG ?_ _)); refine blk_put (cs := #[.string ((rd_T47 l0 x13_1).f0), .int .i64 ((rd_T47 l0 x13_1).f1), .int .i64 ((rd_T47 l0 x13_1).f2), .int .i64 0]) ?_ 3 _ rfl; (with_reducible repeat (first | refine zE ?_ _ | refine zF ?_ | refine zG ?_ _)); refine blk_put (cs := #[.string ((rd_T47 l0 x13_1).f0), .int .i64 ((rd_T47 l0 x13_1).f1), .int .i64 0, .int .i64 0]) ?_ 2 _ rfl; (with_reducible repeat (first | refine zE ?_ _ | refine zF ?_ | refine zG ?_ _)); refine blk_put (cs := #[.string ((rd_T47 l0 x13_1).f0), .int .i64 0, .int .i64 0, .int .i64 0]) ?_ 1 _ rfl; (with_reducible repeat (first | refine zE ?_ _ | refine zF ?_ | refine zG ?_ _)); refine blk_put (cs := #[.string (⟨#[]⟩ : ByteArray), .int .i64 0, .int .i64 0, .int .i64 0]) ?_ 0 _ rfl; (with_reducible repeat (first | refine zE ?_ _ | refine zF ?_ | refine zG ?_ _)); exact BK126.out) hb); have n3_ := zK (zL yh2 hb); clear HO_3; clear BK126; clear HB; have HO_3 := n0_; have HO129 := n1_; have BK126 := n2_; have HB := n3_; clear n0_ n1_ n2_ n3_; (try clear hb); (try clear hb2); (try clear hk); (try clear hi); (try clear ho0); obtain ⟨Ao13, co13, eo13⟩ := Kd.R_slice HO129.out; subst eo13))
        go_loopg [20] k1 (fun kq v20 w' => ∃ (x3_2 : List Int) (x20_2 : Int), v20 = .int .i64 x20_2 ∧ Aside0 (impl_uses.l1 kq x3_2 l0 (l0.length : Int) x13_1 t127 (t127.length : Int) x20_2 = some r) ∧ Aside0 (kq ≤ k1) ∧ Aside0 (Kd.R (Kd.int .i64) 3 w' w.heap.size (fun k_ => some k_ ≠ ((.slice Ao13 t127.length co13) : Value).ownBlock) v123 x3_2) ∧ Aside0 (Kd.R (Kd.int .i64) 3 w' w.heap.size (fun k_ => some k_ ≠ (v123 : Value).ownBlock) (.slice Ao13 t127.length co13) t127) ∧ Aside0 (w'.heap[gb126]? = some (.cells #[.string ((rd_T47 l0 x13_1).f0), .int .i64 ((rd_T47 l0 x13_1).f1), .int .i64 ((rd_T47 l0 x13_1).f2), .int .i64 ((rd_T47 l0 x13_1).f3)] 47 (0, 0))) ∧ Aside0 (Below w.heap.size w w'))
        case atStart => exact ⟨(x3_1), (0), ye, H', ⟨Nat.le_refl _⟩, ⟨by (with_reducible repeat (first | apply Kd.R_alloc | apply Kd.R_drewN | apply Kd.R_drew)); exact Kd.R_mono HO_3.out (fun _ hk => hk.2)⟩, ⟨by (with_reducible repeat (first | apply Kd.R_alloc | apply Kd.R_drewN | apply Kd.R_drew)); exact Kd.R_mono HO129.out (fun _ hk => hk.2)⟩, ⟨yS BK126.out⟩, ⟨yh2⟩⟩
        case round =>
         clear H'
         try clear c1
         try clear p1
         try clear q1
         try clear hx1
         try clear c2
         try clear c2b0
         try clear c2b1
         try clear p2
         try clear c3
         try clear c3b0
         try clear c3b1
         try clear c6
         try clear c6b0
         try clear c7
         try clear c7b0
         try clear c8
         try clear c8b0
         try clear c10
         try clear p12
         try clear q12
         try clear hx12
         try clear hcz11_0
         try clear hcz11_1
         try clear hcz11_2
         try clear hcz11_3
         try clear hfz11_0
         try clear hfz11_1
         try clear hfz11_2
         try clear hfz11_3
         try clear hx125_0
         try clear hx125_1
         try clear hx125_2
         try clear hx125_3
         try clear p125
         try clear p2
         try clear q125
         obtain ⟨x3_2, x20_2, rfl, HA, HK2, HO_3, HO_18, BK126, HB⟩ := hrel
         cases gk with
         | zero => exact absurd HA.out (by simp [impl_uses.l1])
         | succ k2 =>
          have H := HA.out
          clear HA
          simp only [impl_uses.l1] at H
          by_cases c14 : x20_2 < (t127.length : Int)
          ·rw [if_pos c14] at H
           have c14b0 : decide (x20_2 < (t127.length : Int)) = true := decide_eq_true c14
           clear c14
           by_cases c15 : 0 ≤ x20_2
           ·rw [if_pos c15] at H
            have c15b0 : decide (0 ≤ x20_2) = true := decide_eq_true c15
            clear c15
            by_cases c16 : x20_2 < (t127.length : Int)
            ·rw [if_pos c16] at H
             have c16b0 : decide (x20_2 < (t127.length : Int)) = true := decide_eq_true c16
             clear c16
             by_cases c17 : 0 ≤ (rd t127 x20_2)
             ·rw [if_pos c17] at H
              have c17b0 : decide (0 ≤ (rd t127 x20_2)) = true := decide_eq_true c17
              clear c17
              by_cases c18 : (rd t127 x20_2) < (x3_2.length : Int)
              ·rw [if_pos c18] at H
               have c18b0 : decide ((rd t127 x20_2) < (x3_2.length : Int)) = true := decide_eq_true c18
               clear c18
               obtain ⟨y132, hy132⟩ : ∃ y_ : List Int, y_ = (x3_2.set ((rd t127 x20_2) : Int).toNat (wrap64 ((rd x3_2 (rd t127 x20_2)) + 1))) := ⟨_, rfl⟩
               replace H : (impl_uses.l1 k2 y132 l0 (l0.length : Int) x13_1 t127 (t127.length : Int) (wrap64 (x20_2 + 1))) = some r := by have hy_ := hy132; exact xH
               have Ny132 := zK hy132
               clear hy132
               have H' := zK H
               clear H
               have p130 : 0 ≤ (x20_2 : Int) := zo
               have q130 : x20_2 < (t127.length : Int) := zo
               obtain ⟨ad130, e130, hx130_0⟩ := Kd.at_int (Kd.R_reads' HO_18.out).2.2 x20_2 p130 q130
               cases e130
               replace p130 := eq_true p130
               replace q130 := eq_true q130
               obtain ⟨Ao20, co20, eo20⟩ := Kd.R_slice HO_3.out
               subst eo20
               have p131 : 0 ≤ ((rd t127 x20_2) : Int) := zo
               have q131 : (rd t127 x20_2) < (x3_2.length : Int) := zo
               obtain ⟨ad131, e131, hx131_0⟩ := Kd.at_int (Kd.R_reads' HO_3.out).2.2 (rd t127 x20_2) p131 q131
               cases e131
               replace p131 := eq_true p131
               replace q131 := eq_true q131
               have p19 : 0 ≤ ((rd t127 x20_2) : Int) := zo
               have q19 : ((rd t127 x20_2) : Int) < ((x3_2.length : Int) : Int) := zo
               obtain ⟨go19, co19, eo19, gb19, gl19, cl19, HG19⟩ := Kd.R_form HO_3.out (by omega)
               (first | cases eo19 | (injection eo19 with ea_ en_ ec_; (first | subst ea_ | (injection ea_ with ea_; subst ea_)); subst ec_; clear en_))
               have GB19 := zK gb19
               have GG19 := zK HG19
               clear gb19 gl19 HG19
               (first | simp only [add_plain] at hx131_0 | skip)
               obtain ⟨hx19_0, hf19_0⟩ := Kd.R_celln 0 HO_3.out ((rd t127 x20_2) : Int) p19 q19
               replace p19 := eq_true p19
               replace q19 := eq_true q19
               have HP21 := Kd.R_putg HO_3.out ((rd t127 x20_2) : Int) (wrap64 ((rd x3_2 (rd t127 x20_2)) + 1))
               go_wp2_with (first | ((with_reducible refine gate_store (t := 3) (p := 29) rfl ?_); refine store_event (t := 3) (p := 29) (v := ?vo_w22) (w1 := (wr.setCell ⟨go19, ((rd t127 x20_2) : Int).toNat, none⟩ (.int .i64 (wrap64 ((rd x3_2 (rd t127 x20_2)) + 1))))) ?hg ?ho ?hn ?hr ?_; (case ho => rfl); (case hg => rfl); (case hn => rfl); (case hr => exact xxa); intro w22 hw; have hg : wr.grownBy w22 (some go19) := (by rw [hw]; exact HP21.2); have hp_ : Kd.R (Kd.int .i64) 3 w22 w.heap.size (fun k_ => some k_ ≠ (.slice (some ad130) t127.length co13 : Value).ownBlock) (.slice (some ⟨go19, 0, none⟩) x3_2.length co20) y132 := (by rw [hw, Ny132.out]; exact HP21.1); clear HP21; have n0_ := zK (hp_); have n1_ := zK (Kd.R_after (v := (.slice (some ⟨go19, 0, none⟩) x3_2.length co20)) (v1 := (.slice (some ⟨go19, 0, none⟩) x3_2.length co20)) (ok := (fun _ => True)) (by (with_reducible repeat (first | apply Kd.R_alloc | apply Kd.R_drewN | apply Kd.R_drew)); exact Kd.R_mono HO_18.out (fun _ hk => ⟨trivial, hk⟩)) hg (.inl rfl)); have n2_ := zK (blk_grown (g := gb126) (o := .cells #[.string ((rd_T47 l0 x13_1).f0), .int .i64 ((rd_T47 l0 x13_1).f1), .int .i64 ((rd_T47 l0 x13_1).f2), .int .i64 ((rd_T47 l0 x13_1).f3)] 47 (0, 0)) (yS BK126.out) hg (Kd.R_ne HO_3.out BK126.out yp1)); have n3_ := zK ((by rw [hw]; exact zD (HB.out) GB19.out : Below w.heap.size w w22)); clear HO_3; clear HO_18; clear BK126; clear HB; have HO_3 := n0_; have HO_18 := n1_; have BK126 := n2_; have HB := n3_; clear n0_ n1_ n2_ n3_; clear hg hw hp_))
               go_roundg k2
               case measure => have := HK1.out; have := HK2.out; omega
               case rel => exact ⟨(y132), (wrap64 (x20_2 + 1)), ye, H', ⟨yx⟩, ⟨yn⟩, ⟨by (with_reducible repeat (first | apply Kd.R_alloc | apply Kd.R_drewN | apply Kd.R_drew)); exact Kd.R_mono HO_18.out (fun _ hk => hk.2)⟩, ⟨yS BK126.out⟩, ⟨yh2⟩⟩
              ·rw [if_neg c18] at H
               exact absurd H ye1
             ·rw [if_neg c17] at H
              exact absurd H ye1
            ·rw [if_neg c16] at H
             exact absurd H ye1
           ·rw [if_neg c15] at H
            exact absurd H ye1
          ·rw [if_neg c14] at H
           have c14b0 : decide (x20_2 < (t127.length : Int)) = false := decide_eq_false c14
           clear c14
           have H' := zK H
           clear H
           go_wp2
           go_roundg k2
           case measure => have := HK1.out; have := HK2.out; omega
           case rel => exact ⟨(x3_2), (wrap64 (x13_1 + 1)), ye, H', ⟨yx⟩, ⟨by (with_reducible repeat (first | apply Kd.R_alloc | apply Kd.R_drewN | apply Kd.R_drew)); exact Kd.R_mono HO_3.out (fun _ hk => trivial)⟩, ⟨yh2⟩⟩
       ·rw [if_neg c8] at H
        exact absurd H ye1
      ·rw [if_neg c7] at H
       exact absurd H ye1
     ·rw [if_neg c6] at H
      have c6b0 : decide (x13_1 < (l0.length : Int)) = false := decide_eq_false c6
      clear c6
      obtain rfl := Option.some.inj H
      go_wp2
      go_ret
      exact ⟨_, yd, yn, ya⟩
  ·rw [if_neg c3] at H
   exact absurd H ye1
 ·rw [if_neg c2] at H
  exact absurd H ye1

/-! ### impl_isWord: function 84 -/
def impl_isWord.f (a0 : Int) : Option (Bool) := (impl_within.f a0 0 63).bind fun t133 => (some t133)
set_option maxHeartbeats 8000000 in
set_option maxRecDepth 100000 in
theorem impl_isWord.calls (a0 : Int) (r : Bool) (w : World) (h : impl_isWord.f a0 = some r) :
  Calls Try.prog 84 #[.int .i64 a0] w fun e w' => e = .returned (.bool r) ∧ Drawn0 w w' := by
 have H : ((impl_within.f a0 0 63).bind fun t133 => (some t133)) = some r := h
 clear h
 replace H := Option.bind_eq_some_iff.mp H
 obtain ⟨t133, A20, H⟩ := H
 replace H : (some t133) = some r := H
 have A2 := zK A20
 clear A20
 obtain rfl := Option.some.inj H
 go_enter Try.func84, Try.ntmps84
 go_wp2_with (first | ((with_reducible refine gate_callee (f := 56) rfl ?_); refine goesL_ (some 4) rfl rfl Try.func56 yi rfl #[.int .i64 a0, .int .i64 0, .int .i64 63] rfl yb ?_; (with_reducible refine (impl_within.calls a0 0 63 t133 _ A2.out).mono ?_); rintro e w' ⟨rfl, ⟨nd, rfl⟩⟩; refine ⟨_, rfl, ?_⟩))
 go_ret
 exact ⟨ye, yg⟩

/-! ### impl_Node_isNode: function 70 -/
def impl_Node_isNode.l0 : Nat → Int → Int → List Int → Int → Int → ByteArray → Int → Int → Int → Option (Bool)
 | 0, _, _, _, _, _, _, _, _, _ => none
 | k + 1, x1, x5, x15, x16, x17, x135000, x135001, x135002, x135003 => if x17 < x16 then (if 0 ≤ x17 then (if x17 < (x15.length : Int) then (if x17 < x5 then ((impl_within.f (rd x15 x17) 0 (wrap64 (x1 - 1))).bind fun t140 => (if t140 = true then (if x17 ≥ x5 then (if (rd x15 x17) = 0 then (impl_Node_isNode.l0 k x1 x5 x15 x16 (wrap64 (x17 + 1)) x135000 x135001 x135002 x135003) else (some false)) else (impl_Node_isNode.l0 k x1 x5 x15 x16 (wrap64 (x17 + 1)) x135000 x135001 x135002 x135003)) else (some false))) else (if x17 ≥ x5 then (if (rd x15 x17) = 0 then (impl_Node_isNode.l0 k x1 x5 x15 x16 (wrap64 (x17 + 1)) x135000 x135001 x135002 x135003) else (some false)) else (impl_Node_isNode.l0 k x1 x5 x15 x16 (wrap64 (x17 + 1)) x135000 x135001 x135002 x135003))) else (none)) else (none)) else (if x135000.toList = ([105, 110] : List UInt8) then ((impl_within.f x135003 0 1).bind fun t141 => (some t141)) else (if x135000.toList = ([99, 111, 110, 115, 116] : List UInt8) then ((impl_isWord.f x135003).bind fun t142 => (some t142)) else (if x5 > 0 then (some (x135003 == 0)) else (some false))))
def impl_Node_isNode.f (k : Nat) (a0_0 : ByteArray) (a0_1 : Int) (a0_2 : Int) (a0_3 : Int) (a1 : Int) : Option (Bool) := (impl_operands.f k a0_0).bind fun t135 => ((some (([a0_1, a0_2] : List Int) : List Int)).bind fun y136 => (impl_Node_isNode.l0 k a1 t135 y136 (y136.length : Int) 0 a0_0 a0_1 a0_2 a0_3))
set_option maxHeartbeats 8000000 in
set_option maxRecDepth 100000 in
theorem impl_Node_isNode.calls (k : Nat) (a0_0 : ByteArray) (a0_1 : Int) (a0_2 : Int) (a0_3 : Int) (a1 : Int) (r : Bool) (w : World) (h : impl_Node_isNode.f k a0_0 a0_1 a0_2 a0_3 a1 = some r) :
  Calls Try.prog 70 #[.agg #[.string a0_0, .int .i64 a0_1, .int .i64 a0_2, .int .i64 a0_3], .int .i64 a1] w fun e w' => e = .returned (.bool r) ∧ Below w.heap.size w w' := by
 have hu47 := Try.underlying47
 have HB := zK (Below.refl w.heap.size w)
 have H : ((impl_operands.f k a0_0).bind fun t135 => ((some (([a0_1, a0_2] : List Int) : List Int)).bind fun y136 => (impl_Node_isNode.l0 k a1 t135 y136 (y136.length : Int) 0 a0_0 a0_1 a0_2 a0_3))) = some r := h
 clear h
 replace H := Option.bind_eq_some_iff.mp H
 obtain ⟨t135, A30, H⟩ := H
 replace H : ((some (([a0_1, a0_2] : List Int) : List Int)).bind fun y136 => (impl_Node_isNode.l0 k a1 t135 y136 (y136.length : Int) 0 a0_0 a0_1 a0_2 a0_3)) = some r := H
 have A3 := zK A30
 clear A30
 obtain ⟨y136, hy136⟩ : ∃ y_ : List Int, y_ = (([a0_1, a0_2] : List Int)) := ⟨_, rfl⟩
 replace H : (impl_Node_isNode.l0 k a1 t135 y136 (y136.length : Int) 0 a0_0 a0_1 a0_2 a0_3) = some r := by have hy_ := hy136; exact xH
 have Ny136 := zK hy136
 clear hy136
 have H' := zK H
 clear H
 go_enter Try.func70, Try.ntmps70
 go_wp2_with (first | ((with_reducible refine gate_dst (N := 2) rfl ?_); refine box_event ?hg (N := 2) ?hd (cs := #[.string a0_0, .int .i64 a0_1, .int .i64 a0_2, .int .i64 a0_3]) (t := 47) ?hr ?_; (case hd | hg => rfl); (case hr => exact xxa); intro gb134 hg w4 hbox hb; have n0_ := zK (zL ya hb); have n1_ := zK (hbox); have n2_ := zK ((by rw [hg]; exact (zN ya) : w.heap.size ≤ gb134)); have n3_ := n2_; clear HB; have HB := n0_; have BK134 := n1_; have GW134 := n2_; have GE134 := n3_; clear n0_ n1_ n2_ n3_; clear hb hbox hg; have hcz5_0 : w4.cell? ⟨gb134, 0, none⟩ = some (.string a0_0) := (zI BK134.out 0).trans rfl; have hcz5_1 : w4.cell? ⟨gb134, 1, none⟩ = some (.int .i64 a0_1) := (zI BK134.out 1).trans rfl; have hcz5_2 : w4.cell? ⟨gb134, 2, none⟩ = some (.int .i64 a0_2) := (zI BK134.out 2).trans rfl; have hcz5_3 : w4.cell? ⟨gb134, 3, none⟩ = some (.int .i64 a0_3) := (zI BK134.out 3).trans rfl; have hfz5_0 := zH BK134.out 0; have hfz5_1 := zH BK134.out 1; have hfz5_2 := zH BK134.out 2; have hfz5_3 := zH BK134.out 3) | ((with_reducible refine gate_callee (f := 83) rfl ?_); refine goesL_ (some 10) rfl rfl Try.func83 yi rfl #[.string a0_0] rfl yb ?_; (with_reducible refine (impl_operands.calls k a0_0 t135 _ A3.out).mono ?_); rintro e w6 ⟨rfl, hb⟩; refine ⟨_, rfl, ?_⟩; have n0_ := zK (zM (g := gb134) (o := .cells #[.string a0_0, .int .i64 a0_1, .int .i64 a0_2, .int .i64 a0_3] 47 (0, 0)) yc2 hb); have n1_ := zK (zL yq hb); clear BK134; clear HB; have BK134 := n0_; have HB := n1_; clear n0_ n1_; (try clear hb); (try clear hb2); (try clear hk); (try clear hi); have hcz7_0 : w6.cell? ⟨gb134, 0, none⟩ = some (.string a0_0) := (zI BK134.out 0).trans rfl; have hcz7_1 : w6.cell? ⟨gb134, 1, none⟩ = some (.int .i64 a0_1) := (zI BK134.out 1).trans rfl; have hcz7_2 : w6.cell? ⟨gb134, 2, none⟩ = some (.int .i64 a0_2) := (zI BK134.out 2).trans rfl; have hcz7_3 : w6.cell? ⟨gb134, 3, none⟩ = some (.int .i64 a0_3) := (zI BK134.out 3).trans rfl; have hfz7_0 := zH BK134.out 0; have hfz7_1 := zH BK134.out 1; have hfz7_2 := zH BK134.out 2; have hfz7_3 := zH BK134.out 3) | ((with_reducible refine gate_dst (N := 15) rfl ?_); refine Kd.R_lit (Kd.int .i64) _ 3 ?hg (N := 15) ?hd (xs := ([a0_1, a0_2] : List Int)) (inner := [.int .i64 a0_1, .int .i64 a0_2]) (ok := fun _ => True) (okp := fun _ => True) ?hr ?hp (fun _ hk => hk) trivial (Below.refl _ _) (Nat.le_refl _) ye1 ?_; (case hd | hg => rfl); (case hr => exact xxa); (case hp => exact xxf); intro v137 w8 ho9 hb hg_ hnew_; clear hg_ hnew_; (first | rw [← Ny136.out] at ho9 | (simp only [Int.reduceToNat] at ho9; rw [← Ny136.out] at ho9)); have n0_ := zK (Kd.R_lower ho9 (zN yq)); have n1_ := zK (zM (g := gb134) (o := .cells #[.string a0_0, .int .i64 a0_1, .int .i64 a0_2, .int .i64 a0_3] 47 (0, 0)) yc2 hb); have n2_ := zK (zL yq hb); clear BK134; clear HB; have HO138 := n0_; have BK134 := n1_; have HB := n2_; clear n0_ n1_ n2_; clear hb ho9; obtain ⟨Ao10, co10, eo10⟩ := Kd.R_slice HO138.out; subst eo10))
 go_loopg [17] k (fun kq v17 w' => ∃ (x17_1 : Int), v17 = .int .i64 x17_1 ∧ Aside0 (impl_Node_isNode.l0 kq a1 t135 y136 (y136.length : Int) x17_1 a0_0 a0_1 a0_2 a0_3 = some r) ∧ Aside0 (kq ≤ k) ∧ Aside0 (Kd.R (Kd.int .i64) 3 w' w.heap.size (fun _ => True) (.slice Ao10 y136.length co10) y136) ∧ Aside0 (w'.heap[gb134]? = some (.cells #[.string a0_0, .int .i64 a0_1, .int .i64 a0_2, .int .i64 a0_3] 47 (0, 0))) ∧ Aside0 (Below w.heap.size w w'))
 case atStart => exact ⟨(0), ye, H', ⟨Nat.le_refl _⟩, ⟨yR HO138.out⟩, ⟨yc2⟩, ⟨yq⟩⟩
 case round =>
  clear H'
  try clear p2
  try clear c7
  try clear c8
  try clear hcz5_0
  try clear hcz5_1
  try clear hcz5_2
  try clear hcz5_3
  try clear hcz7_0
  try clear hcz7_1
  try clear hcz7_2
  try clear hcz7_3
  try clear hfz5_0
  try clear hfz5_1
  try clear hfz5_2
  try clear hfz5_3
  try clear hfz7_0
  try clear hfz7_1
  try clear hfz7_2
  try clear hfz7_3
  obtain ⟨x17_1, rfl, HA, HK1, HO_15, BK134, HB⟩ := hrel
  cases gk with
  | zero => exact absurd HA.out (by simp [impl_Node_isNode.l0])
  | succ k1 =>
   have H := HA.out
   clear HA
   simp only [impl_Node_isNode.l0] at H
   by_cases c11 : x17_1 < (y136.length : Int)
   ·rw [if_pos c11] at H
    have c11b0 : decide (x17_1 < (y136.length : Int)) = true := decide_eq_true c11
    clear c11
    by_cases c12 : 0 ≤ x17_1
    ·rw [if_pos c12] at H
     have c12b0 : decide (0 ≤ x17_1) = true := decide_eq_true c12
     clear c12
     by_cases c13 : x17_1 < (y136.length : Int)
     ·rw [if_pos c13] at H
      have c13b0 : decide (x17_1 < (y136.length : Int)) = true := decide_eq_true c13
      clear c13
      by_cases c14 : x17_1 < t135
      ·rw [if_pos c14] at H
       have c14b0 : decide (x17_1 < t135) = true := decide_eq_true c14
       clear c14
       replace H := Option.bind_eq_some_iff.mp H
       obtain ⟨t140, A150, H⟩ := H
       replace H : (if t140 = true then (if x17_1 ≥ t135 then (if (rd y136 x17_1) = 0 then (impl_Node_isNode.l0 k1 a1 t135 y136 (y136.length : Int) (wrap64 (x17_1 + 1)) a0_0 a0_1 a0_2 a0_3) else (some false)) else (impl_Node_isNode.l0 k1 a1 t135 y136 (y136.length : Int) (wrap64 (x17_1 + 1)) a0_0 a0_1 a0_2 a0_3)) else (some false)) = some r := H
       have A15 := zK A150
       clear A150
       by_cases c16 : t140 = true
       ·subst c16
        rw [if_pos rfl] at H
        by_cases c17 : x17_1 ≥ t135
        ·rw [if_pos c17] at H
         have c17b0 : decide (t135 ≤ x17_1) = true := decide_eq_true c17
         clear c17
         by_cases c18 : (rd y136 x17_1) = 0
         ·rw [if_pos c18] at H
          have c18b0 : ((rd y136 x17_1) == 0) = true := beq_iff_eq.mpr c18
          have c18b1 : ((rd y136 x17_1) != 0) = false := bne_eq_false_iff_eq.mpr c18
          clear c18
          have H' := zK H
          clear H
          have p139 : 0 ≤ (x17_1 : Int) := zo
          have q139 : x17_1 < (y136.length : Int) := zo
          obtain ⟨ad139, e139, hx139_0⟩ := Kd.at_int (Kd.R_reads' HO_15.out).2.2 x17_1 p139 q139
          cases e139
          replace p139 := eq_true p139
          replace q139 := eq_true q139
          go_wp2_with (first | (go_at_call 56; (with_reducible refine (impl_within.calls (rd y136 x17_1) 0 (wrap64 (a1 - 1)) true _ A15.out).mono ?_); rintro e w' ⟨rfl, ⟨nd, rfl⟩⟩))
          go_roundg k1
          case measure => have := HK1.out; omega
          case rel => exact ⟨(wrap64 (x17_1 + 1)), ye, H', ⟨yb2⟩, ⟨yR HO_15.out⟩, ⟨yc2⟩, ⟨yq⟩⟩
         ·rw [if_neg c18] at H
          have c18b0 : ((rd y136 x17_1) == 0) = false := beq_eq_false_iff_ne.mpr c18
          have c18b1 : ((rd y136 x17_1) != 0) = true := bne_iff_ne.mpr c18
          obtain rfl := Option.some.inj H
          have p139 : 0 ≤ (x17_1 : Int) := zo
          have q139 : x17_1 < (y136.length : Int) := zo
          obtain ⟨ad139, e139, hx139_0⟩ := Kd.at_int (Kd.R_reads' HO_15.out).2.2 x17_1 p139 q139
          cases e139
          replace p139 := eq_true p139
          replace q139 := eq_true q139
          go_wp2_with (first | (go_at_call 56; (with_reducible refine (impl_within.calls (rd y136 x17_1) 0 (wrap64 (a1 - 1)) true _ A15.out).mono ?_); rintro e w' ⟨rfl, ⟨nd, rfl⟩⟩))
          go_ret
          exact ⟨yd, yq⟩
        ·rw [if_neg c17] at H
         have c17b0 : decide (t135 ≤ x17_1) = false := decide_eq_false c17
         clear c17
         have H' := zK H
         clear H
         have p139 : 0 ≤ (x17_1 : Int) := zo
         have q139 : x17_1 < (y136.length : Int) := zo
         obtain ⟨ad139, e139, hx139_0⟩ := Kd.at_int (Kd.R_reads' HO_15.out).2.2 x17_1 p139 q139
         cases e139
         replace p139 := eq_true p139
         replace q139 := eq_true q139
         go_wp2_with (first | (go_at_call 56; (with_reducible refine (impl_within.calls (rd y136 x17_1) 0 (wrap64 (a1 - 1)) true _ A15.out).mono ?_); rintro e w' ⟨rfl, ⟨nd, rfl⟩⟩))
         go_roundg k1
         case measure => have := HK1.out; omega
         case rel => exact ⟨(wrap64 (x17_1 + 1)), ye, H', ⟨yb2⟩, ⟨yR HO_15.out⟩, ⟨yc2⟩, ⟨yq⟩⟩
       ·replace c16 := Bool.eq_false_iff.mpr c16
        subst c16
        rw [if_neg (show ¬ (false = true) by decide)] at H
        obtain rfl := Option.some.inj H
        have p139 : 0 ≤ (x17_1 : Int) := zo
        have q139 : x17_1 < (y136.length : Int) := zo
        obtain ⟨ad139, e139, hx139_0⟩ := Kd.at_int (Kd.R_reads' HO_15.out).2.2 x17_1 p139 q139
        cases e139
        replace p139 := eq_true p139
        replace q139 := eq_true q139
        go_wp2_with (first | (go_at_call 56; (with_reducible refine (impl_within.calls (rd y136 x17_1) 0 (wrap64 (a1 - 1)) false _ A15.out).mono ?_); rintro e w' ⟨rfl, ⟨nd, rfl⟩⟩))
        go_ret
        exact ⟨yd, yq⟩
      ·rw [if_neg c14] at H
       have c14b0 : decide (x17_1 < t135) = false := decide_eq_false c14
       clear c14
       by_cases c19 : x17_1 ≥ t135
       ·rw [if_pos c19] at H
        have c19b0 : decide (t135 ≤ x17_1) = true := decide_eq_true c19
        clear c19
        by_cases c20 : (rd y136 x17_1) = 0
        ·rw [if_pos c20] at H
         have c20b0 : ((rd y136 x17_1) == 0) = true := beq_iff_eq.mpr c20
         have c20b1 : ((rd y136 x17_1) != 0) = false := bne_eq_false_iff_eq.mpr c20
         clear c20
         have H' := zK H
         clear H
         have p139 : 0 ≤ (x17_1 : Int) := zo
         have q139 : x17_1 < (y136.length : Int) := zo
         obtain ⟨ad139, e139, hx139_0⟩ := Kd.at_int (Kd.R_reads' HO_15.out).2.2 x17_1 p139 q139
         cases e139
         replace p139 := eq_true p139
         replace q139 := eq_true q139
         go_wp2
         go_roundg k1
         case measure => have := HK1.out; omega
         case rel => exact ⟨(wrap64 (x17_1 + 1)), ye, H', ⟨yb2⟩, ⟨yR HO_15.out⟩, ⟨yc2⟩, ⟨yq⟩⟩
        ·rw [if_neg c20] at H
         have c20b0 : ((rd y136 x17_1) == 0) = false := beq_eq_false_iff_ne.mpr c20
         have c20b1 : ((rd y136 x17_1) != 0) = true := bne_iff_ne.mpr c20
         obtain rfl := Option.some.inj H
         have p139 : 0 ≤ (x17_1 : Int) := zo
         have q139 : x17_1 < (y136.length : Int) := zo
         obtain ⟨ad139, e139, hx139_0⟩ := Kd.at_int (Kd.R_reads' HO_15.out).2.2 x17_1 p139 q139
         cases e139
         replace p139 := eq_true p139
         replace q139 := eq_true q139
         go_wp2
         go_ret
         exact ⟨yd, yq⟩
       ·rw [if_neg c19] at H
        have c19b0 : decide (t135 ≤ x17_1) = false := decide_eq_false c19
        clear c19
        have H' := zK H
        clear H
        have p139 : 0 ≤ (x17_1 : Int) := zo
        have q139 : x17_1 < (y136.length : Int) := zo
        obtain ⟨ad139, e139, hx139_0⟩ := Kd.at_int (Kd.R_reads' HO_15.out).2.2 x17_1 p139 q139
        cases e139
        replace p139 := eq_true p139
        replace q139 := eq_true q139
        go_wp2
        go_roundg k1
        case measure => have := HK1.out; omega
        case rel => exact ⟨(wrap64 (x17_1 + 1)), ye, H', ⟨yb2⟩, ⟨yR HO_15.out⟩, ⟨yc2⟩, ⟨yq⟩⟩
     ·rw [if_neg c13] at H
      exact absurd H ye1
    ·rw [if_neg c12] at H
     exact absurd H ye1
   ·rw [if_neg c11] at H
    have c11b0 : decide (x17_1 < (y136.length : Int)) = false := decide_eq_false c11
    clear c11
    by_cases c21 : a0_0.toList = ([105, 110] : List UInt8)
    ·rw [if_pos c21] at H
     have c21b0 : (a0_0.toList == ([105, 110] : List UInt8)) = true := beq_iff_eq.mpr c21
     have c21b1 : (a0_0.toList != ([105, 110] : List UInt8)) = false := bne_eq_false_iff_eq.mpr c21
     clear c21
     replace H := Option.bind_eq_some_iff.mp H
     obtain ⟨t141, A220, H⟩ := H
     replace H : (some t141) = some r := H
     have A22 := zK A220
     clear A220
     obtain rfl := Option.some.inj H
     have hcz23_0 : wr.cell? ⟨gb134, 0, none⟩ = some (.string a0_0) := (zI BK134.out 0).trans rfl
     have hcz23_1 : wr.cell? ⟨gb134, 1, none⟩ = some (.int .i64 a0_1) := (zI BK134.out 1).trans rfl
     have hcz23_2 : wr.cell? ⟨gb134, 2, none⟩ = some (.int .i64 a0_2) := (zI BK134.out 2).trans rfl
     have hcz23_3 : wr.cell? ⟨gb134, 3, none⟩ = some (.int .i64 a0_3) := (zI BK134.out 3).trans rfl
     have hfz23_0 := zH BK134.out 0
     have hfz23_1 := zH BK134.out 1
     have hfz23_2 := zH BK134.out 2
     have hfz23_3 := zH BK134.out 3
     go_wp2_with (first | ((with_reducible refine gate_callee (f := 56) rfl ?_); refine goesL_ (some 48) rfl rfl Try.func56 yi rfl #[.int .i64 a0_3, .int .i64 0, .int .i64 1] rfl yb ?_; (with_reducible refine (impl_within.calls a0_3 0 1 t141 _ A22.out).mono ?_); rintro e w' ⟨rfl, ⟨nd, rfl⟩⟩; refine ⟨_, rfl, ?_⟩))
     go_ret
     exact ⟨yd, yq⟩
    ·rw [if_neg c21] at H
     have c21b0 : (a0_0.toList == ([105, 110] : List UInt8)) = false := beq_eq_false_iff_ne.mpr c21
     have c21b1 : (a0_0.toList != ([105, 110] : List UInt8)) = true := bne_iff_ne.mpr c21
     by_cases c24 : a0_0.toList = ([99, 111, 110, 115, 116] : List UInt8)
     ·rw [if_pos c24] at H
      have c24b0 : (a0_0.toList == ([99, 111, 110, 115, 116] : List UInt8)) = true := beq_iff_eq.mpr c24
      have c24b1 : (a0_0.toList != ([99, 111, 110, 115, 116] : List UInt8)) = false := bne_eq_false_iff_eq.mpr c24
      clear c24
      replace H := Option.bind_eq_some_iff.mp H
      obtain ⟨t142, A250, H⟩ := H
      replace H : (some t142) = some r := H
      have A25 := zK A250
      clear A250
      obtain rfl := Option.some.inj H
      have hcz26_0 : wr.cell? ⟨gb134, 0, none⟩ = some (.string a0_0) := (zI BK134.out 0).trans rfl
      have hcz26_1 : wr.cell? ⟨gb134, 1, none⟩ = some (.int .i64 a0_1) := (zI BK134.out 1).trans rfl
      have hcz26_2 : wr.cell? ⟨gb134, 2, none⟩ = some (.int .i64 a0_2) := (zI BK134.out 2).trans rfl
      have hcz26_3 : wr.cell? ⟨gb134, 3, none⟩ = some (.int .i64 a0_3) := (zI BK134.out 3).trans rfl
      have hfz26_0 := zH BK134.out 0
      have hfz26_1 := zH BK134.out 1
      have hfz26_2 := zH BK134.out 2
      have hfz26_3 := zH BK134.out 3
      go_wp2_with (first | ((with_reducible refine gate_callee (f := 84) rfl ?_); refine goesL_ (some 53) rfl rfl Try.func84 yi rfl #[.int .i64 a0_3] rfl yb ?_; (with_reducible refine (impl_isWord.calls a0_3 t142 _ A25.out).mono ?_); rintro e w' ⟨rfl, ⟨nd, rfl⟩⟩; refine ⟨_, rfl, ?_⟩))
      go_ret
      exact ⟨yd, yq⟩
     ·rw [if_neg c24] at H
      have c24b0 : (a0_0.toList == ([99, 111, 110, 115, 116] : List UInt8)) = false := beq_eq_false_iff_ne.mpr c24
      have c24b1 : (a0_0.toList != ([99, 111, 110, 115, 116] : List UInt8)) = true := bne_iff_ne.mpr c24
      by_cases c27 : t135 > 0
      ·rw [if_pos c27] at H
       have c27b0 : decide (0 < t135) = true := decide_eq_true c27
       clear c27
       obtain rfl := Option.some.inj H
       have hcz28_0 : wr.cell? ⟨gb134, 0, none⟩ = some (.string a0_0) := (zI BK134.out 0).trans rfl
       have hcz28_1 : wr.cell? ⟨gb134, 1, none⟩ = some (.int .i64 a0_1) := (zI BK134.out 1).trans rfl
       have hcz28_2 : wr.cell? ⟨gb134, 2, none⟩ = some (.int .i64 a0_2) := (zI BK134.out 2).trans rfl
       have hcz28_3 : wr.cell? ⟨gb134, 3, none⟩ = some (.int .i64 a0_3) := (zI BK134.out 3).trans rfl
       have hfz28_0 := zH BK134.out 0
       have hfz28_1 := zH BK134.out 1
       have hfz28_2 := zH BK134.out 2
       have hfz28_3 := zH BK134.out 3
       go_wp2
       go_ret
       exact ⟨yd, yq⟩
      ·rw [if_neg c27] at H
       have c27b0 : decide (0 < t135) = false := decide_eq_false c27
       clear c27
       obtain rfl := Option.some.inj H
       have hcz29_0 : wr.cell? ⟨gb134, 0, none⟩ = some (.string a0_0) := (zI BK134.out 0).trans rfl
       have hcz29_1 : wr.cell? ⟨gb134, 1, none⟩ = some (.int .i64 a0_1) := (zI BK134.out 1).trans rfl
       have hcz29_2 : wr.cell? ⟨gb134, 2, none⟩ = some (.int .i64 a0_2) := (zI BK134.out 2).trans rfl
       have hcz29_3 : wr.cell? ⟨gb134, 3, none⟩ = some (.int .i64 a0_3) := (zI BK134.out 3).trans rfl
       have hfz29_0 := zH BK134.out 0
       have hfz29_1 := zH BK134.out 1
       have hfz29_2 := zH BK134.out 2
       have hfz29_3 := zH BK134.out 3
       go_wp2
       go_ret
       exact ⟨yd, yq⟩

/-! ### slices_Index_int_int: function 116 -/
def slices_Index_int_int.l0 : Nat → List Int → Int → Int → Int → Option (Int)
 | 0, _, _, _, _ => none
 | k + 1, x0, x1, x7, x8 => if x8 < x7 then (if 0 ≤ x8 then (if x8 < (x0.length : Int) then (if x1 = (rd x0 x8) then (some x8) else (slices_Index_int_int.l0 k x0 x1 x7 (wrap64 (x8 + 1)))) else (none)) else (none)) else (some (-1))
def slices_Index_int_int.f (k : Nat) (l0 : List Int) (a1 : Int) : Option (Int) := slices_Index_int_int.l0 k l0 a1 (l0.length : Int) 0
set_option maxHeartbeats 8000000 in
set_option maxRecDepth 100000 in
theorem slices_Index_int_int.calls (k : Nat) (A0 : Option Addr) (c0 : Nat) (l0 : List Int) (a1 : Int) (r : Int) (w : World) (hr0 : Kd.C (Kd.int .i64) w A0 l0.length l0) (hc0 : l0.length ≤ c0) (h : slices_Index_int_int.f k l0 a1 = some r) :
  Calls Try.prog 116 #[.slice A0 l0.length c0, .int .i64 a1] w fun e w' => e = .returned (.int .i64 r) ∧ Drawn0 w w' := by
 have HR0 := zK hr0
 have HC0 := zK hc0
 clear hr0 hc0
 have H : (slices_Index_int_int.l0 k l0 a1 (l0.length : Int) 0) = some r := h
 clear h
 have H' := zK H
 clear H
 go_enter Try.func116, Try.ntmps116
 go_wp2
 go_loopg [8] k (fun kq v8 w' => ∃ (x8_1 : Int), v8 = .int .i64 x8_1 ∧ Aside0 (slices_Index_int_int.l0 kq l0 a1 (l0.length : Int) x8_1 = some r) ∧ Aside0 (kq ≤ k) ∧ Drawn0 w w')
 case atStart => exact ⟨(0), ye, H', ⟨Nat.le_refl _⟩, yg⟩
 case round =>
  clear H'
  try clear c1
  try clear p2
  obtain ⟨x8_1, rfl, HA, HK1, ⟨m1, rfl⟩⟩ := hrel
  cases gk with
  | zero => exact absurd HA.out (by simp [slices_Index_int_int.l0])
  | succ k1 =>
   have H := HA.out
   clear HA
   simp only [slices_Index_int_int.l0] at H
   by_cases c3 : x8_1 < (l0.length : Int)
   ·rw [if_pos c3] at H
    have c3b0 : decide (x8_1 < (l0.length : Int)) = true := decide_eq_true c3
    clear c3
    by_cases c4 : 0 ≤ x8_1
    ·rw [if_pos c4] at H
     have c4b0 : decide (0 ≤ x8_1) = true := decide_eq_true c4
     clear c4
     by_cases c5 : x8_1 < (l0.length : Int)
     ·rw [if_pos c5] at H
      have c5b0 : decide (x8_1 < (l0.length : Int)) = true := decide_eq_true c5
      clear c5
      by_cases c6 : a1 = (rd l0 x8_1)
      ·rw [if_pos c6] at H
       have c6b0 : (a1 == (rd l0 x8_1)) = true := beq_iff_eq.mpr c6
       have c6b1 : (a1 != (rd l0 x8_1)) = false := bne_eq_false_iff_eq.mpr c6
       clear c6
       obtain rfl := Option.some.inj H
       have p143 : 0 ≤ (x8_1 : Int) := zo
       have q143 : x8_1 < (l0.length : Int) := zo
       obtain ⟨ad143, e143, hx143_0⟩ := Kd.at_int HR0.out x8_1 p143 q143
       cases e143
       replace p143 := eq_true p143
       replace q143 := eq_true q143
       go_wp2
       go_ret
       exact ⟨ye, yg⟩
      ·rw [if_neg c6] at H
       have c6b0 : (a1 == (rd l0 x8_1)) = false := beq_eq_false_iff_ne.mpr c6
       have c6b1 : (a1 != (rd l0 x8_1)) = true := bne_iff_ne.mpr c6
       have H' := zK H
       clear H
       have p143 : 0 ≤ (x8_1 : Int) := zo
       have q143 : x8_1 < (l0.length : Int) := zo
       obtain ⟨ad143, e143, hx143_0⟩ := Kd.at_int HR0.out x8_1 p143 q143
       cases e143
       replace p143 := eq_true p143
       replace q143 := eq_true q143
       go_wp2
       go_roundg k1
       case measure => have := HK1.out; omega
       case rel => exact ⟨(wrap64 (x8_1 + 1)), ye, H', ⟨yb2⟩, yg⟩
     ·rw [if_neg c5] at H
      exact absurd H ye1
    ·rw [if_neg c4] at H
     exact absurd H ye1
   ·rw [if_neg c3] at H
    have c3b0 : decide (x8_1 < (l0.length : Int)) = false := decide_eq_false c3
    clear c3
    obtain rfl := Option.some.inj H
    go_wp2
    go_ret
    exact ⟨ye, yg⟩

/-! ### slices_Contains_int_int: function 71 -/
def slices_Contains_int_int.f (k : Nat) (l0 : List Int) (a1 : Int) : Option (Bool) := (slices_Index_int_int.f k l0 a1).bind fun t144 => (some (decide (t144 ≥ 0)))
set_option maxHeartbeats 8000000 in
set_option maxRecDepth 100000 in
theorem slices_Contains_int_int.calls (k : Nat) (A0 : Option Addr) (c0 : Nat) (l0 : List Int) (a1 : Int) (r : Bool) (w : World) (hr0 : Kd.C (Kd.int .i64) w A0 l0.length l0) (hc0 : l0.length ≤ c0) (h : slices_Contains_int_int.f k l0 a1 = some r) :
  Calls Try.prog 71 #[.slice A0 l0.length c0, .int .i64 a1] w fun e w' => e = .returned (.bool r) ∧ Drawn0 w w' := by
 have HR0 := zK hr0
 have HC0 := zK hc0
 clear hr0 hc0
 have H : ((slices_Index_int_int.f k l0 a1).bind fun t144 => (some (decide (t144 ≥ 0)))) = some r := h
 clear h
 replace H := Option.bind_eq_some_iff.mp H
 obtain ⟨t144, A30, H⟩ := H
 replace H : (some (decide (t144 ≥ 0))) = some r := H
 have A3 := zK A30
 clear A30
 obtain rfl := Option.some.inj H
 go_enter Try.func71, Try.ntmps71
 go_wp2_with (first | ((with_reducible refine gate_callee (f := 116) rfl ?_); refine goesL_ (some 7) rfl rfl Try.func116 yi rfl #[.slice A0 l0.length c0, .int .i64 a1] rfl yb ?_; (with_reducible refine (slices_Index_int_int.calls k _ _ l0 a1 t144 _ ?side1 ?side2 A3.out).mono ?_); (case side1 => exact xxc); (case side2 => exact HC0.out); rintro e w' ⟨rfl, ⟨nd, rfl⟩⟩; refine ⟨_, rfl, ?_⟩))
 go_ret
 exact ⟨ye, yg⟩

end Go.Proofs.Ytlcplhcccgbmnaa.D
