/- Contracts: spec_l1All, spec_cdRegs, spec_exApply, spec_cdValue, spec_cdStep. -/
import Derived.Test.YtecmlikhmkcdpaaGK
import Derived.Test.YtecmlikhmkcdpaaTW
import Derived.Test.YtecmlikhmkcdpaaGLawsMarkInstrS
import Derived.Test.YtecmlikhmkcdpaaGSpecCdGood
namespace Go.Proofs.Ytecmlikhmkcdpaa.G
open Go.RowKit Go.Proofs.YtecmlikhmkcdpaaW.PrintWords Go.Proofs.YtecmlikhmkcdpaaW.PrintLast Go.Proofs.YtecmlikhmkcdpaaW.PrintMore
attribute [local go_sem] max2_int min2_int max_two min_two max_three min_three max_four min_four   -- for this text's walks alone
set_option linter.unusedVariables false
set_option linter.unusedSimpArgs false

/-! ### spec_l1All: function 130 -/
def spec_l1All.l0 : Nat → Int → Int → List Int → Int → Int → Option (Bool)
 | 0, _, _, _, _, _ => none
 | k + 1, x1, x2, x9, x10, x11 => if x11 < x10 then (if 0 ≤ x11 then (if x11 < (x9.length : Int) then ((spec_l1In.f (rd x9 x11) x1 x2).bind fun t581 => (if t581 = true then (spec_l1All.l0 k x1 x2 x9 x10 (wrap64 (x11 + 1))) else (some false))) else (none)) else (none)) else (some true)
def spec_l1All.f (k : Nat) (l0 : List Int) (a1 : Int) (a2 : Int) : Option (Bool) := spec_l1All.l0 k a1 a2 l0 (l0.length : Int) 0
theorem spec_l1All.mono_l : ∀ k, (∀ y0 y1 y2 y3 y4, LeO (spec_l1All.l0 k y0 y1 y2 y3 y4) (spec_l1All.l0 (k + 1) y0 y1 y2 y3 y4))
 | 0 => fun _ _ _ _ _ r h => by simp [spec_l1All.l0] at h
 | k + 1 => by
  have ih0 := spec_l1All.mono_l k
  ·intro y0 y1 y2 y3 y4
   unfold spec_l1All.l0
   repeat' first
   | (with_reducible exact ih0 _ _ _ _ _)
   | (with_reducible exact LeO.refl _)
   | (with_reducible exact LeO.none _)
   | (with_reducible refine LeO.ite ?_ ?_)
   | (with_reducible refine LeO.bind ?_ (fun _ => ?_))
   | exact ih0 _ _ _ _ _
   | exact LeO.none _
   | refine LeO.ite ?_ ?_
   | refine LeO.bind ?_ (fun _ => ?_)
theorem spec_l1All.mono : ∀ a0 a1 a2 k, LeO (spec_l1All.f k a0 a1 a2) (spec_l1All.f (k + 1) a0 a1 a2) := by
 intro a0 a1 a2 k
 have ih0 := spec_l1All.mono_l k
 unfold spec_l1All.f
 repeat' first
   | (with_reducible exact ih0 _ _ _ _ _)
   | (with_reducible exact LeO.refl _)
   | (with_reducible exact LeO.none _)
   | (with_reducible refine LeO.ite ?_ ?_)
   | (with_reducible refine LeO.bind ?_ (fun _ => ?_))
   | exact ih0 _ _ _ _ _
   | exact LeO.none _
   | refine LeO.ite ?_ ?_
   | refine LeO.bind ?_ (fun _ => ?_)
set_option maxHeartbeats 8000000 in
set_option maxRecDepth 100000 in
theorem spec_l1All.calls (k : Nat) (A0 : Option Addr) (c0 : Nat) (l0 : List Int) (a1 : Int) (a2 : Int) (r : Bool) (w : World) (hr0 : Kd.C (Kd.int .i64) w A0 l0.length l0) (hc0 : l0.length ≤ c0) (h : spec_l1All.f k l0 a1 a2 = some r) :
  Calls Try.prog 130 #[.slice A0 l0.length c0, .int .i64 a1, .int .i64 a2] w fun e w' => e = .returned (.bool r) ∧ Drawn0 w w' := by
 have HR0 := zK hr0
 have HC0 := zK hc0
 clear hr0 hc0
 have H : (spec_l1All.l0 k a1 a2 l0 (l0.length : Int) 0) = some r := h
 clear h
 have H' := zK H
 clear H
 go_enter Try.func130, Try.ntmps130
 go_wp2
 go_loopg [11] k (fun kq v11 w' => ∃ (x11_1 : Int), v11 = .int .i64 x11_1 ∧ Aside0 (spec_l1All.l0 kq a1 a2 l0 (l0.length : Int) x11_1 = some r) ∧ Aside0 (kq ≤ k) ∧ Drawn0 w w')
 case atStart => exact ⟨(0), (by first | rfl | (simp; done) | (simp [*]; done)), H', ⟨Nat.le_refl _⟩, by repeat (first | exact Drawn0.refl _ | apply Drawn0.step)⟩
 case round =>
  clear H'
  try clear c1
  try clear p2
  obtain ⟨x11_1, rfl, HA, HK1, ⟨m1, rfl⟩⟩ := hrel
  cases gk with
  | zero => exact absurd HA.out (by simp [spec_l1All.l0])
  | succ k1 =>
   have H := HA.out
   clear HA
   simp only [spec_l1All.l0] at H
   by_cases c4 : x11_1 < (l0.length : Int)
   ·rw [if_pos c4] at H
    have c4b0 : decide (x11_1 < (l0.length : Int)) = true := decide_eq_true c4
    clear c4
    by_cases c5 : 0 ≤ x11_1
    ·rw [if_pos c5] at H
     have c5b0 : decide (0 ≤ x11_1) = true := decide_eq_true c5
     clear c5
     by_cases c6 : x11_1 < (l0.length : Int)
     ·rw [if_pos c6] at H
      have c6b0 : decide (x11_1 < (l0.length : Int)) = true := decide_eq_true c6
      clear c6
      replace H := Option.bind_eq_some_iff.mp H
      obtain ⟨t581, A70, H⟩ := H
      replace H : (if t581 = true then (spec_l1All.l0 k1 a1 a2 l0 (l0.length : Int) (wrap64 (x11_1 + 1))) else (some false)) = some r := H
      have A7 := zK A70
      clear A70
      by_cases c8 : t581 = true
      ·subst c8
       rw [if_pos rfl] at H
       have H' := zK H
       clear H
       have p580 : 0 ≤ (x11_1 : Int) := zo
       have q580 : x11_1 < (l0.length : Int) := zo
       obtain ⟨ad580, e580, hx580_0⟩ := Kd.at_int HR0.out x11_1 p580 q580
       cases e580
       replace p580 := eq_true p580
       replace q580 := eq_true q580
       go_wp2_with (first | ((with_reducible refine gate_callee (f := 81) rfl ?_); refine goesL_ (some 18) rfl rfl Try.func81 (by kernel_rfl) rfl #[.int .i64 (rd l0 x11_1), .int .i64 a1, .int .i64 a2] rfl (by (try simp only [z6, z7, z8]); first | done | rfl | (simp only [z4, z5]; rfl)) ?_; (with_reducible refine (spec_l1In.calls (rd l0 x11_1) a1 a2 true _ A7.out).mono ?_); rintro e w' ⟨rfl, ⟨nd, rfl⟩⟩; refine ⟨_, rfl, ?_⟩))
       go_roundg k1
       case measure => have := HK1.out; omega
       case rel => exact ⟨(wrap64 (x11_1 + 1)), (by first | rfl | (simp; done) | (simp [*]; done)), H', ⟨by have := HK1.out; omega⟩, by repeat (first | exact Drawn0.refl _ | apply Drawn0.step)⟩
      ·replace c8 := Bool.eq_false_iff.mpr c8
       subst c8
       rw [if_neg (show ¬ (false = true) by decide)] at H
       obtain rfl := Option.some.inj H
       have p580 : 0 ≤ (x11_1 : Int) := zo
       have q580 : x11_1 < (l0.length : Int) := zo
       obtain ⟨ad580, e580, hx580_0⟩ := Kd.at_int HR0.out x11_1 p580 q580
       cases e580
       replace p580 := eq_true p580
       replace q580 := eq_true q580
       go_wp2_with (first | ((with_reducible refine gate_callee (f := 81) rfl ?_); refine goesL_ (some 18) rfl rfl Try.func81 (by kernel_rfl) rfl #[.int .i64 (rd l0 x11_1), .int .i64 a1, .int .i64 a2] rfl (by (try simp only [z6, z7, z8]); first | done | rfl | (simp only [z4, z5]; rfl)) ?_; (with_reducible refine (spec_l1In.calls (rd l0 x11_1) a1 a2 false _ A7.out).mono ?_); rintro e w' ⟨rfl, ⟨nd, rfl⟩⟩; refine ⟨_, rfl, ?_⟩))
       go_ret
       exact ⟨by first | rfl | (simp; done) | (simp [*]; done), by repeat (first | exact Drawn0.refl _ | apply Drawn0.step)⟩
     ·rw [if_neg c6] at H
      exact absurd H (by simp)
    ·rw [if_neg c5] at H
     exact absurd H (by simp)
   ·rw [if_neg c4] at H
    have c4b0 : decide (x11_1 < (l0.length : Int)) = false := decide_eq_false c4
    clear c4
    obtain rfl := Option.some.inj H
    go_wp2
    go_ret
    exact ⟨by first | rfl | (simp; done) | (simp [*]; done), by repeat (first | exact Drawn0.refl _ | apply Drawn0.step)⟩

/-! ### spec_cdRegs: function 75 -/
def spec_cdRegs.f (k : Nat) (l0 : List Int) : Option (Bool) := if (l0.length : Int) = 6 then ((spec_l1All.f k l0 0 63).bind fun t582 => (some t582)) else (some false)
theorem spec_cdRegs.mono : ∀ a0 k, LeO (spec_cdRegs.f k a0) (spec_cdRegs.f (k + 1) a0) := by
 intro a0 k
 unfold spec_cdRegs.f
 repeat' first
   | (with_reducible exact spec_l1All.mono _ _ _ _)
   | (with_reducible exact LeO.refl _)
   | (with_reducible exact LeO.none _)
   | (with_reducible refine LeO.ite ?_ ?_)
   | (with_reducible refine LeO.bind ?_ (fun _ => ?_))
   | exact spec_l1All.mono _ _ _ _
   | exact LeO.none _
   | refine LeO.ite ?_ ?_
   | refine LeO.bind ?_ (fun _ => ?_)
set_option maxHeartbeats 8000000 in
set_option maxRecDepth 100000 in
theorem spec_cdRegs.calls (k : Nat) (A0 : Option Addr) (c0 : Nat) (l0 : List Int) (r : Bool) (w : World) (hr0 : Kd.C (Kd.int .i64) w A0 l0.length l0) (hc0 : l0.length ≤ c0) (h : spec_cdRegs.f k l0 = some r) :
  Calls Try.prog 75 #[.slice A0 l0.length c0] w fun e w' => e = .returned (.bool r) ∧ Drawn0 w w' := by
 have HR0 := zK hr0
 have HC0 := zK hc0
 clear hr0 hc0
 have H : (if (l0.length : Int) = 6 then ((spec_l1All.f k l0 0 63).bind fun t582 => (some t582)) else (some false)) = some r := h
 clear h
 by_cases c2 : (l0.length : Int) = 6
 ·rw [if_pos c2] at H
  have c2b0 : ((l0.length : Int) == 6) = true := beq_iff_eq.mpr c2
  have c2b1 : ((l0.length : Int) != 6) = false := bne_eq_false_iff_eq.mpr c2
  clear c2
  replace H := Option.bind_eq_some_iff.mp H
  obtain ⟨t582, A30, H⟩ := H
  replace H : (some t582) = some r := H
  have A3 := zK A30
  clear A30
  obtain rfl := Option.some.inj H
  go_enter Try.func75, Try.ntmps75
  go_wp2_with (first | (go_at_call 130; (with_reducible refine (spec_l1All.calls k _ _ l0 0 63 t582 _ ?side1 ?side2 A3.out).mono ?_); (case side1 => repeat (first | exact HR0.out | (with_reducible refine Kd.C_alloc ?_ _) | (with_reducible refine Kd.C_drewN ?_ _) | (with_reducible refine Kd.C_drew ?_))); (case side2 => exact HC0.out); rintro e w' ⟨rfl, ⟨nd, rfl⟩⟩))
  go_ret
  exact ⟨by first | rfl | (simp; done) | (simp [*]; done), by repeat (first | exact Drawn0.refl _ | apply Drawn0.step)⟩
 ·rw [if_neg c2] at H
  have c2b0 : ((l0.length : Int) == 6) = false := beq_eq_false_iff_ne.mpr c2
  have c2b1 : ((l0.length : Int) != 6) = true := bne_iff_ne.mpr c2
  obtain rfl := Option.some.inj H
  go_enter Try.func75, Try.ntmps75
  go_wp2
  go_ret
  exact ⟨by first | rfl | (simp; done) | (simp [*]; done), by repeat (first | exact Drawn0.refl _ | apply Drawn0.step)⟩

/-! ### spec_exApply: function 124 -/
def spec_exApply.f (a0 : ByteArray) (a1 : Int) (a2 : Int) : Option (Int) := if a0.toList = ([110, 111, 116] : List UInt8) then (some (Go.bits .and .i64 (wrap64 (63 - a1)) 63)) else (if a0.toList = ([110, 101, 103] : List UInt8) then (some (Go.bits .and .i64 (wrap64 (-a1)) 63)) else (if a0.toList = ([97, 100, 100] : List UInt8) then (some (Go.bits .and .i64 (wrap64 (a1 + a2)) 63)) else (if a0.toList = ([115, 117, 98] : List UInt8) then (some (Go.bits .and .i64 (wrap64 (a1 - a2)) 63)) else (if a0.toList = ([109, 117, 108] : List UInt8) then (some (Go.bits .and .i64 (wrap64 (a1 * a2)) 63)) else (if a0.toList = ([97, 110, 100] : List UInt8) then (some (Go.bits .and .i64 (Go.bits .and .i64 a1 a2) 63)) else (if a0.toList = ([111, 114] : List UInt8) then (some (Go.bits .and .i64 (Go.bits .or .i64 a1 a2) 63)) else (if a0.toList = ([120, 111, 114] : List UInt8) then (some (Go.bits .and .i64 (Go.bits .xor .i64 a1 a2) 63)) else (if a0.toList = ([115, 104, 108] : List UInt8) then (if a2 < 6 then (if 0 ≤ a2 then (some (Go.bits .and .i64 (shl .i64 a1 a2) 63)) else (none)) else (some (Go.bits .and .i64 0 63))) else (if a0.toList = ([115, 104, 114] : List UInt8) then (if a2 < 6 then (if 0 ≤ a2 then (some (Go.bits .and .i64 (shr .i64 a1 a2) 63)) else (none)) else (some (Go.bits .and .i64 0 63))) else (if a0.toList = ([108, 101, 115, 115] : List UInt8) then (if a1 < a2 then (some (Go.bits .and .i64 1 63)) else (some (Go.bits .and .i64 0 63))) else (if a0.toList = ([101, 113] : List UInt8) then (if a1 = a2 then (some (Go.bits .and .i64 1 63)) else (some (Go.bits .and .i64 0 63))) else (some (Go.bits .and .i64 0 63)))))))))))))
set_option maxHeartbeats 8000000 in
set_option maxRecDepth 100000 in
theorem spec_exApply.calls (a0 : ByteArray) (a1 : Int) (a2 : Int) (r : Int) (w : World) (h : spec_exApply.f a0 a1 a2 = some r) :
  Calls Try.prog 124 #[.string a0, .int .i64 a1, .int .i64 a2] w fun e w' => e = .returned (.int .i64 r) ∧ Drawn0 w w' := by
 have H : (if a0.toList = ([110, 111, 116] : List UInt8) then (some (Go.bits .and .i64 (wrap64 (63 - a1)) 63)) else (if a0.toList = ([110, 101, 103] : List UInt8) then (some (Go.bits .and .i64 (wrap64 (-a1)) 63)) else (if a0.toList = ([97, 100, 100] : List UInt8) then (some (Go.bits .and .i64 (wrap64 (a1 + a2)) 63)) else (if a0.toList = ([115, 117, 98] : List UInt8) then (some (Go.bits .and .i64 (wrap64 (a1 - a2)) 63)) else (if a0.toList = ([109, 117, 108] : List UInt8) then (some (Go.bits .and .i64 (wrap64 (a1 * a2)) 63)) else (if a0.toList = ([97, 110, 100] : List UInt8) then (some (Go.bits .and .i64 (Go.bits .and .i64 a1 a2) 63)) else (if a0.toList = ([111, 114] : List UInt8) then (some (Go.bits .and .i64 (Go.bits .or .i64 a1 a2) 63)) else (if a0.toList = ([120, 111, 114] : List UInt8) then (some (Go.bits .and .i64 (Go.bits .xor .i64 a1 a2) 63)) else (if a0.toList = ([115, 104, 108] : List UInt8) then (if a2 < 6 then (if 0 ≤ a2 then (some (Go.bits .and .i64 (shl .i64 a1 a2) 63)) else (none)) else (some (Go.bits .and .i64 0 63))) else (if a0.toList = ([115, 104, 114] : List UInt8) then (if a2 < 6 then (if 0 ≤ a2 then (some (Go.bits .and .i64 (shr .i64 a1 a2) 63)) else (none)) else (some (Go.bits .and .i64 0 63))) else (if a0.toList = ([108, 101, 115, 115] : List UInt8) then (if a1 < a2 then (some (Go.bits .and .i64 1 63)) else (some (Go.bits .and .i64 0 63))) else (if a0.toList = ([101, 113] : List UInt8) then (if a1 = a2 then (some (Go.bits .and .i64 1 63)) else (some (Go.bits .and .i64 0 63))) else (some (Go.bits .and .i64 0 63)))))))))))))) = some r := h
 clear h
 by_cases c4 : a0.toList = ([110, 111, 116] : List UInt8)
 ·rw [if_pos c4] at H
  have c4b0 : (a0.toList == ([110, 111, 116] : List UInt8)) = true := beq_iff_eq.mpr c4
  have c4b1 : (a0.toList != ([110, 111, 116] : List UInt8)) = false := bne_eq_false_iff_eq.mpr c4
  clear c4
  obtain rfl := Option.some.inj H
  go_enter Try.func124, Try.ntmps124
  go_wp2
  go_ret
  exact ⟨by first | rfl | (simp; done) | (simp [*]; done), by repeat (first | exact Drawn0.refl _ | apply Drawn0.step)⟩
 ·rw [if_neg c4] at H
  have c4b0 : (a0.toList == ([110, 111, 116] : List UInt8)) = false := beq_eq_false_iff_ne.mpr c4
  have c4b1 : (a0.toList != ([110, 111, 116] : List UInt8)) = true := bne_iff_ne.mpr c4
  by_cases c5 : a0.toList = ([110, 101, 103] : List UInt8)
  ·rw [if_pos c5] at H
   have c5b0 : (a0.toList == ([110, 101, 103] : List UInt8)) = true := beq_iff_eq.mpr c5
   have c5b1 : (a0.toList != ([110, 101, 103] : List UInt8)) = false := bne_eq_false_iff_eq.mpr c5
   clear c5
   obtain rfl := Option.some.inj H
   go_enter Try.func124, Try.ntmps124
   go_wp2
   go_ret
   exact ⟨by first | rfl | (simp; done) | (simp [*]; done), by repeat (first | exact Drawn0.refl _ | apply Drawn0.step)⟩
  ·rw [if_neg c5] at H
   have c5b0 : (a0.toList == ([110, 101, 103] : List UInt8)) = false := beq_eq_false_iff_ne.mpr c5
   have c5b1 : (a0.toList != ([110, 101, 103] : List UInt8)) = true := bne_iff_ne.mpr c5
   by_cases c6 : a0.toList = ([97, 100, 100] : List UInt8)
   ·rw [if_pos c6] at H
    have c6b0 : (a0.toList == ([97, 100, 100] : List UInt8)) = true := beq_iff_eq.mpr c6
    have c6b1 : (a0.toList != ([97, 100, 100] : List UInt8)) = false := bne_eq_false_iff_eq.mpr c6
    clear c6
    obtain rfl := Option.some.inj H
    go_enter Try.func124, Try.ntmps124
    go_wp2
    go_ret
    exact ⟨by first | rfl | (simp; done) | (simp [*]; done), by repeat (first | exact Drawn0.refl _ | apply Drawn0.step)⟩
   ·rw [if_neg c6] at H
    have c6b0 : (a0.toList == ([97, 100, 100] : List UInt8)) = false := beq_eq_false_iff_ne.mpr c6
    have c6b1 : (a0.toList != ([97, 100, 100] : List UInt8)) = true := bne_iff_ne.mpr c6
    by_cases c7 : a0.toList = ([115, 117, 98] : List UInt8)
    ·rw [if_pos c7] at H
     have c7b0 : (a0.toList == ([115, 117, 98] : List UInt8)) = true := beq_iff_eq.mpr c7
     have c7b1 : (a0.toList != ([115, 117, 98] : List UInt8)) = false := bne_eq_false_iff_eq.mpr c7
     clear c7
     obtain rfl := Option.some.inj H
     go_enter Try.func124, Try.ntmps124
     go_wp2
     go_ret
     exact ⟨by first | rfl | (simp; done) | (simp [*]; done), by repeat (first | exact Drawn0.refl _ | apply Drawn0.step)⟩
    ·rw [if_neg c7] at H
     have c7b0 : (a0.toList == ([115, 117, 98] : List UInt8)) = false := beq_eq_false_iff_ne.mpr c7
     have c7b1 : (a0.toList != ([115, 117, 98] : List UInt8)) = true := bne_iff_ne.mpr c7
     by_cases c8 : a0.toList = ([109, 117, 108] : List UInt8)
     ·rw [if_pos c8] at H
      have c8b0 : (a0.toList == ([109, 117, 108] : List UInt8)) = true := beq_iff_eq.mpr c8
      have c8b1 : (a0.toList != ([109, 117, 108] : List UInt8)) = false := bne_eq_false_iff_eq.mpr c8
      clear c8
      obtain rfl := Option.some.inj H
      go_enter Try.func124, Try.ntmps124
      go_wp2
      go_ret
      exact ⟨by first | rfl | (simp; done) | (simp [*]; done), by repeat (first | exact Drawn0.refl _ | apply Drawn0.step)⟩
     ·rw [if_neg c8] at H
      have c8b0 : (a0.toList == ([109, 117, 108] : List UInt8)) = false := beq_eq_false_iff_ne.mpr c8
      have c8b1 : (a0.toList != ([109, 117, 108] : List UInt8)) = true := bne_iff_ne.mpr c8
      by_cases c9 : a0.toList = ([97, 110, 100] : List UInt8)
      ·rw [if_pos c9] at H
       have c9b0 : (a0.toList == ([97, 110, 100] : List UInt8)) = true := beq_iff_eq.mpr c9
       have c9b1 : (a0.toList != ([97, 110, 100] : List UInt8)) = false := bne_eq_false_iff_eq.mpr c9
       clear c9
       obtain rfl := Option.some.inj H
       go_enter Try.func124, Try.ntmps124
       go_wp2
       go_ret
       exact ⟨by first | rfl | (simp; done) | (simp [*]; done), by repeat (first | exact Drawn0.refl _ | apply Drawn0.step)⟩
      ·rw [if_neg c9] at H
       have c9b0 : (a0.toList == ([97, 110, 100] : List UInt8)) = false := beq_eq_false_iff_ne.mpr c9
       have c9b1 : (a0.toList != ([97, 110, 100] : List UInt8)) = true := bne_iff_ne.mpr c9
       by_cases c10 : a0.toList = ([111, 114] : List UInt8)
       ·rw [if_pos c10] at H
        have c10b0 : (a0.toList == ([111, 114] : List UInt8)) = true := beq_iff_eq.mpr c10
        have c10b1 : (a0.toList != ([111, 114] : List UInt8)) = false := bne_eq_false_iff_eq.mpr c10
        clear c10
        obtain rfl := Option.some.inj H
        go_enter Try.func124, Try.ntmps124
        go_wp2
        go_ret
        exact ⟨by first | rfl | (simp; done) | (simp [*]; done), by repeat (first | exact Drawn0.refl _ | apply Drawn0.step)⟩
       ·rw [if_neg c10] at H
        have c10b0 : (a0.toList == ([111, 114] : List UInt8)) = false := beq_eq_false_iff_ne.mpr c10
        have c10b1 : (a0.toList != ([111, 114] : List UInt8)) = true := bne_iff_ne.mpr c10
        by_cases c11 : a0.toList = ([120, 111, 114] : List UInt8)
        ·rw [if_pos c11] at H
         have c11b0 : (a0.toList == ([120, 111, 114] : List UInt8)) = true := beq_iff_eq.mpr c11
         have c11b1 : (a0.toList != ([120, 111, 114] : List UInt8)) = false := bne_eq_false_iff_eq.mpr c11
         clear c11
         obtain rfl := Option.some.inj H
         go_enter Try.func124, Try.ntmps124
         go_wp2
         go_ret
         exact ⟨by first | rfl | (simp; done) | (simp [*]; done), by repeat (first | exact Drawn0.refl _ | apply Drawn0.step)⟩
        ·rw [if_neg c11] at H
         have c11b0 : (a0.toList == ([120, 111, 114] : List UInt8)) = false := beq_eq_false_iff_ne.mpr c11
         have c11b1 : (a0.toList != ([120, 111, 114] : List UInt8)) = true := bne_iff_ne.mpr c11
         by_cases c12 : a0.toList = ([115, 104, 108] : List UInt8)
         ·rw [if_pos c12] at H
          have c12b0 : (a0.toList == ([115, 104, 108] : List UInt8)) = true := beq_iff_eq.mpr c12
          have c12b1 : (a0.toList != ([115, 104, 108] : List UInt8)) = false := bne_eq_false_iff_eq.mpr c12
          clear c12
          by_cases c13 : a2 < 6
          ·rw [if_pos c13] at H
           have c13b0 : decide (a2 < 6) = true := decide_eq_true c13
           clear c13
           by_cases c14 : 0 ≤ a2
           ·rw [if_pos c14] at H
            have c14b0 := eq_true c14
            have c14b1 : decide (0 ≤ a2) = true := decide_eq_true c14
            clear c14
            obtain ⟨ji15, hji15⟩ : ∃ j_ : Int, (shl .i64 a1 a2) = j_ := ⟨_, rfl⟩
            replace H : (some (Go.bits .and .i64 (ji15) 63)) = some r := by first | (rw [hji15] at H; exact H) | (simp only [hji15] at H ⊢; exact H)
            have hji15_ : (IntKind.i64.wrap (a1 * 2 ^ min a2.toNat 64)) = ji15 := hji15
            have hji15z : a2 ≤ 64 → (IntKind.i64.wrap (a1 * 2 ^ a2.toNat)) = ji15 := shl_small hji15
            have hji15y : (wrap64 (a1 * 2 ^ min a2.toNat 64)) = ji15 := (i64_w _).symm.trans hji15_
            have hji15x : a2 ≤ 64 → (wrap64 (a1 * 2 ^ a2.toNat)) = ji15 := fun h_ => (i64_w _).symm.trans (hji15z h_)
            obtain rfl := Option.some.inj H
            go_enter Try.func124, Try.ntmps124
            go_wp2
            go_ret
            exact ⟨by first | rfl | (simp; done) | (simp only [← hji15] <;> (first | rfl | simp)) | (simp [*]; done), by repeat (first | exact Drawn0.refl _ | apply Drawn0.step)⟩
           ·rw [if_neg c14] at H
            exact absurd H (by simp)
          ·rw [if_neg c13] at H
           have c13b0 : decide (a2 < 6) = false := decide_eq_false c13
           clear c13
           obtain rfl := Option.some.inj H
           go_enter Try.func124, Try.ntmps124
           go_wp2
           go_ret
           exact ⟨by first | rfl | (simp; done) | (simp [*]; done), by repeat (first | exact Drawn0.refl _ | apply Drawn0.step)⟩
         ·rw [if_neg c12] at H
          have c12b0 : (a0.toList == ([115, 104, 108] : List UInt8)) = false := beq_eq_false_iff_ne.mpr c12
          have c12b1 : (a0.toList != ([115, 104, 108] : List UInt8)) = true := bne_iff_ne.mpr c12
          by_cases c16 : a0.toList = ([115, 104, 114] : List UInt8)
          ·rw [if_pos c16] at H
           have c16b0 : (a0.toList == ([115, 104, 114] : List UInt8)) = true := beq_iff_eq.mpr c16
           have c16b1 : (a0.toList != ([115, 104, 114] : List UInt8)) = false := bne_eq_false_iff_eq.mpr c16
           clear c16
           by_cases c17 : a2 < 6
           ·rw [if_pos c17] at H
            have c17b0 : decide (a2 < 6) = true := decide_eq_true c17
            clear c17
            by_cases c18 : 0 ≤ a2
            ·rw [if_pos c18] at H
             have c18b0 := eq_true c18
             have c18b1 : decide (0 ≤ a2) = true := decide_eq_true c18
             clear c18
             obtain ⟨ji19, hji19⟩ : ∃ j_ : Int, (shr .i64 a1 a2) = j_ := ⟨_, rfl⟩
             replace H : (some (Go.bits .and .i64 (ji19) 63)) = some r := by first | (rw [hji19] at H; exact H) | (simp only [hji19] at H ⊢; exact H)
             have hji19_ : (a1 / 2 ^ min a2.toNat 64) = ji19 := hji19
             have hji19z : a2 ≤ 64 → (a1 / 2 ^ a2.toNat) = ji19 := shr_small hji19
             obtain rfl := Option.some.inj H
             go_enter Try.func124, Try.ntmps124
             go_wp2
             go_ret
             exact ⟨by first | rfl | (simp; done) | (simp only [← hji19] <;> (first | rfl | simp)) | (simp [*]; done), by repeat (first | exact Drawn0.refl _ | apply Drawn0.step)⟩
            ·rw [if_neg c18] at H
             exact absurd H (by simp)
           ·rw [if_neg c17] at H
            have c17b0 : decide (a2 < 6) = false := decide_eq_false c17
            clear c17
            obtain rfl := Option.some.inj H
            go_enter Try.func124, Try.ntmps124
            go_wp2
            go_ret
            exact ⟨by first | rfl | (simp; done) | (simp [*]; done), by repeat (first | exact Drawn0.refl _ | apply Drawn0.step)⟩
          ·rw [if_neg c16] at H
           have c16b0 : (a0.toList == ([115, 104, 114] : List UInt8)) = false := beq_eq_false_iff_ne.mpr c16
           have c16b1 : (a0.toList != ([115, 104, 114] : List UInt8)) = true := bne_iff_ne.mpr c16
           by_cases c20 : a0.toList = ([108, 101, 115, 115] : List UInt8)
           ·rw [if_pos c20] at H
            have c20b0 : (a0.toList == ([108, 101, 115, 115] : List UInt8)) = true := beq_iff_eq.mpr c20
            have c20b1 : (a0.toList != ([108, 101, 115, 115] : List UInt8)) = false := bne_eq_false_iff_eq.mpr c20
            clear c20
            by_cases c21 : a1 < a2
            ·rw [if_pos c21] at H
             have c21b0 : decide (a1 < a2) = true := decide_eq_true c21
             clear c21
             obtain rfl := Option.some.inj H
             go_enter Try.func124, Try.ntmps124
             go_wp2
             go_ret
             exact ⟨by first | rfl | (simp; done) | (simp [*]; done), by repeat (first | exact Drawn0.refl _ | apply Drawn0.step)⟩
            ·rw [if_neg c21] at H
             have c21b0 : decide (a1 < a2) = false := decide_eq_false c21
             clear c21
             obtain rfl := Option.some.inj H
             go_enter Try.func124, Try.ntmps124
             go_wp2
             go_ret
             exact ⟨by first | rfl | (simp; done) | (simp [*]; done), by repeat (first | exact Drawn0.refl _ | apply Drawn0.step)⟩
           ·rw [if_neg c20] at H
            have c20b0 : (a0.toList == ([108, 101, 115, 115] : List UInt8)) = false := beq_eq_false_iff_ne.mpr c20
            have c20b1 : (a0.toList != ([108, 101, 115, 115] : List UInt8)) = true := bne_iff_ne.mpr c20
            by_cases c22 : a0.toList = ([101, 113] : List UInt8)
            ·rw [if_pos c22] at H
             have c22b0 : (a0.toList == ([101, 113] : List UInt8)) = true := beq_iff_eq.mpr c22
             have c22b1 : (a0.toList != ([101, 113] : List UInt8)) = false := bne_eq_false_iff_eq.mpr c22
             clear c22
             by_cases c23 : a1 = a2
             ·rw [if_pos c23] at H
              have c23b0 : (a1 == a2) = true := beq_iff_eq.mpr c23
              have c23b1 : (a1 != a2) = false := bne_eq_false_iff_eq.mpr c23
              clear c23
              obtain rfl := Option.some.inj H
              go_enter Try.func124, Try.ntmps124
              go_wp2
              go_ret
              exact ⟨by first | rfl | (simp; done) | (simp [*]; done), by repeat (first | exact Drawn0.refl _ | apply Drawn0.step)⟩
             ·rw [if_neg c23] at H
              have c23b0 : (a1 == a2) = false := beq_eq_false_iff_ne.mpr c23
              have c23b1 : (a1 != a2) = true := bne_iff_ne.mpr c23
              obtain rfl := Option.some.inj H
              go_enter Try.func124, Try.ntmps124
              go_wp2
              go_ret
              exact ⟨by first | rfl | (simp; done) | (simp [*]; done), by repeat (first | exact Drawn0.refl _ | apply Drawn0.step)⟩
            ·rw [if_neg c22] at H
             have c22b0 : (a0.toList == ([101, 113] : List UInt8)) = false := beq_eq_false_iff_ne.mpr c22
             have c22b1 : (a0.toList != ([101, 113] : List UInt8)) = true := bne_iff_ne.mpr c22
             obtain rfl := Option.some.inj H
             go_enter Try.func124, Try.ntmps124
             go_wp2
             go_ret
             exact ⟨by first | rfl | (simp; done) | (simp [*]; done), by repeat (first | exact Drawn0.refl _ | apply Drawn0.step)⟩

/-! ### spec_cdValue: function 131 -/
def spec_cdValue.f (a0_0 : ByteArray) (a0_1 : Int) (a0_2 : Int) (a0_3 : Int) (a0_4 : Int) (l1 : List Int) : Option (Int) := if 0 ≤ a0_2 then (if a0_2 < (l1.length : Int) then (if 0 ≤ a0_3 then (if a0_3 < (l1.length : Int) then (if a0_0.toList = ([115, 101, 116] : List UInt8) then (some a0_4) else (if a0_0.toList = ([109, 111, 118] : List UInt8) then (some (rd l1 a0_2)) else (if a0_0.toList = ([97, 100, 100, 105] : List UInt8) then ((spec_exApply.f (⟨#[97, 100, 100]⟩ : ByteArray) (rd l1 a0_2) a0_4).bind fun t586 => (some t586)) else (if a0_0.toList = ([97, 110, 100, 105] : List UInt8) then ((spec_exApply.f (⟨#[97, 110, 100]⟩ : ByteArray) (rd l1 a0_2) a0_4).bind fun t587 => (some t587)) else (if a0_0.toList = ([120, 111, 114, 105] : List UInt8) then ((spec_exApply.f (⟨#[120, 111, 114]⟩ : ByteArray) (rd l1 a0_2) a0_4).bind fun t588 => (some t588)) else (if a0_0.toList = ([115, 104, 108, 105] : List UInt8) then ((spec_exApply.f (⟨#[115, 104, 108]⟩ : ByteArray) (rd l1 a0_2) a0_4).bind fun t589 => (some t589)) else (if a0_0.toList = ([115, 104, 114, 105] : List UInt8) then ((spec_exApply.f (⟨#[115, 104, 114]⟩ : ByteArray) (rd l1 a0_2) a0_4).bind fun t590 => (some t590)) else (if a0_0.toList = ([108, 101, 97] : List UInt8) then ((spec_exApply.f (⟨#[115, 104, 108]⟩ : ByteArray) (rd l1 a0_3) a0_4).bind fun t591 => ((spec_exApply.f (⟨#[97, 100, 100]⟩ : ByteArray) (rd l1 a0_2) t591).bind fun t592 => (some t592))) else ((spec_exApply.f a0_0 (rd l1 a0_2) (rd l1 a0_3)).bind fun t593 => (some t593)))))))))) else (none)) else (none)) else (none)) else (none)
set_option maxHeartbeats 8000000 in
set_option maxRecDepth 100000 in
theorem spec_cdValue.calls (a0_0 : ByteArray) (a0_1 : Int) (a0_2 : Int) (a0_3 : Int) (a0_4 : Int) (A1 : Option Addr) (c1 : Nat) (l1 : List Int) (r : Int) (w : World) (hr1 : Kd.C (Kd.int .i64) w A1 l1.length l1) (hc1 : l1.length ≤ c1) (h : spec_cdValue.f a0_0 a0_1 a0_2 a0_3 a0_4 l1 = some r) :
  Calls Try.prog 131 #[.agg #[.string a0_0, .int .i64 a0_1, .int .i64 a0_2, .int .i64 a0_3, .int .i64 a0_4], .slice A1 l1.length c1] w fun e w' => e = .returned (.int .i64 r) ∧ Below w.heap.size w w' := by
 have hu67 := Try.underlying67
 have HR1 := zK hr1
 have HC1 := zK hc1
 clear hr1 hc1
 have HB := zK (Below.refl w.heap.size w)
 have H : (if 0 ≤ a0_2 then (if a0_2 < (l1.length : Int) then (if 0 ≤ a0_3 then (if a0_3 < (l1.length : Int) then (if a0_0.toList = ([115, 101, 116] : List UInt8) then (some a0_4) else (if a0_0.toList = ([109, 111, 118] : List UInt8) then (some (rd l1 a0_2)) else (if a0_0.toList = ([97, 100, 100, 105] : List UInt8) then ((spec_exApply.f (⟨#[97, 100, 100]⟩ : ByteArray) (rd l1 a0_2) a0_4).bind fun t586 => (some t586)) else (if a0_0.toList = ([97, 110, 100, 105] : List UInt8) then ((spec_exApply.f (⟨#[97, 110, 100]⟩ : ByteArray) (rd l1 a0_2) a0_4).bind fun t587 => (some t587)) else (if a0_0.toList = ([120, 111, 114, 105] : List UInt8) then ((spec_exApply.f (⟨#[120, 111, 114]⟩ : ByteArray) (rd l1 a0_2) a0_4).bind fun t588 => (some t588)) else (if a0_0.toList = ([115, 104, 108, 105] : List UInt8) then ((spec_exApply.f (⟨#[115, 104, 108]⟩ : ByteArray) (rd l1 a0_2) a0_4).bind fun t589 => (some t589)) else (if a0_0.toList = ([115, 104, 114, 105] : List UInt8) then ((spec_exApply.f (⟨#[115, 104, 114]⟩ : ByteArray) (rd l1 a0_2) a0_4).bind fun t590 => (some t590)) else (if a0_0.toList = ([108, 101, 97] : List UInt8) then ((spec_exApply.f (⟨#[115, 104, 108]⟩ : ByteArray) (rd l1 a0_3) a0_4).bind fun t591 => ((spec_exApply.f (⟨#[97, 100, 100]⟩ : ByteArray) (rd l1 a0_2) t591).bind fun t592 => (some t592))) else ((spec_exApply.f a0_0 (rd l1 a0_2) (rd l1 a0_3)).bind fun t593 => (some t593)))))))))) else (none)) else (none)) else (none)) else (none)) = some r := h
 clear h
 by_cases c3 : 0 ≤ a0_2
 ·rw [if_pos c3] at H
  have c3b0 : decide (0 ≤ a0_2) = true := decide_eq_true c3
  clear c3
  by_cases c4 : a0_2 < (l1.length : Int)
  ·rw [if_pos c4] at H
   have c4b0 : decide (a0_2 < (l1.length : Int)) = true := decide_eq_true c4
   clear c4
   by_cases c5 : 0 ≤ a0_3
   ·rw [if_pos c5] at H
    have c5b0 : decide (0 ≤ a0_3) = true := decide_eq_true c5
    clear c5
    by_cases c6 : a0_3 < (l1.length : Int)
    ·rw [if_pos c6] at H
     have c6b0 : decide (a0_3 < (l1.length : Int)) = true := decide_eq_true c6
     clear c6
     by_cases c7 : a0_0.toList = ([115, 101, 116] : List UInt8)
     ·rw [if_pos c7] at H
      have c7b0 : (a0_0.toList == ([115, 101, 116] : List UInt8)) = true := beq_iff_eq.mpr c7
      have c7b1 : (a0_0.toList != ([115, 101, 116] : List UInt8)) = false := bne_eq_false_iff_eq.mpr c7
      clear c7
      obtain rfl := Option.some.inj H
      go_enter Try.func131, Try.ntmps131
      go_wp2_with (first | ((with_reducible refine gate_dst (N := 2) rfl ?_); refine box_event ?hg (N := 2) ?hd (cs := #[.string a0_0, .int .i64 a0_1, .int .i64 a0_2, .int .i64 a0_3, .int .i64 a0_4]) (t := 67) ?hr ?_; (case hd => rfl); (case hg => rfl); (case hr => first | (go_simp; done) | (go_simp; rfl)); intro gb583 hg w8 hbox hb; have n0_ := zK (zL (by repeat (first | (with_reducible first | exact HB.out | apply zA | apply zB | apply zC) | exact HB.out)) hb); have n1_ := zK (hbox); have n2_ := zK ((by rw [hg]; exact (zN (by repeat (first | (with_reducible first | exact HB.out | apply zA | apply zB | apply zC) | exact HB.out))) : w.heap.size ≤ gb583)); have n3_ := n2_; clear HB; have HB := n0_; have BK583 := n1_; have GW583 := n2_; have GE583 := n3_; clear n0_ n1_ n2_ n3_; clear hb hbox hg; have hcz9_0 : w8.cell? ⟨gb583, 0, none⟩ = some (.string a0_0) := (zI BK583.out 0).trans rfl; have hcz9_1 : w8.cell? ⟨gb583, 1, none⟩ = some (.int .i64 a0_1) := (zI BK583.out 1).trans rfl; have hcz9_2 : w8.cell? ⟨gb583, 2, none⟩ = some (.int .i64 a0_2) := (zI BK583.out 2).trans rfl; have hcz9_3 : w8.cell? ⟨gb583, 3, none⟩ = some (.int .i64 a0_3) := (zI BK583.out 3).trans rfl; have hcz9_4 : w8.cell? ⟨gb583, 4, none⟩ = some (.int .i64 a0_4) := (zI BK583.out 4).trans rfl; have hfz9_0 := zH BK583.out 0; have hfz9_1 := zH BK583.out 1; have hfz9_2 := zH BK583.out 2; have hfz9_3 := zH BK583.out 3; have hfz9_4 := zH BK583.out 4; have p584 : 0 ≤ (a0_2 : Int) := zo; have q584 : a0_2 < (l1.length : Int) := zo; obtain ⟨ad584, e584, hx584_0⟩ := Kd.at_int HR1.out a0_2 p584 q584; cases e584; replace hx584_0 := zt HB.out hx584_0; replace p584 := eq_true p584; replace q584 := eq_true q584; have p585 : 0 ≤ (a0_3 : Int) := zo; have q585 : a0_3 < (l1.length : Int) := zo; obtain ⟨ad585, e585, hx585_0⟩ := Kd.at_int HR1.out a0_3 p585 q585; obtain rfl : ad584 = ad585 := (by injection e585); replace hx585_0 := zt HB.out hx585_0; replace p585 := eq_true p585; replace q585 := eq_true q585))
      repeat (go_quiet (first | ((with_reducible refine gate_dst (N := 2) rfl ?_); refine box_event ?hg (N := 2) ?hd (cs := #[.string a0_0, .int .i64 a0_1, .int .i64 a0_2, .int .i64 a0_3, .int .i64 a0_4]) (t := 67) ?hr ?_; (case hd => rfl); (case hg => rfl); (case hr => first | (go_simp; done) | (go_simp; rfl)); intro gb583 hg w8 hbox hb; have n0_ := zK (zL (by repeat (first | (with_reducible first | exact HB.out | apply zA | apply zB | apply zC) | exact HB.out)) hb); have n1_ := zK (hbox); have n2_ := zK ((by rw [hg]; exact (zN (by repeat (first | (with_reducible first | exact HB.out | apply zA | apply zB | apply zC) | exact HB.out))) : w.heap.size ≤ gb583)); have n3_ := n2_; clear HB; have HB := n0_; have BK583 := n1_; have GW583 := n2_; have GE583 := n3_; clear n0_ n1_ n2_ n3_; clear hb hbox hg; have hcz9_0 : w8.cell? ⟨gb583, 0, none⟩ = some (.string a0_0) := (zI BK583.out 0).trans rfl; have hcz9_1 : w8.cell? ⟨gb583, 1, none⟩ = some (.int .i64 a0_1) := (zI BK583.out 1).trans rfl; have hcz9_2 : w8.cell? ⟨gb583, 2, none⟩ = some (.int .i64 a0_2) := (zI BK583.out 2).trans rfl; have hcz9_3 : w8.cell? ⟨gb583, 3, none⟩ = some (.int .i64 a0_3) := (zI BK583.out 3).trans rfl; have hcz9_4 : w8.cell? ⟨gb583, 4, none⟩ = some (.int .i64 a0_4) := (zI BK583.out 4).trans rfl; have hfz9_0 := zH BK583.out 0; have hfz9_1 := zH BK583.out 1; have hfz9_2 := zH BK583.out 2; have hfz9_3 := zH BK583.out 3; have hfz9_4 := zH BK583.out 4; have p584 : 0 ≤ (a0_2 : Int) := zo; have q584 : a0_2 < (l1.length : Int) := zo; obtain ⟨ad584, e584, hx584_0⟩ := Kd.at_int HR1.out a0_2 p584 q584; cases e584; replace hx584_0 := zt HB.out hx584_0; replace p584 := eq_true p584; replace q584 := eq_true q584; have p585 : 0 ≤ (a0_3 : Int) := zo; have q585 : a0_3 < (l1.length : Int) := zo; obtain ⟨ad585, e585, hx585_0⟩ := Kd.at_int HR1.out a0_3 p585 q585; obtain rfl : ad584 = ad585 := (by injection e585); replace hx585_0 := zt HB.out hx585_0; replace p585 := eq_true p585; replace q585 := eq_true q585)); try go_wp2_with (first | ((with_reducible refine gate_dst (N := 2) rfl ?_); refine box_event ?hg (N := 2) ?hd (cs := #[.string a0_0, .int .i64 a0_1, .int .i64 a0_2, .int .i64 a0_3, .int .i64 a0_4]) (t := 67) ?hr ?_; (case hd => rfl); (case hg => rfl); (case hr => first | (go_simp; done) | (go_simp; rfl)); intro gb583 hg w8 hbox hb; have n0_ := zK (zL (by repeat (first | (with_reducible first | exact HB.out | apply zA | apply zB | apply zC) | exact HB.out)) hb); have n1_ := zK (hbox); have n2_ := zK ((by rw [hg]; exact (zN (by repeat (first | (with_reducible first | exact HB.out | apply zA | apply zB | apply zC) | exact HB.out))) : w.heap.size ≤ gb583)); have n3_ := n2_; clear HB; have HB := n0_; have BK583 := n1_; have GW583 := n2_; have GE583 := n3_; clear n0_ n1_ n2_ n3_; clear hb hbox hg; have hcz9_0 : w8.cell? ⟨gb583, 0, none⟩ = some (.string a0_0) := (zI BK583.out 0).trans rfl; have hcz9_1 : w8.cell? ⟨gb583, 1, none⟩ = some (.int .i64 a0_1) := (zI BK583.out 1).trans rfl; have hcz9_2 : w8.cell? ⟨gb583, 2, none⟩ = some (.int .i64 a0_2) := (zI BK583.out 2).trans rfl; have hcz9_3 : w8.cell? ⟨gb583, 3, none⟩ = some (.int .i64 a0_3) := (zI BK583.out 3).trans rfl; have hcz9_4 : w8.cell? ⟨gb583, 4, none⟩ = some (.int .i64 a0_4) := (zI BK583.out 4).trans rfl; have hfz9_0 := zH BK583.out 0; have hfz9_1 := zH BK583.out 1; have hfz9_2 := zH BK583.out 2; have hfz9_3 := zH BK583.out 3; have hfz9_4 := zH BK583.out 4; have p584 : 0 ≤ (a0_2 : Int) := zo; have q584 : a0_2 < (l1.length : Int) := zo; obtain ⟨ad584, e584, hx584_0⟩ := Kd.at_int HR1.out a0_2 p584 q584; cases e584; replace hx584_0 := zt HB.out hx584_0; replace p584 := eq_true p584; replace q584 := eq_true q584; have p585 : 0 ≤ (a0_3 : Int) := zo; have q585 : a0_3 < (l1.length : Int) := zo; obtain ⟨ad585, e585, hx585_0⟩ := Kd.at_int HR1.out a0_3 p585 q585; obtain rfl : ad584 = ad585 := (by injection e585); replace hx585_0 := zt HB.out hx585_0; replace p585 := eq_true p585; replace q585 := eq_true q585)))
      go_ret
      exact ⟨by first | rfl | (simp [errW_none, errW_some] <;> rfl) | (simp [*, errW_none, errW_some] <;> rfl), by repeat (first | (with_reducible first | exact HB.out | apply zA | apply zB | apply zC | refine zD ?_ GE583.out) | exact HB.out)⟩
     ·rw [if_neg c7] at H
      have c7b0 : (a0_0.toList == ([115, 101, 116] : List UInt8)) = false := beq_eq_false_iff_ne.mpr c7
      have c7b1 : (a0_0.toList != ([115, 101, 116] : List UInt8)) = true := bne_iff_ne.mpr c7
      by_cases c10 : a0_0.toList = ([109, 111, 118] : List UInt8)
      ·rw [if_pos c10] at H
       have c10b0 : (a0_0.toList == ([109, 111, 118] : List UInt8)) = true := beq_iff_eq.mpr c10
       have c10b1 : (a0_0.toList != ([109, 111, 118] : List UInt8)) = false := bne_eq_false_iff_eq.mpr c10
       clear c10
       obtain rfl := Option.some.inj H
       go_enter Try.func131, Try.ntmps131
       go_wp2_with (first | ((with_reducible refine gate_dst (N := 2) rfl ?_); refine box_event ?hg (N := 2) ?hd (cs := #[.string a0_0, .int .i64 a0_1, .int .i64 a0_2, .int .i64 a0_3, .int .i64 a0_4]) (t := 67) ?hr ?_; (case hd => rfl); (case hg => rfl); (case hr => first | (go_simp; done) | (go_simp; rfl)); intro gb583 hg w11 hbox hb; have n0_ := zK (zL (by repeat (first | (with_reducible first | exact HB.out | apply zA | apply zB | apply zC) | exact HB.out)) hb); have n1_ := zK (hbox); have n2_ := zK ((by rw [hg]; exact (zN (by repeat (first | (with_reducible first | exact HB.out | apply zA | apply zB | apply zC) | exact HB.out))) : w.heap.size ≤ gb583)); have n3_ := n2_; clear HB; have HB := n0_; have BK583 := n1_; have GW583 := n2_; have GE583 := n3_; clear n0_ n1_ n2_ n3_; clear hb hbox hg; have hcz12_0 : w11.cell? ⟨gb583, 0, none⟩ = some (.string a0_0) := (zI BK583.out 0).trans rfl; have hcz12_1 : w11.cell? ⟨gb583, 1, none⟩ = some (.int .i64 a0_1) := (zI BK583.out 1).trans rfl; have hcz12_2 : w11.cell? ⟨gb583, 2, none⟩ = some (.int .i64 a0_2) := (zI BK583.out 2).trans rfl; have hcz12_3 : w11.cell? ⟨gb583, 3, none⟩ = some (.int .i64 a0_3) := (zI BK583.out 3).trans rfl; have hcz12_4 : w11.cell? ⟨gb583, 4, none⟩ = some (.int .i64 a0_4) := (zI BK583.out 4).trans rfl; have hfz12_0 := zH BK583.out 0; have hfz12_1 := zH BK583.out 1; have hfz12_2 := zH BK583.out 2; have hfz12_3 := zH BK583.out 3; have hfz12_4 := zH BK583.out 4; have p584 : 0 ≤ (a0_2 : Int) := zo; have q584 : a0_2 < (l1.length : Int) := zo; obtain ⟨ad584, e584, hx584_0⟩ := Kd.at_int HR1.out a0_2 p584 q584; cases e584; replace hx584_0 := zt HB.out hx584_0; replace p584 := eq_true p584; replace q584 := eq_true q584; have p585 : 0 ≤ (a0_3 : Int) := zo; have q585 : a0_3 < (l1.length : Int) := zo; obtain ⟨ad585, e585, hx585_0⟩ := Kd.at_int HR1.out a0_3 p585 q585; obtain rfl : ad584 = ad585 := (by injection e585); replace hx585_0 := zt HB.out hx585_0; replace p585 := eq_true p585; replace q585 := eq_true q585))
       repeat (go_quiet (first | ((with_reducible refine gate_dst (N := 2) rfl ?_); refine box_event ?hg (N := 2) ?hd (cs := #[.string a0_0, .int .i64 a0_1, .int .i64 a0_2, .int .i64 a0_3, .int .i64 a0_4]) (t := 67) ?hr ?_; (case hd => rfl); (case hg => rfl); (case hr => first | (go_simp; done) | (go_simp; rfl)); intro gb583 hg w11 hbox hb; have n0_ := zK (zL (by repeat (first | (with_reducible first | exact HB.out | apply zA | apply zB | apply zC) | exact HB.out)) hb); have n1_ := zK (hbox); have n2_ := zK ((by rw [hg]; exact (zN (by repeat (first | (with_reducible first | exact HB.out | apply zA | apply zB | apply zC) | exact HB.out))) : w.heap.size ≤ gb583)); have n3_ := n2_; clear HB; have HB := n0_; have BK583 := n1_; have GW583 := n2_; have GE583 := n3_; clear n0_ n1_ n2_ n3_; clear hb hbox hg; have hcz12_0 : w11.cell? ⟨gb583, 0, none⟩ = some (.string a0_0) := (zI BK583.out 0).trans rfl; have hcz12_1 : w11.cell? ⟨gb583, 1, none⟩ = some (.int .i64 a0_1) := (zI BK583.out 1).trans rfl; have hcz12_2 : w11.cell? ⟨gb583, 2, none⟩ = some (.int .i64 a0_2) := (zI BK583.out 2).trans rfl; have hcz12_3 : w11.cell? ⟨gb583, 3, none⟩ = some (.int .i64 a0_3) := (zI BK583.out 3).trans rfl; have hcz12_4 : w11.cell? ⟨gb583, 4, none⟩ = some (.int .i64 a0_4) := (zI BK583.out 4).trans rfl; have hfz12_0 := zH BK583.out 0; have hfz12_1 := zH BK583.out 1; have hfz12_2 := zH BK583.out 2; have hfz12_3 := zH BK583.out 3; have hfz12_4 := zH BK583.out 4; have p584 : 0 ≤ (a0_2 : Int) := zo; have q584 : a0_2 < (l1.length : Int) := zo; obtain ⟨ad584, e584, hx584_0⟩ := Kd.at_int HR1.out a0_2 p584 q584; cases e584; replace hx584_0 := zt HB.out hx584_0; replace p584 := eq_true p584; replace q584 := eq_true q584; have p585 : 0 ≤ (a0_3 : Int) := zo; have q585 : a0_3 < (l1.length : Int) := zo; obtain ⟨ad585, e585, hx585_0⟩ := Kd.at_int HR1.out a0_3 p585 q585; obtain rfl : ad584 = ad585 := (by injection e585); replace hx585_0 := zt HB.out hx585_0; replace p585 := eq_true p585; replace q585 := eq_true q585)); try go_wp2_with (first | ((with_reducible refine gate_dst (N := 2) rfl ?_); refine box_event ?hg (N := 2) ?hd (cs := #[.string a0_0, .int .i64 a0_1, .int .i64 a0_2, .int .i64 a0_3, .int .i64 a0_4]) (t := 67) ?hr ?_; (case hd => rfl); (case hg => rfl); (case hr => first | (go_simp; done) | (go_simp; rfl)); intro gb583 hg w11 hbox hb; have n0_ := zK (zL (by repeat (first | (with_reducible first | exact HB.out | apply zA | apply zB | apply zC) | exact HB.out)) hb); have n1_ := zK (hbox); have n2_ := zK ((by rw [hg]; exact (zN (by repeat (first | (with_reducible first | exact HB.out | apply zA | apply zB | apply zC) | exact HB.out))) : w.heap.size ≤ gb583)); have n3_ := n2_; clear HB; have HB := n0_; have BK583 := n1_; have GW583 := n2_; have GE583 := n3_; clear n0_ n1_ n2_ n3_; clear hb hbox hg; have hcz12_0 : w11.cell? ⟨gb583, 0, none⟩ = some (.string a0_0) := (zI BK583.out 0).trans rfl; have hcz12_1 : w11.cell? ⟨gb583, 1, none⟩ = some (.int .i64 a0_1) := (zI BK583.out 1).trans rfl; have hcz12_2 : w11.cell? ⟨gb583, 2, none⟩ = some (.int .i64 a0_2) := (zI BK583.out 2).trans rfl; have hcz12_3 : w11.cell? ⟨gb583, 3, none⟩ = some (.int .i64 a0_3) := (zI BK583.out 3).trans rfl; have hcz12_4 : w11.cell? ⟨gb583, 4, none⟩ = some (.int .i64 a0_4) := (zI BK583.out 4).trans rfl; have hfz12_0 := zH BK583.out 0; have hfz12_1 := zH BK583.out 1; have hfz12_2 := zH BK583.out 2; have hfz12_3 := zH BK583.out 3; have hfz12_4 := zH BK583.out 4; have p584 : 0 ≤ (a0_2 : Int) := zo; have q584 : a0_2 < (l1.length : Int) := zo; obtain ⟨ad584, e584, hx584_0⟩ := Kd.at_int HR1.out a0_2 p584 q584; cases e584; replace hx584_0 := zt HB.out hx584_0; replace p584 := eq_true p584; replace q584 := eq_true q584; have p585 : 0 ≤ (a0_3 : Int) := zo; have q585 : a0_3 < (l1.length : Int) := zo; obtain ⟨ad585, e585, hx585_0⟩ := Kd.at_int HR1.out a0_3 p585 q585; obtain rfl : ad584 = ad585 := (by injection e585); replace hx585_0 := zt HB.out hx585_0; replace p585 := eq_true p585; replace q585 := eq_true q585)))
       go_ret
       exact ⟨by first | rfl | (simp [errW_none, errW_some] <;> rfl) | (simp [*, errW_none, errW_some] <;> rfl), by repeat (first | (with_reducible first | exact HB.out | apply zA | apply zB | apply zC | refine zD ?_ GE583.out) | exact HB.out)⟩
      ·rw [if_neg c10] at H
       have c10b0 : (a0_0.toList == ([109, 111, 118] : List UInt8)) = false := beq_eq_false_iff_ne.mpr c10
       have c10b1 : (a0_0.toList != ([109, 111, 118] : List UInt8)) = true := bne_iff_ne.mpr c10
       by_cases c13 : a0_0.toList = ([97, 100, 100, 105] : List UInt8)
       ·rw [if_pos c13] at H
        have c13b0 : (a0_0.toList == ([97, 100, 100, 105] : List UInt8)) = true := beq_iff_eq.mpr c13
        have c13b1 : (a0_0.toList != ([97, 100, 100, 105] : List UInt8)) = false := bne_eq_false_iff_eq.mpr c13
        clear c13
        replace H := Option.bind_eq_some_iff.mp H
        obtain ⟨t586, A140, H⟩ := H
        replace H : (some t586) = some r := H
        have A14 := zK A140
        clear A140
        obtain rfl := Option.some.inj H
        go_enter Try.func131, Try.ntmps131
        go_wp2_with (first | ((with_reducible refine gate_dst (N := 2) rfl ?_); refine box_event ?hg (N := 2) ?hd (cs := #[.string a0_0, .int .i64 a0_1, .int .i64 a0_2, .int .i64 a0_3, .int .i64 a0_4]) (t := 67) ?hr ?_; (case hd => rfl); (case hg => rfl); (case hr => first | (go_simp; done) | (go_simp; rfl)); intro gb583 hg w15 hbox hb; have n0_ := zK (zL (by repeat (first | (with_reducible first | exact HB.out | apply zA | apply zB | apply zC) | exact HB.out)) hb); have n1_ := zK (hbox); have n2_ := zK ((by rw [hg]; exact (zN (by repeat (first | (with_reducible first | exact HB.out | apply zA | apply zB | apply zC) | exact HB.out))) : w.heap.size ≤ gb583)); have n3_ := n2_; clear HB; have HB := n0_; have BK583 := n1_; have GW583 := n2_; have GE583 := n3_; clear n0_ n1_ n2_ n3_; clear hb hbox hg; have hcz16_0 : w15.cell? ⟨gb583, 0, none⟩ = some (.string a0_0) := (zI BK583.out 0).trans rfl; have hcz16_1 : w15.cell? ⟨gb583, 1, none⟩ = some (.int .i64 a0_1) := (zI BK583.out 1).trans rfl; have hcz16_2 : w15.cell? ⟨gb583, 2, none⟩ = some (.int .i64 a0_2) := (zI BK583.out 2).trans rfl; have hcz16_3 : w15.cell? ⟨gb583, 3, none⟩ = some (.int .i64 a0_3) := (zI BK583.out 3).trans rfl; have hcz16_4 : w15.cell? ⟨gb583, 4, none⟩ = some (.int .i64 a0_4) := (zI BK583.out 4).trans rfl; have hfz16_0 := zH BK583.out 0; have hfz16_1 := zH BK583.out 1; have hfz16_2 := zH BK583.out 2; have hfz16_3 := zH BK583.out 3; have hfz16_4 := zH BK583.out 4; have p584 : 0 ≤ (a0_2 : Int) := zo; have q584 : a0_2 < (l1.length : Int) := zo; obtain ⟨ad584, e584, hx584_0⟩ := Kd.at_int HR1.out a0_2 p584 q584; cases e584; replace hx584_0 := zt HB.out hx584_0; replace p584 := eq_true p584; replace q584 := eq_true q584; have p585 : 0 ≤ (a0_3 : Int) := zo; have q585 : a0_3 < (l1.length : Int) := zo; obtain ⟨ad585, e585, hx585_0⟩ := Kd.at_int HR1.out a0_3 p585 q585; obtain rfl : ad584 = ad585 := (by injection e585); replace hx585_0 := zt HB.out hx585_0; replace p585 := eq_true p585; replace q585 := eq_true q585) | (go_at_call 124; (with_reducible refine (spec_exApply.calls (⟨#[97, 100, 100]⟩ : ByteArray) (rd l1 a0_2) a0_4 t586 _ A14.out).mono ?_); rintro e w' ⟨rfl, ⟨nd, rfl⟩⟩; (try first | exact ⟨rfl, _, World.drewN_drewN _ _ _⟩ | exact ⟨rfl, _, Eq.trans (World.drewN_drewN _ _ _) (congrArg (World.drewN _) (Nat.add_assoc _ _ _))⟩)))
        repeat (go_quiet (first | ((with_reducible refine gate_dst (N := 2) rfl ?_); refine box_event ?hg (N := 2) ?hd (cs := #[.string a0_0, .int .i64 a0_1, .int .i64 a0_2, .int .i64 a0_3, .int .i64 a0_4]) (t := 67) ?hr ?_; (case hd => rfl); (case hg => rfl); (case hr => first | (go_simp; done) | (go_simp; rfl)); intro gb583 hg w15 hbox hb; have n0_ := zK (zL (by repeat (first | (with_reducible first | exact HB.out | apply zA | apply zB | apply zC) | exact HB.out)) hb); have n1_ := zK (hbox); have n2_ := zK ((by rw [hg]; exact (zN (by repeat (first | (with_reducible first | exact HB.out | apply zA | apply zB | apply zC) | exact HB.out))) : w.heap.size ≤ gb583)); have n3_ := n2_; clear HB; have HB := n0_; have BK583 := n1_; have GW583 := n2_; have GE583 := n3_; clear n0_ n1_ n2_ n3_; clear hb hbox hg; have hcz16_0 : w15.cell? ⟨gb583, 0, none⟩ = some (.string a0_0) := (zI BK583.out 0).trans rfl; have hcz16_1 : w15.cell? ⟨gb583, 1, none⟩ = some (.int .i64 a0_1) := (zI BK583.out 1).trans rfl; have hcz16_2 : w15.cell? ⟨gb583, 2, none⟩ = some (.int .i64 a0_2) := (zI BK583.out 2).trans rfl; have hcz16_3 : w15.cell? ⟨gb583, 3, none⟩ = some (.int .i64 a0_3) := (zI BK583.out 3).trans rfl; have hcz16_4 : w15.cell? ⟨gb583, 4, none⟩ = some (.int .i64 a0_4) := (zI BK583.out 4).trans rfl; have hfz16_0 := zH BK583.out 0; have hfz16_1 := zH BK583.out 1; have hfz16_2 := zH BK583.out 2; have hfz16_3 := zH BK583.out 3; have hfz16_4 := zH BK583.out 4; have p584 : 0 ≤ (a0_2 : Int) := zo; have q584 : a0_2 < (l1.length : Int) := zo; obtain ⟨ad584, e584, hx584_0⟩ := Kd.at_int HR1.out a0_2 p584 q584; cases e584; replace hx584_0 := zt HB.out hx584_0; replace p584 := eq_true p584; replace q584 := eq_true q584; have p585 : 0 ≤ (a0_3 : Int) := zo; have q585 : a0_3 < (l1.length : Int) := zo; obtain ⟨ad585, e585, hx585_0⟩ := Kd.at_int HR1.out a0_3 p585 q585; obtain rfl : ad584 = ad585 := (by injection e585); replace hx585_0 := zt HB.out hx585_0; replace p585 := eq_true p585; replace q585 := eq_true q585) | (go_at_call 124; (with_reducible refine (spec_exApply.calls (⟨#[97, 100, 100]⟩ : ByteArray) (rd l1 a0_2) a0_4 t586 _ A14.out).mono ?_); rintro e w' ⟨rfl, ⟨nd, rfl⟩⟩; (try first | exact ⟨rfl, _, World.drewN_drewN _ _ _⟩ | exact ⟨rfl, _, Eq.trans (World.drewN_drewN _ _ _) (congrArg (World.drewN _) (Nat.add_assoc _ _ _))⟩))); try go_wp2_with (first | ((with_reducible refine gate_dst (N := 2) rfl ?_); refine box_event ?hg (N := 2) ?hd (cs := #[.string a0_0, .int .i64 a0_1, .int .i64 a0_2, .int .i64 a0_3, .int .i64 a0_4]) (t := 67) ?hr ?_; (case hd => rfl); (case hg => rfl); (case hr => first | (go_simp; done) | (go_simp; rfl)); intro gb583 hg w15 hbox hb; have n0_ := zK (zL (by repeat (first | (with_reducible first | exact HB.out | apply zA | apply zB | apply zC) | exact HB.out)) hb); have n1_ := zK (hbox); have n2_ := zK ((by rw [hg]; exact (zN (by repeat (first | (with_reducible first | exact HB.out | apply zA | apply zB | apply zC) | exact HB.out))) : w.heap.size ≤ gb583)); have n3_ := n2_; clear HB; have HB := n0_; have BK583 := n1_; have GW583 := n2_; have GE583 := n3_; clear n0_ n1_ n2_ n3_; clear hb hbox hg; have hcz16_0 : w15.cell? ⟨gb583, 0, none⟩ = some (.string a0_0) := (zI BK583.out 0).trans rfl; have hcz16_1 : w15.cell? ⟨gb583, 1, none⟩ = some (.int .i64 a0_1) := (zI BK583.out 1).trans rfl; have hcz16_2 : w15.cell? ⟨gb583, 2, none⟩ = some (.int .i64 a0_2) := (zI BK583.out 2).trans rfl; have hcz16_3 : w15.cell? ⟨gb583, 3, none⟩ = some (.int .i64 a0_3) := (zI BK583.out 3).trans rfl; have hcz16_4 : w15.cell? ⟨gb583, 4, none⟩ = some (.int .i64 a0_4) := (zI BK583.out 4).trans rfl; have hfz16_0 := zH BK583.out 0; have hfz16_1 := zH BK583.out 1; have hfz16_2 := zH BK583.out 2; have hfz16_3 := zH BK583.out 3; have hfz16_4 := zH BK583.out 4; have p584 : 0 ≤ (a0_2 : Int) := zo; have q584 : a0_2 < (l1.length : Int) := zo; obtain ⟨ad584, e584, hx584_0⟩ := Kd.at_int HR1.out a0_2 p584 q584; cases e584; replace hx584_0 := zt HB.out hx584_0; replace p584 := eq_true p584; replace q584 := eq_true q584; have p585 : 0 ≤ (a0_3 : Int) := zo; have q585 : a0_3 < (l1.length : Int) := zo; obtain ⟨ad585, e585, hx585_0⟩ := Kd.at_int HR1.out a0_3 p585 q585; obtain rfl : ad584 = ad585 := (by injection e585); replace hx585_0 := zt HB.out hx585_0; replace p585 := eq_true p585; replace q585 := eq_true q585) | (go_at_call 124; (with_reducible refine (spec_exApply.calls (⟨#[97, 100, 100]⟩ : ByteArray) (rd l1 a0_2) a0_4 t586 _ A14.out).mono ?_); rintro e w' ⟨rfl, ⟨nd, rfl⟩⟩; (try first | exact ⟨rfl, _, World.drewN_drewN _ _ _⟩ | exact ⟨rfl, _, Eq.trans (World.drewN_drewN _ _ _) (congrArg (World.drewN _) (Nat.add_assoc _ _ _))⟩))))
        go_ret
        exact ⟨by first | rfl | (simp [errW_none, errW_some] <;> rfl) | (simp [*, errW_none, errW_some] <;> rfl), by repeat (first | (with_reducible first | exact HB.out | apply zA | apply zB | apply zC | refine zD ?_ GE583.out) | exact HB.out)⟩
       ·rw [if_neg c13] at H
        have c13b0 : (a0_0.toList == ([97, 100, 100, 105] : List UInt8)) = false := beq_eq_false_iff_ne.mpr c13
        have c13b1 : (a0_0.toList != ([97, 100, 100, 105] : List UInt8)) = true := bne_iff_ne.mpr c13
        by_cases c17 : a0_0.toList = ([97, 110, 100, 105] : List UInt8)
        ·rw [if_pos c17] at H
         have c17b0 : (a0_0.toList == ([97, 110, 100, 105] : List UInt8)) = true := beq_iff_eq.mpr c17
         have c17b1 : (a0_0.toList != ([97, 110, 100, 105] : List UInt8)) = false := bne_eq_false_iff_eq.mpr c17
         clear c17
         replace H := Option.bind_eq_some_iff.mp H
         obtain ⟨t587, A180, H⟩ := H
         replace H : (some t587) = some r := H
         have A18 := zK A180
         clear A180
         obtain rfl := Option.some.inj H
         go_enter Try.func131, Try.ntmps131
         go_wp2_with (first | ((with_reducible refine gate_dst (N := 2) rfl ?_); refine box_event ?hg (N := 2) ?hd (cs := #[.string a0_0, .int .i64 a0_1, .int .i64 a0_2, .int .i64 a0_3, .int .i64 a0_4]) (t := 67) ?hr ?_; (case hd => rfl); (case hg => rfl); (case hr => first | (go_simp; done) | (go_simp; rfl)); intro gb583 hg w19 hbox hb; have n0_ := zK (zL (by repeat (first | (with_reducible first | exact HB.out | apply zA | apply zB | apply zC) | exact HB.out)) hb); have n1_ := zK (hbox); have n2_ := zK ((by rw [hg]; exact (zN (by repeat (first | (with_reducible first | exact HB.out | apply zA | apply zB | apply zC) | exact HB.out))) : w.heap.size ≤ gb583)); have n3_ := n2_; clear HB; have HB := n0_; have BK583 := n1_; have GW583 := n2_; have GE583 := n3_; clear n0_ n1_ n2_ n3_; clear hb hbox hg; have hcz20_0 : w19.cell? ⟨gb583, 0, none⟩ = some (.string a0_0) := (zI BK583.out 0).trans rfl; have hcz20_1 : w19.cell? ⟨gb583, 1, none⟩ = some (.int .i64 a0_1) := (zI BK583.out 1).trans rfl; have hcz20_2 : w19.cell? ⟨gb583, 2, none⟩ = some (.int .i64 a0_2) := (zI BK583.out 2).trans rfl; have hcz20_3 : w19.cell? ⟨gb583, 3, none⟩ = some (.int .i64 a0_3) := (zI BK583.out 3).trans rfl; have hcz20_4 : w19.cell? ⟨gb583, 4, none⟩ = some (.int .i64 a0_4) := (zI BK583.out 4).trans rfl; have hfz20_0 := zH BK583.out 0; have hfz20_1 := zH BK583.out 1; have hfz20_2 := zH BK583.out 2; have hfz20_3 := zH BK583.out 3; have hfz20_4 := zH BK583.out 4; have p584 : 0 ≤ (a0_2 : Int) := zo; have q584 : a0_2 < (l1.length : Int) := zo; obtain ⟨ad584, e584, hx584_0⟩ := Kd.at_int HR1.out a0_2 p584 q584; cases e584; replace hx584_0 := zt HB.out hx584_0; replace p584 := eq_true p584; replace q584 := eq_true q584; have p585 : 0 ≤ (a0_3 : Int) := zo; have q585 : a0_3 < (l1.length : Int) := zo; obtain ⟨ad585, e585, hx585_0⟩ := Kd.at_int HR1.out a0_3 p585 q585; obtain rfl : ad584 = ad585 := (by injection e585); replace hx585_0 := zt HB.out hx585_0; replace p585 := eq_true p585; replace q585 := eq_true q585) | (go_at_call 124; (with_reducible refine (spec_exApply.calls (⟨#[97, 110, 100]⟩ : ByteArray) (rd l1 a0_2) a0_4 t587 _ A18.out).mono ?_); rintro e w' ⟨rfl, ⟨nd, rfl⟩⟩; (try first | exact ⟨rfl, _, World.drewN_drewN _ _ _⟩ | exact ⟨rfl, _, Eq.trans (World.drewN_drewN _ _ _) (congrArg (World.drewN _) (Nat.add_assoc _ _ _))⟩)))
         repeat (go_quiet (first | ((with_reducible refine gate_dst (N := 2) rfl ?_); refine box_event ?hg (N := 2) ?hd (cs := #[.string a0_0, .int .i64 a0_1, .int .i64 a0_2, .int .i64 a0_3, .int .i64 a0_4]) (t := 67) ?hr ?_; (case hd => rfl); (case hg => rfl); (case hr => first | (go_simp; done) | (go_simp; rfl)); intro gb583 hg w19 hbox hb; have n0_ := zK (zL (by repeat (first | (with_reducible first | exact HB.out | apply zA | apply zB | apply zC) | exact HB.out)) hb); have n1_ := zK (hbox); have n2_ := zK ((by rw [hg]; exact (zN (by repeat (first | (with_reducible first | exact HB.out | apply zA | apply zB | apply zC) | exact HB.out))) : w.heap.size ≤ gb583)); have n3_ := n2_; clear HB; have HB := n0_; have BK583 := n1_; have GW583 := n2_; have GE583 := n3_; clear n0_ n1_ n2_ n3_; clear hb hbox hg; have hcz20_0 : w19.cell? ⟨gb583, 0, none⟩ = some (.string a0_0) := (zI BK583.out 0).trans rfl; have hcz20_1 : w19.cell? ⟨gb583, 1, none⟩ = some (.int .i64 a0_1) := (zI BK583.out 1).trans rfl; have hcz20_2 : w19.cell? ⟨gb583, 2, none⟩ = some (.int .i64 a0_2) := (zI BK583.out 2).trans rfl; have hcz20_3 : w19.cell? ⟨gb583, 3, none⟩ = some (.int .i64 a0_3) := (zI BK583.out 3).trans rfl; have hcz20_4 : w19.cell? ⟨gb583, 4, none⟩ = some (.int .i64 a0_4) := (zI BK583.out 4).trans rfl; have hfz20_0 := zH BK583.out 0; have hfz20_1 := zH BK583.out 1; have hfz20_2 := zH BK583.out 2; have hfz20_3 := zH BK583.out 3; have hfz20_4 := zH BK583.out 4; have p584 : 0 ≤ (a0_2 : Int) := zo; have q584 : a0_2 < (l1.length : Int) := zo; obtain ⟨ad584, e584, hx584_0⟩ := Kd.at_int HR1.out a0_2 p584 q584; cases e584; replace hx584_0 := zt HB.out hx584_0; replace p584 := eq_true p584; replace q584 := eq_true q584; have p585 : 0 ≤ (a0_3 : Int) := zo; have q585 : a0_3 < (l1.length : Int) := zo; obtain ⟨ad585, e585, hx585_0⟩ := Kd.at_int HR1.out a0_3 p585 q585; obtain rfl : ad584 = ad585 := (by injection e585); replace hx585_0 := zt HB.out hx585_0; replace p585 := eq_true p585; replace q585 := eq_true q585) | (go_at_call 124; (with_reducible refine (spec_exApply.calls (⟨#[97, 110, 100]⟩ : ByteArray) (rd l1 a0_2) a0_4 t587 _ A18.out).mono ?_); rintro e w' ⟨rfl, ⟨nd, rfl⟩⟩; (try first | exact ⟨rfl, _, World.drewN_drewN _ _ _⟩ | exact ⟨rfl, _, Eq.trans (World.drewN_drewN _ _ _) (congrArg (World.drewN _) (Nat.add_assoc _ _ _))⟩))); try go_wp2_with (first | ((with_reducible refine gate_dst (N := 2) rfl ?_); refine box_event ?hg (N := 2) ?hd (cs := #[.string a0_0, .int .i64 a0_1, .int .i64 a0_2, .int .i64 a0_3, .int .i64 a0_4]) (t := 67) ?hr ?_; (case hd => rfl); (case hg => rfl); (case hr => first | (go_simp; done) | (go_simp; rfl)); intro gb583 hg w19 hbox hb; have n0_ := zK (zL (by repeat (first | (with_reducible first | exact HB.out | apply zA | apply zB | apply zC) | exact HB.out)) hb); have n1_ := zK (hbox); have n2_ := zK ((by rw [hg]; exact (zN (by repeat (first | (with_reducible first | exact HB.out | apply zA | apply zB | apply zC) | exact HB.out))) : w.heap.size ≤ gb583)); have n3_ := n2_; clear HB; have HB := n0_; have BK583 := n1_; have GW583 := n2_; have GE583 := n3_; clear n0_ n1_ n2_ n3_; clear hb hbox hg; have hcz20_0 : w19.cell? ⟨gb583, 0, none⟩ = some (.string a0_0) := (zI BK583.out 0).trans rfl; have hcz20_1 : w19.cell? ⟨gb583, 1, none⟩ = some (.int .i64 a0_1) := (zI BK583.out 1).trans rfl; have hcz20_2 : w19.cell? ⟨gb583, 2, none⟩ = some (.int .i64 a0_2) := (zI BK583.out 2).trans rfl; have hcz20_3 : w19.cell? ⟨gb583, 3, none⟩ = some (.int .i64 a0_3) := (zI BK583.out 3).trans rfl; have hcz20_4 : w19.cell? ⟨gb583, 4, none⟩ = some (.int .i64 a0_4) := (zI BK583.out 4).trans rfl; have hfz20_0 := zH BK583.out 0; have hfz20_1 := zH BK583.out 1; have hfz20_2 := zH BK583.out 2; have hfz20_3 := zH BK583.out 3; have hfz20_4 := zH BK583.out 4; have p584 : 0 ≤ (a0_2 : Int) := zo; have q584 : a0_2 < (l1.length : Int) := zo; obtain ⟨ad584, e584, hx584_0⟩ := Kd.at_int HR1.out a0_2 p584 q584; cases e584; replace hx584_0 := zt HB.out hx584_0; replace p584 := eq_true p584; replace q584 := eq_true q584; have p585 : 0 ≤ (a0_3 : Int) := zo; have q585 : a0_3 < (l1.length : Int) := zo; obtain ⟨ad585, e585, hx585_0⟩ := Kd.at_int HR1.out a0_3 p585 q585; obtain rfl : ad584 = ad585 := (by injection e585); replace hx585_0 := zt HB.out hx585_0; replace p585 := eq_true p585; replace q585 := eq_true q585) | (go_at_call 124; (with_reducible refine (spec_exApply.calls (⟨#[97, 110, 100]⟩ : ByteArray) (rd l1 a0_2) a0_4 t587 _ A18.out).mono ?_); rintro e w' ⟨rfl, ⟨nd, rfl⟩⟩; (try first | exact ⟨rfl, _, World.drewN_drewN _ _ _⟩ | exact ⟨rfl, _, Eq.trans (World.drewN_drewN _ _ _) (congrArg (World.drewN _) (Nat.add_assoc _ _ _))⟩))))
         go_ret
         exact ⟨by first | rfl | (simp [errW_none, errW_some] <;> rfl) | (simp [*, errW_none, errW_some] <;> rfl), by repeat (first | (with_reducible first | exact HB.out | apply zA | apply zB | apply zC | refine zD ?_ GE583.out) | exact HB.out)⟩
        ·rw [if_neg c17] at H
         have c17b0 : (a0_0.toList == ([97, 110, 100, 105] : List UInt8)) = false := beq_eq_false_iff_ne.mpr c17
         have c17b1 : (a0_0.toList != ([97, 110, 100, 105] : List UInt8)) = true := bne_iff_ne.mpr c17
         by_cases c21 : a0_0.toList = ([120, 111, 114, 105] : List UInt8)
         ·rw [if_pos c21] at H
          have c21b0 : (a0_0.toList == ([120, 111, 114, 105] : List UInt8)) = true := beq_iff_eq.mpr c21
          have c21b1 : (a0_0.toList != ([120, 111, 114, 105] : List UInt8)) = false := bne_eq_false_iff_eq.mpr c21
          clear c21
          replace H := Option.bind_eq_some_iff.mp H
          obtain ⟨t588, A220, H⟩ := H
          replace H : (some t588) = some r := H
          have A22 := zK A220
          clear A220
          obtain rfl := Option.some.inj H
          go_enter Try.func131, Try.ntmps131
          go_wp2_with (first | ((with_reducible refine gate_dst (N := 2) rfl ?_); refine box_event ?hg (N := 2) ?hd (cs := #[.string a0_0, .int .i64 a0_1, .int .i64 a0_2, .int .i64 a0_3, .int .i64 a0_4]) (t := 67) ?hr ?_; (case hd => rfl); (case hg => rfl); (case hr => first | (go_simp; done) | (go_simp; rfl)); intro gb583 hg w23 hbox hb; have n0_ := zK (zL (by repeat (first | (with_reducible first | exact HB.out | apply zA | apply zB | apply zC) | exact HB.out)) hb); have n1_ := zK (hbox); have n2_ := zK ((by rw [hg]; exact (zN (by repeat (first | (with_reducible first | exact HB.out | apply zA | apply zB | apply zC) | exact HB.out))) : w.heap.size ≤ gb583)); have n3_ := n2_; clear HB; have HB := n0_; have BK583 := n1_; have GW583 := n2_; have GE583 := n3_; clear n0_ n1_ n2_ n3_; clear hb hbox hg; have hcz24_0 : w23.cell? ⟨gb583, 0, none⟩ = some (.string a0_0) := (zI BK583.out 0).trans rfl; have hcz24_1 : w23.cell? ⟨gb583, 1, none⟩ = some (.int .i64 a0_1) := (zI BK583.out 1).trans rfl; have hcz24_2 : w23.cell? ⟨gb583, 2, none⟩ = some (.int .i64 a0_2) := (zI BK583.out 2).trans rfl; have hcz24_3 : w23.cell? ⟨gb583, 3, none⟩ = some (.int .i64 a0_3) := (zI BK583.out 3).trans rfl; have hcz24_4 : w23.cell? ⟨gb583, 4, none⟩ = some (.int .i64 a0_4) := (zI BK583.out 4).trans rfl; have hfz24_0 := zH BK583.out 0; have hfz24_1 := zH BK583.out 1; have hfz24_2 := zH BK583.out 2; have hfz24_3 := zH BK583.out 3; have hfz24_4 := zH BK583.out 4; have p584 : 0 ≤ (a0_2 : Int) := zo; have q584 : a0_2 < (l1.length : Int) := zo; obtain ⟨ad584, e584, hx584_0⟩ := Kd.at_int HR1.out a0_2 p584 q584; cases e584; replace hx584_0 := zt HB.out hx584_0; replace p584 := eq_true p584; replace q584 := eq_true q584; have p585 : 0 ≤ (a0_3 : Int) := zo; have q585 : a0_3 < (l1.length : Int) := zo; obtain ⟨ad585, e585, hx585_0⟩ := Kd.at_int HR1.out a0_3 p585 q585; obtain rfl : ad584 = ad585 := (by injection e585); replace hx585_0 := zt HB.out hx585_0; replace p585 := eq_true p585; replace q585 := eq_true q585) | (go_at_call 124; (with_reducible refine (spec_exApply.calls (⟨#[120, 111, 114]⟩ : ByteArray) (rd l1 a0_2) a0_4 t588 _ A22.out).mono ?_); rintro e w' ⟨rfl, ⟨nd, rfl⟩⟩; (try first | exact ⟨rfl, _, World.drewN_drewN _ _ _⟩ | exact ⟨rfl, _, Eq.trans (World.drewN_drewN _ _ _) (congrArg (World.drewN _) (Nat.add_assoc _ _ _))⟩)))
          repeat (go_quiet (first | ((with_reducible refine gate_dst (N := 2) rfl ?_); refine box_event ?hg (N := 2) ?hd (cs := #[.string a0_0, .int .i64 a0_1, .int .i64 a0_2, .int .i64 a0_3, .int .i64 a0_4]) (t := 67) ?hr ?_; (case hd => rfl); (case hg => rfl); (case hr => first | (go_simp; done) | (go_simp; rfl)); intro gb583 hg w23 hbox hb; have n0_ := zK (zL (by repeat (first | (with_reducible first | exact HB.out | apply zA | apply zB | apply zC) | exact HB.out)) hb); have n1_ := zK (hbox); have n2_ := zK ((by rw [hg]; exact (zN (by repeat (first | (with_reducible first | exact HB.out | apply zA | apply zB | apply zC) | exact HB.out))) : w.heap.size ≤ gb583)); have n3_ := n2_; clear HB; have HB := n0_; have BK583 := n1_; have GW583 := n2_; have GE583 := n3_; clear n0_ n1_ n2_ n3_; clear hb hbox hg; have hcz24_0 : w23.cell? ⟨gb583, 0, none⟩ = some (.string a0_0) := (zI BK583.out 0).trans rfl; have hcz24_1 : w23.cell? ⟨gb583, 1, none⟩ = some (.int .i64 a0_1) := (zI BK583.out 1).trans rfl; have hcz24_2 : w23.cell? ⟨gb583, 2, none⟩ = some (.int .i64 a0_2) := (zI BK583.out 2).trans rfl; have hcz24_3 : w23.cell? ⟨gb583, 3, none⟩ = some (.int .i64 a0_3) := (zI BK583.out 3).trans rfl; have hcz24_4 : w23.cell? ⟨gb583, 4, none⟩ = some (.int .i64 a0_4) := (zI BK583.out 4).trans rfl; have hfz24_0 := zH BK583.out 0; have hfz24_1 := zH BK583.out 1; have hfz24_2 := zH BK583.out 2; have hfz24_3 := zH BK583.out 3; have hfz24_4 := zH BK583.out 4; have p584 : 0 ≤ (a0_2 : Int) := zo; have q584 : a0_2 < (l1.length : Int) := zo; obtain ⟨ad584, e584, hx584_0⟩ := Kd.at_int HR1.out a0_2 p584 q584; cases e584; replace hx584_0 := zt HB.out hx584_0; replace p584 := eq_true p584; replace q584 := eq_true q584; have p585 : 0 ≤ (a0_3 : Int) := zo; have q585 : a0_3 < (l1.length : Int) := zo; obtain ⟨ad585, e585, hx585_0⟩ := Kd.at_int HR1.out a0_3 p585 q585; obtain rfl : ad584 = ad585 := (by injection e585); replace hx585_0 := zt HB.out hx585_0; replace p585 := eq_true p585; replace q585 := eq_true q585) | (go_at_call 124; (with_reducible refine (spec_exApply.calls (⟨#[120, 111, 114]⟩ : ByteArray) (rd l1 a0_2) a0_4 t588 _ A22.out).mono ?_); rintro e w' ⟨rfl, ⟨nd, rfl⟩⟩; (try first | exact ⟨rfl, _, World.drewN_drewN _ _ _⟩ | exact ⟨rfl, _, Eq.trans (World.drewN_drewN _ _ _) (congrArg (World.drewN _) (Nat.add_assoc _ _ _))⟩))); try go_wp2_with (first | ((with_reducible refine gate_dst (N := 2) rfl ?_); refine box_event ?hg (N := 2) ?hd (cs := #[.string a0_0, .int .i64 a0_1, .int .i64 a0_2, .int .i64 a0_3, .int .i64 a0_4]) (t := 67) ?hr ?_; (case hd => rfl); (case hg => rfl); (case hr => first | (go_simp; done) | (go_simp; rfl)); intro gb583 hg w23 hbox hb; have n0_ := zK (zL (by repeat (first | (with_reducible first | exact HB.out | apply zA | apply zB | apply zC) | exact HB.out)) hb); have n1_ := zK (hbox); have n2_ := zK ((by rw [hg]; exact (zN (by repeat (first | (with_reducible first | exact HB.out | apply zA | apply zB | apply zC) | exact HB.out))) : w.heap.size ≤ gb583)); have n3_ := n2_; clear HB; have HB := n0_; have BK583 := n1_; have GW583 := n2_; have GE583 := n3_; clear n0_ n1_ n2_ n3_; clear hb hbox hg; have hcz24_0 : w23.cell? ⟨gb583, 0, none⟩ = some (.string a0_0) := (zI BK583.out 0).trans rfl; have hcz24_1 : w23.cell? ⟨gb583, 1, none⟩ = some (.int .i64 a0_1) := (zI BK583.out 1).trans rfl; have hcz24_2 : w23.cell? ⟨gb583, 2, none⟩ = some (.int .i64 a0_2) := (zI BK583.out 2).trans rfl; have hcz24_3 : w23.cell? ⟨gb583, 3, none⟩ = some (.int .i64 a0_3) := (zI BK583.out 3).trans rfl; have hcz24_4 : w23.cell? ⟨gb583, 4, none⟩ = some (.int .i64 a0_4) := (zI BK583.out 4).trans rfl; have hfz24_0 := zH BK583.out 0; have hfz24_1 := zH BK583.out 1; have hfz24_2 := zH BK583.out 2; have hfz24_3 := zH BK583.out 3; have hfz24_4 := zH BK583.out 4; have p584 : 0 ≤ (a0_2 : Int) := zo; have q584 : a0_2 < (l1.length : Int) := zo; obtain ⟨ad584, e584, hx584_0⟩ := Kd.at_int HR1.out a0_2 p584 q584; cases e584; replace hx584_0 := zt HB.out hx584_0; replace p584 := eq_true p584; replace q584 := eq_true q584; have p585 : 0 ≤ (a0_3 : Int) := zo; have q585 : a0_3 < (l1.length : Int) := zo; obtain ⟨ad585, e585, hx585_0⟩ := Kd.at_int HR1.out a0_3 p585 q585; obtain rfl : ad584 = ad585 := (by injection e585); replace hx585_0 := zt HB.out hx585_0; replace p585 := eq_true p585; replace q585 := eq_true q585) | (go_at_call 124; (with_reducible refine (spec_exApply.calls (⟨#[120, 111, 114]⟩ : ByteArray) (rd l1 a0_2) a0_4 t588 _ A22.out).mono ?_); rintro e w' ⟨rfl, ⟨nd, rfl⟩⟩; (try first | exact ⟨rfl, _, World.drewN_drewN _ _ _⟩ | exact ⟨rfl, _, Eq.trans (World.drewN_drewN _ _ _) (congrArg (World.drewN _) (Nat.add_assoc _ _ _))⟩))))
          go_ret
          exact ⟨by first | rfl | (simp [errW_none, errW_some] <;> rfl) | (simp [*, errW_none, errW_some] <;> rfl), by repeat (first | (with_reducible first | exact HB.out | apply zA | apply zB | apply zC | refine zD ?_ GE583.out) | exact HB.out)⟩
         ·rw [if_neg c21] at H
          have c21b0 : (a0_0.toList == ([120, 111, 114, 105] : List UInt8)) = false := beq_eq_false_iff_ne.mpr c21
          have c21b1 : (a0_0.toList != ([120, 111, 114, 105] : List UInt8)) = true := bne_iff_ne.mpr c21
          by_cases c25 : a0_0.toList = ([115, 104, 108, 105] : List UInt8)
          ·rw [if_pos c25] at H
           have c25b0 : (a0_0.toList == ([115, 104, 108, 105] : List UInt8)) = true := beq_iff_eq.mpr c25
           have c25b1 : (a0_0.toList != ([115, 104, 108, 105] : List UInt8)) = false := bne_eq_false_iff_eq.mpr c25
           clear c25
           replace H := Option.bind_eq_some_iff.mp H
           obtain ⟨t589, A260, H⟩ := H
           replace H : (some t589) = some r := H
           have A26 := zK A260
           clear A260
           obtain rfl := Option.some.inj H
           go_enter Try.func131, Try.ntmps131
           go_wp2_with (first | ((with_reducible refine gate_dst (N := 2) rfl ?_); refine box_event ?hg (N := 2) ?hd (cs := #[.string a0_0, .int .i64 a0_1, .int .i64 a0_2, .int .i64 a0_3, .int .i64 a0_4]) (t := 67) ?hr ?_; (case hd => rfl); (case hg => rfl); (case hr => first | (go_simp; done) | (go_simp; rfl)); intro gb583 hg w27 hbox hb; have n0_ := zK (zL (by repeat (first | (with_reducible first | exact HB.out | apply zA | apply zB | apply zC) | exact HB.out)) hb); have n1_ := zK (hbox); have n2_ := zK ((by rw [hg]; exact (zN (by repeat (first | (with_reducible first | exact HB.out | apply zA | apply zB | apply zC) | exact HB.out))) : w.heap.size ≤ gb583)); have n3_ := n2_; clear HB; have HB := n0_; have BK583 := n1_; have GW583 := n2_; have GE583 := n3_; clear n0_ n1_ n2_ n3_; clear hb hbox hg; have hcz28_0 : w27.cell? ⟨gb583, 0, none⟩ = some (.string a0_0) := (zI BK583.out 0).trans rfl; have hcz28_1 : w27.cell? ⟨gb583, 1, none⟩ = some (.int .i64 a0_1) := (zI BK583.out 1).trans rfl; have hcz28_2 : w27.cell? ⟨gb583, 2, none⟩ = some (.int .i64 a0_2) := (zI BK583.out 2).trans rfl; have hcz28_3 : w27.cell? ⟨gb583, 3, none⟩ = some (.int .i64 a0_3) := (zI BK583.out 3).trans rfl; have hcz28_4 : w27.cell? ⟨gb583, 4, none⟩ = some (.int .i64 a0_4) := (zI BK583.out 4).trans rfl; have hfz28_0 := zH BK583.out 0; have hfz28_1 := zH BK583.out 1; have hfz28_2 := zH BK583.out 2; have hfz28_3 := zH BK583.out 3; have hfz28_4 := zH BK583.out 4; have p584 : 0 ≤ (a0_2 : Int) := zo; have q584 : a0_2 < (l1.length : Int) := zo; obtain ⟨ad584, e584, hx584_0⟩ := Kd.at_int HR1.out a0_2 p584 q584; cases e584; replace hx584_0 := zt HB.out hx584_0; replace p584 := eq_true p584; replace q584 := eq_true q584; have p585 : 0 ≤ (a0_3 : Int) := zo; have q585 : a0_3 < (l1.length : Int) := zo; obtain ⟨ad585, e585, hx585_0⟩ := Kd.at_int HR1.out a0_3 p585 q585; obtain rfl : ad584 = ad585 := (by injection e585); replace hx585_0 := zt HB.out hx585_0; replace p585 := eq_true p585; replace q585 := eq_true q585) | (go_at_call 124; (with_reducible refine (spec_exApply.calls (⟨#[115, 104, 108]⟩ : ByteArray) (rd l1 a0_2) a0_4 t589 _ A26.out).mono ?_); rintro e w' ⟨rfl, ⟨nd, rfl⟩⟩; (try first | exact ⟨rfl, _, World.drewN_drewN _ _ _⟩ | exact ⟨rfl, _, Eq.trans (World.drewN_drewN _ _ _) (congrArg (World.drewN _) (Nat.add_assoc _ _ _))⟩)))
           repeat (go_quiet (first | ((with_reducible refine gate_dst (N := 2) rfl ?_); refine box_event ?hg (N := 2) ?hd (cs := #[.string a0_0, .int .i64 a0_1, .int .i64 a0_2, .int .i64 a0_3, .int .i64 a0_4]) (t := 67) ?hr ?_; (case hd => rfl); (case hg => rfl); (case hr => first | (go_simp; done) | (go_simp; rfl)); intro gb583 hg w27 hbox hb; have n0_ := zK (zL (by repeat (first | (with_reducible first | exact HB.out | apply zA | apply zB | apply zC) | exact HB.out)) hb); have n1_ := zK (hbox); have n2_ := zK ((by rw [hg]; exact (zN (by repeat (first | (with_reducible first | exact HB.out | apply zA | apply zB | apply zC) | exact HB.out))) : w.heap.size ≤ gb583)); have n3_ := n2_; clear HB; have HB := n0_; have BK583 := n1_; have GW583 := n2_; have GE583 := n3_; clear n0_ n1_ n2_ n3_; clear hb hbox hg; have hcz28_0 : w27.cell? ⟨gb583, 0, none⟩ = some (.string a0_0) := (zI BK583.out 0).trans rfl; have hcz28_1 : w27.cell? ⟨gb583, 1, none⟩ = some (.int .i64 a0_1) := (zI BK583.out 1).trans rfl; have hcz28_2 : w27.cell? ⟨gb583, 2, none⟩ = some (.int .i64 a0_2) := (zI BK583.out 2).trans rfl; have hcz28_3 : w27.cell? ⟨gb583, 3, none⟩ = some (.int .i64 a0_3) := (zI BK583.out 3).trans rfl; have hcz28_4 : w27.cell? ⟨gb583, 4, none⟩ = some (.int .i64 a0_4) := (zI BK583.out 4).trans rfl; have hfz28_0 := zH BK583.out 0; have hfz28_1 := zH BK583.out 1; have hfz28_2 := zH BK583.out 2; have hfz28_3 := zH BK583.out 3; have hfz28_4 := zH BK583.out 4; have p584 : 0 ≤ (a0_2 : Int) := zo; have q584 : a0_2 < (l1.length : Int) := zo; obtain ⟨ad584, e584, hx584_0⟩ := Kd.at_int HR1.out a0_2 p584 q584; cases e584; replace hx584_0 := zt HB.out hx584_0; replace p584 := eq_true p584; replace q584 := eq_true q584; have p585 : 0 ≤ (a0_3 : Int) := zo; have q585 : a0_3 < (l1.length : Int) := zo; obtain ⟨ad585, e585, hx585_0⟩ := Kd.at_int HR1.out a0_3 p585 q585; obtain rfl : ad584 = ad585 := (by injection e585); replace hx585_0 := zt HB.out hx585_0; replace p585 := eq_true p585; replace q585 := eq_true q585) | (go_at_call 124; (with_reducible refine (spec_exApply.calls (⟨#[115, 104, 108]⟩ : ByteArray) (rd l1 a0_2) a0_4 t589 _ A26.out).mono ?_); rintro e w' ⟨rfl, ⟨nd, rfl⟩⟩; (try first | exact ⟨rfl, _, World.drewN_drewN _ _ _⟩ | exact ⟨rfl, _, Eq.trans (World.drewN_drewN _ _ _) (congrArg (World.drewN _) (Nat.add_assoc _ _ _))⟩))); try go_wp2_with (first | ((with_reducible refine gate_dst (N := 2) rfl ?_); refine box_event ?hg (N := 2) ?hd (cs := #[.string a0_0, .int .i64 a0_1, .int .i64 a0_2, .int .i64 a0_3, .int .i64 a0_4]) (t := 67) ?hr ?_; (case hd => rfl); (case hg => rfl); (case hr => first | (go_simp; done) | (go_simp; rfl)); intro gb583 hg w27 hbox hb; have n0_ := zK (zL (by repeat (first | (with_reducible first | exact HB.out | apply zA | apply zB | apply zC) | exact HB.out)) hb); have n1_ := zK (hbox); have n2_ := zK ((by rw [hg]; exact (zN (by repeat (first | (with_reducible first | exact HB.out | apply zA | apply zB | apply zC) | exact HB.out))) : w.heap.size ≤ gb583)); have n3_ := n2_; clear HB; have HB := n0_; have BK583 := n1_; have GW583 := n2_; have GE583 := n3_; clear n0_ n1_ n2_ n3_; clear hb hbox hg; have hcz28_0 : w27.cell? ⟨gb583, 0, none⟩ = some (.string a0_0) := (zI BK583.out 0).trans rfl; have hcz28_1 : w27.cell? ⟨gb583, 1, none⟩ = some (.int .i64 a0_1) := (zI BK583.out 1).trans rfl; have hcz28_2 : w27.cell? ⟨gb583, 2, none⟩ = some (.int .i64 a0_2) := (zI BK583.out 2).trans rfl; have hcz28_3 : w27.cell? ⟨gb583, 3, none⟩ = some (.int .i64 a0_3) := (zI BK583.out 3).trans rfl; have hcz28_4 : w27.cell? ⟨gb583, 4, none⟩ = some (.int .i64 a0_4) := (zI BK583.out 4).trans rfl; have hfz28_0 := zH BK583.out 0; have hfz28_1 := zH BK583.out 1; have hfz28_2 := zH BK583.out 2; have hfz28_3 := zH BK583.out 3; have hfz28_4 := zH BK583.out 4; have p584 : 0 ≤ (a0_2 : Int) := zo; have q584 : a0_2 < (l1.length : Int) := zo; obtain ⟨ad584, e584, hx584_0⟩ := Kd.at_int HR1.out a0_2 p584 q584; cases e584; replace hx584_0 := zt HB.out hx584_0; replace p584 := eq_true p584; replace q584 := eq_true q584; have p585 : 0 ≤ (a0_3 : Int) := zo; have q585 : a0_3 < (l1.length : Int) := zo; obtain ⟨ad585, e585, hx585_0⟩ := Kd.at_int HR1.out a0_3 p585 q585; obtain rfl : ad584 = ad585 := (by injection e585); replace hx585_0 := zt HB.out hx585_0; replace p585 := eq_true p585; replace q585 := eq_true q585) | (go_at_call 124; (with_reducible refine (spec_exApply.calls (⟨#[115, 104, 108]⟩ : ByteArray) (rd l1 a0_2) a0_4 t589 _ A26.out).mono ?_); rintro e w' ⟨rfl, ⟨nd, rfl⟩⟩; (try first | exact ⟨rfl, _, World.drewN_drewN _ _ _⟩ | exact ⟨rfl, _, Eq.trans (World.drewN_drewN _ _ _) (congrArg (World.drewN _) (Nat.add_assoc _ _ _))⟩))))
           go_ret
           exact ⟨by first | rfl | (simp [errW_none, errW_some] <;> rfl) | (simp [*, errW_none, errW_some] <;> rfl), by repeat (first | (with_reducible first | exact HB.out | apply zA | apply zB | apply zC | refine zD ?_ GE583.out) | exact HB.out)⟩
          ·rw [if_neg c25] at H
           have c25b0 : (a0_0.toList == ([115, 104, 108, 105] : List UInt8)) = false := beq_eq_false_iff_ne.mpr c25
           have c25b1 : (a0_0.toList != ([115, 104, 108, 105] : List UInt8)) = true := bne_iff_ne.mpr c25
           by_cases c29 : a0_0.toList = ([115, 104, 114, 105] : List UInt8)
           ·rw [if_pos c29] at H
            have c29b0 : (a0_0.toList == ([115, 104, 114, 105] : List UInt8)) = true := beq_iff_eq.mpr c29
            have c29b1 : (a0_0.toList != ([115, 104, 114, 105] : List UInt8)) = false := bne_eq_false_iff_eq.mpr c29
            clear c29
            replace H := Option.bind_eq_some_iff.mp H
            obtain ⟨t590, A300, H⟩ := H
            replace H : (some t590) = some r := H
            have A30 := zK A300
            clear A300
            obtain rfl := Option.some.inj H
            go_enter Try.func131, Try.ntmps131
            go_wp2_with (first | ((with_reducible refine gate_dst (N := 2) rfl ?_); refine box_event ?hg (N := 2) ?hd (cs := #[.string a0_0, .int .i64 a0_1, .int .i64 a0_2, .int .i64 a0_3, .int .i64 a0_4]) (t := 67) ?hr ?_; (case hd => rfl); (case hg => rfl); (case hr => first | (go_simp; done) | (go_simp; rfl)); intro gb583 hg w31 hbox hb; have n0_ := zK (zL (by repeat (first | (with_reducible first | exact HB.out | apply zA | apply zB | apply zC) | exact HB.out)) hb); have n1_ := zK (hbox); have n2_ := zK ((by rw [hg]; exact (zN (by repeat (first | (with_reducible first | exact HB.out | apply zA | apply zB | apply zC) | exact HB.out))) : w.heap.size ≤ gb583)); have n3_ := n2_; clear HB; have HB := n0_; have BK583 := n1_; have GW583 := n2_; have GE583 := n3_; clear n0_ n1_ n2_ n3_; clear hb hbox hg; have hcz32_0 : w31.cell? ⟨gb583, 0, none⟩ = some (.string a0_0) := (zI BK583.out 0).trans rfl; have hcz32_1 : w31.cell? ⟨gb583, 1, none⟩ = some (.int .i64 a0_1) := (zI BK583.out 1).trans rfl; have hcz32_2 : w31.cell? ⟨gb583, 2, none⟩ = some (.int .i64 a0_2) := (zI BK583.out 2).trans rfl; have hcz32_3 : w31.cell? ⟨gb583, 3, none⟩ = some (.int .i64 a0_3) := (zI BK583.out 3).trans rfl; have hcz32_4 : w31.cell? ⟨gb583, 4, none⟩ = some (.int .i64 a0_4) := (zI BK583.out 4).trans rfl; have hfz32_0 := zH BK583.out 0; have hfz32_1 := zH BK583.out 1; have hfz32_2 := zH BK583.out 2; have hfz32_3 := zH BK583.out 3; have hfz32_4 := zH BK583.out 4; have p584 : 0 ≤ (a0_2 : Int) := zo; have q584 : a0_2 < (l1.length : Int) := zo; obtain ⟨ad584, e584, hx584_0⟩ := Kd.at_int HR1.out a0_2 p584 q584; cases e584; replace hx584_0 := zt HB.out hx584_0; replace p584 := eq_true p584; replace q584 := eq_true q584; have p585 : 0 ≤ (a0_3 : Int) := zo; have q585 : a0_3 < (l1.length : Int) := zo; obtain ⟨ad585, e585, hx585_0⟩ := Kd.at_int HR1.out a0_3 p585 q585; obtain rfl : ad584 = ad585 := (by injection e585); replace hx585_0 := zt HB.out hx585_0; replace p585 := eq_true p585; replace q585 := eq_true q585) | (go_at_call 124; (with_reducible refine (spec_exApply.calls (⟨#[115, 104, 114]⟩ : ByteArray) (rd l1 a0_2) a0_4 t590 _ A30.out).mono ?_); rintro e w' ⟨rfl, ⟨nd, rfl⟩⟩; (try first | exact ⟨rfl, _, World.drewN_drewN _ _ _⟩ | exact ⟨rfl, _, Eq.trans (World.drewN_drewN _ _ _) (congrArg (World.drewN _) (Nat.add_assoc _ _ _))⟩)))
            repeat (go_quiet (first | ((with_reducible refine gate_dst (N := 2) rfl ?_); refine box_event ?hg (N := 2) ?hd (cs := #[.string a0_0, .int .i64 a0_1, .int .i64 a0_2, .int .i64 a0_3, .int .i64 a0_4]) (t := 67) ?hr ?_; (case hd => rfl); (case hg => rfl); (case hr => first | (go_simp; done) | (go_simp; rfl)); intro gb583 hg w31 hbox hb; have n0_ := zK (zL (by repeat (first | (with_reducible first | exact HB.out | apply zA | apply zB | apply zC) | exact HB.out)) hb); have n1_ := zK (hbox); have n2_ := zK ((by rw [hg]; exact (zN (by repeat (first | (with_reducible first | exact HB.out | apply zA | apply zB | apply zC) | exact HB.out))) : w.heap.size ≤ gb583)); have n3_ := n2_; clear HB; have HB := n0_; have BK583 := n1_; have GW583 := n2_; have GE583 := n3_; clear n0_ n1_ n2_ n3_; clear hb hbox hg; have hcz32_0 : w31.cell? ⟨gb583, 0, none⟩ = some (.string a0_0) := (zI BK583.out 0).trans rfl; have hcz32_1 : w31.cell? ⟨gb583, 1, none⟩ = some (.int .i64 a0_1) := (zI BK583.out 1).trans rfl; have hcz32_2 : w31.cell? ⟨gb583, 2, none⟩ = some (.int .i64 a0_2) := (zI BK583.out 2).trans rfl; have hcz32_3 : w31.cell? ⟨gb583, 3, none⟩ = some (.int .i64 a0_3) := (zI BK583.out 3).trans rfl; have hcz32_4 : w31.cell? ⟨gb583, 4, none⟩ = some (.int .i64 a0_4) := (zI BK583.out 4).trans rfl; have hfz32_0 := zH BK583.out 0; have hfz32_1 := zH BK583.out 1; have hfz32_2 := zH BK583.out 2; have hfz32_3 := zH BK583.out 3; have hfz32_4 := zH BK583.out 4; have p584 : 0 ≤ (a0_2 : Int) := zo; have q584 : a0_2 < (l1.length : Int) := zo; obtain ⟨ad584, e584, hx584_0⟩ := Kd.at_int HR1.out a0_2 p584 q584; cases e584; replace hx584_0 := zt HB.out hx584_0; replace p584 := eq_true p584; replace q584 := eq_true q584; have p585 : 0 ≤ (a0_3 : Int) := zo; have q585 : a0_3 < (l1.length : Int) := zo; obtain ⟨ad585, e585, hx585_0⟩ := Kd.at_int HR1.out a0_3 p585 q585; obtain rfl : ad584 = ad585 := (by injection e585); replace hx585_0 := zt HB.out hx585_0; replace p585 := eq_true p585; replace q585 := eq_true q585) | (go_at_call 124; (with_reducible refine (spec_exApply.calls (⟨#[115, 104, 114]⟩ : ByteArray) (rd l1 a0_2) a0_4 t590 _ A30.out).mono ?_); rintro e w' ⟨rfl, ⟨nd, rfl⟩⟩; (try first | exact ⟨rfl, _, World.drewN_drewN _ _ _⟩ | exact ⟨rfl, _, Eq.trans (World.drewN_drewN _ _ _) (congrArg (World.drewN _) (Nat.add_assoc _ _ _))⟩))); try go_wp2_with (first | ((with_reducible refine gate_dst (N := 2) rfl ?_); refine box_event ?hg (N := 2) ?hd (cs := #[.string a0_0, .int .i64 a0_1, .int .i64 a0_2, .int .i64 a0_3, .int .i64 a0_4]) (t := 67) ?hr ?_; (case hd => rfl); (case hg => rfl); (case hr => first | (go_simp; done) | (go_simp; rfl)); intro gb583 hg w31 hbox hb; have n0_ := zK (zL (by repeat (first | (with_reducible first | exact HB.out | apply zA | apply zB | apply zC) | exact HB.out)) hb); have n1_ := zK (hbox); have n2_ := zK ((by rw [hg]; exact (zN (by repeat (first | (with_reducible first | exact HB.out | apply zA | apply zB | apply zC) | exact HB.out))) : w.heap.size ≤ gb583)); have n3_ := n2_; clear HB; have HB := n0_; have BK583 := n1_; have GW583 := n2_; have GE583 := n3_; clear n0_ n1_ n2_ n3_; clear hb hbox hg; have hcz32_0 : w31.cell? ⟨gb583, 0, none⟩ = some (.string a0_0) := (zI BK583.out 0).trans rfl; have hcz32_1 : w31.cell? ⟨gb583, 1, none⟩ = some (.int .i64 a0_1) := (zI BK583.out 1).trans rfl; have hcz32_2 : w31.cell? ⟨gb583, 2, none⟩ = some (.int .i64 a0_2) := (zI BK583.out 2).trans rfl; have hcz32_3 : w31.cell? ⟨gb583, 3, none⟩ = some (.int .i64 a0_3) := (zI BK583.out 3).trans rfl; have hcz32_4 : w31.cell? ⟨gb583, 4, none⟩ = some (.int .i64 a0_4) := (zI BK583.out 4).trans rfl; have hfz32_0 := zH BK583.out 0; have hfz32_1 := zH BK583.out 1; have hfz32_2 := zH BK583.out 2; have hfz32_3 := zH BK583.out 3; have hfz32_4 := zH BK583.out 4; have p584 : 0 ≤ (a0_2 : Int) := zo; have q584 : a0_2 < (l1.length : Int) := zo; obtain ⟨ad584, e584, hx584_0⟩ := Kd.at_int HR1.out a0_2 p584 q584; cases e584; replace hx584_0 := zt HB.out hx584_0; replace p584 := eq_true p584; replace q584 := eq_true q584; have p585 : 0 ≤ (a0_3 : Int) := zo; have q585 : a0_3 < (l1.length : Int) := zo; obtain ⟨ad585, e585, hx585_0⟩ := Kd.at_int HR1.out a0_3 p585 q585; obtain rfl : ad584 = ad585 := (by injection e585); replace hx585_0 := zt HB.out hx585_0; replace p585 := eq_true p585; replace q585 := eq_true q585) | (go_at_call 124; (with_reducible refine (spec_exApply.calls (⟨#[115, 104, 114]⟩ : ByteArray) (rd l1 a0_2) a0_4 t590 _ A30.out).mono ?_); rintro e w' ⟨rfl, ⟨nd, rfl⟩⟩; (try first | exact ⟨rfl, _, World.drewN_drewN _ _ _⟩ | exact ⟨rfl, _, Eq.trans (World.drewN_drewN _ _ _) (congrArg (World.drewN _) (Nat.add_assoc _ _ _))⟩))))
            go_ret
            exact ⟨by first | rfl | (simp [errW_none, errW_some] <;> rfl) | (simp [*, errW_none, errW_some] <;> rfl), by repeat (first | (with_reducible first | exact HB.out | apply zA | apply zB | apply zC | refine zD ?_ GE583.out) | exact HB.out)⟩
           ·rw [if_neg c29] at H
            have c29b0 : (a0_0.toList == ([115, 104, 114, 105] : List UInt8)) = false := beq_eq_false_iff_ne.mpr c29
            have c29b1 : (a0_0.toList != ([115, 104, 114, 105] : List UInt8)) = true := bne_iff_ne.mpr c29
            by_cases c33 : a0_0.toList = ([108, 101, 97] : List UInt8)
            ·rw [if_pos c33] at H
             have c33b0 : (a0_0.toList == ([108, 101, 97] : List UInt8)) = true := beq_iff_eq.mpr c33
             have c33b1 : (a0_0.toList != ([108, 101, 97] : List UInt8)) = false := bne_eq_false_iff_eq.mpr c33
             clear c33
             replace H := Option.bind_eq_some_iff.mp H
             obtain ⟨t591, A340, H⟩ := H
             replace H : ((spec_exApply.f (⟨#[97, 100, 100]⟩ : ByteArray) (rd l1 a0_2) t591).bind fun t592 => (some t592)) = some r := H
             have A34 := zK A340
             clear A340
             replace H := Option.bind_eq_some_iff.mp H
             obtain ⟨t592, A350, H⟩ := H
             replace H : (some t592) = some r := H
             have A35 := zK A350
             clear A350
             obtain rfl := Option.some.inj H
             go_enter Try.func131, Try.ntmps131
             go_wp2_with (first | ((with_reducible refine gate_dst (N := 2) rfl ?_); refine box_event ?hg (N := 2) ?hd (cs := #[.string a0_0, .int .i64 a0_1, .int .i64 a0_2, .int .i64 a0_3, .int .i64 a0_4]) (t := 67) ?hr ?_; (case hd => rfl); (case hg => rfl); (case hr => first | (go_simp; done) | (go_simp; rfl)); intro gb583 hg w36 hbox hb; have n0_ := zK (zL (by repeat (first | (with_reducible first | exact HB.out | apply zA | apply zB | apply zC) | exact HB.out)) hb); have n1_ := zK (hbox); have n2_ := zK ((by rw [hg]; exact (zN (by repeat (first | (with_reducible first | exact HB.out | apply zA | apply zB | apply zC) | exact HB.out))) : w.heap.size ≤ gb583)); have n3_ := n2_; clear HB; have HB := n0_; have BK583 := n1_; have GW583 := n2_; have GE583 := n3_; clear n0_ n1_ n2_ n3_; clear hb hbox hg; have hcz37_0 : w36.cell? ⟨gb583, 0, none⟩ = some (.string a0_0) := (zI BK583.out 0).trans rfl; have hcz37_1 : w36.cell? ⟨gb583, 1, none⟩ = some (.int .i64 a0_1) := (zI BK583.out 1).trans rfl; have hcz37_2 : w36.cell? ⟨gb583, 2, none⟩ = some (.int .i64 a0_2) := (zI BK583.out 2).trans rfl; have hcz37_3 : w36.cell? ⟨gb583, 3, none⟩ = some (.int .i64 a0_3) := (zI BK583.out 3).trans rfl; have hcz37_4 : w36.cell? ⟨gb583, 4, none⟩ = some (.int .i64 a0_4) := (zI BK583.out 4).trans rfl; have hfz37_0 := zH BK583.out 0; have hfz37_1 := zH BK583.out 1; have hfz37_2 := zH BK583.out 2; have hfz37_3 := zH BK583.out 3; have hfz37_4 := zH BK583.out 4; have p584 : 0 ≤ (a0_2 : Int) := zo; have q584 : a0_2 < (l1.length : Int) := zo; obtain ⟨ad584, e584, hx584_0⟩ := Kd.at_int HR1.out a0_2 p584 q584; cases e584; replace hx584_0 := zt HB.out hx584_0; replace p584 := eq_true p584; replace q584 := eq_true q584; have p585 : 0 ≤ (a0_3 : Int) := zo; have q585 : a0_3 < (l1.length : Int) := zo; obtain ⟨ad585, e585, hx585_0⟩ := Kd.at_int HR1.out a0_3 p585 q585; obtain rfl : ad584 = ad585 := (by injection e585); replace hx585_0 := zt HB.out hx585_0; replace p585 := eq_true p585; replace q585 := eq_true q585) | (go_at_call 124; (with_reducible refine (spec_exApply.calls (⟨#[115, 104, 108]⟩ : ByteArray) (rd l1 a0_3) a0_4 t591 _ A34.out).mono ?_); rintro e w' ⟨rfl, ⟨nd, rfl⟩⟩; (try first | exact ⟨rfl, _, World.drewN_drewN _ _ _⟩ | exact ⟨rfl, _, Eq.trans (World.drewN_drewN _ _ _) (congrArg (World.drewN _) (Nat.add_assoc _ _ _))⟩)) | (go_at_call 124; (with_reducible refine (spec_exApply.calls (⟨#[97, 100, 100]⟩ : ByteArray) (rd l1 a0_2) t591 t592 _ A35.out).mono ?_); rintro e w' ⟨rfl, ⟨nd, rfl⟩⟩; (try first | exact ⟨rfl, _, World.drewN_drewN _ _ _⟩ | exact ⟨rfl, _, Eq.trans (World.drewN_drewN _ _ _) (congrArg (World.drewN _) (Nat.add_assoc _ _ _))⟩)))
             repeat (go_quiet (first | ((with_reducible refine gate_dst (N := 2) rfl ?_); refine box_event ?hg (N := 2) ?hd (cs := #[.string a0_0, .int .i64 a0_1, .int .i64 a0_2, .int .i64 a0_3, .int .i64 a0_4]) (t := 67) ?hr ?_; (case hd => rfl); (case hg => rfl); (case hr => first | (go_simp; done) | (go_simp; rfl)); intro gb583 hg w36 hbox hb; have n0_ := zK (zL (by repeat (first | (with_reducible first | exact HB.out | apply zA | apply zB | apply zC) | exact HB.out)) hb); have n1_ := zK (hbox); have n2_ := zK ((by rw [hg]; exact (zN (by repeat (first | (with_reducible first | exact HB.out | apply zA | apply zB | apply zC) | exact HB.out))) : w.heap.size ≤ gb583)); have n3_ := n2_; clear HB; have HB := n0_; have BK583 := n1_; have GW583 := n2_; have GE583 := n3_; clear n0_ n1_ n2_ n3_; clear hb hbox hg; have hcz37_0 : w36.cell? ⟨gb583, 0, none⟩ = some (.string a0_0) := (zI BK583.out 0).trans rfl; have hcz37_1 : w36.cell? ⟨gb583, 1, none⟩ = some (.int .i64 a0_1) := (zI BK583.out 1).trans rfl; have hcz37_2 : w36.cell? ⟨gb583, 2, none⟩ = some (.int .i64 a0_2) := (zI BK583.out 2).trans rfl; have hcz37_3 : w36.cell? ⟨gb583, 3, none⟩ = some (.int .i64 a0_3) := (zI BK583.out 3).trans rfl; have hcz37_4 : w36.cell? ⟨gb583, 4, none⟩ = some (.int .i64 a0_4) := (zI BK583.out 4).trans rfl; have hfz37_0 := zH BK583.out 0; have hfz37_1 := zH BK583.out 1; have hfz37_2 := zH BK583.out 2; have hfz37_3 := zH BK583.out 3; have hfz37_4 := zH BK583.out 4; have p584 : 0 ≤ (a0_2 : Int) := zo; have q584 : a0_2 < (l1.length : Int) := zo; obtain ⟨ad584, e584, hx584_0⟩ := Kd.at_int HR1.out a0_2 p584 q584; cases e584; replace hx584_0 := zt HB.out hx584_0; replace p584 := eq_true p584; replace q584 := eq_true q584; have p585 : 0 ≤ (a0_3 : Int) := zo; have q585 : a0_3 < (l1.length : Int) := zo; obtain ⟨ad585, e585, hx585_0⟩ := Kd.at_int HR1.out a0_3 p585 q585; obtain rfl : ad584 = ad585 := (by injection e585); replace hx585_0 := zt HB.out hx585_0; replace p585 := eq_true p585; replace q585 := eq_true q585) | (go_at_call 124; (with_reducible refine (spec_exApply.calls (⟨#[115, 104, 108]⟩ : ByteArray) (rd l1 a0_3) a0_4 t591 _ A34.out).mono ?_); rintro e w' ⟨rfl, ⟨nd, rfl⟩⟩; (try first | exact ⟨rfl, _, World.drewN_drewN _ _ _⟩ | exact ⟨rfl, _, Eq.trans (World.drewN_drewN _ _ _) (congrArg (World.drewN _) (Nat.add_assoc _ _ _))⟩)) | (go_at_call 124; (with_reducible refine (spec_exApply.calls (⟨#[97, 100, 100]⟩ : ByteArray) (rd l1 a0_2) t591 t592 _ A35.out).mono ?_); rintro e w' ⟨rfl, ⟨nd, rfl⟩⟩; (try first | exact ⟨rfl, _, World.drewN_drewN _ _ _⟩ | exact ⟨rfl, _, Eq.trans (World.drewN_drewN _ _ _) (congrArg (World.drewN _) (Nat.add_assoc _ _ _))⟩))); try go_wp2_with (first | ((with_reducible refine gate_dst (N := 2) rfl ?_); refine box_event ?hg (N := 2) ?hd (cs := #[.string a0_0, .int .i64 a0_1, .int .i64 a0_2, .int .i64 a0_3, .int .i64 a0_4]) (t := 67) ?hr ?_; (case hd => rfl); (case hg => rfl); (case hr => first | (go_simp; done) | (go_simp; rfl)); intro gb583 hg w36 hbox hb; have n0_ := zK (zL (by repeat (first | (with_reducible first | exact HB.out | apply zA | apply zB | apply zC) | exact HB.out)) hb); have n1_ := zK (hbox); have n2_ := zK ((by rw [hg]; exact (zN (by repeat (first | (with_reducible first | exact HB.out | apply zA | apply zB | apply zC) | exact HB.out))) : w.heap.size ≤ gb583)); have n3_ := n2_; clear HB; have HB := n0_; have BK583 := n1_; have GW583 := n2_; have GE583 := n3_; clear n0_ n1_ n2_ n3_; clear hb hbox hg; have hcz37_0 : w36.cell? ⟨gb583, 0, none⟩ = some (.string a0_0) := (zI BK583.out 0).trans rfl; have hcz37_1 : w36.cell? ⟨gb583, 1, none⟩ = some (.int .i64 a0_1) := (zI BK583.out 1).trans rfl; have hcz37_2 : w36.cell? ⟨gb583, 2, none⟩ = some (.int .i64 a0_2) := (zI BK583.out 2).trans rfl; have hcz37_3 : w36.cell? ⟨gb583, 3, none⟩ = some (.int .i64 a0_3) := (zI BK583.out 3).trans rfl; have hcz37_4 : w36.cell? ⟨gb583, 4, none⟩ = some (.int .i64 a0_4) := (zI BK583.out 4).trans rfl; have hfz37_0 := zH BK583.out 0; have hfz37_1 := zH BK583.out 1; have hfz37_2 := zH BK583.out 2; have hfz37_3 := zH BK583.out 3; have hfz37_4 := zH BK583.out 4; have p584 : 0 ≤ (a0_2 : Int) := zo; have q584 : a0_2 < (l1.length : Int) := zo; obtain ⟨ad584, e584, hx584_0⟩ := Kd.at_int HR1.out a0_2 p584 q584; cases e584; replace hx584_0 := zt HB.out hx584_0; replace p584 := eq_true p584; replace q584 := eq_true q584; have p585 : 0 ≤ (a0_3 : Int) := zo; have q585 : a0_3 < (l1.length : Int) := zo; obtain ⟨ad585, e585, hx585_0⟩ := Kd.at_int HR1.out a0_3 p585 q585; obtain rfl : ad584 = ad585 := (by injection e585); replace hx585_0 := zt HB.out hx585_0; replace p585 := eq_true p585; replace q585 := eq_true q585) | (go_at_call 124; (with_reducible refine (spec_exApply.calls (⟨#[115, 104, 108]⟩ : ByteArray) (rd l1 a0_3) a0_4 t591 _ A34.out).mono ?_); rintro e w' ⟨rfl, ⟨nd, rfl⟩⟩; (try first | exact ⟨rfl, _, World.drewN_drewN _ _ _⟩ | exact ⟨rfl, _, Eq.trans (World.drewN_drewN _ _ _) (congrArg (World.drewN _) (Nat.add_assoc _ _ _))⟩)) | (go_at_call 124; (with_reducible refine (spec_exApply.calls (⟨#[97, 100, 100]⟩ : ByteArray) (rd l1 a0_2) t591 t592 _ A35.out).mono ?_); rintro e w' ⟨rfl, ⟨nd, rfl⟩⟩; (try first | exact ⟨rfl, _, World.drewN_drewN _ _ _⟩ | exact ⟨rfl, _, Eq.trans (World.drewN_drewN _ _ _) (congrArg (World.drewN _) (Nat.add_assoc _ _ _))⟩))))
             go_ret
             exact ⟨by first | rfl | (simp [errW_none, errW_some] <;> rfl) | (simp [*, errW_none, errW_some] <;> rfl), by repeat (first | (with_reducible first | exact HB.out | apply zA | apply zB | apply zC | refine zD ?_ GE583.out) | exact HB.out)⟩
            ·rw [if_neg c33] at H
             have c33b0 : (a0_0.toList == ([108, 101, 97] : List UInt8)) = false := beq_eq_false_iff_ne.mpr c33
             have c33b1 : (a0_0.toList != ([108, 101, 97] : List UInt8)) = true := bne_iff_ne.mpr c33
             replace H := Option.bind_eq_some_iff.mp H
             obtain ⟨t593, A380, H⟩ := H
             replace H : (some t593) = some r := H
             have A38 := zK A380
             clear A380
             obtain rfl := Option.some.inj H
             go_enter Try.func131, Try.ntmps131
             go_wp2_with (first | ((with_reducible refine gate_dst (N := 2) rfl ?_); refine box_event ?hg (N := 2) ?hd (cs := #[.string a0_0, .int .i64 a0_1, .int .i64 a0_2, .int .i64 a0_3, .int .i64 a0_4]) (t := 67) ?hr ?_; (case hd => rfl); (case hg => rfl); (case hr => first | (go_simp; done) | (go_simp; rfl)); intro gb583 hg w39 hbox hb; have n0_ := zK (zL (by repeat (first | (with_reducible first | exact HB.out | apply zA | apply zB | apply zC) | exact HB.out)) hb); have n1_ := zK (hbox); have n2_ := zK ((by rw [hg]; exact (zN (by repeat (first | (with_reducible first | exact HB.out | apply zA | apply zB | apply zC) | exact HB.out))) : w.heap.size ≤ gb583)); have n3_ := n2_; clear HB; have HB := n0_; have BK583 := n1_; have GW583 := n2_; have GE583 := n3_; clear n0_ n1_ n2_ n3_; clear hb hbox hg; have hcz40_0 : w39.cell? ⟨gb583, 0, none⟩ = some (.string a0_0) := (zI BK583.out 0).trans rfl; have hcz40_1 : w39.cell? ⟨gb583, 1, none⟩ = some (.int .i64 a0_1) := (zI BK583.out 1).trans rfl; have hcz40_2 : w39.cell? ⟨gb583, 2, none⟩ = some (.int .i64 a0_2) := (zI BK583.out 2).trans rfl; have hcz40_3 : w39.cell? ⟨gb583, 3, none⟩ = some (.int .i64 a0_3) := (zI BK583.out 3).trans rfl; have hcz40_4 : w39.cell? ⟨gb583, 4, none⟩ = some (.int .i64 a0_4) := (zI BK583.out 4).trans rfl; have hfz40_0 := zH BK583.out 0; have hfz40_1 := zH BK583.out 1; have hfz40_2 := zH BK583.out 2; have hfz40_3 := zH BK583.out 3; have hfz40_4 := zH BK583.out 4; have p584 : 0 ≤ (a0_2 : Int) := zo; have q584 : a0_2 < (l1.length : Int) := zo; obtain ⟨ad584, e584, hx584_0⟩ := Kd.at_int HR1.out a0_2 p584 q584; cases e584; replace hx584_0 := zt HB.out hx584_0; replace p584 := eq_true p584; replace q584 := eq_true q584; have p585 : 0 ≤ (a0_3 : Int) := zo; have q585 : a0_3 < (l1.length : Int) := zo; obtain ⟨ad585, e585, hx585_0⟩ := Kd.at_int HR1.out a0_3 p585 q585; obtain rfl : ad584 = ad585 := (by injection e585); replace hx585_0 := zt HB.out hx585_0; replace p585 := eq_true p585; replace q585 := eq_true q585) | (go_at_call 124; (with_reducible refine (spec_exApply.calls a0_0 (rd l1 a0_2) (rd l1 a0_3) t593 _ A38.out).mono ?_); rintro e w' ⟨rfl, ⟨nd, rfl⟩⟩; (try first | exact ⟨rfl, _, World.drewN_drewN _ _ _⟩ | exact ⟨rfl, _, Eq.trans (World.drewN_drewN _ _ _) (congrArg (World.drewN _) (Nat.add_assoc _ _ _))⟩)))
             repeat (go_quiet (first | ((with_reducible refine gate_dst (N := 2) rfl ?_); refine box_event ?hg (N := 2) ?hd (cs := #[.string a0_0, .int .i64 a0_1, .int .i64 a0_2, .int .i64 a0_3, .int .i64 a0_4]) (t := 67) ?hr ?_; (case hd => rfl); (case hg => rfl); (case hr => first | (go_simp; done) | (go_simp; rfl)); intro gb583 hg w39 hbox hb; have n0_ := zK (zL (by repeat (first | (with_reducible first | exact HB.out | apply zA | apply zB | apply zC) | exact HB.out)) hb); have n1_ := zK (hbox); have n2_ := zK ((by rw [hg]; exact (zN (by repeat (first | (with_reducible first | exact HB.out | apply zA | apply zB | apply zC) | exact HB.out))) : w.heap.size ≤ gb583)); have n3_ := n2_; clear HB; have HB := n0_; have BK583 := n1_; have GW583 := n2_; have GE583 := n3_; clear n0_ n1_ n2_ n3_; clear hb hbox hg; have hcz40_0 : w39.cell? ⟨gb583, 0, none⟩ = some (.string a0_0) := (zI BK583.out 0).trans rfl; have hcz40_1 : w39.cell? ⟨gb583, 1, none⟩ = some (.int .i64 a0_1) := (zI BK583.out 1).trans rfl; have hcz40_2 : w39.cell? ⟨gb583, 2, none⟩ = some (.int .i64 a0_2) := (zI BK583.out 2).trans rfl; have hcz40_3 : w39.cell? ⟨gb583, 3, none⟩ = some (.int .i64 a0_3) := (zI BK583.out 3).trans rfl; have hcz40_4 : w39.cell? ⟨gb583, 4, none⟩ = some (.int .i64 a0_4) := (zI BK583.out 4).trans rfl; have hfz40_0 := zH BK583.out 0; have hfz40_1 := zH BK583.out 1; have hfz40_2 := zH BK583.out 2; have hfz40_3 := zH BK583.out 3; have hfz40_4 := zH BK583.out 4; have p584 : 0 ≤ (a0_2 : Int) := zo; have q584 : a0_2 < (l1.length : Int) := zo; obtain ⟨ad584, e584, hx584_0⟩ := Kd.at_int HR1.out a0_2 p584 q584; cases e584; replace hx584_0 := zt HB.out hx584_0; replace p584 := eq_true p584; replace q584 := eq_true q584; have p585 : 0 ≤ (a0_3 : Int) := zo; have q585 : a0_3 < (l1.length : Int) := zo; obtain ⟨ad585, e585, hx585_0⟩ := Kd.at_int HR1.out a0_3 p585 q585; obtain rfl : ad584 = ad585 := (by injection e585); replace hx585_0 := zt HB.out hx585_0; replace p585 := eq_true p585; replace q585 := eq_true q585) | (go_at_call 124; (with_reducible refine (spec_exApply.calls a0_0 (rd l1 a0_2) (rd l1 a0_3) t593 _ A38.out).mono ?_); rintro e w' ⟨rfl, ⟨nd, rfl⟩⟩; (try first | exact ⟨rfl, _, World.drewN_drewN _ _ _⟩ | exact ⟨rfl, _, Eq.trans (World.drewN_drewN _ _ _) (congrArg (World.drewN _) (Nat.add_assoc _ _ _))⟩))); try go_wp2_with (first | ((with_reducible refine gate_dst (N := 2) rfl ?_); refine box_event ?hg (N := 2) ?hd (cs := #[.string a0_0, .int .i64 a0_1, .int .i64 a0_2, .int .i64 a0_3, .int .i64 a0_4]) (t := 67) ?hr ?_; (case hd => rfl); (case hg => rfl); (case hr => first | (go_simp; done) | (go_simp; rfl)); intro gb583 hg w39 hbox hb; have n0_ := zK (zL (by repeat (first | (with_reducible first | exact HB.out | apply zA | apply zB | apply zC) | exact HB.out)) hb); have n1_ := zK (hbox); have n2_ := zK ((by rw [hg]; exact (zN (by repeat (first | (with_reducible first | exact HB.out | apply zA | apply zB | apply zC) | exact HB.out))) : w.heap.size ≤ gb583)); have n3_ := n2_; clear HB; have HB := n0_; have BK583 := n1_; have GW583 := n2_; have GE583 := n3_; clear n0_ n1_ n2_ n3_; clear hb hbox hg; have hcz40_0 : w39.cell? ⟨gb583, 0, none⟩ = some (.string a0_0) := (zI BK583.out 0).trans rfl; have hcz40_1 : w39.cell? ⟨gb583, 1, none⟩ = some (.int .i64 a0_1) := (zI BK583.out 1).trans rfl; have hcz40_2 : w39.cell? ⟨gb583, 2, none⟩ = some (.int .i64 a0_2) := (zI BK583.out 2).trans rfl; have hcz40_3 : w39.cell? ⟨gb583, 3, none⟩ = some (.int .i64 a0_3) := (zI BK583.out 3).trans rfl; have hcz40_4 : w39.cell? ⟨gb583, 4, none⟩ = some (.int .i64 a0_4) := (zI BK583.out 4).trans rfl; have hfz40_0 := zH BK583.out 0; have hfz40_1 := zH BK583.out 1; have hfz40_2 := zH BK583.out 2; have hfz40_3 := zH BK583.out 3; have hfz40_4 := zH BK583.out 4; have p584 : 0 ≤ (a0_2 : Int) := zo; have q584 : a0_2 < (l1.length : Int) := zo; obtain ⟨ad584, e584, hx584_0⟩ := Kd.at_int HR1.out a0_2 p584 q584; cases e584; replace hx584_0 := zt HB.out hx584_0; replace p584 := eq_true p584; replace q584 := eq_true q584; have p585 : 0 ≤ (a0_3 : Int) := zo; have q585 : a0_3 < (l1.length : Int) := zo; obtain ⟨ad585, e585, hx585_0⟩ := Kd.at_int HR1.out a0_3 p585 q585; obtain rfl : ad584 = ad585 := (by injection e585); replace hx585_0 := zt HB.out hx585_0; replace p585 := eq_true p585; replace q585 := eq_true q585) | (go_at_call 124; (with_reducible refine (spec_exApply.calls a0_0 (rd l1 a0_2) (rd l1 a0_3) t593 _ A38.out).mono ?_); rintro e w' ⟨rfl, ⟨nd, rfl⟩⟩; (try first | exact ⟨rfl, _, World.drewN_drewN _ _ _⟩ | exact ⟨rfl, _, Eq.trans (World.drewN_drewN _ _ _) (congrArg (World.drewN _) (Nat.add_assoc _ _ _))⟩))))
             go_ret
             exact ⟨by first | rfl | (simp [errW_none, errW_some] <;> rfl) | (simp [*, errW_none, errW_some] <;> rfl), by repeat (first | (with_reducible first | exact HB.out | apply zA | apply zB | apply zC | refine zD ?_ GE583.out) | exact HB.out)⟩
    ·rw [if_neg c6] at H
     exact absurd H (by simp)
   ·rw [if_neg c5] at H
    exact absurd H (by simp)
  ·rw [if_neg c4] at H
   exact absurd H (by simp)
 ·rw [if_neg c3] at H
  exact absurd H (by simp)

/-! ### spec_cdStep: function 77 -/
def spec_cdStep.f (a0_0 : ByteArray) (a0_1 : Int) (a0_2 : Int) (a0_3 : Int) (a0_4 : Int) (l1 : List Int) : Option (List Int) := (spec_l1Own.f l1).bind fun t595 => ((spec_cdValue.f a0_0 a0_1 a0_2 a0_3 a0_4 l1).bind fun t598 => (if 0 ≤ a0_1 then (if a0_1 < (t595.length : Int) then (some (t595.set (a0_1 : Int).toNat t598)) else (none)) else (none)))
def spec_cdStep.T2 : Bool × List (List Nat × List Nat) := (true, [([], []), ([], []), ([1], [1]), ([], []), ([], []), ([3, 4], [3, 4]), ([0, 2, 0, 1, 2, 3, 4, 5], [0, 2]), ([6, 5, 5, 0, 1, 2, 3, 4, 5], [5, 6])])
def spec_cdStep.B2 : List Nat := [0, 0, 2, 0, 0, 24, 63, 127]
theorem spec_cdStep.tab2 : rtab .any (opsOf Try.f77 2) = spec_cdStep.T2 := by kernel_rfl
theorem spec_cdStep.bits2 : waitsOk spec_cdStep.T2.2 spec_cdStep.B2 = true := by kernel_rfl
set_option maxHeartbeats 8000000 in
set_option maxRecDepth 100000 in
theorem spec_cdStep.calls (a0_0 : ByteArray) (a0_1 : Int) (a0_2 : Int) (a0_3 : Int) (a0_4 : Int) (A1 : Option Addr) (c1 : Nat) (l1 : List Int) (r : List Int) (w : World) (hr1 : Kd.C (Kd.int .i64) w A1 l1.length l1) (hc1 : l1.length ≤ c1) (h : spec_cdStep.f a0_0 a0_1 a0_2 a0_3 a0_4 l1 = some r) :
  Calls Try.prog 77 #[.agg #[.string a0_0, .int .i64 a0_1, .int .i64 a0_2, .int .i64 a0_3, .int .i64 a0_4], .slice A1 l1.length c1] w fun e w' => ∃ v0_ : Value, e = .returned (v0_) ∧ Kd.R (Kd.int .i64) 3 w' w.heap.size (fun _ => True) v0_ r ∧ Below w.heap.size w w' := by
 have hu67 := Try.underlying67
 have HR1 := zK hr1
 have HC1 := zK hc1
 clear hr1 hc1
 have HB := zK (Below.refl w.heap.size w)
 have H : ((spec_l1Own.f l1).bind fun t595 => ((spec_cdValue.f a0_0 a0_1 a0_2 a0_3 a0_4 l1).bind fun t598 => (if 0 ≤ a0_1 then (if a0_1 < (t595.length : Int) then (some (t595.set (a0_1 : Int).toNat t598)) else (none)) else (none)))) = some r := h
 clear h
 replace H := Option.bind_eq_some_iff.mp H
 obtain ⟨t595, A30, H⟩ := H
 replace H : ((spec_cdValue.f a0_0 a0_1 a0_2 a0_3 a0_4 l1).bind fun t598 => (if 0 ≤ a0_1 then (if a0_1 < (t595.length : Int) then (some (t595.set (a0_1 : Int).toNat t598)) else (none)) else (none))) = some r := H
 have A3 := zK A30
 clear A30
 replace H := Option.bind_eq_some_iff.mp H
 obtain ⟨t598, A40, H⟩ := H
 replace H : (if 0 ≤ a0_1 then (if a0_1 < (t595.length : Int) then (some (t595.set (a0_1 : Int).toNat t598)) else (none)) else (none)) = some r := H
 have A4 := zK A40
 clear A40
 by_cases c5 : 0 ≤ a0_1
 ·rw [if_pos c5] at H
  have c5b0 : decide (0 ≤ a0_1) = true := decide_eq_true c5
  clear c5
  by_cases c6 : a0_1 < (t595.length : Int)
  ·rw [if_pos c6] at H
   have c6b0 : decide (a0_1 < (t595.length : Int)) = true := decide_eq_true c6
   clear c6
   obtain ⟨y599, hy599⟩ : ∃ y_ : List Int, y_ = (t595.set (a0_1 : Int).toNat t598) := ⟨_, rfl⟩
   replace H : (some y599) = some r := by first | (rw [hy599]; with_reducible exact H) | (have H2_ := (Option.bind_some _ _).symm.trans H; rw [hy599]; with_reducible exact H2_) | (have H2_ := (Option.bind_some _ _).symm.trans H; with_reducible exact H2_) | with_reducible exact H | (rw [hy599]; exact H) | exact H
   have Ny599 := zK hy599
   clear hy599
   obtain rfl := Option.some.inj H
   go_enter Try.func77, Try.ntmps77
   try go_wp2_with (first | ((with_reducible refine gate_dst (N := 2) rfl ?_); refine box_event ?hg (N := 2) ?hd (cs := #[.string a0_0, .int .i64 a0_1, .int .i64 a0_2, .int .i64 a0_3, .int .i64 a0_4]) (t := 67) ?hr ?_; (case hd => rfl); (case hg => rfl); (case hr => first | (go_simp; done) | (go_simp; rfl)); intro gb594 hg w8 hbox hb; have n0_ := zK (zL (by repeat (first | (with_reducible first | exact HB.out | apply zA | apply zB | apply zC) | exact HB.out)) hb); have n1_ := zK (hbox); have n2_ := zK ((by rw [hg]; exact (zN (by repeat (first | (with_reducible first | exact HB.out | apply zA | apply zB | apply zC) | exact HB.out))) : w.heap.size ≤ gb594)); have n3_ := n2_; clear HB; have HB := n0_; have BK594 := n1_; have GW594 := n2_; have GE594 := n3_; clear n0_ n1_ n2_ n3_; clear hb hbox hg) | ((with_reducible refine gate_callee (f := 76) rfl ?_); refine goesL_ (some 7) rfl rfl Try.func76 (by kernel_rfl) rfl #[.slice A1 l1.length c1] rfl (by (try simp only [z6, z7, z8]); first | done | rfl | (simp only [z4, z5]; rfl)) ?_; (with_reducible refine (spec_l1Own.calls _ _ l1 t595 _ ?side1 ?side2 A3.out).mono ?_); (case side1 => repeat (first | exact (Kd.C_below HR1.out HB.out) | (with_reducible refine Kd.C_alloc ?_ _) | (with_reducible refine Kd.C_drewN ?_ _) | (with_reducible refine Kd.C_drew ?_))); (case side2 => exact HC1.out); rintro e w9 ⟨v596, rfl, ho0, hb⟩; refine ⟨_, rfl, ?_⟩; have n0_ := zK (Kd.R_lower ho0 (zN (by repeat (first | (with_reducible first | exact HB.out | apply zA | apply zB | apply zC | refine zD ?_ GE594.out) | exact HB.out)))); have n1_ := zK (zM (g := gb594) (o := .cells #[.string a0_0, .int .i64 a0_1, .int .i64 a0_2, .int .i64 a0_3, .int .i64 a0_4] 67 (0, 0)) (by (with_reducible repeat (first | refine zE ?_ _ | refine zF ?_ | refine zG ?_ _)); exact BK594.out) hb); have n2_ := zK (zL (by repeat (first | (with_reducible first | exact HB.out | apply zA | apply zB | apply zC | refine zD ?_ GE594.out) | exact HB.out)) hb); clear BK594; clear HB; have HO597 := n0_; have BK594 := n1_; have HB := n2_; clear n0_ n1_ n2_; (try clear hb); (try clear hb2); (try clear hk); (try clear hi); (try clear ho0)))
   have n0_ := zK (Kd.R_drew HO597.out)
   have n1_ := zK (zF BK594.out)
   have n2_ := zK (zC HB.out)
   clear HO597
   clear BK594
   clear HB
   have HO597 := n0_
   have BK594 := n1_
   have HB := n2_
   clear n0_ n1_ n2_
   refine start_ (n := 8) (S := fun w' => w'.cell? ⟨gb594, 0, none⟩ = some (.string a0_0) ∧ w'.cell? ⟨gb594, 1, none⟩ = some (.int .i64 a0_1) ∧ w'.cell? ⟨gb594, 2, none⟩ = some (.int .i64 a0_2) ∧ w'.cell? ⟨gb594, 3, none⟩ = some (.int .i64 a0_3) ∧ w'.cell? ⟨gb594, 4, none⟩ = some (.int .i64 a0_4)) (ds := [7]) #[false, false, false, false, false, false, false, false] (by kernel_rfl) rfl rfl ⟨(zI BK594.out 0).trans rfl, (zI BK594.out 1).trans rfl, (zI BK594.out 2).trans rfl, (zI BK594.out 3).trans rfl, (zI BK594.out 4).trans rfl⟩ (fun hHeld => ?_); refine with_tabW spec_cdStep.tab2 spec_cdStep.bits2 (fun HT_ HW_ => ?_)
   generalize w9.drew = w10 at HO597 BK594 HB hHeld ⊢
   refine pure_ (i := 0) (N := some 8) (v := ?_) (a' := ?_) #[true, false, false, false, false, false, false, false] rfl rfl (any_of HT_.out (by kernel_rfl)) (fun _ _ _ h => h) (Or.inl ⟨by rfl, ?_⟩) ?_ ?_
   rotate_left
   ·intro w'
    go_simp
    with_reducible rfl
   rotate_left
   ·simp only [Act.put, z1, z2, z3, i64_w, i32_w]
    rfl
   refine pure_ (i := 1) (N := some 9) (v := ?_) (a' := ?_) #[true, true, false, false, false, false, false, false] rfl rfl (any_of HT_.out (by kernel_rfl)) (fun _ _ _ h => h) (Or.inl ⟨by rfl, ?_⟩) ?_ ?_
   rotate_left
   ·intro w'
    go_simp
    with_reducible rfl
   rotate_left
   ·simp only [Act.put, z1, z2, z3, i64_w, i32_w]
    rfl
   refine pure_ (i := 4) (N := some 12) (v := ?_) (a' := ?_) #[true, true, false, false, true, false, false, false] rfl rfl (any_of HT_.out (by kernel_rfl)) (fun _ _ _ h => h) (Or.inl ⟨by rfl, ?_⟩) ?_ ?_
   rotate_left
   ·intro w'
    go_simp
    with_reducible rfl
   rotate_left
   ·simp only [Act.put, z1, z2, z3, i64_w, i32_w]
    rfl
   refine take_ (i := 2) (N := some 10) (v := ?_) (a' := ?_) #[true, true, true, false, true, false, false, false] rfl rfl (take_ofW HT_.out HW_.out (by kernel_rfl)) (fun _ _ _ h => h) (Or.inl ⟨by rfl, ?_⟩) hHeld ?_ ?_
   rotate_left
   ·rintro w' ⟨s0, s1, s2, s3, s4⟩
    go_simp
    with_reducible rfl
   rotate_left
   ·simp only [Act.put, z1, z2, z3, i64_w, i32_w]
    rfl
   refine take_ (i := 3) (N := some 11) (v := ?_) (a' := ?_) #[true, true, true, true, true, false, false, false] rfl rfl (take_ofW HT_.out HW_.out (by kernel_rfl)) (fun _ _ _ h => h) (Or.inl ⟨by rfl, ?_⟩) hHeld ?_ ?_
   rotate_left
   ·rintro w' ⟨s0, s1, s2, s3, s4⟩
    go_simp
    with_reducible rfl
   rotate_left
   ·simp only [Act.put, z1, z2, z3, i64_w, i32_w]
    rfl
   refine one_ (i := 5) (N := some 13) #[true, true, true, true, true, true, false, false] rfl rfl (one_of HT_.out (by kernel_rfl)) (by decide) (fun K hK => ?_)
   refine goes_ Try.func131 (by kernel_rfl) rfl #[.agg #[.string a0_0, .int .i64 a0_1, .int .i64 a0_2, .int .i64 a0_3, .int .i64 a0_4], .slice A1 l1.length c1] (by rfl) rfl rfl (by (try simp only [z6, z7, z8]); first | done | rfl | (simp only [z4, z5]; rfl)) ?_
   with_reducible refine (spec_cdValue.calls a0_0 a0_1 a0_2 a0_3 a0_4 _ _ l1 t598 _ ?side1 ?side2 A4.out).mono ?_
   (case side1 => repeat (first | exact (Kd.C_below HR1.out HB.out) | (with_reducible refine Kd.C_alloc ?_ _) | (with_reducible refine Kd.C_drewN ?_ _) | (with_reducible refine Kd.C_drew ?_)))
   (case side2 => exact HC1.out)
   rintro e w11 ⟨rfl, hb⟩
   refine ⟨_, rfl, ?_⟩
   have n0_ := zK (Kd.R_below (by (with_reducible repeat (first | apply Kd.R_alloc | apply Kd.R_drewN | apply Kd.R_drew)); exact HO597.out) hb)
   have n1_ := zK (zM (g := gb594) (o := .cells #[.string a0_0, .int .i64 a0_1, .int .i64 a0_2, .int .i64 a0_3, .int .i64 a0_4] 67 (0, 0)) (by (with_reducible repeat (first | refine zE ?_ _ | refine zF ?_ | refine zG ?_ _)); exact BK594.out) hb)
   have n2_ := zK (zL (by repeat (first | (with_reducible first | exact HB.out | apply zA | apply zB | apply zC | refine zD ?_ GE594.out) | exact HB.out)) hb)
   clear HO597
   clear BK594
   clear HB
   have HO597 := n0_
   have BK594 := n1_
   have HB := n2_
   clear n0_ n1_ n2_
   (try clear hb)
   (try clear hb2)
   (try clear hk)
   (try clear hi)
   have p7 : 0 ≤ (a0_1 : Int) := zo
   have q7 : (a0_1 : Int) < ((t595.length : Int) : Int) := zo
   obtain ⟨go7, co7, eo7, gb7, gl7, cl7, HG7⟩ := Kd.R_form HO597.out (by omega)
   (first | cases eo7 | (injection eo7 with ea_ en_ ec_; (first | subst ea_ | (injection ea_ with ea_; subst ea_)); subst ec_; clear en_))
   have GB7 := zK gb7
   have GG7 := zK HG7
   clear gb7 gl7 HG7
   obtain ⟨hx7_0, hf7_0⟩ := Kd.R_celln 0 HO597.out (a0_1 : Int) p7 q7
   replace p7 := eq_true p7
   replace q7 := eq_true q7
   have HP12 := Kd.R_putn HO597.out (a0_1 : Int) t598
   rw [← Ny599.out] at HP12
   have HQ12 := zK HP12
   clear HP12
   refine hK.out _ _ ⟨(zI BK594.out 0).trans rfl, (zI BK594.out 1).trans rfl, (zI BK594.out 2).trans rfl, (zI BK594.out 3).trans rfl, (zI BK594.out 4).trans rfl⟩ (fun hHeld => ?_)
   clear hK K
   refine norm_ (a' := ?_) ?_ ?_
   rotate_left
   ·show Act.put _ (some 13) _ = _
    simp only [Act.put, z1, z2, z3, i64_w, i32_w]
    rfl
   refine pure_ (i := 6) (N := some 14) (v := ?_) (a' := ?_) #[true, true, true, true, true, true, true, false] rfl rfl (any_of HT_.out (by kernel_rfl)) (fun _ _ _ h => h) (Or.inl ⟨by rfl, ?_⟩) ?_ ?_
   rotate_left
   ·intro w'
    go_simp
    with_reducible rfl
   rotate_left
   ·simp only [Act.put, z1, z2, z3, i64_w, i32_w]
    rfl
   refine last_ (i := 7) (N := none) #[true, true, true, true, true, true, true, true] rfl rfl (one_of HT_.out (by kernel_rfl)) (by decide) (fun K hK => ?_)
   refine skip_ (w1 := ?_) (by rfl) rfl ?_ ?_
   rotate_left
   ·go_simp
    rfl
   refine hK.out _ _ ?_
   clear hK K
   refine done_ (done_of HT_.out (by kernel_rfl)) ?_
   try go_wp2
   go_ret
   exact ⟨_, by first | rfl | (simp [errW_none, errW_some] <;> rfl) | (simp [*, errW_none, errW_some] <;> rfl), by (with_reducible repeat (first | apply Kd.R_alloc | apply Kd.R_drewN | apply Kd.R_drew)); exact HQ12.out, by repeat (first | (with_reducible first | exact HB.out | apply zA | apply zB | apply zC | refine zD ?_ GB7.out | refine zD ?_ GE594.out) | exact HB.out)⟩
  ·rw [if_neg c6] at H
   exact absurd H (by simp)
 ·rw [if_neg c5] at H
  exact absurd H (by simp)

end Go.Proofs.Ytecmlikhmkcdpaa.G
