/- Contracts: spec_exKeep, spec_exFold. -/
import Derived.Test.YtlcplhcccgbmnaaDK
import Derived.Test.YtlcplhcccgbmnaaDSpecL1CurNext
import Derived.Test.YtlcplhcccgbmnaaDImplFold
import Derived.Test.YtlcplhcccgbmnaaDSpecExMoved
namespace Go.Proofs.Ytlcplhcccgbmnaa.D
open Go.RowKit Go.Proofs.YtlcplhcccgbmnaaW.PrintWords Go.Proofs.YtlcplhcccgbmnaaW.PrintLast Go.Proofs.YtlcplhcccgbmnaaW.PrintMore
attribute [local go_sem] max2_int min2_int max_two min_two max_three min_three max_four min_four   -- for this text's walks alone
set_option linter.unusedVariables false
set_option linter.unusedSimpArgs false

/-! ### spec_exKeep: function 107 -/
mutual
def spec_exKeep.l0 : Nat → List (S47) → Int → List Bool → Int → Option ((List (S47)))
 | 0, _, _, _, _ => none
 | k + 1, x0, x1, x5, x6 => if x6 ≥ 0 then (if 0 ≤ x6 then (if x6 < (x0.length : Int) then ((spec_exParts.f k ((rd_T47 x0 x6).f0) ((rd_T47 x0 x6).f1) ((rd_T47 x0 x6).f2) ((rd_T47 x0 x6).f3)).bind fun t451 => (spec_exKeep.l1 k x0 x1 x5 x6 t451 (t451.length : Int) 0)) else (none)) else (none)) else (if 0 ≤ (wrap64 (x1 + 1)) then (if (wrap64 (x1 + 1) : Int).toNat ≤ 35184372088832 then (spec_exKeep.l2 k x0 x1 x5 (List.replicate (wrap64 (x1 + 1) : Int).toNat 0) ([] : List (S47)) 0) else (none)) else (none))
def spec_exKeep.l1 : Nat → List (S47) → Int → List Bool → Int → List Int → Int → Int → Option ((List (S47)))
 | 0, _, _, _, _, _, _, _ => none
 | k + 1, x0, x1, x5, x6, x27, x28, x29 => if x29 < x28 then (if 0 ≤ x29 then (if x29 < (x27.length : Int) then (if 0 ≤ (rd x27 x29) then (if (rd x27 x29) < (x5.length : Int) then (if rdOf false x5 (rd x27 x29) = true then (spec_exKeep.l1 k x0 x1 (x5.set ((rd x27 x29) : Int).toNat true) x6 x27 x28 (wrap64 (x29 + 1))) else (if 0 ≤ x6 then (if x6 < (x5.length : Int) then (spec_exKeep.l1 k x0 x1 (x5.set ((rd x27 x29) : Int).toNat (rdOf false x5 x6)) x6 x27 x28 (wrap64 (x29 + 1))) else (none)) else (none))) else (none)) else (none)) else (none)) else (none)) else (spec_exKeep.l0 k x0 x1 x5 (wrap64 (x6 - 1)))
def spec_exKeep.l2 : Nat → List (S47) → Int → List Bool → List Int → List (S47) → Int → Option ((List (S47)))
 | 0, _, _, _, _, _, _ => none
 | k + 1, x0, x1, x5, x9, x10, x11 => if x11 ≤ x1 then (if 0 ≤ x11 then (if x11 < (x5.length : Int) then (if rdOf false x5 x11 = true then (if x11 < (x9.length : Int) then ((some (x9.set (x11 : Int).toNat (x10.length : Int) : List Int)).bind fun y463 => (if x11 < (x0.length : Int) then ((spec_exMoved.f k ((rd_T47 x0 x11).f0) ((rd_T47 x0 x11).f1) ((rd_T47 x0 x11).f2) ((rd_T47 x0 x11).f3) y463).bind fun bt465 => (if x10.length < 3518437208883 then (spec_exKeep.l2 k x0 x1 x5 y463 (x10 ++ [(⟨bt465.1, bt465.2.1, bt465.2.2.1, bt465.2.2.2⟩ : S47)]) (wrap64 (x11 + 1))) else (none))) else (none))) else (none)) else (spec_exKeep.l2 k x0 x1 x5 x9 x10 (wrap64 (x11 + 1)))) else (none)) else (none)) else (some x10)
end
def spec_exKeep.f (k : Nat) (l0 : List (S47)) (a1 : Int) : Option ((List (S47))) := if 0 ≤ (wrap64 (a1 + 1)) then (if (wrap64 (a1 + 1) : Int).toNat ≤ 281474976710656 then ((some (List.replicate (wrap64 (a1 + 1) : Int).toNat false : List Bool)).bind fun y446 => (if 0 ≤ a1 then (if a1 < (y446.length : Int) then (spec_exKeep.l0 k l0 a1 (y446.set (a1 : Int).toNat true) a1) else (none)) else (none))) else (none)) else (none)
theorem spec_exKeep.mono_l : ∀ k, (∀ y0 y1 y2 y3, LeO (spec_exKeep.l0 k y0 y1 y2 y3) (spec_exKeep.l0 (k + 1) y0 y1 y2 y3)) ∧ (∀ y0 y1 y2 y3 y4 y5 y6, LeO (spec_exKeep.l1 k y0 y1 y2 y3 y4 y5 y6) (spec_exKeep.l1 (k + 1) y0 y1 y2 y3 y4 y5 y6)) ∧ (∀ y0 y1 y2 y3 y4 y5, LeO (spec_exKeep.l2 k y0 y1 y2 y3 y4 y5) (spec_exKeep.l2 (k + 1) y0 y1 y2 y3 y4 y5))
 | 0 => ⟨fun _ _ _ _ r h => by simp [spec_exKeep.l0] at h, fun _ _ _ _ _ _ _ r h => by simp [spec_exKeep.l1] at h, fun _ _ _ _ _ _ r h => by simp [spec_exKeep.l2] at h⟩
 | k + 1 => by
  obtain ⟨ih0, ih1, ih2⟩ := spec_exKeep.mono_l k
  refine ⟨?_, ?_, ?_⟩
  ·intro y0 y1 y2 y3
   unfold spec_exKeep.l0
   repeat' first
   | (with_reducible exact ih0 _ _ _ _)
   | (with_reducible exact ih1 _ _ _ _ _ _ _)
   | (with_reducible exact ih2 _ _ _ _ _ _)
   | (with_reducible exact spec_exMoved.mono _ _ _ _ _ _)
   | (with_reducible exact spec_exParts.mono _ _ _ _ _)
   | (with_reducible exact LeO.refl _)
   | (with_reducible exact LeO.none _)
   | (with_reducible refine LeO.ite ?_ ?_)
   | (with_reducible refine LeO.bind ?_ (fun _ => ?_))
   | exact ih0 _ _ _ _
   | exact ih1 _ _ _ _ _ _ _
   | exact ih2 _ _ _ _ _ _
   | exact spec_exMoved.mono _ _ _ _ _ _
   | exact spec_exParts.mono _ _ _ _ _
   | exact LeO.none _
   | refine LeO.ite ?_ ?_
   | refine LeO.bind ?_ (fun _ => ?_)
  ·intro y0 y1 y2 y3 y4 y5 y6
   unfold spec_exKeep.l1
   repeat' first
   | (with_reducible exact ih0 _ _ _ _)
   | (with_reducible exact ih1 _ _ _ _ _ _ _)
   | (with_reducible exact ih2 _ _ _ _ _ _)
   | (with_reducible exact spec_exMoved.mono _ _ _ _ _ _)
   | (with_reducible exact spec_exParts.mono _ _ _ _ _)
   | (with_reducible exact LeO.refl _)
   | (with_reducible exact LeO.none _)
   | (with_reducible refine LeO.ite ?_ ?_)
   | (with_reducible refine LeO.bind ?_ (fun _ => ?_))
   | exact ih0 _ _ _ _
   | exact ih1 _ _ _ _ _ _ _
   | exact ih2 _ _ _ _ _ _
   | exact spec_exMoved.mono _ _ _ _ _ _
   | exact spec_exParts.mono _ _ _ _ _
   | exact LeO.none _
   | refine LeO.ite ?_ ?_
   | refine LeO.bind ?_ (fun _ => ?_)
  ·intro y0 y1 y2 y3 y4 y5
   unfold spec_exKeep.l2
   repeat' first
   | (with_reducible exact ih0 _ _ _ _)
   | (with_reducible exact ih1 _ _ _ _ _ _ _)
   | (with_reducible exact ih2 _ _ _ _ _ _)
   | (with_reducible exact spec_exMoved.mono _ _ _ _ _ _)
   | (with_reducible exact spec_exParts.mono _ _ _ _ _)
   | (with_reducible exact LeO.refl _)
   | (with_reducible exact LeO.none _)
   | (with_reducible refine LeO.ite ?_ ?_)
   | (with_reducible refine LeO.bind ?_ (fun _ => ?_))
   | exact ih0 _ _ _ _
   | exact ih1 _ _ _ _ _ _ _
   | exact ih2 _ _ _ _ _ _
   | exact spec_exMoved.mono _ _ _ _ _ _
   | exact spec_exParts.mono _ _ _ _ _
   | exact LeO.none _
   | refine LeO.ite ?_ ?_
   | refine LeO.bind ?_ (fun _ => ?_)
theorem spec_exKeep.mono : ∀ a0 a1 k, LeO (spec_exKeep.f k a0 a1) (spec_exKeep.f (k + 1) a0 a1) := by
 intro a0 a1 k
 obtain ⟨ih0, ih1, ih2⟩ := spec_exKeep.mono_l k
 unfold spec_exKeep.f
 repeat' first
   | (with_reducible exact ih0 _ _ _ _)
   | (with_reducible exact ih1 _ _ _ _ _ _ _)
   | (with_reducible exact ih2 _ _ _ _ _ _)
   | (with_reducible exact spec_exMoved.mono _ _ _ _ _ _)
   | (with_reducible exact spec_exParts.mono _ _ _ _ _)
   | (with_reducible exact LeO.refl _)
   | (with_reducible exact LeO.none _)
   | (with_reducible refine LeO.ite ?_ ?_)
   | (with_reducible refine LeO.bind ?_ (fun _ => ?_))
   | exact ih0 _ _ _ _
   | exact ih1 _ _ _ _ _ _ _
   | exact ih2 _ _ _ _ _ _
   | exact spec_exMoved.mono _ _ _ _ _ _
   | exact spec_exParts.mono _ _ _ _ _
   | exact LeO.none _
   | refine LeO.ite ?_ ?_
   | refine LeO.bind ?_ (fun _ => ?_)
set_option maxHeartbeats 8000000 in
set_option maxRecDepth 100000 in
theorem spec_exKeep.calls (k : Nat) (A0 : Option Addr) (c0 : Nat) (l0 : List (S47)) (a1 : Int) (r : List (S47)) (w : World) (hr0 : Kd.C k47 w A0 l0.length l0) (hc0 : l0.length ≤ c0) (h : spec_exKeep.f k l0 a1 = some r) :
  Calls Try.prog 107 #[.slice A0 l0.length c0, .int .i64 a1] w fun e w' => ∃ v0_ : Value, e = .returned (v0_) ∧ Kd.R k47 47 w' w.heap.size (fun _ => True) v0_ r ∧ Below w.heap.size w w' := by
 have hu47 := Try.underlying47
 have HR0 := zK hr0
 have HC0 := zK hc0
 clear hr0 hc0
 have HB := zK (Below.refl w.heap.size w)
 have H : (if 0 ≤ (wrap64 (a1 + 1)) then (if (wrap64 (a1 + 1) : Int).toNat ≤ 281474976710656 then ((some (List.replicate (wrap64 (a1 + 1) : Int).toNat false : List Bool)).bind fun y446 => (if 0 ≤ a1 then (if a1 < (y446.length : Int) then (spec_exKeep.l0 k l0 a1 (y446.set (a1 : Int).toNat true) a1) else (none)) else (none))) else (none)) else (none)) = some r := h
 clear h
 obtain ⟨ji3, hji3⟩ : ∃ j_ : Int, (wrap64 (a1 + 1)) = j_ := ⟨_, rfl⟩
 replace H : (if 0 ≤ (ji3) then (if (ji3 : Int).toNat ≤ 281474976710656 then ((some (List.replicate (ji3 : Int).toNat false : List Bool)).bind fun y446 => (if 0 ≤ a1 then (if a1 < (y446.length : Int) then (spec_exKeep.l0 k l0 a1 (y446.set (a1 : Int).toNat true) a1) else (none)) else (none))) else (none)) else (none)) = some r := by first | (rw [hji3] at H; exact H) | (simp only [hji3] at H ⊢; exact H)
 have hji3w : (IntKind.i64.wrap (a1 + 1)) = ji3 := (i64_w _).trans hji3
 by_cases c4 : 0 ≤ (ji3)
 ·rw [if_pos c4] at H
  have c4b0 := eq_true c4
  have c4b1 : decide (0 ≤ (ji3)) = true := decide_eq_true c4
  clear c4
  by_cases c5 : (ji3 : Int).toNat ≤ 281474976710656
  ·rw [if_pos c5] at H
   have c5b0 := eq_true c5
   have c5b1 : decide ((ji3 : Int).toNat ≤ 281474976710656) = true := decide_eq_true c5
   clear c5
   obtain ⟨y446, hy446⟩ : ∃ y_ : List Bool, y_ = (List.replicate (ji3 : Int).toNat false) := ⟨_, rfl⟩
   replace H : (if 0 ≤ a1 then (if a1 < (y446.length : Int) then (spec_exKeep.l0 k l0 a1 (y446.set (a1 : Int).toNat true) a1) else (none)) else (none)) = some r := by have hy_ := hy446; exact xH
   have Ny446 := zK hy446
   clear hy446
   by_cases c6 : 0 ≤ a1
   ·rw [if_pos c6] at H
    have c6b0 : decide (0 ≤ a1) = true := decide_eq_true c6
    clear c6
    by_cases c7 : a1 < (y446.length : Int)
    ·rw [if_pos c7] at H
     have c7b0 : decide (a1 < (y446.length : Int)) = true := decide_eq_true c7
     clear c7
     obtain ⟨y449, hy449⟩ : ∃ y_ : List Bool, y_ = (y446.set (a1 : Int).toNat true) := ⟨_, rfl⟩
     replace H : (spec_exKeep.l0 k l0 a1 y449 a1) = some r := by have hy_ := hy449; exact xH
     have Ny449 := zK hy449
     clear hy449
     have H' := zK H
     clear H
     go_enter Try.func107, Try.ntmps107
     go_wp2_with (first | ((with_reducible refine gate_dst (N := 14) rfl ?_); refine Kd.R_make Kd.bool _ 4 rfl (N := 14) rfl 108 _ _ rfl ji3 rfl rfl Try.underlying108 (.bool false) 1 info4 rfl yp1 (by omega) false (ok := fun _ => True) (okp := fun _ => True) rfl (fun _ hk => hk) trivial (zo) (Nat.le_trans (Nat.mul_le_mul_right _ (zo : ji3.toNat ≤ 281474976710656)) (by omega)) (Below.refl _ _) (Nat.le_refl _) ?_; intro v447 w9 ho10 hb hg_ hnew_; clear hg_ hnew_; (first | rw [← Ny446.out] at ho10 | (simp only [Int.reduceToNat] at ho10; rw [← Ny446.out] at ho10)); have n0_ := zK (Kd.R_lower ho10 (zN ya)); have n1_ := zK (zL ya hb); clear HB; have HO448 := n0_; have HB := n1_; clear n0_ n1_; clear hb ho10; have p8 : 0 ≤ (a1 : Int) := zo; have q8 : (a1 : Int) < ((y446.length : Int) : Int) := zo; obtain ⟨go8, co8, eo8, gb8, gl8, cl8, HG8⟩ := Kd.R_form HO448.out (by omega); (first | cases eo8 | (injection eo8 with ea_ en_ ec_; (first | subst ea_ | (injection ea_ with ea_; subst ea_)); subst ec_; clear en_)); have GB8 := zK gb8; have GG8 := zK HG8; clear gb8 gl8 HG8; obtain ⟨hx8_0, hf8_0⟩ := Kd.R_celln false HO448.out (a1 : Int) p8 q8; replace p8 := eq_true p8; replace q8 := eq_true q8; obtain ⟨hy11_, hz11_⟩ := Kd.R_celln false HO448.out (a1 : Int) (zo) (zo); have HP11 := Kd.R_putg HO448.out (a1 : Int) true) | ((with_reducible refine gate_store (t := 4) (p := 17) rfl ?_); refine store_event (t := 4) (p := 17) (v := ?vo_w12) (w1 := (w9.setCell ⟨go8, (a1 : Int).toNat, none⟩ (.bool true))) ?hg ?ho ?hn ?hr ?_; (case ho => rfl); (case hg => rfl); (case hn => rfl); (case hr => exact xxa); intro w12 hw; have hg : w9.grownBy w12 (some go8) := (by rw [hw]; exact HP11.2); have hp_ : Kd.R Kd.bool 4 w12 w.heap.size (fun _ => True) (.slice (some ⟨go8, 0, none⟩) y446.length co8) y449 := (by rw [hw, Ny449.out]; exact HP11.1); clear HP11; have n0_ := zK (hp_); have n1_ := zK ((by rw [hw]; exact zD (HB.out) GB8.out : Below w.heap.size w w12)); clear HO448; clear HB; have HO448 := n0_; have HB := n1_; clear n0_ n1_; clear hg hw hp_))
     go_loopg [6] k (fun kq v6 w' => ∃ (x5_1 : List Bool) (x6_1 : Int), v6 = .int .i64 x6_1 ∧ Aside0 (spec_exKeep.l0 kq l0 a1 x5_1 x6_1 = some r) ∧ Aside0 (kq ≤ k) ∧ Aside0 (Kd.R Kd.bool 4 w' w.heap.size (fun _ => True) (.slice (some ⟨go8, 0, none⟩) y446.length co8) x5_1) ∧ Aside0 (Below w.heap.size w w'))
     case atStart => exact ⟨(y449), (a1), ye, H', ⟨Nat.le_refl _⟩, ⟨yR HO448.out⟩, ⟨ya⟩⟩
     case round =>
      clear H'
      try clear c1
      try clear p2
      try clear c4
      try clear c4b0
      try clear c4b1
      try clear c5
      try clear c5b0
      try clear c5b1
      try clear c6
      try clear c6b0
      try clear p6
      try clear c7
      try clear c7b0
      try clear p8
      try clear q8
      try clear hx8
      try clear hf8
      try clear c10
      try clear hx8_0
      try clear p8
      try clear q8
      obtain ⟨x5_1, x6_1, rfl, HA, HK1, HO_5, HB⟩ := hrel
      have hl5_1 := (Kd.R_reads' HO_5.out).1
      rw [hl5_1] at HO_5
      (try simp only [hl5_1])
      cases gk with
      | zero => exact absurd HA.out (by simp [spec_exKeep.l0])
      | succ k1 =>
       have H := HA.out
       clear HA
       simp only [spec_exKeep.l0] at H
       by_cases c13 : x6_1 ≥ 0
       ·rw [if_pos c13] at H
        have c13b0 : decide (0 ≤ x6_1) = true := decide_eq_true c13
        clear c13
        by_cases c14 : 0 ≤ x6_1
        ·rw [if_pos c14] at H
         have c14b0 : decide (0 ≤ x6_1) = true := decide_eq_true c14
         clear c14
         by_cases c15 : x6_1 < (l0.length : Int)
         ·rw [if_pos c15] at H
          have c15b0 : decide (x6_1 < (l0.length : Int)) = true := decide_eq_true c15
          clear c15
          replace H := Option.bind_eq_some_iff.mp H
          obtain ⟨t451, A160, H⟩ := H
          replace H : (spec_exKeep.l1 k1 l0 a1 x5_1 x6_1 t451 (t451.length : Int) 0) = some r := H
          have A16 := zK A160
          clear A160
          have H' := zK H
          clear H
          have p450 : 0 ≤ (x6_1 : Int) := zo
          have q450 : x6_1 < (l0.length : Int) := zo
          obtain ⟨ad450, e450, hx450_0, hx450_1, hx450_2, hx450_3⟩ := at_T47 HR0.out x6_1 p450 q450
          cases e450
          replace hx450_0 := zt HB.out hx450_0
          replace hx450_1 := zt HB.out hx450_1
          replace hx450_2 := zt HB.out hx450_2
          replace hx450_3 := zt HB.out hx450_3
          replace p450 := eq_true p450
          replace q450 := eq_true q450
          go_wp2_with (first | ((with_reducible refine gate_callee (f := 101) rfl ?_); refine goesL_ (some 27) rfl rfl Try.func101 yi rfl #[.agg #[.string ((rd_T47 l0 x6_1).f0), .int .i64 ((rd_T47 l0 x6_1).f1), .int .i64 ((rd_T47 l0 x6_1).f2), .int .i64 ((rd_T47 l0 x6_1).f3)]] rfl yb ?_; (with_reducible refine (spec_exParts.calls k1 ((rd_T47 l0 x6_1).f0) ((rd_T47 l0 x6_1).f1) ((rd_T47 l0 x6_1).f2) ((rd_T47 l0 x6_1).f3) t451 _ A16.out).mono ?_); rintro e w17 ⟨v452, rfl, ho0, hb⟩; refine ⟨_, rfl, ?_⟩; have n0_ := zK (Kd.R_below yj hb); have n1_ := zK (Kd.R_lower ho0 (zN ya)); have n2_ := zK (zL ya hb); clear HO_5; clear HB; have HO_5 := n0_; have HO453 := n1_; have HB := n2_; clear n0_ n1_ n2_; (try clear hb); (try clear hb2); (try clear hk); (try clear hi); (try clear ho0); obtain ⟨Ao18, co18, eo18⟩ := Kd.R_slice HO453.out; subst eo18))
          go_loopg [29] k1 (fun kq v29 w' => ∃ (x5_2 : List Bool) (x29_2 : Int), v29 = .int .i64 x29_2 ∧ Aside0 (spec_exKeep.l1 kq l0 a1 x5_2 x6_1 t451 (t451.length : Int) x29_2 = some r) ∧ Aside0 (kq ≤ k1) ∧ Aside0 (Kd.R Kd.bool 4 w' w.heap.size (fun _ => True) (.slice (some ⟨go8, 0, none⟩) x5_1.length co8) x5_2) ∧ Aside0 (Kd.R (Kd.int .i64) 3 w' w.heap.size (fun _ => True) (.slice Ao18 t451.length co18) t451) ∧ Aside0 (Below w.heap.size w w'))
          case atStart => exact ⟨(x5_1), (0), ye, H', ⟨Nat.le_refl _⟩, ⟨yq1⟩, ⟨by (try simp only [hl5_1]); (with_reducible repeat (first | apply Kd.R_alloc | apply Kd.R_drewN | apply Kd.R_drew)); exact HO453.out⟩, ⟨ya⟩⟩
          case round =>
           clear H'
           try clear c1
           try clear p2
           try clear c4
           try clear c4b0
           try clear c4b1
           try clear p4
           try clear q4
           try clear hx4
           try clear c5
           try clear c5b0
           try clear c5b1
           try clear c6
           try clear c6b0
           try clear p6
           try clear c7
           try clear c7b0
           try clear p8
           try clear q8
           try clear hx8
           try clear hf8
           try clear c10
           try clear c13
           try clear c13b0
           try clear c14
           try clear c14b0
           try clear c15
           try clear c15b0
           try clear hx450_0
           try clear hx450_1
           try clear hx450_2
           try clear hx450_3
           try clear hx8_0
           try clear p2
           try clear p450
           try clear p6
           try clear p8
           try clear q450
           try clear q8
           obtain ⟨x5_2, x29_2, rfl, HA, HK2, HO_5, HO_27, HB⟩ := hrel
           have hl5_2 := (Kd.R_reads' HO_5.out).1
           rw [hl5_2] at HO_5
           (try simp only [hl5_2])
           (try simp only [hl5_2] at HO_27)
           cases gk with
           | zero => exact absurd HA.out (by simp [spec_exKeep.l1])
           | succ k2 =>
            have H := HA.out
            clear HA
            simp only [spec_exKeep.l1] at H
            by_cases c19 : x29_2 < (t451.length : Int)
            ·rw [if_pos c19] at H
             have c19b0 : decide (x29_2 < (t451.length : Int)) = true := decide_eq_true c19
             clear c19
             by_cases c20 : 0 ≤ x29_2
             ·rw [if_pos c20] at H
              have c20b0 : decide (0 ≤ x29_2) = true := decide_eq_true c20
              clear c20
              by_cases c21 : x29_2 < (t451.length : Int)
              ·rw [if_pos c21] at H
               have c21b0 : decide (x29_2 < (t451.length : Int)) = true := decide_eq_true c21
               clear c21
               by_cases c22 : 0 ≤ (rd t451 x29_2)
               ·rw [if_pos c22] at H
                have c22b0 : decide (0 ≤ (rd t451 x29_2)) = true := decide_eq_true c22
                clear c22
                by_cases c23 : (rd t451 x29_2) < (x5_2.length : Int)
                ·rw [if_pos c23] at H
                 have c23b0 : decide ((rd t451 x29_2) < (x5_2.length : Int)) = true := decide_eq_true c23
                 clear c23
                 obtain ⟨bq24, hbq24⟩ : ∃ b_ : Bool, b_ = (rdOf false x5_2 (rd t451 x29_2)) := ⟨_, rfl⟩
                 replace H : (if bq24 = true then (spec_exKeep.l1 k2 l0 a1 (x5_2.set ((rd t451 x29_2) : Int).toNat true) x6_1 t451 (t451.length : Int) (wrap64 (x29_2 + 1))) else (if 0 ≤ x6_1 then (if x6_1 < (x5_2.length : Int) then (spec_exKeep.l1 k2 l0 a1 (x5_2.set ((rd t451 x29_2) : Int).toNat (rdOf false x5_2 x6_1)) x6_1 t451 (t451.length : Int) (wrap64 (x29_2 + 1))) else (none)) else (none))) = some r := by rw [← hbq24] at H; exact H
                 have Nbq24 := zK hbq24
                 clear hbq24
                 by_cases c25 : bq24 = true
                 ·subst c25
                  rw [if_pos rfl] at H
                  obtain ⟨y456, hy456⟩ : ∃ y_ : List Bool, y_ = (x5_2.set ((rd t451 x29_2) : Int).toNat true) := ⟨_, rfl⟩
                  replace H : (spec_exKeep.l1 k2 l0 a1 y456 x6_1 t451 (t451.length : Int) (wrap64 (x29_2 + 1))) = some r := by have hy_ := hy456; exact xH
                  have Ny456 := zK hy456
                  clear hy456
                  have H' := zK H
                  clear H
                  have p454 : 0 ≤ (x29_2 : Int) := zo
                  have q454 : x29_2 < (t451.length : Int) := zo
                  obtain ⟨ad454, e454, hx454_0⟩ := Kd.at_int (Kd.R_reads' HO_27.out).2.2 x29_2 p454 q454
                  cases e454
                  replace p454 := eq_true p454
                  replace q454 := eq_true q454
                  have p455 : 0 ≤ ((rd t451 x29_2) : Int) := zo
                  have q455 : (rd t451 x29_2) < (x5_2.length : Int) := zo
                  obtain ⟨ad455, e455, hx455_0⟩ := Kd.at_bool (Kd.R_reads' HO_5.out).2.2 (rd t451 x29_2) p455 q455
                  (try rw [← Nbq24.out] at hx455_0)
                  obtain rfl : (⟨go8, 0, none⟩ : Addr) = ad455 := (by injection e455)
                  (first | simp only [add_plain] at hx455_0 | simp only [add_at] at hx455_0 | simp only [Addr.add, Nat.zero_add] at hx455_0 | skip)
                  replace p455 := eq_true p455
                  replace q455 := eq_true q455
                  have p26 : 0 ≤ ((rd t451 x29_2) : Int) := zo
                  have q26 : ((rd t451 x29_2) : Int) < ((x5_2.length : Int) : Int) := zo
                  obtain ⟨hx26_0, hf26_0⟩ := Kd.R_celln false HO_5.out ((rd t451 x29_2) : Int) p26 q26
                  replace p26 := eq_true p26
                  replace q26 := eq_true q26
                  have HP27 := Kd.R_putg HO_5.out ((rd t451 x29_2) : Int) true
                  go_wp2_with (first | ((with_reducible refine gate_store (t := 4) (p := 45) rfl ?_); refine store_event (t := 4) (p := 45) (v := ?vo_w28) (w1 := (wr.setCell ⟨go8, ((rd t451 x29_2) : Int).toNat, none⟩ (.bool true))) ?hg ?ho ?hn ?hr ?_; (case ho => rfl); (case hg => rfl); (case hn => rfl); (case hr => exact xxa); intro w28 hw; have hg : wr.grownBy w28 (some go8) := (by rw [hw]; exact HP27.2); have hp_ : Kd.R Kd.bool 4 w28 w.heap.size (fun _ => True) (.slice (some ⟨go8, 0, none⟩) x5_2.length co8) y456 := (by rw [hw, Ny456.out]; exact HP27.1); clear HP27; have n0_ := zK (hp_); have n1_ := zK (Kd.R_over' (v := (.slice (some ⟨go8, 0, none⟩) x5_2.length co8)) (yR HO_27.out) (Kd.R_typed HO_5.out) yp1 hg); have n2_ := zK ((by rw [hw]; exact zD (HB.out) GB8.out : Below w.heap.size w w28)); clear HO_5; clear HO_27; clear HB; have HO_5 := n0_; have HO_27 := n1_; have HB := n2_; clear n0_ n1_ n2_; clear hg hw hp_))
                  (try simp only [← hl5_2])
                  go_roundg k2
                  case measure => have := HK1.out; have := HK2.out; omega
                  case rel => exact ⟨(y456), (wrap64 (x29_2 + 1)), ye, H', ⟨yx⟩, ⟨yr1⟩, ⟨by (try simp only [hl5_1]); (try simp only [hl5_2]); (with_reducible repeat (first | apply Kd.R_alloc | apply Kd.R_drewN | apply Kd.R_drew)); exact HO_27.out⟩, ⟨ya⟩⟩
                 ·replace c25 := Bool.eq_false_iff.mpr c25
                  subst c25
                  rw [if_neg (show ¬ (false = true) by decide)] at H
                  by_cases c29 : 0 ≤ x6_1
                  ·rw [if_pos c29] at H
                   have c29b0 : decide (0 ≤ x6_1) = true := decide_eq_true c29
                   clear c29
                   by_cases c30 : x6_1 < (x5_2.length : Int)
                   ·rw [if_pos c30] at H
                    have c30b0 : decide (x6_1 < (x5_2.length : Int)) = true := decide_eq_true c30
                    clear c30
                    obtain ⟨y458, hy458⟩ : ∃ y_ : List Bool, y_ = (x5_2.set ((rd t451 x29_2) : Int).toNat (rdOf false x5_2 x6_1)) := ⟨_, rfl⟩
                    replace H : (spec_exKeep.l1 k2 l0 a1 y458 x6_1 t451 (t451.length : Int) (wrap64 (x29_2 + 1))) = some r := by have hy_ := hy458; exact xH
                    have Ny458 := zK hy458
                    clear hy458
                    have H' := zK H
                    clear H
                    have p454 : 0 ≤ (x29_2 : Int) := zo
                    have q454 : x29_2 < (t451.length : Int) := zo
                    obtain ⟨ad454, e454, hx454_0⟩ := Kd.at_int (Kd.R_reads' HO_27.out).2.2 x29_2 p454 q454
                    cases e454
                    replace p454 := eq_true p454
                    replace q454 := eq_true q454
                    have p455 : 0 ≤ ((rd t451 x29_2) : Int) := zo
                    have q455 : (rd t451 x29_2) < (x5_2.length : Int) := zo
                    obtain ⟨ad455, e455, hx455_0⟩ := Kd.at_bool (Kd.R_reads' HO_5.out).2.2 (rd t451 x29_2) p455 q455
                    (try rw [← Nbq24.out] at hx455_0)
                    obtain rfl : (⟨go8, 0, none⟩ : Addr) = ad455 := (by injection e455)
                    (first | simp only [add_plain] at hx455_0 | simp only [add_at] at hx455_0 | simp only [Addr.add, Nat.zero_add] at hx455_0 | skip)
                    replace p455 := eq_true p455
                    replace q455 := eq_true q455
                    have p457 : 0 ≤ (x6_1 : Int) := zo
                    have q457 : x6_1 < (x5_2.length : Int) := zo
                    obtain ⟨ad457, e457, hx457_0⟩ := Kd.at_bool (Kd.R_reads' HO_5.out).2.2 x6_1 p457 q457
                    (try rw [← Nbq24.out] at hx457_0)
                    obtain rfl : (⟨go8, 0, none⟩ : Addr) = ad457 := (by injection e457)
                    (first | simp only [add_plain] at hx457_0 | simp only [add_at] at hx457_0 | simp only [Addr.add, Nat.zero_add] at hx457_0 | skip)
                    replace p457 := eq_true p457
                    replace q457 := eq_true q457
                    have p31 : 0 ≤ ((rd t451 x29_2) : Int) := zo
                    have q31 : ((rd t451 x29_2) : Int) < ((x5_2.length : Int) : Int) := zo
                    obtain ⟨hx31_0, hf31_0⟩ := Kd.R_celln false HO_5.out ((rd t451 x29_2) : Int) p31 q31
                    replace p31 := eq_true p31
                    replace q31 := eq_true q31
                    have HP32 := Kd.R_putg HO_5.out ((rd t451 x29_2) : Int) (rdOf false x5_2 x6_1)
                    go_wp2_with (first | ((with_reducible refine gate_store (t := 4) (p := 45) rfl ?_); refine store_event (t := 4) (p := 45) (v := ?vo_w33) (w1 := (wr.setCell ⟨go8, ((rd t451 x29_2) : Int).toNat, none⟩ (.bool (rdOf false x5_2 x6_1)))) ?hg ?ho ?hn ?hr ?_; (case ho => rfl); (case hg => rfl); (case hn => rfl); (case hr => exact xxa); intro w33 hw; have hg : wr.grownBy w33 (some go8) := (by rw [hw]; exact HP32.2); have hp_ : Kd.R Kd.bool 4 w33 w.heap.size (fun _ => True) (.slice (some ⟨go8, 0, none⟩) x5_2.length co8) y458 := (by rw [hw, Ny458.out]; exact HP32.1); clear HP32; have n0_ := zK (hp_); have n1_ := zK (Kd.R_over' (v := (.slice (some ⟨go8, 0, none⟩) x5_2.length co8)) (yR HO_27.out) (Kd.R_typed HO_5.out) yp1 hg); have n2_ := zK ((by rw [hw]; exact zD (HB.out) GB8.out : Below w.heap.size w w33)); clear HO_5; clear HO_27; clear HB; have HO_5 := n0_; have HO_27 := n1_; have HB := n2_; clear n0_ n1_ n2_; clear hg hw hp_))
                    (try simp only [← hl5_2])
                    go_roundg k2
                    case measure => have := HK1.out; have := HK2.out; omega
                    case rel => exact ⟨(y458), (wrap64 (x29_2 + 1)), ye, H', ⟨yx⟩, ⟨yr1⟩, ⟨by (try simp only [hl5_1]); (try simp only [hl5_2]); (with_reducible repeat (first | apply Kd.R_alloc | apply Kd.R_drewN | apply Kd.R_drew)); exact HO_27.out⟩, ⟨ya⟩⟩
                   ·rw [if_neg c30] at H
                    exact absurd H ye1
                  ·rw [if_neg c29] at H
                   exact absurd H ye1
                ·rw [if_neg c23] at H
                 exact absurd H ye1
               ·rw [if_neg c22] at H
                exact absurd H ye1
              ·rw [if_neg c21] at H
               exact absurd H ye1
             ·rw [if_neg c20] at H
              exact absurd H ye1
            ·rw [if_neg c19] at H
             have c19b0 : decide (x29_2 < (t451.length : Int)) = false := decide_eq_false c19
             (try simp only [hl5_1, hl5_2] at c19b0)
             clear c19
             have H' := zK H
             clear H
             go_wp2
             (try simp only [← hl5_1, ← hl5_2])
             go_roundg k2
             case measure => have := HK1.out; have := HK2.out; omega
             case rel => exact ⟨(x5_2), (wrap64 (x6_1 - 1)), ye, H', ⟨yx⟩, ⟨yr1⟩, ⟨ya⟩⟩
         ·rw [if_neg c15] at H
          exact absurd H ye1
        ·rw [if_neg c14] at H
         exact absurd H ye1
       ·rw [if_neg c13] at H
        have c13b0 : decide (0 ≤ x6_1) = false := decide_eq_false c13
        clear c13
        obtain ⟨ji34, hji34⟩ : ∃ j_ : Int, (wrap64 (a1 + 1)) = j_ := ⟨_, rfl⟩
        replace H : (if 0 ≤ (ji34) then (if (ji34 : Int).toNat ≤ 35184372088832 then (spec_exKeep.l2 k1 l0 a1 x5_1 (List.replicate (ji34 : Int).toNat 0) ([] : List (S47)) 0) else (none)) else (none)) = some r := by first | (rw [hji34] at H; exact H) | (simp only [hji34] at H ⊢; exact H)
        have hji34w : (IntKind.i64.wrap (a1 + 1)) = ji34 := (i64_w _).trans hji34
        try clear hji3 hji3w
        by_cases c35 : 0 ≤ (ji34)
        ·rw [if_pos c35] at H
         have c35b0 := eq_true c35
         have c35b1 : decide (0 ≤ (ji34)) = true := decide_eq_true c35
         clear c35
         by_cases c36 : (ji34 : Int).toNat ≤ 35184372088832
         ·rw [if_pos c36] at H
          have c36b0 := eq_true c36
          have c36b1 : decide ((ji34 : Int).toNat ≤ 35184372088832) = true := decide_eq_true c36
          clear c36
          obtain ⟨y459, hy459⟩ : ∃ y_ : List Int, y_ = (List.replicate (ji34 : Int).toNat 0) := ⟨_, rfl⟩
          replace H : (spec_exKeep.l2 k1 l0 a1 x5_1 y459 ([] : List (S47)) 0) = some r := by have hy_ := hy459; exact xH
          have Ny459 := zK hy459
          clear hy459
          have H' := zK H
          clear H
          go_wp2_with (first | ((with_reducible refine gate_dst (N := 49) rfl ?_); refine Kd.R_make (Kd.int .i64) _ 3 rfl (N := 49) rfl 31 _ _ rfl ji34 rfl rfl Try.underlying31 (.int .i64 0) 8 info3 rfl yp1 (by omega) 0 (ok := fun _ => True) (okp := fun _ => True) rfl (fun _ hk => hk) trivial (zo) (Nat.le_trans (Nat.mul_le_mul_right _ (zo : ji34.toNat ≤ 35184372088832)) (by omega)) (Below.refl _ _) (Nat.le_refl _) ?_; intro v460 w37 ho38 hb hg_ hnew_; clear hg_ hnew_; (first | rw [← Ny459.out] at ho38 | (simp only [Int.reduceToNat] at ho38; rw [← Ny459.out] at ho38)); have n0_ := zK (Kd.R_below yj hb); have n1_ := zK (Kd.R_lower ho38 (zN ya)); have n2_ := zK (zL ya hb); clear HO_5; clear HB; have HO_5 := n0_; have HO461 := n1_; have HB := n2_; clear n0_ n1_ n2_; clear hb ho38))
          go_loopg [10, 11] k1 (fun kq v10 v11 w' => ∃ (x9_2 : List Int) (x10_2 : List (S47)) (x11_2 : Int), v11 = .int .i64 x11_2 ∧ Aside0 (spec_exKeep.l2 kq l0 a1 x5_1 x9_2 x10_2 x11_2 = some r) ∧ Aside0 (kq ≤ k1) ∧ Aside0 (Kd.R Kd.bool 4 w' w.heap.size (fun _ => True) (.slice (some ⟨go8, 0, none⟩) x5_1.length co8) x5_1) ∧ Aside0 (Kd.R (Kd.int .i64) 3 w' w.heap.size (fun _ => True) v460 x9_2) ∧ Aside0 (Kd.R k47 47 w' w.heap.size (fun _ => True) v10 x10_2) ∧ Aside0 (Below w.heap.size w w'))
          case atStart => exact ⟨(y459), (([] : List (S47))), (0), ye, H', ⟨Nat.le_refl _⟩, ⟨yq1⟩, ⟨by (try simp only [hl5_1]); (with_reducible repeat (first | apply Kd.R_alloc | apply Kd.R_drewN | apply Kd.R_drew)); exact HO461.out⟩, ⟨by (try simp only [hl5_1]); first | exact Kd.R_nil _ _ _ _ _ | exact Kd.N_nil _ _ _ _ _ | exact Kd.V_nil _ _ _ _ _ | exact Kd.Q_nil _ _ _ _ _ | exact Kd.S_nil _ _ _ _ _⟩, ⟨ya⟩⟩
          case round =>
           clear H'
           try clear c1
           try clear c2
           try clear p2
           try clear q2
           try clear hx2
           try clear hf2
           try clear c3
           try clear p3
           try clear q3
           try clear hx3
           try clear hf3
           try clear c4
           try clear c4b0
           try clear c4b1
           try clear p4
           try clear q4
           try clear hx4
           try clear c5
           try clear c5b0
           try clear c5b1
           try clear c6
           try clear c6b0
           try clear p6
           try clear c7
           try clear c7b0
           try clear p8
           try clear q8
           try clear hx8
           try clear hf8
           try clear c10
           try clear c13
           try clear c13b0
           try clear c14
           try clear c14b0
           try clear c15
           try clear c15b0
           try clear c19
           try clear c19b0
           try clear c20
           try clear c20b0
           try clear c21
           try clear c21b0
           try clear c22
           try clear c22b0
           try clear c23
           try clear c23b0
           try clear q24
           try clear c25
           try clear p26
           try clear q26
           try clear hx26
           try clear hf26
           try clear c29
           try clear c29b0
           try clear c30
           try clear c30b0
           try clear p31
           try clear q31
           try clear hx31
           try clear hf31
           try clear c35
           try clear c35b0
           try clear c35b1
           try clear c36
           try clear c36b0
           try clear c36b1
           try clear hx26_0
           try clear hx31_0
           try clear hx450_0
           try clear hx450_1
           try clear hx450_2
           try clear hx450_3
           try clear hx454_0
           try clear hx455_0
           try clear hx457_0
           try clear hx8_0
           try clear p2
           try clear p26
           try clear p31
           try clear p4
           try clear p450
           try clear p454
           try clear p455
           try clear p457
           try clear p6
           try clear p8
           try clear q26
           try clear q31
           try clear q4
           try clear q450
           try clear q454
           try clear q455
           try clear q457
           try clear q8
           obtain ⟨x9_2, x10_2, x11_2, rfl, HA, HK2, HO_5, HO_9, HO_10, HB⟩ := hrel
           cases gk with
           | zero => exact absurd HA.out (by simp [spec_exKeep.l2])
           | succ k2 =>
            have H := HA.out
            clear HA
            simp only [spec_exKeep.l2] at H
            by_cases c39 : x11_2 ≤ a1
            ·rw [if_pos c39] at H
             have c39b0 : decide (x11_2 ≤ a1) = true := decide_eq_true c39
             clear c39
             by_cases c40 : 0 ≤ x11_2
             ·rw [if_pos c40] at H
              have c40b0 : decide (0 ≤ x11_2) = true := decide_eq_true c40
              clear c40
              by_cases c41 : x11_2 < (x5_1.length : Int)
              ·rw [if_pos c41] at H
               have c41b0 : decide (x11_2 < (x5_1.length : Int)) = true := decide_eq_true c41
               clear c41
               obtain ⟨bq42, hbq42⟩ : ∃ b_ : Bool, b_ = (rdOf false x5_1 x11_2) := ⟨_, rfl⟩
               replace H : (if bq42 = true then (if x11_2 < (x9_2.length : Int) then ((some (x9_2.set (x11_2 : Int).toNat (x10_2.length : Int) : List Int)).bind fun y463 => (if x11_2 < (l0.length : Int) then ((spec_exMoved.f k2 ((rd_T47 l0 x11_2).f0) ((rd_T47 l0 x11_2).f1) ((rd_T47 l0 x11_2).f2) ((rd_T47 l0 x11_2).f3) y463).bind fun bt465 => (if x10_2.length < 3518437208883 then (spec_exKeep.l2 k2 l0 a1 x5_1 y463 (x10_2 ++ [(⟨bt465.1, bt465.2.1, bt465.2.2.1, bt465.2.2.2⟩ : S47)]) (wrap64 (x11_2 + 1))) else (none))) else (none))) else (none)) else (spec_exKeep.l2 k2 l0 a1 x5_1 x9_2 x10_2 (wrap64 (x11_2 + 1)))) = some r := by rw [← hbq42] at H; exact H
               have Nbq42 := zK hbq42
               clear hbq42
               by_cases c43 : bq42 = true
               ·subst c43
                rw [if_pos rfl] at H
                by_cases c44 : x11_2 < (x9_2.length : Int)
                ·rw [if_pos c44] at H
                 have c44b0 : decide (x11_2 < (x9_2.length : Int)) = true := decide_eq_true c44
                 clear c44
                 obtain ⟨y463, hy463⟩ : ∃ y_ : List Int, y_ = (x9_2.set (x11_2 : Int).toNat (x10_2.length : Int)) := ⟨_, rfl⟩
                 replace H : (if x11_2 < (l0.length : Int) then ((spec_exMoved.f k2 ((rd_T47 l0 x11_2).f0) ((rd_T47 l0 x11_2).f1) ((rd_T47 l0 x11_2).f2) ((rd_T47 l0 x11_2).f3) y463).bind fun bt465 => (if x10_2.length < 3518437208883 then (spec_exKeep.l2 k2 l0 a1 x5_1 y463 (x10_2 ++ [(⟨bt465.1, bt465.2.1, bt465.2.2.1, bt465.2.2.2⟩ : S47)]) (wrap64 (x11_2 + 1))) else (none))) else (none)) = some r := by have hy_ := hy463; exact xH
                 have Ny463 := zK hy463
                 clear hy463
                 by_cases c46 : x11_2 < (l0.length : Int)
                 ·rw [if_pos c46] at H
                  have c46b0 : decide (x11_2 < (l0.length : Int)) = true := decide_eq_true c46
                  clear c46
                  replace H := Option.bind_eq_some_iff.mp H
                  obtain ⟨⟨t465, t466, t467, t468⟩, A470, H⟩ := H
                  replace H : (if x10_2.length < 3518437208883 then (spec_exKeep.l2 k2 l0 a1 x5_1 y463 (x10_2 ++ [(⟨t465, t466, t467, t468⟩ : S47)]) (wrap64 (x11_2 + 1))) else (none)) = some r := H
                  have A47 := zK A470
                  clear A470
                  by_cases c48 : x10_2.length < 3518437208883
                  ·rw [if_pos c48] at H
                   have LMc48 := zK c48
                   clear c48
                   obtain ⟨y469, hy469⟩ : ∃ y_ : List (S47), y_ = (x10_2 ++ [(⟨t465, t466, t467, t468⟩ : S47)]) := ⟨_, rfl⟩
                   replace H : (spec_exKeep.l2 k2 l0 a1 x5_1 y463 y469 (wrap64 (x11_2 + 1))) = some r := by have hy_ := hy469; exact xH
                   have Ny469 := zK hy469
                   clear hy469
                   have H' := zK H
                   clear H
                   have p462 : 0 ≤ (x11_2 : Int) := zo
                   have q462 : x11_2 < (x5_1.length : Int) := zo
                   obtain ⟨ad462, e462, hx462_0⟩ := Kd.at_bool (Kd.R_reads' HO_5.out).2.2 x11_2 p462 q462
                   (try rw [← Nbq42.out] at hx462_0)
                   obtain rfl : (⟨go8, 0, none⟩ : Addr) = ad462 := (by injection e462)
                   (first | simp only [add_plain] at hx462_0 | simp only [add_at] at hx462_0 | simp only [Addr.add, Nat.zero_add] at hx462_0 | skip)
                   replace p462 := eq_true p462
                   replace q462 := eq_true q462
                   obtain ⟨Ao49, co49, eo49⟩ := Kd.R_slice HO_10.out
                   subst eo49
                   have p45 : 0 ≤ (x11_2 : Int) := zo
                   have q45 : (x11_2 : Int) < ((x9_2.length : Int) : Int) := zo
                   obtain ⟨go45, co45, eo45, gb45, gl45, cl45, HG45⟩ := Kd.R_form HO_9.out (by omega)
                   (first | cases eo45 | (injection eo45 with ea_ en_ ec_; (first | subst ea_ | (injection ea_ with ea_; subst ea_)); subst ec_; clear en_))
                   have GB45 := zK gb45
                   have GG45 := zK HG45
                   clear gb45 gl45 HG45
                   obtain ⟨hx45_0, hf45_0⟩ := Kd.R_celln 0 HO_9.out (x11_2 : Int) p45 q45
                   replace p45 := eq_true p45
                   replace q45 := eq_true q45
                   have HP50 := Kd.R_putg HO_9.out (x11_2 : Int) (x10_2.length : Int)
                   go_wp2_with (first | ((with_reducible refine gate_store (t := 3) (p := 63) rfl ?_); refine store_event (t := 3) (p := 63) (v := ?vo_w51) (w1 := (wr.setCell ⟨go45, (x11_2 : Int).toNat, none⟩ (.int .i64 (x10_2.length : Int)))) ?hg ?ho ?hn ?hr ?_; (case ho => rfl); (case hg => rfl); (case hn => rfl); (case hr => exact xxa); intro w51 hw; have hg : wr.grownBy w51 (some go45) := (by rw [hw]; exact HP50.2); have hp_ : Kd.R (Kd.int .i64) 3 w51 w.heap.size (fun _ => True) (.slice (some ⟨go45, 0, none⟩) x9_2.length co45) y463 := (by rw [hw, Ny463.out]; exact HP50.1); clear HP50; have n0_ := zK (Kd.R_over' (v := (.slice (some ⟨go45, 0, none⟩) x9_2.length co45)) yj (Kd.R_typed HO_9.out) yp1 hg); have n1_ := zK (hp_); have n2_ := zK (Kd.R_over' (v := (.slice (some ⟨go45, 0, none⟩) x9_2.length co45)) yg1 (Kd.R_typed HO_9.out) yp1 hg); have n3_ := zK ((by rw [hw]; exact zD (HB.out) GB45.out : Below w.heap.size w w51)); clear HO_5; clear HO_9; clear HO_10; clear HB; have HO_5 := n0_; have HO_9 := n1_; have HO_10 := n2_; have HB := n3_; clear n0_ n1_ n2_ n3_; clear hg hw hp_; have p464 : 0 ≤ (x11_2 : Int) := zo; have q464 : x11_2 < (l0.length : Int) := zo; obtain ⟨ad464, e464, hx464_0, hx464_1, hx464_2, hx464_3⟩ := at_T47 HR0.out x11_2 p464 q464; cases e464; replace hx464_0 := zt HB.out hx464_0; replace hx464_1 := zt HB.out hx464_1; replace hx464_2 := zt HB.out hx464_2; replace hx464_3 := zt HB.out hx464_3; replace p464 := eq_true p464; replace q464 := eq_true q464) | ((with_reducible refine gate_callee (f := 62) rfl ?_); refine goesL_ (some 70) rfl rfl Try.func62 yi rfl #[.agg #[.string ((rd_T47 l0 x11_2).f0), .int .i64 ((rd_T47 l0 x11_2).f1), .int .i64 ((rd_T47 l0 x11_2).f2), .int .i64 ((rd_T47 l0 x11_2).f3)], .slice (some ⟨go45, 0, none⟩) y463.length co45] rfl (by (try simp only [z6, z7, z8]); first | done | (rw [show y463.length = x9_2.length from (Kd.R_reads' HO_9.out).1.symm] <;> rfl) | rfl | (simp only [z4, z5]; rfl)) ?_; (with_reducible refine (spec_exMoved.calls k2 ((rd_T47 l0 x11_2).f0) ((rd_T47 l0 x11_2).f1) ((rd_T47 l0 x11_2).f2) ((rd_T47 l0 x11_2).f3) _ _ y463 t465 t466 t467 t468 _ ?side1 ?side2 A47.out).mono ?_); (case side1 => repeat (first | exact (Kd.R_reads' HO_9.out).2.2 | (with_reducible refine Kd.C_alloc ?_ _) | (with_reducible refine Kd.C_drewN ?_ _) | (with_reducible refine Kd.C_drew ?_))); (case side2 => rw [show y463.length = x9_2.length from (Kd.R_reads' HO_9.out).1.symm]; exact (Kd.R_reads' HO_9.out).2.1); rintro e w52 ⟨rfl, hb⟩; refine ⟨_, rfl, ?_⟩; have n0_ := zK (Kd.R_below yj hb); have n1_ := zK (Kd.R_below yh1 hb); have n2_ := zK (Kd.R_below yg1 hb); have n3_ := zK (zL ya hb); clear HO_5; clear HO_9; clear HO_10; clear HB; have HO_5 := n0_; have HO_9 := n1_; have HO_10 := n2_; have HB := n3_; clear n0_ n1_ n2_ n3_; (try clear hb); (try clear hb2); (try clear hk); (try clear hi)) | ((with_reducible refine gate_builtin (b := .append) (xs := #[.tmp 64, .tmp 71]) rfl ?_); at_builtin; refine Kd.R_append k47 (w0 := w) w.heap.size rfl (.tmp 64) (.tmp 71) 24 47 (.agg #[(.string ⟨#[]⟩), (.int .i64 0), (.int .i64 0), (.int .i64 0)]) 40 rfl Try.underlying24 info47 rfl yp1 (by omega) (.slice Ao49 x10_2.length co49) x10_2 (⟨t465, t466, t467, t468⟩ : S47) [.string t465, .int .i64 t466, .int .i64 t467, .int .i64 t468] (fun _ => True) (fun _ => False) rfl rfl ?aP (fun _ hk => hk.elim) ?aF ?aO ?aB ?aS ?aL ?_; (case aP => exact k47_mkM _ _ _ (⟨t465, t466, t467, t468⟩ : S47)); (case aB => exact ya); (case aF => exact (fun _ _ => trivial)); (case aO => exact yg1); (case aS => exact (zN ya)); (case aL => have := LMc48.out; omega); intro v470 w53 ho hb hg hat; rw [← Ny469.out] at ho; have n0_ := zK (Kd.R_over' yj (Kd.R_typed yg1) yp1 hg); have n1_ := zK (Kd.R_over' yh1 (Kd.R_typed yg1) yp1 hg); have n2_ := zK (hb); have n3_ := zK (ho); clear HO_5; clear HO_9; clear HB; clear HO_10; have HO_5 := n0_; have HO_9 := n1_; have HB := n2_; have HO471 := n3_; clear n0_ n1_ n2_ n3_; clear ho hb hg hat))
                   go_roundg k2
                   case measure => have := HK1.out; have := HK2.out; omega
                   case rel => exact ⟨(y463), (y469), (wrap64 (x11_2 + 1)), ye, H', ⟨yx⟩, ⟨yq1⟩, ⟨by (try simp only [hl5_1]); (with_reducible repeat (first | apply Kd.R_alloc | apply Kd.R_drewN | apply Kd.R_drew)); exact HO_9.out⟩, ⟨by (try simp only [hl5_1]); (with_reducible repeat (first | apply Kd.R_alloc | apply Kd.R_drewN | apply Kd.R_drew)); exact HO471.out⟩, ⟨ya⟩⟩
                  ·rw [if_neg c48] at H
                   exact absurd H ye1
                 ·rw [if_neg c46] at H
                  exact absurd H ye1
                ·rw [if_neg c44] at H
                 exact absurd H ye1
               ·replace c43 := Bool.eq_false_iff.mpr c43
                subst c43
                rw [if_neg (show ¬ (false = true) by decide)] at H
                have H' := zK H
                clear H
                have p462 : 0 ≤ (x11_2 : Int) := zo
                have q462 : x11_2 < (x5_1.length : Int) := zo
                obtain ⟨ad462, e462, hx462_0⟩ := Kd.at_bool (Kd.R_reads' HO_5.out).2.2 x11_2 p462 q462
                (try rw [← Nbq42.out] at hx462_0)
                obtain rfl : (⟨go8, 0, none⟩ : Addr) = ad462 := (by injection e462)
                (first | simp only [add_plain] at hx462_0 | simp only [add_at] at hx462_0 | simp only [Addr.add, Nat.zero_add] at hx462_0 | skip)
                replace p462 := eq_true p462
                replace q462 := eq_true q462
                go_wp2
                go_roundg k2
                case measure => have := HK1.out; have := HK2.out; omega
                case rel => exact ⟨(x9_2), (x10_2), (wrap64 (x11_2 + 1)), ye, H', ⟨yx⟩, ⟨yq1⟩, ⟨by (try simp only [hl5_1]); (with_reducible repeat (first | apply Kd.R_alloc | apply Kd.R_drewN | apply Kd.R_drew)); exact HO_9.out⟩, ⟨by (try simp only [hl5_1]); (with_reducible repeat (first | apply Kd.R_alloc | apply Kd.R_drewN | apply Kd.R_drew)); exact HO_10.out⟩, ⟨ya⟩⟩
              ·rw [if_neg c41] at H
               exact absurd H ye1
             ·rw [if_neg c40] at H
              exact absurd H ye1
            ·rw [if_neg c39] at H
             have c39b0 : decide (x11_2 ≤ a1) = false := decide_eq_false c39
             clear c39
             obtain rfl := Option.some.inj H
             go_wp2
             go_ret
             exact ⟨_, by first | rfl | (simp [errW_none, errW_some] <;> rfl) | (simp only [← hji3, ← hji34]; first | rfl | (simp [errW_none, errW_some] <;> rfl)) | (simp [*, errW_none, errW_some] <;> rfl), yg1, ya⟩
         ·rw [if_neg c36] at H
          exact absurd H ye1
        ·rw [if_neg c35] at H
         exact absurd H ye1
    ·rw [if_neg c7] at H
     exact absurd H ye1
   ·rw [if_neg c6] at H
    exact absurd H ye1
  ·rw [if_neg c5] at H
   exact absurd H ye1
 ·rw [if_neg c4] at H
  exact absurd H ye1

/-! ### spec_exFold: function 95 -/
mutual
def spec_exFold.l0 : Nat → List (S47) → Int → Int → Option ((List (S47)))
 | 0, _, _, _ => none
 | k + 1, x3, x15, x16 => if x16 < x15 then (if 0 ≤ x16 then (if x16 < (x3.length : Int) then ((spec_exParts.f k ((rd_T47 x3 x16).f0) ((rd_T47 x3 x16).f1) ((rd_T47 x3 x16).f2) ((rd_T47 x3 x16).f3)).bind fun t483 => (spec_exFold.l1 k x3 x16 t483 (decide ((t483.length : Int) > 0)) x15 x16 t483 (t483.length : Int) 0 ((rd_T47 x3 x16).f0) ((rd_T47 x3 x16).f1) ((rd_T47 x3 x16).f2) ((rd_T47 x3 x16).f3))) else (none)) else (none)) else ((spec_exKeep.f k x3 (wrap64 ((x3.length : Int) - 1))).bind fun t478 => (some t478))
def spec_exFold.l1 : Nat → List (S47) → Int → List Int → Bool → Int → Int → List Int → Int → Int → ByteArray → Int → Int → Int → Option ((List (S47)))
 | 0, _, _, _, _, _, _, _, _, _, _, _, _, _ => none
 | k + 1, x3, x4, x6, x7, x15, x16, x26, x27, x28, x483000, x483001, x483002, x483003 => if x28 < x27 then (if 0 ≤ x28 then (if x28 < (x26.length : Int) then (if x7 = true then (if 0 ≤ (rd x26 x28) then (if (rd x26 x28) < (x3.length : Int) then (spec_exFold.l1 k x3 x4 x6 (((rd_T47 x3 (rd x26 x28)).f0).toList == ([99, 111, 110, 115, 116] : List UInt8)) x15 x16 x26 x27 (wrap64 (x28 + 1)) x483000 x483001 x483002 x483003) else (none)) else (none)) else (spec_exFold.l1 k x3 x4 x6 false x15 x16 x26 x27 (wrap64 (x28 + 1)) x483000 x483001 x483002 x483003)) else (none)) else (none)) else (if x7 = true then (if (x6.length : Int) > 1 then (if 0 ≤ x483002 then (if x483002 < (x3.length : Int) then (if 0 ≤ x483001 then (if x483001 < (x3.length : Int) then ((spec_exApply.f x483000 ((rd_T47 x3 x483001).f3) ((rd_T47 x3 x483002).f3)).bind fun t490 => (if 0 ≤ x4 then (if x4 < (x3.length : Int) then (spec_exFold.l0 k (x3.set (x4 : Int).toNat (⟨(⟨#[99, 111, 110, 115, 116]⟩ : ByteArray), 0, 0, t490⟩ : S47)) x15 (wrap64 (x16 + 1))) else (none)) else (none))) else (none)) else (none)) else (none)) else (none)) else (if 0 ≤ x483001 then (if x483001 < (x3.length : Int) then ((spec_exApply.f x483000 ((rd_T47 x3 x483001).f3) 0).bind fun t493 => (if 0 ≤ x4 then (if x4 < (x3.length : Int) then (spec_exFold.l0 k (x3.set (x4 : Int).toNat (⟨(⟨#[99, 111, 110, 115, 116]⟩ : ByteArray), 0, 0, t493⟩ : S47)) x15 (wrap64 (x16 + 1))) else (none)) else (none))) else (none)) else (none))) else (spec_exFold.l0 k x3 x15 (wrap64 (x16 + 1))))
end
def spec_exFold.f (k : Nat) (l0 : List (S47)) : Option ((List (S47))) := (some (([] : List (S47)) : List (S47))).bind fun y472 => (if y472.length + l0.length < 3518437208883 then ((some (y472 ++ l0 : List (S47))).bind fun y475 => (spec_exFold.l0 k y475 (y475.length : Int) 0)) else (none))
def spec_exFold.T16 : Bool × List (List Nat × List Nat) := (true, [([], []), ([], []), ([], []), ([2], [2]), ([], []), ([], []), ([5], [5]), ([4, 6], [4, 6]), ([7], [7]), ([8], [8]), ([], []), ([3, 9, 10], [3, 9, 10]), ([11], [11]), ([0, 1, 0, 1, 2, 3, 4, 5, 6, 7, 8, 9, 10, 11, 12], [0, 1]), ([13, 12, 11, 0, 1, 2, 3, 4, 5, 6, 7, 8, 9, 10, 11, 12], [12, 13])])
def spec_exFold.B16 : List Nat := [0, 0, 0, 4, 0, 0, 32, 112, 240, 496, 0, 2044, 4092, 8191, 16383]
theorem spec_exFold.tab16 : rtab .any (opsOf Try.f95 16) = spec_exFold.T16 := by kernel_rfl
theorem spec_exFold.bits16 : waitsOk spec_exFold.T16.2 spec_exFold.B16 = true := by kernel_rfl
set_option maxHeartbeats 8000000 in
set_option maxRecDepth 100000 in
theorem spec_exFold.calls (k : Nat) (A0 : Option Addr) (c0 : Nat) (l0 : List (S47)) (r : List (S47)) (w : World) (hr0 : Kd.C k47 w A0 l0.length l0) (hc0 : l0.length ≤ c0) (h : spec_exFold.f k l0 = some r) :
  Calls Try.prog 95 #[.slice A0 l0.length c0] w fun e w' => ∃ v0_ : Value, e = .returned (v0_) ∧ Kd.R k47 47 w' w.heap.size (fun _ => True) v0_ r ∧ Below w.heap.size w w' := by
 have hu47 := Try.underlying47
 have HR0 := zK hr0
 have HC0 := zK hc0
 clear hr0 hc0
 have HB := zK (Below.refl w.heap.size w)
 have H : ((some (([] : List (S47)) : List (S47))).bind fun y472 => (if y472.length + l0.length < 3518437208883 then ((some (y472 ++ l0 : List (S47))).bind fun y475 => (spec_exFold.l0 k y475 (y475.length : Int) 0)) else (none))) = some r := h
 clear h
 obtain ⟨y472, hy472⟩ : ∃ y_ : List (S47), y_ = (([] : List (S47))) := ⟨_, rfl⟩
 replace H : (if y472.length + l0.length < 3518437208883 then ((some (y472 ++ l0 : List (S47))).bind fun y475 => (spec_exFold.l0 k y475 (y475.length : Int) 0)) else (none)) = some r := by have hy_ := hy472; exact xH
 have Ny472 := zK hy472
 clear hy472
 by_cases c2 : y472.length + l0.length < 3518437208883
 ·rw [if_pos c2] at H
  have LMc2 := zK c2
  clear c2
  obtain ⟨y475, hy475⟩ : ∃ y_ : List (S47), y_ = (y472 ++ l0) := ⟨_, rfl⟩
  replace H : (spec_exFold.l0 k y475 (y475.length : Int) 0) = some r := by have hy_ := hy475; exact xH
  have Ny475 := zK hy475
  clear hy475
  have H' := zK H
  clear H
  go_enter Try.func95, Try.ntmps95
  go_wp2_with (first | ((with_reducible refine gate_dst (N := 11) rfl ?_); refine Kd.R_lit k47 _ 47 ?hg (N := 11) ?hd (xs := ([] : List (S47))) (inner := []) (ok := fun _ => True) (okp := fun _ => True) ?hr ?hp (fun _ hk => hk) trivial (Below.refl _ _) (Nat.le_refl _) ye1 ?_; (case hd | hg => rfl); (case hr => exact xxa); (case hp => exact (Reps.none _ _)); intro v473 w3 ho4 hb hg_ hnew_; clear hg_ hnew_; (first | rw [← Ny472.out] at ho4 | (simp only [Int.reduceToNat] at ho4; rw [← Ny472.out] at ho4)); have n0_ := zK (Kd.R_lower ho4 (zN ya)); have n1_ := zK (zL ya hb); clear HB; have HO474 := n0_; have HB := n1_; clear n0_ n1_; clear hb ho4) | ((with_reducible refine gate_builtin (b := .append) (xs := #[.tmp 11, .tmp 12]) rfl ?_); at_builtin; refine Kd.R_append_rows k47 (w0 := w) w.heap.size rfl (.tmp 11) (.tmp 12) 24 47 (.agg #[(.string ⟨#[]⟩), (.int .i64 0), (.int .i64 0), (.int .i64 0)]) 40 rfl Try.underlying24 info47 rfl yp1 (by omega) v473 y472 l0 _ _ _ (fun _ => True) (fun _ => False) rfl rfl ?aO ?aR (fun _ _ h => h) (fun _ h => h.elim) ?aF ?aB ?aS ?aL ?_; (case aR => exact xxd); (case aB => exact ya); (case aF => exact (fun _ _ => trivial)); (case aO => exact (yR HO474.out)); (case aS => exact (zN ya)); (case aL => have := LMc2.out; omega); intro v476 w5 ho hb hg hat; rw [← Ny475.out] at ho; have n0_ := zK (hb); have n1_ := zK (ho); clear HB; clear HO474; have HB := n0_; have HO477 := n1_; clear n0_ n1_; clear ho hb hg hat; obtain ⟨Ao6, co6, eo6⟩ := Kd.R_slice HO477.out; subst eo6))
  go_loopg [16] k (fun kq v16 w' => ∃ (x3_1 : List (S47)) (x16_1 : Int), v16 = .int .i64 x16_1 ∧ Aside0 (spec_exFold.l0 kq x3_1 (y475.length : Int) x16_1 = some r) ∧ Aside0 (kq ≤ k) ∧ Aside0 (Kd.R k47 47 w' w.heap.size (fun _ => True) (.slice Ao6 y475.length co6) x3_1) ∧ Aside0 (Below w.heap.size w w'))
  case atStart => exact ⟨(y475), (0), ye, H', ⟨Nat.le_refl _⟩, ⟨yR HO477.out⟩, ⟨ya⟩⟩
  case round =>
   clear H'
   try clear c2
   try clear p2
   obtain ⟨x3_1, x16_1, rfl, HA, HK1, HO_3, HB⟩ := hrel
   have hl3_1 := (Kd.R_reads' HO_3.out).1
   rw [hl3_1] at HO_3
   (try simp only [hl3_1])
   cases gk with
   | zero => exact absurd HA.out (by simp [spec_exFold.l0])
   | succ k1 =>
    have H := HA.out
    clear HA
    simp only [spec_exFold.l0] at H
    by_cases c7 : x16_1 < (y475.length : Int)
    ·rw [if_pos c7] at H
     have c7b0 : decide (x16_1 < (y475.length : Int)) = true := decide_eq_true c7
     clear c7
     by_cases c8 : 0 ≤ x16_1
     ·rw [if_pos c8] at H
      have c8b0 : decide (0 ≤ x16_1) = true := decide_eq_true c8
      clear c8
      by_cases c9 : x16_1 < (x3_1.length : Int)
      ·rw [if_pos c9] at H
       have c9b0 : decide (x16_1 < (x3_1.length : Int)) = true := decide_eq_true c9
       clear c9
       replace H := Option.bind_eq_some_iff.mp H
       obtain ⟨t483, A100, H⟩ := H
       replace H : (spec_exFold.l1 k1 x3_1 x16_1 t483 (decide ((t483.length : Int) > 0)) (y475.length : Int) x16_1 t483 (t483.length : Int) 0 ((rd_T47 x3_1 x16_1).f0) ((rd_T47 x3_1 x16_1).f1) ((rd_T47 x3_1 x16_1).f2) ((rd_T47 x3_1 x16_1).f3)) = some r := H
       have A10 := zK A100
       clear A100
       have H' := zK H
       clear H
       have p481 : 0 ≤ (x16_1 : Int) := zo
       have q481 : x16_1 < (x3_1.length : Int) := zo
       obtain ⟨ad481, e481, hx481_0, hx481_1, hx481_2, hx481_3⟩ := at_T47 (Kd.R_reads' HO_3.out).2.2 x16_1 p481 q481
       cases e481
       replace p481 := eq_true p481
       replace q481 := eq_true q481
       go_wp2_with (first | ((with_reducible refine gate_dst (N := 5) rfl ?_); refine box_event ?hg (N := 5) ?hd (cs := #[.string (⟨#[]⟩ : ByteArray), .int .i64 0, .int .i64 0, .int .i64 0]) (t := 47) ?hr ?_; (case hd | hg => rfl); (case hr => exact xxa); intro gb482 hg w11 hbox hb; have n0_ := zK (Kd.R_below (Kd.R_elderB yn gb482 (Nat.le_of_eq hg.symm)) hb); have n1_ := zK (zL ya hb); have n2_ := zK (hbox); have n3_ := zK ((by rw [hg]; exact (zN ya) : w.heap.size ≤ gb482)); have n4_ := n3_; clear HO_3; clear HB; have HO_3 := n0_; have HB := n1_; have BK482 := n2_; have GW482 := n3_; have GE482 := n4_; clear n0_ n1_ n2_ n3_ n4_; clear hb hbox hg; have hcz12_0 : w11.cell? ⟨gb482, 0, none⟩ = some (.string (⟨#[]⟩ : ByteArray)) := (zI BK482.out 0).trans rfl; have hcz12_1 : w11.cell? ⟨gb482, 1, none⟩ = some (.int .i64 0) := (zI BK482.out 1).trans rfl; have hcz12_2 : w11.cell? ⟨gb482, 2, none⟩ = some (.int .i64 0) := (zI BK482.out 2).trans rfl; have hcz12_3 : w11.cell? ⟨gb482, 3, none⟩ = some (.int .i64 0) := (zI BK482.out 3).trans rfl; have hfz12_0 := zH BK482.out 0; have hfz12_1 := zH BK482.out 1; have hfz12_2 := zH BK482.out 2; have hfz12_3 := zH BK482.out 3) | ((with_reducible refine gate_callee (f := 101) rfl ?_); refine goesL_ (some 22) rfl rfl Try.func101 yi rfl #[.agg #[.string ((rd_T47 x3_1 x16_1).f0), .int .i64 ((rd_T47 x3_1 x16_1).f1), .int .i64 ((rd_T47 x3_1 x16_1).f2), .int .i64 ((rd_T47 x3_1 x16_1).f3)]] rfl yb ?_; (with_reducible refine (spec_exParts.calls k1 ((rd_T47 x3_1 x16_1).f0) ((rd_T47 x3_1 x16_1).f1) ((rd_T47 x3_1 x16_1).f2) ((rd_T47 x3_1 x16_1).f3) t483 _ A10.out).mono ?_); rintro e w13 ⟨v484, rfl, ho0, hb⟩; refine ⟨_, rfl, ?_⟩; have n0_ := zK (Kd.R_below (by (with_reducible repeat (first | apply Kd.R_alloc | apply Kd.R_drewN | apply Kd.R_drew)); exact (Kd.R_mono (Kd.R_far (p := ⟨gb482, 3, none⟩) (Kd.R_far (p := ⟨gb482, 2, none⟩) (Kd.R_far (p := ⟨gb482, 1, none⟩) (Kd.R_far (p := ⟨gb482, 0, none⟩) (Kd.R_mono HO_3.out (fun k_ hk => (⟨hk, hk.2⟩ : _ ∧ k_ ≠ gb482))) (fun _ hk => hk.2) (.string ((rd_T47 x3_1 x16_1).f0))) (fun _ hk => hk.2) (.int .i64 ((rd_T47 x3_1 x16_1).f1))) (fun _ hk => hk.2) (.int .i64 ((rd_T47 x3_1 x16_1).f2))) (fun _ hk => hk.2) (.int .i64 ((rd_T47 x3_1 x16_1).f3))) (fun _ h_ => h_.1))) hb); have n1_ := zK (Kd.R_lower ho0 (zN yy1)); have n2_ := zK (zM (g := gb482) (o := .cells #[.string ((rd_T47 x3_1 x16_1).f0), .int .i64 ((rd_T47 x3_1 x16_1).f1), .int .i64 ((rd_T47 x3_1 x16_1).f2), .int .i64 ((rd_T47 x3_1 x16_1).f3)] 47 (0, 0)) (by (with_reducible repeat (first | refine zE ?_ _ | refine zF ?_ | refine zG ?_ _)); refine blk_put (cs := #[.string ((rd_T47 x3_1 x16_1).f0), .int .i64 ((rd_T47 x3_1 x16_1).f1), .int .i64 ((rd_T47 x3_1 x16_1).f2), .int .i64 0]) ?_ 3 _ rfl; (with_reducible repeat (first | refine zE ?_ _ | refine zF ?_ | refine zG ?_ _)); refine blk_put (cs := #[.string ((rd_T47 x3_1 x16_1).f0), .int .i64 ((rd_T47 x3_1 x16_1).f1), .int .i64 0, .int .i64 0]) ?_ 2 _ rfl; (with_reducible repeat (first | refine zE ?_ _ | refine zF ?_ | refine zG ?_ _)); refine blk_put (cs := #[.string ((rd_T47 x3_1 x16_1).f0), .int .i64 0, .int .i64 0, .int .i64 0]) ?_ 1 _ rfl; (with_reducible repeat (first | refine zE ?_ _ | refine zF ?_ | refine zG ?_ _)); refine blk_put (cs := #[.string (⟨#[]⟩ : ByteArray), .int .i64 0, .int .i64 0, .int .i64 0]) ?_ 0 _ rfl; (with_reducible repeat (first | refine zE ?_ _ | refine zF ?_ | refine zG ?_ _)); exact BK482.out) hb); have n3_ := zK (zL yy1 hb); clear HO_3; clear BK482; clear HB; have HO_3 := n0_; have HO485 := n1_; have BK482 := n2_; have HB := n3_; clear n0_ n1_ n2_ n3_; (try clear hb); (try clear hb2); (try clear hk); (try clear hi); (try clear ho0); obtain ⟨Ao14, co14, eo14⟩ := Kd.R_slice HO485.out; subst eo14))
       go_loopg [7, 28] k1 (fun kq v7 v28 w' => ∃ (x7_2 : Bool) (x28_2 : Int), v7 = .bool x7_2 ∧ v28 = .int .i64 x28_2 ∧ Aside0 (spec_exFold.l1 kq x3_1 x16_1 t483 x7_2 (y475.length : Int) x16_1 t483 (t483.length : Int) x28_2 ((rd_T47 x3_1 x16_1).f0) ((rd_T47 x3_1 x16_1).f1) ((rd_T47 x3_1 x16_1).f2) ((rd_T47 x3_1 x16_1).f3) = some r) ∧ Aside0 (kq ≤ k1) ∧ Aside0 (Kd.R k47 47 w' w.heap.size (fun k_ => k_ ≠ gb482) (.slice (some ad481) x3_1.length co6) x3_1) ∧ Aside0 (Kd.R (Kd.int .i64) 3 w' w.heap.size (fun _ => True) (.slice Ao14 t483.length co14) t483) ∧ Aside0 (Kd.R (Kd.int .i64) 3 w' w.heap.size (fun _ => True) (.slice Ao14 t483.length co14) t483) ∧ Aside0 (w'.heap[gb482]? = some (.cells #[.string ((rd_T47 x3_1 x16_1).f0), .int .i64 ((rd_T47 x3_1 x16_1).f1), .int .i64 ((rd_T47 x3_1 x16_1).f2), .int .i64 ((rd_T47 x3_1 x16_1).f3)] 47 (0, 0))) ∧ Aside0 (Below w.heap.size w w'))
       case atStart => exact ⟨(decide ((t483.length : Int) > 0)), (0), ye, ye, H', ⟨Nat.le_refl _⟩, ⟨by (try simp only [hl3_1]); (with_reducible repeat (first | apply Kd.R_alloc | apply Kd.R_drewN | apply Kd.R_drew)); exact Kd.R_mono HO_3.out (fun _ hk => hk.2)⟩, ⟨by (try simp only [hl3_1]); (with_reducible repeat (first | apply Kd.R_alloc | apply Kd.R_drewN | apply Kd.R_drew)); exact HO485.out⟩, ⟨by (try simp only [hl3_1]); (with_reducible repeat (first | apply Kd.R_alloc | apply Kd.R_drewN | apply Kd.R_drew)); exact HO485.out⟩, ⟨by (try simp only [hl3_1]); (with_reducible repeat (first | refine zE ?_ _ | refine zF ?_ | refine zG ?_ _)); exact BK482.out⟩, ⟨yy1⟩⟩
       case round =>
        clear H'
        try clear c1
        try clear c2
        try clear p2
        try clear p4
        try clear q4
        try clear hx4
        try clear c7
        try clear c7b0
        try clear c8
        try clear c8b0
        try clear c9
        try clear c9b0
        try clear c10
        try clear hcz12_0
        try clear hcz12_1
        try clear hcz12_2
        try clear hcz12_3
        try clear hfz12_0
        try clear hfz12_1
        try clear hfz12_2
        try clear hfz12_3
        try clear hx481_0
        try clear hx481_1
        try clear hx481_2
        try clear hx481_3
        try clear p2
        try clear p481
        try clear q481
        obtain ⟨x7_2, x28_2, rfl, rfl, HA, HK2, HO_3, HO_6, HO_26, BK482, HB⟩ := hrel
        cases gk with
        | zero => exact absurd HA.out (by simp [spec_exFold.l1])
        | succ k2 =>
         have H := HA.out
         clear HA
         simp only [spec_exFold.l1] at H
         by_cases c15 : x28_2 < (t483.length : Int)
         ·rw [if_pos c15] at H
          have c15b0 : decide (x28_2 < (t483.length : Int)) = true := decide_eq_true c15
          clear c15
          by_cases c16 : 0 ≤ x28_2
          ·rw [if_pos c16] at H
           have c16b0 : decide (0 ≤ x28_2) = true := decide_eq_true c16
           clear c16
           by_cases c17 : x28_2 < (t483.length : Int)
           ·rw [if_pos c17] at H
            have c17b0 : decide (x28_2 < (t483.length : Int)) = true := decide_eq_true c17
            clear c17
            by_cases c18 : x7_2 = true
            ·subst c18
             rw [if_pos rfl] at H
             by_cases c19 : 0 ≤ (rd t483 x28_2)
             ·rw [if_pos c19] at H
              have c19b0 : decide (0 ≤ (rd t483 x28_2)) = true := decide_eq_true c19
              clear c19
              by_cases c20 : (rd t483 x28_2) < (x3_1.length : Int)
              ·rw [if_pos c20] at H
               have c20b0 : decide ((rd t483 x28_2) < (x3_1.length : Int)) = true := decide_eq_true c20
               clear c20
               have H' := zK H
               clear H
               have p486 : 0 ≤ (x28_2 : Int) := zo
               have q486 : x28_2 < (t483.length : Int) := zo
               obtain ⟨ad486, e486, hx486_0⟩ := Kd.at_int (Kd.R_reads' HO_26.out).2.2 x28_2 p486 q486
               cases e486
               replace p486 := eq_true p486
               replace q486 := eq_true q486
               have p487 : 0 ≤ ((rd t483 x28_2) : Int) := zo
               have q487 : (rd t483 x28_2) < (x3_1.length : Int) := zo
               obtain ⟨ad487, e487, hx487_0, hx487_1, hx487_2, hx487_3⟩ := at_T47 (Kd.R_reads' HO_3.out).2.2 (rd t483 x28_2) p487 q487
               obtain rfl : ad481 = ad487 := (by injection e487)
               replace p487 := eq_true p487
               replace q487 := eq_true q487
               go_wp2
               go_roundg k2
               case measure => have := HK1.out; have := HK2.out; omega
               case rel => exact ⟨((((rd_T47 x3_1 (rd t483 x28_2)).f0).toList == ([99, 111, 110, 115, 116] : List UInt8))), (wrap64 (x28_2 + 1)), ye, ye, H', ⟨yx⟩, ⟨by (try simp only [hl3_1]); (with_reducible repeat (first | apply Kd.R_alloc | apply Kd.R_drewN | apply Kd.R_drew)); exact HO_3.out⟩, ⟨by (try simp only [hl3_1]); (with_reducible repeat (first | apply Kd.R_alloc | apply Kd.R_drewN | apply Kd.R_drew)); exact HO_6.out⟩, ⟨by (try simp only [hl3_1]); (with_reducible repeat (first | apply Kd.R_alloc | apply Kd.R_drewN | apply Kd.R_drew)); exact HO_26.out⟩, ⟨by (try simp only [hl3_1]); (with_reducible repeat (first | refine zE ?_ _ | refine zF ?_ | refine zG ?_ _)); exact BK482.out⟩, ⟨yy1⟩⟩
              ·rw [if_neg c20] at H
               exact absurd H ye1
             ·rw [if_neg c19] at H
              exact absurd H ye1
            ·replace c18 := Bool.eq_false_iff.mpr c18
             subst c18
             rw [if_neg (show ¬ (false = true) by decide)] at H
             have H' := zK H
             clear H
             have p486 : 0 ≤ (x28_2 : Int) := zo
             have q486 : x28_2 < (t483.length : Int) := zo
             obtain ⟨ad486, e486, hx486_0⟩ := Kd.at_int (Kd.R_reads' HO_26.out).2.2 x28_2 p486 q486
             cases e486
             replace p486 := eq_true p486
             replace q486 := eq_true q486
             go_wp2
             go_roundg k2
             case measure => have := HK1.out; have := HK2.out; omega
             case rel => exact ⟨(false), (wrap64 (x28_2 + 1)), ye, ye, H', ⟨yx⟩, ⟨by (try simp only [hl3_1]); (with_reducible repeat (first | apply Kd.R_alloc | apply Kd.R_drewN | apply Kd.R_drew)); exact HO_3.out⟩, ⟨by (try simp only [hl3_1]); (with_reducible repeat (first | apply Kd.R_alloc | apply Kd.R_drewN | apply Kd.R_drew)); exact HO_6.out⟩, ⟨by (try simp only [hl3_1]); (with_reducible repeat (first | apply Kd.R_alloc | apply Kd.R_drewN | apply Kd.R_drew)); exact HO_26.out⟩, ⟨by (try simp only [hl3_1]); (with_reducible repeat (first | refine zE ?_ _ | refine zF ?_ | refine zG ?_ _)); exact BK482.out⟩, ⟨yy1⟩⟩
           ·rw [if_neg c17] at H
            exact absurd H ye1
          ·rw [if_neg c16] at H
           exact absurd H ye1
         ·rw [if_neg c15] at H
          have c15b0 : decide (x28_2 < (t483.length : Int)) = false := decide_eq_false c15
          (try simp only [hl3_1] at c15b0)
          clear c15
          by_cases c21 : x7_2 = true
          ·subst c21
           rw [if_pos rfl] at H
           by_cases c22 : (t483.length : Int) > 1
           ·rw [if_pos c22] at H
            have c22b0 : decide (1 < (t483.length : Int)) = true := decide_eq_true c22
            have c22b1 : decide (1 < t483.length) = true := decide_eq_true (by omega)
            clear c22
            by_cases c23 : 0 ≤ ((rd_T47 x3_1 x16_1).f2)
            ·rw [if_pos c23] at H
             have c23b0 : decide (0 ≤ ((rd_T47 x3_1 x16_1).f2)) = true := decide_eq_true c23
             clear c23
             by_cases c24 : ((rd_T47 x3_1 x16_1).f2) < (x3_1.length : Int)
             ·rw [if_pos c24] at H
              have c24b0 : decide (((rd_T47 x3_1 x16_1).f2) < (x3_1.length : Int)) = true := decide_eq_true c24
              clear c24
              by_cases c25 : 0 ≤ ((rd_T47 x3_1 x16_1).f1)
              ·rw [if_pos c25] at H
               have c25b0 : decide (0 ≤ ((rd_T47 x3_1 x16_1).f1)) = true := decide_eq_true c25
               clear c25
               by_cases c26 : ((rd_T47 x3_1 x16_1).f1) < (x3_1.length : Int)
               ·rw [if_pos c26] at H
                have c26b0 : decide (((rd_T47 x3_1 x16_1).f1) < (x3_1.length : Int)) = true := decide_eq_true c26
                clear c26
                replace H := Option.bind_eq_some_iff.mp H
                obtain ⟨t490, A270, H⟩ := H
                replace H : (if 0 ≤ x16_1 then (if x16_1 < (x3_1.length : Int) then (spec_exFold.l0 k2 (x3_1.set (x16_1 : Int).toNat (⟨(⟨#[99, 111, 110, 115, 116]⟩ : ByteArray), 0, 0, t490⟩ : S47)) (y475.length : Int) (wrap64 (x16_1 + 1))) else (none)) else (none)) = some r := H
                have A27 := zK A270
                clear A270
                by_cases c28 : 0 ≤ x16_1
                ·rw [if_pos c28] at H
                 have c28b0 : decide (0 ≤ x16_1) = true := decide_eq_true c28
                 clear c28
                 by_cases c29 : x16_1 < (x3_1.length : Int)
                 ·rw [if_pos c29] at H
                  have c29b0 : decide (x16_1 < (x3_1.length : Int)) = true := decide_eq_true c29
                  clear c29
                  obtain ⟨y491, hy491⟩ : ∃ y_ : List (S47), y_ = (x3_1.set (x16_1 : Int).toNat (⟨(⟨#[99, 111, 110, 115, 116]⟩ : ByteArray), 0, 0, t490⟩ : S47)) := ⟨_, rfl⟩
                  replace H : (spec_exFold.l0 k2 y491 (y475.length : Int) (wrap64 (x16_1 + 1))) = some r := by have hy_ := hy491; exact xH
                  have Ny491 := zK hy491
                  clear hy491
                  have H' := zK H
                  clear H
                  have hcz31_0 : wr.cell? ⟨gb482, 0, none⟩ = some (.string ((rd_T47 x3_1 x16_1).f0)) := (zI BK482.out 0).trans rfl
                  have hcz31_1 : wr.cell? ⟨gb482, 1, none⟩ = some (.int .i64 ((rd_T47 x3_1 x16_1).f1)) := (zI BK482.out 1).trans rfl
                  have hcz31_2 : wr.cell? ⟨gb482, 2, none⟩ = some (.int .i64 ((rd_T47 x3_1 x16_1).f2)) := (zI BK482.out 2).trans rfl
                  have hcz31_3 : wr.cell? ⟨gb482, 3, none⟩ = some (.int .i64 ((rd_T47 x3_1 x16_1).f3)) := (zI BK482.out 3).trans rfl
                  have hfz31_0 := zH BK482.out 0
                  have hfz31_1 := zH BK482.out 1
                  have hfz31_2 := zH BK482.out 2
                  have hfz31_3 := zH BK482.out 3
                  have p488 : 0 ≤ (((rd_T47 x3_1 x16_1).f2) : Int) := zo
                  have q488 : ((rd_T47 x3_1 x16_1).f2) < (x3_1.length : Int) := zo
                  obtain ⟨ad488, e488, hx488_0, hx488_1, hx488_2, hx488_3⟩ := at_T47 (Kd.R_reads' HO_3.out).2.2 ((rd_T47 x3_1 x16_1).f2) p488 q488
                  obtain rfl : ad481 = ad488 := (by injection e488)
                  replace p488 := eq_true p488
                  replace q488 := eq_true q488
                  try go_wp2
                  have n0_ := zK (Kd.R_drew HO_3.out)
                  have n1_ := zK (Kd.R_drew HO_6.out)
                  have n2_ := zK (Kd.R_drew HO_26.out)
                  have n3_ := zK (zF BK482.out)
                  have n4_ := zK (zC HB.out)
                  clear HO_3
                  clear HO_6
                  clear HO_26
                  clear BK482
                  clear HB
                  have HO_3 := n0_
                  have HO_6 := n1_
                  have HO_26 := n2_
                  have BK482 := n3_
                  have HB := n4_
                  clear n0_ n1_ n2_ n3_ n4_
                  have p489 : 0 ≤ (((rd_T47 x3_1 x16_1).f1) : Int) := zo
                  have q489 : ((rd_T47 x3_1 x16_1).f1) < (x3_1.length : Int) := zo
                  obtain ⟨ad489, e489, hx489_0, hx489_1, hx489_2, hx489_3⟩ := at_T47 (Kd.R_reads' HO_3.out).2.2 ((rd_T47 x3_1 x16_1).f1) p489 q489
                  obtain rfl : ad481 = ad489 := (by injection e489)
                  replace p489 := eq_true p489
                  replace q489 := eq_true q489
                  refine start_ (n := 15) (S := fun w' => w'.cell? ⟨gb482, 0, none⟩ = some (.string ((rd_T47 x3_1 x16_1).f0)) ∧ w'.cell? ⟨gb482, 1, none⟩ = some (.int .i64 ((rd_T47 x3_1 x16_1).f1)) ∧ w'.cell? ⟨gb482, 2, none⟩ = some (.int .i64 ((rd_T47 x3_1 x16_1).f2)) ∧ w'.cell? ⟨gb482, 3, none⟩ = some (.int .i64 ((rd_T47 x3_1 x16_1).f3)) ∧ w'.cell? (ad481.add ((((rd_T47 x3_1 x16_1).f1)).toNat * 4)) = some (.string ((rd_T47 x3_1 ((rd_T47 x3_1 x16_1).f1)).f0)) ∧ w'.cell? ⟨(ad481.add ((((rd_T47 x3_1 x16_1).f1)).toNat * 4)).block, (ad481.add ((((rd_T47 x3_1 x16_1).f1)).toNat * 4)).off + 1, none⟩ = some (.int .i64 ((rd_T47 x3_1 ((rd_T47 x3_1 x16_1).f1)).f1)) ∧ w'.cell? ⟨(ad481.add ((((rd_T47 x3_1 x16_1).f1)).toNat * 4)).block, (ad481.add ((((rd_T47 x3_1 x16_1).f1)).toNat * 4)).off + 2, none⟩ = some (.int .i64 ((rd_T47 x3_1 ((rd_T47 x3_1 x16_1).f1)).f2)) ∧ w'.cell? ⟨(ad481.add ((((rd_T47 x3_1 x16_1).f1)).toNat * 4)).block, (ad481.add ((((rd_T47 x3_1 x16_1).f1)).toNat * 4)).off + 3, none⟩ = some (.int .i64 ((rd_T47 x3_1 ((rd_T47 x3_1 x16_1).f1)).f3))) (ds := [14]) #[false, false, false, false, false, false, false, false, false, false, false, false, false, false, false] yi rfl rfl ⟨(zI BK482.out 0).trans rfl, (zI BK482.out 1).trans rfl, (zI BK482.out 2).trans rfl, (zI BK482.out 3).trans rfl, hx489_0, hx489_1, hx489_2, hx489_3⟩ (fun hHeld => ?_); refine with_tabW spec_exFold.tab16 spec_exFold.bits16 (fun HT_ HW_ => ?_)
                  generalize wr.drew = w32 at HO_3 HO_6 HO_26 BK482 HB hx489_0 hx489_1 hx489_2 hx489_3 hHeld ⊢
                  refine pure_ (i := 0) (N := some 53) (v := ?_) (a' := ?_) #[true, false, false, false, false, false, false, false, false, false, false, false, false, false, false] rfl rfl (any_of HT_.out yi) (fun _ _ _ h => h) (Or.inl ⟨by rfl, ?_⟩) ?_ ?_
                  rotate_left
                  ·intro w'
                   go_simp
                   with_reducible rfl
                  rotate_left
                  ·simp only [Act.put, z1, z2, z3, i64_w, i32_w]
                   rfl
                  refine pure_ (i := 1) (N := some 54) (v := ?_) (a' := ?_) #[true, true, false, false, false, false, false, false, false, false, false, false, false, false, false] rfl rfl (any_of HT_.out yi) (fun _ _ _ h => h) (Or.inl ⟨by rfl, ?_⟩) ?_ ?_
                  rotate_left
                  ·intro w'
                   go_simp
                   with_reducible rfl
                  rotate_left
                  ·simp only [Act.put, z1, z2, z3, i64_w, i32_w]
                   rfl
                  refine pure_ (i := 2) (N := some 55) (v := ?_) (a' := ?_) #[true, true, true, false, false, false, false, false, false, false, false, false, false, false, false] rfl rfl (any_of HT_.out yi) (fun _ _ _ h => h) (Or.inl ⟨by rfl, ?_⟩) ?_ ?_
                  rotate_left
                  ·intro w'
                   go_simp
                   with_reducible rfl
                  rotate_left
                  ·simp only [Act.put, z1, z2, z3, i64_w, i32_w]
                   rfl
                  refine pure_ (i := 4) (N := some 57) (v := ?_) (a' := ?_) #[true, true, true, false, true, false, false, false, false, false, false, false, false, false, false] rfl rfl (any_of HT_.out yi) (fun _ _ _ h => h) (Or.inl ⟨by rfl, ?_⟩) ?_ ?_
                  rotate_left
                  ·intro w'
                   go_simp
                   with_reducible rfl
                  rotate_left
                  ·simp only [Act.put, z1, z2, z3, i64_w, i32_w]
                   rfl
                  refine pure_ (i := 5) (N := some 58) (v := ?_) (a' := ?_) #[true, true, true, false, true, true, false, false, false, false, false, false, false, false, false] rfl rfl (any_of HT_.out yi) (fun _ _ _ h => h) (Or.inl ⟨by rfl, ?_⟩) ?_ ?_
                  rotate_left
                  ·intro w'
                   go_simp
                   with_reducible rfl
                  rotate_left
                  ·simp only [Act.put, z1, z2, z3, i64_w, i32_w]
                   rfl
                  refine pure_ (i := 10) (N := some 63) (v := ?_) (a' := ?_) #[true, true, true, false, true, true, false, false, false, false, true, false, false, false, false] rfl rfl (any_of HT_.out yi) (fun _ _ _ h => h) (Or.inl ⟨by rfl, ?_⟩) ?_ ?_
                  rotate_left
                  ·intro w'
                   go_simp
                   with_reducible rfl
                  rotate_left
                  ·simp only [Act.put, z1, z2, z3, i64_w, i32_w]
                   rfl
                  refine take_ (i := 3) (N := some 56) (v := ?_) (a' := ?_) #[true, true, true, true, true, true, false, false, false, false, true, false, false, false, false] rfl rfl (take_ofW HT_.out HW_.out yi) (fun _ _ _ h => h) (Or.inl ⟨by rfl, ?_⟩) hHeld ?_ ?_
                  rotate_left
                  ·rintro w' ⟨s0, s1, s2, s3, s4, s5, s6, s7⟩
                   go_simp
                   with_reducible rfl
                  rotate_left
                  ·simp only [Act.put, z1, z2, z3, i64_w, i32_w]
                   rfl
                  refine take_ (i := 6) (N := some 59) (v := ?_) (a' := ?_) #[true, true, true, true, true, true, true, false, false, false, true, false, false, false, false] rfl rfl (take_ofW HT_.out HW_.out yi) (fun _ _ _ h => h) (Or.inl ⟨by rfl, ?_⟩) hHeld ?_ ?_
                  rotate_left
                  ·rintro w' ⟨s0, s1, s2, s3, s4, s5, s6, s7⟩
                   go_simp
                   with_reducible rfl
                  rotate_left
                  ·simp only [Act.put, z1, z2, z3, i64_w, i32_w]
                   rfl
                  refine pure_ (i := 7) (N := some 60) (v := ?_) (a' := ?_) #[true, true, true, true, true, true, true, true, false, false, true, false, false, false, false] rfl rfl (any_of HT_.out yi) (fun _ _ _ h => h) (Or.inl ⟨by rfl, ?_⟩) ?_ ?_
                  rotate_left
                  ·intro w'
                   go_simp
                   with_reducible rfl
                  rotate_left
                  ·simp only [Act.put, z1, z2, z3, i64_w, i32_w]
                   rfl
                  refine pure_ (i := 8) (N := some 61) (v := ?_) (a' := ?_) #[true, true, true, true, true, true, true, true, true, false, true, false, false, false, false] rfl rfl (any_of HT_.out yi) (fun _ _ _ h => h) (Or.inl ⟨by rfl, ?_⟩) ?_ ?_
                  rotate_left
                  ·intro w'
                   go_simp
                   with_reducible rfl
                  rotate_left
                  ·simp only [Act.put, z1, z2, z3, i64_w, i32_w]
                   rfl
                  refine take_ (i := 9) (N := some 62) (v := ?_) (a' := ?_) #[true, true, true, true, true, true, true, true, true, true, true, false, false, false, false] rfl rfl (take_ofW HT_.out HW_.out yi) (fun _ _ _ h => h) (Or.inl ⟨by rfl, ?_⟩) hHeld ?_ ?_
                  rotate_left
                  ·rintro w' ⟨s0, s1, s2, s3, s4, s5, s6, s7⟩
                   go_simp
                   with_reducible rfl
                  rotate_left
                  ·simp only [Act.put, z1, z2, z3, i64_w, i32_w]
                   rfl
                  refine one_ (i := 11) (N := some 64) #[true, true, true, true, true, true, true, true, true, true, true, true, false, false, false] rfl rfl (one_of HT_.out yi) yp1 (fun K hK => ?_)
                  refine goes_ Try.func87 yi rfl #[.string ((rd_T47 x3_1 x16_1).f0), .int .i64 ((rd_T47 x3_1 ((rd_T47 x3_1 x16_1).f1)).f3), .int .i64 ((rd_T47 x3_1 ((rd_T47 x3_1 x16_1).f2)).f3)] (by rfl) rfl rfl yb ?_
                  with_reducible refine (spec_exApply.calls ((rd_T47 x3_1 x16_1).f0) ((rd_T47 x3_1 ((rd_T47 x3_1 x16_1).f1)).f3) ((rd_T47 x3_1 ((rd_T47 x3_1 x16_1).f2)).f3) t490 _ A27.out).mono ?_
                  rintro e w' ⟨rfl, ⟨nd, rfl⟩⟩
                  refine ⟨_, rfl, ?_⟩
                  have p30 : 0 ≤ (x16_1 : Int) := zo
                  have q30 : (x16_1 : Int) < ((x3_1.length : Int) : Int) := zo
                  obtain ⟨go30, co30, eo30, gb30, gl30, cl30, HG30⟩ := Kd.R_form HO_3.out (by omega)
                  (first | cases eo30 | (injection eo30 with ea_ en_ ec_; (first | subst ea_ | (injection ea_ with ea_; subst ea_)); subst ec_; clear en_))
                  have GB30 := zK gb30
                  have GG30 := zK HG30
                  clear gb30 gl30 HG30
                  (first | simp only [add_plain] at hx481_0 | skip)
                  (first | simp only [add_plain] at hx481_1 | skip)
                  (first | simp only [add_plain] at hx481_2 | skip)
                  (first | simp only [add_plain] at hx481_3 | skip)
                  (first | simp only [add_plain] at hx487_0 | skip)
                  (first | simp only [add_plain] at hx487_1 | skip)
                  (first | simp only [add_plain] at hx487_2 | skip)
                  (first | simp only [add_plain] at hx487_3 | skip)
                  (first | simp only [add_plain] at hx488_0 | skip)
                  (first | simp only [add_plain] at hx488_1 | skip)
                  (first | simp only [add_plain] at hx488_2 | skip)
                  (first | simp only [add_plain] at hx488_3 | skip)
                  (first | simp only [add_plain] at hx489_0 | skip)
                  (first | simp only [add_plain] at hx489_1 | skip)
                  (first | simp only [add_plain] at hx489_2 | skip)
                  (first | simp only [add_plain] at hx489_3 | skip)
                  obtain ⟨ce30, hcl30, hM30, hcc30, hfr30⟩ := Kd.R_elem HO_3.out z47 (x16_1 : Int) p30 q30
                  obtain rfl := k47_openM hM30
                  have hx30_0 : World.cell? _ ⟨go30, (x16_1 : Int).toNat * 4, none⟩ = some (.string ((rd_T47 x3_1 x16_1).f0)) := hcc30 0 _ rfl
                  have hx30_1 : World.cell? _ ⟨go30, (x16_1 : Int).toNat * 4 + 1, none⟩ = some (.int .i64 ((rd_T47 x3_1 x16_1).f1)) := hcc30 1 _ rfl
                  have hx30_2 : World.cell? _ ⟨go30, (x16_1 : Int).toNat * 4 + 2, none⟩ = some (.int .i64 ((rd_T47 x3_1 x16_1).f2)) := hcc30 2 _ rfl
                  have hx30_3 : World.cell? _ ⟨go30, (x16_1 : Int).toNat * 4 + 3, none⟩ = some (.int .i64 ((rd_T47 x3_1 x16_1).f3)) := hcc30 3 _ rfl
                  have hf30_0 : World.frozen? _ ⟨go30, (x16_1 : Int).toNat * 4, none⟩ = false := hfr30 0
                  have hf30_1 : World.frozen? _ ⟨go30, (x16_1 : Int).toNat * 4 + 1, none⟩ = false := hfr30 1
                  have hf30_2 : World.frozen? _ ⟨go30, (x16_1 : Int).toNat * 4 + 2, none⟩ = false := hfr30 2
                  have hf30_3 : World.frozen? _ ⟨go30, (x16_1 : Int).toNat * 4 + 3, none⟩ = false := hfr30 3
                  clear hcl30 hcc30 hfr30 hM30
                  replace p30 := eq_true p30
                  replace q30 := eq_true q30
                  obtain ⟨ce33, hcl33, hM33, hcc33, hfr33⟩ := Kd.R_elem HO_3.out z47 (x16_1 : Int) (zo) (by have h_ : (x16_1 : Int) < ((x3_1.length : Int) : Int) := zo; first | exact h_ | (have e_ := (Kd.R_reads' HO_3.out).1; omega) | simpa using h_)
                  obtain rfl := k47_openM hM33
                  have HP33 := (Kd.R_seg HO_3.out (x16_1 : Int) (zo) (by have h_ : (x16_1 : Int) < ((x3_1.length : Int) : Int) := zo; first | exact h_ | (have e_ := (Kd.R_reads' HO_3.out).1; omega) | simpa using h_) (seg := [.string (⟨#[99, 111, 110, 115, 116]⟩ : ByteArray), .int .i64 0, .int .i64 0, .int .i64 t490]) (j := 0) hcl33 hcc33 (show 4 ≤ 4 from by decide) (x' := (⟨(⟨#[99, 111, 110, 115, 116]⟩ : ByteArray), 0, 0, t490⟩ : S47)) (k47_mkM _ _ _ (⟨(⟨#[99, 111, 110, 115, 116]⟩ : ByteArray), 0, 0, t490⟩ : S47) ) (fun _ hk => hk)).1
                  rw [← Ny491.out] at HP33
                  have HQ33 := zK HP33
                  clear hcl33 hcc33 hfr33 hM33 HP33
                  refine hK.out _ _ ⟨(zI BK482.out 0).trans rfl, (zI BK482.out 1).trans rfl, (zI BK482.out 2).trans rfl, (zI BK482.out 3).trans rfl, hHeld.2.2.2.2.1, hHeld.2.2.2.2.2.1, hHeld.2.2.2.2.2.2.1, hHeld.2.2.2.2.2.2.2⟩ (fun hHeld => ?_)
                  clear hK K
                  refine norm_ (a' := ?_) ?_ ?_
                  rotate_left
                  ·show Act.put _ (some 64) _ = _
                   simp only [Act.put, z1, z2, z3, i64_w, i32_w]
                   rfl
                  refine pure_ (i := 12) (N := some 65) (v := ?_) (a' := ?_) #[true, true, true, true, true, true, true, true, true, true, true, true, true, false, false] rfl rfl (any_of HT_.out yi) (fun _ _ _ h => h) (Or.inl ⟨by rfl, ?_⟩) ?_ ?_
                  rotate_left
                  ·intro w'
                   go_simp
                   with_reducible rfl
                  rotate_left
                  ·simp only [Act.put, z1, z2, z3, i64_w, i32_w]
                   rfl
                  refine pure_ (i := 13) (N := some 66) (v := ?_) (a' := ?_) #[true, true, true, true, true, true, true, true, true, true, true, true, true, true, false] rfl rfl (any_of HT_.out yi) (fun _ _ _ h => h) (Or.inl ⟨by rfl, ?_⟩) ?_ ?_
                  rotate_left
                  ·intro w'
                   go_simp
                   with_reducible rfl
                  rotate_left
                  ·simp only [Act.put, z1, z2, z3, i64_w, i32_w]
                   rfl
                  refine last_ (i := 14) (N := none) #[true, true, true, true, true, true, true, true, true, true, true, true, true, true, true] rfl rfl (one_of HT_.out yi) yp1 (fun K hK => ?_)
                  refine skip_ (w1 := ?_) (by rfl) rfl ?_ ?_
                  rotate_left
                  ·go_simp
                   rfl
                  refine hK.out _ _ ?_
                  clear hK K
                  refine done_ (done_of HT_.out yi) ?_
                  try go_wp2
                  (try simp only [← hl3_1])
                  go_roundg k2
                  case measure => have := HK1.out; have := HK2.out; omega
                  case rel => exact ⟨(y491), (wrap64 (x16_1 + 1)), ye, H', ⟨yx⟩, ⟨by (try simp only [hl3_1]); (with_reducible repeat (first | apply Kd.R_alloc | apply Kd.R_drewN | apply Kd.R_drew)); exact Kd.R_mono HQ33.out (fun _ hk => trivial)⟩, ⟨by repeat (first | (with_reducible first | exact HB.out | apply zA | apply zB | apply zC | refine zD ?_ GB30.out | refine zD ?_ GB30.out | refine zD ?_ GB30.out | refine zD ?_ GB30.out | refine zD ?_ GE482.out) | exact HB.out)⟩⟩
                 ·rw [if_neg c29] at H
                  exact absurd H ye1
                ·rw [if_neg c28] at H
                 exact absurd H ye1
               ·rw [if_neg c26] at H
                exact absurd H ye1
              ·rw [if_neg c25] at H
               exact absurd H ye1
             ·rw [if_neg c24] at H
              exact absurd H ye1
            ·rw [if_neg c23] at H
             exact absurd H ye1
           ·rw [if_neg c22] at H
            have c22b0 : decide (1 < (t483.length : Int)) = false := decide_eq_false c22
            (try simp only [hl3_1] at c22b0)
            have c22b1 : decide (1 < t483.length) = false := decide_eq_false (by omega)
            clear c22
            by_cases c34 : 0 ≤ ((rd_T47 x3_1 x16_1).f1)
            ·rw [if_pos c34] at H
             have c34b0 : decide (0 ≤ ((rd_T47 x3_1 x16_1).f1)) = true := decide_eq_true c34
             clear c34
             by_cases c35 : ((rd_T47 x3_1 x16_1).f1) < (x3_1.length : Int)
             ·rw [if_pos c35] at H
              have c35b0 : decide (((rd_T47 x3_1 x16_1).f1) < (x3_1.length : Int)) = true := decide_eq_true c35
              clear c35
              replace H := Option.bind_eq_some_iff.mp H
              obtain ⟨t493, A360, H⟩ := H
              replace H : (if 0 ≤ x16_1 then (if x16_1 < (x3_1.length : Int) then (spec_exFold.l0 k2 (x3_1.set (x16_1 : Int).toNat (⟨(⟨#[99, 111, 110, 115, 116]⟩ : ByteArray), 0, 0, t493⟩ : S47)) (y475.length : Int) (wrap64 (x16_1 + 1))) else (none)) else (none)) = some r := H
              have A36 := zK A360
              clear A360
              by_cases c37 : 0 ≤ x16_1
              ·rw [if_pos c37] at H
               have c37b0 : decide (0 ≤ x16_1) = true := decide_eq_true c37
               clear c37
               by_cases c38 : x16_1 < (x3_1.length : Int)
               ·rw [if_pos c38] at H
                have c38b0 : decide (x16_1 < (x3_1.length : Int)) = true := decide_eq_true c38
                clear c38
                obtain ⟨y494, hy494⟩ : ∃ y_ : List (S47), y_ = (x3_1.set (x16_1 : Int).toNat (⟨(⟨#[99, 111, 110, 115, 116]⟩ : ByteArray), 0, 0, t493⟩ : S47)) := ⟨_, rfl⟩
                replace H : (spec_exFold.l0 k2 y494 (y475.length : Int) (wrap64 (x16_1 + 1))) = some r := by have hy_ := hy494; exact xH
                have Ny494 := zK hy494
                clear hy494
                have H' := zK H
                clear H
                try go_wp2
                have n0_ := zK (Kd.R_drew HO_3.out)
                have n1_ := zK (Kd.R_drew HO_6.out)
                have n2_ := zK (Kd.R_drew HO_26.out)
                have n3_ := zK (zF BK482.out)
                have n4_ := zK (zC HB.out)
                clear HO_3
                clear HO_6
                clear HO_26
                clear BK482
                clear HB
                have HO_3 := n0_
                have HO_6 := n1_
                have HO_26 := n2_
                have BK482 := n3_
                have HB := n4_
                clear n0_ n1_ n2_ n3_ n4_
                have p492 : 0 ≤ (((rd_T47 x3_1 x16_1).f1) : Int) := zo
                have q492 : ((rd_T47 x3_1 x16_1).f1) < (x3_1.length : Int) := zo
                obtain ⟨ad492, e492, hx492_0, hx492_1, hx492_2, hx492_3⟩ := at_T47 (Kd.R_reads' HO_3.out).2.2 ((rd_T47 x3_1 x16_1).f1) p492 q492
                obtain rfl : ad481 = ad492 := (by injection e492)
                replace p492 := eq_true p492
                replace q492 := eq_true q492
                refine start_ (n := 15) (S := fun w' => w'.cell? ⟨gb482, 0, none⟩ = some (.string ((rd_T47 x3_1 x16_1).f0)) ∧ w'.cell? ⟨gb482, 1, none⟩ = some (.int .i64 ((rd_T47 x3_1 x16_1).f1)) ∧ w'.cell? ⟨gb482, 2, none⟩ = some (.int .i64 ((rd_T47 x3_1 x16_1).f2)) ∧ w'.cell? ⟨gb482, 3, none⟩ = some (.int .i64 ((rd_T47 x3_1 x16_1).f3)) ∧ w'.cell? (ad481.add ((((rd_T47 x3_1 x16_1).f1)).toNat * 4)) = some (.string ((rd_T47 x3_1 ((rd_T47 x3_1 x16_1).f1)).f0)) ∧ w'.cell? ⟨(ad481.add ((((rd_T47 x3_1 x16_1).f1)).toNat * 4)).block, (ad481.add ((((rd_T47 x3_1 x16_1).f1)).toNat * 4)).off + 1, none⟩ = some (.int .i64 ((rd_T47 x3_1 ((rd_T47 x3_1 x16_1).f1)).f1)) ∧ w'.cell? ⟨(ad481.add ((((rd_T47 x3_1 x16_1).f1)).toNat * 4)).block, (ad481.add ((((rd_T47 x3_1 x16_1).f1)).toNat * 4)).off + 2, none⟩ = some (.int .i64 ((rd_T47 x3_1 ((rd_T47 x3_1 x16_1).f1)).f2)) ∧ w'.cell? ⟨(ad481.add ((((rd_T47 x3_1 x16_1).f1)).toNat * 4)).block, (ad481.add ((((rd_T47 x3_1 x16_1).f1)).toNat * 4)).off + 3, none⟩ = some (.int .i64 ((rd_T47 x3_1 ((rd_T47 x3_1 x16_1).f1)).f3))) (ds := [14]) #[false, false, false, false, false, false, false, false, false, false, false, false, false, false, false] yi rfl rfl ⟨(zI BK482.out 0).trans rfl, (zI BK482.out 1).trans rfl, (zI BK482.out 2).trans rfl, (zI BK482.out 3).trans rfl, hx492_0, hx492_1, hx492_2, hx492_3⟩ (fun hHeld => ?_); refine with_tabW spec_exFold.tab16 spec_exFold.bits16 (fun HT_ HW_ => ?_)
                generalize wr.drew = w40 at HO_3 HO_6 HO_26 BK482 HB hx492_0 hx492_1 hx492_2 hx492_3 hHeld ⊢
                refine pure_ (i := 0) (N := some 53) (v := ?_) (a' := ?_) #[true, false, false, false, false, false, false, false, false, false, false, false, false, false, false] rfl rfl (any_of HT_.out yi) (fun _ _ _ h => h) (Or.inl ⟨by rfl, ?_⟩) ?_ ?_
                rotate_left
                ·intro w'
                 go_simp
                 with_reducible rfl
                rotate_left
                ·simp only [Act.put, z1, z2, z3, i64_w, i32_w]
                 rfl
                refine pure_ (i := 1) (N := some 54) (v := ?_) (a' := ?_) #[true, true, false, false, false, false, false, false, false, false, false, false, false, false, false] rfl rfl (any_of HT_.out yi) (fun _ _ _ h => h) (Or.inl ⟨by rfl, ?_⟩) ?_ ?_
                rotate_left
                ·intro w'
                 go_simp
                 with_reducible rfl
                rotate_left
                ·simp only [Act.put, z1, z2, z3, i64_w, i32_w]
                 rfl
                refine pure_ (i := 2) (N := some 55) (v := ?_) (a' := ?_) #[true, true, true, false, false, false, false, false, false, false, false, false, false, false, false] rfl rfl (any_of HT_.out yi) (fun _ _ _ h => h) (Or.inl ⟨by rfl, ?_⟩) ?_ ?_
                rotate_left
                ·intro w'
                 go_simp
                 with_reducible rfl
                rotate_left
                ·simp only [Act.put, z1, z2, z3, i64_w, i32_w]
                 rfl
                refine pure_ (i := 4) (N := some 57) (v := ?_) (a' := ?_) #[true, true, true, false, true, false, false, false, false, false, false, false, false, false, false] rfl rfl (any_of HT_.out yi) (fun _ _ _ h => h) (Or.inl ⟨by rfl, ?_⟩) ?_ ?_
                rotate_left
                ·intro w'
                 go_simp
                 with_reducible rfl
                rotate_left
                ·simp only [Act.put, z1, z2, z3, i64_w, i32_w]
                 rfl
                refine pure_ (i := 5) (N := some 58) (v := ?_) (a' := ?_) #[true, true, true, false, true, true, false, false, false, false, false, false, false, false, false] rfl rfl (any_of HT_.out yi) (fun _ _ _ h => h) (Or.inl ⟨by rfl, ?_⟩) ?_ ?_
                rotate_left
                ·intro w'
                 go_simp
                 with_reducible rfl
                rotate_left
                ·simp only [Act.put, z1, z2, z3, i64_w, i32_w]
                 rfl
                refine pure_ (i := 10) (N := some 63) (v := ?_) (a' := ?_) #[true, true, true, false, true, true, false, false, false, false, true, false, false, false, false] rfl rfl (any_of HT_.out yi) (fun _ _ _ h => h) (Or.inl ⟨by rfl, ?_⟩) ?_ ?_
                rotate_left
                ·intro w'
                 go_simp
                 with_reducible rfl
                rotate_left
                ·simp only [Act.put, z1, z2, z3, i64_w, i32_w]
                 rfl
                refine take_ (i := 3) (N := some 56) (v := ?_) (a' := ?_) #[true, true, true, true, true, true, false, false, false, false, true, false, false, false, false] rfl rfl (take_ofW HT_.out HW_.out yi) (fun _ _ _ h => h) (Or.inl ⟨by rfl, ?_⟩) hHeld ?_ ?_
                rotate_left
                ·rintro w' ⟨s0, s1, s2, s3, s4, s5, s6, s7⟩
                 go_simp
                 with_reducible rfl
                rotate_left
                ·simp only [Act.put, z1, z2, z3, i64_w, i32_w]
                 rfl
                refine take_ (i := 6) (N := some 59) (v := ?_) (a' := ?_) #[true, true, true, true, true, true, true, false, false, false, true, false, false, false, false] rfl rfl (take_ofW HT_.out HW_.out yi) (fun _ _ _ h => h) (Or.inl ⟨by rfl, ?_⟩) hHeld ?_ ?_
                rotate_left
                ·rintro w' ⟨s0, s1, s2, s3, s4, s5, s6, s7⟩
                 go_simp
                 with_reducible rfl
                rotate_left
                ·simp only [Act.put, z1, z2, z3, i64_w, i32_w]
                 rfl
                refine pure_ (i := 7) (N := some 60) (v := ?_) (a' := ?_) #[true, true, true, true, true, true, true, true, false, false, true, false, false, false, false] rfl rfl (any_of HT_.out yi) (fun _ _ _ h => h) (Or.inl ⟨by rfl, ?_⟩) ?_ ?_
                rotate_left
                ·intro w'
                 go_simp
                 with_reducible rfl
                rotate_left
                ·simp only [Act.put, z1, z2, z3, i64_w, i32_w]
                 rfl
                refine pure_ (i := 8) (N := some 61) (v := ?_) (a' := ?_) #[true, true, true, true, true, true, true, true, true, false, true, false, false, false, false] rfl rfl (any_of HT_.out yi) (fun _ _ _ h => h) (Or.inl ⟨by rfl, ?_⟩) ?_ ?_
                rotate_left
                ·intro w'
                 go_simp
                 with_reducible rfl
                rotate_left
                ·simp only [Act.put, z1, z2, z3, i64_w, i32_w]
                 rfl
                refine take_ (i := 9) (N := some 62) (v := ?_) (a' := ?_) #[true, true, true, true, true, true, true, true, true, true, true, false, false, false, false] rfl rfl (take_ofW HT_.out HW_.out yi) (fun _ _ _ h => h) (Or.inl ⟨by rfl, ?_⟩) hHeld ?_ ?_
                rotate_left
                ·rintro w' ⟨s0, s1, s2, s3, s4, s5, s6, s7⟩
                 go_simp
                 with_reducible rfl
                rotate_left
                ·simp only [Act.put, z1, z2, z3, i64_w, i32_w]
                 rfl
                refine one_ (i := 11) (N := some 64) #[true, true, true, true, true, true, true, true, true, true, true, true, false, false, false] rfl rfl (one_of HT_.out yi) yp1 (fun K hK => ?_)
                refine goes_ Try.func87 yi rfl #[.string ((rd_T47 x3_1 x16_1).f0), .int .i64 ((rd_T47 x3_1 ((rd_T47 x3_1 x16_1).f1)).f3), .int .i64 0] (by rfl) rfl rfl yb ?_
                with_reducible refine (spec_exApply.calls ((rd_T47 x3_1 x16_1).f0) ((rd_T47 x3_1 ((rd_T47 x3_1 x16_1).f1)).f3) 0 t493 _ A36.out).mono ?_
                rintro e w' ⟨rfl, ⟨nd, rfl⟩⟩
                refine ⟨_, rfl, ?_⟩
                have p39 : 0 ≤ (x16_1 : Int) := zo
                have q39 : (x16_1 : Int) < ((x3_1.length : Int) : Int) := zo
                obtain ⟨go39, co39, eo39, gb39, gl39, cl39, HG39⟩ := Kd.R_form HO_3.out (by omega)
                (first | cases eo39 | (injection eo39 with ea_ en_ ec_; (first | subst ea_ | (injection ea_ with ea_; subst ea_)); subst ec_; clear en_))
                have GB39 := zK gb39
                have GG39 := zK HG39
                clear gb39 gl39 HG39
                (first | simp only [add_plain] at hx492_0 | skip)
                (first | simp only [add_plain] at hx492_1 | skip)
                (first | simp only [add_plain] at hx492_2 | skip)
                (first | simp only [add_plain] at hx492_3 | skip)
                obtain ⟨ce39, hcl39, hM39, hcc39, hfr39⟩ := Kd.R_elem HO_3.out z47 (x16_1 : Int) p39 q39
                obtain rfl := k47_openM hM39
                have hx39_0 : World.cell? _ ⟨go39, (x16_1 : Int).toNat * 4, none⟩ = some (.string ((rd_T47 x3_1 x16_1).f0)) := hcc39 0 _ rfl
                have hx39_1 : World.cell? _ ⟨go39, (x16_1 : Int).toNat * 4 + 1, none⟩ = some (.int .i64 ((rd_T47 x3_1 x16_1).f1)) := hcc39 1 _ rfl
                have hx39_2 : World.cell? _ ⟨go39, (x16_1 : Int).toNat * 4 + 2, none⟩ = some (.int .i64 ((rd_T47 x3_1 x16_1).f2)) := hcc39 2 _ rfl
                have hx39_3 : World.cell? _ ⟨go39, (x16_1 : Int).toNat * 4 + 3, none⟩ = some (.int .i64 ((rd_T47 x3_1 x16_1).f3)) := hcc39 3 _ rfl
                have hf39_0 : World.frozen? _ ⟨go39, (x16_1 : Int).toNat * 4, none⟩ = false := hfr39 0
                have hf39_1 : World.frozen? _ ⟨go39, (x16_1 : Int).toNat * 4 + 1, none⟩ = false := hfr39 1
                have hf39_2 : World.frozen? _ ⟨go39, (x16_1 : Int).toNat * 4 + 2, none⟩ = false := hfr39 2
                have hf39_3 : World.frozen? _ ⟨go39, (x16_1 : Int).toNat * 4 + 3, none⟩ = false := hfr39 3
                clear hcl39 hcc39 hfr39 hM39
                replace p39 := eq_true p39
                replace q39 := eq_true q39
                obtain ⟨ce41, hcl41, hM41, hcc41, hfr41⟩ := Kd.R_elem HO_3.out z47 (x16_1 : Int) (zo) (by have h_ : (x16_1 : Int) < ((x3_1.length : Int) : Int) := zo; first | exact h_ | (have e_ := (Kd.R_reads' HO_3.out).1; omega) | simpa using h_)
                obtain rfl := k47_openM hM41
                have HP41 := (Kd.R_seg HO_3.out (x16_1 : Int) (zo) (by have h_ : (x16_1 : Int) < ((x3_1.length : Int) : Int) := zo; first | exact h_ | (have e_ := (Kd.R_reads' HO_3.out).1; omega) | simpa using h_) (seg := [.string (⟨#[99, 111, 110, 115, 116]⟩ : ByteArray), .int .i64 0, .int .i64 0, .int .i64 t493]) (j := 0) hcl41 hcc41 (show 4 ≤ 4 from by decide) (x' := (⟨(⟨#[99, 111, 110, 115, 116]⟩ : ByteArray), 0, 0, t493⟩ : S47)) (k47_mkM _ _ _ (⟨(⟨#[99, 111, 110, 115, 116]⟩ : ByteArray), 0, 0, t493⟩ : S47) ) (fun _ hk => hk)).1
                rw [← Ny494.out] at HP41
                have HQ41 := zK HP41
                clear hcl41 hcc41 hfr41 hM41 HP41
                refine hK.out _ _ ⟨(zI BK482.out 0).trans rfl, (zI BK482.out 1).trans rfl, (zI BK482.out 2).trans rfl, (zI BK482.out 3).trans rfl, hHeld.2.2.2.2.1, hHeld.2.2.2.2.2.1, hHeld.2.2.2.2.2.2.1, hHeld.2.2.2.2.2.2.2⟩ (fun hHeld => ?_)
                clear hK K
                refine norm_ (a' := ?_) ?_ ?_
                rotate_left
                ·show Act.put _ (some 64) _ = _
                 simp only [Act.put, z1, z2, z3, i64_w, i32_w]
                 rfl
                refine pure_ (i := 12) (N := some 65) (v := ?_) (a' := ?_) #[true, true, true, true, true, true, true, true, true, true, true, true, true, false, false] rfl rfl (any_of HT_.out yi) (fun _ _ _ h => h) (Or.inl ⟨by rfl, ?_⟩) ?_ ?_
                rotate_left
                ·intro w'
                 go_simp
                 with_reducible rfl
                rotate_left
                ·simp only [Act.put, z1, z2, z3, i64_w, i32_w]
                 rfl
                refine pure_ (i := 13) (N := some 66) (v := ?_) (a' := ?_) #[true, true, true, true, true, true, true, true, true, true, true, true, true, true, false] rfl rfl (any_of HT_.out yi) (fun _ _ _ h => h) (Or.inl ⟨by rfl, ?_⟩) ?_ ?_
                rotate_left
                ·intro w'
                 go_simp
                 with_reducible rfl
                rotate_left
                ·simp only [Act.put, z1, z2, z3, i64_w, i32_w]
                 rfl
                refine last_ (i := 14) (N := none) #[true, true, true, true, true, true, true, true, true, true, true, true, true, true, true] rfl rfl (one_of HT_.out yi) yp1 (fun K hK => ?_)
                refine skip_ (w1 := ?_) (by rfl) rfl ?_ ?_
                rotate_left
                ·go_simp
                 rfl
                refine hK.out _ _ ?_
                clear hK K
                refine done_ (done_of HT_.out yi) ?_
                try go_wp2
                (try simp only [← hl3_1])
                go_roundg k2
                case measure => have := HK1.out; have := HK2.out; omega
                case rel => exact ⟨(y494), (wrap64 (x16_1 + 1)), ye, H', ⟨yx⟩, ⟨by (try simp only [hl3_1]); (with_reducible repeat (first | apply Kd.R_alloc | apply Kd.R_drewN | apply Kd.R_drew)); exact Kd.R_mono HQ41.out (fun _ hk => trivial)⟩, ⟨by repeat (first | (with_reducible first | exact HB.out | apply zA | apply zB | apply zC | refine zD ?_ GB39.out | refine zD ?_ GB39.out | refine zD ?_ GB39.out | refine zD ?_ GB39.out | refine zD ?_ GE482.out) | exact HB.out)⟩⟩
               ·rw [if_neg c38] at H
                exact absurd H ye1
              ·rw [if_neg c37] at H
               exact absurd H ye1
             ·rw [if_neg c35] at H
              exact absurd H ye1
            ·rw [if_neg c34] at H
             exact absurd H ye1
          ·replace c21 := Bool.eq_false_iff.mpr c21
           subst c21
           rw [if_neg (show ¬ (false = true) by decide)] at H
           have H' := zK H
           clear H
           go_wp2
           (try simp only [← hl3_1])
           go_roundg k2
           case measure => have := HK1.out; have := HK2.out; omega
           case rel => exact ⟨(x3_1), (wrap64 (x16_1 + 1)), ye, H', ⟨yx⟩, ⟨by (try simp only [hl3_1]); (with_reducible repeat (first | apply Kd.R_alloc | apply Kd.R_drewN | apply Kd.R_drew)); exact Kd.R_mono HO_3.out (fun _ hk => trivial)⟩, ⟨yy1⟩⟩
      ·rw [if_neg c9] at H
       exact absurd H ye1
     ·rw [if_neg c8] at H
      exact absurd H ye1
    ·rw [if_neg c7] at H
     have c7b0 : decide (x16_1 < (y475.length : Int)) = false := decide_eq_false c7
     (try simp only [hl3_1] at c7b0)
     clear c7
     replace H := Option.bind_eq_some_iff.mp H
     obtain ⟨t478, A420, H⟩ := H
     replace H : (some t478) = some r := H
     have A42 := zK A420
     clear A420
     obtain rfl := Option.some.inj H
     go_wp2_with (first | ((with_reducible refine gate_callee (f := 107) rfl ?_); refine goesL_ (some 72) rfl rfl Try.func107 yi rfl #[.slice Ao6 x3_1.length co6, .int .i64 (wrap64 ((x3_1.length : Int) - 1))] rfl yb ?_; (with_reducible refine (spec_exKeep.calls k1 _ _ x3_1 (wrap64 ((x3_1.length : Int) - 1)) t478 _ ?side1 ?side2 A42.out).mono ?_); (case side1 => repeat (first | exact (Kd.R_reads' HO_3.out).2.2 | (with_reducible refine Kd.C_alloc ?_ _) | (with_reducible refine Kd.C_drewN ?_ _) | (with_reducible refine Kd.C_drew ?_))); (case side2 => exact (Kd.R_reads' HO_3.out).2.1); rintro e w43 ⟨v479, rfl, ho0, hb⟩; refine ⟨_, rfl, ?_⟩; have n0_ := zK (Kd.R_elder' yn (Kd.R_base ho0) hb); have n1_ := zK (Kd.R_lower (Kd.R_new' ho0 (Kd.R_lt yn)) (zN ya)); have n2_ := zK (zL ya hb); clear HO_3; clear HB; have HO_3 := n0_; have HO480 := n1_; have HB := n2_; clear n0_ n1_ n2_; (try clear hb); (try clear hb2); (try clear hk); (try clear hi); (try clear ho0)))
     go_ret
     exact ⟨_, yd, by (with_reducible repeat (first | apply Kd.R_alloc | apply Kd.R_drewN | apply Kd.R_drew)); exact Kd.R_mono HO480.out (fun _ hk => trivial), ya⟩
 ·rw [if_neg c2] at H
  exact absurd H ye1

end Go.Proofs.Ytlcplhcccgbmnaa.D
