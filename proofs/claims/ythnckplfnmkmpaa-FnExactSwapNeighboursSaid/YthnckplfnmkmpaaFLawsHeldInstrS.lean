/- Contracts: laws_heldInstrS, laws_FnExactSwapNeighbours. -/
import Derived.Test.YthnckplfnmkmpaaFK
import Derived.Test.YthnckplfnmkmpaaFLawsMarkText
import Derived.Test.YthnckplfnmkmpaaFSpecSwapNeighbours
import Derived.Test.YthnckplfnmkmpaaFImplInstrImplIsCodeC1160
import Derived.Test.YthnckplfnmkmpaaFLawsEqInstr
namespace Go.Proofs.Ythnckplfnmkmpaa.F
open Go.RowKit Go.Proofs.YthnckplfnmkmpaaW.PrintWords Go.Proofs.YthnckplfnmkmpaaW.PrintLast Go.Proofs.YthnckplfnmkmpaaW.PrintMore
attribute [local go_sem] max2_int min2_int max_two min_two max_three min_three max_four min_four   -- for this text's walks alone
set_option linter.unusedVariables false
set_option linter.unusedSimpArgs false

/-! ### laws_heldInstrS: function 31 -/
def laws_heldInstrS.l0 : Nat → List (S37) → Int → Int → Option (Int)
 | 0, _, _, _ => none
 | k + 1, x0, x1, x5 => if x5 < (x0.length : Int) then (if 0 ≤ x5 then ((laws_markText.f k x1).bind fun t815 => (if ((rd_T37 x0 x5).f0).toList = t815.toList then (if ((rd_T37 x0 x5).f1) = (wrap64 (x1 + 1)) then (if ((rd_T37 x0 x5).f2) = (wrap64 ((wrap64 (x1 + 1)) + 1)) then (if ((rd_T37 x0 x5).f3) = (wrap64 ((wrap64 ((wrap64 (x1 + 1)) + 1)) + 1)) then (if ((rd_T37 x0 x5).f4) = (wrap64 ((wrap64 ((wrap64 ((wrap64 (x1 + 1)) + 1)) + 1)) + 1)) then (laws_heldInstrS.l0 k x0 (wrap64 ((wrap64 ((wrap64 ((wrap64 ((wrap64 (x1 + 1)) + 1)) + 1)) + 1)) + 1)) (wrap64 (x5 + 1))) else (some (-1))) else (some (-1))) else (some (-1))) else (some (-1))) else (some (-1)))) else (none)) else (some x1)
def laws_heldInstrS.f (k : Nat) (l0 : List (S37)) (a1 : Int) : Option (Int) := laws_heldInstrS.l0 k l0 a1 0
theorem laws_heldInstrS.mono_l : ∀ k, (∀ y0 y1 y2, LeO (laws_heldInstrS.l0 k y0 y1 y2) (laws_heldInstrS.l0 (k + 1) y0 y1 y2))
 | 0 => fun _ _ _ r h => by simp [laws_heldInstrS.l0] at h
 | k + 1 => by
  have ih0 := laws_heldInstrS.mono_l k
  ·intro y0 y1 y2
   unfold laws_heldInstrS.l0
   repeat' first
   | (with_reducible exact ih0 _ _ _)
   | (with_reducible exact laws_markText.mono _ _)
   | (with_reducible exact LeO.refl _)
   | (with_reducible exact LeO.none _)
   | (with_reducible refine LeO.ite ?_ ?_)
   | (with_reducible refine LeO.bind ?_ (fun _ => ?_))
   | exact ih0 _ _ _
   | exact laws_markText.mono _ _
   | exact LeO.none _
   | refine LeO.ite ?_ ?_
   | refine LeO.bind ?_ (fun _ => ?_)
theorem laws_heldInstrS.mono : ∀ a0 a1 k, LeO (laws_heldInstrS.f k a0 a1) (laws_heldInstrS.f (k + 1) a0 a1) := by
 intro a0 a1 k
 have ih0 := laws_heldInstrS.mono_l k
 unfold laws_heldInstrS.f
 repeat' first
   | (with_reducible exact ih0 _ _ _)
   | (with_reducible exact laws_markText.mono _ _)
   | (with_reducible exact LeO.refl _)
   | (with_reducible exact LeO.none _)
   | (with_reducible refine LeO.ite ?_ ?_)
   | (with_reducible refine LeO.bind ?_ (fun _ => ?_))
   | exact ih0 _ _ _
   | exact laws_markText.mono _ _
   | exact LeO.none _
   | refine LeO.ite ?_ ?_
   | refine LeO.bind ?_ (fun _ => ?_)
def laws_heldInstrS.T4 : Bool × List (List Nat × List Nat) := (true, [([], []), ([], []), ([0, 1], [0, 1]), ([2], [2]), ([3], [3]), ([], []), ([5], [5]), ([4, 6], [4, 6])])
def laws_heldInstrS.B4 : List Nat := [0, 0, 3, 7, 15, 0, 32, 127]
theorem laws_heldInstrS.tab4 : rtab .any (opsOf Try.f31 4) = laws_heldInstrS.T4 := by kernel_rfl
theorem laws_heldInstrS.bits4 : waitsOk laws_heldInstrS.T4.2 laws_heldInstrS.B4 = true := by kernel_rfl
set_option maxHeartbeats 8000000 in
set_option maxRecDepth 100000 in
theorem laws_heldInstrS.calls (k : Nat) (A0 : Option Addr) (c0 : Nat) (l0 : List (S37)) (a1 : Int) (r : Int) (w : World) (hr0 : Kd.C k37 w A0 l0.length l0) (hc0 : l0.length ≤ c0) (h : laws_heldInstrS.f k l0 a1 = some r) :
  Calls Try.prog 31 #[.slice A0 l0.length c0, .int .i64 a1] w fun e w' => e = .returned (.int .i64 r) ∧ Below w.heap.size w w' := by
 have HR0 := zK hr0
 have HC0 := zK hc0
 clear hr0 hc0
 have HB := zK (Below.refl w.heap.size w)
 have H : (laws_heldInstrS.l0 k l0 a1 0) = some r := h
 clear h
 have H' := zK H
 clear H
 go_enter Try.func31, Try.ntmps31
 go_wp2
 go_loopg [1, 5] k (fun kq v1 v5 w' => ∃ (x1_1 : Int) (x5_1 : Int), v1 = .int .i64 x1_1 ∧ v5 = .int .i64 x5_1 ∧ Aside0 (laws_heldInstrS.l0 kq l0 x1_1 x5_1 = some r) ∧ Aside0 (kq ≤ k) ∧ Aside0 (Below w.heap.size w w'))
 case atStart => exact ⟨(a1), (0), (by first | rfl | (simp; done) | (simp [*]; done)), (by first | rfl | (simp; done) | (simp [*]; done)), H', ⟨Nat.le_refl _⟩, ⟨by repeat (first | (with_reducible first | exact HB.out | apply zA | apply zB | apply zC) | exact HB.out)⟩⟩
 case round =>
  clear H'
  try clear p2
  obtain ⟨x1_1, x5_1, rfl, rfl, HA, HK1, HB⟩ := hrel
  cases gk with
  | zero => exact absurd HA.out (by simp [laws_heldInstrS.l0])
  | succ k1 =>
   have H := HA.out
   clear HA
   simp only [laws_heldInstrS.l0] at H
   by_cases c3 : x5_1 < (l0.length : Int)
   ·rw [if_pos c3] at H
    have c3b0 : decide (x5_1 < (l0.length : Int)) = true := decide_eq_true c3
    clear c3
    by_cases c4 : 0 ≤ x5_1
    ·rw [if_pos c4] at H
     have c4b0 : decide (0 ≤ x5_1) = true := decide_eq_true c4
     clear c4
     replace H := Option.bind_eq_some_iff.mp H
     obtain ⟨t815, A50, H⟩ := H
     replace H : (if ((rd_T37 l0 x5_1).f0).toList = t815.toList then (if ((rd_T37 l0 x5_1).f1) = (wrap64 (x1_1 + 1)) then (if ((rd_T37 l0 x5_1).f2) = (wrap64 ((wrap64 (x1_1 + 1)) + 1)) then (if ((rd_T37 l0 x5_1).f3) = (wrap64 ((wrap64 ((wrap64 (x1_1 + 1)) + 1)) + 1)) then (if ((rd_T37 l0 x5_1).f4) = (wrap64 ((wrap64 ((wrap64 ((wrap64 (x1_1 + 1)) + 1)) + 1)) + 1)) then (laws_heldInstrS.l0 k1 l0 (wrap64 ((wrap64 ((wrap64 ((wrap64 ((wrap64 (x1_1 + 1)) + 1)) + 1)) + 1)) + 1)) (wrap64 (x5_1 + 1))) else (some (-1))) else (some (-1))) else (some (-1))) else (some (-1))) else (some (-1))) = some r := H
     have A5 := zK A50
     clear A50
     by_cases c6 : ((rd_T37 l0 x5_1).f0).toList = t815.toList
     ·rw [if_pos c6] at H
      have c6b0 : (((rd_T37 l0 x5_1).f0).toList == t815.toList) = true := beq_iff_eq.mpr c6
      have c6b1 : (((rd_T37 l0 x5_1).f0).toList != t815.toList) = false := bne_eq_false_iff_eq.mpr c6
      clear c6
      by_cases c7 : ((rd_T37 l0 x5_1).f1) = (wrap64 (x1_1 + 1))
      ·rw [if_pos c7] at H
       have c7b0 : (((rd_T37 l0 x5_1).f1) == (wrap64 (x1_1 + 1))) = true := beq_iff_eq.mpr c7
       have c7b1 : (((rd_T37 l0 x5_1).f1) != (wrap64 (x1_1 + 1))) = false := bne_eq_false_iff_eq.mpr c7
       clear c7
       by_cases c8 : ((rd_T37 l0 x5_1).f2) = (wrap64 ((wrap64 (x1_1 + 1)) + 1))
       ·rw [if_pos c8] at H
        have c8b0 : (((rd_T37 l0 x5_1).f2) == (wrap64 ((wrap64 (x1_1 + 1)) + 1))) = true := beq_iff_eq.mpr c8
        have c8b1 : (((rd_T37 l0 x5_1).f2) != (wrap64 ((wrap64 (x1_1 + 1)) + 1))) = false := bne_eq_false_iff_eq.mpr c8
        clear c8
        by_cases c9 : ((rd_T37 l0 x5_1).f3) = (wrap64 ((wrap64 ((wrap64 (x1_1 + 1)) + 1)) + 1))
        ·rw [if_pos c9] at H
         have c9b0 : (((rd_T37 l0 x5_1).f3) == (wrap64 ((wrap64 ((wrap64 (x1_1 + 1)) + 1)) + 1))) = true := beq_iff_eq.mpr c9
         have c9b1 : (((rd_T37 l0 x5_1).f3) != (wrap64 ((wrap64 ((wrap64 (x1_1 + 1)) + 1)) + 1))) = false := bne_eq_false_iff_eq.mpr c9
         clear c9
         by_cases c10 : ((rd_T37 l0 x5_1).f4) = (wrap64 ((wrap64 ((wrap64 ((wrap64 (x1_1 + 1)) + 1)) + 1)) + 1))
         ·rw [if_pos c10] at H
          have c10b0 : (((rd_T37 l0 x5_1).f4) == (wrap64 ((wrap64 ((wrap64 ((wrap64 (x1_1 + 1)) + 1)) + 1)) + 1))) = true := beq_iff_eq.mpr c10
          have c10b1 : (((rd_T37 l0 x5_1).f4) != (wrap64 ((wrap64 ((wrap64 ((wrap64 (x1_1 + 1)) + 1)) + 1)) + 1))) = false := bne_eq_false_iff_eq.mpr c10
          clear c10
          have H' := zK H
          clear H
          try go_wp2
          have n0_ := zK (zC HB.out)
          clear HB
          have HB := n0_
          clear n0_
          have p814 : 0 ≤ (x5_1 : Int) := zo
          have q814 : x5_1 < (l0.length : Int) := zo
          obtain ⟨ad814, e814, hx814_0, hx814_1, hx814_2, hx814_3, hx814_4⟩ := at_T37 HR0.out x5_1 p814 q814
          have hw814_4 := hx814_4
          have hw814_3 := hx814_3
          have hw814_2 := hx814_2
          have hw814_1 := hx814_1
          have hw814_0 := hx814_0
          cases e814
          replace hx814_0 := zt HB.out hx814_0
          replace hx814_1 := zt HB.out hx814_1
          replace hx814_2 := zt HB.out hx814_2
          replace hx814_3 := zt HB.out hx814_3
          replace hx814_4 := zt HB.out hx814_4
          replace p814 := eq_true p814
          replace q814 := eq_true q814
          refine start_ (n := 8) (S := fun w' => w'.cell? (ad814.add ((x5_1).toNat * 5)) = some (.string ((rd_T37 l0 x5_1).f0)) ∧ w'.cell? ⟨(ad814.add ((x5_1).toNat * 5)).block, (ad814.add ((x5_1).toNat * 5)).off + 1, none⟩ = some (.int .i64 ((rd_T37 l0 x5_1).f1)) ∧ w'.cell? ⟨(ad814.add ((x5_1).toNat * 5)).block, (ad814.add ((x5_1).toNat * 5)).off + 2, none⟩ = some (.int .i64 ((rd_T37 l0 x5_1).f2)) ∧ w'.cell? ⟨(ad814.add ((x5_1).toNat * 5)).block, (ad814.add ((x5_1).toNat * 5)).off + 3, none⟩ = some (.int .i64 ((rd_T37 l0 x5_1).f3)) ∧ w'.cell? ⟨(ad814.add ((x5_1).toNat * 5)).block, (ad814.add ((x5_1).toNat * 5)).off + 4, none⟩ = some (.int .i64 ((rd_T37 l0 x5_1).f4))) (ds := []) #[false, false, false, false, false, false, false, false] (by kernel_rfl) rfl rfl ⟨(zt HB.out hw814_0), (zt HB.out hw814_1), (zt HB.out hw814_2), (zt HB.out hw814_3), (zt HB.out hw814_4)⟩ (fun hHeld => ?_); refine with_tabW laws_heldInstrS.tab4 laws_heldInstrS.bits4 (fun HT_ HW_ => ?_)
          generalize wr.drew = w11 at HB hx814_0 hx814_1 hx814_2 hx814_3 hx814_4 hHeld ⊢
          refine pure_ (i := 0) (N := some 12) (v := ?_) (a' := ?_) #[true, false, false, false, false, false, false, false] rfl rfl (any_of HT_.out (by kernel_rfl)) (fun _ _ _ h => h) (Or.inl ⟨by rfl, ?_⟩) ?_ ?_
          rotate_left
          ·intro w'
           go_simp
           with_reducible rfl
          rotate_left
          ·simp only [Act.put, z1, z2, z3, i64_w, i32_w]
           rfl
          refine pure_ (i := 1) (N := some 13) (v := ?_) (a' := ?_) #[true, true, false, false, false, false, false, false] rfl rfl (any_of HT_.out (by kernel_rfl)) (fun _ _ _ h => h) (Or.inl ⟨by rfl, ?_⟩) ?_ ?_
          rotate_left
          ·intro w'
           go_simp
           with_reducible rfl
          rotate_left
          ·simp only [Act.put, z1, z2, z3, i64_w, i32_w]
           rfl
          refine pure_ (i := 2) (N := some 14) (v := ?_) (a' := ?_) #[true, true, true, false, false, false, false, false] rfl rfl (any_of HT_.out (by kernel_rfl)) (fun _ _ _ h => h) (Or.inl ⟨by rfl, ?_⟩) ?_ ?_
          rotate_left
          ·intro w'
           go_simp
           with_reducible rfl
          rotate_left
          ·simp only [Act.put, z1, z2, z3, i64_w, i32_w]
           rfl
          refine pure_ (i := 3) (N := some 15) (v := ?_) (a' := ?_) #[true, true, true, true, false, false, false, false] rfl rfl (any_of HT_.out (by kernel_rfl)) (fun _ _ _ h => h) (Or.inl ⟨by rfl, ?_⟩) ?_ ?_
          rotate_left
          ·intro w'
           go_simp
           with_reducible rfl
          rotate_left
          ·simp only [Act.put, z1, z2, z3, i64_w, i32_w]
           rfl
          refine pure_ (i := 5) (N := some 17) (v := ?_) (a' := ?_) #[true, true, true, true, false, true, false, false] rfl rfl (any_of HT_.out (by kernel_rfl)) (fun _ _ _ h => h) (Or.inl ⟨by rfl, ?_⟩) ?_ ?_
          rotate_left
          ·intro w'
           go_simp
           with_reducible rfl
          rotate_left
          ·simp only [Act.put, z1, z2, z3, i64_w, i32_w]
           rfl
          refine take_ (i := 4) (N := some 16) (v := ?_) (a' := ?_) #[true, true, true, true, true, true, false, false] rfl rfl (take_ofW HT_.out HW_.out (by kernel_rfl)) (fun _ _ _ h => h) (Or.inl ⟨by rfl, ?_⟩) hHeld ?_ ?_
          rotate_left
          ·rintro w' ⟨s0, s1, s2, s3, s4⟩
           go_simp
           with_reducible rfl
          rotate_left
          ·simp only [Act.put, z1, z2, z3, i64_w, i32_w]
           rfl
          refine one_ (i := 6) (N := some 18) #[true, true, true, true, true, true, true, false] rfl rfl (one_of HT_.out (by kernel_rfl)) (by decide) (fun K hK => ?_)
          refine goes_ Try.func48 (by kernel_rfl) rfl #[.int .i64 x1_1] (by rfl) rfl rfl (by (try simp only [z6, z7, z8]); first | done | rfl | (simp only [z4, z5]; rfl)) ?_
          with_reducible refine (laws_markText.calls k1 x1_1 t815 _ A5.out).mono ?_
          rintro e w12 ⟨rfl, hb⟩
          refine ⟨_, rfl, ?_⟩
          have n0_ := zK (zL (by repeat (first | (with_reducible first | exact HB.out | apply zA | apply zB | apply zC) | exact HB.out)) hb)
          clear HB
          have HB := n0_
          clear n0_
          (try clear hb)
          (try clear hb2)
          (try clear hk)
          (try clear hi)
          refine hK.out _ _ ⟨(zt HB.out hw814_0 :), (zt HB.out hw814_1 :), (zt HB.out hw814_2 :), (zt HB.out hw814_3 :), (zt HB.out hw814_4 :)⟩ (fun hHeld => ?_)
          clear hK K
          refine norm_ (a' := ?_) ?_ ?_
          rotate_left
          ·show Act.put _ (some 18) _ = _
           simp only [Act.put, z1, z2, z3, i64_w, i32_w]
           rfl
          refine pure_ (i := 7) (N := some 19) (v := ?_) (a' := ?_) #[true, true, true, true, true, true, true, true] rfl rfl (any_of HT_.out (by kernel_rfl)) (fun _ _ _ h => h) (Or.inl ⟨by rfl, ?_⟩) ?_ ?_
          rotate_left
          ·intro w'
           go_simp
           with_reducible rfl
          rotate_left
          ·simp only [Act.put, z1, z2, z3, i64_w, i32_w]
           rfl
          refine done_ (done_of HT_.out (by kernel_rfl)) ?_
          have p816 : 0 ≤ (x5_1 : Int) := zo
          have q816 : x5_1 < (l0.length : Int) := zo
          obtain ⟨ad816, e816, hx816_0, hx816_1, hx816_2, hx816_3, hx816_4⟩ := at_T37 HR0.out x5_1 p816 q816
          obtain rfl : ad814 = ad816 := (by injection e816)
          replace hx816_0 := zt HB.out hx816_0
          replace hx816_1 := zt HB.out hx816_1
          replace hx816_2 := zt HB.out hx816_2
          replace hx816_3 := zt HB.out hx816_3
          replace hx816_4 := zt HB.out hx816_4
          replace p816 := eq_true p816
          replace q816 := eq_true q816
          have p817 : 0 ≤ (x5_1 : Int) := zo
          have q817 : x5_1 < (l0.length : Int) := zo
          obtain ⟨ad817, e817, hx817_0, hx817_1, hx817_2, hx817_3, hx817_4⟩ := at_T37 HR0.out x5_1 p817 q817
          obtain rfl : ad814 = ad817 := (by injection e817)
          replace hx817_0 := zt HB.out hx817_0
          replace hx817_1 := zt HB.out hx817_1
          replace hx817_2 := zt HB.out hx817_2
          replace hx817_3 := zt HB.out hx817_3
          replace hx817_4 := zt HB.out hx817_4
          replace p817 := eq_true p817
          replace q817 := eq_true q817
          have p818 : 0 ≤ (x5_1 : Int) := zo
          have q818 : x5_1 < (l0.length : Int) := zo
          obtain ⟨ad818, e818, hx818_0, hx818_1, hx818_2, hx818_3, hx818_4⟩ := at_T37 HR0.out x5_1 p818 q818
          obtain rfl : ad814 = ad818 := (by injection e818)
          replace hx818_0 := zt HB.out hx818_0
          replace hx818_1 := zt HB.out hx818_1
          replace hx818_2 := zt HB.out hx818_2
          replace hx818_3 := zt HB.out hx818_3
          replace hx818_4 := zt HB.out hx818_4
          replace p818 := eq_true p818
          replace q818 := eq_true q818
          have p819 : 0 ≤ (x5_1 : Int) := zo
          have q819 : x5_1 < (l0.length : Int) := zo
          obtain ⟨ad819, e819, hx819_0, hx819_1, hx819_2, hx819_3, hx819_4⟩ := at_T37 HR0.out x5_1 p819 q819
          obtain rfl : ad814 = ad819 := (by injection e819)
          replace hx819_0 := zt HB.out hx819_0
          replace hx819_1 := zt HB.out hx819_1
          replace hx819_2 := zt HB.out hx819_2
          replace hx819_3 := zt HB.out hx819_3
          replace hx819_4 := zt HB.out hx819_4
          replace p819 := eq_true p819
          replace q819 := eq_true q819
          try go_wp2
          go_roundg k1
          case measure => have := HK1.out; omega
          case rel => exact ⟨(wrap64 ((wrap64 ((wrap64 ((wrap64 ((wrap64 (x1_1 + 1)) + 1)) + 1)) + 1)) + 1)), (wrap64 (x5_1 + 1)), (by first | rfl | (simp; done) | (simp [*]; done)), (by first | rfl | (simp; done) | (simp [*]; done)), H', ⟨by have := HK1.out; omega⟩, ⟨by repeat (first | (with_reducible first | exact HB.out | apply zA | apply zB | apply zC) | exact HB.out)⟩⟩
         ·rw [if_neg c10] at H
          have c10b0 : (((rd_T37 l0 x5_1).f4) == (wrap64 ((wrap64 ((wrap64 ((wrap64 (x1_1 + 1)) + 1)) + 1)) + 1))) = false := beq_eq_false_iff_ne.mpr c10
          have c10b1 : (((rd_T37 l0 x5_1).f4) != (wrap64 ((wrap64 ((wrap64 ((wrap64 (x1_1 + 1)) + 1)) + 1)) + 1))) = true := bne_iff_ne.mpr c10
          obtain rfl := Option.some.inj H
          try go_wp2
          have n0_ := zK (zC HB.out)
          clear HB
          have HB := n0_
          clear n0_
          have p814 : 0 ≤ (x5_1 : Int) := zo
          have q814 : x5_1 < (l0.length : Int) := zo
          obtain ⟨ad814, e814, hx814_0, hx814_1, hx814_2, hx814_3, hx814_4⟩ := at_T37 HR0.out x5_1 p814 q814
          have hw814_4 := hx814_4
          have hw814_3 := hx814_3
          have hw814_2 := hx814_2
          have hw814_1 := hx814_1
          have hw814_0 := hx814_0
          cases e814
          replace hx814_0 := zt HB.out hx814_0
          replace hx814_1 := zt HB.out hx814_1
          replace hx814_2 := zt HB.out hx814_2
          replace hx814_3 := zt HB.out hx814_3
          replace hx814_4 := zt HB.out hx814_4
          replace p814 := eq_true p814
          replace q814 := eq_true q814
          refine start_ (n := 8) (S := fun w' => w'.cell? (ad814.add ((x5_1).toNat * 5)) = some (.string ((rd_T37 l0 x5_1).f0)) ∧ w'.cell? ⟨(ad814.add ((x5_1).toNat * 5)).block, (ad814.add ((x5_1).toNat * 5)).off + 1, none⟩ = some (.int .i64 ((rd_T37 l0 x5_1).f1)) ∧ w'.cell? ⟨(ad814.add ((x5_1).toNat * 5)).block, (ad814.add ((x5_1).toNat * 5)).off + 2, none⟩ = some (.int .i64 ((rd_T37 l0 x5_1).f2)) ∧ w'.cell? ⟨(ad814.add ((x5_1).toNat * 5)).block, (ad814.add ((x5_1).toNat * 5)).off + 3, none⟩ = some (.int .i64 ((rd_T37 l0 x5_1).f3)) ∧ w'.cell? ⟨(ad814.add ((x5_1).toNat * 5)).block, (ad814.add ((x5_1).toNat * 5)).off + 4, none⟩ = some (.int .i64 ((rd_T37 l0 x5_1).f4))) (ds := []) #[false, false, false, false, false, false, false, false] (by kernel_rfl) rfl rfl ⟨(zt HB.out hw814_0), (zt HB.out hw814_1), (zt HB.out hw814_2), (zt HB.out hw814_3), (zt HB.out hw814_4)⟩ (fun hHeld => ?_); refine with_tabW laws_heldInstrS.tab4 laws_heldInstrS.bits4 (fun HT_ HW_ => ?_)
          generalize wr.drew = w13 at HB hx814_0 hx814_1 hx814_2 hx814_3 hx814_4 hHeld ⊢
          refine pure_ (i := 0) (N := some 12) (v := ?_) (a' := ?_) #[true, false, false, false, false, false, false, false] rfl rfl (any_of HT_.out (by kernel_rfl)) (fun _ _ _ h => h) (Or.inl ⟨by rfl, ?_⟩) ?_ ?_
          rotate_left
          ·intro w'
           go_simp
           with_reducible rfl
          rotate_left
          ·simp only [Act.put, z1, z2, z3, i64_w, i32_w]
           rfl
          refine pure_ (i := 1) (N := some 13) (v := ?_) (a' := ?_) #[true, true, false, false, false, false, false, false] rfl rfl (any_of HT_.out (by kernel_rfl)) (fun _ _ _ h => h) (Or.inl ⟨by rfl, ?_⟩) ?_ ?_
          rotate_left
          ·intro w'
           go_simp
           with_reducible rfl
          rotate_left
          ·simp only [Act.put, z1, z2, z3, i64_w, i32_w]
           rfl
          refine pure_ (i := 2) (N := some 14) (v := ?_) (a' := ?_) #[true, true, true, false, false, false, false, false] rfl rfl (any_of HT_.out (by kernel_rfl)) (fun _ _ _ h => h) (Or.inl ⟨by rfl, ?_⟩) ?_ ?_
          rotate_left
          ·intro w'
           go_simp
           with_reducible rfl
          rotate_left
          ·simp only [Act.put, z1, z2, z3, i64_w, i32_w]
           rfl
          refine pure_ (i := 3) (N := some 15) (v := ?_) (a' := ?_) #[true, true, true, true, false, false, false, false] rfl rfl (any_of HT_.out (by kernel_rfl)) (fun _ _ _ h => h) (Or.inl ⟨by rfl, ?_⟩) ?_ ?_
          rotate_left
          ·intro w'
           go_simp
           with_reducible rfl
          rotate_left
          ·simp only [Act.put, z1, z2, z3, i64_w, i32_w]
           rfl
          refine pure_ (i := 5) (N := some 17) (v := ?_) (a' := ?_) #[true, true, true, true, false, true, false, false] rfl rfl (any_of HT_.out (by kernel_rfl)) (fun _ _ _ h => h) (Or.inl ⟨by rfl, ?_⟩) ?_ ?_
          rotate_left
          ·intro w'
           go_simp
           with_reducible rfl
          rotate_left
          ·simp only [Act.put, z1, z2, z3, i64_w, i32_w]
           rfl
          refine take_ (i := 4) (N := some 16) (v := ?_) (a' := ?_) #[true, true, true, true, true, true, false, false] rfl rfl (take_ofW HT_.out HW_.out (by kernel_rfl)) (fun _ _ _ h => h) (Or.inl ⟨by rfl, ?_⟩) hHeld ?_ ?_
          rotate_left
          ·rintro w' ⟨s0, s1, s2, s3, s4⟩
           go_simp
           with_reducible rfl
          rotate_left
          ·simp only [Act.put, z1, z2, z3, i64_w, i32_w]
           rfl
          refine one_ (i := 6) (N := some 18) #[true, true, true, true, true, true, true, false] rfl rfl (one_of HT_.out (by kernel_rfl)) (by decide) (fun K hK => ?_)
          refine goes_ Try.func48 (by kernel_rfl) rfl #[.int .i64 x1_1] (by rfl) rfl rfl (by (try simp only [z6, z7, z8]); first | done | rfl | (simp only [z4, z5]; rfl)) ?_
          with_reducible refine (laws_markText.calls k1 x1_1 t815 _ A5.out).mono ?_
          rintro e w14 ⟨rfl, hb⟩
          refine ⟨_, rfl, ?_⟩
          have n0_ := zK (zL (by repeat (first | (with_reducible first | exact HB.out | apply zA | apply zB | apply zC) | exact HB.out)) hb)
          clear HB
          have HB := n0_
          clear n0_
          (try clear hb)
          (try clear hb2)
          (try clear hk)
          (try clear hi)
          refine hK.out _ _ ⟨(zt HB.out hw814_0 :), (zt HB.out hw814_1 :), (zt HB.out hw814_2 :), (zt HB.out hw814_3 :), (zt HB.out hw814_4 :)⟩ (fun hHeld => ?_)
          clear hK K
          refine norm_ (a' := ?_) ?_ ?_
          rotate_left
          ·show Act.put _ (some 18) _ = _
           simp only [Act.put, z1, z2, z3, i64_w, i32_w]
           rfl
          refine pure_ (i := 7) (N := some 19) (v := ?_) (a' := ?_) #[true, true, true, true, true, true, true, true] rfl rfl (any_of HT_.out (by kernel_rfl)) (fun _ _ _ h => h) (Or.inl ⟨by rfl, ?_⟩) ?_ ?_
          rotate_left
          ·intro w'
           go_simp
           with_reducible rfl
          rotate_left
          ·simp only [Act.put, z1, z2, z3, i64_w, i32_w]
           rfl
          refine done_ (done_of HT_.out (by kernel_rfl)) ?_
          have p816 : 0 ≤ (x5_1 : Int) := zo
          have q816 : x5_1 < (l0.length : Int) := zo
          obtain ⟨ad816, e816, hx816_0, hx816_1, hx816_2, hx816_3, hx816_4⟩ := at_T37 HR0.out x5_1 p816 q816
          obtain rfl : ad814 = ad816 := (by injection e816)
          replace hx816_0 := zt HB.out hx816_0
          replace hx816_1 := zt HB.out hx816_1
          replace hx816_2 := zt HB.out hx816_2
          replace hx816_3 := zt HB.out hx816_3
          replace hx816_4 := zt HB.out hx816_4
          replace p816 := eq_true p816
          replace q816 := eq_true q816
          have p817 : 0 ≤ (x5_1 : Int) := zo
          have q817 : x5_1 < (l0.length : Int) := zo
          obtain ⟨ad817, e817, hx817_0, hx817_1, hx817_2, hx817_3, hx817_4⟩ := at_T37 HR0.out x5_1 p817 q817
          obtain rfl : ad814 = ad817 := (by injection e817)
          replace hx817_0 := zt HB.out hx817_0
          replace hx817_1 := zt HB.out hx817_1
          replace hx817_2 := zt HB.out hx817_2
          replace hx817_3 := zt HB.out hx817_3
          replace hx817_4 := zt HB.out hx817_4
          replace p817 := eq_true p817
          replace q817 := eq_true q817
          have p818 : 0 ≤ (x5_1 : Int) := zo
          have q818 : x5_1 < (l0.length : Int) := zo
          obtain ⟨ad818, e818, hx818_0, hx818_1, hx818_2, hx818_3, hx818_4⟩ := at_T37 HR0.out x5_1 p818 q818
          obtain rfl : ad814 = ad818 := (by injection e818)
          replace hx818_0 := zt HB.out hx818_0
          replace hx818_1 := zt HB.out hx818_1
          replace hx818_2 := zt HB.out hx818_2
          replace hx818_3 := zt HB.out hx818_3
          replace hx818_4 := zt HB.out hx818_4
          replace p818 := eq_true p818
          replace q818 := eq_true q818
          have p819 : 0 ≤ (x5_1 : Int) := zo
          have q819 : x5_1 < (l0.length : Int) := zo
          obtain ⟨ad819, e819, hx819_0, hx819_1, hx819_2, hx819_3, hx819_4⟩ := at_T37 HR0.out x5_1 p819 q819
          obtain rfl : ad814 = ad819 := (by injection e819)
          replace hx819_0 := zt HB.out hx819_0
          replace hx819_1 := zt HB.out hx819_1
          replace hx819_2 := zt HB.out hx819_2
          replace hx819_3 := zt HB.out hx819_3
          replace hx819_4 := zt HB.out hx819_4
          replace p819 := eq_true p819
          replace q819 := eq_true q819
          try go_wp2
          go_ret
          exact ⟨by first | rfl | (simp [errW_none, errW_some] <;> rfl) | (simp [*, errW_none, errW_some] <;> rfl), by repeat (first | (with_reducible first | exact HB.out | apply zA | apply zB | apply zC) | exact HB.out)⟩
        ·rw [if_neg c9] at H
         have c9b0 : (((rd_T37 l0 x5_1).f3) == (wrap64 ((wrap64 ((wrap64 (x1_1 + 1)) + 1)) + 1))) = false := beq_eq_false_iff_ne.mpr c9
         have c9b1 : (((rd_T37 l0 x5_1).f3) != (wrap64 ((wrap64 ((wrap64 (x1_1 + 1)) + 1)) + 1))) = true := bne_iff_ne.mpr c9
         obtain rfl := Option.some.inj H
         try go_wp2
         have n0_ := zK (zC HB.out)
         clear HB
         have HB := n0_
         clear n0_
         have p814 : 0 ≤ (x5_1 : Int) := zo
         have q814 : x5_1 < (l0.length : Int) := zo
         obtain ⟨ad814, e814, hx814_0, hx814_1, hx814_2, hx814_3, hx814_4⟩ := at_T37 HR0.out x5_1 p814 q814
         have hw814_4 := hx814_4
         have hw814_3 := hx814_3
         have hw814_2 := hx814_2
         have hw814_1 := hx814_1
         have hw814_0 := hx814_0
         cases e814
         replace hx814_0 := zt HB.out hx814_0
         replace hx814_1 := zt HB.out hx814_1
         replace hx814_2 := zt HB.out hx814_2
         replace hx814_3 := zt HB.out hx814_3
         replace hx814_4 := zt HB.out hx814_4
         replace p814 := eq_true p814
         replace q814 := eq_true q814
         refine start_ (n := 8) (S := fun w' => w'.cell? (ad814.add ((x5_1).toNat * 5)) = some (.string ((rd_T37 l0 x5_1).f0)) ∧ w'.cell? ⟨(ad814.add ((x5_1).toNat * 5)).block, (ad814.add ((x5_1).toNat * 5)).off + 1, none⟩ = some (.int .i64 ((rd_T37 l0 x5_1).f1)) ∧ w'.cell? ⟨(ad814.add ((x5_1).toNat * 5)).block, (ad814.add ((x5_1).toNat * 5)).off + 2, none⟩ = some (.int .i64 ((rd_T37 l0 x5_1).f2)) ∧ w'.cell? ⟨(ad814.add ((x5_1).toNat * 5)).block, (ad814.add ((x5_1).toNat * 5)).off + 3, none⟩ = some (.int .i64 ((rd_T37 l0 x5_1).f3)) ∧ w'.cell? ⟨(ad814.add ((x5_1).toNat * 5)).block, (ad814.add ((x5_1).toNat * 5)).off + 4, none⟩ = some (.int .i64 ((rd_T37 l0 x5_1).f4))) (ds := []) #[false, false, false, false, false, false, false, false] (by kernel_rfl) rfl rfl ⟨(zt HB.out hw814_0), (zt HB.out hw814_1), (zt HB.out hw814_2), (zt HB.out hw814_3), (zt HB.out hw814_4)⟩ (fun hHeld => ?_); refine with_tabW laws_heldInstrS.tab4 laws_heldInstrS.bits4 (fun HT_ HW_ => ?_)
         generalize wr.drew = w15 at HB hx814_0 hx814_1 hx814_2 hx814_3 hx814_4 hHeld ⊢
         refine pure_ (i := 0) (N := some 12) (v := ?_) (a' := ?_) #[true, false, false, false, false, false, false, false] rfl rfl (any_of HT_.out (by kernel_rfl)) (fun _ _ _ h => h) (Or.inl ⟨by rfl, ?_⟩) ?_ ?_
         rotate_left
         ·intro w'
          go_simp
          with_reducible rfl
         rotate_left
         ·simp only [Act.put, z1, z2, z3, i64_w, i32_w]
          rfl
         refine pure_ (i := 1) (N := some 13) (v := ?_) (a' := ?_) #[true, true, false, false, false, false, false, false] rfl rfl (any_of HT_.out (by kernel_rfl)) (fun _ _ _ h => h) (Or.inl ⟨by rfl, ?_⟩) ?_ ?_
         rotate_left
         ·intro w'
          go_simp
          with_reducible rfl
         rotate_left
         ·simp only [Act.put, z1, z2, z3, i64_w, i32_w]
          rfl
         refine pure_ (i := 2) (N := some 14) (v := ?_) (a' := ?_) #[true, true, true, false, false, false, false, false] rfl rfl (any_of HT_.out (by kernel_rfl)) (fun _ _ _ h => h) (Or.inl ⟨by rfl, ?_⟩) ?_ ?_
         rotate_left
         ·intro w'
          go_simp
          with_reducible rfl
         rotate_left
         ·simp only [Act.put, z1, z2, z3, i64_w, i32_w]
          rfl
         refine pure_ (i := 3) (N := some 15) (v := ?_) (a' := ?_) #[true, true, true, true, false, false, false, false] rfl rfl (any_of HT_.out (by kernel_rfl)) (fun _ _ _ h => h) (Or.inl ⟨by rfl, ?_⟩) ?_ ?_
         rotate_left
         ·intro w'
          go_simp
          with_reducible rfl
         rotate_left
         ·simp only [Act.put, z1, z2, z3, i64_w, i32_w]
          rfl
         refine pure_ (i := 5) (N := some 17) (v := ?_) (a' := ?_) #[true, true, true, true, false, true, false, false] rfl rfl (any_of HT_.out (by kernel_rfl)) (fun _ _ _ h => h) (Or.inl ⟨by rfl, ?_⟩) ?_ ?_
         rotate_left
         ·intro w'
          go_simp
          with_reducible rfl
         rotate_left
         ·simp only [Act.put, z1, z2, z3, i64_w, i32_w]
          rfl
         refine take_ (i := 4) (N := some 16) (v := ?_) (a' := ?_) #[true, true, true, true, true, true, false, false] rfl rfl (take_ofW HT_.out HW_.out (by kernel_rfl)) (fun _ _ _ h => h) (Or.inl ⟨by rfl, ?_⟩) hHeld ?_ ?_
         rotate_left
         ·rintro w' ⟨s0, s1, s2, s3, s4⟩
          go_simp
          with_reducible rfl
         rotate_left
         ·simp only [Act.put, z1, z2, z3, i64_w, i32_w]
          rfl
         refine one_ (i := 6) (N := some 18) #[true, true, true, true, true, true, true, false] rfl rfl (one_of HT_.out (by kernel_rfl)) (by decide) (fun K hK => ?_)
         refine goes_ Try.func48 (by kernel_rfl) rfl #[.int .i64 x1_1] (by rfl) rfl rfl (by (try simp only [z6, z7, z8]); first | done | rfl | (simp only [z4, z5]; rfl)) ?_
         with_reducible refine (laws_markText.calls k1 x1_1 t815 _ A5.out).mono ?_
         rintro e w16 ⟨rfl, hb⟩
         refine ⟨_, rfl, ?_⟩
         have n0_ := zK (zL (by repeat (first | (with_reducible first | exact HB.out | apply zA | apply zB | apply zC) | exact HB.out)) hb)
         clear HB
         have HB := n0_
         clear n0_
         (try clear hb)
         (try clear hb2)
         (try clear hk)
         (try clear hi)
         refine hK.out _ _ ⟨(zt HB.out hw814_0 :), (zt HB.out hw814_1 :), (zt HB.out hw814_2 :), (zt HB.out hw814_3 :), (zt HB.out hw814_4 :)⟩ (fun hHeld => ?_)
         clear hK K
         refine norm_ (a' := ?_) ?_ ?_
         rotate_left
         ·show Act.put _ (some 18) _ = _
          simp only [Act.put, z1, z2, z3, i64_w, i32_w]
          rfl
         refine pure_ (i := 7) (N := some 19) (v := ?_) (a' := ?_) #[true, true, true, true, true, true, true, true] rfl rfl (any_of HT_.out (by kernel_rfl)) (fun _ _ _ h => h) (Or.inl ⟨by rfl, ?_⟩) ?_ ?_
         rotate_left
         ·intro w'
          go_simp
          with_reducible rfl
         rotate_left
         ·simp only [Act.put, z1, z2, z3, i64_w, i32_w]
          rfl
         refine done_ (done_of HT_.out (by kernel_rfl)) ?_
         have p816 : 0 ≤ (x5_1 : Int) := zo
         have q816 : x5_1 < (l0.length : Int) := zo
         obtain ⟨ad816, e816, hx816_0, hx816_1, hx816_2, hx816_3, hx816_4⟩ := at_T37 HR0.out x5_1 p816 q816
         obtain rfl : ad814 = ad816 := (by injection e816)
         replace hx816_0 := zt HB.out hx816_0
         replace hx816_1 := zt HB.out hx816_1
         replace hx816_2 := zt HB.out hx816_2
         replace hx816_3 := zt HB.out hx816_3
         replace hx816_4 := zt HB.out hx816_4
         replace p816 := eq_true p816
         replace q816 := eq_true q816
         have p817 : 0 ≤ (x5_1 : Int) := zo
         have q817 : x5_1 < (l0.length : Int) := zo
         obtain ⟨ad817, e817, hx817_0, hx817_1, hx817_2, hx817_3, hx817_4⟩ := at_T37 HR0.out x5_1 p817 q817
         obtain rfl : ad814 = ad817 := (by injection e817)
         replace hx817_0 := zt HB.out hx817_0
         replace hx817_1 := zt HB.out hx817_1
         replace hx817_2 := zt HB.out hx817_2
         replace hx817_3 := zt HB.out hx817_3
         replace hx817_4 := zt HB.out hx817_4
         replace p817 := eq_true p817
         replace q817 := eq_true q817
         have p818 : 0 ≤ (x5_1 : Int) := zo
         have q818 : x5_1 < (l0.length : Int) := zo
         obtain ⟨ad818, e818, hx818_0, hx818_1, hx818_2, hx818_3, hx818_4⟩ := at_T37 HR0.out x5_1 p818 q818
         obtain rfl : ad814 = ad818 := (by injection e818)
         replace hx818_0 := zt HB.out hx818_0
         replace hx818_1 := zt HB.out hx818_1
         replace hx818_2 := zt HB.out hx818_2
         replace hx818_3 := zt HB.out hx818_3
         replace hx818_4 := zt HB.out hx818_4
         replace p818 := eq_true p818
         replace q818 := eq_true q818
         try go_wp2
         go_ret
         exact ⟨by first | rfl | (simp [errW_none, errW_some] <;> rfl) | (simp [*, errW_none, errW_some] <;> rfl), by repeat (first | (with_reducible first | exact HB.out | apply zA | apply zB | apply zC) | exact HB.out)⟩
       ·rw [if_neg c8] at H
        have c8b0 : (((rd_T37 l0 x5_1).f2) == (wrap64 ((wrap64 (x1_1 + 1)) + 1))) = false := beq_eq_false_iff_ne.mpr c8
        have c8b1 : (((rd_T37 l0 x5_1).f2) != (wrap64 ((wrap64 (x1_1 + 1)) + 1))) = true := bne_iff_ne.mpr c8
        obtain rfl := Option.some.inj H
        try go_wp2
        have n0_ := zK (zC HB.out)
        clear HB
        have HB := n0_
        clear n0_
        have p814 : 0 ≤ (x5_1 : Int) := zo
        have q814 : x5_1 < (l0.length : Int) := zo
        obtain ⟨ad814, e814, hx814_0, hx814_1, hx814_2, hx814_3, hx814_4⟩ := at_T37 HR0.out x5_1 p814 q814
        have hw814_4 := hx814_4
        have hw814_3 := hx814_3
        have hw814_2 := hx814_2
        have hw814_1 := hx814_1
        have hw814_0 := hx814_0
        cases e814
        replace hx814_0 := zt HB.out hx814_0
        replace hx814_1 := zt HB.out hx814_1
        replace hx814_2 := zt HB.out hx814_2
        replace hx814_3 := zt HB.out hx814_3
        replace hx814_4 := zt HB.out hx814_4
        replace p814 := eq_true p814
        replace q814 := eq_true q814
        refine start_ (n := 8) (S := fun w' => w'.cell? (ad814.add ((x5_1).toNat * 5)) = some (.string ((rd_T37 l0 x5_1).f0)) ∧ w'.cell? ⟨(ad814.add ((x5_1).toNat * 5)).block, (ad814.add ((x5_1).toNat * 5)).off + 1, none⟩ = some (.int .i64 ((rd_T37 l0 x5_1).f1)) ∧ w'.cell? ⟨(ad814.add ((x5_1).toNat * 5)).block, (ad814.add ((x5_1).toNat * 5)).off + 2, none⟩ = some (.int .i64 ((rd_T37 l0 x5_1).f2)) ∧ w'.cell? ⟨(ad814.add ((x5_1).toNat * 5)).block, (ad814.add ((x5_1).toNat * 5)).off + 3, none⟩ = some (.int .i64 ((rd_T37 l0 x5_1).f3)) ∧ w'.cell? ⟨(ad814.add ((x5_1).toNat * 5)).block, (ad814.add ((x5_1).toNat * 5)).off + 4, none⟩ = some (.int .i64 ((rd_T37 l0 x5_1).f4))) (ds := []) #[false, false, false, false, false, false, false, false] (by kernel_rfl) rfl rfl ⟨(zt HB.out hw814_0), (zt HB.out hw814_1), (zt HB.out hw814_2), (zt HB.out hw814_3), (zt HB.out hw814_4)⟩ (fun hHeld => ?_); refine with_tabW laws_heldInstrS.tab4 laws_heldInstrS.bits4 (fun HT_ HW_ => ?_)
        generalize wr.drew = w17 at HB hx814_0 hx814_1 hx814_2 hx814_3 hx814_4 hHeld ⊢
        refine pure_ (i := 0) (N := some 12) (v := ?_) (a' := ?_) #[true, false, false, false, false, false, false, false] rfl rfl (any_of HT_.out (by kernel_rfl)) (fun _ _ _ h => h) (Or.inl ⟨by rfl, ?_⟩) ?_ ?_
        rotate_left
        ·intro w'
         go_simp
         with_reducible rfl
        rotate_left
        ·simp only [Act.put, z1, z2, z3, i64_w, i32_w]
         rfl
        refine pure_ (i := 1) (N := some 13) (v := ?_) (a' := ?_) #[true, true, false, false, false, false, false, false] rfl rfl (any_of HT_.out (by kernel_rfl)) (fun _ _ _ h => h) (Or.inl ⟨by rfl, ?_⟩) ?_ ?_
        rotate_left
        ·intro w'
         go_simp
         with_reducible rfl
        rotate_left
        ·simp only [Act.put, z1, z2, z3, i64_w, i32_w]
         rfl
        refine pure_ (i := 2) (N := some 14) (v := ?_) (a' := ?_) #[true, true, true, false, false, false, false, false] rfl rfl (any_of HT_.out (by kernel_rfl)) (fun _ _ _ h => h) (Or.inl ⟨by rfl, ?_⟩) ?_ ?_
        rotate_left
        ·intro w'
         go_simp
         with_reducible rfl
        rotate_left
        ·simp only [Act.put, z1, z2, z3, i64_w, i32_w]
         rfl
        refine pure_ (i := 3) (N := some 15) (v := ?_) (a' := ?_) #[true, true, true, true, false, false, false, false] rfl rfl (any_of HT_.out (by kernel_rfl)) (fun _ _ _ h => h) (Or.inl ⟨by rfl, ?_⟩) ?_ ?_
        rotate_left
        ·intro w'
         go_simp
         with_reducible rfl
        rotate_left
        ·simp only [Act.put, z1, z2, z3, i64_w, i32_w]
         rfl
        refine pure_ (i := 5) (N := some 17) (v := ?_) (a' := ?_) #[true, true, true, true, false, true, false, false] rfl rfl (any_of HT_.out (by kernel_rfl)) (fun _ _ _ h => h) (Or.inl ⟨by rfl, ?_⟩) ?_ ?_
        rotate_left
        ·intro w'
         go_simp
         with_reducible rfl
        rotate_left
        ·simp only [Act.put, z1, z2, z3, i64_w, i32_w]
         rfl
        refine take_ (i := 4) (N := some 16) (v := ?_) (a' := ?_) #[true, true, true, true, true, true, false, false] rfl rfl (take_ofW HT_.out HW_.out (by kernel_rfl)) (fun _ _ _ h => h) (Or.inl ⟨by rfl, ?_⟩) hHeld ?_ ?_
        rotate_left
        ·rintro w' ⟨s0, s1, s2, s3, s4⟩
         go_simp
         with_reducible rfl
        rotate_left
        ·simp only [Act.put, z1, z2, z3, i64_w, i32_w]
         rfl
        refine one_ (i := 6) (N := some 18) #[true, true, true, true, true, true, true, false] rfl rfl (one_of HT_.out (by kernel_rfl)) (by decide) (fun K hK => ?_)
        refine goes_ Try.func48 (by kernel_rfl) rfl #[.int .i64 x1_1] (by rfl) rfl rfl (by (try simp only [z6, z7, z8]); first | done | rfl | (simp only [z4, z5]; rfl)) ?_
        with_reducible refine (laws_markText.calls k1 x1_1 t815 _ A5.out).mono ?_
        rintro e w18 ⟨rfl, hb⟩
        refine ⟨_, rfl, ?_⟩
        have n0_ := zK (zL (by repeat (first | (with_reducible first | exact HB.out | apply zA | apply zB | apply zC) | exact HB.out)) hb)
        clear HB
        have HB := n0_
        clear n0_
        (try clear hb)
        (try clear hb2)
        (try clear hk)
        (try clear hi)
        refine hK.out _ _ ⟨(zt HB.out hw814_0 :), (zt HB.out hw814_1 :), (zt HB.out hw814_2 :), (zt HB.out hw814_3 :), (zt HB.out hw814_4 :)⟩ (fun hHeld => ?_)
        clear hK K
        refine norm_ (a' := ?_) ?_ ?_
        rotate_left
        ·show Act.put _ (some 18) _ = _
         simp only [Act.put, z1, z2, z3, i64_w, i32_w]
         rfl
        refine pure_ (i := 7) (N := some 19) (v := ?_) (a' := ?_) #[true, true, true, true, true, true, true, true] rfl rfl (any_of HT_.out (by kernel_rfl)) (fun _ _ _ h => h) (Or.inl ⟨by rfl, ?_⟩) ?_ ?_
        rotate_left
        ·intro w'
         go_simp
         with_reducible rfl
        rotate_left
        ·simp only [Act.put, z1, z2, z3, i64_w, i32_w]
         rfl
        refine done_ (done_of HT_.out (by kernel_rfl)) ?_
        have p816 : 0 ≤ (x5_1 : Int) := zo
        have q816 : x5_1 < (l0.length : Int) := zo
        obtain ⟨ad816, e816, hx816_0, hx816_1, hx816_2, hx816_3, hx816_4⟩ := at_T37 HR0.out x5_1 p816 q816
        obtain rfl : ad814 = ad816 := (by injection e816)
        replace hx816_0 := zt HB.out hx816_0
        replace hx816_1 := zt HB.out hx816_1
        replace hx816_2 := zt HB.out hx816_2
        replace hx816_3 := zt HB.out hx816_3
        replace hx816_4 := zt HB.out hx816_4
        replace p816 := eq_true p816
        replace q816 := eq_true q816
        have p817 : 0 ≤ (x5_1 : Int) := zo
        have q817 : x5_1 < (l0.length : Int) := zo
        obtain ⟨ad817, e817, hx817_0, hx817_1, hx817_2, hx817_3, hx817_4⟩ := at_T37 HR0.out x5_1 p817 q817
        obtain rfl : ad814 = ad817 := (by injection e817)
        replace hx817_0 := zt HB.out hx817_0
        replace hx817_1 := zt HB.out hx817_1
        replace hx817_2 := zt HB.out hx817_2
        replace hx817_3 := zt HB.out hx817_3
        replace hx817_4 := zt HB.out hx817_4
        replace p817 := eq_true p817
        replace q817 := eq_true q817
        try go_wp2
        go_ret
        exact ⟨by first | rfl | (simp [errW_none, errW_some] <;> rfl) | (simp [*, errW_none, errW_some] <;> rfl), by repeat (first | (with_reducible first | exact HB.out | apply zA | apply zB | apply zC) | exact HB.out)⟩
      ·rw [if_neg c7] at H
       have c7b0 : (((rd_T37 l0 x5_1).f1) == (wrap64 (x1_1 + 1))) = false := beq_eq_false_iff_ne.mpr c7
       have c7b1 : (((rd_T37 l0 x5_1).f1) != (wrap64 (x1_1 + 1))) = true := bne_iff_ne.mpr c7
       obtain rfl := Option.some.inj H
       try go_wp2
       have n0_ := zK (zC HB.out)
       clear HB
       have HB := n0_
       clear n0_
       have p814 : 0 ≤ (x5_1 : Int) := zo
       have q814 : x5_1 < (l0.length : Int) := zo
       obtain ⟨ad814, e814, hx814_0, hx814_1, hx814_2, hx814_3, hx814_4⟩ := at_T37 HR0.out x5_1 p814 q814
       have hw814_4 := hx814_4
       have hw814_3 := hx814_3
       have hw814_2 := hx814_2
       have hw814_1 := hx814_1
       have hw814_0 := hx814_0
       cases e814
       replace hx814_0 := zt HB.out hx814_0
       replace hx814_1 := zt HB.out hx814_1
       replace hx814_2 := zt HB.out hx814_2
       replace hx814_3 := zt HB.out hx814_3
       replace hx814_4 := zt HB.out hx814_4
       replace p814 := eq_true p814
       replace q814 := eq_true q814
       refine start_ (n := 8) (S := fun w' => w'.cell? (ad814.add ((x5_1).toNat * 5)) = some (.string ((rd_T37 l0 x5_1).f0)) ∧ w'.cell? ⟨(ad814.add ((x5_1).toNat * 5)).block, (ad814.add ((x5_1).toNat * 5)).off + 1, none⟩ = some (.int .i64 ((rd_T37 l0 x5_1).f1)) ∧ w'.cell? ⟨(ad814.add ((x5_1).toNat * 5)).block, (ad814.add ((x5_1).toNat * 5)).off + 2, none⟩ = some (.int .i64 ((rd_T37 l0 x5_1).f2)) ∧ w'.cell? ⟨(ad814.add ((x5_1).toNat * 5)).block, (ad814.add ((x5_1).toNat * 5)).off + 3, none⟩ = some (.int .i64 ((rd_T37 l0 x5_1).f3)) ∧ w'.cell? ⟨(ad814.add ((x5_1).toNat * 5)).block, (ad814.add ((x5_1).toNat * 5)).off + 4, none⟩ = some (.int .i64 ((rd_T37 l0 x5_1).f4))) (ds := []) #[false, false, false, false, false, false, false, false] (by kernel_rfl) rfl rfl ⟨(zt HB.out hw814_0), (zt HB.out hw814_1), (zt HB.out hw814_2), (zt HB.out hw814_3), (zt HB.out hw814_4)⟩ (fun hHeld => ?_); refine with_tabW laws_heldInstrS.tab4 laws_heldInstrS.bits4 (fun HT_ HW_ => ?_)
       generalize wr.drew = w19 at HB hx814_0 hx814_1 hx814_2 hx814_3 hx814_4 hHeld ⊢
       refine pure_ (i := 0) (N := some 12) (v := ?_) (a' := ?_) #[true, false, false, false, false, false, false, false] rfl rfl (any_of HT_.out (by kernel_rfl)) (fun _ _ _ h => h) (Or.inl ⟨by rfl, ?_⟩) ?_ ?_
       rotate_left
       ·intro w'
        go_simp
        with_reducible rfl
       rotate_left
       ·simp only [Act.put, z1, z2, z3, i64_w, i32_w]
        rfl
       refine pure_ (i := 1) (N := some 13) (v := ?_) (a' := ?_) #[true, true, false, false, false, false, false, false] rfl rfl (any_of HT_.out (by kernel_rfl)) (fun _ _ _ h => h) (Or.inl ⟨by rfl, ?_⟩) ?_ ?_
       rotate_left
       ·intro w'
        go_simp
        with_reducible rfl
       rotate_left
       ·simp only [Act.put, z1, z2, z3, i64_w, i32_w]
        rfl
       refine pure_ (i := 2) (N := some 14) (v := ?_) (a' := ?_) #[true, true, true, false, false, false, false, false] rfl rfl (any_of HT_.out (by kernel_rfl)) (fun _ _ _ h => h) (Or.inl ⟨by rfl, ?_⟩) ?_ ?_
       rotate_left
       ·intro w'
        go_simp
        with_reducible rfl
       rotate_left
       ·simp only [Act.put, z1, z2, z3, i64_w, i32_w]
        rfl
       refine pure_ (i := 3) (N := some 15) (v := ?_) (a' := ?_) #[true, true, true, true, false, false, false, false] rfl rfl (any_of HT_.out (by kernel_rfl)) (fun _ _ _ h => h) (Or.inl ⟨by rfl, ?_⟩) ?_ ?_
       rotate_left
       ·intro w'
        go_simp
        with_reducible rfl
       rotate_left
       ·simp only [Act.put, z1, z2, z3, i64_w, i32_w]
        rfl
       refine pure_ (i := 5) (N := some 17) (v := ?_) (a' := ?_) #[true, true, true, true, false, true, false, false] rfl rfl (any_of HT_.out (by kernel_rfl)) (fun _ _ _ h => h) (Or.inl ⟨by rfl, ?_⟩) ?_ ?_
       rotate_left
       ·intro w'
        go_simp
        with_reducible rfl
       rotate_left
       ·simp only [Act.put, z1, z2, z3, i64_w, i32_w]
        rfl
       refine take_ (i := 4) (N := some 16) (v := ?_) (a' := ?_) #[true, true, true, true, true, true, false, false] rfl rfl (take_ofW HT_.out HW_.out (by kernel_rfl)) (fun _ _ _ h => h) (Or.inl ⟨by rfl, ?_⟩) hHeld ?_ ?_
       rotate_left
       ·rintro w' ⟨s0, s1, s2, s3, s4⟩
        go_simp
        with_reducible rfl
       rotate_left
       ·simp only [Act.put, z1, z2, z3, i64_w, i32_w]
        rfl
       refine one_ (i := 6) (N := some 18) #[true, true, true, true, true, true, true, false] rfl rfl (one_of HT_.out (by kernel_rfl)) (by decide) (fun K hK => ?_)
       refine goes_ Try.func48 (by kernel_rfl) rfl #[.int .i64 x1_1] (by rfl) rfl rfl (by (try simp only [z6, z7, z8]); first | done | rfl | (simp only [z4, z5]; rfl)) ?_
       with_reducible refine (laws_markText.calls k1 x1_1 t815 _ A5.out).mono ?_
       rintro e w20 ⟨rfl, hb⟩
       refine ⟨_, rfl, ?_⟩
       have n0_ := zK (zL (by repeat (first | (with_reducible first | exact HB.out | apply zA | apply zB | apply zC) | exact HB.out)) hb)
       clear HB
       have HB := n0_
       clear n0_
       (try clear hb)
       (try clear hb2)
       (try clear hk)
       (try clear hi)
       refine hK.out _ _ ⟨(zt HB.out hw814_0 :), (zt HB.out hw814_1 :), (zt HB.out hw814_2 :), (zt HB.out hw814_3 :), (zt HB.out hw814_4 :)⟩ (fun hHeld => ?_)
       clear hK K
       refine norm_ (a' := ?_) ?_ ?_
       rotate_left
       ·show Act.put _ (some 18) _ = _
        simp only [Act.put, z1, z2, z3, i64_w, i32_w]
        rfl
       refine pure_ (i := 7) (N := some 19) (v := ?_) (a' := ?_) #[true, true, true, true, true, true, true, true] rfl rfl (any_of HT_.out (by kernel_rfl)) (fun _ _ _ h => h) (Or.inl ⟨by rfl, ?_⟩) ?_ ?_
       rotate_left
       ·intro w'
        go_simp
        with_reducible rfl
       rotate_left
       ·simp only [Act.put, z1, z2, z3, i64_w, i32_w]
        rfl
       refine done_ (done_of HT_.out (by kernel_rfl)) ?_
       have p816 : 0 ≤ (x5_1 : Int) := zo
       have q816 : x5_1 < (l0.length : Int) := zo
       obtain ⟨ad816, e816, hx816_0, hx816_1, hx816_2, hx816_3, hx816_4⟩ := at_T37 HR0.out x5_1 p816 q816
       obtain rfl : ad814 = ad816 := (by injection e816)
       replace hx816_0 := zt HB.out hx816_0
       replace hx816_1 := zt HB.out hx816_1
       replace hx816_2 := zt HB.out hx816_2
       replace hx816_3 := zt HB.out hx816_3
       replace hx816_4 := zt HB.out hx816_4
       replace p816 := eq_true p816
       replace q816 := eq_true q816
       try go_wp2
       go_ret
       exact ⟨by first | rfl | (simp [errW_none, errW_some] <;> rfl) | (simp [*, errW_none, errW_some] <;> rfl), by repeat (first | (with_reducible first | exact HB.out | apply zA | apply zB | apply zC) | exact HB.out)⟩
     ·rw [if_neg c6] at H
      have c6b0 : (((rd_T37 l0 x5_1).f0).toList == t815.toList) = false := beq_eq_false_iff_ne.mpr c6
      have c6b1 : (((rd_T37 l0 x5_1).f0).toList != t815.toList) = true := bne_iff_ne.mpr c6
      obtain rfl := Option.some.inj H
      try go_wp2
      have n0_ := zK (zC HB.out)
      clear HB
      have HB := n0_
      clear n0_
      have p814 : 0 ≤ (x5_1 : Int) := zo
      have q814 : x5_1 < (l0.length : Int) := zo
      obtain ⟨ad814, e814, hx814_0, hx814_1, hx814_2, hx814_3, hx814_4⟩ := at_T37 HR0.out x5_1 p814 q814
      have hw814_4 := hx814_4
      have hw814_3 := hx814_3
      have hw814_2 := hx814_2
      have hw814_1 := hx814_1
      have hw814_0 := hx814_0
      cases e814
      replace hx814_0 := zt HB.out hx814_0
      replace hx814_1 := zt HB.out hx814_1
      replace hx814_2 := zt HB.out hx814_2
      replace hx814_3 := zt HB.out hx814_3
      replace hx814_4 := zt HB.out hx814_4
      replace p814 := eq_true p814
      replace q814 := eq_true q814
      refine start_ (n := 8) (S := fun w' => w'.cell? (ad814.add ((x5_1).toNat * 5)) = some (.string ((rd_T37 l0 x5_1).f0)) ∧ w'.cell? ⟨(ad814.add ((x5_1).toNat * 5)).block, (ad814.add ((x5_1).toNat * 5)).off + 1, none⟩ = some (.int .i64 ((rd_T37 l0 x5_1).f1)) ∧ w'.cell? ⟨(ad814.add ((x5_1).toNat * 5)).block, (ad814.add ((x5_1).toNat * 5)).off + 2, none⟩ = some (.int .i64 ((rd_T37 l0 x5_1).f2)) ∧ w'.cell? ⟨(ad814.add ((x5_1).toNat * 5)).block, (ad814.add ((x5_1).toNat * 5)).off + 3, none⟩ = some (.int .i64 ((rd_T37 l0 x5_1).f3)) ∧ w'.cell? ⟨(ad814.add ((x5_1).toNat * 5)).block, (ad814.add ((x5_1).toNat * 5)).off + 4, none⟩ = some (.int .i64 ((rd_T37 l0 x5_1).f4))) (ds := []) #[false, false, false, false, false, false, false, false] (by kernel_rfl) rfl rfl ⟨(zt HB.out hw814_0), (zt HB.out hw814_1), (zt HB.out hw814_2), (zt HB.out hw814_3), (zt HB.out hw814_4)⟩ (fun hHeld => ?_); refine with_tabW laws_heldInstrS.tab4 laws_heldInstrS.bits4 (fun HT_ HW_ => ?_)
      generalize wr.drew = w21 at HB hx814_0 hx814_1 hx814_2 hx814_3 hx814_4 hHeld ⊢
      refine pure_ (i := 0) (N := some 12) (v := ?_) (a' := ?_) #[true, false, false, false, false, false, false, false] rfl rfl (any_of HT_.out (by kernel_rfl)) (fun _ _ _ h => h) (Or.inl ⟨by rfl, ?_⟩) ?_ ?_
      rotate_left
      ·intro w'
       go_simp
       with_reducible rfl
      rotate_left
      ·simp only [Act.put, z1, z2, z3, i64_w, i32_w]
       rfl
      refine pure_ (i := 1) (N := some 13) (v := ?_) (a' := ?_) #[true, true, false, false, false, false, false, false] rfl rfl (any_of HT_.out (by kernel_rfl)) (fun _ _ _ h => h) (Or.inl ⟨by rfl, ?_⟩) ?_ ?_
      rotate_left
      ·intro w'
       go_simp
       with_reducible rfl
      rotate_left
      ·simp only [Act.put, z1, z2, z3, i64_w, i32_w]
       rfl
      refine pure_ (i := 2) (N := some 14) (v := ?_) (a' := ?_) #[true, true, true, false, false, false, false, false] rfl rfl (any_of HT_.out (by kernel_rfl)) (fun _ _ _ h => h) (Or.inl ⟨by rfl, ?_⟩) ?_ ?_
      rotate_left
      ·intro w'
       go_simp
       with_reducible rfl
      rotate_left
      ·simp only [Act.put, z1, z2, z3, i64_w, i32_w]
       rfl
      refine pure_ (i := 3) (N := some 15) (v := ?_) (a' := ?_) #[true, true, true, true, false, false, false, false] rfl rfl (any_of HT_.out (by kernel_rfl)) (fun _ _ _ h => h) (Or.inl ⟨by rfl, ?_⟩) ?_ ?_
      rotate_left
      ·intro w'
       go_simp
       with_reducible rfl
      rotate_left
      ·simp only [Act.put, z1, z2, z3, i64_w, i32_w]
       rfl
      refine pure_ (i := 5) (N := some 17) (v := ?_) (a' := ?_) #[true, true, true, true, false, true, false, false] rfl rfl (any_of HT_.out (by kernel_rfl)) (fun _ _ _ h => h) (Or.inl ⟨by rfl, ?_⟩) ?_ ?_
      rotate_left
      ·intro w'
       go_simp
       with_reducible rfl
      rotate_left
      ·simp only [Act.put, z1, z2, z3, i64_w, i32_w]
       rfl
      refine take_ (i := 4) (N := some 16) (v := ?_) (a' := ?_) #[true, true, true, true, true, true, false, false] rfl rfl (take_ofW HT_.out HW_.out (by kernel_rfl)) (fun _ _ _ h => h) (Or.inl ⟨by rfl, ?_⟩) hHeld ?_ ?_
      rotate_left
      ·rintro w' ⟨s0, s1, s2, s3, s4⟩
       go_simp
       with_reducible rfl
      rotate_left
      ·simp only [Act.put, z1, z2, z3, i64_w, i32_w]
       rfl
      refine one_ (i := 6) (N := some 18) #[true, true, true, true, true, true, true, false] rfl rfl (one_of HT_.out (by kernel_rfl)) (by decide) (fun K hK => ?_)
      refine goes_ Try.func48 (by kernel_rfl) rfl #[.int .i64 x1_1] (by rfl) rfl rfl (by (try simp only [z6, z7, z8]); first | done | rfl | (simp only [z4, z5]; rfl)) ?_
      with_reducible refine (laws_markText.calls k1 x1_1 t815 _ A5.out).mono ?_
      rintro e w22 ⟨rfl, hb⟩
      refine ⟨_, rfl, ?_⟩
      have n0_ := zK (zL (by repeat (first | (with_reducible first | exact HB.out | apply zA | apply zB | apply zC) | exact HB.out)) hb)
      clear HB
      have HB := n0_
      clear n0_
      (try clear hb)
      (try clear hb2)
      (try clear hk)
      (try clear hi)
      refine hK.out _ _ ⟨(zt HB.out hw814_0 :), (zt HB.out hw814_1 :), (zt HB.out hw814_2 :), (zt HB.out hw814_3 :), (zt HB.out hw814_4 :)⟩ (fun hHeld => ?_)
      clear hK K
      refine norm_ (a' := ?_) ?_ ?_
      rotate_left
      ·show Act.put _ (some 18) _ = _
       simp only [Act.put, z1, z2, z3, i64_w, i32_w]
       rfl
      refine pure_ (i := 7) (N := some 19) (v := ?_) (a' := ?_) #[true, true, true, true, true, true, true, true] rfl rfl (any_of HT_.out (by kernel_rfl)) (fun _ _ _ h => h) (Or.inl ⟨by rfl, ?_⟩) ?_ ?_
      rotate_left
      ·intro w'
       go_simp
       with_reducible rfl
      rotate_left
      ·simp only [Act.put, z1, z2, z3, i64_w, i32_w]
       rfl
      refine done_ (done_of HT_.out (by kernel_rfl)) ?_
      try go_wp2
      go_ret
      exact ⟨by first | rfl | (simp [errW_none, errW_some] <;> rfl) | (simp [*, errW_none, errW_some] <;> rfl), by repeat (first | (with_reducible first | exact HB.out | apply zA | apply zB | apply zC) | exact HB.out)⟩
    ·rw [if_neg c4] at H
     exact absurd H (by simp)
   ·rw [if_neg c3] at H
    have c3b0 : decide (x5_1 < (l0.length : Int)) = false := decide_eq_false c3
    clear c3
    obtain rfl := Option.some.inj H
    go_wp2
    go_ret
    exact ⟨by first | rfl | (simp [errW_none, errW_some] <;> rfl) | (simp [*, errW_none, errW_some] <;> rfl), by repeat (first | (with_reducible first | exact HB.out | apply zA | apply zB | apply zC) | exact HB.out)⟩

/-! ### laws_FnExactSwapNeighbours: function 6 -/
mutual
def laws_FnExactSwapNeighbours.j0 : Nat → List (S32) → Int → List (S37) → Bool → List (S37) → List (S37) → Bool → Bool → Option (Bool)
 | 0, _, _, _, _, _, _, _, _ => none
 | k + 1, x0, x1, x6, x7, x8, x9, x10, x44 => if x44 = true then (some false) else ((laws_toInstrS.f k x0).bind fun t836 => ((laws_eqInstrS.f k x8 t836).bind fun t839 => (if t839 = true then ((laws_markInstrS.f k x8 1).bind fun bt840 => (if bt840.1 < 0 then (laws_FnExactSwapNeighbours.j1 k x0 x1 x6 x7 x9 true) else ((laws_eqInstrS.f k x9 x6).bind fun t842 => (if t842 = true then (laws_FnExactSwapNeighbours.j1 k x0 x1 x6 x7 x9 (x10 != x7)) else (laws_FnExactSwapNeighbours.j1 k x0 x1 x6 x7 x9 true))))) else (some false))))
def laws_FnExactSwapNeighbours.j1 : Nat → List (S32) → Int → List (S37) → Bool → List (S37) → Bool → Option (Bool)
 | 0, _, _, _, _, _, _ => none
 | k + 1, x0, x1, x6, x7, x9, x65 => if x65 = true then (some false) else ((laws_markInstrS.f k x9 1).bind fun bt843 => ((laws_heldInstrS.f k bt843.2 1).bind fun t845 => (if t845 < 0 then (some false) else (if t845 = bt843.1 then ((laws_toInstrS.f k x0).bind fun t846 => ((impl_SwapNeighbours.f k t846 x1).bind fun bt849 => ((laws_eqInstrS.f k bt849.1 x6).bind fun t853 => (if t853 = true then (laws_FnExactSwapNeighbours.j2 k bt843.2 bt843.1 (bt849.2 != x7)) else (laws_FnExactSwapNeighbours.j2 k bt843.2 bt843.1 true))))) else (some false)))))
def laws_FnExactSwapNeighbours.j2 : Nat → List (S37) → Int → Bool → Option (Bool)
 | 0, _, _, _ => none
 | k + 1, x9, x12, x92 => if x92 = true then (some false) else ((laws_heldInstrS.f k x9 1).bind fun t854 => (if t854 < 0 then (some false) else (if t854 = x12 then (some true) else (some false))))
end
def laws_FnExactSwapNeighbours.f (k : Nat) (l0 : List (S32)) (a1 : Int) : Option (Bool) := (laws_szInstrS.f k l0 1048576).bind fun t820 => (if t820 < 0 then (some true) else ((laws_toInstrS.f k l0).bind fun t821 => ((spec_SwapNeighbours.f k t821 a1).bind fun bt824 => ((laws_toInstrS.f k l0).bind fun t828 => ((impl_SwapNeighbours.f k t828 a1).bind fun bt831 => ((laws_eqInstrS.f k bt831.1 bt824.1).bind fun t835 => (if t835 = true then (laws_FnExactSwapNeighbours.j0 k l0 a1 bt824.1 bt824.2 t828 bt831.1 bt831.2 (bt831.2 != bt824.2)) else (laws_FnExactSwapNeighbours.j0 k l0 a1 bt824.1 bt824.2 t828 bt831.1 bt831.2 true))))))))
theorem laws_FnExactSwapNeighbours.mono_l : ∀ k, (∀ y0 y1 y2 y3 y4 y5 y6 y7, LeO (laws_FnExactSwapNeighbours.j0 k y0 y1 y2 y3 y4 y5 y6 y7) (laws_FnExactSwapNeighbours.j0 (k + 1) y0 y1 y2 y3 y4 y5 y6 y7)) ∧ (∀ y0 y1 y2 y3 y4 y5, LeO (laws_FnExactSwapNeighbours.j1 k y0 y1 y2 y3 y4 y5) (laws_FnExactSwapNeighbours.j1 (k + 1) y0 y1 y2 y3 y4 y5)) ∧ (∀ y0 y1 y2, LeO (laws_FnExactSwapNeighbours.j2 k y0 y1 y2) (laws_FnExactSwapNeighbours.j2 (k + 1) y0 y1 y2))
 | 0 => ⟨fun _ _ _ _ _ _ _ _ r h => by simp [laws_FnExactSwapNeighbours.j0] at h, fun _ _ _ _ _ _ r h => by simp [laws_FnExactSwapNeighbours.j1] at h, fun _ _ _ r h => by simp [laws_FnExactSwapNeighbours.j2] at h⟩
 | k + 1 => by
  obtain ⟨ih0, ih1, ih2⟩ := laws_FnExactSwapNeighbours.mono_l k
  refine ⟨?_, ?_, ?_⟩
  ·intro y0 y1 y2 y3 y4 y5 y6 y7
   unfold laws_FnExactSwapNeighbours.j0
   repeat' first
   | (with_reducible exact ih0 _ _ _ _ _ _ _ _)
   | (with_reducible exact ih1 _ _ _ _ _ _)
   | (with_reducible exact ih2 _ _ _)
   | (with_reducible exact impl_SwapNeighbours.mono _ _ _)
   | (with_reducible exact laws_eqInstrS.mono _ _ _)
   | (with_reducible exact laws_heldInstrS.mono _ _ _)
   | (with_reducible exact laws_markInstrS.mono _ _ _)
   | (with_reducible exact laws_szInstrS.mono _ _ _)
   | (with_reducible exact laws_toInstrS.mono _ _)
   | (with_reducible exact spec_SwapNeighbours.mono _ _ _)
   | (with_reducible exact LeO.refl _)
   | (with_reducible exact LeO.none _)
   | (with_reducible refine LeO.ite ?_ ?_)
   | (with_reducible refine LeO.bind ?_ (fun _ => ?_))
   | exact ih0 _ _ _ _ _ _ _ _
   | exact ih1 _ _ _ _ _ _
   | exact ih2 _ _ _
   | exact impl_SwapNeighbours.mono _ _ _
   | exact laws_eqInstrS.mono _ _ _
   | exact laws_heldInstrS.mono _ _ _
   | exact laws_markInstrS.mono _ _ _
   | exact laws_szInstrS.mono _ _ _
   | exact laws_toInstrS.mono _ _
   | exact spec_SwapNeighbours.mono _ _ _
   | exact LeO.none _
   | refine LeO.ite ?_ ?_
   | refine LeO.bind ?_ (fun _ => ?_)
  ·intro y0 y1 y2 y3 y4 y5
   unfold laws_FnExactSwapNeighbours.j1
   repeat' first
   | (with_reducible exact ih0 _ _ _ _ _ _ _ _)
   | (with_reducible exact ih1 _ _ _ _ _ _)
   | (with_reducible exact ih2 _ _ _)
   | (with_reducible exact impl_SwapNeighbours.mono _ _ _)
   | (with_reducible exact laws_eqInstrS.mono _ _ _)
   | (with_reducible exact laws_heldInstrS.mono _ _ _)
   | (with_reducible exact laws_markInstrS.mono _ _ _)
   | (with_reducible exact laws_szInstrS.mono _ _ _)
   | (with_reducible exact laws_toInstrS.mono _ _)
   | (with_reducible exact spec_SwapNeighbours.mono _ _ _)
   | (with_reducible exact LeO.refl _)
   | (with_reducible exact LeO.none _)
   | (with_reducible refine LeO.ite ?_ ?_)
   | (with_reducible refine LeO.bind ?_ (fun _ => ?_))
   | exact ih0 _ _ _ _ _ _ _ _
   | exact ih1 _ _ _ _ _ _
   | exact ih2 _ _ _
   | exact impl_SwapNeighbours.mono _ _ _
   | exact laws_eqInstrS.mono _ _ _
   | exact laws_heldInstrS.mono _ _ _
   | exact laws_markInstrS.mono _ _ _
   | exact laws_szInstrS.mono _ _ _
   | exact laws_toInstrS.mono _ _
   | exact spec_SwapNeighbours.mono _ _ _
   | exact LeO.none _
   | refine LeO.ite ?_ ?_
   | refine LeO.bind ?_ (fun _ => ?_)
  ·intro y0 y1 y2
   unfold laws_FnExactSwapNeighbours.j2
   repeat' first
   | (with_reducible exact ih0 _ _ _ _ _ _ _ _)
   | (with_reducible exact ih1 _ _ _ _ _ _)
   | (with_reducible exact ih2 _ _ _)
   | (with_reducible exact impl_SwapNeighbours.mono _ _ _)
   | (with_reducible exact laws_eqInstrS.mono _ _ _)
   | (with_reducible exact laws_heldInstrS.mono _ _ _)
   | (with_reducible exact laws_markInstrS.mono _ _ _)
   | (with_reducible exact laws_szInstrS.mono _ _ _)
   | (with_reducible exact laws_toInstrS.mono _ _)
   | (with_reducible exact spec_SwapNeighbours.mono _ _ _)
   | (with_reducible exact LeO.refl _)
   | (with_reducible exact LeO.none _)
   | (with_reducible refine LeO.ite ?_ ?_)
   | (with_reducible refine LeO.bind ?_ (fun _ => ?_))
   | exact ih0 _ _ _ _ _ _ _ _
   | exact ih1 _ _ _ _ _ _
   | exact ih2 _ _ _
   | exact impl_SwapNeighbours.mono _ _ _
   | exact laws_eqInstrS.mono _ _ _
   | exact laws_heldInstrS.mono _ _ _
   | exact laws_markInstrS.mono _ _ _
   | exact laws_szInstrS.mono _ _ _
   | exact laws_toInstrS.mono _ _
   | exact spec_SwapNeighbours.mono _ _ _
   | exact LeO.none _
   | refine LeO.ite ?_ ?_
   | refine LeO.bind ?_ (fun _ => ?_)
theorem laws_FnExactSwapNeighbours.mono : ∀ a0 a1 k, LeO (laws_FnExactSwapNeighbours.f k a0 a1) (laws_FnExactSwapNeighbours.f (k + 1) a0 a1) := by
 intro a0 a1 k
 obtain ⟨ih0, ih1, ih2⟩ := laws_FnExactSwapNeighbours.mono_l k
 unfold laws_FnExactSwapNeighbours.f
 repeat' first
   | (with_reducible exact ih0 _ _ _ _ _ _ _ _)
   | (with_reducible exact ih1 _ _ _ _ _ _)
   | (with_reducible exact ih2 _ _ _)
   | (with_reducible exact impl_SwapNeighbours.mono _ _ _)
   | (with_reducible exact laws_eqInstrS.mono _ _ _)
   | (with_reducible exact laws_heldInstrS.mono _ _ _)
   | (with_reducible exact laws_markInstrS.mono _ _ _)
   | (with_reducible exact laws_szInstrS.mono _ _ _)
   | (with_reducible exact laws_toInstrS.mono _ _)
   | (with_reducible exact spec_SwapNeighbours.mono _ _ _)
   | (with_reducible exact LeO.refl _)
   | (with_reducible exact LeO.none _)
   | (with_reducible refine LeO.ite ?_ ?_)
   | (with_reducible refine LeO.bind ?_ (fun _ => ?_))
   | exact ih0 _ _ _ _ _ _ _ _
   | exact ih1 _ _ _ _ _ _
   | exact ih2 _ _ _
   | exact impl_SwapNeighbours.mono _ _ _
   | exact laws_eqInstrS.mono _ _ _
   | exact laws_heldInstrS.mono _ _ _
   | exact laws_markInstrS.mono _ _ _
   | exact laws_szInstrS.mono _ _ _
   | exact laws_toInstrS.mono _ _
   | exact spec_SwapNeighbours.mono _ _ _
   | exact LeO.none _
   | refine LeO.ite ?_ ?_
   | refine LeO.bind ?_ (fun _ => ?_)
set_option maxHeartbeats 8000000 in
set_option maxRecDepth 100000 in
theorem laws_FnExactSwapNeighbours.calls (k : Nat) (A0 : Option Addr) (c0 : Nat) (l0 : List (S32)) (a1 : Int) (r : Bool) (w : World) (hr0 : Kd.C k32 w A0 l0.length l0) (hc0 : l0.length ≤ c0) (h : laws_FnExactSwapNeighbours.f k l0 a1 = some r) (hr : r = true) :
  Calls Try.prog 6 #[.slice A0 l0.length c0, .int .i64 a1] w fun e w' => e = .returned (.bool r) ∧ Below w.heap.size w w' := by
 have HR0 := zK hr0
 have HC0 := zK hc0
 clear hr0 hc0
 have HB := zK (Below.refl w.heap.size w)
 have H : ((laws_szInstrS.f k l0 1048576).bind fun t820 => (if t820 < 0 then (some true) else ((laws_toInstrS.f k l0).bind fun t821 => ((spec_SwapNeighbours.f k t821 a1).bind fun bt824 => ((laws_toInstrS.f k l0).bind fun t828 => ((impl_SwapNeighbours.f k t828 a1).bind fun bt831 => ((laws_eqInstrS.f k bt831.1 bt824.1).bind fun t835 => (if t835 = true then (laws_FnExactSwapNeighbours.j0 k l0 a1 bt824.1 bt824.2 t828 bt831.1 bt831.2 (bt831.2 != bt824.2)) else (laws_FnExactSwapNeighbours.j0 k l0 a1 bt824.1 bt824.2 t828 bt831.1 bt831.2 true))))))))) = some r := h
 clear h
 replace H := Option.bind_eq_some_iff.mp H
 obtain ⟨t820, A30, H⟩ := H
 replace H : (if t820 < 0 then (some true) else ((laws_toInstrS.f k l0).bind fun t821 => ((spec_SwapNeighbours.f k t821 a1).bind fun bt824 => ((laws_toInstrS.f k l0).bind fun t828 => ((impl_SwapNeighbours.f k t828 a1).bind fun bt831 => ((laws_eqInstrS.f k bt831.1 bt824.1).bind fun t835 => (if t835 = true then (laws_FnExactSwapNeighbours.j0 k l0 a1 bt824.1 bt824.2 t828 bt831.1 bt831.2 (bt831.2 != bt824.2)) else (laws_FnExactSwapNeighbours.j0 k l0 a1 bt824.1 bt824.2 t828 bt831.1 bt831.2 true)))))))) = some r := H
 have A3 := zK A30
 clear A30
 by_cases c4 : t820 < 0
 ·rw [if_pos c4] at H
  have c4b0 : decide (t820 < 0) = true := decide_eq_true c4
  clear c4
  obtain rfl := Option.some.inj H
  go_enter Try.func6, Try.ntmps6
  go_wp2_with (first | ((with_reducible refine gate_callee (f := 25) rfl ?_); refine goesL_ (some 18) rfl rfl Try.func25 (by kernel_rfl) rfl #[.slice A0 l0.length c0, .int .i64 1048576] rfl (by (try simp only [z6, z7, z8]); first | done | rfl | (simp only [z4, z5]; rfl)) ?_; (with_reducible refine (laws_szInstrS.calls k _ _ l0 1048576 t820 _ ?side1 ?side2 A3.out).mono ?_); (case side1 => repeat (first | exact HR0.out | (with_reducible refine Kd.C_alloc ?_ _) | (with_reducible refine Kd.C_drewN ?_ _) | (with_reducible refine Kd.C_drew ?_))); (case side2 => exact HC0.out); rintro e w5 ⟨rfl, hb⟩; refine ⟨_, rfl, ?_⟩; have n0_ := zK (zL (by repeat (first | (with_reducible first | exact HB.out | apply zA | apply zB | apply zC) | exact HB.out)) hb); clear HB; have HB := n0_; clear n0_; (try clear hb); (try clear hb2); (try clear hk); (try clear hi)))
  go_ret
  exact ⟨by first | rfl | (simp [errW_none, errW_some] <;> rfl) | (simp [*, errW_none, errW_some] <;> rfl), by repeat (first | (with_reducible first | exact HB.out | apply zA | apply zB | apply zC) | exact HB.out)⟩
 ·rw [if_neg c4] at H
  have c4b0 : decide (t820 < 0) = false := decide_eq_false c4
  clear c4
  replace H := Option.bind_eq_some_iff.mp H
  obtain ⟨t821, A60, H⟩ := H
  replace H : ((spec_SwapNeighbours.f k t821 a1).bind fun bt824 => ((laws_toInstrS.f k l0).bind fun t828 => ((impl_SwapNeighbours.f k t828 a1).bind fun bt831 => ((laws_eqInstrS.f k bt831.1 bt824.1).bind fun t835 => (if t835 = true then (laws_FnExactSwapNeighbours.j0 k l0 a1 bt824.1 bt824.2 t828 bt831.1 bt831.2 (bt831.2 != bt824.2)) else (laws_FnExactSwapNeighbours.j0 k l0 a1 bt824.1 bt824.2 t828 bt831.1 bt831.2 true)))))) = some r := H
  have A6 := zK A60
  clear A60
  replace H := Option.bind_eq_some_iff.mp H
  obtain ⟨⟨t824, t825⟩, A70, H⟩ := H
  replace H : ((laws_toInstrS.f k l0).bind fun t828 => ((impl_SwapNeighbours.f k t828 a1).bind fun bt831 => ((laws_eqInstrS.f k bt831.1 t824).bind fun t835 => (if t835 = true then (laws_FnExactSwapNeighbours.j0 k l0 a1 t824 t825 t828 bt831.1 bt831.2 (bt831.2 != t825)) else (laws_FnExactSwapNeighbours.j0 k l0 a1 t824 t825 t828 bt831.1 bt831.2 true))))) = some r := H
  have A7 := zK A70
  clear A70
  replace H := Option.bind_eq_some_iff.mp H
  obtain ⟨t828, A80, H⟩ := H
  replace H : ((impl_SwapNeighbours.f k t828 a1).bind fun bt831 => ((laws_eqInstrS.f k bt831.1 t824).bind fun t835 => (if t835 = true then (laws_FnExactSwapNeighbours.j0 k l0 a1 t824 t825 t828 bt831.1 bt831.2 (bt831.2 != t825)) else (laws_FnExactSwapNeighbours.j0 k l0 a1 t824 t825 t828 bt831.1 bt831.2 true)))) = some r := H
  have A8 := zK A80
  clear A80
  replace H := Option.bind_eq_some_iff.mp H
  obtain ⟨⟨t831, t832⟩, A90, H⟩ := H
  replace H : ((laws_eqInstrS.f k t831 t824).bind fun t835 => (if t835 = true then (laws_FnExactSwapNeighbours.j0 k l0 a1 t824 t825 t828 t831 t832 (t832 != t825)) else (laws_FnExactSwapNeighbours.j0 k l0 a1 t824 t825 t828 t831 t832 true))) = some r := H
  have A9 := zK A90
  clear A90
  have HC10 := zK H
  clear H
  go_enter Try.func6, Try.ntmps6
  go_upto_region 8 with (first | ((with_reducible refine gate_callee (f := 25) rfl ?_); refine goesL_ (some 18) rfl rfl Try.func25 (by kernel_rfl) rfl #[.slice A0 l0.length c0, .int .i64 1048576] rfl (by (try simp only [z6, z7, z8]); first | done | rfl | (simp only [z4, z5]; rfl)) ?_; (with_reducible refine (laws_szInstrS.calls k _ _ l0 1048576 t820 _ ?side1 ?side2 A3.out).mono ?_); (case side1 => repeat (first | exact HR0.out | (with_reducible refine Kd.C_alloc ?_ _) | (with_reducible refine Kd.C_drewN ?_ _) | (with_reducible refine Kd.C_drew ?_))); (case side2 => exact HC0.out); rintro e w11 ⟨rfl, hb⟩; refine ⟨_, rfl, ?_⟩; have n0_ := zK (zL (by repeat (first | (with_reducible first | exact HB.out | apply zA | apply zB | apply zC) | exact HB.out)) hb); clear HB; have HB := n0_; clear n0_; (try clear hb); (try clear hb2); (try clear hk); (try clear hi)) | ((with_reducible refine gate_callee (f := 27) rfl ?_); refine goesL_ (some 23) rfl rfl Try.func27 (by kernel_rfl) rfl #[.slice A0 l0.length c0] rfl (by (try simp only [z6, z7, z8]); first | done | rfl | (simp only [z4, z5]; rfl)) ?_; (with_reducible refine (laws_toInstrS.calls k _ _ l0 t821 _ ?side1 ?side2 A6.out).mono ?_); (case side1 => repeat (first | exact (Kd.C_below HR0.out HB.out) | (with_reducible refine Kd.C_alloc ?_ _) | (with_reducible refine Kd.C_drewN ?_ _) | (with_reducible refine Kd.C_drew ?_))); (case side2 => exact HC0.out); rintro e w12 ⟨v822, rfl, ho0, hb⟩; refine ⟨_, rfl, ?_⟩; have n0_ := zK (Kd.R_lower ho0 (zN (by repeat (first | (with_reducible first | exact HB.out | apply zA | apply zB | apply zC) | exact HB.out)))); have n1_ := zK (zL (by repeat (first | (with_reducible first | exact HB.out | apply zA | apply zB | apply zC) | exact HB.out)) hb); clear HB; have HO823 := n0_; have HB := n1_; clear n0_ n1_; (try clear hb); (try clear hb2); (try clear hk); (try clear hi); (try clear ho0); obtain ⟨Ao13, co13, eo13⟩ := Kd.R_slice HO823.out; subst eo13) | ((with_reducible refine gate_callee (f := 26) rfl ?_); refine goesL_ (some 25) rfl rfl Try.func26 (by kernel_rfl) rfl #[.slice Ao13 t821.length co13, .int .i64 a1] rfl (by (try simp only [z6, z7, z8]); first | done | rfl | (simp only [z4, z5]; rfl)) ?_; (with_reducible refine (spec_SwapNeighbours.calls k _ _ t821 a1 t824 t825 _ ?side1 ?side2 A7.out).mono ?_); (case side1 => repeat (first | exact (Kd.R_reads' HO823.out).2.2 | (with_reducible refine Kd.C_alloc ?_ _) | (with_reducible refine Kd.C_drewN ?_ _) | (with_reducible refine Kd.C_drew ?_))); (case side2 => exact (Kd.R_reads' HO823.out).2.1); rintro e w14 ⟨v826, rfl, ho0, hb⟩; refine ⟨_, rfl, ?_⟩; have n0_ := zK (Kd.R_elder' (by (with_reducible repeat (first | apply Kd.R_alloc | apply Kd.R_drewN | apply Kd.R_drew)); exact HO823.out) (Kd.R_base ho0) hb); have n1_ := zK (Kd.R_lower (Kd.R_new' ho0 (Kd.R_lt (by (with_reducible repeat (first | apply Kd.R_alloc | apply Kd.R_drewN | apply Kd.R_drew)); exact HO823.out))) (zN (by repeat (first | (with_reducible first | exact HB.out | apply zA | apply zB | apply zC) | exact HB.out)))); have n2_ := zK (zL (by repeat (first | (with_reducible first | exact HB.out | apply zA | apply zB | apply zC) | exact HB.out)) hb); clear HO823; clear HB; have HO823 := n0_; have HO827 := n1_; have HB := n2_; clear n0_ n1_ n2_; (try clear hb); (try clear hb2); (try clear hk); (try clear hi); (try clear ho0)) | ((with_reducible refine gate_callee (f := 27) rfl ?_); refine goesL_ (some 29) rfl rfl Try.func27 (by kernel_rfl) rfl #[.slice A0 l0.length c0] rfl (by (try simp only [z6, z7, z8]); first | done | rfl | (simp only [z4, z5]; rfl)) ?_; (with_reducible refine (laws_toInstrS.calls k _ _ l0 t828 _ ?side1 ?side2 A8.out).mono ?_); (case side1 => repeat (first | exact (Kd.C_below HR0.out HB.out) | (with_reducible refine Kd.C_alloc ?_ _) | (with_reducible refine Kd.C_drewN ?_ _) | (with_reducible refine Kd.C_drew ?_))); (case side2 => exact HC0.out); rintro e w15 ⟨v829, rfl, ho0, hb⟩; refine ⟨_, rfl, ?_⟩; have n0_ := zK (Kd.R_elder' (by (with_reducible repeat (first | apply Kd.R_alloc | apply Kd.R_drewN | apply Kd.R_drew)); exact HO823.out) (Kd.R_base ho0) hb); have n1_ := zK (Kd.R_elder' (by (with_reducible repeat (first | apply Kd.R_alloc | apply Kd.R_drewN | apply Kd.R_drew)); exact HO827.out) (Kd.R_base ho0) hb); have n2_ := zK (Kd.R_lower (Kd.R_new' (Kd.R_new' ho0 (Kd.R_lt (by (with_reducible repeat (first | apply Kd.R_alloc | apply Kd.R_drewN | apply Kd.R_drew)); exact HO823.out))) (Kd.R_lt (by (with_reducible repeat (first | apply Kd.R_alloc | apply Kd.R_drewN | apply Kd.R_drew)); exact HO827.out))) (zN (by repeat (first | (with_reducible first | exact HB.out | apply zA | apply zB | apply zC) | exact HB.out)))); have n3_ := zK (zL (by repeat (first | (with_reducible first | exact HB.out | apply zA | apply zB | apply zC) | exact HB.out)) hb); clear HO823; clear HO827; clear HB; have HO823 := n0_; have HO827 := n1_; have HO830 := n2_; have HB := n3_; clear n0_ n1_ n2_ n3_; (try clear hb); (try clear hb2); (try clear hk); (try clear hi); (try clear ho0); obtain ⟨Ao16, co16, eo16⟩ := Kd.R_slice HO830.out; subst eo16) | ((with_reducible refine gate_callee (f := 28) rfl ?_); refine goesL_ (some 33) rfl rfl Try.func28 (by kernel_rfl) rfl #[.slice Ao16 t828.length co16, .int .i64 a1] rfl (by (try simp only [z6, z7, z8]); first | done | rfl | (simp only [z4, z5]; rfl)) ?_; (with_reducible refine (impl_SwapNeighbours.calls k _ _ t828 a1 t831 t832 _ ?side1 ?side2 A9.out).mono ?_); (case side1 => repeat (first | exact (Kd.R_reads' HO830.out).2.2 | (with_reducible refine Kd.C_alloc ?_ _) | (with_reducible refine Kd.C_drewN ?_ _) | (with_reducible refine Kd.C_drew ?_))); (case side2 => exact (Kd.R_reads' HO830.out).2.1); rintro e w17 ⟨v833, rfl, ho0, hb⟩; refine ⟨_, rfl, ?_⟩; have n0_ := zK (Kd.R_elder' (by (with_reducible repeat (first | apply Kd.R_alloc | apply Kd.R_drewN | apply Kd.R_drew)); exact HO823.out) (Kd.R_base ho0) hb); have n1_ := zK (Kd.R_elder' (by (with_reducible repeat (first | apply Kd.R_alloc | apply Kd.R_drewN | apply Kd.R_drew)); exact HO827.out) (Kd.R_base ho0) hb); have n2_ := zK (Kd.R_elder' (by (with_reducible repeat (first | apply Kd.R_alloc | apply Kd.R_drewN | apply Kd.R_drew)); exact HO830.out) (Kd.R_base ho0) hb); have n3_ := zK (Kd.R_lower (Kd.R_new' (Kd.R_new' (Kd.R_new' ho0 (Kd.R_lt (by (with_reducible repeat (first | apply Kd.R_alloc | apply Kd.R_drewN | apply Kd.R_drew)); exact HO823.out))) (Kd.R_lt (by (with_reducible repeat (first | apply Kd.R_alloc | apply Kd.R_drewN | apply Kd.R_drew)); exact HO827.out))) (Kd.R_lt (by (with_reducible repeat (first | apply Kd.R_alloc | apply Kd.R_drewN | apply Kd.R_drew)); exact HO830.out))) (zN (by repeat (first | (with_reducible first | exact HB.out | apply zA | apply zB | apply zC) | exact HB.out)))); have n4_ := zK (zL (by repeat (first | (with_reducible first | exact HB.out | apply zA | apply zB | apply zC) | exact HB.out)) hb); clear HO823; clear HO827; clear HO830; clear HB; have HO823 := n0_; have HO827 := n1_; have HO830 := n2_; have HO834 := n3_; have HB := n4_; clear n0_ n1_ n2_ n3_ n4_; (try clear hb); (try clear hb2); (try clear hk); (try clear hi); (try clear ho0)))
  (try simp only [Act.put, z1, z2, z3])
  go_cut [44] (fun v44 wc => ∃ (kq : Nat) (x44_9 : Bool), v44 = .bool x44_9 ∧ Aside0 (laws_FnExactSwapNeighbours.j0 kq l0 a1 t824 t825 t828 t831 t832 x44_9 = some r) ∧ Aside0 (kq ≤ k) ∧ Aside0 (Kd.R k37 37 wc w.heap.size (fun k_ => some k_ ≠ ((.slice Ao16 t828.length co16) : Value).ownBlock ∧ some k_ ≠ (v833 : Value).ownBlock) v826 t824) ∧ Aside0 (Kd.R k37 37 wc w.heap.size (fun k_ => some k_ ≠ (v826 : Value).ownBlock ∧ some k_ ≠ (v833 : Value).ownBlock) (.slice Ao16 t828.length co16) t828) ∧ Aside0 (Kd.R k37 37 wc w.heap.size (fun k_ => some k_ ≠ (v826 : Value).ownBlock ∧ some k_ ≠ ((.slice Ao16 t828.length co16) : Value).ownBlock) v833 t831) ∧ Aside0 (Below w.heap.size w wc))
  case first =>
   have H := HC10.out
   clear HC10
   replace H := Option.bind_eq_some_iff.mp H
   obtain ⟨t835, A180, H⟩ := H
   replace H : (if t835 = true then (laws_FnExactSwapNeighbours.j0 k l0 a1 t824 t825 t828 t831 t832 (t832 != t825)) else (laws_FnExactSwapNeighbours.j0 k l0 a1 t824 t825 t828 t831 t832 true)) = some r := H
   have A18 := zK A180
   clear A180
   by_cases c19 : t835 = true
   ·subst c19
    rw [if_pos rfl] at H
    have H' := zK H
    clear H
    obtain ⟨Ao20, co20, eo20⟩ := Kd.R_slice HO834.out
    subst eo20
    obtain ⟨Ao21, co21, eo21⟩ := Kd.R_slice HO827.out
    subst eo21
    go_wp2_with (first | ((with_reducible refine gate_callee (f := 29) rfl ?_); refine goesL_ (some 38) rfl rfl Try.func29 (by kernel_rfl) rfl #[.slice Ao20 t831.length co20, .slice Ao21 t824.length co21] rfl (by (try simp only [z6, z7, z8]); first | done | rfl | (simp only [z4, z5]; rfl)) ?_; (with_reducible refine (laws_eqInstrS.calls k _ _ t831 _ _ t824 true _ ?side1 ?side2 ?side3 ?side4 A18.out).mono ?_); (case side1 => repeat (first | exact (Kd.R_reads' HO834.out).2.2 | (with_reducible refine Kd.C_alloc ?_ _) | (with_reducible refine Kd.C_drewN ?_ _) | (with_reducible refine Kd.C_drew ?_))); (case side2 => exact (Kd.R_reads' HO834.out).2.1); (case side3 => repeat (first | exact (Kd.R_reads' HO827.out).2.2 | (with_reducible refine Kd.C_alloc ?_ _) | (with_reducible refine Kd.C_drewN ?_ _) | (with_reducible refine Kd.C_drew ?_))); (case side4 => exact (Kd.R_reads' HO827.out).2.1); rintro e w22 ⟨rfl, hb⟩; refine ⟨_, rfl, ?_⟩; have n0_ := zK (Kd.R_below (by (with_reducible repeat (first | apply Kd.R_alloc | apply Kd.R_drewN | apply Kd.R_drew)); exact HO823.out) hb); have n1_ := zK (Kd.R_below (by (with_reducible repeat (first | apply Kd.R_alloc | apply Kd.R_drewN | apply Kd.R_drew)); exact HO827.out) hb); have n2_ := zK (Kd.R_below (by (with_reducible repeat (first | apply Kd.R_alloc | apply Kd.R_drewN | apply Kd.R_drew)); exact HO830.out) hb); have n3_ := zK (Kd.R_below (by (with_reducible repeat (first | apply Kd.R_alloc | apply Kd.R_drewN | apply Kd.R_drew)); exact HO834.out) hb); have n4_ := zK (zL (by repeat (first | (with_reducible first | exact HB.out | apply zA | apply zB | apply zC) | exact HB.out)) hb); clear HO823; clear HO827; clear HO830; clear HO834; clear HB; have HO823 := n0_; have HO827 := n1_; have HO830 := n2_; have HO834 := n3_; have HB := n4_; clear n0_ n1_ n2_ n3_ n4_; (try clear hb); (try clear hb2); (try clear hk); (try clear hi)))
    go_meet
    case rel => exact ⟨_, ((t832 != t825)), (by first | rfl | (simp; done) | (simp [*]; done)), H', ⟨by first | omega | exact Nat.le_refl _⟩, ⟨by (with_reducible repeat (first | apply Kd.R_alloc | apply Kd.R_drewN | apply Kd.R_drew)); exact Kd.R_mono HO827.out (fun _ hk => ⟨hk.1.2, hk.2⟩)⟩, ⟨by (with_reducible repeat (first | apply Kd.R_alloc | apply Kd.R_drewN | apply Kd.R_drew)); exact Kd.R_mono HO830.out (fun _ hk => ⟨hk.1.2, hk.2⟩)⟩, ⟨by (with_reducible repeat (first | apply Kd.R_alloc | apply Kd.R_drewN | apply Kd.R_drew)); exact Kd.R_mono HO834.out (fun _ hk => ⟨hk.1.2, hk.2⟩)⟩, ⟨by repeat (first | (with_reducible first | exact HB.out | apply zA | apply zB | apply zC) | exact HB.out)⟩⟩
   ·replace c19 := Bool.eq_false_iff.mpr c19
    subst c19
    rw [if_neg (show ¬ (false = true) by decide)] at H
    have H' := zK H
    clear H
    obtain ⟨Ao23, co23, eo23⟩ := Kd.R_slice HO834.out
    subst eo23
    obtain ⟨Ao24, co24, eo24⟩ := Kd.R_slice HO827.out
    subst eo24
    go_wp2_with (first | ((with_reducible refine gate_callee (f := 29) rfl ?_); refine goesL_ (some 38) rfl rfl Try.func29 (by kernel_rfl) rfl #[.slice Ao23 t831.length co23, .slice Ao24 t824.length co24] rfl (by (try simp only [z6, z7, z8]); first | done | rfl | (simp only [z4, z5]; rfl)) ?_; (with_reducible refine (laws_eqInstrS.calls k _ _ t831 _ _ t824 false _ ?side1 ?side2 ?side3 ?side4 A18.out).mono ?_); (case side1 => repeat (first | exact (Kd.R_reads' HO834.out).2.2 | (with_reducible refine Kd.C_alloc ?_ _) | (with_reducible refine Kd.C_drewN ?_ _) | (with_reducible refine Kd.C_drew ?_))); (case side2 => exact (Kd.R_reads' HO834.out).2.1); (case side3 => repeat (first | exact (Kd.R_reads' HO827.out).2.2 | (with_reducible refine Kd.C_alloc ?_ _) | (with_reducible refine Kd.C_drewN ?_ _) | (with_reducible refine Kd.C_drew ?_))); (case side4 => exact (Kd.R_reads' HO827.out).2.1); rintro e w25 ⟨rfl, hb⟩; refine ⟨_, rfl, ?_⟩; have n0_ := zK (Kd.R_below (by (with_reducible repeat (first | apply Kd.R_alloc | apply Kd.R_drewN | apply Kd.R_drew)); exact HO823.out) hb); have n1_ := zK (Kd.R_below (by (with_reducible repeat (first | apply Kd.R_alloc | apply Kd.R_drewN | apply Kd.R_drew)); exact HO827.out) hb); have n2_ := zK (Kd.R_below (by (with_reducible repeat (first | apply Kd.R_alloc | apply Kd.R_drewN | apply Kd.R_drew)); exact HO830.out) hb); have n3_ := zK (Kd.R_below (by (with_reducible repeat (first | apply Kd.R_alloc | apply Kd.R_drewN | apply Kd.R_drew)); exact HO834.out) hb); have n4_ := zK (zL (by repeat (first | (with_reducible first | exact HB.out | apply zA | apply zB | apply zC) | exact HB.out)) hb); clear HO823; clear HO827; clear HO830; clear HO834; clear HB; have HO823 := n0_; have HO827 := n1_; have HO830 := n2_; have HO834 := n3_; have HB := n4_; clear n0_ n1_ n2_ n3_ n4_; (try clear hb); (try clear hb2); (try clear hk); (try clear hi)))
    go_meet
    case rel => exact ⟨_, (true), (by first | rfl | (simp; done) | (simp [*]; done)), H', ⟨by first | omega | exact Nat.le_refl _⟩, ⟨by (with_reducible repeat (first | apply Kd.R_alloc | apply Kd.R_drewN | apply Kd.R_drew)); exact Kd.R_mono HO827.out (fun _ hk => ⟨hk.1.2, hk.2⟩)⟩, ⟨by (with_reducible repeat (first | apply Kd.R_alloc | apply Kd.R_drewN | apply Kd.R_drew)); exact Kd.R_mono HO830.out (fun _ hk => ⟨hk.1.2, hk.2⟩)⟩, ⟨by (with_reducible repeat (first | apply Kd.R_alloc | apply Kd.R_drewN | apply Kd.R_drew)); exact Kd.R_mono HO834.out (fun _ hk => ⟨hk.1.2, hk.2⟩)⟩, ⟨by repeat (first | (with_reducible first | exact HB.out | apply zA | apply zB | apply zC) | exact HB.out)⟩⟩
  case rest =>
   clear HC10
   try clear c1
   try clear c2
   try clear p2
   try clear c4
   try clear c4b0
   try clear c6
   try clear c19
   try clear c25
   obtain ⟨kq, x44_9, rfl, HA, HJ9, HO_6, HO_8, HO_9, HB⟩ := hcut
   cases kq with
   | zero => exact absurd HA.out (by simp [laws_FnExactSwapNeighbours.j0])
   | succ kj9 =>
    have H := HA.out
    clear HA
    simp only [laws_FnExactSwapNeighbours.j0] at H
    by_cases c26 : x44_9 = true
    ·subst c26
     rw [if_pos rfl] at H
     exact absurd ((Option.some.inj H).trans hr) (by decide)
    ·replace c26 := Bool.eq_false_iff.mpr c26
     subst c26
     rw [if_neg (show ¬ (false = true) by decide)] at H
     replace H := Option.bind_eq_some_iff.mp H
     obtain ⟨t836, A270, H⟩ := H
     replace H : ((laws_eqInstrS.f kj9 t828 t836).bind fun t839 => (if t839 = true then ((laws_markInstrS.f kj9 t828 1).bind fun bt840 => (if bt840.1 < 0 then (laws_FnExactSwapNeighbours.j1 kj9 l0 a1 t824 t825 t831 true) else ((laws_eqInstrS.f kj9 t831 t824).bind fun t842 => (if t842 = true then (laws_FnExactSwapNeighbours.j1 kj9 l0 a1 t824 t825 t831 (t832 != t825)) else (laws_FnExactSwapNeighbours.j1 kj9 l0 a1 t824 t825 t831 true))))) else (some false))) = some r := H
     have A27 := zK A270
     clear A270
     replace H := Option.bind_eq_some_iff.mp H
     obtain ⟨t839, A280, H⟩ := H
     replace H : (if t839 = true then ((laws_markInstrS.f kj9 t828 1).bind fun bt840 => (if bt840.1 < 0 then (laws_FnExactSwapNeighbours.j1 kj9 l0 a1 t824 t825 t831 true) else ((laws_eqInstrS.f kj9 t831 t824).bind fun t842 => (if t842 = true then (laws_FnExactSwapNeighbours.j1 kj9 l0 a1 t824 t825 t831 (t832 != t825)) else (laws_FnExactSwapNeighbours.j1 kj9 l0 a1 t824 t825 t831 true))))) else (some false)) = some r := H
     have A28 := zK A280
     clear A280
     by_cases c29 : t839 = true
     ·subst c29
      rw [if_pos rfl] at H
      replace H := Option.bind_eq_some_iff.mp H
      obtain ⟨⟨t840, t841⟩, A300, H⟩ := H
      replace H : (if t840 < 0 then (laws_FnExactSwapNeighbours.j1 kj9 l0 a1 t824 t825 t831 true) else ((laws_eqInstrS.f kj9 t831 t824).bind fun t842 => (if t842 = true then (laws_FnExactSwapNeighbours.j1 kj9 l0 a1 t824 t825 t831 (t832 != t825)) else (laws_FnExactSwapNeighbours.j1 kj9 l0 a1 t824 t825 t831 true)))) = some r := H
      have A30 := zK A300
      clear A300
      have HC31 := zK H
      clear H
      go_upto_region 14 with (first | ((with_reducible refine gate_callee (f := 27) rfl ?_); refine goesL_ (some 47) rfl rfl Try.func27 (by kernel_rfl) rfl #[.slice A0 l0.length c0] rfl (by (try simp only [z6, z7, z8]); first | done | rfl | (simp only [z4, z5]; rfl)) ?_; (with_reducible refine (laws_toInstrS.calls kj9 _ _ l0 t836 _ ?side1 ?side2 A27.out).mono ?_); (case side1 => repeat (first | exact (Kd.C_below HR0.out HB.out) | (with_reducible refine Kd.C_alloc ?_ _) | (with_reducible refine Kd.C_drewN ?_ _) | (with_reducible refine Kd.C_drew ?_))); (case side2 => exact HC0.out); rintro e w32 ⟨v837, rfl, ho0, hb⟩; refine ⟨_, rfl, ?_⟩; have n0_ := zK (Kd.R_elder' (by (with_reducible repeat (first | apply Kd.R_alloc | apply Kd.R_drewN | apply Kd.R_drew)); exact HO_6.out) (Kd.R_base ho0) hb); have n1_ := zK (Kd.R_elder' (by (with_reducible repeat (first | apply Kd.R_alloc | apply Kd.R_drewN | apply Kd.R_drew)); exact HO_8.out) (Kd.R_base ho0) hb); have n2_ := zK (Kd.R_elder' (by (with_reducible repeat (first | apply Kd.R_alloc | apply Kd.R_drewN | apply Kd.R_drew)); exact HO_9.out) (Kd.R_base ho0) hb); have n3_ := zK (Kd.R_lower (Kd.R_new' (Kd.R_new' (Kd.R_new' ho0 (Kd.R_lt (by (with_reducible repeat (first | apply Kd.R_alloc | apply Kd.R_drewN | apply Kd.R_drew)); exact HO_6.out))) (Kd.R_lt (by (with_reducible repeat (first | apply Kd.R_alloc | apply Kd.R_drewN | apply Kd.R_drew)); exact HO_8.out))) (Kd.R_lt (by (with_reducible repeat (first | apply Kd.R_alloc | apply Kd.R_drewN | apply Kd.R_drew)); exact HO_9.out))) (zN (by repeat (first | (with_reducible first | exact HB.out | apply zA | apply zB | apply zC) | exact HB.out)))); have n4_ := zK (zL (by repeat (first | (with_reducible first | exact HB.out | apply zA | apply zB | apply zC) | exact HB.out)) hb); clear HO_6; clear HO_8; clear HO_9; clear HB; have HO_6 := n0_; have HO_8 := n1_; have HO_9 := n2_; have HO838 := n3_; have HB := n4_; clear n0_ n1_ n2_ n3_ n4_; (try clear hb); (try clear hb2); (try clear hk); (try clear hi); (try clear ho0); obtain ⟨Ao33, co33, eo33⟩ := Kd.R_slice HO838.out; subst eo33) | ((with_reducible refine gate_callee (f := 29) rfl ?_); refine goesL_ (some 48) rfl rfl Try.func29 (by kernel_rfl) rfl #[.slice Ao16 t828.length co16, .slice Ao33 t836.length co33] rfl (by (try simp only [z6, z7, z8]); first | done | rfl | (simp only [z4, z5]; rfl)) ?_; (with_reducible refine (laws_eqInstrS.calls kj9 _ _ t828 _ _ t836 true _ ?side1 ?side2 ?side3 ?side4 A28.out).mono ?_); (case side1 => repeat (first | exact (Kd.R_reads' HO_8.out).2.2 | (with_reducible refine Kd.C_alloc ?_ _) | (with_reducible refine Kd.C_drewN ?_ _) | (with_reducible refine Kd.C_drew ?_))); (case side2 => exact (Kd.R_reads' HO_8.out).2.1); (case side3 => repeat (first | exact (Kd.R_reads' HO838.out).2.2 | (with_reducible refine Kd.C_alloc ?_ _) | (with_reducible refine Kd.C_drewN ?_ _) | (with_reducible refine Kd.C_drew ?_))); (case side4 => exact (Kd.R_reads' HO838.out).2.1); rintro e w34 ⟨rfl, hb⟩; refine ⟨_, rfl, ?_⟩; have n0_ := zK (Kd.R_below (by (with_reducible repeat (first | apply Kd.R_alloc | apply Kd.R_drewN | apply Kd.R_drew)); exact HO_6.out) hb); have n1_ := zK (Kd.R_below (by (with_reducible repeat (first | apply Kd.R_alloc | apply Kd.R_drewN | apply Kd.R_drew)); exact HO_8.out) hb); have n2_ := zK (Kd.R_below (by (with_reducible repeat (first | apply Kd.R_alloc | apply Kd.R_drewN | apply Kd.R_drew)); exact HO_9.out) hb); have n3_ := zK (Kd.R_below (by (with_reducible repeat (first | apply Kd.R_alloc | apply Kd.R_drewN | apply Kd.R_drew)); exact HO838.out) hb); have n4_ := zK (zL (by repeat (first | (with_reducible first | exact HB.out | apply zA | apply zB | apply zC) | exact HB.out)) hb); clear HO_6; clear HO_8; clear HO_9; clear HO838; clear HB; have HO_6 := n0_; have HO_8 := n1_; have HO_9 := n2_; have HO838 := n3_; have HB := n4_; clear n0_ n1_ n2_ n3_ n4_; (try clear hb); (try clear hb2); (try clear hk); (try clear hi)) | ((with_reducible refine gate_callee (f := 30) rfl ?_); refine goesL_ (some 52) rfl rfl Try.func30 (by kernel_rfl) rfl #[.slice Ao16 t828.length co16, .int .i64 1] rfl (by (try simp only [z6, z7, z8]); first | done | rfl | (simp only [z4, z5]; rfl)) ?_; (with_reducible refine (laws_markInstrS.calls kj9 (fun k_ => some k_ = (.slice Ao16 t828.length co16 : Value).ownBlock) (.slice Ao16 t828.length co16) t828 1 t840 t841 w _ ?side1 ?side2 A30.out).mono ?_); (case side1 => repeat (first | (with_reducible first | exact HB.out | apply zA | apply zB | apply zC) | exact HB.out)); (case side2 => exact Kd.R_tight rfl HO_8.out); rintro e w35 ⟨rfl, hy0, hb, hkp⟩; refine ⟨_, rfl, ?_⟩; have n0_ := zK (Kd.R_mono (ok' := fun k_ => some k_ ≠ (.slice Ao16 t828.length co16 : Value).ownBlock ∧ some k_ ≠ (v833 : Value).ownBlock ∧ some k_ ≠ (.slice Ao33 t836.length co33 : Value).ownBlock) (Kd.R_keptB (HO_6.out) hkp (fun k_ hk_ hs_ => (hk_.1.1) hs_)) (fun k_ hk_ => ⟨hk_.1.1.1, hk_.1.1.2, hk_.1.2⟩)); have n1_ := zK (Kd.R_reok rfl hy0 (fun k_ e_ => HO_8.out.1 k_ e_)); have n2_ := zK (Kd.R_mono (ok' := fun k_ => some k_ ≠ (v826 : Value).ownBlock ∧ some k_ ≠ (.slice Ao16 t828.length co16 : Value).ownBlock ∧ some k_ ≠ (.slice Ao33 t836.length co33 : Value).ownBlock) (Kd.R_keptB (HO_9.out) hkp (fun k_ hk_ hs_ => (hk_.1.2) hs_)) (fun k_ hk_ => ⟨hk_.1.1.1, hk_.1.1.2, hk_.1.2⟩)); have n3_ := zK (Kd.R_mono (ok' := fun k_ => some k_ ≠ (v826 : Value).ownBlock ∧ some k_ ≠ (.slice Ao16 t828.length co16 : Value).ownBlock ∧ some k_ ≠ (v833 : Value).ownBlock) (Kd.R_keptB (HO838.out) hkp (fun k_ hk_ hs_ => (hk_.1.2) hs_)) (fun k_ hk_ => ⟨hk_.1.1.1.2, hk_.1.1.2, hk_.1.2⟩)); have n4_ := zK (hb); clear HO_6; clear HO_8; clear HO_9; clear HO838; clear HB; have HO_6 := n0_; have HO_8 := n1_; have HO_9 := n2_; have HO838 := n3_; have HB := n4_; clear n0_ n1_ n2_ n3_ n4_; (try clear hb); (try clear hkp); (try clear hy0)))
      (try simp only [Act.put, z1, z2, z3])
      go_cut [65] (fun v65 wc => ∃ (kq : Nat) (x65_30 : Bool), v65 = .bool x65_30 ∧ Aside0 (laws_FnExactSwapNeighbours.j1 kq l0 a1 t824 t825 t831 x65_30 = some r) ∧ Aside0 (kq ≤ kj9) ∧ Aside0 (Kd.R k37 37 wc w.heap.size (fun k_ => some k_ ≠ (v833 : Value).ownBlock) v826 t824) ∧ Aside0 (Kd.R k37 37 wc w.heap.size (fun k_ => some k_ ≠ (v826 : Value).ownBlock) v833 t831) ∧ Aside0 (Below w.heap.size w wc))
      case first =>
       have H := HC31.out
       clear HC31
       by_cases c36 : t840 < 0
       ·rw [if_pos c36] at H
        have c36b0 : decide (t840 < 0) = true := decide_eq_true c36
        clear c36
        (first | rw [c36b0] | (simp only [i64_w, i32_w]; rw [c36b0]) | skip)
        have H' := zK H
        clear H
        go_wp2
        go_meet
        case rel => exact ⟨_, (true), (by first | rfl | (simp; done) | (simp [*]; done)), H', ⟨by have := HJ9.out; first | omega | exact Nat.le_refl _⟩, ⟨by (with_reducible repeat (first | apply Kd.R_alloc | apply Kd.R_drewN | apply Kd.R_drew)); exact Kd.R_mono HO_6.out (fun _ hk => hk.2.1)⟩, ⟨by (with_reducible repeat (first | apply Kd.R_alloc | apply Kd.R_drewN | apply Kd.R_drew)); exact Kd.R_mono HO_9.out (fun _ hk => hk.1)⟩, ⟨by repeat (first | (with_reducible first | exact HB.out | apply zA | apply zB | apply zC) | exact HB.out)⟩⟩
       ·rw [if_neg c36] at H
        have c36b0 : decide (t840 < 0) = false := decide_eq_false c36
        clear c36
        (first | rw [c36b0] | (simp only [i64_w, i32_w]; rw [c36b0]) | skip)
        replace H := Option.bind_eq_some_iff.mp H
        obtain ⟨t842, A370, H⟩ := H
        replace H : (if t842 = true then (laws_FnExactSwapNeighbours.j1 kj9 l0 a1 t824 t825 t831 (t832 != t825)) else (laws_FnExactSwapNeighbours.j1 kj9 l0 a1 t824 t825 t831 true)) = some r := H
        have A37 := zK A370
        clear A370
        by_cases c38 : t842 = true
        ·subst c38
         rw [if_pos rfl] at H
         have H' := zK H
         clear H
         obtain ⟨Ao39, co39, eo39⟩ := Kd.R_slice HO_9.out
         subst eo39
         obtain ⟨Ao40, co40, eo40⟩ := Kd.R_slice HO_6.out
         subst eo40
         go_wp2_with (first | (go_at_call 29; (with_reducible refine (laws_eqInstrS.calls kj9 _ _ t831 _ _ t824 true _ ?side1 ?side2 ?side3 ?side4 A37.out).mono ?_); (case side1 => repeat (first | exact (Kd.R_reads' HO_9.out).2.2 | (with_reducible refine Kd.C_alloc ?_ _) | (with_reducible refine Kd.C_drewN ?_ _) | (with_reducible refine Kd.C_drew ?_))); (case side2 => exact (Kd.R_reads' HO_9.out).2.1); (case side3 => repeat (first | exact (Kd.R_reads' HO_6.out).2.2 | (with_reducible refine Kd.C_alloc ?_ _) | (with_reducible refine Kd.C_drewN ?_ _) | (with_reducible refine Kd.C_drew ?_))); (case side4 => exact (Kd.R_reads' HO_6.out).2.1); rintro e w41 ⟨rfl, hb⟩; have n0_ := zK (Kd.R_below (by (with_reducible repeat (first | apply Kd.R_alloc | apply Kd.R_drewN | apply Kd.R_drew)); exact HO_6.out) hb); have n1_ := zK (Kd.R_below (by (with_reducible repeat (first | apply Kd.R_alloc | apply Kd.R_drewN | apply Kd.R_drew)); exact HO_8.out) hb); have n2_ := zK (Kd.R_below (by (with_reducible repeat (first | apply Kd.R_alloc | apply Kd.R_drewN | apply Kd.R_drew)); exact HO_9.out) hb); have n3_ := zK (Kd.R_below (by (with_reducible repeat (first | apply Kd.R_alloc | apply Kd.R_drewN | apply Kd.R_drew)); exact HO838.out) hb); have n4_ := zK (zL (by repeat (first | (with_reducible first | exact HB.out | apply zA | apply zB | apply zC) | exact HB.out)) hb); clear HO_6; clear HO_8; clear HO_9; clear HO838; clear HB; have HO_6 := n0_; have HO_8 := n1_; have HO_9 := n2_; have HO838 := n3_; have HB := n4_; clear n0_ n1_ n2_ n3_ n4_; (try clear hb); (try clear hb2); (try clear hk); (try clear hi)))
         go_meet
         case rel => exact ⟨_, ((t832 != t825)), (by first | rfl | (simp; done) | (simp [*]; done)), H', ⟨by have := HJ9.out; first | omega | exact Nat.le_refl _⟩, ⟨by (with_reducible repeat (first | apply Kd.R_alloc | apply Kd.R_drewN | apply Kd.R_drew)); exact Kd.R_mono HO_6.out (fun _ hk => hk.2.1)⟩, ⟨by (with_reducible repeat (first | apply Kd.R_alloc | apply Kd.R_drewN | apply Kd.R_drew)); exact Kd.R_mono HO_9.out (fun _ hk => hk.1)⟩, ⟨by repeat (first | (with_reducible first | exact HB.out | apply zA | apply zB | apply zC) | exact HB.out)⟩⟩
        ·replace c38 := Bool.eq_false_iff.mpr c38
         subst c38
         rw [if_neg (show ¬ (false = true) by decide)] at H
         have H' := zK H
         clear H
         obtain ⟨Ao42, co42, eo42⟩ := Kd.R_slice HO_9.out
         subst eo42
         obtain ⟨Ao43, co43, eo43⟩ := Kd.R_slice HO_6.out
         subst eo43
         go_wp2_with (first | (go_at_call 29; (with_reducible refine (laws_eqInstrS.calls kj9 _ _ t831 _ _ t824 false _ ?side1 ?side2 ?side3 ?side4 A37.out).mono ?_); (case side1 => repeat (first | exact (Kd.R_reads' HO_9.out).2.2 | (with_reducible refine Kd.C_alloc ?_ _) | (with_reducible refine Kd.C_drewN ?_ _) | (with_reducible refine Kd.C_drew ?_))); (case side2 => exact (Kd.R_reads' HO_9.out).2.1); (case side3 => repeat (first | exact (Kd.R_reads' HO_6.out).2.2 | (with_reducible refine Kd.C_alloc ?_ _) | (with_reducible refine Kd.C_drewN ?_ _) | (with_reducible refine Kd.C_drew ?_))); (case side4 => exact (Kd.R_reads' HO_6.out).2.1); rintro e w44 ⟨rfl, hb⟩; have n0_ := zK (Kd.R_below (by (with_reducible repeat (first | apply Kd.R_alloc | apply Kd.R_drewN | apply Kd.R_drew)); exact HO_6.out) hb); have n1_ := zK (Kd.R_below (by (with_reducible repeat (first | apply Kd.R_alloc | apply Kd.R_drewN | apply Kd.R_drew)); exact HO_8.out) hb); have n2_ := zK (Kd.R_below (by (with_reducible repeat (first | apply Kd.R_alloc | apply Kd.R_drewN | apply Kd.R_drew)); exact HO_9.out) hb); have n3_ := zK (Kd.R_below (by (with_reducible repeat (first | apply Kd.R_alloc | apply Kd.R_drewN | apply Kd.R_drew)); exact HO838.out) hb); have n4_ := zK (zL (by repeat (first | (with_reducible first | exact HB.out | apply zA | apply zB | apply zC) | exact HB.out)) hb); clear HO_6; clear HO_8; clear HO_9; clear HO838; clear HB; have HO_6 := n0_; have HO_8 := n1_; have HO_9 := n2_; have HO838 := n3_; have HB := n4_; clear n0_ n1_ n2_ n3_ n4_; (try clear hb); (try clear hb2); (try clear hk); (try clear hi)))
         go_meet
         case rel => exact ⟨_, (true), (by first | rfl | (simp; done) | (simp [*]; done)), H', ⟨by have := HJ9.out; first | omega | exact Nat.le_refl _⟩, ⟨by (with_reducible repeat (first | apply Kd.R_alloc | apply Kd.R_drewN | apply Kd.R_drew)); exact Kd.R_mono HO_6.out (fun _ hk => hk.2.1)⟩, ⟨by (with_reducible repeat (first | apply Kd.R_alloc | apply Kd.R_drewN | apply Kd.R_drew)); exact Kd.R_mono HO_9.out (fun _ hk => hk.1)⟩, ⟨by repeat (first | (with_reducible first | exact HB.out | apply zA | apply zB | apply zC) | exact HB.out)⟩⟩
      case rest =>
       clear HC31
       try clear c1
       try clear c2
       try clear p2
       try clear c3
       try clear c4
       try clear c4b0
       try clear c6
       try clear c19
       try clear c25
       try clear c26
       try clear c27
       try clear c28
       try clear c29
       try clear c30
       try clear c36
       try clear c36b0
       try clear c38
       try clear p2
       obtain ⟨kq, x65_30, rfl, HA, HJ30, HO_6, HO_9, HB⟩ := hcut
       cases kq with
       | zero => exact absurd HA.out (by simp [laws_FnExactSwapNeighbours.j1])
       | succ kj30 =>
        have H := HA.out
        clear HA
        simp only [laws_FnExactSwapNeighbours.j1] at H
        by_cases c45 : x65_30 = true
        ·subst c45
         rw [if_pos rfl] at H
         exact absurd ((Option.some.inj H).trans hr) (by decide)
        ·replace c45 := Bool.eq_false_iff.mpr c45
         subst c45
         rw [if_neg (show ¬ (false = true) by decide)] at H
         replace H := Option.bind_eq_some_iff.mp H
         obtain ⟨⟨t843, t844⟩, A460, H⟩ := H
         replace H : ((laws_heldInstrS.f kj30 t844 1).bind fun t845 => (if t845 < 0 then (some false) else (if t845 = t843 then ((laws_toInstrS.f kj30 l0).bind fun t846 => ((impl_SwapNeighbours.f kj30 t846 a1).bind fun bt849 => ((laws_eqInstrS.f kj30 bt849.1 t824).bind fun t853 => (if t853 = true then (laws_FnExactSwapNeighbours.j2 kj30 t844 t843 (bt849.2 != t825)) else (laws_FnExactSwapNeighbours.j2 kj30 t844 t843 true))))) else (some false)))) = some r := H
         have A46 := zK A460
         clear A460
         replace H := Option.bind_eq_some_iff.mp H
         obtain ⟨t845, A470, H⟩ := H
         replace H : (if t845 < 0 then (some false) else (if t845 = t843 then ((laws_toInstrS.f kj30 l0).bind fun t846 => ((impl_SwapNeighbours.f kj30 t846 a1).bind fun bt849 => ((laws_eqInstrS.f kj30 bt849.1 t824).bind fun t853 => (if t853 = true then (laws_FnExactSwapNeighbours.j2 kj30 t844 t843 (bt849.2 != t825)) else (laws_FnExactSwapNeighbours.j2 kj30 t844 t843 true))))) else (some false))) = some r := H
         have A47 := zK A470
         clear A470
         by_cases c48 : t845 < 0
         ·rw [if_pos c48] at H
          have c48b0 : decide (t845 < 0) = true := decide_eq_true c48
          clear c48
          exact absurd ((Option.some.inj H).trans hr) (by decide)
         ·rw [if_neg c48] at H
          have c48b0 : decide (t845 < 0) = false := decide_eq_false c48
          clear c48
          by_cases c52 : t845 = t843
          ·rw [if_pos c52] at H
           have c52b0 : (t845 == t843) = true := beq_iff_eq.mpr c52
           have c52b1 : (t845 != t843) = false := bne_eq_false_iff_eq.mpr c52
           clear c52
           replace H := Option.bind_eq_some_iff.mp H
           obtain ⟨t846, A530, H⟩ := H
           replace H : ((impl_SwapNeighbours.f kj30 t846 a1).bind fun bt849 => ((laws_eqInstrS.f kj30 bt849.1 t824).bind fun t853 => (if t853 = true then (laws_FnExactSwapNeighbours.j2 kj30 t844 t843 (bt849.2 != t825)) else (laws_FnExactSwapNeighbours.j2 kj30 t844 t843 true)))) = some r := H
           have A53 := zK A530
           clear A530
           replace H := Option.bind_eq_some_iff.mp H
           obtain ⟨⟨t849, t850⟩, A540, H⟩ := H
           replace H : ((laws_eqInstrS.f kj30 t849 t824).bind fun t853 => (if t853 = true then (laws_FnExactSwapNeighbours.j2 kj30 t844 t843 (t850 != t825)) else (laws_FnExactSwapNeighbours.j2 kj30 t844 t843 true))) = some r := H
           have A54 := zK A540
           clear A540
           have HC55 := zK H
           clear H
           obtain ⟨Ao56, co56, eo56⟩ := Kd.R_slice HO_9.out
           subst eo56
           go_upto_region 25 with (first | ((with_reducible refine gate_callee (f := 30) rfl ?_); refine goesL_ (some 68) rfl rfl Try.func30 (by kernel_rfl) rfl #[.slice Ao56 t831.length co56, .int .i64 1] rfl (by (try simp only [z6, z7, z8]); first | done | rfl | (simp only [z4, z5]; rfl)) ?_; (with_reducible refine (laws_markInstrS.calls kj30 (fun k_ => some k_ = (.slice Ao56 t831.length co56 : Value).ownBlock) (.slice Ao56 t831.length co56) t831 1 t843 t844 w _ ?side1 ?side2 A46.out).mono ?_); (case side1 => repeat (first | (with_reducible first | exact HB.out | apply zA | apply zB | apply zC) | exact HB.out)); (case side2 => exact Kd.R_tight rfl HO_9.out); rintro e w57 ⟨rfl, hy0, hb, hkp⟩; refine ⟨_, rfl, ?_⟩; have n0_ := zK (Kd.R_mono (ok' := fun k_ => some k_ ≠ (.slice Ao56 t831.length co56 : Value).ownBlock) (Kd.R_keptB (HO_6.out) hkp (fun k_ hk_ hs_ => (hk_) hs_)) (fun k_ hk_ => hk_.1)); have n1_ := zK (Kd.R_reok rfl hy0 (fun k_ e_ => HO_9.out.1 k_ e_)); have n2_ := zK (hb); clear HO_6; clear HO_9; clear HB; have HO_6 := n0_; have HO_9 := n1_; have HB := n2_; clear n0_ n1_ n2_; (try clear hb); (try clear hkp); (try clear hy0)) | ((with_reducible refine gate_callee (f := 31) rfl ?_); refine goesL_ (some 71) rfl rfl Try.func31 (by kernel_rfl) rfl #[.slice Ao56 t844.length co56, .int .i64 1] rfl (by (try simp only [z6, z7, z8]); first | done | (rw [show t844.length = t831.length from (Kd.R_reads' HO_9.out).1.symm] <;> rfl) | rfl | (simp only [z4, z5]; rfl)) ?_; (with_reducible refine (laws_heldInstrS.calls kj30 _ _ t844 1 t845 _ ?side1 ?side2 A47.out).mono ?_); (case side1 => repeat (first | exact (Kd.R_reads' HO_9.out).2.2 | (with_reducible refine Kd.C_alloc ?_ _) | (with_reducible refine Kd.C_drewN ?_ _) | (with_reducible refine Kd.C_drew ?_))); (case side2 => rw [show t844.length = t831.length from (Kd.R_reads' HO_9.out).1.symm]; exact (Kd.R_reads' HO_9.out).2.1); rintro e w58 ⟨rfl, hb⟩; refine ⟨_, rfl, ?_⟩; have n0_ := zK (Kd.R_below (by (with_reducible repeat (first | apply Kd.R_alloc | apply Kd.R_drewN | apply Kd.R_drew)); exact HO_6.out) hb); have n1_ := zK (Kd.R_below (by (with_reducible repeat (first | apply Kd.R_alloc | apply Kd.R_drewN | apply Kd.R_drew)); exact HO_9.out) hb); have n2_ := zK (zL (by repeat (first | (with_reducible first | exact HB.out | apply zA | apply zB | apply zC) | exact HB.out)) hb); clear HO_6; clear HO_9; clear HB; have HO_6 := n0_; have HO_9 := n1_; have HB := n2_; clear n0_ n1_ n2_; (try clear hb); (try clear hb2); (try clear hk); (try clear hi)) | ((with_reducible refine gate_callee (f := 27) rfl ?_); refine goesL_ (some 79) rfl rfl Try.func27 (by kernel_rfl) rfl #[.slice A0 l0.length c0] rfl (by (try simp only [z6, z7, z8]); first | done | rfl | (simp only [z4, z5]; rfl)) ?_; (with_reducible refine (laws_toInstrS.calls kj30 _ _ l0 t846 _ ?side1 ?side2 A53.out).mono ?_); (case side1 => repeat (first | exact (Kd.C_below HR0.out HB.out) | (with_reducible refine Kd.C_alloc ?_ _) | (with_reducible refine Kd.C_drewN ?_ _) | (with_reducible refine Kd.C_drew ?_))); (case side2 => exact HC0.out); rintro e w59 ⟨v847, rfl, ho0, hb⟩; refine ⟨_, rfl, ?_⟩; have n0_ := zK (Kd.R_elder' (by (with_reducible repeat (first | apply Kd.R_alloc | apply Kd.R_drewN | apply Kd.R_drew)); exact HO_6.out) (Kd.R_base ho0) hb); have n1_ := zK (Kd.R_elder' (by (with_reducible repeat (first | apply Kd.R_alloc | apply Kd.R_drewN | apply Kd.R_drew)); exact HO_9.out) (Kd.R_base ho0) hb); have n2_ := zK (Kd.R_lower (Kd.R_new' (Kd.R_new' ho0 (Kd.R_lt (by (with_reducible repeat (first | apply Kd.R_alloc | apply Kd.R_drewN | apply Kd.R_drew)); exact HO_6.out))) (Kd.R_lt (by (with_reducible repeat (first | apply Kd.R_alloc | apply Kd.R_drewN | apply Kd.R_drew)); exact HO_9.out))) (zN (by repeat (first | (with_reducible first | exact HB.out | apply zA | apply zB | apply zC) | exact HB.out)))); have n3_ := zK (zL (by repeat (first | (with_reducible first | exact HB.out | apply zA | apply zB | apply zC) | exact HB.out)) hb); clear HO_6; clear HO_9; clear HB; have HO_6 := n0_; have HO_9 := n1_; have HO848 := n2_; have HB := n3_; clear n0_ n1_ n2_ n3_; (try clear hb); (try clear hb2); (try clear hk); (try clear hi); (try clear ho0); obtain ⟨Ao60, co60, eo60⟩ := Kd.R_slice HO848.out; subst eo60) | ((with_reducible refine gate_callee (f := 28) rfl ?_); refine goesL_ (some 81) rfl rfl Try.func28 (by kernel_rfl) rfl #[.slice Ao60 t846.length co60, .int .i64 a1] rfl (by (try simp only [z6, z7, z8]); first | done | rfl | (simp only [z4, z5]; rfl)) ?_; (with_reducible refine (impl_SwapNeighbours.calls kj30 _ _ t846 a1 t849 t850 _ ?side1 ?side2 A54.out).mono ?_); (case side1 => repeat (first | exact (Kd.R_reads' HO848.out).2.2 | (with_reducible refine Kd.C_alloc ?_ _) | (with_reducible refine Kd.C_drewN ?_ _) | (with_reducible refine Kd.C_drew ?_))); (case side2 => exact (Kd.R_reads' HO848.out).2.1); rintro e w61 ⟨v851, rfl, ho0, hb⟩; refine ⟨_, rfl, ?_⟩; have n0_ := zK (Kd.R_elder' (by (with_reducible repeat (first | apply Kd.R_alloc | apply Kd.R_drewN | apply Kd.R_drew)); exact HO_6.out) (Kd.R_base ho0) hb); have n1_ := zK (Kd.R_elder' (by (with_reducible repeat (first | apply Kd.R_alloc | apply Kd.R_drewN | apply Kd.R_drew)); exact HO_9.out) (Kd.R_base ho0) hb); have n2_ := zK (Kd.R_elder' (by (with_reducible repeat (first | apply Kd.R_alloc | apply Kd.R_drewN | apply Kd.R_drew)); exact HO848.out) (Kd.R_base ho0) hb); have n3_ := zK (Kd.R_lower (Kd.R_new' (Kd.R_new' (Kd.R_new' ho0 (Kd.R_lt (by (with_reducible repeat (first | apply Kd.R_alloc | apply Kd.R_drewN | apply Kd.R_drew)); exact HO_6.out))) (Kd.R_lt (by (with_reducible repeat (first | apply Kd.R_alloc | apply Kd.R_drewN | apply Kd.R_drew)); exact HO_9.out))) (Kd.R_lt (by (with_reducible repeat (first | apply Kd.R_alloc | apply Kd.R_drewN | apply Kd.R_drew)); exact HO848.out))) (zN (by repeat (first | (with_reducible first | exact HB.out | apply zA | apply zB | apply zC) | exact HB.out)))); have n4_ := zK (zL (by repeat (first | (with_reducible first | exact HB.out | apply zA | apply zB | apply zC) | exact HB.out)) hb); clear HO_6; clear HO_9; clear HO848; clear HB; have HO_6 := n0_; have HO_9 := n1_; have HO848 := n2_; have HO852 := n3_; have HB := n4_; clear n0_ n1_ n2_ n3_ n4_; (try clear hb); (try clear hb2); (try clear hk); (try clear hi); (try clear ho0)))
           (try simp only [Act.put, z1, z2, z3])
           go_cut [92] (fun v92 wc => ∃ (kq : Nat) (x92_54 : Bool), v92 = .bool x92_54 ∧ Aside0 (laws_FnExactSwapNeighbours.j2 kq t844 t843 x92_54 = some r) ∧ Aside0 (kq ≤ kj30) ∧ Aside0 (Kd.R k37 37 wc w.heap.size (fun _ => True) (.slice Ao56 t831.length co56) t844) ∧ Aside0 (Below w.heap.size w wc))
           case first =>
            have H := HC55.out
            clear HC55
            replace H := Option.bind_eq_some_iff.mp H
            obtain ⟨t853, A620, H⟩ := H
            replace H : (if t853 = true then (laws_FnExactSwapNeighbours.j2 kj30 t844 t843 (t850 != t825)) else (laws_FnExactSwapNeighbours.j2 kj30 t844 t843 true)) = some r := H
            have A62 := zK A620
            clear A620
            by_cases c63 : t853 = true
            ·subst c63
             rw [if_pos rfl] at H
             have H' := zK H
             clear H
             obtain ⟨Ao64, co64, eo64⟩ := Kd.R_slice HO852.out
             subst eo64
             obtain ⟨Ao65, co65, eo65⟩ := Kd.R_slice HO_6.out
             subst eo65
             go_wp2_with (first | ((with_reducible refine gate_callee (f := 29) rfl ?_); refine goesL_ (some 86) rfl rfl Try.func29 (by kernel_rfl) rfl #[.slice Ao64 t849.length co64, .slice Ao65 t824.length co65] rfl (by (try simp only [z6, z7, z8]); first | done | rfl | (simp only [z4, z5]; rfl)) ?_; (with_reducible refine (laws_eqInstrS.calls kj30 _ _ t849 _ _ t824 true _ ?side1 ?side2 ?side3 ?side4 A62.out).mono ?_); (case side1 => repeat (first | exact (Kd.R_reads' HO852.out).2.2 | (with_reducible refine Kd.C_alloc ?_ _) | (with_reducible refine Kd.C_drewN ?_ _) | (with_reducible refine Kd.C_drew ?_))); (case side2 => exact (Kd.R_reads' HO852.out).2.1); (case side3 => repeat (first | exact (Kd.R_reads' HO_6.out).2.2 | (with_reducible refine Kd.C_alloc ?_ _) | (with_reducible refine Kd.C_drewN ?_ _) | (with_reducible refine Kd.C_drew ?_))); (case side4 => exact (Kd.R_reads' HO_6.out).2.1); rintro e w66 ⟨rfl, hb⟩; refine ⟨_, rfl, ?_⟩; have n0_ := zK (Kd.R_below (by (with_reducible repeat (first | apply Kd.R_alloc | apply Kd.R_drewN | apply Kd.R_drew)); exact HO_6.out) hb); have n1_ := zK (Kd.R_below (by (with_reducible repeat (first | apply Kd.R_alloc | apply Kd.R_drewN | apply Kd.R_drew)); exact HO_9.out) hb); have n2_ := zK (Kd.R_below (by (with_reducible repeat (first | apply Kd.R_alloc | apply Kd.R_drewN | apply Kd.R_drew)); exact HO848.out) hb); have n3_ := zK (Kd.R_below (by (with_reducible repeat (first | apply Kd.R_alloc | apply Kd.R_drewN | apply Kd.R_drew)); exact HO852.out) hb); have n4_ := zK (zL (by repeat (first | (with_reducible first | exact HB.out | apply zA | apply zB | apply zC) | exact HB.out)) hb); clear HO_6; clear HO_9; clear HO848; clear HO852; clear HB; have HO_6 := n0_; have HO_9 := n1_; have HO848 := n2_; have HO852 := n3_; have HB := n4_; clear n0_ n1_ n2_ n3_ n4_; (try clear hb); (try clear hb2); (try clear hk); (try clear hi)))
             go_meet
             case rel => exact ⟨_, ((t850 != t825)), (by first | rfl | (simp; done) | (simp [*]; done)), H', ⟨by have := HJ9.out; have := HJ30.out; first | omega | exact Nat.le_refl _⟩, ⟨by (with_reducible repeat (first | apply Kd.R_alloc | apply Kd.R_drewN | apply Kd.R_drew)); exact Kd.R_mono HO_9.out (fun _ hk => trivial)⟩, ⟨by repeat (first | (with_reducible first | exact HB.out | apply zA | apply zB | apply zC) | exact HB.out)⟩⟩
            ·replace c63 := Bool.eq_false_iff.mpr c63
             subst c63
             rw [if_neg (show ¬ (false = true) by decide)] at H
             have H' := zK H
             clear H
             obtain ⟨Ao67, co67, eo67⟩ := Kd.R_slice HO852.out
             subst eo67
             obtain ⟨Ao68, co68, eo68⟩ := Kd.R_slice HO_6.out
             subst eo68
             go_wp2_with (first | ((with_reducible refine gate_callee (f := 29) rfl ?_); refine goesL_ (some 86) rfl rfl Try.func29 (by kernel_rfl) rfl #[.slice Ao67 t849.length co67, .slice Ao68 t824.length co68] rfl (by (try simp only [z6, z7, z8]); first | done | rfl | (simp only [z4, z5]; rfl)) ?_; (with_reducible refine (laws_eqInstrS.calls kj30 _ _ t849 _ _ t824 false _ ?side1 ?side2 ?side3 ?side4 A62.out).mono ?_); (case side1 => repeat (first | exact (Kd.R_reads' HO852.out).2.2 | (with_reducible refine Kd.C_alloc ?_ _) | (with_reducible refine Kd.C_drewN ?_ _) | (with_reducible refine Kd.C_drew ?_))); (case side2 => exact (Kd.R_reads' HO852.out).2.1); (case side3 => repeat (first | exact (Kd.R_reads' HO_6.out).2.2 | (with_reducible refine Kd.C_alloc ?_ _) | (with_reducible refine Kd.C_drewN ?_ _) | (with_reducible refine Kd.C_drew ?_))); (case side4 => exact (Kd.R_reads' HO_6.out).2.1); rintro e w69 ⟨rfl, hb⟩; refine ⟨_, rfl, ?_⟩; have n0_ := zK (Kd.R_below (by (with_reducible repeat (first | apply Kd.R_alloc | apply Kd.R_drewN | apply Kd.R_drew)); exact HO_6.out) hb); have n1_ := zK (Kd.R_below (by (with_reducible repeat (first | apply Kd.R_alloc | apply Kd.R_drewN | apply Kd.R_drew)); exact HO_9.out) hb); have n2_ := zK (Kd.R_below (by (with_reducible repeat (first | apply Kd.R_alloc | apply Kd.R_drewN | apply Kd.R_drew)); exact HO848.out) hb); have n3_ := zK (Kd.R_below (by (with_reducible repeat (first | apply Kd.R_alloc | apply Kd.R_drewN | apply Kd.R_drew)); exact HO852.out) hb); have n4_ := zK (zL (by repeat (first | (with_reducible first | exact HB.out | apply zA | apply zB | apply zC) | exact HB.out)) hb); clear HO_6; clear HO_9; clear HO848; clear HO852; clear HB; have HO_6 := n0_; have HO_9 := n1_; have HO848 := n2_; have HO852 := n3_; have HB := n4_; clear n0_ n1_ n2_ n3_ n4_; (try clear hb); (try clear hb2); (try clear hk); (try clear hi)))
             go_meet
             case rel => exact ⟨_, (true), (by first | rfl | (simp; done) | (simp [*]; done)), H', ⟨by have := HJ9.out; have := HJ30.out; first | omega | exact Nat.le_refl _⟩, ⟨by (with_reducible repeat (first | apply Kd.R_alloc | apply Kd.R_drewN | apply Kd.R_drew)); exact Kd.R_mono HO_9.out (fun _ hk => trivial)⟩, ⟨by repeat (first | (with_reducible first | exact HB.out | apply zA | apply zB | apply zC) | exact HB.out)⟩⟩
           case rest =>
            clear HC55
            try clear c1
            try clear c2
            try clear p2
            try clear c3
            try clear c4
            try clear c4b0
            try clear c5
            try clear c6
            try clear c19
            try clear c25
            try clear c26
            try clear c27
            try clear c28
            try clear c29
            try clear c30
            try clear c31
            try clear c36
            try clear c36b0
            try clear c38
            try clear c45
            try clear c48
            try clear c48b0
            try clear c52
            try clear c52b0
            try clear c52b1
            try clear c63
            try clear p2
            obtain ⟨kq, x92_54, rfl, HA, HJ54, HO_9, HB⟩ := hcut
            have hl9_54 := (Kd.R_reads' HO_9.out).1
            rw [hl9_54] at HO_9
            (try simp only [hl9_54])
            cases kq with
            | zero => exact absurd HA.out (by simp [laws_FnExactSwapNeighbours.j2])
            | succ kj54 =>
             have H := HA.out
             clear HA
             simp only [laws_FnExactSwapNeighbours.j2] at H
             by_cases c70 : x92_54 = true
             ·subst c70
              rw [if_pos rfl] at H
              exact absurd ((Option.some.inj H).trans hr) (by decide)
             ·replace c70 := Bool.eq_false_iff.mpr c70
              subst c70
              rw [if_neg (show ¬ (false = true) by decide)] at H
              replace H := Option.bind_eq_some_iff.mp H
              obtain ⟨t854, A710, H⟩ := H
              replace H : (if t854 < 0 then (some false) else (if t854 = t843 then (some true) else (some false))) = some r := H
              have A71 := zK A710
              clear A710
              by_cases c72 : t854 < 0
              ·rw [if_pos c72] at H
               have c72b0 : decide (t854 < 0) = true := decide_eq_true c72
               clear c72
               exact absurd ((Option.some.inj H).trans hr) (by decide)
              ·rw [if_neg c72] at H
               have c72b0 : decide (t854 < 0) = false := decide_eq_false c72
               clear c72
               by_cases c74 : t854 = t843
               ·rw [if_pos c74] at H
                have c74b0 : (t854 == t843) = true := beq_iff_eq.mpr c74
                have c74b1 : (t854 != t843) = false := bne_eq_false_iff_eq.mpr c74
                clear c74
                obtain rfl := Option.some.inj H
                go_wp2_with (first | ((with_reducible refine gate_callee (f := 31) rfl ?_); refine goesL_ (some 95) rfl rfl Try.func31 (by kernel_rfl) rfl #[.slice Ao56 t844.length co56, .int .i64 1] rfl (by (try simp only [z6, z7, z8]); first | done | rfl | (simp only [z4, z5]; rfl)) ?_; (with_reducible refine (laws_heldInstrS.calls kj54 _ _ t844 1 t854 _ ?side1 ?side2 A71.out).mono ?_); (case side1 => repeat (first | exact (Kd.R_reads' HO_9.out).2.2 | (with_reducible refine Kd.C_alloc ?_ _) | (with_reducible refine Kd.C_drewN ?_ _) | (with_reducible refine Kd.C_drew ?_))); (case side2 => exact (Kd.R_reads' HO_9.out).2.1); rintro e w75 ⟨rfl, hb⟩; refine ⟨_, rfl, ?_⟩; have n0_ := zK (Kd.R_below (by (with_reducible repeat (first | apply Kd.R_alloc | apply Kd.R_drewN | apply Kd.R_drew)); exact HO_9.out) hb); have n1_ := zK (zL (by repeat (first | (with_reducible first | exact HB.out | apply zA | apply zB | apply zC) | exact HB.out)) hb); clear HO_9; clear HB; have HO_9 := n0_; have HB := n1_; clear n0_ n1_; (try clear hb); (try clear hb2); (try clear hk); (try clear hi)))
                go_ret
                exact ⟨by first | rfl | (simp [errW_none, errW_some] <;> rfl) | (simp [*, errW_none, errW_some] <;> rfl), by repeat (first | (with_reducible first | exact HB.out | apply zA | apply zB | apply zC) | exact HB.out)⟩
               ·rw [if_neg c74] at H
                have c74b0 : (t854 == t843) = false := beq_eq_false_iff_ne.mpr c74
                have c74b1 : (t854 != t843) = true := bne_iff_ne.mpr c74
                exact absurd ((Option.some.inj H).trans hr) (by decide)
          ·rw [if_neg c52] at H
           have c52b0 : (t845 == t843) = false := beq_eq_false_iff_ne.mpr c52
           have c52b1 : (t845 != t843) = true := bne_iff_ne.mpr c52
           exact absurd ((Option.some.inj H).trans hr) (by decide)
     ·replace c29 := Bool.eq_false_iff.mpr c29
      subst c29
      rw [if_neg (show ¬ (false = true) by decide)] at H
      exact absurd ((Option.some.inj H).trans hr) (by decide)

end Go.Proofs.Ythnckplfnmkmpaa.F
