/- Contracts: laws_heldInstrS, spec_l1Has, spec_DropDead, slices_Index_int_int, slices_Contains_int_int. -/
import Derived.Test.YtecmlikhmkcdpaaGK
import Derived.Test.YtecmlikhmkcdpaaGSpecCdShape
import Derived.Test.YtecmlikhmkcdpaaGSpecL1Put
import Derived.Test.YtecmlikhmkcdpaaGLawsMarkText
namespace Go.Proofs.Ytecmlikhmkcdpaa.G
open Go.RowKit Go.Proofs.YtecmlikhmkcdpaaW.PrintWords Go.Proofs.YtecmlikhmkcdpaaW.PrintLast Go.Proofs.YtecmlikhmkcdpaaW.PrintMore
attribute [local go_sem] max2_int min2_int max_two min_two max_three min_three max_four min_four   -- for this text's walks alone
set_option linter.unusedVariables false
set_option linter.unusedSimpArgs false

/-! ### laws_heldInstrS: function 20 -/
def laws_heldInstrS.l0 : Nat → List (S67) → Int → Int → Option (Int)
 | 0, _, _, _ => none
 | k + 1, x0, x1, x5 => if x5 < (x0.length : Int) then (if 0 ≤ x5 then ((laws_markText.f k x1).bind fun t555 => (if ((rd_T67 x0 x5).f0).toList = t555.toList then (if ((rd_T67 x0 x5).f1) = (wrap64 (x1 + 1)) then (if ((rd_T67 x0 x5).f2) = (wrap64 ((wrap64 (x1 + 1)) + 1)) then (if ((rd_T67 x0 x5).f3) = (wrap64 ((wrap64 ((wrap64 (x1 + 1)) + 1)) + 1)) then (if ((rd_T67 x0 x5).f4) = (wrap64 ((wrap64 ((wrap64 ((wrap64 (x1 + 1)) + 1)) + 1)) + 1)) then (laws_heldInstrS.l0 k x0 (wrap64 ((wrap64 ((wrap64 ((wrap64 ((wrap64 (x1 + 1)) + 1)) + 1)) + 1)) + 1)) (wrap64 (x5 + 1))) else (some (-1))) else (some (-1))) else (some (-1))) else (some (-1))) else (some (-1)))) else (none)) else (some x1)
def laws_heldInstrS.f (k : Nat) (l0 : List (S67)) (a1 : Int) : Option (Int) := laws_heldInstrS.l0 k l0 a1 0
theorem laws_heldInstrS.mono_l : ∀ k, (∀ y0 y1 y2, LeO (laws_heldInstrS.l0 k y0 y1 y2) (laws_heldInstrS.l0 (k + 1) y0 y1 y2))
 | 0 => fun _ _ _ r h => by simp [laws_heldInstrS.l0] at h
 | k + 1 => by
  have ih0 := laws_heldInstrS.mono_l k
  ·intro y0 y1 y2
   unfold laws_heldInstrS.l0
   repeat' first
   | (with_reducible exact ih0 _ _ _)
   | (with_reducible exact laws_markText.mono _ _)
   | (with_reducible exact LeO.refl _)
   | (with_reducible exact LeO.none _)
   | (with_reducible refine LeO.ite ?_ ?_)
   | (with_reducible refine LeO.bind ?_ (fun _ => ?_))
   | exact ih0 _ _ _
   | exact laws_markText.mono _ _
   | exact LeO.none _
   | refine LeO.ite ?_ ?_
   | refine LeO.bind ?_ (fun _ => ?_)
theorem laws_heldInstrS.mono : ∀ a0 a1 k, LeO (laws_heldInstrS.f k a0 a1) (laws_heldInstrS.f (k + 1) a0 a1) := by
 intro a0 a1 k
 have ih0 := laws_heldInstrS.mono_l k
 unfold laws_heldInstrS.f
 repeat' first
   | (with_reducible exact ih0 _ _ _)
   | (with_reducible exact laws_markText.mono _ _)
   | (with_reducible exact LeO.refl _)
   | (with_reducible exact LeO.none _)
   | (with_reducible refine LeO.ite ?_ ?_)
   | (with_reducible refine LeO.bind ?_ (fun _ => ?_))
   | exact ih0 _ _ _
   | exact laws_markText.mono _ _
   | exact LeO.none _
   | refine LeO.ite ?_ ?_
   | refine LeO.bind ?_ (fun _ => ?_)
def laws_heldInstrS.T4 : Bool × List (List Nat × List Nat) := (true, [([], []), ([], []), ([0, 1], [0, 1]), ([2], [2]), ([3], [3]), ([], []), ([5], [5]), ([4, 6], [4, 6])])
def laws_heldInstrS.B4 : List Nat := [0, 0, 3, 7, 15, 0, 32, 127]
theorem laws_heldInstrS.tab4 : rtab .any (opsOf Try.f20 4) = laws_heldInstrS.T4 := by kernel_rfl
theorem laws_heldInstrS.bits4 : waitsOk laws_heldInstrS.T4.2 laws_heldInstrS.B4 = true := by kernel_rfl
set_option maxHeartbeats 8000000 in
set_option maxRecDepth 100000 in
theorem laws_heldInstrS.calls (k : Nat) (A0 : Option Addr) (c0 : Nat) (l0 : List (S67)) (a1 : Int) (r : Int) (w : World) (hr0 : Kd.C k67 w A0 l0.length l0) (hc0 : l0.length ≤ c0) (h : laws_heldInstrS.f k l0 a1 = some r) :
  Calls Try.prog 20 #[.slice A0 l0.length c0, .int .i64 a1] w fun e w' => e = .returned (.int .i64 r) ∧ Below w.heap.size w w' := by
 have HR0 := zK hr0
 have HC0 := zK hc0
 clear hr0 hc0
 have HB := zK (Below.refl w.heap.size w)
 have H : (laws_heldInstrS.l0 k l0 a1 0) = some r := h
 clear h
 have H' := zK H
 clear H
 go_enter Try.func20, Try.ntmps20
 go_wp2
 go_loopg [1, 5] k (fun kq v1 v5 w' => ∃ (x1_1 : Int) (x5_1 : Int), v1 = .int .i64 x1_1 ∧ v5 = .int .i64 x5_1 ∧ Aside0 (laws_heldInstrS.l0 kq l0 x1_1 x5_1 = some r) ∧ Aside0 (kq ≤ k) ∧ Aside0 (Below w.heap.size w w'))
 case atStart => exact ⟨(a1), (0), (by first | rfl | (simp; done) | (simp [*]; done)), (by first | rfl | (simp; done) | (simp [*]; done)), H', ⟨Nat.le_refl _⟩, ⟨by repeat (first | (with_reducible first | exact HB.out | apply zA | apply zB | apply zC) | exact HB.out)⟩⟩
 case round =>
  clear H'
  try clear c2
  try clear p2
  obtain ⟨x1_1, x5_1, rfl, rfl, HA, HK1, HB⟩ := hrel
  cases gk with
  | zero => exact absurd HA.out (by simp [laws_heldInstrS.l0])
  | succ k1 =>
   have H := HA.out
   clear HA
   simp only [laws_heldInstrS.l0] at H
   by_cases c3 : x5_1 < (l0.length : Int)
   ·rw [if_pos c3] at H
    have c3b0 : decide (x5_1 < (l0.length : Int)) = true := decide_eq_true c3
    clear c3
    by_cases c4 : 0 ≤ x5_1
    ·rw [if_pos c4] at H
     have c4b0 : decide (0 ≤ x5_1) = true := decide_eq_true c4
     clear c4
     replace H := Option.bind_eq_some_iff.mp H
     obtain ⟨t555, A50, H⟩ := H
     replace H : (if ((rd_T67 l0 x5_1).f0).toList = t555.toList then (if ((rd_T67 l0 x5_1).f1) = (wrap64 (x1_1 + 1)) then (if ((rd_T67 l0 x5_1).f2) = (wrap64 ((wrap64 (x1_1 + 1)) + 1)) then (if ((rd_T67 l0 x5_1).f3) = (wrap64 ((wrap64 ((wrap64 (x1_1 + 1)) + 1)) + 1)) then (if ((rd_T67 l0 x5_1).f4) = (wrap64 ((wrap64 ((wrap64 ((wrap64 (x1_1 + 1)) + 1)) + 1)) + 1)) then (laws_heldInstrS.l0 k1 l0 (wrap64 ((wrap64 ((wrap64 ((wrap64 ((wrap64 (x1_1 + 1)) + 1)) + 1)) + 1)) + 1)) (wrap64 (x5_1 + 1))) else (some (-1))) else (some (-1))) else (some (-1))) else (some (-1))) else (some (-1))) = some r := H
     have A5 := zK A50
     clear A50
     by_cases c6 : ((rd_T67 l0 x5_1).f0).toList = t555.toList
     ·rw [if_pos c6] at H
      have c6b0 : (((rd_T67 l0 x5_1).f0).toList == t555.toList) = true := beq_iff_eq.mpr c6
      have c6b1 : (((rd_T67 l0 x5_1).f0).toList != t555.toList) = false := bne_eq_false_iff_eq.mpr c6
      clear c6
      by_cases c7 : ((rd_T67 l0 x5_1).f1) = (wrap64 (x1_1 + 1))
      ·rw [if_pos c7] at H
       have c7b0 : (((rd_T67 l0 x5_1).f1) == (wrap64 (x1_1 + 1))) = true := beq_iff_eq.mpr c7
       have c7b1 : (((rd_T67 l0 x5_1).f1) != (wrap64 (x1_1 + 1))) = false := bne_eq_false_iff_eq.mpr c7
       clear c7
       by_cases c8 : ((rd_T67 l0 x5_1).f2) = (wrap64 ((wrap64 (x1_1 + 1)) + 1))
       ·rw [if_pos c8] at H
        have c8b0 : (((rd_T67 l0 x5_1).f2) == (wrap64 ((wrap64 (x1_1 + 1)) + 1))) = true := beq_iff_eq.mpr c8
        have c8b1 : (((rd_T67 l0 x5_1).f2) != (wrap64 ((wrap64 (x1_1 + 1)) + 1))) = false := bne_eq_false_iff_eq.mpr c8
        clear c8
        by_cases c9 : ((rd_T67 l0 x5_1).f3) = (wrap64 ((wrap64 ((wrap64 (x1_1 + 1)) + 1)) + 1))
        ·rw [if_pos c9] at H
         have c9b0 : (((rd_T67 l0 x5_1).f3) == (wrap64 ((wrap64 ((wrap64 (x1_1 + 1)) + 1)) + 1))) = true := beq_iff_eq.mpr c9
         have c9b1 : (((rd_T67 l0 x5_1).f3) != (wrap64 ((wrap64 ((wrap64 (x1_1 + 1)) + 1)) + 1))) = false := bne_eq_false_iff_eq.mpr c9
         clear c9
         by_cases c10 : ((rd_T67 l0 x5_1).f4) = (wrap64 ((wrap64 ((wrap64 ((wrap64 (x1_1 + 1)) + 1)) + 1)) + 1))
         ·rw [if_pos c10] at H
          have c10b0 : (((rd_T67 l0 x5_1).f4) == (wrap64 ((wrap64 ((wrap64 ((wrap64 (x1_1 + 1)) + 1)) + 1)) + 1))) = true := beq_iff_eq.mpr c10
          have c10b1 : (((rd_T67 l0 x5_1).f4) != (wrap64 ((wrap64 ((wrap64 ((wrap64 (x1_1 + 1)) + 1)) + 1)) + 1))) = false := bne_eq_false_iff_eq.mpr c10
          clear c10
          have H' := zK H
          clear H
          try go_wp2
          have n0_ := zK (zC HB.out)
          clear HB
          have HB := n0_
          clear n0_
          have p554 : 0 ≤ (x5_1 : Int) := zo
          have q554 : x5_1 < (l0.length : Int) := zo
          obtain ⟨ad554, e554, hx554_0, hx554_1, hx554_2, hx554_3, hx554_4⟩ := at_T67 HR0.out x5_1 p554 q554
          have hw554_4 := hx554_4
          have hw554_3 := hx554_3
          have hw554_2 := hx554_2
          have hw554_1 := hx554_1
          have hw554_0 := hx554_0
          cases e554
          replace hx554_0 := zt HB.out hx554_0
          replace hx554_1 := zt HB.out hx554_1
          replace hx554_2 := zt HB.out hx554_2
          replace hx554_3 := zt HB.out hx554_3
          replace hx554_4 := zt HB.out hx554_4
          replace p554 := eq_true p554
          replace q554 := eq_true q554
          refine start_ (n := 8) (S := fun w' => w'.cell? (ad554.add ((x5_1).toNat * 5)) = some (.string ((rd_T67 l0 x5_1).f0)) ∧ w'.cell? ⟨(ad554.add ((x5_1).toNat * 5)).block, (ad554.add ((x5_1).toNat * 5)).off + 1, none⟩ = some (.int .i64 ((rd_T67 l0 x5_1).f1)) ∧ w'.cell? ⟨(ad554.add ((x5_1).toNat * 5)).block, (ad554.add ((x5_1).toNat * 5)).off + 2, none⟩ = some (.int .i64 ((rd_T67 l0 x5_1).f2)) ∧ w'.cell? ⟨(ad554.add ((x5_1).toNat * 5)).block, (ad554.add ((x5_1).toNat * 5)).off + 3, none⟩ = some (.int .i64 ((rd_T67 l0 x5_1).f3)) ∧ w'.cell? ⟨(ad554.add ((x5_1).toNat * 5)).block, (ad554.add ((x5_1).toNat * 5)).off + 4, none⟩ = some (.int .i64 ((rd_T67 l0 x5_1).f4))) (ds := []) #[false, false, false, false, false, false, false, false] (by kernel_rfl) rfl rfl ⟨(zt HB.out hw554_0), (zt HB.out hw554_1), (zt HB.out hw554_2), (zt HB.out hw554_3), (zt HB.out hw554_4)⟩ (fun hHeld => ?_); refine with_tabW laws_heldInstrS.tab4 laws_heldInstrS.bits4 (fun HT_ HW_ => ?_)
          generalize wr.drew = w11 at HB hx554_0 hx554_1 hx554_2 hx554_3 hx554_4 hHeld ⊢
          refine pure_ (i := 0) (N := some 12) (v := ?_) (a' := ?_) #[true, false, false, false, false, false, false, false] rfl rfl (any_of HT_.out (by kernel_rfl)) (fun _ _ _ h => h) (Or.inl ⟨by rfl, ?_⟩) ?_ ?_
          rotate_left
          ·intro w'
           go_simp
           with_reducible rfl
          rotate_left
          ·simp only [Act.put, z1, z2, z3, i64_w, i32_w]
           rfl
          refine pure_ (i := 1) (N := some 13) (v := ?_) (a' := ?_) #[true, true, false, false, false, false, false, false] rfl rfl (any_of HT_.out (by kernel_rfl)) (fun _ _ _ h => h) (Or.inl ⟨by rfl, ?_⟩) ?_ ?_
          rotate_left
          ·intro w'
           go_simp
           with_reducible rfl
          rotate_left
          ·simp only [Act.put, z1, z2, z3, i64_w, i32_w]
           rfl
          refine pure_ (i := 2) (N := some 14) (v := ?_) (a' := ?_) #[true, true, true, false, false, false, false, false] rfl rfl (any_of HT_.out (by kernel_rfl)) (fun _ _ _ h => h) (Or.inl ⟨by rfl, ?_⟩) ?_ ?_
          rotate_left
          ·intro w'
           go_simp
           with_reducible rfl
          rotate_left
          ·simp only [Act.put, z1, z2, z3, i64_w, i32_w]
           rfl
          refine pure_ (i := 3) (N := some 15) (v := ?_) (a' := ?_) #[true, true, true, true, false, false, false, false] rfl rfl (any_of HT_.out (by kernel_rfl)) (fun _ _ _ h => h) (Or.inl ⟨by rfl, ?_⟩) ?_ ?_
          rotate_left
          ·intro w'
           go_simp
           with_reducible rfl
          rotate_left
          ·simp only [Act.put, z1, z2, z3, i64_w, i32_w]
           rfl
          refine pure_ (i := 5) (N := some 17) (v := ?_) (a' := ?_) #[true, true, true, true, false, true, false, false] rfl rfl (any_of HT_.out (by kernel_rfl)) (fun _ _ _ h => h) (Or.inl ⟨by rfl, ?_⟩) ?_ ?_
          rotate_left
          ·intro w'
           go_simp
           with_reducible rfl
          rotate_left
          ·simp only [Act.put, z1, z2, z3, i64_w, i32_w]
           rfl
          refine take_ (i := 4) (N := some 16) (v := ?_) (a' := ?_) #[true, true, true, true, true, true, false, false] rfl rfl (take_ofW HT_.out HW_.out (by kernel_rfl)) (fun _ _ _ h => h) (Or.inl ⟨by rfl, ?_⟩) hHeld ?_ ?_
          rotate_left
          ·rintro w' ⟨s0, s1, s2, s3, s4⟩
           go_simp
           with_reducible rfl
          rotate_left
          ·simp only [Act.put, z1, z2, z3, i64_w, i32_w]
           rfl
          refine one_ (i := 6) (N := some 18) #[true, true, true, true, true, true, true, false] rfl rfl (one_of HT_.out (by kernel_rfl)) (by decide) (fun K hK => ?_)
          refine goes_ Try.func63 (by kernel_rfl) rfl #[.int .i64 x1_1] (by rfl) rfl rfl (by (try simp only [z6, z7, z8]); first | done | rfl | (simp only [z4, z5]; rfl)) ?_
          with_reducible refine (laws_markText.calls k1 x1_1 t555 _ A5.out).mono ?_
          rintro e w12 ⟨rfl, hb⟩
          refine ⟨_, rfl, ?_⟩
          have n0_ := zK (zL (by repeat (first | (with_reducible first | exact HB.out | apply zA | apply zB | apply zC) | exact HB.out)) hb)
          clear HB
          have HB := n0_
          clear n0_
          (try clear hb)
          (try clear hb2)
          (try clear hk)
          (try clear hi)
          refine hK.out _ _ ⟨(zt HB.out hw554_0), (zt HB.out hw554_1), (zt HB.out hw554_2), (zt HB.out hw554_3), (zt HB.out hw554_4)⟩ (fun hHeld => ?_)
          clear hK K
          refine norm_ (a' := ?_) ?_ ?_
          rotate_left
          ·show Act.put _ (some 18) _ = _
           simp only [Act.put, z1, z2, z3, i64_w, i32_w]
           rfl
          refine pure_ (i := 7) (N := some 19) (v := ?_) (a' := ?_) #[true, true, true, true, true, true, true, true] rfl rfl (any_of HT_.out (by kernel_rfl)) (fun _ _ _ h => h) (Or.inl ⟨by rfl, ?_⟩) ?_ ?_
          rotate_left
          ·intro w'
           go_simp
           with_reducible rfl
          rotate_left
          ·simp only [Act.put, z1, z2, z3, i64_w, i32_w]
           rfl
          refine done_ (done_of HT_.out (by kernel_rfl)) ?_
          have p556 : 0 ≤ (x5_1 : Int) := zo
          have q556 : x5_1 < (l0.length : Int) := zo
          obtain ⟨ad556, e556, hx556_0, hx556_1, hx556_2, hx556_3, hx556_4⟩ := at_T67 HR0.out x5_1 p556 q556
          obtain rfl : ad554 = ad556 := (by injection e556)
          replace hx556_0 := zt HB.out hx556_0
          replace hx556_1 := zt HB.out hx556_1
          replace hx556_2 := zt HB.out hx556_2
          replace hx556_3 := zt HB.out hx556_3
          replace hx556_4 := zt HB.out hx556_4
          replace p556 := eq_true p556
          replace q556 := eq_true q556
          have p557 : 0 ≤ (x5_1 : Int) := zo
          have q557 : x5_1 < (l0.length : Int) := zo
          obtain ⟨ad557, e557, hx557_0, hx557_1, hx557_2, hx557_3, hx557_4⟩ := at_T67 HR0.out x5_1 p557 q557
          obtain rfl : ad554 = ad557 := (by injection e557)
          replace hx557_0 := zt HB.out hx557_0
          replace hx557_1 := zt HB.out hx557_1
          replace hx557_2 := zt HB.out hx557_2
          replace hx557_3 := zt HB.out hx557_3
          replace hx557_4 := zt HB.out hx557_4
          replace p557 := eq_true p557
          replace q557 := eq_true q557
          have p558 : 0 ≤ (x5_1 : Int) := zo
          have q558 : x5_1 < (l0.length : Int) := zo
          obtain ⟨ad558, e558, hx558_0, hx558_1, hx558_2, hx558_3, hx558_4⟩ := at_T67 HR0.out x5_1 p558 q558
          obtain rfl : ad554 = ad558 := (by injection e558)
          replace hx558_0 := zt HB.out hx558_0
          replace hx558_1 := zt HB.out hx558_1
          replace hx558_2 := zt HB.out hx558_2
          replace hx558_3 := zt HB.out hx558_3
          replace hx558_4 := zt HB.out hx558_4
          replace p558 := eq_true p558
          replace q558 := eq_true q558
          have p559 : 0 ≤ (x5_1 : Int) := zo
          have q559 : x5_1 < (l0.length : Int) := zo
          obtain ⟨ad559, e559, hx559_0, hx559_1, hx559_2, hx559_3, hx559_4⟩ := at_T67 HR0.out x5_1 p559 q559
          obtain rfl : ad554 = ad559 := (by injection e559)
          replace hx559_0 := zt HB.out hx559_0
          replace hx559_1 := zt HB.out hx559_1
          replace hx559_2 := zt HB.out hx559_2
          replace hx559_3 := zt HB.out hx559_3
          replace hx559_4 := zt HB.out hx559_4
          replace p559 := eq_true p559
          replace q559 := eq_true q559
          try go_wp2
          go_roundg k1
          case measure => have := HK1.out; omega
          case rel => exact ⟨(wrap64 ((wrap64 ((wrap64 ((wrap64 ((wrap64 (x1_1 + 1)) + 1)) + 1)) + 1)) + 1)), (wrap64 (x5_1 + 1)), (by first | rfl | (simp; done) | (simp [*]; done)), (by first | rfl | (simp; done) | (simp [*]; done)), H', ⟨by have := HK1.out; omega⟩, ⟨by repeat (first | (with_reducible first | exact HB.out | apply zA | apply zB | apply zC) | exact HB.out)⟩⟩
         ·rw [if_neg c10] at H
          have c10b0 : (((rd_T67 l0 x5_1).f4) == (wrap64 ((wrap64 ((wrap64 ((wrap64 (x1_1 + 1)) + 1)) + 1)) + 1))) = false := beq_eq_false_iff_ne.mpr c10
          have c10b1 : (((rd_T67 l0 x5_1).f4) != (wrap64 ((wrap64 ((wrap64 ((wrap64 (x1_1 + 1)) + 1)) + 1)) + 1))) = true := bne_iff_ne.mpr c10
          obtain rfl := Option.some.inj H
          try go_wp2
          have n0_ := zK (zC HB.out)
          clear HB
          have HB := n0_
          clear n0_
          have p554 : 0 ≤ (x5_1 : Int) := zo
          have q554 : x5_1 < (l0.length : Int) := zo
          obtain ⟨ad554, e554, hx554_0, hx554_1, hx554_2, hx554_3, hx554_4⟩ := at_T67 HR0.out x5_1 p554 q554
          have hw554_4 := hx554_4
          have hw554_3 := hx554_3
          have hw554_2 := hx554_2
          have hw554_1 := hx554_1
          have hw554_0 := hx554_0
          cases e554
          replace hx554_0 := zt HB.out hx554_0
          replace hx554_1 := zt HB.out hx554_1
          replace hx554_2 := zt HB.out hx554_2
          replace hx554_3 := zt HB.out hx554_3
          replace hx554_4 := zt HB.out hx554_4
          replace p554 := eq_true p554
          replace q554 := eq_true q554
          refine start_ (n := 8) (S := fun w' => w'.cell? (ad554.add ((x5_1).toNat * 5)) = some (.string ((rd_T67 l0 x5_1).f0)) ∧ w'.cell? ⟨(ad554.add ((x5_1).toNat * 5)).block, (ad554.add ((x5_1).toNat * 5)).off + 1, none⟩ = some (.int .i64 ((rd_T67 l0 x5_1).f1)) ∧ w'.cell? ⟨(ad554.add ((x5_1).toNat * 5)).block, (ad554.add ((x5_1).toNat * 5)).off + 2, none⟩ = some (.int .i64 ((rd_T67 l0 x5_1).f2)) ∧ w'.cell? ⟨(ad554.add ((x5_1).toNat * 5)).block, (ad554.add ((x5_1).toNat * 5)).off + 3, none⟩ = some (.int .i64 ((rd_T67 l0 x5_1).f3)) ∧ w'.cell? ⟨(ad554.add ((x5_1).toNat * 5)).block, (ad554.add ((x5_1).toNat * 5)).off + 4, none⟩ = some (.int .i64 ((rd_T67 l0 x5_1).f4))) (ds := []) #[false, false, false, false, false, false, false, false] (by kernel_rfl) rfl rfl ⟨(zt HB.out hw554_0), (zt HB.out hw554_1), (zt HB.out hw554_2), (zt HB.out hw554_3), (zt HB.out hw554_4)⟩ (fun hHeld => ?_); refine with_tabW laws_heldInstrS.tab4 laws_heldInstrS.bits4 (fun HT_ HW_ => ?_)
          generalize wr.drew = w13 at HB hx554_0 hx554_1 hx554_2 hx554_3 hx554_4 hHeld ⊢
          refine pure_ (i := 0) (N := some 12) (v := ?_) (a' := ?_) #[true, false, false, false, false, false, false, false] rfl rfl (any_of HT_.out (by kernel_rfl)) (fun _ _ _ h => h) (Or.inl ⟨by rfl, ?_⟩) ?_ ?_
          rotate_left
          ·intro w'
           go_simp
           with_reducible rfl
          rotate_left
          ·simp only [Act.put, z1, z2, z3, i64_w, i32_w]
           rfl
          refine pure_ (i := 1) (N := some 13) (v := ?_) (a' := ?_) #[true, true, false, false, false, false, false, false] rfl rfl (any_of HT_.out (by kernel_rfl)) (fun _ _ _ h => h) (Or.inl ⟨by rfl, ?_⟩) ?_ ?_
          rotate_left
          ·intro w'
           go_simp
           with_reducible rfl
          rotate_left
          ·simp only [Act.put, z1, z2, z3, i64_w, i32_w]
           rfl
          refine pure_ (i := 2) (N := some 14) (v := ?_) (a' := ?_) #[true, true, true, false, false, false, false, false] rfl rfl (any_of HT_.out (by kernel_rfl)) (fun _ _ _ h => h) (Or.inl ⟨by rfl, ?_⟩) ?_ ?_
          rotate_left
          ·intro w'
           go_simp
           with_reducible rfl
          rotate_left
          ·simp only [Act.put, z1, z2, z3, i64_w, i32_w]
           rfl
          refine pure_ (i := 3) (N := some 15) (v := ?_) (a' := ?_) #[true, true, true, true, false, false, false, false] rfl rfl (any_of HT_.out (by kernel_rfl)) (fun _ _ _ h => h) (Or.inl ⟨by rfl, ?_⟩) ?_ ?_
          rotate_left
          ·intro w'
           go_simp
           with_reducible rfl
          rotate_left
          ·simp only [Act.put, z1, z2, z3, i64_w, i32_w]
           rfl
          refine pure_ (i := 5) (N := some 17) (v := ?_) (a' := ?_) #[true, true, true, true, false, true, false, false] rfl rfl (any_of HT_.out (by kernel_rfl)) (fun _ _ _ h => h) (Or.inl ⟨by rfl, ?_⟩) ?_ ?_
          rotate_left
          ·intro w'
           go_simp
           with_reducible rfl
          rotate_left
          ·simp only [Act.put, z1, z2, z3, i64_w, i32_w]
           rfl
          refine take_ (i := 4) (N := some 16) (v := ?_) (a' := ?_) #[true, true, true, true, true, true, false, false] rfl rfl (take_ofW HT_.out HW_.out (by kernel_rfl)) (fun _ _ _ h => h) (Or.inl ⟨by rfl, ?_⟩) hHeld ?_ ?_
          rotate_left
          ·rintro w' ⟨s0, s1, s2, s3, s4⟩
           go_simp
           with_reducible rfl
          rotate_left
          ·simp only [Act.put, z1, z2, z3, i64_w, i32_w]
           rfl
          refine one_ (i := 6) (N := some 18) #[true, true, true, true, true, true, true, false] rfl rfl (one_of HT_.out (by kernel_rfl)) (by decide) (fun K hK => ?_)
          refine goes_ Try.func63 (by kernel_rfl) rfl #[.int .i64 x1_1] (by rfl) rfl rfl (by (try simp only [z6, z7, z8]); first | done | rfl | (simp only [z4, z5]; rfl)) ?_
          with_reducible refine (laws_markText.calls k1 x1_1 t555 _ A5.out).mono ?_
          rintro e w14 ⟨rfl, hb⟩
          refine ⟨_, rfl, ?_⟩
          have n0_ := zK (zL (by repeat (first | (with_reducible first | exact HB.out | apply zA | apply zB | apply zC) | exact HB.out)) hb)
          clear HB
          have HB := n0_
          clear n0_
          (try clear hb)
          (try clear hb2)
          (try clear hk)
          (try clear hi)
          refine hK.out _ _ ⟨(zt HB.out hw554_0), (zt HB.out hw554_1), (zt HB.out hw554_2), (zt HB.out hw554_3), (zt HB.out hw554_4)⟩ (fun hHeld => ?_)
          clear hK K
          refine norm_ (a' := ?_) ?_ ?_
          rotate_left
          ·show Act.put _ (some 18) _ = _
           simp only [Act.put, z1, z2, z3, i64_w, i32_w]
           rfl
          refine pure_ (i := 7) (N := some 19) (v := ?_) (a' := ?_) #[true, true, true, true, true, true, true, true] rfl rfl (any_of HT_.out (by kernel_rfl)) (fun _ _ _ h => h) (Or.inl ⟨by rfl, ?_⟩) ?_ ?_
          rotate_left
          ·intro w'
           go_simp
           with_reducible rfl
          rotate_left
          ·simp only [Act.put, z1, z2, z3, i64_w, i32_w]
           rfl
          refine done_ (done_of HT_.out (by kernel_rfl)) ?_
          have p556 : 0 ≤ (x5_1 : Int) := zo
          have q556 : x5_1 < (l0.length : Int) := zo
          obtain ⟨ad556, e556, hx556_0, hx556_1, hx556_2, hx556_3, hx556_4⟩ := at_T67 HR0.out x5_1 p556 q556
          obtain rfl : ad554 = ad556 := (by injection e556)
          replace hx556_0 := zt HB.out hx556_0
          replace hx556_1 := zt HB.out hx556_1
          replace hx556_2 := zt HB.out hx556_2
          replace hx556_3 := zt HB.out hx556_3
          replace hx556_4 := zt HB.out hx556_4
          replace p556 := eq_true p556
          replace q556 := eq_true q556
          have p557 : 0 ≤ (x5_1 : Int) := zo
          have q557 : x5_1 < (l0.length : Int) := zo
          obtain ⟨ad557, e557, hx557_0, hx557_1, hx557_2, hx557_3, hx557_4⟩ := at_T67 HR0.out x5_1 p557 q557
          obtain rfl : ad554 = ad557 := (by injection e557)
          replace hx557_0 := zt HB.out hx557_0
          replace hx557_1 := zt HB.out hx557_1
          replace hx557_2 := zt HB.out hx557_2
          replace hx557_3 := zt HB.out hx557_3
          replace hx557_4 := zt HB.out hx557_4
          replace p557 := eq_true p557
          replace q557 := eq_true q557
          have p558 : 0 ≤ (x5_1 : Int) := zo
          have q558 : x5_1 < (l0.length : Int) := zo
          obtain ⟨ad558, e558, hx558_0, hx558_1, hx558_2, hx558_3, hx558_4⟩ := at_T67 HR0.out x5_1 p558 q558
          obtain rfl : ad554 = ad558 := (by injection e558)
          replace hx558_0 := zt HB.out hx558_0
          replace hx558_1 := zt HB.out hx558_1
          replace hx558_2 := zt HB.out hx558_2
          replace hx558_3 := zt HB.out hx558_3
          replace hx558_4 := zt HB.out hx558_4
          replace p558 := eq_true p558
          replace q558 := eq_true q558
          have p559 : 0 ≤ (x5_1 : Int) := zo
          have q559 : x5_1 < (l0.length : Int) := zo
          obtain ⟨ad559, e559, hx559_0, hx559_1, hx559_2, hx559_3, hx559_4⟩ := at_T67 HR0.out x5_1 p559 q559
          obtain rfl : ad554 = ad559 := (by injection e559)
          replace hx559_0 := zt HB.out hx559_0
          replace hx559_1 := zt HB.out hx559_1
          replace hx559_2 := zt HB.out hx559_2
          replace hx559_3 := zt HB.out hx559_3
          replace hx559_4 := zt HB.out hx559_4
          replace p559 := eq_true p559
          replace q559 := eq_true q559
          try go_wp2
          go_ret
          exact ⟨by first | rfl | (simp [errW_none, errW_some] <;> rfl) | (simp [*, errW_none, errW_some] <;> rfl), by repeat (first | (with_reducible first | exact HB.out | apply zA | apply zB | apply zC) | exact HB.out)⟩
        ·rw [if_neg c9] at H
         have c9b0 : (((rd_T67 l0 x5_1).f3) == (wrap64 ((wrap64 ((wrap64 (x1_1 + 1)) + 1)) + 1))) = false := beq_eq_false_iff_ne.mpr c9
         have c9b1 : (((rd_T67 l0 x5_1).f3) != (wrap64 ((wrap64 ((wrap64 (x1_1 + 1)) + 1)) + 1))) = true := bne_iff_ne.mpr c9
         obtain rfl := Option.some.inj H
         try go_wp2
         have n0_ := zK (zC HB.out)
         clear HB
         have HB := n0_
         clear n0_
         have p554 : 0 ≤ (x5_1 : Int) := zo
         have q554 : x5_1 < (l0.length : Int) := zo
         obtain ⟨ad554, e554, hx554_0, hx554_1, hx554_2, hx554_3, hx554_4⟩ := at_T67 HR0.out x5_1 p554 q554
         have hw554_4 := hx554_4
         have hw554_3 := hx554_3
         have hw554_2 := hx554_2
         have hw554_1 := hx554_1
         have hw554_0 := hx554_0
         cases e554
         replace hx554_0 := zt HB.out hx554_0
         replace hx554_1 := zt HB.out hx554_1
         replace hx554_2 := zt HB.out hx554_2
         replace hx554_3 := zt HB.out hx554_3
         replace hx554_4 := zt HB.out hx554_4
         replace p554 := eq_true p554
         replace q554 := eq_true q554
         refine start_ (n := 8) (S := fun w' => w'.cell? (ad554.add ((x5_1).toNat * 5)) = some (.string ((rd_T67 l0 x5_1).f0)) ∧ w'.cell? ⟨(ad554.add ((x5_1).toNat * 5)).block, (ad554.add ((x5_1).toNat * 5)).off + 1, none⟩ = some (.int .i64 ((rd_T67 l0 x5_1).f1)) ∧ w'.cell? ⟨(ad554.add ((x5_1).toNat * 5)).block, (ad554.add ((x5_1).toNat * 5)).off + 2, none⟩ = some (.int .i64 ((rd_T67 l0 x5_1).f2)) ∧ w'.cell? ⟨(ad554.add ((x5_1).toNat * 5)).block, (ad554.add ((x5_1).toNat * 5)).off + 3, none⟩ = some (.int .i64 ((rd_T67 l0 x5_1).f3)) ∧ w'.cell? ⟨(ad554.add ((x5_1).toNat * 5)).block, (ad554.add ((x5_1).toNat * 5)).off + 4, none⟩ = some (.int .i64 ((rd_T67 l0 x5_1).f4))) (ds := []) #[false, false, false, false, false, false, false, false] (by kernel_rfl) rfl rfl ⟨(zt HB.out hw554_0), (zt HB.out hw554_1), (zt HB.out hw554_2), (zt HB.out hw554_3), (zt HB.out hw554_4)⟩ (fun hHeld => ?_); refine with_tabW laws_heldInstrS.tab4 laws_heldInstrS.bits4 (fun HT_ HW_ => ?_)
         generalize wr.drew = w15 at HB hx554_0 hx554_1 hx554_2 hx554_3 hx554_4 hHeld ⊢
         refine pure_ (i := 0) (N := some 12) (v := ?_) (a' := ?_) #[true, false, false, false, false, false, false, false] rfl rfl (any_of HT_.out (by kernel_rfl)) (fun _ _ _ h => h) (Or.inl ⟨by rfl, ?_⟩) ?_ ?_
         rotate_left
         ·intro w'
          go_simp
          with_reducible rfl
         rotate_left
         ·simp only [Act.put, z1, z2, z3, i64_w, i32_w]
          rfl
         refine pure_ (i := 1) (N := some 13) (v := ?_) (a' := ?_) #[true, true, false, false, false, false, false, false] rfl rfl (any_of HT_.out (by kernel_rfl)) (fun _ _ _ h => h) (Or.inl ⟨by rfl, ?_⟩) ?_ ?_
         rotate_left
         ·intro w'
          go_simp
          with_reducible rfl
         rotate_left
         ·simp only [Act.put, z1, z2, z3, i64_w, i32_w]
          rfl
         refine pure_ (i := 2) (N := some 14) (v := ?_) (a' := ?_) #[true, true, true, false, false, false, false, false] rfl rfl (any_of HT_.out (by kernel_rfl)) (fun _ _ _ h => h) (Or.inl ⟨by rfl, ?_⟩) ?_ ?_
         rotate_left
         ·intro w'
          go_simp
          with_reducible rfl
         rotate_left
         ·simp only [Act.put, z1, z2, z3, i64_w, i32_w]
          rfl
         refine pure_ (i := 3) (N := some 15) (v := ?_) (a' := ?_) #[true, true, true, true, false, false, false, false] rfl rfl (any_of HT_.out (by kernel_rfl)) (fun _ _ _ h => h) (Or.inl ⟨by rfl, ?_⟩) ?_ ?_
         rotate_left
         ·intro w'
          go_simp
          with_reducible rfl
         rotate_left
         ·simp only [Act.put, z1, z2, z3, i64_w, i32_w]
          rfl
         refine pure_ (i := 5) (N := some 17) (v := ?_) (a' := ?_) #[true, true, true, true, false, true, false, false] rfl rfl (any_of HT_.out (by kernel_rfl)) (fun _ _ _ h => h) (Or.inl ⟨by rfl, ?_⟩) ?_ ?_
         rotate_left
         ·intro w'
          go_simp
          with_reducible rfl
         rotate_left
         ·simp only [Act.put, z1, z2, z3, i64_w, i32_w]
          rfl
         refine take_ (i := 4) (N := some 16) (v := ?_) (a' := ?_) #[true, true, true, true, true, true, false, false] rfl rfl (take_ofW HT_.out HW_.out (by kernel_rfl)) (fun _ _ _ h => h) (Or.inl ⟨by rfl, ?_⟩) hHeld ?_ ?_
         rotate_left
         ·rintro w' ⟨s0, s1, s2, s3, s4⟩
          go_simp
          with_reducible rfl
         rotate_left
         ·simp only [Act.put, z1, z2, z3, i64_w, i32_w]
          rfl
         refine one_ (i := 6) (N := some 18) #[true, true, true, true, true, true, true, false] rfl rfl (one_of HT_.out (by kernel_rfl)) (by decide) (fun K hK => ?_)
         refine goes_ Try.func63 (by kernel_rfl) rfl #[.int .i64 x1_1] (by rfl) rfl rfl (by (try simp only [z6, z7, z8]); first | done | rfl | (simp only [z4, z5]; rfl)) ?_
         with_reducible refine (laws_markText.calls k1 x1_1 t555 _ A5.out).mono ?_
         rintro e w16 ⟨rfl, hb⟩
         refine ⟨_, rfl, ?_⟩
         have n0_ := zK (zL (by repeat (first | (with_reducible first | exact HB.out | apply zA | apply zB | apply zC) | exact HB.out)) hb)
         clear HB
         have HB := n0_
         clear n0_
         (try clear hb)
         (try clear hb2)
         (try clear hk)
         (try clear hi)
         refine hK.out _ _ ⟨(zt HB.out hw554_0), (zt HB.out hw554_1), (zt HB.out hw554_2), (zt HB.out hw554_3), (zt HB.out hw554_4)⟩ (fun hHeld => ?_)
         clear hK K
         refine norm_ (a' := ?_) ?_ ?_
         rotate_left
         ·show Act.put _ (some 18) _ = _
          simp only [Act.put, z1, z2, z3, i64_w, i32_w]
          rfl
         refine pure_ (i := 7) (N := some 19) (v := ?_) (a' := ?_) #[true, true, true, true, true, true, true, true] rfl rfl (any_of HT_.out (by kernel_rfl)) (fun _ _ _ h => h) (Or.inl ⟨by rfl, ?_⟩) ?_ ?_
         rotate_left
         ·intro w'
          go_simp
          with_reducible rfl
         rotate_left
         ·simp only [Act.put, z1, z2, z3, i64_w, i32_w]
          rfl
         refine done_ (done_of HT_.out (by kernel_rfl)) ?_
         have p556 : 0 ≤ (x5_1 : Int) := zo
         have q556 : x5_1 < (l0.length : Int) := zo
         obtain ⟨ad556, e556, hx556_0, hx556_1, hx556_2, hx556_3, hx556_4⟩ := at_T67 HR0.out x5_1 p556 q556
         obtain rfl : ad554 = ad556 := (by injection e556)
         replace hx556_0 := zt HB.out hx556_0
         replace hx556_1 := zt HB.out hx556_1
         replace hx556_2 := zt HB.out hx556_2
         replace hx556_3 := zt HB.out hx556_3
         replace hx556_4 := zt HB.out hx556_4
         replace p556 := eq_true p556
         replace q556 := eq_true q556
         have p557 : 0 ≤ (x5_1 : Int) := zo
         have q557 : x5_1 < (l0.length : Int) := zo
         obtain ⟨ad557, e557, hx557_0, hx557_1, hx557_2, hx557_3, hx557_4⟩ := at_T67 HR0.out x5_1 p557 q557
         obtain rfl : ad554 = ad557 := (by injection e557)
         replace hx557_0 := zt HB.out hx557_0
         replace hx557_1 := zt HB.out hx557_1
         replace hx557_2 := zt HB.out hx557_2
         replace hx557_3 := zt HB.out hx557_3
         replace hx557_4 := zt HB.out hx557_4
         replace p557 := eq_true p557
         replace q557 := eq_true q557
         have p558 : 0 ≤ (x5_1 : Int) := zo
         have q558 : x5_1 < (l0.length : Int) := zo
         obtain ⟨ad558, e558, hx558_0, hx558_1, hx558_2, hx558_3, hx558_4⟩ := at_T67 HR0.out x5_1 p558 q558
         obtain rfl : ad554 = ad558 := (by injection e558)
         replace hx558_0 := zt HB.out hx558_0
         replace hx558_1 := zt HB.out hx558_1
         replace hx558_2 := zt HB.out hx558_2
         replace hx558_3 := zt HB.out hx558_3
         replace hx558_4 := zt HB.out hx558_4
         replace p558 := eq_true p558
         replace q558 := eq_true q558
         try go_wp2
         go_ret
         exact ⟨by first | rfl | (simp [errW_none, errW_some] <;> rfl) | (simp [*, errW_none, errW_some] <;> rfl), by repeat (first | (with_reducible first | exact HB.out | apply zA | apply zB | apply zC) | exact HB.out)⟩
       ·rw [if_neg c8] at H
        have c8b0 : (((rd_T67 l0 x5_1).f2) == (wrap64 ((wrap64 (x1_1 + 1)) + 1))) = false := beq_eq_false_iff_ne.mpr c8
        have c8b1 : (((rd_T67 l0 x5_1).f2) != (wrap64 ((wrap64 (x1_1 + 1)) + 1))) = true := bne_iff_ne.mpr c8
        obtain rfl := Option.some.inj H
        try go_wp2
        have n0_ := zK (zC HB.out)
        clear HB
        have HB := n0_
        clear n0_
        have p554 : 0 ≤ (x5_1 : Int) := zo
        have q554 : x5_1 < (l0.length : Int) := zo
        obtain ⟨ad554, e554, hx554_0, hx554_1, hx554_2, hx554_3, hx554_4⟩ := at_T67 HR0.out x5_1 p554 q554
        have hw554_4 := hx554_4
        have hw554_3 := hx554_3
        have hw554_2 := hx554_2
        have hw554_1 := hx554_1
        have hw554_0 := hx554_0
        cases e554
        replace hx554_0 := zt HB.out hx554_0
        replace hx554_1 := zt HB.out hx554_1
        replace hx554_2 := zt HB.out hx554_2
        replace hx554_3 := zt HB.out hx554_3
        replace hx554_4 := zt HB.out hx554_4
        replace p554 := eq_true p554
        replace q554 := eq_true q554
        refine start_ (n := 8) (S := fun w' => w'.cell? (ad554.add ((x5_1).toNat * 5)) = some (.string ((rd_T67 l0 x5_1).f0)) ∧ w'.cell? ⟨(ad554.add ((x5_1).toNat * 5)).block, (ad554.add ((x5_1).toNat * 5)).off + 1, none⟩ = some (.int .i64 ((rd_T67 l0 x5_1).f1)) ∧ w'.cell? ⟨(ad554.add ((x5_1).toNat * 5)).block, (ad554.add ((x5_1).toNat * 5)).off + 2, none⟩ = some (.int .i64 ((rd_T67 l0 x5_1).f2)) ∧ w'.cell? ⟨(ad554.add ((x5_1).toNat * 5)).block, (ad554.add ((x5_1).toNat * 5)).off + 3, none⟩ = some (.int .i64 ((rd_T67 l0 x5_1).f3)) ∧ w'.cell? ⟨(ad554.add ((x5_1).toNat * 5)).block, (ad554.add ((x5_1).toNat * 5)).off + 4, none⟩ = some (.int .i64 ((rd_T67 l0 x5_1).f4))) (ds := []) #[false, false, false, false, false, false, false, false] (by kernel_rfl) rfl rfl ⟨(zt HB.out hw554_0), (zt HB.out hw554_1), (zt HB.out hw554_2), (zt HB.out hw554_3), (zt HB.out hw554_4)⟩ (fun hHeld => ?_); refine with_tabW laws_heldInstrS.tab4 laws_heldInstrS.bits4 (fun HT_ HW_ => ?_)
        generalize wr.drew = w17 at HB hx554_0 hx554_1 hx554_2 hx554_3 hx554_4 hHeld ⊢
        refine pure_ (i := 0) (N := some 12) (v := ?_) (a' := ?_) #[true, false, false, false, false, false, false, false] rfl rfl (any_of HT_.out (by kernel_rfl)) (fun _ _ _ h => h) (Or.inl ⟨by rfl, ?_⟩) ?_ ?_
        rotate_left
        ·intro w'
         go_simp
         with_reducible rfl
        rotate_left
        ·simp only [Act.put, z1, z2, z3, i64_w, i32_w]
         rfl
        refine pure_ (i := 1) (N := some 13) (v := ?_) (a' := ?_) #[true, true, false, false, false, false, false, false] rfl rfl (any_of HT_.out (by kernel_rfl)) (fun _ _ _ h => h) (Or.inl ⟨by rfl, ?_⟩) ?_ ?_
        rotate_left
        ·intro w'
         go_simp
         with_reducible rfl
        rotate_left
        ·simp only [Act.put, z1, z2, z3, i64_w, i32_w]
         rfl
        refine pure_ (i := 2) (N := some 14) (v := ?_) (a' := ?_) #[true, true, true, false, false, false, false, false] rfl rfl (any_of HT_.out (by kernel_rfl)) (fun _ _ _ h => h) (Or.inl ⟨by rfl, ?_⟩) ?_ ?_
        rotate_left
        ·intro w'
         go_simp
         with_reducible rfl
        rotate_left
        ·simp only [Act.put, z1, z2, z3, i64_w, i32_w]
         rfl
        refine pure_ (i := 3) (N := some 15) (v := ?_) (a' := ?_) #[true, true, true, true, false, false, false, false] rfl rfl (any_of HT_.out (by kernel_rfl)) (fun _ _ _ h => h) (Or.inl ⟨by rfl, ?_⟩) ?_ ?_
        rotate_left
        ·intro w'
         go_simp
         with_reducible rfl
        rotate_left
        ·simp only [Act.put, z1, z2, z3, i64_w, i32_w]
         rfl
        refine pure_ (i := 5) (N := some 17) (v := ?_) (a' := ?_) #[true, true, true, true, false, true, false, false] rfl rfl (any_of HT_.out (by kernel_rfl)) (fun _ _ _ h => h) (Or.inl ⟨by rfl, ?_⟩) ?_ ?_
        rotate_left
        ·intro w'
         go_simp
         with_reducible rfl
        rotate_left
        ·simp only [Act.put, z1, z2, z3, i64_w, i32_w]
         rfl
        refine take_ (i := 4) (N := some 16) (v := ?_) (a' := ?_) #[true, true, true, true, true, true, false, false] rfl rfl (take_ofW HT_.out HW_.out (by kernel_rfl)) (fun _ _ _ h => h) (Or.inl ⟨by rfl, ?_⟩) hHeld ?_ ?_
        rotate_left
        ·rintro w' ⟨s0, s1, s2, s3, s4⟩
         go_simp
         with_reducible rfl
        rotate_left
        ·simp only [Act.put, z1, z2, z3, i64_w, i32_w]
         rfl
        refine one_ (i := 6) (N := some 18) #[true, true, true, true, true, true, true, false] rfl rfl (one_of HT_.out (by kernel_rfl)) (by decide) (fun K hK => ?_)
        refine goes_ Try.func63 (by kernel_rfl) rfl #[.int .i64 x1_1] (by rfl) rfl rfl (by (try simp only [z6, z7, z8]); first | done | rfl | (simp only [z4, z5]; rfl)) ?_
        with_reducible refine (laws_markText.calls k1 x1_1 t555 _ A5.out).mono ?_
        rintro e w18 ⟨rfl, hb⟩
        refine ⟨_, rfl, ?_⟩
        have n0_ := zK (zL (by repeat (first | (with_reducible first | exact HB.out | apply zA | apply zB | apply zC) | exact HB.out)) hb)
        clear HB
        have HB := n0_
        clear n0_
        (try clear hb)
        (try clear hb2)
        (try clear hk)
        (try clear hi)
        refine hK.out _ _ ⟨(zt HB.out hw554_0), (zt HB.out hw554_1), (zt HB.out hw554_2), (zt HB.out hw554_3), (zt HB.out hw554_4)⟩ (fun hHeld => ?_)
        clear hK K
        refine norm_ (a' := ?_) ?_ ?_
        rotate_left
        ·show Act.put _ (some 18) _ = _
         simp only [Act.put, z1, z2, z3, i64_w, i32_w]
         rfl
        refine pure_ (i := 7) (N := some 19) (v := ?_) (a' := ?_) #[true, true, true, true, true, true, true, true] rfl rfl (any_of HT_.out (by kernel_rfl)) (fun _ _ _ h => h) (Or.inl ⟨by rfl, ?_⟩) ?_ ?_
        rotate_left
        ·intro w'
         go_simp
         with_reducible rfl
        rotate_left
        ·simp only [Act.put, z1, z2, z3, i64_w, i32_w]
         rfl
        refine done_ (done_of HT_.out (by kernel_rfl)) ?_
        have p556 : 0 ≤ (x5_1 : Int) := zo
        have q556 : x5_1 < (l0.length : Int) := zo
        obtain ⟨ad556, e556, hx556_0, hx556_1, hx556_2, hx556_3, hx556_4⟩ := at_T67 HR0.out x5_1 p556 q556
        obtain rfl : ad554 = ad556 := (by injection e556)
        replace hx556_0 := zt HB.out hx556_0
        replace hx556_1 := zt HB.out hx556_1
        replace hx556_2 := zt HB.out hx556_2
        replace hx556_3 := zt HB.out hx556_3
        replace hx556_4 := zt HB.out hx556_4
        replace p556 := eq_true p556
        replace q556 := eq_true q556
        have p557 : 0 ≤ (x5_1 : Int) := zo
        have q557 : x5_1 < (l0.length : Int) := zo
        obtain ⟨ad557, e557, hx557_0, hx557_1, hx557_2, hx557_3, hx557_4⟩ := at_T67 HR0.out x5_1 p557 q557
        obtain rfl : ad554 = ad557 := (by injection e557)
        replace hx557_0 := zt HB.out hx557_0
        replace hx557_1 := zt HB.out hx557_1
        replace hx557_2 := zt HB.out hx557_2
        replace hx557_3 := zt HB.out hx557_3
        replace hx557_4 := zt HB.out hx557_4
        replace p557 := eq_true p557
        replace q557 := eq_true q557
        try go_wp2
        go_ret
        exact ⟨by first | rfl | (simp [errW_none, errW_some] <;> rfl) | (simp [*, errW_none, errW_some] <;> rfl), by repeat (first | (with_reducible first | exact HB.out | apply zA | apply zB | apply zC) | exact HB.out)⟩
      ·rw [if_neg c7] at H
       have c7b0 : (((rd_T67 l0 x5_1).f1) == (wrap64 (x1_1 + 1))) = false := beq_eq_false_iff_ne.mpr c7
       have c7b1 : (((rd_T67 l0 x5_1).f1) != (wrap64 (x1_1 + 1))) = true := bne_iff_ne.mpr c7
       obtain rfl := Option.some.inj H
       try go_wp2
       have n0_ := zK (zC HB.out)
       clear HB
       have HB := n0_
       clear n0_
       have p554 : 0 ≤ (x5_1 : Int) := zo
       have q554 : x5_1 < (l0.length : Int) := zo
       obtain ⟨ad554, e554, hx554_0, hx554_1, hx554_2, hx554_3, hx554_4⟩ := at_T67 HR0.out x5_1 p554 q554
       have hw554_4 := hx554_4
       have hw554_3 := hx554_3
       have hw554_2 := hx554_2
       have hw554_1 := hx554_1
       have hw554_0 := hx554_0
       cases e554
       replace hx554_0 := zt HB.out hx554_0
       replace hx554_1 := zt HB.out hx554_1
       replace hx554_2 := zt HB.out hx554_2
       replace hx554_3 := zt HB.out hx554_3
       replace hx554_4 := zt HB.out hx554_4
       replace p554 := eq_true p554
       replace q554 := eq_true q554
       refine start_ (n := 8) (S := fun w' => w'.cell? (ad554.add ((x5_1).toNat * 5)) = some (.string ((rd_T67 l0 x5_1).f0)) ∧ w'.cell? ⟨(ad554.add ((x5_1).toNat * 5)).block, (ad554.add ((x5_1).toNat * 5)).off + 1, none⟩ = some (.int .i64 ((rd_T67 l0 x5_1).f1)) ∧ w'.cell? ⟨(ad554.add ((x5_1).toNat * 5)).block, (ad554.add ((x5_1).toNat * 5)).off + 2, none⟩ = some (.int .i64 ((rd_T67 l0 x5_1).f2)) ∧ w'.cell? ⟨(ad554.add ((x5_1).toNat * 5)).block, (ad554.add ((x5_1).toNat * 5)).off + 3, none⟩ = some (.int .i64 ((rd_T67 l0 x5_1).f3)) ∧ w'.cell? ⟨(ad554.add ((x5_1).toNat * 5)).block, (ad554.add ((x5_1).toNat * 5)).off + 4, none⟩ = some (.int .i64 ((rd_T67 l0 x5_1).f4))) (ds := []) #[false, false, false, false, false, false, false, false] (by kernel_rfl) rfl rfl ⟨(zt HB.out hw554_0), (zt HB.out hw554_1), (zt HB.out hw554_2), (zt HB.out hw554_3), (zt HB.out hw554_4)⟩ (fun hHeld => ?_); refine with_tabW laws_heldInstrS.tab4 laws_heldInstrS.bits4 (fun HT_ HW_ => ?_)
       generalize wr.drew = w19 at HB hx554_0 hx554_1 hx554_2 hx554_3 hx554_4 hHeld ⊢
       refine pure_ (i := 0) (N := some 12) (v := ?_) (a' := ?_) #[true, false, false, false, false, false, false, false] rfl rfl (any_of HT_.out (by kernel_rfl)) (fun _ _ _ h => h) (Or.inl ⟨by rfl, ?_⟩) ?_ ?_
       rotate_left
       ·intro w'
        go_simp
        with_reducible rfl
       rotate_left
       ·simp only [Act.put, z1, z2, z3, i64_w, i32_w]
        rfl
       refine pure_ (i := 1) (N := some 13) (v := ?_) (a' := ?_) #[true, true, false, false, false, false, false, false] rfl rfl (any_of HT_.out (by kernel_rfl)) (fun _ _ _ h => h) (Or.inl ⟨by rfl, ?_⟩) ?_ ?_
       rotate_left
       ·intro w'
        go_simp
        with_reducible rfl
       rotate_left
       ·simp only [Act.put, z1, z2, z3, i64_w, i32_w]
        rfl
       refine pure_ (i := 2) (N := some 14) (v := ?_) (a' := ?_) #[true, true, true, false, false, false, false, false] rfl rfl (any_of HT_.out (by kernel_rfl)) (fun _ _ _ h => h) (Or.inl ⟨by rfl, ?_⟩) ?_ ?_
       rotate_left
       ·intro w'
        go_simp
        with_reducible rfl
       rotate_left
       ·simp only [Act.put, z1, z2, z3, i64_w, i32_w]
        rfl
       refine pure_ (i := 3) (N := some 15) (v := ?_) (a' := ?_) #[true, true, true, true, false, false, false, false] rfl rfl (any_of HT_.out (by kernel_rfl)) (fun _ _ _ h => h) (Or.inl ⟨by rfl, ?_⟩) ?_ ?_
       rotate_left
       ·intro w'
        go_simp
        with_reducible rfl
       rotate_left
       ·simp only [Act.put, z1, z2, z3, i64_w, i32_w]
        rfl
       refine pure_ (i := 5) (N := some 17) (v := ?_) (a' := ?_) #[true, true, true, true, false, true, false, false] rfl rfl (any_of HT_.out (by kernel_rfl)) (fun _ _ _ h => h) (Or.inl ⟨by rfl, ?_⟩) ?_ ?_
       rotate_left
       ·intro w'
        go_simp
        with_reducible rfl
       rotate_left
       ·simp only [Act.put, z1, z2, z3, i64_w, i32_w]
        rfl
       refine take_ (i := 4) (N := some 16) (v := ?_) (a' := ?_) #[true, true, true, true, true, true, false, false] rfl rfl (take_ofW HT_.out HW_.out (by kernel_rfl)) (fun _ _ _ h => h) (Or.inl ⟨by rfl, ?_⟩) hHeld ?_ ?_
       rotate_left
       ·rintro w' ⟨s0, s1, s2, s3, s4⟩
        go_simp
        with_reducible rfl
       rotate_left
       ·simp only [Act.put, z1, z2, z3, i64_w, i32_w]
        rfl
       refine one_ (i := 6) (N := some 18) #[true, true, true, true, true, true, true, false] rfl rfl (one_of HT_.out (by kernel_rfl)) (by decide) (fun K hK => ?_)
       refine goes_ Try.func63 (by kernel_rfl) rfl #[.int .i64 x1_1] (by rfl) rfl rfl (by (try simp only [z6, z7, z8]); first | done | rfl | (simp only [z4, z5]; rfl)) ?_
       with_reducible refine (laws_markText.calls k1 x1_1 t555 _ A5.out).mono ?_
       rintro e w20 ⟨rfl, hb⟩
       refine ⟨_, rfl, ?_⟩
       have n0_ := zK (zL (by repeat (first | (with_reducible first | exact HB.out | apply zA | apply zB | apply zC) | exact HB.out)) hb)
       clear HB
       have HB := n0_
       clear n0_
       (try clear hb)
       (try clear hb2)
       (try clear hk)
       (try clear hi)
       refine hK.out _ _ ⟨(zt HB.out hw554_0), (zt HB.out hw554_1), (zt HB.out hw554_2), (zt HB.out hw554_3), (zt HB.out hw554_4)⟩ (fun hHeld => ?_)
       clear hK K
       refine norm_ (a' := ?_) ?_ ?_
       rotate_left
       ·show Act.put _ (some 18) _ = _
        simp only [Act.put, z1, z2, z3, i64_w, i32_w]
        rfl
       refine pure_ (i := 7) (N := some 19) (v := ?_) (a' := ?_) #[true, true, true, true, true, true, true, true] rfl rfl (any_of HT_.out (by kernel_rfl)) (fun _ _ _ h => h) (Or.inl ⟨by rfl, ?_⟩) ?_ ?_
       rotate_left
       ·intro w'
        go_simp
        with_reducible rfl
       rotate_left
       ·simp only [Act.put, z1, z2, z3, i64_w, i32_w]
        rfl
       refine done_ (done_of HT_.out (by kernel_rfl)) ?_
       have p556 : 0 ≤ (x5_1 : Int) := zo
       have q556 : x5_1 < (l0.length : Int) := zo
       obtain ⟨ad556, e556, hx556_0, hx556_1, hx556_2, hx556_3, hx556_4⟩ := at_T67 HR0.out x5_1 p556 q556
       obtain rfl : ad554 = ad556 := (by injection e556)
       replace hx556_0 := zt HB.out hx556_0
       replace hx556_1 := zt HB.out hx556_1
       replace hx556_2 := zt HB.out hx556_2
       replace hx556_3 := zt HB.out hx556_3
       replace hx556_4 := zt HB.out hx556_4
       replace p556 := eq_true p556
       replace q556 := eq_true q556
       try go_wp2
       go_ret
       exact ⟨by first | rfl | (simp [errW_none, errW_some] <;> rfl) | (simp [*, errW_none, errW_some] <;> rfl), by repeat (first | (with_reducible first | exact HB.out | apply zA | apply zB | apply zC) | exact HB.out)⟩
     ·rw [if_neg c6] at H
      have c6b0 : (((rd_T67 l0 x5_1).f0).toList == t555.toList) = false := beq_eq_false_iff_ne.mpr c6
      have c6b1 : (((rd_T67 l0 x5_1).f0).toList != t555.toList) = true := bne_iff_ne.mpr c6
      obtain rfl := Option.some.inj H
      try go_wp2
      have n0_ := zK (zC HB.out)
      clear HB
      have HB := n0_
      clear n0_
      have p554 : 0 ≤ (x5_1 : Int) := zo
      have q554 : x5_1 < (l0.length : Int) := zo
      obtain ⟨ad554, e554, hx554_0, hx554_1, hx554_2, hx554_3, hx554_4⟩ := at_T67 HR0.out x5_1 p554 q554
      have hw554_4 := hx554_4
      have hw554_3 := hx554_3
      have hw554_2 := hx554_2
      have hw554_1 := hx554_1
      have hw554_0 := hx554_0
      cases e554
      replace hx554_0 := zt HB.out hx554_0
      replace hx554_1 := zt HB.out hx554_1
      replace hx554_2 := zt HB.out hx554_2
      replace hx554_3 := zt HB.out hx554_3
      replace hx554_4 := zt HB.out hx554_4
      replace p554 := eq_true p554
      replace q554 := eq_true q554
      refine start_ (n := 8) (S := fun w' => w'.cell? (ad554.add ((x5_1).toNat * 5)) = some (.string ((rd_T67 l0 x5_1).f0)) ∧ w'.cell? ⟨(ad554.add ((x5_1).toNat * 5)).block, (ad554.add ((x5_1).toNat * 5)).off + 1, none⟩ = some (.int .i64 ((rd_T67 l0 x5_1).f1)) ∧ w'.cell? ⟨(ad554.add ((x5_1).toNat * 5)).block, (ad554.add ((x5_1).toNat * 5)).off + 2, none⟩ = some (.int .i64 ((rd_T67 l0 x5_1).f2)) ∧ w'.cell? ⟨(ad554.add ((x5_1).toNat * 5)).block, (ad554.add ((x5_1).toNat * 5)).off + 3, none⟩ = some (.int .i64 ((rd_T67 l0 x5_1).f3)) ∧ w'.cell? ⟨(ad554.add ((x5_1).toNat * 5)).block, (ad554.add ((x5_1).toNat * 5)).off + 4, none⟩ = some (.int .i64 ((rd_T67 l0 x5_1).f4))) (ds := []) #[false, false, false, false, false, false, false, false] (by kernel_rfl) rfl rfl ⟨(zt HB.out hw554_0), (zt HB.out hw554_1), (zt HB.out hw554_2), (zt HB.out hw554_3), (zt HB.out hw554_4)⟩ (fun hHeld => ?_); refine with_tabW laws_heldInstrS.tab4 laws_heldInstrS.bits4 (fun HT_ HW_ => ?_)
      generalize wr.drew = w21 at HB hx554_0 hx554_1 hx554_2 hx554_3 hx554_4 hHeld ⊢
      refine pure_ (i := 0) (N := some 12) (v := ?_) (a' := ?_) #[true, false, false, false, false, false, false, false] rfl rfl (any_of HT_.out (by kernel_rfl)) (fun _ _ _ h => h) (Or.inl ⟨by rfl, ?_⟩) ?_ ?_
      rotate_left
      ·intro w'
       go_simp
       with_reducible rfl
      rotate_left
      ·simp only [Act.put, z1, z2, z3, i64_w, i32_w]
       rfl
      refine pure_ (i := 1) (N := some 13) (v := ?_) (a' := ?_) #[true, true, false, false, false, false, false, false] rfl rfl (any_of HT_.out (by kernel_rfl)) (fun _ _ _ h => h) (Or.inl ⟨by rfl, ?_⟩) ?_ ?_
      rotate_left
      ·intro w'
       go_simp
       with_reducible rfl
      rotate_left
      ·simp only [Act.put, z1, z2, z3, i64_w, i32_w]
       rfl
      refine pure_ (i := 2) (N := some 14) (v := ?_) (a' := ?_) #[true, true, true, false, false, false, false, false] rfl rfl (any_of HT_.out (by kernel_rfl)) (fun _ _ _ h => h) (Or.inl ⟨by rfl, ?_⟩) ?_ ?_
      rotate_left
      ·intro w'
       go_simp
       with_reducible rfl
      rotate_left
      ·simp only [Act.put, z1, z2, z3, i64_w, i32_w]
       rfl
      refine pure_ (i := 3) (N := some 15) (v := ?_) (a' := ?_) #[true, true, true, true, false, false, false, false] rfl rfl (any_of HT_.out (by kernel_rfl)) (fun _ _ _ h => h) (Or.inl ⟨by rfl, ?_⟩) ?_ ?_
      rotate_left
      ·intro w'
       go_simp
       with_reducible rfl
      rotate_left
      ·simp only [Act.put, z1, z2, z3, i64_w, i32_w]
       rfl
      refine pure_ (i := 5) (N := some 17) (v := ?_) (a' := ?_) #[true, true, true, true, false, true, false, false] rfl rfl (any_of HT_.out (by kernel_rfl)) (fun _ _ _ h => h) (Or.inl ⟨by rfl, ?_⟩) ?_ ?_
      rotate_left
      ·intro w'
       go_simp
       with_reducible rfl
      rotate_left
      ·simp only [Act.put, z1, z2, z3, i64_w, i32_w]
       rfl
      refine take_ (i := 4) (N := some 16) (v := ?_) (a' := ?_) #[true, true, true, true, true, true, false, false] rfl rfl (take_ofW HT_.out HW_.out (by kernel_rfl)) (fun _ _ _ h => h) (Or.inl ⟨by rfl, ?_⟩) hHeld ?_ ?_
      rotate_left
      ·rintro w' ⟨s0, s1, s2, s3, s4⟩
       go_simp
       with_reducible rfl
      rotate_left
      ·simp only [Act.put, z1, z2, z3, i64_w, i32_w]
       rfl
      refine one_ (i := 6) (N := some 18) #[true, true, true, true, true, true, true, false] rfl rfl (one_of HT_.out (by kernel_rfl)) (by decide) (fun K hK => ?_)
      refine goes_ Try.func63 (by kernel_rfl) rfl #[.int .i64 x1_1] (by rfl) rfl rfl (by (try simp only [z6, z7, z8]); first | done | rfl | (simp only [z4, z5]; rfl)) ?_
      with_reducible refine (laws_markText.calls k1 x1_1 t555 _ A5.out).mono ?_
      rintro e w22 ⟨rfl, hb⟩
      refine ⟨_, rfl, ?_⟩
      have n0_ := zK (zL (by repeat (first | (with_reducible first | exact HB.out | apply zA | apply zB | apply zC) | exact HB.out)) hb)
      clear HB
      have HB := n0_
      clear n0_
      (try clear hb)
      (try clear hb2)
      (try clear hk)
      (try clear hi)
      refine hK.out _ _ ⟨(zt HB.out hw554_0), (zt HB.out hw554_1), (zt HB.out hw554_2), (zt HB.out hw554_3), (zt HB.out hw554_4)⟩ (fun hHeld => ?_)
      clear hK K
      refine norm_ (a' := ?_) ?_ ?_
      rotate_left
      ·show Act.put _ (some 18) _ = _
       simp only [Act.put, z1, z2, z3, i64_w, i32_w]
       rfl
      refine pure_ (i := 7) (N := some 19) (v := ?_) (a' := ?_) #[true, true, true, true, true, true, true, true] rfl rfl (any_of HT_.out (by kernel_rfl)) (fun _ _ _ h => h) (Or.inl ⟨by rfl, ?_⟩) ?_ ?_
      rotate_left
      ·intro w'
       go_simp
       with_reducible rfl
      rotate_left
      ·simp only [Act.put, z1, z2, z3, i64_w, i32_w]
       rfl
      refine done_ (done_of HT_.out (by kernel_rfl)) ?_
      try go_wp2
      go_ret
      exact ⟨by first | rfl | (simp [errW_none, errW_some] <;> rfl) | (simp [*, errW_none, errW_some] <;> rfl), by repeat (first | (with_reducible first | exact HB.out | apply zA | apply zB | apply zC) | exact HB.out)⟩
    ·rw [if_neg c4] at H
     exact absurd H (by simp)
   ·rw [if_neg c3] at H
    have c3b0 : decide (x5_1 < (l0.length : Int)) = false := decide_eq_false c3
    clear c3
    obtain rfl := Option.some.inj H
    go_wp2
    go_ret
    exact ⟨by first | rfl | (simp [errW_none, errW_some] <;> rfl) | (simp [*, errW_none, errW_some] <;> rfl), by repeat (first | (with_reducible first | exact HB.out | apply zA | apply zB | apply zC) | exact HB.out)⟩

/-! ### spec_l1Has: function 101 -/
def spec_l1Has.l0 : Nat → Int → List Int → Int → Int → Option (Bool)
 | 0, _, _, _, _ => none
 | k + 1, x1, x7, x8, x9 => if x9 < x8 then (if 0 ≤ x9 then (if x9 < (x7.length : Int) then (if (rd x7 x9) = x1 then (some true) else (spec_l1Has.l0 k x1 x7 x8 (wrap64 (x9 + 1)))) else (none)) else (none)) else (some false)
def spec_l1Has.f (k : Nat) (l0 : List Int) (a1 : Int) : Option (Bool) := spec_l1Has.l0 k a1 l0 (l0.length : Int) 0
theorem spec_l1Has.mono_l : ∀ k, (∀ y0 y1 y2 y3, LeO (spec_l1Has.l0 k y0 y1 y2 y3) (spec_l1Has.l0 (k + 1) y0 y1 y2 y3))
 | 0 => fun _ _ _ _ r h => by simp [spec_l1Has.l0] at h
 | k + 1 => by
  have ih0 := spec_l1Has.mono_l k
  ·intro y0 y1 y2 y3
   unfold spec_l1Has.l0
   repeat' first
   | (with_reducible exact ih0 _ _ _ _)
   | (with_reducible exact LeO.refl _)
   | (with_reducible exact LeO.none _)
   | (with_reducible refine LeO.ite ?_ ?_)
   | (with_reducible refine LeO.bind ?_ (fun _ => ?_))
   | exact ih0 _ _ _ _
   | exact LeO.none _
   | refine LeO.ite ?_ ?_
   | refine LeO.bind ?_ (fun _ => ?_)
theorem spec_l1Has.mono : ∀ a0 a1 k, LeO (spec_l1Has.f k a0 a1) (spec_l1Has.f (k + 1) a0 a1) := by
 intro a0 a1 k
 have ih0 := spec_l1Has.mono_l k
 unfold spec_l1Has.f
 repeat' first
   | (with_reducible exact ih0 _ _ _ _)
   | (with_reducible exact LeO.refl _)
   | (with_reducible exact LeO.none _)
   | (with_reducible refine LeO.ite ?_ ?_)
   | (with_reducible refine LeO.bind ?_ (fun _ => ?_))
   | exact ih0 _ _ _ _
   | exact LeO.none _
   | refine LeO.ite ?_ ?_
   | refine LeO.bind ?_ (fun _ => ?_)
set_option maxHeartbeats 8000000 in
set_option maxRecDepth 100000 in
theorem spec_l1Has.calls (k : Nat) (A0 : Option Addr) (c0 : Nat) (l0 : List Int) (a1 : Int) (r : Bool) (w : World) (hr0 : Kd.C (Kd.int .i64) w A0 l0.length l0) (hc0 : l0.length ≤ c0) (h : spec_l1Has.f k l0 a1 = some r) :
  Calls Try.prog 101 #[.slice A0 l0.length c0, .int .i64 a1] w fun e w' => e = .returned (.bool r) ∧ Drawn0 w w' := by
 have HR0 := zK hr0
 have HC0 := zK hc0
 clear hr0 hc0
 have H : (spec_l1Has.l0 k a1 l0 (l0.length : Int) 0) = some r := h
 clear h
 have H' := zK H
 clear H
 go_enter Try.func101, Try.ntmps101
 go_wp2
 go_loopg [9] k (fun kq v9 w' => ∃ (x9_1 : Int), v9 = .int .i64 x9_1 ∧ Aside0 (spec_l1Has.l0 kq a1 l0 (l0.length : Int) x9_1 = some r) ∧ Aside0 (kq ≤ k) ∧ Drawn0 w w')
 case atStart => exact ⟨(0), (by first | rfl | (simp; done) | (simp [*]; done)), H', ⟨Nat.le_refl _⟩, by repeat (first | exact Drawn0.refl _ | apply Drawn0.step)⟩
 case round =>
  clear H'
  try clear c1
  try clear p2
  obtain ⟨x9_1, rfl, HA, HK1, ⟨m1, rfl⟩⟩ := hrel
  cases gk with
  | zero => exact absurd HA.out (by simp [spec_l1Has.l0])
  | succ k1 =>
   have H := HA.out
   clear HA
   simp only [spec_l1Has.l0] at H
   by_cases c3 : x9_1 < (l0.length : Int)
   ·rw [if_pos c3] at H
    have c3b0 : decide (x9_1 < (l0.length : Int)) = true := decide_eq_true c3
    clear c3
    by_cases c4 : 0 ≤ x9_1
    ·rw [if_pos c4] at H
     have c4b0 : decide (0 ≤ x9_1) = true := decide_eq_true c4
     clear c4
     by_cases c5 : x9_1 < (l0.length : Int)
     ·rw [if_pos c5] at H
      have c5b0 : decide (x9_1 < (l0.length : Int)) = true := decide_eq_true c5
      clear c5
      by_cases c6 : (rd l0 x9_1) = a1
      ·rw [if_pos c6] at H
       have c6b0 : ((rd l0 x9_1) == a1) = true := beq_iff_eq.mpr c6
       have c6b1 : ((rd l0 x9_1) != a1) = false := bne_eq_false_iff_eq.mpr c6
       clear c6
       obtain rfl := Option.some.inj H
       have p561 : 0 ≤ (x9_1 : Int) := zo
       have q561 : x9_1 < (l0.length : Int) := zo
       obtain ⟨ad561, e561, hx561_0⟩ := Kd.at_int HR0.out x9_1 p561 q561
       cases e561
       replace p561 := eq_true p561
       replace q561 := eq_true q561
       go_wp2
       go_ret
       exact ⟨by first | rfl | (simp; done) | (simp [*]; done), by repeat (first | exact Drawn0.refl _ | apply Drawn0.step)⟩
      ·rw [if_neg c6] at H
       have c6b0 : ((rd l0 x9_1) == a1) = false := beq_eq_false_iff_ne.mpr c6
       have c6b1 : ((rd l0 x9_1) != a1) = true := bne_iff_ne.mpr c6
       have H' := zK H
       clear H
       have p561 : 0 ≤ (x9_1 : Int) := zo
       have q561 : x9_1 < (l0.length : Int) := zo
       obtain ⟨ad561, e561, hx561_0⟩ := Kd.at_int HR0.out x9_1 p561 q561
       cases e561
       replace p561 := eq_true p561
       replace q561 := eq_true q561
       go_wp2
       go_roundg k1
       case measure => have := HK1.out; omega
       case rel => exact ⟨(wrap64 (x9_1 + 1)), (by first | rfl | (simp; done) | (simp [*]; done)), H', ⟨by have := HK1.out; omega⟩, by repeat (first | exact Drawn0.refl _ | apply Drawn0.step)⟩
     ·rw [if_neg c5] at H
      exact absurd H (by simp)
    ·rw [if_neg c4] at H
     exact absurd H (by simp)
   ·rw [if_neg c3] at H
    have c3b0 : decide (x9_1 < (l0.length : Int)) = false := decide_eq_false c3
    clear c3
    obtain rfl := Option.some.inj H
    go_wp2
    go_ret
    exact ⟨by first | rfl | (simp; done) | (simp [*]; done), by repeat (first | exact Drawn0.refl _ | apply Drawn0.step)⟩

/-! ### spec_DropDead: function 55 -/
mutual
def spec_DropDead.j0 : Nat → List (S67) → List Int → Bool → Option ((List (S67)) × Bool)
 | 0, _, _, _ => none
 | k + 1, x0, x1, x16 => if x16 = true then (some (([] : List (S67)), false)) else ((spec_l1Own.f x1).bind fun t564 => (spec_DropDead.l0 k x0 ([] : List (S67)) t564 (wrap64 ((x0.length : Int) - 1))))
def spec_DropDead.l0 : Nat → List (S67) → List (S67) → List Int → Int → Option ((List (S67)) × Bool)
 | 0, _, _, _, _ => none
 | k + 1, x0, x6, x7, x8 => if x8 ≥ 0 then (if 0 ≤ x8 then (if x8 < (x0.length : Int) then ((spec_l1Has.f k x7 ((rd_T67 x0 x8).f1)).bind fun t568 => (if t568 = true then ((some (([(⟨(rd_T67 x0 x8).f0, (rd_T67 x0 x8).f1, (rd_T67 x0 x8).f2, (rd_T67 x0 x8).f3, (rd_T67 x0 x8).f4⟩ : S67)] : List (S67)) : List (S67))).bind fun y570 => (if y570.length + x6.length < 2932031007402 then ((spec_cdBefore.f k ((rd_T67 x0 x8).f0) ((rd_T67 x0 x8).f1) ((rd_T67 x0 x8).f2) ((rd_T67 x0 x8).f3) ((rd_T67 x0 x8).f4) x7).bind fun t577 => (spec_DropDead.l0 k x0 (y570 ++ x6) t577 (wrap64 (x8 - 1)))) else (none))) else (spec_DropDead.l0 k x0 x6 x7 (wrap64 (x8 - 1))))) else (none)) else (none)) else (some (x6, true))
end
def spec_DropDead.f (k : Nat) (l0 : List (S67)) (l1 : List Int) : Option ((List (S67)) × Bool) := (spec_cdCode.f k l0).bind fun t562 => (if t562 = true then ((spec_cdWanted.f k l1).bind fun t563 => (spec_DropDead.j0 k l0 l1 (!t563))) else (spec_DropDead.j0 k l0 l1 true))
theorem spec_DropDead.mono_l : ∀ k, (∀ y0 y1 y2, LeO (spec_DropDead.j0 k y0 y1 y2) (spec_DropDead.j0 (k + 1) y0 y1 y2)) ∧ (∀ y0 y1 y2 y3, LeO (spec_DropDead.l0 k y0 y1 y2 y3) (spec_DropDead.l0 (k + 1) y0 y1 y2 y3))
 | 0 => ⟨fun _ _ _ r h => by simp [spec_DropDead.j0] at h, fun _ _ _ _ r h => by simp [spec_DropDead.l0] at h⟩
 | k + 1 => by
  obtain ⟨ih0, ih1⟩ := spec_DropDead.mono_l k
  refine ⟨?_, ?_⟩
  ·intro y0 y1 y2
   unfold spec_DropDead.j0
   repeat' first
   | (with_reducible exact ih0 _ _ _)
   | (with_reducible exact ih1 _ _ _ _)
   | (with_reducible exact spec_cdBefore.mono _ _ _ _ _ _ _)
   | (with_reducible exact spec_cdCode.mono _ _)
   | (with_reducible exact spec_cdWanted.mono _ _)
   | (with_reducible exact spec_l1Has.mono _ _ _)
   | (with_reducible exact LeO.refl _)
   | (with_reducible exact LeO.none _)
   | (with_reducible refine LeO.ite ?_ ?_)
   | (with_reducible refine LeO.bind ?_ (fun _ => ?_))
   | exact ih0 _ _ _
   | exact ih1 _ _ _ _
   | exact spec_cdBefore.mono _ _ _ _ _ _ _
   | exact spec_cdCode.mono _ _
   | exact spec_cdWanted.mono _ _
   | exact spec_l1Has.mono _ _ _
   | exact LeO.none _
   | refine LeO.ite ?_ ?_
   | refine LeO.bind ?_ (fun _ => ?_)
  ·intro y0 y1 y2 y3
   unfold spec_DropDead.l0
   repeat' first
   | (with_reducible exact ih0 _ _ _)
   | (with_reducible exact ih1 _ _ _ _)
   | (with_reducible exact spec_cdBefore.mono _ _ _ _ _ _ _)
   | (with_reducible exact spec_cdCode.mono _ _)
   | (with_reducible exact spec_cdWanted.mono _ _)
   | (with_reducible exact spec_l1Has.mono _ _ _)
   | (with_reducible exact LeO.refl _)
   | (with_reducible exact LeO.none _)
   | (with_reducible refine LeO.ite ?_ ?_)
   | (with_reducible refine LeO.bind ?_ (fun _ => ?_))
   | exact ih0 _ _ _
   | exact ih1 _ _ _ _
   | exact spec_cdBefore.mono _ _ _ _ _ _ _
   | exact spec_cdCode.mono _ _
   | exact spec_cdWanted.mono _ _
   | exact spec_l1Has.mono _ _ _
   | exact LeO.none _
   | refine LeO.ite ?_ ?_
   | refine LeO.bind ?_ (fun _ => ?_)
theorem spec_DropDead.mono : ∀ a0 a1 k, LeO (spec_DropDead.f k a0 a1) (spec_DropDead.f (k + 1) a0 a1) := by
 intro a0 a1 k
 obtain ⟨ih0, ih1⟩ := spec_DropDead.mono_l k
 unfold spec_DropDead.f
 repeat' first
   | (with_reducible exact ih0 _ _ _)
   | (with_reducible exact ih1 _ _ _ _)
   | (with_reducible exact spec_cdBefore.mono _ _ _ _ _ _ _)
   | (with_reducible exact spec_cdCode.mono _ _)
   | (with_reducible exact spec_cdWanted.mono _ _)
   | (with_reducible exact spec_l1Has.mono _ _ _)
   | (with_reducible exact LeO.refl _)
   | (with_reducible exact LeO.none _)
   | (with_reducible refine LeO.ite ?_ ?_)
   | (with_reducible refine LeO.bind ?_ (fun _ => ?_))
   | exact ih0 _ _ _
   | exact ih1 _ _ _ _
   | exact spec_cdBefore.mono _ _ _ _ _ _ _
   | exact spec_cdCode.mono _ _
   | exact spec_cdWanted.mono _ _
   | exact spec_l1Has.mono _ _ _
   | exact LeO.none _
   | refine LeO.ite ?_ ?_
   | refine LeO.bind ?_ (fun _ => ?_)
set_option maxHeartbeats 8000000 in
set_option maxRecDepth 100000 in
theorem spec_DropDead.calls (k : Nat) (A0 : Option Addr) (c0 : Nat) (l0 : List (S67)) (A1 : Option Addr) (c1 : Nat) (l1 : List Int) (r1 : List (S67)) (r2 : Bool) (w : World) (hr0 : Kd.C k67 w A0 l0.length l0) (hc0 : l0.length ≤ c0) (hr1 : Kd.C (Kd.int .i64) w A1 l1.length l1) (hc1 : l1.length ≤ c1) (h : spec_DropDead.f k l0 l1 = some (r1, r2)) :
  Calls Try.prog 55 #[.slice A0 l0.length c0, .slice A1 l1.length c1] w fun e w' => ∃ v0_ : Value, e = .returned (.tuple #[v0_, .bool r2]) ∧ Kd.R k67 67 w' w.heap.size (fun _ => True) v0_ r1 ∧ Below w.heap.size w w' := by
 have hu67 := Try.underlying67
 have HR0 := zK hr0
 have HC0 := zK hc0
 clear hr0 hc0
 have HR1 := zK hr1
 have HC1 := zK hc1
 clear hr1 hc1
 have HB := zK (Below.refl w.heap.size w)
 have H : ((spec_cdCode.f k l0).bind fun t562 => (if t562 = true then ((spec_cdWanted.f k l1).bind fun t563 => (spec_DropDead.j0 k l0 l1 (!t563))) else (spec_DropDead.j0 k l0 l1 true))) = some (r1, r2) := h
 clear h
 have HC3 := zK H
 clear H
 go_enter Try.func55, Try.ntmps55
 go_upto_region 1 with (fail)
 go_cut [16] (fun v16 wc => ∃ (kq : Nat) (x16_2 : Bool), v16 = .bool x16_2 ∧ Aside0 (spec_DropDead.j0 kq l0 l1 x16_2 = some (r1, r2)) ∧ Aside0 (kq ≤ k) ∧ Aside0 (Below w.heap.size w wc))
 case first =>
  have H := HC3.out
  clear HC3
  replace H := Option.bind_eq_some_iff.mp H
  obtain ⟨t562, A40, H⟩ := H
  replace H : (if t562 = true then ((spec_cdWanted.f k l1).bind fun t563 => (spec_DropDead.j0 k l0 l1 (!t563))) else (spec_DropDead.j0 k l0 l1 true)) = some (r1, r2) := H
  have A4 := zK A40
  clear A40
  by_cases c5 : t562 = true
  ·subst c5
   rw [if_pos rfl] at H
   replace H := Option.bind_eq_some_iff.mp H
   obtain ⟨t563, A60, H⟩ := H
   replace H : (spec_DropDead.j0 k l0 l1 (!t563)) = some (r1, r2) := H
   have A6 := zK A60
   clear A60
   have H' := zK H
   clear H
   go_wp2_with (first | ((with_reducible refine gate_callee (f := 58) rfl ?_); refine goesL_ (some 10) rfl rfl Try.func58 (by kernel_rfl) rfl #[.slice A0 l0.length c0] rfl (by (try simp only [z6, z7, z8]); first | done | rfl | (simp only [z4, z5]; rfl)) ?_; (with_reducible refine (spec_cdCode.calls k _ _ l0 true _ ?side1 ?side2 A4.out).mono ?_); (case side1 => repeat (first | exact (Kd.C_below HR0.out HB.out) | (with_reducible refine Kd.C_alloc ?_ _) | (with_reducible refine Kd.C_drewN ?_ _) | (with_reducible refine Kd.C_drew ?_))); (case side2 => exact HC0.out); rintro e w7 ⟨rfl, hb⟩; refine ⟨_, rfl, ?_⟩; have n0_ := zK (zL (by repeat (first | (with_reducible first | exact HB.out | apply zA | apply zB | apply zC) | exact HB.out)) hb); clear HB; have HB := n0_; clear n0_; (try clear hb); (try clear hb2); (try clear hk); (try clear hi)) | (go_at_call 97; (with_reducible refine (spec_cdWanted.calls k _ _ l1 t563 _ ?side1 ?side2 A6.out).mono ?_); (case side1 => repeat (first | exact (Kd.C_below HR1.out HB.out) | (with_reducible refine Kd.C_alloc ?_ _) | (with_reducible refine Kd.C_drewN ?_ _) | (with_reducible refine Kd.C_drew ?_))); (case side2 => exact HC1.out); rintro e w' ⟨rfl, ⟨nd, rfl⟩⟩))
   go_meet
   case rel => exact ⟨_, (!t563), (by first | rfl | (simp; done) | (simp [*]; done)), H', ⟨by first | omega | exact Nat.le_refl _⟩, ⟨by repeat (first | (with_reducible first | exact HB.out | apply zA | apply zB | apply zC) | exact HB.out)⟩⟩
  ·replace c5 := Bool.eq_false_iff.mpr c5
   subst c5
   rw [if_neg (show ¬ (false = true) by decide)] at H
   have H' := zK H
   clear H
   go_wp2_with (first | ((with_reducible refine gate_callee (f := 58) rfl ?_); refine goesL_ (some 10) rfl rfl Try.func58 (by kernel_rfl) rfl #[.slice A0 l0.length c0] rfl (by (try simp only [z6, z7, z8]); first | done | rfl | (simp only [z4, z5]; rfl)) ?_; (with_reducible refine (spec_cdCode.calls k _ _ l0 false _ ?side1 ?side2 A4.out).mono ?_); (case side1 => repeat (first | exact (Kd.C_below HR0.out HB.out) | (with_reducible refine Kd.C_alloc ?_ _) | (with_reducible refine Kd.C_drewN ?_ _) | (with_reducible refine Kd.C_drew ?_))); (case side2 => exact HC0.out); rintro e w8 ⟨rfl, hb⟩; refine ⟨_, rfl, ?_⟩; have n0_ := zK (zL (by repeat (first | (with_reducible first | exact HB.out | apply zA | apply zB | apply zC) | exact HB.out)) hb); clear HB; have HB := n0_; clear n0_; (try clear hb); (try clear hb2); (try clear hk); (try clear hi)))
   go_meet
   case rel => exact ⟨_, (true), (by first | rfl | (simp; done) | (simp [*]; done)), H', ⟨by first | omega | exact Nat.le_refl _⟩, ⟨by repeat (first | (with_reducible first | exact HB.out | apply zA | apply zB | apply zC) | exact HB.out)⟩⟩
 case rest =>
  clear HC3
  try clear c1
  try clear p2
  try clear c5
  obtain ⟨kq, x16_2, rfl, HA, HJ2, HB⟩ := hcut
  cases kq with
  | zero => exact absurd HA.out (by simp [spec_DropDead.j0])
  | succ kj2 =>
   have H := HA.out
   clear HA
   simp only [spec_DropDead.j0] at H
   by_cases c9 : x16_2 = true
   ·subst c9
    rw [if_pos rfl] at H
    simp only [Option.some.injEq, Prod.mk.injEq] at H
    obtain ⟨rfl, rfl⟩ := H
    go_wp2
    go_ret2
    exact ⟨_, by first | rfl | (simp [errW_none, errW_some] <;> rfl) | (simp [*, errW_none, errW_some] <;> rfl), by first | exact Kd.R_nil _ _ _ _ _ | exact Kd.N_nil _ _ _ _ _ | exact Kd.V_nil _ _ _ _ _ | exact Kd.Q_nil _ _ _ _ _ | exact Kd.S_nil _ _ _ _ _, by repeat (first | (with_reducible first | exact HB.out | apply zA | apply zB | apply zC) | exact HB.out)⟩
   ·replace c9 := Bool.eq_false_iff.mpr c9
    subst c9
    rw [if_neg (show ¬ (false = true) by decide)] at H
    replace H := Option.bind_eq_some_iff.mp H
    obtain ⟨t564, A100, H⟩ := H
    replace H : (spec_DropDead.l0 kj2 l0 ([] : List (S67)) t564 (wrap64 ((l0.length : Int) - 1))) = some (r1, r2) := H
    have A10 := zK A100
    clear A100
    have H' := zK H
    clear H
    go_wp2_with (first | ((with_reducible refine gate_callee (f := 76) rfl ?_); refine goesL_ (some 18) rfl rfl Try.func76 (by kernel_rfl) rfl #[.slice A1 l1.length c1] rfl (by (try simp only [z6, z7, z8]); first | done | rfl | (simp only [z4, z5]; rfl)) ?_; (with_reducible refine (spec_l1Own.calls _ _ l1 t564 _ ?side1 ?side2 A10.out).mono ?_); (case side1 => repeat (first | exact (Kd.C_below HR1.out HB.out) | (with_reducible refine Kd.C_alloc ?_ _) | (with_reducible refine Kd.C_drewN ?_ _) | (with_reducible refine Kd.C_drew ?_))); (case side2 => exact HC1.out); rintro e w11 ⟨v565, rfl, ho0, hb⟩; refine ⟨_, rfl, ?_⟩; have n0_ := zK (Kd.R_lower ho0 (zN (by repeat (first | (with_reducible first | exact HB.out | apply zA | apply zB | apply zC) | exact HB.out)))); have n1_ := zK (zL (by repeat (first | (with_reducible first | exact HB.out | apply zA | apply zB | apply zC) | exact HB.out)) hb); clear HB; have HO566 := n0_; have HB := n1_; clear n0_ n1_; (try clear hb); (try clear hb2); (try clear hk); (try clear hi); (try clear ho0)))
    go_loopg [6, 7, 8] kj2 (fun kq v6 v7 v8 w' => ∃ (x6_2 : List (S67)) (x7_2 : List Int) (x8_2 : Int), v8 = .int .i64 x8_2 ∧ Aside0 (spec_DropDead.l0 kq l0 x6_2 x7_2 x8_2 = some (r1, r2)) ∧ Aside0 (kq ≤ kj2) ∧ Aside0 (Kd.R k67 67 w' w.heap.size (fun _ => True) v6 x6_2) ∧ Aside0 (Kd.R (Kd.int .i64) 3 w' w.heap.size (fun _ => True) v7 x7_2) ∧ Aside0 (Below w.heap.size w w'))
    case atStart => exact ⟨(([] : List (S67))), (t564), (wrap64 ((l0.length : Int) - 1)), (by first | rfl | (simp; done) | (simp [*]; done)), H', ⟨Nat.le_refl _⟩, ⟨by first | exact Kd.R_nil _ _ _ _ _ | exact Kd.N_nil _ _ _ _ _ | exact Kd.V_nil _ _ _ _ _ | exact Kd.Q_nil _ _ _ _ _ | exact Kd.S_nil _ _ _ _ _⟩, ⟨by (with_reducible repeat (first | apply Kd.R_alloc | apply Kd.R_drewN | apply Kd.R_drew)); exact HO566.out⟩, ⟨by repeat (first | (with_reducible first | exact HB.out | apply zA | apply zB | apply zC) | exact HB.out)⟩⟩
    case round =>
     clear H'
     try clear c1
     try clear p2
     try clear c5
     try clear p6
     try clear c7
     try clear c9
     try clear p2
     obtain ⟨x6_2, x7_2, x8_2, rfl, HA, HK2, HO_6, HO_7, HB⟩ := hrel
     cases gk with
     | zero => exact absurd HA.out (by simp [spec_DropDead.l0])
     | succ k2 =>
      have H := HA.out
      clear HA
      simp only [spec_DropDead.l0] at H
      by_cases c12 : x8_2 ≥ 0
      ·rw [if_pos c12] at H
       have c12b0 : decide (0 ≤ x8_2) = true := decide_eq_true c12
       clear c12
       by_cases c13 : 0 ≤ x8_2
       ·rw [if_pos c13] at H
        have c13b0 : decide (0 ≤ x8_2) = true := decide_eq_true c13
        clear c13
        by_cases c14 : x8_2 < (l0.length : Int)
        ·rw [if_pos c14] at H
         have c14b0 : decide (x8_2 < (l0.length : Int)) = true := decide_eq_true c14
         clear c14
         replace H := Option.bind_eq_some_iff.mp H
         obtain ⟨t568, A150, H⟩ := H
         replace H : (if t568 = true then ((some (([(⟨(rd_T67 l0 x8_2).f0, (rd_T67 l0 x8_2).f1, (rd_T67 l0 x8_2).f2, (rd_T67 l0 x8_2).f3, (rd_T67 l0 x8_2).f4⟩ : S67)] : List (S67)) : List (S67))).bind fun y570 => (if y570.length + x6_2.length < 2932031007402 then ((spec_cdBefore.f k2 ((rd_T67 l0 x8_2).f0) ((rd_T67 l0 x8_2).f1) ((rd_T67 l0 x8_2).f2) ((rd_T67 l0 x8_2).f3) ((rd_T67 l0 x8_2).f4) x7_2).bind fun t577 => (spec_DropDead.l0 k2 l0 (y570 ++ x6_2) t577 (wrap64 (x8_2 - 1)))) else (none))) else (spec_DropDead.l0 k2 l0 x6_2 x7_2 (wrap64 (x8_2 - 1)))) = some (r1, r2) := H
         have A15 := zK A150
         clear A150
         by_cases c16 : t568 = true
         ·subst c16
          rw [if_pos rfl] at H
          obtain ⟨y570, hy570⟩ : ∃ y_ : List (S67), y_ = (([(⟨(rd_T67 l0 x8_2).f0, (rd_T67 l0 x8_2).f1, (rd_T67 l0 x8_2).f2, (rd_T67 l0 x8_2).f3, (rd_T67 l0 x8_2).f4⟩ : S67)] : List (S67))) := ⟨_, rfl⟩
          replace H : (if y570.length + x6_2.length < 2932031007402 then ((spec_cdBefore.f k2 ((rd_T67 l0 x8_2).f0) ((rd_T67 l0 x8_2).f1) ((rd_T67 l0 x8_2).f2) ((rd_T67 l0 x8_2).f3) ((rd_T67 l0 x8_2).f4) x7_2).bind fun t577 => (spec_DropDead.l0 k2 l0 (y570 ++ x6_2) t577 (wrap64 (x8_2 - 1)))) else (none)) = some (r1, r2) := by first | (rw [hy570]; with_reducible exact H) | (have H2_ := (Option.bind_some _ _).symm.trans H; rw [hy570]; with_reducible exact H2_) | (have H2_ := (Option.bind_some _ _).symm.trans H; with_reducible exact H2_) | with_reducible exact H | (rw [hy570]; exact H) | exact H
          have Ny570 := zK hy570
          clear hy570
          by_cases c17 : y570.length + x6_2.length < 2932031007402
          ·rw [if_pos c17] at H
           have LMc17 := zK c17
           clear c17
           obtain ⟨y573, hy573⟩ : ∃ y_ : List (S67), y_ = (y570 ++ x6_2) := ⟨_, rfl⟩
           replace H : ((spec_cdBefore.f k2 ((rd_T67 l0 x8_2).f0) ((rd_T67 l0 x8_2).f1) ((rd_T67 l0 x8_2).f2) ((rd_T67 l0 x8_2).f3) ((rd_T67 l0 x8_2).f4) x7_2).bind fun t577 => (spec_DropDead.l0 k2 l0 y573 t577 (wrap64 (x8_2 - 1)))) = some (r1, r2) := by first | (rw [hy573]; with_reducible exact H) | (have H2_ := (Option.bind_some _ _).symm.trans H; rw [hy573]; with_reducible exact H2_) | (have H2_ := (Option.bind_some _ _).symm.trans H; with_reducible exact H2_) | with_reducible exact H | (rw [hy573]; exact H) | exact H
           have Ny573 := zK hy573
           clear hy573
           replace H := Option.bind_eq_some_iff.mp H
           obtain ⟨t577, A180, H⟩ := H
           replace H : (spec_DropDead.l0 k2 l0 y573 t577 (wrap64 (x8_2 - 1))) = some (r1, r2) := H
           have A18 := zK A180
           clear A180
           have H' := zK H
           clear H
           have p567 : 0 ≤ (x8_2 : Int) := zo
           have q567 : x8_2 < (l0.length : Int) := zo
           obtain ⟨ad567, e567, hx567_0, hx567_1, hx567_2, hx567_3, hx567_4⟩ := at_T67 HR0.out x8_2 p567 q567
           cases e567
           replace hx567_0 := zt HB.out hx567_0
           replace hx567_1 := zt HB.out hx567_1
           replace hx567_2 := zt HB.out hx567_2
           replace hx567_3 := zt HB.out hx567_3
           replace hx567_4 := zt HB.out hx567_4
           replace p567 := eq_true p567
           replace q567 := eq_true q567
           obtain ⟨Ao19, co19, eo19⟩ := Kd.R_slice HO_7.out
           subst eo19
           go_wp2_with (first | ((with_reducible refine gate_callee (f := 101) rfl ?_); refine goesL_ (some 32) rfl rfl Try.func101 (by kernel_rfl) rfl #[.slice Ao19 x7_2.length co19, .int .i64 ((rd_T67 l0 x8_2).f1)] rfl (by (try simp only [z6, z7, z8]); first | done | rfl | (simp only [z4, z5]; rfl)) ?_; (with_reducible refine (spec_l1Has.calls k2 _ _ x7_2 ((rd_T67 l0 x8_2).f1) true _ ?side1 ?side2 A15.out).mono ?_); (case side1 => repeat (first | exact (Kd.R_reads' HO_7.out).2.2 | (with_reducible refine Kd.C_alloc ?_ _) | (with_reducible refine Kd.C_drewN ?_ _) | (with_reducible refine Kd.C_drew ?_))); (case side2 => exact (Kd.R_reads' HO_7.out).2.1); rintro e w' ⟨rfl, ⟨nd, rfl⟩⟩; refine ⟨_, rfl, ?_⟩; have p569 : 0 ≤ (x8_2 : Int) := zo; have q569 : x8_2 < (l0.length : Int) := zo; obtain ⟨ad569, e569, hx569_0, hx569_1, hx569_2, hx569_3, hx569_4⟩ := at_T67 HR0.out x8_2 p569 q569; obtain rfl : ad567 = ad569 := (by injection e569); replace hx569_0 := zt HB.out hx569_0; replace hx569_1 := zt HB.out hx569_1; replace hx569_2 := zt HB.out hx569_2; replace hx569_3 := zt HB.out hx569_3; replace hx569_4 := zt HB.out hx569_4; replace p569 := eq_true p569; replace q569 := eq_true q569) | ((with_reducible refine gate_dst (N := 37) rfl ?_); refine Kd.R_lit k67 _ 67 ?hg (N := 37) ?hd (xs := ([(⟨(rd_T67 l0 x8_2).f0, (rd_T67 l0 x8_2).f1, (rd_T67 l0 x8_2).f2, (rd_T67 l0 x8_2).f3, (rd_T67 l0 x8_2).f4⟩ : S67)] : List (S67))) (inner := [.string ((rd_T67 l0 x8_2).f0), .int .i64 ((rd_T67 l0 x8_2).f1), .int .i64 ((rd_T67 l0 x8_2).f2), .int .i64 ((rd_T67 l0 x8_2).f3), .int .i64 ((rd_T67 l0 x8_2).f4)]) (ok := fun _ => True) (okp := fun _ => True) ?hr ?hp (fun _ hk => hk) trivial (Below.refl _ _) (Nat.le_refl _) (by simp) ?_; (case hd => rfl); (case hg => rfl); (case hr => first | (go_simp; done) | (go_simp; rfl)); (case hp => exact (Reps.c5 (show Kd.M k67 _ _ _ (⟨(rd_T67 l0 x8_2).f0, (rd_T67 l0 x8_2).f1, (rd_T67 l0 x8_2).f2, (rd_T67 l0 x8_2).f3, (rd_T67 l0 x8_2).f4⟩ : S67) [.string ((rd_T67 l0 x8_2).f0), .int .i64 ((rd_T67 l0 x8_2).f1), .int .i64 ((rd_T67 l0 x8_2).f2), .int .i64 ((rd_T67 l0 x8_2).f3), .int .i64 ((rd_T67 l0 x8_2).f4)] from (k67_mkM _ _ _ (⟨(rd_T67 l0 x8_2).f0, (rd_T67 l0 x8_2).f1, (rd_T67 l0 x8_2).f2, (rd_T67 l0 x8_2).f3, (rd_T67 l0 x8_2).f4⟩ : S67) )) (Reps.none _ _))); intro v571 w20 ho21 hb hg_ hnew_; clear hg_ hnew_; (first | rw [← Ny570.out] at ho21 | (simp only [Int.reduceToNat] at ho21; rw [← Ny570.out] at ho21)); have n0_ := zK (Kd.R_elder' (by (with_reducible repeat (first | apply Kd.R_alloc | apply Kd.R_drewN | apply Kd.R_drew)); exact HO_6.out) (Kd.R_base ho21) hb); have n1_ := zK (Kd.R_below (by (with_reducible repeat (first | apply Kd.R_alloc | apply Kd.R_drewN | apply Kd.R_drew)); exact HO_7.out) hb); have n2_ := zK (Kd.R_lower (Kd.R_new' ho21 (Kd.R_lt (by (with_reducible repeat (first | apply Kd.R_alloc | apply Kd.R_drewN | apply Kd.R_drew)); exact HO_6.out))) (zN (by repeat (first | (with_reducible first | exact HB.out | apply zA | apply zB | apply zC) | exact HB.out)))); have n3_ := zK (zL (by repeat (first | (with_reducible first | exact HB.out | apply zA | apply zB | apply zC) | exact HB.out)) hb); clear HO_6; clear HO_7; clear HB; have HO_6 := n0_; have HO_7 := n1_; have HO572 := n2_; have HB := n3_; clear n0_ n1_ n2_ n3_; clear hb ho21; obtain ⟨Ao23, co23, eo23⟩ := Kd.R_slice HO_6.out; subst eo23) | ((with_reducible refine gate_builtin (b := .append) (xs := #[.tmp 37, .tmp 38]) rfl ?_); at_builtin; refine Kd.R_append_rows k67 (w0 := w) w.heap.size rfl (.tmp 37) (.tmp 38) 24 67 (.agg #[(.string ⟨#[]⟩), (.int .i64 0), (.int .i64 0), (.int .i64 0), (.int .i64 0)]) 48 rfl Try.underlying24 info67 rfl (by decide) (by omega) v571 y570 x6_2 _ _ _ (fun k_ => some k_ ≠ (.slice Ao23 x6_2.length co23 : Value).ownBlock) (fun _ => False) rfl rfl ?aO ?aR (fun _ _ h => h) (fun _ h => h.elim) ?aF ?aB ?aS ?aL ?_; (case aR => repeat (first | exact (Kd.R_reads' HO_6.out).2.2 | (with_reducible refine Kd.C_alloc ?_ _) | (with_reducible refine Kd.C_drewN ?_ _) | (with_reducible refine Kd.C_drew ?_))); (case aB => exact (by repeat (first | (with_reducible first | exact HB.out | apply zA | apply zB | apply zC) | exact HB.out))); (case aF => exact (fun k_ hk => Kd.fresh' (Kd.R_lt (by (with_reducible repeat (first | apply Kd.R_alloc | apply Kd.R_drewN | apply Kd.R_drew)); exact HO_6.out)) k_ hk)); (case aO => exact (by (with_reducible repeat (first | apply Kd.R_alloc | apply Kd.R_drewN | apply Kd.R_drew)); exact Kd.R_mono HO572.out (fun _ hk => hk.2))); (case aS => exact (zN (by repeat (first | (with_reducible first | exact HB.out | apply zA | apply zB | apply zC) | exact HB.out)))); (case aL => have := LMc17.out; omega); intro v574 w22 ho hb hg hat; rw [← Ny573.out] at ho; have n0_ := zK (Kd.R_after (ok := (fun _ => True)) (by (with_reducible repeat (first | apply Kd.R_alloc | apply Kd.R_drewN | apply Kd.R_drew)); exact HO_6.out) hg hat); have n1_ := zK (Kd.R_over' (by (with_reducible repeat (first | apply Kd.R_alloc | apply Kd.R_drewN | apply Kd.R_drew)); exact HO_7.out) (Kd.R_typed (by (with_reducible repeat (first | apply Kd.R_alloc | apply Kd.R_drewN | apply Kd.R_drew)); exact HO572.out)) (by decide) hg); have n2_ := zK (hb); have n3_ := zK (ho); clear HO_6; clear HO_7; clear HB; clear HO572; have HO_6 := n0_; have HO_7 := n1_; have HB := n2_; have HO575 := n3_; clear n0_ n1_ n2_ n3_; clear ho hb hg hat; have p576 : 0 ≤ (x8_2 : Int) := zo; have q576 : x8_2 < (l0.length : Int) := zo; obtain ⟨ad576, e576, hx576_0, hx576_1, hx576_2, hx576_3, hx576_4⟩ := at_T67 HR0.out x8_2 p576 q576; obtain rfl : ad567 = ad576 := (by injection e576); replace hx576_0 := zt HB.out hx576_0; replace hx576_1 := zt HB.out hx576_1; replace hx576_2 := zt HB.out hx576_2; replace hx576_3 := zt HB.out hx576_3; replace hx576_4 := zt HB.out hx576_4; replace p576 := eq_true p576; replace q576 := eq_true q576) | ((with_reducible refine gate_callee (f := 102) rfl ?_); refine goesL_ (some 45) rfl rfl Try.func102 (by kernel_rfl) rfl #[.agg #[.string ((rd_T67 l0 x8_2).f0), .int .i64 ((rd_T67 l0 x8_2).f1), .int .i64 ((rd_T67 l0 x8_2).f2), .int .i64 ((rd_T67 l0 x8_2).f3), .int .i64 ((rd_T67 l0 x8_2).f4)], .slice Ao19 x7_2.length co19] rfl (by (try simp only [z6, z7, z8]); first | done | rfl | (simp only [z4, z5]; rfl)) ?_; (with_reducible refine (spec_cdBefore.calls k2 ((rd_T67 l0 x8_2).f0) ((rd_T67 l0 x8_2).f1) ((rd_T67 l0 x8_2).f2) ((rd_T67 l0 x8_2).f3) ((rd_T67 l0 x8_2).f4) _ _ x7_2 t577 _ ?side1 ?side2 A18.out).mono ?_); (case side1 => repeat (first | exact (Kd.R_reads' HO_7.out).2.2 | (with_reducible refine Kd.C_alloc ?_ _) | (with_reducible refine Kd.C_drewN ?_ _) | (with_reducible refine Kd.C_drew ?_))); (case side2 => exact (Kd.R_reads' HO_7.out).2.1); rintro e w24 ⟨v578, rfl, ho0, hb⟩; refine ⟨_, rfl, ?_⟩; have n0_ := zK (Kd.R_below (by (with_reducible repeat (first | apply Kd.R_alloc | apply Kd.R_drewN | apply Kd.R_drew)); exact HO_6.out) hb); have n1_ := zK (Kd.R_elder' (by (with_reducible repeat (first | apply Kd.R_alloc | apply Kd.R_drewN | apply Kd.R_drew)); exact HO_7.out) (Kd.R_base ho0) hb); have n2_ := zK (Kd.R_below (by (with_reducible repeat (first | apply Kd.R_alloc | apply Kd.R_drewN | apply Kd.R_drew)); exact HO575.out) hb); have n3_ := zK (Kd.R_lower (Kd.R_new' ho0 (Kd.R_lt (by (with_reducible repeat (first | apply Kd.R_alloc | apply Kd.R_drewN | apply Kd.R_drew)); exact HO_7.out))) (zN (by repeat (first | (with_reducible first | exact HB.out | apply zA | apply zB | apply zC) | exact HB.out)))); have n4_ := zK (zL (by repeat (first | (with_reducible first | exact HB.out | apply zA | apply zB | apply zC) | exact HB.out)) hb); clear HO_6; clear HO_7; clear HO575; clear HB; have HO_6 := n0_; have HO_7 := n1_; have HO575 := n2_; have HO579 := n3_; have HB := n4_; clear n0_ n1_ n2_ n3_ n4_; (try clear hb); (try clear hb2); (try clear hk); (try clear hi); (try clear ho0)))
           go_roundg k2
           case measure => have := HJ2.out; have := HK2.out; omega
           case rel => exact ⟨(y573), (t577), (wrap64 (x8_2 - 1)), (by first | rfl | (simp; done) | (simp [*]; done)), H', ⟨by have := HJ2.out; have := HK2.out; omega⟩, ⟨by (with_reducible repeat (first | apply Kd.R_alloc | apply Kd.R_drewN | apply Kd.R_drew)); exact Kd.R_mono HO575.out (fun _ hk => trivial)⟩, ⟨by (with_reducible repeat (first | apply Kd.R_alloc | apply Kd.R_drewN | apply Kd.R_drew)); exact Kd.R_mono HO579.out (fun _ hk => trivial)⟩, ⟨by repeat (first | (with_reducible first | exact HB.out | apply zA | apply zB | apply zC) | exact HB.out)⟩⟩
          ·rw [if_neg c17] at H
           exact absurd H (by simp)
         ·replace c16 := Bool.eq_false_iff.mpr c16
          subst c16
          rw [if_neg (show ¬ (false = true) by decide)] at H
          have H' := zK H
          clear H
          have p567 : 0 ≤ (x8_2 : Int) := zo
          have q567 : x8_2 < (l0.length : Int) := zo
          obtain ⟨ad567, e567, hx567_0, hx567_1, hx567_2, hx567_3, hx567_4⟩ := at_T67 HR0.out x8_2 p567 q567
          cases e567
          replace hx567_0 := zt HB.out hx567_0
          replace hx567_1 := zt HB.out hx567_1
          replace hx567_2 := zt HB.out hx567_2
          replace hx567_3 := zt HB.out hx567_3
          replace hx567_4 := zt HB.out hx567_4
          replace p567 := eq_true p567
          replace q567 := eq_true q567
          obtain ⟨Ao25, co25, eo25⟩ := Kd.R_slice HO_7.out
          subst eo25
          go_wp2_with (first | ((with_reducible refine gate_callee (f := 101) rfl ?_); refine goesL_ (some 32) rfl rfl Try.func101 (by kernel_rfl) rfl #[.slice Ao25 x7_2.length co25, .int .i64 ((rd_T67 l0 x8_2).f1)] rfl (by (try simp only [z6, z7, z8]); first | done | rfl | (simp only [z4, z5]; rfl)) ?_; (with_reducible refine (spec_l1Has.calls k2 _ _ x7_2 ((rd_T67 l0 x8_2).f1) false _ ?side1 ?side2 A15.out).mono ?_); (case side1 => repeat (first | exact (Kd.R_reads' HO_7.out).2.2 | (with_reducible refine Kd.C_alloc ?_ _) | (with_reducible refine Kd.C_drewN ?_ _) | (with_reducible refine Kd.C_drew ?_))); (case side2 => exact (Kd.R_reads' HO_7.out).2.1); rintro e w' ⟨rfl, ⟨nd, rfl⟩⟩; refine ⟨_, rfl, ?_⟩))
          go_roundg k2
          case measure => have := HJ2.out; have := HK2.out; omega
          case rel => exact ⟨(x6_2), (x7_2), (wrap64 (x8_2 - 1)), (by first | rfl | (simp; done) | (simp [*]; done)), H', ⟨by have := HJ2.out; have := HK2.out; omega⟩, ⟨by (with_reducible repeat (first | apply Kd.R_alloc | apply Kd.R_drewN | apply Kd.R_drew)); exact HO_6.out⟩, ⟨by (with_reducible repeat (first | apply Kd.R_alloc | apply Kd.R_drewN | apply Kd.R_drew)); exact HO_7.out⟩, ⟨by repeat (first | (with_reducible first | exact HB.out | apply zA | apply zB | apply zC) | exact HB.out)⟩⟩
        ·rw [if_neg c14] at H
         exact absurd H (by simp)
       ·rw [if_neg c13] at H
        exact absurd H (by simp)
      ·rw [if_neg c12] at H
       have c12b0 : decide (0 ≤ x8_2) = false := decide_eq_false c12
       clear c12
       simp only [Option.some.injEq, Prod.mk.injEq] at H
       obtain ⟨rfl, rfl⟩ := H
       go_wp2
       go_ret2
       exact ⟨_, by first | rfl | (simp [errW_none, errW_some] <;> rfl) | (simp [*, errW_none, errW_some] <;> rfl), by (with_reducible repeat (first | apply Kd.R_alloc | apply Kd.R_drewN | apply Kd.R_drew)); exact HO_6.out, by repeat (first | (with_reducible first | exact HB.out | apply zA | apply zB | apply zC) | exact HB.out)⟩

/-! ### slices_Index_int_int: function 152 -/
def slices_Index_int_int.l0 : Nat → List Int → Int → Int → Int → Option (Int)
 | 0, _, _, _, _ => none
 | k + 1, x0, x1, x7, x8 => if x8 < x7 then (if 0 ≤ x8 then (if x8 < (x0.length : Int) then (if x1 = (rd x0 x8) then (some x8) else (slices_Index_int_int.l0 k x0 x1 x7 (wrap64 (x8 + 1)))) else (none)) else (none)) else (some (-1))
def slices_Index_int_int.f (k : Nat) (l0 : List Int) (a1 : Int) : Option (Int) := slices_Index_int_int.l0 k l0 a1 (l0.length : Int) 0
theorem slices_Index_int_int.mono_l : ∀ k, (∀ y0 y1 y2 y3, LeO (slices_Index_int_int.l0 k y0 y1 y2 y3) (slices_Index_int_int.l0 (k + 1) y0 y1 y2 y3))
 | 0 => fun _ _ _ _ r h => by simp [slices_Index_int_int.l0] at h
 | k + 1 => by
  have ih0 := slices_Index_int_int.mono_l k
  ·intro y0 y1 y2 y3
   unfold slices_Index_int_int.l0
   repeat' first
   | (with_reducible exact ih0 _ _ _ _)
   | (with_reducible exact LeO.refl _)
   | (with_reducible exact LeO.none _)
   | (with_reducible refine LeO.ite ?_ ?_)
   | (with_reducible refine LeO.bind ?_ (fun _ => ?_))
   | exact ih0 _ _ _ _
   | exact LeO.none _
   | refine LeO.ite ?_ ?_
   | refine LeO.bind ?_ (fun _ => ?_)
theorem slices_Index_int_int.mono : ∀ a0 a1 k, LeO (slices_Index_int_int.f k a0 a1) (slices_Index_int_int.f (k + 1) a0 a1) := by
 intro a0 a1 k
 have ih0 := slices_Index_int_int.mono_l k
 unfold slices_Index_int_int.f
 repeat' first
   | (with_reducible exact ih0 _ _ _ _)
   | (with_reducible exact LeO.refl _)
   | (with_reducible exact LeO.none _)
   | (with_reducible refine LeO.ite ?_ ?_)
   | (with_reducible refine LeO.bind ?_ (fun _ => ?_))
   | exact ih0 _ _ _ _
   | exact LeO.none _
   | refine LeO.ite ?_ ?_
   | refine LeO.bind ?_ (fun _ => ?_)
set_option maxHeartbeats 8000000 in
set_option maxRecDepth 100000 in
theorem slices_Index_int_int.calls (k : Nat) (A0 : Option Addr) (c0 : Nat) (l0 : List Int) (a1 : Int) (r : Int) (w : World) (hr0 : Kd.C (Kd.int .i64) w A0 l0.length l0) (hc0 : l0.length ≤ c0) (h : slices_Index_int_int.f k l0 a1 = some r) :
  Calls Try.prog 152 #[.slice A0 l0.length c0, .int .i64 a1] w fun e w' => e = .returned (.int .i64 r) ∧ Drawn0 w w' := by
 have HR0 := zK hr0
 have HC0 := zK hc0
 clear hr0 hc0
 have H : (slices_Index_int_int.l0 k l0 a1 (l0.length : Int) 0) = some r := h
 clear h
 have H' := zK H
 clear H
 go_enter Try.func152, Try.ntmps152
 go_wp2
 go_loopg [8] k (fun kq v8 w' => ∃ (x8_1 : Int), v8 = .int .i64 x8_1 ∧ Aside0 (slices_Index_int_int.l0 kq l0 a1 (l0.length : Int) x8_1 = some r) ∧ Aside0 (kq ≤ k) ∧ Drawn0 w w')
 case atStart => exact ⟨(0), (by first | rfl | (simp; done) | (simp [*]; done)), H', ⟨Nat.le_refl _⟩, by repeat (first | exact Drawn0.refl _ | apply Drawn0.step)⟩
 case round =>
  clear H'
  try clear c1
  try clear p2
  obtain ⟨x8_1, rfl, HA, HK1, ⟨m1, rfl⟩⟩ := hrel
  cases gk with
  | zero => exact absurd HA.out (by simp [slices_Index_int_int.l0])
  | succ k1 =>
   have H := HA.out
   clear HA
   simp only [slices_Index_int_int.l0] at H
   by_cases c3 : x8_1 < (l0.length : Int)
   ·rw [if_pos c3] at H
    have c3b0 : decide (x8_1 < (l0.length : Int)) = true := decide_eq_true c3
    clear c3
    by_cases c4 : 0 ≤ x8_1
    ·rw [if_pos c4] at H
     have c4b0 : decide (0 ≤ x8_1) = true := decide_eq_true c4
     clear c4
     by_cases c5 : x8_1 < (l0.length : Int)
     ·rw [if_pos c5] at H
      have c5b0 : decide (x8_1 < (l0.length : Int)) = true := decide_eq_true c5
      clear c5
      by_cases c6 : a1 = (rd l0 x8_1)
      ·rw [if_pos c6] at H
       have c6b0 : (a1 == (rd l0 x8_1)) = true := beq_iff_eq.mpr c6
       have c6b1 : (a1 != (rd l0 x8_1)) = false := bne_eq_false_iff_eq.mpr c6
       clear c6
       obtain rfl := Option.some.inj H
       have p580 : 0 ≤ (x8_1 : Int) := zo
       have q580 : x8_1 < (l0.length : Int) := zo
       obtain ⟨ad580, e580, hx580_0⟩ := Kd.at_int HR0.out x8_1 p580 q580
       cases e580
       replace p580 := eq_true p580
       replace q580 := eq_true q580
       go_wp2
       go_ret
       exact ⟨by first | rfl | (simp; done) | (simp [*]; done), by repeat (first | exact Drawn0.refl _ | apply Drawn0.step)⟩
      ·rw [if_neg c6] at H
       have c6b0 : (a1 == (rd l0 x8_1)) = false := beq_eq_false_iff_ne.mpr c6
       have c6b1 : (a1 != (rd l0 x8_1)) = true := bne_iff_ne.mpr c6
       have H' := zK H
       clear H
       have p580 : 0 ≤ (x8_1 : Int) := zo
       have q580 : x8_1 < (l0.length : Int) := zo
       obtain ⟨ad580, e580, hx580_0⟩ := Kd.at_int HR0.out x8_1 p580 q580
       cases e580
       replace p580 := eq_true p580
       replace q580 := eq_true q580
       go_wp2
       go_roundg k1
       case measure => have := HK1.out; omega
       case rel => exact ⟨(wrap64 (x8_1 + 1)), (by first | rfl | (simp; done) | (simp [*]; done)), H', ⟨by have := HK1.out; omega⟩, by repeat (first | exact Drawn0.refl _ | apply Drawn0.step)⟩
     ·rw [if_neg c5] at H
      exact absurd H (by simp)
    ·rw [if_neg c4] at H
     exact absurd H (by simp)
   ·rw [if_neg c3] at H
    have c3b0 : decide (x8_1 < (l0.length : Int)) = false := decide_eq_false c3
    clear c3
    obtain rfl := Option.some.inj H
    go_wp2
    go_ret
    exact ⟨by first | rfl | (simp; done) | (simp [*]; done), by repeat (first | exact Drawn0.refl _ | apply Drawn0.step)⟩

/-! ### slices_Contains_int_int: function 104 -/
def slices_Contains_int_int.f (k : Nat) (l0 : List Int) (a1 : Int) : Option (Bool) := (slices_Index_int_int.f k l0 a1).bind fun t581 => (some (decide (t581 ≥ 0)))
theorem slices_Contains_int_int.mono : ∀ a0 a1 k, LeO (slices_Contains_int_int.f k a0 a1) (slices_Contains_int_int.f (k + 1) a0 a1) := by
 intro a0 a1 k
 unfold slices_Contains_int_int.f
 repeat' first
   | (with_reducible exact slices_Index_int_int.mono _ _ _)
   | (with_reducible exact LeO.refl _)
   | (with_reducible exact LeO.none _)
   | (with_reducible refine LeO.ite ?_ ?_)
   | (with_reducible refine LeO.bind ?_ (fun _ => ?_))
   | exact slices_Index_int_int.mono _ _ _
   | exact LeO.none _
   | refine LeO.ite ?_ ?_
   | refine LeO.bind ?_ (fun _ => ?_)
set_option maxHeartbeats 8000000 in
set_option maxRecDepth 100000 in
theorem slices_Contains_int_int.calls (k : Nat) (A0 : Option Addr) (c0 : Nat) (l0 : List Int) (a1 : Int) (r : Bool) (w : World) (hr0 : Kd.C (Kd.int .i64) w A0 l0.length l0) (hc0 : l0.length ≤ c0) (h : slices_Contains_int_int.f k l0 a1 = some r) :
  Calls Try.prog 104 #[.slice A0 l0.length c0, .int .i64 a1] w fun e w' => e = .returned (.bool r) ∧ Drawn0 w w' := by
 have HR0 := zK hr0
 have HC0 := zK hc0
 clear hr0 hc0
 have H : ((slices_Index_int_int.f k l0 a1).bind fun t581 => (some (decide (t581 ≥ 0)))) = some r := h
 clear h
 replace H := Option.bind_eq_some_iff.mp H
 obtain ⟨t581, A30, H⟩ := H
 replace H : (some (decide (t581 ≥ 0))) = some r := H
 have A3 := zK A30
 clear A30
 obtain rfl := Option.some.inj H
 go_enter Try.func104, Try.ntmps104
 go_wp2_with (first | ((with_reducible refine gate_callee (f := 152) rfl ?_); refine goesL_ (some 7) rfl rfl Try.func152 (by kernel_rfl) rfl #[.slice A0 l0.length c0, .int .i64 a1] rfl (by (try simp only [z6, z7, z8]); first | done | rfl | (simp only [z4, z5]; rfl)) ?_; (with_reducible refine (slices_Index_int_int.calls k _ _ l0 a1 t581 _ ?side1 ?side2 A3.out).mono ?_); (case side1 => repeat (first | exact HR0.out | (with_reducible refine Kd.C_alloc ?_ _) | (with_reducible refine Kd.C_drewN ?_ _) | (with_reducible refine Kd.C_drew ?_))); (case side2 => exact HC0.out); rintro e w' ⟨rfl, ⟨nd, rfl⟩⟩; refine ⟨_, rfl, ?_⟩))
 go_ret
 exact ⟨by first | rfl | (simp; done) | (simp [*]; done), by repeat (first | exact Drawn0.refl _ | apply Drawn0.step)⟩

end Go.Proofs.Ytecmlikhmkcdpaa.G
