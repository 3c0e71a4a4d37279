/- Contracts: spec_exGood, spec_l1Cur_one, spec_l1Cur_word, spec_l1Cur_leaf, spec_l1Cur_expr. -/
import Derived.Test.YtlcplhcccgbmnaaDK
import Derived.Test.YtlcplhcccgbmnaaDSpecL1CurNext
namespace Go.Proofs.Ytlcplhcccgbmnaa.D
open Go.RowKit Go.Proofs.YtlcplhcccgbmnaaW.PrintWords Go.Proofs.YtlcplhcccgbmnaaW.PrintLast Go.Proofs.YtlcplhcccgbmnaaW.PrintMore
attribute [local go_sem] max2_int min2_int max_two min_two max_three min_three max_four min_four   -- for this text's walks alone
set_option linter.unusedVariables false
set_option linter.unusedSimpArgs false

/-! ### spec_exGood: function 60 -/
def spec_exGood.l0 : Nat → List (S47) → List (S47) → Int → Int → Option (Bool)
 | 0, _, _, _, _ => none
 | k + 1, x0, x9, x10, x11 => if x11 < x10 then (if 0 ≤ x11 then (if x11 < (x9.length : Int) then ((spec_exNode.f k ((rd_T47 x9 x11).f0) ((rd_T47 x9 x11).f1) ((rd_T47 x9 x11).f2) ((rd_T47 x9 x11).f3) x11).bind fun t253 => (if t253 = true then (spec_exGood.l0 k x0 x9 x10 (wrap64 (x11 + 1))) else (some false))) else (none)) else (none)) else ((spec_exUses.f k x0).bind fun t254 => (if 0 ≤ (wrap64 ((x0.length : Int) - 1)) then (if (wrap64 ((x0.length : Int) - 1)) ≤ (t254.length : Int) then ((spec_l1Has.f k (t254.take ((wrap64 ((x0.length : Int) - 1)) : Int).toNat) 0).bind fun t261 => (some (!t261))) else (none)) else (none)))
def spec_exGood.f (k : Nat) (l0 : List (S47)) : Option (Bool) := (spec_l1In.f (l0.length : Int) 1 24).bind fun t250 => (if t250 = true then (spec_exGood.l0 k l0 l0 (l0.length : Int) 0) else (some false))
set_option maxHeartbeats 8000000 in
set_option maxRecDepth 100000 in
theorem spec_exGood.calls (k : Nat) (A0 : Option Addr) (c0 : Nat) (l0 : List (S47)) (r : Bool) (w : World) (hr0 : Kd.C k47 w A0 l0.length l0) (hc0 : l0.length ≤ c0) (h : spec_exGood.f k l0 = some r) :
  Calls Try.prog 60 #[.slice A0 l0.length c0] w fun e w' => e = .returned (.bool r) ∧ Below w.heap.size w w' := by
 have hu47 := Try.underlying47
 have HR0 := zK hr0
 have HC0 := zK hc0
 clear hr0 hc0
 have HB := zK (Below.refl w.heap.size w)
 have H : ((spec_l1In.f (l0.length : Int) 1 24).bind fun t250 => (if t250 = true then (spec_exGood.l0 k l0 l0 (l0.length : Int) 0) else (some false))) = some r := h
 clear h
 replace H := Option.bind_eq_some_iff.mp H
 obtain ⟨t250, A20, H⟩ := H
 replace H : (if t250 = true then (spec_exGood.l0 k l0 l0 (l0.length : Int) 0) else (some false)) = some r := H
 have A2 := zK A20
 clear A20
 by_cases c3 : t250 = true
 ·subst c3
  rw [if_pos rfl] at H
  have H' := zK H
  clear H
  go_enter Try.func60, Try.ntmps60
  go_wp2_with (first | ((with_reducible refine gate_callee (f := 61) rfl ?_); refine goesL_ (some 7) rfl rfl Try.func61 yi rfl #[.int .i64 (l0.length : Int), .int .i64 1, .int .i64 24] rfl yb ?_; (with_reducible refine (spec_l1In.calls (l0.length : Int) 1 24 true _ A2.out).mono ?_); rintro e w' ⟨rfl, ⟨nd, rfl⟩⟩; refine ⟨_, rfl, ?_⟩))
  go_loopg [11] k (fun kq v11 w' => ∃ (x11_1 : Int), v11 = .int .i64 x11_1 ∧ Aside0 (spec_exGood.l0 kq l0 l0 (l0.length : Int) x11_1 = some r) ∧ Aside0 (kq ≤ k) ∧ Aside0 (Below w.heap.size w w'))
  case atStart => exact ⟨(0), ye, H', ⟨Nat.le_refl _⟩, ⟨ya⟩⟩
  case round =>
   clear H'
   try clear p2
   try clear c3
   obtain ⟨x11_1, rfl, HA, HK1, HB⟩ := hrel
   cases gk with
   | zero => exact absurd HA.out (by simp [spec_exGood.l0])
   | succ k1 =>
    have H := HA.out
    clear HA
    simp only [spec_exGood.l0] at H
    by_cases c4 : x11_1 < (l0.length : Int)
    ·rw [if_pos c4] at H
     have c4b0 : decide (x11_1 < (l0.length : Int)) = true := decide_eq_true c4
     clear c4
     by_cases c5 : 0 ≤ x11_1
     ·rw [if_pos c5] at H
      have c5b0 : decide (0 ≤ x11_1) = true := decide_eq_true c5
      clear c5
      by_cases c6 : x11_1 < (l0.length : Int)
      ·rw [if_pos c6] at H
       have c6b0 : decide (x11_1 < (l0.length : Int)) = true := decide_eq_true c6
       clear c6
       replace H := Option.bind_eq_some_iff.mp H
       obtain ⟨t253, A70, H⟩ := H
       replace H : (if t253 = true then (spec_exGood.l0 k1 l0 l0 (l0.length : Int) (wrap64 (x11_1 + 1))) else (some false)) = some r := H
       have A7 := zK A70
       clear A70
       by_cases c8 : t253 = true
       ·subst c8
        rw [if_pos rfl] at H
        have H' := zK H
        clear H
        have p251 : 0 ≤ (x11_1 : Int) := zo
        have q251 : x11_1 < (l0.length : Int) := zo
        obtain ⟨ad251, e251, hx251_0, hx251_1, hx251_2, hx251_3⟩ := at_T47 HR0.out x11_1 p251 q251
        cases e251
        replace hx251_0 := zt HB.out hx251_0
        replace hx251_1 := zt HB.out hx251_1
        replace hx251_2 := zt HB.out hx251_2
        replace hx251_3 := zt HB.out hx251_3
        replace p251 := eq_true p251
        replace q251 := eq_true q251
        go_wp2_with (first | ((with_reducible refine gate_dst (N := 4) rfl ?_); refine box_event ?hg (N := 4) ?hd (cs := #[.string (⟨#[]⟩ : ByteArray), .int .i64 0, .int .i64 0, .int .i64 0]) (t := 47) ?hr ?_; (case hd | hg => rfl); (case hr => exact xxa); intro gb252 hg w9 hbox hb; have n0_ := zK (zL ya hb); have n1_ := zK (hbox); have n2_ := zK ((by rw [hg]; exact (zN ya) : w.heap.size ≤ gb252)); have n3_ := n2_; clear HB; have HB := n0_; have BK252 := n1_; have GW252 := n2_; have GE252 := n3_; clear n0_ n1_ n2_ n3_; clear hb hbox hg; have hcz10_0 : w9.cell? ⟨gb252, 0, none⟩ = some (.string (⟨#[]⟩ : ByteArray)) := (zI BK252.out 0).trans rfl; have hcz10_1 : w9.cell? ⟨gb252, 1, none⟩ = some (.int .i64 0) := (zI BK252.out 1).trans rfl; have hcz10_2 : w9.cell? ⟨gb252, 2, none⟩ = some (.int .i64 0) := (zI BK252.out 2).trans rfl; have hcz10_3 : w9.cell? ⟨gb252, 3, none⟩ = some (.int .i64 0) := (zI BK252.out 3).trans rfl; have hfz10_0 := zH BK252.out 0; have hfz10_1 := zH BK252.out 1; have hfz10_2 := zH BK252.out 2; have hfz10_3 := zH BK252.out 3) | ((with_reducible refine gate_callee (f := 111) rfl ?_); refine goesL_ (some 18) rfl rfl Try.func111 yi rfl #[.agg #[.string ((rd_T47 l0 x11_1).f0), .int .i64 ((rd_T47 l0 x11_1).f1), .int .i64 ((rd_T47 l0 x11_1).f2), .int .i64 ((rd_T47 l0 x11_1).f3)], .int .i64 x11_1] rfl yb ?_; (with_reducible refine (spec_exNode.calls k1 ((rd_T47 l0 x11_1).f0) ((rd_T47 l0 x11_1).f1) ((rd_T47 l0 x11_1).f2) ((rd_T47 l0 x11_1).f3) x11_1 true _ A7.out).mono ?_); rintro e w11 ⟨rfl, hb⟩; refine ⟨_, rfl, ?_⟩; have n0_ := zK (zM (g := gb252) (o := .cells #[.string ((rd_T47 l0 x11_1).f0), .int .i64 ((rd_T47 l0 x11_1).f1), .int .i64 ((rd_T47 l0 x11_1).f2), .int .i64 ((rd_T47 l0 x11_1).f3)] 47 (0, 0)) (by (with_reducible repeat (first | refine zE ?_ _ | refine zF ?_ | refine zG ?_ _)); refine blk_put (cs := #[.string ((rd_T47 l0 x11_1).f0), .int .i64 ((rd_T47 l0 x11_1).f1), .int .i64 ((rd_T47 l0 x11_1).f2), .int .i64 0]) ?_ 3 _ rfl; (with_reducible repeat (first | refine zE ?_ _ | refine zF ?_ | refine zG ?_ _)); refine blk_put (cs := #[.string ((rd_T47 l0 x11_1).f0), .int .i64 ((rd_T47 l0 x11_1).f1), .int .i64 0, .int .i64 0]) ?_ 2 _ rfl; (with_reducible repeat (first | refine zE ?_ _ | refine zF ?_ | refine zG ?_ _)); refine blk_put (cs := #[.string ((rd_T47 l0 x11_1).f0), .int .i64 0, .int .i64 0, .int .i64 0]) ?_ 1 _ rfl; (with_reducible repeat (first | refine zE ?_ _ | refine zF ?_ | refine zG ?_ _)); refine blk_put (cs := #[.string (⟨#[]⟩ : ByteArray), .int .i64 0, .int .i64 0, .int .i64 0]) ?_ 0 _ rfl; (with_reducible repeat (first | refine zE ?_ _ | refine zF ?_ | refine zG ?_ _)); exact BK252.out) hb); have n1_ := zK (zL (by repeat (first | (with_reducible first | exact HB.out | apply zA | apply zB | apply zC | refine zD ?_ GE252.out) | exact HB.out)) hb); clear BK252; clear HB; have BK252 := n0_; have HB := n1_; clear n0_ n1_; (try clear hb); (try clear hb2); (try clear hk); (try clear hi)))
        go_roundg k1
        case measure => have := HK1.out; omega
        case rel => exact ⟨(wrap64 (x11_1 + 1)), ye, H', ⟨yb2⟩, ⟨by repeat (first | (with_reducible first | exact HB.out | apply zA | apply zB | apply zC | refine zD ?_ GE252.out) | exact HB.out)⟩⟩
       ·replace c8 := Bool.eq_false_iff.mpr c8
        subst c8
        rw [if_neg (show ¬ (false = true) by decide)] at H
        obtain rfl := Option.some.inj H
        have p251 : 0 ≤ (x11_1 : Int) := zo
        have q251 : x11_1 < (l0.length : Int) := zo
        obtain ⟨ad251, e251, hx251_0, hx251_1, hx251_2, hx251_3⟩ := at_T47 HR0.out x11_1 p251 q251
        cases e251
        replace hx251_0 := zt HB.out hx251_0
        replace hx251_1 := zt HB.out hx251_1
        replace hx251_2 := zt HB.out hx251_2
        replace hx251_3 := zt HB.out hx251_3
        replace p251 := eq_true p251
        replace q251 := eq_true q251
        go_wp2_with (first | ((with_reducible refine gate_dst (N := 4) rfl ?_); refine box_event ?hg (N := 4) ?hd (cs := #[.string (⟨#[]⟩ : ByteArray), .int .i64 0, .int .i64 0, .int .i64 0]) (t := 47) ?hr ?_; (case hd | hg => rfl); (case hr => exact xxa); intro gb252 hg w12 hbox hb; have n0_ := zK (zL ya hb); have n1_ := zK (hbox); have n2_ := zK ((by rw [hg]; exact (zN ya) : w.heap.size ≤ gb252)); have n3_ := n2_; clear HB; have HB := n0_; have BK252 := n1_; have GW252 := n2_; have GE252 := n3_; clear n0_ n1_ n2_ n3_; clear hb hbox hg; have hcz13_0 : w12.cell? ⟨gb252, 0, none⟩ = some (.string (⟨#[]⟩ : ByteArray)) := (zI BK252.out 0).trans rfl; have hcz13_1 : w12.cell? ⟨gb252, 1, none⟩ = some (.int .i64 0) := (zI BK252.out 1).trans rfl; have hcz13_2 : w12.cell? ⟨gb252, 2, none⟩ = some (.int .i64 0) := (zI BK252.out 2).trans rfl; have hcz13_3 : w12.cell? ⟨gb252, 3, none⟩ = some (.int .i64 0) := (zI BK252.out 3).trans rfl; have hfz13_0 := zH BK252.out 0; have hfz13_1 := zH BK252.out 1; have hfz13_2 := zH BK252.out 2; have hfz13_3 := zH BK252.out 3) | ((with_reducible refine gate_callee (f := 111) rfl ?_); refine goesL_ (some 18) rfl rfl Try.func111 yi rfl #[.agg #[.string ((rd_T47 l0 x11_1).f0), .int .i64 ((rd_T47 l0 x11_1).f1), .int .i64 ((rd_T47 l0 x11_1).f2), .int .i64 ((rd_T47 l0 x11_1).f3)], .int .i64 x11_1] rfl yb ?_; (with_reducible refine (spec_exNode.calls k1 ((rd_T47 l0 x11_1).f0) ((rd_T47 l0 x11_1).f1) ((rd_T47 l0 x11_1).f2) ((rd_T47 l0 x11_1).f3) x11_1 false _ A7.out).mono ?_); rintro e w14 ⟨rfl, hb⟩; refine ⟨_, rfl, ?_⟩; have n0_ := zK (zM (g := gb252) (o := .cells #[.string ((rd_T47 l0 x11_1).f0), .int .i64 ((rd_T47 l0 x11_1).f1), .int .i64 ((rd_T47 l0 x11_1).f2), .int .i64 ((rd_T47 l0 x11_1).f3)] 47 (0, 0)) (by (with_reducible repeat (first | refine zE ?_ _ | refine zF ?_ | refine zG ?_ _)); refine blk_put (cs := #[.string ((rd_T47 l0 x11_1).f0), .int .i64 ((rd_T47 l0 x11_1).f1), .int .i64 ((rd_T47 l0 x11_1).f2), .int .i64 0]) ?_ 3 _ rfl; (with_reducible repeat (first | refine zE ?_ _ | refine zF ?_ | refine zG ?_ _)); refine blk_put (cs := #[.string ((rd_T47 l0 x11_1).f0), .int .i64 ((rd_T47 l0 x11_1).f1), .int .i64 0, .int .i64 0]) ?_ 2 _ rfl; (with_reducible repeat (first | refine zE ?_ _ | refine zF ?_ | refine zG ?_ _)); refine blk_put (cs := #[.string ((rd_T47 l0 x11_1).f0), .int .i64 0, .int .i64 0, .int .i64 0]) ?_ 1 _ rfl; (with_reducible repeat (first | refine zE ?_ _ | refine zF ?_ | refine zG ?_ _)); refine blk_put (cs := #[.string (⟨#[]⟩ : ByteArray), .int .i64 0, .int .i64 0, .int .i64 0]) ?_ 0 _ rfl; (with_reducible repeat (first | refine zE ?_ _ | refine zF ?_ | refine zG ?_ _)); exact BK252.out) hb); have n1_ := zK (zL (by repeat (first | (with_reducible first | exact HB.out | apply zA | apply zB | apply zC | refine zD ?_ GE252.out) | exact HB.out)) hb); clear BK252; clear HB; have BK252 := n0_; have HB := n1_; clear n0_ n1_; (try clear hb); (try clear hb2); (try clear hk); (try clear hi)))
        go_ret
        exact ⟨yd, by repeat (first | (with_reducible first | exact HB.out | apply zA | apply zB | apply zC | refine zD ?_ GE252.out) | exact HB.out)⟩
      ·rw [if_neg c6] at H
       exact absurd H ye1
     ·rw [if_neg c5] at H
      exact absurd H ye1
    ·rw [if_neg c4] at H
     have c4b0 : decide (x11_1 < (l0.length : Int)) = false := decide_eq_false c4
     clear c4
     replace H := Option.bind_eq_some_iff.mp H
     obtain ⟨t254, A150, H⟩ := H
     replace H : (if 0 ≤ (wrap64 ((l0.length : Int) - 1)) then (if (wrap64 ((l0.length : Int) - 1)) ≤ (t254.length : Int) then ((spec_l1Has.f k1 (t254.take ((wrap64 ((l0.length : Int) - 1)) : Int).toNat) 0).bind fun t261 => (some (!t261))) else (none)) else (none)) = some r := H
     have A15 := zK A150
     clear A150
     obtain ⟨ji16, hji16⟩ : ∃ j_ : Int, (wrap64 ((l0.length : Int) - 1)) = j_ := ⟨_, rfl⟩
     replace H : (if 0 ≤ (ji16) then (if (ji16) ≤ (t254.length : Int) then ((spec_l1Has.f k1 (t254.take ((ji16) : Int).toNat) 0).bind fun t261 => (some (!t261))) else (none)) else (none)) = some r := by first | (rw [hji16] at H; exact H) | (simp only [hji16] at H ⊢; exact H)
     (try rw [hji16] at A15)
     have hji16w : (IntKind.i64.wrap ((l0.length : Int) - 1)) = ji16 := (i64_w _).trans hji16
     by_cases c17 : 0 ≤ (ji16)
     ·rw [if_pos c17] at H
      have c17b0 := eq_true c17
      have c17b1 : decide (0 ≤ (ji16)) = true := decide_eq_true c17
      clear c17
      by_cases c18 : (ji16) ≤ (t254.length : Int)
      ·rw [if_pos c18] at H
       have c18b0 := eq_true c18
       have c18b1 : decide ((ji16) ≤ (t254.length : Int)) = true := decide_eq_true c18
       clear c18
       obtain ⟨y257, hy257⟩ : ∃ y_ : List Int, y_ = (t254.take ((ji16) : Int).toNat) := ⟨_, rfl⟩
       replace H : ((spec_l1Has.f k1 y257 0).bind fun t261 => (some (!t261))) = some r := by have hy_ := hy257; exact xH
       have Ny257 := zK hy257
       clear hy257
       replace H := Option.bind_eq_some_iff.mp H
       obtain ⟨t261, A190, H⟩ := H
       replace H : (some (!t261)) = some r := H
       have A19 := zK A190
       clear A190
       obtain rfl := Option.some.inj H
       go_wp2_with (first | ((with_reducible refine gate_callee (f := 65) rfl ?_); refine goesL_ (some 22) rfl rfl Try.func65 yi rfl #[.slice A0 l0.length c0] rfl yb ?_; (with_reducible refine (spec_exUses.calls k1 _ _ l0 t254 _ ?side1 ?side2 A15.out).mono ?_); (case side1 => exact xxd); (case side2 => exact HC0.out); rintro e w20 ⟨v255, rfl, ho0, hb⟩; refine ⟨_, rfl, ?_⟩; have n0_ := zK (Kd.R_lower ho0 (zN ya)); have n1_ := zK (zL ya hb); clear HB; have HO256 := n0_; have HB := n1_; clear n0_ n1_; (try clear hb); (try clear hb2); (try clear hk); (try clear hi); (try clear ho0); obtain ⟨Ao22, co22, eo22⟩ := Kd.R_slice HO256.out; subst eo22; have q21 : ((ji16) : Int) ≤ ((t254.length : Int) : Int) := zo; obtain ⟨i021, hi021, _, hsz21, _⟩ := info_parts info3; have hroom21 : t254.length ≤ co22 := (Kd.R_reads' HO256.out).2.1; have hC21 : Kd.C (Kd.int .i64) _ Ao22 t254.length t254 := (Kd.R_reads' HO256.out).2.2; have hcut21 := cut_to (P := Try.prog) 31 3 .i64 Try.underlying31 hi021 Ao22 t254.length co22 (ji16) (zo) q21 hroom21; have hr21 := Kd.C_take (m := ((ji16) : Int).toNat) hC21 (by omega); have hy21 : y257.length = ((ji16) : Int).toNat := (by rw [Ny257.out, z5]; omega); rw [← Ny257.out] at hr21; rw [← hy21] at hcut21; have HR260 := zK hr21; have HC260 := zK (show y257.length ≤ co22 from by omega); clear hr21 hC21 hroom21 hi021 hsz21; have KY21 := zK hy21; clear hy21; have KL21 := zK (show ((ji16) : Int).toNat ≤ t254.length from by omega); replace q21 := eq_true q21) | ((with_reducible refine gate_callee (f := 112) rfl ?_); refine goesL_ (some 27) rfl rfl Try.func112 yi rfl #[.slice Ao22 y257.length co22, .int .i64 0] rfl yb ?_; (with_reducible refine (spec_l1Has.calls k1 _ _ y257 0 t261 _ ?side1 ?side2 A19.out).mono ?_); (case side1 => repeat (first | exact (by repeat (first | (with_reducible exact HR260.out) | (with_reducible refine Kd.C_alloc ?_ _) | (with_reducible refine Kd.C_drewN ?_ _) | (with_reducible refine Kd.C_drew ?_) | exact HR260.out)) | (with_reducible refine Kd.C_alloc ?_ _) | (with_reducible refine Kd.C_drewN ?_ _) | (with_reducible refine Kd.C_drew ?_))); (case side2 => exact HC260.out); rintro e w' ⟨rfl, ⟨nd, rfl⟩⟩; refine ⟨_, rfl, ?_⟩))
       go_ret
       exact ⟨by first | rfl | (simp [errW_none, errW_some] <;> rfl) | (simp only [← hji16]; first | rfl | (simp [errW_none, errW_some] <;> rfl)) | (simp [*, errW_none, errW_some] <;> rfl), ya⟩
      ·rw [if_neg c18] at H
       exact absurd H ye1
     ·rw [if_neg c17] at H
      exact absurd H ye1
 ·replace c3 := Bool.eq_false_iff.mpr c3
  subst c3
  rw [if_neg (show ¬ (false = true) by decide)] at H
  obtain rfl := Option.some.inj H
  go_enter Try.func60, Try.ntmps60
  go_wp2_with (first | ((with_reducible refine gate_callee (f := 61) rfl ?_); refine goesL_ (some 7) rfl rfl Try.func61 yi rfl #[.int .i64 (l0.length : Int), .int .i64 1, .int .i64 24] rfl yb ?_; (with_reducible refine (spec_l1In.calls (l0.length : Int) 1 24 false _ A2.out).mono ?_); rintro e w' ⟨rfl, ⟨nd, rfl⟩⟩; refine ⟨_, rfl, ?_⟩))
  go_ret
  exact ⟨yd, ya⟩

/-! ### spec_l1Cur_one: function 81 -/
def spec_l1Cur_one.f (s0_0 : List Int) (s0_1 : Int) (s0_2 : Int) (a1 : Int) : Option (Bool × Int × Int) := (spec_l1Cur_pick.f s0_0 s0_1 s0_2 a1).bind fun bt262 => (some ((bt262.1 == 0), bt262.2.1, bt262.2.2))
set_option maxHeartbeats 8000000 in
set_option maxRecDepth 100000 in
theorem spec_l1Cur_one.calls (g : Nat) (s0_0 : List Int) (s0_1 : Int) (s0_2 : Int) (a1 : Int) (r1 : Bool) (r2 : Int) (r3 : Int) (w0 w : World) (hI : IsS59 w0 w g s0_0 s0_1 s0_2) (hB : Below w0.heap.size w0 w) (h : spec_l1Cur_one.f s0_0 s0_1 s0_2 a1 = some (r1, r2, r3)) :
  Calls Try.prog 81 #[.pointer (some ⟨g, 0, none⟩), .int .i64 a1] w fun e w' => e = .returned (.bool r1) ∧ IsS59 w0 w' g s0_0 r2 r3 ∧ Below w0.heap.size w0 w' ∧ KeepBut w w' g none := by
 have HI0 := zK hI
 have HK := zK (KeepBut.refl w g none)
 have HL := zK hB.size
 clear hI
 have HW0 := zK hB.size
 have HB := zK hB
 clear hB
 have H : ((spec_l1Cur_pick.f s0_0 s0_1 s0_2 a1).bind fun bt262 => (some ((bt262.1 == 0), bt262.2.1, bt262.2.2))) = some (r1, r2, r3) := h
 clear h
 replace H := Option.bind_eq_some_iff.mp H
 obtain ⟨⟨t262, t263, t264⟩, A30, H⟩ := H
 replace H : (some ((t262 == 0), t263, t264)) = some (r1, r2, r3) := H
 have A3 := zK A30
 clear A30
 simp only [Option.some.injEq, Prod.mk.injEq] at H
 obtain ⟨rfl, rfl, rfl⟩ := H
 go_enter Try.func81, Try.ntmps81
 go_wp2_with (first | ((with_reducible refine gate_callee (f := 55) rfl ?_); refine goesL_ (some 7) rfl rfl Try.func55 yi rfl #[.pointer (some ⟨g, 0, none⟩), .int .i64 a1] rfl yb ?_; (with_reducible refine (spec_l1Cur_pick.calls g s0_0 s0_1 s0_2 a1 t262 t263 t264 w0 _ ?side1 ?side2 A3.out).mono ?_); (case side1 => exact xxk); (case side2 => exact xxl); rintro e w4 ⟨rfl, hi, hb, hk⟩; refine ⟨_, rfl, ?_⟩; have n0_ := zK (KeepBut.trans yc hk (.inl rfl)); have n1_ := zK (hb); have n2_ := zK (hi); clear HK; clear HB; clear HI0; have HK := n0_; have HB := n1_; have HI0 := n2_; clear n0_ n1_ n2_; (try clear hb); (try clear hb2); (try clear hk); (try clear hi)))
 go_ret
 exact ⟨yd, yf, yh, yc⟩

/-! ### spec_l1Cur_word: function 93 -/
def spec_l1Cur_word.f (s0_0 : List Int) (s0_1 : Int) (s0_2 : Int) : Option (Int × Int × Int) := (spec_l1Cur_one.f s0_0 s0_1 s0_2 2).bind fun bt268 => (if bt268.1 = true then ((spec_l1Cur_among.f s0_0 bt268.2.1 bt268.2.2 (([0, 1, 2, 3, 4, 5, 6, 7, 8, 16, 31, 32, 33, 62, 63] : List Int))).bind fun bt274 => (some (bt274.1, bt274.2.1, bt274.2.2))) else ((spec_l1Cur_pick.f s0_0 bt268.2.1 bt268.2.2 64).bind fun bt277 => (some (bt277.1, bt277.2.1, bt277.2.2))))
set_option maxHeartbeats 8000000 in
set_option maxRecDepth 100000 in
theorem spec_l1Cur_word.calls (g : Nat) (s0_0 : List Int) (s0_1 : Int) (s0_2 : Int) (r1 : Int) (r2 : Int) (r3 : Int) (w0 w : World) (hI : IsS59 w0 w g s0_0 s0_1 s0_2) (hB : Below w0.heap.size w0 w) (h : spec_l1Cur_word.f s0_0 s0_1 s0_2 = some (r1, r2, r3)) :
  Calls Try.prog 93 #[.pointer (some ⟨g, 0, none⟩)] w fun e w' => e = .returned (.int .i64 r1) ∧ IsS59 w0 w' g s0_0 r2 r3 ∧ Below w0.heap.size w0 w' ∧ KeepBut w w' g none := by
 have HI0 := zK hI
 have HK := zK (KeepBut.refl w g none)
 have HL := zK hB.size
 clear hI
 have HW0 := zK hB.size
 have HB := zK hB
 clear hB
 have H : ((spec_l1Cur_one.f s0_0 s0_1 s0_2 2).bind fun bt268 => (if bt268.1 = true then ((spec_l1Cur_among.f s0_0 bt268.2.1 bt268.2.2 (([0, 1, 2, 3, 4, 5, 6, 7, 8, 16, 31, 32, 33, 62, 63] : List Int))).bind fun bt274 => (some (bt274.1, bt274.2.1, bt274.2.2))) else ((spec_l1Cur_pick.f s0_0 bt268.2.1 bt268.2.2 64).bind fun bt277 => (some (bt277.1, bt277.2.1, bt277.2.2))))) = some (r1, r2, r3) := h
 clear h
 replace H := Option.bind_eq_some_iff.mp H
 obtain ⟨⟨t268, t269, t270⟩, A20, H⟩ := H
 replace H : (if t268 = true then ((spec_l1Cur_among.f s0_0 t269 t270 (([0, 1, 2, 3, 4, 5, 6, 7, 8, 16, 31, 32, 33, 62, 63] : List Int))).bind fun bt274 => (some (bt274.1, bt274.2.1, bt274.2.2))) else ((spec_l1Cur_pick.f s0_0 t269 t270 64).bind fun bt277 => (some (bt277.1, bt277.2.1, bt277.2.2)))) = some (r1, r2, r3) := H
 have A2 := zK A20
 clear A20
 by_cases c3 : t268 = true
 ·subst c3
  rw [if_pos rfl] at H
  obtain ⟨y271, hy271⟩ : ∃ y_ : List Int, y_ = (([0, 1, 2, 3, 4, 5, 6, 7, 8, 16, 31, 32, 33, 62, 63] : List Int)) := ⟨_, rfl⟩
  replace H : ((spec_l1Cur_among.f s0_0 t269 t270 y271).bind fun bt274 => (some (bt274.1, bt274.2.1, bt274.2.2))) = some (r1, r2, r3) := by have hy_ := hy271; exact xH
  have Ny271 := zK hy271
  clear hy271
  replace H := Option.bind_eq_some_iff.mp H
  obtain ⟨⟨t274, t275, t276⟩, A40, H⟩ := H
  replace H : (some (t274, t275, t276)) = some (r1, r2, r3) := H
  have A4 := zK A40
  clear A40
  simp only [Option.some.injEq, Prod.mk.injEq] at H
  obtain ⟨rfl, rfl, rfl⟩ := H
  go_enter Try.func93, Try.ntmps93
  go_wp2_with (first | ((with_reducible refine gate_callee (f := 81) rfl ?_); refine goesL_ (some 4) rfl rfl Try.func81 yi rfl #[.pointer (some ⟨g, 0, none⟩), .int .i64 2] rfl yb ?_; (with_reducible refine (spec_l1Cur_one.calls g s0_0 s0_1 s0_2 2 true t269 t270 w0 _ ?side1 ?side2 A2.out).mono ?_); (case side1 => exact xxk); (case side2 => exact xxl); rintro e w5 ⟨rfl, hi, hb, hk⟩; refine ⟨_, rfl, ?_⟩; have n0_ := zK (KeepBut.trans yc hk (.inl rfl)); have n1_ := zK (hb); have n2_ := zK (hi); clear HK; clear HB; clear HI0; have HK := n0_; have HB := n1_; have HI0 := n2_; clear n0_ n1_ n2_; (try clear hb); (try clear hb2); (try clear hk); (try clear hi)) | ((with_reducible refine gate_dst (N := 6) rfl ?_); refine Kd.R_lit (Kd.int .i64) _ 3 ?hg (N := 6) ?hd (xs := ([0, 1, 2, 3, 4, 5, 6, 7, 8, 16, 31, 32, 33, 62, 63] : List Int)) (inner := [.int .i64 0, .int .i64 1, .int .i64 2, .int .i64 3, .int .i64 4, .int .i64 5, .int .i64 6, .int .i64 7, .int .i64 8, .int .i64 16, .int .i64 31, .int .i64 32, .int .i64 33, .int .i64 62, .int .i64 63]) (ok := fun _ => True) (okp := fun _ => True) ?hr ?hp (fun _ hk => hk) trivial (Below.refl _ _) (Nat.le_refl _) ye1 ?_; (case hd | hg => rfl); (case hr => exact xxa); (case hp => exact (Reps.one (show Kd.M (Kd.int .i64) _ _ _ 0 [.int .i64 0] from rfl) (Reps.one (show Kd.M (Kd.int .i64) _ _ _ 1 [.int .i64 1] from rfl) (Reps.one (show Kd.M (Kd.int .i64) _ _ _ 2 [.int .i64 2] from rfl) (Reps.one (show Kd.M (Kd.int .i64) _ _ _ 3 [.int .i64 3] from rfl) (Reps.one (show Kd.M (Kd.int .i64) _ _ _ 4 [.int .i64 4] from rfl) (Reps.one (show Kd.M (Kd.int .i64) _ _ _ 5 [.int .i64 5] from rfl) (Reps.one (show Kd.M (Kd.int .i64) _ _ _ 6 [.int .i64 6] from rfl) (Reps.one (show Kd.M (Kd.int .i64) _ _ _ 7 [.int .i64 7] from rfl) (Reps.one (show Kd.M (Kd.int .i64) _ _ _ 8 [.int .i64 8] from rfl) (Reps.one (show Kd.M (Kd.int .i64) _ _ _ 16 [.int .i64 16] from rfl) (Reps.one (show Kd.M (Kd.int .i64) _ _ _ 31 [.int .i64 31] from rfl) (Reps.one (show Kd.M (Kd.int .i64) _ _ _ 32 [.int .i64 32] from rfl) (Reps.one (show Kd.M (Kd.int .i64) _ _ _ 33 [.int .i64 33] from rfl) (Reps.one (show Kd.M (Kd.int .i64) _ _ _ 62 [.int .i64 62] from rfl) (Reps.one (show Kd.M (Kd.int .i64) _ _ _ 63 [.int .i64 63] from rfl) (Reps.none _ _))))))))))))))))); intro v272 w6 ho7 hb hg_ hnew_; clear hg_ hnew_; (first | rw [← Ny271.out] at ho7 | (simp only [Int.reduceToNat] at ho7; rw [← Ny271.out] at ho7)); have n0_ := zK (Kd.R_lower ho7 (keep_size (w := w) (g := g) (row := none) yc)); have n1_ := zK (IsS59.below yf hb); have n2_ := zK (KeepBut.trans yc (KeepBut.of_below hb g none) (.inl rfl)); have n3_ := zK (zL yh hb); clear HI0; clear HK; clear HB; have HO273 := n0_; have HI0 := n1_; have HK := n2_; have HB := n3_; clear n0_ n1_ n2_ n3_; clear hb ho7; obtain ⟨Ao8, co8, eo8⟩ := Kd.R_slice HO273.out; subst eo8) | ((with_reducible refine gate_callee (f := 88) rfl ?_); refine goesL_ (some 7) rfl rfl Try.func88 yi rfl #[.pointer (some ⟨g, 0, none⟩), .slice Ao8 y271.length co8] rfl yb ?_; (with_reducible refine (spec_l1Cur_among.calls g s0_0 t269 t270 _ _ y271 t274 t275 t276 w0 _ ?side1 ?side2 ?side3 ?side4 ?side5 A4.out).mono ?_); (case side1 => exact xxk); (case side2 => exact xxl); (case side3 => repeat (first | exact (Kd.R_reads' HO273.out).2.2 | (with_reducible refine Kd.C_alloc ?_ _) | (with_reducible refine Kd.C_drewN ?_ _) | (with_reducible refine Kd.C_drew ?_))); (case side4 => exact (Kd.R_reads' HO273.out).2.1); (case side5 => exact far_slice (IsS59.own_ne HI0.out HO273.out yp1)); rintro e w9 ⟨rfl, hi, hb, hk⟩; refine ⟨_, rfl, ?_⟩; have n0_ := zK (Kd.R_mono (Kd.R_keep (IsS59.apart (show IsS59 w0 _ g s0_0 t269 t270 from by repeat (first | (with_reducible first | exact HI0.out | apply IsS59.alloc | apply IsS59.drewN | apply IsS59.drew | apply IsS59.set_1 | apply IsS59.set_2) | exact HI0.out)) (yR HO273.out) yp1) hk (fun _ h => h.2)) (fun _ h => h.1)); have n1_ := zK (KeepBut.trans yc hk (.inl rfl)); have n2_ := zK (hb); have n3_ := zK (hi); clear HO273; clear HK; clear HB; clear HI0; have HO273 := n0_; have HK := n1_; have HB := n2_; have HI0 := n3_; clear n0_ n1_ n2_ n3_; (try clear hb); (try clear hb2); (try clear hk); (try clear hi)))
  go_ret
  exact ⟨yd, yf, yh, yc⟩
 ·replace c3 := Bool.eq_false_iff.mpr c3
  subst c3
  rw [if_neg (show ¬ (false = true) by decide)] at H
  replace H := Option.bind_eq_some_iff.mp H
  obtain ⟨⟨t277, t278, t279⟩, A100, H⟩ := H
  replace H : (some (t277, t278, t279)) = some (r1, r2, r3) := H
  have A10 := zK A100
  clear A100
  simp only [Option.some.injEq, Prod.mk.injEq] at H
  obtain ⟨rfl, rfl, rfl⟩ := H
  go_enter Try.func93, Try.ntmps93
  go_wp2_with (first | ((with_reducible refine gate_callee (f := 81) rfl ?_); refine goesL_ (some 4) rfl rfl Try.func81 yi rfl #[.pointer (some ⟨g, 0, none⟩), .int .i64 2] rfl yb ?_; (with_reducible refine (spec_l1Cur_one.calls g s0_0 s0_1 s0_2 2 false t269 t270 w0 _ ?side1 ?side2 A2.out).mono ?_); (case side1 => exact xxk); (case side2 => exact xxl); rintro e w11 ⟨rfl, hi, hb, hk⟩; refine ⟨_, rfl, ?_⟩; have n0_ := zK (KeepBut.trans yc hk (.inl rfl)); have n1_ := zK (hb); have n2_ := zK (hi); clear HK; clear HB; clear HI0; have HK := n0_; have HB := n1_; have HI0 := n2_; clear n0_ n1_ n2_; (try clear hb); (try clear hb2); (try clear hk); (try clear hi)) | ((with_reducible refine gate_callee (f := 55) rfl ?_); refine goesL_ (some 9) rfl rfl Try.func55 yi rfl #[.pointer (some ⟨g, 0, none⟩), .int .i64 64] rfl yb ?_; (with_reducible refine (spec_l1Cur_pick.calls g s0_0 t269 t270 64 t277 t278 t279 w0 _ ?side1 ?side2 A10.out).mono ?_); (case side1 => exact xxk); (case side2 => exact xxl); rintro e w12 ⟨rfl, hi, hb, hk⟩; refine ⟨_, rfl, ?_⟩; have n0_ := zK (KeepBut.trans yc hk (.inl rfl)); have n1_ := zK (hb); have n2_ := zK (hi); clear HK; clear HB; clear HI0; have HK := n0_; have HB := n1_; have HI0 := n2_; clear n0_ n1_ n2_; (try clear hb); (try clear hb2); (try clear hk); (try clear hi)))
  go_ret
  exact ⟨yd, yf, yh, yc⟩

/-! ### spec_l1Cur_leaf: function 134 -/
def spec_l1Cur_leaf.f (s0_0 : List Int) (s0_1 : Int) (s0_2 : Int) : Option (ByteArray × Int × Int × Int × Int × Int) := (spec_l1Cur_one.f s0_0 s0_1 s0_2 3).bind fun bt281 => (if bt281.1 = true then ((spec_l1Cur_word.f s0_0 bt281.2.1 bt281.2.2).bind fun bt284 => (some ((⟨#[99, 111, 110, 115, 116]⟩ : ByteArray), 0, 0, bt284.1, bt284.2.1, bt284.2.2))) else ((spec_l1Cur_pick.f s0_0 bt281.2.1 bt281.2.2 2).bind fun bt287 => (some ((⟨#[105, 110]⟩ : ByteArray), 0, 0, bt287.1, bt287.2.1, bt287.2.2))))
set_option maxHeartbeats 8000000 in
set_option maxRecDepth 100000 in
theorem spec_l1Cur_leaf.calls (g : Nat) (s0_0 : List Int) (s0_1 : Int) (s0_2 : Int) (r1 : ByteArray) (r2 : Int) (r3 : Int) (r4 : Int) (r5 : Int) (r6 : Int) (w0 w : World) (hI : IsS59 w0 w g s0_0 s0_1 s0_2) (hB : Below w0.heap.size w0 w) (h : spec_l1Cur_leaf.f s0_0 s0_1 s0_2 = some (r1, r2, r3, r4, r5, r6)) :
  Calls Try.prog 134 #[.pointer (some ⟨g, 0, none⟩)] w fun e w' => e = .returned (.agg #[.string r1, .int .i64 r2, .int .i64 r3, .int .i64 r4]) ∧ IsS59 w0 w' g s0_0 r5 r6 ∧ Below w0.heap.size w0 w' ∧ KeepBut w w' g none := by
 have hu47 := Try.underlying47
 have HI0 := zK hI
 have HK := zK (KeepBut.refl w g none)
 have HL := zK hB.size
 clear hI
 have HW0 := zK hB.size
 have HB := zK hB
 clear hB
 have H : ((spec_l1Cur_one.f s0_0 s0_1 s0_2 3).bind fun bt281 => (if bt281.1 = true then ((spec_l1Cur_word.f s0_0 bt281.2.1 bt281.2.2).bind fun bt284 => (some ((⟨#[99, 111, 110, 115, 116]⟩ : ByteArray), 0, 0, bt284.1, bt284.2.1, bt284.2.2))) else ((spec_l1Cur_pick.f s0_0 bt281.2.1 bt281.2.2 2).bind fun bt287 => (some ((⟨#[105, 110]⟩ : ByteArray), 0, 0, bt287.1, bt287.2.1, bt287.2.2))))) = some (r1, r2, r3, r4, r5, r6) := h
 clear h
 replace H := Option.bind_eq_some_iff.mp H
 obtain ⟨⟨t281, t282, t283⟩, A20, H⟩ := H
 replace H : (if t281 = true then ((spec_l1Cur_word.f s0_0 t282 t283).bind fun bt284 => (some ((⟨#[99, 111, 110, 115, 116]⟩ : ByteArray), 0, 0, bt284.1, bt284.2.1, bt284.2.2))) else ((spec_l1Cur_pick.f s0_0 t282 t283 2).bind fun bt287 => (some ((⟨#[105, 110]⟩ : ByteArray), 0, 0, bt287.1, bt287.2.1, bt287.2.2)))) = some (r1, r2, r3, r4, r5, r6) := H
 have A2 := zK A20
 clear A20
 by_cases c3 : t281 = true
 ·subst c3
  rw [if_pos rfl] at H
  replace H := Option.bind_eq_some_iff.mp H
  obtain ⟨⟨t284, t285, t286⟩, A40, H⟩ := H
  replace H : (some ((⟨#[99, 111, 110, 115, 116]⟩ : ByteArray), 0, 0, t284, t285, t286)) = some (r1, r2, r3, r4, r5, r6) := H
  have A4 := zK A40
  clear A40
  simp only [Option.some.injEq, Prod.mk.injEq] at H
  obtain ⟨rfl, rfl, rfl, rfl, rfl, rfl⟩ := H
  go_enter Try.func134, Try.ntmps134
  go_wp2_with (first | ((with_reducible refine gate_dst (N := 2) rfl ?_); refine box_event ?hg (N := 2) ?hd (cs := #[.string (⟨#[]⟩ : ByteArray), .int .i64 0, .int .i64 0, .int .i64 0]) (t := 47) ?hr ?_; (case hd | hg => rfl); (case hr => exact xxa); intro gb280 hg w5 hbox hb; have n0_ := zK (IsS59.below yf hb); have n1_ := zK (KeepBut.trans yc (KeepBut.of_below hb g none) (.inl rfl)); have n2_ := zK (zL yh hb); have n3_ := zK (hbox); have n4_ := zK ((by rw [hg]; exact (keep_size (w := w) (g := g) (row := none) yc) : w.heap.size ≤ gb280)); have n5_ := zK ((Nat.le_trans HW0.out (by rw [hg]; exact (keep_size (w := w) (g := g) (row := none) yc) : w.heap.size ≤ gb280) : w0.heap.size ≤ gb280)); have n6_ := zK ((by rw [hg]; exact Nat.ne_of_lt (IsS59.lt (show IsS59 w0 _ g s0_0 s0_1 s0_2 from by repeat (first | (with_reducible first | exact HI0.out | apply IsS59.alloc | apply IsS59.drewN | apply IsS59.drew | apply IsS59.set_1 | apply IsS59.set_2) | exact HI0.out))) : g ≠ gb280)); have n7_ := zK ((by rw [hg]; exact Nat.ne_of_gt (IsS59.lt (show IsS59 w0 _ g s0_0 s0_1 s0_2 from by repeat (first | (with_reducible first | exact HI0.out | apply IsS59.alloc | apply IsS59.drewN | apply IsS59.drew | apply IsS59.set_1 | apply IsS59.set_2) | exact HI0.out))) : gb280 ≠ g)); clear HI0; clear HK; clear HB; have HI0 := n0_; have HK := n1_; have HB := n2_; have BK280 := n3_; have GW280 := n4_; have GE280 := n5_; have NB0_280 := n6_; have NB280_0 := n7_; clear n0_ n1_ n2_ n3_ n4_ n5_ n6_ n7_; clear hb hbox hg) | ((with_reducible refine gate_callee (f := 81) rfl ?_); refine goesL_ (some 4) rfl rfl Try.func81 yi rfl #[.pointer (some ⟨g, 0, none⟩), .int .i64 3] rfl yb ?_; (with_reducible refine (spec_l1Cur_one.calls g s0_0 s0_1 s0_2 3 true t282 t283 w0 _ ?side1 ?side2 A2.out).mono ?_); (case side1 => exact xxm); (case side2 => exact xxn); rintro e w6 ⟨rfl, hi, hb, hk⟩; refine ⟨_, rfl, ?_⟩; have n0_ := zK (KeepBut.blk hk (g' := gb280) (o := .cells #[.string (⟨#[]⟩ : ByteArray), .int .i64 0, .int .i64 0, .int .i64 0] 47 (0, 0)) (yS BK280.out) NB280_0.out ye1); have n1_ := zK (KeepBut.trans yl1 hk (.inl rfl)); have n2_ := zK (hb); have n3_ := zK (hi); clear BK280; clear HK; clear HB; clear HI0; have BK280 := n0_; have HK := n1_; have HB := n2_; have HI0 := n3_; clear n0_ n1_ n2_ n3_; (try clear hb); (try clear hb2); (try clear hk); (try clear hi)) | ((with_reducible refine gate_callee (f := 93) rfl ?_); refine goesL_ (some 6) rfl rfl Try.func93 yi rfl #[.pointer (some ⟨g, 0, none⟩)] rfl yb ?_; (with_reducible refine (spec_l1Cur_word.calls g s0_0 t282 t283 t284 t285 t286 w0 _ ?side1 ?side2 A4.out).mono ?_); (case side1 => exact xxm); (case side2 => exact xxn); rintro e w7 ⟨rfl, hi, hb, hk⟩; refine ⟨_, rfl, ?_⟩; have n0_ := zK (KeepBut.blk hk (g' := gb280) (o := .cells #[.string (⟨#[]⟩ : ByteArray), .int .i64 0, .int .i64 0, .int .i64 0] 47 (0, 0)) (yS BK280.out) NB280_0.out ye1); have n1_ := zK (KeepBut.trans yl1 hk (.inl rfl)); have n2_ := zK (hb); have n3_ := zK (hi); clear BK280; clear HK; clear HB; clear HI0; have BK280 := n0_; have HK := n1_; have HB := n2_; have HI0 := n3_; clear n0_ n1_ n2_ n3_; (try clear hb); (try clear hb2); (try clear hk); (try clear hi); have hnb8 := NB280_0.out; have hnc8 := NB0_280.out; have hcz9_0 : w7.cell? ⟨gb280, 0, none⟩ = some (.string (⟨#[]⟩ : ByteArray)) := (zI BK280.out 0).trans rfl; have hcz9_1 : w7.cell? ⟨gb280, 1, none⟩ = some (.int .i64 0) := (zI BK280.out 1).trans rfl; have hcz9_2 : w7.cell? ⟨gb280, 2, none⟩ = some (.int .i64 0) := (zI BK280.out 2).trans rfl; have hcz9_3 : w7.cell? ⟨gb280, 3, none⟩ = some (.int .i64 0) := (zI BK280.out 3).trans rfl; have hfz9_0 := zH BK280.out 0; have hfz9_1 := zH BK280.out 1; have hfz9_2 := zH BK280.out 2; have hfz9_3 := zH BK280.out 3))
  refine bodyPost_ret (results_cell_row rfl _ _ gb280 47 #[.string (⟨#[99, 111, 110, 115, 116]⟩ : ByteArray), .int .i64 0, .int .i64 0, .int .i64 t284] (0, 0) _ rfl (by (with_reducible repeat (first | refine zE ?_ _ | refine zF ?_ | refine zG ?_ _)); refine blk_put (cs := #[.string (⟨#[99, 111, 110, 115, 116]⟩ : ByteArray), .int .i64 0, .int .i64 0, .int .i64 0]) ?_ 3 _ rfl; (with_reducible repeat (first | refine zE ?_ _ | refine zF ?_ | refine zG ?_ _)); refine blk_put (cs := #[.string (⟨#[99, 111, 110, 115, 116]⟩ : ByteArray), .int .i64 0, .int .i64 0, .int .i64 0]) ?_ 2 _ rfl; (with_reducible repeat (first | refine zE ?_ _ | refine zF ?_ | refine zG ?_ _)); refine blk_put (cs := #[.string (⟨#[99, 111, 110, 115, 116]⟩ : ByteArray), .int .i64 0, .int .i64 0, .int .i64 0]) ?_ 1 _ rfl; (with_reducible repeat (first | refine zE ?_ _ | refine zF ?_ | refine zG ?_ _)); refine blk_put (cs := #[.string (⟨#[]⟩ : ByteArray), .int .i64 0, .int .i64 0, .int .i64 0]) ?_ 0 _ rfl; (with_reducible repeat (first | refine zE ?_ _ | refine zF ?_ | refine zG ?_ _)); exact BK280.out) Try.underlying47 rfl yi) rfl ?_
  exact ⟨yd, by repeat (first | (with_reducible first | exact HI0.out | apply IsS59.alloc | apply IsS59.drewN | apply IsS59.drew | apply IsS59.set_1 | apply IsS59.set_2 | refine IsS59.far ?_ NB0_280.out _) | exact HI0.out), by repeat (first | (with_reducible first | exact HB.out | apply zA | apply zB | apply zC | refine zD ?_ (IsS59.ge HI0.out) | refine zD ?_ GE280.out) | exact HB.out), yl1⟩
 ·replace c3 := Bool.eq_false_iff.mpr c3
  subst c3
  rw [if_neg (show ¬ (false = true) by decide)] at H
  replace H := Option.bind_eq_some_iff.mp H
  obtain ⟨⟨t287, t288, t289⟩, A100, H⟩ := H
  replace H : (some ((⟨#[105, 110]⟩ : ByteArray), 0, 0, t287, t288, t289)) = some (r1, r2, r3, r4, r5, r6) := H
  have A10 := zK A100
  clear A100
  simp only [Option.some.injEq, Prod.mk.injEq] at H
  obtain ⟨rfl, rfl, rfl, rfl, rfl, rfl⟩ := H
  go_enter Try.func134, Try.ntmps134
  go_wp2_with (first | ((with_reducible refine gate_dst (N := 2) rfl ?_); refine box_event ?hg (N := 2) ?hd (cs := #[.string (⟨#[]⟩ : ByteArray), .int .i64 0, .int .i64 0, .int .i64 0]) (t := 47) ?hr ?_; (case hd | hg => rfl); (case hr => exact xxa); intro gb280 hg w11 hbox hb; have n0_ := zK (IsS59.below yf hb); have n1_ := zK (KeepBut.trans yc (KeepBut.of_below hb g none) (.inl rfl)); have n2_ := zK (zL yh hb); have n3_ := zK (hbox); have n4_ := zK ((by rw [hg]; exact (keep_size (w := w) (g := g) (row := none) yc) : w.heap.size ≤ gb280)); have n5_ := zK ((Nat.le_trans HW0.out (by rw [hg]; exact (keep_size (w := w) (g := g) (row := none) yc) : w.heap.size ≤ gb280) : w0.heap.size ≤ gb280)); have n6_ := zK ((by rw [hg]; exact Nat.ne_of_lt (IsS59.lt (show IsS59 w0 _ g s0_0 s0_1 s0_2 from by repeat (first | (with_reducible first | exact HI0.out | apply IsS59.alloc | apply IsS59.drewN | apply IsS59.drew | apply IsS59.set_1 | apply IsS59.set_2) | exact HI0.out))) : g ≠ gb280)); have n7_ := zK ((by rw [hg]; exact Nat.ne_of_gt (IsS59.lt (show IsS59 w0 _ g s0_0 s0_1 s0_2 from by repeat (first | (with_reducible first | exact HI0.out | apply IsS59.alloc | apply IsS59.drewN | apply IsS59.drew | apply IsS59.set_1 | apply IsS59.set_2) | exact HI0.out))) : gb280 ≠ g)); clear HI0; clear HK; clear HB; have HI0 := n0_; have HK := n1_; have HB := n2_; have BK280 := n3_; have GW280 := n4_; have GE280 := n5_; have NB0_280 := n6_; have NB280_0 := n7_; clear n0_ n1_ n2_ n3_ n4_ n5_ n6_ n7_; clear hb hbox hg) | ((with_reducible refine gate_callee (f := 81) rfl ?_); refine goesL_ (some 4) rfl rfl Try.func81 yi rfl #[.pointer (some ⟨g, 0, none⟩), .int .i64 3] rfl yb ?_; (with_reducible refine (spec_l1Cur_one.calls g s0_0 s0_1 s0_2 3 false t282 t283 w0 _ ?side1 ?side2 A2.out).mono ?_); (case side1 => exact xxm); (case side2 => exact xxn); rintro e w12 ⟨rfl, hi, hb, hk⟩; refine ⟨_, rfl, ?_⟩; have n0_ := zK (KeepBut.blk hk (g' := gb280) (o := .cells #[.string (⟨#[]⟩ : ByteArray), .int .i64 0, .int .i64 0, .int .i64 0] 47 (0, 0)) (yS BK280.out) NB280_0.out ye1); have n1_ := zK (KeepBut.trans yl1 hk (.inl rfl)); have n2_ := zK (hb); have n3_ := zK (hi); clear BK280; clear HK; clear HB; clear HI0; have BK280 := n0_; have HK := n1_; have HB := n2_; have HI0 := n3_; clear n0_ n1_ n2_ n3_; (try clear hb); (try clear hb2); (try clear hk); (try clear hi)) | ((with_reducible refine gate_callee (f := 55) rfl ?_); refine goesL_ (some 9) rfl rfl Try.func55 yi rfl #[.pointer (some ⟨g, 0, none⟩), .int .i64 2] rfl yb ?_; (with_reducible refine (spec_l1Cur_pick.calls g s0_0 t282 t283 2 t287 t288 t289 w0 _ ?side1 ?side2 A10.out).mono ?_); (case side1 => exact xxm); (case side2 => exact xxn); rintro e w13 ⟨rfl, hi, hb, hk⟩; refine ⟨_, rfl, ?_⟩; have n0_ := zK (KeepBut.blk hk (g' := gb280) (o := .cells #[.string (⟨#[]⟩ : ByteArray), .int .i64 0, .int .i64 0, .int .i64 0] 47 (0, 0)) (yS BK280.out) NB280_0.out ye1); have n1_ := zK (KeepBut.trans yl1 hk (.inl rfl)); have n2_ := zK (hb); have n3_ := zK (hi); clear BK280; clear HK; clear HB; clear HI0; have BK280 := n0_; have HK := n1_; have HB := n2_; have HI0 := n3_; clear n0_ n1_ n2_ n3_; (try clear hb); (try clear hb2); (try clear hk); (try clear hi); have hnb14 := NB280_0.out; have hnc14 := NB0_280.out; have hcz15_0 : w13.cell? ⟨gb280, 0, none⟩ = some (.string (⟨#[]⟩ : ByteArray)) := (zI BK280.out 0).trans rfl; have hcz15_1 : w13.cell? ⟨gb280, 1, none⟩ = some (.int .i64 0) := (zI BK280.out 1).trans rfl; have hcz15_2 : w13.cell? ⟨gb280, 2, none⟩ = some (.int .i64 0) := (zI BK280.out 2).trans rfl; have hcz15_3 : w13.cell? ⟨gb280, 3, none⟩ = some (.int .i64 0) := (zI BK280.out 3).trans rfl; have hfz15_0 := zH BK280.out 0; have hfz15_1 := zH BK280.out 1; have hfz15_2 := zH BK280.out 2; have hfz15_3 := zH BK280.out 3))
  refine bodyPost_ret (results_cell_row rfl _ _ gb280 47 #[.string (⟨#[105, 110]⟩ : ByteArray), .int .i64 0, .int .i64 0, .int .i64 t287] (0, 0) _ rfl (by (with_reducible repeat (first | refine zE ?_ _ | refine zF ?_ | refine zG ?_ _)); refine blk_put (cs := #[.string (⟨#[105, 110]⟩ : ByteArray), .int .i64 0, .int .i64 0, .int .i64 0]) ?_ 3 _ rfl; (with_reducible repeat (first | refine zE ?_ _ | refine zF ?_ | refine zG ?_ _)); refine blk_put (cs := #[.string (⟨#[105, 110]⟩ : ByteArray), .int .i64 0, .int .i64 0, .int .i64 0]) ?_ 2 _ rfl; (with_reducible repeat (first | refine zE ?_ _ | refine zF ?_ | refine zG ?_ _)); refine blk_put (cs := #[.string (⟨#[105, 110]⟩ : ByteArray), .int .i64 0, .int .i64 0, .int .i64 0]) ?_ 1 _ rfl; (with_reducible repeat (first | refine zE ?_ _ | refine zF ?_ | refine zG ?_ _)); refine blk_put (cs := #[.string (⟨#[]⟩ : ByteArray), .int .i64 0, .int .i64 0, .int .i64 0]) ?_ 0 _ rfl; (with_reducible repeat (first | refine zE ?_ _ | refine zF ?_ | refine zG ?_ _)); exact BK280.out) Try.underlying47 rfl yi) rfl ?_
  exact ⟨yd, by repeat (first | (with_reducible first | exact HI0.out | apply IsS59.alloc | apply IsS59.drewN | apply IsS59.drew | apply IsS59.set_1 | apply IsS59.set_2 | refine IsS59.far ?_ NB0_280.out _) | exact HI0.out), by repeat (first | (with_reducible first | exact HB.out | apply zA | apply zB | apply zC | refine zD ?_ (IsS59.ge HI0.out) | refine zD ?_ GE280.out) | exact HB.out), yl1⟩

end Go.Proofs.Ytlcplhcccgbmnaa.D
