/- Contracts: strconv_Itoa_98, impl_Instr_text, stringslite_HasPrefix, stringslite_TrimPrefix, strings_TrimPrefix, impl_ParseInstr, laws_eqInstr, laws_FnExactParseInstr. -/
import Derived.Test.YtjeklcgflocfoaaDoorPK
import Derived.Test.YtjeklcgflocfoaaDoorPSpecCdShape
import Derived.Test.YtjeklcgflocfoaaDoorPSpecCdText
import Derived.Test.YtjeklcgflocfoaaDoorPSpecParse
import Derived.Test.YtjeklcgflocfoaaDoorPImplFormOf
import Derived.Test.YtjeklcgflocfoaaDoorPImplFormImm
import Derived.Test.YtjeklcgflocfoaaDoorPImplIsInstr
import Derived.Test.YtjeklcgflocfoaaDoorPItoa
namespace Go.Proofs.YtjeklcgflocfoaaDoor.P
open Go.RowKit Go.Proofs.YtjeklcgflocfoaaDoorW.PrintWords Go.Proofs.YtjeklcgflocfoaaDoorW.PrintLast Go.Proofs.YtjeklcgflocfoaaDoorW.PrintMore
attribute [local go_sem] max2_int min2_int max_two min_two max_three min_three max_four min_four   -- for this text's walks alone
set_option linter.unusedVariables false
set_option linter.unusedSimpArgs false

/-! ### strconv_Itoa_98: function 98 -/
-- needs: Derived.Test.YtjeklcgflocfoaaDoorPItoa
/- Function 98, strconv.Itoa, is told by hand behind spec_l1Num.calls . -/

/-! ### impl_Instr_text: function 49 -/
mutual
def impl_Instr_text.j0 : Nat → ByteArray → ByteArray → Int → Int → Int → Int → Bool → Bool → Int → Int → Int → ByteArray → Option (ByteArray)
  | 0, _, _, _, _, _, _, _, _, _, _, _, _ => none
  | k + 1, x5, x242000, x242001, x242002, x242003, x242004, x250000, x250001, x250002, x250003, x250004, x250005 => if x250001 = true then ((strconv_Itoa_98.f k x242003).bind fun t252 => (if 2 + t252.size ≤ 9223372036854775807 then (if x5.size + ((⟨#[32, 114]⟩ : ByteArray) ++ t252).size ≤ 9223372036854775807 then (impl_Instr_text.j1 k (x5 ++ ((⟨#[32, 114]⟩ : ByteArray) ++ t252)) x242000 x242001 x242002 x242003 x242004 x250000 x250001 x250002 x250003 x250004 x250005) else (none)) else (none))) else (impl_Instr_text.j1 k x5 x242000 x242001 x242002 x242003 x242004 x250000 x250001 x250002 x250003 x250004 x250005)
def impl_Instr_text.j1 : Nat → ByteArray → ByteArray → Int → Int → Int → Int → Bool → Bool → Int → Int → Int → ByteArray → Option (ByteArray)
  | 0, _, _, _, _, _, _, _, _, _, _, _, _ => none
  | k + 1, x5, x242000, x242001, x242002, x242003, x242004, x250000, x250001, x250002, x250003, x250004, x250005 => (impl_form_imm.f x250000 x250001 x250002 x250003 x250004 x250005).bind fun t253 => (if t253 = true then ((strconv_Itoa_98.f k x242004).bind fun t254 => (if 1 + t254.size ≤ 9223372036854775807 then (if x5.size + ((⟨#[32]⟩ : ByteArray) ++ t254).size ≤ 9223372036854775807 then (some (x5 ++ ((⟨#[32]⟩ : ByteArray) ++ t254))) else (none)) else (none))) else (some x5))
end
def impl_Instr_text.f (k : Nat) (a0_0 : ByteArray) (a0_1 : Int) (a0_2 : Int) (a0_3 : Int) (a0_4 : Int) : Option (ByteArray) := (impl_formOf.f k a0_0).bind fun bt242 => (if a0_0.size + 2 ≤ 9223372036854775807 then ((strconv_Itoa_98.f k a0_1).bind fun t250 => (if (a0_0 ++ (⟨#[32, 114]⟩ : ByteArray)).size + t250.size ≤ 9223372036854775807 then (if bt242.1 = true then ((strconv_Itoa_98.f k a0_2).bind fun t251 => (if 2 + t251.size ≤ 9223372036854775807 then (if ((a0_0 ++ (⟨#[32, 114]⟩ : ByteArray)) ++ t250).size + ((⟨#[32, 114]⟩ : ByteArray) ++ t251).size ≤ 9223372036854775807 then (impl_Instr_text.j0 k (((a0_0 ++ (⟨#[32, 114]⟩ : ByteArray)) ++ t250) ++ ((⟨#[32, 114]⟩ : ByteArray) ++ t251)) a0_0 a0_1 a0_2 a0_3 a0_4 bt242.1 bt242.2.1 bt242.2.2.1 bt242.2.2.2.1 bt242.2.2.2.2.1 bt242.2.2.2.2.2.1) else (none)) else (none))) else (impl_Instr_text.j0 k ((a0_0 ++ (⟨#[32, 114]⟩ : ByteArray)) ++ t250) a0_0 a0_1 a0_2 a0_3 a0_4 bt242.1 bt242.2.1 bt242.2.2.1 bt242.2.2.2.1 bt242.2.2.2.2.1 bt242.2.2.2.2.2.1)) else (none))) else (none))
theorem impl_Instr_text.mono_l : ∀ k, (∀ y0 y1 y2 y3 y4 y5 y6 y7 y8 y9 y10 y11, LeO (impl_Instr_text.j0 k y0 y1 y2 y3 y4 y5 y6 y7 y8 y9 y10 y11) (impl_Instr_text.j0 (k + 1) y0 y1 y2 y3 y4 y5 y6 y7 y8 y9 y10 y11)) ∧ (∀ y0 y1 y2 y3 y4 y5 y6 y7 y8 y9 y10 y11, LeO (impl_Instr_text.j1 k y0 y1 y2 y3 y4 y5 y6 y7 y8 y9 y10 y11) (impl_Instr_text.j1 (k + 1) y0 y1 y2 y3 y4 y5 y6 y7 y8 y9 y10 y11))
  | 0 => ⟨fun _ _ _ _ _ _ _ _ _ _ _ _ r h => by simp [impl_Instr_text.j0] at h, fun _ _ _ _ _ _ _ _ _ _ _ _ r h => by simp [impl_Instr_text.j1] at h⟩
  | k + 1 => by
    obtain ⟨ih0, ih1⟩ := impl_Instr_text.mono_l k
    refine ⟨?_, ?_⟩
    · intro y0 y1 y2 y3 y4 y5 y6 y7 y8 y9 y10 y11
      unfold impl_Instr_text.j0
      repeat' first
      | (with_reducible exact ih0 _ _ _ _ _ _ _ _ _ _ _ _)
      | (with_reducible exact ih1 _ _ _ _ _ _ _ _ _ _ _ _)
      | (with_reducible exact impl_formOf.mono _ _)
      | (with_reducible exact strconv_Itoa_98.mono _ _)
      | (with_reducible exact LeO.refl _)
      | (with_reducible exact LeO.none _)
      | (with_reducible refine LeO.ite ?_ ?_)
      | (with_reducible refine LeO.bind ?_ (fun _ => ?_))
      | exact ih0 _ _ _ _ _ _ _ _ _ _ _ _
      | exact ih1 _ _ _ _ _ _ _ _ _ _ _ _
      | exact impl_formOf.mono _ _
      | exact strconv_Itoa_98.mono _ _
      | exact LeO.none _
      | refine LeO.ite ?_ ?_
      | refine LeO.bind ?_ (fun _ => ?_)
    · intro y0 y1 y2 y3 y4 y5 y6 y7 y8 y9 y10 y11
      unfold impl_Instr_text.j1
      repeat' first
      | (with_reducible exact ih0 _ _ _ _ _ _ _ _ _ _ _ _)
      | (with_reducible exact ih1 _ _ _ _ _ _ _ _ _ _ _ _)
      | (with_reducible exact impl_formOf.mono _ _)
      | (with_reducible exact strconv_Itoa_98.mono _ _)
      | (with_reducible exact LeO.refl _)
      | (with_reducible exact LeO.none _)
      | (with_reducible refine LeO.ite ?_ ?_)
      | (with_reducible refine LeO.bind ?_ (fun _ => ?_))
      | exact ih0 _ _ _ _ _ _ _ _ _ _ _ _
      | exact ih1 _ _ _ _ _ _ _ _ _ _ _ _
      | exact impl_formOf.mono _ _
      | exact strconv_Itoa_98.mono _ _
      | exact LeO.none _
      | refine LeO.ite ?_ ?_
      | refine LeO.bind ?_ (fun _ => ?_)
theorem impl_Instr_text.mono : ∀ a0 a1 a2 a3 a4 k, LeO (impl_Instr_text.f k a0 a1 a2 a3 a4) (impl_Instr_text.f (k + 1) a0 a1 a2 a3 a4) := by
  intro a0 a1 a2 a3 a4 k
  obtain ⟨ih0, ih1⟩ := impl_Instr_text.mono_l k
  unfold impl_Instr_text.f
  repeat' first
      | (with_reducible exact ih0 _ _ _ _ _ _ _ _ _ _ _ _)
      | (with_reducible exact ih1 _ _ _ _ _ _ _ _ _ _ _ _)
      | (with_reducible exact impl_formOf.mono _ _)
      | (with_reducible exact strconv_Itoa_98.mono _ _)
      | (with_reducible exact LeO.refl _)
      | (with_reducible exact LeO.none _)
      | (with_reducible refine LeO.ite ?_ ?_)
      | (with_reducible refine LeO.bind ?_ (fun _ => ?_))
      | exact ih0 _ _ _ _ _ _ _ _ _ _ _ _
      | exact ih1 _ _ _ _ _ _ _ _ _ _ _ _
      | exact impl_formOf.mono _ _
      | exact strconv_Itoa_98.mono _ _
      | exact LeO.none _
      | refine LeO.ite ?_ ?_
      | refine LeO.bind ?_ (fun _ => ?_)
def impl_Instr_text.T2 : Bool × List (List Nat × List Nat) := (true, [([], []), ([0], [0]), ([1], [1]), ([], []), ([3], [3]), ([4], [4]), ([2, 5], [2, 5]), ([6, 5, 0, 1, 2, 3, 4, 5, 6], [6])])
def impl_Instr_text.B2 : List Nat := [0, 1, 3, 0, 8, 24, 63, 127]
theorem impl_Instr_text.tab2 : rtab .any (opsOf Tryd.f49 2) = impl_Instr_text.T2 := by kernel_rfl
theorem impl_Instr_text.bits2 : waitsOk impl_Instr_text.T2.2 impl_Instr_text.B2 = true := by kernel_rfl
set_option maxHeartbeats 8000000 in
set_option maxRecDepth 100000 in
theorem impl_Instr_text.calls (k : Nat) (a0_0 : ByteArray) (a0_1 : Int) (a0_2 : Int) (a0_3 : Int) (a0_4 : Int) (r : ByteArray) (w : World) (h : impl_Instr_text.f k a0_0 a0_1 a0_2 a0_3 a0_4 = some r) :
    Calls Tryd.prog 49 #[.agg #[.string a0_0, .int .i64 a0_1, .int .i64 a0_2, .int .i64 a0_3, .int .i64 a0_4]] w fun e w' => e = .returned (.string r) ∧ Below w.heap.size w w' := by
  have hu35 := Tryd.underlying35
  have hu89 := Tryd.underlying89
  have HB := Aside0.mk (Below.refl w.heap.size w)
  have H : ((impl_formOf.f k a0_0).bind fun bt242 => (if a0_0.size + 2 ≤ 9223372036854775807 then ((strconv_Itoa_98.f k a0_1).bind fun t250 => (if (a0_0 ++ (⟨#[32, 114]⟩ : ByteArray)).size + t250.size ≤ 9223372036854775807 then (if bt242.1 = true then ((strconv_Itoa_98.f k a0_2).bind fun t251 => (if 2 + t251.size ≤ 9223372036854775807 then (if ((a0_0 ++ (⟨#[32, 114]⟩ : ByteArray)) ++ t250).size + ((⟨#[32, 114]⟩ : ByteArray) ++ t251).size ≤ 9223372036854775807 then (impl_Instr_text.j0 k (((a0_0 ++ (⟨#[32, 114]⟩ : ByteArray)) ++ t250) ++ ((⟨#[32, 114]⟩ : ByteArray) ++ t251)) a0_0 a0_1 a0_2 a0_3 a0_4 bt242.1 bt242.2.1 bt242.2.2.1 bt242.2.2.2.1 bt242.2.2.2.2.1 bt242.2.2.2.2.2.1) else (none)) else (none))) else (impl_Instr_text.j0 k ((a0_0 ++ (⟨#[32, 114]⟩ : ByteArray)) ++ t250) a0_0 a0_1 a0_2 a0_3 a0_4 bt242.1 bt242.2.1 bt242.2.2.1 bt242.2.2.2.1 bt242.2.2.2.2.1 bt242.2.2.2.2.2.1)) else (none))) else (none))) = some r := h
  clear h
  replace H := Option.bind_eq_some_iff.mp H
  obtain ⟨⟨t242, t243, t244, t245, t246, t247, t248⟩, A20, H⟩ := H
  replace H : (if a0_0.size + 2 ≤ 9223372036854775807 then ((strconv_Itoa_98.f k a0_1).bind fun t250 => (if (a0_0 ++ (⟨#[32, 114]⟩ : ByteArray)).size + t250.size ≤ 9223372036854775807 then (if t242 = true then ((strconv_Itoa_98.f k a0_2).bind fun t251 => (if 2 + t251.size ≤ 9223372036854775807 then (if ((a0_0 ++ (⟨#[32, 114]⟩ : ByteArray)) ++ t250).size + ((⟨#[32, 114]⟩ : ByteArray) ++ t251).size ≤ 9223372036854775807 then (impl_Instr_text.j0 k (((a0_0 ++ (⟨#[32, 114]⟩ : ByteArray)) ++ t250) ++ ((⟨#[32, 114]⟩ : ByteArray) ++ t251)) a0_0 a0_1 a0_2 a0_3 a0_4 t242 t243 t244 t245 t246 t247) else (none)) else (none))) else (impl_Instr_text.j0 k ((a0_0 ++ (⟨#[32, 114]⟩ : ByteArray)) ++ t250) a0_0 a0_1 a0_2 a0_3 a0_4 t242 t243 t244 t245 t246 t247)) else (none))) else (none)) = some r := H
  have A2 := Aside0.mk A20
  clear A20
  by_cases c3 : a0_0.size + 2 ≤ 9223372036854775807
  · rw [if_pos c3] at H
    have c3b0 := eq_true c3
    have c3b1 : decide (a0_0.size + 2 ≤ 9223372036854775807) = true := decide_eq_true c3
    try have c3b2 : (9223372036854775807 < a0_0.size + 2) = False := eq_false (Nat.not_lt.2 c3)
    replace H := Option.bind_eq_some_iff.mp H
    obtain ⟨t250, A40, H⟩ := H
    replace H : (if (a0_0 ++ (⟨#[32, 114]⟩ : ByteArray)).size + t250.size ≤ 9223372036854775807 then (if t242 = true then ((strconv_Itoa_98.f k a0_2).bind fun t251 => (if 2 + t251.size ≤ 9223372036854775807 then (if ((a0_0 ++ (⟨#[32, 114]⟩ : ByteArray)) ++ t250).size + ((⟨#[32, 114]⟩ : ByteArray) ++ t251).size ≤ 9223372036854775807 then (impl_Instr_text.j0 k (((a0_0 ++ (⟨#[32, 114]⟩ : ByteArray)) ++ t250) ++ ((⟨#[32, 114]⟩ : ByteArray) ++ t251)) a0_0 a0_1 a0_2 a0_3 a0_4 t242 t243 t244 t245 t246 t247) else (none)) else (none))) else (impl_Instr_text.j0 k ((a0_0 ++ (⟨#[32, 114]⟩ : ByteArray)) ++ t250) a0_0 a0_1 a0_2 a0_3 a0_4 t242 t243 t244 t245 t246 t247)) else (none)) = some r := H
    have A4 := Aside0.mk A40
    clear A40
    by_cases c5 : (a0_0 ++ (⟨#[32, 114]⟩ : ByteArray)).size + t250.size ≤ 9223372036854775807
    · rw [if_pos c5] at H
      have c5b0 := eq_true c5
      have c5b1 : decide ((a0_0 ++ (⟨#[32, 114]⟩ : ByteArray)).size + t250.size ≤ 9223372036854775807) = true := decide_eq_true c5
      try have c5b2 : (9223372036854775807 < (a0_0 ++ (⟨#[32, 114]⟩ : ByteArray)).size + t250.size) = False := eq_false (Nat.not_lt.2 c5)
      try have c5b3 : (9223372036854775807 < a0_0.size + 2 + t250.size) = False := eq_false (by have h_ := c5; simp only [ByteArray.size_append] at h_; have q0_ : (⟨#[32, 114]⟩ : ByteArray).size = 2 := rfl; omega)
      have HC6 := Aside0.mk H
      clear H
      go_enter Tryd.func49, Tryd.ntmps49
      try go_wp2_with (first | ((with_reducible refine gate_dst (N := 1) rfl ?_); refine box_event ?hg (N := 1) ?hd (cs := #[.string a0_0, .int .i64 a0_1, .int .i64 a0_2, .int .i64 a0_3, .int .i64 a0_4]) (t := 35) ?hr ?_; (case hd => rfl); (case hg => rfl); (case hr => first | (go_simp; done) | (go_simp; rfl)); intro gb241 hg w7 hbox hb; have n0_ := Aside0.mk (below_step (by repeat (first | (with_reducible first | exact HB.out | apply below_alloc | apply pw_below_drewN | apply below_drew1) | exact HB.out)) hb); have n1_ := Aside0.mk (hbox); have n2_ := Aside0.mk ((by rw [hg]; exact (below_size (by repeat (first | (with_reducible first | exact HB.out | apply below_alloc | apply pw_below_drewN | apply below_drew1) | exact HB.out))) : w.heap.size ≤ gb241)); have n3_ := Aside0.mk ((by rw [hg]; exact (below_size (by repeat (first | (with_reducible first | exact HB.out | apply below_alloc | apply pw_below_drewN | apply below_drew1) | exact HB.out))) : w.heap.size ≤ gb241)); clear HB; have HB := n0_; have BK241 := n1_; have GW241 := n2_; have GE241 := n3_; clear n0_ n1_ n2_ n3_; clear hb hbox hg; have hcz8_0 : w7.cell? ⟨gb241, 0, none⟩ = some (.string a0_0) := (blk_cell BK241.out 0).trans rfl; have hcz8_1 : w7.cell? ⟨gb241, 1, none⟩ = some (.int .i64 a0_1) := (blk_cell BK241.out 1).trans rfl; have hcz8_2 : w7.cell? ⟨gb241, 2, none⟩ = some (.int .i64 a0_2) := (blk_cell BK241.out 2).trans rfl; have hcz8_3 : w7.cell? ⟨gb241, 3, none⟩ = some (.int .i64 a0_3) := (blk_cell BK241.out 3).trans rfl; have hcz8_4 : w7.cell? ⟨gb241, 4, none⟩ = some (.int .i64 a0_4) := (blk_cell BK241.out 4).trans rfl; have hfz8_0 := blk_frozen BK241.out 0; have hfz8_1 := blk_frozen BK241.out 1; have hfz8_2 := blk_frozen BK241.out 2; have hfz8_3 := blk_frozen BK241.out 3; have hfz8_4 := blk_frozen BK241.out 4) | ((with_reducible refine gate_callee (f := 64) rfl ?_); refine goesL_ (some 9) rfl rfl Tryd.func64 (by kernel_rfl) rfl #[.string a0_0] rfl (by (try simp only [List.map_toArray, List.map_cons, List.map_nil]); first | done | rfl | (simp only [List.length_drop, List.length_take]; rfl)) ?_; (with_reducible refine (impl_formOf.calls k a0_0 t242 t243 t244 t245 t246 t247 t248 _ A2.out).mono ?_); rintro e w9 ⟨rfl, hb⟩; refine ⟨_, rfl, ?_⟩; have n0_ := Aside0.mk (blk_below (g := gb241) (o := .cells #[.string a0_0, .int .i64 a0_1, .int .i64 a0_2, .int .i64 a0_3, .int .i64 a0_4] 35 (0, 0)) (by (with_reducible repeat (first | refine blk_drewN ?_ _ | refine blk_drew ?_ | refine blk_alloc ?_ _)); exact BK241.out) hb); have n1_ := Aside0.mk (below_step (by repeat (first | (with_reducible first | exact HB.out | apply below_alloc | apply pw_below_drewN | apply below_drew1 | refine below_set ?_ GE241.out) | exact HB.out)) hb); clear BK241; clear HB; have BK241 := n0_; have HB := n1_; clear n0_ n1_; (try clear hb); (try clear hb2); (try clear hk); (try clear hi)) | ((with_reducible refine gate_dst (N := 3) rfl ?_); refine box_event ?hg (N := 3) ?hd (cs := #[.bool false, .bool false, .int .i64 0, .int .i64 0, .int .i64 0, .string (⟨#[]⟩ : ByteArray)]) (t := 89) ?hr ?_; (case hd => rfl); (case hg => rfl); (case hr => first | (go_simp; done) | (go_simp; rfl)); intro gb249 hg w10 hbox hb; have n0_ := Aside0.mk (blk_below (g := gb241) (o := .cells #[.string a0_0, .int .i64 a0_1, .int .i64 a0_2, .int .i64 a0_3, .int .i64 a0_4] 35 (0, 0)) (by (with_reducible repeat (first | refine blk_drewN ?_ _ | refine blk_drew ?_ | refine blk_alloc ?_ _)); exact BK241.out) hb); have n1_ := Aside0.mk (below_step (by repeat (first | (with_reducible first | exact HB.out | apply below_alloc | apply pw_below_drewN | apply below_drew1 | refine below_set ?_ GE241.out) | exact HB.out)) hb); have n2_ := Aside0.mk (hbox); have n3_ := Aside0.mk ((by rw [hg]; exact (below_size (by repeat (first | (with_reducible first | exact HB.out | apply below_alloc | apply pw_below_drewN | apply below_drew1 | refine below_set ?_ GE241.out) | exact HB.out))) : w.heap.size ≤ gb249)); have n4_ := Aside0.mk ((by rw [hg]; exact (below_size (by repeat (first | (with_reducible first | exact HB.out | apply below_alloc | apply pw_below_drewN | apply below_drew1 | refine below_set ?_ GE241.out) | exact HB.out))) : w.heap.size ≤ gb249)); have n5_ := Aside0.mk ((by rw [hg]; exact Nat.ne_of_lt (blk_lt (g := gb241) (o := .cells #[.string a0_0, .int .i64 a0_1, .int .i64 a0_2, .int .i64 a0_3, .int .i64 a0_4] 35 (0, 0)) (by (with_reducible repeat (first | refine blk_drewN ?_ _ | refine blk_drew ?_ | refine blk_alloc ?_ _)); exact BK241.out)) : gb241 ≠ gb249)); have n6_ := Aside0.mk ((by rw [hg]; exact Nat.ne_of_gt (blk_lt (g := gb241) (o := .cells #[.string a0_0, .int .i64 a0_1, .int .i64 a0_2, .int .i64 a0_3, .int .i64 a0_4] 35 (0, 0)) (by (with_reducible repeat (first | refine blk_drewN ?_ _ | refine blk_drew ?_ | refine blk_alloc ?_ _)); exact BK241.out)) : gb249 ≠ gb241)); clear BK241; clear HB; have BK241 := n0_; have HB := n1_; have BK249 := n2_; have GW249 := n3_; have GE249 := n4_; have NB241_249 := n5_; have NB249_241 := n6_; clear n0_ n1_ n2_ n3_ n4_ n5_ n6_; clear hb hbox hg; have hnb11 := NB249_241.out; have hnc11 := NB241_249.out; have hcz12_0 : w10.cell? ⟨gb249, 0, none⟩ = some (.bool false) := (blk_cell BK249.out 0).trans rfl; have hcz12_1 : w10.cell? ⟨gb249, 1, none⟩ = some (.bool false) := (blk_cell BK249.out 1).trans rfl; have hcz12_2 : w10.cell? ⟨gb249, 2, none⟩ = some (.int .i64 0) := (blk_cell BK249.out 2).trans rfl; have hcz12_3 : w10.cell? ⟨gb249, 3, none⟩ = some (.int .i64 0) := (blk_cell BK249.out 3).trans rfl; have hcz12_4 : w10.cell? ⟨gb249, 4, none⟩ = some (.int .i64 0) := (blk_cell BK249.out 4).trans rfl; have hcz12_5 : w10.cell? ⟨gb249, 5, none⟩ = some (.string (⟨#[]⟩ : ByteArray)) := (blk_cell BK249.out 5).trans rfl; have hfz12_0 := blk_frozen BK249.out 0; have hfz12_1 := blk_frozen BK249.out 1; have hfz12_2 := blk_frozen BK249.out 2; have hfz12_3 := blk_frozen BK249.out 3; have hfz12_4 := blk_frozen BK249.out 4; have hfz12_5 := blk_frozen BK249.out 5))
      have n0_ : Aside0 (((((((w10.setCell ⟨gb249, 0, none⟩ (.bool t242)).setCell ⟨gb249, 1, none⟩ (.bool t243)).setCell ⟨gb249, 2, none⟩ (.int .i64 t244)).setCell ⟨gb249, 3, none⟩ (.int .i64 t245)).setCell ⟨gb249, 4, none⟩ (.int .i64 t246)).setCell ⟨gb249, 5, none⟩ (.string t247)).heap[gb241]? = some (.cells #[.string a0_0, .int .i64 a0_1, .int .i64 a0_2, .int .i64 a0_3, .int .i64 a0_4] 35 (0, 0))) := ⟨by (with_reducible repeat (first | refine blk_drewN ?_ _ | refine blk_drew ?_ | refine blk_alloc ?_ _)); refine blk_far ?_ NB241_249.out _; (with_reducible repeat (first | refine blk_drewN ?_ _ | refine blk_drew ?_ | refine blk_alloc ?_ _)); refine blk_far ?_ NB241_249.out _; (with_reducible repeat (first | refine blk_drewN ?_ _ | refine blk_drew ?_ | refine blk_alloc ?_ _)); refine blk_far ?_ NB241_249.out _; (with_reducible repeat (first | refine blk_drewN ?_ _ | refine blk_drew ?_ | refine blk_alloc ?_ _)); refine blk_far ?_ NB241_249.out _; (with_reducible repeat (first | refine blk_drewN ?_ _ | refine blk_drew ?_ | refine blk_alloc ?_ _)); refine blk_far ?_ NB241_249.out _; (with_reducible repeat (first | refine blk_drewN ?_ _ | refine blk_drew ?_ | refine blk_alloc ?_ _)); refine blk_far ?_ NB241_249.out _; (with_reducible repeat (first | refine blk_drewN ?_ _ | refine blk_drew ?_ | refine blk_alloc ?_ _)); exact BK241.out⟩
      have n1_ : Aside0 (((((((w10.setCell ⟨gb249, 0, none⟩ (.bool t242)).setCell ⟨gb249, 1, none⟩ (.bool t243)).setCell ⟨gb249, 2, none⟩ (.int .i64 t244)).setCell ⟨gb249, 3, none⟩ (.int .i64 t245)).setCell ⟨gb249, 4, none⟩ (.int .i64 t246)).setCell ⟨gb249, 5, none⟩ (.string t247)).heap[gb249]? = some (.cells #[.bool t242, .bool t243, .int .i64 t244, .int .i64 t245, .int .i64 t246, .string t247] 89 (0, 0))) := ⟨by (with_reducible repeat (first | refine blk_drewN ?_ _ | refine blk_drew ?_ | refine blk_alloc ?_ _)); refine blk_put (cs := #[.bool t242, .bool t243, .int .i64 t244, .int .i64 t245, .int .i64 t246, .string (⟨#[]⟩ : ByteArray)]) ?_ 5 _ rfl; (with_reducible repeat (first | refine blk_drewN ?_ _ | refine blk_drew ?_ | refine blk_alloc ?_ _)); refine blk_put (cs := #[.bool t242, .bool t243, .int .i64 t244, .int .i64 t245, .int .i64 0, .string (⟨#[]⟩ : ByteArray)]) ?_ 4 _ rfl; (with_reducible repeat (first | refine blk_drewN ?_ _ | refine blk_drew ?_ | refine blk_alloc ?_ _)); refine blk_put (cs := #[.bool t242, .bool t243, .int .i64 t244, .int .i64 0, .int .i64 0, .string (⟨#[]⟩ : ByteArray)]) ?_ 3 _ rfl; (with_reducible repeat (first | refine blk_drewN ?_ _ | refine blk_drew ?_ | refine blk_alloc ?_ _)); refine blk_put (cs := #[.bool t242, .bool t243, .int .i64 0, .int .i64 0, .int .i64 0, .string (⟨#[]⟩ : ByteArray)]) ?_ 2 _ rfl; (with_reducible repeat (first | refine blk_drewN ?_ _ | refine blk_drew ?_ | refine blk_alloc ?_ _)); refine blk_put (cs := #[.bool t242, .bool false, .int .i64 0, .int .i64 0, .int .i64 0, .string (⟨#[]⟩ : ByteArray)]) ?_ 1 _ rfl; (with_reducible repeat (first | refine blk_drewN ?_ _ | refine blk_drew ?_ | refine blk_alloc ?_ _)); refine blk_put (cs := #[.bool false, .bool false, .int .i64 0, .int .i64 0, .int .i64 0, .string (⟨#[]⟩ : ByteArray)]) ?_ 0 _ rfl; (with_reducible repeat (first | refine blk_drewN ?_ _ | refine blk_drew ?_ | refine blk_alloc ?_ _)); exact BK249.out⟩
      have n2_ : Aside0 (Below w.heap.size w ((((((w10.setCell ⟨gb249, 0, none⟩ (.bool t242)).setCell ⟨gb249, 1, none⟩ (.bool t243)).setCell ⟨gb249, 2, none⟩ (.int .i64 t244)).setCell ⟨gb249, 3, none⟩ (.int .i64 t245)).setCell ⟨gb249, 4, none⟩ (.int .i64 t246)).setCell ⟨gb249, 5, none⟩ (.string t247))) := ⟨by repeat (first | (with_reducible first | exact HB.out | apply below_alloc | apply pw_below_drewN | apply below_drew1 | refine below_set ?_ GE241.out | refine below_set ?_ GE249.out) | exact HB.out)⟩
      (try clear BK241)
      (try clear BK249)
      (try clear HB)
      generalize ((((((w10.setCell ⟨gb249, 0, none⟩ (.bool t242)).setCell ⟨gb249, 1, none⟩ (.bool t243)).setCell ⟨gb249, 2, none⟩ (.int .i64 t244)).setCell ⟨gb249, 3, none⟩ (.int .i64 t245)).setCell ⟨gb249, 4, none⟩ (.int .i64 t246)).setCell ⟨gb249, 5, none⟩ (.string t247)) = w13 at n0_ n1_ n2_ ⊢
      have BK241 := n0_
      have BK249 := n1_
      have HB := n2_
      clear n0_ n1_ n2_
      have n0_ := Aside0.mk (blk_drew BK241.out)
      have n1_ := Aside0.mk (blk_drew BK249.out)
      have n2_ := Aside0.mk (below_drew1 HB.out)
      clear BK241
      clear BK249
      clear HB
      have BK241 := n0_
      have BK249 := n1_
      have HB := n2_
      clear n0_ n1_ n2_
      refine start_ (n := 8) (S := fun w' => w'.cell? ⟨gb241, 0, none⟩ = some (.string a0_0) ∧ w'.cell? ⟨gb241, 1, none⟩ = some (.int .i64 a0_1) ∧ w'.cell? ⟨gb241, 2, none⟩ = some (.int .i64 a0_2) ∧ w'.cell? ⟨gb241, 3, none⟩ = some (.int .i64 a0_3) ∧ w'.cell? ⟨gb241, 4, none⟩ = some (.int .i64 a0_4)) (ds := []) #[false, false, false, false, false, false, false, false] (by kernel_rfl) rfl rfl ⟨(blk_cell BK241.out 0).trans rfl, (blk_cell BK241.out 1).trans rfl, (blk_cell BK241.out 2).trans rfl, (blk_cell BK241.out 3).trans rfl, (blk_cell BK241.out 4).trans rfl⟩ (fun hHeld => ?_); refine with_tabW impl_Instr_text.tab2 impl_Instr_text.bits2 (fun HT_ HW_ => ?_)
      generalize w13.drew = w14 at BK241 BK249 HB hHeld ⊢
      refine pure_ (i := 0) (N := some 12) (v := ?_) (a' := ?_) #[true, false, false, false, false, false, false, false] rfl rfl (any_of HT_.out (by kernel_rfl)) (fun _ _ _ h => h) (Or.inl ⟨by rfl, ?_⟩) ?_ ?_
      rotate_left
      · intro w'
        go_simp
        with_reducible rfl
      rotate_left
      · simp only [Act.put, List.setIfInBounds_toArray, List.set_cons_zero, List.set_cons_succ, i64_w, i32_w]
        rfl
      refine pure_ (i := 3) (N := some 15) (v := ?_) (a' := ?_) #[true, false, false, true, false, false, false, false] rfl rfl (any_of HT_.out (by kernel_rfl)) (fun _ _ _ h => h) (Or.inl ⟨by rfl, ?_⟩) ?_ ?_
      rotate_left
      · intro w'
        go_simp
        with_reducible rfl
      rotate_left
      · simp only [Act.put, List.setIfInBounds_toArray, List.set_cons_zero, List.set_cons_succ, i64_w, i32_w]
        rfl
      refine take_ (i := 1) (N := some 13) (v := ?_) (a' := ?_) #[true, true, false, true, false, false, false, false] rfl rfl (take_ofW HT_.out HW_.out (by kernel_rfl)) (fun _ _ _ h => h) (Or.inl ⟨by rfl, ?_⟩) hHeld ?_ ?_
      rotate_left
      · rintro w' ⟨s0, s1, s2, s3, s4⟩
        go_simp
        with_reducible rfl
      rotate_left
      · simp only [Act.put, List.setIfInBounds_toArray, List.set_cons_zero, List.set_cons_succ, i64_w, i32_w]
        rfl
      refine pure_ (i := 2) (N := some 14) (v := ?_) (a' := ?_) #[true, true, true, true, false, false, false, false] rfl rfl (any_of HT_.out (by kernel_rfl)) (fun _ _ _ h => h) (Or.inl ⟨by rfl, ?_⟩) ?_ ?_
      rotate_left
      · intro w'
        go_simp
        with_reducible rfl
      rotate_left
      · simp only [Act.put, List.setIfInBounds_toArray, List.set_cons_zero, List.set_cons_succ, i64_w, i32_w]
        rfl
      refine take_ (i := 4) (N := some 16) (v := ?_) (a' := ?_) #[true, true, true, true, true, false, false, false] rfl rfl (take_ofW HT_.out HW_.out (by kernel_rfl)) (fun _ _ _ h => h) (Or.inl ⟨by rfl, ?_⟩) hHeld ?_ ?_
      rotate_left
      · rintro w' ⟨s0, s1, s2, s3, s4⟩
        go_simp
        with_reducible rfl
      rotate_left
      · simp only [Act.put, List.setIfInBounds_toArray, List.set_cons_zero, List.set_cons_succ, i64_w, i32_w]
        rfl
      refine one_ (i := 5) (N := some 17) #[true, true, true, true, true, true, false, false] rfl rfl (one_of HT_.out (by kernel_rfl)) (by decide) (fun K hK => ?_)
      refine goes_ Tryd.func98 (by kernel_rfl) rfl #[.int .i64 a0_1] (by rfl) rfl rfl (by (try simp only [List.map_toArray, List.map_cons, List.map_nil]); first | done | rfl | (simp only [List.length_drop, List.length_take]; rfl)) ?_
      with_reducible refine (strconv_Itoa_98.calls k a0_1 t250 _ A4.out).mono ?_
      rintro e w15 ⟨rfl, hb⟩
      refine ⟨_, rfl, ?_⟩
      have n0_ := Aside0.mk (blk_below (g := gb241) (o := .cells #[.string a0_0, .int .i64 a0_1, .int .i64 a0_2, .int .i64 a0_3, .int .i64 a0_4] 35 (0, 0)) (by (with_reducible repeat (first | refine blk_drewN ?_ _ | refine blk_drew ?_ | refine blk_alloc ?_ _)); exact BK241.out) hb)
      have n1_ := Aside0.mk (blk_below (g := gb249) (o := .cells #[.bool t242, .bool t243, .int .i64 t244, .int .i64 t245, .int .i64 t246, .string t247] 89 (0, 0)) (by (with_reducible repeat (first | refine blk_drewN ?_ _ | refine blk_drew ?_ | refine blk_alloc ?_ _)); exact BK249.out) hb)
      have n2_ := Aside0.mk (below_step (by repeat (first | (with_reducible first | exact HB.out | apply below_alloc | apply pw_below_drewN | apply below_drew1 | refine below_set ?_ GE241.out | refine below_set ?_ GE249.out) | exact HB.out)) hb)
      clear BK241
      clear BK249
      clear HB
      have BK241 := n0_
      have BK249 := n1_
      have HB := n2_
      clear n0_ n1_ n2_
      (try clear hb)
      (try clear hb2)
      (try clear hk)
      (try clear hi)
      refine hK.out _ _ ⟨(blk_cell BK241.out 0).trans rfl, (blk_cell BK241.out 1).trans rfl, (blk_cell BK241.out 2).trans rfl, (blk_cell BK241.out 3).trans rfl, (blk_cell BK241.out 4).trans rfl⟩ (fun hHeld => ?_)
      clear hK K
      refine norm_ (a' := ?_) ?_ ?_
      rotate_left
      · show Act.put _ (some 17) _ = _
        simp only [Act.put, List.setIfInBounds_toArray, List.set_cons_zero, List.set_cons_succ, i64_w, i32_w]
        rfl
      refine pure_ (i := 6) (N := some 18) (v := ?_) (a' := ?_) #[true, true, true, true, true, true, true, false] rfl rfl (any_of HT_.out (by kernel_rfl)) (fun _ _ _ h => h) (Or.inl ⟨by rfl, ?_⟩) ?_ ?_
      rotate_left
      · intro w'
        go_simp
        with_reducible rfl
      rotate_left
      · simp only [Act.put, List.setIfInBounds_toArray, List.set_cons_zero, List.set_cons_succ, i64_w, i32_w]
        rfl
      refine pure_ (i := 7) (N := some 5) (v := ?_) (a' := ?_) #[true, true, true, true, true, true, true, true] rfl rfl (any_of HT_.out (by kernel_rfl)) (fun _ _ _ h => h) (Or.inl ⟨by rfl, ?_⟩) ?_ ?_
      rotate_left
      · intro w'
        go_simp
        with_reducible rfl
      rotate_left
      · simp only [Act.put, List.setIfInBounds_toArray, List.set_cons_zero, List.set_cons_succ, i64_w, i32_w]
        rfl
      refine done_ (done_of HT_.out (by kernel_rfl)) ?_
      have hcz16_0 : w15.cell? ⟨gb249, 0, none⟩ = some (.bool t242) := (blk_cell BK249.out 0).trans rfl
      have hcz16_1 : w15.cell? ⟨gb249, 1, none⟩ = some (.bool t243) := (blk_cell BK249.out 1).trans rfl
      have hcz16_2 : w15.cell? ⟨gb249, 2, none⟩ = some (.int .i64 t244) := (blk_cell BK249.out 2).trans rfl
      have hcz16_3 : w15.cell? ⟨gb249, 3, none⟩ = some (.int .i64 t245) := (blk_cell BK249.out 3).trans rfl
      have hcz16_4 : w15.cell? ⟨gb249, 4, none⟩ = some (.int .i64 t246) := (blk_cell BK249.out 4).trans rfl
      have hcz16_5 : w15.cell? ⟨gb249, 5, none⟩ = some (.string t247) := (blk_cell BK249.out 5).trans rfl
      have hfz16_0 := blk_frozen BK249.out 0
      have hfz16_1 := blk_frozen BK249.out 1
      have hfz16_2 := blk_frozen BK249.out 2
      have hfz16_3 := blk_frozen BK249.out 3
      have hfz16_4 := blk_frozen BK249.out 4
      have hfz16_5 := blk_frozen BK249.out 5
      go_upto_if 20 with (fail)
      go_cut [5] (fun v5 wc => ∃ (kq : Nat) (x5_5 : ByteArray), v5 = .string x5_5 ∧ Aside0 (impl_Instr_text.j0 kq x5_5 a0_0 a0_1 a0_2 a0_3 a0_4 t242 t243 t244 t245 t246 t247 = some r) ∧ Aside0 (kq ≤ k) ∧ Aside0 (wc.heap[gb241]? = some (.cells #[.string a0_0, .int .i64 a0_1, .int .i64 a0_2, .int .i64 a0_3, .int .i64 a0_4] 35 (0, 0))) ∧ Aside0 (wc.heap[gb249]? = some (.cells #[.bool t242, .bool t243, .int .i64 t244, .int .i64 t245, .int .i64 t246, .string t247] 89 (0, 0))) ∧ Aside0 (Below w.heap.size w wc))
      case first =>
        have H := HC6.out
        clear HC6
        by_cases c17 : t242 = true
        · subst c17
          have H1 : ((strconv_Itoa_98.f k a0_2).bind fun t251 => (if 2 + t251.size ≤ 9223372036854775807 then (if ((a0_0 ++ (⟨#[32, 114]⟩ : ByteArray)) ++ t250).size + ((⟨#[32, 114]⟩ : ByteArray) ++ t251).size ≤ 9223372036854775807 then (impl_Instr_text.j0 k (((a0_0 ++ (⟨#[32, 114]⟩ : ByteArray)) ++ t250) ++ ((⟨#[32, 114]⟩ : ByteArray) ++ t251)) a0_0 a0_1 a0_2 a0_3 a0_4 true t243 t244 t245 t246 t247) else (none)) else (none))) = some r := by rw [if_pos rfl] at H; exact H
          clear H
          have H := H1
          clear H1
          replace H := Option.bind_eq_some_iff.mp H
          obtain ⟨t251, A180, H⟩ := H
          replace H : (if 2 + t251.size ≤ 9223372036854775807 then (if ((a0_0 ++ (⟨#[32, 114]⟩ : ByteArray)) ++ t250).size + ((⟨#[32, 114]⟩ : ByteArray) ++ t251).size ≤ 9223372036854775807 then (impl_Instr_text.j0 k (((a0_0 ++ (⟨#[32, 114]⟩ : ByteArray)) ++ t250) ++ ((⟨#[32, 114]⟩ : ByteArray) ++ t251)) a0_0 a0_1 a0_2 a0_3 a0_4 true t243 t244 t245 t246 t247) else (none)) else (none)) = some r := H
          have A18 := Aside0.mk A180
          clear A180
          by_cases c19 : 2 + t251.size ≤ 9223372036854775807
          · rw [if_pos c19] at H
            have c19b0 := eq_true c19
            have c19b1 : decide (2 + t251.size ≤ 9223372036854775807) = true := decide_eq_true c19
            try have c19b2 : (9223372036854775807 < 2 + t251.size) = False := eq_false (Nat.not_lt.2 c19)
            by_cases c20 : ((a0_0 ++ (⟨#[32, 114]⟩ : ByteArray)) ++ t250).size + ((⟨#[32, 114]⟩ : ByteArray) ++ t251).size ≤ 9223372036854775807
            · rw [if_pos c20] at H
              have c20b0 := eq_true c20
              have c20b1 : decide (((a0_0 ++ (⟨#[32, 114]⟩ : ByteArray)) ++ t250).size + ((⟨#[32, 114]⟩ : ByteArray) ++ t251).size ≤ 9223372036854775807) = true := decide_eq_true c20
              try have c20b2 : (9223372036854775807 < ((a0_0 ++ (⟨#[32, 114]⟩ : ByteArray)) ++ t250).size + ((⟨#[32, 114]⟩ : ByteArray) ++ t251).size) = False := eq_false (Nat.not_lt.2 c20)
              try have c20b3 : (9223372036854775807 < a0_0.size + 2 + t250.size + (2 + t251.size)) = False := eq_false (by have h_ := c20; simp only [ByteArray.size_append] at h_; have q0_ : (⟨#[32, 114]⟩ : ByteArray).size = 2 := rfl; omega)
              have H' := Aside0.mk H
              clear H
              have hnb21 := NB241_249.out
              have hnc21 := NB249_241.out
              have hcz22_0 : w15.cell? ⟨gb241, 0, none⟩ = some (.string a0_0) := (blk_cell BK241.out 0).trans rfl
              have hcz22_1 : w15.cell? ⟨gb241, 1, none⟩ = some (.int .i64 a0_1) := (blk_cell BK241.out 1).trans rfl
              have hcz22_2 : w15.cell? ⟨gb241, 2, none⟩ = some (.int .i64 a0_2) := (blk_cell BK241.out 2).trans rfl
              have hcz22_3 : w15.cell? ⟨gb241, 3, none⟩ = some (.int .i64 a0_3) := (blk_cell BK241.out 3).trans rfl
              have hcz22_4 : w15.cell? ⟨gb241, 4, none⟩ = some (.int .i64 a0_4) := (blk_cell BK241.out 4).trans rfl
              have hfz22_0 := blk_frozen BK241.out 0
              have hfz22_1 := blk_frozen BK241.out 1
              have hfz22_2 := blk_frozen BK241.out 2
              have hfz22_3 := blk_frozen BK241.out 3
              have hfz22_4 := blk_frozen BK241.out 4
              go_wp2_with (first | ((with_reducible refine gate_callee (f := 98) rfl ?_); refine goesL_ (some 24) rfl rfl Tryd.func98 (by kernel_rfl) rfl #[.int .i64 a0_2] rfl (by (try simp only [List.map_toArray, List.map_cons, List.map_nil]); first | done | rfl | (simp only [List.length_drop, List.length_take]; rfl)) ?_; (with_reducible refine (strconv_Itoa_98.calls k a0_2 t251 _ A18.out).mono ?_); rintro e w23 ⟨rfl, hb⟩; refine ⟨_, rfl, ?_⟩; have n0_ := Aside0.mk (blk_below (g := gb241) (o := .cells #[.string a0_0, .int .i64 a0_1, .int .i64 a0_2, .int .i64 a0_3, .int .i64 a0_4] 35 (0, 0)) (by (with_reducible repeat (first | refine blk_drewN ?_ _ | refine blk_drew ?_ | refine blk_alloc ?_ _)); exact BK241.out) hb); have n1_ := Aside0.mk (blk_below (g := gb249) (o := .cells #[.bool true, .bool t243, .int .i64 t244, .int .i64 t245, .int .i64 t246, .string t247] 89 (0, 0)) (by (with_reducible repeat (first | refine blk_drewN ?_ _ | refine blk_drew ?_ | refine blk_alloc ?_ _)); exact BK249.out) hb); have n2_ := Aside0.mk (below_step (by repeat (first | (with_reducible first | exact HB.out | apply below_alloc | apply pw_below_drewN | apply below_drew1 | refine below_set ?_ GE241.out | refine below_set ?_ GE249.out) | exact HB.out)) hb); clear BK241; clear BK249; clear HB; have BK241 := n0_; have BK249 := n1_; have HB := n2_; clear n0_ n1_ n2_; (try clear hb); (try clear hb2); (try clear hk); (try clear hi)))
              go_meet
              case rel => exact ⟨_, (((a0_0 ++ (⟨#[32, 114]⟩ : ByteArray)) ++ t250) ++ ((⟨#[32, 114]⟩ : ByteArray) ++ t251)), (by first | rfl | (simp; done) | (simp [*]; done)), H', ⟨by first | omega | exact Nat.le_refl _⟩, ⟨by (with_reducible repeat (first | refine blk_drewN ?_ _ | refine blk_drew ?_ | refine blk_alloc ?_ _)); exact BK241.out⟩, ⟨by (with_reducible repeat (first | refine blk_drewN ?_ _ | refine blk_drew ?_ | refine blk_alloc ?_ _)); exact BK249.out⟩, ⟨by repeat (first | (with_reducible first | exact HB.out | apply below_alloc | apply pw_below_drewN | apply below_drew1 | refine below_set ?_ GE241.out | refine below_set ?_ GE249.out) | exact HB.out)⟩⟩
            · rw [if_neg c20] at H
              exact absurd H (by simp)
          · rw [if_neg c19] at H
            exact absurd H (by simp)
        · replace c17 := Bool.eq_false_iff.mpr c17
          subst c17
          have H1 : (impl_Instr_text.j0 k ((a0_0 ++ (⟨#[32, 114]⟩ : ByteArray)) ++ t250) a0_0 a0_1 a0_2 a0_3 a0_4 false t243 t244 t245 t246 t247) = some r := by rw [if_neg (show ¬ (false = true) by decide)] at H; exact H
          clear H
          have H := H1
          clear H1
          have H' := Aside0.mk H
          clear H
          go_wp2
          go_meet
          case rel => exact ⟨_, ((a0_0 ++ (⟨#[32, 114]⟩ : ByteArray)) ++ t250), (by first | rfl | (simp; done) | (simp [*]; done)), H', ⟨by first | omega | exact Nat.le_refl _⟩, ⟨by (with_reducible repeat (first | refine blk_drewN ?_ _ | refine blk_drew ?_ | refine blk_alloc ?_ _)); exact BK241.out⟩, ⟨by (with_reducible repeat (first | refine blk_drewN ?_ _ | refine blk_drew ?_ | refine blk_alloc ?_ _)); exact BK249.out⟩, ⟨by repeat (first | (with_reducible first | exact HB.out | apply below_alloc | apply pw_below_drewN | apply below_drew1 | refine below_set ?_ GE241.out | refine below_set ?_ GE249.out) | exact HB.out)⟩⟩
      case rest =>
        clear HC6
        try clear c1
        try clear c2
        try clear p2
        try clear c3
        try clear c3b0
        try clear c3b1
        try clear c3b2
        try clear c4
        try clear c5
        try clear c5b0
        try clear c5b1
        try clear c5b2
        try clear c6
        try clear c9
        try clear c11
        try clear c17
        try clear c19
        try clear c19b0
        try clear c19b1
        try clear c19b2
        try clear c20
        try clear c20b0
        try clear c20b1
        try clear c20b2
        try clear c21
        try clear hcz12_0
        try clear hcz12_1
        try clear hcz12_2
        try clear hcz12_3
        try clear hcz12_4
        try clear hcz12_5
        try clear hcz16_0
        try clear hcz16_1
        try clear hcz16_2
        try clear hcz16_3
        try clear hcz16_4
        try clear hcz16_5
        try clear hcz22_0
        try clear hcz22_1
        try clear hcz22_2
        try clear hcz22_3
        try clear hcz22_4
        try clear hcz8_0
        try clear hcz8_1
        try clear hcz8_2
        try clear hcz8_3
        try clear hcz8_4
        try clear hfz12_0
        try clear hfz12_1
        try clear hfz12_2
        try clear hfz12_3
        try clear hfz12_4
        try clear hfz12_5
        try clear hfz16_0
        try clear hfz16_1
        try clear hfz16_2
        try clear hfz16_3
        try clear hfz16_4
        try clear hfz16_5
        try clear hfz22_0
        try clear hfz22_1
        try clear hfz22_2
        try clear hfz22_3
        try clear hfz22_4
        try clear hfz8_0
        try clear hfz8_1
        try clear hfz8_2
        try clear hfz8_3
        try clear hfz8_4
        obtain ⟨kq, x5_5, rfl, HA, HJ5, BK241, BK249, HB⟩ := hcut
        cases kq with
        | zero => exact absurd HA.out (by simp [impl_Instr_text.j0])
        | succ kj5 =>
          have H := HA.out
          clear HA
          simp only [impl_Instr_text.j0] at H
          have HC24 := Aside0.mk H
          clear H
          have hnb25 := NB249_241.out
          have hnc25 := NB241_249.out
          have hcz26_0 : wc.cell? ⟨gb249, 0, none⟩ = some (.bool t242) := (blk_cell BK249.out 0).trans rfl
          have hcz26_1 : wc.cell? ⟨gb249, 1, none⟩ = some (.bool t243) := (blk_cell BK249.out 1).trans rfl
          have hcz26_2 : wc.cell? ⟨gb249, 2, none⟩ = some (.int .i64 t244) := (blk_cell BK249.out 2).trans rfl
          have hcz26_3 : wc.cell? ⟨gb249, 3, none⟩ = some (.int .i64 t245) := (blk_cell BK249.out 3).trans rfl
          have hcz26_4 : wc.cell? ⟨gb249, 4, none⟩ = some (.int .i64 t246) := (blk_cell BK249.out 4).trans rfl
          have hcz26_5 : wc.cell? ⟨gb249, 5, none⟩ = some (.string t247) := (blk_cell BK249.out 5).trans rfl
          have hfz26_0 := blk_frozen BK249.out 0
          have hfz26_1 := blk_frozen BK249.out 1
          have hfz26_2 := blk_frozen BK249.out 2
          have hfz26_3 := blk_frozen BK249.out 3
          have hfz26_4 := blk_frozen BK249.out 4
          have hfz26_5 := blk_frozen BK249.out 5
          go_upto_if 28 with (fail)
          go_cut [5] (fun v5 wc => ∃ (kq : Nat) (x5_23 : ByteArray), v5 = .string x5_23 ∧ Aside0 (impl_Instr_text.j1 kq x5_23 a0_0 a0_1 a0_2 a0_3 a0_4 t242 t243 t244 t245 t246 t247 = some r) ∧ Aside0 (kq ≤ kj5) ∧ Aside0 (wc.heap[gb241]? = some (.cells #[.string a0_0, .int .i64 a0_1, .int .i64 a0_2, .int .i64 a0_3, .int .i64 a0_4] 35 (0, 0))) ∧ Aside0 (wc.heap[gb249]? = some (.cells #[.bool t242, .bool t243, .int .i64 t244, .int .i64 t245, .int .i64 t246, .string t247] 89 (0, 0))) ∧ Aside0 (Below w.heap.size w wc))
          case first =>
            have H := HC24.out
            clear HC24
            by_cases c27 : t243 = true
            · subst c27
              have H1 : ((strconv_Itoa_98.f kj5 a0_3).bind fun t252 => (if 2 + t252.size ≤ 9223372036854775807 then (if x5_5.size + ((⟨#[32, 114]⟩ : ByteArray) ++ t252).size ≤ 9223372036854775807 then (impl_Instr_text.j1 kj5 (x5_5 ++ ((⟨#[32, 114]⟩ : ByteArray) ++ t252)) a0_0 a0_1 a0_2 a0_3 a0_4 t242 true t244 t245 t246 t247) else (none)) else (none))) = some r := by rw [if_pos rfl] at H; exact H
              clear H
              have H := H1
              clear H1
              replace H := Option.bind_eq_some_iff.mp H
              obtain ⟨t252, A280, H⟩ := H
              replace H : (if 2 + t252.size ≤ 9223372036854775807 then (if x5_5.size + ((⟨#[32, 114]⟩ : ByteArray) ++ t252).size ≤ 9223372036854775807 then (impl_Instr_text.j1 kj5 (x5_5 ++ ((⟨#[32, 114]⟩ : ByteArray) ++ t252)) a0_0 a0_1 a0_2 a0_3 a0_4 t242 true t244 t245 t246 t247) else (none)) else (none)) = some r := H
              have A28 := Aside0.mk A280
              clear A280
              by_cases c29 : 2 + t252.size ≤ 9223372036854775807
              · rw [if_pos c29] at H
                have c29b0 := eq_true c29
                have c29b1 : decide (2 + t252.size ≤ 9223372036854775807) = true := decide_eq_true c29
                try have c29b2 : (9223372036854775807 < 2 + t252.size) = False := eq_false (Nat.not_lt.2 c29)
                by_cases c30 : x5_5.size + ((⟨#[32, 114]⟩ : ByteArray) ++ t252).size ≤ 9223372036854775807
                · rw [if_pos c30] at H
                  have c30b0 := eq_true c30
                  have c30b1 : decide (x5_5.size + ((⟨#[32, 114]⟩ : ByteArray) ++ t252).size ≤ 9223372036854775807) = true := decide_eq_true c30
                  try have c30b2 : (9223372036854775807 < x5_5.size + ((⟨#[32, 114]⟩ : ByteArray) ++ t252).size) = False := eq_false (Nat.not_lt.2 c30)
                  try have c30b3 : (9223372036854775807 < x5_5.size + (2 + t252.size)) = False := eq_false (by have h_ := c30; simp only [ByteArray.size_append] at h_; have q0_ : (⟨#[32, 114]⟩ : ByteArray).size = 2 := rfl; omega)
                  have H' := Aside0.mk H
                  clear H
                  have hnb31 := NB241_249.out
                  have hnc31 := NB249_241.out
                  have hcz32_0 : wc.cell? ⟨gb241, 0, none⟩ = some (.string a0_0) := (blk_cell BK241.out 0).trans rfl
                  have hcz32_1 : wc.cell? ⟨gb241, 1, none⟩ = some (.int .i64 a0_1) := (blk_cell BK241.out 1).trans rfl
                  have hcz32_2 : wc.cell? ⟨gb241, 2, none⟩ = some (.int .i64 a0_2) := (blk_cell BK241.out 2).trans rfl
                  have hcz32_3 : wc.cell? ⟨gb241, 3, none⟩ = some (.int .i64 a0_3) := (blk_cell BK241.out 3).trans rfl
                  have hcz32_4 : wc.cell? ⟨gb241, 4, none⟩ = some (.int .i64 a0_4) := (blk_cell BK241.out 4).trans rfl
                  have hfz32_0 := blk_frozen BK241.out 0
                  have hfz32_1 := blk_frozen BK241.out 1
                  have hfz32_2 := blk_frozen BK241.out 2
                  have hfz32_3 := blk_frozen BK241.out 3
                  have hfz32_4 := blk_frozen BK241.out 4
                  go_wp2_with (first | ((with_reducible refine gate_callee (f := 98) rfl ?_); refine goesL_ (some 32) rfl rfl Tryd.func98 (by kernel_rfl) rfl #[.int .i64 a0_3] rfl (by (try simp only [List.map_toArray, List.map_cons, List.map_nil]); first | done | rfl | (simp only [List.length_drop, List.length_take]; rfl)) ?_; (with_reducible refine (strconv_Itoa_98.calls kj5 a0_3 t252 _ A28.out).mono ?_); rintro e w33 ⟨rfl, hb⟩; refine ⟨_, rfl, ?_⟩; have n0_ := Aside0.mk (blk_below (g := gb241) (o := .cells #[.string a0_0, .int .i64 a0_1, .int .i64 a0_2, .int .i64 a0_3, .int .i64 a0_4] 35 (0, 0)) (by (with_reducible repeat (first | refine blk_drewN ?_ _ | refine blk_drew ?_ | refine blk_alloc ?_ _)); exact BK241.out) hb); have n1_ := Aside0.mk (blk_below (g := gb249) (o := .cells #[.bool t242, .bool true, .int .i64 t244, .int .i64 t245, .int .i64 t246, .string t247] 89 (0, 0)) (by (with_reducible repeat (first | refine blk_drewN ?_ _ | refine blk_drew ?_ | refine blk_alloc ?_ _)); exact BK249.out) hb); have n2_ := Aside0.mk (below_step (by repeat (first | (with_reducible first | exact HB.out | apply below_alloc | apply pw_below_drewN | apply below_drew1 | refine below_set ?_ GE241.out | refine below_set ?_ GE249.out) | exact HB.out)) hb); clear BK241; clear BK249; clear HB; have BK241 := n0_; have BK249 := n1_; have HB := n2_; clear n0_ n1_ n2_; (try clear hb); (try clear hb2); (try clear hk); (try clear hi)))
                  go_meet
                  case rel => exact ⟨_, (x5_5 ++ ((⟨#[32, 114]⟩ : ByteArray) ++ t252)), (by first | rfl | (simp; done) | (simp [*]; done)), H', ⟨by have := HJ5.out; first | omega | exact Nat.le_refl _⟩, ⟨by (with_reducible repeat (first | refine blk_drewN ?_ _ | refine blk_drew ?_ | refine blk_alloc ?_ _)); exact BK241.out⟩, ⟨by (with_reducible repeat (first | refine blk_drewN ?_ _ | refine blk_drew ?_ | refine blk_alloc ?_ _)); exact BK249.out⟩, ⟨by repeat (first | (with_reducible first | exact HB.out | apply below_alloc | apply pw_below_drewN | apply below_drew1 | refine below_set ?_ GE241.out | refine below_set ?_ GE249.out) | exact HB.out)⟩⟩
                · rw [if_neg c30] at H
                  exact absurd H (by simp)
              · rw [if_neg c29] at H
                exact absurd H (by simp)
            · replace c27 := Bool.eq_false_iff.mpr c27
              subst c27
              have H1 : (impl_Instr_text.j1 kj5 x5_5 a0_0 a0_1 a0_2 a0_3 a0_4 t242 false t244 t245 t246 t247) = some r := by rw [if_neg (show ¬ (false = true) by decide)] at H; exact H
              clear H
              have H := H1
              clear H1
              have H' := Aside0.mk H
              clear H
              go_wp2
              go_meet
              case rel => exact ⟨_, (x5_5), (by first | rfl | (simp; done) | (simp [*]; done)), H', ⟨by have := HJ5.out; first | omega | exact Nat.le_refl _⟩, ⟨by (with_reducible repeat (first | refine blk_drewN ?_ _ | refine blk_drew ?_ | refine blk_alloc ?_ _)); exact BK241.out⟩, ⟨by (with_reducible repeat (first | refine blk_drewN ?_ _ | refine blk_drew ?_ | refine blk_alloc ?_ _)); exact BK249.out⟩, ⟨by repeat (first | (with_reducible first | exact HB.out | apply below_alloc | apply pw_below_drewN | apply below_drew1 | refine below_set ?_ GE241.out | refine below_set ?_ GE249.out) | exact HB.out)⟩⟩
          case rest =>
            clear HC24
            try clear c1
            try clear c2
            try clear p2
            try clear c3
            try clear c3b0
            try clear c3b1
            try clear c3b2
            try clear c4
            try clear c5
            try clear c5b0
            try clear c5b1
            try clear c5b2
            try clear c6
            try clear c9
            try clear c11
            try clear c17
            try clear c19
            try clear c19b0
            try clear c19b1
            try clear c19b2
            try clear c20
            try clear c20b0
            try clear c20b1
            try clear c20b2
            try clear c21
            try clear c25
            try clear c27
            try clear c29
            try clear c29b0
            try clear c29b1
            try clear c29b2
            try clear c30
            try clear c30b0
            try clear c30b1
            try clear c30b2
            try clear c31
            try clear hcz12_0
            try clear hcz12_1
            try clear hcz12_2
            try clear hcz12_3
            try clear hcz12_4
            try clear hcz12_5
            try clear hcz16_0
            try clear hcz16_1
            try clear hcz16_2
            try clear hcz16_3
            try clear hcz16_4
            try clear hcz16_5
            try clear hcz22_0
            try clear hcz22_1
            try clear hcz22_2
            try clear hcz22_3
            try clear hcz22_4
            try clear hcz26_0
            try clear hcz26_1
            try clear hcz26_2
            try clear hcz26_3
            try clear hcz26_4
            try clear hcz26_5
            try clear hcz32_0
            try clear hcz32_1
            try clear hcz32_2
            try clear hcz32_3
            try clear hcz32_4
            try clear hcz8_0
            try clear hcz8_1
            try clear hcz8_2
            try clear hcz8_3
            try clear hcz8_4
            try clear hfz12_0
            try clear hfz12_1
            try clear hfz12_2
            try clear hfz12_3
            try clear hfz12_4
            try clear hfz12_5
            try clear hfz16_0
            try clear hfz16_1
            try clear hfz16_2
            try clear hfz16_3
            try clear hfz16_4
            try clear hfz16_5
            try clear hfz22_0
            try clear hfz22_1
            try clear hfz22_2
            try clear hfz22_3
            try clear hfz22_4
            try clear hfz26_0
            try clear hfz26_1
            try clear hfz26_2
            try clear hfz26_3
            try clear hfz26_4
            try clear hfz26_5
            try clear hfz32_0
            try clear hfz32_1
            try clear hfz32_2
            try clear hfz32_3
            try clear hfz32_4
            try clear hfz8_0
            try clear hfz8_1
            try clear hfz8_2
            try clear hfz8_3
            try clear hfz8_4
            try clear p2
            obtain ⟨kq, x5_23, rfl, HA, HJ23, BK241, BK249, HB⟩ := hcut
            cases kq with
            | zero => exact absurd HA.out (by simp [impl_Instr_text.j1])
            | succ kj23 =>
              have H := HA.out
              clear HA
              simp only [impl_Instr_text.j1] at H
              replace H := Option.bind_eq_some_iff.mp H
              obtain ⟨t253, A340, H⟩ := H
              replace H : (if t253 = true then ((strconv_Itoa_98.f kj23 a0_4).bind fun t254 => (if 1 + t254.size ≤ 9223372036854775807 then (if x5_23.size + ((⟨#[32]⟩ : ByteArray) ++ t254).size ≤ 9223372036854775807 then (some (x5_23 ++ ((⟨#[32]⟩ : ByteArray) ++ t254))) else (none)) else (none))) else (some x5_23)) = some r := H
              have A34 := Aside0.mk A340
              clear A340
              by_cases c35 : t253 = true
              · subst c35
                have H1 : ((strconv_Itoa_98.f kj23 a0_4).bind fun t254 => (if 1 + t254.size ≤ 9223372036854775807 then (if x5_23.size + ((⟨#[32]⟩ : ByteArray) ++ t254).size ≤ 9223372036854775807 then (some (x5_23 ++ ((⟨#[32]⟩ : ByteArray) ++ t254))) else (none)) else (none))) = some r := by rw [if_pos rfl] at H; exact H
                clear H
                have H := H1
                clear H1
                replace H := Option.bind_eq_some_iff.mp H
                obtain ⟨t254, A360, H⟩ := H
                replace H : (if 1 + t254.size ≤ 9223372036854775807 then (if x5_23.size + ((⟨#[32]⟩ : ByteArray) ++ t254).size ≤ 9223372036854775807 then (some (x5_23 ++ ((⟨#[32]⟩ : ByteArray) ++ t254))) else (none)) else (none)) = some r := H
                have A36 := Aside0.mk A360
                clear A360
                by_cases c37 : 1 + t254.size ≤ 9223372036854775807
                · rw [if_pos c37] at H
                  have c37b0 := eq_true c37
                  have c37b1 : decide (1 + t254.size ≤ 9223372036854775807) = true := decide_eq_true c37
                  try have c37b2 : (9223372036854775807 < 1 + t254.size) = False := eq_false (Nat.not_lt.2 c37)
                  by_cases c38 : x5_23.size + ((⟨#[32]⟩ : ByteArray) ++ t254).size ≤ 9223372036854775807
                  · rw [if_pos c38] at H
                    have c38b0 := eq_true c38
                    have c38b1 : decide (x5_23.size + ((⟨#[32]⟩ : ByteArray) ++ t254).size ≤ 9223372036854775807) = true := decide_eq_true c38
                    try have c38b2 : (9223372036854775807 < x5_23.size + ((⟨#[32]⟩ : ByteArray) ++ t254).size) = False := eq_false (Nat.not_lt.2 c38)
                    try have c38b3 : (9223372036854775807 < x5_23.size + (1 + t254.size)) = False := eq_false (by have h_ := c38; simp only [ByteArray.size_append] at h_; have q0_ : (⟨#[32]⟩ : ByteArray).size = 1 := rfl; omega)
                    obtain rfl := Option.some.inj H
                    have hnb39 := NB249_241.out
                    have hnc39 := NB241_249.out
                    have hcz40_0 : wc.cell? ⟨gb249, 0, none⟩ = some (.bool t242) := (blk_cell BK249.out 0).trans rfl
                    have hcz40_1 : wc.cell? ⟨gb249, 1, none⟩ = some (.bool t243) := (blk_cell BK249.out 1).trans rfl
                    have hcz40_2 : wc.cell? ⟨gb249, 2, none⟩ = some (.int .i64 t244) := (blk_cell BK249.out 2).trans rfl
                    have hcz40_3 : wc.cell? ⟨gb249, 3, none⟩ = some (.int .i64 t245) := (blk_cell BK249.out 3).trans rfl
                    have hcz40_4 : wc.cell? ⟨gb249, 4, none⟩ = some (.int .i64 t246) := (blk_cell BK249.out 4).trans rfl
                    have hcz40_5 : wc.cell? ⟨gb249, 5, none⟩ = some (.string t247) := (blk_cell BK249.out 5).trans rfl
                    have hfz40_0 := blk_frozen BK249.out 0
                    have hfz40_1 := blk_frozen BK249.out 1
                    have hfz40_2 := blk_frozen BK249.out 2
                    have hfz40_3 := blk_frozen BK249.out 3
                    have hfz40_4 := blk_frozen BK249.out 4
                    have hfz40_5 := blk_frozen BK249.out 5
                    go_wp2_with (first | ((with_reducible refine gate_callee (f := 65) rfl ?_); refine goesL_ (some 36) rfl rfl Tryd.func65 (by kernel_rfl) rfl #[.agg #[.bool t242, .bool t243, .int .i64 t244, .int .i64 t245, .int .i64 t246, .string t247]] rfl (by (try simp only [List.map_toArray, List.map_cons, List.map_nil]); first | done | rfl | (simp only [List.length_drop, List.length_take]; rfl)) ?_; (with_reducible refine (impl_form_imm.calls t242 t243 t244 t245 t246 t247 true _ A34.out).mono ?_); rintro e w41 ⟨rfl, hb⟩; refine ⟨_, rfl, ?_⟩; have n0_ := Aside0.mk (blk_below (g := gb241) (o := .cells #[.string a0_0, .int .i64 a0_1, .int .i64 a0_2, .int .i64 a0_3, .int .i64 a0_4] 35 (0, 0)) (by (with_reducible repeat (first | refine blk_drewN ?_ _ | refine blk_drew ?_ | refine blk_alloc ?_ _)); exact BK241.out) hb); have n1_ := Aside0.mk (blk_below (g := gb249) (o := .cells #[.bool t242, .bool t243, .int .i64 t244, .int .i64 t245, .int .i64 t246, .string t247] 89 (0, 0)) (by (with_reducible repeat (first | refine blk_drewN ?_ _ | refine blk_drew ?_ | refine blk_alloc ?_ _)); exact BK249.out) hb); have n2_ := Aside0.mk (below_step (by repeat (first | (with_reducible first | exact HB.out | apply below_alloc | apply pw_below_drewN | apply below_drew1 | refine below_set ?_ GE241.out | refine below_set ?_ GE249.out) | exact HB.out)) hb); clear BK241; clear BK249; clear HB; have BK241 := n0_; have BK249 := n1_; have HB := n2_; clear n0_ n1_ n2_; (try clear hb); (try clear hb2); (try clear hk); (try clear hi); have hcz42_0 : w41.cell? ⟨gb241, 0, none⟩ = some (.string a0_0) := (blk_cell BK241.out 0).trans rfl; have hcz42_1 : w41.cell? ⟨gb241, 1, none⟩ = some (.int .i64 a0_1) := (blk_cell BK241.out 1).trans rfl; have hcz42_2 : w41.cell? ⟨gb241, 2, none⟩ = some (.int .i64 a0_2) := (blk_cell BK241.out 2).trans rfl; have hcz42_3 : w41.cell? ⟨gb241, 3, none⟩ = some (.int .i64 a0_3) := (blk_cell BK241.out 3).trans rfl; have hcz42_4 : w41.cell? ⟨gb241, 4, none⟩ = some (.int .i64 a0_4) := (blk_cell BK241.out 4).trans rfl; have hfz42_0 := blk_frozen BK241.out 0; have hfz42_1 := blk_frozen BK241.out 1; have hfz42_2 := blk_frozen BK241.out 2; have hfz42_3 := blk_frozen BK241.out 3; have hfz42_4 := blk_frozen BK241.out 4) | ((with_reducible refine gate_callee (f := 98) rfl ?_); refine goesL_ (some 40) rfl rfl Tryd.func98 (by kernel_rfl) rfl #[.int .i64 a0_4] rfl (by (try simp only [List.map_toArray, List.map_cons, List.map_nil]); first | done | rfl | (simp only [List.length_drop, List.length_take]; rfl)) ?_; (with_reducible refine (strconv_Itoa_98.calls kj23 a0_4 t254 _ A36.out).mono ?_); rintro e w43 ⟨rfl, hb⟩; refine ⟨_, rfl, ?_⟩; have n0_ := Aside0.mk (blk_below (g := gb241) (o := .cells #[.string a0_0, .int .i64 a0_1, .int .i64 a0_2, .int .i64 a0_3, .int .i64 a0_4] 35 (0, 0)) (by (with_reducible repeat (first | refine blk_drewN ?_ _ | refine blk_drew ?_ | refine blk_alloc ?_ _)); exact BK241.out) hb); have n1_ := Aside0.mk (blk_below (g := gb249) (o := .cells #[.bool t242, .bool t243, .int .i64 t244, .int .i64 t245, .int .i64 t246, .string t247] 89 (0, 0)) (by (with_reducible repeat (first | refine blk_drewN ?_ _ | refine blk_drew ?_ | refine blk_alloc ?_ _)); exact BK249.out) hb); have n2_ := Aside0.mk (below_step (by repeat (first | (with_reducible first | exact HB.out | apply below_alloc | apply pw_below_drewN | apply below_drew1 | refine below_set ?_ GE241.out | refine below_set ?_ GE249.out) | exact HB.out)) hb); clear BK241; clear BK249; clear HB; have BK241 := n0_; have BK249 := n1_; have HB := n2_; clear n0_ n1_ n2_; (try clear hb); (try clear hb2); (try clear hk); (try clear hi)))
                    go_ret
                    exact ⟨by first | rfl | (simp [errW_none, errW_some] <;> rfl) | (simp [*, errW_none, errW_some] <;> rfl), by repeat (first | (with_reducible first | exact HB.out | apply below_alloc | apply pw_below_drewN | apply below_drew1 | refine below_set ?_ GE241.out | refine below_set ?_ GE249.out) | exact HB.out)⟩
                  · rw [if_neg c38] at H
                    exact absurd H (by simp)
                · rw [if_neg c37] at H
                  exact absurd H (by simp)
              · replace c35 := Bool.eq_false_iff.mpr c35
                subst c35
                have H1 : (some x5_23) = some r := by rw [if_neg (show ¬ (false = true) by decide)] at H; exact H
                clear H
                have H := H1
                clear H1
                obtain rfl := Option.some.inj H
                have hnb44 := NB249_241.out
                have hnc44 := NB241_249.out
                have hcz45_0 : wc.cell? ⟨gb249, 0, none⟩ = some (.bool t242) := (blk_cell BK249.out 0).trans rfl
                have hcz45_1 : wc.cell? ⟨gb249, 1, none⟩ = some (.bool t243) := (blk_cell BK249.out 1).trans rfl
                have hcz45_2 : wc.cell? ⟨gb249, 2, none⟩ = some (.int .i64 t244) := (blk_cell BK249.out 2).trans rfl
                have hcz45_3 : wc.cell? ⟨gb249, 3, none⟩ = some (.int .i64 t245) := (blk_cell BK249.out 3).trans rfl
                have hcz45_4 : wc.cell? ⟨gb249, 4, none⟩ = some (.int .i64 t246) := (blk_cell BK249.out 4).trans rfl
                have hcz45_5 : wc.cell? ⟨gb249, 5, none⟩ = some (.string t247) := (blk_cell BK249.out 5).trans rfl
                have hfz45_0 := blk_frozen BK249.out 0
                have hfz45_1 := blk_frozen BK249.out 1
                have hfz45_2 := blk_frozen BK249.out 2
                have hfz45_3 := blk_frozen BK249.out 3
                have hfz45_4 := blk_frozen BK249.out 4
                have hfz45_5 := blk_frozen BK249.out 5
                go_wp2_with (first | ((with_reducible refine gate_callee (f := 65) rfl ?_); refine goesL_ (some 36) rfl rfl Tryd.func65 (by kernel_rfl) rfl #[.agg #[.bool t242, .bool t243, .int .i64 t244, .int .i64 t245, .int .i64 t246, .string t247]] rfl (by (try simp only [List.map_toArray, List.map_cons, List.map_nil]); first | done | rfl | (simp only [List.length_drop, List.length_take]; rfl)) ?_; (with_reducible refine (impl_form_imm.calls t242 t243 t244 t245 t246 t247 false _ A34.out).mono ?_); rintro e w46 ⟨rfl, hb⟩; refine ⟨_, rfl, ?_⟩; have n0_ := Aside0.mk (blk_below (g := gb241) (o := .cells #[.string a0_0, .int .i64 a0_1, .int .i64 a0_2, .int .i64 a0_3, .int .i64 a0_4] 35 (0, 0)) (by (with_reducible repeat (first | refine blk_drewN ?_ _ | refine blk_drew ?_ | refine blk_alloc ?_ _)); exact BK241.out) hb); have n1_ := Aside0.mk (blk_below (g := gb249) (o := .cells #[.bool t242, .bool t243, .int .i64 t244, .int .i64 t245, .int .i64 t246, .string t247] 89 (0, 0)) (by (with_reducible repeat (first | refine blk_drewN ?_ _ | refine blk_drew ?_ | refine blk_alloc ?_ _)); exact BK249.out) hb); have n2_ := Aside0.mk (below_step (by repeat (first | (with_reducible first | exact HB.out | apply below_alloc | apply pw_below_drewN | apply below_drew1 | refine below_set ?_ GE241.out | refine below_set ?_ GE249.out) | exact HB.out)) hb); clear BK241; clear BK249; clear HB; have BK241 := n0_; have BK249 := n1_; have HB := n2_; clear n0_ n1_ n2_; (try clear hb); (try clear hb2); (try clear hk); (try clear hi)))
                go_ret
                exact ⟨by first | rfl | (simp [errW_none, errW_some] <;> rfl) | (simp [*, errW_none, errW_some] <;> rfl), by repeat (first | (with_reducible first | exact HB.out | apply below_alloc | apply pw_below_drewN | apply below_drew1 | refine below_set ?_ GE241.out | refine below_set ?_ GE249.out) | exact HB.out)⟩
    · rw [if_neg c5] at H
      exact absurd H (by simp)
  · rw [if_neg c3] at H
    exact absurd H (by simp)

/-! ### stringslite_HasPrefix: function 141 -/
def stringslite_HasPrefix.f (a0 : ByteArray) (a1 : ByteArray) : Option (Bool) := if (a0.size : Int) ≥ (a1.size : Int) then (if 0 ≤ (a1.size : Int) then (if (a1.size : Int) ≤ (a0.size : Int) then (some ((a0.extract 0 ((a1.size : Int) : Int).toNat).toList == a1.toList)) else (none)) else (none)) else (some false)
set_option maxHeartbeats 8000000 in
set_option maxRecDepth 100000 in
theorem stringslite_HasPrefix.calls (a0 : ByteArray) (a1 : ByteArray) (r : Bool) (w : World) (h : stringslite_HasPrefix.f a0 a1 = some r) :
    Calls Tryd.prog 141 #[.string a0, .string a1] w fun e w' => e = .returned (.bool r) ∧ Drawn0 w w' := by
  have H : (if (a0.size : Int) ≥ (a1.size : Int) then (if 0 ≤ (a1.size : Int) then (if (a1.size : Int) ≤ (a0.size : Int) then (some ((a0.extract 0 ((a1.size : Int) : Int).toNat).toList == a1.toList)) else (none)) else (none)) else (some false)) = some r := h
  clear h
  by_cases c3 : (a0.size : Int) ≥ (a1.size : Int)
  · rw [if_pos c3] at H
    have c3b0 : decide ((a1.size : Int) ≤ (a0.size : Int)) = true := decide_eq_true c3
    have c3b1 : decide (a1.size ≤ a0.size) = true := decide_eq_true (Int.ofNat_le.mp c3)
    clear c3
    by_cases c4 : 0 ≤ (a1.size : Int)
    · rw [if_pos c4] at H
      have c4b0 := eq_true c4
      have c4b1 : decide (0 ≤ (a1.size : Int)) = true := decide_eq_true c4
      clear c4
      by_cases c5 : (a1.size : Int) ≤ (a0.size : Int)
      · rw [if_pos c5] at H
        have c5b0 := eq_true c5
        have c5b1 : decide ((a1.size : Int) ≤ (a0.size : Int)) = true := decide_eq_true c5
        clear c5
        obtain rfl := Option.some.inj H
        go_enter Tryd.func141, Tryd.ntmps141
        go_wp2
        go_ret
        exact ⟨by first | rfl | (simp; done) | (simp [*]; done), by repeat (first | exact Drawn0.refl _ | apply Drawn0.step)⟩
      · rw [if_neg c5] at H
        exact absurd H (by simp)
    · rw [if_neg c4] at H
      exact absurd H (by simp)
  · rw [if_neg c3] at H
    have c3b0 : decide ((a1.size : Int) ≤ (a0.size : Int)) = false := decide_eq_false c3
    have c3b1 : decide (a1.size ≤ a0.size) = false := decide_eq_false (fun h => c3 (Int.ofNat_le.mpr h))
    clear c3
    obtain rfl := Option.some.inj H
    go_enter Tryd.func141, Tryd.ntmps141
    go_wp2
    go_ret
    exact ⟨by first | rfl | (simp; done) | (simp [*]; done), by repeat (first | exact Drawn0.refl _ | apply Drawn0.step)⟩

/-! ### stringslite_TrimPrefix: function 115 -/
def stringslite_TrimPrefix.f (a0 : ByteArray) (a1 : ByteArray) : Option (ByteArray) := (stringslite_HasPrefix.f a0 a1).bind fun t275 => (if t275 = true then (if 0 ≤ (a1.size : Int) then (if (a1.size : Int) ≤ (a0.size : Int) then (some (a0.extract ((a1.size : Int) : Int).toNat a0.size)) else (none)) else (none)) else (some a0))
set_option maxHeartbeats 8000000 in
set_option maxRecDepth 100000 in
theorem stringslite_TrimPrefix.calls (a0 : ByteArray) (a1 : ByteArray) (r : ByteArray) (w : World) (h : stringslite_TrimPrefix.f a0 a1 = some r) :
    Calls Tryd.prog 115 #[.string a0, .string a1] w fun e w' => e = .returned (.string r) ∧ Drawn0 w w' := by
  have H : ((stringslite_HasPrefix.f a0 a1).bind fun t275 => (if t275 = true then (if 0 ≤ (a1.size : Int) then (if (a1.size : Int) ≤ (a0.size : Int) then (some (a0.extract ((a1.size : Int) : Int).toNat a0.size)) else (none)) else (none)) else (some a0))) = some r := h
  clear h
  replace H := Option.bind_eq_some_iff.mp H
  obtain ⟨t275, A30, H⟩ := H
  replace H : (if t275 = true then (if 0 ≤ (a1.size : Int) then (if (a1.size : Int) ≤ (a0.size : Int) then (some (a0.extract ((a1.size : Int) : Int).toNat a0.size)) else (none)) else (none)) else (some a0)) = some r := H
  have A3 := Aside0.mk A30
  clear A30
  by_cases c4 : t275 = true
  · subst c4
    have H1 : (if 0 ≤ (a1.size : Int) then (if (a1.size : Int) ≤ (a0.size : Int) then (some (a0.extract ((a1.size : Int) : Int).toNat a0.size)) else (none)) else (none)) = some r := by rw [if_pos rfl] at H; exact H
    clear H
    have H := H1
    clear H1
    by_cases c5 : 0 ≤ (a1.size : Int)
    · rw [if_pos c5] at H
      have c5b0 := eq_true c5
      have c5b1 : decide (0 ≤ (a1.size : Int)) = true := decide_eq_true c5
      clear c5
      by_cases c6 : (a1.size : Int) ≤ (a0.size : Int)
      · rw [if_pos c6] at H
        have c6b0 := eq_true c6
        have c6b1 : decide ((a1.size : Int) ≤ (a0.size : Int)) = true := decide_eq_true c6
        clear c6
        obtain rfl := Option.some.inj H
        go_enter Tryd.func115, Tryd.ntmps115
        go_wp2_with (first | ((with_reducible refine gate_callee (f := 141) rfl ?_); refine goesL_ (some 7) rfl rfl Tryd.func141 (by kernel_rfl) rfl #[.string a0, .string a1] rfl (by (try simp only [List.map_toArray, List.map_cons, List.map_nil]); first | done | rfl | (simp only [List.length_drop, List.length_take]; rfl)) ?_; (with_reducible refine (stringslite_HasPrefix.calls a0 a1 true _ A3.out).mono ?_); rintro e w' ⟨rfl, ⟨nd, rfl⟩⟩; refine ⟨_, rfl, ?_⟩))
        go_ret
        exact ⟨by first | rfl | (simp; done) | (simp [*]; done), by repeat (first | exact Drawn0.refl _ | apply Drawn0.step)⟩
      · rw [if_neg c6] at H
        exact absurd H (by simp)
    · rw [if_neg c5] at H
      exact absurd H (by simp)
  · replace c4 := Bool.eq_false_iff.mpr c4
    subst c4
    have H1 : (some a0) = some r := by rw [if_neg (show ¬ (false = true) by decide)] at H; exact H
    clear H
    have H := H1
    clear H1
    obtain rfl := Option.some.inj H
    go_enter Tryd.func115, Tryd.ntmps115
    go_wp2_with (first | ((with_reducible refine gate_callee (f := 141) rfl ?_); refine goesL_ (some 7) rfl rfl Tryd.func141 (by kernel_rfl) rfl #[.string a0, .string a1] rfl (by (try simp only [List.map_toArray, List.map_cons, List.map_nil]); first | done | rfl | (simp only [List.length_drop, List.length_take]; rfl)) ?_; (with_reducible refine (stringslite_HasPrefix.calls a0 a1 false _ A3.out).mono ?_); rintro e w' ⟨rfl, ⟨nd, rfl⟩⟩; refine ⟨_, rfl, ?_⟩))
    go_ret
    exact ⟨by first | rfl | (simp; done) | (simp [*]; done), by repeat (first | exact Drawn0.refl _ | apply Drawn0.step)⟩

/-! ### strings_TrimPrefix: function 67 -/
def strings_TrimPrefix.f (a0 : ByteArray) (a1 : ByteArray) : Option (ByteArray) := (stringslite_TrimPrefix.f a0 a1).bind fun t276 => (some t276)
set_option maxHeartbeats 8000000 in
set_option maxRecDepth 100000 in
theorem strings_TrimPrefix.calls (a0 : ByteArray) (a1 : ByteArray) (r : ByteArray) (w : World) (h : strings_TrimPrefix.f a0 a1 = some r) :
    Calls Tryd.prog 67 #[.string a0, .string a1] w fun e w' => e = .returned (.string r) ∧ Drawn0 w w' := by
  have H : ((stringslite_TrimPrefix.f a0 a1).bind fun t276 => (some t276)) = some r := h
  clear h
  replace H := Option.bind_eq_some_iff.mp H
  obtain ⟨t276, A30, H⟩ := H
  replace H : (some t276) = some r := H
  have A3 := Aside0.mk A30
  clear A30
  obtain rfl := Option.some.inj H
  go_enter Tryd.func67, Tryd.ntmps67
  go_wp2_with (first | ((with_reducible refine gate_callee (f := 115) rfl ?_); refine goesL_ (some 7) rfl rfl Tryd.func115 (by kernel_rfl) rfl #[.string a0, .string a1] rfl (by (try simp only [List.map_toArray, List.map_cons, List.map_nil]); first | done | rfl | (simp only [List.length_drop, List.length_take]; rfl)) ?_; (with_reducible refine (stringslite_TrimPrefix.calls a0 a1 t276 _ A3.out).mono ?_); rintro e w' ⟨rfl, ⟨nd, rfl⟩⟩; refine ⟨_, rfl, ?_⟩))
  go_ret
  exact ⟨by first | rfl | (simp; done) | (simp [*]; done), by repeat (first | exact Drawn0.refl _ | apply Drawn0.step)⟩

end Go.Proofs.YtjeklcgflocfoaaDoor.P
