/- spec.cdParse: the instruction with a text, read word by word. -/
import Derived.Test.YtjeklcgflocfoaaDoorPSpecCdShape
import Derived.Test.YtjeklcgflocfoaaDoorPSpecCdText
namespace Go.Proofs.YtjeklcgflocfoaaDoor.P
open Go.RowKit Go.Proofs.YtjeklcgflocfoaaDoorW.PrintWords Go.Proofs.YtjeklcgflocfoaaDoorW.PrintLast Go.Proofs.YtjeklcgflocfoaaDoorW.PrintMore
attribute [local go_sem] max2_int min2_int max_two min_two max_three min_three max_four min_four   -- for this text's walks alone
set_option linter.unusedVariables false
set_option linter.unusedSimpArgs false

theorem addr_next (a : Addr) (x : Int) (h : 0 ≤ x) : (Addr.mk (a.add x.toNat).block ((a.add x.toNat).off + 1) none) = a.add (x + 1).toNat := by
  have e : (x + 1).toNat = x.toNat + 1 := by omega
  rw [e]
  by_cases h0 : x.toNat = 0
  · rw [h0]; simp [Addr.add]
  · simp [Addr.add, h0]; omega
/-! ### spec_cdParse: function 62 -/
mutual
def spec_cdParse.j0 : Nat → ByteArray → List ByteArray → Bool → Bool → Int → ByteArray → Int → Int → Int → Int → Option (ByteArray × Int × Int × Int × Int × Bool)
  | 0, _, _, _, _, _, _, _, _, _, _ => none
  | k + 1, x0, x4, x6, x7, x11, x155000, x155001, x155002, x155003, x155004 => if x6 = true then (spec_cdParse.j1 k x0 x4 x7 x11 (decide (((x4.length : Int) - x11) > 0)) x155000 x155001 x155002 x155003 x155004) else (spec_cdParse.j1 k x0 x4 x7 x11 false x155000 x155001 x155002 x155003 x155004)
def spec_cdParse.j1 : Nat → ByteArray → List ByteArray → Bool → Int → Bool → ByteArray → Int → Int → Int → Int → Option (ByteArray × Int × Int × Int × Int × Bool)
  | 0, _, _, _, _, _, _, _, _, _, _ => none
  | k + 1, x0, x4, x7, x11, x45, x155000, x155001, x155002, x155003, x155004 => if x45 = true then (if 0 ≤ x11 then (if x11 < (x4.length : Int) then ((spec_cdReadReg.f k (rdOf ByteArray.empty x4 x11)).bind fun t158 => (spec_cdParse.j2 k x0 x4 x7 (x11 + 1) x155000 x155001 t158 x155003 x155004)) else (none)) else (none)) else (spec_cdParse.j2 k x0 x4 x7 x11 x155000 x155001 x155002 x155003 x155004)
def spec_cdParse.j2 : Nat → ByteArray → List ByteArray → Bool → Int → ByteArray → Int → Int → Int → Int → Option (ByteArray × Int × Int × Int × Int × Bool)
  | 0, _, _, _, _, _, _, _, _, _ => none
  | k + 1, x0, x4, x7, x11, x155000, x155001, x155002, x155003, x155004 => if x7 = true then (spec_cdParse.j3 k x0 x4 x11 (decide (((x4.length : Int) - x11) > 0)) x155000 x155001 x155002 x155003 x155004) else (spec_cdParse.j3 k x0 x4 x11 false x155000 x155001 x155002 x155003 x155004)
def spec_cdParse.j3 : Nat → ByteArray → List ByteArray → Int → Bool → ByteArray → Int → Int → Int → Int → Option (ByteArray × Int × Int × Int × Int × Bool)
  | 0, _, _, _, _, _, _, _, _, _ => none
  | k + 1, x0, x4, x11, x58, x155000, x155001, x155002, x155003, x155004 => if x58 = true then (if 0 ≤ x11 then (if x11 < (x4.length : Int) then ((spec_cdReadReg.f k (rdOf ByteArray.empty x4 x11)).bind fun t160 => (spec_cdParse.j4 k x0 x4 (x11 + 1) x155000 x155001 x155002 t160 x155004)) else (none)) else (none)) else (spec_cdParse.j4 k x0 x4 x11 x155000 x155001 x155002 x155003 x155004)
def spec_cdParse.j4 : Nat → ByteArray → List ByteArray → Int → ByteArray → Int → Int → Int → Int → Option (ByteArray × Int × Int × Int × Int × Bool)
  | 0, _, _, _, _, _, _, _, _ => none
  | k + 1, x0, x4, x11, x155000, x155001, x155002, x155003, x155004 => (spec_cdImm.f k x155000).bind fun t161 => (if t161 = true then (spec_cdParse.j5 k x0 x4 x11 (decide (((x4.length : Int) - x11) > 0)) x155000 x155001 x155002 x155003 x155004) else (spec_cdParse.j5 k x0 x4 x11 false x155000 x155001 x155002 x155003 x155004))
def spec_cdParse.j5 : Nat → ByteArray → List ByteArray → Int → Bool → ByteArray → Int → Int → Int → Int → Option (ByteArray × Int × Int × Int × Int × Bool)
  | 0, _, _, _, _, _, _, _, _, _ => none
  | k + 1, x0, x4, x11, x73, x155000, x155001, x155002, x155003, x155004 => if x73 = true then (if 0 ≤ x11 then (if x11 < (x4.length : Int) then ((spec_l1Read.f k (rdOf ByteArray.empty x4 x11)).bind fun t163 => (spec_cdParse.j6 k x0 x155000 x155001 x155002 x155003 t163)) else (none)) else (none)) else (spec_cdParse.j6 k x0 x155000 x155001 x155002 x155003 x155004)
def spec_cdParse.j6 : Nat → ByteArray → ByteArray → Int → Int → Int → Int → Option (ByteArray × Int × Int × Int × Int × Bool)
  | 0, _, _, _, _, _, _ => none
  | k + 1, x0, x155000, x155001, x155002, x155003, x155004 => (spec_cdGood.f k x155000 x155001 x155002 x155003 x155004).bind fun t164 => (if t164 = true then ((spec_cdText.f k x155000 x155001 x155002 x155003 x155004).bind fun t165 => (if t165.toList = x0.toList then (some (x155000, x155001, x155002, x155003, x155004, true)) else (some ((⟨#[]⟩ : ByteArray), 0, 0, 0, 0, false)))) else (some ((⟨#[]⟩ : ByteArray), 0, 0, 0, 0, false)))
end
def spec_cdParse.f (k : Nat) (a0 : ByteArray) : Option (ByteArray × Int × Int × Int × Int × Bool) := (spec_l1Split.f k a0 32).bind fun t144 => (if 0 < (t144.length : Int) then ((spec_cdShape.f k (rdOf ByteArray.empty t144 0)).bind fun bt148 => (if ((t144.length : Int) - 1) > 0 then (if 1 < (t144.length : Int) then ((spec_cdReadReg.f k (rdOf ByteArray.empty t144 1)).bind fun t156 => (spec_cdParse.j0 k a0 t144 bt148.2.1 bt148.2.2.1 (1 + 1) (rdOf ByteArray.empty t144 0) t156 0 0 0)) else (none)) else (spec_cdParse.j0 k a0 t144 bt148.2.1 bt148.2.2.1 1 (rdOf ByteArray.empty t144 0) 0 0 0 0))) else (none))
theorem spec_cdParse.mono_l : ∀ k, (∀ y0 y1 y2 y3 y4 y5 y6 y7 y8 y9, LeO (spec_cdParse.j0 k y0 y1 y2 y3 y4 y5 y6 y7 y8 y9) (spec_cdParse.j0 (k + 1) y0 y1 y2 y3 y4 y5 y6 y7 y8 y9)) ∧ (∀ y0 y1 y2 y3 y4 y5 y6 y7 y8 y9, LeO (spec_cdParse.j1 k y0 y1 y2 y3 y4 y5 y6 y7 y8 y9) (spec_cdParse.j1 (k + 1) y0 y1 y2 y3 y4 y5 y6 y7 y8 y9)) ∧ (∀ y0 y1 y2 y3 y4 y5 y6 y7 y8, LeO (spec_cdParse.j2 k y0 y1 y2 y3 y4 y5 y6 y7 y8) (spec_cdParse.j2 (k + 1) y0 y1 y2 y3 y4 y5 y6 y7 y8)) ∧ (∀ y0 y1 y2 y3 y4 y5 y6 y7 y8, LeO (spec_cdParse.j3 k y0 y1 y2 y3 y4 y5 y6 y7 y8) (spec_cdParse.j3 (k + 1) y0 y1 y2 y3 y4 y5 y6 y7 y8)) ∧ (∀ y0 y1 y2 y3 y4 y5 y6 y7, LeO (spec_cdParse.j4 k y0 y1 y2 y3 y4 y5 y6 y7) (spec_cdParse.j4 (k + 1) y0 y1 y2 y3 y4 y5 y6 y7)) ∧ (∀ y0 y1 y2 y3 y4 y5 y6 y7 y8, LeO (spec_cdParse.j5 k y0 y1 y2 y3 y4 y5 y6 y7 y8) (spec_cdParse.j5 (k + 1) y0 y1 y2 y3 y4 y5 y6 y7 y8)) ∧ (∀ y0 y1 y2 y3 y4 y5, LeO (spec_cdParse.j6 k y0 y1 y2 y3 y4 y5) (spec_cdParse.j6 (k + 1) y0 y1 y2 y3 y4 y5))
  | 0 => ⟨fun _ _ _ _ _ _ _ _ _ _ r h => by simp [spec_cdParse.j0] at h, fun _ _ _ _ _ _ _ _ _ _ r h => by simp [spec_cdParse.j1] at h, fun _ _ _ _ _ _ _ _ _ r h => by simp [spec_cdParse.j2] at h, fun _ _ _ _ _ _ _ _ _ r h => by simp [spec_cdParse.j3] at h, fun _ _ _ _ _ _ _ _ r h => by simp [spec_cdParse.j4] at h, fun _ _ _ _ _ _ _ _ _ r h => by simp [spec_cdParse.j5] at h, fun _ _ _ _ _ _ r h => by simp [spec_cdParse.j6] at h⟩
  | k + 1 => by
    obtain ⟨ih0, ih1, ih2, ih3, ih4, ih5, ih6⟩ := spec_cdParse.mono_l k
    refine ⟨?_, ?_, ?_, ?_, ?_, ?_, ?_⟩
    · intro y0 y1 y2 y3 y4 y5 y6 y7 y8 y9
      unfold spec_cdParse.j0
      repeat' first
      | (with_reducible exact ih0 _ _ _ _ _ _ _ _ _ _)
      | (with_reducible exact ih1 _ _ _ _ _ _ _ _ _ _)
      | (with_reducible exact ih2 _ _ _ _ _ _ _ _ _)
      | (with_reducible exact ih3 _ _ _ _ _ _ _ _ _)
      | (with_reducible exact ih4 _ _ _ _ _ _ _ _)
      | (with_reducible exact ih5 _ _ _ _ _ _ _ _ _)
      | (with_reducible exact ih6 _ _ _ _ _ _)
      | (with_reducible exact spec_cdGood.mono _ _ _ _ _ _)
      | (with_reducible exact spec_cdImm.mono _ _)
      | (with_reducible exact spec_cdReadReg.mono _ _)
      | (with_reducible exact spec_cdShape.mono _ _)
      | (with_reducible exact spec_cdText.mono _ _ _ _ _ _)
      | (with_reducible exact spec_l1Read.mono _ _)
      | (with_reducible exact spec_l1Split.mono _ _ _)
      | (with_reducible exact LeO.refl _)
      | (with_reducible exact LeO.none _)
      | (with_reducible refine LeO.ite ?_ ?_)
      | (with_reducible refine LeO.bind ?_ (fun _ => ?_))
      | exact ih0 _ _ _ _ _ _ _ _ _ _
      | exact ih1 _ _ _ _ _ _ _ _ _ _
      | exact ih2 _ _ _ _ _ _ _ _ _
      | exact ih3 _ _ _ _ _ _ _ _ _
      | exact ih4 _ _ _ _ _ _ _ _
      | exact ih5 _ _ _ _ _ _ _ _ _
      | exact ih6 _ _ _ _ _ _
      | exact spec_cdGood.mono _ _ _ _ _ _
      | exact spec_cdImm.mono _ _
      | exact spec_cdReadReg.mono _ _
      | exact spec_cdShape.mono _ _
      | exact spec_cdText.mono _ _ _ _ _ _
      | exact spec_l1Read.mono _ _
      | exact spec_l1Split.mono _ _ _
      | exact LeO.none _
      | refine LeO.ite ?_ ?_
      | refine LeO.bind ?_ (fun _ => ?_)
    · intro y0 y1 y2 y3 y4 y5 y6 y7 y8 y9
      unfold spec_cdParse.j1
      repeat' first
      | (with_reducible exact ih0 _ _ _ _ _ _ _ _ _ _)
      | (with_reducible exact ih1 _ _ _ _ _ _ _ _ _ _)
      | (with_reducible exact ih2 _ _ _ _ _ _ _ _ _)
      | (with_reducible exact ih3 _ _ _ _ _ _ _ _ _)
      | (with_reducible exact ih4 _ _ _ _ _ _ _ _)
      | (with_reducible exact ih5 _ _ _ _ _ _ _ _ _)
      | (with_reducible exact ih6 _ _ _ _ _ _)
      | (with_reducible exact spec_cdGood.mono _ _ _ _ _ _)
      | (with_reducible exact spec_cdImm.mono _ _)
      | (with_reducible exact spec_cdReadReg.mono _ _)
      | (with_reducible exact spec_cdShape.mono _ _)
      | (with_reducible exact spec_cdText.mono _ _ _ _ _ _)
      | (with_reducible exact spec_l1Read.mono _ _)
      | (with_reducible exact spec_l1Split.mono _ _ _)
      | (with_reducible exact LeO.refl _)
      | (with_reducible exact LeO.none _)
      | (with_reducible refine LeO.ite ?_ ?_)
      | (with_reducible refine LeO.bind ?_ (fun _ => ?_))
      | exact ih0 _ _ _ _ _ _ _ _ _ _
      | exact ih1 _ _ _ _ _ _ _ _ _ _
      | exact ih2 _ _ _ _ _ _ _ _ _
      | exact ih3 _ _ _ _ _ _ _ _ _
      | exact ih4 _ _ _ _ _ _ _ _
      | exact ih5 _ _ _ _ _ _ _ _ _
      | exact ih6 _ _ _ _ _ _
      | exact spec_cdGood.mono _ _ _ _ _ _
      | exact spec_cdImm.mono _ _
      | exact spec_cdReadReg.mono _ _
      | exact spec_cdShape.mono _ _
      | exact spec_cdText.mono _ _ _ _ _ _
      | exact spec_l1Read.mono _ _
      | exact spec_l1Split.mono _ _ _
      | exact LeO.none _
      | refine LeO.ite ?_ ?_
      | refine LeO.bind ?_ (fun _ => ?_)
    · intro y0 y1 y2 y3 y4 y5 y6 y7 y8
      unfold spec_cdParse.j2
      repeat' first
      | (with_reducible exact ih0 _ _ _ _ _ _ _ _ _ _)
      | (with_reducible exact ih1 _ _ _ _ _ _ _ _ _ _)
      | (with_reducible exact ih2 _ _ _ _ _ _ _ _ _)
      | (with_reducible exact ih3 _ _ _ _ _ _ _ _ _)
      | (with_reducible exact ih4 _ _ _ _ _ _ _ _)
      | (with_reducible exact ih5 _ _ _ _ _ _ _ _ _)
      | (with_reducible exact ih6 _ _ _ _ _ _)
      | (with_reducible exact spec_cdGood.mono _ _ _ _ _ _)
      | (with_reducible exact spec_cdImm.mono _ _)
      | (with_reducible exact spec_cdReadReg.mono _ _)
      | (with_reducible exact spec_cdShape.mono _ _)
      | (with_reducible exact spec_cdText.mono _ _ _ _ _ _)
      | (with_reducible exact spec_l1Read.mono _ _)
      | (with_reducible exact spec_l1Split.mono _ _ _)
      | (with_reducible exact LeO.refl _)
      | (with_reducible exact LeO.none _)
      | (with_reducible refine LeO.ite ?_ ?_)
      | (with_reducible refine LeO.bind ?_ (fun _ => ?_))
      | exact ih0 _ _ _ _ _ _ _ _ _ _
      | exact ih1 _ _ _ _ _ _ _ _ _ _
      | exact ih2 _ _ _ _ _ _ _ _ _
      | exact ih3 _ _ _ _ _ _ _ _ _
      | exact ih4 _ _ _ _ _ _ _ _
      | exact ih5 _ _ _ _ _ _ _ _ _
      | exact ih6 _ _ _ _ _ _
      | exact spec_cdGood.mono _ _ _ _ _ _
      | exact spec_cdImm.mono _ _
      | exact spec_cdReadReg.mono _ _
      | exact spec_cdShape.mono _ _
      | exact spec_cdText.mono _ _ _ _ _ _
      | exact spec_l1Read.mono _ _
      | exact spec_l1Split.mono _ _ _
      | exact LeO.none _
      | refine LeO.ite ?_ ?_
      | refine LeO.bind ?_ (fun _ => ?_)
    · intro y0 y1 y2 y3 y4 y5 y6 y7 y8
      unfold spec_cdParse.j3
      repeat' first
      | (with_reducible exact ih0 _ _ _ _ _ _ _ _ _ _)
      | (with_reducible exact ih1 _ _ _ _ _ _ _ _ _ _)
      | (with_reducible exact ih2 _ _ _ _ _ _ _ _ _)
      | (with_reducible exact ih3 _ _ _ _ _ _ _ _ _)
      | (with_reducible exact ih4 _ _ _ _ _ _ _ _)
      | (with_reducible exact ih5 _ _ _ _ _ _ _ _ _)
      | (with_reducible exact ih6 _ _ _ _ _ _)
      | (with_reducible exact spec_cdGood.mono _ _ _ _ _ _)
      | (with_reducible exact spec_cdImm.mono _ _)
      | (with_reducible exact spec_cdReadReg.mono _ _)
      | (with_reducible exact spec_cdShape.mono _ _)
      | (with_reducible exact spec_cdText.mono _ _ _ _ _ _)
      | (with_reducible exact spec_l1Read.mono _ _)
      | (with_reducible exact spec_l1Split.mono _ _ _)
      | (with_reducible exact LeO.refl _)
      | (with_reducible exact LeO.none _)
      | (with_reducible refine LeO.ite ?_ ?_)
      | (with_reducible refine LeO.bind ?_ (fun _ => ?_))
      | exact ih0 _ _ _ _ _ _ _ _ _ _
      | exact ih1 _ _ _ _ _ _ _ _ _ _
      | exact ih2 _ _ _ _ _ _ _ _ _
      | exact ih3 _ _ _ _ _ _ _ _ _
      | exact ih4 _ _ _ _ _ _ _ _
      | exact ih5 _ _ _ _ _ _ _ _ _
      | exact ih6 _ _ _ _ _ _
      | exact spec_cdGood.mono _ _ _ _ _ _
      | exact spec_cdImm.mono _ _
      | exact spec_cdReadReg.mono _ _
      | exact spec_cdShape.mono _ _
      | exact spec_cdText.mono _ _ _ _ _ _
      | exact spec_l1Read.mono _ _
      | exact spec_l1Split.mono _ _ _
      | exact LeO.none _
      | refine LeO.ite ?_ ?_
      | refine LeO.bind ?_ (fun _ => ?_)
    · intro y0 y1 y2 y3 y4 y5 y6 y7
      unfold spec_cdParse.j4
      repeat' first
      | (with_reducible exact ih0 _ _ _ _ _ _ _ _ _ _)
      | (with_reducible exact ih1 _ _ _ _ _ _ _ _ _ _)
      | (with_reducible exact ih2 _ _ _ _ _ _ _ _ _)
      | (with_reducible exact ih3 _ _ _ _ _ _ _ _ _)
      | (with_reducible exact ih4 _ _ _ _ _ _ _ _)
      | (with_reducible exact ih5 _ _ _ _ _ _ _ _ _)
      | (with_reducible exact ih6 _ _ _ _ _ _)
      | (with_reducible exact spec_cdGood.mono _ _ _ _ _ _)
      | (with_reducible exact spec_cdImm.mono _ _)
      | (with_reducible exact spec_cdReadReg.mono _ _)
      | (with_reducible exact spec_cdShape.mono _ _)
      | (with_reducible exact spec_cdText.mono _ _ _ _ _ _)
      | (with_reducible exact spec_l1Read.mono _ _)
      | (with_reducible exact spec_l1Split.mono _ _ _)
      | (with_reducible exact LeO.refl _)
      | (with_reducible exact LeO.none _)
      | (with_reducible refine LeO.ite ?_ ?_)
      | (with_reducible refine LeO.bind ?_ (fun _ => ?_))
      | exact ih0 _ _ _ _ _ _ _ _ _ _
      | exact ih1 _ _ _ _ _ _ _ _ _ _
      | exact ih2 _ _ _ _ _ _ _ _ _
      | exact ih3 _ _ _ _ _ _ _ _ _
      | exact ih4 _ _ _ _ _ _ _ _
      | exact ih5 _ _ _ _ _ _ _ _ _
      | exact ih6 _ _ _ _ _ _
      | exact spec_cdGood.mono _ _ _ _ _ _
      | exact spec_cdImm.mono _ _
      | exact spec_cdReadReg.mono _ _
      | exact spec_cdShape.mono _ _
      | exact spec_cdText.mono _ _ _ _ _ _
      | exact spec_l1Read.mono _ _
      | exact spec_l1Split.mono _ _ _
      | exact LeO.none _
      | refine LeO.ite ?_ ?_
      | refine LeO.bind ?_ (fun _ => ?_)
    · intro y0 y1 y2 y3 y4 y5 y6 y7 y8
      unfold spec_cdParse.j5
      repeat' first
      | (with_reducible exact ih0 _ _ _ _ _ _ _ _ _ _)
      | (with_reducible exact ih1 _ _ _ _ _ _ _ _ _ _)
      | (with_reducible exact ih2 _ _ _ _ _ _ _ _ _)
      | (with_reducible exact ih3 _ _ _ _ _ _ _ _ _)
      | (with_reducible exact ih4 _ _ _ _ _ _ _ _)
      | (with_reducible exact ih5 _ _ _ _ _ _ _ _ _)
      | (with_reducible exact ih6 _ _ _ _ _ _)
      | (with_reducible exact spec_cdGood.mono _ _ _ _ _ _)
      | (with_reducible exact spec_cdImm.mono _ _)
      | (with_reducible exact spec_cdReadReg.mono _ _)
      | (with_reducible exact spec_cdShape.mono _ _)
      | (with_reducible exact spec_cdText.mono _ _ _ _ _ _)
      | (with_reducible exact spec_l1Read.mono _ _)
      | (with_reducible exact spec_l1Split.mono _ _ _)
      | (with_reducible exact LeO.refl _)
      | (with_reducible exact LeO.none _)
      | (with_reducible refine LeO.ite ?_ ?_)
      | (with_reducible refine LeO.bind ?_ (fun _ => ?_))
      | exact ih0 _ _ _ _ _ _ _ _ _ _
      | exact ih1 _ _ _ _ _ _ _ _ _ _
      | exact ih2 _ _ _ _ _ _ _ _ _
      | exact ih3 _ _ _ _ _ _ _ _ _
      | exact ih4 _ _ _ _ _ _ _ _
      | exact ih5 _ _ _ _ _ _ _ _ _
      | exact ih6 _ _ _ _ _ _
      | exact spec_cdGood.mono _ _ _ _ _ _
      | exact spec_cdImm.mono _ _
      | exact spec_cdReadReg.mono _ _
      | exact spec_cdShape.mono _ _
      | exact spec_cdText.mono _ _ _ _ _ _
      | exact spec_l1Read.mono _ _
      | exact spec_l1Split.mono _ _ _
      | exact LeO.none _
      | refine LeO.ite ?_ ?_
      | refine LeO.bind ?_ (fun _ => ?_)
    · intro y0 y1 y2 y3 y4 y5
      unfold spec_cdParse.j6
      repeat' first
      | (with_reducible exact ih0 _ _ _ _ _ _ _ _ _ _)
      | (with_reducible exact ih1 _ _ _ _ _ _ _ _ _ _)
      | (with_reducible exact ih2 _ _ _ _ _ _ _ _ _)
      | (with_reducible exact ih3 _ _ _ _ _ _ _ _ _)
      | (with_reducible exact ih4 _ _ _ _ _ _ _ _)
      | (with_reducible exact ih5 _ _ _ _ _ _ _ _ _)
      | (with_reducible exact ih6 _ _ _ _ _ _)
      | (with_reducible exact spec_cdGood.mono _ _ _ _ _ _)
      | (with_reducible exact spec_cdImm.mono _ _)
      | (with_reducible exact spec_cdReadReg.mono _ _)
      | (with_reducible exact spec_cdShape.mono _ _)
      | (with_reducible exact spec_cdText.mono _ _ _ _ _ _)
      | (with_reducible exact spec_l1Read.mono _ _)
      | (with_reducible exact spec_l1Split.mono _ _ _)
      | (with_reducible exact LeO.refl _)
      | (with_reducible exact LeO.none _)
      | (with_reducible refine LeO.ite ?_ ?_)
      | (with_reducible refine LeO.bind ?_ (fun _ => ?_))
      | exact ih0 _ _ _ _ _ _ _ _ _ _
      | exact ih1 _ _ _ _ _ _ _ _ _ _
      | exact ih2 _ _ _ _ _ _ _ _ _
      | exact ih3 _ _ _ _ _ _ _ _ _
      | exact ih4 _ _ _ _ _ _ _ _
      | exact ih5 _ _ _ _ _ _ _ _ _
      | exact ih6 _ _ _ _ _ _
      | exact spec_cdGood.mono _ _ _ _ _ _
      | exact spec_cdImm.mono _ _
      | exact spec_cdReadReg.mono _ _
      | exact spec_cdShape.mono _ _
      | exact spec_cdText.mono _ _ _ _ _ _
      | exact spec_l1Read.mono _ _
      | exact spec_l1Split.mono _ _ _
      | exact LeO.none _
      | refine LeO.ite ?_ ?_
      | refine LeO.bind ?_ (fun _ => ?_)
theorem spec_cdParse.mono : ∀ a0 k, LeO (spec_cdParse.f k a0) (spec_cdParse.f (k + 1) a0) := by
  intro a0 k
  obtain ⟨ih0, ih1, ih2, ih3, ih4, ih5, ih6⟩ := spec_cdParse.mono_l k
  unfold spec_cdParse.f
  repeat' first
      | (with_reducible exact ih0 _ _ _ _ _ _ _ _ _ _)
      | (with_reducible exact ih1 _ _ _ _ _ _ _ _ _ _)
      | (with_reducible exact ih2 _ _ _ _ _ _ _ _ _)
      | (with_reducible exact ih3 _ _ _ _ _ _ _ _ _)
      | (with_reducible exact ih4 _ _ _ _ _ _ _ _)
      | (with_reducible exact ih5 _ _ _ _ _ _ _ _ _)
      | (with_reducible exact ih6 _ _ _ _ _ _)
      | (with_reducible exact spec_cdGood.mono _ _ _ _ _ _)
      | (with_reducible exact spec_cdImm.mono _ _)
      | (with_reducible exact spec_cdReadReg.mono _ _)
      | (with_reducible exact spec_cdShape.mono _ _)
      | (with_reducible exact spec_cdText.mono _ _ _ _ _ _)
      | (with_reducible exact spec_l1Read.mono _ _)
      | (with_reducible exact spec_l1Split.mono _ _ _)
      | (with_reducible exact LeO.refl _)
      | (with_reducible exact LeO.none _)
      | (with_reducible refine LeO.ite ?_ ?_)
      | (with_reducible refine LeO.bind ?_ (fun _ => ?_))
      | exact ih0 _ _ _ _ _ _ _ _ _ _
      | exact ih1 _ _ _ _ _ _ _ _ _ _
      | exact ih2 _ _ _ _ _ _ _ _ _
      | exact ih3 _ _ _ _ _ _ _ _ _
      | exact ih4 _ _ _ _ _ _ _ _
      | exact ih5 _ _ _ _ _ _ _ _ _
      | exact ih6 _ _ _ _ _ _
      | exact spec_cdGood.mono _ _ _ _ _ _
      | exact spec_cdImm.mono _ _
      | exact spec_cdReadReg.mono _ _
      | exact spec_cdShape.mono _ _
      | exact spec_cdText.mono _ _ _ _ _ _
      | exact spec_l1Read.mono _ _
      | exact spec_l1Split.mono _ _ _
      | exact LeO.none _
      | refine LeO.ite ?_ ?_
      | refine LeO.bind ?_ (fun _ => ?_)
set_option maxHeartbeats 8000000 in
set_option maxRecDepth 100000 in
theorem spec_cdParse.calls (k : Nat) (a0 : ByteArray) (r1 : ByteArray) (r2 : Int) (r3 : Int) (r4 : Int) (r5 : Int) (r6 : Bool) (w : World) (h : spec_cdParse.f k a0 = some (r1, r2, r3, r4, r5, r6)) :
    Calls Tryd.prog 62 #[.string a0] w fun e w' => e = .returned (.tuple #[.agg #[.string r1, .int .i64 r2, .int .i64 r3, .int .i64 r4, .int .i64 r5], .bool r6]) ∧ Below w.heap.size w w' := by
  have hu35 := Tryd.underlying35
  have HB := Aside0.mk (Below.refl w.heap.size w)
  have H : ((spec_l1Split.f k a0 32).bind fun t144 => (if 0 < (t144.length : Int) then ((spec_cdShape.f k (rdOf ByteArray.empty t144 0)).bind fun bt148 => (if ((t144.length : Int) - 1) > 0 then (if 1 < (t144.length : Int) then ((spec_cdReadReg.f k (rdOf ByteArray.empty t144 1)).bind fun t156 => (spec_cdParse.j0 k a0 t144 bt148.2.1 bt148.2.2.1 (1 + 1) (rdOf ByteArray.empty t144 0) t156 0 0 0)) else (none)) else (spec_cdParse.j0 k a0 t144 bt148.2.1 bt148.2.2.1 1 (rdOf ByteArray.empty t144 0) 0 0 0 0))) else (none))) = some (r1, r2, r3, r4, r5, r6) := h
  clear h
  replace H := Option.bind_eq_some_iff.mp H
  obtain ⟨t144, A20, H⟩ := H
  replace H : (if 0 < (t144.length : Int) then ((spec_cdShape.f k (rdOf ByteArray.empty t144 0)).bind fun bt148 => (if ((t144.length : Int) - 1) > 0 then (if 1 < (t144.length : Int) then ((spec_cdReadReg.f k (rdOf ByteArray.empty t144 1)).bind fun t156 => (spec_cdParse.j0 k a0 t144 bt148.2.1 bt148.2.2.1 (1 + 1) (rdOf ByteArray.empty t144 0) t156 0 0 0)) else (none)) else (spec_cdParse.j0 k a0 t144 bt148.2.1 bt148.2.2.1 1 (rdOf ByteArray.empty t144 0) 0 0 0 0))) else (none)) = some (r1, r2, r3, r4, r5, r6) := H
  have A2 := Aside0.mk A20
  clear A20
  by_cases c3 : 0 < (t144.length : Int)
  · rw [if_pos c3] at H
    have c3b0 : decide (0 < (t144.length : Int)) = true := decide_eq_true c3
    have c3b1 : decide (0 < t144.length) = true := decide_eq_true (by omega)
    have c3b2 : (1 ≤ (t144.length : Int)) = True := eq_true (by omega)
    clear c3
    replace H := Option.bind_eq_some_iff.mp H
    obtain ⟨⟨t148, t149, t150, t151, t152⟩, A40, H⟩ := H
    replace H : (if ((t144.length : Int) - 1) > 0 then (if 1 < (t144.length : Int) then ((spec_cdReadReg.f k (rdOf ByteArray.empty t144 1)).bind fun t156 => (spec_cdParse.j0 k a0 t144 t149 t150 (1 + 1) (rdOf ByteArray.empty t144 0) t156 0 0 0)) else (none)) else (spec_cdParse.j0 k a0 t144 t149 t150 1 (rdOf ByteArray.empty t144 0) 0 0 0 0)) = some (r1, r2, r3, r4, r5, r6) := H
    have A4 := Aside0.mk A40
    clear A40
    have HC5 := Aside0.mk H
    clear H
    go_enter Tryd.func62, Tryd.ntmps62
    go_upto_if 32 with (first | ((with_reducible refine gate_dst (N := 2) rfl ?_); (try (refine gate_guard (by rfl) ?_; dsimp only)); refine box_event ?hg (N := 2) ?hd (cs := #[.string (⟨#[]⟩ : ByteArray), .int .i64 0, .int .i64 0, .int .i64 0, .int .i64 0]) (t := 35) ?hr ?_; (case hd => rfl); (case hg => rfl); (case hr => first | (go_simp; done) | (go_simp; rfl)); intro gb143 hg w6 hbox hb; have n0_ := Aside0.mk (below_step (by repeat (first | (with_reducible first | exact HB.out | apply below_alloc | apply pw_below_drewN | apply below_drew1) | exact HB.out)) hb); have n1_ := Aside0.mk (hbox); have n2_ := Aside0.mk ((by rw [hg]; exact (below_size (by repeat (first | (with_reducible first | exact HB.out | apply below_alloc | apply pw_below_drewN | apply below_drew1) | exact HB.out))) : w.heap.size ≤ gb143)); have n3_ := Aside0.mk ((by rw [hg]; exact (below_size (by repeat (first | (with_reducible first | exact HB.out | apply below_alloc | apply pw_below_drewN | apply below_drew1) | exact HB.out))) : w.heap.size ≤ gb143)); clear HB; have HB := n0_; have BK143 := n1_; have GW143 := n2_; have GE143 := n3_; clear n0_ n1_ n2_ n3_; clear hb hbox hg) | ((with_reducible refine gate_callee (f := 68) rfl ?_); refine goesL_ (some 13) rfl rfl Tryd.func68 (by kernel_rfl) rfl #[.string a0, .int .u8 32] rfl (by (try simp only [List.map_toArray, List.map_cons, List.map_nil]); first | done | rfl | (simp only [List.length_drop, List.length_take]; rfl)) ?_; (with_reducible refine (spec_l1Split.calls k a0 32 t144 _ A2.out).mono ?_); rintro e w7 ⟨v145, rfl, ho0, hb⟩; refine ⟨_, rfl, ?_⟩; have n0_ := Aside0.mk (Kd.R_lower ho0 (below_size (by repeat (first | (with_reducible first | exact HB.out | apply below_alloc | apply pw_below_drewN | apply below_drew1 | refine below_set ?_ GE143.out) | exact HB.out)))); have n1_ := Aside0.mk (blk_below (g := gb143) (o := .cells #[.string (⟨#[]⟩ : ByteArray), .int .i64 0, .int .i64 0, .int .i64 0, .int .i64 0] 35 (0, 0)) (by (with_reducible repeat (first | refine blk_drewN ?_ _ | refine blk_drew ?_ | refine blk_alloc ?_ _)); exact BK143.out) hb); have n2_ := Aside0.mk (below_step (by repeat (first | (with_reducible first | exact HB.out | apply below_alloc | apply pw_below_drewN | apply below_drew1 | refine below_set ?_ GE143.out) | exact HB.out)) hb); clear BK143; clear HB; have HO146 := n0_; have BK143 := n1_; have HB := n2_; clear n0_ n1_ n2_; (try clear hb); (try clear hb2); (try clear hk); (try clear hi); (try clear ho0); obtain ⟨Ao8, co8, eo8⟩ := Kd.R_slice HO146.out; subst eo8; have p147 : 0 ≤ (0 : Int) := (by omega); have q147 : 0 < (t144.length : Int) := of_decide_eq_true (by first | (with_reducible assumption) | assumption); obtain ⟨ad147, e147, hx147_0⟩ := Kd.at_string (Kd.R_reads' HO146.out).2.2 0 p147 q147; cases e147; have qi147 : (0 < t144.length) = True := eq_true (by omega); (try rw [show ((0 : Int)).toNat = 0 from rfl] at hx147_0); (try rw [Addr.add_zero'] at hx147_0); replace p147 := eq_true p147; replace q147 := eq_true q147) | ((with_reducible refine gate_callee (f := 90) rfl ?_); refine goesL_ (some 18) rfl rfl Tryd.func90 (by kernel_rfl) rfl #[.string (rdOf ByteArray.empty t144 0)] rfl (by (try simp only [List.map_toArray, List.map_cons, List.map_nil]); first | done | rfl | (simp only [List.length_drop, List.length_take]; rfl)) ?_; (with_reducible refine (spec_cdShape.calls k (rdOf ByteArray.empty t144 0) t148 t149 t150 t151 t152 _ A4.out).mono ?_); rintro e w' ⟨rfl, ⟨nd, rfl⟩⟩; refine ⟨_, rfl, ?_⟩; (try (rw [drewN_self w7]; generalize hq_ : World.drewN w7 _ = w7; have n0_ : Aside0 (Kd.R Kd.string 9 w7 w.heap.size (fun _ => True) (.slice (some ad147) t144.length co8) t144) := ⟨by rw [← hq_]; exact (by (with_reducible repeat (first | apply Kd.R_alloc | apply Kd.R_drewN | apply Kd.R_drew)); exact HO146.out)⟩; have n1_ : Aside0 (w7.heap[gb143]? = some (.cells #[.string (⟨#[]⟩ : ByteArray), .int .i64 0, .int .i64 0, .int .i64 0, .int .i64 0] 35 (0, 0))) := ⟨by rw [← hq_]; exact (by (with_reducible repeat (first | refine blk_drewN ?_ _ | refine blk_drew ?_ | refine blk_alloc ?_ _)); exact BK143.out)⟩; have n2_ : Aside0 (Below w.heap.size w w7) := ⟨by rw [← hq_]; exact (by repeat (first | (with_reducible first | exact HB.out | apply below_alloc | apply pw_below_drewN | apply below_drew1 | refine below_set ?_ GE143.out) | exact HB.out))⟩; clear HO146 BK143 HB hq_; have HO146 := n0_; have BK143 := n1_; have HB := n2_; clear n0_ n1_ n2_)); have p153 : 0 ≤ (0 : Int) := (by omega); have q153 : 0 < (t144.length : Int) := of_decide_eq_true (by first | (with_reducible assumption) | assumption); obtain ⟨ad153, e153, hx153_0⟩ := Kd.at_string (Kd.R_reads' HO146.out).2.2 0 p153 q153; obtain rfl : ad147 = ad153 := (by injection e153); have qi153 : (0 < t144.length) = True := eq_true (by omega); (try rw [show ((0 : Int)).toNat = 0 from rfl] at hx153_0); (try rw [Addr.add_zero'] at hx153_0); replace p153 := eq_true p153; replace q153 := eq_true q153) | ((with_reducible refine gate_dst (N := 10) rfl ?_); (try (refine gate_guard (by rfl) ?_; dsimp only)); refine box_event ?hg (N := 10) ?hd (cs := #[.string (⟨#[]⟩ : ByteArray), .int .i64 0, .int .i64 0, .int .i64 0, .int .i64 0]) (t := 35) ?hr ?_; (case hd => rfl); (case hg => rfl); (case hr => first | (go_simp; done) | (go_simp; rfl)); intro gb154 hg w9 hbox hb; have n0_ := Aside0.mk (Kd.R_below (by (with_reducible repeat (first | apply Kd.R_alloc | apply Kd.R_drewN | apply Kd.R_drew)); exact HO146.out) hb); have n1_ := Aside0.mk (blk_below (g := gb143) (o := .cells #[.string (⟨#[]⟩ : ByteArray), .int .i64 0, .int .i64 0, .int .i64 0, .int .i64 0] 35 (0, 0)) (by (with_reducible repeat (first | refine blk_drewN ?_ _ | refine blk_drew ?_ | refine blk_alloc ?_ _)); exact BK143.out) hb); have n2_ := Aside0.mk (below_step (by repeat (first | (with_reducible first | exact HB.out | apply below_alloc | apply pw_below_drewN | apply below_drew1 | refine below_set ?_ GE143.out) | exact HB.out)) hb); have n3_ := Aside0.mk (hbox); have n4_ := Aside0.mk ((by rw [hg]; exact (below_size (by repeat (first | (with_reducible first | exact HB.out | apply below_alloc | apply pw_below_drewN | apply below_drew1 | refine below_set ?_ GE143.out) | exact HB.out))) : w.heap.size ≤ gb154)); have n5_ := Aside0.mk ((by rw [hg]; exact (below_size (by repeat (first | (with_reducible first | exact HB.out | apply below_alloc | apply pw_below_drewN | apply below_drew1 | refine below_set ?_ GE143.out) | exact HB.out))) : w.heap.size ≤ gb154)); have n6_ := Aside0.mk ((by rw [hg]; exact Nat.ne_of_lt (blk_lt (g := gb143) (o := .cells #[.string (⟨#[]⟩ : ByteArray), .int .i64 0, .int .i64 0, .int .i64 0, .int .i64 0] 35 (0, 0)) (by (with_reducible repeat (first | refine blk_drewN ?_ _ | refine blk_drew ?_ | refine blk_alloc ?_ _)); exact BK143.out)) : gb143 ≠ gb154)); have n7_ := Aside0.mk ((by rw [hg]; exact Nat.ne_of_gt (blk_lt (g := gb143) (o := .cells #[.string (⟨#[]⟩ : ByteArray), .int .i64 0, .int .i64 0, .int .i64 0, .int .i64 0] 35 (0, 0)) (by (with_reducible repeat (first | refine blk_drewN ?_ _ | refine blk_drew ?_ | refine blk_alloc ?_ _)); exact BK143.out)) : gb154 ≠ gb143)); clear HO146; clear BK143; clear HB; have HO146 := n0_; have BK143 := n1_; have HB := n2_; have BK154 := n3_; have GW154 := n4_; have GE154 := n5_; have NB143_154 := n6_; have NB154_143 := n7_; clear n0_ n1_ n2_ n3_ n4_ n5_ n6_ n7_; clear hb hbox hg; have hnb10 := NB154_143.out; have hnc10 := NB143_154.out; have hcz11_0 : w9.cell? ⟨gb154, 0, none⟩ = some (.string (⟨#[]⟩ : ByteArray)) := (blk_cell BK154.out 0).trans rfl; have hcz11_1 : w9.cell? ⟨gb154, 1, none⟩ = some (.int .i64 0) := (blk_cell BK154.out 1).trans rfl; have hcz11_2 : w9.cell? ⟨gb154, 2, none⟩ = some (.int .i64 0) := (blk_cell BK154.out 2).trans rfl; have hcz11_3 : w9.cell? ⟨gb154, 3, none⟩ = some (.int .i64 0) := (blk_cell BK154.out 3).trans rfl; have hcz11_4 : w9.cell? ⟨gb154, 4, none⟩ = some (.int .i64 0) := (blk_cell BK154.out 4).trans rfl; have hfz11_0 := blk_frozen BK154.out 0; have hfz11_1 := blk_frozen BK154.out 1; have hfz11_2 := blk_frozen BK154.out 2; have hfz11_3 := blk_frozen BK154.out 3; have hfz11_4 := blk_frozen BK154.out 4))
    (try simp only [Act.put, List.setIfInBounds_toArray, List.set_cons_zero, List.set_cons_succ])
    go_cut [11] (fun v11 wc => ∃ (kq : Nat) (x11_4 : Int) (x155001_4 : Int) (A11_4 : Option Addr) (n11_4 c11_4 : Nat), v11 = .slice A11_4 n11_4 c11_4 ∧ (n11_4 ≤ c11_4 ∧ (n11_4 : Int) = (t144.length : Int) - x11_4 ∧ (0 < n11_4 → A11_4 = some (ad147.add x11_4.toNat)) ∧ 0 ≤ x11_4) ∧ Aside0 (spec_cdParse.j0 kq a0 t144 t149 t150 x11_4 (rdOf ByteArray.empty t144 0) x155001_4 0 0 0 = some (r1, r2, r3, r4, r5, r6)) ∧ Aside0 (kq ≤ k) ∧ Aside0 (Kd.R Kd.string 9 wc w.heap.size (fun _ => True) (.slice (some ad147) t144.length co8) t144) ∧ Aside0 (wc.heap[gb143]? = some (.cells #[.string (⟨#[]⟩ : ByteArray), .int .i64 0, .int .i64 0, .int .i64 0, .int .i64 0] 35 (0, 0))) ∧ Aside0 (wc.heap[gb154]? = some (.cells #[.string (rdOf ByteArray.empty t144 0), .int .i64 x155001_4, .int .i64 0, .int .i64 0, .int .i64 0] 35 (0, 0))) ∧ Aside0 (Below w.heap.size w wc))
    case first =>
      have H := HC5.out
      clear HC5
      by_cases c12 : ((t144.length : Int) - 1) > 0
      · rw [if_pos c12] at H
        have c12b0 : decide (0 < ((t144.length : Int) - 1)) = true := decide_eq_true c12
        have hLc : t144.length ≤ co8 := (Kd.R_reads' HO146.out).2.1
        have hco : ¬ co8 = 1 := by omega
        have c12p : 1 < t144.length := by omega
        have c12b1 : decide (0 < t144.length - 1) = true := decide_eq_true (by omega)
        have c12b2 : (0 < t144.length - 1) = True := eq_true (by omega)
        have c12b3 : (1 ≤ ((t144.length - 1 : Nat) : Int)) = True := eq_true (by omega)
        simp only [if_neg hco]
        rw [c12b1]
        have hc1p : t144.length - 1 ≤ co8 - 1 := by omega
        generalize co8 - 1 = co9 at hc1p ⊢
        clear c12
        by_cases c13 : 1 < (t144.length : Int)
        · rw [if_pos c13] at H
          have c13b0 : decide (1 < (t144.length : Int)) = true := decide_eq_true c13
          have c13b1 : decide (1 < t144.length) = true := decide_eq_true (by omega)
          clear c13
          replace H := Option.bind_eq_some_iff.mp H
          obtain ⟨t156, A140, H⟩ := H
          replace H : (spec_cdParse.j0 k a0 t144 t149 t150 (1 + 1) (rdOf ByteArray.empty t144 0) t156 0 0 0) = some (r1, r2, r3, r4, r5, r6) := H
          have A14 := Aside0.mk A140
          clear A140
          have H' := Aside0.mk H
          clear H
          have p155 : 0 ≤ (1 : Int) := (by omega)
          have q155 : 1 < (t144.length : Int) := of_decide_eq_true (by first | (with_reducible assumption) | assumption)
          obtain ⟨ad155, e155, hx155_0⟩ := Kd.at_string (Kd.R_reads' HO146.out).2.2 1 p155 q155
          obtain rfl : ad147 = ad155 := (by injection e155)
          (try simp only [show (1 : Int).toNat = 1 from rfl, Nat.reduceMul, Nat.reduceEqDiff, Go.Addr.add, ↓reduceIte] at hx155_0)
          have qi155 : (1 < t144.length) = True := eq_true (by omega)
          (try rw [show ((1 : Int)).toNat = 1 from rfl] at hx155_0)
          have hn155_0 : ad147.block ≠ gb154 := Kd.own_blk (Kd.R_ne HO146.out BK154.out (by decide))
          have hn155_1 : ad147.block ≠ gb154 := Kd.own_blk (Kd.R_ne HO146.out BK154.out (by decide))
          have hn155_2 : ad147.block ≠ gb154 := Kd.own_blk (Kd.R_ne HO146.out BK154.out (by decide))
          have hn155_3 : ad147.block ≠ gb154 := Kd.own_blk (Kd.R_ne HO146.out BK154.out (by decide))
          have hn155_4 : ad147.block ≠ gb154 := Kd.own_blk (Kd.R_ne HO146.out BK154.out (by decide))
          replace hx155_0 := (cell_far (p := ⟨gb154, 0, none⟩) (by first | (rw [add_block]; exact hn155_0) | (show (Addr.add _ _).block ≠ _; rw [add_block]; exact hn155_0) | exact hn155_0) (.string (rdOf ByteArray.empty t144 0))).trans hx155_0
          replace hx155_0 := (cell_far (p := ⟨gb154, 1, none⟩) (by first | (rw [add_block]; exact hn155_1) | (show (Addr.add _ _).block ≠ _; rw [add_block]; exact hn155_1) | exact hn155_1) (.int .i64 0)).trans hx155_0
          replace hx155_0 := (cell_far (p := ⟨gb154, 2, none⟩) (by first | (rw [add_block]; exact hn155_2) | (show (Addr.add _ _).block ≠ _; rw [add_block]; exact hn155_2) | exact hn155_2) (.int .i64 0)).trans hx155_0
          replace hx155_0 := (cell_far (p := ⟨gb154, 3, none⟩) (by first | (rw [add_block]; exact hn155_3) | (show (Addr.add _ _).block ≠ _; rw [add_block]; exact hn155_3) | exact hn155_3) (.int .i64 0)).trans hx155_0
          replace hx155_0 := (cell_far (p := ⟨gb154, 4, none⟩) (by first | (rw [add_block]; exact hn155_4) | (show (Addr.add _ _).block ≠ _; rw [add_block]; exact hn155_4) | exact hn155_4) (.int .i64 0)).trans hx155_0
          clear hn155_0
          clear hn155_1
          clear hn155_2
          clear hn155_3
          clear hn155_4
          replace p155 := eq_true p155
          replace q155 := eq_true q155
          go_wp2_with (first | ((with_reducible refine gate_callee (f := 111) rfl ?_); refine goesL_ (some 36) rfl rfl Tryd.func111 (by kernel_rfl) rfl #[.string (rdOf ByteArray.empty t144 1)] rfl (by (try simp only [List.map_toArray, List.map_cons, List.map_nil]); first | done | rfl | (simp only [List.length_drop, List.length_take]; rfl)) ?_; (with_reducible refine (spec_cdReadReg.calls k (rdOf ByteArray.empty t144 1) t156 _ A14.out).mono ?_); rintro e w' ⟨rfl, ⟨nd, rfl⟩⟩; refine ⟨_, rfl, ?_⟩; have hnb15 := NB154_143.out; have hnc15 := NB143_154.out; have hcz16_0 : w9.cell? ⟨gb154, 0, none⟩ = some (.string (⟨#[]⟩ : ByteArray)) := (blk_cell BK154.out 0).trans rfl; have hcz16_1 : w9.cell? ⟨gb154, 1, none⟩ = some (.int .i64 0) := (blk_cell BK154.out 1).trans rfl; have hcz16_2 : w9.cell? ⟨gb154, 2, none⟩ = some (.int .i64 0) := (blk_cell BK154.out 2).trans rfl; have hcz16_3 : w9.cell? ⟨gb154, 3, none⟩ = some (.int .i64 0) := (blk_cell BK154.out 3).trans rfl; have hcz16_4 : w9.cell? ⟨gb154, 4, none⟩ = some (.int .i64 0) := (blk_cell BK154.out 4).trans rfl; have hfz16_0 := blk_frozen BK154.out 0; have hfz16_1 := blk_frozen BK154.out 1; have hfz16_2 := blk_frozen BK154.out 2; have hfz16_3 := blk_frozen BK154.out 3; have hfz16_4 := blk_frozen BK154.out 4))
          all_goals
            go_meet
            case rel => exact ⟨_, (1 + 1), (t156), _, _, _, rfl, ⟨by omega, by omega, fun h_ => by first | (exfalso; omega) | rfl | (rw [if_neg (by omega)]; rfl), by omega⟩, H', ⟨by first | omega | exact Nat.le_refl _⟩, ⟨by (with_reducible repeat (first | apply Kd.R_alloc | apply Kd.R_drewN | apply Kd.R_drew)); exact Kd.R_mono (Kd.R_far (p := ⟨gb154, 1, none⟩) (Kd.R_far (p := ⟨gb154, 4, none⟩) (Kd.R_far (p := ⟨gb154, 3, none⟩) (Kd.R_far (p := ⟨gb154, 2, none⟩) (Kd.R_far (p := ⟨gb154, 1, none⟩) (Kd.R_far (p := ⟨gb154, 0, none⟩) (Kd.R_types HO146.out BK154.out (by decide)) (fun _ hk => hk.2) (.string (rdOf ByteArray.empty t144 0))) (fun _ hk => hk.2) (.int .i64 0)) (fun _ hk => hk.2) (.int .i64 0)) (fun _ hk => hk.2) (.int .i64 0)) (fun _ hk => hk.2) (.int .i64 0)) (fun _ hk => hk.2) (.int .i64 t156)) (fun _ hk => trivial)⟩, ⟨by (with_reducible repeat (first | refine blk_drewN ?_ _ | refine blk_drew ?_ | refine blk_alloc ?_ _)); refine blk_far ?_ NB143_154.out _; (with_reducible repeat (first | refine blk_drewN ?_ _ | refine blk_drew ?_ | refine blk_alloc ?_ _)); refine blk_far ?_ NB143_154.out _; (with_reducible repeat (first | refine blk_drewN ?_ _ | refine blk_drew ?_ | refine blk_alloc ?_ _)); refine blk_far ?_ NB143_154.out _; (with_reducible repeat (first | refine blk_drewN ?_ _ | refine blk_drew ?_ | refine blk_alloc ?_ _)); refine blk_far ?_ NB143_154.out _; (with_reducible repeat (first | refine blk_drewN ?_ _ | refine blk_drew ?_ | refine blk_alloc ?_ _)); refine blk_far ?_ NB143_154.out _; (with_reducible repeat (first | refine blk_drewN ?_ _ | refine blk_drew ?_ | refine blk_alloc ?_ _)); refine blk_far ?_ NB143_154.out _; (with_reducible repeat (first | refine blk_drewN ?_ _ | refine blk_drew ?_ | refine blk_alloc ?_ _)); exact BK143.out⟩, ⟨by (with_reducible repeat (first | refine blk_drewN ?_ _ | refine blk_drew ?_ | refine blk_alloc ?_ _)); refine blk_put (cs := #[.string (rdOf ByteArray.empty t144 0), .int .i64 0, .int .i64 0, .int .i64 0, .int .i64 0]) ?_ 1 _ rfl; (with_reducible repeat (first | refine blk_drewN ?_ _ | refine blk_drew ?_ | refine blk_alloc ?_ _)); refine blk_put (cs := #[.string (rdOf ByteArray.empty t144 0), .int .i64 0, .int .i64 0, .int .i64 0, .int .i64 0]) ?_ 4 _ rfl; (with_reducible repeat (first | refine blk_drewN ?_ _ | refine blk_drew ?_ | refine blk_alloc ?_ _)); refine blk_put (cs := #[.string (rdOf ByteArray.empty t144 0), .int .i64 0, .int .i64 0, .int .i64 0, .int .i64 0]) ?_ 3 _ rfl; (with_reducible repeat (first | refine blk_drewN ?_ _ | refine blk_drew ?_ | refine blk_alloc ?_ _)); refine blk_put (cs := #[.string (rdOf ByteArray.empty t144 0), .int .i64 0, .int .i64 0, .int .i64 0, .int .i64 0]) ?_ 2 _ rfl; (with_reducible repeat (first | refine blk_drewN ?_ _ | refine blk_drew ?_ | refine blk_alloc ?_ _)); refine blk_put (cs := #[.string (rdOf ByteArray.empty t144 0), .int .i64 0, .int .i64 0, .int .i64 0, .int .i64 0]) ?_ 1 _ rfl; (with_reducible repeat (first | refine blk_drewN ?_ _ | refine blk_drew ?_ | refine blk_alloc ?_ _)); refine blk_put (cs := #[.string (⟨#[]⟩ : ByteArray), .int .i64 0, .int .i64 0, .int .i64 0, .int .i64 0]) ?_ 0 _ rfl; (with_reducible repeat (first | refine blk_drewN ?_ _ | refine blk_drew ?_ | refine blk_alloc ?_ _)); exact BK154.out⟩, ⟨by repeat (first | (with_reducible first | exact HB.out | apply below_alloc | apply pw_below_drewN | apply below_drew1 | refine below_set ?_ GE143.out | refine below_set ?_ GE154.out) | exact HB.out)⟩⟩
        · rw [if_neg c13] at H
          exact absurd H (by simp)
      · rw [if_neg c12] at H
        have c12b0 : decide (0 < ((t144.length : Int) - 1)) = false := decide_eq_false c12
        have hLc : t144.length ≤ co8 := (Kd.R_reads' HO146.out).2.1
        have c12p : 0 < t144.length := of_decide_eq_true c3b1
        have c12q : ¬ 1 < t144.length := by omega
        have c12b1 : decide (0 < t144.length - 1) = false := decide_eq_false (by omega)
        rw [c12b1]
        generalize (ite (co8 = 1) (some ad147) (some (Addr.mk ad147.block (ad147.off + 1) none)) : Option Addr) = A9
        clear c12
        have H' := Aside0.mk H
        clear H
        go_wp2
        go_meet
        case rel => exact ⟨_, (1), (0), _, _, _, rfl, ⟨by omega, by omega, fun h_ => absurd h_ (by omega), by omega⟩, H', ⟨by first | omega | exact Nat.le_refl _⟩, ⟨by (with_reducible repeat (first | apply Kd.R_alloc | apply Kd.R_drewN | apply Kd.R_drew)); exact Kd.R_mono (Kd.R_far (p := ⟨gb154, 4, none⟩) (Kd.R_far (p := ⟨gb154, 3, none⟩) (Kd.R_far (p := ⟨gb154, 2, none⟩) (Kd.R_far (p := ⟨gb154, 1, none⟩) (Kd.R_far (p := ⟨gb154, 0, none⟩) (Kd.R_types HO146.out BK154.out (by decide)) (fun _ hk => hk.2) (.string (rdOf ByteArray.empty t144 0))) (fun _ hk => hk.2) (.int .i64 0)) (fun _ hk => hk.2) (.int .i64 0)) (fun _ hk => hk.2) (.int .i64 0)) (fun _ hk => hk.2) (.int .i64 0)) (fun _ hk => trivial)⟩, ⟨by (with_reducible repeat (first | refine blk_drewN ?_ _ | refine blk_drew ?_ | refine blk_alloc ?_ _)); refine blk_far ?_ NB143_154.out _; (with_reducible repeat (first | refine blk_drewN ?_ _ | refine blk_drew ?_ | refine blk_alloc ?_ _)); refine blk_far ?_ NB143_154.out _; (with_reducible repeat (first | refine blk_drewN ?_ _ | refine blk_drew ?_ | refine blk_alloc ?_ _)); refine blk_far ?_ NB143_154.out _; (with_reducible repeat (first | refine blk_drewN ?_ _ | refine blk_drew ?_ | refine blk_alloc ?_ _)); refine blk_far ?_ NB143_154.out _; (with_reducible repeat (first | refine blk_drewN ?_ _ | refine blk_drew ?_ | refine blk_alloc ?_ _)); refine blk_far ?_ NB143_154.out _; (with_reducible repeat (first | refine blk_drewN ?_ _ | refine blk_drew ?_ | refine blk_alloc ?_ _)); exact BK143.out⟩, ⟨by (with_reducible repeat (first | refine blk_drewN ?_ _ | refine blk_drew ?_ | refine blk_alloc ?_ _)); refine blk_put (cs := #[.string (rdOf ByteArray.empty t144 0), .int .i64 0, .int .i64 0, .int .i64 0, .int .i64 0]) ?_ 4 _ rfl; (with_reducible repeat (first | refine blk_drewN ?_ _ | refine blk_drew ?_ | refine blk_alloc ?_ _)); refine blk_put (cs := #[.string (rdOf ByteArray.empty t144 0), .int .i64 0, .int .i64 0, .int .i64 0, .int .i64 0]) ?_ 3 _ rfl; (with_reducible repeat (first | refine blk_drewN ?_ _ | refine blk_drew ?_ | refine blk_alloc ?_ _)); refine blk_put (cs := #[.string (rdOf ByteArray.empty t144 0), .int .i64 0, .int .i64 0, .int .i64 0, .int .i64 0]) ?_ 2 _ rfl; (with_reducible repeat (first | refine blk_drewN ?_ _ | refine blk_drew ?_ | refine blk_alloc ?_ _)); refine blk_put (cs := #[.string (rdOf ByteArray.empty t144 0), .int .i64 0, .int .i64 0, .int .i64 0, .int .i64 0]) ?_ 1 _ rfl; (with_reducible repeat (first | refine blk_drewN ?_ _ | refine blk_drew ?_ | refine blk_alloc ?_ _)); refine blk_put (cs := #[.string (⟨#[]⟩ : ByteArray), .int .i64 0, .int .i64 0, .int .i64 0, .int .i64 0]) ?_ 0 _ rfl; (with_reducible repeat (first | refine blk_drewN ?_ _ | refine blk_drew ?_ | refine blk_alloc ?_ _)); exact BK154.out⟩, ⟨by repeat (first | (with_reducible first | exact HB.out | apply below_alloc | apply pw_below_drewN | apply below_drew1 | refine below_set ?_ GE143.out | refine below_set ?_ GE154.out) | exact HB.out)⟩⟩
    case rest =>
      clear HC5
      try clear c1
      try clear p1
      try clear q1
      try clear hx1
      try clear qi1
      try clear p2
      try clear c3
      try clear c3b0
      try clear c3b1
      try clear c6
      try clear p6
      try clear c9
      try clear c10
      try clear c11
      try clear c12
      try clear c12b0
      try clear c13
      try clear c13b0
      try clear c13b1
      try clear p14
      try clear q14
      try clear hx14
      try clear qi14
      try clear c15
      try clear p15
      try clear q15
      try clear hx15
      try clear qi15
      try clear hcz11_0
      try clear hcz11_1
      try clear hcz11_2
      try clear hcz11_3
      try clear hcz11_4
      try clear hcz16_0
      try clear hcz16_1
      try clear hcz16_2
      try clear hcz16_3
      try clear hcz16_4
      try clear hfz11_0
      try clear hfz11_1
      try clear hfz11_2
      try clear hfz11_3
      try clear hfz11_4
      try clear hfz16_0
      try clear hfz16_1
      try clear hfz16_2
      try clear hfz16_3
      try clear hfz16_4
      try clear hx147_0
      try clear hx153_0
      try clear hx155_0
      try clear p147
      try clear p153
      try clear p155
      try clear q147
      try clear q153
      try clear q155
      obtain ⟨kq, x11_4, x155001_4, A11_4, n11_4, c11_4, rfl, ⟨hnc_4, hn_4, hA_4, hp_4⟩, HA, HJ4, HO_4, BK143, BK154, HB⟩ := hcut
      cases kq with
      | zero => exact absurd HA.out (by simp [spec_cdParse.j0])
      | succ kj4 =>
        have H := HA.out
        clear HA
        simp only [spec_cdParse.j0] at H
        have HC17 := Aside0.mk H
        clear H
        go_upto_region 8 with (fail)
        go_cut [45] (fun v45 wc => ∃ (kq : Nat) (x45_16 : Bool), v45 = .bool x45_16 ∧ Aside0 (spec_cdParse.j1 kq a0 t144 t150 x11_4 x45_16 (rdOf ByteArray.empty t144 0) x155001_4 0 0 0 = some (r1, r2, r3, r4, r5, r6)) ∧ Aside0 (kq ≤ kj4) ∧ Aside0 (Kd.R Kd.string 9 wc w.heap.size (fun _ => True) (.slice (some ad147) t144.length co8) t144) ∧ Aside0 (wc.heap[gb143]? = some (.cells #[.string (⟨#[]⟩ : ByteArray), .int .i64 0, .int .i64 0, .int .i64 0, .int .i64 0] 35 (0, 0))) ∧ Aside0 (wc.heap[gb154]? = some (.cells #[.string (rdOf ByteArray.empty t144 0), .int .i64 x155001_4, .int .i64 0, .int .i64 0, .int .i64 0] 35 (0, 0))) ∧ Aside0 (Below w.heap.size w wc))
        case first =>
          have H := HC17.out
          clear HC17
          by_cases c18 : t149 = true
          · subst c18
            have H1 : (spec_cdParse.j1 kj4 a0 t144 t150 x11_4 (decide (((t144.length : Int) - x11_4) > 0)) (rdOf ByteArray.empty t144 0) x155001_4 0 0 0) = some (r1, r2, r3, r4, r5, r6) := by rw [if_pos rfl] at H; exact H
            clear H
            have H := H1
            clear H1
            have H' := Aside0.mk H
            clear H
            go_wp2
            go_meet
            case rel => exact ⟨_, (decide (((t144.length : Int) - x11_4) > 0)), (congrArg Value.bool (decide_eq_decide.mpr (by omega))), H', ⟨by have := HJ4.out; first | omega | exact Nat.le_refl _⟩, ⟨by (with_reducible repeat (first | apply Kd.R_alloc | apply Kd.R_drewN | apply Kd.R_drew)); exact HO_4.out⟩, ⟨by (with_reducible repeat (first | refine blk_drewN ?_ _ | refine blk_drew ?_ | refine blk_alloc ?_ _)); exact BK143.out⟩, ⟨by (with_reducible repeat (first | refine blk_drewN ?_ _ | refine blk_drew ?_ | refine blk_alloc ?_ _)); exact BK154.out⟩, ⟨by repeat (first | (with_reducible first | exact HB.out | apply below_alloc | apply pw_below_drewN | apply below_drew1 | refine below_set ?_ GE143.out | refine below_set ?_ GE154.out) | exact HB.out)⟩⟩
          · replace c18 := Bool.eq_false_iff.mpr c18
            subst c18
            have H1 : (spec_cdParse.j1 kj4 a0 t144 t150 x11_4 false (rdOf ByteArray.empty t144 0) x155001_4 0 0 0) = some (r1, r2, r3, r4, r5, r6) := by rw [if_neg (show ¬ (false = true) by decide)] at H; exact H
            clear H
            have H := H1
            clear H1
            have H' := Aside0.mk H
            clear H
            go_wp2
            go_meet
            case rel => exact ⟨_, (false), (by first | rfl | (simp; done) | (simp [*]; done)), H', ⟨by have := HJ4.out; first | omega | exact Nat.le_refl _⟩, ⟨by (with_reducible repeat (first | apply Kd.R_alloc | apply Kd.R_drewN | apply Kd.R_drew)); exact HO_4.out⟩, ⟨by (with_reducible repeat (first | refine blk_drewN ?_ _ | refine blk_drew ?_ | refine blk_alloc ?_ _)); exact BK143.out⟩, ⟨by (with_reducible repeat (first | refine blk_drewN ?_ _ | refine blk_drew ?_ | refine blk_alloc ?_ _)); exact BK154.out⟩, ⟨by repeat (first | (with_reducible first | exact HB.out | apply below_alloc | apply pw_below_drewN | apply below_drew1 | refine below_set ?_ GE143.out | refine below_set ?_ GE154.out) | exact HB.out)⟩⟩
        case rest =>
          clear HC17
          try clear c1
          try clear p1
          try clear q1
          try clear hx1
          try clear qi1
          try clear p2
          try clear c3
          try clear c3b0
          try clear c3b1
          try clear c6
          try clear p6
          try clear c9
          try clear c10
          try clear c11
          try clear c12
          try clear c12b0
          try clear c13
          try clear c13b0
          try clear c13b1
          try clear p14
          try clear q14
          try clear hx14
          try clear qi14
          try clear c15
          try clear p15
          try clear q15
          try clear hx15
          try clear qi15
          try clear c18
          try clear hcz11_0
          try clear hcz11_1
          try clear hcz11_2
          try clear hcz11_3
          try clear hcz11_4
          try clear hcz16_0
          try clear hcz16_1
          try clear hcz16_2
          try clear hcz16_3
          try clear hcz16_4
          try clear hfz11_0
          try clear hfz11_1
          try clear hfz11_2
          try clear hfz11_3
          try clear hfz11_4
          try clear hfz16_0
          try clear hfz16_1
          try clear hfz16_2
          try clear hfz16_3
          try clear hfz16_4
          try clear hx147_0
          try clear hx153_0
          try clear hx155_0
          try clear p1
          try clear p14
          try clear p147
          try clear p15
          try clear p153
          try clear p155
          try clear p2
          try clear p6
          try clear q1
          try clear q14
          try clear q147
          try clear q15
          try clear q153
          try clear q155
          obtain ⟨kq, x45_16, rfl, HA, HJ16, HO_4, BK143, BK154, HB⟩ := hcut
          cases kq with
          | zero => exact absurd HA.out (by simp [spec_cdParse.j1])
          | succ kj16 =>
            have H := HA.out
            clear HA
            simp only [spec_cdParse.j1] at H
            have HC19 := Aside0.mk H
            clear H
            go_upto_if 45 with (fail)
            go_cut [11] (fun v11 wc => ∃ (kq : Nat) (x11_18 : Int) (x155002_18 : Int) (A11_18 : Option Addr) (n11_18 c11_18 : Nat), v11 = .slice A11_18 n11_18 c11_18 ∧ (n11_18 ≤ c11_18 ∧ (n11_18 : Int) = (t144.length : Int) - x11_18 ∧ (0 < n11_18 → A11_18 = some (ad147.add x11_18.toNat)) ∧ 0 ≤ x11_18) ∧ Aside0 (spec_cdParse.j2 kq a0 t144 t150 x11_18 (rdOf ByteArray.empty t144 0) x155001_4 x155002_18 0 0 = some (r1, r2, r3, r4, r5, r6)) ∧ Aside0 (kq ≤ kj16) ∧ Aside0 (Kd.R Kd.string 9 wc w.heap.size (fun _ => True) (.slice (some ad147) t144.length co8) t144) ∧ Aside0 (wc.heap[gb143]? = some (.cells #[.string (⟨#[]⟩ : ByteArray), .int .i64 0, .int .i64 0, .int .i64 0, .int .i64 0] 35 (0, 0))) ∧ Aside0 (wc.heap[gb154]? = some (.cells #[.string (rdOf ByteArray.empty t144 0), .int .i64 x155001_4, .int .i64 x155002_18, .int .i64 0, .int .i64 0] 35 (0, 0))) ∧ Aside0 (Below w.heap.size w wc))
            case first =>
              have H := HC19.out
              clear HC19
              by_cases c20 : x45_16 = true
              · subst c20
                have H1 : (if 0 ≤ x11_4 then (if x11_4 < (t144.length : Int) then ((spec_cdReadReg.f kj16 (rdOf ByteArray.empty t144 x11_4)).bind fun t158 => (spec_cdParse.j2 kj16 a0 t144 t150 (x11_4 + 1) (rdOf ByteArray.empty t144 0) x155001_4 t158 0 0)) else (none)) else (none)) = some (r1, r2, r3, r4, r5, r6) := by rw [if_pos rfl] at H; exact H
                clear H
                have H := H1
                clear H1
                by_cases c21 : 0 ≤ x11_4
                · rw [if_pos c21] at H
                  have c21b0 : decide (0 ≤ x11_4) = true := decide_eq_true c21
                  clear c21
                  (first | rw [c21b0] | (simp only [i64_w, i32_w]; rw [c21b0]) | skip)
                  by_cases c22 : x11_4 < (t144.length : Int)
                  · rw [if_pos c22] at H
                    have c22b0 : decide (x11_4 < (t144.length : Int)) = true := decide_eq_true c22
                    clear c22
                    replace H := Option.bind_eq_some_iff.mp H
                    obtain ⟨t158, A230, H⟩ := H
                    replace H : (spec_cdParse.j2 kj16 a0 t144 t150 (x11_4 + 1) (rdOf ByteArray.empty t144 0) x155001_4 t158 0 0) = some (r1, r2, r3, r4, r5, r6) := H
                    have A23 := Aside0.mk A230
                    clear A230
                    have H' := Aside0.mk H
                    clear H
                    have p157 : 0 ≤ (x11_4 : Int) := of_decide_eq_true (by first | (with_reducible assumption) | assumption)
                    have q157 : x11_4 < (t144.length : Int) := of_decide_eq_true (by first | (with_reducible assumption) | assumption)
                    have hn0_4 : 0 < n11_4 := by omega
                    obtain rfl := hA_4 hn0_4
                    have b1_4 : (0 < n11_4) = True := eq_true hn0_4
                    have b2_4 : (1 ≤ (n11_4 : Int)) = True := eq_true (by omega)
                    obtain ⟨ad157, e157, hx157_0⟩ := Kd.at_string (Kd.R_reads' HO_4.out).2.2 x11_4 p157 q157
                    obtain rfl : ad147 = ad157 := (by injection e157)
                    replace p157 := eq_true p157
                    replace q157 := eq_true q157
                    go_wp2_with (first | ((with_reducible refine gate_callee (f := 111) rfl ?_); refine goesL_ (some 49) rfl rfl Tryd.func111 (by kernel_rfl) rfl #[.string (rdOf ByteArray.empty t144 x11_4)] rfl (by (try simp only [List.map_toArray, List.map_cons, List.map_nil]); first | done | rfl | (simp only [List.length_drop, List.length_take]; rfl)) ?_; (with_reducible refine (spec_cdReadReg.calls kj16 (rdOf ByteArray.empty t144 x11_4) t158 _ A23.out).mono ?_); rintro e w' ⟨rfl, ⟨nd, rfl⟩⟩; refine ⟨_, rfl, ?_⟩; (try (rw [drewN_self wc]; generalize hq_ : World.drewN wc _ = wc; have n0_ : Aside0 (Kd.R Kd.string 9 wc w.heap.size (fun _ => True) (.slice (some ad147) t144.length co8) t144) := ⟨by rw [← hq_]; exact (by (with_reducible repeat (first | apply Kd.R_alloc | apply Kd.R_drewN | apply Kd.R_drew)); exact HO_4.out)⟩; have n1_ : Aside0 (wc.heap[gb143]? = some (.cells #[.string (⟨#[]⟩ : ByteArray), .int .i64 0, .int .i64 0, .int .i64 0, .int .i64 0] 35 (0, 0))) := ⟨by rw [← hq_]; exact (by (with_reducible repeat (first | refine blk_drewN ?_ _ | refine blk_drew ?_ | refine blk_alloc ?_ _)); exact BK143.out)⟩; have n2_ : Aside0 (wc.heap[gb154]? = some (.cells #[.string (rdOf ByteArray.empty t144 0), .int .i64 x155001_4, .int .i64 0, .int .i64 0, .int .i64 0] 35 (0, 0))) := ⟨by rw [← hq_]; exact (by (with_reducible repeat (first | refine blk_drewN ?_ _ | refine blk_drew ?_ | refine blk_alloc ?_ _)); exact BK154.out)⟩; have n3_ : Aside0 (Below w.heap.size w wc) := ⟨by rw [← hq_]; exact (by repeat (first | (with_reducible first | exact HB.out | apply below_alloc | apply pw_below_drewN | apply below_drew1 | refine below_set ?_ GE143.out | refine below_set ?_ GE154.out) | exact HB.out))⟩; clear HO_4 BK143 BK154 HB hq_; have HO_4 := n0_; have BK143 := n1_; have BK154 := n2_; have HB := n3_; clear n0_ n1_ n2_ n3_)); have hnb24 := NB154_143.out; have hnc24 := NB143_154.out; have hcz25_0 : wc.cell? ⟨gb154, 0, none⟩ = some (.string (rdOf ByteArray.empty t144 0)) := (blk_cell BK154.out 0).trans rfl; have hcz25_1 : wc.cell? ⟨gb154, 1, none⟩ = some (.int .i64 x155001_4) := (blk_cell BK154.out 1).trans rfl; have hcz25_2 : wc.cell? ⟨gb154, 2, none⟩ = some (.int .i64 0) := (blk_cell BK154.out 2).trans rfl; have hcz25_3 : wc.cell? ⟨gb154, 3, none⟩ = some (.int .i64 0) := (blk_cell BK154.out 3).trans rfl; have hcz25_4 : wc.cell? ⟨gb154, 4, none⟩ = some (.int .i64 0) := (blk_cell BK154.out 4).trans rfl; have hfz25_0 := blk_frozen BK154.out 0; have hfz25_1 := blk_frozen BK154.out 1; have hfz25_2 := blk_frozen BK154.out 2; have hfz25_3 := blk_frozen BK154.out 3; have hfz25_4 := blk_frozen BK154.out 4))
                    all_goals
                      go_meet
                      case rel => exact ⟨_, (x11_4 + 1), (t158), _, _, _, rfl, ⟨by omega, by omega, fun h_ => by first | (exfalso; omega) | exact congrArg some (addr_next ad147 _ (by omega)) | (rw [if_neg (by omega)]; exact congrArg some (addr_next ad147 _ (by omega))), by omega⟩, H', ⟨by have := HJ4.out; have := HJ16.out; first | omega | exact Nat.le_refl _⟩, ⟨by (with_reducible repeat (first | apply Kd.R_alloc | apply Kd.R_drewN | apply Kd.R_drew)); exact Kd.R_mono (Kd.R_far (p := ⟨gb154, 2, none⟩) (Kd.R_types HO_4.out BK154.out (by decide)) (fun _ hk => hk.2) (.int .i64 t158)) (fun _ hk => trivial)⟩, ⟨by (with_reducible repeat (first | refine blk_drewN ?_ _ | refine blk_drew ?_ | refine blk_alloc ?_ _)); refine blk_far ?_ NB143_154.out _; (with_reducible repeat (first | refine blk_drewN ?_ _ | refine blk_drew ?_ | refine blk_alloc ?_ _)); exact BK143.out⟩, ⟨by (with_reducible repeat (first | refine blk_drewN ?_ _ | refine blk_drew ?_ | refine blk_alloc ?_ _)); refine blk_put (cs := #[.string (rdOf ByteArray.empty t144 0), .int .i64 x155001_4, .int .i64 0, .int .i64 0, .int .i64 0]) ?_ 2 _ rfl; (with_reducible repeat (first | refine blk_drewN ?_ _ | refine blk_drew ?_ | refine blk_alloc ?_ _)); exact BK154.out⟩, ⟨by repeat (first | (with_reducible first | exact HB.out | apply below_alloc | apply pw_below_drewN | apply below_drew1 | refine below_set ?_ GE143.out | refine below_set ?_ GE154.out) | exact HB.out)⟩⟩
                  · rw [if_neg c22] at H
                    exact absurd H (by simp)
                · rw [if_neg c21] at H
                  exact absurd H (by simp)
              · replace c20 := Bool.eq_false_iff.mpr c20
                subst c20
                have H1 : (spec_cdParse.j2 kj16 a0 t144 t150 x11_4 (rdOf ByteArray.empty t144 0) x155001_4 0 0 0) = some (r1, r2, r3, r4, r5, r6) := by rw [if_neg (show ¬ (false = true) by decide)] at H; exact H
                clear H
                have H := H1
                clear H1
                have H' := Aside0.mk H
                clear H
                go_wp2
                go_meet
                case rel => exact ⟨_, (x11_4), (0), _, _, _, rfl, ⟨hnc_4, hn_4, hA_4, hp_4⟩, H', ⟨by have := HJ4.out; have := HJ16.out; first | omega | exact Nat.le_refl _⟩, ⟨by (with_reducible repeat (first | apply Kd.R_alloc | apply Kd.R_drewN | apply Kd.R_drew)); exact HO_4.out⟩, ⟨by (with_reducible repeat (first | refine blk_drewN ?_ _ | refine blk_drew ?_ | refine blk_alloc ?_ _)); exact BK143.out⟩, ⟨by (with_reducible repeat (first | refine blk_drewN ?_ _ | refine blk_drew ?_ | refine blk_alloc ?_ _)); exact BK154.out⟩, ⟨by repeat (first | (with_reducible first | exact HB.out | apply below_alloc | apply pw_below_drewN | apply below_drew1 | refine below_set ?_ GE143.out | refine below_set ?_ GE154.out) | exact HB.out)⟩⟩
            case rest =>
              clear HC19
              try clear c1
              try clear p1
              try clear q1
              try clear hx1
              try clear qi1
              try clear c2
              try clear p2
              try clear c3
              try clear c3b0
              try clear c3b1
              try clear c6
              try clear p6
              try clear c9
              try clear c10
              try clear c11
              try clear c12
              try clear c12b0
              try clear c13
              try clear c13b0
              try clear c13b1
              try clear p14
              try clear q14
              try clear hx14
              try clear qi14
              try clear c15
              try clear p15
              try clear q15
              try clear hx15
              try clear qi15
              try clear c18
              try clear c20
              try clear c21
              try clear c21b0
              try clear c22
              try clear c22b0
              try clear c24
              try clear hcz11_0
              try clear hcz11_1
              try clear hcz11_2
              try clear hcz11_3
              try clear hcz11_4
              try clear hcz16_0
              try clear hcz16_1
              try clear hcz16_2
              try clear hcz16_3
              try clear hcz16_4
              try clear hcz25_0
              try clear hcz25_1
              try clear hcz25_2
              try clear hcz25_3
              try clear hcz25_4
              try clear hfz11_0
              try clear hfz11_1
              try clear hfz11_2
              try clear hfz11_3
              try clear hfz11_4
              try clear hfz16_0
              try clear hfz16_1
              try clear hfz16_2
              try clear hfz16_3
              try clear hfz16_4
              try clear hfz25_0
              try clear hfz25_1
              try clear hfz25_2
              try clear hfz25_3
              try clear hfz25_4
              try clear hx147_0
              try clear hx153_0
              try clear hx155_0
              try clear hx157_0
              try clear p1
              try clear p14
              try clear p147
              try clear p15
              try clear p153
              try clear p155
              try clear p157
              try clear p2
              try clear p6
              try clear q1
              try clear q14
              try clear q147
              try clear q15
              try clear q153
              try clear q155
              try clear q157
              obtain ⟨kq, x11_18, x155002_18, A11_18, n11_18, c11_18, rfl, ⟨hnc_18, hn_18, hA_18, hp_18⟩, HA, HJ18, HO_4, BK143, BK154, HB⟩ := hcut
              cases kq with
              | zero => exact absurd HA.out (by simp [spec_cdParse.j2])
              | succ kj18 =>
                have H := HA.out
                clear HA
                simp only [spec_cdParse.j2] at H
                have HC26 := Aside0.mk H
                clear H
                go_upto_region 11 with (fail)
                go_cut [58] (fun v58 wc => ∃ (kq : Nat) (x58_25 : Bool), v58 = .bool x58_25 ∧ Aside0 (spec_cdParse.j3 kq a0 t144 x11_18 x58_25 (rdOf ByteArray.empty t144 0) x155001_4 x155002_18 0 0 = some (r1, r2, r3, r4, r5, r6)) ∧ Aside0 (kq ≤ kj18) ∧ Aside0 (Kd.R Kd.string 9 wc w.heap.size (fun _ => True) (.slice (some ad147) t144.length co8) t144) ∧ Aside0 (wc.heap[gb143]? = some (.cells #[.string (⟨#[]⟩ : ByteArray), .int .i64 0, .int .i64 0, .int .i64 0, .int .i64 0] 35 (0, 0))) ∧ Aside0 (wc.heap[gb154]? = some (.cells #[.string (rdOf ByteArray.empty t144 0), .int .i64 x155001_4, .int .i64 x155002_18, .int .i64 0, .int .i64 0] 35 (0, 0))) ∧ Aside0 (Below w.heap.size w wc))
                case first =>
                  have H := HC26.out
                  clear HC26
                  by_cases c27 : t150 = true
                  · subst c27
                    have H1 : (spec_cdParse.j3 kj18 a0 t144 x11_18 (decide (((t144.length : Int) - x11_18) > 0)) (rdOf ByteArray.empty t144 0) x155001_4 x155002_18 0 0) = some (r1, r2, r3, r4, r5, r6) := by rw [if_pos rfl] at H; exact H
                    clear H
                    have H := H1
                    clear H1
                    have H' := Aside0.mk H
                    clear H
                    go_wp2
                    go_meet
                    case rel => exact ⟨_, (decide (((t144.length : Int) - x11_18) > 0)), (congrArg Value.bool (decide_eq_decide.mpr (by omega))), H', ⟨by have := HJ4.out; have := HJ16.out; have := HJ18.out; first | omega | exact Nat.le_refl _⟩, ⟨by (with_reducible repeat (first | apply Kd.R_alloc | apply Kd.R_drewN | apply Kd.R_drew)); exact HO_4.out⟩, ⟨by (with_reducible repeat (first | refine blk_drewN ?_ _ | refine blk_drew ?_ | refine blk_alloc ?_ _)); exact BK143.out⟩, ⟨by (with_reducible repeat (first | refine blk_drewN ?_ _ | refine blk_drew ?_ | refine blk_alloc ?_ _)); exact BK154.out⟩, ⟨by repeat (first | (with_reducible first | exact HB.out | apply below_alloc | apply pw_below_drewN | apply below_drew1 | refine below_set ?_ GE143.out | refine below_set ?_ GE154.out) | exact HB.out)⟩⟩
                  · replace c27 := Bool.eq_false_iff.mpr c27
                    subst c27
                    have H1 : (spec_cdParse.j3 kj18 a0 t144 x11_18 false (rdOf ByteArray.empty t144 0) x155001_4 x155002_18 0 0) = some (r1, r2, r3, r4, r5, r6) := by rw [if_neg (show ¬ (false = true) by decide)] at H; exact H
                    clear H
                    have H := H1
                    clear H1
                    have H' := Aside0.mk H
                    clear H
                    go_wp2
                    go_meet
                    case rel => exact ⟨_, (false), (by first | rfl | (simp; done) | (simp [*]; done)), H', ⟨by have := HJ4.out; have := HJ16.out; have := HJ18.out; first | omega | exact Nat.le_refl _⟩, ⟨by (with_reducible repeat (first | apply Kd.R_alloc | apply Kd.R_drewN | apply Kd.R_drew)); exact HO_4.out⟩, ⟨by (with_reducible repeat (first | refine blk_drewN ?_ _ | refine blk_drew ?_ | refine blk_alloc ?_ _)); exact BK143.out⟩, ⟨by (with_reducible repeat (first | refine blk_drewN ?_ _ | refine blk_drew ?_ | refine blk_alloc ?_ _)); exact BK154.out⟩, ⟨by repeat (first | (with_reducible first | exact HB.out | apply below_alloc | apply pw_below_drewN | apply below_drew1 | refine below_set ?_ GE143.out | refine below_set ?_ GE154.out) | exact HB.out)⟩⟩
                case rest =>
                  clear HC26
                  try clear c1
                  try clear p1
                  try clear q1
                  try clear hx1
                  try clear qi1
                  try clear c2
                  try clear p2
                  try clear c3
                  try clear c3b0
                  try clear c3b1
                  try clear c6
                  try clear p6
                  try clear c9
                  try clear c10
                  try clear c11
                  try clear c12
                  try clear c12b0
                  try clear c13
                  try clear c13b0
                  try clear c13b1
                  try clear p14
                  try clear q14
                  try clear hx14
                  try clear qi14
                  try clear c15
                  try clear p15
                  try clear q15
                  try clear hx15
                  try clear qi15
                  try clear c18
                  try clear c20
                  try clear c21
                  try clear c21b0
                  try clear c22
                  try clear c22b0
                  try clear c24
                  try clear c27
                  try clear hcz11_0
                  try clear hcz11_1
                  try clear hcz11_2
                  try clear hcz11_3
                  try clear hcz11_4
                  try clear hcz16_0
                  try clear hcz16_1
                  try clear hcz16_2
                  try clear hcz16_3
                  try clear hcz16_4
                  try clear hcz25_0
                  try clear hcz25_1
                  try clear hcz25_2
                  try clear hcz25_3
                  try clear hcz25_4
                  try clear hfz11_0
                  try clear hfz11_1
                  try clear hfz11_2
                  try clear hfz11_3
                  try clear hfz11_4
                  try clear hfz16_0
                  try clear hfz16_1
                  try clear hfz16_2
                  try clear hfz16_3
                  try clear hfz16_4
                  try clear hfz25_0
                  try clear hfz25_1
                  try clear hfz25_2
                  try clear hfz25_3
                  try clear hfz25_4
                  try clear hx147_0
                  try clear hx153_0
                  try clear hx155_0
                  try clear hx157_0
                  try clear p1
                  try clear p14
                  try clear p147
                  try clear p15
                  try clear p153
                  try clear p155
                  try clear p157
                  try clear p2
                  try clear p6
                  try clear q1
                  try clear q14
                  try clear q147
                  try clear q15
                  try clear q153
                  try clear q155
                  try clear q157
                  obtain ⟨kq, x58_25, rfl, HA, HJ25, HO_4, BK143, BK154, HB⟩ := hcut
                  cases kq with
                  | zero => exact absurd HA.out (by simp [spec_cdParse.j3])
                  | succ kj25 =>
                    have H := HA.out
                    clear HA
                    simp only [spec_cdParse.j3] at H
                    have HC28 := Aside0.mk H
                    clear H
                    go_upto_if 58 with (fail)
                    go_cut [11] (fun v11 wc => ∃ (kq : Nat) (x11_27 : Int) (x155003_27 : Int) (A11_27 : Option Addr) (n11_27 c11_27 : Nat), v11 = .slice A11_27 n11_27 c11_27 ∧ (n11_27 ≤ c11_27 ∧ (n11_27 : Int) = (t144.length : Int) - x11_27 ∧ (0 < n11_27 → A11_27 = some (ad147.add x11_27.toNat)) ∧ 0 ≤ x11_27) ∧ Aside0 (spec_cdParse.j4 kq a0 t144 x11_27 (rdOf ByteArray.empty t144 0) x155001_4 x155002_18 x155003_27 0 = some (r1, r2, r3, r4, r5, r6)) ∧ Aside0 (kq ≤ kj25) ∧ Aside0 (Kd.R Kd.string 9 wc w.heap.size (fun _ => True) (.slice (some ad147) t144.length co8) t144) ∧ Aside0 (wc.heap[gb143]? = some (.cells #[.string (⟨#[]⟩ : ByteArray), .int .i64 0, .int .i64 0, .int .i64 0, .int .i64 0] 35 (0, 0))) ∧ Aside0 (wc.heap[gb154]? = some (.cells #[.string (rdOf ByteArray.empty t144 0), .int .i64 x155001_4, .int .i64 x155002_18, .int .i64 x155003_27, .int .i64 0] 35 (0, 0))) ∧ Aside0 (Below w.heap.size w wc))
                    case first =>
                      have H := HC28.out
                      clear HC28
                      by_cases c29 : x58_25 = true
                      · subst c29
                        have H1 : (if 0 ≤ x11_18 then (if x11_18 < (t144.length : Int) then ((spec_cdReadReg.f kj25 (rdOf ByteArray.empty t144 x11_18)).bind fun t160 => (spec_cdParse.j4 kj25 a0 t144 (x11_18 + 1) (rdOf ByteArray.empty t144 0) x155001_4 x155002_18 t160 0)) else (none)) else (none)) = some (r1, r2, r3, r4, r5, r6) := by rw [if_pos rfl] at H; exact H
                        clear H
                        have H := H1
                        clear H1
                        by_cases c30 : 0 ≤ x11_18
                        · rw [if_pos c30] at H
                          have c30b0 : decide (0 ≤ x11_18) = true := decide_eq_true c30
                          clear c30
                          (first | rw [c30b0] | (simp only [i64_w, i32_w]; rw [c30b0]) | skip)
                          by_cases c31 : x11_18 < (t144.length : Int)
                          · rw [if_pos c31] at H
                            have c31b0 : decide (x11_18 < (t144.length : Int)) = true := decide_eq_true c31
                            clear c31
                            replace H := Option.bind_eq_some_iff.mp H
                            obtain ⟨t160, A320, H⟩ := H
                            replace H : (spec_cdParse.j4 kj25 a0 t144 (x11_18 + 1) (rdOf ByteArray.empty t144 0) x155001_4 x155002_18 t160 0) = some (r1, r2, r3, r4, r5, r6) := H
                            have A32 := Aside0.mk A320
                            clear A320
                            have H' := Aside0.mk H
                            clear H
                            have p159 : 0 ≤ (x11_18 : Int) := of_decide_eq_true (by first | (with_reducible assumption) | assumption)
                            have q159 : x11_18 < (t144.length : Int) := of_decide_eq_true (by first | (with_reducible assumption) | assumption)
                            have hn0_18 : 0 < n11_18 := by omega
                            obtain rfl := hA_18 hn0_18
                            have b1_18 : (0 < n11_18) = True := eq_true hn0_18
                            have b2_18 : (1 ≤ (n11_18 : Int)) = True := eq_true (by omega)
                            obtain ⟨ad159, e159, hx159_0⟩ := Kd.at_string (Kd.R_reads' HO_4.out).2.2 x11_18 p159 q159
                            obtain rfl : ad147 = ad159 := (by injection e159)
                            replace p159 := eq_true p159
                            replace q159 := eq_true q159
                            go_wp2_with (first | ((with_reducible refine gate_callee (f := 111) rfl ?_); refine goesL_ (some 62) rfl rfl Tryd.func111 (by kernel_rfl) rfl #[.string (rdOf ByteArray.empty t144 x11_18)] rfl (by (try simp only [List.map_toArray, List.map_cons, List.map_nil]); first | done | rfl | (simp only [List.length_drop, List.length_take]; rfl)) ?_; (with_reducible refine (spec_cdReadReg.calls kj25 (rdOf ByteArray.empty t144 x11_18) t160 _ A32.out).mono ?_); rintro e w' ⟨rfl, ⟨nd, rfl⟩⟩; refine ⟨_, rfl, ?_⟩; (try (rw [drewN_self wc]; generalize hq_ : World.drewN wc _ = wc; have n0_ : Aside0 (Kd.R Kd.string 9 wc w.heap.size (fun _ => True) (.slice (some ad147) t144.length co8) t144) := ⟨by rw [← hq_]; exact (by (with_reducible repeat (first | apply Kd.R_alloc | apply Kd.R_drewN | apply Kd.R_drew)); exact HO_4.out)⟩; have n1_ : Aside0 (wc.heap[gb143]? = some (.cells #[.string (⟨#[]⟩ : ByteArray), .int .i64 0, .int .i64 0, .int .i64 0, .int .i64 0] 35 (0, 0))) := ⟨by rw [← hq_]; exact (by (with_reducible repeat (first | refine blk_drewN ?_ _ | refine blk_drew ?_ | refine blk_alloc ?_ _)); exact BK143.out)⟩; have n2_ : Aside0 (wc.heap[gb154]? = some (.cells #[.string (rdOf ByteArray.empty t144 0), .int .i64 x155001_4, .int .i64 x155002_18, .int .i64 0, .int .i64 0] 35 (0, 0))) := ⟨by rw [← hq_]; exact (by (with_reducible repeat (first | refine blk_drewN ?_ _ | refine blk_drew ?_ | refine blk_alloc ?_ _)); exact BK154.out)⟩; have n3_ : Aside0 (Below w.heap.size w wc) := ⟨by rw [← hq_]; exact (by repeat (first | (with_reducible first | exact HB.out | apply below_alloc | apply pw_below_drewN | apply below_drew1 | refine below_set ?_ GE143.out | refine below_set ?_ GE154.out) | exact HB.out))⟩; clear HO_4 BK143 BK154 HB hq_; have HO_4 := n0_; have BK143 := n1_; have BK154 := n2_; have HB := n3_; clear n0_ n1_ n2_ n3_)); have hnb33 := NB154_143.out; have hnc33 := NB143_154.out; have hcz34_0 : wc.cell? ⟨gb154, 0, none⟩ = some (.string (rdOf ByteArray.empty t144 0)) := (blk_cell BK154.out 0).trans rfl; have hcz34_1 : wc.cell? ⟨gb154, 1, none⟩ = some (.int .i64 x155001_4) := (blk_cell BK154.out 1).trans rfl; have hcz34_2 : wc.cell? ⟨gb154, 2, none⟩ = some (.int .i64 x155002_18) := (blk_cell BK154.out 2).trans rfl; have hcz34_3 : wc.cell? ⟨gb154, 3, none⟩ = some (.int .i64 0) := (blk_cell BK154.out 3).trans rfl; have hcz34_4 : wc.cell? ⟨gb154, 4, none⟩ = some (.int .i64 0) := (blk_cell BK154.out 4).trans rfl; have hfz34_0 := blk_frozen BK154.out 0; have hfz34_1 := blk_frozen BK154.out 1; have hfz34_2 := blk_frozen BK154.out 2; have hfz34_3 := blk_frozen BK154.out 3; have hfz34_4 := blk_frozen BK154.out 4))
                            all_goals
                              go_meet
                              case rel => exact ⟨_, (x11_18 + 1), (t160), _, _, _, rfl, ⟨by omega, by omega, fun h_ => by first | (exfalso; omega) | exact congrArg some (addr_next ad147 _ (by omega)) | (rw [if_neg (by omega)]; exact congrArg some (addr_next ad147 _ (by omega))), by omega⟩, H', ⟨by have := HJ4.out; have := HJ16.out; have := HJ18.out; have := HJ25.out; first | omega | exact Nat.le_refl _⟩, ⟨by (with_reducible repeat (first | apply Kd.R_alloc | apply Kd.R_drewN | apply Kd.R_drew)); exact Kd.R_mono (Kd.R_far (p := ⟨gb154, 3, none⟩) (Kd.R_types HO_4.out BK154.out (by decide)) (fun _ hk => hk.2) (.int .i64 t160)) (fun _ hk => trivial)⟩, ⟨by (with_reducible repeat (first | refine blk_drewN ?_ _ | refine blk_drew ?_ | refine blk_alloc ?_ _)); refine blk_far ?_ NB143_154.out _; (with_reducible repeat (first | refine blk_drewN ?_ _ | refine blk_drew ?_ | refine blk_alloc ?_ _)); exact BK143.out⟩, ⟨by (with_reducible repeat (first | refine blk_drewN ?_ _ | refine blk_drew ?_ | refine blk_alloc ?_ _)); refine blk_put (cs := #[.string (rdOf ByteArray.empty t144 0), .int .i64 x155001_4, .int .i64 x155002_18, .int .i64 0, .int .i64 0]) ?_ 3 _ rfl; (with_reducible repeat (first | refine blk_drewN ?_ _ | refine blk_drew ?_ | refine blk_alloc ?_ _)); exact BK154.out⟩, ⟨by repeat (first | (with_reducible first | exact HB.out | apply below_alloc | apply pw_below_drewN | apply below_drew1 | refine below_set ?_ GE143.out | refine below_set ?_ GE154.out) | exact HB.out)⟩⟩
                          · rw [if_neg c31] at H
                            exact absurd H (by simp)
                        · rw [if_neg c30] at H
                          exact absurd H (by simp)
                      · replace c29 := Bool.eq_false_iff.mpr c29
                        subst c29
                        have H1 : (spec_cdParse.j4 kj25 a0 t144 x11_18 (rdOf ByteArray.empty t144 0) x155001_4 x155002_18 0 0) = some (r1, r2, r3, r4, r5, r6) := by rw [if_neg (show ¬ (false = true) by decide)] at H; exact H
                        clear H
                        have H := H1
                        clear H1
                        have H' := Aside0.mk H
                        clear H
                        go_wp2
                        go_meet
                        case rel => exact ⟨_, (x11_18), (0), _, _, _, rfl, ⟨hnc_18, hn_18, hA_18, hp_18⟩, H', ⟨by have := HJ4.out; have := HJ16.out; have := HJ18.out; have := HJ25.out; first | omega | exact Nat.le_refl _⟩, ⟨by (with_reducible repeat (first | apply Kd.R_alloc | apply Kd.R_drewN | apply Kd.R_drew)); exact HO_4.out⟩, ⟨by (with_reducible repeat (first | refine blk_drewN ?_ _ | refine blk_drew ?_ | refine blk_alloc ?_ _)); exact BK143.out⟩, ⟨by (with_reducible repeat (first | refine blk_drewN ?_ _ | refine blk_drew ?_ | refine blk_alloc ?_ _)); exact BK154.out⟩, ⟨by repeat (first | (with_reducible first | exact HB.out | apply below_alloc | apply pw_below_drewN | apply below_drew1 | refine below_set ?_ GE143.out | refine below_set ?_ GE154.out) | exact HB.out)⟩⟩
                    case rest =>
                      clear HC28
                      try clear c1
                      try clear p1
                      try clear q1
                      try clear hx1
                      try clear qi1
                      try clear c2
                      try clear p2
                      try clear c3
                      try clear c3b0
                      try clear c3b1
                      try clear c6
                      try clear p6
                      try clear c9
                      try clear c10
                      try clear c11
                      try clear c12
                      try clear c12b0
                      try clear c13
                      try clear c13b0
                      try clear c13b1
                      try clear p14
                      try clear q14
                      try clear hx14
                      try clear qi14
                      try clear c15
                      try clear p15
                      try clear q15
                      try clear hx15
                      try clear qi15
                      try clear c18
                      try clear c20
                      try clear c21
                      try clear c21b0
                      try clear c22
                      try clear c22b0
                      try clear c24
                      try clear c27
                      try clear c29
                      try clear c30
                      try clear c30b0
                      try clear c31
                      try clear c31b0
                      try clear c33
                      try clear hcz11_0
                      try clear hcz11_1
                      try clear hcz11_2
                      try clear hcz11_3
                      try clear hcz11_4
                      try clear hcz16_0
                      try clear hcz16_1
                      try clear hcz16_2
                      try clear hcz16_3
                      try clear hcz16_4
                      try clear hcz25_0
                      try clear hcz25_1
                      try clear hcz25_2
                      try clear hcz25_3
                      try clear hcz25_4
                      try clear hcz34_0
                      try clear hcz34_1
                      try clear hcz34_2
                      try clear hcz34_3
                      try clear hcz34_4
                      try clear hfz11_0
                      try clear hfz11_1
                      try clear hfz11_2
                      try clear hfz11_3
                      try clear hfz11_4
                      try clear hfz16_0
                      try clear hfz16_1
                      try clear hfz16_2
                      try clear hfz16_3
                      try clear hfz16_4
                      try clear hfz25_0
                      try clear hfz25_1
                      try clear hfz25_2
                      try clear hfz25_3
                      try clear hfz25_4
                      try clear hfz34_0
                      try clear hfz34_1
                      try clear hfz34_2
                      try clear hfz34_3
                      try clear hfz34_4
                      try clear hx147_0
                      try clear hx153_0
                      try clear hx155_0
                      try clear hx157_0
                      try clear hx159_0
                      try clear p1
                      try clear p14
                      try clear p147
                      try clear p15
                      try clear p153
                      try clear p155
                      try clear p157
                      try clear p159
                      try clear p2
                      try clear p6
                      try clear q1
                      try clear q14
                      try clear q147
                      try clear q15
                      try clear q153
                      try clear q155
                      try clear q157
                      try clear q159
                      obtain ⟨kq, x11_27, x155003_27, A11_27, n11_27, c11_27, rfl, ⟨hnc_27, hn_27, hA_27, hp_27⟩, HA, HJ27, HO_4, BK143, BK154, HB⟩ := hcut
                      cases kq with
                      | zero => exact absurd HA.out (by simp [spec_cdParse.j4])
                      | succ kj27 =>
                        have H := HA.out
                        clear HA
                        simp only [spec_cdParse.j4] at H
                        have HC35 := Aside0.mk H
                        clear H
                        go_upto_region 14 with (fail)
                        go_cut [73] (fun v73 wc => ∃ (kq : Nat) (x73_34 : Bool), v73 = .bool x73_34 ∧ Aside0 (spec_cdParse.j5 kq a0 t144 x11_27 x73_34 (rdOf ByteArray.empty t144 0) x155001_4 x155002_18 x155003_27 0 = some (r1, r2, r3, r4, r5, r6)) ∧ Aside0 (kq ≤ kj27) ∧ Aside0 (Kd.R Kd.string 9 wc w.heap.size (fun _ => True) (.slice (some ad147) t144.length co8) t144) ∧ Aside0 (wc.heap[gb143]? = some (.cells #[.string (⟨#[]⟩ : ByteArray), .int .i64 0, .int .i64 0, .int .i64 0, .int .i64 0] 35 (0, 0))) ∧ Aside0 (wc.heap[gb154]? = some (.cells #[.string (rdOf ByteArray.empty t144 0), .int .i64 x155001_4, .int .i64 x155002_18, .int .i64 x155003_27, .int .i64 0] 35 (0, 0))) ∧ Aside0 (Below w.heap.size w wc))
                        case first =>
                          have H := HC35.out
                          clear HC35
                          replace H := Option.bind_eq_some_iff.mp H
                          obtain ⟨t161, A360, H⟩ := H
                          replace H : (if t161 = true then (spec_cdParse.j5 kj27 a0 t144 x11_27 (decide (((t144.length : Int) - x11_27) > 0)) (rdOf ByteArray.empty t144 0) x155001_4 x155002_18 x155003_27 0) else (spec_cdParse.j5 kj27 a0 t144 x11_27 false (rdOf ByteArray.empty t144 0) x155001_4 x155002_18 x155003_27 0)) = some (r1, r2, r3, r4, r5, r6) := H
                          have A36 := Aside0.mk A360
                          clear A360
                          by_cases c37 : t161 = true
                          · subst c37
                            have H1 : (spec_cdParse.j5 kj27 a0 t144 x11_27 (decide (((t144.length : Int) - x11_27) > 0)) (rdOf ByteArray.empty t144 0) x155001_4 x155002_18 x155003_27 0) = some (r1, r2, r3, r4, r5, r6) := by rw [if_pos rfl] at H; exact H
                            clear H
                            have H := H1
                            clear H1
                            have H' := Aside0.mk H
                            clear H
                            have hnb38 := NB154_143.out
                            have hnc38 := NB143_154.out
                            have hcz39_0 : wc.cell? ⟨gb154, 0, none⟩ = some (.string (rdOf ByteArray.empty t144 0)) := (blk_cell BK154.out 0).trans rfl
                            have hcz39_1 : wc.cell? ⟨gb154, 1, none⟩ = some (.int .i64 x155001_4) := (blk_cell BK154.out 1).trans rfl
                            have hcz39_2 : wc.cell? ⟨gb154, 2, none⟩ = some (.int .i64 x155002_18) := (blk_cell BK154.out 2).trans rfl
                            have hcz39_3 : wc.cell? ⟨gb154, 3, none⟩ = some (.int .i64 x155003_27) := (blk_cell BK154.out 3).trans rfl
                            have hcz39_4 : wc.cell? ⟨gb154, 4, none⟩ = some (.int .i64 0) := (blk_cell BK154.out 4).trans rfl
                            have hfz39_0 := blk_frozen BK154.out 0
                            have hfz39_1 := blk_frozen BK154.out 1
                            have hfz39_2 := blk_frozen BK154.out 2
                            have hfz39_3 := blk_frozen BK154.out 3
                            have hfz39_4 := blk_frozen BK154.out 4
                            go_wp2_with (first | ((with_reducible refine gate_callee (f := 94) rfl ?_); refine goesL_ (some 68) rfl rfl Tryd.func94 (by kernel_rfl) rfl #[.string (rdOf ByteArray.empty t144 0)] rfl (by (try simp only [List.map_toArray, List.map_cons, List.map_nil]); first | done | rfl | (simp only [List.length_drop, List.length_take]; rfl)) ?_; (with_reducible refine (spec_cdImm.calls kj27 (rdOf ByteArray.empty t144 0) true _ A36.out).mono ?_); rintro e w40 ⟨rfl, hb⟩; refine ⟨_, rfl, ?_⟩; have n0_ := Aside0.mk (Kd.R_below (by (with_reducible repeat (first | apply Kd.R_alloc | apply Kd.R_drewN | apply Kd.R_drew)); exact HO_4.out) hb); have n1_ := Aside0.mk (blk_below (g := gb143) (o := .cells #[.string (⟨#[]⟩ : ByteArray), .int .i64 0, .int .i64 0, .int .i64 0, .int .i64 0] 35 (0, 0)) (by (with_reducible repeat (first | refine blk_drewN ?_ _ | refine blk_drew ?_ | refine blk_alloc ?_ _)); exact BK143.out) hb); have n2_ := Aside0.mk (blk_below (g := gb154) (o := .cells #[.string (rdOf ByteArray.empty t144 0), .int .i64 x155001_4, .int .i64 x155002_18, .int .i64 x155003_27, .int .i64 0] 35 (0, 0)) (by (with_reducible repeat (first | refine blk_drewN ?_ _ | refine blk_drew ?_ | refine blk_alloc ?_ _)); exact BK154.out) hb); have n3_ := Aside0.mk (below_step (by repeat (first | (with_reducible first | exact HB.out | apply below_alloc | apply pw_below_drewN | apply below_drew1 | refine below_set ?_ GE143.out | refine below_set ?_ GE154.out) | exact HB.out)) hb); clear HO_4; clear BK143; clear BK154; clear HB; have HO_4 := n0_; have BK143 := n1_; have BK154 := n2_; have HB := n3_; clear n0_ n1_ n2_ n3_; (try clear hb); (try clear hb2); (try clear hk); (try clear hi)))
                            all_goals
                              go_meet
                              case rel => exact ⟨_, (decide (((t144.length : Int) - x11_27) > 0)), (congrArg Value.bool (decide_eq_decide.mpr (by omega))), H', ⟨by have := HJ4.out; have := HJ16.out; have := HJ18.out; have := HJ25.out; have := HJ27.out; first | omega | exact Nat.le_refl _⟩, ⟨by (with_reducible repeat (first | apply Kd.R_alloc | apply Kd.R_drewN | apply Kd.R_drew)); exact HO_4.out⟩, ⟨by (with_reducible repeat (first | refine blk_drewN ?_ _ | refine blk_drew ?_ | refine blk_alloc ?_ _)); exact BK143.out⟩, ⟨by (with_reducible repeat (first | refine blk_drewN ?_ _ | refine blk_drew ?_ | refine blk_alloc ?_ _)); exact BK154.out⟩, ⟨by repeat (first | (with_reducible first | exact HB.out | apply below_alloc | apply pw_below_drewN | apply below_drew1 | refine below_set ?_ GE143.out | refine below_set ?_ GE154.out) | exact HB.out)⟩⟩
                          · replace c37 := Bool.eq_false_iff.mpr c37
                            subst c37
                            have H1 : (spec_cdParse.j5 kj27 a0 t144 x11_27 false (rdOf ByteArray.empty t144 0) x155001_4 x155002_18 x155003_27 0) = some (r1, r2, r3, r4, r5, r6) := by rw [if_neg (show ¬ (false = true) by decide)] at H; exact H
                            clear H
                            have H := H1
                            clear H1
                            have H' := Aside0.mk H
                            clear H
                            have hnb41 := NB154_143.out
                            have hnc41 := NB143_154.out
                            have hcz42_0 : wc.cell? ⟨gb154, 0, none⟩ = some (.string (rdOf ByteArray.empty t144 0)) := (blk_cell BK154.out 0).trans rfl
                            have hcz42_1 : wc.cell? ⟨gb154, 1, none⟩ = some (.int .i64 x155001_4) := (blk_cell BK154.out 1).trans rfl
                            have hcz42_2 : wc.cell? ⟨gb154, 2, none⟩ = some (.int .i64 x155002_18) := (blk_cell BK154.out 2).trans rfl
                            have hcz42_3 : wc.cell? ⟨gb154, 3, none⟩ = some (.int .i64 x155003_27) := (blk_cell BK154.out 3).trans rfl
                            have hcz42_4 : wc.cell? ⟨gb154, 4, none⟩ = some (.int .i64 0) := (blk_cell BK154.out 4).trans rfl
                            have hfz42_0 := blk_frozen BK154.out 0
                            have hfz42_1 := blk_frozen BK154.out 1
                            have hfz42_2 := blk_frozen BK154.out 2
                            have hfz42_3 := blk_frozen BK154.out 3
                            have hfz42_4 := blk_frozen BK154.out 4
                            go_wp2_with (first | ((with_reducible refine gate_callee (f := 94) rfl ?_); refine goesL_ (some 68) rfl rfl Tryd.func94 (by kernel_rfl) rfl #[.string (rdOf ByteArray.empty t144 0)] rfl (by (try simp only [List.map_toArray, List.map_cons, List.map_nil]); first | done | rfl | (simp only [List.length_drop, List.length_take]; rfl)) ?_; (with_reducible refine (spec_cdImm.calls kj27 (rdOf ByteArray.empty t144 0) false _ A36.out).mono ?_); rintro e w43 ⟨rfl, hb⟩; refine ⟨_, rfl, ?_⟩; have n0_ := Aside0.mk (Kd.R_below (by (with_reducible repeat (first | apply Kd.R_alloc | apply Kd.R_drewN | apply Kd.R_drew)); exact HO_4.out) hb); have n1_ := Aside0.mk (blk_below (g := gb143) (o := .cells #[.string (⟨#[]⟩ : ByteArray), .int .i64 0, .int .i64 0, .int .i64 0, .int .i64 0] 35 (0, 0)) (by (with_reducible repeat (first | refine blk_drewN ?_ _ | refine blk_drew ?_ | refine blk_alloc ?_ _)); exact BK143.out) hb); have n2_ := Aside0.mk (blk_below (g := gb154) (o := .cells #[.string (rdOf ByteArray.empty t144 0), .int .i64 x155001_4, .int .i64 x155002_18, .int .i64 x155003_27, .int .i64 0] 35 (0, 0)) (by (with_reducible repeat (first | refine blk_drewN ?_ _ | refine blk_drew ?_ | refine blk_alloc ?_ _)); exact BK154.out) hb); have n3_ := Aside0.mk (below_step (by repeat (first | (with_reducible first | exact HB.out | apply below_alloc | apply pw_below_drewN | apply below_drew1 | refine below_set ?_ GE143.out | refine below_set ?_ GE154.out) | exact HB.out)) hb); clear HO_4; clear BK143; clear BK154; clear HB; have HO_4 := n0_; have BK143 := n1_; have BK154 := n2_; have HB := n3_; clear n0_ n1_ n2_ n3_; (try clear hb); (try clear hb2); (try clear hk); (try clear hi)))
                            all_goals
                              go_meet
                              case rel => exact ⟨_, (false), (by first | rfl | (simp; done) | (simp [*]; done)), H', ⟨by have := HJ4.out; have := HJ16.out; have := HJ18.out; have := HJ25.out; have := HJ27.out; first | omega | exact Nat.le_refl _⟩, ⟨by (with_reducible repeat (first | apply Kd.R_alloc | apply Kd.R_drewN | apply Kd.R_drew)); exact HO_4.out⟩, ⟨by (with_reducible repeat (first | refine blk_drewN ?_ _ | refine blk_drew ?_ | refine blk_alloc ?_ _)); exact BK143.out⟩, ⟨by (with_reducible repeat (first | refine blk_drewN ?_ _ | refine blk_drew ?_ | refine blk_alloc ?_ _)); exact BK154.out⟩, ⟨by repeat (first | (with_reducible first | exact HB.out | apply below_alloc | apply pw_below_drewN | apply below_drew1 | refine below_set ?_ GE143.out | refine below_set ?_ GE154.out) | exact HB.out)⟩⟩
                        case rest =>
                          clear HC35
                          try clear c1
                          try clear p1
                          try clear q1
                          try clear hx1
                          try clear qi1
                          try clear c2
                          try clear p2
                          try clear c3
                          try clear c3b0
                          try clear c3b1
                          try clear c4
                          try clear c6
                          try clear p6
                          try clear c9
                          try clear c10
                          try clear c11
                          try clear c12
                          try clear c12b0
                          try clear c13
                          try clear c13b0
                          try clear c13b1
                          try clear p14
                          try clear q14
                          try clear hx14
                          try clear qi14
                          try clear c15
                          try clear p15
                          try clear q15
                          try clear hx15
                          try clear qi15
                          try clear c18
                          try clear c20
                          try clear c21
                          try clear c21b0
                          try clear c22
                          try clear c22b0
                          try clear c24
                          try clear c27
                          try clear c29
                          try clear c30
                          try clear c30b0
                          try clear c31
                          try clear c31b0
                          try clear c33
                          try clear c37
                          try clear c38
                          try clear c41
                          try clear hcz11_0
                          try clear hcz11_1
                          try clear hcz11_2
                          try clear hcz11_3
                          try clear hcz11_4
                          try clear hcz16_0
                          try clear hcz16_1
                          try clear hcz16_2
                          try clear hcz16_3
                          try clear hcz16_4
                          try clear hcz25_0
                          try clear hcz25_1
                          try clear hcz25_2
                          try clear hcz25_3
                          try clear hcz25_4
                          try clear hcz34_0
                          try clear hcz34_1
                          try clear hcz34_2
                          try clear hcz34_3
                          try clear hcz34_4
                          try clear hcz39_0
                          try clear hcz39_1
                          try clear hcz39_2
                          try clear hcz39_3
                          try clear hcz39_4
                          try clear hcz42_0
                          try clear hcz42_1
                          try clear hcz42_2
                          try clear hcz42_3
                          try clear hcz42_4
                          try clear hfz11_0
                          try clear hfz11_1
                          try clear hfz11_2
                          try clear hfz11_3
                          try clear hfz11_4
                          try clear hfz16_0
                          try clear hfz16_1
                          try clear hfz16_2
                          try clear hfz16_3
                          try clear hfz16_4
                          try clear hfz25_0
                          try clear hfz25_1
                          try clear hfz25_2
                          try clear hfz25_3
                          try clear hfz25_4
                          try clear hfz34_0
                          try clear hfz34_1
                          try clear hfz34_2
                          try clear hfz34_3
                          try clear hfz34_4
                          try clear hfz39_0
                          try clear hfz39_1
                          try clear hfz39_2
                          try clear hfz39_3
                          try clear hfz39_4
                          try clear hfz42_0
                          try clear hfz42_1
                          try clear hfz42_2
                          try clear hfz42_3
                          try clear hfz42_4
                          try clear hx147_0
                          try clear hx153_0
                          try clear hx155_0
                          try clear hx157_0
                          try clear hx159_0
                          try clear p1
                          try clear p14
                          try clear p147
                          try clear p15
                          try clear p153
                          try clear p155
                          try clear p157
                          try clear p159
                          try clear p2
                          try clear p6
                          try clear q1
                          try clear q14
                          try clear q147
                          try clear q15
                          try clear q153
                          try clear q155
                          try clear q157
                          try clear q159
                          obtain ⟨kq, x73_34, rfl, HA, HJ34, HO_4, BK143, BK154, HB⟩ := hcut
                          cases kq with
                          | zero => exact absurd HA.out (by simp [spec_cdParse.j5])
                          | succ kj34 =>
                            have H := HA.out
                            clear HA
                            simp only [spec_cdParse.j5] at H
                            have HC44 := Aside0.mk H
                            clear H
                            go_upto_if 73 with (fail)
                            go_cut [] (fun wc => ∃ (kq : Nat) (x155004_43 : Int), Aside0 (spec_cdParse.j6 kq a0 (rdOf ByteArray.empty t144 0) x155001_4 x155002_18 x155003_27 x155004_43 = some (r1, r2, r3, r4, r5, r6)) ∧ Aside0 (kq ≤ kj34) ∧ Aside0 (wc.heap[gb143]? = some (.cells #[.string (⟨#[]⟩ : ByteArray), .int .i64 0, .int .i64 0, .int .i64 0, .int .i64 0] 35 (0, 0))) ∧ Aside0 (wc.heap[gb154]? = some (.cells #[.string (rdOf ByteArray.empty t144 0), .int .i64 x155001_4, .int .i64 x155002_18, .int .i64 x155003_27, .int .i64 x155004_43] 35 (0, 0))) ∧ Aside0 (Below w.heap.size w wc))
                            case first =>
                              have H := HC44.out
                              clear HC44
                              by_cases c45 : x73_34 = true
                              · subst c45
                                have H1 : (if 0 ≤ x11_27 then (if x11_27 < (t144.length : Int) then ((spec_l1Read.f kj34 (rdOf ByteArray.empty t144 x11_27)).bind fun t163 => (spec_cdParse.j6 kj34 a0 (rdOf ByteArray.empty t144 0) x155001_4 x155002_18 x155003_27 t163)) else (none)) else (none)) = some (r1, r2, r3, r4, r5, r6) := by rw [if_pos rfl] at H; exact H
                                clear H
                                have H := H1
                                clear H1
                                by_cases c46 : 0 ≤ x11_27
                                · rw [if_pos c46] at H
                                  have c46b0 : decide (0 ≤ x11_27) = true := decide_eq_true c46
                                  clear c46
                                  (first | rw [c46b0] | (simp only [i64_w, i32_w]; rw [c46b0]) | skip)
                                  by_cases c47 : x11_27 < (t144.length : Int)
                                  · rw [if_pos c47] at H
                                    have c47b0 : decide (x11_27 < (t144.length : Int)) = true := decide_eq_true c47
                                    clear c47
                                    replace H := Option.bind_eq_some_iff.mp H
                                    obtain ⟨t163, A480, H⟩ := H
                                    replace H : (spec_cdParse.j6 kj34 a0 (rdOf ByteArray.empty t144 0) x155001_4 x155002_18 x155003_27 t163) = some (r1, r2, r3, r4, r5, r6) := H
                                    have A48 := Aside0.mk A480
                                    clear A480
                                    have H' := Aside0.mk H
                                    clear H
                                    have p162 : 0 ≤ (x11_27 : Int) := of_decide_eq_true (by first | (with_reducible assumption) | assumption)
                                    have q162 : x11_27 < (t144.length : Int) := of_decide_eq_true (by first | (with_reducible assumption) | assumption)
                                    have hn0_27 : 0 < n11_27 := by omega
                                    obtain rfl := hA_27 hn0_27
                                    have b1_27 : (0 < n11_27) = True := eq_true hn0_27
                                    have b2_27 : (1 ≤ (n11_27 : Int)) = True := eq_true (by omega)
                                    obtain ⟨ad162, e162, hx162_0⟩ := Kd.at_string (Kd.R_reads' HO_4.out).2.2 x11_27 p162 q162
                                    obtain rfl : ad147 = ad162 := (by injection e162)
                                    replace p162 := eq_true p162
                                    replace q162 := eq_true q162
                                    go_wp2_with (first | ((with_reducible refine gate_callee (f := 112) rfl ?_); refine goesL_ (some 77) rfl rfl Tryd.func112 (by kernel_rfl) rfl #[.string (rdOf ByteArray.empty t144 x11_27)] rfl (by (try simp only [List.map_toArray, List.map_cons, List.map_nil]); first | done | rfl | (simp only [List.length_drop, List.length_take]; rfl)) ?_; (with_reducible refine (spec_l1Read.calls kj34 (rdOf ByteArray.empty t144 x11_27) t163 _ A48.out).mono ?_); rintro e w' ⟨rfl, ⟨nd, rfl⟩⟩; refine ⟨_, rfl, ?_⟩; (try (rw [drewN_self wc]; generalize hq_ : World.drewN wc _ = wc; have n0_ : Aside0 (Kd.R Kd.string 9 wc w.heap.size (fun _ => True) (.slice (some ad147) t144.length co8) t144) := ⟨by rw [← hq_]; exact (by (with_reducible repeat (first | apply Kd.R_alloc | apply Kd.R_drewN | apply Kd.R_drew)); exact HO_4.out)⟩; have n1_ : Aside0 (wc.heap[gb143]? = some (.cells #[.string (⟨#[]⟩ : ByteArray), .int .i64 0, .int .i64 0, .int .i64 0, .int .i64 0] 35 (0, 0))) := ⟨by rw [← hq_]; exact (by (with_reducible repeat (first | refine blk_drewN ?_ _ | refine blk_drew ?_ | refine blk_alloc ?_ _)); exact BK143.out)⟩; have n2_ : Aside0 (wc.heap[gb154]? = some (.cells #[.string (rdOf ByteArray.empty t144 0), .int .i64 x155001_4, .int .i64 x155002_18, .int .i64 x155003_27, .int .i64 0] 35 (0, 0))) := ⟨by rw [← hq_]; exact (by (with_reducible repeat (first | refine blk_drewN ?_ _ | refine blk_drew ?_ | refine blk_alloc ?_ _)); exact BK154.out)⟩; have n3_ : Aside0 (Below w.heap.size w wc) := ⟨by rw [← hq_]; exact (by repeat (first | (with_reducible first | exact HB.out | apply below_alloc | apply pw_below_drewN | apply below_drew1 | refine below_set ?_ GE143.out | refine below_set ?_ GE154.out) | exact HB.out))⟩; clear HO_4 BK143 BK154 HB hq_; have HO_4 := n0_; have BK143 := n1_; have BK154 := n2_; have HB := n3_; clear n0_ n1_ n2_ n3_)); have hnb49 := NB154_143.out; have hnc49 := NB143_154.out; have hcz50_0 : wc.cell? ⟨gb154, 0, none⟩ = some (.string (rdOf ByteArray.empty t144 0)) := (blk_cell BK154.out 0).trans rfl; have hcz50_1 : wc.cell? ⟨gb154, 1, none⟩ = some (.int .i64 x155001_4) := (blk_cell BK154.out 1).trans rfl; have hcz50_2 : wc.cell? ⟨gb154, 2, none⟩ = some (.int .i64 x155002_18) := (blk_cell BK154.out 2).trans rfl; have hcz50_3 : wc.cell? ⟨gb154, 3, none⟩ = some (.int .i64 x155003_27) := (blk_cell BK154.out 3).trans rfl; have hcz50_4 : wc.cell? ⟨gb154, 4, none⟩ = some (.int .i64 0) := (blk_cell BK154.out 4).trans rfl; have hfz50_0 := blk_frozen BK154.out 0; have hfz50_1 := blk_frozen BK154.out 1; have hfz50_2 := blk_frozen BK154.out 2; have hfz50_3 := blk_frozen BK154.out 3; have hfz50_4 := blk_frozen BK154.out 4))
                                    all_goals
                                      go_meet
                                      case rel => exact ⟨_, (t163), H', ⟨by have := HJ4.out; have := HJ16.out; have := HJ18.out; have := HJ25.out; have := HJ27.out; have := HJ34.out; first | omega | exact Nat.le_refl _⟩, ⟨by (with_reducible repeat (first | refine blk_drewN ?_ _ | refine blk_drew ?_ | refine blk_alloc ?_ _)); refine blk_far ?_ NB143_154.out _; (with_reducible repeat (first | refine blk_drewN ?_ _ | refine blk_drew ?_ | refine blk_alloc ?_ _)); exact BK143.out⟩, ⟨by (with_reducible repeat (first | refine blk_drewN ?_ _ | refine blk_drew ?_ | refine blk_alloc ?_ _)); refine blk_put (cs := #[.string (rdOf ByteArray.empty t144 0), .int .i64 x155001_4, .int .i64 x155002_18, .int .i64 x155003_27, .int .i64 0]) ?_ 4 _ rfl; (with_reducible repeat (first | refine blk_drewN ?_ _ | refine blk_drew ?_ | refine blk_alloc ?_ _)); exact BK154.out⟩, ⟨by repeat (first | (with_reducible first | exact HB.out | apply below_alloc | apply pw_below_drewN | apply below_drew1 | refine below_set ?_ GE143.out | refine below_set ?_ GE154.out) | exact HB.out)⟩⟩
                                  · rw [if_neg c47] at H
                                    exact absurd H (by simp)
                                · rw [if_neg c46] at H
                                  exact absurd H (by simp)
                              · replace c45 := Bool.eq_false_iff.mpr c45
                                subst c45
                                have H1 : (spec_cdParse.j6 kj34 a0 (rdOf ByteArray.empty t144 0) x155001_4 x155002_18 x155003_27 0) = some (r1, r2, r3, r4, r5, r6) := by rw [if_neg (show ¬ (false = true) by decide)] at H; exact H
                                clear H
                                have H := H1
                                clear H1
                                have H' := Aside0.mk H
                                clear H
                                go_wp2
                                go_meet
                                case rel => exact ⟨_, (0), H', ⟨by have := HJ4.out; have := HJ16.out; have := HJ18.out; have := HJ25.out; have := HJ27.out; have := HJ34.out; first | omega | exact Nat.le_refl _⟩, ⟨by (with_reducible repeat (first | refine blk_drewN ?_ _ | refine blk_drew ?_ | refine blk_alloc ?_ _)); exact BK143.out⟩, ⟨by (with_reducible repeat (first | refine blk_drewN ?_ _ | refine blk_drew ?_ | refine blk_alloc ?_ _)); exact BK154.out⟩, ⟨by repeat (first | (with_reducible first | exact HB.out | apply below_alloc | apply pw_below_drewN | apply below_drew1 | refine below_set ?_ GE143.out | refine below_set ?_ GE154.out) | exact HB.out)⟩⟩
                            case rest =>
                              clear HC44
                              try clear c1
                              try clear p1
                              try clear q1
                              try clear hx1
                              try clear qi1
                              try clear c2
                              try clear p2
                              try clear c3
                              try clear c3b0
                              try clear c3b1
                              try clear c4
                              try clear c6
                              try clear p6
                              try clear c9
                              try clear c10
                              try clear c11
                              try clear c12
                              try clear c12b0
                              try clear c13
                              try clear c13b0
                              try clear c13b1
                              try clear p14
                              try clear q14
                              try clear hx14
                              try clear qi14
                              try clear c15
                              try clear p15
                              try clear q15
                              try clear hx15
                              try clear qi15
                              try clear p16
                              try clear q16
                              try clear hx16
                              try clear c18
                              try clear c20
                              try clear c21
                              try clear c21b0
                              try clear c22
                              try clear c22b0
                              try clear c24
                              try clear c27
                              try clear c29
                              try clear c30
                              try clear c30b0
                              try clear c31
                              try clear c31b0
                              try clear c33
                              try clear c37
                              try clear c38
                              try clear c41
                              try clear c45
                              try clear c46
                              try clear c46b0
                              try clear c47
                              try clear c47b0
                              try clear c49
                              try clear hcz11_0
                              try clear hcz11_1
                              try clear hcz11_2
                              try clear hcz11_3
                              try clear hcz11_4
                              try clear hcz16_0
                              try clear hcz16_1
                              try clear hcz16_2
                              try clear hcz16_3
                              try clear hcz16_4
                              try clear hcz25_0
                              try clear hcz25_1
                              try clear hcz25_2
                              try clear hcz25_3
                              try clear hcz25_4
                              try clear hcz34_0
                              try clear hcz34_1
                              try clear hcz34_2
                              try clear hcz34_3
                              try clear hcz34_4
                              try clear hcz39_0
                              try clear hcz39_1
                              try clear hcz39_2
                              try clear hcz39_3
                              try clear hcz39_4
                              try clear hcz42_0
                              try clear hcz42_1
                              try clear hcz42_2
                              try clear hcz42_3
                              try clear hcz42_4
                              try clear hcz50_0
                              try clear hcz50_1
                              try clear hcz50_2
                              try clear hcz50_3
                              try clear hcz50_4
                              try clear hfz11_0
                              try clear hfz11_1
                              try clear hfz11_2
                              try clear hfz11_3
                              try clear hfz11_4
                              try clear hfz16_0
                              try clear hfz16_1
                              try clear hfz16_2
                              try clear hfz16_3
                              try clear hfz16_4
                              try clear hfz25_0
                              try clear hfz25_1
                              try clear hfz25_2
                              try clear hfz25_3
                              try clear hfz25_4
                              try clear hfz34_0
                              try clear hfz34_1
                              try clear hfz34_2
                              try clear hfz34_3
                              try clear hfz34_4
                              try clear hfz39_0
                              try clear hfz39_1
                              try clear hfz39_2
                              try clear hfz39_3
                              try clear hfz39_4
                              try clear hfz42_0
                              try clear hfz42_1
                              try clear hfz42_2
                              try clear hfz42_3
                              try clear hfz42_4
                              try clear hfz50_0
                              try clear hfz50_1
                              try clear hfz50_2
                              try clear hfz50_3
                              try clear hfz50_4
                              try clear hx147_0
                              try clear hx153_0
                              try clear hx155_0
                              try clear hx157_0
                              try clear hx159_0
                              try clear hx162_0
                              try clear p1
                              try clear p14
                              try clear p147
                              try clear p15
                              try clear p153
                              try clear p155
                              try clear p157
                              try clear p159
                              try clear p162
                              try clear p2
                              try clear p6
                              try clear q1
                              try clear q14
                              try clear q147
                              try clear q15
                              try clear q153
                              try clear q155
                              try clear q157
                              try clear q159
                              try clear q162
                              obtain ⟨kq, x155004_43, HA, HJ43, BK143, BK154, HB⟩ := hcut
                              cases kq with
                              | zero => exact absurd HA.out (by simp [spec_cdParse.j6])
                              | succ kj43 =>
                                have H := HA.out
                                clear HA
                                simp only [spec_cdParse.j6] at H
                                replace H := Option.bind_eq_some_iff.mp H
                                obtain ⟨t164, A510, H⟩ := H
                                replace H : (if t164 = true then ((spec_cdText.f kj43 (rdOf ByteArray.empty t144 0) x155001_4 x155002_18 x155003_27 x155004_43).bind fun t165 => (if t165.toList = a0.toList then (some ((rdOf ByteArray.empty t144 0), x155001_4, x155002_18, x155003_27, x155004_43, true)) else (some ((⟨#[]⟩ : ByteArray), 0, 0, 0, 0, false)))) else (some ((⟨#[]⟩ : ByteArray), 0, 0, 0, 0, false))) = some (r1, r2, r3, r4, r5, r6) := H
                                have A51 := Aside0.mk A510
                                clear A510
                                by_cases c52 : t164 = true
                                · subst c52
                                  have H1 : ((spec_cdText.f kj43 (rdOf ByteArray.empty t144 0) x155001_4 x155002_18 x155003_27 x155004_43).bind fun t165 => (if t165.toList = a0.toList then (some ((rdOf ByteArray.empty t144 0), x155001_4, x155002_18, x155003_27, x155004_43, true)) else (some ((⟨#[]⟩ : ByteArray), 0, 0, 0, 0, false)))) = some (r1, r2, r3, r4, r5, r6) := by rw [if_pos rfl] at H; exact H
                                  clear H
                                  have H := H1
                                  clear H1
                                  replace H := Option.bind_eq_some_iff.mp H
                                  obtain ⟨t165, A530, H⟩ := H
                                  replace H : (if t165.toList = a0.toList then (some ((rdOf ByteArray.empty t144 0), x155001_4, x155002_18, x155003_27, x155004_43, true)) else (some ((⟨#[]⟩ : ByteArray), 0, 0, 0, 0, false))) = some (r1, r2, r3, r4, r5, r6) := H
                                  have A53 := Aside0.mk A530
                                  clear A530
                                  by_cases c54 : t165.toList = a0.toList
                                  · rw [if_pos c54] at H
                                    have c54b0 : (t165.toList == a0.toList) = true := beq_iff_eq.mpr c54
                                    have c54b1 : (t165.toList != a0.toList) = false := bne_eq_false_iff_eq.mpr c54
                                    clear c54
                                    simp only [Option.some.injEq, Prod.mk.injEq] at H
                                    obtain ⟨rfl, rfl, rfl, rfl, rfl, rfl⟩ := H
                                    have hnb55 := NB154_143.out
                                    have hnc55 := NB143_154.out
                                    have hcz56_0 : wc.cell? ⟨gb154, 0, none⟩ = some (.string (rdOf ByteArray.empty t144 0)) := (blk_cell BK154.out 0).trans rfl
                                    have hcz56_1 : wc.cell? ⟨gb154, 1, none⟩ = some (.int .i64 x155001_4) := (blk_cell BK154.out 1).trans rfl
                                    have hcz56_2 : wc.cell? ⟨gb154, 2, none⟩ = some (.int .i64 x155002_18) := (blk_cell BK154.out 2).trans rfl
                                    have hcz56_3 : wc.cell? ⟨gb154, 3, none⟩ = some (.int .i64 x155003_27) := (blk_cell BK154.out 3).trans rfl
                                    have hcz56_4 : wc.cell? ⟨gb154, 4, none⟩ = some (.int .i64 x155004_43) := (blk_cell BK154.out 4).trans rfl
                                    have hfz56_0 := blk_frozen BK154.out 0
                                    have hfz56_1 := blk_frozen BK154.out 1
                                    have hfz56_2 := blk_frozen BK154.out 2
                                    have hfz56_3 := blk_frozen BK154.out 3
                                    have hfz56_4 := blk_frozen BK154.out 4
                                    go_wp2_with (first | ((with_reducible refine gate_callee (f := 46) rfl ?_); refine goesL_ (some 80) rfl rfl Tryd.func46 (by kernel_rfl) rfl #[.agg #[.string (rdOf ByteArray.empty t144 0), .int .i64 x155001_4, .int .i64 x155002_18, .int .i64 x155003_27, .int .i64 x155004_43]] rfl (by (try simp only [List.map_toArray, List.map_cons, List.map_nil]); first | done | rfl | (simp only [List.length_drop, List.length_take]; rfl)) ?_; (with_reducible refine (spec_cdGood.calls kj43 (rdOf ByteArray.empty t144 0) x155001_4 x155002_18 x155003_27 x155004_43 true _ A51.out).mono ?_); rintro e w57 ⟨rfl, hb⟩; refine ⟨_, rfl, ?_⟩; have n0_ := Aside0.mk (blk_below (g := gb143) (o := .cells #[.string (⟨#[]⟩ : ByteArray), .int .i64 0, .int .i64 0, .int .i64 0, .int .i64 0] 35 (0, 0)) (by (with_reducible repeat (first | refine blk_drewN ?_ _ | refine blk_drew ?_ | refine blk_alloc ?_ _)); exact BK143.out) hb); have n1_ := Aside0.mk (blk_below (g := gb154) (o := .cells #[.string (rdOf ByteArray.empty t144 0), .int .i64 x155001_4, .int .i64 x155002_18, .int .i64 x155003_27, .int .i64 x155004_43] 35 (0, 0)) (by (with_reducible repeat (first | refine blk_drewN ?_ _ | refine blk_drew ?_ | refine blk_alloc ?_ _)); exact BK154.out) hb); have n2_ := Aside0.mk (below_step (by repeat (first | (with_reducible first | exact HB.out | apply below_alloc | apply pw_below_drewN | apply below_drew1 | refine below_set ?_ GE143.out | refine below_set ?_ GE154.out) | exact HB.out)) hb); clear BK143; clear BK154; clear HB; have BK143 := n0_; have BK154 := n1_; have HB := n2_; clear n0_ n1_ n2_; (try clear hb); (try clear hb2); (try clear hk); (try clear hi); have hcz58_0 : w57.cell? ⟨gb154, 0, none⟩ = some (.string (rdOf ByteArray.empty t144 0)) := (blk_cell BK154.out 0).trans rfl; have hcz58_1 : w57.cell? ⟨gb154, 1, none⟩ = some (.int .i64 x155001_4) := (blk_cell BK154.out 1).trans rfl; have hcz58_2 : w57.cell? ⟨gb154, 2, none⟩ = some (.int .i64 x155002_18) := (blk_cell BK154.out 2).trans rfl; have hcz58_3 : w57.cell? ⟨gb154, 3, none⟩ = some (.int .i64 x155003_27) := (blk_cell BK154.out 3).trans rfl; have hcz58_4 : w57.cell? ⟨gb154, 4, none⟩ = some (.int .i64 x155004_43) := (blk_cell BK154.out 4).trans rfl; have hfz58_0 := blk_frozen BK154.out 0; have hfz58_1 := blk_frozen BK154.out 1; have hfz58_2 := blk_frozen BK154.out 2; have hfz58_3 := blk_frozen BK154.out 3; have hfz58_4 := blk_frozen BK154.out 4) | (go_at_call 47; (with_reducible refine (spec_cdText.calls kj43 (rdOf ByteArray.empty t144 0) x155001_4 x155002_18 x155003_27 x155004_43 t165 _ A53.out).mono ?_); rintro e w59 ⟨rfl, hb⟩; have n0_ := Aside0.mk (blk_below (g := gb143) (o := .cells #[.string (⟨#[]⟩ : ByteArray), .int .i64 0, .int .i64 0, .int .i64 0, .int .i64 0] 35 (0, 0)) (by (with_reducible repeat (first | refine blk_drewN ?_ _ | refine blk_drew ?_ | refine blk_alloc ?_ _)); exact BK143.out) hb); have n1_ := Aside0.mk (blk_below (g := gb154) (o := .cells #[.string (rdOf ByteArray.empty t144 0), .int .i64 x155001_4, .int .i64 x155002_18, .int .i64 x155003_27, .int .i64 x155004_43] 35 (0, 0)) (by (with_reducible repeat (first | refine blk_drewN ?_ _ | refine blk_drew ?_ | refine blk_alloc ?_ _)); exact BK154.out) hb); have n2_ := Aside0.mk (below_step (by repeat (first | (with_reducible first | exact HB.out | apply below_alloc | apply pw_below_drewN | apply below_drew1 | refine below_set ?_ GE143.out | refine below_set ?_ GE154.out) | exact HB.out)) hb); clear BK143; clear BK154; clear HB; have BK143 := n0_; have BK154 := n1_; have HB := n2_; clear n0_ n1_ n2_; (try clear hb); (try clear hb2); (try clear hk); (try clear hi); have hcz60_0 : w59.cell? ⟨gb154, 0, none⟩ = some (.string (rdOf ByteArray.empty t144 0)) := (blk_cell BK154.out 0).trans rfl; have hcz60_1 : w59.cell? ⟨gb154, 1, none⟩ = some (.int .i64 x155001_4) := (blk_cell BK154.out 1).trans rfl; have hcz60_2 : w59.cell? ⟨gb154, 2, none⟩ = some (.int .i64 x155002_18) := (blk_cell BK154.out 2).trans rfl; have hcz60_3 : w59.cell? ⟨gb154, 3, none⟩ = some (.int .i64 x155003_27) := (blk_cell BK154.out 3).trans rfl; have hcz60_4 : w59.cell? ⟨gb154, 4, none⟩ = some (.int .i64 x155004_43) := (blk_cell BK154.out 4).trans rfl; have hfz60_0 := blk_frozen BK154.out 0; have hfz60_1 := blk_frozen BK154.out 1; have hfz60_2 := blk_frozen BK154.out 2; have hfz60_3 := blk_frozen BK154.out 3; have hfz60_4 := blk_frozen BK154.out 4; have hcz61_0 : w59.cell? ⟨gb143, 0, none⟩ = some (.string (⟨#[]⟩ : ByteArray)) := (blk_cell BK143.out 0).trans rfl; have hcz61_1 : w59.cell? ⟨gb143, 1, none⟩ = some (.int .i64 0) := (blk_cell BK143.out 1).trans rfl; have hcz61_2 : w59.cell? ⟨gb143, 2, none⟩ = some (.int .i64 0) := (blk_cell BK143.out 2).trans rfl; have hcz61_3 : w59.cell? ⟨gb143, 3, none⟩ = some (.int .i64 0) := (blk_cell BK143.out 3).trans rfl; have hcz61_4 : w59.cell? ⟨gb143, 4, none⟩ = some (.int .i64 0) := (blk_cell BK143.out 4).trans rfl; have hfz61_0 := blk_frozen BK143.out 0; have hfz61_1 := blk_frozen BK143.out 1; have hfz61_2 := blk_frozen BK143.out 2; have hfz61_3 := blk_frozen BK143.out 3; have hfz61_4 := blk_frozen BK143.out 4))
                                    refine bodyPost_ret (results_ct rfl _ _ gb143 35 #[.string (rdOf ByteArray.empty t144 0), .int .i64 x155001_4, .int .i64 x155002_18, .int .i64 x155003_27, .int .i64 x155004_43] (0, 0) _ rfl (by (with_reducible repeat (first | refine blk_drewN ?_ _ | refine blk_drew ?_ | refine blk_alloc ?_ _)); refine blk_put (cs := #[.string (rdOf ByteArray.empty t144 0), .int .i64 x155001_4, .int .i64 x155002_18, .int .i64 x155003_27, .int .i64 0]) ?_ 4 _ rfl; (with_reducible repeat (first | refine blk_drewN ?_ _ | refine blk_drew ?_ | refine blk_alloc ?_ _)); refine blk_put (cs := #[.string (rdOf ByteArray.empty t144 0), .int .i64 x155001_4, .int .i64 x155002_18, .int .i64 0, .int .i64 0]) ?_ 3 _ rfl; (with_reducible repeat (first | refine blk_drewN ?_ _ | refine blk_drew ?_ | refine blk_alloc ?_ _)); refine blk_put (cs := #[.string (rdOf ByteArray.empty t144 0), .int .i64 x155001_4, .int .i64 0, .int .i64 0, .int .i64 0]) ?_ 2 _ rfl; (with_reducible repeat (first | refine blk_drewN ?_ _ | refine blk_drew ?_ | refine blk_alloc ?_ _)); refine blk_put (cs := #[.string (rdOf ByteArray.empty t144 0), .int .i64 0, .int .i64 0, .int .i64 0, .int .i64 0]) ?_ 1 _ rfl; (with_reducible repeat (first | refine blk_drewN ?_ _ | refine blk_drew ?_ | refine blk_alloc ?_ _)); refine blk_put (cs := #[.string (⟨#[]⟩ : ByteArray), .int .i64 0, .int .i64 0, .int .i64 0, .int .i64 0]) ?_ 0 _ rfl; (with_reducible repeat (first | refine blk_drewN ?_ _ | refine blk_drew ?_ | refine blk_alloc ?_ _)); exact BK143.out) Tryd.underlying35 rfl (by kernel_rfl)) rfl ?_
                                    exact ⟨by first | rfl | (simp [errW_none, errW_some] <;> rfl) | (simp [*, errW_none, errW_some] <;> rfl), by repeat (first | (with_reducible first | exact HB.out | apply below_alloc | apply pw_below_drewN | apply below_drew1 | refine below_set ?_ GE143.out | refine below_set ?_ GE154.out) | exact HB.out)⟩
                                  · rw [if_neg c54] at H
                                    have c54b0 : (t165.toList == a0.toList) = false := beq_eq_false_iff_ne.mpr c54
                                    have c54b1 : (t165.toList != a0.toList) = true := bne_iff_ne.mpr c54
                                    simp only [Option.some.injEq, Prod.mk.injEq] at H
                                    obtain ⟨rfl, rfl, rfl, rfl, rfl, rfl⟩ := H
                                    have hnb62 := NB154_143.out
                                    have hnc62 := NB143_154.out
                                    have hcz63_0 : wc.cell? ⟨gb154, 0, none⟩ = some (.string (rdOf ByteArray.empty t144 0)) := (blk_cell BK154.out 0).trans rfl
                                    have hcz63_1 : wc.cell? ⟨gb154, 1, none⟩ = some (.int .i64 x155001_4) := (blk_cell BK154.out 1).trans rfl
                                    have hcz63_2 : wc.cell? ⟨gb154, 2, none⟩ = some (.int .i64 x155002_18) := (blk_cell BK154.out 2).trans rfl
                                    have hcz63_3 : wc.cell? ⟨gb154, 3, none⟩ = some (.int .i64 x155003_27) := (blk_cell BK154.out 3).trans rfl
                                    have hcz63_4 : wc.cell? ⟨gb154, 4, none⟩ = some (.int .i64 x155004_43) := (blk_cell BK154.out 4).trans rfl
                                    have hfz63_0 := blk_frozen BK154.out 0
                                    have hfz63_1 := blk_frozen BK154.out 1
                                    have hfz63_2 := blk_frozen BK154.out 2
                                    have hfz63_3 := blk_frozen BK154.out 3
                                    have hfz63_4 := blk_frozen BK154.out 4
                                    go_wp2_with (first | ((with_reducible refine gate_callee (f := 46) rfl ?_); refine goesL_ (some 80) rfl rfl Tryd.func46 (by kernel_rfl) rfl #[.agg #[.string (rdOf ByteArray.empty t144 0), .int .i64 x155001_4, .int .i64 x155002_18, .int .i64 x155003_27, .int .i64 x155004_43]] rfl (by (try simp only [List.map_toArray, List.map_cons, List.map_nil]); first | done | rfl | (simp only [List.length_drop, List.length_take]; rfl)) ?_; (with_reducible refine (spec_cdGood.calls kj43 (rdOf ByteArray.empty t144 0) x155001_4 x155002_18 x155003_27 x155004_43 true _ A51.out).mono ?_); rintro e w64 ⟨rfl, hb⟩; refine ⟨_, rfl, ?_⟩; have n0_ := Aside0.mk (blk_below (g := gb143) (o := .cells #[.string (⟨#[]⟩ : ByteArray), .int .i64 0, .int .i64 0, .int .i64 0, .int .i64 0] 35 (0, 0)) (by (with_reducible repeat (first | refine blk_drewN ?_ _ | refine blk_drew ?_ | refine blk_alloc ?_ _)); exact BK143.out) hb); have n1_ := Aside0.mk (blk_below (g := gb154) (o := .cells #[.string (rdOf ByteArray.empty t144 0), .int .i64 x155001_4, .int .i64 x155002_18, .int .i64 x155003_27, .int .i64 x155004_43] 35 (0, 0)) (by (with_reducible repeat (first | refine blk_drewN ?_ _ | refine blk_drew ?_ | refine blk_alloc ?_ _)); exact BK154.out) hb); have n2_ := Aside0.mk (below_step (by repeat (first | (with_reducible first | exact HB.out | apply below_alloc | apply pw_below_drewN | apply below_drew1 | refine below_set ?_ GE143.out | refine below_set ?_ GE154.out) | exact HB.out)) hb); clear BK143; clear BK154; clear HB; have BK143 := n0_; have BK154 := n1_; have HB := n2_; clear n0_ n1_ n2_; (try clear hb); (try clear hb2); (try clear hk); (try clear hi); have hcz65_0 : w64.cell? ⟨gb154, 0, none⟩ = some (.string (rdOf ByteArray.empty t144 0)) := (blk_cell BK154.out 0).trans rfl; have hcz65_1 : w64.cell? ⟨gb154, 1, none⟩ = some (.int .i64 x155001_4) := (blk_cell BK154.out 1).trans rfl; have hcz65_2 : w64.cell? ⟨gb154, 2, none⟩ = some (.int .i64 x155002_18) := (blk_cell BK154.out 2).trans rfl; have hcz65_3 : w64.cell? ⟨gb154, 3, none⟩ = some (.int .i64 x155003_27) := (blk_cell BK154.out 3).trans rfl; have hcz65_4 : w64.cell? ⟨gb154, 4, none⟩ = some (.int .i64 x155004_43) := (blk_cell BK154.out 4).trans rfl; have hfz65_0 := blk_frozen BK154.out 0; have hfz65_1 := blk_frozen BK154.out 1; have hfz65_2 := blk_frozen BK154.out 2; have hfz65_3 := blk_frozen BK154.out 3; have hfz65_4 := blk_frozen BK154.out 4) | (go_at_call 47; (with_reducible refine (spec_cdText.calls kj43 (rdOf ByteArray.empty t144 0) x155001_4 x155002_18 x155003_27 x155004_43 t165 _ A53.out).mono ?_); rintro e w66 ⟨rfl, hb⟩; have n0_ := Aside0.mk (blk_below (g := gb143) (o := .cells #[.string (⟨#[]⟩ : ByteArray), .int .i64 0, .int .i64 0, .int .i64 0, .int .i64 0] 35 (0, 0)) (by (with_reducible repeat (first | refine blk_drewN ?_ _ | refine blk_drew ?_ | refine blk_alloc ?_ _)); exact BK143.out) hb); have n1_ := Aside0.mk (blk_below (g := gb154) (o := .cells #[.string (rdOf ByteArray.empty t144 0), .int .i64 x155001_4, .int .i64 x155002_18, .int .i64 x155003_27, .int .i64 x155004_43] 35 (0, 0)) (by (with_reducible repeat (first | refine blk_drewN ?_ _ | refine blk_drew ?_ | refine blk_alloc ?_ _)); exact BK154.out) hb); have n2_ := Aside0.mk (below_step (by repeat (first | (with_reducible first | exact HB.out | apply below_alloc | apply pw_below_drewN | apply below_drew1 | refine below_set ?_ GE143.out | refine below_set ?_ GE154.out) | exact HB.out)) hb); clear BK143; clear BK154; clear HB; have BK143 := n0_; have BK154 := n1_; have HB := n2_; clear n0_ n1_ n2_; (try clear hb); (try clear hb2); (try clear hk); (try clear hi); have hcz67_0 : w66.cell? ⟨gb143, 0, none⟩ = some (.string (⟨#[]⟩ : ByteArray)) := (blk_cell BK143.out 0).trans rfl; have hcz67_1 : w66.cell? ⟨gb143, 1, none⟩ = some (.int .i64 0) := (blk_cell BK143.out 1).trans rfl; have hcz67_2 : w66.cell? ⟨gb143, 2, none⟩ = some (.int .i64 0) := (blk_cell BK143.out 2).trans rfl; have hcz67_3 : w66.cell? ⟨gb143, 3, none⟩ = some (.int .i64 0) := (blk_cell BK143.out 3).trans rfl; have hcz67_4 : w66.cell? ⟨gb143, 4, none⟩ = some (.int .i64 0) := (blk_cell BK143.out 4).trans rfl; have hfz67_0 := blk_frozen BK143.out 0; have hfz67_1 := blk_frozen BK143.out 1; have hfz67_2 := blk_frozen BK143.out 2; have hfz67_3 := blk_frozen BK143.out 3; have hfz67_4 := blk_frozen BK143.out 4))
                                    refine bodyPost_ret (results_ct rfl _ _ gb143 35 #[.string (⟨#[]⟩ : ByteArray), .int .i64 0, .int .i64 0, .int .i64 0, .int .i64 0] (0, 0) _ rfl (by (with_reducible repeat (first | refine blk_drewN ?_ _ | refine blk_drew ?_ | refine blk_alloc ?_ _)); refine blk_put (cs := #[.string (⟨#[]⟩ : ByteArray), .int .i64 0, .int .i64 0, .int .i64 0, .int .i64 0]) ?_ 4 _ rfl; (with_reducible repeat (first | refine blk_drewN ?_ _ | refine blk_drew ?_ | refine blk_alloc ?_ _)); refine blk_put (cs := #[.string (⟨#[]⟩ : ByteArray), .int .i64 0, .int .i64 0, .int .i64 0, .int .i64 0]) ?_ 3 _ rfl; (with_reducible repeat (first | refine blk_drewN ?_ _ | refine blk_drew ?_ | refine blk_alloc ?_ _)); refine blk_put (cs := #[.string (⟨#[]⟩ : ByteArray), .int .i64 0, .int .i64 0, .int .i64 0, .int .i64 0]) ?_ 2 _ rfl; (with_reducible repeat (first | refine blk_drewN ?_ _ | refine blk_drew ?_ | refine blk_alloc ?_ _)); refine blk_put (cs := #[.string (⟨#[]⟩ : ByteArray), .int .i64 0, .int .i64 0, .int .i64 0, .int .i64 0]) ?_ 1 _ rfl; (with_reducible repeat (first | refine blk_drewN ?_ _ | refine blk_drew ?_ | refine blk_alloc ?_ _)); refine blk_put (cs := #[.string (⟨#[]⟩ : ByteArray), .int .i64 0, .int .i64 0, .int .i64 0, .int .i64 0]) ?_ 0 _ rfl; (with_reducible repeat (first | refine blk_drewN ?_ _ | refine blk_drew ?_ | refine blk_alloc ?_ _)); exact BK143.out) Tryd.underlying35 rfl (by kernel_rfl)) rfl ?_
                                    exact ⟨by first | rfl | (simp [errW_none, errW_some] <;> rfl) | (simp [*, errW_none, errW_some] <;> rfl), by repeat (first | (with_reducible first | exact HB.out | apply below_alloc | apply pw_below_drewN | apply below_drew1 | refine below_set ?_ GE143.out | refine below_set ?_ GE154.out) | exact HB.out)⟩
                                · replace c52 := Bool.eq_false_iff.mpr c52
                                  subst c52
                                  have H1 : (some ((⟨#[]⟩ : ByteArray), 0, 0, 0, 0, false)) = some (r1, r2, r3, r4, r5, r6) := by rw [if_neg (show ¬ (false = true) by decide)] at H; exact H
                                  clear H
                                  have H := H1
                                  clear H1
                                  simp only [Option.some.injEq, Prod.mk.injEq] at H
                                  obtain ⟨rfl, rfl, rfl, rfl, rfl, rfl⟩ := H
                                  have hnb68 := NB154_143.out
                                  have hnc68 := NB143_154.out
                                  have hcz69_0 : wc.cell? ⟨gb154, 0, none⟩ = some (.string (rdOf ByteArray.empty t144 0)) := (blk_cell BK154.out 0).trans rfl
                                  have hcz69_1 : wc.cell? ⟨gb154, 1, none⟩ = some (.int .i64 x155001_4) := (blk_cell BK154.out 1).trans rfl
                                  have hcz69_2 : wc.cell? ⟨gb154, 2, none⟩ = some (.int .i64 x155002_18) := (blk_cell BK154.out 2).trans rfl
                                  have hcz69_3 : wc.cell? ⟨gb154, 3, none⟩ = some (.int .i64 x155003_27) := (blk_cell BK154.out 3).trans rfl
                                  have hcz69_4 : wc.cell? ⟨gb154, 4, none⟩ = some (.int .i64 x155004_43) := (blk_cell BK154.out 4).trans rfl
                                  have hfz69_0 := blk_frozen BK154.out 0
                                  have hfz69_1 := blk_frozen BK154.out 1
                                  have hfz69_2 := blk_frozen BK154.out 2
                                  have hfz69_3 := blk_frozen BK154.out 3
                                  have hfz69_4 := blk_frozen BK154.out 4
                                  go_wp2_with (first | ((with_reducible refine gate_callee (f := 46) rfl ?_); refine goesL_ (some 80) rfl rfl Tryd.func46 (by kernel_rfl) rfl #[.agg #[.string (rdOf ByteArray.empty t144 0), .int .i64 x155001_4, .int .i64 x155002_18, .int .i64 x155003_27, .int .i64 x155004_43]] rfl (by (try simp only [List.map_toArray, List.map_cons, List.map_nil]); first | done | rfl | (simp only [List.length_drop, List.length_take]; rfl)) ?_; (with_reducible refine (spec_cdGood.calls kj43 (rdOf ByteArray.empty t144 0) x155001_4 x155002_18 x155003_27 x155004_43 false _ A51.out).mono ?_); rintro e w70 ⟨rfl, hb⟩; refine ⟨_, rfl, ?_⟩; have n0_ := Aside0.mk (blk_below (g := gb143) (o := .cells #[.string (⟨#[]⟩ : ByteArray), .int .i64 0, .int .i64 0, .int .i64 0, .int .i64 0] 35 (0, 0)) (by (with_reducible repeat (first | refine blk_drewN ?_ _ | refine blk_drew ?_ | refine blk_alloc ?_ _)); exact BK143.out) hb); have n1_ := Aside0.mk (blk_below (g := gb154) (o := .cells #[.string (rdOf ByteArray.empty t144 0), .int .i64 x155001_4, .int .i64 x155002_18, .int .i64 x155003_27, .int .i64 x155004_43] 35 (0, 0)) (by (with_reducible repeat (first | refine blk_drewN ?_ _ | refine blk_drew ?_ | refine blk_alloc ?_ _)); exact BK154.out) hb); have n2_ := Aside0.mk (below_step (by repeat (first | (with_reducible first | exact HB.out | apply below_alloc | apply pw_below_drewN | apply below_drew1 | refine below_set ?_ GE143.out | refine below_set ?_ GE154.out) | exact HB.out)) hb); clear BK143; clear BK154; clear HB; have BK143 := n0_; have BK154 := n1_; have HB := n2_; clear n0_ n1_ n2_; (try clear hb); (try clear hb2); (try clear hk); (try clear hi); have hcz71_0 : w70.cell? ⟨gb143, 0, none⟩ = some (.string (⟨#[]⟩ : ByteArray)) := (blk_cell BK143.out 0).trans rfl; have hcz71_1 : w70.cell? ⟨gb143, 1, none⟩ = some (.int .i64 0) := (blk_cell BK143.out 1).trans rfl; have hcz71_2 : w70.cell? ⟨gb143, 2, none⟩ = some (.int .i64 0) := (blk_cell BK143.out 2).trans rfl; have hcz71_3 : w70.cell? ⟨gb143, 3, none⟩ = some (.int .i64 0) := (blk_cell BK143.out 3).trans rfl; have hcz71_4 : w70.cell? ⟨gb143, 4, none⟩ = some (.int .i64 0) := (blk_cell BK143.out 4).trans rfl; have hfz71_0 := blk_frozen BK143.out 0; have hfz71_1 := blk_frozen BK143.out 1; have hfz71_2 := blk_frozen BK143.out 2; have hfz71_3 := blk_frozen BK143.out 3; have hfz71_4 := blk_frozen BK143.out 4))
                                  refine bodyPost_ret (results_ct rfl _ _ gb143 35 #[.string (⟨#[]⟩ : ByteArray), .int .i64 0, .int .i64 0, .int .i64 0, .int .i64 0] (0, 0) _ rfl (by (with_reducible repeat (first | refine blk_drewN ?_ _ | refine blk_drew ?_ | refine blk_alloc ?_ _)); refine blk_put (cs := #[.string (⟨#[]⟩ : ByteArray), .int .i64 0, .int .i64 0, .int .i64 0, .int .i64 0]) ?_ 4 _ rfl; (with_reducible repeat (first | refine blk_drewN ?_ _ | refine blk_drew ?_ | refine blk_alloc ?_ _)); refine blk_put (cs := #[.string (⟨#[]⟩ : ByteArray), .int .i64 0, .int .i64 0, .int .i64 0, .int .i64 0]) ?_ 3 _ rfl; (with_reducible repeat (first | refine blk_drewN ?_ _ | refine blk_drew ?_ | refine blk_alloc ?_ _)); refine blk_put (cs := #[.string (⟨#[]⟩ : ByteArray), .int .i64 0, .int .i64 0, .int .i64 0, .int .i64 0]) ?_ 2 _ rfl; (with_reducible repeat (first | refine blk_drewN ?_ _ | refine blk_drew ?_ | refine blk_alloc ?_ _)); refine blk_put (cs := #[.string (⟨#[]⟩ : ByteArray), .int .i64 0, .int .i64 0, .int .i64 0, .int .i64 0]) ?_ 1 _ rfl; (with_reducible repeat (first | refine blk_drewN ?_ _ | refine blk_drew ?_ | refine blk_alloc ?_ _)); refine blk_put (cs := #[.string (⟨#[]⟩ : ByteArray), .int .i64 0, .int .i64 0, .int .i64 0, .int .i64 0]) ?_ 0 _ rfl; (with_reducible repeat (first | refine blk_drewN ?_ _ | refine blk_drew ?_ | refine blk_alloc ?_ _)); exact BK143.out) Tryd.underlying35 rfl (by kernel_rfl)) rfl ?_
                                  exact ⟨by first | rfl | (simp [errW_none, errW_some] <;> rfl) | (simp [*, errW_none, errW_some] <;> rfl), by repeat (first | (with_reducible first | exact HB.out | apply below_alloc | apply pw_below_drewN | apply below_drew1 | refine below_set ?_ GE143.out | refine below_set ?_ GE154.out) | exact HB.out)⟩
  · rw [if_neg c3] at H
    exact absurd H (by simp)
end Go.Proofs.YtjeklcgflocfoaaDoor.P
