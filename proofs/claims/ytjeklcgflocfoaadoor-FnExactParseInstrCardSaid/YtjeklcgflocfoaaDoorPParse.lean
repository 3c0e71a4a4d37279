/- impl.ParseInstr: the instruction with a text: its fields are filled through pointers. -/
import Derived.Test.YtjeklcgflocfoaaDoorVPQ
import Derived.Test.YtjeklcgflocfoaaDoorPNumber
import Derived.Test.YtjeklcgflocfoaaDoorPStrconvItoa98
namespace Go.Proofs.YtjeklcgflocfoaaDoor.P
open Go.RowKit Go.Proofs.YtjeklcgflocfoaaDoorW.PrintWords Go.Proofs.YtjeklcgflocfoaaDoorW.PrintLast Go.Proofs.YtjeklcgflocfoaaDoorW.PrintMore
attribute [local go_sem] max2_int min2_int max_two min_two max_three min_three max_four min_four   -- for this text's walks alone
set_option linter.unusedVariables false
set_option linter.unusedSimpArgs false

/-- A pointer to a number field of a boxed struct, told by the field's place. -/
def kp (g : Nat) : Kd Int := Kd.scalar (fun p : Int => Value.pointer (some ⟨g, p.toNat, none⟩)) (fun _ => rfl)
theorem at_kp {g n : Nat} {w : World} {A : Option Addr} {xs : List Int} (h : (kp g).C w A n xs) (i : Int) (h0 : 0 ≤ i) (h1 : i < n) : ∃ ad, A = some ad ∧ w.cell? (ad.add i.toNat) = some (.pointer (some ⟨g, (rd xs i).toNat, none⟩)) :=
  ReadsOf.at_ (Kd.reads_of_C (enc := fun p : Int => Value.pointer (some ⟨g, p.toNat, none⟩)) (d := 0) (h1 := fun _ => rfl) h) i h0 h1
theorem kp_ne {g t : Nat} (h : (92 : Nat) ≠ t) : ∀ q, q ∈ 92 :: (kp g).E → q ≠ t := by
  intro q hq
  have e : (kp g).E = [] := rfl
  rw [e] at hq
  simp only [List.mem_singleton] at hq
  subst hq
  exact h
theorem info92 : (Tryd.prog.info? 92).map (fun i => (i.zero, i.size, i.bytes)) = some (some (.pointer none), 1, 8) := by kernel_rfl
/-! ### impl_ParseInstr: function 29 -/
mutual
def impl_ParseInstr.j0 : Nat → ByteArray → List ByteArray → List Int → Bool → Bool → Int → Int → Int → ByteArray → ByteArray → Int → Int → Int → Int → Option (ByteArray × Int × Int × Int × Int × Bool)
  | 0, _, _, _, _, _, _, _, _, _, _, _, _, _, _ => none
  | k + 1, x0, x4, x8, x290000, x290001, x290002, x290003, x290004, x290005, x292000, x292001, x292002, x292003, x292004 => if x290001 = true then (if x8.length < 17592186044416 then (impl_ParseInstr.j1 k x0 x4 (x8 ++ [3]) x290000 x290001 x290002 x290003 x290004 x290005 x292000 x292001 x292002 x292003 x292004) else (none)) else (impl_ParseInstr.j1 k x0 x4 x8 x290000 x290001 x290002 x290003 x290004 x290005 x292000 x292001 x292002 x292003 x292004)
def impl_ParseInstr.j1 : Nat → ByteArray → List ByteArray → List Int → Bool → Bool → Int → Int → Int → ByteArray → ByteArray → Int → Int → Int → Int → Option (ByteArray × Int × Int × Int × Int × Bool)
  | 0, _, _, _, _, _, _, _, _, _, _, _, _, _, _ => none
  | k + 1, x0, x4, x8, x290000, x290001, x290002, x290003, x290004, x290005, x292000, x292001, x292002, x292003, x292004 => (impl_form_imm.f x290000 x290001 x290002 x290003 x290004 x290005).bind fun t301 => (if t301 = true then (if x8.length < 17592186044416 then (impl_ParseInstr.j2 k x0 x4 (x8 ++ [4]) x292000 x292001 x292002 x292003 x292004) else (none)) else (impl_ParseInstr.j2 k x0 x4 x8 x292000 x292001 x292002 x292003 x292004))
def impl_ParseInstr.j2 : Nat → ByteArray → List ByteArray → List Int → ByteArray → Int → Int → Int → Int → Option (ByteArray × Int × Int × Int × Int × Bool)
  | 0, _, _, _, _, _, _, _, _ => none
  | k + 1, x0, x4, x8, x292000, x292001, x292002, x292003, x292004 => if (x4.length : Int) = (wrap64 ((x8.length : Int) + 1)) then (impl_ParseInstr.l0 k x0 x4 x8 (x8.length : Int) 0 x292000 x292001 x292002 x292003 x292004) else (some ((⟨#[]⟩ : ByteArray), 0, 0, 0, 0, false))
def impl_ParseInstr.l0 : Nat → ByteArray → List ByteArray → List Int → Int → Int → ByteArray → Int → Int → Int → Int → Option (ByteArray × Int × Int × Int × Int × Bool)
  | 0, _, _, _, _, _, _, _, _, _, _ => none
  | k + 1, x0, x4, x54, x55, x56, x292000, x292001, x292002, x292003, x292004 => if x56 < x55 then (if 0 ≤ x56 then (if x56 < (x54.length : Int) then (if 0 ≤ (wrap64 (x56 + 1)) then (if (wrap64 (x56 + 1)) < (x4.length : Int) then ((strings_TrimPrefix.f (rdOf ByteArray.empty x4 (wrap64 (x56 + 1))) (⟨#[114]⟩ : ByteArray)).bind fun t307 => ((impl_number.f t307 63).bind fun bt308 => (if (rd x54 x56) = 1 then (impl_ParseInstr.l0 k x0 x4 x54 x55 (wrap64 (x56 + 1)) x292000 bt308.1 x292002 x292003 x292004) else (if (rd x54 x56) = 2 then (impl_ParseInstr.l0 k x0 x4 x54 x55 (wrap64 (x56 + 1)) x292000 x292001 bt308.1 x292003 x292004) else (if (rd x54 x56) = 3 then (impl_ParseInstr.l0 k x0 x4 x54 x55 (wrap64 (x56 + 1)) x292000 x292001 x292002 bt308.1 x292004) else (if (rd x54 x56) = 4 then (impl_ParseInstr.l0 k x0 x4 x54 x55 (wrap64 (x56 + 1)) x292000 x292001 x292002 x292003 bt308.1) else (none))))))) else (none)) else (none)) else (none)) else (none)) else ((impl_IsInstr.f k x292000 x292001 x292002 x292003 x292004).bind fun t310 => (if t310 = true then ((impl_Instr_text.f k x292000 x292001 x292002 x292003 x292004).bind fun t311 => (if t311.toList = x0.toList then (some (x292000, x292001, x292002, x292003, x292004, true)) else (some ((⟨#[]⟩ : ByteArray), 0, 0, 0, 0, false)))) else (some ((⟨#[]⟩ : ByteArray), 0, 0, 0, 0, false))))
end
def impl_ParseInstr.f (k : Nat) (a0 : ByteArray) : Option (ByteArray × Int × Int × Int × Int × Bool) := (strings_Split.f k a0 (⟨#[32]⟩ : ByteArray)).bind fun t278 => (if 0 < (t278.length : Int) then ((impl_formOf.f k (rdOf ByteArray.empty t278 0)).bind fun bt282 => (if bt282.2.2.2.2.2.2 = true then ((some (([1] : List Int) : List Int)).bind fun y292 => (if bt282.1 = true then (if y292.length < 17592186044416 then (impl_ParseInstr.j0 k a0 t278 (y292 ++ [2]) bt282.1 bt282.2.1 bt282.2.2.1 bt282.2.2.2.1 bt282.2.2.2.2.1 bt282.2.2.2.2.2.1 (rdOf ByteArray.empty t278 0) 0 0 0 0) else (none)) else (impl_ParseInstr.j0 k a0 t278 y292 bt282.1 bt282.2.1 bt282.2.2.1 bt282.2.2.2.1 bt282.2.2.2.2.1 bt282.2.2.2.2.2.1 (rdOf ByteArray.empty t278 0) 0 0 0 0))) else (some ((⟨#[]⟩ : ByteArray), 0, 0, 0, 0, false)))) else (none))
theorem impl_ParseInstr.mono_l : ∀ k, (∀ y0 y1 y2 y3 y4 y5 y6 y7 y8 y9 y10 y11 y12 y13, LeO (impl_ParseInstr.j0 k y0 y1 y2 y3 y4 y5 y6 y7 y8 y9 y10 y11 y12 y13) (impl_ParseInstr.j0 (k + 1) y0 y1 y2 y3 y4 y5 y6 y7 y8 y9 y10 y11 y12 y13)) ∧ (∀ y0 y1 y2 y3 y4 y5 y6 y7 y8 y9 y10 y11 y12 y13, LeO (impl_ParseInstr.j1 k y0 y1 y2 y3 y4 y5 y6 y7 y8 y9 y10 y11 y12 y13) (impl_ParseInstr.j1 (k + 1) y0 y1 y2 y3 y4 y5 y6 y7 y8 y9 y10 y11 y12 y13)) ∧ (∀ y0 y1 y2 y3 y4 y5 y6 y7, LeO (impl_ParseInstr.j2 k y0 y1 y2 y3 y4 y5 y6 y7) (impl_ParseInstr.j2 (k + 1) y0 y1 y2 y3 y4 y5 y6 y7)) ∧ (∀ y0 y1 y2 y3 y4 y5 y6 y7 y8 y9, LeO (impl_ParseInstr.l0 k y0 y1 y2 y3 y4 y5 y6 y7 y8 y9) (impl_ParseInstr.l0 (k + 1) y0 y1 y2 y3 y4 y5 y6 y7 y8 y9))
  | 0 => ⟨fun _ _ _ _ _ _ _ _ _ _ _ _ _ _ r h => by simp [impl_ParseInstr.j0] at h, fun _ _ _ _ _ _ _ _ _ _ _ _ _ _ r h => by simp [impl_ParseInstr.j1] at h, fun _ _ _ _ _ _ _ _ r h => by simp [impl_ParseInstr.j2] at h, fun _ _ _ _ _ _ _ _ _ _ r h => by simp [impl_ParseInstr.l0] at h⟩
  | k + 1 => by
    obtain ⟨ih0, ih1, ih2, ih3⟩ := impl_ParseInstr.mono_l k
    refine ⟨?_, ?_, ?_, ?_⟩
    · intro y0 y1 y2 y3 y4 y5 y6 y7 y8 y9 y10 y11 y12 y13
      unfold impl_ParseInstr.j0
      repeat' first
      | (with_reducible exact ih0 _ _ _ _ _ _ _ _ _ _ _ _ _ _)
      | (with_reducible exact ih1 _ _ _ _ _ _ _ _ _ _ _ _ _ _)
      | (with_reducible exact ih2 _ _ _ _ _ _ _ _)
      | (with_reducible exact ih3 _ _ _ _ _ _ _ _ _ _)
      | (with_reducible exact impl_Instr_text.mono _ _ _ _ _ _)
      | (with_reducible exact impl_IsInstr.mono _ _ _ _ _ _)
      | (with_reducible exact impl_formOf.mono _ _)
      | (with_reducible exact strings_Split.mono _ _ _)
      | (with_reducible exact LeO.refl _)
      | (with_reducible exact LeO.none _)
      | (with_reducible refine LeO.ite ?_ ?_)
      | (with_reducible refine LeO.bind ?_ (fun _ => ?_))
      | exact ih0 _ _ _ _ _ _ _ _ _ _ _ _ _ _
      | exact ih1 _ _ _ _ _ _ _ _ _ _ _ _ _ _
      | exact ih2 _ _ _ _ _ _ _ _
      | exact ih3 _ _ _ _ _ _ _ _ _ _
      | exact impl_Instr_text.mono _ _ _ _ _ _
      | exact impl_IsInstr.mono _ _ _ _ _ _
      | exact impl_formOf.mono _ _
      | exact strings_Split.mono _ _ _
      | exact LeO.none _
      | refine LeO.ite ?_ ?_
      | refine LeO.bind ?_ (fun _ => ?_)
    · intro y0 y1 y2 y3 y4 y5 y6 y7 y8 y9 y10 y11 y12 y13
      unfold impl_ParseInstr.j1
      repeat' first
      | (with_reducible exact ih0 _ _ _ _ _ _ _ _ _ _ _ _ _ _)
      | (with_reducible exact ih1 _ _ _ _ _ _ _ _ _ _ _ _ _ _)
      | (with_reducible exact ih2 _ _ _ _ _ _ _ _)
      | (with_reducible exact ih3 _ _ _ _ _ _ _ _ _ _)
      | (with_reducible exact impl_Instr_text.mono _ _ _ _ _ _)
      | (with_reducible exact impl_IsInstr.mono _ _ _ _ _ _)
      | (with_reducible exact impl_formOf.mono _ _)
      | (with_reducible exact strings_Split.mono _ _ _)
      | (with_reducible exact LeO.refl _)
      | (with_reducible exact LeO.none _)
      | (with_reducible refine LeO.ite ?_ ?_)
      | (with_reducible refine LeO.bind ?_ (fun _ => ?_))
      | exact ih0 _ _ _ _ _ _ _ _ _ _ _ _ _ _
      | exact ih1 _ _ _ _ _ _ _ _ _ _ _ _ _ _
      | exact ih2 _ _ _ _ _ _ _ _
      | exact ih3 _ _ _ _ _ _ _ _ _ _
      | exact impl_Instr_text.mono _ _ _ _ _ _
      | exact impl_IsInstr.mono _ _ _ _ _ _
      | exact impl_formOf.mono _ _
      | exact strings_Split.mono _ _ _
      | exact LeO.none _
      | refine LeO.ite ?_ ?_
      | refine LeO.bind ?_ (fun _ => ?_)
    · intro y0 y1 y2 y3 y4 y5 y6 y7
      unfold impl_ParseInstr.j2
      repeat' first
      | (with_reducible exact ih0 _ _ _ _ _ _ _ _ _ _ _ _ _ _)
      | (with_reducible exact ih1 _ _ _ _ _ _ _ _ _ _ _ _ _ _)
      | (with_reducible exact ih2 _ _ _ _ _ _ _ _)
      | (with_reducible exact ih3 _ _ _ _ _ _ _ _ _ _)
      | (with_reducible exact impl_Instr_text.mono _ _ _ _ _ _)
      | (with_reducible exact impl_IsInstr.mono _ _ _ _ _ _)
      | (with_reducible exact impl_formOf.mono _ _)
      | (with_reducible exact strings_Split.mono _ _ _)
      | (with_reducible exact LeO.refl _)
      | (with_reducible exact LeO.none _)
      | (with_reducible refine LeO.ite ?_ ?_)
      | (with_reducible refine LeO.bind ?_ (fun _ => ?_))
      | exact ih0 _ _ _ _ _ _ _ _ _ _ _ _ _ _
      | exact ih1 _ _ _ _ _ _ _ _ _ _ _ _ _ _
      | exact ih2 _ _ _ _ _ _ _ _
      | exact ih3 _ _ _ _ _ _ _ _ _ _
      | exact impl_Instr_text.mono _ _ _ _ _ _
      | exact impl_IsInstr.mono _ _ _ _ _ _
      | exact impl_formOf.mono _ _
      | exact strings_Split.mono _ _ _
      | exact LeO.none _
      | refine LeO.ite ?_ ?_
      | refine LeO.bind ?_ (fun _ => ?_)
    · intro y0 y1 y2 y3 y4 y5 y6 y7 y8 y9
      unfold impl_ParseInstr.l0
      repeat' first
      | (with_reducible exact ih0 _ _ _ _ _ _ _ _ _ _ _ _ _ _)
      | (with_reducible exact ih1 _ _ _ _ _ _ _ _ _ _ _ _ _ _)
      | (with_reducible exact ih2 _ _ _ _ _ _ _ _)
      | (with_reducible exact ih3 _ _ _ _ _ _ _ _ _ _)
      | (with_reducible exact impl_Instr_text.mono _ _ _ _ _ _)
      | (with_reducible exact impl_IsInstr.mono _ _ _ _ _ _)
      | (with_reducible exact impl_formOf.mono _ _)
      | (with_reducible exact strings_Split.mono _ _ _)
      | (with_reducible exact LeO.refl _)
      | (with_reducible exact LeO.none _)
      | (with_reducible refine LeO.ite ?_ ?_)
      | (with_reducible refine LeO.bind ?_ (fun _ => ?_))
      | exact ih0 _ _ _ _ _ _ _ _ _ _ _ _ _ _
      | exact ih1 _ _ _ _ _ _ _ _ _ _ _ _ _ _
      | exact ih2 _ _ _ _ _ _ _ _
      | exact ih3 _ _ _ _ _ _ _ _ _ _
      | exact impl_Instr_text.mono _ _ _ _ _ _
      | exact impl_IsInstr.mono _ _ _ _ _ _
      | exact impl_formOf.mono _ _
      | exact strings_Split.mono _ _ _
      | exact LeO.none _
      | refine LeO.ite ?_ ?_
      | refine LeO.bind ?_ (fun _ => ?_)
theorem impl_ParseInstr.mono : ∀ a0 k, LeO (impl_ParseInstr.f k a0) (impl_ParseInstr.f (k + 1) a0) := by
  intro a0 k
  obtain ⟨ih0, ih1, ih2, ih3⟩ := impl_ParseInstr.mono_l k
  unfold impl_ParseInstr.f
  repeat' first
      | (with_reducible exact ih0 _ _ _ _ _ _ _ _ _ _ _ _ _ _)
      | (with_reducible exact ih1 _ _ _ _ _ _ _ _ _ _ _ _ _ _)
      | (with_reducible exact ih2 _ _ _ _ _ _ _ _)
      | (with_reducible exact ih3 _ _ _ _ _ _ _ _ _ _)
      | (with_reducible exact impl_Instr_text.mono _ _ _ _ _ _)
      | (with_reducible exact impl_IsInstr.mono _ _ _ _ _ _)
      | (with_reducible exact impl_formOf.mono _ _)
      | (with_reducible exact strings_Split.mono _ _ _)
      | (with_reducible exact LeO.refl _)
      | (with_reducible exact LeO.none _)
      | (with_reducible refine LeO.ite ?_ ?_)
      | (with_reducible refine LeO.bind ?_ (fun _ => ?_))
      | exact ih0 _ _ _ _ _ _ _ _ _ _ _ _ _ _
      | exact ih1 _ _ _ _ _ _ _ _ _ _ _ _ _ _
      | exact ih2 _ _ _ _ _ _ _ _
      | exact ih3 _ _ _ _ _ _ _ _ _ _
      | exact impl_Instr_text.mono _ _ _ _ _ _
      | exact impl_IsInstr.mono _ _ _ _ _ _
      | exact impl_formOf.mono _ _
      | exact strings_Split.mono _ _ _
      | exact LeO.none _
      | refine LeO.ite ?_ ?_
      | refine LeO.bind ?_ (fun _ => ?_)
set_option maxHeartbeats 8000000 in
set_option maxRecDepth 100000 in
theorem impl_ParseInstr.calls (k : Nat) (a0 : ByteArray) (r1 : ByteArray) (r2 : Int) (r3 : Int) (r4 : Int) (r5 : Int) (r6 : Bool) (w : World) (h : impl_ParseInstr.f k a0 = some (r1, r2, r3, r4, r5, r6)) (hT : PW w) :
    Calls Tryd.prog 29 #[.string a0] w fun e w' => e = .returned (.tuple #[.agg #[.string r1, .int .i64 r2, .int .i64 r3, .int .i64 r4, .int .i64 r5], .bool r6]) ∧ Below w.heap.size w w' := by
  have hu35 := Tryd.underlying35
  have hu89 := Tryd.underlying89
  have HB := Aside0.mk (Below.refl w.heap.size w)
  have H : ((strings_Split.f k a0 (⟨#[32]⟩ : ByteArray)).bind fun t278 => (if 0 < (t278.length : Int) then ((impl_formOf.f k (rdOf ByteArray.empty t278 0)).bind fun bt282 => (if bt282.2.2.2.2.2.2 = true then ((some (([1] : List Int) : List Int)).bind fun y292 => (if bt282.1 = true then (if y292.length < 17592186044416 then (impl_ParseInstr.j0 k a0 t278 (y292 ++ [2]) bt282.1 bt282.2.1 bt282.2.2.1 bt282.2.2.2.1 bt282.2.2.2.2.1 bt282.2.2.2.2.2.1 (rdOf ByteArray.empty t278 0) 0 0 0 0) else (none)) else (impl_ParseInstr.j0 k a0 t278 y292 bt282.1 bt282.2.1 bt282.2.2.1 bt282.2.2.2.1 bt282.2.2.2.2.1 bt282.2.2.2.2.2.1 (rdOf ByteArray.empty t278 0) 0 0 0 0))) else (some ((⟨#[]⟩ : ByteArray), 0, 0, 0, 0, false)))) else (none))) = some (r1, r2, r3, r4, r5, r6) := h
  clear h
  replace H := Option.bind_eq_some_iff.mp H
  obtain ⟨t278, A20, H⟩ := H
  replace H : (if 0 < (t278.length : Int) then ((impl_formOf.f k (rdOf ByteArray.empty t278 0)).bind fun bt282 => (if bt282.2.2.2.2.2.2 = true then ((some (([1] : List Int) : List Int)).bind fun y292 => (if bt282.1 = true then (if y292.length < 17592186044416 then (impl_ParseInstr.j0 k a0 t278 (y292 ++ [2]) bt282.1 bt282.2.1 bt282.2.2.1 bt282.2.2.2.1 bt282.2.2.2.2.1 bt282.2.2.2.2.2.1 (rdOf ByteArray.empty t278 0) 0 0 0 0) else (none)) else (impl_ParseInstr.j0 k a0 t278 y292 bt282.1 bt282.2.1 bt282.2.2.1 bt282.2.2.2.1 bt282.2.2.2.2.1 bt282.2.2.2.2.2.1 (rdOf ByteArray.empty t278 0) 0 0 0 0))) else (some ((⟨#[]⟩ : ByteArray), 0, 0, 0, 0, false)))) else (none)) = some (r1, r2, r3, r4, r5, r6) := H
  have A2 := Aside0.mk A20
  clear A20
  by_cases c3 : 0 < (t278.length : Int)
  · rw [if_pos c3] at H
    have c3b0 : decide (0 < (t278.length : Int)) = true := decide_eq_true c3
    have c3b1 : decide (0 < t278.length) = true := decide_eq_true (by omega)
    clear c3
    replace H := Option.bind_eq_some_iff.mp H
    obtain ⟨⟨t282, t283, t284, t285, t286, t287, t288⟩, A40, H⟩ := H
    replace H : (if t288 = true then ((some (([1] : List Int) : List Int)).bind fun y292 => (if t282 = true then (if y292.length < 17592186044416 then (impl_ParseInstr.j0 k a0 t278 (y292 ++ [2]) t282 t283 t284 t285 t286 t287 (rdOf ByteArray.empty t278 0) 0 0 0 0) else (none)) else (impl_ParseInstr.j0 k a0 t278 y292 t282 t283 t284 t285 t286 t287 (rdOf ByteArray.empty t278 0) 0 0 0 0))) else (some ((⟨#[]⟩ : ByteArray), 0, 0, 0, 0, false))) = some (r1, r2, r3, r4, r5, r6) := H
    have A4 := Aside0.mk A40
    clear A40
    by_cases c5 : t288 = true
    · subst c5
      have H1 : ((some (([1] : List Int) : List Int)).bind fun y292 => (if t282 = true then (if y292.length < 17592186044416 then (impl_ParseInstr.j0 k a0 t278 (y292 ++ [2]) t282 t283 t284 t285 t286 t287 (rdOf ByteArray.empty t278 0) 0 0 0 0) else (none)) else (impl_ParseInstr.j0 k a0 t278 y292 t282 t283 t284 t285 t286 t287 (rdOf ByteArray.empty t278 0) 0 0 0 0))) = some (r1, r2, r3, r4, r5, r6) := by rw [if_pos rfl] at H; exact H
      clear H
      have H := H1
      clear H1
      obtain ⟨y292, hy292⟩ : ∃ y_ : List Int, y_ = (([1] : List Int)) := ⟨_, rfl⟩
      replace H : (if t282 = true then (if y292.length < 17592186044416 then (impl_ParseInstr.j0 k a0 t278 (y292 ++ [2]) t282 t283 t284 t285 t286 t287 (rdOf ByteArray.empty t278 0) 0 0 0 0) else (none)) else (impl_ParseInstr.j0 k a0 t278 y292 t282 t283 t284 t285 t286 t287 (rdOf ByteArray.empty t278 0) 0 0 0 0)) = some (r1, r2, r3, r4, r5, r6) := by first | (rw [hy292]; with_reducible exact H) | (have H2_ := (Option.bind_some _ _).symm.trans H; rw [hy292]; with_reducible exact H2_) | (have H2_ := (Option.bind_some _ _).symm.trans H; with_reducible exact H2_) | with_reducible exact H | (rw [hy292]; exact H) | exact H
      have Ny292 := Aside0.mk hy292
      clear hy292
      have HC6 := Aside0.mk H
      clear H
      go_enter Tryd.func29, Tryd.ntmps29
      go_upto_if 30 with (first | ((with_reducible refine gate_dst (N := 2) rfl ?_); refine box_event ?hg (N := 2) ?hd (cs := #[.string (⟨#[]⟩ : ByteArray), .int .i64 0, .int .i64 0, .int .i64 0, .int .i64 0]) (t := 35) ?hr ?_; (case hd => rfl); (case hg => rfl); (case hr => first | (go_simp; done) | (go_simp; rfl)); intro gb277 hg w7 hbox hb; have n0_ := Aside0.mk (below_step (by repeat (first | (with_reducible first | exact HB.out | apply below_alloc | apply pw_below_drewN | apply below_drew1) | exact HB.out)) hb); have n1_ := Aside0.mk (hbox); have n2_ := Aside0.mk ((by rw [hg]; exact (below_size (by repeat (first | (with_reducible first | exact HB.out | apply below_alloc | apply pw_below_drewN | apply below_drew1) | exact HB.out))) : w.heap.size ≤ gb277)); have n3_ := Aside0.mk ((by rw [hg]; exact (below_size (by repeat (first | (with_reducible first | exact HB.out | apply below_alloc | apply pw_below_drewN | apply below_drew1) | exact HB.out))) : w.heap.size ≤ gb277)); clear HB; have HB := n0_; have BK277 := n1_; have GW277 := n2_; have GE277 := n3_; clear n0_ n1_ n2_ n3_; clear hb hbox hg) | ((with_reducible refine gate_callee (f := 63) rfl ?_); refine goesL_ (some 12) rfl rfl Tryd.func63 (by kernel_rfl) rfl #[.string a0, .string (⟨#[32]⟩ : ByteArray)] rfl (by (try simp only [List.map_toArray, List.map_cons, List.map_nil]); first | done | rfl | (simp only [List.length_drop, List.length_take]; rfl)) ?_; (with_reducible refine (strings_Split.calls k a0 (⟨#[32]⟩ : ByteArray) t278 _ A2.out (hT.below (by repeat (first | (with_reducible first | exact HB.out | apply below_alloc | apply pw_below_drewN | apply below_drew1 | refine below_set ?_ GE277.out | refine below_set ?_ GE289.out | refine below_set ?_ GE291.out) | exact HB.out)))).mono ?_); rintro e w8 ⟨v279, rfl, ho0, hb⟩; refine ⟨_, rfl, ?_⟩; have n0_ := Aside0.mk (Kd.R_lower ho0 (below_size (by repeat (first | (with_reducible first | exact HB.out | apply below_alloc | apply pw_below_drewN | apply below_drew1 | refine below_set ?_ GE277.out) | exact HB.out)))); have n1_ := Aside0.mk (blk_below (g := gb277) (o := .cells #[.string (⟨#[]⟩ : ByteArray), .int .i64 0, .int .i64 0, .int .i64 0, .int .i64 0] 35 (0, 0)) (by (with_reducible repeat (first | refine blk_drewN ?_ _ | refine blk_drew ?_ | refine blk_alloc ?_ _)); exact BK277.out) hb); have n2_ := Aside0.mk (below_step (by repeat (first | (with_reducible first | exact HB.out | apply below_alloc | apply pw_below_drewN | apply below_drew1 | refine below_set ?_ GE277.out) | exact HB.out)) hb); clear BK277; clear HB; have HO280 := n0_; have BK277 := n1_; have HB := n2_; clear n0_ n1_ n2_; (try clear hb); (try clear hb2); (try clear hk); (try clear hi); (try clear ho0); obtain ⟨Ao9, co9, eo9⟩ := Kd.R_slice HO280.out; subst eo9; have p281 : 0 ≤ (0 : Int) := (by omega); have q281 : 0 < (t278.length : Int) := of_decide_eq_true (by first | (with_reducible assumption) | assumption); obtain ⟨ad281, e281, hx281_0⟩ := Kd.at_string (Kd.R_reads' HO280.out).2.2 0 p281 q281; cases e281; have qi281 : (0 < t278.length) = True := eq_true (by omega); (try rw [show ((0 : Int)).toNat = 0 from rfl] at hx281_0); (try rw [Addr.add_zero'] at hx281_0); replace p281 := eq_true p281; replace q281 := eq_true q281) | ((with_reducible refine gate_callee (f := 64) rfl ?_); refine goesL_ (some 17) rfl rfl Tryd.func64 (by kernel_rfl) rfl #[.string (rdOf ByteArray.empty t278 0)] rfl (by (try simp only [List.map_toArray, List.map_cons, List.map_nil]); first | done | rfl | (simp only [List.length_drop, List.length_take]; rfl)) ?_; (with_reducible refine (impl_formOf.calls k (rdOf ByteArray.empty t278 0) t282 t283 t284 t285 t286 t287 true _ A4.out).mono ?_); rintro e w10 ⟨rfl, hb⟩; refine ⟨_, rfl, ?_⟩; have n0_ := Aside0.mk (Kd.R_below (by (with_reducible repeat (first | apply Kd.R_alloc | apply Kd.R_drewN | apply Kd.R_drew)); exact HO280.out) hb); have n1_ := Aside0.mk (blk_below (g := gb277) (o := .cells #[.string (⟨#[]⟩ : ByteArray), .int .i64 0, .int .i64 0, .int .i64 0, .int .i64 0] 35 (0, 0)) (by (with_reducible repeat (first | refine blk_drewN ?_ _ | refine blk_drew ?_ | refine blk_alloc ?_ _)); exact BK277.out) hb); have n2_ := Aside0.mk (below_step (by repeat (first | (with_reducible first | exact HB.out | apply below_alloc | apply pw_below_drewN | apply below_drew1 | refine below_set ?_ GE277.out) | exact HB.out)) hb); clear HO280; clear BK277; clear HB; have HO280 := n0_; have BK277 := n1_; have HB := n2_; clear n0_ n1_ n2_; (try clear hb); (try clear hb2); (try clear hk); (try clear hi)) | ((with_reducible refine gate_dst (N := 5) rfl ?_); refine box_event ?hg (N := 5) ?hd (cs := #[.bool false, .bool false, .int .i64 0, .int .i64 0, .int .i64 0, .string (⟨#[]⟩ : ByteArray)]) (t := 89) ?hr ?_; (case hd => rfl); (case hg => rfl); (case hr => first | (go_simp; done) | (go_simp; rfl)); intro gb289 hg w11 hbox hb; have n0_ := Aside0.mk (Kd.R_below (by (with_reducible repeat (first | apply Kd.R_alloc | apply Kd.R_drewN | apply Kd.R_drew)); exact HO280.out) hb); have n1_ := Aside0.mk (blk_below (g := gb277) (o := .cells #[.string (⟨#[]⟩ : ByteArray), .int .i64 0, .int .i64 0, .int .i64 0, .int .i64 0] 35 (0, 0)) (by (with_reducible repeat (first | refine blk_drewN ?_ _ | refine blk_drew ?_ | refine blk_alloc ?_ _)); exact BK277.out) hb); have n2_ := Aside0.mk (below_step (by repeat (first | (with_reducible first | exact HB.out | apply below_alloc | apply pw_below_drewN | apply below_drew1 | refine below_set ?_ GE277.out) | exact HB.out)) hb); have n3_ := Aside0.mk (hbox); have n4_ := Aside0.mk ((by rw [hg]; exact (below_size (by repeat (first | (with_reducible first | exact HB.out | apply below_alloc | apply pw_below_drewN | apply below_drew1 | refine below_set ?_ GE277.out) | exact HB.out))) : w.heap.size ≤ gb289)); have n5_ := Aside0.mk ((by rw [hg]; exact (below_size (by repeat (first | (with_reducible first | exact HB.out | apply below_alloc | apply pw_below_drewN | apply below_drew1 | refine below_set ?_ GE277.out) | exact HB.out))) : w.heap.size ≤ gb289)); have n6_ := Aside0.mk ((by rw [hg]; exact Nat.ne_of_lt (blk_lt (g := gb277) (o := .cells #[.string (⟨#[]⟩ : ByteArray), .int .i64 0, .int .i64 0, .int .i64 0, .int .i64 0] 35 (0, 0)) (by (with_reducible repeat (first | refine blk_drewN ?_ _ | refine blk_drew ?_ | refine blk_alloc ?_ _)); exact BK277.out)) : gb277 ≠ gb289)); have n7_ := Aside0.mk ((by rw [hg]; exact Nat.ne_of_gt (blk_lt (g := gb277) (o := .cells #[.string (⟨#[]⟩ : ByteArray), .int .i64 0, .int .i64 0, .int .i64 0, .int .i64 0] 35 (0, 0)) (by (with_reducible repeat (first | refine blk_drewN ?_ _ | refine blk_drew ?_ | refine blk_alloc ?_ _)); exact BK277.out)) : gb289 ≠ gb277)); clear HO280; clear BK277; clear HB; have HO280 := n0_; have BK277 := n1_; have HB := n2_; have BK289 := n3_; have GW289 := n4_; have GE289 := n5_; have NB277_289 := n6_; have NB289_277 := n7_; clear n0_ n1_ n2_ n3_ n4_ n5_ n6_ n7_; clear hb hbox hg; have hnb12 := NB289_277.out; have hnc12 := NB277_289.out; have hcz13_0 : w11.cell? ⟨gb289, 0, none⟩ = some (.bool false) := (blk_cell BK289.out 0).trans rfl; have hcz13_1 : w11.cell? ⟨gb289, 1, none⟩ = some (.bool false) := (blk_cell BK289.out 1).trans rfl; have hcz13_2 : w11.cell? ⟨gb289, 2, none⟩ = some (.int .i64 0) := (blk_cell BK289.out 2).trans rfl; have hcz13_3 : w11.cell? ⟨gb289, 3, none⟩ = some (.int .i64 0) := (blk_cell BK289.out 3).trans rfl; have hcz13_4 : w11.cell? ⟨gb289, 4, none⟩ = some (.int .i64 0) := (blk_cell BK289.out 4).trans rfl; have hcz13_5 : w11.cell? ⟨gb289, 5, none⟩ = some (.string (⟨#[]⟩ : ByteArray)) := (blk_cell BK289.out 5).trans rfl; have hfz13_0 := blk_frozen BK289.out 0; have hfz13_1 := blk_frozen BK289.out 1; have hfz13_2 := blk_frozen BK289.out 2; have hfz13_3 := blk_frozen BK289.out 3; have hfz13_4 := blk_frozen BK289.out 4; have hfz13_5 := blk_frozen BK289.out 5; have p290 : 0 ≤ (0 : Int) := (by omega); have q290 : 0 < (t278.length : Int) := of_decide_eq_true (by first | (with_reducible assumption) | assumption); obtain ⟨ad290, e290, hx290_0⟩ := Kd.at_string (Kd.R_reads' HO280.out).2.2 0 p290 q290; obtain rfl : ad281 = ad290 := (by injection e290); have qi290 : (0 < t278.length) = True := eq_true (by omega); (try rw [show ((0 : Int)).toNat = 0 from rfl] at hx290_0); (try rw [Addr.add_zero'] at hx290_0); have hn290_0 : ad281.block ≠ gb289 := Kd.own_blk (Kd.R_ne HO280.out BK289.out (by decide)); have hn290_1 : ad281.block ≠ gb289 := Kd.own_blk (Kd.R_ne HO280.out BK289.out (by decide)); have hn290_2 : ad281.block ≠ gb289 := Kd.own_blk (Kd.R_ne HO280.out BK289.out (by decide)); have hn290_3 : ad281.block ≠ gb289 := Kd.own_blk (Kd.R_ne HO280.out BK289.out (by decide)); have hn290_4 : ad281.block ≠ gb289 := Kd.own_blk (Kd.R_ne HO280.out BK289.out (by decide)); have hn290_5 : ad281.block ≠ gb289 := Kd.own_blk (Kd.R_ne HO280.out BK289.out (by decide)); replace hx290_0 := (cell_far (p := ⟨gb289, 0, none⟩) (by first | (rw [add_block]; exact hn290_0) | (show (Addr.add _ _).block ≠ _; rw [add_block]; exact hn290_0) | exact hn290_0) (.bool t282)).trans hx290_0; replace hx290_0 := (cell_far (p := ⟨gb289, 1, none⟩) (by first | (rw [add_block]; exact hn290_1) | (show (Addr.add _ _).block ≠ _; rw [add_block]; exact hn290_1) | exact hn290_1) (.bool t283)).trans hx290_0; replace hx290_0 := (cell_far (p := ⟨gb289, 2, none⟩) (by first | (rw [add_block]; exact hn290_2) | (show (Addr.add _ _).block ≠ _; rw [add_block]; exact hn290_2) | exact hn290_2) (.int .i64 t284)).trans hx290_0; replace hx290_0 := (cell_far (p := ⟨gb289, 3, none⟩) (by first | (rw [add_block]; exact hn290_3) | (show (Addr.add _ _).block ≠ _; rw [add_block]; exact hn290_3) | exact hn290_3) (.int .i64 t285)).trans hx290_0; replace hx290_0 := (cell_far (p := ⟨gb289, 4, none⟩) (by first | (rw [add_block]; exact hn290_4) | (show (Addr.add _ _).block ≠ _; rw [add_block]; exact hn290_4) | exact hn290_4) (.int .i64 t286)).trans hx290_0; replace hx290_0 := (cell_far (p := ⟨gb289, 5, none⟩) (by first | (rw [add_block]; exact hn290_5) | (show (Addr.add _ _).block ≠ _; rw [add_block]; exact hn290_5) | exact hn290_5) (.string t287)).trans hx290_0; clear hn290_0; clear hn290_1; clear hn290_2; clear hn290_3; clear hn290_4; clear hn290_5; replace p290 := eq_true p290; replace q290 := eq_true q290) | ((with_reducible refine gate_dst (N := 7) rfl ?_); refine box_event ?hg (N := 7) ?hd (cs := #[.string (⟨#[]⟩ : ByteArray), .int .i64 0, .int .i64 0, .int .i64 0, .int .i64 0]) (t := 35) ?hr ?_; (case hd => rfl); (case hg => rfl); (case hr => first | (go_simp; done) | (go_simp; rfl)); intro gb291 hg w14 hbox hb; have n0_ := Aside0.mk (Kd.R_below (by (with_reducible repeat (first | apply Kd.R_alloc | apply Kd.R_drewN | apply Kd.R_drew)); exact (Kd.R_mono (Kd.R_far (p := ⟨gb289, 5, none⟩) (Kd.R_far (p := ⟨gb289, 4, none⟩) (Kd.R_far (p := ⟨gb289, 3, none⟩) (Kd.R_far (p := ⟨gb289, 2, none⟩) (Kd.R_far (p := ⟨gb289, 1, none⟩) (Kd.R_far (p := ⟨gb289, 0, none⟩) (Kd.R_types HO280.out BK289.out (by decide)) (fun _ hk => hk.2) (.bool t282)) (fun _ hk => hk.2) (.bool t283)) (fun _ hk => hk.2) (.int .i64 t284)) (fun _ hk => hk.2) (.int .i64 t285)) (fun _ hk => hk.2) (.int .i64 t286)) (fun _ hk => hk.2) (.string t287)) (fun _ h_ => h_.1))) hb); have n1_ := Aside0.mk (blk_below (g := gb277) (o := .cells #[.string (⟨#[]⟩ : ByteArray), .int .i64 0, .int .i64 0, .int .i64 0, .int .i64 0] 35 (0, 0)) (by (with_reducible repeat (first | refine blk_drewN ?_ _ | refine blk_drew ?_ | refine blk_alloc ?_ _)); refine blk_far ?_ NB277_289.out _; (with_reducible repeat (first | refine blk_drewN ?_ _ | refine blk_drew ?_ | refine blk_alloc ?_ _)); refine blk_far ?_ NB277_289.out _; (with_reducible repeat (first | refine blk_drewN ?_ _ | refine blk_drew ?_ | refine blk_alloc ?_ _)); refine blk_far ?_ NB277_289.out _; (with_reducible repeat (first | refine blk_drewN ?_ _ | refine blk_drew ?_ | refine blk_alloc ?_ _)); refine blk_far ?_ NB277_289.out _; (with_reducible repeat (first | refine blk_drewN ?_ _ | refine blk_drew ?_ | refine blk_alloc ?_ _)); refine blk_far ?_ NB277_289.out _; (with_reducible repeat (first | refine blk_drewN ?_ _ | refine blk_drew ?_ | refine blk_alloc ?_ _)); refine blk_far ?_ NB277_289.out _; (with_reducible repeat (first | refine blk_drewN ?_ _ | refine blk_drew ?_ | refine blk_alloc ?_ _)); exact BK277.out) hb); have n2_ := Aside0.mk (blk_below (g := gb289) (o := .cells #[.bool t282, .bool t283, .int .i64 t284, .int .i64 t285, .int .i64 t286, .string t287] 89 (0, 0)) (by (with_reducible repeat (first | refine blk_drewN ?_ _ | refine blk_drew ?_ | refine blk_alloc ?_ _)); refine blk_put (cs := #[.bool t282, .bool t283, .int .i64 t284, .int .i64 t285, .int .i64 t286, .string (⟨#[]⟩ : ByteArray)]) ?_ 5 _ rfl; (with_reducible repeat (first | refine blk_drewN ?_ _ | refine blk_drew ?_ | refine blk_alloc ?_ _)); refine blk_put (cs := #[.bool t282, .bool t283, .int .i64 t284, .int .i64 t285, .int .i64 0, .string (⟨#[]⟩ : ByteArray)]) ?_ 4 _ rfl; (with_reducible repeat (first | refine blk_drewN ?_ _ | refine blk_drew ?_ | refine blk_alloc ?_ _)); refine blk_put (cs := #[.bool t282, .bool t283, .int .i64 t284, .int .i64 0, .int .i64 0, .string (⟨#[]⟩ : ByteArray)]) ?_ 3 _ rfl; (with_reducible repeat (first | refine blk_drewN ?_ _ | refine blk_drew ?_ | refine blk_alloc ?_ _)); refine blk_put (cs := #[.bool t282, .bool t283, .int .i64 0, .int .i64 0, .int .i64 0, .string (⟨#[]⟩ : ByteArray)]) ?_ 2 _ rfl; (with_reducible repeat (first | refine blk_drewN ?_ _ | refine blk_drew ?_ | refine blk_alloc ?_ _)); refine blk_put (cs := #[.bool t282, .bool false, .int .i64 0, .int .i64 0, .int .i64 0, .string (⟨#[]⟩ : ByteArray)]) ?_ 1 _ rfl; (with_reducible repeat (first | refine blk_drewN ?_ _ | refine blk_drew ?_ | refine blk_alloc ?_ _)); refine blk_put (cs := #[.bool false, .bool false, .int .i64 0, .int .i64 0, .int .i64 0, .string (⟨#[]⟩ : ByteArray)]) ?_ 0 _ rfl; (with_reducible repeat (first | refine blk_drewN ?_ _ | refine blk_drew ?_ | refine blk_alloc ?_ _)); exact BK289.out) hb); have n3_ := Aside0.mk (below_step (by repeat (first | (with_reducible first | exact HB.out | apply below_alloc | apply pw_below_drewN | apply below_drew1 | refine below_set ?_ GE277.out | refine below_set ?_ GE289.out) | exact HB.out)) hb); have n4_ := Aside0.mk (hbox); have n5_ := Aside0.mk ((by rw [hg]; exact (below_size (by repeat (first | (with_reducible first | exact HB.out | apply below_alloc | apply pw_below_drewN | apply below_drew1 | refine below_set ?_ GE277.out | refine below_set ?_ GE289.out) | exact HB.out))) : w.heap.size ≤ gb291)); have n6_ := Aside0.mk ((by rw [hg]; exact (below_size (by repeat (first | (with_reducible first | exact HB.out | apply below_alloc | apply pw_below_drewN | apply below_drew1 | refine below_set ?_ GE277.out | refine below_set ?_ GE289.out) | exact HB.out))) : w.heap.size ≤ gb291)); have n7_ := Aside0.mk ((by rw [hg]; exact Nat.ne_of_lt (blk_lt (g := gb277) (o := .cells #[.string (⟨#[]⟩ : ByteArray), .int .i64 0, .int .i64 0, .int .i64 0, .int .i64 0] 35 (0, 0)) (by (with_reducible repeat (first | refine blk_drewN ?_ _ | refine blk_drew ?_ | refine blk_alloc ?_ _)); refine blk_far ?_ NB277_289.out _; (with_reducible repeat (first | refine blk_drewN ?_ _ | refine blk_drew ?_ | refine blk_alloc ?_ _)); refine blk_far ?_ NB277_289.out _; (with_reducible repeat (first | refine blk_drewN ?_ _ | refine blk_drew ?_ | refine blk_alloc ?_ _)); refine blk_far ?_ NB277_289.out _; (with_reducible repeat (first | refine blk_drewN ?_ _ | refine blk_drew ?_ | refine blk_alloc ?_ _)); refine blk_far ?_ NB277_289.out _; (with_reducible repeat (first | refine blk_drewN ?_ _ | refine blk_drew ?_ | refine blk_alloc ?_ _)); refine blk_far ?_ NB277_289.out _; (with_reducible repeat (first | refine blk_drewN ?_ _ | refine blk_drew ?_ | refine blk_alloc ?_ _)); refine blk_far ?_ NB277_289.out _; (with_reducible repeat (first | refine blk_drewN ?_ _ | refine blk_drew ?_ | refine blk_alloc ?_ _)); exact BK277.out)) : gb277 ≠ gb291)); have n8_ := Aside0.mk ((by rw [hg]; exact Nat.ne_of_gt (blk_lt (g := gb277) (o := .cells #[.string (⟨#[]⟩ : ByteArray), .int .i64 0, .int .i64 0, .int .i64 0, .int .i64 0] 35 (0, 0)) (by (with_reducible repeat (first | refine blk_drewN ?_ _ | refine blk_drew ?_ | refine blk_alloc ?_ _)); refine blk_far ?_ NB277_289.out _; (with_reducible repeat (first | refine blk_drewN ?_ _ | refine blk_drew ?_ | refine blk_alloc ?_ _)); refine blk_far ?_ NB277_289.out _; (with_reducible repeat (first | refine blk_drewN ?_ _ | refine blk_drew ?_ | refine blk_alloc ?_ _)); refine blk_far ?_ NB277_289.out _; (with_reducible repeat (first | refine blk_drewN ?_ _ | refine blk_drew ?_ | refine blk_alloc ?_ _)); refine blk_far ?_ NB277_289.out _; (with_reducible repeat (first | refine blk_drewN ?_ _ | refine blk_drew ?_ | refine blk_alloc ?_ _)); refine blk_far ?_ NB277_289.out _; (with_reducible repeat (first | refine blk_drewN ?_ _ | refine blk_drew ?_ | refine blk_alloc ?_ _)); refine blk_far ?_ NB277_289.out _; (with_reducible repeat (first | refine blk_drewN ?_ _ | refine blk_drew ?_ | refine blk_alloc ?_ _)); exact BK277.out)) : gb291 ≠ gb277)); have n9_ := Aside0.mk ((by rw [hg]; exact Nat.ne_of_lt (blk_lt (g := gb289) (o := .cells #[.bool t282, .bool t283, .int .i64 t284, .int .i64 t285, .int .i64 t286, .string t287] 89 (0, 0)) (by (with_reducible repeat (first | refine blk_drewN ?_ _ | refine blk_drew ?_ | refine blk_alloc ?_ _)); refine blk_put (cs := #[.bool t282, .bool t283, .int .i64 t284, .int .i64 t285, .int .i64 t286, .string (⟨#[]⟩ : ByteArray)]) ?_ 5 _ rfl; (with_reducible repeat (first | refine blk_drewN ?_ _ | refine blk_drew ?_ | refine blk_alloc ?_ _)); refine blk_put (cs := #[.bool t282, .bool t283, .int .i64 t284, .int .i64 t285, .int .i64 0, .string (⟨#[]⟩ : ByteArray)]) ?_ 4 _ rfl; (with_reducible repeat (first | refine blk_drewN ?_ _ | refine blk_drew ?_ | refine blk_alloc ?_ _)); refine blk_put (cs := #[.bool t282, .bool t283, .int .i64 t284, .int .i64 0, .int .i64 0, .string (⟨#[]⟩ : ByteArray)]) ?_ 3 _ rfl; (with_reducible repeat (first | refine blk_drewN ?_ _ | refine blk_drew ?_ | refine blk_alloc ?_ _)); refine blk_put (cs := #[.bool t282, .bool t283, .int .i64 0, .int .i64 0, .int .i64 0, .string (⟨#[]⟩ : ByteArray)]) ?_ 2 _ rfl; (with_reducible repeat (first | refine blk_drewN ?_ _ | refine blk_drew ?_ | refine blk_alloc ?_ _)); refine blk_put (cs := #[.bool t282, .bool false, .int .i64 0, .int .i64 0, .int .i64 0, .string (⟨#[]⟩ : ByteArray)]) ?_ 1 _ rfl; (with_reducible repeat (first | refine blk_drewN ?_ _ | refine blk_drew ?_ | refine blk_alloc ?_ _)); refine blk_put (cs := #[.bool false, .bool false, .int .i64 0, .int .i64 0, .int .i64 0, .string (⟨#[]⟩ : ByteArray)]) ?_ 0 _ rfl; (with_reducible repeat (first | refine blk_drewN ?_ _ | refine blk_drew ?_ | refine blk_alloc ?_ _)); exact BK289.out)) : gb289 ≠ gb291)); have n10_ := Aside0.mk ((by rw [hg]; exact Nat.ne_of_gt (blk_lt (g := gb289) (o := .cells #[.bool t282, .bool t283, .int .i64 t284, .int .i64 t285, .int .i64 t286, .string t287] 89 (0, 0)) (by (with_reducible repeat (first | refine blk_drewN ?_ _ | refine blk_drew ?_ | refine blk_alloc ?_ _)); refine blk_put (cs := #[.bool t282, .bool t283, .int .i64 t284, .int .i64 t285, .int .i64 t286, .string (⟨#[]⟩ : ByteArray)]) ?_ 5 _ rfl; (with_reducible repeat (first | refine blk_drewN ?_ _ | refine blk_drew ?_ | refine blk_alloc ?_ _)); refine blk_put (cs := #[.bool t282, .bool t283, .int .i64 t284, .int .i64 t285, .int .i64 0, .string (⟨#[]⟩ : ByteArray)]) ?_ 4 _ rfl; (with_reducible repeat (first | refine blk_drewN ?_ _ | refine blk_drew ?_ | refine blk_alloc ?_ _)); refine blk_put (cs := #[.bool t282, .bool t283, .int .i64 t284, .int .i64 0, .int .i64 0, .string (⟨#[]⟩ : ByteArray)]) ?_ 3 _ rfl; (with_reducible repeat (first | refine blk_drewN ?_ _ | refine blk_drew ?_ | refine blk_alloc ?_ _)); refine blk_put (cs := #[.bool t282, .bool t283, .int .i64 0, .int .i64 0, .int .i64 0, .string (⟨#[]⟩ : ByteArray)]) ?_ 2 _ rfl; (with_reducible repeat (first | refine blk_drewN ?_ _ | refine blk_drew ?_ | refine blk_alloc ?_ _)); refine blk_put (cs := #[.bool t282, .bool false, .int .i64 0, .int .i64 0, .int .i64 0, .string (⟨#[]⟩ : ByteArray)]) ?_ 1 _ rfl; (with_reducible repeat (first | refine blk_drewN ?_ _ | refine blk_drew ?_ | refine blk_alloc ?_ _)); refine blk_put (cs := #[.bool false, .bool false, .int .i64 0, .int .i64 0, .int .i64 0, .string (⟨#[]⟩ : ByteArray)]) ?_ 0 _ rfl; (with_reducible repeat (first | refine blk_drewN ?_ _ | refine blk_drew ?_ | refine blk_alloc ?_ _)); exact BK289.out)) : gb291 ≠ gb289)); clear HO280; clear BK277; clear BK289; clear HB; have HO280 := n0_; have BK277 := n1_; have BK289 := n2_; have HB := n3_; have BK291 := n4_; have GW291 := n5_; have GE291 := n6_; have NB277_291 := n7_; have NB291_277 := n8_; have NB289_291 := n9_; have NB291_289 := n10_; clear n0_ n1_ n2_ n3_ n4_ n5_ n6_ n7_ n8_ n9_ n10_; clear hb hbox hg; have hnb15 := NB291_277.out; have hnc15 := NB277_291.out; have hnb16 := NB291_289.out; have hnc16 := NB289_291.out; have hcz17_0 : w14.cell? ⟨gb291, 0, none⟩ = some (.string (⟨#[]⟩ : ByteArray)) := (blk_cell BK291.out 0).trans rfl; have hcz17_1 : w14.cell? ⟨gb291, 1, none⟩ = some (.int .i64 0) := (blk_cell BK291.out 1).trans rfl; have hcz17_2 : w14.cell? ⟨gb291, 2, none⟩ = some (.int .i64 0) := (blk_cell BK291.out 2).trans rfl; have hcz17_3 : w14.cell? ⟨gb291, 3, none⟩ = some (.int .i64 0) := (blk_cell BK291.out 3).trans rfl; have hcz17_4 : w14.cell? ⟨gb291, 4, none⟩ = some (.int .i64 0) := (blk_cell BK291.out 4).trans rfl; have hfz17_0 := blk_frozen BK291.out 0; have hfz17_1 := blk_frozen BK291.out 1; have hfz17_2 := blk_frozen BK291.out 2; have hfz17_3 := blk_frozen BK291.out 3; have hfz17_4 := blk_frozen BK291.out 4) | ((with_reducible refine gate_dst (N := 28) rfl ?_); refine Kd.R_lit (kp gb291) _ 92 ?hg (N := 28) ?hd (xs := ([1] : List Int)) (inner := [.pointer (some ⟨gb291, 1, none⟩)]) (ok := fun _ => True) (okp := fun _ => True) ?hr ?hp (fun _ hk => hk) trivial (Below.refl _ _) (Nat.le_refl _) (by simp) ?_; (case hd => rfl); (case hg => rfl); (case hr => first | (go_simp; done) | (go_simp; rfl)); (case hp => exact (Reps.one (show Kd.M (kp gb291) _ _ _ 1 [.pointer (some ⟨gb291, 1, none⟩)] from rfl) (Reps.none _ _))); intro v293 w18 ho19 hb hg_ hnew_; clear hg_ hnew_; (first | rw [← Ny292.out] at ho19 | (simp only [Int.reduceToNat] at ho19; rw [← Ny292.out] at ho19)); have n0_ := Aside0.mk (Kd.R_below (by (with_reducible repeat (first | apply Kd.R_alloc | apply Kd.R_drewN | apply Kd.R_drew)); exact (Kd.R_mono (Kd.R_far (p := ⟨gb291, 4, none⟩) (Kd.R_far (p := ⟨gb291, 3, none⟩) (Kd.R_far (p := ⟨gb291, 2, none⟩) (Kd.R_far (p := ⟨gb291, 1, none⟩) (Kd.R_far (p := ⟨gb291, 0, none⟩) (Kd.R_types HO280.out BK291.out (by decide)) (fun _ hk => hk.2) (.string (rdOf ByteArray.empty t278 0))) (fun _ hk => hk.2) (.int .i64 0)) (fun _ hk => hk.2) (.int .i64 0)) (fun _ hk => hk.2) (.int .i64 0)) (fun _ hk => hk.2) (.int .i64 0)) (fun _ h_ => h_.1))) hb); have n1_ := Aside0.mk (Kd.R_lower ho19 (below_size (by repeat (first | (with_reducible first | exact HB.out | apply below_alloc | apply pw_below_drewN | apply below_drew1 | refine below_set ?_ GE277.out | refine below_set ?_ GE289.out | refine below_set ?_ GE291.out) | exact HB.out)))); have n2_ := Aside0.mk (blk_below (g := gb277) (o := .cells #[.string (⟨#[]⟩ : ByteArray), .int .i64 0, .int .i64 0, .int .i64 0, .int .i64 0] 35 (0, 0)) (by (with_reducible repeat (first | refine blk_drewN ?_ _ | refine blk_drew ?_ | refine blk_alloc ?_ _)); refine blk_far ?_ NB277_291.out _; (with_reducible repeat (first | refine blk_drewN ?_ _ | refine blk_drew ?_ | refine blk_alloc ?_ _)); refine blk_far ?_ NB277_291.out _; (with_reducible repeat (first | refine blk_drewN ?_ _ | refine blk_drew ?_ | refine blk_alloc ?_ _)); refine blk_far ?_ NB277_291.out _; (with_reducible repeat (first | refine blk_drewN ?_ _ | refine blk_drew ?_ | refine blk_alloc ?_ _)); refine blk_far ?_ NB277_291.out _; (with_reducible repeat (first | refine blk_drewN ?_ _ | refine blk_drew ?_ | refine blk_alloc ?_ _)); refine blk_far ?_ NB277_291.out _; (with_reducible repeat (first | refine blk_drewN ?_ _ | refine blk_drew ?_ | refine blk_alloc ?_ _)); exact BK277.out) hb); have n3_ := Aside0.mk (blk_below (g := gb289) (o := .cells #[.bool t282, .bool t283, .int .i64 t284, .int .i64 t285, .int .i64 t286, .string t287] 89 (0, 0)) (by (with_reducible repeat (first | refine blk_drewN ?_ _ | refine blk_drew ?_ | refine blk_alloc ?_ _)); refine blk_far ?_ NB289_291.out _; (with_reducible repeat (first | refine blk_drewN ?_ _ | refine blk_drew ?_ | refine blk_alloc ?_ _)); refine blk_far ?_ NB289_291.out _; (with_reducible repeat (first | refine blk_drewN ?_ _ | refine blk_drew ?_ | refine blk_alloc ?_ _)); refine blk_far ?_ NB289_291.out _; (with_reducible repeat (first | refine blk_drewN ?_ _ | refine blk_drew ?_ | refine blk_alloc ?_ _)); refine blk_far ?_ NB289_291.out _; (with_reducible repeat (first | refine blk_drewN ?_ _ | refine blk_drew ?_ | refine blk_alloc ?_ _)); refine blk_far ?_ NB289_291.out _; (with_reducible repeat (first | refine blk_drewN ?_ _ | refine blk_drew ?_ | refine blk_alloc ?_ _)); exact BK289.out) hb); have n4_ := Aside0.mk (blk_below (g := gb291) (o := .cells #[.string (rdOf ByteArray.empty t278 0), .int .i64 0, .int .i64 0, .int .i64 0, .int .i64 0] 35 (0, 0)) (by (with_reducible repeat (first | refine blk_drewN ?_ _ | refine blk_drew ?_ | refine blk_alloc ?_ _)); refine blk_put (cs := #[.string (rdOf ByteArray.empty t278 0), .int .i64 0, .int .i64 0, .int .i64 0, .int .i64 0]) ?_ 4 _ rfl; (with_reducible repeat (first | refine blk_drewN ?_ _ | refine blk_drew ?_ | refine blk_alloc ?_ _)); refine blk_put (cs := #[.string (rdOf ByteArray.empty t278 0), .int .i64 0, .int .i64 0, .int .i64 0, .int .i64 0]) ?_ 3 _ rfl; (with_reducible repeat (first | refine blk_drewN ?_ _ | refine blk_drew ?_ | refine blk_alloc ?_ _)); refine blk_put (cs := #[.string (rdOf ByteArray.empty t278 0), .int .i64 0, .int .i64 0, .int .i64 0, .int .i64 0]) ?_ 2 _ rfl; (with_reducible repeat (first | refine blk_drewN ?_ _ | refine blk_drew ?_ | refine blk_alloc ?_ _)); refine blk_put (cs := #[.string (rdOf ByteArray.empty t278 0), .int .i64 0, .int .i64 0, .int .i64 0, .int .i64 0]) ?_ 1 _ rfl; (with_reducible repeat (first | refine blk_drewN ?_ _ | refine blk_drew ?_ | refine blk_alloc ?_ _)); refine blk_put (cs := #[.string (⟨#[]⟩ : ByteArray), .int .i64 0, .int .i64 0, .int .i64 0, .int .i64 0]) ?_ 0 _ rfl; (with_reducible repeat (first | refine blk_drewN ?_ _ | refine blk_drew ?_ | refine blk_alloc ?_ _)); exact BK291.out) hb); have n5_ := Aside0.mk (below_step (by repeat (first | (with_reducible first | exact HB.out | apply below_alloc | apply pw_below_drewN | apply below_drew1 | refine below_set ?_ GE277.out | refine below_set ?_ GE289.out | refine below_set ?_ GE291.out) | exact HB.out)) hb); clear HO280; clear BK277; clear BK289; clear BK291; clear HB; have HO280 := n0_; have HO294 := n1_; have BK277 := n2_; have BK289 := n3_; have BK291 := n4_; have HB := n5_; clear n0_ n1_ n2_ n3_ n4_ n5_; clear hb ho19; have hcz20_0 : w18.cell? ⟨gb289, 0, none⟩ = some (.bool t282) := (blk_cell BK289.out 0).trans rfl; have hcz20_1 : w18.cell? ⟨gb289, 1, none⟩ = some (.bool t283) := (blk_cell BK289.out 1).trans rfl; have hcz20_2 : w18.cell? ⟨gb289, 2, none⟩ = some (.int .i64 t284) := (blk_cell BK289.out 2).trans rfl; have hcz20_3 : w18.cell? ⟨gb289, 3, none⟩ = some (.int .i64 t285) := (blk_cell BK289.out 3).trans rfl; have hcz20_4 : w18.cell? ⟨gb289, 4, none⟩ = some (.int .i64 t286) := (blk_cell BK289.out 4).trans rfl; have hcz20_5 : w18.cell? ⟨gb289, 5, none⟩ = some (.string t287) := (blk_cell BK289.out 5).trans rfl; have hfz20_0 := blk_frozen BK289.out 0; have hfz20_1 := blk_frozen BK289.out 1; have hfz20_2 := blk_frozen BK289.out 2; have hfz20_3 := blk_frozen BK289.out 3; have hfz20_4 := blk_frozen BK289.out 4; have hfz20_5 := blk_frozen BK289.out 5))
      (try simp only [Act.put, List.setIfInBounds_toArray, List.set_cons_zero, List.set_cons_succ])
      go_cut [8] (fun v8 wc => ∃ (kq : Nat) (x8_5 : List Int), Aside0 (impl_ParseInstr.j0 kq a0 t278 x8_5 t282 t283 t284 t285 t286 t287 (rdOf ByteArray.empty t278 0) 0 0 0 0 = some (r1, r2, r3, r4, r5, r6)) ∧ Aside0 (kq ≤ k) ∧ Aside0 (Kd.R Kd.string 9 wc w.heap.size (fun _ => True) (.slice (some ad281) t278.length co9) t278) ∧ Aside0 (Kd.R (kp gb291) 92 wc w.heap.size (fun _ => True) v8 x8_5) ∧ Aside0 (wc.heap[gb277]? = some (.cells #[.string (⟨#[]⟩ : ByteArray), .int .i64 0, .int .i64 0, .int .i64 0, .int .i64 0] 35 (0, 0))) ∧ Aside0 (wc.heap[gb289]? = some (.cells #[.bool t282, .bool t283, .int .i64 t284, .int .i64 t285, .int .i64 t286, .string t287] 89 (0, 0))) ∧ Aside0 (wc.heap[gb291]? = some (.cells #[.string (rdOf ByteArray.empty t278 0), .int .i64 0, .int .i64 0, .int .i64 0, .int .i64 0] 35 (0, 0))) ∧ Aside0 (Below w.heap.size w wc))
      case first =>
        have H := HC6.out
        clear HC6
        by_cases c21 : t282 = true
        · subst c21
          have H1 : (if y292.length < 17592186044416 then (impl_ParseInstr.j0 k a0 t278 (y292 ++ [2]) true t283 t284 t285 t286 t287 (rdOf ByteArray.empty t278 0) 0 0 0 0) else (none)) = some (r1, r2, r3, r4, r5, r6) := by rw [if_pos rfl] at H; exact H
          clear H
          have H := H1
          clear H1
          by_cases c22 : y292.length < 17592186044416
          · rw [if_pos c22] at H
            have LMc22 := Aside0.mk c22
            clear c22
            obtain ⟨y295, hy295⟩ : ∃ y_ : List Int, y_ = (y292 ++ [2]) := ⟨_, rfl⟩
            replace H : (impl_ParseInstr.j0 k a0 t278 y295 true t283 t284 t285 t286 t287 (rdOf ByteArray.empty t278 0) 0 0 0 0) = some (r1, r2, r3, r4, r5, r6) := by first | (rw [hy295]; with_reducible exact H) | (have H2_ := (Option.bind_some _ _).symm.trans H; rw [hy295]; with_reducible exact H2_) | (have H2_ := (Option.bind_some _ _).symm.trans H; with_reducible exact H2_) | with_reducible exact H | (rw [hy295]; exact H) | exact H
            have Ny295 := Aside0.mk hy295
            clear hy295
            have H' := Aside0.mk H
            clear H
            go_wp2_with (first | ((with_reducible refine gate_builtin (b := .append) (xs := #[.tmp 31, .tmp 33]) rfl ?_); at_builtin; refine Kd.R_append (kp gb291) (w0 := w) w.heap.size ?qa (.tmp 31) (.tmp 33) 93 92 (.pointer none) 8 ?qb ?qc ?qd ?qe ?qf ?qg v293 y292 2 [.pointer (some ⟨gb291, 2, none⟩)] (fun _ => True) (fun _ => False) ?qh ?qx ?aP (fun _ hk => hk.elim) ?aF ?aO ?aB ?aS ?aL ?_; (case qa => rfl); (case qb => rfl); (case qc => exact Tryd.underlying93); (case qd => exact info92); (case qe => rfl); (case qf => exact Nat.zero_lt_one); (case qg => omega); (case qh => rfl); (case qx => rfl); (case aP => exact rfl); (case aB => exact (by repeat (first | (with_reducible first | exact HB.out | apply below_alloc | apply pw_below_drewN | apply below_drew1 | refine below_set ?_ GE277.out | refine below_set ?_ GE289.out | refine below_set ?_ GE291.out) | exact HB.out))); (case aF => exact (fun _ _ => trivial)); (case aO => exact (by (with_reducible repeat (first | apply Kd.R_alloc | apply Kd.R_drewN | apply Kd.R_drew)); exact HO294.out)); (case aS => exact (below_size (by repeat (first | (with_reducible first | exact HB.out | apply below_alloc | apply pw_below_drewN | apply below_drew1 | refine below_set ?_ GE277.out | refine below_set ?_ GE289.out | refine below_set ?_ GE291.out) | exact HB.out)))); (case aL => have := LMc22.out; omega); intro v296 w23 ho hb hg hat; rw [← Ny295.out] at ho; have n0_ := Aside0.mk (blk_grown (g := gb277) (o := .cells #[.string (⟨#[]⟩ : ByteArray), .int .i64 0, .int .i64 0, .int .i64 0, .int .i64 0] 35 (0, 0)) (by (with_reducible repeat (first | refine blk_drewN ?_ _ | refine blk_drew ?_ | refine blk_alloc ?_ _)); exact BK277.out) hg (Kd.R_ne HO294.out BK277.out (by decide))); have n1_ := Aside0.mk (Kd.R_over' (by (with_reducible repeat (first | apply Kd.R_alloc | apply Kd.R_drewN | apply Kd.R_drew)); exact HO280.out) (Kd.R_typed (by (with_reducible repeat (first | apply Kd.R_alloc | apply Kd.R_drewN | apply Kd.R_drew)); exact HO294.out)) (by decide) hg); have n2_ := Aside0.mk (blk_grown (g := gb289) (o := .cells #[.bool true, .bool t283, .int .i64 t284, .int .i64 t285, .int .i64 t286, .string t287] 89 (0, 0)) (by (with_reducible repeat (first | refine blk_drewN ?_ _ | refine blk_drew ?_ | refine blk_alloc ?_ _)); exact BK289.out) hg (Kd.R_ne HO294.out BK289.out (by decide))); have n3_ := Aside0.mk (blk_grown (g := gb291) (o := .cells #[.string (rdOf ByteArray.empty t278 0), .int .i64 0, .int .i64 0, .int .i64 0, .int .i64 0] 35 (0, 0)) (by (with_reducible repeat (first | refine blk_drewN ?_ _ | refine blk_drew ?_ | refine blk_alloc ?_ _)); exact BK291.out) hg (Kd.R_ne HO294.out BK291.out (by decide))); have n4_ := Aside0.mk (hb); have n5_ := Aside0.mk (ho); clear BK277; clear HO280; clear BK289; clear BK291; clear HB; clear HO294; have BK277 := n0_; have HO280 := n1_; have BK289 := n2_; have BK291 := n3_; have HB := n4_; have HO297 := n5_; clear n0_ n1_ n2_ n3_ n4_ n5_; clear ho hb hg hat))
            go_meet
            case rel => exact ⟨_, (y295), H', ⟨by first | omega | exact Nat.le_refl _⟩, ⟨by (with_reducible repeat (first | apply Kd.R_alloc | apply Kd.R_drewN | apply Kd.R_drew)); exact HO280.out⟩, ⟨by (with_reducible repeat (first | apply Kd.R_alloc | apply Kd.R_drewN | apply Kd.R_drew)); exact HO297.out⟩, ⟨by (with_reducible repeat (first | refine blk_drewN ?_ _ | refine blk_drew ?_ | refine blk_alloc ?_ _)); exact BK277.out⟩, ⟨by (with_reducible repeat (first | refine blk_drewN ?_ _ | refine blk_drew ?_ | refine blk_alloc ?_ _)); exact BK289.out⟩, ⟨by (with_reducible repeat (first | refine blk_drewN ?_ _ | refine blk_drew ?_ | refine blk_alloc ?_ _)); exact BK291.out⟩, ⟨by repeat (first | (with_reducible first | exact HB.out | apply below_alloc | apply pw_below_drewN | apply below_drew1 | refine below_set ?_ GE277.out | refine below_set ?_ GE289.out | refine below_set ?_ GE291.out) | exact HB.out)⟩⟩
          · rw [if_neg c22] at H
            exact absurd H (by simp)
        · replace c21 := Bool.eq_false_iff.mpr c21
          subst c21
          have H1 : (impl_ParseInstr.j0 k a0 t278 y292 false t283 t284 t285 t286 t287 (rdOf ByteArray.empty t278 0) 0 0 0 0) = some (r1, r2, r3, r4, r5, r6) := by rw [if_neg (show ¬ (false = true) by decide)] at H; exact H
          clear H
          have H := H1
          clear H1
          have H' := Aside0.mk H
          clear H
          go_wp2
          go_meet
          case rel => exact ⟨_, (y292), H', ⟨by first | omega | exact Nat.le_refl _⟩, ⟨by (with_reducible repeat (first | apply Kd.R_alloc | apply Kd.R_drewN | apply Kd.R_drew)); exact HO280.out⟩, ⟨by (with_reducible repeat (first | apply Kd.R_alloc | apply Kd.R_drewN | apply Kd.R_drew)); exact HO294.out⟩, ⟨by (with_reducible repeat (first | refine blk_drewN ?_ _ | refine blk_drew ?_ | refine blk_alloc ?_ _)); exact BK277.out⟩, ⟨by (with_reducible repeat (first | refine blk_drewN ?_ _ | refine blk_drew ?_ | refine blk_alloc ?_ _)); exact BK289.out⟩, ⟨by (with_reducible repeat (first | refine blk_drewN ?_ _ | refine blk_drew ?_ | refine blk_alloc ?_ _)); exact BK291.out⟩, ⟨by repeat (first | (with_reducible first | exact HB.out | apply below_alloc | apply pw_below_drewN | apply below_drew1 | refine below_set ?_ GE277.out | refine below_set ?_ GE289.out | refine below_set ?_ GE291.out) | exact HB.out)⟩⟩
      case rest =>
        clear HC6
        try clear c1
        try clear c2
        try clear p2
        try clear q2
        try clear hx2
        try clear qi2
        try clear c3
        try clear c3b0
        try clear c3b1
        try clear c5
        try clear c6
        try clear c12
        try clear c15
        try clear c16
        try clear c21
        try clear c22
        try clear hcz13_0
        try clear hcz13_1
        try clear hcz13_2
        try clear hcz13_3
        try clear hcz13_4
        try clear hcz13_5
        try clear hcz17_0
        try clear hcz17_1
        try clear hcz17_2
        try clear hcz17_3
        try clear hcz17_4
        try clear hcz20_0
        try clear hcz20_1
        try clear hcz20_2
        try clear hcz20_3
        try clear hcz20_4
        try clear hcz20_5
        try clear hfz13_0
        try clear hfz13_1
        try clear hfz13_2
        try clear hfz13_3
        try clear hfz13_4
        try clear hfz13_5
        try clear hfz17_0
        try clear hfz17_1
        try clear hfz17_2
        try clear hfz17_3
        try clear hfz17_4
        try clear hfz20_0
        try clear hfz20_1
        try clear hfz20_2
        try clear hfz20_3
        try clear hfz20_4
        try clear hfz20_5
        try clear hx281_0
        try clear hx290_0
        try clear p281
        try clear p290
        try clear q281
        try clear q290
        obtain ⟨kq, x8_5, HA, HJ5, HO_4, HO_8, BK277, BK289, BK291, HB⟩ := hcut
        cases kq with
        | zero => exact absurd HA.out (by simp [impl_ParseInstr.j0])
        | succ kj5 =>
          have H := HA.out
          clear HA
          simp only [impl_ParseInstr.j0] at H
          have HC24 := Aside0.mk H
          clear H
          have hnb25 := NB289_277.out
          have hnc25 := NB277_289.out
          have hnb26 := NB289_291.out
          have hnc26 := NB291_289.out
          have hcz27_0 : wc.cell? ⟨gb289, 0, none⟩ = some (.bool t282) := (blk_cell BK289.out 0).trans rfl
          have hcz27_1 : wc.cell? ⟨gb289, 1, none⟩ = some (.bool t283) := (blk_cell BK289.out 1).trans rfl
          have hcz27_2 : wc.cell? ⟨gb289, 2, none⟩ = some (.int .i64 t284) := (blk_cell BK289.out 2).trans rfl
          have hcz27_3 : wc.cell? ⟨gb289, 3, none⟩ = some (.int .i64 t285) := (blk_cell BK289.out 3).trans rfl
          have hcz27_4 : wc.cell? ⟨gb289, 4, none⟩ = some (.int .i64 t286) := (blk_cell BK289.out 4).trans rfl
          have hcz27_5 : wc.cell? ⟨gb289, 5, none⟩ = some (.string t287) := (blk_cell BK289.out 5).trans rfl
          have hfz27_0 := blk_frozen BK289.out 0
          have hfz27_1 := blk_frozen BK289.out 1
          have hfz27_2 := blk_frozen BK289.out 2
          have hfz27_3 := blk_frozen BK289.out 3
          have hfz27_4 := blk_frozen BK289.out 4
          have hfz27_5 := blk_frozen BK289.out 5
          go_upto_if 36 with (fail)
          go_cut [8] (fun v8 wc => ∃ (kq : Nat) (x8_23 : List Int), Aside0 (impl_ParseInstr.j1 kq a0 t278 x8_23 t282 t283 t284 t285 t286 t287 (rdOf ByteArray.empty t278 0) 0 0 0 0 = some (r1, r2, r3, r4, r5, r6)) ∧ Aside0 (kq ≤ kj5) ∧ Aside0 (Kd.R Kd.string 9 wc w.heap.size (fun _ => True) (.slice (some ad281) t278.length co9) t278) ∧ Aside0 (Kd.R (kp gb291) 92 wc w.heap.size (fun _ => True) v8 x8_23) ∧ Aside0 (wc.heap[gb277]? = some (.cells #[.string (⟨#[]⟩ : ByteArray), .int .i64 0, .int .i64 0, .int .i64 0, .int .i64 0] 35 (0, 0))) ∧ Aside0 (wc.heap[gb289]? = some (.cells #[.bool t282, .bool t283, .int .i64 t284, .int .i64 t285, .int .i64 t286, .string t287] 89 (0, 0))) ∧ Aside0 (wc.heap[gb291]? = some (.cells #[.string (rdOf ByteArray.empty t278 0), .int .i64 0, .int .i64 0, .int .i64 0, .int .i64 0] 35 (0, 0))) ∧ Aside0 (Below w.heap.size w wc))
          case first =>
            have H := HC24.out
            clear HC24
            by_cases c28 : t283 = true
            · subst c28
              have H1 : (if x8_5.length < 17592186044416 then (impl_ParseInstr.j1 kj5 a0 t278 (x8_5 ++ [3]) t282 true t284 t285 t286 t287 (rdOf ByteArray.empty t278 0) 0 0 0 0) else (none)) = some (r1, r2, r3, r4, r5, r6) := by rw [if_pos rfl] at H; exact H
              clear H
              have H := H1
              clear H1
              by_cases c29 : x8_5.length < 17592186044416
              · rw [if_pos c29] at H
                have LMc29 := Aside0.mk c29
                clear c29
                obtain ⟨y298, hy298⟩ : ∃ y_ : List Int, y_ = (x8_5 ++ [3]) := ⟨_, rfl⟩
                replace H : (impl_ParseInstr.j1 kj5 a0 t278 y298 t282 true t284 t285 t286 t287 (rdOf ByteArray.empty t278 0) 0 0 0 0) = some (r1, r2, r3, r4, r5, r6) := by first | (rw [hy298]; with_reducible exact H) | (have H2_ := (Option.bind_some _ _).symm.trans H; rw [hy298]; with_reducible exact H2_) | (have H2_ := (Option.bind_some _ _).symm.trans H; with_reducible exact H2_) | with_reducible exact H | (rw [hy298]; exact H) | exact H
                have Ny298 := Aside0.mk hy298
                clear hy298
                have H' := Aside0.mk H
                clear H
                go_wp2_with (first | ((with_reducible refine gate_builtin (b := .append) (xs := #[.tmp 37, .tmp 39]) rfl ?_); at_builtin; refine Kd.R_append (kp gb291) (w0 := w) w.heap.size ?qa (.tmp 37) (.tmp 39) 93 92 (.pointer none) 8 ?qb ?qc ?qd ?qe ?qf ?qg u8 x8_5 3 [.pointer (some ⟨gb291, 3, none⟩)] (fun _ => True) (fun _ => False) ?qh ?qx ?aP (fun _ hk => hk.elim) ?aF ?aO ?aB ?aS ?aL ?_; (case qa => rfl); (case qb => rfl); (case qc => exact Tryd.underlying93); (case qd => exact info92); (case qe => rfl); (case qf => exact Nat.zero_lt_one); (case qg => omega); (case qh => rfl); (case qx => rfl); (case aP => exact rfl); (case aB => exact (by repeat (first | (with_reducible first | exact HB.out | apply below_alloc | apply pw_below_drewN | apply below_drew1 | refine below_set ?_ GE277.out | refine below_set ?_ GE289.out | refine below_set ?_ GE291.out) | exact HB.out))); (case aF => exact (fun _ _ => trivial)); (case aO => exact (by (with_reducible repeat (first | apply Kd.R_alloc | apply Kd.R_drewN | apply Kd.R_drew)); exact HO_8.out)); (case aS => exact (below_size (by repeat (first | (with_reducible first | exact HB.out | apply below_alloc | apply pw_below_drewN | apply below_drew1 | refine below_set ?_ GE277.out | refine below_set ?_ GE289.out | refine below_set ?_ GE291.out) | exact HB.out)))); (case aL => have := LMc29.out; omega); intro v299 w30 ho hb hg hat; rw [← Ny298.out] at ho; have n0_ := Aside0.mk (Kd.R_over' (by (with_reducible repeat (first | apply Kd.R_alloc | apply Kd.R_drewN | apply Kd.R_drew)); exact HO_4.out) (Kd.R_typed (by (with_reducible repeat (first | apply Kd.R_alloc | apply Kd.R_drewN | apply Kd.R_drew)); exact HO_8.out)) (by decide) hg); have n1_ := Aside0.mk (blk_grown (g := gb277) (o := .cells #[.string (⟨#[]⟩ : ByteArray), .int .i64 0, .int .i64 0, .int .i64 0, .int .i64 0] 35 (0, 0)) (by (with_reducible repeat (first | refine blk_drewN ?_ _ | refine blk_drew ?_ | refine blk_alloc ?_ _)); exact BK277.out) hg (Kd.R_ne HO_8.out BK277.out (by decide))); have n2_ := Aside0.mk (blk_grown (g := gb289) (o := .cells #[.bool t282, .bool true, .int .i64 t284, .int .i64 t285, .int .i64 t286, .string t287] 89 (0, 0)) (by (with_reducible repeat (first | refine blk_drewN ?_ _ | refine blk_drew ?_ | refine blk_alloc ?_ _)); exact BK289.out) hg (Kd.R_ne HO_8.out BK289.out (by decide))); have n3_ := Aside0.mk (blk_grown (g := gb291) (o := .cells #[.string (rdOf ByteArray.empty t278 0), .int .i64 0, .int .i64 0, .int .i64 0, .int .i64 0] 35 (0, 0)) (by (with_reducible repeat (first | refine blk_drewN ?_ _ | refine blk_drew ?_ | refine blk_alloc ?_ _)); exact BK291.out) hg (Kd.R_ne HO_8.out BK291.out (by decide))); have n4_ := Aside0.mk (hb); have n5_ := Aside0.mk (ho); clear HO_4; clear BK277; clear BK289; clear BK291; clear HB; clear HO_8; have HO_4 := n0_; have BK277 := n1_; have BK289 := n2_; have BK291 := n3_; have HB := n4_; have HO300 := n5_; clear n0_ n1_ n2_ n3_ n4_ n5_; clear ho hb hg hat))
                go_meet
                case rel => exact ⟨_, (y298), H', ⟨by have := HJ5.out; first | omega | exact Nat.le_refl _⟩, ⟨by (with_reducible repeat (first | apply Kd.R_alloc | apply Kd.R_drewN | apply Kd.R_drew)); exact HO_4.out⟩, ⟨by (with_reducible repeat (first | apply Kd.R_alloc | apply Kd.R_drewN | apply Kd.R_drew)); exact HO300.out⟩, ⟨by (with_reducible repeat (first | refine blk_drewN ?_ _ | refine blk_drew ?_ | refine blk_alloc ?_ _)); exact BK277.out⟩, ⟨by (with_reducible repeat (first | refine blk_drewN ?_ _ | refine blk_drew ?_ | refine blk_alloc ?_ _)); exact BK289.out⟩, ⟨by (with_reducible repeat (first | refine blk_drewN ?_ _ | refine blk_drew ?_ | refine blk_alloc ?_ _)); exact BK291.out⟩, ⟨by repeat (first | (with_reducible first | exact HB.out | apply below_alloc | apply pw_below_drewN | apply below_drew1 | refine below_set ?_ GE277.out | refine below_set ?_ GE289.out | refine below_set ?_ GE291.out) | exact HB.out)⟩⟩
              · rw [if_neg c29] at H
                exact absurd H (by simp)
            · replace c28 := Bool.eq_false_iff.mpr c28
              subst c28
              have H1 : (impl_ParseInstr.j1 kj5 a0 t278 x8_5 t282 false t284 t285 t286 t287 (rdOf ByteArray.empty t278 0) 0 0 0 0) = some (r1, r2, r3, r4, r5, r6) := by rw [if_neg (show ¬ (false = true) by decide)] at H; exact H
              clear H
              have H := H1
              clear H1
              have H' := Aside0.mk H
              clear H
              go_wp2
              go_meet
              case rel => exact ⟨_, (x8_5), H', ⟨by have := HJ5.out; first | omega | exact Nat.le_refl _⟩, ⟨by (with_reducible repeat (first | apply Kd.R_alloc | apply Kd.R_drewN | apply Kd.R_drew)); exact HO_4.out⟩, ⟨by (with_reducible repeat (first | apply Kd.R_alloc | apply Kd.R_drewN | apply Kd.R_drew)); exact HO_8.out⟩, ⟨by (with_reducible repeat (first | refine blk_drewN ?_ _ | refine blk_drew ?_ | refine blk_alloc ?_ _)); exact BK277.out⟩, ⟨by (with_reducible repeat (first | refine blk_drewN ?_ _ | refine blk_drew ?_ | refine blk_alloc ?_ _)); exact BK289.out⟩, ⟨by (with_reducible repeat (first | refine blk_drewN ?_ _ | refine blk_drew ?_ | refine blk_alloc ?_ _)); exact BK291.out⟩, ⟨by repeat (first | (with_reducible first | exact HB.out | apply below_alloc | apply pw_below_drewN | apply below_drew1 | refine below_set ?_ GE277.out | refine below_set ?_ GE289.out | refine below_set ?_ GE291.out) | exact HB.out)⟩⟩
          case rest =>
            clear HC24
            try clear c1
            try clear c2
            try clear p2
            try clear q2
            try clear hx2
            try clear qi2
            try clear c3
            try clear c3b0
            try clear c3b1
            try clear c5
            try clear c6
            try clear c12
            try clear c15
            try clear c16
            try clear c21
            try clear c22
            try clear c25
            try clear c26
            try clear c28
            try clear p28
            try clear q28
            try clear hx28
            try clear qi28
            try clear c29
            try clear p29
            try clear q29
            try clear hx29
            try clear qi29
            try clear hcz13_0
            try clear hcz13_1
            try clear hcz13_2
            try clear hcz13_3
            try clear hcz13_4
            try clear hcz13_5
            try clear hcz17_0
            try clear hcz17_1
            try clear hcz17_2
            try clear hcz17_3
            try clear hcz17_4
            try clear hcz20_0
            try clear hcz20_1
            try clear hcz20_2
            try clear hcz20_3
            try clear hcz20_4
            try clear hcz20_5
            try clear hcz27_0
            try clear hcz27_1
            try clear hcz27_2
            try clear hcz27_3
            try clear hcz27_4
            try clear hcz27_5
            try clear hfz13_0
            try clear hfz13_1
            try clear hfz13_2
            try clear hfz13_3
            try clear hfz13_4
            try clear hfz13_5
            try clear hfz17_0
            try clear hfz17_1
            try clear hfz17_2
            try clear hfz17_3
            try clear hfz17_4
            try clear hfz20_0
            try clear hfz20_1
            try clear hfz20_2
            try clear hfz20_3
            try clear hfz20_4
            try clear hfz20_5
            try clear hfz27_0
            try clear hfz27_1
            try clear hfz27_2
            try clear hfz27_3
            try clear hfz27_4
            try clear hfz27_5
            try clear hx281_0
            try clear hx290_0
            try clear p2
            try clear p281
            try clear p290
            try clear q2
            try clear q281
            try clear q290
            obtain ⟨kq, x8_23, HA, HJ23, HO_4, HO_8, BK277, BK289, BK291, HB⟩ := hcut
            cases kq with
            | zero => exact absurd HA.out (by simp [impl_ParseInstr.j1])
            | succ kj23 =>
              have H := HA.out
              clear HA
              simp only [impl_ParseInstr.j1] at H
              replace H := Option.bind_eq_some_iff.mp H
              obtain ⟨t301, A310, H⟩ := H
              replace H : (if t301 = true then (if x8_23.length < 17592186044416 then (impl_ParseInstr.j2 kj23 a0 t278 (x8_23 ++ [4]) (rdOf ByteArray.empty t278 0) 0 0 0 0) else (none)) else (impl_ParseInstr.j2 kj23 a0 t278 x8_23 (rdOf ByteArray.empty t278 0) 0 0 0 0)) = some (r1, r2, r3, r4, r5, r6) := H
              have A31 := Aside0.mk A310
              clear A310
              have HC32 := Aside0.mk H
              clear H
              have hnb33 := NB289_277.out
              have hnc33 := NB277_289.out
              have hnb34 := NB289_291.out
              have hnc34 := NB291_289.out
              have hcz35_0 : wc.cell? ⟨gb289, 0, none⟩ = some (.bool t282) := (blk_cell BK289.out 0).trans rfl
              have hcz35_1 : wc.cell? ⟨gb289, 1, none⟩ = some (.bool t283) := (blk_cell BK289.out 1).trans rfl
              have hcz35_2 : wc.cell? ⟨gb289, 2, none⟩ = some (.int .i64 t284) := (blk_cell BK289.out 2).trans rfl
              have hcz35_3 : wc.cell? ⟨gb289, 3, none⟩ = some (.int .i64 t285) := (blk_cell BK289.out 3).trans rfl
              have hcz35_4 : wc.cell? ⟨gb289, 4, none⟩ = some (.int .i64 t286) := (blk_cell BK289.out 4).trans rfl
              have hcz35_5 : wc.cell? ⟨gb289, 5, none⟩ = some (.string t287) := (blk_cell BK289.out 5).trans rfl
              have hfz35_0 := blk_frozen BK289.out 0
              have hfz35_1 := blk_frozen BK289.out 1
              have hfz35_2 := blk_frozen BK289.out 2
              have hfz35_3 := blk_frozen BK289.out 3
              have hfz35_4 := blk_frozen BK289.out 4
              have hfz35_5 := blk_frozen BK289.out 5
              go_upto_if 42 with (first | ((with_reducible refine gate_callee (f := 65) rfl ?_); refine goesL_ (some 42) rfl rfl Tryd.func65 (by kernel_rfl) rfl #[.agg #[.bool t282, .bool t283, .int .i64 t284, .int .i64 t285, .int .i64 t286, .string t287]] rfl (by (try simp only [List.map_toArray, List.map_cons, List.map_nil]); first | done | rfl | (simp only [List.length_drop, List.length_take]; rfl)) ?_; (with_reducible refine (impl_form_imm.calls t282 t283 t284 t285 t286 t287 t301 _ A31.out).mono ?_); rintro e w36 ⟨rfl, hb⟩; refine ⟨_, rfl, ?_⟩; have n0_ := Aside0.mk (Kd.R_below (by (with_reducible repeat (first | apply Kd.R_alloc | apply Kd.R_drewN | apply Kd.R_drew)); exact HO_4.out) hb); have n1_ := Aside0.mk (Kd.R_below (by (with_reducible repeat (first | apply Kd.R_alloc | apply Kd.R_drewN | apply Kd.R_drew)); exact HO_8.out) hb); have n2_ := Aside0.mk (blk_below (g := gb277) (o := .cells #[.string (⟨#[]⟩ : ByteArray), .int .i64 0, .int .i64 0, .int .i64 0, .int .i64 0] 35 (0, 0)) (by (with_reducible repeat (first | refine blk_drewN ?_ _ | refine blk_drew ?_ | refine blk_alloc ?_ _)); exact BK277.out) hb); have n3_ := Aside0.mk (blk_below (g := gb289) (o := .cells #[.bool t282, .bool t283, .int .i64 t284, .int .i64 t285, .int .i64 t286, .string t287] 89 (0, 0)) (by (with_reducible repeat (first | refine blk_drewN ?_ _ | refine blk_drew ?_ | refine blk_alloc ?_ _)); exact BK289.out) hb); have n4_ := Aside0.mk (blk_below (g := gb291) (o := .cells #[.string (rdOf ByteArray.empty t278 0), .int .i64 0, .int .i64 0, .int .i64 0, .int .i64 0] 35 (0, 0)) (by (with_reducible repeat (first | refine blk_drewN ?_ _ | refine blk_drew ?_ | refine blk_alloc ?_ _)); exact BK291.out) hb); have n5_ := Aside0.mk (below_step (by repeat (first | (with_reducible first | exact HB.out | apply below_alloc | apply pw_below_drewN | apply below_drew1 | refine below_set ?_ GE277.out | refine below_set ?_ GE289.out | refine below_set ?_ GE291.out) | exact HB.out)) hb); clear HO_4; clear HO_8; clear BK277; clear BK289; clear BK291; clear HB; have HO_4 := n0_; have HO_8 := n1_; have BK277 := n2_; have BK289 := n3_; have BK291 := n4_; have HB := n5_; clear n0_ n1_ n2_ n3_ n4_ n5_; (try clear hb); (try clear hb2); (try clear hk); (try clear hi)))
              (try simp only [Act.put, List.setIfInBounds_toArray, List.set_cons_zero, List.set_cons_succ])
              go_cut [8] (fun v8 wc => ∃ (kq : Nat) (x8_31 : List Int), Aside0 (impl_ParseInstr.j2 kq a0 t278 x8_31 (rdOf ByteArray.empty t278 0) 0 0 0 0 = some (r1, r2, r3, r4, r5, r6)) ∧ Aside0 (kq ≤ kj23) ∧ Aside0 (Kd.R Kd.string 9 wc w.heap.size (fun _ => True) (.slice (some ad281) t278.length co9) t278) ∧ Aside0 (Kd.R (kp gb291) 92 wc w.heap.size (fun _ => True) v8 x8_31) ∧ Aside0 (wc.heap[gb277]? = some (.cells #[.string (⟨#[]⟩ : ByteArray), .int .i64 0, .int .i64 0, .int .i64 0, .int .i64 0] 35 (0, 0))) ∧ Aside0 (wc.heap[gb289]? = some (.cells #[.bool t282, .bool t283, .int .i64 t284, .int .i64 t285, .int .i64 t286, .string t287] 89 (0, 0))) ∧ Aside0 (wc.heap[gb291]? = some (.cells #[.string (rdOf ByteArray.empty t278 0), .int .i64 0, .int .i64 0, .int .i64 0, .int .i64 0] 35 (0, 0))) ∧ Aside0 (Below w.heap.size w wc))
              case first =>
                have H := HC32.out
                clear HC32
                by_cases c37 : t301 = true
                · subst c37
                  have H1 : (if x8_23.length < 17592186044416 then (impl_ParseInstr.j2 kj23 a0 t278 (x8_23 ++ [4]) (rdOf ByteArray.empty t278 0) 0 0 0 0) else (none)) = some (r1, r2, r3, r4, r5, r6) := by rw [if_pos rfl] at H; exact H
                  clear H
                  have H := H1
                  clear H1
                  by_cases c38 : x8_23.length < 17592186044416
                  · rw [if_pos c38] at H
                    have LMc38 := Aside0.mk c38
                    clear c38
                    obtain ⟨y302, hy302⟩ : ∃ y_ : List Int, y_ = (x8_23 ++ [4]) := ⟨_, rfl⟩
                    replace H : (impl_ParseInstr.j2 kj23 a0 t278 y302 (rdOf ByteArray.empty t278 0) 0 0 0 0) = some (r1, r2, r3, r4, r5, r6) := by first | (rw [hy302]; with_reducible exact H) | (have H2_ := (Option.bind_some _ _).symm.trans H; rw [hy302]; with_reducible exact H2_) | (have H2_ := (Option.bind_some _ _).symm.trans H; with_reducible exact H2_) | with_reducible exact H | (rw [hy302]; exact H) | exact H
                    have Ny302 := Aside0.mk hy302
                    clear hy302
                    have H' := Aside0.mk H
                    clear H
                    go_wp2_with (first | ((with_reducible refine gate_builtin (b := .append) (xs := #[.tmp 43, .tmp 45]) rfl ?_); at_builtin; refine Kd.R_append (kp gb291) (w0 := w) w.heap.size ?qa (.tmp 43) (.tmp 45) 93 92 (.pointer none) 8 ?qb ?qc ?qd ?qe ?qf ?qg u8 x8_23 4 [.pointer (some ⟨gb291, 4, none⟩)] (fun _ => True) (fun _ => False) ?qh ?qx ?aP (fun _ hk => hk.elim) ?aF ?aO ?aB ?aS ?aL ?_; (case qa => rfl); (case qb => rfl); (case qc => exact Tryd.underlying93); (case qd => exact info92); (case qe => rfl); (case qf => exact Nat.zero_lt_one); (case qg => omega); (case qh => rfl); (case qx => rfl); (case aP => exact rfl); (case aB => exact (by repeat (first | (with_reducible first | exact HB.out | apply below_alloc | apply pw_below_drewN | apply below_drew1 | refine below_set ?_ GE277.out | refine below_set ?_ GE289.out | refine below_set ?_ GE291.out) | exact HB.out))); (case aF => exact (fun _ _ => trivial)); (case aO => exact (by (with_reducible repeat (first | apply Kd.R_alloc | apply Kd.R_drewN | apply Kd.R_drew)); exact HO_8.out)); (case aS => exact (below_size (by repeat (first | (with_reducible first | exact HB.out | apply below_alloc | apply pw_below_drewN | apply below_drew1 | refine below_set ?_ GE277.out | refine below_set ?_ GE289.out | refine below_set ?_ GE291.out) | exact HB.out)))); (case aL => have := LMc38.out; omega); intro v303 w39 ho hb hg hat; rw [← Ny302.out] at ho; have n0_ := Aside0.mk (Kd.R_over' (by (with_reducible repeat (first | apply Kd.R_alloc | apply Kd.R_drewN | apply Kd.R_drew)); exact HO_4.out) (Kd.R_typed (by (with_reducible repeat (first | apply Kd.R_alloc | apply Kd.R_drewN | apply Kd.R_drew)); exact HO_8.out)) (by decide) hg); have n1_ := Aside0.mk (blk_grown (g := gb277) (o := .cells #[.string (⟨#[]⟩ : ByteArray), .int .i64 0, .int .i64 0, .int .i64 0, .int .i64 0] 35 (0, 0)) (by (with_reducible repeat (first | refine blk_drewN ?_ _ | refine blk_drew ?_ | refine blk_alloc ?_ _)); exact BK277.out) hg (Kd.R_ne HO_8.out BK277.out (by decide))); have n2_ := Aside0.mk (blk_grown (g := gb289) (o := .cells #[.bool t282, .bool t283, .int .i64 t284, .int .i64 t285, .int .i64 t286, .string t287] 89 (0, 0)) (by (with_reducible repeat (first | refine blk_drewN ?_ _ | refine blk_drew ?_ | refine blk_alloc ?_ _)); exact BK289.out) hg (Kd.R_ne HO_8.out BK289.out (by decide))); have n3_ := Aside0.mk (blk_grown (g := gb291) (o := .cells #[.string (rdOf ByteArray.empty t278 0), .int .i64 0, .int .i64 0, .int .i64 0, .int .i64 0] 35 (0, 0)) (by (with_reducible repeat (first | refine blk_drewN ?_ _ | refine blk_drew ?_ | refine blk_alloc ?_ _)); exact BK291.out) hg (Kd.R_ne HO_8.out BK291.out (by decide))); have n4_ := Aside0.mk (hb); have n5_ := Aside0.mk (ho); clear HO_4; clear BK277; clear BK289; clear BK291; clear HB; clear HO_8; have HO_4 := n0_; have BK277 := n1_; have BK289 := n2_; have BK291 := n3_; have HB := n4_; have HO304 := n5_; clear n0_ n1_ n2_ n3_ n4_ n5_; clear ho hb hg hat))
                    go_meet
                    case rel => exact ⟨_, (y302), H', ⟨by have := HJ5.out; have := HJ23.out; first | omega | exact Nat.le_refl _⟩, ⟨by (with_reducible repeat (first | apply Kd.R_alloc | apply Kd.R_drewN | apply Kd.R_drew)); exact HO_4.out⟩, ⟨by (with_reducible repeat (first | apply Kd.R_alloc | apply Kd.R_drewN | apply Kd.R_drew)); exact HO304.out⟩, ⟨by (with_reducible repeat (first | refine blk_drewN ?_ _ | refine blk_drew ?_ | refine blk_alloc ?_ _)); exact BK277.out⟩, ⟨by (with_reducible repeat (first | refine blk_drewN ?_ _ | refine blk_drew ?_ | refine blk_alloc ?_ _)); exact BK289.out⟩, ⟨by (with_reducible repeat (first | refine blk_drewN ?_ _ | refine blk_drew ?_ | refine blk_alloc ?_ _)); exact BK291.out⟩, ⟨by repeat (first | (with_reducible first | exact HB.out | apply below_alloc | apply pw_below_drewN | apply below_drew1 | refine below_set ?_ GE277.out | refine below_set ?_ GE289.out | refine below_set ?_ GE291.out) | exact HB.out)⟩⟩
                  · rw [if_neg c38] at H
                    exact absurd H (by simp)
                · replace c37 := Bool.eq_false_iff.mpr c37
                  subst c37
                  have H1 : (impl_ParseInstr.j2 kj23 a0 t278 x8_23 (rdOf ByteArray.empty t278 0) 0 0 0 0) = some (r1, r2, r3, r4, r5, r6) := by rw [if_neg (show ¬ (false = true) by decide)] at H; exact H
                  clear H
                  have H := H1
                  clear H1
                  have H' := Aside0.mk H
                  clear H
                  go_wp2
                  go_meet
                  case rel => exact ⟨_, (x8_23), H', ⟨by have := HJ5.out; have := HJ23.out; first | omega | exact Nat.le_refl _⟩, ⟨by (with_reducible repeat (first | apply Kd.R_alloc | apply Kd.R_drewN | apply Kd.R_drew)); exact HO_4.out⟩, ⟨by (with_reducible repeat (first | apply Kd.R_alloc | apply Kd.R_drewN | apply Kd.R_drew)); exact HO_8.out⟩, ⟨by (with_reducible repeat (first | refine blk_drewN ?_ _ | refine blk_drew ?_ | refine blk_alloc ?_ _)); exact BK277.out⟩, ⟨by (with_reducible repeat (first | refine blk_drewN ?_ _ | refine blk_drew ?_ | refine blk_alloc ?_ _)); exact BK289.out⟩, ⟨by (with_reducible repeat (first | refine blk_drewN ?_ _ | refine blk_drew ?_ | refine blk_alloc ?_ _)); exact BK291.out⟩, ⟨by repeat (first | (with_reducible first | exact HB.out | apply below_alloc | apply pw_below_drewN | apply below_drew1 | refine below_set ?_ GE277.out | refine below_set ?_ GE289.out | refine below_set ?_ GE291.out) | exact HB.out)⟩⟩
              case rest =>
                clear HC32
                try clear c1
                try clear c2
                try clear p2
                try clear q2
                try clear hx2
                try clear qi2
                try clear c3
                try clear c3b0
                try clear c3b1
                try clear c5
                try clear c6
                try clear c12
                try clear c15
                try clear c16
                try clear c21
                try clear c22
                try clear c25
                try clear c26
                try clear c28
                try clear p28
                try clear q28
                try clear hx28
                try clear qi28
                try clear c29
                try clear p29
                try clear q29
                try clear hx29
                try clear qi29
                try clear c33
                try clear c34
                try clear c37
                try clear c38
                try clear hcz13_0
                try clear hcz13_1
                try clear hcz13_2
                try clear hcz13_3
                try clear hcz13_4
                try clear hcz13_5
                try clear hcz17_0
                try clear hcz17_1
                try clear hcz17_2
                try clear hcz17_3
                try clear hcz17_4
                try clear hcz20_0
                try clear hcz20_1
                try clear hcz20_2
                try clear hcz20_3
                try clear hcz20_4
                try clear hcz20_5
                try clear hcz27_0
                try clear hcz27_1
                try clear hcz27_2
                try clear hcz27_3
                try clear hcz27_4
                try clear hcz27_5
                try clear hcz35_0
                try clear hcz35_1
                try clear hcz35_2
                try clear hcz35_3
                try clear hcz35_4
                try clear hcz35_5
                try clear hfz13_0
                try clear hfz13_1
                try clear hfz13_2
                try clear hfz13_3
                try clear hfz13_4
                try clear hfz13_5
                try clear hfz17_0
                try clear hfz17_1
                try clear hfz17_2
                try clear hfz17_3
                try clear hfz17_4
                try clear hfz20_0
                try clear hfz20_1
                try clear hfz20_2
                try clear hfz20_3
                try clear hfz20_4
                try clear hfz20_5
                try clear hfz27_0
                try clear hfz27_1
                try clear hfz27_2
                try clear hfz27_3
                try clear hfz27_4
                try clear hfz27_5
                try clear hfz35_0
                try clear hfz35_1
                try clear hfz35_2
                try clear hfz35_3
                try clear hfz35_4
                try clear hfz35_5
                try clear hx281_0
                try clear hx290_0
                try clear p2
                try clear p28
                try clear p281
                try clear p29
                try clear p290
                try clear q2
                try clear q28
                try clear q281
                try clear q29
                try clear q290
                obtain ⟨kq, x8_31, HA, HJ31, HO_4, HO_8, BK277, BK289, BK291, HB⟩ := hcut
                cases kq with
                | zero => exact absurd HA.out (by simp [impl_ParseInstr.j2])
                | succ kj31 =>
                  have H := HA.out
                  clear HA
                  simp only [impl_ParseInstr.j2] at H
                  by_cases c40 : (t278.length : Int) = (wrap64 ((x8_31.length : Int) + 1))
                  · rw [if_pos c40] at H
                    have c40b0 : ((t278.length : Int) == (wrap64 ((x8_31.length : Int) + 1))) = true := beq_iff_eq.mpr c40
                    have c40b1 : ((t278.length : Int) != (wrap64 ((x8_31.length : Int) + 1))) = false := bne_eq_false_iff_eq.mpr c40
                    clear c40
                    have H' := Aside0.mk H
                    clear H
                    obtain ⟨Ao41, co41, eo41⟩ := Kd.R_slice HO_8.out
                    subst eo41
                    go_wp2
                    go_loopg [56] kj31 (fun kq v56 w' => ∃ (x56_4 : Int) (x292001_4 : Int) (x292002_4 : Int) (x292003_4 : Int) (x292004_4 : Int), v56 = .int .i64 x56_4 ∧ Aside0 (impl_ParseInstr.l0 kq a0 t278 x8_31 (x8_31.length : Int) x56_4 (rdOf ByteArray.empty t278 0) x292001_4 x292002_4 x292003_4 x292004_4 = some (r1, r2, r3, r4, r5, r6)) ∧ Aside0 (kq ≤ kj31) ∧ Aside0 (Kd.R Kd.string 9 w' w.heap.size (fun _ => True) (.slice (some ad281) t278.length co9) t278) ∧ Aside0 (Kd.R (kp gb291) 92 w' w.heap.size (fun _ => True) (.slice Ao41 x8_31.length co41) x8_31) ∧ Aside0 (w'.heap[gb277]? = some (.cells #[.string (⟨#[]⟩ : ByteArray), .int .i64 0, .int .i64 0, .int .i64 0, .int .i64 0] 35 (0, 0))) ∧ Aside0 (w'.heap[gb289]? = some (.cells #[.bool t282, .bool t283, .int .i64 t284, .int .i64 t285, .int .i64 t286, .string t287] 89 (0, 0))) ∧ Aside0 (w'.heap[gb291]? = some (.cells #[.string (rdOf ByteArray.empty t278 0), .int .i64 x292001_4, .int .i64 x292002_4, .int .i64 x292003_4, .int .i64 x292004_4] 35 (0, 0))) ∧ Aside0 (Below w.heap.size w w'))
                    case atStart => exact ⟨(0), (0), (0), (0), (0), (by first | rfl | (simp; done) | (simp [*]; done)), H', ⟨Nat.le_refl _⟩, ⟨by (with_reducible repeat (first | apply Kd.R_alloc | apply Kd.R_drewN | apply Kd.R_drew)); exact HO_4.out⟩, ⟨by (with_reducible repeat (first | apply Kd.R_alloc | apply Kd.R_drewN | apply Kd.R_drew)); exact HO_8.out⟩, ⟨by (with_reducible repeat (first | refine blk_drewN ?_ _ | refine blk_drew ?_ | refine blk_alloc ?_ _)); exact BK277.out⟩, ⟨by (with_reducible repeat (first | refine blk_drewN ?_ _ | refine blk_drew ?_ | refine blk_alloc ?_ _)); exact BK289.out⟩, ⟨by (with_reducible repeat (first | refine blk_drewN ?_ _ | refine blk_drew ?_ | refine blk_alloc ?_ _)); exact BK291.out⟩, ⟨by repeat (first | (with_reducible first | exact HB.out | apply below_alloc | apply pw_below_drewN | apply below_drew1 | refine below_set ?_ GE277.out | refine below_set ?_ GE289.out | refine below_set ?_ GE291.out) | exact HB.out)⟩⟩
                    case round =>
                      clear H'
                      try clear c1
                      try clear c2
                      try clear p2
                      try clear q2
                      try clear hx2
                      try clear qi2
                      try clear c3
                      try clear c3b0
                      try clear c3b1
                      try clear c4
                      try clear c5
                      try clear c6
                      try clear p6
                      try clear c12
                      try clear c15
                      try clear c16
                      try clear c21
                      try clear c22
                      try clear c25
                      try clear c26
                      try clear c28
                      try clear p28
                      try clear q28
                      try clear hx28
                      try clear qi28
                      try clear c29
                      try clear p29
                      try clear q29
                      try clear hx29
                      try clear qi29
                      try clear c33
                      try clear c34
                      try clear c37
                      try clear c38
                      try clear c40
                      try clear c40b0
                      try clear c40b1
                      try clear hcz13_0
                      try clear hcz13_1
                      try clear hcz13_2
                      try clear hcz13_3
                      try clear hcz13_4
                      try clear hcz13_5
                      try clear hcz17_0
                      try clear hcz17_1
                      try clear hcz17_2
                      try clear hcz17_3
                      try clear hcz17_4
                      try clear hcz20_0
                      try clear hcz20_1
                      try clear hcz20_2
                      try clear hcz20_3
                      try clear hcz20_4
                      try clear hcz20_5
                      try clear hcz27_0
                      try clear hcz27_1
                      try clear hcz27_2
                      try clear hcz27_3
                      try clear hcz27_4
                      try clear hcz27_5
                      try clear hcz35_0
                      try clear hcz35_1
                      try clear hcz35_2
                      try clear hcz35_3
                      try clear hcz35_4
                      try clear hcz35_5
                      try clear hfz13_0
                      try clear hfz13_1
                      try clear hfz13_2
                      try clear hfz13_3
                      try clear hfz13_4
                      try clear hfz13_5
                      try clear hfz17_0
                      try clear hfz17_1
                      try clear hfz17_2
                      try clear hfz17_3
                      try clear hfz17_4
                      try clear hfz20_0
                      try clear hfz20_1
                      try clear hfz20_2
                      try clear hfz20_3
                      try clear hfz20_4
                      try clear hfz20_5
                      try clear hfz27_0
                      try clear hfz27_1
                      try clear hfz27_2
                      try clear hfz27_3
                      try clear hfz27_4
                      try clear hfz27_5
                      try clear hfz35_0
                      try clear hfz35_1
                      try clear hfz35_2
                      try clear hfz35_3
                      try clear hfz35_4
                      try clear hfz35_5
                      try clear hx281_0
                      try clear hx290_0
                      try clear p2
                      try clear p28
                      try clear p281
                      try clear p29
                      try clear p290
                      try clear q2
                      try clear q28
                      try clear q281
                      try clear q29
                      try clear q290
                      obtain ⟨x56_4, x292001_4, x292002_4, x292003_4, x292004_4, rfl, HA, HK4, HO_4, HO_54, BK277, BK289, BK291, HB⟩ := hrel
                      cases gk with
                      | zero => exact absurd HA.out (by simp [impl_ParseInstr.l0])
                      | succ k4 =>
                        have H := HA.out
                        clear HA
                        simp only [impl_ParseInstr.l0] at H
                        by_cases c42 : x56_4 < (x8_31.length : Int)
                        · rw [if_pos c42] at H
                          have c42b0 : decide (x56_4 < (x8_31.length : Int)) = true := decide_eq_true c42
                          clear c42
                          by_cases c43 : 0 ≤ x56_4
                          · rw [if_pos c43] at H
                            have c43b0 : decide (0 ≤ x56_4) = true := decide_eq_true c43
                            clear c43
                            by_cases c44 : x56_4 < (x8_31.length : Int)
                            · rw [if_pos c44] at H
                              have c44b0 : decide (x56_4 < (x8_31.length : Int)) = true := decide_eq_true c44
                              clear c44
                              obtain ⟨ji45, hji45⟩ : ∃ j_ : Int, (wrap64 (x56_4 + 1)) = j_ := ⟨_, rfl⟩
                              replace H : (if 0 ≤ (ji45) then (if (ji45) < (t278.length : Int) then ((strings_TrimPrefix.f (rdOf ByteArray.empty t278 (ji45)) (⟨#[114]⟩ : ByteArray)).bind fun t307 => ((impl_number.f t307 63).bind fun bt308 => (if (rd x8_31 x56_4) = 1 then (impl_ParseInstr.l0 k4 a0 t278 x8_31 (x8_31.length : Int) ji45 (rdOf ByteArray.empty t278 0) bt308.1 x292002_4 x292003_4 x292004_4) else (if (rd x8_31 x56_4) = 2 then (impl_ParseInstr.l0 k4 a0 t278 x8_31 (x8_31.length : Int) ji45 (rdOf ByteArray.empty t278 0) x292001_4 bt308.1 x292003_4 x292004_4) else (if (rd x8_31 x56_4) = 3 then (impl_ParseInstr.l0 k4 a0 t278 x8_31 (x8_31.length : Int) ji45 (rdOf ByteArray.empty t278 0) x292001_4 x292002_4 bt308.1 x292004_4) else (if (rd x8_31 x56_4) = 4 then (impl_ParseInstr.l0 k4 a0 t278 x8_31 (x8_31.length : Int) ji45 (rdOf ByteArray.empty t278 0) x292001_4 x292002_4 x292003_4 bt308.1) else (none))))))) else (none)) else (none)) = some (r1, r2, r3, r4, r5, r6) := by first | (rw [hji45] at H; exact H) | (simp only [hji45] at H ⊢; exact H)
                              have hji45w : (IntKind.i64.wrap (x56_4 + 1)) = ji45 := (i64_w _).trans hji45
                              by_cases c46 : 0 ≤ (ji45)
                              · rw [if_pos c46] at H
                                have c46b0 : decide (0 ≤ (ji45)) = true := decide_eq_true c46
                                clear c46
                                by_cases c47 : (ji45) < (t278.length : Int)
                                · rw [if_pos c47] at H
                                  have c47b0 : decide ((ji45) < (t278.length : Int)) = true := decide_eq_true c47
                                  clear c47
                                  replace H := Option.bind_eq_some_iff.mp H
                                  obtain ⟨t307, A480, H⟩ := H
                                  replace H : ((impl_number.f t307 63).bind fun bt308 => (if (rd x8_31 x56_4) = 1 then (impl_ParseInstr.l0 k4 a0 t278 x8_31 (x8_31.length : Int) ji45 (rdOf ByteArray.empty t278 0) bt308.1 x292002_4 x292003_4 x292004_4) else (if (rd x8_31 x56_4) = 2 then (impl_ParseInstr.l0 k4 a0 t278 x8_31 (x8_31.length : Int) ji45 (rdOf ByteArray.empty t278 0) x292001_4 bt308.1 x292003_4 x292004_4) else (if (rd x8_31 x56_4) = 3 then (impl_ParseInstr.l0 k4 a0 t278 x8_31 (x8_31.length : Int) ji45 (rdOf ByteArray.empty t278 0) x292001_4 x292002_4 bt308.1 x292004_4) else (if (rd x8_31 x56_4) = 4 then (impl_ParseInstr.l0 k4 a0 t278 x8_31 (x8_31.length : Int) ji45 (rdOf ByteArray.empty t278 0) x292001_4 x292002_4 x292003_4 bt308.1) else (none)))))) = some (r1, r2, r3, r4, r5, r6) := H
                                  have A48 := Aside0.mk A480
                                  clear A480
                                  replace H := Option.bind_eq_some_iff.mp H
                                  obtain ⟨⟨t308, t309⟩, A490, H⟩ := H
                                  replace H : (if (rd x8_31 x56_4) = 1 then (impl_ParseInstr.l0 k4 a0 t278 x8_31 (x8_31.length : Int) ji45 (rdOf ByteArray.empty t278 0) t308 x292002_4 x292003_4 x292004_4) else (if (rd x8_31 x56_4) = 2 then (impl_ParseInstr.l0 k4 a0 t278 x8_31 (x8_31.length : Int) ji45 (rdOf ByteArray.empty t278 0) x292001_4 t308 x292003_4 x292004_4) else (if (rd x8_31 x56_4) = 3 then (impl_ParseInstr.l0 k4 a0 t278 x8_31 (x8_31.length : Int) ji45 (rdOf ByteArray.empty t278 0) x292001_4 x292002_4 t308 x292004_4) else (if (rd x8_31 x56_4) = 4 then (impl_ParseInstr.l0 k4 a0 t278 x8_31 (x8_31.length : Int) ji45 (rdOf ByteArray.empty t278 0) x292001_4 x292002_4 x292003_4 t308) else (none))))) = some (r1, r2, r3, r4, r5, r6) := H
                                  have A49 := Aside0.mk A490
                                  clear A490
                                  by_cases c50 : (rd x8_31 x56_4) = 1
                                  · rw [if_pos c50] at H
                                    have c50b0 : ((rd x8_31 x56_4) == 1) = true := beq_iff_eq.mpr c50
                                    have c50b1 : ((rd x8_31 x56_4) != 1) = false := bne_eq_false_iff_eq.mpr c50
                                    clear c50
                                    have H' := Aside0.mk H
                                    clear H
                                    have p305 : 0 ≤ (x56_4 : Int) := of_decide_eq_true (by first | (with_reducible assumption) | assumption)
                                    have q305 : x56_4 < (x8_31.length : Int) := of_decide_eq_true (by first | (with_reducible assumption) | assumption)
                                    obtain ⟨ad305, e305, hx305_0⟩ := at_kp (Kd.R_reads' HO_54.out).2.2 x56_4 p305 q305
                                    rw [show rd x8_31 x56_4 = 1 from beq_iff_eq.mp c50b0] at hx305_0
                                    replace hx305_0 := hx305_0.trans (show _ = some (Value.pointer (some ⟨gb291, 1, none⟩)) from rfl)
                                    cases e305
                                    replace p305 := eq_true p305
                                    replace q305 := eq_true q305
                                    have p306 : 0 ≤ ((ji45) : Int) := of_decide_eq_true (by first | (with_reducible assumption) | assumption)
                                    have q306 : (ji45) < (t278.length : Int) := of_decide_eq_true (by first | (with_reducible assumption) | assumption)
                                    obtain ⟨ad306, e306, hx306_0⟩ := Kd.at_string (Kd.R_reads' HO_4.out).2.2 (ji45) p306 q306
                                    obtain rfl : ad281 = ad306 := (by injection e306)
                                    replace p306 := eq_true p306
                                    replace q306 := eq_true q306
                                    go_wp2_with (first | ((with_reducible refine gate_callee (f := 67) rfl ?_); refine goesL_ (some 68) rfl rfl Tryd.func67 (by kernel_rfl) rfl #[.string (rdOf ByteArray.empty t278 (ji45)), .string (⟨#[114]⟩ : ByteArray)] rfl (by (try simp only [List.map_toArray, List.map_cons, List.map_nil]); first | done | (simp only [hji45]; rfl) | rfl | (simp only [List.length_drop, List.length_take]; rfl)) ?_; (with_reducible refine (strings_TrimPrefix.calls (rdOf ByteArray.empty t278 (ji45)) (⟨#[114]⟩ : ByteArray) t307 _ A48.out).mono ?_); rintro e w' ⟨rfl, ⟨nd, rfl⟩⟩; refine ⟨_, rfl, ?_⟩; (try (rw [drewN_self wr]; generalize hq_ : World.drewN wr _ = wr; have n0_ : Aside0 (Kd.R Kd.string 9 wr w.heap.size (fun _ => True) (.slice (some ad281) t278.length co9) t278) := ⟨by rw [← hq_]; exact (by (with_reducible repeat (first | apply Kd.R_alloc | apply Kd.R_drewN | apply Kd.R_drew)); exact HO_4.out)⟩; have n1_ : Aside0 (Kd.R (kp gb291) 92 wr w.heap.size (fun _ => True) (.slice (some ad305) x8_31.length co41) x8_31) := ⟨by rw [← hq_]; exact (by (with_reducible repeat (first | apply Kd.R_alloc | apply Kd.R_drewN | apply Kd.R_drew)); exact HO_54.out)⟩; have n2_ : Aside0 (wr.heap[gb277]? = some (.cells #[.string (⟨#[]⟩ : ByteArray), .int .i64 0, .int .i64 0, .int .i64 0, .int .i64 0] 35 (0, 0))) := ⟨by rw [← hq_]; exact (by (with_reducible repeat (first | refine blk_drewN ?_ _ | refine blk_drew ?_ | refine blk_alloc ?_ _)); exact BK277.out)⟩; have n3_ : Aside0 (wr.heap[gb289]? = some (.cells #[.bool t282, .bool t283, .int .i64 t284, .int .i64 t285, .int .i64 t286, .string t287] 89 (0, 0))) := ⟨by rw [← hq_]; exact (by (with_reducible repeat (first | refine blk_drewN ?_ _ | refine blk_drew ?_ | refine blk_alloc ?_ _)); exact BK289.out)⟩; have n4_ : Aside0 (wr.heap[gb291]? = some (.cells #[.string (rdOf ByteArray.empty t278 0), .int .i64 x292001_4, .int .i64 x292002_4, .int .i64 x292003_4, .int .i64 x292004_4] 35 (0, 0))) := ⟨by rw [← hq_]; exact (by (with_reducible repeat (first | refine blk_drewN ?_ _ | refine blk_drew ?_ | refine blk_alloc ?_ _)); exact BK291.out)⟩; have n5_ : Aside0 (Below w.heap.size w wr) := ⟨by rw [← hq_]; exact (by repeat (first | (with_reducible first | exact HB.out | apply below_alloc | apply pw_below_drewN | apply below_drew1 | refine below_set ?_ GE277.out | refine below_set ?_ GE289.out | refine below_set ?_ GE291.out) | exact HB.out))⟩; clear HO_4 HO_54 BK277 BK289 BK291 HB hq_; have HO_4 := n0_; have HO_54 := n1_; have BK277 := n2_; have BK289 := n3_; have BK291 := n4_; have HB := n5_; clear n0_ n1_ n2_ n3_ n4_ n5_))) | ((with_reducible refine gate_callee (f := 66) rfl ?_); refine goesL_ (some 69) rfl rfl Tryd.func66 (by kernel_rfl) rfl #[.string t307, .int .i64 63] rfl (by (try simp only [List.map_toArray, List.map_cons, List.map_nil]); first | done | rfl | (simp only [List.length_drop, List.length_take]; rfl)) ?_; (with_reducible refine (impl_number.calls t307 63 t308 t309 _ A49.out (hT.below (by repeat (first | (with_reducible first | exact HB.out | apply below_alloc | apply pw_below_drewN | apply below_drew1 | refine below_set ?_ GE277.out | refine below_set ?_ GE289.out | refine below_set ?_ GE291.out) | exact HB.out)))).mono ?_); rintro e wq ⟨rfl, hb⟩; refine ⟨_, rfl, ?_⟩; have n0_ := Aside0.mk (Kd.R_below (by (with_reducible repeat (first | apply Kd.R_alloc | apply Kd.R_drewN | apply Kd.R_drew)); exact HO_4.out) hb); have n1_ := Aside0.mk (Kd.R_below (by (with_reducible repeat (first | apply Kd.R_alloc | apply Kd.R_drewN | apply Kd.R_drew)); exact HO_54.out) hb); have n2_ := Aside0.mk (blk_below (g := gb277) (o := .cells #[.string (⟨#[]⟩ : ByteArray), .int .i64 0, .int .i64 0, .int .i64 0, .int .i64 0] 35 (0, 0)) (by (with_reducible repeat (first | refine blk_drewN ?_ _ | refine blk_drew ?_ | refine blk_alloc ?_ _)); exact BK277.out) hb); have n3_ := Aside0.mk (blk_below (g := gb289) (o := .cells #[.bool t282, .bool t283, .int .i64 t284, .int .i64 t285, .int .i64 t286, .string t287] 89 (0, 0)) (by (with_reducible repeat (first | refine blk_drewN ?_ _ | refine blk_drew ?_ | refine blk_alloc ?_ _)); exact BK289.out) hb); have n4_ := Aside0.mk (blk_below (g := gb291) (o := .cells #[.string (rdOf ByteArray.empty t278 0), .int .i64 x292001_4, .int .i64 x292002_4, .int .i64 x292003_4, .int .i64 x292004_4] 35 (0, 0)) (by (with_reducible repeat (first | refine blk_drewN ?_ _ | refine blk_drew ?_ | refine blk_alloc ?_ _)); exact BK291.out) hb); have n5_ := Aside0.mk (below_step (by repeat (first | (with_reducible first | exact HB.out | apply below_alloc | apply pw_below_drewN | apply below_drew1 | refine below_set ?_ GE277.out | refine below_set ?_ GE289.out | refine below_set ?_ GE291.out) | exact HB.out)) hb); clear HO_4; clear HO_54; clear BK277; clear BK289; clear BK291; clear HB; have HO_4 := n0_; have HO_54 := n1_; have BK277 := n2_; have BK289 := n3_; have BK291 := n4_; have HB := n5_; clear n0_ n1_ n2_ n3_ n4_ n5_; (try clear hb); (try clear hb2); (try clear hk); (try clear hi); have hnb51 := NB291_277.out; have hnc51 := NB277_291.out; have hnb52 := NB291_289.out; have hnc52 := NB289_291.out; have hcz53_0 : wq.cell? ⟨gb291, 0, none⟩ = some (.string (rdOf ByteArray.empty t278 0)) := (blk_cell BK291.out 0).trans rfl; have hcz53_1 : wq.cell? ⟨gb291, 1, none⟩ = some (.int .i64 x292001_4) := (blk_cell BK291.out 1).trans rfl; have hcz53_2 : wq.cell? ⟨gb291, 2, none⟩ = some (.int .i64 x292002_4) := (blk_cell BK291.out 2).trans rfl; have hcz53_3 : wq.cell? ⟨gb291, 3, none⟩ = some (.int .i64 x292003_4) := (blk_cell BK291.out 3).trans rfl; have hcz53_4 : wq.cell? ⟨gb291, 4, none⟩ = some (.int .i64 x292004_4) := (blk_cell BK291.out 4).trans rfl; have hfz53_0 := blk_frozen BK291.out 0; have hfz53_1 := blk_frozen BK291.out 1; have hfz53_2 := blk_frozen BK291.out 2; have hfz53_3 := blk_frozen BK291.out 3; have hfz53_4 := blk_frozen BK291.out 4))
                                    go_roundg k4
                                    case measure => have := HJ5.out; have := HJ23.out; have := HJ31.out; have := HK4.out; omega
                                    case rel => exact ⟨(ji45), (t308), (x292002_4), (x292003_4), (x292004_4), (by first | rfl | (simp; done) | (simp only [← hji45] <;> (first | rfl | simp)) | (simp [*]; done)), H', ⟨by have := HJ5.out; have := HJ23.out; have := HJ31.out; have := HK4.out; omega⟩, ⟨by (with_reducible repeat (first | apply Kd.R_alloc | apply Kd.R_drewN | apply Kd.R_drew)); exact Kd.R_mono (Kd.R_far (p := ⟨gb291, 1, none⟩) (Kd.R_types HO_4.out BK291.out (by decide)) (fun _ hk => hk.2) (.int .i64 t308)) (fun _ hk => trivial)⟩, ⟨by (with_reducible repeat (first | apply Kd.R_alloc | apply Kd.R_drewN | apply Kd.R_drew)); exact Kd.R_mono (Kd.R_far (p := ⟨gb291, 1, none⟩) (Kd.R_types HO_54.out BK291.out (kp_ne (by decide))) (fun _ hk => hk.2) (.int .i64 t308)) (fun _ hk => trivial)⟩, ⟨by (with_reducible repeat (first | refine blk_drewN ?_ _ | refine blk_drew ?_ | refine blk_alloc ?_ _)); refine blk_far ?_ NB277_291.out _; (with_reducible repeat (first | refine blk_drewN ?_ _ | refine blk_drew ?_ | refine blk_alloc ?_ _)); exact BK277.out⟩, ⟨by (with_reducible repeat (first | refine blk_drewN ?_ _ | refine blk_drew ?_ | refine blk_alloc ?_ _)); refine blk_far ?_ NB289_291.out _; (with_reducible repeat (first | refine blk_drewN ?_ _ | refine blk_drew ?_ | refine blk_alloc ?_ _)); exact BK289.out⟩, ⟨by (with_reducible repeat (first | refine blk_drewN ?_ _ | refine blk_drew ?_ | refine blk_alloc ?_ _)); refine blk_put (cs := #[.string (rdOf ByteArray.empty t278 0), .int .i64 x292001_4, .int .i64 x292002_4, .int .i64 x292003_4, .int .i64 x292004_4]) ?_ 1 _ rfl; (with_reducible repeat (first | refine blk_drewN ?_ _ | refine blk_drew ?_ | refine blk_alloc ?_ _)); exact BK291.out⟩, ⟨by repeat (first | (with_reducible first | exact HB.out | apply below_alloc | apply pw_below_drewN | apply below_drew1 | refine below_set ?_ GE277.out | refine below_set ?_ GE289.out | refine below_set ?_ GE291.out) | exact HB.out)⟩⟩
                                  · rw [if_neg c50] at H
                                    have c50b0 : ((rd x8_31 x56_4) == 1) = false := beq_eq_false_iff_ne.mpr c50
                                    have c50b1 : ((rd x8_31 x56_4) != 1) = true := bne_iff_ne.mpr c50
                                    by_cases c54 : (rd x8_31 x56_4) = 2
                                    · rw [if_pos c54] at H
                                      have c54b0 : ((rd x8_31 x56_4) == 2) = true := beq_iff_eq.mpr c54
                                      have c54b1 : ((rd x8_31 x56_4) != 2) = false := bne_eq_false_iff_eq.mpr c54
                                      clear c54
                                      have H' := Aside0.mk H
                                      clear H
                                      have p305 : 0 ≤ (x56_4 : Int) := of_decide_eq_true (by first | (with_reducible assumption) | assumption)
                                      have q305 : x56_4 < (x8_31.length : Int) := of_decide_eq_true (by first | (with_reducible assumption) | assumption)
                                      obtain ⟨ad305, e305, hx305_0⟩ := at_kp (Kd.R_reads' HO_54.out).2.2 x56_4 p305 q305
                                      rw [show rd x8_31 x56_4 = 2 from beq_iff_eq.mp c54b0] at hx305_0
                                      replace hx305_0 := hx305_0.trans (show _ = some (Value.pointer (some ⟨gb291, 2, none⟩)) from rfl)
                                      cases e305
                                      replace p305 := eq_true p305
                                      replace q305 := eq_true q305
                                      have p306 : 0 ≤ ((ji45) : Int) := of_decide_eq_true (by first | (with_reducible assumption) | assumption)
                                      have q306 : (ji45) < (t278.length : Int) := of_decide_eq_true (by first | (with_reducible assumption) | assumption)
                                      obtain ⟨ad306, e306, hx306_0⟩ := Kd.at_string (Kd.R_reads' HO_4.out).2.2 (ji45) p306 q306
                                      obtain rfl : ad281 = ad306 := (by injection e306)
                                      replace p306 := eq_true p306
                                      replace q306 := eq_true q306
                                      go_wp2_with (first | ((with_reducible refine gate_callee (f := 67) rfl ?_); refine goesL_ (some 68) rfl rfl Tryd.func67 (by kernel_rfl) rfl #[.string (rdOf ByteArray.empty t278 (ji45)), .string (⟨#[114]⟩ : ByteArray)] rfl (by (try simp only [List.map_toArray, List.map_cons, List.map_nil]); first | done | (simp only [hji45]; rfl) | rfl | (simp only [List.length_drop, List.length_take]; rfl)) ?_; (with_reducible refine (strings_TrimPrefix.calls (rdOf ByteArray.empty t278 (ji45)) (⟨#[114]⟩ : ByteArray) t307 _ A48.out).mono ?_); rintro e w' ⟨rfl, ⟨nd, rfl⟩⟩; refine ⟨_, rfl, ?_⟩; (try (rw [drewN_self wr]; generalize hq_ : World.drewN wr _ = wr; have n0_ : Aside0 (Kd.R Kd.string 9 wr w.heap.size (fun _ => True) (.slice (some ad281) t278.length co9) t278) := ⟨by rw [← hq_]; exact (by (with_reducible repeat (first | apply Kd.R_alloc | apply Kd.R_drewN | apply Kd.R_drew)); exact HO_4.out)⟩; have n1_ : Aside0 (Kd.R (kp gb291) 92 wr w.heap.size (fun _ => True) (.slice (some ad305) x8_31.length co41) x8_31) := ⟨by rw [← hq_]; exact (by (with_reducible repeat (first | apply Kd.R_alloc | apply Kd.R_drewN | apply Kd.R_drew)); exact HO_54.out)⟩; have n2_ : Aside0 (wr.heap[gb277]? = some (.cells #[.string (⟨#[]⟩ : ByteArray), .int .i64 0, .int .i64 0, .int .i64 0, .int .i64 0] 35 (0, 0))) := ⟨by rw [← hq_]; exact (by (with_reducible repeat (first | refine blk_drewN ?_ _ | refine blk_drew ?_ | refine blk_alloc ?_ _)); exact BK277.out)⟩; have n3_ : Aside0 (wr.heap[gb289]? = some (.cells #[.bool t282, .bool t283, .int .i64 t284, .int .i64 t285, .int .i64 t286, .string t287] 89 (0, 0))) := ⟨by rw [← hq_]; exact (by (with_reducible repeat (first | refine blk_drewN ?_ _ | refine blk_drew ?_ | refine blk_alloc ?_ _)); exact BK289.out)⟩; have n4_ : Aside0 (wr.heap[gb291]? = some (.cells #[.string (rdOf ByteArray.empty t278 0), .int .i64 x292001_4, .int .i64 x292002_4, .int .i64 x292003_4, .int .i64 x292004_4] 35 (0, 0))) := ⟨by rw [← hq_]; exact (by (with_reducible repeat (first | refine blk_drewN ?_ _ | refine blk_drew ?_ | refine blk_alloc ?_ _)); exact BK291.out)⟩; have n5_ : Aside0 (Below w.heap.size w wr) := ⟨by rw [← hq_]; exact (by repeat (first | (with_reducible first | exact HB.out | apply below_alloc | apply pw_below_drewN | apply below_drew1 | refine below_set ?_ GE277.out | refine below_set ?_ GE289.out | refine below_set ?_ GE291.out) | exact HB.out))⟩; clear HO_4 HO_54 BK277 BK289 BK291 HB hq_; have HO_4 := n0_; have HO_54 := n1_; have BK277 := n2_; have BK289 := n3_; have BK291 := n4_; have HB := n5_; clear n0_ n1_ n2_ n3_ n4_ n5_))) | ((with_reducible refine gate_callee (f := 66) rfl ?_); refine goesL_ (some 69) rfl rfl Tryd.func66 (by kernel_rfl) rfl #[.string t307, .int .i64 63] rfl (by (try simp only [List.map_toArray, List.map_cons, List.map_nil]); first | done | rfl | (simp only [List.length_drop, List.length_take]; rfl)) ?_; (with_reducible refine (impl_number.calls t307 63 t308 t309 _ A49.out (hT.below (by repeat (first | (with_reducible first | exact HB.out | apply below_alloc | apply pw_below_drewN | apply below_drew1 | refine below_set ?_ GE277.out | refine below_set ?_ GE289.out | refine below_set ?_ GE291.out) | exact HB.out)))).mono ?_); rintro e wq ⟨rfl, hb⟩; refine ⟨_, rfl, ?_⟩; have n0_ := Aside0.mk (Kd.R_below (by (with_reducible repeat (first | apply Kd.R_alloc | apply Kd.R_drewN | apply Kd.R_drew)); exact HO_4.out) hb); have n1_ := Aside0.mk (Kd.R_below (by (with_reducible repeat (first | apply Kd.R_alloc | apply Kd.R_drewN | apply Kd.R_drew)); exact HO_54.out) hb); have n2_ := Aside0.mk (blk_below (g := gb277) (o := .cells #[.string (⟨#[]⟩ : ByteArray), .int .i64 0, .int .i64 0, .int .i64 0, .int .i64 0] 35 (0, 0)) (by (with_reducible repeat (first | refine blk_drewN ?_ _ | refine blk_drew ?_ | refine blk_alloc ?_ _)); exact BK277.out) hb); have n3_ := Aside0.mk (blk_below (g := gb289) (o := .cells #[.bool t282, .bool t283, .int .i64 t284, .int .i64 t285, .int .i64 t286, .string t287] 89 (0, 0)) (by (with_reducible repeat (first | refine blk_drewN ?_ _ | refine blk_drew ?_ | refine blk_alloc ?_ _)); exact BK289.out) hb); have n4_ := Aside0.mk (blk_below (g := gb291) (o := .cells #[.string (rdOf ByteArray.empty t278 0), .int .i64 x292001_4, .int .i64 x292002_4, .int .i64 x292003_4, .int .i64 x292004_4] 35 (0, 0)) (by (with_reducible repeat (first | refine blk_drewN ?_ _ | refine blk_drew ?_ | refine blk_alloc ?_ _)); exact BK291.out) hb); have n5_ := Aside0.mk (below_step (by repeat (first | (with_reducible first | exact HB.out | apply below_alloc | apply pw_below_drewN | apply below_drew1 | refine below_set ?_ GE277.out | refine below_set ?_ GE289.out | refine below_set ?_ GE291.out) | exact HB.out)) hb); clear HO_4; clear HO_54; clear BK277; clear BK289; clear BK291; clear HB; have HO_4 := n0_; have HO_54 := n1_; have BK277 := n2_; have BK289 := n3_; have BK291 := n4_; have HB := n5_; clear n0_ n1_ n2_ n3_ n4_ n5_; (try clear hb); (try clear hb2); (try clear hk); (try clear hi); have hnb55 := NB291_277.out; have hnc55 := NB277_291.out; have hnb56 := NB291_289.out; have hnc56 := NB289_291.out; have hcz57_0 : wq.cell? ⟨gb291, 0, none⟩ = some (.string (rdOf ByteArray.empty t278 0)) := (blk_cell BK291.out 0).trans rfl; have hcz57_1 : wq.cell? ⟨gb291, 1, none⟩ = some (.int .i64 x292001_4) := (blk_cell BK291.out 1).trans rfl; have hcz57_2 : wq.cell? ⟨gb291, 2, none⟩ = some (.int .i64 x292002_4) := (blk_cell BK291.out 2).trans rfl; have hcz57_3 : wq.cell? ⟨gb291, 3, none⟩ = some (.int .i64 x292003_4) := (blk_cell BK291.out 3).trans rfl; have hcz57_4 : wq.cell? ⟨gb291, 4, none⟩ = some (.int .i64 x292004_4) := (blk_cell BK291.out 4).trans rfl; have hfz57_0 := blk_frozen BK291.out 0; have hfz57_1 := blk_frozen BK291.out 1; have hfz57_2 := blk_frozen BK291.out 2; have hfz57_3 := blk_frozen BK291.out 3; have hfz57_4 := blk_frozen BK291.out 4))
                                      go_roundg k4
                                      case measure => have := HJ5.out; have := HJ23.out; have := HJ31.out; have := HK4.out; omega
                                      case rel => exact ⟨(ji45), (x292001_4), (t308), (x292003_4), (x292004_4), (by first | rfl | (simp; done) | (simp only [← hji45] <;> (first | rfl | simp)) | (simp [*]; done)), H', ⟨by have := HJ5.out; have := HJ23.out; have := HJ31.out; have := HK4.out; omega⟩, ⟨by (with_reducible repeat (first | apply Kd.R_alloc | apply Kd.R_drewN | apply Kd.R_drew)); exact Kd.R_mono (Kd.R_far (p := ⟨gb291, 2, none⟩) (Kd.R_types HO_4.out BK291.out (by decide)) (fun _ hk => hk.2) (.int .i64 t308)) (fun _ hk => trivial)⟩, ⟨by (with_reducible repeat (first | apply Kd.R_alloc | apply Kd.R_drewN | apply Kd.R_drew)); exact Kd.R_mono (Kd.R_far (p := ⟨gb291, 2, none⟩) (Kd.R_types HO_54.out BK291.out (kp_ne (by decide))) (fun _ hk => hk.2) (.int .i64 t308)) (fun _ hk => trivial)⟩, ⟨by (with_reducible repeat (first | refine blk_drewN ?_ _ | refine blk_drew ?_ | refine blk_alloc ?_ _)); refine blk_far ?_ NB277_291.out _; (with_reducible repeat (first | refine blk_drewN ?_ _ | refine blk_drew ?_ | refine blk_alloc ?_ _)); exact BK277.out⟩, ⟨by (with_reducible repeat (first | refine blk_drewN ?_ _ | refine blk_drew ?_ | refine blk_alloc ?_ _)); refine blk_far ?_ NB289_291.out _; (with_reducible repeat (first | refine blk_drewN ?_ _ | refine blk_drew ?_ | refine blk_alloc ?_ _)); exact BK289.out⟩, ⟨by (with_reducible repeat (first | refine blk_drewN ?_ _ | refine blk_drew ?_ | refine blk_alloc ?_ _)); refine blk_put (cs := #[.string (rdOf ByteArray.empty t278 0), .int .i64 x292001_4, .int .i64 x292002_4, .int .i64 x292003_4, .int .i64 x292004_4]) ?_ 2 _ rfl; (with_reducible repeat (first | refine blk_drewN ?_ _ | refine blk_drew ?_ | refine blk_alloc ?_ _)); exact BK291.out⟩, ⟨by repeat (first | (with_reducible first | exact HB.out | apply below_alloc | apply pw_below_drewN | apply below_drew1 | refine below_set ?_ GE277.out | refine below_set ?_ GE289.out | refine below_set ?_ GE291.out) | exact HB.out)⟩⟩
                                    · rw [if_neg c54] at H
                                      have c54b0 : ((rd x8_31 x56_4) == 2) = false := beq_eq_false_iff_ne.mpr c54
                                      have c54b1 : ((rd x8_31 x56_4) != 2) = true := bne_iff_ne.mpr c54
                                      by_cases c58 : (rd x8_31 x56_4) = 3
                                      · rw [if_pos c58] at H
                                        have c58b0 : ((rd x8_31 x56_4) == 3) = true := beq_iff_eq.mpr c58
                                        have c58b1 : ((rd x8_31 x56_4) != 3) = false := bne_eq_false_iff_eq.mpr c58
                                        clear c58
                                        have H' := Aside0.mk H
                                        clear H
                                        have p305 : 0 ≤ (x56_4 : Int) := of_decide_eq_true (by first | (with_reducible assumption) | assumption)
                                        have q305 : x56_4 < (x8_31.length : Int) := of_decide_eq_true (by first | (with_reducible assumption) | assumption)
                                        obtain ⟨ad305, e305, hx305_0⟩ := at_kp (Kd.R_reads' HO_54.out).2.2 x56_4 p305 q305
                                        rw [show rd x8_31 x56_4 = 3 from beq_iff_eq.mp c58b0] at hx305_0
                                        replace hx305_0 := hx305_0.trans (show _ = some (Value.pointer (some ⟨gb291, 3, none⟩)) from rfl)
                                        cases e305
                                        replace p305 := eq_true p305
                                        replace q305 := eq_true q305
                                        have p306 : 0 ≤ ((ji45) : Int) := of_decide_eq_true (by first | (with_reducible assumption) | assumption)
                                        have q306 : (ji45) < (t278.length : Int) := of_decide_eq_true (by first | (with_reducible assumption) | assumption)
                                        obtain ⟨ad306, e306, hx306_0⟩ := Kd.at_string (Kd.R_reads' HO_4.out).2.2 (ji45) p306 q306
                                        obtain rfl : ad281 = ad306 := (by injection e306)
                                        replace p306 := eq_true p306
                                        replace q306 := eq_true q306
                                        go_wp2_with (first | ((with_reducible refine gate_callee (f := 67) rfl ?_); refine goesL_ (some 68) rfl rfl Tryd.func67 (by kernel_rfl) rfl #[.string (rdOf ByteArray.empty t278 (ji45)), .string (⟨#[114]⟩ : ByteArray)] rfl (by (try simp only [List.map_toArray, List.map_cons, List.map_nil]); first | done | (simp only [hji45]; rfl) | rfl | (simp only [List.length_drop, List.length_take]; rfl)) ?_; (with_reducible refine (strings_TrimPrefix.calls (rdOf ByteArray.empty t278 (ji45)) (⟨#[114]⟩ : ByteArray) t307 _ A48.out).mono ?_); rintro e w' ⟨rfl, ⟨nd, rfl⟩⟩; refine ⟨_, rfl, ?_⟩; (try (rw [drewN_self wr]; generalize hq_ : World.drewN wr _ = wr; have n0_ : Aside0 (Kd.R Kd.string 9 wr w.heap.size (fun _ => True) (.slice (some ad281) t278.length co9) t278) := ⟨by rw [← hq_]; exact (by (with_reducible repeat (first | apply Kd.R_alloc | apply Kd.R_drewN | apply Kd.R_drew)); exact HO_4.out)⟩; have n1_ : Aside0 (Kd.R (kp gb291) 92 wr w.heap.size (fun _ => True) (.slice (some ad305) x8_31.length co41) x8_31) := ⟨by rw [← hq_]; exact (by (with_reducible repeat (first | apply Kd.R_alloc | apply Kd.R_drewN | apply Kd.R_drew)); exact HO_54.out)⟩; have n2_ : Aside0 (wr.heap[gb277]? = some (.cells #[.string (⟨#[]⟩ : ByteArray), .int .i64 0, .int .i64 0, .int .i64 0, .int .i64 0] 35 (0, 0))) := ⟨by rw [← hq_]; exact (by (with_reducible repeat (first | refine blk_drewN ?_ _ | refine blk_drew ?_ | refine blk_alloc ?_ _)); exact BK277.out)⟩; have n3_ : Aside0 (wr.heap[gb289]? = some (.cells #[.bool t282, .bool t283, .int .i64 t284, .int .i64 t285, .int .i64 t286, .string t287] 89 (0, 0))) := ⟨by rw [← hq_]; exact (by (with_reducible repeat (first | refine blk_drewN ?_ _ | refine blk_drew ?_ | refine blk_alloc ?_ _)); exact BK289.out)⟩; have n4_ : Aside0 (wr.heap[gb291]? = some (.cells #[.string (rdOf ByteArray.empty t278 0), .int .i64 x292001_4, .int .i64 x292002_4, .int .i64 x292003_4, .int .i64 x292004_4] 35 (0, 0))) := ⟨by rw [← hq_]; exact (by (with_reducible repeat (first | refine blk_drewN ?_ _ | refine blk_drew ?_ | refine blk_alloc ?_ _)); exact BK291.out)⟩; have n5_ : Aside0 (Below w.heap.size w wr) := ⟨by rw [← hq_]; exact (by repeat (first | (with_reducible first | exact HB.out | apply below_alloc | apply pw_below_drewN | apply below_drew1 | refine below_set ?_ GE277.out | refine below_set ?_ GE289.out | refine below_set ?_ GE291.out) | exact HB.out))⟩; clear HO_4 HO_54 BK277 BK289 BK291 HB hq_; have HO_4 := n0_; have HO_54 := n1_; have BK277 := n2_; have BK289 := n3_; have BK291 := n4_; have HB := n5_; clear n0_ n1_ n2_ n3_ n4_ n5_))) | ((with_reducible refine gate_callee (f := 66) rfl ?_); refine goesL_ (some 69) rfl rfl Tryd.func66 (by kernel_rfl) rfl #[.string t307, .int .i64 63] rfl (by (try simp only [List.map_toArray, List.map_cons, List.map_nil]); first | done | rfl | (simp only [List.length_drop, List.length_take]; rfl)) ?_; (with_reducible refine (impl_number.calls t307 63 t308 t309 _ A49.out (hT.below (by repeat (first | (with_reducible first | exact HB.out | apply below_alloc | apply pw_below_drewN | apply below_drew1 | refine below_set ?_ GE277.out | refine below_set ?_ GE289.out | refine below_set ?_ GE291.out) | exact HB.out)))).mono ?_); rintro e wq ⟨rfl, hb⟩; refine ⟨_, rfl, ?_⟩; have n0_ := Aside0.mk (Kd.R_below (by (with_reducible repeat (first | apply Kd.R_alloc | apply Kd.R_drewN | apply Kd.R_drew)); exact HO_4.out) hb); have n1_ := Aside0.mk (Kd.R_below (by (with_reducible repeat (first | apply Kd.R_alloc | apply Kd.R_drewN | apply Kd.R_drew)); exact HO_54.out) hb); have n2_ := Aside0.mk (blk_below (g := gb277) (o := .cells #[.string (⟨#[]⟩ : ByteArray), .int .i64 0, .int .i64 0, .int .i64 0, .int .i64 0] 35 (0, 0)) (by (with_reducible repeat (first | refine blk_drewN ?_ _ | refine blk_drew ?_ | refine blk_alloc ?_ _)); exact BK277.out) hb); have n3_ := Aside0.mk (blk_below (g := gb289) (o := .cells #[.bool t282, .bool t283, .int .i64 t284, .int .i64 t285, .int .i64 t286, .string t287] 89 (0, 0)) (by (with_reducible repeat (first | refine blk_drewN ?_ _ | refine blk_drew ?_ | refine blk_alloc ?_ _)); exact BK289.out) hb); have n4_ := Aside0.mk (blk_below (g := gb291) (o := .cells #[.string (rdOf ByteArray.empty t278 0), .int .i64 x292001_4, .int .i64 x292002_4, .int .i64 x292003_4, .int .i64 x292004_4] 35 (0, 0)) (by (with_reducible repeat (first | refine blk_drewN ?_ _ | refine blk_drew ?_ | refine blk_alloc ?_ _)); exact BK291.out) hb); have n5_ := Aside0.mk (below_step (by repeat (first | (with_reducible first | exact HB.out | apply below_alloc | apply pw_below_drewN | apply below_drew1 | refine below_set ?_ GE277.out | refine below_set ?_ GE289.out | refine below_set ?_ GE291.out) | exact HB.out)) hb); clear HO_4; clear HO_54; clear BK277; clear BK289; clear BK291; clear HB; have HO_4 := n0_; have HO_54 := n1_; have BK277 := n2_; have BK289 := n3_; have BK291 := n4_; have HB := n5_; clear n0_ n1_ n2_ n3_ n4_ n5_; (try clear hb); (try clear hb2); (try clear hk); (try clear hi); have hnb59 := NB291_277.out; have hnc59 := NB277_291.out; have hnb60 := NB291_289.out; have hnc60 := NB289_291.out; have hcz61_0 : wq.cell? ⟨gb291, 0, none⟩ = some (.string (rdOf ByteArray.empty t278 0)) := (blk_cell BK291.out 0).trans rfl; have hcz61_1 : wq.cell? ⟨gb291, 1, none⟩ = some (.int .i64 x292001_4) := (blk_cell BK291.out 1).trans rfl; have hcz61_2 : wq.cell? ⟨gb291, 2, none⟩ = some (.int .i64 x292002_4) := (blk_cell BK291.out 2).trans rfl; have hcz61_3 : wq.cell? ⟨gb291, 3, none⟩ = some (.int .i64 x292003_4) := (blk_cell BK291.out 3).trans rfl; have hcz61_4 : wq.cell? ⟨gb291, 4, none⟩ = some (.int .i64 x292004_4) := (blk_cell BK291.out 4).trans rfl; have hfz61_0 := blk_frozen BK291.out 0; have hfz61_1 := blk_frozen BK291.out 1; have hfz61_2 := blk_frozen BK291.out 2; have hfz61_3 := blk_frozen BK291.out 3; have hfz61_4 := blk_frozen BK291.out 4))
                                        go_roundg k4
                                        case measure => have := HJ5.out; have := HJ23.out; have := HJ31.out; have := HK4.out; omega
                                        case rel => exact ⟨(ji45), (x292001_4), (x292002_4), (t308), (x292004_4), (by first | rfl | (simp; done) | (simp only [← hji45] <;> (first | rfl | simp)) | (simp [*]; done)), H', ⟨by have := HJ5.out; have := HJ23.out; have := HJ31.out; have := HK4.out; omega⟩, ⟨by (with_reducible repeat (first | apply Kd.R_alloc | apply Kd.R_drewN | apply Kd.R_drew)); exact Kd.R_mono (Kd.R_far (p := ⟨gb291, 3, none⟩) (Kd.R_types HO_4.out BK291.out (by decide)) (fun _ hk => hk.2) (.int .i64 t308)) (fun _ hk => trivial)⟩, ⟨by (with_reducible repeat (first | apply Kd.R_alloc | apply Kd.R_drewN | apply Kd.R_drew)); exact Kd.R_mono (Kd.R_far (p := ⟨gb291, 3, none⟩) (Kd.R_types HO_54.out BK291.out (kp_ne (by decide))) (fun _ hk => hk.2) (.int .i64 t308)) (fun _ hk => trivial)⟩, ⟨by (with_reducible repeat (first | refine blk_drewN ?_ _ | refine blk_drew ?_ | refine blk_alloc ?_ _)); refine blk_far ?_ NB277_291.out _; (with_reducible repeat (first | refine blk_drewN ?_ _ | refine blk_drew ?_ | refine blk_alloc ?_ _)); exact BK277.out⟩, ⟨by (with_reducible repeat (first | refine blk_drewN ?_ _ | refine blk_drew ?_ | refine blk_alloc ?_ _)); refine blk_far ?_ NB289_291.out _; (with_reducible repeat (first | refine blk_drewN ?_ _ | refine blk_drew ?_ | refine blk_alloc ?_ _)); exact BK289.out⟩, ⟨by (with_reducible repeat (first | refine blk_drewN ?_ _ | refine blk_drew ?_ | refine blk_alloc ?_ _)); refine blk_put (cs := #[.string (rdOf ByteArray.empty t278 0), .int .i64 x292001_4, .int .i64 x292002_4, .int .i64 x292003_4, .int .i64 x292004_4]) ?_ 3 _ rfl; (with_reducible repeat (first | refine blk_drewN ?_ _ | refine blk_drew ?_ | refine blk_alloc ?_ _)); exact BK291.out⟩, ⟨by repeat (first | (with_reducible first | exact HB.out | apply below_alloc | apply pw_below_drewN | apply below_drew1 | refine below_set ?_ GE277.out | refine below_set ?_ GE289.out | refine below_set ?_ GE291.out) | exact HB.out)⟩⟩
                                      · rw [if_neg c58] at H
                                        by_cases c59 : (rd x8_31 x56_4) = 4
                                        rotate_left
                                        · rw [if_neg c59] at H
                                          exact absurd H (by simp)
                                        rw [if_pos c59] at H
                                        have c59b0 : ((rd x8_31 x56_4) == 4) = true := beq_iff_eq.mpr c59
                                        have c58b0 : ((rd x8_31 x56_4) == 3) = false := beq_eq_false_iff_ne.mpr c58
                                        have c58b1 : ((rd x8_31 x56_4) != 3) = true := bne_iff_ne.mpr c58
                                        have H' := Aside0.mk H
                                        clear H
                                        have p305 : 0 ≤ (x56_4 : Int) := of_decide_eq_true (by first | (with_reducible assumption) | assumption)
                                        have q305 : x56_4 < (x8_31.length : Int) := of_decide_eq_true (by first | (with_reducible assumption) | assumption)
                                        obtain ⟨ad305, e305, hx305_0⟩ := at_kp (Kd.R_reads' HO_54.out).2.2 x56_4 p305 q305
                                        rw [show rd x8_31 x56_4 = 4 from beq_iff_eq.mp c59b0] at hx305_0
                                        replace hx305_0 := hx305_0.trans (show _ = some (Value.pointer (some ⟨gb291, 4, none⟩)) from rfl)
                                        cases e305
                                        replace p305 := eq_true p305
                                        replace q305 := eq_true q305
                                        have p306 : 0 ≤ ((ji45) : Int) := of_decide_eq_true (by first | (with_reducible assumption) | assumption)
                                        have q306 : (ji45) < (t278.length : Int) := of_decide_eq_true (by first | (with_reducible assumption) | assumption)
                                        obtain ⟨ad306, e306, hx306_0⟩ := Kd.at_string (Kd.R_reads' HO_4.out).2.2 (ji45) p306 q306
                                        obtain rfl : ad281 = ad306 := (by injection e306)
                                        replace p306 := eq_true p306
                                        replace q306 := eq_true q306
                                        go_wp2_with (first | ((with_reducible refine gate_callee (f := 67) rfl ?_); refine goesL_ (some 68) rfl rfl Tryd.func67 (by kernel_rfl) rfl #[.string (rdOf ByteArray.empty t278 (ji45)), .string (⟨#[114]⟩ : ByteArray)] rfl (by (try simp only [List.map_toArray, List.map_cons, List.map_nil]); first | done | (simp only [hji45]; rfl) | rfl | (simp only [List.length_drop, List.length_take]; rfl)) ?_; (with_reducible refine (strings_TrimPrefix.calls (rdOf ByteArray.empty t278 (ji45)) (⟨#[114]⟩ : ByteArray) t307 _ A48.out).mono ?_); rintro e w' ⟨rfl, ⟨nd, rfl⟩⟩; refine ⟨_, rfl, ?_⟩; (try (rw [drewN_self wr]; generalize hq_ : World.drewN wr _ = wr; have n0_ : Aside0 (Kd.R Kd.string 9 wr w.heap.size (fun _ => True) (.slice (some ad281) t278.length co9) t278) := ⟨by rw [← hq_]; exact (by (with_reducible repeat (first | apply Kd.R_alloc | apply Kd.R_drewN | apply Kd.R_drew)); exact HO_4.out)⟩; have n1_ : Aside0 (Kd.R (kp gb291) 92 wr w.heap.size (fun _ => True) (.slice (some ad305) x8_31.length co41) x8_31) := ⟨by rw [← hq_]; exact (by (with_reducible repeat (first | apply Kd.R_alloc | apply Kd.R_drewN | apply Kd.R_drew)); exact HO_54.out)⟩; have n2_ : Aside0 (wr.heap[gb277]? = some (.cells #[.string (⟨#[]⟩ : ByteArray), .int .i64 0, .int .i64 0, .int .i64 0, .int .i64 0] 35 (0, 0))) := ⟨by rw [← hq_]; exact (by (with_reducible repeat (first | refine blk_drewN ?_ _ | refine blk_drew ?_ | refine blk_alloc ?_ _)); exact BK277.out)⟩; have n3_ : Aside0 (wr.heap[gb289]? = some (.cells #[.bool t282, .bool t283, .int .i64 t284, .int .i64 t285, .int .i64 t286, .string t287] 89 (0, 0))) := ⟨by rw [← hq_]; exact (by (with_reducible repeat (first | refine blk_drewN ?_ _ | refine blk_drew ?_ | refine blk_alloc ?_ _)); exact BK289.out)⟩; have n4_ : Aside0 (wr.heap[gb291]? = some (.cells #[.string (rdOf ByteArray.empty t278 0), .int .i64 x292001_4, .int .i64 x292002_4, .int .i64 x292003_4, .int .i64 x292004_4] 35 (0, 0))) := ⟨by rw [← hq_]; exact (by (with_reducible repeat (first | refine blk_drewN ?_ _ | refine blk_drew ?_ | refine blk_alloc ?_ _)); exact BK291.out)⟩; have n5_ : Aside0 (Below w.heap.size w wr) := ⟨by rw [← hq_]; exact (by repeat (first | (with_reducible first | exact HB.out | apply below_alloc | apply pw_below_drewN | apply below_drew1 | refine below_set ?_ GE277.out | refine below_set ?_ GE289.out | refine below_set ?_ GE291.out) | exact HB.out))⟩; clear HO_4 HO_54 BK277 BK289 BK291 HB hq_; have HO_4 := n0_; have HO_54 := n1_; have BK277 := n2_; have BK289 := n3_; have BK291 := n4_; have HB := n5_; clear n0_ n1_ n2_ n3_ n4_ n5_))) | ((with_reducible refine gate_callee (f := 66) rfl ?_); refine goesL_ (some 69) rfl rfl Tryd.func66 (by kernel_rfl) rfl #[.string t307, .int .i64 63] rfl (by (try simp only [List.map_toArray, List.map_cons, List.map_nil]); first | done | rfl | (simp only [List.length_drop, List.length_take]; rfl)) ?_; (with_reducible refine (impl_number.calls t307 63 t308 t309 _ A49.out (hT.below (by repeat (first | (with_reducible first | exact HB.out | apply below_alloc | apply pw_below_drewN | apply below_drew1 | refine below_set ?_ GE277.out | refine below_set ?_ GE289.out | refine below_set ?_ GE291.out) | exact HB.out)))).mono ?_); rintro e wq ⟨rfl, hb⟩; refine ⟨_, rfl, ?_⟩; have n0_ := Aside0.mk (Kd.R_below (by (with_reducible repeat (first | apply Kd.R_alloc | apply Kd.R_drewN | apply Kd.R_drew)); exact HO_4.out) hb); have n1_ := Aside0.mk (Kd.R_below (by (with_reducible repeat (first | apply Kd.R_alloc | apply Kd.R_drewN | apply Kd.R_drew)); exact HO_54.out) hb); have n2_ := Aside0.mk (blk_below (g := gb277) (o := .cells #[.string (⟨#[]⟩ : ByteArray), .int .i64 0, .int .i64 0, .int .i64 0, .int .i64 0] 35 (0, 0)) (by (with_reducible repeat (first | refine blk_drewN ?_ _ | refine blk_drew ?_ | refine blk_alloc ?_ _)); exact BK277.out) hb); have n3_ := Aside0.mk (blk_below (g := gb289) (o := .cells #[.bool t282, .bool t283, .int .i64 t284, .int .i64 t285, .int .i64 t286, .string t287] 89 (0, 0)) (by (with_reducible repeat (first | refine blk_drewN ?_ _ | refine blk_drew ?_ | refine blk_alloc ?_ _)); exact BK289.out) hb); have n4_ := Aside0.mk (blk_below (g := gb291) (o := .cells #[.string (rdOf ByteArray.empty t278 0), .int .i64 x292001_4, .int .i64 x292002_4, .int .i64 x292003_4, .int .i64 x292004_4] 35 (0, 0)) (by (with_reducible repeat (first | refine blk_drewN ?_ _ | refine blk_drew ?_ | refine blk_alloc ?_ _)); exact BK291.out) hb); have n5_ := Aside0.mk (below_step (by repeat (first | (with_reducible first | exact HB.out | apply below_alloc | apply pw_below_drewN | apply below_drew1 | refine below_set ?_ GE277.out | refine below_set ?_ GE289.out | refine below_set ?_ GE291.out) | exact HB.out)) hb); clear HO_4; clear HO_54; clear BK277; clear BK289; clear BK291; clear HB; have HO_4 := n0_; have HO_54 := n1_; have BK277 := n2_; have BK289 := n3_; have BK291 := n4_; have HB := n5_; clear n0_ n1_ n2_ n3_ n4_ n5_; (try clear hb); (try clear hb2); (try clear hk); (try clear hi); have hnb62 := NB291_277.out; have hnc62 := NB277_291.out; have hnb63 := NB291_289.out; have hnc63 := NB289_291.out; have hcz64_0 : wq.cell? ⟨gb291, 0, none⟩ = some (.string (rdOf ByteArray.empty t278 0)) := (blk_cell BK291.out 0).trans rfl; have hcz64_1 : wq.cell? ⟨gb291, 1, none⟩ = some (.int .i64 x292001_4) := (blk_cell BK291.out 1).trans rfl; have hcz64_2 : wq.cell? ⟨gb291, 2, none⟩ = some (.int .i64 x292002_4) := (blk_cell BK291.out 2).trans rfl; have hcz64_3 : wq.cell? ⟨gb291, 3, none⟩ = some (.int .i64 x292003_4) := (blk_cell BK291.out 3).trans rfl; have hcz64_4 : wq.cell? ⟨gb291, 4, none⟩ = some (.int .i64 x292004_4) := (blk_cell BK291.out 4).trans rfl; have hfz64_0 := blk_frozen BK291.out 0; have hfz64_1 := blk_frozen BK291.out 1; have hfz64_2 := blk_frozen BK291.out 2; have hfz64_3 := blk_frozen BK291.out 3; have hfz64_4 := blk_frozen BK291.out 4))
                                        go_roundg k4
                                        case measure => have := HJ5.out; have := HJ23.out; have := HJ31.out; have := HK4.out; omega
                                        case rel => exact ⟨(ji45), (x292001_4), (x292002_4), (x292003_4), (t308), (by first | rfl | (simp; done) | (simp only [← hji45] <;> (first | rfl | simp)) | (simp [*]; done)), H', ⟨by have := HJ5.out; have := HJ23.out; have := HJ31.out; have := HK4.out; omega⟩, ⟨by (with_reducible repeat (first | apply Kd.R_alloc | apply Kd.R_drewN | apply Kd.R_drew)); exact Kd.R_mono (Kd.R_far (p := ⟨gb291, 4, none⟩) (Kd.R_types HO_4.out BK291.out (by decide)) (fun _ hk => hk.2) (.int .i64 t308)) (fun _ hk => trivial)⟩, ⟨by (with_reducible repeat (first | apply Kd.R_alloc | apply Kd.R_drewN | apply Kd.R_drew)); exact Kd.R_mono (Kd.R_far (p := ⟨gb291, 4, none⟩) (Kd.R_types HO_54.out BK291.out (kp_ne (by decide))) (fun _ hk => hk.2) (.int .i64 t308)) (fun _ hk => trivial)⟩, ⟨by (with_reducible repeat (first | refine blk_drewN ?_ _ | refine blk_drew ?_ | refine blk_alloc ?_ _)); refine blk_far ?_ NB277_291.out _; (with_reducible repeat (first | refine blk_drewN ?_ _ | refine blk_drew ?_ | refine blk_alloc ?_ _)); exact BK277.out⟩, ⟨by (with_reducible repeat (first | refine blk_drewN ?_ _ | refine blk_drew ?_ | refine blk_alloc ?_ _)); refine blk_far ?_ NB289_291.out _; (with_reducible repeat (first | refine blk_drewN ?_ _ | refine blk_drew ?_ | refine blk_alloc ?_ _)); exact BK289.out⟩, ⟨by (with_reducible repeat (first | refine blk_drewN ?_ _ | refine blk_drew ?_ | refine blk_alloc ?_ _)); refine blk_put (cs := #[.string (rdOf ByteArray.empty t278 0), .int .i64 x292001_4, .int .i64 x292002_4, .int .i64 x292003_4, .int .i64 x292004_4]) ?_ 4 _ rfl; (with_reducible repeat (first | refine blk_drewN ?_ _ | refine blk_drew ?_ | refine blk_alloc ?_ _)); exact BK291.out⟩, ⟨by repeat (first | (with_reducible first | exact HB.out | apply below_alloc | apply pw_below_drewN | apply below_drew1 | refine below_set ?_ GE277.out | refine below_set ?_ GE289.out | refine below_set ?_ GE291.out) | exact HB.out)⟩⟩
                                · rw [if_neg c47] at H
                                  exact absurd H (by simp)
                              · rw [if_neg c46] at H
                                exact absurd H (by simp)
                            · rw [if_neg c44] at H
                              exact absurd H (by simp)
                          · rw [if_neg c43] at H
                            exact absurd H (by simp)
                        · rw [if_neg c42] at H
                          have c42b0 : decide (x56_4 < (x8_31.length : Int)) = false := decide_eq_false c42
                          clear c42
                          replace H := Option.bind_eq_some_iff.mp H
                          obtain ⟨t310, A650, H⟩ := H
                          replace H : (if t310 = true then ((impl_Instr_text.f k4 (rdOf ByteArray.empty t278 0) x292001_4 x292002_4 x292003_4 x292004_4).bind fun t311 => (if t311.toList = a0.toList then (some ((rdOf ByteArray.empty t278 0), x292001_4, x292002_4, x292003_4, x292004_4, true)) else (some ((⟨#[]⟩ : ByteArray), 0, 0, 0, 0, false)))) else (some ((⟨#[]⟩ : ByteArray), 0, 0, 0, 0, false))) = some (r1, r2, r3, r4, r5, r6) := H
                          have A65 := Aside0.mk A650
                          clear A650
                          by_cases c66 : t310 = true
                          · subst c66
                            have H1 : ((impl_Instr_text.f k4 (rdOf ByteArray.empty t278 0) x292001_4 x292002_4 x292003_4 x292004_4).bind fun t311 => (if t311.toList = a0.toList then (some ((rdOf ByteArray.empty t278 0), x292001_4, x292002_4, x292003_4, x292004_4, true)) else (some ((⟨#[]⟩ : ByteArray), 0, 0, 0, 0, false)))) = some (r1, r2, r3, r4, r5, r6) := by rw [if_pos rfl] at H; exact H
                            clear H
                            have H := H1
                            clear H1
                            replace H := Option.bind_eq_some_iff.mp H
                            obtain ⟨t311, A670, H⟩ := H
                            replace H : (if t311.toList = a0.toList then (some ((rdOf ByteArray.empty t278 0), x292001_4, x292002_4, x292003_4, x292004_4, true)) else (some ((⟨#[]⟩ : ByteArray), 0, 0, 0, 0, false))) = some (r1, r2, r3, r4, r5, r6) := H
                            have A67 := Aside0.mk A670
                            clear A670
                            by_cases c68 : t311.toList = a0.toList
                            · rw [if_pos c68] at H
                              have c68b0 : (t311.toList == a0.toList) = true := beq_iff_eq.mpr c68
                              have c68b1 : (t311.toList != a0.toList) = false := bne_eq_false_iff_eq.mpr c68
                              clear c68
                              simp only [Option.some.injEq, Prod.mk.injEq] at H
                              obtain ⟨rfl, rfl, rfl, rfl, rfl, rfl⟩ := H
                              have hnb69 := NB291_277.out
                              have hnc69 := NB277_291.out
                              have hnb70 := NB291_289.out
                              have hnc70 := NB289_291.out
                              have hcz71_0 : wr.cell? ⟨gb291, 0, none⟩ = some (.string (rdOf ByteArray.empty t278 0)) := (blk_cell BK291.out 0).trans rfl
                              have hcz71_1 : wr.cell? ⟨gb291, 1, none⟩ = some (.int .i64 x292001_4) := (blk_cell BK291.out 1).trans rfl
                              have hcz71_2 : wr.cell? ⟨gb291, 2, none⟩ = some (.int .i64 x292002_4) := (blk_cell BK291.out 2).trans rfl
                              have hcz71_3 : wr.cell? ⟨gb291, 3, none⟩ = some (.int .i64 x292003_4) := (blk_cell BK291.out 3).trans rfl
                              have hcz71_4 : wr.cell? ⟨gb291, 4, none⟩ = some (.int .i64 x292004_4) := (blk_cell BK291.out 4).trans rfl
                              have hfz71_0 := blk_frozen BK291.out 0
                              have hfz71_1 := blk_frozen BK291.out 1
                              have hfz71_2 := blk_frozen BK291.out 2
                              have hfz71_3 := blk_frozen BK291.out 3
                              have hfz71_4 := blk_frozen BK291.out 4
                              go_wp2_with (first | ((with_reducible refine gate_callee (f := 48) rfl ?_); refine goesL_ (some 75) rfl rfl Tryd.func48 (by kernel_rfl) rfl #[.agg #[.string (rdOf ByteArray.empty t278 0), .int .i64 x292001_4, .int .i64 x292002_4, .int .i64 x292003_4, .int .i64 x292004_4]] rfl (by (try simp only [List.map_toArray, List.map_cons, List.map_nil]); first | done | rfl | (simp only [List.length_drop, List.length_take]; rfl)) ?_; (with_reducible refine (impl_IsInstr.calls k4 (rdOf ByteArray.empty t278 0) x292001_4 x292002_4 x292003_4 x292004_4 true _ A65.out).mono ?_); rintro e w72 ⟨rfl, hb⟩; refine ⟨_, rfl, ?_⟩; have n0_ := Aside0.mk (Kd.R_below (by (with_reducible repeat (first | apply Kd.R_alloc | apply Kd.R_drewN | apply Kd.R_drew)); exact HO_4.out) hb); have n1_ := Aside0.mk (Kd.R_below (by (with_reducible repeat (first | apply Kd.R_alloc | apply Kd.R_drewN | apply Kd.R_drew)); exact HO_54.out) hb); have n2_ := Aside0.mk (blk_below (g := gb277) (o := .cells #[.string (⟨#[]⟩ : ByteArray), .int .i64 0, .int .i64 0, .int .i64 0, .int .i64 0] 35 (0, 0)) (by (with_reducible repeat (first | refine blk_drewN ?_ _ | refine blk_drew ?_ | refine blk_alloc ?_ _)); exact BK277.out) hb); have n3_ := Aside0.mk (blk_below (g := gb289) (o := .cells #[.bool t282, .bool t283, .int .i64 t284, .int .i64 t285, .int .i64 t286, .string t287] 89 (0, 0)) (by (with_reducible repeat (first | refine blk_drewN ?_ _ | refine blk_drew ?_ | refine blk_alloc ?_ _)); exact BK289.out) hb); have n4_ := Aside0.mk (blk_below (g := gb291) (o := .cells #[.string (rdOf ByteArray.empty t278 0), .int .i64 x292001_4, .int .i64 x292002_4, .int .i64 x292003_4, .int .i64 x292004_4] 35 (0, 0)) (by (with_reducible repeat (first | refine blk_drewN ?_ _ | refine blk_drew ?_ | refine blk_alloc ?_ _)); exact BK291.out) hb); have n5_ := Aside0.mk (below_step (by repeat (first | (with_reducible first | exact HB.out | apply below_alloc | apply pw_below_drewN | apply below_drew1 | refine below_set ?_ GE277.out | refine below_set ?_ GE289.out | refine below_set ?_ GE291.out) | exact HB.out)) hb); clear HO_4; clear HO_54; clear BK277; clear BK289; clear BK291; clear HB; have HO_4 := n0_; have HO_54 := n1_; have BK277 := n2_; have BK289 := n3_; have BK291 := n4_; have HB := n5_; clear n0_ n1_ n2_ n3_ n4_ n5_; (try clear hb); (try clear hb2); (try clear hk); (try clear hi); have hcz73_0 : w72.cell? ⟨gb291, 0, none⟩ = some (.string (rdOf ByteArray.empty t278 0)) := (blk_cell BK291.out 0).trans rfl; have hcz73_1 : w72.cell? ⟨gb291, 1, none⟩ = some (.int .i64 x292001_4) := (blk_cell BK291.out 1).trans rfl; have hcz73_2 : w72.cell? ⟨gb291, 2, none⟩ = some (.int .i64 x292002_4) := (blk_cell BK291.out 2).trans rfl; have hcz73_3 : w72.cell? ⟨gb291, 3, none⟩ = some (.int .i64 x292003_4) := (blk_cell BK291.out 3).trans rfl; have hcz73_4 : w72.cell? ⟨gb291, 4, none⟩ = some (.int .i64 x292004_4) := (blk_cell BK291.out 4).trans rfl; have hfz73_0 := blk_frozen BK291.out 0; have hfz73_1 := blk_frozen BK291.out 1; have hfz73_2 := blk_frozen BK291.out 2; have hfz73_3 := blk_frozen BK291.out 3; have hfz73_4 := blk_frozen BK291.out 4) | (go_at_call 49; (with_reducible refine (impl_Instr_text.calls k4 (rdOf ByteArray.empty t278 0) x292001_4 x292002_4 x292003_4 x292004_4 t311 _ A67.out).mono ?_); rintro e w74 ⟨rfl, hb⟩; have n0_ := Aside0.mk (Kd.R_below (by (with_reducible repeat (first | apply Kd.R_alloc | apply Kd.R_drewN | apply Kd.R_drew)); exact HO_4.out) hb); have n1_ := Aside0.mk (Kd.R_below (by (with_reducible repeat (first | apply Kd.R_alloc | apply Kd.R_drewN | apply Kd.R_drew)); exact HO_54.out) hb); have n2_ := Aside0.mk (blk_below (g := gb277) (o := .cells #[.string (⟨#[]⟩ : ByteArray), .int .i64 0, .int .i64 0, .int .i64 0, .int .i64 0] 35 (0, 0)) (by (with_reducible repeat (first | refine blk_drewN ?_ _ | refine blk_drew ?_ | refine blk_alloc ?_ _)); exact BK277.out) hb); have n3_ := Aside0.mk (blk_below (g := gb289) (o := .cells #[.bool t282, .bool t283, .int .i64 t284, .int .i64 t285, .int .i64 t286, .string t287] 89 (0, 0)) (by (with_reducible repeat (first | refine blk_drewN ?_ _ | refine blk_drew ?_ | refine blk_alloc ?_ _)); exact BK289.out) hb); have n4_ := Aside0.mk (blk_below (g := gb291) (o := .cells #[.string (rdOf ByteArray.empty t278 0), .int .i64 x292001_4, .int .i64 x292002_4, .int .i64 x292003_4, .int .i64 x292004_4] 35 (0, 0)) (by (with_reducible repeat (first | refine blk_drewN ?_ _ | refine blk_drew ?_ | refine blk_alloc ?_ _)); exact BK291.out) hb); have n5_ := Aside0.mk (below_step (by repeat (first | (with_reducible first | exact HB.out | apply below_alloc | apply pw_below_drewN | apply below_drew1 | refine below_set ?_ GE277.out | refine below_set ?_ GE289.out | refine below_set ?_ GE291.out) | exact HB.out)) hb); clear HO_4; clear HO_54; clear BK277; clear BK289; clear BK291; clear HB; have HO_4 := n0_; have HO_54 := n1_; have BK277 := n2_; have BK289 := n3_; have BK291 := n4_; have HB := n5_; clear n0_ n1_ n2_ n3_ n4_ n5_; (try clear hb); (try clear hb2); (try clear hk); (try clear hi); have hcz75_0 : w74.cell? ⟨gb291, 0, none⟩ = some (.string (rdOf ByteArray.empty t278 0)) := (blk_cell BK291.out 0).trans rfl; have hcz75_1 : w74.cell? ⟨gb291, 1, none⟩ = some (.int .i64 x292001_4) := (blk_cell BK291.out 1).trans rfl; have hcz75_2 : w74.cell? ⟨gb291, 2, none⟩ = some (.int .i64 x292002_4) := (blk_cell BK291.out 2).trans rfl; have hcz75_3 : w74.cell? ⟨gb291, 3, none⟩ = some (.int .i64 x292003_4) := (blk_cell BK291.out 3).trans rfl; have hcz75_4 : w74.cell? ⟨gb291, 4, none⟩ = some (.int .i64 x292004_4) := (blk_cell BK291.out 4).trans rfl; have hfz75_0 := blk_frozen BK291.out 0; have hfz75_1 := blk_frozen BK291.out 1; have hfz75_2 := blk_frozen BK291.out 2; have hfz75_3 := blk_frozen BK291.out 3; have hfz75_4 := blk_frozen BK291.out 4; have hnb76 := NB277_289.out; have hnc76 := NB289_277.out; have hcz77_0 : w74.cell? ⟨gb277, 0, none⟩ = some (.string (⟨#[]⟩ : ByteArray)) := (blk_cell BK277.out 0).trans rfl; have hcz77_1 : w74.cell? ⟨gb277, 1, none⟩ = some (.int .i64 0) := (blk_cell BK277.out 1).trans rfl; have hcz77_2 : w74.cell? ⟨gb277, 2, none⟩ = some (.int .i64 0) := (blk_cell BK277.out 2).trans rfl; have hcz77_3 : w74.cell? ⟨gb277, 3, none⟩ = some (.int .i64 0) := (blk_cell BK277.out 3).trans rfl; have hcz77_4 : w74.cell? ⟨gb277, 4, none⟩ = some (.int .i64 0) := (blk_cell BK277.out 4).trans rfl; have hfz77_0 := blk_frozen BK277.out 0; have hfz77_1 := blk_frozen BK277.out 1; have hfz77_2 := blk_frozen BK277.out 2; have hfz77_3 := blk_frozen BK277.out 3; have hfz77_4 := blk_frozen BK277.out 4))
                              refine bodyPost_ret (results_ct rfl _ _ gb277 35 #[.string (rdOf ByteArray.empty t278 0), .int .i64 x292001_4, .int .i64 x292002_4, .int .i64 x292003_4, .int .i64 x292004_4] (0, 0) _ rfl (by (with_reducible repeat (first | refine blk_drewN ?_ _ | refine blk_drew ?_ | refine blk_alloc ?_ _)); refine blk_put (cs := #[.string (rdOf ByteArray.empty t278 0), .int .i64 x292001_4, .int .i64 x292002_4, .int .i64 x292003_4, .int .i64 0]) ?_ 4 _ rfl; (with_reducible repeat (first | refine blk_drewN ?_ _ | refine blk_drew ?_ | refine blk_alloc ?_ _)); refine blk_put (cs := #[.string (rdOf ByteArray.empty t278 0), .int .i64 x292001_4, .int .i64 x292002_4, .int .i64 0, .int .i64 0]) ?_ 3 _ rfl; (with_reducible repeat (first | refine blk_drewN ?_ _ | refine blk_drew ?_ | refine blk_alloc ?_ _)); refine blk_put (cs := #[.string (rdOf ByteArray.empty t278 0), .int .i64 x292001_4, .int .i64 0, .int .i64 0, .int .i64 0]) ?_ 2 _ rfl; (with_reducible repeat (first | refine blk_drewN ?_ _ | refine blk_drew ?_ | refine blk_alloc ?_ _)); refine blk_put (cs := #[.string (rdOf ByteArray.empty t278 0), .int .i64 0, .int .i64 0, .int .i64 0, .int .i64 0]) ?_ 1 _ rfl; (with_reducible repeat (first | refine blk_drewN ?_ _ | refine blk_drew ?_ | refine blk_alloc ?_ _)); refine blk_put (cs := #[.string (⟨#[]⟩ : ByteArray), .int .i64 0, .int .i64 0, .int .i64 0, .int .i64 0]) ?_ 0 _ rfl; (with_reducible repeat (first | refine blk_drewN ?_ _ | refine blk_drew ?_ | refine blk_alloc ?_ _)); exact BK277.out) Tryd.underlying35 rfl (by kernel_rfl)) rfl ?_
                              exact ⟨by first | rfl | (simp [errW_none, errW_some] <;> rfl) | (simp [*, errW_none, errW_some] <;> rfl), by repeat (first | (with_reducible first | exact HB.out | apply below_alloc | apply pw_below_drewN | apply below_drew1 | refine below_set ?_ GE277.out | refine below_set ?_ GE289.out | refine below_set ?_ GE291.out) | exact HB.out)⟩
                            · rw [if_neg c68] at H
                              have c68b0 : (t311.toList == a0.toList) = false := beq_eq_false_iff_ne.mpr c68
                              have c68b1 : (t311.toList != a0.toList) = true := bne_iff_ne.mpr c68
                              simp only [Option.some.injEq, Prod.mk.injEq] at H
                              obtain ⟨rfl, rfl, rfl, rfl, rfl, rfl⟩ := H
                              have hnb78 := NB291_277.out
                              have hnc78 := NB277_291.out
                              have hnb79 := NB291_289.out
                              have hnc79 := NB289_291.out
                              have hcz80_0 : wr.cell? ⟨gb291, 0, none⟩ = some (.string (rdOf ByteArray.empty t278 0)) := (blk_cell BK291.out 0).trans rfl
                              have hcz80_1 : wr.cell? ⟨gb291, 1, none⟩ = some (.int .i64 x292001_4) := (blk_cell BK291.out 1).trans rfl
                              have hcz80_2 : wr.cell? ⟨gb291, 2, none⟩ = some (.int .i64 x292002_4) := (blk_cell BK291.out 2).trans rfl
                              have hcz80_3 : wr.cell? ⟨gb291, 3, none⟩ = some (.int .i64 x292003_4) := (blk_cell BK291.out 3).trans rfl
                              have hcz80_4 : wr.cell? ⟨gb291, 4, none⟩ = some (.int .i64 x292004_4) := (blk_cell BK291.out 4).trans rfl
                              have hfz80_0 := blk_frozen BK291.out 0
                              have hfz80_1 := blk_frozen BK291.out 1
                              have hfz80_2 := blk_frozen BK291.out 2
                              have hfz80_3 := blk_frozen BK291.out 3
                              have hfz80_4 := blk_frozen BK291.out 4
                              go_wp2_with (first | ((with_reducible refine gate_callee (f := 48) rfl ?_); refine goesL_ (some 75) rfl rfl Tryd.func48 (by kernel_rfl) rfl #[.agg #[.string (rdOf ByteArray.empty t278 0), .int .i64 x292001_4, .int .i64 x292002_4, .int .i64 x292003_4, .int .i64 x292004_4]] rfl (by (try simp only [List.map_toArray, List.map_cons, List.map_nil]); first | done | rfl | (simp only [List.length_drop, List.length_take]; rfl)) ?_; (with_reducible refine (impl_IsInstr.calls k4 (rdOf ByteArray.empty t278 0) x292001_4 x292002_4 x292003_4 x292004_4 true _ A65.out).mono ?_); rintro e w81 ⟨rfl, hb⟩; refine ⟨_, rfl, ?_⟩; have n0_ := Aside0.mk (Kd.R_below (by (with_reducible repeat (first | apply Kd.R_alloc | apply Kd.R_drewN | apply Kd.R_drew)); exact HO_4.out) hb); have n1_ := Aside0.mk (Kd.R_below (by (with_reducible repeat (first | apply Kd.R_alloc | apply Kd.R_drewN | apply Kd.R_drew)); exact HO_54.out) hb); have n2_ := Aside0.mk (blk_below (g := gb277) (o := .cells #[.string (⟨#[]⟩ : ByteArray), .int .i64 0, .int .i64 0, .int .i64 0, .int .i64 0] 35 (0, 0)) (by (with_reducible repeat (first | refine blk_drewN ?_ _ | refine blk_drew ?_ | refine blk_alloc ?_ _)); exact BK277.out) hb); have n3_ := Aside0.mk (blk_below (g := gb289) (o := .cells #[.bool t282, .bool t283, .int .i64 t284, .int .i64 t285, .int .i64 t286, .string t287] 89 (0, 0)) (by (with_reducible repeat (first | refine blk_drewN ?_ _ | refine blk_drew ?_ | refine blk_alloc ?_ _)); exact BK289.out) hb); have n4_ := Aside0.mk (blk_below (g := gb291) (o := .cells #[.string (rdOf ByteArray.empty t278 0), .int .i64 x292001_4, .int .i64 x292002_4, .int .i64 x292003_4, .int .i64 x292004_4] 35 (0, 0)) (by (with_reducible repeat (first | refine blk_drewN ?_ _ | refine blk_drew ?_ | refine blk_alloc ?_ _)); exact BK291.out) hb); have n5_ := Aside0.mk (below_step (by repeat (first | (with_reducible first | exact HB.out | apply below_alloc | apply pw_below_drewN | apply below_drew1 | refine below_set ?_ GE277.out | refine below_set ?_ GE289.out | refine below_set ?_ GE291.out) | exact HB.out)) hb); clear HO_4; clear HO_54; clear BK277; clear BK289; clear BK291; clear HB; have HO_4 := n0_; have HO_54 := n1_; have BK277 := n2_; have BK289 := n3_; have BK291 := n4_; have HB := n5_; clear n0_ n1_ n2_ n3_ n4_ n5_; (try clear hb); (try clear hb2); (try clear hk); (try clear hi); have hcz82_0 : w81.cell? ⟨gb291, 0, none⟩ = some (.string (rdOf ByteArray.empty t278 0)) := (blk_cell BK291.out 0).trans rfl; have hcz82_1 : w81.cell? ⟨gb291, 1, none⟩ = some (.int .i64 x292001_4) := (blk_cell BK291.out 1).trans rfl; have hcz82_2 : w81.cell? ⟨gb291, 2, none⟩ = some (.int .i64 x292002_4) := (blk_cell BK291.out 2).trans rfl; have hcz82_3 : w81.cell? ⟨gb291, 3, none⟩ = some (.int .i64 x292003_4) := (blk_cell BK291.out 3).trans rfl; have hcz82_4 : w81.cell? ⟨gb291, 4, none⟩ = some (.int .i64 x292004_4) := (blk_cell BK291.out 4).trans rfl; have hfz82_0 := blk_frozen BK291.out 0; have hfz82_1 := blk_frozen BK291.out 1; have hfz82_2 := blk_frozen BK291.out 2; have hfz82_3 := blk_frozen BK291.out 3; have hfz82_4 := blk_frozen BK291.out 4) | (go_at_call 49; (with_reducible refine (impl_Instr_text.calls k4 (rdOf ByteArray.empty t278 0) x292001_4 x292002_4 x292003_4 x292004_4 t311 _ A67.out).mono ?_); rintro e w83 ⟨rfl, hb⟩; have n0_ := Aside0.mk (Kd.R_below (by (with_reducible repeat (first | apply Kd.R_alloc | apply Kd.R_drewN | apply Kd.R_drew)); exact HO_4.out) hb); have n1_ := Aside0.mk (Kd.R_below (by (with_reducible repeat (first | apply Kd.R_alloc | apply Kd.R_drewN | apply Kd.R_drew)); exact HO_54.out) hb); have n2_ := Aside0.mk (blk_below (g := gb277) (o := .cells #[.string (⟨#[]⟩ : ByteArray), .int .i64 0, .int .i64 0, .int .i64 0, .int .i64 0] 35 (0, 0)) (by (with_reducible repeat (first | refine blk_drewN ?_ _ | refine blk_drew ?_ | refine blk_alloc ?_ _)); exact BK277.out) hb); have n3_ := Aside0.mk (blk_below (g := gb289) (o := .cells #[.bool t282, .bool t283, .int .i64 t284, .int .i64 t285, .int .i64 t286, .string t287] 89 (0, 0)) (by (with_reducible repeat (first | refine blk_drewN ?_ _ | refine blk_drew ?_ | refine blk_alloc ?_ _)); exact BK289.out) hb); have n4_ := Aside0.mk (blk_below (g := gb291) (o := .cells #[.string (rdOf ByteArray.empty t278 0), .int .i64 x292001_4, .int .i64 x292002_4, .int .i64 x292003_4, .int .i64 x292004_4] 35 (0, 0)) (by (with_reducible repeat (first | refine blk_drewN ?_ _ | refine blk_drew ?_ | refine blk_alloc ?_ _)); exact BK291.out) hb); have n5_ := Aside0.mk (below_step (by repeat (first | (with_reducible first | exact HB.out | apply below_alloc | apply pw_below_drewN | apply below_drew1 | refine below_set ?_ GE277.out | refine below_set ?_ GE289.out | refine below_set ?_ GE291.out) | exact HB.out)) hb); clear HO_4; clear HO_54; clear BK277; clear BK289; clear BK291; clear HB; have HO_4 := n0_; have HO_54 := n1_; have BK277 := n2_; have BK289 := n3_; have BK291 := n4_; have HB := n5_; clear n0_ n1_ n2_ n3_ n4_ n5_; (try clear hb); (try clear hb2); (try clear hk); (try clear hi); have hnb84 := NB277_289.out; have hnc84 := NB289_277.out; have hcz85_0 : w83.cell? ⟨gb277, 0, none⟩ = some (.string (⟨#[]⟩ : ByteArray)) := (blk_cell BK277.out 0).trans rfl; have hcz85_1 : w83.cell? ⟨gb277, 1, none⟩ = some (.int .i64 0) := (blk_cell BK277.out 1).trans rfl; have hcz85_2 : w83.cell? ⟨gb277, 2, none⟩ = some (.int .i64 0) := (blk_cell BK277.out 2).trans rfl; have hcz85_3 : w83.cell? ⟨gb277, 3, none⟩ = some (.int .i64 0) := (blk_cell BK277.out 3).trans rfl; have hcz85_4 : w83.cell? ⟨gb277, 4, none⟩ = some (.int .i64 0) := (blk_cell BK277.out 4).trans rfl; have hfz85_0 := blk_frozen BK277.out 0; have hfz85_1 := blk_frozen BK277.out 1; have hfz85_2 := blk_frozen BK277.out 2; have hfz85_3 := blk_frozen BK277.out 3; have hfz85_4 := blk_frozen BK277.out 4))
                              refine bodyPost_ret (results_ct rfl _ _ gb277 35 #[.string (⟨#[]⟩ : ByteArray), .int .i64 0, .int .i64 0, .int .i64 0, .int .i64 0] (0, 0) _ rfl (by (with_reducible repeat (first | refine blk_drewN ?_ _ | refine blk_drew ?_ | refine blk_alloc ?_ _)); refine blk_put (cs := #[.string (⟨#[]⟩ : ByteArray), .int .i64 0, .int .i64 0, .int .i64 0, .int .i64 0]) ?_ 4 _ rfl; (with_reducible repeat (first | refine blk_drewN ?_ _ | refine blk_drew ?_ | refine blk_alloc ?_ _)); refine blk_put (cs := #[.string (⟨#[]⟩ : ByteArray), .int .i64 0, .int .i64 0, .int .i64 0, .int .i64 0]) ?_ 3 _ rfl; (with_reducible repeat (first | refine blk_drewN ?_ _ | refine blk_drew ?_ | refine blk_alloc ?_ _)); refine blk_put (cs := #[.string (⟨#[]⟩ : ByteArray), .int .i64 0, .int .i64 0, .int .i64 0, .int .i64 0]) ?_ 2 _ rfl; (with_reducible repeat (first | refine blk_drewN ?_ _ | refine blk_drew ?_ | refine blk_alloc ?_ _)); refine blk_put (cs := #[.string (⟨#[]⟩ : ByteArray), .int .i64 0, .int .i64 0, .int .i64 0, .int .i64 0]) ?_ 1 _ rfl; (with_reducible repeat (first | refine blk_drewN ?_ _ | refine blk_drew ?_ | refine blk_alloc ?_ _)); refine blk_put (cs := #[.string (⟨#[]⟩ : ByteArray), .int .i64 0, .int .i64 0, .int .i64 0, .int .i64 0]) ?_ 0 _ rfl; (with_reducible repeat (first | refine blk_drewN ?_ _ | refine blk_drew ?_ | refine blk_alloc ?_ _)); exact BK277.out) Tryd.underlying35 rfl (by kernel_rfl)) rfl ?_
                              exact ⟨by first | rfl | (simp [errW_none, errW_some] <;> rfl) | (simp [*, errW_none, errW_some] <;> rfl), by repeat (first | (with_reducible first | exact HB.out | apply below_alloc | apply pw_below_drewN | apply below_drew1 | refine below_set ?_ GE277.out | refine below_set ?_ GE289.out | refine below_set ?_ GE291.out) | exact HB.out)⟩
                          · replace c66 := Bool.eq_false_iff.mpr c66
                            subst c66
                            have H1 : (some ((⟨#[]⟩ : ByteArray), 0, 0, 0, 0, false)) = some (r1, r2, r3, r4, r5, r6) := by rw [if_neg (show ¬ (false = true) by decide)] at H; exact H
                            clear H
                            have H := H1
                            clear H1
                            simp only [Option.some.injEq, Prod.mk.injEq] at H
                            obtain ⟨rfl, rfl, rfl, rfl, rfl, rfl⟩ := H
                            have hnb86 := NB291_277.out
                            have hnc86 := NB277_291.out
                            have hnb87 := NB291_289.out
                            have hnc87 := NB289_291.out
                            have hcz88_0 : wr.cell? ⟨gb291, 0, none⟩ = some (.string (rdOf ByteArray.empty t278 0)) := (blk_cell BK291.out 0).trans rfl
                            have hcz88_1 : wr.cell? ⟨gb291, 1, none⟩ = some (.int .i64 x292001_4) := (blk_cell BK291.out 1).trans rfl
                            have hcz88_2 : wr.cell? ⟨gb291, 2, none⟩ = some (.int .i64 x292002_4) := (blk_cell BK291.out 2).trans rfl
                            have hcz88_3 : wr.cell? ⟨gb291, 3, none⟩ = some (.int .i64 x292003_4) := (blk_cell BK291.out 3).trans rfl
                            have hcz88_4 : wr.cell? ⟨gb291, 4, none⟩ = some (.int .i64 x292004_4) := (blk_cell BK291.out 4).trans rfl
                            have hfz88_0 := blk_frozen BK291.out 0
                            have hfz88_1 := blk_frozen BK291.out 1
                            have hfz88_2 := blk_frozen BK291.out 2
                            have hfz88_3 := blk_frozen BK291.out 3
                            have hfz88_4 := blk_frozen BK291.out 4
                            go_wp2_with (first | ((with_reducible refine gate_callee (f := 48) rfl ?_); refine goesL_ (some 75) rfl rfl Tryd.func48 (by kernel_rfl) rfl #[.agg #[.string (rdOf ByteArray.empty t278 0), .int .i64 x292001_4, .int .i64 x292002_4, .int .i64 x292003_4, .int .i64 x292004_4]] rfl (by (try simp only [List.map_toArray, List.map_cons, List.map_nil]); first | done | rfl | (simp only [List.length_drop, List.length_take]; rfl)) ?_; (with_reducible refine (impl_IsInstr.calls k4 (rdOf ByteArray.empty t278 0) x292001_4 x292002_4 x292003_4 x292004_4 false _ A65.out).mono ?_); rintro e w89 ⟨rfl, hb⟩; refine ⟨_, rfl, ?_⟩; have n0_ := Aside0.mk (Kd.R_below (by (with_reducible repeat (first | apply Kd.R_alloc | apply Kd.R_drewN | apply Kd.R_drew)); exact HO_4.out) hb); have n1_ := Aside0.mk (Kd.R_below (by (with_reducible repeat (first | apply Kd.R_alloc | apply Kd.R_drewN | apply Kd.R_drew)); exact HO_54.out) hb); have n2_ := Aside0.mk (blk_below (g := gb277) (o := .cells #[.string (⟨#[]⟩ : ByteArray), .int .i64 0, .int .i64 0, .int .i64 0, .int .i64 0] 35 (0, 0)) (by (with_reducible repeat (first | refine blk_drewN ?_ _ | refine blk_drew ?_ | refine blk_alloc ?_ _)); exact BK277.out) hb); have n3_ := Aside0.mk (blk_below (g := gb289) (o := .cells #[.bool t282, .bool t283, .int .i64 t284, .int .i64 t285, .int .i64 t286, .string t287] 89 (0, 0)) (by (with_reducible repeat (first | refine blk_drewN ?_ _ | refine blk_drew ?_ | refine blk_alloc ?_ _)); exact BK289.out) hb); have n4_ := Aside0.mk (blk_below (g := gb291) (o := .cells #[.string (rdOf ByteArray.empty t278 0), .int .i64 x292001_4, .int .i64 x292002_4, .int .i64 x292003_4, .int .i64 x292004_4] 35 (0, 0)) (by (with_reducible repeat (first | refine blk_drewN ?_ _ | refine blk_drew ?_ | refine blk_alloc ?_ _)); exact BK291.out) hb); have n5_ := Aside0.mk (below_step (by repeat (first | (with_reducible first | exact HB.out | apply below_alloc | apply pw_below_drewN | apply below_drew1 | refine below_set ?_ GE277.out | refine below_set ?_ GE289.out | refine below_set ?_ GE291.out) | exact HB.out)) hb); clear HO_4; clear HO_54; clear BK277; clear BK289; clear BK291; clear HB; have HO_4 := n0_; have HO_54 := n1_; have BK277 := n2_; have BK289 := n3_; have BK291 := n4_; have HB := n5_; clear n0_ n1_ n2_ n3_ n4_ n5_; (try clear hb); (try clear hb2); (try clear hk); (try clear hi); have hnb90 := NB277_289.out; have hnc90 := NB289_277.out; have hcz91_0 : w89.cell? ⟨gb277, 0, none⟩ = some (.string (⟨#[]⟩ : ByteArray)) := (blk_cell BK277.out 0).trans rfl; have hcz91_1 : w89.cell? ⟨gb277, 1, none⟩ = some (.int .i64 0) := (blk_cell BK277.out 1).trans rfl; have hcz91_2 : w89.cell? ⟨gb277, 2, none⟩ = some (.int .i64 0) := (blk_cell BK277.out 2).trans rfl; have hcz91_3 : w89.cell? ⟨gb277, 3, none⟩ = some (.int .i64 0) := (blk_cell BK277.out 3).trans rfl; have hcz91_4 : w89.cell? ⟨gb277, 4, none⟩ = some (.int .i64 0) := (blk_cell BK277.out 4).trans rfl; have hfz91_0 := blk_frozen BK277.out 0; have hfz91_1 := blk_frozen BK277.out 1; have hfz91_2 := blk_frozen BK277.out 2; have hfz91_3 := blk_frozen BK277.out 3; have hfz91_4 := blk_frozen BK277.out 4))
                            refine bodyPost_ret (results_ct rfl _ _ gb277 35 #[.string (⟨#[]⟩ : ByteArray), .int .i64 0, .int .i64 0, .int .i64 0, .int .i64 0] (0, 0) _ rfl (by (with_reducible repeat (first | refine blk_drewN ?_ _ | refine blk_drew ?_ | refine blk_alloc ?_ _)); refine blk_put (cs := #[.string (⟨#[]⟩ : ByteArray), .int .i64 0, .int .i64 0, .int .i64 0, .int .i64 0]) ?_ 4 _ rfl; (with_reducible repeat (first | refine blk_drewN ?_ _ | refine blk_drew ?_ | refine blk_alloc ?_ _)); refine blk_put (cs := #[.string (⟨#[]⟩ : ByteArray), .int .i64 0, .int .i64 0, .int .i64 0, .int .i64 0]) ?_ 3 _ rfl; (with_reducible repeat (first | refine blk_drewN ?_ _ | refine blk_drew ?_ | refine blk_alloc ?_ _)); refine blk_put (cs := #[.string (⟨#[]⟩ : ByteArray), .int .i64 0, .int .i64 0, .int .i64 0, .int .i64 0]) ?_ 2 _ rfl; (with_reducible repeat (first | refine blk_drewN ?_ _ | refine blk_drew ?_ | refine blk_alloc ?_ _)); refine blk_put (cs := #[.string (⟨#[]⟩ : ByteArray), .int .i64 0, .int .i64 0, .int .i64 0, .int .i64 0]) ?_ 1 _ rfl; (with_reducible repeat (first | refine blk_drewN ?_ _ | refine blk_drew ?_ | refine blk_alloc ?_ _)); refine blk_put (cs := #[.string (⟨#[]⟩ : ByteArray), .int .i64 0, .int .i64 0, .int .i64 0, .int .i64 0]) ?_ 0 _ rfl; (with_reducible repeat (first | refine blk_drewN ?_ _ | refine blk_drew ?_ | refine blk_alloc ?_ _)); exact BK277.out) Tryd.underlying35 rfl (by kernel_rfl)) rfl ?_
                            exact ⟨by first | rfl | (simp [errW_none, errW_some] <;> rfl) | (simp [*, errW_none, errW_some] <;> rfl), by repeat (first | (with_reducible first | exact HB.out | apply below_alloc | apply pw_below_drewN | apply below_drew1 | refine below_set ?_ GE277.out | refine below_set ?_ GE289.out | refine below_set ?_ GE291.out) | exact HB.out)⟩
                  · rw [if_neg c40] at H
                    have c40b0 : ((t278.length : Int) == (wrap64 ((x8_31.length : Int) + 1))) = false := beq_eq_false_iff_ne.mpr c40
                    have c40b1 : ((t278.length : Int) != (wrap64 ((x8_31.length : Int) + 1))) = true := bne_iff_ne.mpr c40
                    simp only [Option.some.injEq, Prod.mk.injEq] at H
                    obtain ⟨rfl, rfl, rfl, rfl, rfl, rfl⟩ := H
                    obtain ⟨Ao92, co92, eo92⟩ := Kd.R_slice HO_8.out
                    subst eo92
                    have hnb93 := NB277_289.out
                    have hnc93 := NB289_277.out
                    have hnb94 := NB277_291.out
                    have hnc94 := NB291_277.out
                    have hcz95_0 : wc.cell? ⟨gb277, 0, none⟩ = some (.string (⟨#[]⟩ : ByteArray)) := (blk_cell BK277.out 0).trans rfl
                    have hcz95_1 : wc.cell? ⟨gb277, 1, none⟩ = some (.int .i64 0) := (blk_cell BK277.out 1).trans rfl
                    have hcz95_2 : wc.cell? ⟨gb277, 2, none⟩ = some (.int .i64 0) := (blk_cell BK277.out 2).trans rfl
                    have hcz95_3 : wc.cell? ⟨gb277, 3, none⟩ = some (.int .i64 0) := (blk_cell BK277.out 3).trans rfl
                    have hcz95_4 : wc.cell? ⟨gb277, 4, none⟩ = some (.int .i64 0) := (blk_cell BK277.out 4).trans rfl
                    have hfz95_0 := blk_frozen BK277.out 0
                    have hfz95_1 := blk_frozen BK277.out 1
                    have hfz95_2 := blk_frozen BK277.out 2
                    have hfz95_3 := blk_frozen BK277.out 3
                    have hfz95_4 := blk_frozen BK277.out 4
                    go_wp2
                    refine bodyPost_ret (results_ct rfl _ _ gb277 35 #[.string (⟨#[]⟩ : ByteArray), .int .i64 0, .int .i64 0, .int .i64 0, .int .i64 0] (0, 0) _ rfl (by (with_reducible repeat (first | refine blk_drewN ?_ _ | refine blk_drew ?_ | refine blk_alloc ?_ _)); refine blk_put (cs := #[.string (⟨#[]⟩ : ByteArray), .int .i64 0, .int .i64 0, .int .i64 0, .int .i64 0]) ?_ 4 _ rfl; (with_reducible repeat (first | refine blk_drewN ?_ _ | refine blk_drew ?_ | refine blk_alloc ?_ _)); refine blk_put (cs := #[.string (⟨#[]⟩ : ByteArray), .int .i64 0, .int .i64 0, .int .i64 0, .int .i64 0]) ?_ 3 _ rfl; (with_reducible repeat (first | refine blk_drewN ?_ _ | refine blk_drew ?_ | refine blk_alloc ?_ _)); refine blk_put (cs := #[.string (⟨#[]⟩ : ByteArray), .int .i64 0, .int .i64 0, .int .i64 0, .int .i64 0]) ?_ 2 _ rfl; (with_reducible repeat (first | refine blk_drewN ?_ _ | refine blk_drew ?_ | refine blk_alloc ?_ _)); refine blk_put (cs := #[.string (⟨#[]⟩ : ByteArray), .int .i64 0, .int .i64 0, .int .i64 0, .int .i64 0]) ?_ 1 _ rfl; (with_reducible repeat (first | refine blk_drewN ?_ _ | refine blk_drew ?_ | refine blk_alloc ?_ _)); refine blk_put (cs := #[.string (⟨#[]⟩ : ByteArray), .int .i64 0, .int .i64 0, .int .i64 0, .int .i64 0]) ?_ 0 _ rfl; (with_reducible repeat (first | refine blk_drewN ?_ _ | refine blk_drew ?_ | refine blk_alloc ?_ _)); exact BK277.out) Tryd.underlying35 rfl (by kernel_rfl)) rfl ?_
                    exact ⟨by first | rfl | (simp [errW_none, errW_some] <;> rfl) | (simp [*, errW_none, errW_some] <;> rfl), by repeat (first | (with_reducible first | exact HB.out | apply below_alloc | apply pw_below_drewN | apply below_drew1 | refine below_set ?_ GE277.out | refine below_set ?_ GE289.out | refine below_set ?_ GE291.out) | exact HB.out)⟩
    · replace c5 := Bool.eq_false_iff.mpr c5
      subst c5
      have H1 : (some ((⟨#[]⟩ : ByteArray), 0, 0, 0, 0, false)) = some (r1, r2, r3, r4, r5, r6) := by rw [if_neg (show ¬ (false = true) by decide)] at H; exact H
      clear H
      have H := H1
      clear H1
      simp only [Option.some.injEq, Prod.mk.injEq] at H
      obtain ⟨rfl, rfl, rfl, rfl, rfl, rfl⟩ := H
      go_enter Tryd.func29, Tryd.ntmps29
      go_wp2_with (first | ((with_reducible refine gate_dst (N := 2) rfl ?_); refine box_event ?hg (N := 2) ?hd (cs := #[.string (⟨#[]⟩ : ByteArray), .int .i64 0, .int .i64 0, .int .i64 0, .int .i64 0]) (t := 35) ?hr ?_; (case hd => rfl); (case hg => rfl); (case hr => first | (go_simp; done) | (go_simp; rfl)); intro gb277 hg w96 hbox hb; have n0_ := Aside0.mk (below_step (by repeat (first | (with_reducible first | exact HB.out | apply below_alloc | apply pw_below_drewN | apply below_drew1) | exact HB.out)) hb); have n1_ := Aside0.mk (hbox); have n2_ := Aside0.mk ((by rw [hg]; exact (below_size (by repeat (first | (with_reducible first | exact HB.out | apply below_alloc | apply pw_below_drewN | apply below_drew1) | exact HB.out))) : w.heap.size ≤ gb277)); have n3_ := Aside0.mk ((by rw [hg]; exact (below_size (by repeat (first | (with_reducible first | exact HB.out | apply below_alloc | apply pw_below_drewN | apply below_drew1) | exact HB.out))) : w.heap.size ≤ gb277)); clear HB; have HB := n0_; have BK277 := n1_; have GW277 := n2_; have GE277 := n3_; clear n0_ n1_ n2_ n3_; clear hb hbox hg) | ((with_reducible refine gate_callee (f := 63) rfl ?_); refine goesL_ (some 12) rfl rfl Tryd.func63 (by kernel_rfl) rfl #[.string a0, .string (⟨#[32]⟩ : ByteArray)] rfl (by (try simp only [List.map_toArray, List.map_cons, List.map_nil]); first | done | rfl | (simp only [List.length_drop, List.length_take]; rfl)) ?_; (with_reducible refine (strings_Split.calls k a0 (⟨#[32]⟩ : ByteArray) t278 _ A2.out (hT.below (by repeat (first | (with_reducible first | exact HB.out | apply below_alloc | apply pw_below_drewN | apply below_drew1 | refine below_set ?_ GE277.out | refine below_set ?_ GE289.out | refine below_set ?_ GE291.out) | exact HB.out)))).mono ?_); rintro e w97 ⟨v279, rfl, ho0, hb⟩; refine ⟨_, rfl, ?_⟩; have n0_ := Aside0.mk (Kd.R_lower ho0 (below_size (by repeat (first | (with_reducible first | exact HB.out | apply below_alloc | apply pw_below_drewN | apply below_drew1 | refine below_set ?_ GE277.out) | exact HB.out)))); have n1_ := Aside0.mk (blk_below (g := gb277) (o := .cells #[.string (⟨#[]⟩ : ByteArray), .int .i64 0, .int .i64 0, .int .i64 0, .int .i64 0] 35 (0, 0)) (by (with_reducible repeat (first | refine blk_drewN ?_ _ | refine blk_drew ?_ | refine blk_alloc ?_ _)); exact BK277.out) hb); have n2_ := Aside0.mk (below_step (by repeat (first | (with_reducible first | exact HB.out | apply below_alloc | apply pw_below_drewN | apply below_drew1 | refine below_set ?_ GE277.out) | exact HB.out)) hb); clear BK277; clear HB; have HO280 := n0_; have BK277 := n1_; have HB := n2_; clear n0_ n1_ n2_; (try clear hb); (try clear hb2); (try clear hk); (try clear hi); (try clear ho0); obtain ⟨Ao98, co98, eo98⟩ := Kd.R_slice HO280.out; subst eo98; have p281 : 0 ≤ (0 : Int) := (by omega); have q281 : 0 < (t278.length : Int) := of_decide_eq_true (by first | (with_reducible assumption) | assumption); obtain ⟨ad281, e281, hx281_0⟩ := Kd.at_string (Kd.R_reads' HO280.out).2.2 0 p281 q281; cases e281; have qi281 : (0 < t278.length) = True := eq_true (by omega); (try rw [show ((0 : Int)).toNat = 0 from rfl] at hx281_0); (try rw [Addr.add_zero'] at hx281_0); replace p281 := eq_true p281; replace q281 := eq_true q281) | ((with_reducible refine gate_callee (f := 64) rfl ?_); refine goesL_ (some 17) rfl rfl Tryd.func64 (by kernel_rfl) rfl #[.string (rdOf ByteArray.empty t278 0)] rfl (by (try simp only [List.map_toArray, List.map_cons, List.map_nil]); first | done | rfl | (simp only [List.length_drop, List.length_take]; rfl)) ?_; (with_reducible refine (impl_formOf.calls k (rdOf ByteArray.empty t278 0) t282 t283 t284 t285 t286 t287 false _ A4.out).mono ?_); rintro e w99 ⟨rfl, hb⟩; refine ⟨_, rfl, ?_⟩; have n0_ := Aside0.mk (Kd.R_below (by (with_reducible repeat (first | apply Kd.R_alloc | apply Kd.R_drewN | apply Kd.R_drew)); exact HO280.out) hb); have n1_ := Aside0.mk (blk_below (g := gb277) (o := .cells #[.string (⟨#[]⟩ : ByteArray), .int .i64 0, .int .i64 0, .int .i64 0, .int .i64 0] 35 (0, 0)) (by (with_reducible repeat (first | refine blk_drewN ?_ _ | refine blk_drew ?_ | refine blk_alloc ?_ _)); exact BK277.out) hb); have n2_ := Aside0.mk (below_step (by repeat (first | (with_reducible first | exact HB.out | apply below_alloc | apply pw_below_drewN | apply below_drew1 | refine below_set ?_ GE277.out) | exact HB.out)) hb); clear HO280; clear BK277; clear HB; have HO280 := n0_; have BK277 := n1_; have HB := n2_; clear n0_ n1_ n2_; (try clear hb); (try clear hb2); (try clear hk); (try clear hi)) | ((with_reducible refine gate_dst (N := 5) rfl ?_); refine box_event ?hg (N := 5) ?hd (cs := #[.bool false, .bool false, .int .i64 0, .int .i64 0, .int .i64 0, .string (⟨#[]⟩ : ByteArray)]) (t := 89) ?hr ?_; (case hd => rfl); (case hg => rfl); (case hr => first | (go_simp; done) | (go_simp; rfl)); intro gb289 hg w100 hbox hb; have n0_ := Aside0.mk (Kd.R_below (by (with_reducible repeat (first | apply Kd.R_alloc | apply Kd.R_drewN | apply Kd.R_drew)); exact HO280.out) hb); have n1_ := Aside0.mk (blk_below (g := gb277) (o := .cells #[.string (⟨#[]⟩ : ByteArray), .int .i64 0, .int .i64 0, .int .i64 0, .int .i64 0] 35 (0, 0)) (by (with_reducible repeat (first | refine blk_drewN ?_ _ | refine blk_drew ?_ | refine blk_alloc ?_ _)); exact BK277.out) hb); have n2_ := Aside0.mk (below_step (by repeat (first | (with_reducible first | exact HB.out | apply below_alloc | apply pw_below_drewN | apply below_drew1 | refine below_set ?_ GE277.out) | exact HB.out)) hb); have n3_ := Aside0.mk (hbox); have n4_ := Aside0.mk ((by rw [hg]; exact (below_size (by repeat (first | (with_reducible first | exact HB.out | apply below_alloc | apply pw_below_drewN | apply below_drew1 | refine below_set ?_ GE277.out) | exact HB.out))) : w.heap.size ≤ gb289)); have n5_ := Aside0.mk ((by rw [hg]; exact (below_size (by repeat (first | (with_reducible first | exact HB.out | apply below_alloc | apply pw_below_drewN | apply below_drew1 | refine below_set ?_ GE277.out) | exact HB.out))) : w.heap.size ≤ gb289)); have n6_ := Aside0.mk ((by rw [hg]; exact Nat.ne_of_lt (blk_lt (g := gb277) (o := .cells #[.string (⟨#[]⟩ : ByteArray), .int .i64 0, .int .i64 0, .int .i64 0, .int .i64 0] 35 (0, 0)) (by (with_reducible repeat (first | refine blk_drewN ?_ _ | refine blk_drew ?_ | refine blk_alloc ?_ _)); exact BK277.out)) : gb277 ≠ gb289)); have n7_ := Aside0.mk ((by rw [hg]; exact Nat.ne_of_gt (blk_lt (g := gb277) (o := .cells #[.string (⟨#[]⟩ : ByteArray), .int .i64 0, .int .i64 0, .int .i64 0, .int .i64 0] 35 (0, 0)) (by (with_reducible repeat (first | refine blk_drewN ?_ _ | refine blk_drew ?_ | refine blk_alloc ?_ _)); exact BK277.out)) : gb289 ≠ gb277)); clear HO280; clear BK277; clear HB; have HO280 := n0_; have BK277 := n1_; have HB := n2_; have BK289 := n3_; have GW289 := n4_; have GE289 := n5_; have NB277_289 := n6_; have NB289_277 := n7_; clear n0_ n1_ n2_ n3_ n4_ n5_ n6_ n7_; clear hb hbox hg; have hnb101 := NB289_277.out; have hnc101 := NB277_289.out; have hcz102_0 : w100.cell? ⟨gb289, 0, none⟩ = some (.bool false) := (blk_cell BK289.out 0).trans rfl; have hcz102_1 : w100.cell? ⟨gb289, 1, none⟩ = some (.bool false) := (blk_cell BK289.out 1).trans rfl; have hcz102_2 : w100.cell? ⟨gb289, 2, none⟩ = some (.int .i64 0) := (blk_cell BK289.out 2).trans rfl; have hcz102_3 : w100.cell? ⟨gb289, 3, none⟩ = some (.int .i64 0) := (blk_cell BK289.out 3).trans rfl; have hcz102_4 : w100.cell? ⟨gb289, 4, none⟩ = some (.int .i64 0) := (blk_cell BK289.out 4).trans rfl; have hcz102_5 : w100.cell? ⟨gb289, 5, none⟩ = some (.string (⟨#[]⟩ : ByteArray)) := (blk_cell BK289.out 5).trans rfl; have hfz102_0 := blk_frozen BK289.out 0; have hfz102_1 := blk_frozen BK289.out 1; have hfz102_2 := blk_frozen BK289.out 2; have hfz102_3 := blk_frozen BK289.out 3; have hfz102_4 := blk_frozen BK289.out 4; have hfz102_5 := blk_frozen BK289.out 5; have hcz103_0 : w100.cell? ⟨gb277, 0, none⟩ = some (.string (⟨#[]⟩ : ByteArray)) := (blk_cell BK277.out 0).trans rfl; have hcz103_1 : w100.cell? ⟨gb277, 1, none⟩ = some (.int .i64 0) := (blk_cell BK277.out 1).trans rfl; have hcz103_2 : w100.cell? ⟨gb277, 2, none⟩ = some (.int .i64 0) := (blk_cell BK277.out 2).trans rfl; have hcz103_3 : w100.cell? ⟨gb277, 3, none⟩ = some (.int .i64 0) := (blk_cell BK277.out 3).trans rfl; have hcz103_4 : w100.cell? ⟨gb277, 4, none⟩ = some (.int .i64 0) := (blk_cell BK277.out 4).trans rfl; have hfz103_0 := blk_frozen BK277.out 0; have hfz103_1 := blk_frozen BK277.out 1; have hfz103_2 := blk_frozen BK277.out 2; have hfz103_3 := blk_frozen BK277.out 3; have hfz103_4 := blk_frozen BK277.out 4))
      refine bodyPost_ret (results_ct rfl _ _ gb277 35 #[.string (⟨#[]⟩ : ByteArray), .int .i64 0, .int .i64 0, .int .i64 0, .int .i64 0] (0, 0) _ rfl (by (with_reducible repeat (first | refine blk_drewN ?_ _ | refine blk_drew ?_ | refine blk_alloc ?_ _)); refine blk_put (cs := #[.string (⟨#[]⟩ : ByteArray), .int .i64 0, .int .i64 0, .int .i64 0, .int .i64 0]) ?_ 4 _ rfl; (with_reducible repeat (first | refine blk_drewN ?_ _ | refine blk_drew ?_ | refine blk_alloc ?_ _)); refine blk_put (cs := #[.string (⟨#[]⟩ : ByteArray), .int .i64 0, .int .i64 0, .int .i64 0, .int .i64 0]) ?_ 3 _ rfl; (with_reducible repeat (first | refine blk_drewN ?_ _ | refine blk_drew ?_ | refine blk_alloc ?_ _)); refine blk_put (cs := #[.string (⟨#[]⟩ : ByteArray), .int .i64 0, .int .i64 0, .int .i64 0, .int .i64 0]) ?_ 2 _ rfl; (with_reducible repeat (first | refine blk_drewN ?_ _ | refine blk_drew ?_ | refine blk_alloc ?_ _)); refine blk_put (cs := #[.string (⟨#[]⟩ : ByteArray), .int .i64 0, .int .i64 0, .int .i64 0, .int .i64 0]) ?_ 1 _ rfl; (with_reducible repeat (first | refine blk_drewN ?_ _ | refine blk_drew ?_ | refine blk_alloc ?_ _)); refine blk_put (cs := #[.string (⟨#[]⟩ : ByteArray), .int .i64 0, .int .i64 0, .int .i64 0, .int .i64 0]) ?_ 0 _ rfl; (with_reducible repeat (first | refine blk_drewN ?_ _ | refine blk_drew ?_ | refine blk_alloc ?_ _)); refine blk_far ?_ NB277_289.out _; (with_reducible repeat (first | refine blk_drewN ?_ _ | refine blk_drew ?_ | refine blk_alloc ?_ _)); refine blk_far ?_ NB277_289.out _; (with_reducible repeat (first | refine blk_drewN ?_ _ | refine blk_drew ?_ | refine blk_alloc ?_ _)); refine blk_far ?_ NB277_289.out _; (with_reducible repeat (first | refine blk_drewN ?_ _ | refine blk_drew ?_ | refine blk_alloc ?_ _)); refine blk_far ?_ NB277_289.out _; (with_reducible repeat (first | refine blk_drewN ?_ _ | refine blk_drew ?_ | refine blk_alloc ?_ _)); refine blk_far ?_ NB277_289.out _; (with_reducible repeat (first | refine blk_drewN ?_ _ | refine blk_drew ?_ | refine blk_alloc ?_ _)); refine blk_far ?_ NB277_289.out _; (with_reducible repeat (first | refine blk_drewN ?_ _ | refine blk_drew ?_ | refine blk_alloc ?_ _)); exact BK277.out) Tryd.underlying35 rfl (by kernel_rfl)) rfl ?_
      exact ⟨by first | rfl | (simp [errW_none, errW_some] <;> rfl) | (simp [*, errW_none, errW_some] <;> rfl), by repeat (first | (with_reducible first | exact HB.out | apply below_alloc | apply pw_below_drewN | apply below_drew1 | refine below_set ?_ GE277.out | refine below_set ?_ GE289.out) | exact HB.out)⟩
  · rw [if_neg c3] at H
    exact absurd H (by simp)
end Go.Proofs.YtjeklcgflocfoaaDoor.P
