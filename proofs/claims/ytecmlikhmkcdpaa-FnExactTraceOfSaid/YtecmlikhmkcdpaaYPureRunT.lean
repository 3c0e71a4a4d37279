/- What an instruction writes, and what code does to the registers: one answer of both sides. Plain. -/
import Derived.Test.YtecmlikhmkcdpaaYPureWords
import Derived.Test.YtecmlikhmkcdpaaYPureCode
import Derived.Test.YtecmlikhmkcdpaaYPureApply
import Derived.Test.YtecmlikhmkcdpaaGImplRun
namespace Go.Proofs.Ytecmlikhmkcdpaa.PureOps
open Go.RowKit Go.Proofs.Ytecmlikhmkcdpaa.G Go.Proofs.YtecmlikhmkcdpaaW.PrintWords Go.Proofs.YtecmlikhmkcdpaaW.PrintLast Go.Proofs.YtecmlikhmkcdpaaW.PrintMore
set_option linter.unusedVariables false
set_option linter.unusedSimpArgs false
theorem shape_bounds (o : List UInt8) : 0 ≤ (shape o).2.2.1 ∧ (shape o).2.2.2.1 ≤ 63 := by
  unfold shape
  repeat' split
  all_goals simp
theorem goodI_facts {o : List UInt8} {d a b m : Int} (h : goodI o d a b m = true) : (0 ≤ d ∧ d ≤ 5) ∧ (0 ≤ a ∧ a ≤ 5) ∧ (0 ≤ b ∧ b ≤ 5) ∧ 0 ≤ m ∧ m ≤ 63 := by
  have hs := shape_bounds o
  unfold goodI at h
  simp only [Bool.and_eq_true, Bool.or_eq_true, decide_eq_true_eq, beq_iff_eq, Bool.not_eq_true', decide_eq_false_iff_not, reg_iff] at h
  obtain ⟨h1, _, h2, h3, h4⟩ := h
  refine ⟨h2, ?_, ?_, ?_⟩
  · rcases h3 with h3 | h3
    · exact h3.2
    · omega
  · rcases h4 with h4 | h4
    · exact h4.2
    · omega
  · rcases h1 with h1 | h1 <;> omega
theorem j0w (k : Nat) (o p : ByteArray) (h : o.extract 0 3 = p) (hs : 3 ≤ o.size) (x y d a b m : Int) (hm : 0 ≤ m) : impl_Instr_word.j0 (k + 1) x y true o d a b m = some (app p x m) := by
  simp only [impl_Instr_word.j0]
  rw [if_pos trivial, if_pos (by decide), if_pos (by omega), h, app_impl _ _ _ hm]
  rfl
theorem cut_addi {o : ByteArray} (h : o.toList = [97, 100, 100, 105]) : o.extract 0 3 = (⟨#[97, 100, 100]⟩ : ByteArray) ∧ 3 ≤ o.size := by
  have e : o = (⟨#[97, 100, 100, 105]⟩ : ByteArray) := toList_inj (h.trans (by decide +kernel))
  rw [e]
  exact ⟨toList_inj (by decide +kernel), by decide⟩
theorem cut_andi {o : ByteArray} (h : o.toList = [97, 110, 100, 105]) : o.extract 0 3 = (⟨#[97, 110, 100]⟩ : ByteArray) ∧ 3 ≤ o.size := by
  have e : o = (⟨#[97, 110, 100, 105]⟩ : ByteArray) := toList_inj (h.trans (by decide +kernel))
  rw [e]
  exact ⟨toList_inj (by decide +kernel), by decide⟩
theorem cut_xori {o : ByteArray} (h : o.toList = [120, 111, 114, 105]) : o.extract 0 3 = (⟨#[120, 111, 114]⟩ : ByteArray) ∧ 3 ≤ o.size := by
  have e : o = (⟨#[120, 111, 114, 105]⟩ : ByteArray) := toList_inj (h.trans (by decide +kernel))
  rw [e]
  exact ⟨toList_inj (by decide +kernel), by decide⟩
theorem cut_shli {o : ByteArray} (h : o.toList = [115, 104, 108, 105]) : o.extract 0 3 = (⟨#[115, 104, 108]⟩ : ByteArray) ∧ 3 ≤ o.size := by
  have e : o = (⟨#[115, 104, 108, 105]⟩ : ByteArray) := toList_inj (h.trans (by decide +kernel))
  rw [e]
  exact ⟨toList_inj (by decide +kernel), by decide⟩
theorem cut_shri {o : ByteArray} (h : o.toList = [115, 104, 114, 105]) : o.extract 0 3 = (⟨#[115, 104, 114]⟩ : ByteArray) ∧ 3 ≤ o.size := by
  have e : o = (⟨#[115, 104, 114, 105]⟩ : ByteArray) := toList_inj (h.trans (by decide +kernel))
  rw [e]
  exact ⟨toList_inj (by decide +kernel), by decide⟩
theorem word_ex (k : Nat) (o : ByteArray) (d a b m : Int) (u : List Int) (hl : u.length = 6) (hw : words u) (ha : 0 ≤ a ∧ a ≤ 5) (hb : 0 ≤ b ∧ b ≤ 5) (hm : 0 ≤ m ∧ m ≤ 63) :
    ∃ v, spec_cdValue.f o d a b m u = some v ∧ impl_Instr_word.f (k + 1) o d a b m (rd u a) (rd u b) = some v ∧ 0 ≤ v ∧ v ≤ 63 := by
  have wa := rd_word hw a
  have wb := rd_word hw b
  unfold spec_cdValue.f impl_Instr_word.f
  rw [if_pos ha.1, if_pos (by omega), if_pos hb.1, if_pos (by omega)]
  by_cases h0 : o.toList = [115, 101, 116]
  · exact ⟨m, by rw [if_pos h0], by rw [if_pos h0], hm⟩
  by_cases h1 : o.toList = [109, 111, 118]
  · exact ⟨rd u a, by rw [if_neg h0, if_pos h1], by rw [if_neg h0, if_pos h1], wa⟩
  by_cases h2 : o.toList = [97, 100, 100, 105]
  · obtain ⟨hc, hs⟩ := cut_addi h2
    refine ⟨app (⟨#[97, 100, 100]⟩ : ByteArray) (rd u a) m, ?_, ?_, app_word _ _ _⟩
    · rw [if_neg h0, if_neg h1, if_pos h2, app_spec _ _ _ hm.1]; rfl
    · rw [if_neg h0, if_neg h1, if_neg (show ¬ o.toList = [108, 101, 97] by rw [h2]; decide), if_pos h2, show (o.toList == [97, 100, 100, 105]) = true from beq_iff_eq.2 h2]
      exact j0w k o _ hc hs _ _ _ _ _ _ hm.1
  by_cases h3 : o.toList = [97, 110, 100, 105]
  · obtain ⟨hc, hs⟩ := cut_andi h3
    refine ⟨app (⟨#[97, 110, 100]⟩ : ByteArray) (rd u a) m, ?_, ?_, app_word _ _ _⟩
    · rw [if_neg h0, if_neg h1, if_neg h2, if_pos h3, app_spec _ _ _ hm.1]; rfl
    · rw [if_neg h0, if_neg h1, if_neg (show ¬ o.toList = [108, 101, 97] by rw [h3]; decide), if_neg h2, if_pos h3, show (o.toList == [97, 110, 100, 105]) = true from beq_iff_eq.2 h3]
      exact j0w k o _ hc hs _ _ _ _ _ _ hm.1
  by_cases h4 : o.toList = [120, 111, 114, 105]
  · obtain ⟨hc, hs⟩ := cut_xori h4
    refine ⟨app (⟨#[120, 111, 114]⟩ : ByteArray) (rd u a) m, ?_, ?_, app_word _ _ _⟩
    · rw [if_neg h0, if_neg h1, if_neg h2, if_neg h3, if_pos h4, app_spec _ _ _ hm.1]; rfl
    · rw [if_neg h0, if_neg h1, if_neg (show ¬ o.toList = [108, 101, 97] by rw [h4]; decide), if_neg h2, if_neg h3, if_pos h4, show (o.toList == [120, 111, 114, 105]) = true from beq_iff_eq.2 h4]
      exact j0w k o _ hc hs _ _ _ _ _ _ hm.1
  by_cases h5 : o.toList = [115, 104, 108, 105]
  · obtain ⟨hc, hs⟩ := cut_shli h5
    refine ⟨app (⟨#[115, 104, 108]⟩ : ByteArray) (rd u a) m, ?_, ?_, app_word _ _ _⟩
    · rw [if_neg h0, if_neg h1, if_neg h2, if_neg h3, if_neg h4, if_pos h5, app_spec _ _ _ hm.1]; rfl
    · rw [if_neg h0, if_neg h1, if_neg (show ¬ o.toList = [108, 101, 97] by rw [h5]; decide), if_neg h2, if_neg h3, if_neg h4, if_pos h5, show (o.toList == [115, 104, 108, 105]) = true from beq_iff_eq.2 h5]
      exact j0w k o _ hc hs _ _ _ _ _ _ hm.1
  by_cases h6 : o.toList = [115, 104, 114, 105]
  · obtain ⟨hc, hs⟩ := cut_shri h6
    refine ⟨app (⟨#[115, 104, 114]⟩ : ByteArray) (rd u a) m, ?_, ?_, app_word _ _ _⟩
    · rw [if_neg h0, if_neg h1, if_neg h2, if_neg h3, if_neg h4, if_neg h5, if_pos h6, app_spec _ _ _ hm.1]; rfl
    · rw [if_neg h0, if_neg h1, if_neg (show ¬ o.toList = [108, 101, 97] by rw [h6]; decide), if_neg h2, if_neg h3, if_neg h4, if_neg h5, show (o.toList == [115, 104, 114, 105]) = true from beq_iff_eq.2 h6]
      exact j0w k o _ hc hs _ _ _ _ _ _ hm.1
  by_cases h7 : o.toList = [108, 101, 97]
  · refine ⟨app (⟨#[97, 100, 100]⟩ : ByteArray) (rd u a) (app (⟨#[115, 104, 108]⟩ : ByteArray) (rd u b) m), ?_, ?_, app_word _ _ _⟩
    · rw [if_neg h0, if_neg h1, if_neg h2, if_neg h3, if_neg h4, if_neg h5, if_neg h6, if_pos h7, app_spec _ _ _ hm.1, Option.bind_some, app_spec _ _ _ (app_word _ _ _).1]; rfl
    · rw [if_neg h0, if_neg h1, if_pos h7, app_impl _ _ _ hm.1, Option.bind_some, app_impl _ _ _ (app_word _ _ _).1]; rfl
  refine ⟨app o (rd u a) (rd u b), ?_, ?_, app_word _ _ _⟩
  · rw [if_neg h0, if_neg h1, if_neg h2, if_neg h3, if_neg h4, if_neg h5, if_neg h6, if_neg h7, app_spec _ _ _ wb.1]; rfl
  · rw [if_neg h0, if_neg h1, if_neg h7, if_neg h2, if_neg h3, if_neg h4, if_neg h5, show (o.toList == [115, 104, 114, 105]) = false from beq_eq_false_iff_ne.2 h6]
    simp only [impl_Instr_word.j0]
    rw [if_neg (by decide), app_impl _ _ _ wb.1]; rfl
/-- What an instruction writes. -/
def valI (x : IInstr) (u : List Int) : Int := (spec_cdValue.f x.f0 x.f1 x.f2 x.f3 x.f4 u).getD 0
theorem word_f (k : Nat) (hk : 0 < k) {x : IInstr} (hg : good1 x = true) {u : List Int} (hl : u.length = 6) (hw : words u) :
    spec_cdValue.f x.f0 x.f1 x.f2 x.f3 x.f4 u = some (valI x u) ∧ impl_Instr_word.f k x.f0 x.f1 x.f2 x.f3 x.f4 (rd u x.f2) (rd u x.f3) = some (valI x u) ∧ 0 ≤ valI x u ∧ valI x u ≤ 63 := by
  obtain ⟨k, rfl⟩ : ∃ m, k = m + 1 := ⟨k - 1, by omega⟩
  obtain ⟨f1, f2, f3, f4⟩ := goodI_facts hg
  obtain ⟨v, h1, h2, h3⟩ := word_ex k x.f0 x.f1 x.f2 x.f3 x.f4 u hl hw f2 f3 f4
  have : valI x u = v := by unfold valI; rw [h1]; rfl
  rw [this]
  exact ⟨h1, h2, h3⟩
/-- The registers behind an instruction. -/
def stepL (u : List Int) (x : IInstr) : List Int := u.set x.f1.toNat (valI x u)
theorem stepL_ok {x : IInstr} (hg : good1 x = true) {u : List Int} (hl : u.length = 6) (hw : words u) : (stepL u x).length = 6 ∧ words (stepL u x) := by
  refine ⟨by unfold stepL; rw [List.length_set]; exact hl, fun z hz => ?_⟩
  rcases List.mem_or_eq_of_mem_set hz with h | h
  · exact hw z h
  · rw [h]; exact (word_f 1 (by omega) hg hl hw).2.2
theorem own_f (u : List Int) (hl : u.length ≤ 1048576) : spec_l1Own.f u = some u := by
  unfold spec_l1Own.f
  rw [Option.bind_some, if_pos (by simp; omega)]; rfl
theorem step_f {x : IInstr} (hg : good1 x = true) {u : List Int} (hl : u.length = 6) (hw : words u) : spec_cdStep.f x.f0 x.f1 x.f2 x.f3 x.f4 u = some (stepL u x) := by
  obtain ⟨f1, _⟩ := goodI_facts hg
  unfold spec_cdStep.f
  rw [own_f u (by omega), Option.bind_some, (word_f 1 (by omega) hg hl hw).1, Option.bind_some, if_pos f1.1, if_pos (by omega)]; rfl
theorem run_main (xs : List IInstr) (hx : ∀ x ∈ xs, good1 x = true) (hn : xs.length ≤ 1048576) (d : Nat) : ∀ (k i : Nat) (u : List Int), i + d = xs.length → d + 5 < k → u.length = 6 → words u →
    impl_run.l0 k u xs (xs.length : Int) (i : Int) = some ((xs.drop i).foldl stepL u) ∧ ((xs.drop i).foldl stepL u).length = 6 ∧ words ((xs.drop i).foldl stepL u) := by
  induction d with
  | zero =>
    intro k i u h hk hl hw
    obtain ⟨k, rfl⟩ : ∃ m, k = m + 1 := ⟨k - 1, by omega⟩
    simp only [impl_run.l0]
    rw [if_neg (by omega), List.drop_eq_nil_of_le (by omega)]
    exact ⟨rfl, hl, hw⟩
  | succ d ih =>
    intro k i u h hk hl hw
    obtain ⟨k, rfl⟩ : ∃ m, k = m + 1 := ⟨k - 1, by omega⟩
    have hi : i < xs.length := by omega
    have hg := hx _ (List.getElem_mem hi)
    obtain ⟨f1, f2, f3, f4⟩ := goodI_facts hg
    obtain ⟨s1, s2⟩ := stepL_ok hg hl hw
    have IH := ih k (i + 1) (stepL u xs[i]) (by omega) (by omega) s1 s2
    rw [List.drop_eq_getElem_cons hi, List.foldl_cons]
    refine ⟨?_, IH.2⟩
    · simp only [impl_run.l0]
      rw [if_pos (by omega), if_pos (by omega), if_pos (by omega), rdI xs i hi, if_pos f2.1, if_pos (by omega), if_pos f3.1, if_pos (by omega), (word_f k (by omega) hg hl hw).2.1, Option.bind_some, if_pos f1.1, if_pos (by omega), wrapS hi (by omega)]
      exact IH.1
/-- The registers behind code. -/
def runL (xs : List IInstr) (u : List Int) : List Int := xs.foldl stepL u
theorem codeOk_all {xs : List IInstr} (h : codeOk xs = true) : xs.length ≤ 40 ∧ ∀ x ∈ xs, good1 x = true := by
  unfold codeOk at h
  simp only [Bool.and_eq_true, decide_eq_true_eq, List.all_eq_true] at h
  exact h
theorem run_f (k : Nat) (xs : List IInstr) (hx : ∀ x ∈ xs, good1 x = true) (hn : xs.length ≤ 40) (hk : 60 < k) (u : List Int) (hl : u.length = 6) (hw : words u) : impl_run.f k xs u = some (runL xs u) :=
  (run_main xs hx (by omega) xs.length k 0 u (by omega) (by omega) hl hw).1
end Go.Proofs.Ytecmlikhmkcdpaa.PureOps
