/- KnownOf of the program and of the reference agree for all arguments. -/
import Derived.Test.YtjeklcgflocfoaaDoorZPureOps
import Derived.Test.YtjeklcgflocfoaaDoorZPureBits
import Derived.Test.YtjeklcgflocfoaaDoorMKinds
import Derived.Test.YtjeklcgflocfoaaDoorCLawsFnExactKnownOf
namespace Go.Proofs.YtjeklcgflocfoaaDoor.PureOps
open Go.RowKit Go.Proofs.YtjeklcgflocfoaaDoor.C Go.Proofs.YtjeklcgflocfoaaDoorW.PrintWords Go.Proofs.YtjeklcgflocfoaaDoorW.PrintLast Go.Proofs.YtjeklcgflocfoaaDoorW.PrintMore Go.Proofs.YtjeklcgflocfoaaDoor.MKinds
set_option linter.unusedVariables false
set_option linter.unusedSimpArgs false
/-- A word. -/
def Wd (x : Int) : Prop := 0 ≤ x ∧ x ≤ 63
/-- How many of the lowest bits of a word are 1. -/
def tr (x : Int) : Int := (spec_eqLow.f 8 x).getD 0
/-- So many lowest bits. -/
def msk (t : Int) : Int := wrap64 ((shl .i64 1 t) - 1)
/-- No more than six. -/
def six (t : Int) : Int := if 6 < t then 6 else t
theorem tr64 : ∀ m : Fin 64, spec_eqLow.f 8 (m.val : Int) = some (tr (m.val : Int)) ∧ 0 ≤ tr (m.val : Int) ∧ tr (m.val : Int) ≤ 6 := by decide +kernel
theorem and_word64 : ∀ m n : Fin 64, 0 ≤ Go.bits .and .i64 (m.val : Int) (n.val : Int) ∧ Go.bits .and .i64 (m.val : Int) (n.val : Int) ≤ 63 := by decide +kernel
theorem low13 : ∀ t : Fin 13, impl_lowest.f (t.val : Int) = some (msk (six (t.val : Int))) := by decide +kernel
theorem msk7 : ∀ t : Fin 7, 0 ≤ msk (t.val : Int) ∧ msk (t.val : Int) ≤ 63 := by decide +kernel
theorem xor64 : ∀ m n : Fin 64, Go.bits .andNot .i64 (m.val : Int) (Go.bits .and .i64 (n.val : Int) (m.val : Int)) = Go.bits .andNot .i64 (m.val : Int) (n.val : Int) ∧ Go.bits .and .i64 (n.val : Int) (m.val : Int) = Go.bits .and .i64 (m.val : Int) (n.val : Int) := by decide +kernel
theorem andNot0_64 : ∀ m : Fin 64, Go.bits .andNot .i64 (m.val : Int) 0 = (m.val : Int) := by decide +kernel
theorem and63_64 : ∀ m : Fin 64, Go.bits .and .i64 63 (m.val : Int) = (m.val : Int) := by decide +kernel
theorem sub_neg64 : ∀ m : Fin 64, impl_apply.f (⟨#[115, 117, 98]⟩ : ByteArray) 0 (m.val : Int) = spec_exApply.f (⟨#[110, 101, 103]⟩ : ByteArray) (m.val : Int) 0 := by decide +kernel
theorem shl64 : ∀ (m : Fin 64) (n : Fin 6), Go.bits .and .i64 (Go.bits .or .i64 (shl .i64 (m.val : Int) (n.val : Int)) (msk (n.val : Int))) 63 = Go.bits .or .i64 (Go.bits .and .i64 (shl .i64 (m.val : Int) (n.val : Int)) 63) (msk (n.val : Int)) := by decide +kernel
theorem zeros64 : ∀ z o : Fin 64, Go.bits .and .i64 (z.val : Int) (o.val : Int) = 0 → o.val % 2 ^ (tr (z.val : Int)).toNat = 0 := by decide +kernel
theorem low_zero : ∀ (t : Fin 7) (w : Fin 64), w.val % 2 ^ t.val = 0 → Go.bits .and .i64 (w.val : Int) (msk (t.val : Int)) = 0 := by decide +kernel
theorem keep3 : ∀ (s t : Fin 7) (w : Fin 64), Go.bits .and .i64 (w.val : Int) (msk (t.val : Int)) = 0 →
    Go.bits .andNot .i64 (Go.bits .and .i64 (msk (s.val : Int)) (w.val : Int)) (Go.bits .or .i64 (Go.bits .andNot .i64 (msk (s.val : Int)) (w.val : Int)) (msk (t.val : Int))) = Go.bits .and .i64 (msk (s.val : Int)) (w.val : Int) := by decide +kernel
theorem as7 {x : Int} (h : 0 ≤ x ∧ x ≤ 6) : ∃ m : Fin 7, x = (m.val : Int) := ⟨⟨x.toNat, by omega⟩, by show x = (x.toNat : Int); omega⟩
theorem and_word {x y : Int} (h : Wd x) (h' : Wd y) : Wd (Go.bits .and .i64 x y) := by
  obtain ⟨m, rfl⟩ := as_fin h; obtain ⟨n, rfl⟩ := as_fin h'; exact and_word64 m n
theorem tr_word {x : Int} (h : Wd x) : 0 ≤ tr x ∧ tr x ≤ 6 := by obtain ⟨m, rfl⟩ := as_fin h; exact (tr64 m).2
theorem eqLow_up (x : Int) (r : Int) : ∀ j k : Nat, j ≤ k → spec_eqLow.f j x = some r → spec_eqLow.f k x = some r := by
  intro j k h e
  induction h with
  | refl => exact e
  | step _ ih => exact spec_eqLow.mono x _ r ih
theorem eqLow_f (k : Nat) (hk : 8 ≤ k) {x : Int} (h : Wd x) : spec_eqLow.f k x = some (tr x) := by
  obtain ⟨m, rfl⟩ := as_fin h
  exact eqLow_up _ _ 8 k hk (tr64 m).1
theorem trailing_f (k : Nat) {x : Int} (h : Wd x) : impl_trailing.f k x = some (tr x) := by
  unfold impl_trailing.f
  have := h.1; have := h.2
  rw [if_pos ⟨h.1, by omega⟩, eqLow_f 8 (by omega) h]
theorem lowest_f {t : Int} (h0 : 0 ≤ t) (h1 : t ≤ 12) : impl_lowest.f t = some (msk (six t)) := by
  have := low13 ⟨t.toNat, by omega⟩
  have e : ((t.toNat : Nat) : Int) = t := by omega
  simpa only [e] using this
theorem six_small {t : Int} (h : t ≤ 6) : six t = t := by unfold six; rw [if_neg (by omega)]
theorem eqAt_f (w : Int) {t : Int} (h : 0 ≤ t) : spec_eqAt.f w t = some (Go.bits .andNot .i64 (msk t) w, Go.bits .and .i64 (msk t) w) := by
  unfold spec_eqAt.f
  rw [if_pos h]; rfl
theorem least_f (t : Int) : spec_l1Least.f 6 t = some (six t) := by
  unfold spec_l1Least.f six
  split <;> rfl
theorem six_word {t : Int} (h : 0 ≤ t) : 0 ≤ six t ∧ six t ≤ 6 := by unfold six; split <;> omega
theorem xor_both {m n : Int} (h : Wd m) (h' : Wd n) : Go.bits .andNot .i64 m (Go.bits .and .i64 n m) = Go.bits .andNot .i64 m n ∧ Go.bits .and .i64 n m = Go.bits .and .i64 m n := by
  obtain ⟨m, rfl⟩ := as_fin h; obtain ⟨n, rfl⟩ := as_fin h'; exact xor64 m n
/-- A product of numbers with so many zeros has so many zeros. -/
theorem mul_zero_low {aZ aO bZ bO : Int} (h1 : Wd aZ) (h2 : Wd aO) (h3 : Wd bZ) (h4 : Wd bO) (ha : Go.bits .and .i64 aZ aO = 0) (hb : Go.bits .and .i64 bZ bO = 0) {o : ByteArray} (ho : o.toList = [109, 117, 108]) :
    Go.bits .and .i64 (app o aO bO) (msk (six (tr aZ + tr bZ))) = 0 := by
  have e : app o aO bO = (aO * bO) % 64 := by
    have hp : 0 ≤ aO * bO := Int.mul_nonneg h2.1 h4.1
    have hq : aO * bO ≤ 63 * 63 := Int.mul_le_mul h2.2 h4.2 h4.1 (by omega)
    unfold app spec_exApply.f
    rw [ho, if_neg (by decide), if_neg (by decide), if_neg (by decide), if_neg (by decide), if_pos rfl]
    rw [wrap64_small (by omega) (by omega), and63]
    rfl
  obtain ⟨z1, rfl⟩ := as_fin h1
  obtain ⟨o1, rfl⟩ := as_fin h2
  obtain ⟨z2, rfl⟩ := as_fin h3
  obtain ⟨o2, rfl⟩ := as_fin h4
  have d1 := Nat.dvd_of_mod_eq_zero (zeros64 z1 o1 ha)
  have d2 := Nat.dvd_of_mod_eq_zero (zeros64 z2 o2 hb)
  have t1 := (tr64 z1).2
  have t2 := (tr64 z2).2
  have s := six_word (t := tr (z1.val : Int) + tr (z2.val : Int)) (by omega)
  have le : (six (tr (z1.val : Int) + tr (z2.val : Int))).toNat ≤ (tr (z1.val : Int)).toNat + (tr (z2.val : Int)).toNat := by
    unfold six; split <;> omega
  have d : 2 ^ (six (tr (z1.val : Int) + tr (z2.val : Int))).toNat ∣ o1.val * o2.val :=
    Nat.dvd_trans (Nat.pow_dvd_pow 2 le) (by rw [Nat.pow_add]; exact Nat.mul_dvd_mul d1 d2)
  have d64 : 2 ^ (six (tr (z1.val : Int) + tr (z2.val : Int))).toNat ∣ 64 := Nat.pow_dvd_pow 2 (show _ ≤ 6 by omega)
  have lz := low_zero ⟨(six (tr (z1.val : Int) + tr (z2.val : Int))).toNat, by omega⟩ ⟨(o1.val * o2.val) % 64, Nat.mod_lt _ (by omega)⟩
    (Nat.mod_eq_zero_of_dvd ((Nat.dvd_mod_iff d64).2 d))
  have e1 : (((six (tr (z1.val : Int) + tr (z2.val : Int))).toNat : Nat) : Int) = six (tr (z1.val : Int) + tr (z2.val : Int)) := by omega
  rw [e]
  have e2 : ((z1.val : Int) * 0 + ((o1.val : Int) * (o2.val : Int)) % 64) = (((o1.val * o2.val) % 64 : Nat) : Int) := by
    rw [Int.mul_zero, Int.zero_add]; push_cast; rfl
  rw [Int.mul_zero, Int.zero_add] at e2
  rw [e2]
  simpa only [e1] using lz
theorem keep_f {w s t : Int} (hw : Wd w) (hs : 0 ≤ s ∧ s ≤ 6) (ht : 0 ≤ t ∧ t ≤ 6) (h : Go.bits .and .i64 w (msk t) = 0) :
    Go.bits .andNot .i64 (Go.bits .and .i64 (msk s) w) (Go.bits .or .i64 (Go.bits .andNot .i64 (msk s) w) (msk t)) = Go.bits .and .i64 (msk s) w := by
  obtain ⟨w, rfl⟩ := as_fin hw; obtain ⟨s, rfl⟩ := as7 hs; obtain ⟨t, rfl⟩ := as7 ht
  exact keep3 s t w h
/-- The difference of nothing and a word's bits. -/
theorem sub_rule (k : Nat) {Z O : Int} (hZ : Wd Z) (hO : Wd O) (hn : Go.bits .or .i64 Z O ≠ 63) :
    impl_knownOf.f (k + 20) (⟨#[115, 117, 98]⟩ : ByteArray) 63 0 Z O = some (Go.bits .andNot .i64 (msk (tr (Go.bits .or .i64 Z O))) (app (⟨#[110, 101, 103]⟩ : ByteArray) O 0), Go.bits .and .i64 (msk (tr (Go.bits .or .i64 Z O))) (app (⟨#[110, 101, 103]⟩ : ByteArray) O 0)) := by
  have hs : Wd (Go.bits .or .i64 Z O) := or_word hZ hO
  have ht := tr_word hs
  have e63 : Go.bits .and .i64 (Go.bits .or .i64 63 0) (Go.bits .or .i64 Z O) = Go.bits .or .i64 Z O := by
    obtain ⟨m, hm⟩ := as_fin hs
    rw [hm, show Go.bits .or .i64 63 0 = 63 by decide +kernel]
    exact and63_64 m
  have esub : impl_apply.f (⟨#[115, 117, 98]⟩ : ByteArray) 0 O = some (app (⟨#[110, 101, 103]⟩ : ByteArray) O 0) := by
    rw [← app_spec _ O 0 (by omega)]
    obtain ⟨m, rfl⟩ := as_fin hO
    exact sub_neg64 m
  have eops : (ops (⟨#[115, 117, 98]⟩ : ByteArray).toList == 1) = false := by decide +kernel
  have l0 : (⟨#[115, 117, 98]⟩ : ByteArray).toList = [115, 117, 98] := by decide +kernel
  simp only [impl_knownOf.f, impl_Known_all.f, Option.bind_some]
  rw [if_pos (by decide +kernel), if_neg (by simpa using hn), operands_f (k + 19) (by omega), Option.bind_some, eops]
  simp only [impl_knownOf.j0]
  rw [l0, if_neg (by decide), if_neg (by decide), if_neg (by decide), if_neg (by decide), if_neg (by decide), if_neg (by decide), if_neg (by decide), if_pos rfl]
  simp only [impl_knownOf.j1]
  rw [if_pos (by decide), e63, trailing_f _ hs, Option.bind_some, lowest_f ht.1 (by omega), six_small ht.2, Option.bind_some, esub, Option.bind_some, l0, if_neg (by decide)]
theorem wk0 : impl_wordKnown.f 0 = some (63, 0) := by decide +kernel
theorem ea0 : spec_eqAll.f 0 = some (63, 0) := by decide +kernel
theorem shl_f {m n : Int} (h : Wd m) (h0 : 0 ≤ n) (h5 : n ≤ 5) : Go.bits .and .i64 (Go.bits .or .i64 (shl .i64 m n) (msk n)) 63 = Go.bits .or .i64 (Go.bits .and .i64 (shl .i64 m n) 63) (msk n) := by
  obtain ⟨m, rfl⟩ := as_fin h
  have := shl64 m ⟨n.toNat, by omega⟩
  have e : ((n.toNat : Nat) : Int) = n := by omega
  simpa only [e] using this
theorem msk_word {t : Int} (h : 0 ≤ t ∧ t ≤ 6) : Wd (msk t) := by obtain ⟨t, rfl⟩ := as7 h; exact msk7 t
theorem andNot0 {x : Int} (h : Wd x) : Go.bits .andNot .i64 x 0 = x := by obtain ⟨m, rfl⟩ := as_fin h; exact andNot0_64 m
/-- What is told of an op whose operands are not all known. -/
theorem rule_same (k : Nat) (o : ByteArray) {aZ aO bZ bO : Int} (h1 : Wd aZ) (h2 : Wd aO) (h3 : Wd bZ) (h4 : Wd bO) (ha : Go.bits .and .i64 aZ aO = 0) (hb : Go.bits .and .i64 bZ bO = 0)
    (hop : one o.toList = true ∨ two o.toList = true) (hf : one o.toList = true → Go.bits .or .i64 aZ aO ≠ 63) :
    ∃ r, impl_knownOf.j0 (k + 40) o false aZ aO bZ bO = some r ∧ spec_eqRule.j0 (k + 41) o (Go.bits .or .i64 aZ aO) (Go.bits .or .i64 bZ bO) false aZ aO bZ bO = some r := by
  have sA : Wd (Go.bits .or .i64 aZ aO) := or_word h1 h2
  have sB : Wd (Go.bits .or .i64 bZ bO) := or_word h3 h4
  have sC := and_word sA sB
  have tA := tr_word sA
  have tC := tr_word sC
  have ta := tr_word h1
  have tb := tr_word h3
  have eL := eqLow_f (k + 40) (by omega) sC
  have eW := app_spec o aO bO h4.1
  have eV := app_impl o aO bO h4.1
  have eN := app_spec (⟨#[110, 101, 103]⟩ : ByteArray) aO 0 (by omega)
  have lw := lowest_f tC.1 (by omega)
  rw [six_small tC.2] at lw
  have ls := lowest_f (t := tr aZ + tr bZ) (by omega) (by omega)
  have wr : wrap64 (tr aZ + tr bZ) = tr aZ + tr bZ := wrap64_small (by omega) (by omega)
  have s6 := six_word (t := tr aZ + tr bZ) (by omega)
  simp only [one, two, opsL, List.any_cons, List.any_nil, Bool.or_false, Bool.or_eq_true, beq_iff_eq] at hop
  rcases hop with (h | h) | hop
  · refine ⟨(aO, aZ), ?_, ?_⟩
    · simp only [impl_knownOf.j0]
      repeat (first | rw [if_neg (show ¬ (false = true) by decide)] | rw [if_neg (by rw [h]; decide)])
      rw [if_pos h]
    · simp only [spec_eqRule.j0, eL, Option.bind_some]
      repeat (first | rw [if_neg (show ¬ (false = true) by decide)] | rw [if_neg (by rw [h]; decide)])
      rw [if_pos h]
  · have hne := hf (by simp [one, h])
    have e : impl_knownOf.f (k + 39) (⟨#[115, 117, 98]⟩ : ByteArray) 63 0 aZ aO = _ := sub_rule (k + 19) h1 h2 hne
    refine ⟨(Go.bits .andNot .i64 (msk (tr (Go.bits .or .i64 aZ aO))) (app (⟨#[110, 101, 103]⟩ : ByteArray) aO 0), Go.bits .and .i64 (msk (tr (Go.bits .or .i64 aZ aO))) (app (⟨#[110, 101, 103]⟩ : ByteArray) aO 0)), ?_, ?_⟩
    · simp only [impl_knownOf.j0]
      repeat (first | rw [if_neg (show ¬ (false = true) by decide)] | rw [if_neg (by rw [h]; decide)])
      rw [if_pos h, wk0, Option.bind_some]
      simp only [e, Option.bind_some]
    · simp only [spec_eqRule.j0, eL, Option.bind_some]
      repeat (first | rw [if_neg (show ¬ (false = true) by decide)] | rw [if_neg (by rw [h]; decide)])
      rw [if_pos h, eN, Option.bind_some, eqLow_f (k + 40) (by omega) sA, Option.bind_some, eqAt_f _ tA.1, Option.bind_some]
  rcases hop with h | h | h | h | h | h | h | h | h | h <;> replace h := h.symm
  · refine ⟨(Go.bits .andNot .i64 (msk (tr (Go.bits .and .i64 (Go.bits .or .i64 aZ aO) (Go.bits .or .i64 bZ bO)))) (app o aO bO), Go.bits .and .i64 (msk (tr (Go.bits .and .i64 (Go.bits .or .i64 aZ aO) (Go.bits .or .i64 bZ bO)))) (app o aO bO)), ?_, ?_⟩
    · simp only [impl_knownOf.j0]
      repeat (first | rw [if_neg (show ¬ (false = true) by decide)] | rw [if_neg (by rw [h]; decide)])
      rw [if_pos h]
      simp only [impl_knownOf.j1]
      rw [if_pos (by rw [h]; decide), trailing_f _ sC, Option.bind_some, lw, Option.bind_some, eV, Option.bind_some]
      repeat (first | rw [if_neg (show ¬ (false = true) by decide)] | rw [if_neg (by rw [h]; decide)])
    · simp only [spec_eqRule.j0, eL, Option.bind_some]
      repeat (first | rw [if_neg (show ¬ (false = true) by decide)] | rw [if_neg (by rw [h]; decide)])
      rw [if_pos h]
      simp only [spec_eqRule.j1]
      rw [if_pos (by rw [h]; decide), eW, Option.bind_some, eqAt_f _ tC.1, Option.bind_some]
  · refine ⟨(Go.bits .andNot .i64 (msk (tr (Go.bits .and .i64 (Go.bits .or .i64 aZ aO) (Go.bits .or .i64 bZ bO)))) (app o aO bO), Go.bits .and .i64 (msk (tr (Go.bits .and .i64 (Go.bits .or .i64 aZ aO) (Go.bits .or .i64 bZ bO)))) (app o aO bO)), ?_, ?_⟩
    · simp only [impl_knownOf.j0]
      repeat (first | rw [if_neg (show ¬ (false = true) by decide)] | rw [if_neg (by rw [h]; decide)])
      rw [if_pos h]
      simp only [impl_knownOf.j1]
      rw [if_pos (by rw [h]; decide), trailing_f _ sC, Option.bind_some, lw, Option.bind_some, eV, Option.bind_some]
      repeat (first | rw [if_neg (show ¬ (false = true) by decide)] | rw [if_neg (by rw [h]; decide)])
    · simp only [spec_eqRule.j0, eL, Option.bind_some]
      repeat (first | rw [if_neg (show ¬ (false = true) by decide)] | rw [if_neg (by rw [h]; decide)])
      simp only [spec_eqRule.j1]
      rw [if_pos (by rw [h]; decide), eW, Option.bind_some, eqAt_f _ tC.1, Option.bind_some]
  · have hk := keep_f (app_word o aO bO) tC s6 (mul_zero_low h1 h2 h3 h4 ha hb h)
    refine ⟨(Go.bits .or .i64 (Go.bits .andNot .i64 (msk (tr (Go.bits .and .i64 (Go.bits .or .i64 aZ aO) (Go.bits .or .i64 bZ bO)))) (app o aO bO)) (msk (six (tr aZ + tr bZ))), Go.bits .and .i64 (msk (tr (Go.bits .and .i64 (Go.bits .or .i64 aZ aO) (Go.bits .or .i64 bZ bO)))) (app o aO bO)), ?_, ?_⟩
    · simp only [impl_knownOf.j0]
      repeat (first | rw [if_neg (show ¬ (false = true) by decide)] | rw [if_neg (by rw [h]; decide)])
      simp only [impl_knownOf.j1]
      rw [if_pos (by rw [h]; decide), trailing_f _ sC, Option.bind_some, lw, Option.bind_some, eV, Option.bind_some, if_pos h, trailing_f _ h1, Option.bind_some, trailing_f _ h3, Option.bind_some, wr, ls, Option.bind_some, hk]
    · simp only [spec_eqRule.j0, eL, Option.bind_some]
      repeat (first | rw [if_neg (show ¬ (false = true) by decide)] | rw [if_neg (by rw [h]; decide)])
      simp only [spec_eqRule.j1]
      repeat (first | rw [if_neg (show ¬ (false = true) by decide)] | rw [if_neg (by rw [h]; decide)])
      rw [if_pos h, eW, Option.bind_some, eqAt_f _ tC.1, Option.bind_some, eqLow_f (k + 39) (by omega) h1, Option.bind_some, eqLow_f (k + 39) (by omega) h3, Option.bind_some, wr, least_f, Option.bind_some, eqAt_f _ s6.1, Option.bind_some, andNot0 (msk_word s6)]
  · refine ⟨(Go.bits .or .i64 aZ bZ, Go.bits .and .i64 aO bO), ?_, ?_⟩
    · simp only [impl_knownOf.j0]
      repeat (first | rw [if_neg (show ¬ (false = true) by decide)] | rw [if_neg (by rw [h]; decide)])
      rw [if_pos h]
    · simp only [spec_eqRule.j0, eL, Option.bind_some]
      repeat (first | rw [if_neg (show ¬ (false = true) by decide)] | rw [if_neg (by rw [h]; decide)])
      rw [if_pos h]
  · refine ⟨(Go.bits .and .i64 aZ bZ, Go.bits .or .i64 aO bO), ?_, ?_⟩
    · simp only [impl_knownOf.j0]
      repeat (first | rw [if_neg (show ¬ (false = true) by decide)] | rw [if_neg (by rw [h]; decide)])
      rw [if_pos h]
    · simp only [spec_eqRule.j0, eL, Option.bind_some]
      repeat (first | rw [if_neg (show ¬ (false = true) by decide)] | rw [if_neg (by rw [h]; decide)])
      rw [if_pos h]
  · have hx := xor_both sC (xor_word h2 h4)
    refine ⟨(Go.bits .andNot .i64 (Go.bits .and .i64 (Go.bits .or .i64 aZ aO) (Go.bits .or .i64 bZ bO)) (Go.bits .xor .i64 aO bO), Go.bits .and .i64 (Go.bits .and .i64 (Go.bits .or .i64 aZ aO) (Go.bits .or .i64 bZ bO)) (Go.bits .xor .i64 aO bO)), ?_, ?_⟩
    · simp only [impl_knownOf.j0]
      repeat (first | rw [if_neg (show ¬ (false = true) by decide)] | rw [if_neg (by rw [h]; decide)])
      rw [if_pos h]
    · simp only [spec_eqRule.j0, eL, Option.bind_some]
      repeat (first | rw [if_neg (show ¬ (false = true) by decide)] | rw [if_neg (by rw [h]; decide)])
      rw [if_pos h, hx.1, hx.2]
  · by_cases hB : Go.bits .or .i64 bZ bO = 63
    · by_cases h6 : bO ≥ 6
      · refine ⟨(63, 0), ?_, ?_⟩
        · simp only [impl_knownOf.j0]
          repeat (first | rw [if_neg (show ¬ (false = true) by decide)] | rw [if_neg (by rw [h]; decide)])
          simp only [impl_knownOf.j1]
          repeat (first | rw [if_neg (show ¬ (false = true) by decide)] | rw [if_neg (by rw [h]; decide)])
          unfold impl_Known_all.f
          rw [Option.bind_some, if_pos (by rw [hB]; decide), if_pos h6, wk0, Option.bind_some]
        · simp only [spec_eqRule.j0, eL, Option.bind_some]
          repeat (first | rw [if_neg (show ¬ (false = true) by decide)] | rw [if_neg (by rw [h]; decide)])
          simp only [spec_eqRule.j1]
          repeat (first | rw [if_neg (show ¬ (false = true) by decide)] | rw [if_neg (by rw [h]; decide)])
          rw [if_pos hB, if_pos h6, ea0, Option.bind_some]
      · refine ⟨(Go.bits .or .i64 (Go.bits .and .i64 (shl .i64 aZ bO) 63) (msk bO), Go.bits .and .i64 (shl .i64 aO bO) 63), ?_, ?_⟩
        · simp only [impl_knownOf.j0]
          repeat (first | rw [if_neg (show ¬ (false = true) by decide)] | rw [if_neg (by rw [h]; decide)])
          simp only [impl_knownOf.j1]
          repeat (first | rw [if_neg (show ¬ (false = true) by decide)] | rw [if_neg (by rw [h]; decide)])
          unfold impl_Known_all.f
          rw [Option.bind_some, if_pos (by rw [hB]; decide), if_neg h6]
          rw [if_pos h, if_pos h4.1, lowest_f h4.1 (by omega), six_small (by omega), Option.bind_some, shl_f h1 h4.1 (by omega)]
        · simp only [spec_eqRule.j0, eL, Option.bind_some]
          repeat (first | rw [if_neg (show ¬ (false = true) by decide)] | rw [if_neg (by rw [h]; decide)])
          simp only [spec_eqRule.j1]
          repeat (first | rw [if_neg (show ¬ (false = true) by decide)] | rw [if_neg (by rw [h]; decide)])
          rw [if_pos hB, if_neg h6]
          rw [if_pos h, if_pos h4.1]
          rfl
    · refine ⟨(0, 0), ?_, ?_⟩
      · simp only [impl_knownOf.j0]
        repeat (first | rw [if_neg (show ¬ (false = true) by decide)] | rw [if_neg (by rw [h]; decide)])
        simp only [impl_knownOf.j1]
        repeat (first | rw [if_neg (show ¬ (false = true) by decide)] | rw [if_neg (by rw [h]; decide)])
        unfold impl_Known_all.f
        rw [Option.bind_some, if_neg (by simpa using hB)]
      · simp only [spec_eqRule.j0, eL, Option.bind_some]
        repeat (first | rw [if_neg (show ¬ (false = true) by decide)] | rw [if_neg (by rw [h]; decide)])
        simp only [spec_eqRule.j1]
        repeat (first | rw [if_neg (show ¬ (false = true) by decide)] | rw [if_neg (by rw [h]; decide)])
        rw [if_neg hB]
  · by_cases hB : Go.bits .or .i64 bZ bO = 63
    · by_cases h6 : bO ≥ 6
      · refine ⟨(63, 0), ?_, ?_⟩
        · simp only [impl_knownOf.j0]
          repeat (first | rw [if_neg (show ¬ (false = true) by decide)] | rw [if_neg (by rw [h]; decide)])
          simp only [impl_knownOf.j1]
          repeat (first | rw [if_neg (show ¬ (false = true) by decide)] | rw [if_neg (by rw [h]; decide)])
          unfold impl_Known_all.f
          rw [Option.bind_some, if_pos (by rw [hB]; decide), if_pos h6, wk0, Option.bind_some]
        · simp only [spec_eqRule.j0, eL, Option.bind_some]
          repeat (first | rw [if_neg (show ¬ (false = true) by decide)] | rw [if_neg (by rw [h]; decide)])
          simp only [spec_eqRule.j1]
          repeat (first | rw [if_neg (show ¬ (false = true) by decide)] | rw [if_neg (by rw [h]; decide)])
          rw [if_pos hB, if_pos h6, ea0, Option.bind_some]
      · refine ⟨(Go.bits .or .i64 (shr .i64 aZ bO) (Go.bits .andNot .i64 63 (shr .i64 63 bO)), shr .i64 aO bO), ?_, ?_⟩
        · simp only [impl_knownOf.j0]
          repeat (first | rw [if_neg (show ¬ (false = true) by decide)] | rw [if_neg (by rw [h]; decide)])
          simp only [impl_knownOf.j1]
          repeat (first | rw [if_neg (show ¬ (false = true) by decide)] | rw [if_neg (by rw [h]; decide)])
          unfold impl_Known_all.f
          rw [Option.bind_some, if_pos (by rw [hB]; decide), if_neg h6]
          repeat (first | rw [if_neg (show ¬ (false = true) by decide)] | rw [if_neg (by rw [h]; decide)])
          rw [if_pos h4.1]
        · simp only [spec_eqRule.j0, eL, Option.bind_some]
          repeat (first | rw [if_neg (show ¬ (false = true) by decide)] | rw [if_neg (by rw [h]; decide)])
          simp only [spec_eqRule.j1]
          repeat (first | rw [if_neg (show ¬ (false = true) by decide)] | rw [if_neg (by rw [h]; decide)])
          rw [if_pos hB, if_neg h6]
          repeat (first | rw [if_neg (show ¬ (false = true) by decide)] | rw [if_neg (by rw [h]; decide)])
          rw [if_pos h4.1]
    · refine ⟨(0, 0), ?_, ?_⟩
      · simp only [impl_knownOf.j0]
        repeat (first | rw [if_neg (show ¬ (false = true) by decide)] | rw [if_neg (by rw [h]; decide)])
        simp only [impl_knownOf.j1]
        repeat (first | rw [if_neg (show ¬ (false = true) by decide)] | rw [if_neg (by rw [h]; decide)])
        unfold impl_Known_all.f
        rw [Option.bind_some, if_neg (by simpa using hB)]
      · simp only [spec_eqRule.j0, eL, Option.bind_some]
        repeat (first | rw [if_neg (show ¬ (false = true) by decide)] | rw [if_neg (by rw [h]; decide)])
        simp only [spec_eqRule.j1]
        repeat (first | rw [if_neg (show ¬ (false = true) by decide)] | rw [if_neg (by rw [h]; decide)])
        rw [if_neg hB]
  · refine ⟨(62, 0), ?_, ?_⟩
    · simp only [impl_knownOf.j0]
      repeat (first | rw [if_neg (show ¬ (false = true) by decide)] | rw [if_neg (by rw [h]; decide)])
      simp only [impl_knownOf.j1]
      repeat (first | rw [if_neg (show ¬ (false = true) by decide)] | rw [if_neg (by rw [h]; decide)])
      rw [if_pos h]
    · simp only [spec_eqRule.j0, eL, Option.bind_some]
      repeat (first | rw [if_neg (show ¬ (false = true) by decide)] | rw [if_neg (by rw [h]; decide)])
      simp only [spec_eqRule.j1]
      repeat (first | rw [if_neg (show ¬ (false = true) by decide)] | rw [if_neg (by rw [h]; decide)])
      rw [if_pos h]
  · refine ⟨(62, 0), ?_, ?_⟩
    · simp only [impl_knownOf.j0]
      repeat (first | rw [if_neg (show ¬ (false = true) by decide)] | rw [if_neg (by rw [h]; decide)])
      simp only [impl_knownOf.j1]
      repeat (first | rw [if_neg (show ¬ (false = true) by decide)] | rw [if_neg (by rw [h]; decide)])
      rw [if_pos h]
    · simp only [spec_eqRule.j0, eL, Option.bind_some]
      repeat (first | rw [if_neg (show ¬ (false = true) by decide)] | rw [if_neg (by rw [h]; decide)])
      simp only [spec_eqRule.j1]
      repeat (first | rw [if_neg (show ¬ (false = true) by decide)] | rw [if_neg (by rw [h]; decide)])
      rw [if_pos h]
theorem known_same (x y : Int) : spec_eqKnown.f x y = impl_IsKnown.f x y := by
  unfold spec_eqKnown.f impl_IsKnown.f spec_exWord.f impl_isWord.f spec_l1In.f impl_within.f
  simp only [ge_iff_le]
theorem known_iff (x y : Int) : ∃ r, impl_IsKnown.f x y = some r ∧ (r = true → Wd x ∧ Wd y ∧ Go.bits .and .i64 x y = 0) := by
  unfold impl_IsKnown.f impl_isWord.f impl_within.f Wd
  by_cases h1 : 0 ≤ x <;> by_cases h2 : 0 ≤ y <;> by_cases h3 : x ≤ 63 <;> by_cases h4 : y ≤ 63 <;> simp [h1, h2, h3, h4]
theorem known_f (k : Nat) (o : ByteArray) {aZ aO bZ bO : Int} (h1 : Wd aZ) (h2 : Wd aO) (h3 : Wd bZ) (h4 : Wd bO) (ha : Go.bits .and .i64 aZ aO = 0) (hb : Go.bits .and .i64 bZ bO = 0)
    (hop : one o.toList = true ∨ two o.toList = true) : ∃ r, impl_knownOf.f (k + 41) o aZ aO bZ bO = some r ∧ spec_eqRule.f (k + 41) o aZ aO bZ bO = some r := by
  have eW := app_spec o aO bO h4.1
  have eV := app_impl o aO bO h4.1
  have full : ∃ r, impl_knownOf.j0 (k + 40) o true aZ aO bZ bO = some r ∧ spec_eqRule.j0 (k + 41) o (Go.bits .or .i64 aZ aO) (Go.bits .or .i64 bZ bO) true aZ aO bZ bO = some r := by
    refine ⟨(Go.bits .andNot .i64 63 (app o aO bO), app o aO bO), ?_, ?_⟩
    · simp only [impl_knownOf.j0]
      rw [if_pos True.intro, eV, Option.bind_some]
      rfl
    · simp only [spec_eqRule.j0]
      rw [if_pos True.intro, eW, Option.bind_some]
      rfl
  simp only [impl_knownOf.f, spec_eqRule.f, impl_Known_all.f, Option.bind_some, beq_iff_eq, exOne, operands_f (k + 40) (by omega)]
  by_cases hA : Go.bits .or .i64 aZ aO = 63
  · rw [if_pos hA, if_pos hA]
    by_cases hB : Go.bits .or .i64 bZ bO = 63
    · rw [if_pos hB, if_pos hB]
      exact full
    · rw [if_neg hB, if_neg hB]
      cases ho : one o.toList with
      | true =>
        rw [show (ops o.toList == 1) = true from beq_iff_eq.2 (ops_one.2 ho)]
        exact full
      | false =>
        rw [show (ops o.toList == 1) = false from beq_eq_false_iff_ne.2 (fun e => by rw [ops_one.1 e] at ho; cases ho)]
        exact rule_same k o h1 h2 h3 h4 ha hb hop (fun e => by rw [e] at ho; cases ho)
  · rw [if_neg hA, if_neg hA]
    exact rule_same k o h1 h2 h3 h4 ha hb hop (fun _ => hA)
theorem knownOf_true (o : ByteArray) (aZ aO bZ bO : Int) : laws_FnExactKnownOf.f 60 o aZ aO bZ bO = some true := by
  unfold laws_FnExactKnownOf.f laws_toKnown.f laws_eqKnown.f
  split
  · rfl
  simp only [Option.bind_some]
  unfold spec_KnownOf.f impl_KnownOf.f
  simp only [known_same, exOne, exTwo 60 (by decide), operands_f 60 (by decide), Option.bind_some]
  obtain ⟨p, hp, hp2⟩ := known_iff aZ aO
  obtain ⟨q, hq, hq2⟩ := known_iff bZ bO
  simp only [hp, hq, Option.bind_some]
  cases p with
  | false => by_cases h : ops o.toList < 1 <;> simp [h]
  | true =>
    cases q with
    | false => by_cases h : ops o.toList < 1 <;> simp [h]
    | true =>
      obtain ⟨h1, h2, ha⟩ := hp2 rfl
      obtain ⟨h3, h4, hb⟩ := hq2 rfl
      have w1 := h3.1
      have w2 := h3.2
      have w3 := h4.1
      have w4 := h4.2
      have hw : wrap64 (bZ + bO) = bZ + bO := wrap64_small (by omega) (by omega)
      cases h : one o.toList with
      | true =>
        obtain ⟨r, e1, e2⟩ := known_f 19 o h1 h2 h3 h4 ha hb (.inl h)
        have e1 : impl_knownOf.f 60 o aZ aO bZ bO = some r := e1
        have e2 : spec_eqRule.f 60 o aZ aO bZ bO = some r := e2
        have e3 : ops o.toList = 1 := ops_one.2 h
        simp only [e1, e2, e3, hw, if_true, Option.bind_some]
        by_cases hz : bZ = 0
        · by_cases ho : bO = 0
          · simp [hz, ho]
          · rw [if_pos (by omega), if_neg (by decide), if_pos (by simp [ho])]
            simp
        · rw [if_pos (by omega), if_neg (by decide), if_pos (by simp [hz])]
          simp
      | false =>
        have n1 : ops o.toList ≠ 1 := fun e => by rw [ops_one.1 e] at h; cases h
        cases h2' : two o.toList with
        | true =>
          obtain ⟨r, e1, e2⟩ := known_f 19 o h1 h2 h3 h4 ha hb (.inr h2')
          have e1 : impl_knownOf.f 60 o aZ aO bZ bO = some r := e1
          have e2 : spec_eqRule.f 60 o aZ aO bZ bO = some r := e2
          have e3 : ops o.toList = 2 := ops_two.2 h2'
          simp [e1, e2, e3]
        | false =>
          have lt : ops o.toList < 1 := (ops_lt _).2 ⟨h, h2'⟩
          simp [lt]
theorem knownOf_walk (o : ByteArray) (_ : o.size ≤ maxLen) (x : Int × Int) (_ : knownOk x) (y : Int × Int) (_ : knownOk y) (W : World) (hT : Tz W) :
    Calls Tryd.prog 3 #[.string o, .agg #[.int .i64 x.1, .int .i64 x.2], .agg #[.int .i64 y.1, .int .i64 y.2]] W fun e w' => e = .returned (.bool true) ∧ Below W.heap.size W w' :=
  laws_FnExactKnownOf.calls 60 o x.1 x.2 y.1 y.2 true W (knownOf_true _ _ _ _ _) rfl hT
end Go.Proofs.YtjeklcgflocfoaaDoor.PureOps
