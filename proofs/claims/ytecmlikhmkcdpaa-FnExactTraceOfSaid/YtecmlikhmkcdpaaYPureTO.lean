/- TraceOf of the program and of the reference agree for all arguments; what comes back lies in memory of its own. -/
import Derived.Test.YtecmlikhmkcdpaaYPureRunT
import Derived.Test.YtecmlikhmkcdpaaYPureRegsT
import Derived.Test.YtecmlikhmkcdpaaYPureMarksJ
import Derived.Test.YtecmlikhmkcdpaaYPureRows
import Derived.Test.YtecmlikhmkcdpaaGWalkTO
import Derived.Test.YtecmlikhmkcdpaaYMKinds
namespace Go.Proofs.Ytecmlikhmkcdpaa.PureOps
open Go.RowKit Go.Proofs.Ytecmlikhmkcdpaa.G Go.Proofs.YtecmlikhmkcdpaaW.PrintWords Go.Proofs.YtecmlikhmkcdpaaW.PrintLast Go.Proofs.YtecmlikhmkcdpaaW.PrintMore Go.Proofs.Ytecmlikhmkcdpaa.MKinds
set_option linter.unusedVariables false
set_option linter.unusedSimpArgs false
theorem markIntN_g (k : Nat) (xs : List Int) (s0 : Int) (hs : 0 ≤ s0) (hs' : s0 ≤ 1000000000000) (hn : xs.length ≤ 1048576) (hk : xs.length < k) : ∃ r, laws_markIntS.f k xs s0 = some r ∧ 0 ≤ r.1 := by
  unfold laws_markIntS.f
  exact some_loop (fun k (s : List Int × Int) i => laws_markIntS.l0 k s.1 s.2 i) xs.length (by omega) 0 (fun i s => s.1.length = xs.length ∧ s.2 = s0 + (i : Int)) (fun r => 0 ≤ r.1)
    (fun k i s _ hi hI => .inr ⟨(s.1.set i s.2, s.2 + 1), by
      simp only [laws_markIntS.l0]
      rw [if_pos (by omega), if_pos (by omega), Int.toNat_natCast, wrap64_small (n := s.2 + 1) (by omega) (by omega)], by simp [hI.1], by show s.2 + 1 = s0 + ((i + 1 : Nat) : Int); omega⟩)
    (fun k s _ hI => ⟨(s.2, s.1), by simp only [laws_markIntS.l0]; rw [if_neg (by omega)], by have := hI.2; show 0 ≤ s.2; omega⟩) xs.length k 0 (xs, s0) (by omega) (by omega) ⟨rfl, by simp⟩
theorem eqIntL_g (k : Nat) (xs : List Int) (hn : xs.length ≤ 1048576) (hk : xs.length < k) : laws_eqIntS.f k xs xs = some true := by
  unfold laws_eqIntS.f
  rw [if_pos rfl]
  obtain ⟨q, hr, hq⟩ := some_loop (fun k (_ : Unit) i => laws_eqIntS.l0 k xs xs i) xs.length (by omega) 0 (fun i _ => True) (fun q => q = true)
    (fun k i s _ hi hI => .inr ⟨(), by
      simp only [laws_eqIntS.l0]
      rw [if_pos (by omega), if_pos (by omega), if_pos (by omega)]
      simp, trivial⟩)
    (fun k s _ hI => ⟨true, by simp only [laws_eqIntS.l0]; rw [if_neg (by omega)], rfl⟩) xs.length k 0 () (by omega) (by omega) trivial
  rw [← hq]; exact hr
theorem runL_ok (xs : List IInstr) (hx : ∀ x ∈ xs, good1 x = true) (hn : xs.length ≤ 40) (u : List Int) (hl : u.length = 6) (hw : words u) : (runL xs u).length = 6 ∧ words (runL xs u) :=
  (run_main xs hx (by omega) xs.length (xs.length + 10) 0 u (by omega) (by omega) hl hw).2
/-- The registers before each instruction, and behind the last. -/
def trL (xs : List IInstr) (u : List Int) (m : Nat) : List (List Int) := (List.range (m + 1)).map fun i => runL (xs.take i) u
theorem trL_len (xs : List IInstr) (u : List Int) (m : Nat) : (trL xs u m).length = m + 1 := by simp [trL]
theorem trL_row (xs : List IInstr) (u : List Int) (m i : Nat) (hi : i ≤ m) : rowOf (trL xs u m) i = runL (xs.take i) u := by
  unfold rowOf trL
  rw [List.getD_eq_getElem?_getD, List.getElem?_map, List.getElem?_range (by omega)]
  rfl
theorem trL_succ (xs : List IInstr) (u : List Int) (m : Nat) : trL xs u (m + 1) = trL xs u m ++ [runL (xs.take (m + 1)) u] := by
  unfold trL
  rw [List.range_succ, List.map_append]
  rfl
theorem runL_succ (xs : List IInstr) (u : List Int) (m : Nat) (hm : m < xs.length) : runL (xs.take (m + 1)) u = stepL (runL (xs.take m) u) xs[m] := by
  unfold runL
  rw [List.take_succ_eq_append_getElem hm, List.foldl_append]
  rfl
theorem spec_trace (xs : List IInstr) (hx : ∀ x ∈ xs, good1 x = true) (hn : xs.length ≤ 40) (u : List Int) (hl : u.length = 6) (hw : words u) (d : Nat) : ∀ (k m : Nat), m + d = xs.length → d + 5 < k → spec_TraceOf.l0 k (trL xs u m) xs (xs.length : Int) (m : Int) = some (trL xs u xs.length, true) := by
  induction d with
  | zero =>
    intro k m h hk
    obtain ⟨k, rfl⟩ : ∃ q, k = q + 1 := ⟨k - 1, by omega⟩
    simp only [spec_TraceOf.l0]
    rw [if_neg (by omega), show m = xs.length by omega]
  | succ d ih =>
    intro k m h hk
    obtain ⟨k, rfl⟩ : ∃ q, k = q + 1 := ⟨k - 1, by omega⟩
    have hi : m < xs.length := by omega
    have hlen := trL_len xs u m
    have ew : wrap64 (((trL xs u m).length : Int) - 1) = (m : Int) := by rw [hlen, wrap64_small (by omega) (by omega)]; omega
    obtain ⟨s1, s2⟩ := runL_ok (xs.take m) (fun x h => hx x (List.mem_of_mem_take h)) (by simp; omega) u hl hw
    simp only [spec_TraceOf.l0]
    rw [if_pos (by omega), if_pos (by omega), if_pos (by omega), ew, if_pos (by omega), if_pos (by omega), rdI xs m hi, rdRows, trL_row xs u m m (Nat.le_refl _), step_f (hx _ (List.getElem_mem hi)) s1 s2, Option.bind_some, if_pos (by omega), ← runL_succ xs u m hi, ← trL_succ, wrapS hi (by omega)]
    exact ih k (m + 1) (by omega) (by omega)
def to_res (xs : List IInstr) (u : List Int) : List (List Int) × Bool := if codeOk xs = true then (if regsOk u = true then (trL xs u xs.length, true) else ([], false)) else ([], false)
theorem to_small (xs : List IInstr) (u : List Int) : smallL (to_res xs u).1 := by
  unfold to_res
  by_cases hc : codeOk xs = true
  · rw [if_pos hc]
    obtain ⟨hl, hx⟩ := codeOk_all hc
    by_cases hb : regsOk u = true
    · rw [if_pos hb]
      obtain ⟨h1, h2⟩ := regsOk_iff hb
      refine ⟨by rw [trL_len]; omega, fun i => ?_⟩
      by_cases hi : i ≤ xs.length
      · rw [trL_row xs u _ i hi]
        have := (runL_ok (xs.take i) (fun x h => hx x (List.mem_of_mem_take h)) (by simp; omega) u h1 h2).1
        omega
      · unfold rowOf
        rw [List.getD_eq_getElem?_getD, List.getElem?_eq_none (by rw [trL_len]; omega)]
        simp
    · rw [if_neg hb]
      exact ⟨by simp, fun i => by simp [rowOf]⟩
  · rw [if_neg hc]
    exact ⟨by simp, fun i => by simp [rowOf]⟩
theorem to_s (k : Nat) (xs : List IInstr) (u : List Int) (hn : xs.length ≤ 1048576) (hu : u.length ≤ 1048576) (hk : xs.length + u.length + 160 < k) : spec_TraceOf.f k xs u = some (to_res xs u) := by
  unfold spec_TraceOf.f to_res
  obtain ⟨k, rfl⟩ : ∃ q, k = q + 1 := ⟨k - 1, by omega⟩
  rw [cdCode_f _ xs hn (by omega), Option.bind_some]
  simp only [spec_TraceOf.j0]
  by_cases hc : codeOk xs = true
  · rw [if_pos hc, if_pos hc, cdRegs_f _ u hu (by omega), Option.bind_some]
    obtain ⟨hl, hx⟩ := codeOk_all hc
    by_cases hb : regsOk u = true
    · obtain ⟨h1, h2⟩ := regsOk_iff hb
      rw [if_pos hb, hb, if_neg (by decide), own_f u (by omega), Option.bind_some]
      have := spec_trace xs hx hl u h1 h2 xs.length k 0 (by omega) (by omega)
      rw [← this]
      rfl
    · rw [if_neg hb, Bool.eq_false_iff.2 hb, if_pos (by decide)]
  · rw [if_neg hc, if_neg hc, if_pos trivial]
theorem to_i (k : Nat) (xs : List IInstr) (u : List Int) (hn : xs.length ≤ 1048576) (hu : u.length ≤ 1048576) (hk : xs.length + u.length + 160 < k) : traceP k xs u (to_res xs u).1 (to_res xs u).2 := by
  unfold to_res
  by_cases hc : codeOk xs = true
  · rw [if_pos hc]
    obtain ⟨hl, hx⟩ := codeOk_all hc
    have e1 : impl_IsCode.f k xs = some true := by rw [isCode_f _ xs hn (by omega), hc]
    by_cases hb : regsOk u = true
    · obtain ⟨h1, h2⟩ := regsOk_iff hb
      rw [if_pos hb]
      have hs := to_small xs u
      unfold to_res at hs
      rw [if_pos hc, if_pos hb] at hs
      refine .inr (.inr ⟨e1, by rw [areRegs_f _ u hu (by omega), hb], rfl, trL_len _ _ _, by omega, ?_, hs.2, fun i hi => ?_⟩)
      · rw [trL_row xs u _ 0 (by omega)]
        rfl
      · rw [trL_row xs u _ i (by omega), trL_row xs u _ (i + 1) (by omega), runL_succ xs u i hi, rdI xs i hi]
        obtain ⟨s1, s2⟩ := runL_ok (xs.take i) (fun x h => hx x (List.mem_of_mem_take h)) (by simp; omega) u h1 h2
        exact run_f k [xs[i]] (fun x h => by rw [List.mem_singleton.1 h]; exact hx _ (List.getElem_mem hi)) (by simp) (by omega) _ s1 s2
    · rw [if_neg hb]
      exact .inr (.inl ⟨e1, by rw [areRegs_f _ u hu (by omega), Bool.eq_false_iff.2 hb], rfl, rfl⟩)
  · rw [if_neg hc]
    exact .inl ⟨by rw [isCode_f _ xs hn (by omega), Bool.eq_false_iff.2 hc], rfl, rfl⟩
theorem len_ok {n : Nat} (h : n ≤ maxLen) : n ≤ 9223372036854775807 := by unfold maxLen at h; exact h
theorem instrs_ok {xs : List LInstr} (h : ∀ x ∈ xs, instrSOk x) : ∀ x ∈ xs, x.f0.size ≤ 9223372036854775807 := fun x hx => len_ok (h x hx).1
theorem traceOf_walk (A : Option Addr) (c : Nat) (xs : List LInstr) (hl : xs.length ≤ c) (W : World) (hr : Kd.C k65 W A xs.length xs) (hm : xs.length ≤ maxLen) (ho : ∀ x ∈ xs, instrSOk x) (B : Option Addr) (d : Nat) (u : List Int) (hl' : u.length ≤ d) (hr' : Kd.C (Kd.int .i64) W B u.length u) (hm' : u.length ≤ maxLen) (ho' : ∀ x ∈ u, (Lit.int .i64 x).wf = true) :
    Calls Try.prog 7 #[.slice A xs.length c, .slice B u.length d] W fun e w' => e = .returned (.bool true) ∧ Below W.heap.size W w' := by
  have hn := len_ok hm
  have hs := instrs_ok ho
  by_cases hu : 1048576 < u.length
  · exact laws_FnExactTraceOf.hand_long A c xs B d u W hr hl hr' hl' hu
  have hu2 : u.length ≤ 1048576 := by omega
  have hk : ∃ k, k = xs.length + u.length + 3000 := ⟨_, rfl⟩
  obtain ⟨k, hk⟩ := hk
  obtain ⟨r, hsz, _, hlr⟩ := szInstrS_f k xs 1048576 (by omega) (by omega) hn hs (by omega)
  by_cases h : r < 0
  · exact laws_FnExactTraceOf.hand_neg k A c xs B d u W hr hl hr' hl' hu2 r hsz h
  have hn2 : xs.length ≤ 1048576 := by have := hlr (by omega); omega
  have ex : (xs.map convI).length = xs.length := by simp
  obtain ⟨m', m1', _, _⟩ := markInstrS_f k (xs.map convI) (by omega) (by omega)
  obtain ⟨m2, m2', m3'⟩ := markIntN_g k u (1 + 5 * ((xs.map convI).length : Int)) (by omega) (by omega) hu2 (by omega)
  obtain ⟨m2a, m2b⟩ := m2
  have hsm := to_small (xs.map convI) u
  exact laws_FnExactTraceOf.hand k A c xs B d u W hr hl hr' hl' (xs.map convI) m' u m2b (to_res (xs.map convI) u).1 (markedL (to_res (xs.map convI) u).1) (to_res (xs.map convI) u).2 r _ m2a (offs (to_res (xs.map convI) u).1) hu2 hsz (by omega)
    (toInstrS_f k xs hn2 (by omega)) (toIntS_f k u hu2 (by omega)) (to_s k _ u (by omega) hu2 (by omega)) (to_i k _ u (by omega) hu2 (by omega)) (eqRows_g k _ hsm (by omega)) (eqInstrS_f k _ (by omega) (by omega)) (eqIntL_g k u hu2 (by omega))
    m1' m2' m3' rfl (markedL_len _) (marks_g k _ hsm (by omega)) (held_g k _ hsm (by omega)) (by have := offs_small _ hsm (to_res (xs.map convI) u).1.length; omega)
end Go.Proofs.Ytecmlikhmkcdpaa.PureOps
