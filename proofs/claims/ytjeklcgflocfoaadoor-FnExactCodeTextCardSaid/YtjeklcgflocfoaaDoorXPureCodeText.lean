/- CodeText of the program and of the reference agree for all arguments. -/
import Derived.Test.YtjeklcgflocfoaaDoorXPureText
import Derived.Test.YtjeklcgflocfoaaDoorXPureCode
import Derived.Test.YtjeklcgflocfoaaDoorHMKinds
import Derived.Test.YtjeklcgflocfoaaDoorHLawCodeText
namespace Go.Proofs.YtjeklcgflocfoaaDoor.PureOps
open Go.RowKit Go.Proofs.YtjeklcgflocfoaaDoor.H Go.Proofs.YtjeklcgflocfoaaDoorW.PrintWords Go.Proofs.YtjeklcgflocfoaaDoorW.PrintLast Go.Proofs.YtjeklcgflocfoaaDoorW.PrintMore Go.Proofs.YtjeklcgflocfoaaDoor.MKinds
set_option linter.unusedVariables false
set_option linter.unusedSimpArgs false
/-- A line of code. -/
def line (x : IInstr) : ByteArray := txt x.f0 x.f1 x.f2 x.f3 x.f4 ++ (⟨#[10]⟩ : ByteArray)
/-- All lines. -/
def lines (xs : List IInstr) : ByteArray := xs.foldl (fun a x => a ++ line x) (⟨#[]⟩ : ByteArray)
theorem nl1 : (⟨#[10]⟩ : ByteArray).size = 1 := rfl
theorem txt_size {o : ByteArray} {d a b m : Int} (h : goodI o.toList d a b m = true) : (txt o d a b m).size ≤ 19 := by
  obtain ⟨hop, hd, ha, hb, hm⟩ := goodI_num h
  have ho : o.size ≤ 4 := by rw [size_len]; exact op_short _ hop
  have nd := num_size d (by omega)
  have na := num_size a (by omega)
  have nb := num_size b (by omega)
  have nm := num_size m (by omega)
  unfold txt
  dsimp only
  split <;> split <;> split <;> simp only [ByteArray.size_append, sp1, sp2] <;> omega
theorem lines_take (xs : List IInstr) (i : Nat) (h : i < xs.length) : lines (xs.take (i + 1)) = lines (xs.take i) ++ line xs[i] := by
  unfold lines
  rw [← List.take_append_getElem h, List.foldl_append]
  rfl
theorem spec_lines (k : Nat) (xs : List IInstr) (hn : xs.length ≤ 40) (hg : ∀ x ∈ xs, good1 x = true) (hk : xs.length + 13 < k) : spec_CodeText.l0 k (⟨#[]⟩ : ByteArray) xs (xs.length : Int) 0 = some (lines xs, true) := by
  obtain ⟨r, hr, hq⟩ := some_loop (fun k (s : ByteArray) i => spec_CodeText.l0 k s xs (xs.length : Int) i) xs.length (by omega) 13 (fun i s => s = lines (xs.take i) ∧ s.size ≤ 20 * i) (fun r => r = (lines xs, true))
    (fun k i s hk hi hI => by
      right
      have hgi : goodI xs[i].f0.toList xs[i].f1 xs[i].f2 xs[i].f3 xs[i].f4 = true := hg _ (List.getElem_mem hi)
      have hz := txt_size hgi
      have hs := hI.2
      refine ⟨s ++ line xs[i], ?_, ?_, ?_⟩
      · simp only [spec_CodeText.l0]
        rw [if_pos (by omega), if_pos (by omega), if_pos (by omega), rdI xs i hi, text_spec k (by omega) _ _ _ _ _ hgi, Option.bind_some, if_pos (by omega), if_pos (by simp only [ByteArray.size_append, nl1]; omega)]
        rfl
      · rw [lines_take xs i hi, hI.1]
      · simp only [line, ByteArray.size_append, nl1]
        omega)
    (fun k s _ hI => ⟨(s, true), by simp only [spec_CodeText.l0]; rw [if_neg (by omega)], by rw [hI.1, List.take_length]⟩) xs.length k 0 (⟨#[]⟩ : ByteArray) (by omega) (by omega) ⟨rfl, by decide⟩
  rw [← hq]
  exact hr
theorem impl_lines (k : Nat) (xs : List IInstr) (hn : xs.length ≤ 40) (hg : ∀ x ∈ xs, good1 x = true) (hk : xs.length + 13 < k) : impl_CodeText.l0 k (⟨#[]⟩ : ByteArray) xs (xs.length : Int) 0 = some (lines xs, true) := by
  obtain ⟨r, hr, hq⟩ := some_loop (fun k (s : ByteArray) i => impl_CodeText.l0 k s xs (xs.length : Int) i) xs.length (by omega) 13 (fun i s => s = lines (xs.take i) ∧ s.size ≤ 20 * i) (fun r => r = (lines xs, true))
    (fun k i s hk hi hI => by
      right
      have hgi : goodI xs[i].f0.toList xs[i].f1 xs[i].f2 xs[i].f3 xs[i].f4 = true := hg _ (List.getElem_mem hi)
      have hz := txt_size hgi
      have hs := hI.2
      refine ⟨s ++ line xs[i], ?_, ?_, ?_⟩
      · simp only [impl_CodeText.l0]
        rw [if_pos (by omega), if_pos (by omega), if_pos (by omega), rdI xs i hi, text_impl k (by omega) _ _ _ _ _ hgi, Option.bind_some, if_pos (by omega), if_pos (by simp only [ByteArray.size_append, nl1]; omega)]
        rfl
      · rw [lines_take xs i hi, hI.1]
      · simp only [line, ByteArray.size_append, nl1]
        omega)
    (fun k s _ hI => ⟨(s, true), by simp only [impl_CodeText.l0]; rw [if_neg (by omega)], by rw [hI.1, List.take_length]⟩) xs.length k 0 (⟨#[]⟩ : ByteArray) (by omega) (by omega) ⟨rfl, by decide⟩
  rw [← hq]
  exact hr
theorem codeText_true (xs : List LInstr) (hn : xs.length ≤ 9223372036854775807) (hs : ∀ x ∈ xs, x.f0.size ≤ 9223372036854775807) : laws_FnExactCodeText.f (xs.length + 100) xs = some true := by
  unfold laws_FnExactCodeText.f
  obtain ⟨r, hr, _, hl⟩ := szInstrS_f (xs.length + 100) xs 1048576 (by omega) (by omega) hn hs (by omega)
  rw [hr, Option.bind_some]
  by_cases h : r < 0
  · rw [if_pos h]
  · rw [if_neg h]
    have hn2 : xs.length ≤ 1048576 := by have := hl (by omega); omega
    rw [toInstrS_f (xs.length + 100) xs hn2 (by omega)]
    simp only [Option.bind_some, spec_CodeText.f, impl_CodeText.f]
    rw [cdCode_f (xs.length + 100) (xs.map convI) (by simpa using hn2) (by simp), isCode_f (xs.length + 100) (xs.map convI) (by simpa using hn2) (by simp)]
    have J : laws_FnExactCodeText.j0 (xs.length + 100) xs (xs.map convI) false = some true := by
      simp only [laws_FnExactCodeText.j0]
      rw [toInstrS_f (xs.length + 99) xs hn2 (by omega), Option.bind_some, eqInstrS_f (xs.length + 99) (xs.map convI) (by simpa using hn2) (by simp)]
      rfl
    cases hc : codeOk (xs.map convI) with
    | true =>
      have hc2 := hc
      unfold codeOk at hc2
      rw [Bool.and_eq_true, decide_eq_true_eq, List.all_eq_true] at hc2
      have s1 := spec_lines (xs.length + 100) (xs.map convI) hc2.1 hc2.2 (by simp)
      have s2 := impl_lines (xs.length + 100) (xs.map convI) hc2.1 hc2.2 (by simp)
      simp only [Option.bind_some, if_true, s1, s2]
      simpa using J
    | false =>
      simp only [Option.bind_some]
      simpa using J
theorem instrs_ok {xs : List LInstr} (h : ∀ x ∈ xs, instrSOk x) : ∀ x ∈ xs, x.f0.size ≤ 9223372036854775807 := fun x hx => by
  have := (h x hx).1
  unfold maxLen at this
  exact this
theorem len_ok {n : Nat} (h : n ≤ maxLen) : n ≤ 9223372036854775807 := by unfold maxLen at h; exact h
theorem codeText_walk (A : Option Addr) (c : Nat) (xs : List LInstr) (hl : xs.length ≤ c) (W : World) (hr : Kd.C k31 W A xs.length xs) (hm : xs.length ≤ maxLen) (ho : ∀ x ∈ xs, instrSOk x) :
    Calls Tryd.prog 5 #[.slice A xs.length c] W fun e w' => e = .returned (.bool true) ∧ Below W.heap.size W w' :=
  laws_FnExactCodeText.calls (xs.length + 100) A c xs true W hr hl (codeText_true xs (len_ok hm) (instrs_ok ho)) rfl
end Go.Proofs.YtjeklcgflocfoaaDoor.PureOps
