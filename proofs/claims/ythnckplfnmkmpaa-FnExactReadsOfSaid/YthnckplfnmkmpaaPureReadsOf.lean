/- ReadsOf of the program and of the reference agree for all arguments. -/
import Derived.Test.YthnckplfnmkmpaaPureReads
import Derived.Test.YthnckplfnmkmpaaPureInts
import Derived.Test.YthnckplfnmkmpaaMKinds
import Derived.Test.YthnckplfnmkmpaaFSpecReadsOf
namespace Go.Proofs.Ythnckplfnmkmpaa.PureCd
open Go.RowKit Go.Proofs.Ythnckplfnmkmpaa.PureOps Go.Proofs.Ythnckplfnmkmpaa.F Go.Proofs.YthnckplfnmkmpaaW.PrintWords Go.Proofs.YthnckplfnmkmpaaW.PrintLast Go.Proofs.YthnckplfnmkmpaaW.PrintMore Go.Proofs.Ythnckplfnmkmpaa.MKinds
set_option linter.unusedVariables false
set_option linter.unusedSimpArgs false
theorem szI_f (a : ByteArray) (d x y m l : Int) (h0 : 0 ≤ l) (h1 : l ≤ 1048576) (hs : a.size ≤ 9223372036854775807) :
    laws_szInstr.f a d x y m l = if l - (a.size : Int) < 0 then some (-1) else some (l - (a.size : Int)) := by
  unfold laws_szInstr.f
  rw [wrap64_small (by omega) (by omega)]
open Classical in
noncomputable def readsOf_res (o : ByteArray) (d a b m : Int) : List Int × Bool := if goodI o.toList d a b m = true then (readsL (shape o.toList).1 (shape o.toList).2.1 a b, true) else ([], false)
theorem readsOf_s (k : Nat) (hk : 30 < k) (o : ByteArray) (d a b m : Int) : spec_ReadsOf.f k o d a b m = some (readsOf_res o d a b m) ∧ impl_ReadsOf.f k o d a b m = some (readsOf_res o d a b m) := by
  unfold spec_ReadsOf.f impl_ReadsOf.f readsOf_res
  rw [cdGood_f k (by omega), isInstr_f k (by omega), Option.bind_some, Option.bind_some, reads_s k (by omega), reads_f k (by omega)]
  by_cases h : goodI o.toList d a b m = true
  · simp only [if_pos h]
    exact ⟨rfl, rfl⟩
  · simp only [if_neg h, and_self]
theorem readsOf_small (o : ByteArray) (d a b m : Int) : (readsOf_res o d a b m).1.length ≤ 2 := by
  unfold readsOf_res
  split
  · exact readsL_length _ _ _ _
  · simp
theorem readsOf_true (o : ByteArray) (d a b m : Int) (hs : o.size ≤ 9223372036854775807) : laws_FnExactReadsOf.f 100 o d a b m = some true := by
  unfold laws_FnExactReadsOf.f
  rw [szI_f o d a b m 1048576 (by omega) (by omega) hs]
  by_cases h : 1048576 - (o.size : Int) < 0
  · rw [if_pos h, Option.bind_some, if_pos (by decide)]
  · rw [if_neg h, Option.bind_some, if_neg h]
    obtain ⟨h1, h2⟩ := readsOf_s 100 (by omega) o d a b m
    obtain ⟨_, g2⟩ := readsOf_s 99 (by omega) o d a b m
    have h3 := readsOf_small o d a b m
    generalize readsOf_res o d a b m = q at h1 h2 g2 h3
    obtain ⟨l', b'⟩ := q
    have h3 : l'.length ≤ 2 := h3
    obtain ⟨ys, y1, y2, y3⟩ := markIntS_f 99 l' (by omega) (by omega)
    rw [← y2] at y3
    have j1 : laws_FnExactReadsOf.j1 99 ys (1 + (l'.length : Int)) false = some true := by
      rw [show 99 = 98 + 1 from rfl]
      simp only [laws_FnExactReadsOf.j1]
      rw [if_neg (by decide), heldIntS_f _ ys (by omega) (by omega) y3, Option.bind_some, if_neg (by omega), if_pos (by omega)]
    have j0 : laws_FnExactReadsOf.j0 100 l' b' l' false o d a b m = some true := by
      rw [show 100 = 99 + 1 from rfl]
      simp only [laws_FnExactReadsOf.j0, laws_toInstr.f]
      rw [if_neg (by decide), y1, Option.bind_some]
      dsimp only
      rw [heldIntS_f _ ys (by omega) (by omega) y3, Option.bind_some, if_neg (by omega), if_pos (by omega), Option.bind_some]
      dsimp only
      rw [g2, Option.bind_some]
      dsimp only
      rw [eqIntS_f _ l' (by omega) (by omega), Option.bind_some, if_pos rfl, bne_self_eq_false]
      exact j1
    simp only [Option.bind_some, laws_toInstr.f, h1, h2]
    rw [eqIntS_f _ l' (by omega) (by omega), Option.bind_some, if_pos rfl, bne_self_eq_false]
    exact j0
theorem len_ok {n : Nat} (h : n ≤ maxLen) : n ≤ 9223372036854775807 := by unfold maxLen at h; exact h
theorem readsOf_walk (x : ByteArray × Int × Int × Int × Int) (hx : instrOk x) (W : World) :
    Calls Try.prog 4 #[.agg #[.string x.1, .int .i64 x.2.1, .int .i64 x.2.2.1, .int .i64 x.2.2.2.1, .int .i64 x.2.2.2.2]] W fun e w' => e = .returned (.bool true) ∧ Below W.heap.size W w' :=
  laws_FnExactReadsOf.calls 100 x.1 x.2.1 x.2.2.1 x.2.2.2.1 x.2.2.2.2 true W (readsOf_true _ _ _ _ _ (len_ok hx.1)) rfl
end Go.Proofs.Ythnckplfnmkmpaa.PureCd
