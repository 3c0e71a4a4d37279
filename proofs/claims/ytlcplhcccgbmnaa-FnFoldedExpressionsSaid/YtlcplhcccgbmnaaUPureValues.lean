/- The values of the nodes of an expression: one list of both sides. Plain. -/
import Derived.Test.YtlcplhcccgbmnaaUPureIsE
import Derived.Test.YtlcplhcccgbmnaaUPureApply
import Derived.Test.YtlcplhcccgbmnaaDAll
import Derived.Test.YtlcplhcccgbmnaaDExtra
namespace Go.Proofs.Ytlcplhcccgbmnaa.PureOps
open Go.RowKit Go.Proofs.Ytlcplhcccgbmnaa.D Go.Proofs.YtlcplhcccgbmnaaW.PrintWords Go.Proofs.YtlcplhcccgbmnaaW.PrintLast Go.Proofs.YtlcplhcccgbmnaaW.PrintMore
set_option linter.unusedVariables false
set_option linter.unusedSimpArgs false
theorem app_one {o : ByteArray} (h : one o.toList = true) (a b : Int) : app o a b = app o a 0 := by
 unfold app spec_exApply.f
 simp only [one, Bool.or_eq_true, beq_iff_eq] at h
 rcases h with h | h <;> simp [h]
def words (u : List Int) : Prop := ∀ x ∈ u, 0 ≤ x ∧ x ≤ 63
theorem rd_word {u : List Int} (h : words u) (p : Int) : 0 ≤ rd u p ∧ rd u p ≤ 63 := by
 unfold rd
 rw [List.getD_eq_getElem?_getD]
 by_cases hp : p.toNat < u.length
 ·rw [List.getElem?_eq_getElem hp]
  exact h _ (List.getElem_mem hp)
 ·rw [List.getElem?_eq_none (by omega)]
  exact ⟨by simp, by simp⟩
/-- The value of a node, the values of the nodes before at hand. -/
def val (n : INode) (u : List Int) (x y : Int) : Int :=
 if n.f0.toList = [105, 110] then (if n.f3 = 0 then x else y) else if n.f0.toList = [99, 111, 110, 115, 116] then n.f3
 else if one n.f0.toList then app n.f0 (rd u n.f1) 0 else app n.f0 (rd u n.f1) (rd u n.f2)
def valsFrom (xs : List INode) (x y : Int) : Nat → Nat → List Int → List Int
 | 0, _, u => u
 | d + 1, i, u => valsFrom xs x y d (i + 1) (u ++ [val (xs.getD i z47) u x y])
theorem val_word {n : INode} {i : Int} (hok : nodeOk n.f0.toList n.f1 n.f2 n.f3 i = true) {u : List Int} {x y : Int} (hx : 0 ≤ x ∧ x ≤ 63) (hy : 0 ≤ y ∧ y ≤ 63) : 0 ≤ val n u x y ∧ val n u x y ≤ 63 := by
 unfold val
 by_cases h1 : n.f0.toList = [105, 110]
 ·rw [if_pos h1]
  split
  ·exact hx
  ·exact hy
 ·rw [if_neg h1]
  by_cases h2 : n.f0.toList = [99, 111, 110, 115, 116]
  ·rw [if_pos h2]
   unfold nodeOk at hok
   rw [h2, if_pos (by decide), if_neg (by decide)] at hok
   simp only [Bool.and_eq_true] at hok
   exact word_iff.1 hok.2
  ·rw [if_neg h2]
   split
   ·exact app_word _ _ _
   ·exact app_word _ _ _
theorem rd_append {u v : List Int} {p : Int} (h0 : 0 ≤ p) (h : p < u.length) : rd (u ++ v) p = rd u p := by
 unfold rd
 rw [List.getD_eq_getElem?_getD, List.getD_eq_getElem?_getD, List.getElem?_append_left (by omega)]
theorem set_append (u : List Int) (d : Nat) (v : Int) : (u ++ List.replicate (d + 1) 0).set u.length v = (u ++ [v]) ++ List.replicate d 0 := by
 rw [List.replicate_succ, List.set_append, if_neg (by omega), Nat.sub_self]
 simp
theorem values_main (xs : List INode) (hok : okAll xs) (hn : xs.length ≤ 1048576) {x y : Int} (hx : 0 ≤ x ∧ x ≤ 63) (hy : 0 ≤ y ∧ y ≤ 63) (d : Nat) : ∀ (k i : Nat) (u : List Int), i + d = xs.length → 3 * d + 20 < k → u.length = i → words u →
  spec_exValues.l0 k x y u xs (xs.length : Int) (i : Int) = some (valsFrom xs x y d i u) ∧ impl_values.l0 k x y (u ++ List.replicate d 0) xs (xs.length : Int) (i : Int) = some (valsFrom xs x y d i u) ∧ (valsFrom xs x y d i u).length = xs.length ∧ words (valsFrom xs x y d i u) := by
 induction d with
 | zero =>
  intro k i u h hk hu hw
  obtain ⟨k, rfl⟩ : ∃ m, k = m + 1 := ⟨k - 1, by omega⟩
  refine ⟨?_, ?_, ?_, ?_⟩
  ·simp only [spec_exValues.l0, valsFrom]; rw [if_neg (by omega)]
  ·simp only [impl_values.l0, valsFrom]; rw [if_neg (by omega)]; simp
  ·simp only [valsFrom]; omega
  ·simp only [valsFrom]; exact hw
 | succ d ih =>
  intro k i u h hk hu hw
  obtain ⟨k, rfl⟩ : ∃ m, k = m + 2 := ⟨k - 2, by omega⟩
  have hi : i < xs.length := by omega
  have hg : xs.getD i z47 = xs[i] := by rw [List.getD_eq_getElem?_getD, List.getElem?_eq_getElem hi, Option.getD_some]
  have hokI := hok i hi
  have hv := val_word (u := u) hokI hx hy
  have hw' : words (u ++ [val xs[i] u x y]) := by
   intro z hz
   rcases List.mem_append.1 hz with hz | hz
   ·exact hw z hz
   ·rw [List.mem_singleton.1 hz]; exact hv
  have hu' : (u ++ [val xs[i] u x y]).length = i + 1 := by simp [hu]
  have hlen : (u ++ List.replicate (d + 1) (0 : Int)).length = xs.length := by simp [hu]; omega
  have IHa := ih k (i + 1) _ (by omega) (by omega) hu' hw'
  have IHb := ih (k + 1) (i + 1) _ (by omega) (by omega) hu' hw'
  have hset : ∀ v : Int, (u ++ List.replicate (d + 1) 0).set ((i : Int)).toNat v = (u ++ [v]) ++ List.replicate d 0 := by
   intro v
   rw [Int.toNat_natCast, ← hu]
   exact set_append u d v
  simp only [valsFrom, hg]
  refine ⟨?_, ?_, IHa.2.2.1, IHa.2.2.2⟩
  ·-- the reference
   by_cases h2 : xs[i].f0.toList = [99, 111, 110, 115, 116]
   ·simp only [spec_exValues.l0]
    rw [if_pos (by omega), if_pos (by omega), if_pos (by omega), rdI xs i hi, if_pos h2, if_pos (by omega), wrapS hi (by omega)]
    have : val xs[i] u x y = xs[i].f3 := by unfold val; rw [if_neg (by rw [h2]; decide), if_pos h2]
    rw [this] at IHb ⊢; exact IHb.1
   ·have hj : spec_exValues.l0 (k + 2) x y u xs (xs.length : Int) (i : Int) = spec_exValues.j1 (k + 1) x y u xs (xs.length : Int) (i : Int) (xs[i].f0.toList == [105, 110] && xs[i].f3 == 0) xs[i].f0 xs[i].f1 xs[i].f2 xs[i].f3 := by
     simp only [spec_exValues.l0]
     rw [if_pos (by omega), if_pos (by omega), if_pos (by omega), rdI xs i hi, if_neg h2]
     by_cases h1 : xs[i].f0.toList = [105, 110]
     ·rw [if_pos h1, show (xs[i].f0.toList == [105, 110]) = true from beq_iff_eq.2 h1, Bool.true_and]
     ·rw [if_neg h1, show (xs[i].f0.toList == [105, 110]) = false from beq_eq_false_iff_ne.2 h1, Bool.false_and]
    rw [hj]
    simp only [spec_exValues.j1]
    by_cases h1 : xs[i].f0.toList = [105, 110]
    ·by_cases h0 : xs[i].f3 = 0
     ·rw [if_pos (by simp [h1, h0]), if_pos (by omega), wrapS hi (by omega)]
      have : val xs[i] u x y = x := by unfold val; rw [if_pos h1, if_pos h0]
      rw [this] at IHa ⊢; exact IHa.1
     ·rw [if_neg (by simp [h0]), if_pos h1, if_pos (by omega), wrapS hi (by omega)]
      have : val xs[i] u x y = y := by unfold val; rw [if_pos h1, if_neg h0]
      rw [this] at IHa ⊢; exact IHa.1
    ·rw [if_neg (by simp [h1]), if_neg h1, exOne, Option.bind_some]
     have hl : leaf xs[i].f0.toList = false := by unfold leaf; simp [h1, h2]
     by_cases ho : one xs[i].f0.toList = true
     ·have hp := parts_lt hokI xs[i].f1 (by unfold parts; rw [if_pos ho]; simp)
      rw [if_pos ho, if_pos hp.1, if_pos (by omega), app_spec _ _ 0 (by omega), Option.bind_some, if_pos (by omega), wrapS hi (by omega)]
      have : val xs[i] u x y = app xs[i].f0 (rd u xs[i].f1) 0 := by unfold val; rw [if_neg h1, if_neg h2, if_pos ho]
      rw [this] at IHa ⊢; exact IHa.1
     ·have ht : two xs[i].f0.toList = true := by
       unfold nodeOk at hokI
       rw [hl, if_neg (by decide), if_neg ho] at hokI
       simp only [Bool.and_eq_true] at hokI
       exact hokI.1.1.1
      have hp := parts_lt hokI xs[i].f1 (by unfold parts; rw [if_neg ho, if_pos ht]; simp)
      have hq := parts_lt hokI xs[i].f2 (by unfold parts; rw [if_neg ho, if_pos ht]; simp)
      rw [if_neg ho, if_pos hp.1, if_pos (by omega), if_pos hq.1, if_pos (by omega), app_spec _ _ _ (rd_word hw _).1, Option.bind_some, if_pos (by omega), wrapS hi (by omega)]
      have : val xs[i] u x y = app xs[i].f0 (rd u xs[i].f1) (rd u xs[i].f2) := by unfold val; rw [if_neg h1, if_neg h2, if_neg ho]
      rw [this] at IHa ⊢; exact IHa.1
  ·-- the program
   simp only [impl_values.l0]
   rw [if_pos (by omega), if_pos (by omega), if_pos (by omega), rdI xs i hi]
   by_cases h1 : xs[i].f0.toList = [105, 110]
   ·have hb : 0 ≤ xs[i].f3 ∧ xs[i].f3 ≤ 1 := by
     unfold nodeOk at hokI
     rw [h1, if_pos (by decide), if_pos rfl] at hokI
     simp only [Bool.and_eq_true, decide_eq_true_eq] at hokI
     exact hokI.2
    rw [if_pos h1, Option.bind_some, if_pos hb.1, if_pos (by simp; omega), if_pos (by omega), hset, wrapS hi (by omega)]
    have : val xs[i] u x y = rd [x, y] xs[i].f3 := by
     unfold val
     rw [if_pos h1]
     by_cases h0 : xs[i].f3 = 0
     ·rw [if_pos h0, h0]; rfl
     ·rw [if_neg h0, show xs[i].f3 = 1 by omega]; rfl
    rw [this] at IHb ⊢; exact IHb.2.1
   ·rw [if_neg h1]
    by_cases h2 : xs[i].f0.toList = [99, 111, 110, 115, 116]
    ·rw [if_pos h2, if_pos (by omega), hset, wrapS hi (by omega)]
     have : val xs[i] u x y = xs[i].f3 := by unfold val; rw [if_neg h1, if_pos h2]
     rw [this] at IHb ⊢; exact IHb.2.1
    ·rw [if_neg h2]
     have hl : leaf xs[i].f0.toList = false := by unfold leaf; simp [h1, h2]
     have hw2 : words (u ++ List.replicate (d + 1) 0) := by
      intro z hz
      rcases List.mem_append.1 hz with hz | hz
      ·exact hw z hz
      ·rw [List.mem_replicate] at hz; omega
     by_cases ho : one xs[i].f0.toList = true
     ·have hp := parts_lt hokI xs[i].f1 (by unfold parts; rw [if_pos ho]; simp)
      have hz : xs[i].f2 = 0 := by
       unfold nodeOk at hokI
       rw [hl, if_neg (by decide), if_pos ho] at hokI
       simp only [Bool.and_eq_true, beq_iff_eq] at hokI
       exact hokI.1.2
      rw [if_pos hp.1, if_pos (by omega), if_pos (by omega), if_pos (by omega), app_impl _ _ _ (rd_word hw2 _).1, Option.bind_some, if_pos (by omega), hset, wrapS hi (by omega)]
      have : val xs[i] u x y = app xs[i].f0 (rd (u ++ List.replicate (d + 1) 0) xs[i].f1) (rd (u ++ List.replicate (d + 1) 0) xs[i].f2) := by
       unfold val
       rw [if_neg h1, if_neg h2, if_pos ho, app_one ho _ (rd (u ++ List.replicate (d + 1) 0) xs[i].f2), rd_append hp.1 (by omega)]
      rw [this] at IHb ⊢; exact IHb.2.1
     ·have ht : two xs[i].f0.toList = true := by
       unfold nodeOk at hokI
       rw [hl, if_neg (by decide), if_neg ho] at hokI
       simp only [Bool.and_eq_true] at hokI
       exact hokI.1.1.1
      have hp := parts_lt hokI xs[i].f1 (by unfold parts; rw [if_neg ho, if_pos ht]; simp)
      have hq := parts_lt hokI xs[i].f2 (by unfold parts; rw [if_neg ho, if_pos ht]; simp)
      rw [if_pos hp.1, if_pos (by omega), if_pos hq.1, if_pos (by omega), app_impl _ _ _ (rd_word hw2 _).1, Option.bind_some, if_pos (by omega), hset, wrapS hi (by omega)]
      have : val xs[i] u x y = app xs[i].f0 (rd (u ++ List.replicate (d + 1) 0) xs[i].f1) (rd (u ++ List.replicate (d + 1) 0) xs[i].f2) := by
       unfold val
       rw [if_neg h1, if_neg h2, if_neg ho, rd_append hp.1 (by omega), rd_append hq.1 (by omega)]
      rw [this] at IHb ⊢; exact IHb.2.1
/-- The values of all nodes. -/
def vals (xs : List INode) (x y : Int) : List Int := valsFrom xs x y xs.length 0 []
theorem values_f (k : Nat) (xs : List INode) (hE : isE xs = true) {x y : Int} (hx : word x = true) (hy : word y = true) (hk : 100 < k) :
  spec_exValues.f k xs x y = some (vals xs x y) ∧ impl_values.f k xs x y = some (vals xs x y) ∧ (vals xs x y).length = xs.length ∧ words (vals xs x y) := by
 obtain ⟨h1, h2, h3⟩ := isE_true hE
 have h := values_main xs h3 (by omega) (word_iff.1 hx) (word_iff.1 hy) xs.length k 0 [] (by omega) (by omega) rfl (fun z hz => by cases hz)
 unfold spec_exValues.f impl_values.f
 rw [if_pos (by omega), if_pos (by simp; omega)]
 exact h
end Go.Proofs.Ytlcplhcccgbmnaa.PureOps
