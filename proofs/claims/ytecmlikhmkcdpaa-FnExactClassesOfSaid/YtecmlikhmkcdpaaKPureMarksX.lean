/- Marks laid into results and read back, as the laws do; nodes marked from any number on. Plain. -/
import Derived.Test.YtecmlikhmkcdpaaKPureIsE
import Derived.Test.YtecmlikhmkcdpaaILawsEqNode
namespace Go.Proofs.Ytecmlikhmkcdpaa.PureOps
open Go.RowKit Go.Proofs.Ytecmlikhmkcdpaa.I Go.Proofs.YtecmlikhmkcdpaaW.PrintWords Go.Proofs.YtecmlikhmkcdpaaW.PrintLast Go.Proofs.YtecmlikhmkcdpaaW.PrintMore
set_option linter.unusedVariables false
set_option linter.unusedSimpArgs false
theorem eqIntS_f (k : Nat) (xs : List Int) (hn : xs.length ≤ 1048576) (hk : xs.length < k) : laws_eqIntS.f k xs xs = some true := by
  unfold laws_eqIntS.f
  rw [if_pos rfl]
  obtain ⟨r, hr, hq⟩ := some_loop (fun k (_ : Unit) i => laws_eqIntS.l0 k xs xs i) xs.length (by omega) 0 (fun _ _ => True) (fun r => r = true)
    (fun k i s _ hi _ => .inr ⟨(), by
      simp only [laws_eqIntS.l0]
      rw [if_pos (by omega), if_pos (by omega), if_pos (by omega), if_pos trivial], trivial⟩)
    (fun k s _ _ => ⟨true, by simp only [laws_eqIntS.l0]; rw [if_neg (by omega)], rfl⟩) xs.length k 0 () (by omega) (by omega) trivial
  rw [← hq]
  exact hr
theorem markIntS_f (k : Nat) (xs : List Int) (hn : xs.length ≤ 1048576) (hk : xs.length < k) : ∃ ys, laws_markIntS.f k xs 1 = some (1 + (xs.length : Int), ys) ∧ ys.length = xs.length ∧ ∀ j, j < xs.length → ys[j]? = some (1 + (j : Int)) := by
  unfold laws_markIntS.f
  obtain ⟨r, hr, h1, h2, h3⟩ := some_loop (fun k (s : List Int × Int) i => laws_markIntS.l0 k s.1 s.2 i) xs.length (by omega) 0 (fun i s => s.1.length = xs.length ∧ s.2 = 1 + (i : Int) ∧ ∀ j, j < i → s.1[j]? = some (1 + (j : Int))) (fun r => r.1 = 1 + (xs.length : Int) ∧ r.2.length = xs.length ∧ ∀ j, j < xs.length → r.2[j]? = some (1 + (j : Int)))
    (fun k i s _ hi hI => .inr ⟨(s.1.set i s.2, s.2 + 1), by
      simp only [laws_markIntS.l0]
      rw [if_pos (by omega), if_pos (by omega), Int.toNat_natCast, wrap64_small (n := s.2 + 1) (by omega) (by omega)], by simp [hI.1], by omega, fun j hj => by
      by_cases e : j = i
      · subst e
        show (s.1.set j s.2)[j]? = _
        rw [List.getElem?_set_self (by omega), hI.2.1]
      · show (s.1.set i s.2)[j]? = _
        rw [List.getElem?_set_ne (fun h => e h.symm)]
        exact hI.2.2 j (by omega)⟩)
    (fun k s _ hI => ⟨(s.2, s.1), by simp only [laws_markIntS.l0]; rw [if_neg (by omega)], hI.2.1, hI.1, hI.2.2⟩) xs.length k 0 (xs, 1) (by omega) (by omega) ⟨rfl, rfl, fun j hj => by omega⟩
  exact ⟨r.2, by rw [← h1]; exact hr, h2, h3⟩
theorem heldIntS_f (k : Nat) (ys : List Int) (hn : ys.length ≤ 1048576) (hk : ys.length < k) (hy : ∀ j, j < ys.length → ys[j]? = some (1 + (j : Int))) : laws_heldIntS.f k ys 1 = some (1 + (ys.length : Int)) := by
  unfold laws_heldIntS.f
  obtain ⟨r, hr, hq⟩ := some_loop (fun k (s : Int) i => laws_heldIntS.l0 k ys s i) ys.length (by omega) 0 (fun i s => s = 1 + (i : Int)) (fun r => r = 1 + (ys.length : Int))
    (fun k i s _ hi hI => .inr ⟨s + 1, by
      have h := hy i hi
      rw [List.getElem?_eq_getElem hi] at h
      simp only [laws_heldIntS.l0]
      rw [if_pos (by omega), if_pos (by omega), rd_get ys i hi, if_pos (by rw [Option.some.inj h, hI]), wrap64_small (n := s + 1) (by omega) (by omega)], by omega⟩)
    (fun k s _ hI => ⟨s, by simp only [laws_heldIntS.l0]; rw [if_neg (by omega)], hI⟩) ys.length k 0 1 (by omega) (by omega) rfl
  rw [← hq]; exact hr
theorem nums_size (a : Int) : (strOfNums [a]).size = 1 := by rfl
theorem markText_loop (d : Nat) : ∀ (k : Nat) (v : Int) (t : ByteArray), 0 ≤ v → v < 10 ^ d → v ≤ 9223372036854775807 → d < k → t.size + d ≤ 1000 → ∃ r, laws_markText.l0 k v t = some r := by
  induction d with
  | zero =>
    intro k v t h0 h1 hm hk ht
    obtain ⟨k, rfl⟩ : ∃ m, k = m + 1 := ⟨k - 1, by omega⟩
    simp only [laws_markText.l0]
    rw [if_neg (by simp at h1; omega), if_pos (by omega)]
    exact ⟨_, rfl⟩
  | succ d ih =>
    intro k v t h0 h1 hm hk ht
    obtain ⟨k, rfl⟩ : ∃ m, k = m + 1 := ⟨k - 1, by omega⟩
    simp only [laws_markText.l0]
    by_cases h : v > 0
    · rw [if_pos h, Option.bind_some, nums_size, if_pos (by omega)]
      have hv : Int.tdiv v 10 = v / 10 := Int.tdiv_eq_ediv_of_nonneg h0
      have hd : v / 10 < 10 ^ d := by
        have : (10 : Int) ^ (d + 1) = 10 * 10 ^ d := by rw [Int.pow_succ, Int.mul_comm]
        omega
      have hs : wrap64 (Int.tdiv v 10) = v / 10 := by
        rw [hv]
        exact wrap64_small (by omega) (by omega)
      rw [hs]
      exact ih k (v / 10) _ (by omega) hd (by omega) (by omega) (by simp [ByteArray.size_append, nums_size]; omega)
    · rw [if_neg h, if_pos (by omega)]
      exact ⟨_, rfl⟩
theorem markText_f (k : Nat) (hk : 20 < k) (v : Int) (h : v ≤ 1000000000000) : ∃ r, laws_markText.f k v = some r := by
  unfold laws_markText.f
  by_cases h0 : v ≤ 0
  · exact ⟨_, by rw [if_pos h0]⟩
  · rw [if_neg h0]
    exact markText_loop 15 k v ⟨#[]⟩ (by omega) (by omega) (by omega) (by omega) (by decide)
theorem markNodeS_f (k : Nat) (xs : List INode) (hn : xs.length ≤ 1048576) (hk : xs.length + 30 < k) : ∃ r, laws_markNodeS.f k xs 1 = some r ∧ 0 ≤ r.1 := by
  unfold laws_markNodeS.f
  exact some_loop (fun k (s : List INode × Int) i => laws_markNodeS.l0 k s.1 s.2 i) xs.length (by omega) 25 (fun i s => s.1.length = xs.length ∧ s.2 = 1 + 4 * (i : Int)) (fun r => 0 ≤ r.1)
    (fun k i s hk hi hI => by
      obtain ⟨t, ht⟩ := markText_f k (by omega) s.2 (by omega)
      have key : ∃ L : List INode, laws_markNodeS.l0 (k+1) s.1 s.2 i = laws_markNodeS.l0 k L (s.2+1+1+1+1) (wrap64 ((i : Int)+1)) ∧ L.length = xs.length := by
        simp only [laws_markNodeS.l0]
        rw [if_pos (by omega), ht, Option.bind_some, if_pos (by omega)]
        simp only [Option.bind_some]
        rw [wrap64_small (n := s.2 + 1) (by omega) (by omega), wrap64_small (n := s.2 + 1 + 1) (by omega) (by omega), wrap64_small (n := s.2 + 1 + 1 + 1) (by omega) (by omega), wrap64_small (n := s.2 + 1 + 1 + 1 + 1) (by omega) (by omega)]
        exact ⟨_, rfl, by simp [hI.1]⟩
      obtain ⟨L, hL, hl⟩ := key
      exact .inr ⟨(L, s.2 + 1 + 1 + 1 + 1), hL, hl, by show s.2 + 1 + 1 + 1 + 1 = 1 + 4 * ((i + 1 : Nat) : Int); omega⟩)
    (fun k s _ hI => ⟨(s.2, s.1), by simp only [laws_markNodeS.l0]; rw [if_neg (by omega)], by have := hI.2; show 0 ≤ s.2; omega⟩) xs.length k 0 (xs, 1) (by omega) (by omega) ⟨rfl, rfl⟩
def mtext (v : Int) : ByteArray := (laws_markText.f 21 v).getD ⟨#[]⟩
theorem mtext_up (v : Int) (r : ByteArray) (d : Nat) : ∀ k, laws_markText.f k v = some r → laws_markText.f (k + d) v = some r := by
  induction d with
  | zero => intro k h; exact h
  | succ d ih => intro k h; exact laws_markText.mono _ _ _ (ih k h)
theorem markText_m (k : Nat) (hk : 20 < k) (v : Int) (h : v ≤ 1000000000000) : laws_markText.f k v = some (mtext v) := by
  obtain ⟨r, hr⟩ := markText_f 21 (by omega) v h
  have e : mtext v = r := by unfold mtext; rw [hr]; rfl
  rw [e]
  have := mtext_up v r (k - 21) 21 hr
  rwa [show 21 + (k - 21) = k by omega] at this
def mnode (s : Int) (j : Nat) : INode := ⟨mtext (s + 4 * (j : Int)), s + 4 * (j : Int) + 1, s + 4 * (j : Int) + 1 + 1, s + 4 * (j : Int) + 1 + 1 + 1⟩
def marks (s : Int) (n : Nat) : List INode := (List.range n).map (mnode s)
theorem marks_length (s : Int) (n : Nat) : (marks s n).length = n := by simp [marks]
theorem rdSet (xs : List INode) (i : Nat) (h : i < xs.length) (v : INode) : rd_T79 (xs.set i v) (i : Int) = v := by
  rw [rdI _ i (by simpa using h), List.getElem_set_self]
theorem markNodeS_m (k : Nat) (xs : List INode) (s0 : Int) (hs : 0 ≤ s0) (hs' : s0 ≤ 10000000000) (hn : xs.length ≤ 1048576) (hk : xs.length + 30 < k) : laws_markNodeS.f k xs s0 = some (s0 + 4 * (xs.length : Int), marks s0 xs.length) := by
  unfold laws_markNodeS.f
  obtain ⟨r, hr, hq⟩ := some_loop (fun k (s : List INode × Int) i => laws_markNodeS.l0 k s.1 s.2 i) xs.length (by omega) 25 (fun i s => s.1.length = xs.length ∧ s.2 = s0 + 4 * (i : Int) ∧ ∀ j, j < i → s.1[j]? = some (mnode s0 j)) (fun r => r = (s0 + 4 * (xs.length : Int), marks s0 xs.length))
    (fun k i s hk hi hI => by
      obtain ⟨h1, h2, h3⟩ := hI
      have ht := markText_m k (by omega) s.2 (by omega)
      have hi' : i < s.1.length := by omega
      refine .inr ⟨(s.1.set i (mnode s0 i), s.2 + 1 + 1 + 1 + 1), ?_, by simp [h1], by show s.2 + 1 + 1 + 1 + 1 = s0 + 4 * ((i + 1 : Nat) : Int); omega, fun j hj => ?_⟩
      · simp only [laws_markNodeS.l0]
        rw [if_pos (by omega), ht, Option.bind_some, if_pos (by omega)]
        simp only [Option.bind_some, Int.toNat_natCast, List.set_set, rdSet _ _ hi']
        rw [wrap64_small (n := s.2 + 1) (by omega) (by omega), wrap64_small (n := s.2 + 1 + 1) (by omega) (by omega), wrap64_small (n := s.2 + 1 + 1 + 1) (by omega) (by omega), wrap64_small (n := s.2 + 1 + 1 + 1 + 1) (by omega) (by omega)]
        unfold mnode
        rw [← h2]
      · by_cases e : j = i
        · subst e
          show (s.1.set j _)[j]? = _
          rw [List.getElem?_set_self hi']
        · show (s.1.set i _)[j]? = _
          rw [List.getElem?_set_ne (fun h => e h.symm)]
          exact h3 j (by omega))
    (fun k s _ hI => ⟨(s.2, s.1), by simp only [laws_markNodeS.l0]; rw [if_neg (by omega)], by
      obtain ⟨h1, h2, h3⟩ := hI
      have : s.1 = marks s0 xs.length := by
        apply List.ext_getElem?
        intro j
        by_cases hj : j < xs.length
        · rw [h3 j hj]; simp [marks, hj]
        · rw [List.getElem?_eq_none (by omega), List.getElem?_eq_none (by rw [marks_length]; omega)]
      rw [this, h2]⟩) xs.length k 0 (xs, s0) (by omega) (by omega) ⟨rfl, by simp, fun j hj => by omega⟩
  rw [← hq]
  exact hr
end Go.Proofs.Ytecmlikhmkcdpaa.PureOps
