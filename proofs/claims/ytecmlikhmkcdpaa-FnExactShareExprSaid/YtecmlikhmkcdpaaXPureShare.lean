/- ShareExpr of the program and of the reference agree for all arguments; what comes back lies in memory of its own. -/
import Derived.Test.YtecmlikhmkcdpaaXPureIsExpr0
import Derived.Test.YtecmlikhmkcdpaaXPureMarksN
import Derived.Test.YtecmlikhmkcdpaaXPureMoved
import Derived.Test.YtecmlikhmkcdpaaESpecExShare
namespace Go.Proofs.Ytecmlikhmkcdpaa.PureOps
open Go.RowKit Go.Proofs.Ytecmlikhmkcdpaa.E Go.Proofs.YtecmlikhmkcdpaaW.PrintWords Go.Proofs.YtecmlikhmkcdpaaW.PrintLast Go.Proofs.YtecmlikhmkcdpaaW.PrintMore Go.Proofs.Ytecmlikhmkcdpaa.MKinds
set_option linter.unusedVariables false
set_option linter.unusedSimpArgs false
/-- How many are done. -/
def cnt (ds : List Int) : Nat := ds.countP (fun x => decide (0 ≤ x))
theorem cnt_set (ds : List Int) (i : Nat) (h : i < ds.length) (h0 : ds[i] < 0) (x : Int) (hx : 0 ≤ x) : cnt (ds.set i x) = cnt ds + 1 := by
  unfold cnt
  rw [List.countP_set h]
  have e1 : decide (0 ≤ ds[i]) = false := decide_eq_false (by omega)
  have e2 : decide (0 ≤ x) = true := decide_eq_true hx
  simp only [e1, e2, if_true, Bool.false_eq_true, if_false, Nat.sub_zero]
theorem cnt_le (ds : List Int) : cnt ds ≤ ds.length := List.countP_le_length
theorem idx_put (Y : INode) (R : List INode) : (idxN Y R < 0 ∧ putN Y R = ((R.length : Int), R ++ [Y])) ∨ (¬ idxN Y R < 0 ∧ putN Y R = (idxN Y R, R)) := by
  unfold idxN putN
  cases List.findIdx? (fun m => sameN m Y) R with
  | none => exact .inl ⟨by decide, rfl⟩
  | some j => exact .inr ⟨by simp, rfl⟩
theorem put_both (Y : INode) (R : List INode) (D : List Int) (i : Nat) (hR : R.length < 1000) :
    shr.put (i : Int) Y R D = some ((putN Y R).2, D.set i (putN Y R).1) := by
  unfold shr.put
  rw [if_pos hR]
  rcases idx_put Y R with ⟨h1, h2⟩ | ⟨h1, h2⟩
  · rw [if_pos h1, h2]; rfl
  · rw [if_neg h1, h2]; rfl
theorem put_len (Y : INode) (R : List INode) : (putN Y R).2.length ≤ R.length + 1 := by
  unfold putN
  split <;> simp
/-- What both sides hold when a node has been walked. -/
def shared (xs : List INode) (i : Nat) (ds : List Int) (r : Int) (R : List INode) (D : List Int) : Prop :=
  D.length = xs.length ∧ rd D (i : Int) = r ∧ 0 ≤ r ∧ (∀ j : Int, 0 ≤ j → 0 ≤ rd ds j → rd D j = rd ds j) ∧ R.length ≤ cnt D ∧ ∀ j : Nat, i < j → rd D (j : Int) = rd ds (j : Int)
theorem shared_put (xs : List INode) (i : Nat) (hi : i < xs.length) (ds : List Int) (hd : rd ds (i : Int) < 0) (R : List INode) (D : List Int) (hl : D.length = xs.length) (h1 : ∀ j : Int, 0 ≤ j → 0 ≤ rd ds j → rd D j = rd ds j) (h2 : R.length ≤ cnt D) (h3 : ∀ j : Nat, i ≤ j → rd D (j : Int) = rd ds (j : Int)) (Y : INode) :
    shared xs i ds (putN Y R).1 (putN Y R).2 (D.set i (putN Y R).1) := by
  have hp := putN_pos Y R
  have hid : i < D.length := by omega
  have hD : D[i] < 0 := by
    have := h3 i (Nat.le_refl _)
    rw [← this] at hd
    unfold rd at hd
    simpa [List.getD_eq_getElem?_getD, hid] using hd
  refine ⟨by simpa using hl, ?_, hp, ?_, ?_, ?_⟩
  · have := rd_set (ds := D) (i : Int) (by omega) (by omega) (x := (putN Y R).1)
    simpa using this
  · intro j hj hdj
    have hne : j ≠ (i : Int) := by rintro rfl; omega
    have := rd_set_ne (ds := D) (i : Int) j (by omega) hj hne (x := (putN Y R).1)
    rw [Int.toNat_natCast] at this
    rw [this, h1 j hj hdj]
  · rw [cnt_set D i hid hD _ hp]
    have := put_len Y R
    omega
  · intro j hj
    have := rd_set_ne (ds := D) (i : Int) (j : Int) (by omega) (by omega) (by omega) (x := (putN Y R).1)
    rw [Int.toNat_natCast] at this
    rw [this, h3 j (by omega)]
theorem share_main (xs : List INode) (hok : okAll xs) (hn : xs.length ≤ 24) (i : Nat) : ∀ (k1 k2 : Nat) (out : List INode) (ds : List Int), i < xs.length → ds.length = xs.length → out.length ≤ cnt ds → i + 14 < k1 → i + 14 < k2 →
    ∃ r R D, exb_once.f k1 xs (i : Int) out ds = some (r, R, D) ∧ shr.f k2 xs (i : Int) out ds = some (R, D) ∧ shared xs i ds r R D := by
  induction i using Nat.strongRecOn with
  | _ i ih =>
    intro k1 k2 out ds hi hdl hc h1 h2
    obtain ⟨k1, rfl⟩ : ∃ q, k1 = q + 1 := ⟨k1 - 1, by omega⟩
    obtain ⟨k2, rfl⟩ : ∃ q, k2 = q + 1 := ⟨k2 - 1, by omega⟩
    have hnode := hok i hi
    have hlt := parts_lt hnode
    have hl2 := parts_len xs[i].f0.toList xs[i].f1 xs[i].f2
    by_cases hd : 0 ≤ rd ds (i : Int)
    · refine ⟨rd ds (i : Int), out, ds, ?_, ?_, hdl, rfl, hd, fun _ _ _ => rfl, hc, fun _ _ => rfl⟩
      · simp only [exb_once.f]
        rw [if_pos (by omega), if_pos (by omega), if_pos hd]
      · simp only [shr.f]
        rw [if_pos (by omega), if_pos (by omega), if_pos hd]
    · have eO : exb_once.f (k1 + 1) xs (i : Int) out ds = ((if 0 < (parts xs[i].f0.toList xs[i].f1 xs[i].f2).length then exb_once.f k1 xs xs[i].f1 out ds else some (0, out, ds)).bind fun a => (if 1 < (parts xs[i].f0.toList xs[i].f1 xs[i].f2).length then exb_once.f k1 xs xs[i].f2 a.2.1 a.2.2 else some (0, a.2.1, a.2.2)).bind fun b =>
        if b.2.1.length < 1000 then some ((putN ⟨xs[i].f0, a.1, b.1, xs[i].f3⟩ b.2.1).1, (putN ⟨xs[i].f0, a.1, b.1, xs[i].f3⟩ b.2.1).2, b.2.2.set i (putN ⟨xs[i].f0, a.1, b.1, xs[i].f3⟩ b.2.1).1) else none) := by
        simp only [exb_once.f]
        rw [if_pos (by omega), if_pos (by omega), if_neg hd, rdI xs i hi, exParts_f k1 (by omega), Option.bind_some]
        rfl
      have eS : shr.f (k2 + 1) xs (i : Int) out ds = ((shr.go (shr.f k2 xs) (parts xs[i].f0.toList xs[i].f1 xs[i].f2) out ds).bind fun s => (impl_Node_renamed.f k2 xs[i].f0 xs[i].f1 xs[i].f2 xs[i].f3 s.2).bind fun q => shr.put (i : Int) ⟨q.1, q.2.1, q.2.2.1, q.2.2.2⟩ s.1 s.2) := by
        simp only [shr.f]
        rw [if_pos (by omega), if_pos (by omega), if_neg hd, rdI xs i hi, of_f k2 (by omega), Option.bind_some]
      rw [eO, eS]
      clear eO eS
      have hmv : ∀ P : List Int, P.length = xs.length → impl_Node_renamed.f k2 xs[i].f0 xs[i].f1 xs[i].f2 xs[i].f3 P = some (tup (moved xs[i] P)) := fun P hP => moved_i k2 (by omega) xs[i] (i : Int) hnode P (by omega)
      have hcl := cnt_le
      generalize hX : xs[i] = X at hlt hl2 hmv ⊢
      unfold parts at hlt hl2 ⊢
      by_cases c1 : one X.f0.toList = true
      · rw [if_pos c1] at hlt hl2 ⊢
        have hp := hlt X.f1 (by simp)
        obtain ⟨p, hpe⟩ : ∃ p : Nat, X.f1 = (p : Int) := ⟨X.f1.toNat, by omega⟩
        have hpi : p < i := by omega
        obtain ⟨r1, R1, D1, g1, s1, e1, e2, e3, e4, e5, e6⟩ := ih p hpi k1 k2 out ds (by omega) hdl hc (by omega) (by omega)
        rw [← hpe] at g1 s1 e2
        have hm : moved X D1 = ⟨X.f0, r1, 0, X.f3⟩ := by unfold moved; rw [if_pos c1, e2]
        have hR : R1.length < 1000 := by have := hcl D1; omega
        refine ⟨(putN ⟨X.f0, r1, 0, X.f3⟩ R1).1, (putN ⟨X.f0, r1, 0, X.f3⟩ R1).2, D1.set i (putN ⟨X.f0, r1, 0, X.f3⟩ R1).1, ?_, ?_, shared_put xs i hi ds (by omega) R1 D1 e1 e4 e5 (fun j hj => e6 j (by omega)) _⟩
        · simp only [List.length_singleton, Nat.lt_irrefl, if_false, Nat.zero_lt_one, if_true, g1, Option.bind_some]
          rw [if_pos hR]
        · simp only [shr.go, s1, Option.bind_some]
          rw [hmv D1 e1, Option.bind_some, hm]
          exact put_both ⟨X.f0, r1, 0, X.f3⟩ R1 D1 i hR
      · rw [if_neg c1] at hlt hl2 ⊢
        by_cases c2 : two X.f0.toList = true
        · rw [if_pos c2] at hlt hl2 ⊢
          have hp := hlt X.f1 (by simp)
          have hq := hlt X.f2 (by simp)
          obtain ⟨p, hpe⟩ : ∃ p : Nat, X.f1 = (p : Int) := ⟨X.f1.toNat, by omega⟩
          obtain ⟨q, hqe⟩ : ∃ q : Nat, X.f2 = (q : Int) := ⟨X.f2.toNat, by omega⟩
          have hpi : p < i := by omega
          have hqi : q < i := by omega
          obtain ⟨r1, R1, D1, g1, s1, e1, e2, e3, e4, e5, e6⟩ := ih p hpi k1 k2 out ds (by omega) hdl hc (by omega) (by omega)
          obtain ⟨r2, R2, D2, g2, s2, f1, f2, f3, f4, f5, f6⟩ := ih q hqi k1 k2 R1 D1 (by omega) e1 e5 (by omega) (by omega)
          rw [← hpe] at g1 s1 e2
          rw [← hqe] at g2 s2 f2
          have hpD : rd D2 X.f1 = r1 := by rw [f4 X.f1 (by omega) (by omega), e2]
          have hm : moved X D2 = ⟨X.f0, r1, r2, X.f3⟩ := by unfold moved; rw [if_neg c1, if_pos c2, f2, hpD]
          have hR : R2.length < 1000 := by have := hcl D2; omega
          refine ⟨(putN ⟨X.f0, r1, r2, X.f3⟩ R2).1, (putN ⟨X.f0, r1, r2, X.f3⟩ R2).2, D2.set i (putN ⟨X.f0, r1, r2, X.f3⟩ R2).1, ?_, ?_, shared_put xs i hi ds (by omega) R2 D2 f1 ?_ f5 (fun j hj => by rw [f6 j (by omega), e6 j (by omega)]) _⟩
          · simp only [List.length_cons, List.length_nil, Nat.reduceAdd, show (0 : Nat) < 2 by omega, show (1 : Nat) < 2 by omega, if_true, g1, g2, Option.bind_some]
            rw [if_pos hR]
          · simp only [shr.go, s1, s2, Option.bind_some]
            rw [hmv D2 f1, Option.bind_some, hm]
            exact put_both ⟨X.f0, r1, r2, X.f3⟩ R2 D2 i hR
          · intro j hj hdj
            have := e4 j hj hdj
            rw [f4 j hj (by omega), this]
        · rw [if_neg c2] at hlt hl2 ⊢
          have hm : moved X ds = ⟨X.f0, 0, 0, X.f3⟩ := by unfold moved; rw [if_neg c1, if_neg c2]
          have hR : out.length < 1000 := by have := hcl ds; omega
          refine ⟨(putN ⟨X.f0, 0, 0, X.f3⟩ out).1, (putN ⟨X.f0, 0, 0, X.f3⟩ out).2, ds.set i (putN ⟨X.f0, 0, 0, X.f3⟩ out).1, ?_, ?_, shared_put xs i hi ds (by omega) out ds hdl (fun _ _ _ => rfl) hc (fun j hj => rfl) _⟩
          · simp only [List.length_nil, Nat.lt_irrefl, if_false, Option.bind_some, show ¬ (1 < 0) by omega]
            rw [if_pos hR]
          · simp only [shr.go, Option.bind_some]
            rw [hmv ds hdl, Option.bind_some, hm]
            exact put_both ⟨X.f0, 0, 0, X.f3⟩ out ds i hR
theorem share_same (k : Nat) (xs : List INode) (hk : 4 * xs.length + 200 < k) (hn : xs.length ≤ 1048576) : ∃ q, spec_ShareExpr.f k xs = some q ∧ impl_ShareExpr.f k xs = some q ∧ q.1.length ≤ 24 := by
  unfold spec_ShareExpr.f impl_ShareExpr.f
  rw [good_f k xs (by omega) hn, isExpr_f k xs (by omega) hn, Option.bind_some, Option.bind_some]
  by_cases h : isE xs = true
  · obtain ⟨n1, n2, hok⟩ := isE_true h
    rw [if_pos h, if_pos h]
    have hw : wrap64 ((xs.length : Int) - 1) = ((xs.length - 1 : Nat) : Int) := by rw [wrap64_small (by omega) (by omega)]; omega
    obtain ⟨r, R, D, g, s, e1, e2, e3, e4, e5, e6⟩ := share_main xs hok n2 (xs.length - 1) k k [] (List.replicate xs.length (-1)) (by omega) (by simp) (by simp) (by omega) (by omega)
    unfold spec_exShare.f impl_share.f
    rw [if_pos (by omega), if_pos (by omega), if_pos (by omega), hw, g, s]
    simp only [Option.bind_some]
    exact ⟨(R, true), rfl, rfl, by have := cnt_le D; show R.length ≤ 24; omega⟩
  · rw [if_neg h, if_neg h]
    exact ⟨([], false), rfl, rfl, by simp⟩
theorem shareExpr_true (xs : List LNode) (hn : xs.length ≤ 9223372036854775807) (hs : ∀ x ∈ xs, x.f0.size ≤ 9223372036854775807) : laws_FnExactShareExpr.f (4 * xs.length + 900) xs = some true := by
  unfold laws_FnExactShareExpr.f
  obtain ⟨r, hr, _, hl⟩ := szNodeS_f (4 * xs.length + 900) xs 1048576 (by omega) (by omega) hn hs (by omega)
  rw [hr, Option.bind_some]
  by_cases h : r < 0
  · rw [if_pos h]
  · rw [if_neg h]
    have hn2 : xs.length ≤ 1048576 := by have := hl (by omega); omega
    have hn3 : (xs.map convN).length ≤ 1048576 := by simpa using hn2
    have hm : (xs.map convN).length = xs.length := List.length_map ..
    obtain ⟨q, h1, h2, h3⟩ := share_same (4 * xs.length + 900) (xs.map convN) (by omega) hn3
    obtain ⟨q', g1, g2, _⟩ := share_same (4 * xs.length + 898) (xs.map convN) (by omega) hn3
    have hqq : q' = q := by
      have e1 := impl_ShareExpr.mono (xs.map convN) (4 * xs.length + 898) _ g2
      have e2 := impl_ShareExpr.mono (xs.map convN) (4 * xs.length + 899) _ e1
      exact Option.some.inj (e2.symm.trans h2)
    rw [hqq] at g2
    obtain ⟨l', b'⟩ := q
    have h3 : l'.length ≤ 24 := h3
    have m1 := markNodeS_m (4 * xs.length + 899) (xs.map convN) 1 (by omega) (by omega) hn3 (by omega)
    have y1 := markNodeS_m (4 * xs.length + 898) l' 1 (by omega) (by omega) (by omega) (by omega)
    have y2 : ∀ k, 100 < k → laws_heldNodeS.f k (marks 1 l'.length) 1 = some (1 + 4 * (l'.length : Int)) := fun k hk => heldNodeS_m k l'.length (by omega) (by omega)
    have j2 : laws_FnExactShareExpr.j2 (4 * xs.length + 898) (marks 1 l'.length) (1 + 4 * (l'.length : Int)) false = some true := by
      rw [show 4 * xs.length + 898 = (4 * xs.length + 897) + 1 by omega]
      simp only [laws_FnExactShareExpr.j2]
      rw [if_neg (by decide), y2 _ (by omega), Option.bind_some, if_neg (by omega), if_pos rfl]
    have j1 : laws_FnExactShareExpr.j1 (4 * xs.length + 899) xs l' b' l' false = some true := by
      rw [show 4 * xs.length + 899 = (4 * xs.length + 898) + 1 by omega]
      simp only [laws_FnExactShareExpr.j1]
      rw [if_neg (by decide), y1, Option.bind_some]
      dsimp only
      rw [y2 _ (by omega), Option.bind_some, if_neg (by omega), if_pos rfl, toNodeS_f _ xs hn2 (by omega), Option.bind_some, g2, Option.bind_some]
      dsimp only
      rw [eqNodeS_f _ l' (by omega) (by omega), Option.bind_some, if_pos rfl, bne_self_eq_false]
      exact j2
    have j0 : laws_FnExactShareExpr.j0 (4 * xs.length + 900) xs l' b' (xs.map convN) l' b' false = some true := by
      rw [show 4 * xs.length + 900 = (4 * xs.length + 899) + 1 by omega]
      simp only [laws_FnExactShareExpr.j0]
      rw [if_neg (by decide), toNodeS_f (4 * xs.length + 899) xs hn2 (by omega), Option.bind_some, eqNodeS_f (4 * xs.length + 899) (xs.map convN) hn3 (by omega), Option.bind_some, if_pos rfl, m1, Option.bind_some, if_neg (by omega), eqNodeS_f _ l' (by omega) (by omega), Option.bind_some, if_pos rfl, bne_self_eq_false]
      exact j1
    rw [toNodeS_f (4 * xs.length + 900) xs hn2 (by omega)]
    simp only [Option.bind_some, h1, h2]
    rw [eqNodeS_f _ l' (by omega) (by omega), Option.bind_some, if_pos rfl, bne_self_eq_false]
    exact j0
theorem shareExpr_walk (A : Option Addr) (c : Nat) (xs : List LNode) (hl0 : xs.length ≤ c) (W : World) (hr0 : Kd.C k74 W A xs.length xs) (hm0 : xs.length ≤ maxLen) (ho0 : ∀ x ∈ xs, nodeSOk x) :
    Calls Try.prog 5 #[.slice A xs.length c] W fun e w' => e = .returned (.bool true) ∧ Below W.heap.size W w' :=
  laws_FnExactShareExpr.calls (4 * xs.length + 900) A c xs true W hr0 hl0 (shareExpr_true xs (len_ok hm0) (nodes_ok ho0)) rfl
end Go.Proofs.Ytecmlikhmkcdpaa.PureOps
