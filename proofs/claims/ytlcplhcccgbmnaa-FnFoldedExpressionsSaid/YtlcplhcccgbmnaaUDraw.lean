/- The drawing of expressions: it always ends, and gives at least one node and few. Plain. -/
import Derived.Test.YtlcplhcccgbmnaaUPureIsExpr0
import Derived.Test.YtlcplhcccgbmnaaDAll
import Derived.Laws.BitsLemmas
namespace Go.Proofs.Ytlcplhcccgbmnaa.PureOps
open Go.RowKit Go.Proofs.Ytlcplhcccgbmnaa.D Go.Proofs.YtlcplhcccgbmnaaW.PrintWords Go.Proofs.YtlcplhcccgbmnaaW.PrintLast Go.Proofs.YtlcplhcccgbmnaaW.PrintMore
set_option linter.unusedVariables false
set_option linter.unusedSimpArgs false
def by8 (cd : List Int) : Prop := ∀ x ∈ cd, 0 ≤ x ∧ x ≤ 255
theorem rd_by8 {cd : List Int} (h : by8 cd) (p : Int) : 0 ≤ rd cd p ∧ rd cd p ≤ 255 := by
 unfold rd
 rw [List.getD_eq_getElem?_getD]
 by_cases hp : p.toNat < cd.length
 ·rw [List.getElem?_eq_getElem hp]
  exact h _ (List.getElem_mem hp)
 ·rw [List.getElem?_eq_none (by omega)]
  exact ⟨by simp, by simp⟩
theorem and255 (y : Int) : 0 ≤ Go.bits .and .u64 (IntKind.u64.wrap y / 1099511627776) 255 ∧ Go.bits .and .u64 (IntKind.u64.wrap y / 1099511627776) 255 ≤ 255 := by
 have hw : 0 ≤ IntKind.u64.wrap y ∧ IntKind.u64.wrap y < 18446744073709551616 := by
  rw [IntKind.wrap_u64]
  omega
 have h := bits_mask .u64 64 (by decide) (fun n h0 h1 => by rw [IntKind.wrap_u64]; omega) 8 (by decide) (IntKind.u64.wrap y / 1099511627776) (by omega) (by omega)
 have h2 : Go.bits .and .u64 (IntKind.u64.wrap y / 1099511627776) 255 = (IntKind.u64.wrap y / 1099511627776) % 256 := h
 rw [h2]
 omega
theorem next_ok {cd : List Int} (h : by8 cd) (a s : Int) (h0 : 0 ≤ a) (h1 : a ≤ 1000000000) : ∃ x s', spec_l1Cur_next.f cd a s = some (x, a + 1, s') ∧ 0 ≤ x ∧ x ≤ 255 := by
 unfold spec_l1Cur_next.f
 have hr := rd_by8 h a
 rw [wrap64_small (n := a + 1) (by omega) (by omega), wrap64_small (n := rd cd a) (by omega) (by omega)]
 by_cases c1 : a < (cd.length : Int)
 ·rw [if_pos c1, if_pos h0]
  by_cases c2 : a + 1 ≤ (cd.length : Int)
  ·rw [if_pos c2]; exact ⟨_, _, rfl, hr⟩
  ·rw [if_neg c2]
   have hb := and255 ((IntKind.u64.wrap ((IntKind.u64.wrap (s * 6364136223846793005)) + (IntKind.u64.wrap (rd cd a)))) + 1442695040888963407)
   rw [wrap64_small (n := Go.bits .and .u64 _ 255) (by omega) (by omega)]
   exact ⟨_, _, rfl, hb⟩
 ·rw [if_neg c1]
  by_cases c2 : a + 1 ≤ (cd.length : Int)
  ·rw [if_pos c2]; exact ⟨_, _, rfl, by omega, by omega⟩
  ·rw [if_neg c2]
   have hb := and255 ((IntKind.u64.wrap (IntKind.u64.wrap (s * 6364136223846793005))) + 1442695040888963407)
   rw [wrap64_small (n := Go.bits .and .u64 _ 255) (by omega) (by omega)]
   exact ⟨_, _, rfl, hb⟩
theorem pick_ok {cd : List Int} (h : by8 cd) (a s n : Int) (h0 : 0 ≤ a) (h1 : a ≤ 900000000) (hn : n ≤ 1000000000) : ∃ x a' s', spec_l1Cur_pick.f cd a s n = some (x, a', s') ∧ a ≤ a' ∧ a' ≤ a + 2 ∧ 0 ≤ x ∧ (1 ≤ n → x < n) := by
 unfold spec_l1Cur_pick.f
 by_cases c1 : n ≤ 1
 ·rw [if_pos c1]; exact ⟨0, a, s, rfl, by omega, by omega, by omega, fun _ => by omega⟩
 ·rw [if_neg c1]
  obtain ⟨x, s1, e1, x0, x1⟩ := next_ok h a s h0 (by omega)
  rw [e1, Option.bind_some]
  dsimp only
  have hm : ∀ z : Int, 0 ≤ z → 0 ≤ Int.tmod z n ∧ Int.tmod z n < n := fun z hz => by
   rw [Int.tmod_eq_emod_of_nonneg hz]
   exact ⟨Int.emod_nonneg _ (by omega), Int.emod_lt_of_pos _ (by omega)⟩
  by_cases c2 : n > 200
  ·rw [if_pos c2]
   obtain ⟨y, s2, e2, y0, y1⟩ := next_ok h (a + 1) s1 (by omega) (by omega)
   rw [e2, Option.bind_some, if_neg (by omega)]
   dsimp only
   rw [wrap64_small (n := x * 256) (by omega) (by omega), wrap64_small (by omega) (by omega)]
   exact ⟨_, _, _, rfl, by omega, by omega, (hm _ (by omega)).1, fun _ => (hm _ (by omega)).2⟩
  ·rw [if_neg c2, if_neg (by omega)]
   exact ⟨_, _, _, rfl, by omega, by omega, (hm _ x0).1, fun _ => (hm _ x0).2⟩
theorem one_ok {cd : List Int} (h : by8 cd) (a s n : Int) (h0 : 0 ≤ a) (h1 : a ≤ 900000000) (hn : n ≤ 1000000000) : ∃ x a' s', spec_l1Cur_one.f cd a s n = some (x, a', s') ∧ a ≤ a' ∧ a' ≤ a + 2 := by
 unfold spec_l1Cur_one.f
 obtain ⟨x, a', s', e, e1, e2, _⟩ := pick_ok h a s n h0 h1 hn
 rw [e, Option.bind_some]
 exact ⟨_, a', s', rfl, e1, e2⟩
theorem of_ok {cd : List Int} (h : by8 cd) (a s : Int) (h0 : 0 ≤ a) (h1 : a ≤ 900000000) (l : List ByteArray) (hl : 1 ≤ l.length) (hl2 : l.length ≤ 100) : ∃ x a' s', spec_l1Cur_of.f cd a s l = some (x, a', s') ∧ a ≤ a' ∧ a' ≤ a + 2 := by
 unfold spec_l1Cur_of.f
 obtain ⟨x, a', s', e, e1, e2, e3, e4⟩ := pick_ok h a s (l.length : Int) h0 h1 (by omega)
 rw [e, Option.bind_some, if_pos e3, if_pos (e4 (by omega))]
 exact ⟨_, a', s', rfl, e1, e2⟩
theorem among_ok {cd : List Int} (h : by8 cd) (a s : Int) (h0 : 0 ≤ a) (h1 : a ≤ 900000000) (l : List Int) (hl : 1 ≤ l.length) (hl2 : l.length ≤ 100) : ∃ x a' s', spec_l1Cur_among.f cd a s l = some (x, a', s') ∧ a ≤ a' ∧ a' ≤ a + 2 := by
 unfold spec_l1Cur_among.f
 obtain ⟨x, a', s', e, e1, e2, e3, e4⟩ := pick_ok h a s (l.length : Int) h0 h1 (by omega)
 rw [e, Option.bind_some, if_pos e3, if_pos (e4 (by omega))]
 exact ⟨_, a', s', rfl, e1, e2⟩
theorem word_ok {cd : List Int} (h : by8 cd) (a s : Int) (h0 : 0 ≤ a) (h1 : a ≤ 800000000) : ∃ x a' s', spec_l1Cur_word.f cd a s = some (x, a', s') ∧ a ≤ a' ∧ a' ≤ a + 4 := by
 unfold spec_l1Cur_word.f
 obtain ⟨x, a1, s1, e, e1, e2⟩ := one_ok h a s 2 h0 (by omega) (by omega)
 rw [e, Option.bind_some]
 dsimp only
 split
 ·obtain ⟨y, a2, s2, f, f1, f2⟩ := among_ok h a1 s1 (by omega) (by omega) [0, 1, 2, 3, 4, 5, 6, 7, 8, 16, 31, 32, 33, 62, 63] (by simp) (by simp)
  rw [f, Option.bind_some]
  exact ⟨y, a2, s2, rfl, by omega, by omega⟩
 ·obtain ⟨y, a2, s2, f, f1, f2, _⟩ := pick_ok h a1 s1 64 (by omega) (by omega) (by omega)
  rw [f, Option.bind_some]
  exact ⟨y, a2, s2, rfl, by omega, by omega⟩
theorem leaf_ok {cd : List Int} (h : by8 cd) (a s : Int) (h0 : 0 ≤ a) (h1 : a ≤ 700000000) : ∃ x1 x2 x3 x4 a' s', spec_l1Cur_leaf.f cd a s = some (x1, x2, x3, x4, a', s') ∧ a ≤ a' ∧ a' ≤ a + 6 := by
 unfold spec_l1Cur_leaf.f
 obtain ⟨x, a1, s1, e, e1, e2⟩ := one_ok h a s 3 h0 (by omega) (by omega)
 rw [e, Option.bind_some]
 dsimp only
 split
 ·obtain ⟨y, a2, s2, f, f1, f2⟩ := word_ok h a1 s1 (by omega) (by omega)
  rw [f, Option.bind_some]
  exact ⟨_, _, _, y, a2, s2, rfl, by omega, by omega⟩
 ·obtain ⟨y, a2, s2, f, f1, f2, _⟩ := pick_ok h a1 s1 2 (by omega) (by omega) (by omega)
  rw [f, Option.bind_some]
  exact ⟨_, _, _, y, a2, s2, rfl, by omega, by omega⟩
theorem put_grow (sh : Bool) (X : INode) (ns : List INode) : ns.length ≤ (draw.put sh X ns).2.length ∧ (draw.put sh X ns).2.length ≤ ns.length + 1 := by
 unfold draw.put
 split
 ·split <;> simp
 ·simp
theorem end_ok (sh : Bool) (X : INode) (ns : List INode) (a s : Int) (hn : ns.length < 1000) : ∃ r ns', draw.end_ sh X ns a s = some (r, ns', a, s) ∧ ns.length ≤ ns'.length ∧ ns'.length ≤ ns.length + 1 := by
 unfold draw.end_
 rw [if_pos hn]
 exact ⟨_, _, rfl, put_grow sh X ns⟩
theorem tree_ok {cd : List Int} (h : by8 cd) (sh : Bool) (n : Nat) : ∀ (d : Nat) (ns : List INode) (a s : Int), n ≤ 100 → d ≤ n → 0 ≤ a → a + 20 * 3 ^ (n + 1) ≤ 600000000 → ns.length + 3 ^ (n + 1) ≤ 900 →
  ∃ r ns' a' s', draw.tree (n + 1) cd sh (d : Int) ns a s = some (r, ns', a', s') ∧ a ≤ a' ∧ a' ≤ a + 20 * 3 ^ (n + 1) ∧ ns.length ≤ ns'.length ∧ ns'.length ≤ ns.length + 3 ^ (n + 1) := by
 induction n with
 | zero =>
  intro d ns a s hm hd h0 h1 hn
  obtain rfl : d = 0 := by omega
  simp only [draw.tree]
  obtain ⟨x1, x2, x3, x4, a1, s1, e, e1, e2⟩ := leaf_ok h a s h0 (by omega)
  obtain ⟨r, ns', f, f1, f2⟩ := end_ok sh ⟨x1, x2, x3, x4⟩ ns a1 s1 (by omega)
  rw [if_pos (by simp), Option.bind_some]
  dsimp only
  rw [if_pos rfl, e, Option.bind_some]
  exact ⟨r, ns', a1, s1, f, by omega, by omega, f1, by omega⟩
 | succ n ih =>
  intro d ns a s hm hd h0 h1 hn
  have hp : 3 ^ (n + 1 + 1) = 3 * 3 ^ (n + 1) := by rw [Nat.pow_succ]; omega
  have hq : 1 ≤ 3 ^ (n + 1) := Nat.one_le_pow _ _ (by omega)
  have hpI : ((3 : Int) ^ (n + 1 + 1)) = 3 * (3 : Int) ^ (n + 1) := by rw [Int.pow_succ]; omega
  have hqI : (((3 ^ (n + 1) : Nat)) : Int) = (3 : Int) ^ (n + 1) := by simp
  rw [hp] at hn ⊢
  rw [hpI] at h1 ⊢
  generalize hP : (3 : Int) ^ (n + 1) = P at *
  generalize hQ : (3 : Nat) ^ (n + 1) = Q at *
  rw [draw.tree]
  obtain ⟨c, a1, s1, e, e1, e2⟩ : ∃ c a1 s1, (if (d : Int) = 0 then some (true, a, s) else if (ns.length : Int) > 16 then some (true, a, s) else spec_l1Cur_one.f cd a s 4) = some (c, a1, s1) ∧ a ≤ a1 ∧ a1 ≤ a + 2 ∧ True := by
   by_cases c0 : (d : Int) = 0
   ·rw [if_pos c0]; exact ⟨_, _, _, rfl, by omega, by omega, trivial⟩
   ·rw [if_neg c0]
    by_cases c1 : (ns.length : Int) > 16
    ·rw [if_pos c1]; exact ⟨_, _, _, rfl, by omega, by omega, trivial⟩
    ·rw [if_neg c1]
     obtain ⟨x, a', s', e, e1, e2⟩ := one_ok h a s 4 h0 (by omega) (by omega)
     exact ⟨x, a', s', e, e1, e2, trivial⟩
  rw [e, Option.bind_some]
  dsimp only
  cases c with
  | true =>
   rw [if_pos rfl]
   obtain ⟨x1, x2, x3, x4, a2, s2, f, f1, f2⟩ := leaf_ok h a1 s1 (by omega) (by omega)
   obtain ⟨r, ns', g, g1, g2⟩ := end_ok sh ⟨x1, x2, x3, x4⟩ ns a2 s2 (by omega)
   rw [f, Option.bind_some]
   exact ⟨r, ns', a2, s2, g, by omega, by omega, g1, by omega⟩
  | false =>
   rw [if_neg (by decide)]
   by_cases d0 : d = 0
   ·exfalso
    subst d0
    rw [if_pos (by simp)] at e
    cases e
   have hw : wrap64 ((d : Int) - 1) = ((d - 1 : Nat) : Int) := by rw [wrap64_small (by omega) (by omega)]; omega
   obtain ⟨u, a2, s2, f, f1, f2⟩ := one_ok h a1 s1 5 (by omega) (by omega) (by omega)
   rw [f, Option.bind_some]
   dsimp only
   cases u with
   | true =>
    rw [if_pos rfl]
    obtain ⟨o, a3, s3, g, g1, g2⟩ := of_ok h a2 s2 (by omega) (by omega) [(⟨#[110, 111, 116]⟩ : ByteArray), (⟨#[110, 101, 103]⟩ : ByteArray)] (by simp) (by simp)
    rw [g, Option.bind_some, hw]
    dsimp only
    obtain ⟨r1, n1, a4, s4, t1, t2, t3, t4, t5⟩ := ih (d - 1) ns a3 s3 (by omega) (by omega) (by omega) (by omega) (by omega)
    rw [t1, Option.bind_some]
    dsimp only
    obtain ⟨r, ns', q, q1, q2⟩ := end_ok sh ⟨o, r1, 0, 0⟩ n1 a4 s4 (by omega)
    exact ⟨r, ns', a4, s4, q, by omega, by omega, by omega, by omega⟩
   | false =>
    rw [if_neg (by decide)]
    unfold spec_exOps.f
    rw [Option.bind_some]
    obtain ⟨o, a3, s3, g, g1, g2⟩ := of_ok h a2 s2 (by omega) (by omega) [(⟨#[97, 100, 100]⟩ : ByteArray), (⟨#[115, 117, 98]⟩ : ByteArray), (⟨#[109, 117, 108]⟩ : ByteArray), (⟨#[97, 110, 100]⟩ : ByteArray), (⟨#[111, 114]⟩ : ByteArray), (⟨#[120, 111, 114]⟩ : ByteArray), (⟨#[115, 104, 108]⟩ : ByteArray), (⟨#[115, 104, 114]⟩ : ByteArray), (⟨#[108, 101, 115, 115]⟩ : ByteArray), (⟨#[101, 113]⟩ : ByteArray)] (by simp) (by simp)
    rw [g, Option.bind_some, hw]
    dsimp only
    obtain ⟨r1, n1, a4, s4, t1, t2, t3, t4, t5⟩ := ih (d - 1) ns a3 s3 (by omega) (by omega) (by omega) (by omega) (by omega)
    rw [t1, Option.bind_some]
    dsimp only
    obtain ⟨r2, n2, a5, s5, v1, v2, v3, v4, v5⟩ := ih (d - 1) n1 a4 s4 (by omega) (by omega) (by omega) (by omega) (by omega)
    rw [v1, Option.bind_some]
    dsimp only
    obtain ⟨r, ns', q, q1, q2⟩ := end_ok sh ⟨o, r1, r2, 0⟩ n2 a5 s5 (by omega)
    exact ⟨r, ns', a5, s5, q, by omega, by omega, by omega, by omega⟩
theorem expr_ok {cd : List Int} (h : by8 cd) (d : Nat) (hd : d ≤ 4) (a s : Int) (h0 : 0 ≤ a) (h1 : a ≤ 500000000) : ∃ e a' s', spec_l1Cur_expr.f cd a s (d : Int) = some (e, a', s') ∧ a ≤ a' ∧ a' ≤ a + 6000 ∧ 1 ≤ e.length ∧ e.length ≤ 24 := by
 unfold spec_l1Cur_expr.f
 obtain ⟨c, a1, s1, e, e1, e2⟩ := one_ok h a s 2 h0 (by omega) (by omega)
 rw [e, Option.bind_some]
 dsimp only
 have hp : (3 : Int) ^ (d + 1) ≤ 243 := by
  rcases (show d = 0 ∨ d = 1 ∨ d = 2 ∨ d = 3 ∨ d = 4 by omega) with rfl | rfl | rfl | rfl | rfl <;> decide
 have hq : 3 ^ (d + 1) ≤ 243 := by
  rcases (show d = 0 ∨ d = 1 ∨ d = 2 ∨ d = 3 ∨ d = 4 by omega) with rfl | rfl | rfl | rfl | rfl <;> decide
 obtain ⟨r, ns, a2, s2, f, f1, f2, f3, f4⟩ := tree_ok h c d d [] a1 s1 (by omega) (Nat.le_refl _) (by omega) (by omega) (by simp; omega)
 rw [show ((d : Int)).toNat + 1 = d + 1 by omega, f, Option.bind_some]
 dsimp only
 have hl : ns.length ≤ 243 := by simp at f4; omega
 rw [good_f 100000 ns (by omega) (by omega), Option.bind_some]
 by_cases hg : isE ns = true
 ·obtain ⟨n1, n2, _⟩ := isE_true hg
  rw [if_pos hg]
  exact ⟨ns, a2, s2, rfl, by omega, by omega, n1, n2⟩
 ·rw [if_neg hg]
  exact ⟨_, a2, s2, rfl, by omega, by omega, by simp, by simp⟩
theorem grow_ok {cd : List Int} (h : by8 cd) (m : Nat) : ∀ (k : Nat) (ns : List INode) (a s : Int), ns.length + m = 26 → m < k → 0 ≤ a → a + 2 * m ≤ 400000000 → ∃ e a' s', spec_l1Cur_anyExpr.l0 k ns cd a s = some (e, a', s') ∧ a ≤ a' ∧ a' ≤ a + 2 * m + 2 ∧ e.length ≤ 26 := by
 induction m with
 | zero =>
  intro k ns a s hm hk h0 h1
  obtain ⟨k, rfl⟩ : ∃ q, k = q + 1 := ⟨k - 1, by omega⟩
  obtain ⟨x, a1, s1, e, e1, e2, e3, e4⟩ := pick_ok h a s 2 h0 (by omega) (by omega)
  have e4 := e4 (by omega)
  simp only [spec_l1Cur_anyExpr.l0]
  rw [e, Option.bind_some]
  dsimp only
  rw [wrap64_small (by omega) (by omega), if_neg (by omega)]
  exact ⟨ns, a1, s1, rfl, by omega, by omega, by omega⟩
 | succ m ih =>
  intro k ns a s hm hk h0 h1
  obtain ⟨k, rfl⟩ : ∃ q, k = q + 1 := ⟨k - 1, by omega⟩
  obtain ⟨x, a1, s1, e, e1, e2, e3, e4⟩ := pick_ok h a s 2 h0 (by omega) (by omega)
  have e4 := e4 (by omega)
  simp only [spec_l1Cur_anyExpr.l0]
  rw [e, Option.bind_some]
  dsimp only
  rw [wrap64_small (n := 24 + x) (by omega) (by omega)]
  by_cases c : (ns.length : Int) < 24 + x
  ·rw [if_pos c, if_pos (by omega)]
   obtain ⟨e', a', s', f, f1, f2, f3⟩ := ih k _ a1 s1 (show (ns ++ [_]).length + m = 26 by simp; omega) (by omega) (by omega) (by omega)
   exact ⟨e', a', s', f, by omega, by omega, f3⟩
  ·rw [if_neg c]
   exact ⟨ns, a1, s1, rfl, by omega, by omega, by omega⟩
theorem anyExpr_ok {cd : List Int} (h : by8 cd) (d : Nat) (hd : d ≤ 4) (k : Nat) (hk : 30 < k) (a s : Int) (h0 : 0 ≤ a) (h1 : a ≤ 300000000) : ∃ e a' s', spec_l1Cur_anyExpr.f k cd a s (d : Int) = some (e, a', s') ∧ a ≤ a' ∧ a' ≤ a + 7000 ∧ e.length ≤ 26 := by
 unfold spec_l1Cur_anyExpr.f
 obtain ⟨e, a1, s1, q, q1, q2, q3, q4⟩ := expr_ok h d hd a s h0 (by omega)
 rw [q, Option.bind_some]
 dsimp only
 obtain ⟨x, a2, s2, f, f1, f2, f3, f4⟩ := pick_ok h a1 s1 16 (by omega) (by omega) (by omega)
 rw [f, Option.bind_some]
 dsimp only
 by_cases c0 : x = 0
 ·rw [if_pos c0]
  obtain ⟨i, a3, s3, g, g1, g2, g3, g4⟩ := pick_ok h a2 s2 (e.length : Int) (by omega) (by omega) (by omega)
  rw [g, Option.bind_some]
  dsimp only
  rw [wrap64_small (n := (e.length : Int) + 2) (by omega) (by omega)]
  obtain ⟨v, a4, s4, w, w1, w2, w3, w4⟩ := pick_ok h a3 s3 ((e.length : Int) + 2) (by omega) (by omega) (by omega)
  rw [w, Option.bind_some]
  dsimp only
  rw [if_pos g3, if_pos (g4 (by omega))]
  exact ⟨_, a4, s4, rfl, by omega, by omega, by rw [List.length_set]; omega⟩
 ·rw [if_neg c0]
  by_cases c1 : x = 1
  ·rw [if_pos c1]
   obtain ⟨i, a3, s3, g, g1, g2, g3, g4⟩ := pick_ok h a2 s2 (e.length : Int) (by omega) (by omega) (by omega)
   rw [g, Option.bind_some]
   dsimp only
   obtain ⟨v, a4, s4, w, w1, w2⟩ := of_ok h a3 s3 (by omega) (by omega) [(⟨#[]⟩ : ByteArray), (⟨#[105, 110]⟩ : ByteArray), (⟨#[99, 111, 110, 115, 116]⟩ : ByteArray), (⟨#[97, 110, 100]⟩ : ByteArray), (⟨#[110, 97, 110, 100]⟩ : ByteArray), (⟨#[110, 111, 116]⟩ : ByteArray)] (by simp) (by simp)
   rw [w, Option.bind_some]
   dsimp only
   rw [if_pos g3, if_pos (g4 (by omega))]
   exact ⟨_, a4, s4, rfl, by omega, by omega, by rw [List.length_set]; omega⟩
  ·rw [if_neg c1]
   by_cases c2 : x = 2
   ·rw [if_pos c2]
    obtain ⟨i, a3, s3, g, g1, g2, g3, g4⟩ := pick_ok h a2 s2 (e.length : Int) (by omega) (by omega) (by omega)
    rw [g, Option.bind_some]
    dsimp only
    obtain ⟨v, a4, s4, w, w1, w2⟩ := among_ok h a3 s3 (by omega) (by omega) [(-1), 0, 1, 2, 63, 64] (by simp) (by simp)
    rw [w, Option.bind_some]
    dsimp only
    rw [if_pos g3, if_pos (g4 (by omega))]
    exact ⟨_, a4, s4, rfl, by omega, by omega, by rw [List.length_set]; omega⟩
   ·rw [if_neg c2]
    by_cases c3 : x = 3
    ·rw [if_pos c3, if_pos (by omega)]
     exact ⟨_, a2, s2, rfl, by omega, by omega, by simp; omega⟩
    ·rw [if_neg c3]
     by_cases c4 : x = 4
     ·rw [if_pos c4]
      obtain ⟨e', a', s', g, g1, g2, g3⟩ := grow_ok h 25 k [⟨(⟨#[105, 110]⟩ : ByteArray), 0, 0, 0⟩] a2 s2 (by simp) (by omega) (by omega) (by omega)
      exact ⟨e', a', s', g, by omega, by omega, g3⟩
     ·rw [if_neg c4]
      by_cases c5 : x = 5
      ·rw [if_pos c5]
       exact ⟨[], a2, s2, rfl, by omega, by omega, by simp⟩
      ·rw [if_neg c5]
       exact ⟨e, a2, s2, rfl, by omega, by omega, by omega⟩
end Go.Proofs.Ytlcplhcccgbmnaa.PureOps
