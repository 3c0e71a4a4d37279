/- What changes when one node has another value: at an input that stands once, the value for another input. Plain. -/
import Derived.Test.YtlcplhcccgbmnaaPPureAskedBits
import Derived.Test.YtlcplhcccgbmnaaPTab
namespace Go.Proofs.Ytlcplhcccgbmnaa.PureOps
open Go.RowKit Go.Proofs.Ytlcplhcccgbmnaa.A Go.Proofs.YtlcplhcccgbmnaaW.PrintWords Go.Proofs.YtlcplhcccgbmnaaW.PrintLast Go.Proofs.YtlcplhcccgbmnaaW.PrintMore
set_option linter.unusedVariables false
set_option linter.unusedSimpArgs false
theorem node_kinds {n : INode} {i : Int} (hok : nodeOk n.f0.toList n.f1 n.f2 n.f3 i = true) : (n.f0.toList = [105, 110] ∧ leaf n.f0.toList = true ∧ 0 ≤ n.f3 ∧ n.f3 ≤ 1) ∨ (n.f0.toList = [99, 111, 110, 115, 116] ∧ leaf n.f0.toList = true) ∨ (leaf n.f0.toList = false ∧ one n.f0.toList = true ∧ 0 ≤ n.f1 ∧ n.f1 < i) ∨ (leaf n.f0.toList = false ∧ one n.f0.toList = false ∧ two n.f0.toList = true ∧ 0 ≤ n.f1 ∧ n.f1 < i ∧ 0 ≤ n.f2 ∧ n.f2 < i) := by
  by_cases hl : leaf n.f0.toList = true
  · have hl2 := hl
    unfold leaf at hl2
    simp only [Bool.or_eq_true, beq_iff_eq] at hl2
    rcases hl2 with h | h
    · refine .inl ⟨h, hl, ?_⟩
      unfold nodeOk at hok
      rw [if_pos hl, if_pos h] at hok
      simp only [Bool.and_eq_true, decide_eq_true_eq] at hok
      exact hok.2
    · exact .inr (.inl ⟨h, hl⟩)
  · have hlf : leaf n.f0.toList = false := by simpa using hl
    by_cases h1 : one n.f0.toList = true
    · have hp := parts_lt hok n.f1 (by unfold parts; rw [if_pos h1]; simp)
      exact .inr (.inr (.inl ⟨hlf, h1, hp.1, hp.2⟩))
    · have h2 : two n.f0.toList = true := by
        unfold nodeOk at hok
        rw [hlf, if_neg (by decide), if_neg h1] at hok
        simp only [Bool.and_eq_true] at hok
        exact hok.1.1.1
      have hp := parts_lt hok n.f1 (by unfold parts; rw [if_neg h1, if_pos h2]; simp)
      have hq := parts_lt hok n.f2 (by unfold parts; rw [if_neg h1, if_pos h2]; simp)
      exact .inr (.inr (.inr ⟨hlf, by simpa using h1, h2, hp.1, hp.2, hq.1, hq.2⟩))
/-- The value of an op, from the values of its operands. -/
def opV (n : INode) (u : List Int) : Int := if one n.f0.toList then app n.f0 (rd u n.f1) 0 else app n.f0 (rd u n.f1) (rd u n.f2)
theorem val_in {n : INode} (h : n.f0.toList = [105, 110]) (u : List Int) (x y : Int) : val n u x y = if n.f3 = 0 then x else y := by
  unfold val; rw [if_pos h]
theorem val_const {n : INode} (h : n.f0.toList = [99, 111, 110, 115, 116]) (u : List Int) (x y : Int) : val n u x y = n.f3 := by
  unfold val; rw [if_neg (by rw [h]; decide), if_pos h]
theorem val_op {n : INode} (h : leaf n.f0.toList = false) (u : List Int) (x y : Int) : val n u x y = opV n u := by
  have h1 : ¬ n.f0.toList = [105, 110] := fun e => by rw [e] at h; exact absurd h (by decide)
  have h2 : ¬ n.f0.toList = [99, 111, 110, 115, 116] := fun e => by rw [e] at h; exact absurd h (by decide)
  unfold val opV; rw [if_neg h1, if_neg h2]
theorem opV_congr {n : INode} {i : Int} (hok : nodeOk n.f0.toList n.f1 n.f2 n.f3 i = true) (hl : leaf n.f0.toList = false) {u u' : List Int} (h : ∀ p : Int, 0 ≤ p → p < i → rd u p = rd u' p) : opV n u = opV n u' := by
  rcases node_kinds hok with ⟨_, h2, _⟩ | ⟨_, h2⟩ | ⟨_, h1, p0, p1⟩ | ⟨_, h1, _, p0, p1, q0, q1⟩
  · rw [hl] at h2; cases h2
  · rw [hl] at h2; cases h2
  · unfold opV; rw [if_pos h1, if_pos h1, h _ p0 p1]
  · unfold opV; rw [h1, if_neg (by decide), if_neg (by decide), h _ p0 p1, h _ q0 q1]
theorem val_congr {n : INode} {i : Int} (hok : nodeOk n.f0.toList n.f1 n.f2 n.f3 i = true) {u u' : List Int} (h : ∀ p : Int, 0 ≤ p → p < i → rd u p = rd u' p) (x y : Int) : val n u x y = val n u' x y := by
  rcases node_kinds hok with ⟨h1, _, _⟩ | ⟨h1, _⟩ | ⟨hl, _, _, _⟩ | ⟨hl, _, _, _, _, _, _⟩
  · rw [val_in h1, val_in h1]
  · rw [val_const h1, val_const h1]
  · rw [val_op hl, val_op hl, opV_congr hok hl h]
  · rw [val_op hl, val_op hl, opV_congr hok hl h]
/-- A list is that of all nodes' values. -/
def isV (xs : List INode) (x y : Int) (L : List Int) : Prop := ∀ (j : Nat) (h : j < xs.length), rd L (j : Int) = val xs[j] L x y
theorem isV_unique (xs : List INode) (hok : okAll xs) {x y : Int} {L L' : List Int} (h : isV xs x y L) (h' : isV xs x y L') (j : Nat) : j < xs.length → rd L (j : Int) = rd L' (j : Int) := by
  induction j using Nat.strongRecOn with
  | _ j ih =>
    intro hj
    rw [h j hj, h' j hj]
    refine val_congr (hok j hj) (fun p p0 p1 => ?_) x y
    obtain ⟨q, rfl⟩ : ∃ q : Nat, p = (q : Int) := ⟨p.toNat, by omega⟩
    exact ih q (by omega) (by omega)
theorem valsFrom_V (xs : List INode) (hok : okAll xs) (x y : Int) (d : Nat) : ∀ (i : Nat) (u : List Int), i + d = xs.length → u.length = i → (∀ (j : Nat) (h : j < xs.length), j < i → rd u (j : Int) = val xs[j] u x y) → isV xs x y (valsFrom xs x y d i u) := by
  induction d with
  | zero => intro i u h hu hv j hj; exact hv j hj (by omega)
  | succ d ih =>
    intro i u h hu hv
    have hi : i < xs.length := by omega
    have hg : xs.getD i z47 = xs[i] := by rw [List.getD_eq_getElem?_getD, List.getElem?_eq_getElem hi, Option.getD_some]
    simp only [valsFrom, hg]
    have hold : ∀ p : Int, 0 ≤ p → p < (i : Int) → rd u p = rd (u ++ [val xs[i] u x y]) p := fun p p0 p1 => (rd_append p0 (by omega)).symm
    refine ih (i + 1) _ (by omega) (by simp [hu]) (fun j hj hlt => ?_)
    by_cases hji : j = i
    · subst hji
      have : rd (u ++ [val xs[j] u x y]) (j : Int) = val xs[j] u x y := by
        unfold rd
        simp [List.getD_eq_getElem?_getD, ← hu]
      rw [this]
      exact val_congr (hok j hj) hold x y
    · rw [← hold (j : Int) (by omega) (by omega), hv j hj (by omega)]
      exact val_congr (hok j hj) (fun p p0 p1 => hold p p0 (by omega)) x y
theorem vals_V (xs : List INode) (hok : okAll xs) (x y : Int) : isV xs x y (vals xs x y) := valsFrom_V xs hok x y xs.length 0 [] (by omega) rfl (fun j hj h => by omega)
theorem restC_end (xs : List INode) (u : List Int) : restC xs xs.length u = u := by
  unfold restC
  rw [List.drop_of_length_le (by simp)]
  rfl
theorem restC_step (xs : List INode) {j : Nat} (h : j < xs.length) (u : List Int) : restC xs j u = restC xs (j + 1) (stepC xs[j] u j) := by
  unfold restC
  rw [List.drop_eq_getElem_cons (show j < (List.range xs.length).length by simpa using h), List.getElem_range, List.foldl_cons]
  rw [List.getD_eq_getElem?_getD, List.getElem?_eq_getElem h, Option.getD_some]
theorem rd_setN {u : List Int} {j : Nat} (h : j < u.length) (v : Int) : rd (u.set j v) (j : Int) = v := by
  unfold rd
  simp [List.getD_eq_getElem?_getD, h]
theorem rd_setO {u : List Int} {j m : Nat} (h : m ≠ j) (v : Int) : rd (u.set j v) (m : Int) = rd u (m : Int) := by
  unfold rd
  simp [List.getD_eq_getElem?_getD, List.getElem?_set_ne (fun e => h e.symm)]
theorem stepC_at (n : INode) (i : Int) (hok : nodeOk n.f0.toList n.f1 n.f2 n.f3 i = true) (u : List Int) (j : Nat) (hj : j < u.length) : (leaf n.f0.toList = true → stepC n u j = u) ∧ (leaf n.f0.toList = false → stepC n u j = u.set j (opV n u)) := by
  rcases node_kinds hok with ⟨_, h2, _⟩ | ⟨_, h2⟩ | ⟨hl, h1, p0, p1⟩ | ⟨hl, h1, h3, p0, p1, q0, q1⟩
  · obtain ⟨a, b⟩ := leaf_not h2
    exact ⟨fun _ => by unfold stepC; rw [a, b]; rfl, fun h => by rw [h2] at h; cases h⟩
  · obtain ⟨a, b⟩ := leaf_not h2
    exact ⟨fun _ => by unfold stepC; rw [a, b]; rfl, fun h => by rw [h2] at h; cases h⟩
  · exact ⟨fun h => (by rw [hl] at h; cases h), fun _ => by unfold stepC opV; rw [if_pos h1, if_pos h1]⟩
  · exact ⟨fun h => (by rw [hl] at h; cases h), fun _ => by unfold stepC opV; rw [h1, if_neg (by decide), if_pos h3, if_neg (by decide)]⟩
theorem restC_spec (xs : List INode) (hok : okAll xs) (d : Nat) : ∀ (j : Nat) (u : List Int), j + d = xs.length → u.length = xs.length →
    (∀ m : Nat, m < j → rd (restC xs j u) (m : Int) = rd u (m : Int)) ∧ ∀ (m : Nat) (h : m < xs.length), j ≤ m → (leaf xs[m].f0.toList = true → rd (restC xs j u) (m : Int) = rd u (m : Int)) ∧ (leaf xs[m].f0.toList = false → rd (restC xs j u) (m : Int) = opV xs[m] (restC xs j u)) := by
  induction d with
  | zero =>
    intro j u h hu
    obtain rfl : j = xs.length := by omega
    rw [restC_end]
    exact ⟨fun _ _ => rfl, fun m hm hjm => by omega⟩
  | succ d ih =>
    intro j u h hu
    have hj : j < xs.length := by omega
    obtain ⟨s1, s2⟩ := stepC_at xs[j] (j : Int) (hok j hj) u j (by omega)
    have hsl : (stepC xs[j] u j).length = xs.length := by
      cases hl : leaf xs[j].f0.toList with
      | true => rw [s1 hl]; exact hu
      | false => rw [s2 hl, List.length_set]; exact hu
    obtain ⟨r1, r2⟩ := ih (j + 1) (stepC xs[j] u j) (by omega) hsl
    rw [restC_step xs hj]
    have hso : ∀ m : Nat, m ≠ j → rd (stepC xs[j] u j) (m : Int) = rd u (m : Int) := fun m hm => by
      cases hl : leaf xs[j].f0.toList with
      | true => rw [s1 hl]
      | false => rw [s2 hl]; exact rd_setO hm _
    refine ⟨fun m hm => by rw [r1 m (by omega), hso m (by omega)], fun m hm hjm => ?_⟩
    by_cases hmj : m = j
    · subst hmj
      refine ⟨fun hl => by rw [r1 m (by omega), s1 hl], fun hl => ?_⟩
      rw [r1 m (by omega)]
      have e : rd (stepC xs[m] u m) (m : Int) = opV xs[m] u := by rw [s2 hl]; exact rd_setN (by omega) _
      rw [e]
      refine opV_congr (hok m hm) hl (fun p p0 p1 => ?_)
      obtain ⟨q, rfl⟩ : ∃ q : Nat, p = (q : Int) := ⟨p.toNat, by omega⟩
      rw [r1 q (by omega), hso q (by omega)]
    · refine ⟨fun hl => ?_, fun hl => (r2 m hm (by omega)).2 hl⟩
      rw [(r2 m hm (by omega)).1 hl, hso m hmj]
/-- An input that stands once: another value of its node is another value of the input. -/
theorem chg_input (xs : List INode) (hok : okAll xs) (hn : 1 ≤ xs.length) (x y : Int) (hl : (vals xs x y).length = xs.length) (i : Nat) (hi : i < xs.length) (hin : xs[i].f0.toList = [105, 110]) (hu : ∀ (m : Nat) (h : m < xs.length), m ≠ i → xs[m].f0.toList = [105, 110] → xs[m].f3 ≠ xs[i].f3) (v : Int) :
    chg xs (vals xs x y) i v = if xs[i].f3 = 1 then evalE xs x v else evalE xs v y := by
  have hin01 : 0 ≤ xs[i].f3 ∧ xs[i].f3 ≤ 1 := by
    rcases node_kinds (hok i hi) with ⟨_, _, h⟩ | ⟨h, _⟩ | ⟨h, _⟩ | ⟨h, _⟩
    · exact h
    · rw [hin] at h; cases h
    · rw [hin] at h; exact absurd h (by decide)
    · rw [hin] at h; exact absurd h (by decide)
  have hV := vals_V xs hok x y
  obtain ⟨r1, r2⟩ := restC_spec xs hok (xs.length - (i + 1)) (i + 1) ((vals xs x y).set i v) (by omega) (by rw [List.length_set]; exact hl)
  have key : ∀ x' y' : Int, (if xs[i].f3 = 0 then x' else y') = v → (xs[i].f3 = 1 → x' = x) → (xs[i].f3 = 0 → y' = y) → isV xs x' y' (restC xs (i + 1) ((vals xs x y).set i v)) := by
    intro x' y' e1 e2 e3 m hm
    have hleaf : ∀ (hmi : m ≠ i), leaf xs[m].f0.toList = true → rd (vals xs x y) (m : Int) = val xs[m] (restC xs (i + 1) ((vals xs x y).set i v)) x' y' := fun hmi hlf => by
      rw [hV m hm]
      rcases node_kinds (hok m hm) with ⟨h1, _, h2, h3⟩ | ⟨h1, _⟩ | ⟨h1, _⟩ | ⟨h1, _⟩
      · rw [val_in h1, val_in h1]
        have hne := hu m hm hmi h1
        by_cases h0 : xs[m].f3 = 0
        · rw [if_pos h0, if_pos h0, e2 (by omega)]
        · rw [if_neg h0, if_neg h0, e3 (by omega)]
      · rw [val_const h1, val_const h1]
      · rw [hlf] at h1; cases h1
      · rw [hlf] at h1; cases h1
    by_cases hmi : m = i
    · subst hmi
      rw [r1 m (by omega), rd_setN (by omega), val_in hin, e1]
    · rcases Nat.lt_or_ge m i with hlt | hge
      · rw [r1 m (by omega), rd_setO hmi]
        cases hlf : leaf xs[m].f0.toList with
        | true => exact hleaf hmi hlf
        | false =>
          rw [hV m hm, val_op hlf, val_op hlf]
          refine opV_congr (hok m hm) hlf (fun p p0 p1 => ?_)
          obtain ⟨q, rfl⟩ : ∃ q : Nat, p = (q : Int) := ⟨p.toNat, by omega⟩
          rw [r1 q (by omega), rd_setO (by omega)]
      · cases hlf : leaf xs[m].f0.toList with
        | true =>
          rw [(r2 m hm (by omega)).1 hlf, rd_setO hmi]
          exact hleaf hmi hlf
        | false =>
          rw [(r2 m hm (by omega)).2 hlf, val_op hlf]
  unfold chg evalE
  by_cases h1 : xs[i].f3 = 1
  · rw [if_pos h1]
    exact isV_unique xs hok (key x v (by rw [if_neg (by omega)]) (fun _ => rfl) (fun h => by omega)) (vals_V xs hok x v) (xs.length - 1) (by omega)
  · rw [if_neg h1]
    exact isV_unique xs hok (key v y (by rw [if_pos (by omega)]) (fun h => by omega) (fun _ => rfl)) (vals_V xs hok v y) (xs.length - 1) (by omega)
/-- The root's own value. -/
theorem chg_root (xs : List INode) (hn : 1 ≤ xs.length) (L : List Int) (hL : L.length = xs.length) (v : Int) : chg xs L (xs.length - 1) v = v := by
  unfold chg
  rw [show xs.length - 1 + 1 = xs.length by omega, restC_end]
  exact rd_setN (by omega) v
theorem askB_zero64 : ∀ m : Fin 64, ∀ b : Fin 6, m.val ≠ 0 → Go.bits .or .i64 (m.val : Int) (shl .i64 1 (b.val : Int)) ≠ 0 := by decide +kernel
theorem askB_zero6 : ∀ b : Fin 6, Go.bits .and .i64 (shr .i64 0 (b.val : Int)) 1 = 0 ∧ Go.bits .or .i64 0 (shl .i64 1 (b.val : Int)) ≠ 0 := by decide +kernel
theorem askB_zero (xs : List INode) (L : List Int) (i : Nat) {m : Int} (hm : 0 ≤ m ∧ m ≤ 63) {b : Nat} (hb : b < 6) : askB xs L i m b = 0 ↔ m = 0 ∧ chg xs L i (Go.bits .xor .i64 (rd L (i : Int)) (shl .i64 1 (b : Int))) = rd L ((xs.length - 1 : Nat) : Int) := by
  have z := askB_zero6 ⟨b, hb⟩
  unfold askB
  by_cases h0 : m = 0
  · subst h0
    rw [if_pos z.1]
    by_cases hc : chg xs L i (Go.bits .xor .i64 (rd L (i : Int)) (shl .i64 1 (b : Int))) = rd L ((xs.length - 1 : Nat) : Int)
    · rw [if_pos hc]; exact ⟨fun _ => ⟨rfl, hc⟩, fun _ => rfl⟩
    · rw [if_neg hc]; exact ⟨fun h => absurd h z.2, fun h => absurd h.2 hc⟩
  · obtain ⟨q, rfl⟩ := as_fin hm
    have z2 := askB_zero64 q ⟨b, hb⟩ (by intro e; exact h0 (by rw [e]; rfl))
    refine ⟨fun h => ?_, fun h => absurd h.1 h0⟩
    split at h
    · split at h
      · exact absurd h h0
      · exact absurd h z2
    · exact absurd h h0
theorem askBs_zero (xs : List INode) (L : List Int) (i : Nat) (e : Nat) : ∀ b m, b + e = 6 → (0 ≤ m ∧ m ≤ 63) → (askBs xs L i m b = 0 ↔ m = 0 ∧ ∀ c, b ≤ c → c < 6 → chg xs L i (Go.bits .xor .i64 (rd L (i : Int)) (shl .i64 1 (c : Int))) = rd L ((xs.length - 1 : Nat) : Int)) := by
  induction e with
  | zero =>
    intro b m h hm
    obtain rfl : b = 6 := by omega
    rw [askBs_end]
    exact ⟨fun h => ⟨h, fun c h1 h2 => by omega⟩, fun h => h.1⟩
  | succ e ih =>
    intro b m h hm
    have hb : b < 6 := by omega
    rw [askBs_step xs L i m hb, ih (b + 1) _ (by omega) (askB_word xs L i hm hb), askB_zero xs L i hm hb]
    constructor
    · rintro ⟨⟨h1, h2⟩, h3⟩
      refine ⟨h1, fun c c1 c2 => ?_⟩
      by_cases hc : c = b
      · subst hc; exact h2
      · exact h3 c (by omega) c2
    · rintro ⟨h1, h2⟩
      exact ⟨⟨h1, h2 b (Nat.le_refl _) hb⟩, fun c c1 c2 => h2 c (by omega) c2⟩
theorem askAll_zero (xs : List INode) (i : Nat) (d : Nat) : ∀ (q : Nat) (m : Int), (0 ≤ m ∧ m ≤ 63) → (askAll xs i d q m = 0 ↔ m = 0 ∧ ∀ p, q ≤ p → p < q + d → ∀ c : Nat, c < 6 → chg xs (vals xs ((p / 64 : Nat) : Int) ((p % 64 : Nat) : Int)) i (Go.bits .xor .i64 (rd (vals xs ((p / 64 : Nat) : Int) ((p % 64 : Nat) : Int)) (i : Int)) (shl .i64 1 (c : Int))) = rd (vals xs ((p / 64 : Nat) : Int) ((p % 64 : Nat) : Int)) ((xs.length - 1 : Nat) : Int)) := by
  induction d with
  | zero => intro q m hm; exact ⟨fun h => ⟨h, fun p h1 h2 => by omega⟩, fun h => h.1⟩
  | succ d ih =>
    intro q m hm
    show askAll xs i d (q + 1) (askAt xs i m q) = 0 ↔ _
    rw [ih (q + 1) _ (askAt_word xs i hm q)]
    unfold askAt
    rw [askBs_zero xs _ i 6 0 m (by omega) hm]
    constructor
    · rintro ⟨⟨h1, h2⟩, h3⟩
      refine ⟨h1, fun p p1 p2 c hc => ?_⟩
      by_cases hp : p = q
      · subst hp; exact h2 c (by omega) hc
      · exact h3 p (by omega) (by omega) c hc
    · rintro ⟨h1, h2⟩
      exact ⟨⟨h1, fun c _ hc => h2 q (Nat.le_refl _) (by omega) c hc⟩, fun p p1 p2 c hc => h2 p (by omega) (by omega) c hc⟩
/-- All of a root's bits are asked for. -/
theorem askB_root (xs : List INode) (hn : 1 ≤ xs.length) (L : List Int) (hL : L.length = xs.length) (hw : words L) (m : Int) {b : Nat} (hb : b < 6) : askB xs L (xs.length - 1) m b = if Go.bits .and .i64 (shr .i64 m (b : Int)) 1 = 0 then Go.bits .or .i64 m (shl .i64 1 (b : Int)) else m := by
  have hx : ∀ q : Fin 64, ∀ b : Fin 6, Go.bits .xor .i64 (q.val : Int) (shl .i64 1 (b.val : Int)) ≠ (q.val : Int) := by decide +kernel
  unfold askB
  rw [chg_root xs hn L hL]
  split
  · obtain ⟨q, hq⟩ := as_fin (rd_word hw ((xs.length - 1 : Nat) : Int))
    rw [hq, if_neg (hx q ⟨b, hb⟩)]
  · rfl
theorem askBs_root (xs : List INode) (hn : 1 ≤ xs.length) (L : List Int) (hL : L.length = xs.length) (hw : words L) : askBs xs L (xs.length - 1) 0 0 = 63 := by
  have st : ∀ m b, b < 6 → askBs xs L (xs.length - 1) m b = askBs xs L (xs.length - 1) (if Go.bits .and .i64 (shr .i64 m (b : Int)) 1 = 0 then Go.bits .or .i64 m (shl .i64 1 (b : Int)) else m) (b + 1) := fun m b hb => by
    rw [askBs_step xs L _ m hb, askB_root xs hn L hL hw m hb]
  have c0 : (if Go.bits .and .i64 (shr .i64 0 ((0 : Nat) : Int)) 1 = 0 then Go.bits .or .i64 0 (shl .i64 1 ((0 : Nat) : Int)) else 0) = 1 := by decide +kernel
  have c1 : (if Go.bits .and .i64 (shr .i64 1 ((1 : Nat) : Int)) 1 = 0 then Go.bits .or .i64 1 (shl .i64 1 ((1 : Nat) : Int)) else 1) = 3 := by decide +kernel
  have c2 : (if Go.bits .and .i64 (shr .i64 3 ((2 : Nat) : Int)) 1 = 0 then Go.bits .or .i64 3 (shl .i64 1 ((2 : Nat) : Int)) else 3) = 7 := by decide +kernel
  have c3 : (if Go.bits .and .i64 (shr .i64 7 ((3 : Nat) : Int)) 1 = 0 then Go.bits .or .i64 7 (shl .i64 1 ((3 : Nat) : Int)) else 7) = 15 := by decide +kernel
  have c4 : (if Go.bits .and .i64 (shr .i64 15 ((4 : Nat) : Int)) 1 = 0 then Go.bits .or .i64 15 (shl .i64 1 ((4 : Nat) : Int)) else 15) = 31 := by decide +kernel
  have c5 : (if Go.bits .and .i64 (shr .i64 31 ((5 : Nat) : Int)) 1 = 0 then Go.bits .or .i64 31 (shl .i64 1 ((5 : Nat) : Int)) else 31) = 63 := by decide +kernel
  rw [st 0 0 (by omega), c0, st 1 1 (by omega), c1, st 3 2 (by omega), c2, st 7 3 (by omega), c3, st 15 4 (by omega), c4, st 31 5 (by omega), c5, askBs_end]
theorem askAll_succ (xs : List INode) (i d q : Nat) (m : Int) : askAll xs i (d + 1) q m = askAll xs i d (q + 1) (askAt xs i m q) := rfl
theorem askAll_root (xs : List INode) (hE : isE xs = true) : askAll xs (xs.length - 1) 4096 0 0 = 63 := by
  obtain ⟨n1, n2, hok⟩ := isE_true hE
  obtain ⟨_, _, v3, v4⟩ := values_f 101 xs hE (x := ((0 / 64 : Nat) : Int)) (y := ((0 % 64 : Nat) : Int)) (by decide) (by decide) (by omega)
  rw [show (4096 : Nat) = 4095 + 1 from rfl, askAll_succ]
  have : askAt xs (xs.length - 1) 0 0 = 63 := askBs_root xs n1 _ v3 v4
  rw [this]
  exact askAll_full xs _ 4095 (0 + 1)
/-- Bits turned one by one come everywhere. -/
theorem flip64 : ∀ n : Fin 64, n.val ≠ 0 → ∃ b : Fin 6, ∃ m : Fin 64, m.val < n.val ∧ Go.bits .xor .i64 (n.val : Int) (shl .i64 1 (b.val : Int)) = (m.val : Int) := by decide +kernel
theorem flips (f : Int → Int) (h : ∀ n : Nat, n < 64 → ∀ b : Nat, b < 6 → f (Go.bits .xor .i64 (n : Int) (shl .i64 1 (b : Int))) = f (n : Int)) (n : Nat) : n < 64 → f (n : Int) = f 0 := by
  induction n using Nat.strongRecOn with
  | _ n ih =>
    intro hn
    by_cases h0 : n = 0
    · subst h0; rfl
    · obtain ⟨b, m, h1, h2⟩ := flip64 ⟨n, hn⟩ h0
      have e := h n hn b.val b.isLt
      rw [← e]
      have h2' : Go.bits .xor .i64 (n : Int) (shl .i64 1 (b.val : Int)) = (m.val : Int) := h2
      rw [h2']
      exact ih m.val h1 m.isLt
end Go.Proofs.Ytlcplhcccgbmnaa.PureOps
