/- AskedBits of the program and of the reference agree for all arguments. -/
import Derived.Test.YtlcplhcccgbmnaaPPureIsExpr0
import Derived.Test.YtlcplhcccgbmnaaPPureValues
import Derived.Test.YtlcplhcccgbmnaaPPureBits
import Derived.Test.YtlcplhcccgbmnaaALawsFnAskedBits
namespace Go.Proofs.Ytlcplhcccgbmnaa.PureOps
open Go.RowKit Go.Proofs.Ytlcplhcccgbmnaa.A Go.Proofs.YtlcplhcccgbmnaaW.PrintWords Go.Proofs.YtlcplhcccgbmnaaW.PrintLast Go.Proofs.YtlcplhcccgbmnaaW.PrintMore
set_option linter.unusedVariables false
set_option linter.unusedSimpArgs false
/-- A node's value anew, from the values of all nodes. -/
def stepC (n : INode) (u : List Int) (j : Nat) : List Int :=
  if one n.f0.toList then u.set j (app n.f0 (rd u n.f1) 0) else if two n.f0.toList then u.set j (app n.f0 (rd u n.f1) (rd u n.f2)) else u
theorem set_words {u : List Int} (hw : words u) (j : Nat) {v : Int} (hv : 0 ≤ v ∧ v ≤ 63) : words (u.set j v) := by
  intro z hz
  rcases List.mem_or_eq_of_mem_set hz with h | h
  · exact hw z h
  · rw [h]; exact hv
theorem stepC_ok (n : INode) {u : List Int} (hw : words u) (j : Nat) : (stepC n u j).length = u.length ∧ words (stepC n u j) := by
  unfold stepC
  split
  · exact ⟨by simp, set_words hw j (app_word _ _ _)⟩
  · split
    · exact ⟨by simp, set_words hw j (app_word _ _ _)⟩
    · exact ⟨rfl, hw⟩
/-- The values of all nodes behind a change. -/
def restC (xs : List INode) (j : Nat) (u : List Int) : List Int := ((List.range xs.length).drop j).foldl (fun u i => stepC (xs.getD i z47) u i) u
theorem one_zero {n : INode} {i : Int} (hok : nodeOk n.f0.toList n.f1 n.f2 n.f3 i = true) (h1 : one n.f0.toList = true) : n.f2 = 0 := by
  unfold nodeOk at hok
  rw [if_neg (by rw [(one_not h1).1]; decide), if_pos h1] at hok
  simp only [Bool.and_eq_true, beq_iff_eq] at hok
  exact hok.1.2
theorem chg_s (xs : List INode) (hok : okAll xs) (h1 : 1 ≤ xs.length) (hn : xs.length ≤ 24) (k j : Nat) (hj : j ≤ xs.length) (hk : 60 < k) (u : List Int) (hl : u.length = xs.length) (hw : words u) :
    spec_eqChanged.l0 k xs u (j : Int) = some (rd (restC xs j u) ((xs.length - 1 : Nat) : Int)) := by
  have hwr : wrap64 ((xs.length : Int) - 1) = ((xs.length - 1 : Nat) : Int) := by rw [wrap64_small (by omega) (by omega)]; omega
  exact (fold_loop (fun k s i => spec_eqChanged.l0 k xs s i) xs.length (by omega) 20 (fun i u => stepC (xs.getD i z47) u i) (fun _ s => s.length = xs.length ∧ words s) (fun _ s => some (rd s ((xs.length - 1 : Nat) : Int))) (fun s => rd s ((xs.length - 1 : Nat) : Int))
    (fun k i s hk hi hI => by
      have hg : xs.getD i z47 = xs[i] := by rw [List.getD_eq_getElem?_getD, List.getElem?_eq_getElem hi, Option.getD_some]
      obtain ⟨s1, s2⟩ := stepC_ok xs[i] hI.2 i
      rw [hg]
      refine ⟨?_, by omega, s2⟩
      have hokI := hok i hi
      simp only [spec_eqChanged.l0]
      rw [if_pos (by omega), if_pos (by omega), rdI xs i hi, exOne, Option.bind_some]
      unfold stepC
      by_cases ho : one xs[i].f0.toList = true
      · have hp := parts_lt hokI xs[i].f1 (by unfold parts; rw [if_pos ho]; simp)
        rw [if_pos ho, if_pos ho, if_pos hp.1, if_pos (by omega), app_spec _ _ 0 (by omega), Option.bind_some, if_pos (by omega), Int.toNat_natCast]
      · rw [if_neg ho, if_neg ho, exTwo k (by omega), Option.bind_some]
        by_cases ht : two xs[i].f0.toList = true
        · have hp := parts_lt hokI xs[i].f1 (by unfold parts; rw [if_neg ho, if_pos ht]; simp)
          have hq := parts_lt hokI xs[i].f2 (by unfold parts; rw [if_neg ho, if_pos ht]; simp)
          rw [if_pos ht, if_pos ht, if_pos hp.1, if_pos (by omega), if_pos hq.1, if_pos (by omega), app_spec _ _ _ (rd_word hI.2 _).1, Option.bind_some, if_pos (by omega), Int.toNat_natCast]
        · rw [if_neg ht, if_neg ht])
    (fun k s hI => by
      simp only [spec_eqChanged.l0]
      rw [if_neg (by omega), hI.1, hwr, if_pos (by omega), if_pos (by omega)]) (fun _ _ _ _ => rfl) (xs.length - j) k j u (by omega) (by omega) ⟨hl, hw⟩).1
theorem chg_i (xs : List INode) (hok : okAll xs) (h1 : 1 ≤ xs.length) (hn : xs.length ≤ 24) (L : List Int) (hL : L.length = xs.length) (k j : Nat) (hj : j ≤ xs.length) (hk : 60 < k) (u : List Int) (hl : u.length = xs.length) (hw : words u) :
    impl_changes.l0 k xs L u (j : Int) = some (rd (restC xs j u) ((xs.length - 1 : Nat) : Int) != rd L ((xs.length - 1 : Nat) : Int)) := by
  have hwr : wrap64 ((xs.length : Int) - 1) = ((xs.length - 1 : Nat) : Int) := by rw [wrap64_small (by omega) (by omega)]; omega
  exact (fold_loop (fun k s i => impl_changes.l0 k xs L s i) xs.length (by omega) 20 (fun i u => stepC (xs.getD i z47) u i) (fun _ s => s.length = xs.length ∧ words s) (fun _ s => some (rd s ((xs.length - 1 : Nat) : Int) != rd L ((xs.length - 1 : Nat) : Int))) (fun s => (rd s ((xs.length - 1 : Nat) : Int) != rd L ((xs.length - 1 : Nat) : Int)))
    (fun k i s hk hi hI => by
      have hg : xs.getD i z47 = xs[i] := by rw [List.getD_eq_getElem?_getD, List.getElem?_eq_getElem hi, Option.getD_some]
      obtain ⟨s1, s2⟩ := stepC_ok xs[i] hI.2 i
      rw [hg]
      refine ⟨?_, by omega, s2⟩
      have hokI := hok i hi
      simp only [impl_changes.l0]
      rw [if_pos (by omega), if_pos (by omega), rdI xs i hi, operands_f k (by omega), Option.bind_some]
      unfold stepC
      by_cases ho : one xs[i].f0.toList = true
      · have hp := parts_lt hokI xs[i].f1 (by unfold parts; rw [if_pos ho]; simp)
        have hz := one_zero hokI ho
        rw [ops_one.2 ho, if_pos (by decide), if_pos ho, if_pos hp.1, if_pos (by omega), if_pos (by omega), if_pos (by omega), app_impl _ _ _ (rd_word hI.2 _).1, Option.bind_some, if_pos (by omega), Int.toNat_natCast, app_one ho]
      · rw [if_neg ho]
        by_cases ht : two xs[i].f0.toList = true
        · have hp := parts_lt hokI xs[i].f1 (by unfold parts; rw [if_neg ho, if_pos ht]; simp)
          have hq := parts_lt hokI xs[i].f2 (by unfold parts; rw [if_neg ho, if_pos ht]; simp)
          rw [ops_two.2 ht, if_pos (by decide), if_pos ht, if_pos hp.1, if_pos (by omega), if_pos hq.1, if_pos (by omega), app_impl _ _ _ (rd_word hI.2 _).1, Option.bind_some, if_pos (by omega), Int.toNat_natCast]
        · have hlt := (ops_lt xs[i].f0.toList).2 ⟨by simpa using ho, by simpa using ht⟩
          rw [if_neg ht, if_neg (by omega)])
    (fun k s hI => by
      simp only [impl_changes.l0]
      rw [if_neg (by omega), hwr, if_pos (by omega), if_pos (by omega), if_pos (by omega)]) (fun _ _ _ _ => rfl) (xs.length - j) k j u (by omega) (by omega) ⟨hl, hw⟩).1
/-- The root's value if a node has another one. -/
def chg (xs : List INode) (L : List Int) (i : Nat) (v : Int) : Int := rd (restC xs (i + 1) (L.set i v)) ((xs.length - 1 : Nat) : Int)
theorem changed_f (k : Nat) (hk : 61 < k) (xs : List INode) (hE : isE xs = true) (L : List Int) (hL : L.length = xs.length) (hw : words L) (i : Nat) (hi : i < xs.length) {v : Int} (hv : 0 ≤ v ∧ v ≤ 63) :
    spec_eqChanged.f k xs L (i : Int) v = some (chg xs L i v) ∧ impl_changes.f k xs L (i : Int) v = some (chg xs L i v != rd L ((xs.length - 1 : Nat) : Int)) := by
  obtain ⟨n1, n2, hok⟩ := isE_true hE
  have hs : (L.set i v).length = xs.length := by rw [List.length_set]; exact hL
  have hs2 := set_words hw i hv
  have hwS : wrap64 ((i : Int) + 1) = ((i + 1 : Nat) : Int) := wrapS hi (by omega)
  constructor
  · unfold spec_eqChanged.f spec_l1Own.f
    rw [Option.bind_some, if_pos (by simp; omega), Option.bind_some, List.nil_append, if_pos (by omega), if_pos (by omega), Int.toNat_natCast, hwS]
    exact chg_s xs hok n1 n2 k (i + 1) (by omega) (by omega) _ hs hs2
  · unfold impl_changes.f slices_Clone_int_int.f
    rw [Option.bind_some, if_pos (by simp; omega), Option.bind_some, List.nil_append, if_pos (by omega), if_pos (by omega), Int.toNat_natCast, hwS]
    exact chg_i xs hok n1 n2 L hL k (i + 1) (by omega) (by omega) _ hs hs2
theorem bit64 : ∀ m : Fin 64, ∀ b : Fin 6, (Int.tmod (shr .i64 (m.val : Int) (b.val : Int)) 2 = 0) ↔ (Go.bits .and .i64 (shr .i64 (m.val : Int) (b.val : Int)) 1 = 0) := by decide +kernel
theorem full64 : ∀ b : Fin 6, ¬ (Go.bits .and .i64 (shr .i64 63 (b.val : Int)) 1 = 0) := by decide +kernel
theorem shl64 : ∀ b : Fin 6, 0 ≤ shl .i64 1 (b.val : Int) ∧ shl .i64 1 (b.val : Int) ≤ 63 := by decide +kernel
theorem bit_f {m : Int} (h : 0 ≤ m ∧ m ≤ 63) {b : Nat} (hb : b < 6) : (Int.tmod (shr .i64 m (b : Int)) 2 = 0) ↔ (Go.bits .and .i64 (shr .i64 m (b : Int)) 1 = 0) := by
  obtain ⟨x, rfl⟩ := as_fin h
  exact bit64 x ⟨b, hb⟩
theorem shl_f {b : Nat} (hb : b < 6) : 0 ≤ shl .i64 1 (b : Int) ∧ shl .i64 1 (b : Int) ≤ 63 := shl64 ⟨b, hb⟩
open Classical in
/-- One bit asked. -/
noncomputable def askB (xs : List INode) (L : List Int) (i : Nat) (m : Int) (b : Nat) : Int :=
  if Go.bits .and .i64 (shr .i64 m (b : Int)) 1 = 0 then (if chg xs L i (Go.bits .xor .i64 (rd L (i : Int)) (shl .i64 1 (b : Int))) = rd L ((xs.length - 1 : Nat) : Int) then m else Go.bits .or .i64 m (shl .i64 1 (b : Int))) else m
noncomputable def askBs (xs : List INode) (L : List Int) (i : Nat) (m : Int) (b : Nat) : Int := ((List.range 6).drop b).foldl (askB xs L i) m
theorem askB_word (xs : List INode) (L : List Int) (i : Nat) {m : Int} (h : 0 ≤ m ∧ m ≤ 63) {b : Nat} (hb : b < 6) : 0 ≤ askB xs L i m b ∧ askB xs L i m b ≤ 63 := by
  unfold askB
  split
  · split
    · exact h
    · exact or_word h (shl_f hb)
  · exact h
theorem askBs_step (xs : List INode) (L : List Int) (i : Nat) (m : Int) {b : Nat} (hb : b < 6) : askBs xs L i m b = askBs xs L i (askB xs L i m b) (b + 1) := by
  unfold askBs
  rw [List.drop_eq_getElem_cons (show b < (List.range 6).length by simpa using hb), List.getElem_range, List.foldl_cons]
theorem askBs_end (xs : List INode) (L : List Int) (i : Nat) (m : Int) : askBs xs L i m 6 = m := by unfold askBs; rfl
theorem askBs_word (xs : List INode) (L : List Int) (i : Nat) (e : Nat) : ∀ b m, b + e = 6 → (0 ≤ m ∧ m ≤ 63) → 0 ≤ askBs xs L i m b ∧ askBs xs L i m b ≤ 63 := by
  induction e with
  | zero => intro b m h hm; obtain rfl : b = 6 := by omega
            rw [askBs_end]; exact hm
  | succ e ih => intro b m h hm; rw [askBs_step xs L i m (show b < 6 by omega)]; exact ih (b + 1) _ (by omega) (askB_word xs L i hm (by omega))
theorem askBs_full (xs : List INode) (L : List Int) (i : Nat) (e : Nat) : ∀ b, b + e = 6 → askBs xs L i 63 b = 63 := by
  induction e with
  | zero => intro b h; obtain rfl : b = 6 := by omega
            exact askBs_end xs L i 63
  | succ e ih =>
    intro b h
    have hb : b < 6 := by omega
    have : askB xs L i 63 b = 63 := by unfold askB; rw [if_neg (full64 ⟨b, hb⟩)]
    rw [askBs_step xs L i 63 hb, this]
    exact ih (b + 1) (by omega)
theorem ask_s (xs : List INode) (hE : isE xs = true) (i : Nat) (hi : i < xs.length) (L : List Int) (hL : L.length = xs.length) (hw : words L) (x y : Int) (e : Nat) : ∀ (k b : Nat) (m : Int), b + e = 6 → e + 80 < k → (0 ≤ m ∧ m ≤ 63) →
    ∃ k', k ≤ k' + e + 1 ∧ spec_AskedBits.l2 k xs (i : Int) m x y L (b : Int) = spec_AskedBits.l1 k' xs (i : Int) (askBs xs L i m b) x (wrap64 (y + 1)) := by
  obtain ⟨n1, n2, hok⟩ := isE_true hE
  have hwr : wrap64 ((L.length : Int) - 1) = ((xs.length - 1 : Nat) : Int) := by rw [wrap64_small (by omega) (by omega)]; omega
  induction e with
  | zero =>
    intro k b m h hk hm
    obtain ⟨k, rfl⟩ : ∃ q, k = q + 1 := ⟨k - 1, by omega⟩
    obtain rfl : b = 6 := by omega
    refine ⟨k, by omega, ?_⟩
    rw [askBs_end]
    simp only [spec_AskedBits.l2]
    rw [if_neg (by omega)]
  | succ e ih =>
    intro k b m h hk hm
    obtain ⟨k, rfl⟩ : ∃ q, k = q + 1 := ⟨k - 1, by omega⟩
    have hb : b < 6 := by omega
    obtain ⟨k', hk', e'⟩ := ih k (b + 1) (askB xs L i m b) (by omega) (by omega) (askB_word xs L i hm hb)
    refine ⟨k', by omega, ?_⟩
    rw [askBs_step xs L i m hb, ← e']
    have c1 : (b : Int) < 6 := by omega
    have c2 : (0 : Int) ≤ (b : Int) := by omega
    have c3 : (0 : Int) ≤ (i : Int) := by omega
    have c4 : (i : Int) < (L.length : Int) := by omega
    have c5 : (0 : Int) ≤ ((xs.length - 1 : Nat) : Int) := by omega
    have c6 : ((xs.length - 1 : Nat) : Int) < (L.length : Int) := by omega
    have ck : 61 < k := by omega
    have hwS : wrap64 ((b : Int) + 1) = ((b + 1 : Nat) : Int) := wrapS hb (by omega)
    have hv := xor_word (rd_word hw (i : Int)) (shl_f hb)
    have hc := (changed_f k ck xs hE L hL hw i hi hv).1
    have hbit := bit_f hm hb
    simp only [spec_AskedBits.l2]
    unfold askB
    rw [if_pos c1, if_pos c2, hwS]
    by_cases h0 : Go.bits .and .i64 (shr .i64 m (b : Int)) 1 = 0
    · rw [if_pos h0, if_pos (hbit.2 h0), if_pos c3, if_pos c4, hc, Option.bind_some, hwr, if_pos c5, if_pos c6]
      by_cases hq : chg xs L i (Go.bits .xor .i64 (rd L (i : Int)) (shl .i64 1 (b : Int))) = rd L ((xs.length - 1 : Nat) : Int)
      · rw [if_pos hq, if_pos hq]
      · rw [if_neg hq, if_neg hq]
    · rw [if_neg h0, if_neg (fun h' => h0 (hbit.1 h'))]
theorem ask_i (xs : List INode) (hE : isE xs = true) (i : Nat) (hi : i < xs.length) (L : List Int) (hL : L.length = xs.length) (hw : words L) (at_ : Int) (e : Nat) : ∀ (k b : Nat) (m : Int), b + e = 6 → e + 80 < k → (0 ≤ m ∧ m ≤ 63) →
    ∃ k', k ≤ k' + e + 1 ∧ impl_AskedBits.l1 k xs (i : Int) m L at_ (b : Int) = impl_AskedBits.l0 k' xs (i : Int) (askBs xs L i m b) (wrap64 (at_ + 1)) := by
  obtain ⟨n1, n2, hok⟩ := isE_true hE
  induction e with
  | zero =>
    intro k b m h hk hm
    obtain ⟨k, rfl⟩ : ∃ q, k = q + 1 := ⟨k - 1, by omega⟩
    obtain rfl : b = 6 := by omega
    refine ⟨k, by omega, ?_⟩
    rw [askBs_end]
    simp only [impl_AskedBits.l1]
    rw [if_neg (by omega)]
  | succ e ih =>
    intro k b m h hk hm
    obtain ⟨k, rfl⟩ : ∃ q, k = q + 1 := ⟨k - 1, by omega⟩
    have hb : b < 6 := by omega
    obtain ⟨k', hk', e'⟩ := ih k (b + 1) (askB xs L i m b) (by omega) (by omega) (askB_word xs L i hm hb)
    refine ⟨k', by omega, ?_⟩
    rw [askBs_step xs L i m hb, ← e']
    have c1 : (b : Int) < 6 := by omega
    have c2 : (0 : Int) ≤ (b : Int) := by omega
    have c3 : (0 : Int) ≤ (i : Int) := by omega
    have c4 : (i : Int) < (L.length : Int) := by omega
    have c5 : (0 : Int) ≤ ((xs.length - 1 : Nat) : Int) := by omega
    have c6 : ((xs.length - 1 : Nat) : Int) < (L.length : Int) := by omega
    have ck : 61 < k := by omega
    have hwS : wrap64 ((b : Int) + 1) = ((b + 1 : Nat) : Int) := wrapS hb (by omega)
    have hv := xor_word (rd_word hw (i : Int)) (shl_f hb)
    have hc := (changed_f k ck xs hE L hL hw i hi hv).2
    simp only [impl_AskedBits.l1]
    unfold askB
    rw [if_pos c1, if_pos c2, hwS]
    by_cases h0 : Go.bits .and .i64 (shr .i64 m (b : Int)) 1 = 0
    · rw [if_pos h0, if_pos h0, if_pos c3, if_pos c4, hc, Option.bind_some]
      by_cases hq : chg xs L i (Go.bits .xor .i64 (rd L (i : Int)) (shl .i64 1 (b : Int))) = rd L ((xs.length - 1 : Nat) : Int)
      · rw [if_pos hq, hq, bne_self_eq_false, if_neg (by decide)]
      · rw [if_neg hq, if_pos (bne_iff_ne.2 hq)]
    · rw [if_neg h0, if_neg h0]
/-- All bits asked at one pair of inputs. -/
noncomputable def askAt (xs : List INode) (i : Nat) (m : Int) (at_ : Nat) : Int := askBs xs (vals xs ((at_ / 64 : Nat) : Int) ((at_ % 64 : Nat) : Int)) i m 0
noncomputable def askAll (xs : List INode) (i : Nat) : Nat → Nat → Int → Int
  | 0, _, m => m
  | d + 1, at_, m => askAll xs i d (at_ + 1) (askAt xs i m at_)
theorem askAt_word (xs : List INode) (i : Nat) {m : Int} (h : 0 ≤ m ∧ m ≤ 63) (at_ : Nat) : 0 ≤ askAt xs i m at_ ∧ askAt xs i m at_ ≤ 63 := askBs_word xs _ i 6 0 m (by omega) h
theorem askAll_full (xs : List INode) (i : Nat) (d : Nat) : ∀ at_, askAll xs i d at_ 63 = 63 := by
  induction d with
  | zero => intro at_; rfl
  | succ d ih =>
    intro at_
    show askAll xs i d (at_ + 1) (askAt xs i 63 at_) = 63
    have : askAt xs i 63 at_ = 63 := askBs_full xs _ i 6 0 (by omega)
    rw [this]; exact ih _
theorem word_lt {j : Nat} (h : j < 64) : word (j : Int) = true := word_iff.2 ⟨by omega, by omega⟩
theorem asked_s1 (xs : List INode) (hE : isE xs = true) (i : Nat) (hi : i < xs.length) (k x y : Nat) (m : Int) (hx : x < 64) (hy : y < 64) (hk : 200 < k) (hm : 0 ≤ m ∧ m ≤ 63) :
    ∃ k', k ≤ k' + 8 ∧ spec_AskedBits.l1 k xs (i : Int) m (x : Int) (y : Int) = spec_AskedBits.l1 k' xs (i : Int) (askAt xs i m (64 * x + y)) (x : Int) ((y + 1 : Nat) : Int) := by
  obtain ⟨k, rfl⟩ : ∃ q, k = q + 1 := ⟨k - 1, by omega⟩
  obtain ⟨v1, _, v3, v4⟩ := values_f k xs hE (word_lt hx) (word_lt hy) (by omega)
  obtain ⟨k', hk', e⟩ := ask_s xs hE i hi (vals xs (x : Int) (y : Int)) v3 v4 (x : Int) (y : Int) 6 k 0 m (by omega) (by omega) hm
  refine ⟨k', by omega, ?_⟩
  have hwS : wrap64 ((y : Int) + 1) = ((y + 1 : Nat) : Int) := wrapS hy (by omega)
  rw [hwS] at e
  have ea : askAt xs i m (64 * x + y) = askBs xs (vals xs (x : Int) (y : Int)) i m 0 := by
    unfold askAt
    rw [show (64 * x + y) / 64 = x by omega, show (64 * x + y) % 64 = y by omega]
  rw [ea, ← e]
  simp only [spec_AskedBits.l1]
  rw [if_pos (by omega), v1, Option.bind_some]
  rfl
theorem asked_s (xs : List INode) (hE : isE xs = true) (i : Nat) (hi : i < xs.length) (d : Nat) : ∀ (k x y : Nat) (m : Int), 64 * x + y + d = 4096 → x < 64 → y ≤ 64 → 12 * d + 300 < k → (0 ≤ m ∧ m ≤ 63) →
    spec_AskedBits.l1 k xs (i : Int) m (x : Int) (y : Int) = some (askAll xs i d (64 * x + y) m, true) := by
  induction d with
  | zero =>
    intro k x y m h hx hy hk hm
    obtain ⟨k, rfl⟩ : ∃ q, k = q + 2 := ⟨k - 2, by omega⟩
    obtain rfl : x = 63 := by omega
    obtain rfl : y = 64 := by omega
    simp only [spec_AskedBits.l1]
    rw [if_neg (by omega), show wrap64 (((63 : Nat) : Int) + 1) = 64 from wrap64_small (n := ((63 : Nat) : Int) + 1) (by decide) (by decide)]
    simp only [spec_AskedBits.l0]
    rw [if_neg (by decide)]
    rfl
  | succ d ih =>
    intro k x y m h hx hy hk hm
    have step : ∀ (k x y : Nat), 64 * x + y + (d + 1) = 4096 → x < 64 → y < 64 → 12 * d + 310 < k → spec_AskedBits.l1 k xs (i : Int) m (x : Int) (y : Int) = some (askAll xs i (d + 1) (64 * x + y) m, true) := by
      intro k x y h hx hy hk
      obtain ⟨k', hk', e⟩ := asked_s1 xs hE i hi k x y m hx hy (by omega) hm
      rw [e, ih k' x (y + 1) _ (by omega) hx (by omega) (by omega) (askAt_word xs i hm _)]
      rfl
    by_cases hy' : y < 64
    · exact step k x y h hx hy' (by omega)
    · obtain rfl : y = 64 := by omega
      obtain ⟨k, rfl⟩ : ∃ q, k = q + 2 := ⟨k - 2, by omega⟩
      have hx' : x + 1 < 64 := by omega
      have hs := step k (x + 1) 0 (by omega) hx' (by omega) (by omega)
      rw [show 64 * (x + 1) + 0 = 64 * x + 64 by omega] at hs
      rw [← hs]
      simp only [spec_AskedBits.l1]
      rw [if_neg (by omega), show wrap64 ((x : Int) + 1) = ((x + 1 : Nat) : Int) from wrapS hx (by omega)]
      simp only [spec_AskedBits.l0]
      rw [if_pos (by omega)]
      rfl
theorem at_in {q : Nat} (h : q < 4096) : wrap64 (Int.tdiv (q : Int) 64) = ((q / 64 : Nat) : Int) ∧ Int.tmod (q : Int) 64 = ((q % 64 : Nat) : Int) := by
  constructor
  · rw [Int.tdiv_eq_ediv_of_nonneg (by omega), wrap64_small (by omega) (by omega)]; omega
  · rw [Int.tmod_eq_emod_of_nonneg (by omega)]; omega
theorem asked_i (xs : List INode) (hE : isE xs = true) (i : Nat) (hi : i < xs.length) (d : Nat) : ∀ (k q : Nat) (m : Int), q + d = 4096 → 12 * d + 300 < k → (0 ≤ m ∧ m ≤ 63) →
    impl_AskedBits.l0 k xs (i : Int) m (q : Int) = some (askAll xs i d q m, true) := by
  induction d with
  | zero =>
    intro k q m h hk hm
    obtain ⟨k, rfl⟩ : ∃ q, k = q + 1 := ⟨k - 1, by omega⟩
    obtain rfl : q = 4096 := by omega
    simp only [impl_AskedBits.l0]
    rw [if_neg (by decide)]
    rfl
  | succ d ih =>
    intro k q m h hk hm
    obtain ⟨k, rfl⟩ : ∃ q, k = q + 1 := ⟨k - 1, by omega⟩
    have hq : q < 4096 := by omega
    have hd : q / 64 < 64 := by omega
    have hr : q % 64 < 64 := by omega
    obtain ⟨_, v2, v3, v4⟩ := values_f k xs hE (word_lt hd) (word_lt hr) (by omega)
    obtain ⟨k', hk', e⟩ := ask_i xs hE i hi (vals xs ((q / 64 : Nat) : Int) ((q % 64 : Nat) : Int)) v3 v4 (q : Int) 6 k 0 m (by omega) (by omega) hm
    have hwS : wrap64 ((q : Int) + 1) = ((q + 1 : Nat) : Int) := wrapS hq (by omega)
    have IH := ih k' (q + 1) (askAt xs i m q) (by omega) (by omega) (askAt_word xs i hm q)
    have hlt : (q : Int) < 4096 := by omega
    obtain ⟨a1, a2⟩ := at_in hq
    simp only [impl_AskedBits.l0]
    rw [if_pos hlt, a1, a2]
    clear a1 a2
    by_cases h63 : m = 63
    · rw [if_pos h63, h63, askAll_full]
    · rw [if_neg h63, v2, Option.bind_some]
      rw [hwS] at e
      exact e.trans IH
theorem askedBits_same (k : Nat) (xs : List INode) (a : Int) (hk : 4 * xs.length + 59960 < k) (hn : xs.length ≤ 1048576) :
    ∃ r, spec_AskedBits.f k xs a = some r ∧ impl_AskedBits.f k xs a = some r := by
  obtain ⟨k, rfl⟩ : ∃ m, k = m + 1 := ⟨k - 1, by omega⟩
  unfold spec_AskedBits.f impl_AskedBits.f
  rw [good_f (k + 1) xs (by omega) hn, isExpr_f (k + 1) xs (by omega) hn, l1In_f, within_f]
  simp only [Option.bind_some, spec_AskedBits.j0, impl_AskedBits.j0]
  by_cases hE : isE xs = true
  · obtain ⟨n1, n2, _⟩ := isE_true hE
    have hw : wrap64 ((xs.length : Int) - 1) = (xs.length : Int) - 1 := wrap64_small (by omega) (by omega)
    rw [if_pos hE, if_pos hE, hw]
    by_cases ha : (decide (0 ≤ a) && decide (a ≤ (xs.length : Int) - 1)) = true
    · have ha' : 0 ≤ a ∧ a ≤ (xs.length : Int) - 1 := by simpa using ha
      obtain ⟨i, rfl⟩ : ∃ m : Nat, a = (m : Int) := ⟨a.toNat, by omega⟩
      have hi : i < xs.length := by omega
      have h2 := asked_i xs hE i hi 4096 k 0 0 (by omega) (by omega) ⟨by omega, by omega⟩
      obtain ⟨k', rfl⟩ : ∃ m, k = m + 1 := ⟨k - 1, by omega⟩
      have h1 := asked_s xs hE i hi 4096 k' 0 0 0 (by omega) (by omega) (by omega) (by omega) ⟨by omega, by omega⟩
      rw [ha, if_neg (by decide), if_neg (by decide)]
      refine ⟨_, ?_, h2⟩
      simp only [spec_AskedBits.l0]
      rw [if_pos (by decide)]
      exact h1
    · rw [Bool.eq_false_iff.2 ha]
      exact ⟨(0, false), rfl, rfl⟩
  · rw [if_neg hE, if_neg hE]
    exact ⟨(0, false), rfl, rfl⟩
end Go.Proofs.Ytlcplhcccgbmnaa.PureOps
