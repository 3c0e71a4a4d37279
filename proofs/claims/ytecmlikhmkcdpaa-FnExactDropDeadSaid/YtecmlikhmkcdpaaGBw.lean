/- Contracts: bwiter, lifting, sets. -/
import Derived.Test.YtecmlikhmkcdpaaGK
import Derived.Test.YtecmlikhmkcdpaaGImplInstrReads
import Derived.Deep.RegionWith
import Derived.LoopIn
import Derived.LoopNIn
import Derived.OrdersIn
import Derived.OwnWalkIn
import Derived.RangeFuncBound
import Derived.RangeFuncCalls
import Derived.RangeFuncLeaves
import Derived.RangeFuncNested
import Derived.RegionIn
import Derived.Shelf.Abstract
import Derived.Shelf.RegionOpen
import Derived.TacticsInMore
namespace Go.Proofs.Ytecmlikhmkcdpaa.G
open Go.RowKit Go.Proofs.YtecmlikhmkcdpaaW.PrintWords Go.Proofs.YtecmlikhmkcdpaaW.PrintLast Go.Proofs.YtecmlikhmkcdpaaW.PrintMore
attribute [local go_sem] max2_int min2_int max_two min_two max_three min_three max_four min_four   -- for this text's walks alone
set_option linter.unusedVariables false
set_option linter.unusedSimpArgs false

/-! ### bwiter -/
-- needs: Derived.RangeFuncNested
-- needs: Derived.RangeFuncBound
-- needs: Derived.RangeFuncCalls
-- needs: Derived.RangeFuncLeaves
-- needs: Derived.Shelf.Abstract
-- needs: Derived.Shelf.RegionOpen
-- needs: Derived.OwnWalkIn
-- needs: Derived.TacticsInMore
-- needs: Derived.LoopNIn
-- needs: Derived.LoopIn
section
attribute [local go_sem] Oper.semAt_some
abbrev bwiter.handA (n : Nat) := { i : Nat // i < n }
def bwiter.hand_encs (xs : List S67) (x : bwiter.handA xs.length) : Array Value := #[.int .i64 (x.1 : Int), .agg #[.string (rd_T67 xs (x.1 : Int)).f0, .int .i64 (rd_T67 xs (x.1 : Int)).f1, .int .i64 (rd_T67 xs (x.1 : Int)).f2, .int .i64 (rd_T67 xs (x.1 : Int)).f3, .int .i64 (rd_T67 xs (x.1 : Int)).f4]]
/-- What a round keeps: what lay below n₀, and the iterator's own box. -/
def bwiter.hand_keep (n₀ Bs : Nat) (W W' : World) : Prop := Below n₀ W W' ∧ W'.heap[Bs]? = W.heap[Bs]?
theorem bwiter.hand_keep_t {n₀ Bs : Nat} {X Y Z : World} (h : bwiter.hand_keep n₀ Bs X Y) (k : bwiter.hand_keep n₀ Bs Y Z) : bwiter.hand_keep n₀ Bs X Z := ⟨h.1.trans k.1, k.2.trans h.2⟩
theorem bwiter.hand_keep_b {n₀ Bs : Nat} {w : World} (hn : n₀ ≤ w.heap.size) (hB : Bs < w.heap.size) (W : World) (l : Nat) (o o' : Obj) (hl : w.heap.size ≤ l) (h : W.heap[l]? = some o) (hc : o.isCells = false) (hw : o.isWalk = false) : bwiter.hand_keep n₀ Bs W (W.putObj l o') :=
 ⟨belowK_b hn W l o o' hl h hc hw, World.putObj_heap_other (by omega)⟩
/-- What has come when only c elements are left. -/
def bwiter.hand_from (n : Nat) : Nat → List (bwiter.handA n)
 | 0 => []
 | m + 1 => bwiter.hand_from n m ++ (if h : n - 1 - m < n then [⟨n - 1 - m, h⟩] else [])
theorem bwiter.hand_from_len (n m : Nat) (h : m ≤ n) : (bwiter.hand_from n m).length = m := by
 induction m with
 | zero => rfl
 | succ m ih => rw [bwiter.hand_from, dif_pos (by omega), List.length_append, ih (by omega)]; rfl
theorem bwiter.hand_make (F : Fence) (n : Nat) (h5 : F.fn 103) (hro : F.round = none) (a : Option Addr) (len cap : Nat) (w : World) :
  CallsIn F n Try.prog 103 #[.slice a len cap] w fun e w' => e = .returned (.func (.func 151) #[] #[.pointer (some ⟨w.heap.size, 0, none⟩)]) ∧ w' = w.alloc (.cells #[.slice a len cap] 24) := by
 refine callsIn_of_wp Try.func103 rfl h5 ?_ hro
 simp only [Try.ntmps103, List.size_toArray, List.length_cons, List.length_nil, Nat.reduceAdd, Nat.reduceSub, Array.replicate_succ, Array.replicate_zero, List.push_toArray, List.append_toArray, List.nil_append, List.cons_append]
 gi_wp2
 go_ret
 exact ⟨rfl, rfl⟩
set_option maxRecDepth 100000 in
set_option maxHeartbeats 4000000 in
theorem bwiter.hand_walk (F : Fence) (n n₀ : Nat) (h8 : F.fn 151) (hro : F.round = none) (hn : 1 ≤ n) (l Bs cap : Nat) (A : Option Addr) (xs : List S67) (w0 : World) (hreach : xs.length ≤ 1000000) (hC : Kd.C k67 w0 A xs.length xs) (J Jx : List (bwiter.handA xs.length) → World → Prop)
  (hY : ∀ pre x W, J pre W → pre.length < xs.length → YieldAt F (n - 1) Try.prog l (bwiter.hand_encs xs x) W fun e W' =>
   (e = .returned (.bool true) ∧ J (pre ++ [x]) W' ∧ bwiter.hand_keep n₀ Bs W W') ∨ (e = .returned (.bool false) ∧ Jx (pre ++ [x]) W'))
  (hn₀ : w0.heap.size ≤ n₀) (W : World) (hW : Below w0.heap.size w0 W) (hBs : W.cell? ⟨Bs, 0, none⟩ = some (.slice A xs.length cap)) (h0 : J [] W) :
  CallsIn F n Try.prog 151 #[.func (.yield l) #[] #[], .pointer (some ⟨Bs, 0, none⟩)] W fun e W' => (∃ v, e = .returned v) ∧
   ((∃ ys, ys = bwiter.hand_from xs.length xs.length ∧ J ys W') ∨ (∃ pre, (∃ k, k ≤ xs.length ∧ pre = bwiter.hand_from xs.length k) ∧ Jx pre W')) := by
 refine callsIn_of_wp Try.func151 rfl h8 ?_ hro
 simp only [Try.ntmps151, List.size_toArray, List.length_cons, List.length_nil, Nat.reduceAdd, Nat.reduceSub, Array.replicate_succ, Array.replicate_zero, List.push_toArray, List.append_toArray, List.nil_append, List.cons_append]
 have hw0 : wrap64 ((xs.length : Int) - 1) = (xs.length : Int) - 1 := by unfold wrap64; omega
 gi_wp2
 gi_loopw [3] (fun i wr => ∃ c : Nat, c ≤ xs.length ∧ i = .int .i64 ((c : Int) - 1) ∧ J (bwiter.hand_from xs.length (xs.length - c)) wr ∧ bwiter.hand_keep n₀ Bs W wr)
  (fun i _ => (intOf i + 1).toNat)
 case atStart => exact ⟨xs.length, Nat.le_refl _, by simp [hw0], by rw [Nat.sub_self]; exact h0, Below.refl _ _, rfl⟩
 case round =>
  obtain ⟨c, hk, rfl, hJs, hnx⟩ := hrel
  have hbs := (World.cell?_of_block (a := ⟨Bs, 0, none⟩) hnx.2).trans hBs
  cases c with
  | zero =>
   gi_wp2
   go_end0
   exact ⟨⟨_, rfl⟩, .inl ⟨_, rfl, by rw [Nat.sub_zero] at hJs; exact hJs⟩⟩
  | succ j =>
   have hj : j < xs.length := by omega
   have hCr : Kd.C k67 wr A xs.length xs := Kd.C_below hC (hW.trans (hnx.1.mono hn₀))
   obtain ⟨ad, hA, hx0, hx1, hx2, hx3, hx4⟩ := at_T67 hCr (j : Int) (by omega) (by omega)
   subst hA
   have e1 : ((j + 1 : Nat) : Int) - 1 = (j : Int) := by omega
   simp only [e1]
   have hlen := bwiter.hand_from_len xs.length (xs.length - (j + 1)) (by omega)
   obtain ⟨fn, tmps, assign, body, hy, hR⟩ := hY _ ⟨j, hj⟩ wr hJs (by rw [hlen]; omega)
   simp only [bwiter.hand_encs] at hy
   simp only [Int.toNat_natCast] at hx0 hx1 hx2 hx3 hx4
   have hwj : wrap64 ((j : Int) - 1) = (j : Int) - 1 := by unfold wrap64; omega
   have hstep : bwiter.hand_from xs.length (xs.length - (j + 1)) ++ [⟨j, hj⟩] = bwiter.hand_from xs.length (xs.length - j) := by
    rw [show xs.length - j = (xs.length - (j + 1)) + 1 by omega, bwiter.hand_from, dif_pos (by omega)]
    congr 3
    omega
   rw [hstep] at hR
   gi_wp2
   refine hR.mono ?_
   rintro e W3 (⟨rfl, hJ3, hk3⟩ | ⟨rfl, hJx3⟩)
   ·gi_wp2
    go_roundw
    case rel => exact ⟨j, by omega, by simp [hwj], hJ3, bwiter.hand_keep_t hnx hk3⟩
    case measure => simp [intOf, hwj]
   ·gi_wp2
    refine bodyPost_ret (results_none rfl _ _ _) rfl ?_
    exact ⟨⟨_, rfl⟩, .inr ⟨_, ⟨xs.length - j, by omega, rfl⟩, hJx3⟩⟩
theorem bwiter.hand_stops (F : Fence) (n : Nat) (h8 : F.fn 151) (hro : F.round = none) (hn : 1 ≤ n) (Bs cap : Nat) (A : Option Addr) (xs : List S67) (w0 w : World) (hreach : xs.length ≤ 1000000) (hC : Kd.C k67 w0 A xs.length xs) (hb : Below w0.heap.size w0 w) (hBs : w.cell? ⟨Bs, 0, none⟩ = some (.slice A xs.length cap)) (hlt : Bs < w.heap.size) :
  SeqStopsK F n Try.prog 151 #[.pointer (some ⟨Bs, 0, none⟩)] (bwiter.hand_encs xs) (bwiter.hand_keep w0.heap.size Bs) (fun ys => ys = bwiter.hand_from xs.length xs.length) (fun pre => ∃ k, k ≤ xs.length ∧ pre = bwiter.hand_from xs.length k) xs.length w := fun l J Jx W hW _ _ hY h0 =>
 bwiter.hand_walk F n w0.heap.size h8 hro hn l Bs cap A xs w0 hreach hC J Jx hY (Nat.le_refl _) W (hb.trans (hW.mono hb.size)) ((hW.cell (p := ⟨Bs, 0, none⟩) hlt).trans hBs) h0
end

/-! ### lifting -/
-- needs: Derived.RangeFuncNested
-- needs: Derived.RangeFuncBound
-- needs: Derived.RangeFuncCalls
-- needs: Derived.RangeFuncLeaves
-- needs: Derived.Shelf.Abstract
-- needs: Derived.Shelf.RegionOpen
-- needs: Derived.OwnWalkIn
-- needs: Derived.TacticsInMore
-- needs: Derived.LoopNIn
-- needs: Derived.LoopIn
-- needs: Derived.OrdersIn
theorem lifting.hand_op {F : Fence} {n : Nat} {P : Program} {l : Nat} {o : Oper} {a : Act} {w : World} {K : Act → World → Prop} {Q : Exit → Act → World → Prop} (hro : F.round = none) (hd : ∀ c, o.op ≠ .defer c) (h : o.wpIn F n P a w K Q) : o.wpIn (F.inRound l) n P a w K Q := by
 unfold Oper.wpIn at *
 refine ⟨h.1, ?_⟩
 have h2 := h.2
 rw [hro, Oper.semAt_none] at h2
 rw [Fence.inRound_round, Oper.semAt_some l _ o hd]
 exact h2
theorem lifting.hand_any {F : Fence} {n : Nat} {P : Program} {l : Nat} {md : Region.Mode} {ops : Array Oper} {Q : Exit → Act → World → Prop} (hro : F.round = none) (hd : ∀ (i : Nat) (o : Oper), ops[i]? = some o → ∀ c, o.op ≠ .defer c) : ∀ (fuel : Nat) (listed : Array Bool) (a : Act) (w : World), wpAnyIn F n P md ops Q fuel listed a w → wpAnyIn (F.inRound l) n P md ops Q fuel listed a w
 | 0, _, _, _, h => h
 | fuel + 1, listed, a, w, h => by
  refine ⟨h.1, fun i hi => ?_⟩
  have h2 := wpOpIn_mono (fun a w => lifting.hand_any (l := l) hro hd fuel (listed.setIfInBounds i true) a w) (h.2 i hi)
  unfold wpOpIn at *
  split
  ·rename_i ho
   simp only [ho] at h2
   exact h2
  ·rename_i o ho
   simp only [ho] at h2
   split
   ·rename_i hw
    simp only [hw, if_true] at h2
    exact lifting.hand_op hro (hd i o ho) h2
   ·rename_i hw
    simp only [hw] at h2
    exact h2


/-! ### sets -/
def impl_liveSets.hand_want (L : List Int) : Prop := L.Pairwise (· < ·) ∧ ∀ r ∈ L, 0 ≤ r ∧ r ≤ 5
/-- The instruction i, and what is alive before it. -/
def impl_liveSets.hand_bef (xs : List S67) (i : Nat) (L : List Int) : Option (List Int) := impl_Instr_before.f 1000 (rd_T67 xs (i : Int)).f0 (rd_T67 xs (i : Int)).f1 (rd_T67 xs (i : Int)).f2 (rd_T67 xs (i : Int)).f3 (rd_T67 xs (i : Int)).f4 L
def impl_liveSets.hand_at (xs : List S67) (out : List Int) : Nat → List Int
  | 0 => out
  | m + 1 => (impl_liveSets.hand_bef xs (xs.length - 1 - m) (impl_liveSets.hand_at xs out m)).getD []
def impl_liveSets.hand_ok (xs : List S67) (out : List Int) : Prop := xs.length ≤ 1000 ∧ out.length ≤ 1000 ∧ impl_liveSets.hand_want out ∧ ∀ i, i < xs.length → ∀ L, impl_liveSets.hand_want L → ∃ r, impl_liveSets.hand_bef xs i L = some r ∧ impl_liveSets.hand_want r
theorem impl_liveSets.hand_blk {W W' : World} {row : Option Nat} {k t B : Nat} {cells : Array Value} (h : W.heap[k]? = some (.cells cells t (0, 0))) (hg : W.grownBy W' row) (hr : ∀ r, row = some r → B ≤ r ∧ ∃ o : Obj, W.heap[r]? = some o ∧ o.isCells = false) : W'.heap[k]? = some (.cells cells t (0, 0)) :=
  (hg.block k (Array.getElem?_eq_some_iff.1 h).1 (fun e => by
    obtain ⟨_, o, ho, hc⟩ := hr k e.symm
    rw [h] at ho
    cases ho
    cases hc)).trans h
end Go.Proofs.Ytecmlikhmkcdpaa.G
