/- exBuilt.walk: a node and what it needs, added to what is built. -/
import Derived.Test.YtecmlikhmkcdpaaEPut
namespace Go.Proofs.Ytecmlikhmkcdpaa.E
open Go.RowKit Go.Proofs.YtecmlikhmkcdpaaW.PrintWords Go.Proofs.YtecmlikhmkcdpaaW.PrintLast Go.Proofs.YtecmlikhmkcdpaaW.PrintMore
attribute [local go_sem] max2_int min2_int max_two min_two max_three min_three max_four min_four
set_option linter.unusedVariables false
set_option linter.unusedSimpArgs false

def exb_walk.f : Nat → List S79 → Int → List S79 → Option (Int × List S79)
  | 0, _, _, _ => none
  | k + 1, e, i, nodes => if 0 ≤ i then (if i < (e.length : Int) then (if (nodes.length : Int) > 24 then some (0, nodes) else
      ((spec_exParts.f k (rd_T79 e i).f0 (rd_T79 e i).f1 (rd_T79 e i).f2 (rd_T79 e i).f3).bind fun ps =>
      (if 0 < ps.length then exb_walk.f k e (rd_T79 e i).f1 nodes else some (0, nodes)).bind fun a =>
      (if 1 < ps.length then exb_walk.f k e (rd_T79 e i).f2 a.2 else some (0, a.2)).bind fun b =>
      if b.2.length < 1000 then some ((b.2.length : Int), b.2 ++ [⟨(rd_T79 e i).f0, a.1, b.1, (rd_T79 e i).f3⟩]) else none)) else none) else none
theorem kept_or {W w1 w2 : World} {gb : Nat} {ok : Nat → Prop} (h1 : Kept W w1 (fun k => k = gb ∨ ok k)) (h2 : Kept w1 w2 (fun k => k = gb ∨ ok k)) : Kept W w2 (fun k => k = gb ∨ ok k) :=
  ⟨Nat.le_trans h1.1 h2.1, fun i hi hs => (h2.2 i (Nat.lt_of_lt_of_le hi h1.1) hs).trans (h1.2 i hi hs)⟩
theorem bld_step {gb base : Nat} {ok : Nat → Prop} {sh : Bool} {nodes : List S79} {W W' : World} (h : bld gb base ok sh nodes W) (hm : ∀ k, k < W.heap.size → k = gb ∨ ok k → W'.heap[k]? = W.heap[k]?) : bld gb base ok sh nodes W' := by
  obtain ⟨A, c, h1, h2⟩ := h
  exact ⟨A, c, (hm gb (Array.getElem?_eq_some_iff.1 h1).1 (.inl rfl)).trans h1, Kd.R_step h2 (fun k hk hlt => hm k hlt (.inr hk))⟩
theorem bld_bound {gb base : Nat} {ok : Nat → Prop} {sh : Bool} {nodes : List S79} {W : World} (h : bld gb base ok sh nodes W) : bld gb base (fun k => ok k ∧ k < W.heap.size) sh nodes W := by
  obtain ⟨A, c, h1, h2⟩ := h
  exact ⟨A, c, h1, Kd.R_mono (Kd.R_bound h2) (fun k hk => ⟨hk.1, hk.2.2.1⟩)⟩
theorem bld_mono {gb base : Nat} {ok ok' : Nat → Prop} {sh : Bool} {nodes : List S79} {W : World} (h : bld gb base ok sh nodes W) (hm : ∀ k, ok k → ok' k) : bld gb base ok' sh nodes W := by
  obtain ⟨A, c, h1, h2⟩ := h
  exact ⟨A, c, h1, Kd.R_mono h2 hm⟩
theorem bld_below {gb base : Nat} {ok : Nat → Prop} {sh : Bool} {nodes : List S79} {W W' : World} (h : bld gb base ok sh nodes W) (hb : Below W.heap.size W W') : bld gb base ok sh nodes W' := bld_step h (fun k hk _ => hb.block k hk)
theorem bld_cells {gb base : Nat} {ok : Nat → Prop} {sh : Bool} {nodes : List S79} {W : World} (h : bld gb base ok sh nodes W) : ∃ A c, W.cell? ⟨gb, 0, none⟩ = some (.slice A nodes.length c) ∧ W.cell? ⟨gb, 1, none⟩ = some (.bool sh) := by
  obtain ⟨A, c, h1, h2⟩ := h
  exact ⟨A, c, (blk_cell h1 0).trans rfl, (blk_cell h1 1).trans rfl⟩
/-- Where the walk stands: what is built, the node that is made (in a block of its own), all else as it was. -/
def wInv (gb gn : Nat) (ok : Nat → Prop) (w0 W : World) (nodes : List S79) (n1 n2 : Int) (X : S79) (cur : World) : Prop :=
  Below w0.heap.size w0 cur ∧ bld gb w0.heap.size (fun q => ok q ∧ q ≠ gn) false nodes cur ∧ cur.heap[gn]? = some (.cells #[.string X.f0, .int .i64 n1, .int .i64 n2, .int .i64 X.f3] 79 (0, 0)) ∧ Kept W cur (fun q => q = gb ∨ ok q) ∧ W.heap.size ≤ gn ∧ w0.heap.size ≤ gn ∧ gn ≠ gb
theorem wInv_below {gb gn : Nat} {ok : Nat → Prop} {w0 W cur cur' : World} {nodes : List S79} {n1 n2 : Int} {X : S79} (h : wInv gb gn ok w0 W nodes n1 n2 X cur) (hb : Below cur.heap.size cur cur') : wInv gb gn ok w0 W nodes n1 n2 X cur' := by
  obtain ⟨h1, h2, h3, h4, h5, h6, h7⟩ := h
  exact ⟨below_step h1 hb, bld_below h2 hb, (hb.block gn (Array.getElem?_eq_some_iff.1 h3).1).trans h3, ⟨Nat.le_trans h4.1 hb.size, fun i hi hs => (hb.block i (Nat.lt_of_lt_of_le hi h4.1)).trans (h4.2 i hi hs)⟩, h5, h6, h7⟩
theorem wInv_rec {gb gn : Nat} {ok : Nat → Prop} {w0 W cur cur' : World} {nodes nodes' : List S79} {n1 n2 : Int} {X : S79} (h : wInv gb gn ok w0 W nodes n1 n2 X cur) (hb : Below w0.heap.size w0 cur') (hd : bld gb w0.heap.size (fun q => ok q ∧ q ≠ gn) false nodes' cur') (hk : Kept cur cur' (fun q => q = gb ∨ (ok q ∧ q ≠ gn))) : wInv gb gn ok w0 W nodes' n1 n2 X cur' := by
  obtain ⟨h1, h2, h3, h4, h5, h6, h7⟩ := h
  refine ⟨hb, hd, (hk.2 gn (Array.getElem?_eq_some_iff.1 h3).1 (fun hs => ?_)).trans h3, ⟨Nat.le_trans h4.1 hk.1, fun i hi hs => (hk.2 i (Nat.lt_of_lt_of_le hi h4.1) (fun hs' => hs ?_)).trans (h4.2 i hi hs)⟩, h5, h6, h7⟩
  · rcases hs with hs | hs
    · exact h7 hs
    · exact hs.2 rfl
  · rcases hs' with hs' | hs'
    · exact .inl hs'
    · exact .inr hs'.1
theorem wInv_far {gb gn j : Nat} {ok : Nat → Prop} {w0 W cur : World} {nodes : List S79} {v : Value} (h1 : Below w0.heap.size w0 cur) (h2 : bld gb w0.heap.size (fun q => ok q ∧ q ≠ gn) false nodes cur) (h4 : Kept W cur (fun q => q = gb ∨ ok q)) (h5 : W.heap.size ≤ gn) (h6 : w0.heap.size ≤ gn) (h7 : gn ≠ gb) :
    Below w0.heap.size w0 (cur.setCell ⟨gn, j, none⟩ v) ∧ bld gb w0.heap.size (fun q => ok q ∧ q ≠ gn) false nodes (cur.setCell ⟨gn, j, none⟩ v) ∧ Kept W (cur.setCell ⟨gn, j, none⟩ v) (fun q => q = gb ∨ ok q) := by
  refine ⟨h1.setCell h6 _, bld_step h2 (fun k hk hs => Below.heap_setCell cur ⟨gn, j, none⟩ _ k (fun e => ?_)), ⟨by have := h4.1; simpa [World.setCell] using this, fun i hi hs => (Below.heap_setCell cur ⟨gn, j, none⟩ _ i (fun e => ?_)).trans (h4.2 i hi hs)⟩⟩
  · have e : k = gn := e
    rcases hs with hs | hs
    · exact h7 (e.symm.trans hs)
    · exact hs.2 e
  · have e : i = gn := e
    omega
theorem wInv_set1 {gb gn : Nat} {ok : Nat → Prop} {w0 W cur : World} {nodes : List S79} {n1 n2 : Int} {X : S79} (h : wInv gb gn ok w0 W nodes n1 n2 X cur) (a : Int) : wInv gb gn ok w0 W nodes a n2 X (cur.setCell ⟨gn, 1, none⟩ (.int .i64 a)) := by
  obtain ⟨h1, h2, h3, h4, h5, h6, h7⟩ := h
  obtain ⟨f1, f2, f3⟩ := wInv_far (j := 1) (v := .int .i64 a) h1 h2 h4 h5 h6 h7
  exact ⟨f1, f2, blk_set h3 1 _, f3, h5, h6, h7⟩
theorem wInv_set2 {gb gn : Nat} {ok : Nat → Prop} {w0 W cur : World} {nodes : List S79} {n1 n2 : Int} {X : S79} (h : wInv gb gn ok w0 W nodes n1 n2 X cur) (a : Int) : wInv gb gn ok w0 W nodes n1 a X (cur.setCell ⟨gn, 2, none⟩ (.int .i64 a)) := by
  obtain ⟨h1, h2, h3, h4, h5, h6, h7⟩ := h
  obtain ⟨f1, f2, f3⟩ := wInv_far (j := 2) (v := .int .i64 a) h1 h2 h4 h5 h6 h7
  exact ⟨f1, f2, blk_set h3 2 _, f3, h5, h6, h7⟩
theorem wInv_fresh {gb gn : Nat} {ok : Nat → Prop} {w0 W cur : World} {nodes : List S79} {n1 n2 : Int} {X : S79} (h : wInv gb gn ok w0 W nodes n1 n2 X cur) (hf : ∀ q, W.heap.size ≤ q → ok q) : ∀ q, cur.heap.size ≤ q → ok q ∧ q ≠ gn := fun q hq => by
  have h1 := h.2.2.2.1.1
  have h2 := (Array.getElem?_eq_some_iff.1 h.2.2.1).1
  exact ⟨hf q (by omega), by omega⟩
theorem cell_old {w0 cur : World} {a : Addr} {v : Value} (hb : Below w0.heap.size w0 cur) (h : w0.cell? a = some v) : cur.cell? a = some v := (hb.cell (World.block_lt_of_cell? w0 _ h)).trans h
set_option maxHeartbeats 16000000 in
set_option maxRecDepth 100000 in
theorem walk_step (k : Nat) (ih : ∀ (A1 : Option Addr) (c1 : Nat) (e : List S79) (i : Int) (gb : Nat) (ok : Nat → Prop) (nodes : List S79) (w0 W : World) (r1 : Int) (r2 : List S79) (hB : Below w0.heap.size w0 W) (hd : bld gb w0.heap.size ok false nodes W) (hgb : w0.heap.size ≤ gb) (hok : ¬ ok gb) (hfr : ∀ q, W.heap.size ≤ q → ok q) (hr : Kd.C k79 w0 A1 e.length e) (hc1 : e.length ≤ c1) (h : exb_walk.f k e i nodes = some (r1, r2)),
      Calls Try.prog 66 #[.pointer (some ⟨gb, 0, none⟩), .slice A1 e.length c1, .int .i64 i] W fun e w' => e = .returned (.int .i64 r1) ∧ bld gb w0.heap.size ok false r2 w' ∧ Below w0.heap.size w0 w' ∧ Kept W w' (fun q => q = gb ∨ ok q))
    (A1 : Option Addr) (c1 : Nat) (e : List S79) (i : Int) (gb : Nat) (ok : Nat → Prop) (nodes : List S79) (w0 W : World) (r1 : Int) (r2 : List S79) (hB : Below w0.heap.size w0 W) (hd : bld gb w0.heap.size ok false nodes W) (hgb : w0.heap.size ≤ gb) (hok : ¬ ok gb) (hfr : ∀ q, W.heap.size ≤ q → ok q) (hr : Kd.C k79 w0 A1 e.length e) (hc1 : e.length ≤ c1) (h : exb_walk.f (k + 1) e i nodes = some (r1, r2)) :
    Calls Try.prog 66 #[.pointer (some ⟨gb, 0, none⟩), .slice A1 e.length c1, .int .i64 i] W fun e w' => e = .returned (.int .i64 r1) ∧ bld gb w0.heap.size ok false r2 w' ∧ Below w0.heap.size w0 w' ∧ Kept W w' (fun q => q = gb ∨ ok q) := by
  have hu79 := Try.underlying79
  have HB := Aside0.mk hB
  have HD := Aside0.mk hd
  have HGB := Aside0.mk hgb
  have HOK := Aside0.mk hok
  have HFR := Aside0.mk hfr
  have HR := Aside0.mk hr
  have HC1 := Aside0.mk hc1
  have HIH := Aside0.mk ih
  clear hB hd hgb hok hfr hr hc1 ih
  have H := h
  clear h
  simp only [exb_walk.f] at H
  by_cases p1 : 0 ≤ i
  · rw [if_pos p1] at H
    by_cases q1 : i < (e.length : Int)
    · rw [if_pos q1] at H
      obtain ⟨ad0, e0, hx0, hx1, hx2, hx3⟩ := at_T79 HR.out i p1 q1
      generalize rd_T79 e i = X at hx0 hx1 hx2 hx3 H
      cases e0
      have HH := Aside0.mk H
      clear H
      have X0 := Aside0.mk hx0
      have X1 := Aside0.mk hx1
      have X2 := Aside0.mk hx2
      have X3 := Aside0.mk hx3
      have hB := HB.out
      have step : ∀ {a : Addr} {v : Value}, w0.cell? a = some v → W.cell? a = some v := fun h => (hB.cell (World.block_lt_of_cell? w0 _ h)).trans h
      replace hx0 := step hx0
      replace hx1 := step hx1
      replace hx2 := step hx2
      replace hx3 := step hx3
      clear step hB
      have hy0 := (Below.cell (below_alloc (Below.refl W.heap.size W) (.cells #[.string (⟨#[]⟩ : ByteArray), .int .i64 0, .int .i64 0, .int .i64 0] 79 (0, 0))) (World.block_lt_of_cell? W _ hx0)).trans hx0
      have hy3 := (Below.cell (below_alloc (Below.refl W.heap.size W) (.cells #[.string (⟨#[]⟩ : ByteArray), .int .i64 0, .int .i64 0, .int .i64 0] 79 (0, 0))) (World.block_lt_of_cell? W _ hx3)).trans hx3
      go_enter Try.func66, Try.ntmps66
      replace p1 := eq_true p1
      replace q1 := eq_true q1
      go_wp2
      go_region
      have I := Aside0.mk (show wInv gb W.heap.size ok w0 W nodes 0 0 X ((W.alloc (.cells #[.string X.f0, .int .i64 0, .int .i64 0, .int .i64 X.f3] 79 (0, 0))).drew) from
        ⟨below_drew (HB.out.alloc HB.out.size _), bld_step (bld_mono (bld_bound HD.out) (fun q hq => ⟨hq.1, Nat.ne_of_lt hq.2⟩)) (fun q hq _ => Below.heap_alloc W _ q hq), heap_alloc_new W _, Kept.of_below (below_drew (below_alloc (Below.refl _ _) _)) _, Nat.le_refl _, HB.out.size, Nat.ne_of_gt (by obtain ⟨_, _, hh, _⟩ := HD.out; exact (Array.getElem?_eq_some_iff.1 hh).1)⟩)
      have HF1 := Aside0.mk (show ∀ q, ((W.alloc (.cells #[.string X.f0, .int .i64 0, .int .i64 0, .int .i64 X.f3] 79 (0, 0))).drew).heap.size ≤ q → ok q ∧ q ≠ W.heap.size from fun q hq => by
        have hq : (W.alloc (.cells #[.string X.f0, .int .i64 0, .int .i64 0, .int .i64 X.f3] 79 (0, 0))).heap.size ≤ q := hq
        rw [World.size_alloc] at hq
        exact ⟨HFR.out q (by omega), by omega⟩)
      generalize (W.alloc (.cells #[.string X.f0, .int .i64 0, .int .i64 0, .int .i64 X.f3] 79 (0, 0))).drew = W1 at I HF1 ⊢
      obtain ⟨gn, hgn⟩ : ∃ gn, gn = W.heap.size := ⟨_, rfl⟩
      rw [← hgn] at I HF1 ⊢
      clear hgn hy0 hy3 hx0 hx1 hx2 hx3
      obtain ⟨A, c, hc0, _⟩ := bld_cells I.out.2.1
      have hx0W1 := cell_old I.out.1 X0.out
      have hx1W1 := cell_old I.out.1 X1.out
      have hx2W1 := cell_old I.out.1 X2.out
      have hx3W1 := cell_old I.out.1 X3.out
      have hcn0W1 : W1.cell? ⟨gn, 0, none⟩ = some (.string X.f0) := (blk_cell I.out.2.2.1 0).trans rfl
      have hcn1W1 : W1.cell? ⟨gn, 1, none⟩ = some (.int .i64 (0)) := (blk_cell I.out.2.2.1 1).trans rfl
      have hcn2W1 : W1.cell? ⟨gn, 2, none⟩ = some (.int .i64 (0)) := (blk_cell I.out.2.2.1 2).trans rfl
      have hcn3W1 : W1.cell? ⟨gn, 3, none⟩ = some (.int .i64 X.f3) := (blk_cell I.out.2.2.1 3).trans rfl
      have hfn1W1 := blk_frozen I.out.2.2.1 1
      have hfn2W1 := blk_frozen I.out.2.2.1 2
      by_cases p24 : 24 < (nodes.length : Int)
      · have dq : decide (24 < (nodes.length : Int)) = true := decide_eq_true p24
        have H := HH.out
        rw [if_pos (show (nodes.length : Int) > 24 from p24)] at H
        replace H := Option.some.inj H
        injection H with e1 e2
        subst e1
        subst e2
        go_wp2
        go_ret
        exact ⟨rfl, bld_mono I.out.2.1 (fun q hq => hq.1), I.out.1, I.out.2.2.2.1⟩
      · have dq : decide (24 < (nodes.length : Int)) = false := decide_eq_false p24
        have H := HH.out
        clear HH
        rw [if_neg (show ¬ (nodes.length : Int) > 24 from p24)] at H
        replace H := Option.bind_eq_some_iff.mp H
        obtain ⟨ps, HP, H⟩ := H
        have HP := Aside0.mk HP
        clear p24
        have hm : ps.length = 0 ∨ ps.length = 1 ∨ 1 < ps.length := by omega
        rcases hm with hm | hm | hm
        · have e0 : decide (0 < (ps.length : Int)) = false := decide_eq_false (by omega)
          have e0' : decide (0 < ps.length) = false := decide_eq_false (by omega)
          have e1 : decide (1 < (ps.length : Int)) = false := decide_eq_false (by omega)
          have e1' : decide (1 < ps.length) = false := decide_eq_false (by omega)
          rw [if_neg (show ¬ 0 < ps.length by omega)] at H
          replace H := Option.bind_eq_some_iff.mp H
          obtain ⟨a, HA, H⟩ := H
          obtain rfl := Option.some.inj HA
          rw [if_neg (show ¬ 1 < ps.length by omega)] at H
          replace H := Option.bind_eq_some_iff.mp H
          obtain ⟨b, HBB, H⟩ := H
          obtain rfl := Option.some.inj HBB
          have H : (if (nodes).length < 1000 then some (((nodes).length : Int), nodes ++ [(⟨X.f0, 0, 0, X.f3⟩ : S79)]) else none) = some (r1, r2) := H
          by_cases hn3 : (nodes).length < 1000
          · rw [if_pos hn3] at H
            replace H := Option.some.inj H
            injection H with z1 z2
            subst z1
            subst z2
            have HN3 := Aside0.mk hn3
            clear hn3 hm
            go_wp2_with (first | ((with_reducible refine gate_callee (f := 114) rfl ?_); refine goesL_ (some 29) rfl rfl Try.func114 (by kernel_rfl) rfl #[.agg #[.string X.f0, .int .i64 X.f1, .int .i64 X.f2, .int .i64 X.f3]] rfl (by (try simp only [List.map_toArray, List.map_cons, List.map_nil]); first | done | rfl | (simp only [List.length_drop, List.length_take]; rfl)) ?_; (with_reducible refine (spec_exParts.calls k X.f0 X.f1 X.f2 X.f3 ps _ HP.out).mono ?_); rintro e w2 ⟨v, rfl, ho, hb⟩; refine ⟨_, rfl, ?_⟩; obtain ⟨Ap, cp, rfl⟩ := Kd.R_slice ho; have n0_ := Aside0.mk (wInv_below I.out hb); clear ho hb I; have I := n0_; clear n0_; have hx0w2 := cell_old I.out.1 X0.out; have hx1w2 := cell_old I.out.1 X1.out; have hx2w2 := cell_old I.out.1 X2.out; have hx3w2 := cell_old I.out.1 X3.out; have hcn0w2 : w2.cell? ⟨gn, 0, none⟩ = some (.string X.f0) := (blk_cell I.out.2.2.1 0).trans rfl; have hcn1w2 : w2.cell? ⟨gn, 1, none⟩ = some (.int .i64 (0)) := (blk_cell I.out.2.2.1 1).trans rfl; have hcn2w2 : w2.cell? ⟨gn, 2, none⟩ = some (.int .i64 (0)) := (blk_cell I.out.2.2.1 2).trans rfl; have hcn3w2 : w2.cell? ⟨gn, 3, none⟩ = some (.int .i64 X.f3) := (blk_cell I.out.2.2.1 3).trans rfl; have hfn1w2 := blk_frozen I.out.2.2.1 1; have hfn2w2 := blk_frozen I.out.2.2.1 2; skip) | ((with_reducible refine gate_callee (f := 114) rfl ?_); refine goesL_ (some 45) rfl rfl Try.func114 (by kernel_rfl) rfl #[.agg #[.string X.f0, .int .i64 X.f1, .int .i64 X.f2, .int .i64 X.f3]] rfl (by (try simp only [List.map_toArray, List.map_cons, List.map_nil]); first | done | rfl | (simp only [List.length_drop, List.length_take]; rfl)) ?_; (with_reducible refine (spec_exParts.calls k X.f0 X.f1 X.f2 X.f3 ps _ HP.out).mono ?_); rintro e w5 ⟨v, rfl, ho, hb⟩; refine ⟨_, rfl, ?_⟩; obtain ⟨Ap, cp, rfl⟩ := Kd.R_slice ho; have n0_ := Aside0.mk (wInv_below I.out hb); clear ho hb I; have I := n0_; clear n0_; have hx0w5 := cell_old I.out.1 X0.out; have hx1w5 := cell_old I.out.1 X1.out; have hx2w5 := cell_old I.out.1 X2.out; have hx3w5 := cell_old I.out.1 X3.out; have hcn0w5 : w5.cell? ⟨gn, 0, none⟩ = some (.string X.f0) := (blk_cell I.out.2.2.1 0).trans rfl; have hcn1w5 : w5.cell? ⟨gn, 1, none⟩ = some (.int .i64 (0)) := (blk_cell I.out.2.2.1 1).trans rfl; have hcn2w5 : w5.cell? ⟨gn, 2, none⟩ = some (.int .i64 (0)) := (blk_cell I.out.2.2.1 2).trans rfl; have hcn3w5 : w5.cell? ⟨gn, 3, none⟩ = some (.int .i64 X.f3) := (blk_cell I.out.2.2.1 3).trans rfl; have hfn1w5 := blk_frozen I.out.2.2.1 1; have hfn2w5 := blk_frozen I.out.2.2.1 2; skip) | ((with_reducible refine gate_callee (f := 115) rfl ?_); refine goesL_ (some 59) rfl rfl Try.func115 (by kernel_rfl) rfl #[.pointer (some ⟨gb, 0, none⟩), .agg #[.string X.f0, .int .i64 (0), .int .i64 (0), .int .i64 X.f3]] rfl (by (try simp only [List.map_toArray, List.map_cons, List.map_nil]); first | done | rfl) ?_; have HZ := put_new ⟨X.f0, 0, 0, X.f3⟩ gb (fun q => ok q ∧ q ≠ gn) nodes w0 _ I.out.1 I.out.2.1 HGB.out (fun hq => HOK.out hq.1) (wInv_fresh I.out HFR.out) HN3.out; change Calls Try.prog 115 #[.pointer (some ⟨gb, 0, none⟩), .agg #[.string X.f0, .int .i64 (0), .int .i64 (0), .int .i64 X.f3]] _ _ at HZ; (with_reducible refine HZ.mono ?_); clear HZ; rintro e w9 ⟨rfl, hd, hb, hk⟩; refine ⟨_, rfl, ?_⟩; have n0_ := Aside0.mk (wInv_rec I.out hb hd hk); clear hd hb hk I; have I := n0_; clear n0_; skip))
            go_ret
            exact ⟨rfl, bld_mono I.out.2.1 (fun q hq => hq.1), I.out.1, I.out.2.2.2.1⟩
          · rw [if_neg hn3] at H
            cases H
        · have e0 : decide (0 < (ps.length : Int)) = true := decide_eq_true (by omega)
          have e0' : decide (0 < ps.length) = true := decide_eq_true (by omega)
          have e1 : decide (1 < (ps.length : Int)) = false := decide_eq_false (by omega)
          have e1' : decide (1 < ps.length) = false := decide_eq_false (by omega)
          rw [if_pos (show 0 < ps.length by omega)] at H
          replace H := Option.bind_eq_some_iff.mp H
          obtain ⟨a, HA, H⟩ := H
          have HA := Aside0.mk (show exb_walk.f k e X.f1 nodes = some (a.1, a.2) from HA)
          rw [if_neg (show ¬ 1 < ps.length by omega)] at H
          replace H := Option.bind_eq_some_iff.mp H
          obtain ⟨b, HBB, H⟩ := H
          obtain rfl := Option.some.inj HBB
          have H : (if (a.2).length < 1000 then some (((a.2).length : Int), a.2 ++ [(⟨X.f0, a.1, 0, X.f3⟩ : S79)]) else none) = some (r1, r2) := H
          by_cases hn3 : (a.2).length < 1000
          · rw [if_pos hn3] at H
            replace H := Option.some.inj H
            injection H with z1 z2
            subst z1
            subst z2
            have HN3 := Aside0.mk hn3
            clear hn3 hm
            go_wp2_with (first | ((with_reducible refine gate_callee (f := 114) rfl ?_); refine goesL_ (some 29) rfl rfl Try.func114 (by kernel_rfl) rfl #[.agg #[.string X.f0, .int .i64 X.f1, .int .i64 X.f2, .int .i64 X.f3]] rfl (by (try simp only [List.map_toArray, List.map_cons, List.map_nil]); first | done | rfl | (simp only [List.length_drop, List.length_take]; rfl)) ?_; (with_reducible refine (spec_exParts.calls k X.f0 X.f1 X.f2 X.f3 ps _ HP.out).mono ?_); rintro e w2 ⟨v, rfl, ho, hb⟩; refine ⟨_, rfl, ?_⟩; obtain ⟨Ap, cp, rfl⟩ := Kd.R_slice ho; have n0_ := Aside0.mk (wInv_below I.out hb); clear ho hb I; have I := n0_; clear n0_; have hx0w2 := cell_old I.out.1 X0.out; have hx1w2 := cell_old I.out.1 X1.out; have hx2w2 := cell_old I.out.1 X2.out; have hx3w2 := cell_old I.out.1 X3.out; have hcn0w2 : w2.cell? ⟨gn, 0, none⟩ = some (.string X.f0) := (blk_cell I.out.2.2.1 0).trans rfl; have hcn1w2 : w2.cell? ⟨gn, 1, none⟩ = some (.int .i64 (0)) := (blk_cell I.out.2.2.1 1).trans rfl; have hcn2w2 : w2.cell? ⟨gn, 2, none⟩ = some (.int .i64 (0)) := (blk_cell I.out.2.2.1 2).trans rfl; have hcn3w2 : w2.cell? ⟨gn, 3, none⟩ = some (.int .i64 X.f3) := (blk_cell I.out.2.2.1 3).trans rfl; have hfn1w2 := blk_frozen I.out.2.2.1 1; have hfn2w2 := blk_frozen I.out.2.2.1 2; skip) | ((with_reducible refine gate_callee (f := 66) rfl ?_); refine goesL_ (some 39) rfl rfl Try.func66 (by kernel_rfl) rfl #[.pointer (some ⟨gb, 0, none⟩), .slice (some ad0) e.length c1, .int .i64 X.f1] rfl (by (try simp only [List.map_toArray, List.map_cons, List.map_nil]); first | done | rfl) ?_; have HZ := HIH.out _ c1 e X.f1 gb (fun q => ok q ∧ q ≠ gn) nodes w0 _ a.1 a.2 I.out.1 I.out.2.1 HGB.out (fun hq => HOK.out hq.1) (wInv_fresh I.out HFR.out) HR.out HC1.out HA.out; change Calls Try.prog 66 #[.pointer (some ⟨gb, 0, none⟩), .slice (some ad0) e.length c1, .int .i64 X.f1] _ _ at HZ; (with_reducible refine HZ.mono ?_); clear HZ; rintro e w3 ⟨rfl, hd, hb, hk⟩; refine ⟨_, rfl, ?_⟩; have n0_ := Aside0.mk (wInv_rec I.out hb hd hk); clear hd hb hk I; have I := n0_; clear n0_; have hx0w3 := cell_old I.out.1 X0.out; have hx1w3 := cell_old I.out.1 X1.out; have hx2w3 := cell_old I.out.1 X2.out; have hx3w3 := cell_old I.out.1 X3.out; have hcn0w3 : w3.cell? ⟨gn, 0, none⟩ = some (.string X.f0) := (blk_cell I.out.2.2.1 0).trans rfl; have hcn1w3 : w3.cell? ⟨gn, 1, none⟩ = some (.int .i64 (0)) := (blk_cell I.out.2.2.1 1).trans rfl; have hcn2w3 : w3.cell? ⟨gn, 2, none⟩ = some (.int .i64 (0)) := (blk_cell I.out.2.2.1 2).trans rfl; have hcn3w3 : w3.cell? ⟨gn, 3, none⟩ = some (.int .i64 X.f3) := (blk_cell I.out.2.2.1 3).trans rfl; have hfn1w3 := blk_frozen I.out.2.2.1 1; have hfn2w3 := blk_frozen I.out.2.2.1 2; skip) | ((with_reducible refine gate_store (t := 3) (p := 40) rfl ?_); refine store_event (t := 3) (p := 40) (v := ?vo_w4) (w1 := w3.setCell ⟨gn, 1, none⟩ (.int .i64 a.1)) ?hg ?ho ?hn ?hr ?_; (case ho => rfl); (case hg => rfl); (case hn => rfl); (case hr => first | (go_simp; done) | (go_simp; rfl)); intro w4 hw; have n0_ := Aside0.mk (show wInv gb gn ok w0 W _ (a.1) (0) X w4 from by rw [hw]; exact wInv_set1 I.out a.1); clear I hw; have I := n0_; clear n0_; have hx0w4 := cell_old I.out.1 X0.out; have hx1w4 := cell_old I.out.1 X1.out; have hx2w4 := cell_old I.out.1 X2.out; have hx3w4 := cell_old I.out.1 X3.out; have hcn0w4 : w4.cell? ⟨gn, 0, none⟩ = some (.string X.f0) := (blk_cell I.out.2.2.1 0).trans rfl; have hcn1w4 : w4.cell? ⟨gn, 1, none⟩ = some (.int .i64 (a.1)) := (blk_cell I.out.2.2.1 1).trans rfl; have hcn2w4 : w4.cell? ⟨gn, 2, none⟩ = some (.int .i64 (0)) := (blk_cell I.out.2.2.1 2).trans rfl; have hcn3w4 : w4.cell? ⟨gn, 3, none⟩ = some (.int .i64 X.f3) := (blk_cell I.out.2.2.1 3).trans rfl; have hfn1w4 := blk_frozen I.out.2.2.1 1; have hfn2w4 := blk_frozen I.out.2.2.1 2) | ((with_reducible refine gate_callee (f := 114) rfl ?_); refine goesL_ (some 45) rfl rfl Try.func114 (by kernel_rfl) rfl #[.agg #[.string X.f0, .int .i64 X.f1, .int .i64 X.f2, .int .i64 X.f3]] rfl (by (try simp only [List.map_toArray, List.map_cons, List.map_nil]); first | done | rfl | (simp only [List.length_drop, List.length_take]; rfl)) ?_; (with_reducible refine (spec_exParts.calls k X.f0 X.f1 X.f2 X.f3 ps _ HP.out).mono ?_); rintro e w5 ⟨v, rfl, ho, hb⟩; refine ⟨_, rfl, ?_⟩; obtain ⟨Ap, cp, rfl⟩ := Kd.R_slice ho; have n0_ := Aside0.mk (wInv_below I.out hb); clear ho hb I; have I := n0_; clear n0_; have hx0w5 := cell_old I.out.1 X0.out; have hx1w5 := cell_old I.out.1 X1.out; have hx2w5 := cell_old I.out.1 X2.out; have hx3w5 := cell_old I.out.1 X3.out; have hcn0w5 : w5.cell? ⟨gn, 0, none⟩ = some (.string X.f0) := (blk_cell I.out.2.2.1 0).trans rfl; have hcn1w5 : w5.cell? ⟨gn, 1, none⟩ = some (.int .i64 (a.1)) := (blk_cell I.out.2.2.1 1).trans rfl; have hcn2w5 : w5.cell? ⟨gn, 2, none⟩ = some (.int .i64 (0)) := (blk_cell I.out.2.2.1 2).trans rfl; have hcn3w5 : w5.cell? ⟨gn, 3, none⟩ = some (.int .i64 X.f3) := (blk_cell I.out.2.2.1 3).trans rfl; have hfn1w5 := blk_frozen I.out.2.2.1 1; have hfn2w5 := blk_frozen I.out.2.2.1 2; skip) | ((with_reducible refine gate_callee (f := 115) rfl ?_); refine goesL_ (some 59) rfl rfl Try.func115 (by kernel_rfl) rfl #[.pointer (some ⟨gb, 0, none⟩), .agg #[.string X.f0, .int .i64 (a.1), .int .i64 (0), .int .i64 X.f3]] rfl (by (try simp only [List.map_toArray, List.map_cons, List.map_nil]); first | done | rfl) ?_; have HZ := put_new ⟨X.f0, a.1, 0, X.f3⟩ gb (fun q => ok q ∧ q ≠ gn) a.2 w0 _ I.out.1 I.out.2.1 HGB.out (fun hq => HOK.out hq.1) (wInv_fresh I.out HFR.out) HN3.out; change Calls Try.prog 115 #[.pointer (some ⟨gb, 0, none⟩), .agg #[.string X.f0, .int .i64 (a.1), .int .i64 (0), .int .i64 X.f3]] _ _ at HZ; (with_reducible refine HZ.mono ?_); clear HZ; rintro e w9 ⟨rfl, hd, hb, hk⟩; refine ⟨_, rfl, ?_⟩; have n0_ := Aside0.mk (wInv_rec I.out hb hd hk); clear hd hb hk I; have I := n0_; clear n0_; skip))
            go_ret
            exact ⟨rfl, bld_mono I.out.2.1 (fun q hq => hq.1), I.out.1, I.out.2.2.2.1⟩
          · rw [if_neg hn3] at H
            cases H
        · have e0 : decide (0 < (ps.length : Int)) = true := decide_eq_true (by omega)
          have e0' : decide (0 < ps.length) = true := decide_eq_true (by omega)
          have e1 : decide (1 < (ps.length : Int)) = true := decide_eq_true (by omega)
          have e1' : decide (1 < ps.length) = true := decide_eq_true (by omega)
          rw [if_pos (show 0 < ps.length by omega)] at H
          replace H := Option.bind_eq_some_iff.mp H
          obtain ⟨a, HA, H⟩ := H
          have HA := Aside0.mk (show exb_walk.f k e X.f1 nodes = some (a.1, a.2) from HA)
          rw [if_pos (show 1 < ps.length by omega)] at H
          replace H := Option.bind_eq_some_iff.mp H
          obtain ⟨b, HBB, H⟩ := H
          have HBB := Aside0.mk (show exb_walk.f k e X.f2 a.2 = some (b.1, b.2) from HBB)
          have H : (if (b.2).length < 1000 then some (((b.2).length : Int), b.2 ++ [(⟨X.f0, a.1, b.1, X.f3⟩ : S79)]) else none) = some (r1, r2) := H
          by_cases hn3 : (b.2).length < 1000
          · rw [if_pos hn3] at H
            replace H := Option.some.inj H
            injection H with z1 z2
            subst z1
            subst z2
            have HN3 := Aside0.mk hn3
            clear hn3 hm
            go_wp2_with (first | ((with_reducible refine gate_callee (f := 114) rfl ?_); refine goesL_ (some 29) rfl rfl Try.func114 (by kernel_rfl) rfl #[.agg #[.string X.f0, .int .i64 X.f1, .int .i64 X.f2, .int .i64 X.f3]] rfl (by (try simp only [List.map_toArray, List.map_cons, List.map_nil]); first | done | rfl | (simp only [List.length_drop, List.length_take]; rfl)) ?_; (with_reducible refine (spec_exParts.calls k X.f0 X.f1 X.f2 X.f3 ps _ HP.out).mono ?_); rintro e w2 ⟨v, rfl, ho, hb⟩; refine ⟨_, rfl, ?_⟩; obtain ⟨Ap, cp, rfl⟩ := Kd.R_slice ho; have n0_ := Aside0.mk (wInv_below I.out hb); clear ho hb I; have I := n0_; clear n0_; have hx0w2 := cell_old I.out.1 X0.out; have hx1w2 := cell_old I.out.1 X1.out; have hx2w2 := cell_old I.out.1 X2.out; have hx3w2 := cell_old I.out.1 X3.out; have hcn0w2 : w2.cell? ⟨gn, 0, none⟩ = some (.string X.f0) := (blk_cell I.out.2.2.1 0).trans rfl; have hcn1w2 : w2.cell? ⟨gn, 1, none⟩ = some (.int .i64 (0)) := (blk_cell I.out.2.2.1 1).trans rfl; have hcn2w2 : w2.cell? ⟨gn, 2, none⟩ = some (.int .i64 (0)) := (blk_cell I.out.2.2.1 2).trans rfl; have hcn3w2 : w2.cell? ⟨gn, 3, none⟩ = some (.int .i64 X.f3) := (blk_cell I.out.2.2.1 3).trans rfl; have hfn1w2 := blk_frozen I.out.2.2.1 1; have hfn2w2 := blk_frozen I.out.2.2.1 2; skip) | ((with_reducible refine gate_callee (f := 66) rfl ?_); refine goesL_ (some 39) rfl rfl Try.func66 (by kernel_rfl) rfl #[.pointer (some ⟨gb, 0, none⟩), .slice (some ad0) e.length c1, .int .i64 X.f1] rfl (by (try simp only [List.map_toArray, List.map_cons, List.map_nil]); first | done | rfl) ?_; have HZ := HIH.out _ c1 e X.f1 gb (fun q => ok q ∧ q ≠ gn) nodes w0 _ a.1 a.2 I.out.1 I.out.2.1 HGB.out (fun hq => HOK.out hq.1) (wInv_fresh I.out HFR.out) HR.out HC1.out HA.out; change Calls Try.prog 66 #[.pointer (some ⟨gb, 0, none⟩), .slice (some ad0) e.length c1, .int .i64 X.f1] _ _ at HZ; (with_reducible refine HZ.mono ?_); clear HZ; rintro e w3 ⟨rfl, hd, hb, hk⟩; refine ⟨_, rfl, ?_⟩; have n0_ := Aside0.mk (wInv_rec I.out hb hd hk); clear hd hb hk I; have I := n0_; clear n0_; have hx0w3 := cell_old I.out.1 X0.out; have hx1w3 := cell_old I.out.1 X1.out; have hx2w3 := cell_old I.out.1 X2.out; have hx3w3 := cell_old I.out.1 X3.out; have hcn0w3 : w3.cell? ⟨gn, 0, none⟩ = some (.string X.f0) := (blk_cell I.out.2.2.1 0).trans rfl; have hcn1w3 : w3.cell? ⟨gn, 1, none⟩ = some (.int .i64 (0)) := (blk_cell I.out.2.2.1 1).trans rfl; have hcn2w3 : w3.cell? ⟨gn, 2, none⟩ = some (.int .i64 (0)) := (blk_cell I.out.2.2.1 2).trans rfl; have hcn3w3 : w3.cell? ⟨gn, 3, none⟩ = some (.int .i64 X.f3) := (blk_cell I.out.2.2.1 3).trans rfl; have hfn1w3 := blk_frozen I.out.2.2.1 1; have hfn2w3 := blk_frozen I.out.2.2.1 2; skip) | ((with_reducible refine gate_store (t := 3) (p := 40) rfl ?_); refine store_event (t := 3) (p := 40) (v := ?vo_w4) (w1 := w3.setCell ⟨gn, 1, none⟩ (.int .i64 a.1)) ?hg ?ho ?hn ?hr ?_; (case ho => rfl); (case hg => rfl); (case hn => rfl); (case hr => first | (go_simp; done) | (go_simp; rfl)); intro w4 hw; have n0_ := Aside0.mk (show wInv gb gn ok w0 W _ (a.1) (0) X w4 from by rw [hw]; exact wInv_set1 I.out a.1); clear I hw; have I := n0_; clear n0_; have hx0w4 := cell_old I.out.1 X0.out; have hx1w4 := cell_old I.out.1 X1.out; have hx2w4 := cell_old I.out.1 X2.out; have hx3w4 := cell_old I.out.1 X3.out; have hcn0w4 : w4.cell? ⟨gn, 0, none⟩ = some (.string X.f0) := (blk_cell I.out.2.2.1 0).trans rfl; have hcn1w4 : w4.cell? ⟨gn, 1, none⟩ = some (.int .i64 (a.1)) := (blk_cell I.out.2.2.1 1).trans rfl; have hcn2w4 : w4.cell? ⟨gn, 2, none⟩ = some (.int .i64 (0)) := (blk_cell I.out.2.2.1 2).trans rfl; have hcn3w4 : w4.cell? ⟨gn, 3, none⟩ = some (.int .i64 X.f3) := (blk_cell I.out.2.2.1 3).trans rfl; have hfn1w4 := blk_frozen I.out.2.2.1 1; have hfn2w4 := blk_frozen I.out.2.2.1 2) | ((with_reducible refine gate_callee (f := 114) rfl ?_); refine goesL_ (some 45) rfl rfl Try.func114 (by kernel_rfl) rfl #[.agg #[.string X.f0, .int .i64 X.f1, .int .i64 X.f2, .int .i64 X.f3]] rfl (by (try simp only [List.map_toArray, List.map_cons, List.map_nil]); first | done | rfl | (simp only [List.length_drop, List.length_take]; rfl)) ?_; (with_reducible refine (spec_exParts.calls k X.f0 X.f1 X.f2 X.f3 ps _ HP.out).mono ?_); rintro e w5 ⟨v, rfl, ho, hb⟩; refine ⟨_, rfl, ?_⟩; obtain ⟨Ap, cp, rfl⟩ := Kd.R_slice ho; have n0_ := Aside0.mk (wInv_below I.out hb); clear ho hb I; have I := n0_; clear n0_; have hx0w5 := cell_old I.out.1 X0.out; have hx1w5 := cell_old I.out.1 X1.out; have hx2w5 := cell_old I.out.1 X2.out; have hx3w5 := cell_old I.out.1 X3.out; have hcn0w5 : w5.cell? ⟨gn, 0, none⟩ = some (.string X.f0) := (blk_cell I.out.2.2.1 0).trans rfl; have hcn1w5 : w5.cell? ⟨gn, 1, none⟩ = some (.int .i64 (a.1)) := (blk_cell I.out.2.2.1 1).trans rfl; have hcn2w5 : w5.cell? ⟨gn, 2, none⟩ = some (.int .i64 (0)) := (blk_cell I.out.2.2.1 2).trans rfl; have hcn3w5 : w5.cell? ⟨gn, 3, none⟩ = some (.int .i64 X.f3) := (blk_cell I.out.2.2.1 3).trans rfl; have hfn1w5 := blk_frozen I.out.2.2.1 1; have hfn2w5 := blk_frozen I.out.2.2.1 2; skip) | ((with_reducible refine gate_callee (f := 66) rfl ?_); refine goesL_ (some 55) rfl rfl Try.func66 (by kernel_rfl) rfl #[.pointer (some ⟨gb, 0, none⟩), .slice (some ad0) e.length c1, .int .i64 X.f2] rfl (by (try simp only [List.map_toArray, List.map_cons, List.map_nil]); first | done | rfl) ?_; have HZ := HIH.out _ c1 e X.f2 gb (fun q => ok q ∧ q ≠ gn) a.2 w0 _ b.1 b.2 I.out.1 I.out.2.1 HGB.out (fun hq => HOK.out hq.1) (wInv_fresh I.out HFR.out) HR.out HC1.out HBB.out; change Calls Try.prog 66 #[.pointer (some ⟨gb, 0, none⟩), .slice (some ad0) e.length c1, .int .i64 X.f2] _ _ at HZ; (with_reducible refine HZ.mono ?_); clear HZ; rintro e w6 ⟨rfl, hd, hb, hk⟩; refine ⟨_, rfl, ?_⟩; have n0_ := Aside0.mk (wInv_rec I.out hb hd hk); clear hd hb hk I; have I := n0_; clear n0_; have hx0w6 := cell_old I.out.1 X0.out; have hx1w6 := cell_old I.out.1 X1.out; have hx2w6 := cell_old I.out.1 X2.out; have hx3w6 := cell_old I.out.1 X3.out; have hcn0w6 : w6.cell? ⟨gn, 0, none⟩ = some (.string X.f0) := (blk_cell I.out.2.2.1 0).trans rfl; have hcn1w6 : w6.cell? ⟨gn, 1, none⟩ = some (.int .i64 (a.1)) := (blk_cell I.out.2.2.1 1).trans rfl; have hcn2w6 : w6.cell? ⟨gn, 2, none⟩ = some (.int .i64 (0)) := (blk_cell I.out.2.2.1 2).trans rfl; have hcn3w6 : w6.cell? ⟨gn, 3, none⟩ = some (.int .i64 X.f3) := (blk_cell I.out.2.2.1 3).trans rfl; have hfn1w6 := blk_frozen I.out.2.2.1 1; have hfn2w6 := blk_frozen I.out.2.2.1 2; skip) | ((with_reducible refine gate_store (t := 3) (p := 56) rfl ?_); refine store_event (t := 3) (p := 56) (v := ?vo_w7) (w1 := w6.setCell ⟨gn, 2, none⟩ (.int .i64 b.1)) ?hg ?ho ?hn ?hr ?_; (case ho => rfl); (case hg => rfl); (case hn => rfl); (case hr => first | (go_simp; done) | (go_simp; rfl)); intro w7 hw; have n0_ := Aside0.mk (show wInv gb gn ok w0 W _ (a.1) (b.1) X w7 from by rw [hw]; exact wInv_set2 I.out b.1); clear I hw; have I := n0_; clear n0_; have hx0w7 := cell_old I.out.1 X0.out; have hx1w7 := cell_old I.out.1 X1.out; have hx2w7 := cell_old I.out.1 X2.out; have hx3w7 := cell_old I.out.1 X3.out; have hcn0w7 : w7.cell? ⟨gn, 0, none⟩ = some (.string X.f0) := (blk_cell I.out.2.2.1 0).trans rfl; have hcn1w7 : w7.cell? ⟨gn, 1, none⟩ = some (.int .i64 (a.1)) := (blk_cell I.out.2.2.1 1).trans rfl; have hcn2w7 : w7.cell? ⟨gn, 2, none⟩ = some (.int .i64 (b.1)) := (blk_cell I.out.2.2.1 2).trans rfl; have hcn3w7 : w7.cell? ⟨gn, 3, none⟩ = some (.int .i64 X.f3) := (blk_cell I.out.2.2.1 3).trans rfl; have hfn1w7 := blk_frozen I.out.2.2.1 1; have hfn2w7 := blk_frozen I.out.2.2.1 2) | ((with_reducible refine gate_callee (f := 115) rfl ?_); refine goesL_ (some 59) rfl rfl Try.func115 (by kernel_rfl) rfl #[.pointer (some ⟨gb, 0, none⟩), .agg #[.string X.f0, .int .i64 (a.1), .int .i64 (b.1), .int .i64 X.f3]] rfl (by (try simp only [List.map_toArray, List.map_cons, List.map_nil]); first | done | rfl) ?_; have HZ := put_new ⟨X.f0, a.1, b.1, X.f3⟩ gb (fun q => ok q ∧ q ≠ gn) b.2 w0 _ I.out.1 I.out.2.1 HGB.out (fun hq => HOK.out hq.1) (wInv_fresh I.out HFR.out) HN3.out; change Calls Try.prog 115 #[.pointer (some ⟨gb, 0, none⟩), .agg #[.string X.f0, .int .i64 (a.1), .int .i64 (b.1), .int .i64 X.f3]] _ _ at HZ; (with_reducible refine HZ.mono ?_); clear HZ; rintro e w9 ⟨rfl, hd, hb, hk⟩; refine ⟨_, rfl, ?_⟩; have n0_ := Aside0.mk (wInv_rec I.out hb hd hk); clear hd hb hk I; have I := n0_; clear n0_; skip))
            go_ret
            exact ⟨rfl, bld_mono I.out.2.1 (fun q hq => hq.1), I.out.1, I.out.2.2.2.1⟩
          · rw [if_neg hn3] at H
            cases H
    · rw [if_neg q1] at H
      cases H
  · rw [if_neg p1] at H
    cases H
theorem walk_calls (k : Nat) : ∀ (A1 : Option Addr) (c1 : Nat) (e : List S79) (i : Int) (gb : Nat) (ok : Nat → Prop) (nodes : List S79) (w0 W : World) (r1 : Int) (r2 : List S79) (hB : Below w0.heap.size w0 W) (hd : bld gb w0.heap.size ok false nodes W) (hgb : w0.heap.size ≤ gb) (hok : ¬ ok gb) (hfr : ∀ q, W.heap.size ≤ q → ok q) (hr : Kd.C k79 w0 A1 e.length e) (hc1 : e.length ≤ c1) (h : exb_walk.f k e i nodes = some (r1, r2)),
      Calls Try.prog 66 #[.pointer (some ⟨gb, 0, none⟩), .slice A1 e.length c1, .int .i64 i] W fun e w' => e = .returned (.int .i64 r1) ∧ bld gb w0.heap.size ok false r2 w' ∧ Below w0.heap.size w0 w' ∧ Kept W w' (fun q => q = gb ∨ ok q) := by
  induction k with
  | zero =>
    intro A1 c1 e i gb ok nodes w0 W r1 r2 hB hd hgb hok hfr hr hc1 h
    cases h
  | succ k ih => exact walk_step k ih
theorem exb_walk.mono : ∀ k e i n, LeO (exb_walk.f k e i n) (exb_walk.f (k + 1) e i n) := by
  intro k
  induction k with
  | zero => intro e i n r h; cases h
  | succ k ih =>
    intro e i n
    rw [exb_walk.f, exb_walk.f]
    repeat' first
      | (with_reducible exact ih _ _ _)
      | (with_reducible exact spec_exParts.mono _ _ _ _ _)
      | (with_reducible exact LeO.refl _)
      | (with_reducible exact LeO.none _)
      | (with_reducible refine LeO.ite ?_ ?_)
      | (with_reducible refine LeO.bind ?_ (fun _ => ?_))
      | exact ih _ _ _
      | refine LeO.ite ?_ ?_
      | refine LeO.bind ?_ (fun _ => ?_)
def spec_ExpandExpr.f (k : Nat) (l0 : List (S79)) : Option ((List (S79)) × Bool) := (spec_exGood.f k l0).bind fun g => if g = true then ((exb_walk.f k l0 (wrap64 ((l0.length : Int) - 1)) []).bind fun r => if (r.2.length : Int) > 24 then some ([], false) else some (r.2, true)) else some ([], false)
theorem spec_ExpandExpr.mono : ∀ a0 k, LeO (spec_ExpandExpr.f k a0) (spec_ExpandExpr.f (k + 1) a0) := by
  intro a0 k
  unfold spec_ExpandExpr.f
  repeat' first
    | (with_reducible exact spec_exGood.mono _ _)
    | (with_reducible exact exb_walk.mono _ _ _ _)
    | (with_reducible exact LeO.refl _)
    | (with_reducible refine LeO.ite ?_ ?_)
    | (with_reducible refine LeO.bind ?_ (fun _ => ?_))
set_option maxHeartbeats 8000000 in
set_option maxRecDepth 100000 in
theorem spec_ExpandExpr.calls (k : Nat) (A0 : Option Addr) (c0 : Nat) (l0 : List (S79)) (r1 : List (S79)) (r2 : Bool) (w : World) (hr0 : Kd.C k79 w A0 l0.length l0) (hc0 : l0.length ≤ c0) (h : spec_ExpandExpr.f k l0 = some (r1, r2)) :
    Calls Try.prog 22 #[.slice A0 l0.length c0] w fun e w' => ∃ v0_ : Value, e = .returned (.tuple #[v0_, .bool r2]) ∧ Kd.R k79 79 w' w.heap.size (fun _ => True) v0_ r1 ∧ Below w.heap.size w w' := by
  have HR0 := Aside0.mk hr0
  have HC0 := Aside0.mk hc0
  clear hr0 hc0
  have HB := Aside0.mk (Below.refl w.heap.size w)
  have H := h
  clear h
  unfold spec_ExpandExpr.f at H
  replace H := Option.bind_eq_some_iff.mp H
  obtain ⟨g, HG, H⟩ := H
  have HG := Aside0.mk HG
  by_cases hg : g = true
  · subst hg
    rw [if_pos rfl] at H
    obtain ⟨j, hj⟩ : ∃ j : Int, wrap64 ((l0.length : Int) - 1) = j := ⟨_, rfl⟩
    rw [hj] at H
    have hjw : (IntKind.i64.wrap ((l0.length : Int) - 1)) = j := (i64_w _).trans hj
    replace H := Option.bind_eq_some_iff.mp H
    obtain ⟨r, HW, H⟩ := H
    have HW := Aside0.mk (show exb_walk.f k l0 j [] = some (r.1, r.2) from HW)
    by_cases p24 : (r.2.length : Int) > 24
    · rw [if_pos p24] at H
      replace H := Option.some.inj H
      injection H with e1 e2
      subst e1
      subst e2
      have dq : decide (24 < (r.2.length : Int)) = true := decide_eq_true p24
      clear p24
      go_enter Try.func22, Try.ntmps22
      go_wp2_with (first | ((with_reducible refine gate_callee (f := 65) rfl ?_); refine goesL_ (some 6) rfl rfl Try.func65 (by kernel_rfl) rfl #[.slice A0 l0.length c0] rfl (by (try simp only [List.map_toArray, List.map_cons, List.map_nil]); first | done | rfl | (simp only [List.length_drop, List.length_take]; rfl)) ?_; (with_reducible refine (spec_exGood.calls k A0 c0 l0 true _ HR0.out HC0.out HG.out).mono ?_); rintro e w2 ⟨rfl, hb⟩; refine ⟨_, rfl, ?_⟩; have n0_ := Aside0.mk (below_step (by repeat (first | (with_reducible first | exact HB.out | apply below_alloc | apply pw_below_drewN | apply below_drew1) | exact HB.out)) hb); clear HB; have HB := n0_; clear n0_; clear hb; skip) | ((with_reducible refine gate_dst (N := 9) rfl ?_); refine box_event ?hg (N := 9) ?hd (cs := #[.slice none 0 0, .bool false]) (t := 78) ?hr ?_; (case hd => rfl); (case hg => rfl); (case hr => first | (go_simp; done) | (go_simp; rfl)); intro gb hg w3 hbox hb; have HGW := Aside0.mk (show w.heap.size ≤ gb from by rw [hg]; exact HB.out.size); have HBX := Aside0.mk hbox; have n0_ := Aside0.mk (below_step (by repeat (first | (with_reducible first | exact HB.out | apply below_alloc | apply pw_below_drewN | apply below_drew1) | exact HB.out)) hb); clear HB; have HB := n0_; clear n0_;  clear hg hbox hb) | ((with_reducible refine gate_callee (f := 66) rfl ?_); refine goesL_ (some 15) rfl rfl Try.func66 (by kernel_rfl) rfl #[.pointer (some ⟨gb, 0, none⟩), .slice A0 l0.length c0, .int .i64 j] rfl (by (try simp only [List.map_toArray, List.map_cons, List.map_nil]); first | done | rfl) ?_; have HZ := (walk_calls k A0 c0 l0 j gb (fun q => q ≠ gb) [] w w3 r.1 r.2 HB.out ⟨none, 0, HBX.out, Kd.R_nil _ _ _ _ _⟩ HGW.out (fun hq => hq rfl) (fun q hq => by have := (Array.getElem?_eq_some_iff.1 HBX.out).1; omega) HR0.out HC0.out HW.out); change Calls Try.prog 66 #[.pointer (some ⟨gb, 0, none⟩), .slice A0 l0.length c0, .int .i64 j] _ _ at HZ; (with_reducible refine HZ.mono ?_); clear HZ; rintro e w4 ⟨rfl, hd, hb, hk⟩; refine ⟨_, rfl, ?_⟩; clear HB HBX; have HB := Aside0.mk hb; obtain ⟨A2, c2, hb2, hv2⟩ := hd; have HDV := Aside0.mk hv2; have hc20 : w4.cell? ⟨gb, 0, none⟩ = some (.slice A2 r.2.length c2) := (blk_cell hb2 0).trans rfl; clear hb hb2 hv2 hk; skip))
      go_ret2
      exact ⟨_, rfl, Kd.R_nil _ _ _ _ _, HB.out⟩
    · rw [if_neg p24] at H
      replace H := Option.some.inj H
      injection H with e1 e2
      subst e1
      subst e2
      have dq : decide (24 < (r.2.length : Int)) = false := decide_eq_false p24
      clear p24
      go_enter Try.func22, Try.ntmps22
      go_wp2_with (first | ((with_reducible refine gate_callee (f := 65) rfl ?_); refine goesL_ (some 6) rfl rfl Try.func65 (by kernel_rfl) rfl #[.slice A0 l0.length c0] rfl (by (try simp only [List.map_toArray, List.map_cons, List.map_nil]); first | done | rfl | (simp only [List.length_drop, List.length_take]; rfl)) ?_; (with_reducible refine (spec_exGood.calls k A0 c0 l0 true _ HR0.out HC0.out HG.out).mono ?_); rintro e w2 ⟨rfl, hb⟩; refine ⟨_, rfl, ?_⟩; have n0_ := Aside0.mk (below_step (by repeat (first | (with_reducible first | exact HB.out | apply below_alloc | apply pw_below_drewN | apply below_drew1) | exact HB.out)) hb); clear HB; have HB := n0_; clear n0_; clear hb; skip) | ((with_reducible refine gate_dst (N := 9) rfl ?_); refine box_event ?hg (N := 9) ?hd (cs := #[.slice none 0 0, .bool false]) (t := 78) ?hr ?_; (case hd => rfl); (case hg => rfl); (case hr => first | (go_simp; done) | (go_simp; rfl)); intro gb hg w3 hbox hb; have HGW := Aside0.mk (show w.heap.size ≤ gb from by rw [hg]; exact HB.out.size); have HBX := Aside0.mk hbox; have n0_ := Aside0.mk (below_step (by repeat (first | (with_reducible first | exact HB.out | apply below_alloc | apply pw_below_drewN | apply below_drew1) | exact HB.out)) hb); clear HB; have HB := n0_; clear n0_;  clear hg hbox hb) | ((with_reducible refine gate_callee (f := 66) rfl ?_); refine goesL_ (some 15) rfl rfl Try.func66 (by kernel_rfl) rfl #[.pointer (some ⟨gb, 0, none⟩), .slice A0 l0.length c0, .int .i64 j] rfl (by (try simp only [List.map_toArray, List.map_cons, List.map_nil]); first | done | rfl) ?_; have HZ := (walk_calls k A0 c0 l0 j gb (fun q => q ≠ gb) [] w w3 r.1 r.2 HB.out ⟨none, 0, HBX.out, Kd.R_nil _ _ _ _ _⟩ HGW.out (fun hq => hq rfl) (fun q hq => by have := (Array.getElem?_eq_some_iff.1 HBX.out).1; omega) HR0.out HC0.out HW.out); change Calls Try.prog 66 #[.pointer (some ⟨gb, 0, none⟩), .slice A0 l0.length c0, .int .i64 j] _ _ at HZ; (with_reducible refine HZ.mono ?_); clear HZ; rintro e w4 ⟨rfl, hd, hb, hk⟩; refine ⟨_, rfl, ?_⟩; clear HB HBX; have HB := Aside0.mk hb; obtain ⟨A2, c2, hb2, hv2⟩ := hd; have HDV := Aside0.mk hv2; have hc20 : w4.cell? ⟨gb, 0, none⟩ = some (.slice A2 r.2.length c2) := (blk_cell hb2 0).trans rfl; clear hb hb2 hv2 hk; skip))
      go_ret2
      exact ⟨_, rfl, Kd.R_mono HDV.out (fun _ _ => trivial), HB.out⟩
  · rw [if_neg hg] at H
    replace H := Option.some.inj H
    injection H with e1 e2
    subst e1
    subst e2
    replace hg := Bool.eq_false_iff.mpr hg
    subst hg
    go_enter Try.func22, Try.ntmps22
    go_wp2_with (first | ((with_reducible refine gate_callee (f := 65) rfl ?_); refine goesL_ (some 6) rfl rfl Try.func65 (by kernel_rfl) rfl #[.slice A0 l0.length c0] rfl (by (try simp only [List.map_toArray, List.map_cons, List.map_nil]); first | done | rfl | (simp only [List.length_drop, List.length_take]; rfl)) ?_; (with_reducible refine (spec_exGood.calls k A0 c0 l0 false _ HR0.out HC0.out HG.out).mono ?_); rintro e w2 ⟨rfl, hb⟩; refine ⟨_, rfl, ?_⟩; have n0_ := Aside0.mk (below_step (by repeat (first | (with_reducible first | exact HB.out | apply below_alloc | apply pw_below_drewN | apply below_drew1) | exact HB.out)) hb); clear HB; have HB := n0_; clear n0_; clear hb; skip))
    go_ret2
    exact ⟨_, rfl, Kd.R_nil _ _ _ _ _, (by repeat (first | (with_reducible first | exact HB.out | apply below_alloc | apply pw_below_drewN | apply below_drew1) | exact HB.out))⟩
end Go.Proofs.Ytecmlikhmkcdpaa.E
