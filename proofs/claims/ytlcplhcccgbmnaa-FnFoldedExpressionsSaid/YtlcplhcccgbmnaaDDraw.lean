/- (*l1Cur).tree and (*l1Cur).expr: an expression drawn, with shared nodes or without. -/
import Derived.Test.YtlcplhcccgbmnaaDPutS
namespace Go.Proofs.Ytlcplhcccgbmnaa.D
open Go.RowKit Go.Proofs.YtlcplhcccgbmnaaW.PrintWords Go.Proofs.YtlcplhcccgbmnaaW.PrintLast Go.Proofs.YtlcplhcccgbmnaaW.PrintMore
attribute [local go_sem] max2_int min2_int max_two min_two max_three min_three max_four min_four
set_option linter.unusedVariables false
set_option linter.unusedSimpArgs false

theorem bld_step {gb base : Nat} {ok : Nat → Prop} {sh : Bool} {nodes : List S47} {W W' : World} (h : bld gb base ok sh nodes W) (hm : ∀ k, k < W.heap.size → k = gb ∨ ok k → W'.heap[k]? = W.heap[k]?) : bld gb base ok sh nodes W' := by
 obtain ⟨A, c, h1, h2⟩ := h
 exact ⟨A, c, (hm gb (Array.getElem?_eq_some_iff.1 h1).1 (.inl rfl)).trans h1, Kd.R_step h2 (fun k hk hlt => hm k hlt (.inr hk))⟩
theorem bld_bound {gb base : Nat} {ok : Nat → Prop} {sh : Bool} {nodes : List S47} {W : World} (h : bld gb base ok sh nodes W) : bld gb base (fun k => ok k ∧ k < W.heap.size) sh nodes W := by
 obtain ⟨A, c, h1, h2⟩ := h
 exact ⟨A, c, h1, Kd.R_mono (Kd.R_bound h2) (fun k hk => ⟨hk.1, hk.2.2.1⟩)⟩
theorem bld_mono {gb base : Nat} {ok ok' : Nat → Prop} {sh : Bool} {nodes : List S47} {W : World} (h : bld gb base ok sh nodes W) (hm : ∀ k, ok k → ok' k) : bld gb base ok' sh nodes W := by
 obtain ⟨A, c, h1, h2⟩ := h
 exact ⟨A, c, h1, Kd.R_mono h2 hm⟩
theorem bld_below {gb base : Nat} {ok : Nat → Prop} {sh : Bool} {nodes : List S47} {W W' : World} (h : bld gb base ok sh nodes W) (hb : Below W.heap.size W W') : bld gb base ok sh nodes W' := bld_step h (fun k hk _ => hb.block k hk)
/-- A node put: its index, and the nodes. -/
def draw.put (sh : Bool) (X : S47) (nodes : List S47) : Int × List S47 := if sh = true then (match nodes.findIdx? (fun m => sameN m X) with
 | some j => ((j : Int), nodes)
 | none => ((nodes.length : Int), nodes ++ [X])) else ((nodes.length : Int), nodes ++ [X])
theorem put_any (sh : Bool) (X : S47) (gb : Nat) (ok : Nat → Prop) (nodes : List S47) (w0 W : World) (hB : Below w0.heap.size w0 W) (hd : bld gb w0.heap.size ok sh nodes W) (hgb : w0.heap.size ≤ gb) (hok : ¬ ok gb) (hfr : ∀ k, W.heap.size ≤ k → ok k) (hn : nodes.length < 1000) :
  Calls Try.prog 129 #[.pointer (some ⟨gb, 0, none⟩), .agg #[.string X.f0, .int .i64 X.f1, .int .i64 X.f2, .int .i64 X.f3]] W fun e w' => e = .returned (.int .i64 (draw.put sh X nodes).1) ∧ bld gb w0.heap.size ok sh (draw.put sh X nodes).2 w' ∧ Below w0.heap.size w0 w' ∧ Kept W w' (fun k => k = gb ∨ ok k) := by
 cases sh with
 | false => exact (put_new X gb ok nodes w0 W hB hd hgb hok hfr hn)
 | true =>
  refine (put_share X gb ok nodes w0 W hB hd hgb hok hfr hn).mono fun e w' ⟨h1, h2, h3⟩ => ?_
  unfold draw.put
  rw [if_pos rfl]
  rcases h3 with ⟨i, hi, he, hs, hall, hb⟩ | ⟨he, hall, hb⟩
  ·have hf : nodes.findIdx? (fun m => sameN m X) = some i := List.findIdx?_eq_some_iff_getElem.2 ⟨hi, hs, fun j hj => by rw [hall j (by omega) hj]; decide⟩
   rw [hf]
   exact ⟨he, hb, h1, h2⟩
  ·have hf : nodes.findIdx? (fun m => sameN m X) = none := List.findIdx?_eq_none_iff.2 (fun x hx => by
    obtain ⟨j, hj, rfl⟩ := List.mem_iff_getElem.1 hx
    exact hall j hj)
   rw [hf]
   exact ⟨he, hb, h1, h2⟩
def draw.end_ (sh : Bool) (X : S47) (nodes : List S47) (at_ sd : Int) : Option (Int × List S47 × Int × Int) := if nodes.length < 1000 then some ((draw.put sh X nodes).1, (draw.put sh X nodes).2, at_, sd) else none
def draw.tree : Nat → List Int → Bool → Int → List S47 → Int → Int → Option (Int × List S47 × Int × Int)
 | 0, _, _, _, _, _, _ => none
 | n + 1, cd, sh, d, nodes, at_, sd =>
  (if d = 0 then some (true, at_, sd) else if (nodes.length : Int) > 16 then some (true, at_, sd) else spec_l1Cur_one.f cd at_ sd 4).bind fun c =>
  if c.1 = true then ((spec_l1Cur_leaf.f cd c.2.1 c.2.2).bind fun l => draw.end_ sh ⟨l.1, l.2.1, l.2.2.1, l.2.2.2.1⟩ nodes l.2.2.2.2.1 l.2.2.2.2.2) else
  (spec_l1Cur_one.f cd c.2.1 c.2.2 5).bind fun u =>
  if u.1 = true then ((spec_l1Cur_of.f cd u.2.1 u.2.2 [(⟨#[110, 111, 116]⟩ : ByteArray), (⟨#[110, 101, 103]⟩ : ByteArray)]).bind fun o => (draw.tree n cd sh (wrap64 (d - 1)) nodes o.2.1 o.2.2).bind fun a => draw.end_ sh ⟨o.1, a.1, 0, 0⟩ a.2.1 a.2.2.1 a.2.2.2) else
  spec_exOps.f.bind fun ops => (spec_l1Cur_of.f cd u.2.1 u.2.2 ops).bind fun o => (draw.tree n cd sh (wrap64 (d - 1)) nodes o.2.1 o.2.2).bind fun a => (draw.tree n cd sh (wrap64 (d - 1)) a.2.1 a.2.2.1 a.2.2.2).bind fun b => draw.end_ sh ⟨o.1, a.1, b.1, 0⟩ b.2.1 b.2.2.1 b.2.2.2
/-- Where the drawing stands: the reader, and what is built. -/
def tI (g gb : Nat) (ok : Nat → Prop) (sh : Bool) (w0 : World) (cd : List Int) (nodes : List S47) (a s : Int) (cur : World) : Prop := Below w0.heap.size w0 cur ∧ IsS59 w0 cur g cd a s ∧ bld gb w0.heap.size ok sh nodes cur
def tF (g gb : Nat) (ok : Nat → Prop) (B : Nat) : Prop := B ≤ gb ∧ g ≠ gb ∧ ¬ ok g ∧ ¬ ok gb
section
variable {g gb : Nat} {ok ok' : Nat → Prop} {sh : Bool} {w0 : World} {cd : List Int} {nodes nodes' : List S47} {a s a' s' : Int} {cur cur' : World}
theorem tI_state (h : tI g gb ok sh w0 cd nodes a s cur) (hf : tF g gb ok w0.heap.size) (hi : IsS59 w0 cur' g cd a' s') (hb : Below w0.heap.size w0 cur') (hk : KeepBut cur cur' g none) : tI g gb ok sh w0 cd nodes a' s' cur' :=
 ⟨hb, hi, bld_step h.2.2 (fun k hlt hs => hk.2 k hlt (fun e => hs.elim (fun e2 => hf.2.1 (e.symm.trans e2)) (fun e2 => hf.2.2.1 (e ▸ e2))) ye1)⟩
theorem tI_below (h : tI g gb ok sh w0 cd nodes a s cur) (hb : Below cur.heap.size cur cur') : tI g gb ok sh w0 cd nodes a s cur' := ⟨zL h.1 hb, h.2.1.below hb, bld_below h.2.2 hb⟩
theorem tI_put (h : tI g gb ok sh w0 cd nodes a s cur) (hf : tF g gb ok w0.heap.size) (hd : bld gb w0.heap.size ok sh nodes' cur') (hb : Below w0.heap.size w0 cur') (hk : Kept cur cur' (fun k => k = gb ∨ ok k)) : tI g gb ok sh w0 cd nodes' a s cur' :=
 ⟨hb, h.2.1.kept hk (fun hs => hs.elim hf.2.1 hf.2.2.1), hd⟩
theorem tI_mono (h : tI g gb ok sh w0 cd nodes a s cur) (hm : ∀ q, ok q → q < cur.heap.size → ok' q) : tI g gb ok' sh w0 cd nodes a s cur := ⟨h.1, h.2.1, bld_mono (bld_bound h.2.2) (fun q hq => hm q hq.1 hq.2)⟩
theorem keep_kept (hk : KeepBut cur cur' g none) (S : Nat → Prop) (hS : S g) : Kept cur cur' S := ⟨hk.1, fun q hq hs => hk.2 q hq (fun e => hs (e ▸ hS)) ye1⟩
theorem Kept.tr {W w1 w2 : World} {S : Nat → Prop} (h1 : Kept W w1 S) (h2 : Kept w1 w2 S) : Kept W w2 S :=
 ⟨Nat.le_trans h1.1 h2.1, fun q hq hs => (h2.2 q (Nat.lt_of_lt_of_le hq h1.1) hs).trans (h1.2 q hq hs)⟩
theorem Kept.wide {W w1 : World} {S S' : Nat → Prop} (h1 : Kept W w1 S) (hi : ∀ q, S q → S' q) : Kept W w1 S' := ⟨h1.1, fun q hq hs => h1.2 q hq (fun h => hs (hi q h))⟩
theorem Kept.put_ {W w1 : World} {S : Nat → Prop} (h : Kept W w1 S) {p : Addr} (hp : W.heap.size ≤ p.block) (v : Value) : Kept W (w1.setCell p v) S :=
 ⟨by have := h.1; simpa [World.setCell] using this, fun q hq hs => (Below.heap_setCell w1 p v q (fun e => by have e : q = p.block := e; omega)).trans (h.2 q hq hs)⟩
theorem blk_set4 {w : World} {g t : Nat} {a0 a1 a2 a3 : Value} (h : w.heap[g]? = some (.cells #[a0, a1, a2, a3] t (0, 0))) (b0 b1 b2 b3 : Value) : ((((w.setCell ⟨g, 0, none⟩ b0).setCell ⟨g, 1, none⟩ b1).setCell ⟨g, 2, none⟩ b2).setCell ⟨g, 3, none⟩ b3).heap[g]? = some (.cells #[b0, b1, b2, b3] t (0, 0)) :=
 blk_set (blk_set (blk_set (blk_set h 0 b0) 1 b1) 2 b2) 3 b3
/-- A node's box of its own beside what is drawn. -/
theorem tI_far {gn j : Nat} {v : Value} (h : tI g gb (fun q => ok q ∧ q ≠ gn) sh w0 cd nodes a s cur) (h0 : w0.heap.size ≤ gn) (h1 : g ≠ gn) (h2 : gb ≠ gn) : tI g gb (fun q => ok q ∧ q ≠ gn) sh w0 cd nodes a s (cur.setCell ⟨gn, j, none⟩ v) :=
 ⟨h.1.setCell h0 _, h.2.1.far h1 _, bld_step h.2.2 (fun k _ hs => Below.heap_setCell cur ⟨gn, j, none⟩ v k (fun e => by
  have e : k = gn := e
  rcases hs with hs | hs
  ·exact h2 (hs.symm.trans e)
  ·exact hs.2 e))⟩
end
set_option maxHeartbeats 16000000 in
set_option maxRecDepth 100000 in
theorem tree_step (n : Nat) (ih : ∀ (g gb : Nat) (ok : Nat → Prop) (sh : Bool) (cd : List Int) (nodes : List S47) (at_ sd d : Int) (w0 W : World) (r1 : Int) (r2 : List S47) (r3 r4 : Int) (hti : tI g gb ok sh w0 cd nodes at_ sd W) (hfx : tF g gb ok w0.heap.size) (hfr : ∀ q, W.heap.size ≤ q → ok q) (h : draw.tree n cd sh d nodes at_ sd = some (r1, r2, r3, r4)),
   Calls Try.prog 130 #[.pointer (some ⟨g, 0, none⟩), .pointer (some ⟨gb, 0, none⟩), .int .i64 d] W fun e_ w' => e_ = .returned (.int .i64 r1) ∧ tI g gb ok sh w0 cd r2 r3 r4 w' ∧ Kept W w' (fun q => q = g ∨ q = gb ∨ ok q))
  (g gb : Nat) (ok : Nat → Prop) (sh : Bool) (cd : List Int) (nodes : List S47) (at_ sd d : Int) (w0 W : World) (r1 : Int) (r2 : List S47) (r3 r4 : Int) (hti : tI g gb ok sh w0 cd nodes at_ sd W) (hfx : tF g gb ok w0.heap.size) (hfr : ∀ q, W.heap.size ≤ q → ok q) (h : draw.tree (n + 1) cd sh d nodes at_ sd = some (r1, r2, r3, r4)) :
  Calls Try.prog 130 #[.pointer (some ⟨g, 0, none⟩), .pointer (some ⟨gb, 0, none⟩), .int .i64 d] W fun e_ w' => e_ = .returned (.int .i64 r1) ∧ tI g gb ok sh w0 cd r2 r3 r4 w' ∧ Kept W w' (fun q => q = g ∨ q = gb ∨ ok q) := by
 have hu47 := Try.underlying47
 have TI := zK hti
 have FX := zK hfx
 have HFR := zK hfr
 have HIH := zK ih
 have KP := zK (Kept.refl W (fun q => q = g ∨ q = gb ∨ ok q))
 obtain ⟨Ab, cb, hbox, hrow⟩ := hti.2.2
 have HBX := zK hbox
 have hcb0 : W.cell? ⟨gb, 0, none⟩ = some (.slice Ab nodes.length cb) := (zI hbox 0).trans rfl
 clear hti hfx hfr ih hbox hrow
 have H := h
 clear h
 simp only [draw.tree] at H
 replace H := Option.bind_eq_some_iff.mp H
 obtain ⟨c, HC, H⟩ := H
 by_cases c0 : d = 0
 ·subst c0
  rw [if_pos rfl] at HC
  obtain rfl := Option.some.inj HC
  rw [if_pos rfl] at H
  replace H := Option.bind_eq_some_iff.mp H
  obtain ⟨l, HLF, H⟩ := H
  have HLF := zK (show spec_l1Cur_leaf.f cd at_ sd = some (l.1, l.2.1, l.2.2.1, l.2.2.2.1, l.2.2.2.2.1, l.2.2.2.2.2) from HLF)
  unfold draw.end_ at H
  by_cases hn3 : (nodes).length < 1000
  ·rw [if_pos hn3] at H
   replace H := Option.some.inj H
   injection H with z1 z2
   injection z2 with z2 z3
   injection z3 with z3 z4
   subst z1
   subst z2
   subst z3
   subst z4
   have HN3 := zK hn3
   clear hn3
   go_enter Try.func130, Try.ntmps130
   go_wp2_with (first | ((with_reducible refine gate_callee (f := 134) rfl ?_); refine goesL_ (some 25) rfl rfl Try.func134 yi rfl #[.pointer (some ⟨g, 0, none⟩)] rfl yf1 ?_; have HZ := spec_l1Cur_leaf.calls g cd at_ sd l.1 l.2.1 l.2.2.1 l.2.2.2.1 l.2.2.2.2.1 l.2.2.2.2.2 w0 _ TI.out.2.1 TI.out.1 HLF.out; change Calls Try.prog 134 #[.pointer (some ⟨g, 0, none⟩)] _ _ at HZ; (with_reducible refine HZ.mono ?_); clear HZ; rintro e_ wl ⟨rfl, hi, hb, hk⟩; refine ⟨_, rfl, ?_⟩; have n0_ := zK (tI_state TI.out FX.out hi hb hk); have n1_ := zK (Kept.tr KP.out (keep_kept hk _ (.inl rfl))); clear hi hb hk TI KP; have TI := n0_; have KP := n1_; clear n0_ n1_; skip) | ((with_reducible refine gate_callee (f := 129) rfl ?_); refine goesL_ (some 26) rfl rfl Try.func129 yi rfl #[.pointer (some ⟨gb, 0, none⟩), .agg #[.string l.1, .int .i64 l.2.1, .int .i64 l.2.2.1, .int .i64 l.2.2.2.1]] rfl yf1 ?_; have HZ := put_any sh (⟨l.1, l.2.1, l.2.2.1, l.2.2.2.1⟩ : S47) gb ok nodes w0 _ TI.out.1 TI.out.2.2 FX.out.1 FX.out.2.2.2 (fun q hq => HFR.out q (Nat.le_trans KP.out.1 hq)) HN3.out; change Calls Try.prog 129 #[.pointer (some ⟨gb, 0, none⟩), .agg #[.string l.1, .int .i64 l.2.1, .int .i64 l.2.2.1, .int .i64 l.2.2.2.1]] _ _ at HZ; (with_reducible refine HZ.mono ?_); clear HZ; rintro e_ wp ⟨rfl, hd, hb, hk⟩; refine ⟨_, rfl, ?_⟩; have n0_ := zK (tI_put TI.out FX.out hd hb hk); have n1_ := zK (Kept.tr KP.out (Kept.wide hk (fun q hq => .inr hq))); clear hd hb hk TI KP; have TI := n0_; have KP := n1_; clear n0_ n1_; skip))
   go_ret
   exact ⟨rfl, TI.out, KP.out⟩
  ·rw [if_neg hn3] at H
   cases H
 ·rw [if_neg c0] at HC
  have c0b : decide (d = 0) = false := decide_eq_false c0
  have c0c : (d == 0) = false := by simpa using c0
  by_cases c1 : (nodes.length : Int) > 16
  ·rw [if_pos c1] at HC
   have c1b : decide ((16 : Int) < (nodes.length : Int)) = true := decide_eq_true c1
   obtain rfl := Option.some.inj HC
   rw [if_pos rfl] at H
   clear c1
   replace H := Option.bind_eq_some_iff.mp H
   obtain ⟨l, HLF, H⟩ := H
   have HLF := zK (show spec_l1Cur_leaf.f cd at_ sd = some (l.1, l.2.1, l.2.2.1, l.2.2.2.1, l.2.2.2.2.1, l.2.2.2.2.2) from HLF)
   unfold draw.end_ at H
   by_cases hn3 : (nodes).length < 1000
   ·rw [if_pos hn3] at H
    replace H := Option.some.inj H
    injection H with z1 z2
    injection z2 with z2 z3
    injection z3 with z3 z4
    subst z1
    subst z2
    subst z3
    subst z4
    have HN3 := zK hn3
    clear hn3
    go_enter Try.func130, Try.ntmps130
    go_wp2_with (first | ((with_reducible refine gate_callee (f := 134) rfl ?_); refine goesL_ (some 25) rfl rfl Try.func134 yi rfl #[.pointer (some ⟨g, 0, none⟩)] rfl yf1 ?_; have HZ := spec_l1Cur_leaf.calls g cd at_ sd l.1 l.2.1 l.2.2.1 l.2.2.2.1 l.2.2.2.2.1 l.2.2.2.2.2 w0 _ TI.out.2.1 TI.out.1 HLF.out; change Calls Try.prog 134 #[.pointer (some ⟨g, 0, none⟩)] _ _ at HZ; (with_reducible refine HZ.mono ?_); clear HZ; rintro e_ wl ⟨rfl, hi, hb, hk⟩; refine ⟨_, rfl, ?_⟩; have n0_ := zK (tI_state TI.out FX.out hi hb hk); have n1_ := zK (Kept.tr KP.out (keep_kept hk _ (.inl rfl))); clear hi hb hk TI KP; have TI := n0_; have KP := n1_; clear n0_ n1_; skip) | ((with_reducible refine gate_callee (f := 129) rfl ?_); refine goesL_ (some 26) rfl rfl Try.func129 yi rfl #[.pointer (some ⟨gb, 0, none⟩), .agg #[.string l.1, .int .i64 l.2.1, .int .i64 l.2.2.1, .int .i64 l.2.2.2.1]] rfl yf1 ?_; have HZ := put_any sh (⟨l.1, l.2.1, l.2.2.1, l.2.2.2.1⟩ : S47) gb ok nodes w0 _ TI.out.1 TI.out.2.2 FX.out.1 FX.out.2.2.2 (fun q hq => HFR.out q (Nat.le_trans KP.out.1 hq)) HN3.out; change Calls Try.prog 129 #[.pointer (some ⟨gb, 0, none⟩), .agg #[.string l.1, .int .i64 l.2.1, .int .i64 l.2.2.1, .int .i64 l.2.2.2.1]] _ _ at HZ; (with_reducible refine HZ.mono ?_); clear HZ; rintro e_ wp ⟨rfl, hd, hb, hk⟩; refine ⟨_, rfl, ?_⟩; have n0_ := zK (tI_put TI.out FX.out hd hb hk); have n1_ := zK (Kept.tr KP.out (Kept.wide hk (fun q hq => .inr hq))); clear hd hb hk TI KP; have TI := n0_; have KP := n1_; clear n0_ n1_; skip))
    go_ret
    exact ⟨rfl, TI.out, KP.out⟩
   ·rw [if_neg hn3] at H
    cases H
  ·rw [if_neg c1] at HC
   have c1b : decide ((16 : Int) < (nodes.length : Int)) = false := decide_eq_false c1
   clear c1
   have HONE := zK (show spec_l1Cur_one.f cd at_ sd 4 = some (c.1, c.2.1, c.2.2) from HC)
   clear HC
   by_cases c2 : c.1 = true
   ·rw [if_pos c2] at H
    rw [c2] at HONE
    clear c2
    replace H := Option.bind_eq_some_iff.mp H
    obtain ⟨l, HLF, H⟩ := H
    have HLF := zK (show spec_l1Cur_leaf.f cd c.2.1 c.2.2 = some (l.1, l.2.1, l.2.2.1, l.2.2.2.1, l.2.2.2.2.1, l.2.2.2.2.2) from HLF)
    unfold draw.end_ at H
    by_cases hn3 : (nodes).length < 1000
    ·rw [if_pos hn3] at H
     replace H := Option.some.inj H
     injection H with z1 z2
     injection z2 with z2 z3
     injection z3 with z3 z4
     subst z1
     subst z2
     subst z3
     subst z4
     have HN3 := zK hn3
     clear hn3
     go_enter Try.func130, Try.ntmps130
     go_wp2_with (first | (go_at_call 81; have HZ := spec_l1Cur_one.calls g cd at_ sd 4 true c.2.1 c.2.2 w0 _ TI.out.2.1 TI.out.1 HONE.out; (with_reducible refine HZ.mono ?_); clear HZ; rintro e_ w2 ⟨rfl, hi, hb, hk⟩; have n0_ := zK (tI_state TI.out FX.out hi hb hk); have n1_ := zK (Kept.tr KP.out (keep_kept hk _ (.inl rfl))); clear hi hb hk TI KP; have TI := n0_; have KP := n1_; clear n0_ n1_; skip) | ((with_reducible refine gate_callee (f := 134) rfl ?_); refine goesL_ (some 25) rfl rfl Try.func134 yi rfl #[.pointer (some ⟨g, 0, none⟩)] rfl yf1 ?_; have HZ := spec_l1Cur_leaf.calls g cd c.2.1 c.2.2 l.1 l.2.1 l.2.2.1 l.2.2.2.1 l.2.2.2.2.1 l.2.2.2.2.2 w0 _ TI.out.2.1 TI.out.1 HLF.out; change Calls Try.prog 134 #[.pointer (some ⟨g, 0, none⟩)] _ _ at HZ; (with_reducible refine HZ.mono ?_); clear HZ; rintro e_ wl ⟨rfl, hi, hb, hk⟩; refine ⟨_, rfl, ?_⟩; have n0_ := zK (tI_state TI.out FX.out hi hb hk); have n1_ := zK (Kept.tr KP.out (keep_kept hk _ (.inl rfl))); clear hi hb hk TI KP; have TI := n0_; have KP := n1_; clear n0_ n1_; skip) | ((with_reducible refine gate_callee (f := 129) rfl ?_); refine goesL_ (some 26) rfl rfl Try.func129 yi rfl #[.pointer (some ⟨gb, 0, none⟩), .agg #[.string l.1, .int .i64 l.2.1, .int .i64 l.2.2.1, .int .i64 l.2.2.2.1]] rfl yf1 ?_; have HZ := put_any sh (⟨l.1, l.2.1, l.2.2.1, l.2.2.2.1⟩ : S47) gb ok nodes w0 _ TI.out.1 TI.out.2.2 FX.out.1 FX.out.2.2.2 (fun q hq => HFR.out q (Nat.le_trans KP.out.1 hq)) HN3.out; change Calls Try.prog 129 #[.pointer (some ⟨gb, 0, none⟩), .agg #[.string l.1, .int .i64 l.2.1, .int .i64 l.2.2.1, .int .i64 l.2.2.2.1]] _ _ at HZ; (with_reducible refine HZ.mono ?_); clear HZ; rintro e_ wp ⟨rfl, hd, hb, hk⟩; refine ⟨_, rfl, ?_⟩; have n0_ := zK (tI_put TI.out FX.out hd hb hk); have n1_ := zK (Kept.tr KP.out (Kept.wide hk (fun q hq => .inr hq))); clear hd hb hk TI KP; have TI := n0_; have KP := n1_; clear n0_ n1_; skip))
     go_ret
     exact ⟨rfl, TI.out, KP.out⟩
    ·rw [if_neg hn3] at H
     cases H
   ·rw [if_neg c2] at H
    have c2' : c.1 = false := by simpa using c2
    rw [c2'] at HONE
    clear c2 c2'
    replace H := Option.bind_eq_some_iff.mp H
    obtain ⟨u, HU, H⟩ := H
    have HU := zK (show spec_l1Cur_one.f cd c.2.1 c.2.2 5 = some (u.1, u.2.1, u.2.2) from HU)
    by_cases c3 : u.1 = true
    ·rw [if_pos c3] at H
     rw [c3] at HU
     clear c3
     obtain ⟨nots, hno⟩ : ∃ ns : List ByteArray, ns = [(⟨#[110, 111, 116]⟩ : ByteArray), (⟨#[110, 101, 103]⟩ : ByteArray)] := ⟨_, rfl⟩
     rw [← hno] at H
     have HNO := zK hno
     clear hno
     replace H := Option.bind_eq_some_iff.mp H
     obtain ⟨o, HOF, H⟩ := H
     have HOF := zK (show spec_l1Cur_of.f cd u.2.1 u.2.2 nots = some (o.1, o.2.1, o.2.2) from HOF)
     replace H := Option.bind_eq_some_iff.mp H
     obtain ⟨a, HA, H⟩ := H
     have HA := zK (show draw.tree n cd sh (wrap64 (d - 1)) nodes o.2.1 o.2.2 = some (a.1, a.2.1, a.2.2.1, a.2.2.2) from HA)
     unfold draw.end_ at H
     by_cases hn3 : (a.2.1).length < 1000
     ·rw [if_pos hn3] at H
      replace H := Option.some.inj H
      injection H with z1 z2
      injection z2 with z2 z3
      injection z3 with z3 z4
      subst z1
      subst z2
      subst z3
      subst z4
      have HN3 := zK hn3
      clear hn3
      go_enter Try.func130, Try.ntmps130
      go_wp2_with (first | (go_at_call 81; have HZ := spec_l1Cur_one.calls g cd at_ sd 4 false c.2.1 c.2.2 w0 _ TI.out.2.1 TI.out.1 HONE.out; (with_reducible refine HZ.mono ?_); clear HZ; rintro e_ w2 ⟨rfl, hi, hb, hk⟩; have n0_ := zK (tI_state TI.out FX.out hi hb hk); have n1_ := zK (Kept.tr KP.out (keep_kept hk _ (.inl rfl))); clear hi hb hk TI KP; have TI := n0_; have KP := n1_; clear n0_ n1_; skip) | ((with_reducible refine gate_callee (f := 81) rfl ?_); refine goesL_ (some 28) rfl rfl Try.func81 yi rfl #[.pointer (some ⟨g, 0, none⟩), .int .i64 5] rfl yf1 ?_; have HZ := spec_l1Cur_one.calls g cd c.2.1 c.2.2 5 true u.2.1 u.2.2 w0 _ TI.out.2.1 TI.out.1 HU.out; change Calls Try.prog 81 #[.pointer (some ⟨g, 0, none⟩), .int .i64 5] _ _ at HZ; (with_reducible refine HZ.mono ?_); clear HZ; rintro e_ w3 ⟨rfl, hi, hb, hk⟩; refine ⟨_, rfl, ?_⟩; have n0_ := zK (tI_state TI.out FX.out hi hb hk); have n1_ := zK (Kept.tr KP.out (keep_kept hk _ (.inl rfl))); clear hi hb hk TI KP; have TI := n0_; have KP := n1_; clear n0_ n1_; skip) | ((with_reducible refine gate_dst (N := 30) rfl ?_); refine Kd.R_lit Kd.string _ 9 ?hg (N := 30) ?hd (xs := [(⟨#[110, 111, 116]⟩ : ByteArray), (⟨#[110, 101, 103]⟩ : ByteArray)]) (inner := [.string (⟨#[110, 111, 116]⟩ : ByteArray), .string (⟨#[110, 101, 103]⟩ : ByteArray)]) (ok := fun _ => True) (okp := fun _ => True) ?hr ?hp (fun _ hk => hk) trivial (Below.refl _ _) (Nat.le_refl _) ye1 ?_; (case hd | hg => rfl); (case hr => exact xxa); (case hp => exact (Reps.one (show Kd.M Kd.string _ _ _ (⟨#[110, 111, 116]⟩ : ByteArray) [.string (⟨#[110, 111, 116]⟩ : ByteArray)] from rfl) (Reps.one (show Kd.M Kd.string _ _ _ (⟨#[110, 101, 103]⟩ : ByteArray) [.string (⟨#[110, 101, 103]⟩ : ByteArray)] from rfl) (Reps.none _ _)))); intro v30 w4 ho hb hg_ hnew_; clear hg_ hnew_; rw [← HNO.out] at ho; obtain ⟨A30, c30, rfl⟩ := Kd.R_slice ho; have HL := zK ho; have n0_ := zK (tI_below TI.out hb); have n1_ := zK (Kept.tr KP.out (Kept.of_below hb _)); clear ho hb TI KP; have TI := n0_; have KP := n1_; clear n0_ n1_) | ((with_reducible refine gate_callee (f := 78) rfl ?_); refine goesL_ (some 31) rfl rfl Try.func78 yi rfl #[.pointer (some ⟨g, 0, none⟩), .slice A30 nots.length c30] rfl yf1 ?_; have HZ := spec_l1Cur_of.calls g cd u.2.1 u.2.2 A30 c30 nots o.1 o.2.1 o.2.2 w0 _ TI.out.2.1 TI.out.1 (Kd.R_reads' HL.out).2.2 (Kd.R_reads' HL.out).2.1 (far_slice (IsS59.own_ne TI.out.2.1 HL.out yp1)) HOF.out; change Calls Try.prog 78 #[.pointer (some ⟨g, 0, none⟩), .slice A30 nots.length c30] _ _ at HZ; (with_reducible refine HZ.mono ?_); clear HZ; rintro e_ w5 ⟨rfl, hi, hb, hk⟩; refine ⟨_, rfl, ?_⟩; have n0_ := zK (tI_state TI.out FX.out hi hb hk); have n1_ := zK (Kept.tr KP.out (keep_kept hk _ (.inl rfl))); clear hi hb hk TI KP; have TI := n0_; have KP := n1_; clear n0_ n1_; skip) | ((with_reducible refine gate_callee (f := 130) rfl ?_); refine goesL_ (some 36) rfl rfl Try.func130 yi rfl #[.pointer (some ⟨g, 0, none⟩), .pointer (some ⟨gb, 0, none⟩), .int .i64 (wrap64 (d - 1))] rfl yf1 ?_; have HZ := HIH.out g gb ok sh cd nodes o.2.1 o.2.2 (wrap64 (d - 1)) w0 _ a.1 a.2.1 a.2.2.1 a.2.2.2 TI.out FX.out (fun q hq => HFR.out q (Nat.le_trans KP.out.1 hq)) HA.out; change Calls Try.prog 130 #[.pointer (some ⟨g, 0, none⟩), .pointer (some ⟨gb, 0, none⟩), .int .i64 (wrap64 (d - 1))] _ _ at HZ; (with_reducible refine HZ.mono ?_); clear HZ; rintro e_ w6 ⟨rfl, ht, hk⟩; refine ⟨_, rfl, ?_⟩; have n0_ := zK ht; have n1_ := zK (Kept.tr KP.out hk); clear ht hk TI KP; have TI := n0_; have KP := n1_; clear n0_ n1_; skip) | ((with_reducible refine gate_dst (N := 7) rfl ?_); refine box_event ?hg (N := 7) ?hd (cs := #[.string (⟨#[]⟩ : ByteArray), .int .i64 0, .int .i64 0, .int .i64 0]) (t := 47) ?hr ?_; (case hd | hg => rfl); (case hr => exact xxa); intro gn hg w7 hbox hb; have GNW := zK (show W.heap.size ≤ gn from by rw [hg]; exact KP.out.1); have GN0 := zK (show w0.heap.size ≤ gn from by rw [hg]; exact TI.out.1.size); have G1 := zK (show g ≠ gn from by rw [hg]; exact Nat.ne_of_lt TI.out.2.1.lt); have G2 := zK (show gb ≠ gn from by rw [hg]; obtain ⟨_, _, hh, _⟩ := TI.out.2.2; exact Nat.ne_of_lt (blk_lt hh)); have BX := zK hbox; have n0_ := zK (tI_below (tI_mono TI.out (fun q hq hl => (⟨hq, by rw [hg]; exact Nat.ne_of_lt hl⟩ : ok q ∧ q ≠ gn))) hb); have n1_ := zK (Kept.tr KP.out (Kept.of_below hb _)); clear hg hbox hb TI KP; have TI := n0_; have KP := n1_; clear n0_ n1_; have hcn0w7 : w7.cell? ⟨gn, 0, none⟩ = some (.string (⟨#[]⟩ : ByteArray)) := (zI BX.out 0).trans rfl; have hfn0w7 := zH BX.out 0; have hcn1w7 : w7.cell? ⟨gn, 1, none⟩ = some (.int .i64 0) := (zI BX.out 1).trans rfl; have hfn1w7 := zH BX.out 1; have hcn2w7 : w7.cell? ⟨gn, 2, none⟩ = some (.int .i64 0) := (zI BX.out 2).trans rfl; have hfn2w7 := zH BX.out 2; have hcn3w7 : w7.cell? ⟨gn, 3, none⟩ = some (.int .i64 0) := (zI BX.out 3).trans rfl; have hfn3w7 := zH BX.out 3;  skip) | ((with_reducible refine gate_store (t := 47) (p := 7) rfl ?_); refine store_event (t := 47) (p := 7) (v := ?vo_w8) (w1 := (((w7.setCell ⟨gn, 0, none⟩ (.string o.1)).setCell ⟨gn, 1, none⟩ (.int .i64 (a.1))).setCell ⟨gn, 2, none⟩ (.int .i64 (0))).setCell ⟨gn, 3, none⟩ (.int .i64 0)) ?hg ?ho ?hn ?hr ?_; (case ho => rfl); (case hg => rfl); (case hn => rfl); (case hr => exact xxa); intro w8 hw; have n2_ := zK (show w8.heap[gn]? = some (.cells #[.string o.1, .int .i64 (a.1), .int .i64 (0), .int .i64 0] 47 (0, 0)) from by rw [hw]; exact blk_set4 BX.out _ _ _ _); have n0_ := zK (show tI g gb (fun q => ok q ∧ q ≠ gn) sh w0 cd _ _ _ w8 from by rw [hw]; exact tI_far (tI_far (tI_far (tI_far TI.out GN0.out G1.out G2.out) GN0.out G1.out G2.out) GN0.out G1.out G2.out) GN0.out G1.out G2.out); have n1_ := zK (show Kept W w8 (fun q => q = g ∨ q = gb ∨ ok q) from by rw [hw]; exact Kept.put_ (Kept.put_ (Kept.put_ (Kept.put_ KP.out GNW.out _) GNW.out _) GNW.out _) GNW.out _); clear hw TI KP BX; have TI := n0_; have KP := n1_; have BX := n2_; clear n0_ n1_ n2_; clear hcn0w7 hfn0w7 hcn1w7 hfn1w7 hcn2w7 hfn2w7 hcn3w7 hfn3w7; have hcn0w8 : w8.cell? ⟨gn, 0, none⟩ = some (.string o.1) := (zI BX.out 0).trans rfl; have hfn0w8 := zH BX.out 0; have hcn1w8 : w8.cell? ⟨gn, 1, none⟩ = some (.int .i64 (a.1)) := (zI BX.out 1).trans rfl; have hfn1w8 := zH BX.out 1; have hcn2w8 : w8.cell? ⟨gn, 2, none⟩ = some (.int .i64 (0)) := (zI BX.out 2).trans rfl; have hfn2w8 := zH BX.out 2; have hcn3w8 : w8.cell? ⟨gn, 3, none⟩ = some (.int .i64 0) := (zI BX.out 3).trans rfl; have hfn3w8 := zH BX.out 3;  skip) | ((with_reducible refine gate_callee (f := 129) rfl ?_); refine goesL_ (some 40) rfl rfl Try.func129 yi rfl #[.pointer (some ⟨gb, 0, none⟩), .agg #[.string o.1, .int .i64 a.1, .int .i64 0, .int .i64 0]] rfl yf1 ?_; have HZ := put_any sh (⟨o.1, a.1, 0, 0⟩ : S47) gb ok a.2.1 w0 _ TI.out.1 (bld_mono TI.out.2.2 (fun q hq => hq.1)) FX.out.1 FX.out.2.2.2 (fun q hq => HFR.out q (Nat.le_trans KP.out.1 hq)) HN3.out; change Calls Try.prog 129 #[.pointer (some ⟨gb, 0, none⟩), .agg #[.string o.1, .int .i64 a.1, .int .i64 0, .int .i64 0]] _ _ at HZ; (with_reducible refine HZ.mono ?_); clear HZ; rintro e_ wp ⟨rfl, hd, hb, hk⟩; refine ⟨_, rfl, ?_⟩; have n0_ := zK (tI_put (tI_mono TI.out (fun q hq _ => hq.1)) FX.out hd hb hk); have n1_ := zK (Kept.tr KP.out (Kept.wide hk (fun q hq => .inr hq))); clear hd hb hk TI KP; have TI := n0_; have KP := n1_; clear n0_ n1_; skip))
      go_ret
      exact ⟨rfl, TI.out, KP.out⟩
     ·rw [if_neg hn3] at H
      cases H
    ·rw [if_neg c3] at H
     have c3' : u.1 = false := by simpa using c3
     rw [c3'] at HU
     clear c3 c3'
     replace H := Option.bind_eq_some_iff.mp H
     obtain ⟨ops, HOPS, H⟩ := H
     have HOPS := zK (show spec_exOps.f = some ops from HOPS)
     replace H := Option.bind_eq_some_iff.mp H
     obtain ⟨o, HOF, H⟩ := H
     have HOF := zK (show spec_l1Cur_of.f cd u.2.1 u.2.2 ops = some (o.1, o.2.1, o.2.2) from HOF)
     replace H := Option.bind_eq_some_iff.mp H
     obtain ⟨a, HA, H⟩ := H
     have HA := zK (show draw.tree n cd sh (wrap64 (d - 1)) nodes o.2.1 o.2.2 = some (a.1, a.2.1, a.2.2.1, a.2.2.2) from HA)
     replace H := Option.bind_eq_some_iff.mp H
     obtain ⟨b, HBB, H⟩ := H
     have HBB := zK (show draw.tree n cd sh (wrap64 (d - 1)) a.2.1 a.2.2.1 a.2.2.2 = some (b.1, b.2.1, b.2.2.1, b.2.2.2) from HBB)
     unfold draw.end_ at H
     by_cases hn3 : (b.2.1).length < 1000
     ·rw [if_pos hn3] at H
      replace H := Option.some.inj H
      injection H with z1 z2
      injection z2 with z2 z3
      injection z3 with z3 z4
      subst z1
      subst z2
      subst z3
      subst z4
      have HN3 := zK hn3
      clear hn3
      go_enter Try.func130, Try.ntmps130
      go_wp2_with (first | (go_at_call 81; have HZ := spec_l1Cur_one.calls g cd at_ sd 4 false c.2.1 c.2.2 w0 _ TI.out.2.1 TI.out.1 HONE.out; (with_reducible refine HZ.mono ?_); clear HZ; rintro e_ w2 ⟨rfl, hi, hb, hk⟩; have n0_ := zK (tI_state TI.out FX.out hi hb hk); have n1_ := zK (Kept.tr KP.out (keep_kept hk _ (.inl rfl))); clear hi hb hk TI KP; have TI := n0_; have KP := n1_; clear n0_ n1_; skip) | ((with_reducible refine gate_callee (f := 81) rfl ?_); refine goesL_ (some 28) rfl rfl Try.func81 yi rfl #[.pointer (some ⟨g, 0, none⟩), .int .i64 5] rfl yf1 ?_; have HZ := spec_l1Cur_one.calls g cd c.2.1 c.2.2 5 false u.2.1 u.2.2 w0 _ TI.out.2.1 TI.out.1 HU.out; change Calls Try.prog 81 #[.pointer (some ⟨g, 0, none⟩), .int .i64 5] _ _ at HZ; (with_reducible refine HZ.mono ?_); clear HZ; rintro e_ w3 ⟨rfl, hi, hb, hk⟩; refine ⟨_, rfl, ?_⟩; have n0_ := zK (tI_state TI.out FX.out hi hb hk); have n1_ := zK (Kept.tr KP.out (keep_kept hk _ (.inl rfl))); clear hi hb hk TI KP; have TI := n0_; have KP := n1_; clear n0_ n1_; skip) | (go_at_call 79; have HZ := spec_exOps.calls ops w3 HOPS.out; (with_reducible refine HZ.mono ?_); clear HZ; rintro e_ w4 ⟨v30, rfl, ho, hb⟩; obtain ⟨A30, c30, rfl⟩ := Kd.R_slice ho; have HL := zK ho; have n0_ := zK (tI_below TI.out hb); have n1_ := zK (Kept.tr KP.out (Kept.of_below hb _)); clear ho hb TI KP; have TI := n0_; have KP := n1_; clear n0_ n1_; skip) | ((with_reducible refine gate_callee (f := 78) rfl ?_); refine goesL_ (some 43) rfl rfl Try.func78 yi rfl #[.pointer (some ⟨g, 0, none⟩), .slice A30 ops.length c30] rfl yf1 ?_; have HZ := spec_l1Cur_of.calls g cd u.2.1 u.2.2 A30 c30 ops o.1 o.2.1 o.2.2 w0 _ TI.out.2.1 TI.out.1 (Kd.R_reads' HL.out).2.2 (Kd.R_reads' HL.out).2.1 (far_slice (IsS59.own_ne TI.out.2.1 HL.out yp1)) HOF.out; change Calls Try.prog 78 #[.pointer (some ⟨g, 0, none⟩), .slice A30 ops.length c30] _ _ at HZ; (with_reducible refine HZ.mono ?_); clear HZ; rintro e_ w5 ⟨rfl, hi, hb, hk⟩; refine ⟨_, rfl, ?_⟩; have n0_ := zK (tI_state TI.out FX.out hi hb hk); have n1_ := zK (Kept.tr KP.out (keep_kept hk _ (.inl rfl))); clear hi hb hk TI KP; have TI := n0_; have KP := n1_; clear n0_ n1_; skip) | ((with_reducible refine gate_dst (N := 8) rfl ?_); refine box_event ?hg (N := 8) ?hd (cs := #[.string (⟨#[]⟩ : ByteArray), .int .i64 0, .int .i64 0, .int .i64 0]) (t := 47) ?hr ?_; (case hd | hg => rfl); (case hr => exact xxa); intro gn hg w6 hbox hb; have GNW := zK (show W.heap.size ≤ gn from by rw [hg]; exact KP.out.1); have GN0 := zK (show w0.heap.size ≤ gn from by rw [hg]; exact TI.out.1.size); have G1 := zK (show g ≠ gn from by rw [hg]; exact Nat.ne_of_lt TI.out.2.1.lt); have G2 := zK (show gb ≠ gn from by rw [hg]; obtain ⟨_, _, hh, _⟩ := TI.out.2.2; exact Nat.ne_of_lt (blk_lt hh)); have BX := zK hbox; have n0_ := zK (tI_below (tI_mono TI.out (fun q hq hl => (⟨hq, by rw [hg]; exact Nat.ne_of_lt hl⟩ : ok q ∧ q ≠ gn))) hb); have n1_ := zK (Kept.tr KP.out (Kept.of_below hb _)); clear hg hbox hb TI KP; have TI := n0_; have KP := n1_; clear n0_ n1_; have hcn0w6 : w6.cell? ⟨gn, 0, none⟩ = some (.string (⟨#[]⟩ : ByteArray)) := (zI BX.out 0).trans rfl; have hfn0w6 := zH BX.out 0; have hcn1w6 : w6.cell? ⟨gn, 1, none⟩ = some (.int .i64 0) := (zI BX.out 1).trans rfl; have hfn1w6 := zH BX.out 1; have hcn2w6 : w6.cell? ⟨gn, 2, none⟩ = some (.int .i64 0) := (zI BX.out 2).trans rfl; have hfn2w6 := zH BX.out 2; have hcn3w6 : w6.cell? ⟨gn, 3, none⟩ = some (.int .i64 0) := (zI BX.out 3).trans rfl; have hfn3w6 := zH BX.out 3;  have FXP := zK (show tF g gb (fun q => ok q ∧ q ≠ gn) w0.heap.size from ⟨FX.out.1, FX.out.2.1, fun h_ => FX.out.2.2.1 h_.1, fun h_ => FX.out.2.2.2 h_.1⟩); skip) | ((with_reducible refine gate_store (t := 47) (p := 8) rfl ?_); refine store_event (t := 47) (p := 8) (v := ?vo_w7) (w1 := (((w6.setCell ⟨gn, 0, none⟩ (.string o.1)).setCell ⟨gn, 1, none⟩ (.int .i64 (0))).setCell ⟨gn, 2, none⟩ (.int .i64 (0))).setCell ⟨gn, 3, none⟩ (.int .i64 0)) ?hg ?ho ?hn ?hr ?_; (case ho => rfl); (case hg => rfl); (case hn => rfl); (case hr => exact xxa); intro w7 hw; have n2_ := zK (show w7.heap[gn]? = some (.cells #[.string o.1, .int .i64 (0), .int .i64 (0), .int .i64 0] 47 (0, 0)) from by rw [hw]; exact blk_set4 BX.out _ _ _ _); have n0_ := zK (show tI g gb (fun q => ok q ∧ q ≠ gn) sh w0 cd _ _ _ w7 from by rw [hw]; exact tI_far (tI_far (tI_far (tI_far TI.out GN0.out G1.out G2.out) GN0.out G1.out G2.out) GN0.out G1.out G2.out) GN0.out G1.out G2.out); have n1_ := zK (show Kept W w7 (fun q => q = g ∨ q = gb ∨ ok q) from by rw [hw]; exact Kept.put_ (Kept.put_ (Kept.put_ (Kept.put_ KP.out GNW.out _) GNW.out _) GNW.out _) GNW.out _); clear hw TI KP BX; have TI := n0_; have KP := n1_; have BX := n2_; clear n0_ n1_ n2_; clear hcn0w6 hfn0w6 hcn1w6 hfn1w6 hcn2w6 hfn2w6 hcn3w6 hfn3w6; have hcn0w7 : w7.cell? ⟨gn, 0, none⟩ = some (.string o.1) := (zI BX.out 0).trans rfl; have hfn0w7 := zH BX.out 0; have hcn1w7 : w7.cell? ⟨gn, 1, none⟩ = some (.int .i64 (0)) := (zI BX.out 1).trans rfl; have hfn1w7 := zH BX.out 1; have hcn2w7 : w7.cell? ⟨gn, 2, none⟩ = some (.int .i64 (0)) := (zI BX.out 2).trans rfl; have hfn2w7 := zH BX.out 2; have hcn3w7 : w7.cell? ⟨gn, 3, none⟩ = some (.int .i64 0) := (zI BX.out 3).trans rfl; have hfn3w7 := zH BX.out 3;  skip) | ((with_reducible refine gate_callee (f := 130) rfl ?_); refine goesL_ (some 49) rfl rfl Try.func130 yi rfl #[.pointer (some ⟨g, 0, none⟩), .pointer (some ⟨gb, 0, none⟩), .int .i64 (wrap64 (d - 1))] rfl yf1 ?_; have HZ := HIH.out g gb (fun q => ok q ∧ q ≠ gn) sh cd nodes o.2.1 o.2.2 (wrap64 (d - 1)) w0 _ a.1 a.2.1 a.2.2.1 a.2.2.2 TI.out FXP.out (fun q hq => ⟨HFR.out q (Nat.le_trans KP.out.1 hq), Nat.ne_of_gt (Nat.lt_of_lt_of_le (blk_lt BX.out) hq)⟩) HA.out; change Calls Try.prog 130 #[.pointer (some ⟨g, 0, none⟩), .pointer (some ⟨gb, 0, none⟩), .int .i64 (wrap64 (d - 1))] _ _ at HZ; (with_reducible refine HZ.mono ?_); clear HZ; rintro e_ w8 ⟨rfl, ht, hk⟩; refine ⟨_, rfl, ?_⟩; have n2_ := zK ((hk.2 gn (blk_lt BX.out) (fun hs => hs.elim (fun e_ => G1.out e_.symm) (fun hs => hs.elim (fun e_ => G2.out e_.symm) (fun hs => hs.2 rfl)))).trans BX.out); have n0_ := zK ht; have n1_ := zK (Kept.tr KP.out (Kept.wide hk (fun q hq => hq.imp id (fun h_ => h_.imp id (fun h_ => h_.1))))); clear ht hk TI KP BX; have TI := n0_; have KP := n1_; have BX := n2_; clear n0_ n1_ n2_; clear hcn0w7 hfn0w7 hcn1w7 hfn1w7 hcn2w7 hfn2w7 hcn3w7 hfn3w7; have hcn0w8 : w8.cell? ⟨gn, 0, none⟩ = some (.string o.1) := (zI BX.out 0).trans rfl; have hfn0w8 := zH BX.out 0; have hcn1w8 : w8.cell? ⟨gn, 1, none⟩ = some (.int .i64 (0)) := (zI BX.out 1).trans rfl; have hfn1w8 := zH BX.out 1; have hcn2w8 : w8.cell? ⟨gn, 2, none⟩ = some (.int .i64 (0)) := (zI BX.out 2).trans rfl; have hfn2w8 := zH BX.out 2; have hcn3w8 : w8.cell? ⟨gn, 3, none⟩ = some (.int .i64 0) := (zI BX.out 3).trans rfl; have hfn3w8 := zH BX.out 3; skip) | ((with_reducible refine gate_store (t := 3) (p := 50) rfl ?_); refine store_event (t := 3) (p := 50) (v := ?vo_w9) (w1 := w8.setCell ⟨gn, 1, none⟩ (.int .i64 (a.1))) ?hg ?ho ?hn ?hr ?_; (case ho => rfl); (case hg => rfl); (case hn => rfl); (case hr => exact xxa); intro w9 hw; have n2_ := zK (show w9.heap[gn]? = some (.cells #[.string o.1, .int .i64 (a.1), .int .i64 (0), .int .i64 0] 47 (0, 0)) from by rw [hw]; exact blk_set BX.out 1 _); have n0_ := zK (show tI g gb (fun q => ok q ∧ q ≠ gn) sh w0 cd _ _ _ w9 from by rw [hw]; exact tI_far TI.out GN0.out G1.out G2.out); have n1_ := zK (show Kept W w9 (fun q => q = g ∨ q = gb ∨ ok q) from by rw [hw]; exact Kept.put_ KP.out GNW.out _); clear hw TI KP BX; have TI := n0_; have KP := n1_; have BX := n2_; clear n0_ n1_ n2_; clear hcn0w8 hfn0w8 hcn1w8 hfn1w8 hcn2w8 hfn2w8 hcn3w8 hfn3w8; have hcn0w9 : w9.cell? ⟨gn, 0, none⟩ = some (.string o.1) := (zI BX.out 0).trans rfl; have hfn0w9 := zH BX.out 0; have hcn1w9 : w9.cell? ⟨gn, 1, none⟩ = some (.int .i64 (a.1)) := (zI BX.out 1).trans rfl; have hfn1w9 := zH BX.out 1; have hcn2w9 : w9.cell? ⟨gn, 2, none⟩ = some (.int .i64 (0)) := (zI BX.out 2).trans rfl; have hfn2w9 := zH BX.out 2; have hcn3w9 : w9.cell? ⟨gn, 3, none⟩ = some (.int .i64 0) := (zI BX.out 3).trans rfl; have hfn3w9 := zH BX.out 3;  skip) | ((with_reducible refine gate_callee (f := 130) rfl ?_); refine goesL_ (some 55) rfl rfl Try.func130 yi rfl #[.pointer (some ⟨g, 0, none⟩), .pointer (some ⟨gb, 0, none⟩), .int .i64 (wrap64 (d - 1))] rfl yf1 ?_; have HZ := HIH.out g gb (fun q => ok q ∧ q ≠ gn) sh cd a.2.1 a.2.2.1 a.2.2.2 (wrap64 (d - 1)) w0 _ b.1 b.2.1 b.2.2.1 b.2.2.2 TI.out FXP.out (fun q hq => ⟨HFR.out q (Nat.le_trans KP.out.1 hq), Nat.ne_of_gt (Nat.lt_of_lt_of_le (blk_lt BX.out) hq)⟩) HBB.out; change Calls Try.prog 130 #[.pointer (some ⟨g, 0, none⟩), .pointer (some ⟨gb, 0, none⟩), .int .i64 (wrap64 (d - 1))] _ _ at HZ; (with_reducible refine HZ.mono ?_); clear HZ; rintro e_ w10 ⟨rfl, ht, hk⟩; refine ⟨_, rfl, ?_⟩; have n2_ := zK ((hk.2 gn (blk_lt BX.out) (fun hs => hs.elim (fun e_ => G1.out e_.symm) (fun hs => hs.elim (fun e_ => G2.out e_.symm) (fun hs => hs.2 rfl)))).trans BX.out); have n0_ := zK ht; have n1_ := zK (Kept.tr KP.out (Kept.wide hk (fun q hq => hq.imp id (fun h_ => h_.imp id (fun h_ => h_.1))))); clear ht hk TI KP BX; have TI := n0_; have KP := n1_; have BX := n2_; clear n0_ n1_ n2_; clear hcn0w9 hfn0w9 hcn1w9 hfn1w9 hcn2w9 hfn2w9 hcn3w9 hfn3w9; have hcn0w10 : w10.cell? ⟨gn, 0, none⟩ = some (.string o.1) := (zI BX.out 0).trans rfl; have hfn0w10 := zH BX.out 0; have hcn1w10 : w10.cell? ⟨gn, 1, none⟩ = some (.int .i64 (a.1)) := (zI BX.out 1).trans rfl; have hfn1w10 := zH BX.out 1; have hcn2w10 : w10.cell? ⟨gn, 2, none⟩ = some (.int .i64 (0)) := (zI BX.out 2).trans rfl; have hfn2w10 := zH BX.out 2; have hcn3w10 : w10.cell? ⟨gn, 3, none⟩ = some (.int .i64 0) := (zI BX.out 3).trans rfl; have hfn3w10 := zH BX.out 3; skip) | ((with_reducible refine gate_store (t := 3) (p := 56) rfl ?_); refine store_event (t := 3) (p := 56) (v := ?vo_w11) (w1 := w10.setCell ⟨gn, 2, none⟩ (.int .i64 (b.1))) ?hg ?ho ?hn ?hr ?_; (case ho => rfl); (case hg => rfl); (case hn => rfl); (case hr => exact xxa); intro w11 hw; have n2_ := zK (show w11.heap[gn]? = some (.cells #[.string o.1, .int .i64 (a.1), .int .i64 (b.1), .int .i64 0] 47 (0, 0)) from by rw [hw]; exact blk_set BX.out 2 _); have n0_ := zK (show tI g gb (fun q => ok q ∧ q ≠ gn) sh w0 cd _ _ _ w11 from by rw [hw]; exact tI_far TI.out GN0.out G1.out G2.out); have n1_ := zK (show Kept W w11 (fun q => q = g ∨ q = gb ∨ ok q) from by rw [hw]; exact Kept.put_ KP.out GNW.out _); clear hw TI KP BX; have TI := n0_; have KP := n1_; have BX := n2_; clear n0_ n1_ n2_; clear hcn0w10 hfn0w10 hcn1w10 hfn1w10 hcn2w10 hfn2w10 hcn3w10 hfn3w10; have hcn0w11 : w11.cell? ⟨gn, 0, none⟩ = some (.string o.1) := (zI BX.out 0).trans rfl; have hfn0w11 := zH BX.out 0; have hcn1w11 : w11.cell? ⟨gn, 1, none⟩ = some (.int .i64 (a.1)) := (zI BX.out 1).trans rfl; have hfn1w11 := zH BX.out 1; have hcn2w11 : w11.cell? ⟨gn, 2, none⟩ = some (.int .i64 (b.1)) := (zI BX.out 2).trans rfl; have hfn2w11 := zH BX.out 2; have hcn3w11 : w11.cell? ⟨gn, 3, none⟩ = some (.int .i64 0) := (zI BX.out 3).trans rfl; have hfn3w11 := zH BX.out 3;  skip) | ((with_reducible refine gate_callee (f := 129) rfl ?_); refine goesL_ (some 59) rfl rfl Try.func129 yi rfl #[.pointer (some ⟨gb, 0, none⟩), .agg #[.string o.1, .int .i64 a.1, .int .i64 b.1, .int .i64 0]] rfl yf1 ?_; have HZ := put_any sh (⟨o.1, a.1, b.1, 0⟩ : S47) gb ok b.2.1 w0 _ TI.out.1 (bld_mono TI.out.2.2 (fun q hq => hq.1)) FX.out.1 FX.out.2.2.2 (fun q hq => HFR.out q (Nat.le_trans KP.out.1 hq)) HN3.out; change Calls Try.prog 129 #[.pointer (some ⟨gb, 0, none⟩), .agg #[.string o.1, .int .i64 a.1, .int .i64 b.1, .int .i64 0]] _ _ at HZ; (with_reducible refine HZ.mono ?_); clear HZ; rintro e_ wp ⟨rfl, hd, hb, hk⟩; refine ⟨_, rfl, ?_⟩; have n0_ := zK (tI_put (tI_mono TI.out (fun q hq _ => hq.1)) FX.out hd hb hk); have n1_ := zK (Kept.tr KP.out (Kept.wide hk (fun q hq => .inr hq))); clear hd hb hk TI KP; have TI := n0_; have KP := n1_; clear n0_ n1_; skip))
      go_ret
      exact ⟨rfl, TI.out, KP.out⟩
     ·rw [if_neg hn3] at H
      cases H
theorem tree_calls (n : Nat) : ∀ (g gb : Nat) (ok : Nat → Prop) (sh : Bool) (cd : List Int) (nodes : List S47) (at_ sd d : Int) (w0 W : World) (r1 : Int) (r2 : List S47) (r3 r4 : Int) (hti : tI g gb ok sh w0 cd nodes at_ sd W) (hfx : tF g gb ok w0.heap.size) (hfr : ∀ q, W.heap.size ≤ q → ok q) (h : draw.tree n cd sh d nodes at_ sd = some (r1, r2, r3, r4)),
   Calls Try.prog 130 #[.pointer (some ⟨g, 0, none⟩), .pointer (some ⟨gb, 0, none⟩), .int .i64 d] W fun e_ w' => e_ = .returned (.int .i64 r1) ∧ tI g gb ok sh w0 cd r2 r3 r4 w' ∧ Kept W w' (fun q => q = g ∨ q = gb ∨ ok q) := by
 induction n with
 | zero =>
  intro g gb ok sh cd nodes at_ sd d w0 W r1 r2 r3 r4 hti hfx hfr h
  cases h
 | succ n ih => exact tree_step n ih
theorem own_raise {w : World} {base base' : Nat} {e : TypeId} {size n : Nat} {v : Value} {xs : List Value} (h : w.ownsRow base e size v n xs) (hb : ∀ k, v.ownBlock = some k → base' ≤ k) : w.ownsRow base' e size v n xs := by
 obtain ⟨h1, h2⟩ := h
 refine ⟨h1, ?_⟩
 rcases h2 with h2 | ⟨g, cap, cur, rfl, hg, r⟩
 ·exact .inl h2
 ·exact .inr ⟨g, cap, cur, rfl, hb g rfl, r⟩
theorem R_raise {w : World} {base base' : Nat} {ok : Nat → Prop} {v : Value} {xs : List S47} (h : Kd.R k47 47 w base ok v xs) (hb : ∀ k, ok k → base' ≤ k) : Kd.R k47 47 w base' (fun _ => True) v xs := by
 obtain ⟨h0, inner, ho, hr⟩ := h
 exact ⟨fun _ _ => trivial, inner, own_raise ho (fun k hk => hb k (h0 k hk)), hr.imp_ (fun x c hp => by
  have e := k47_openM hp
  rw [e]
  exact k47_mkM _ _ _ x)⟩
def spec_l1Cur_expr.f (s0_0 : List Int) (s0_1 s0_2 a1 : Int) : Option (List S47 × Int × Int) :=
 (spec_l1Cur_one.f s0_0 s0_1 s0_2 2).bind fun c => (draw.tree (a1.toNat + 1) s0_0 c.1 a1 [] c.2.1 c.2.2).bind fun t => (spec_exGood.f 100000 t.2.1).bind fun g => if g = true then some (t.2.1, t.2.2.1, t.2.2.2) else some ([(⟨(⟨#[105, 110]⟩ : ByteArray), 0, 0, 0⟩ : S47)], t.2.2.1, t.2.2.2)
set_option maxHeartbeats 16000000 in
set_option maxRecDepth 100000 in
theorem spec_l1Cur_expr.calls (g : Nat) (s0_0 : List Int) (s0_1 : Int) (s0_2 : Int) (a1 : Int) (r1 : List (S47)) (r2 : Int) (r3 : Int) (w0 w : World) (hI : IsS59 w0 w g s0_0 s0_1 s0_2) (hB : Below w0.heap.size w0 w) (h : spec_l1Cur_expr.f s0_0 s0_1 s0_2 a1 = some (r1, r2, r3)) :
  Calls Try.prog 108 #[.pointer (some ⟨g, 0, none⟩), .int .i64 a1] w fun e w' => ∃ v0_ : Value, e = .returned (v0_) ∧ Kd.R k47 47 w' w.heap.size (fun _ => True) v0_ r1 ∧ IsS59 w0 w' g s0_0 r2 r3 ∧ Below w0.heap.size w0 w' ∧ KeepBut w w' g none := by
 have hu47 := Try.underlying47
 have HI := zK hI
 have HB := zK hB
 clear hI hB
 have H := h
 clear h
 unfold spec_l1Cur_expr.f at H
 replace H := Option.bind_eq_some_iff.mp H
 obtain ⟨c, HC, H⟩ := H
 have HC := zK (show spec_l1Cur_one.f s0_0 s0_1 s0_2 2 = some (c.1, c.2.1, c.2.2) from HC)
 replace H := Option.bind_eq_some_iff.mp H
 obtain ⟨t, HT, H⟩ := H
 have HT := zK (show draw.tree (a1.toNat + 1) s0_0 c.1 a1 [] c.2.1 c.2.2 = some (t.1, t.2.1, t.2.2.1, t.2.2.2) from HT)
 replace H := Option.bind_eq_some_iff.mp H
 obtain ⟨ok, HG, H⟩ := H
 have HG := zK HG
 by_cases hok : ok = true
 ·subst hok
  rw [if_pos rfl] at H
  replace H := Option.some.inj H
  injection H with z1 z2
  injection z2 with z2 z3
  subst z1
  subst z2
  subst z3
  go_enter Try.func108, Try.ntmps108
  go_wp2_with (first | ((with_reducible refine gate_callee (f := 81) rfl ?_); refine goesL_ (some 7) rfl rfl Try.func81 yi rfl #[.pointer (some ⟨g, 0, none⟩), .int .i64 2] rfl yf1 ?_; have HZ := spec_l1Cur_one.calls g s0_0 s0_1 s0_2 2 c.1 c.2.1 c.2.2 w0 _ HI.out HB.out HC.out; change Calls Try.prog 81 #[.pointer (some ⟨g, 0, none⟩), .int .i64 2] _ _ at HZ; (with_reducible refine HZ.mono ?_); clear HZ; rintro e_ w2 ⟨rfl, hi, hb, hk⟩; refine ⟨_, rfl, ?_⟩; have HI2 := zK hi; have HB2 := zK hb; have HK2 := zK hk; clear hi hb hk; skip) | ((with_reducible refine gate_dst (N := 9) rfl ?_); refine box_event ?hg (N := 9) ?hd (cs := #[.slice none 0 0, .bool c.1]) (t := 92) ?hr ?_; (case hd | hg => rfl); (case hr => exact xxa); intro gb hg w3 hbox hb; have GB := zK (show w.heap.size ≤ gb from by rw [hg]; exact HK2.out.1); have LGB := zK (blk_lt hbox); have TI := zK (show tI g gb (fun q => w.heap.size ≤ q ∧ q ≠ gb) c.1 w0 s0_0 [] c.2.1 c.2.2 w3 from ⟨zL HB2.out hb, HI2.out.below hb, ⟨none, 0, hbox, Kd.R_nil _ _ _ _ _⟩⟩); have FX := zK (show tF g gb (fun q => w.heap.size ≤ q ∧ q ≠ gb) w0.heap.size from ⟨by have := HB.out.size; have := GB.out; omega, by have := HI.out.lt; have := GB.out; omega, fun h_ => by have := HI.out.lt; omega, fun h_ => h_.2 rfl⟩); have HBB := zK hb; clear hg hbox hb) | ((with_reducible refine gate_callee (f := 130) rfl ?_); refine goesL_ (some 13) rfl rfl Try.func130 yi rfl #[.pointer (some ⟨g, 0, none⟩), .pointer (some ⟨gb, 0, none⟩), .int .i64 a1] rfl yf1 ?_; have HZ := tree_calls (a1.toNat + 1) g gb (fun q => w.heap.size ≤ q ∧ q ≠ gb) c.1 s0_0 [] c.2.1 c.2.2 a1 w0 _ t.1 t.2.1 t.2.2.1 t.2.2.2 TI.out FX.out (fun q hq => ⟨by have := HBB.out.size; have := HK2.out.1; omega, by have := LGB.out; omega⟩) HT.out; change Calls Try.prog 130 #[.pointer (some ⟨g, 0, none⟩), .pointer (some ⟨gb, 0, none⟩), .int .i64 a1] _ _ at HZ; (with_reducible refine HZ.mono ?_); clear HZ; rintro e_ w4 ⟨rfl, ht, hk⟩; refine ⟨_, rfl, ?_⟩; have TI4 := zK ht; have HK4 := zK (show KeepBut w w4 g none from ⟨by have := hk.1; have := HBB.out.size; have := HK2.out.1; omega, fun i hi hne _ => (hk.2 i (by have := HBB.out.size; have := HK2.out.1; omega) (fun hs => hs.elim hne (fun hs => hs.elim (fun e_ => by have := GB.out; omega) (fun hs => by have := hs.1; omega)))).trans ((HBB.out.block i (by have := HK2.out.1; omega)).trans (HK2.out.2 i hi hne ye1))⟩); obtain ⟨Ab, cb, hbox, hrow⟩ := ht.2.2; have HBX := zK hbox; have HRW := zK hrow; have hc4 : w4.cell? ⟨gb, 0, none⟩ = some (.slice Ab t.2.1.length cb) := (zI hbox 0).trans rfl; clear ht hk hbox hrow; skip) | ((with_reducible refine gate_callee (f := 60) rfl ?_); refine goesL_ (some 18) rfl rfl Try.func60 yi rfl #[.slice Ab t.2.1.length cb] rfl yf1 ?_; have HZ := spec_exGood.calls 100000 Ab cb t.2.1 true _ (Kd.R_reads' HRW.out).2.2 (Kd.R_reads' HRW.out).2.1 HG.out; change Calls Try.prog 60 #[.slice Ab t.2.1.length cb] _ _ at HZ; (with_reducible refine HZ.mono ?_); clear HZ; rintro e_ w5 ⟨rfl, hb⟩; refine ⟨_, rfl, ?_⟩; have HB5 := zK hb; have hc5 : w5.cell? ⟨gb, 0, none⟩ = some (.slice Ab t.2.1.length cb) := (zI (zM HBX.out hb) 0).trans rfl; clear hb; skip))
  go_ret
  exact ⟨_, rfl, R_raise (Kd.R_below HRW.out HB5.out) (fun k hk => hk.1), TI4.out.2.1.below HB5.out, zL TI4.out.1 HB5.out, ⟨by have := HB5.out.size; have := HK4.out.1; omega, fun i hi hne hr => (HB5.out.block i (by have := HK4.out.1; omega)).trans (HK4.out.2 i hi hne hr)⟩⟩
 ·rw [if_neg hok] at H
  have hok' : ok = false := by simpa using hok
  subst hok'
  replace H := Option.some.inj H
  injection H with z1 z2
  injection z2 with z2 z3
  subst z1
  subst z2
  subst z3
  go_enter Try.func108, Try.ntmps108
  go_wp2_with (first | ((with_reducible refine gate_callee (f := 81) rfl ?_); refine goesL_ (some 7) rfl rfl Try.func81 yi rfl #[.pointer (some ⟨g, 0, none⟩), .int .i64 2] rfl yf1 ?_; have HZ := spec_l1Cur_one.calls g s0_0 s0_1 s0_2 2 c.1 c.2.1 c.2.2 w0 _ HI.out HB.out HC.out; change Calls Try.prog 81 #[.pointer (some ⟨g, 0, none⟩), .int .i64 2] _ _ at HZ; (with_reducible refine HZ.mono ?_); clear HZ; rintro e_ w2 ⟨rfl, hi, hb, hk⟩; refine ⟨_, rfl, ?_⟩; have HI2 := zK hi; have HB2 := zK hb; have HK2 := zK hk; clear hi hb hk; skip) | ((with_reducible refine gate_dst (N := 9) rfl ?_); refine box_event ?hg (N := 9) ?hd (cs := #[.slice none 0 0, .bool c.1]) (t := 92) ?hr ?_; (case hd | hg => rfl); (case hr => exact xxa); intro gb hg w3 hbox hb; have GB := zK (show w.heap.size ≤ gb from by rw [hg]; exact HK2.out.1); have LGB := zK (blk_lt hbox); have TI := zK (show tI g gb (fun q => w.heap.size ≤ q ∧ q ≠ gb) c.1 w0 s0_0 [] c.2.1 c.2.2 w3 from ⟨zL HB2.out hb, HI2.out.below hb, ⟨none, 0, hbox, Kd.R_nil _ _ _ _ _⟩⟩); have FX := zK (show tF g gb (fun q => w.heap.size ≤ q ∧ q ≠ gb) w0.heap.size from ⟨by have := HB.out.size; have := GB.out; omega, by have := HI.out.lt; have := GB.out; omega, fun h_ => by have := HI.out.lt; omega, fun h_ => h_.2 rfl⟩); have HBB := zK hb; clear hg hbox hb) | ((with_reducible refine gate_callee (f := 130) rfl ?_); refine goesL_ (some 13) rfl rfl Try.func130 yi rfl #[.pointer (some ⟨g, 0, none⟩), .pointer (some ⟨gb, 0, none⟩), .int .i64 a1] rfl yf1 ?_; have HZ := tree_calls (a1.toNat + 1) g gb (fun q => w.heap.size ≤ q ∧ q ≠ gb) c.1 s0_0 [] c.2.1 c.2.2 a1 w0 _ t.1 t.2.1 t.2.2.1 t.2.2.2 TI.out FX.out (fun q hq => ⟨by have := HBB.out.size; have := HK2.out.1; omega, by have := LGB.out; omega⟩) HT.out; change Calls Try.prog 130 #[.pointer (some ⟨g, 0, none⟩), .pointer (some ⟨gb, 0, none⟩), .int .i64 a1] _ _ at HZ; (with_reducible refine HZ.mono ?_); clear HZ; rintro e_ w4 ⟨rfl, ht, hk⟩; refine ⟨_, rfl, ?_⟩; have TI4 := zK ht; have HK4 := zK (show KeepBut w w4 g none from ⟨by have := hk.1; have := HBB.out.size; have := HK2.out.1; omega, fun i hi hne _ => (hk.2 i (by have := HBB.out.size; have := HK2.out.1; omega) (fun hs => hs.elim hne (fun hs => hs.elim (fun e_ => by have := GB.out; omega) (fun hs => by have := hs.1; omega)))).trans ((HBB.out.block i (by have := HK2.out.1; omega)).trans (HK2.out.2 i hi hne ye1))⟩); obtain ⟨Ab, cb, hbox, hrow⟩ := ht.2.2; have HBX := zK hbox; have HRW := zK hrow; have hc4 : w4.cell? ⟨gb, 0, none⟩ = some (.slice Ab t.2.1.length cb) := (zI hbox 0).trans rfl; clear ht hk hbox hrow; skip) | ((with_reducible refine gate_callee (f := 60) rfl ?_); refine goesL_ (some 18) rfl rfl Try.func60 yi rfl #[.slice Ab t.2.1.length cb] rfl yf1 ?_; have HZ := spec_exGood.calls 100000 Ab cb t.2.1 false _ (Kd.R_reads' HRW.out).2.2 (Kd.R_reads' HRW.out).2.1 HG.out; change Calls Try.prog 60 #[.slice Ab t.2.1.length cb] _ _ at HZ; (with_reducible refine HZ.mono ?_); clear HZ; rintro e_ w5 ⟨rfl, hb⟩; refine ⟨_, rfl, ?_⟩; have HB5 := zK hb; have hc5 : w5.cell? ⟨gb, 0, none⟩ = some (.slice Ab t.2.1.length cb) := (zI (zM HBX.out hb) 0).trans rfl; clear hb; skip) | ((with_reducible refine gate_dst (N := 21) rfl ?_); refine Kd.R_lit k47 _ 47 ?hg (N := 21) ?hd (xs := [(⟨(⟨#[105, 110]⟩ : ByteArray), 0, 0, 0⟩ : S47)]) (inner := [.string (⟨#[105, 110]⟩ : ByteArray), .int .i64 0, .int .i64 0, .int .i64 0]) (ok := fun _ => True) (okp := fun _ => True) ?hr ?hp (fun _ hk => hk) trivial (Below.refl _ _) (Nat.le_refl _) ye1 ?_; (case hd | hg => rfl); (case hr => exact xxa); (case hp => exact xxb); intro v21 w6 ho hb hg_ hnew_; clear hg_ hnew_; have HO := zK ho; have HB6 := zK hb; clear ho hb))
  go_ret
  exact ⟨_, rfl, Kd.R_lower HO.out (by have := HB5.out.size; have := HK4.out.1; omega), (TI4.out.2.1.below HB5.out).below HB6.out, zL (zL TI4.out.1 HB5.out) HB6.out, ⟨by have := HB6.out.size; have := HB5.out.size; have := HK4.out.1; omega, fun i hi hne hr => (HB6.out.block i (by have := HB5.out.size; have := HK4.out.1; omega)).trans ((HB5.out.block i (by have := HK4.out.1; omega)).trans (HK4.out.2 i hi hne hr))⟩⟩
end Go.Proofs.Ytlcplhcccgbmnaa.D
