/- Contracts: impl_DropDead, laws_FnExactDropDead. -/
import Derived.Test.YtecmlikhmkcdpaaGBw
import Derived.Test.YtecmlikhmkcdpaaGK
import Derived.Test.YtecmlikhmkcdpaaGLawsSzInstr
import Derived.Test.YtecmlikhmkcdpaaGImplIsCodeC1
import Derived.Test.YtecmlikhmkcdpaaGImplInstrReads
import Derived.Test.YtecmlikhmkcdpaaGLawsMarkText
import Derived.Test.YtecmlikhmkcdpaaGLawsHeldInstrS
namespace Go.Proofs.Ytecmlikhmkcdpaa.G
open Go.RowKit Go.Proofs.YtecmlikhmkcdpaaW.PrintWords Go.Proofs.YtecmlikhmkcdpaaW.PrintLast Go.Proofs.YtecmlikhmkcdpaaW.PrintMore
attribute [local go_sem] max2_int min2_int max_two min_two max_three min_three max_four min_four   -- for this text's walks alone
set_option linter.unusedVariables false
set_option linter.unusedSimpArgs false

/-! ### impl_DropDead: function 56 -/
theorem lF.rows {n : Nat} {P : Program} {row : String} {args : Array Value} {w : World} {R : Value → World → Prop} (h : Rows P row args w R) : RowsIn Fence.wide n P row args w R :=
 fun c cs _ => let ⟨v, w', r, s⟩ := h c cs; ⟨v, w', r, stepsIn_wide.2 s⟩
theorem lF.wide_op {n : Nat} {P : Program} {o : Oper} {a : Act} {w : World} {K : Act → World → Prop} {Q : Exit → Act → World → Prop} (h : Oper.wp P o a w K Q) : o.wpIn Fence.wide n P a w K Q := by
 unfold Oper.wp at h
 unfold Oper.wpIn
 refine ⟨fun _ _ => trivial, ?_⟩
 rw [show Fence.wide.round = none from rfl, Oper.semAt_none]
 generalize (execOp a.eval o).run P w = r at h ⊢
 cases r with
 | ok v w' =>
  cases v
  case enter f args => exact (show (Fence.wide.depth.isSome = true → 1 ≤ n) ∧ CallsIn Fence.wide (n - 1) P f args w' _ from ⟨(fun hx => by cases hx), callsIn_wide.2 h⟩)
  case row r args => exact (show (Fence.wide.depth.isSome = true → 1 ≤ n) ∧ RowsIn Fence.wide (n - 1) P r args w' _ from ⟨(fun hx => by cases hx), lF.rows h⟩)
  all_goals first | exact h | exact h.elim
 | halt hh w' => cases hh <;> first | exact h | exact h.elim
theorem lF.wide_any {n : Nat} {P : Program} {md : Region.Mode} {ops : Array Oper} {Q : Exit → Act → World → Prop} (hno : ¬ LetsOut Q) : ∀ (fuel : Nat) (listed : Array Bool) (a : Act) (w : World), wpAny P md ops Q fuel listed a w → wpAnyIn Fence.wide n P md ops Q fuel listed a w
 | 0, _, _, _, h => h
 | fuel + 1, listed, a, w, h => by
  refine ⟨h.1, fun i hi => ?_⟩
  have h2 := wpOp_mono (fun a' w' h' => lF.wide_any (n := n) hno fuel (listed.setIfInBounds i true) a' w' h') (h.2 i hi)
  unfold wpOp at h2
  unfold wpOpIn
  split
  ·rename_i ho
   simp only [ho] at h2
   exact h2
  ·rename_i o ho
   simp only [ho] at h2
   split
   ·rename_i hw
    simp only [hw, if_true] at h2
    rcases h2 with h2 | h2
    ·exact lF.wide_op h2
    ·exact absurd h2.2 hno
   ·rename_i hw
    simp only [hw] at h2
    exact ⟨fun _ _ => trivial, h2⟩
/-- A region of a round, out of its walk outside of one. -/
theorem lF.region {n : Nat} {P : Program} {ops : Array Oper} {Q : Exit → Act → World → Prop} {l id : Nat} {a : Act} {w : World} (hm : P.follows .mixedOrders = true) (hno : ¬ LetsOut Q) (hd : ∀ (i : Nat) (o : Oper), ops[i]? = some o → ∀ c, o.op ≠ .defer c)
  (h : wpAny P .any ops Q ops.size (Array.replicate ops.size false) a w.drew) : (Code.region id ops true).wpIn (Fence.wide.inRound l) n P Q a w :=
 wpIn_region_any hm (lifting.hand_any rfl hd _ _ _ _ (lF.wide_any hno _ _ _ _ h))

abbrev dD.o0 : Oper := { dst := some 29, op := Op.load 24 (Operand.tmp 6), type := 24, pos := "l2_code.go:262", after := #[], guard := none }
abbrev dD.o1 : Oper := { dst := some 30, op := Op.load 67 (Operand.tmp 9), type := 67, pos := "l2_code.go:262", after := #[], guard := none }
abbrev dD.o2 : Oper := { dst := some 31, op := Op.buildSlice 24 1 #[(0, Operand.tmp 30)], type := 24, pos := "l2_code.go:262", after := #[{ on := 1, ground := Ground.data }], guard := none }
abbrev dD.o3 : Oper := { dst := some 32, op := Op.call { callee := Callee.builtin Builtin.append, args := #[Operand.tmp 29, Operand.tmp 31], argTypes := #[24, 24] }, type := 24, pos := "l2_code.go:262", after := #[{ on := 0, ground := Ground.data }, { on := 2, ground := Ground.data }], guard := none }
abbrev dD.o4 : Oper := { dst := some 33, op := Op.load 67 (Operand.tmp 9), type := 67, pos := "l2_code.go:262", after := #[], guard := none }
abbrev dD.o5 : Oper := { dst := some 34, op := Op.load 40 (Operand.tmp 7), type := 40, pos := "l2_code.go:262", after := #[], guard := none }
abbrev dD.o6 : Oper := { dst := some 35, op := Op.call { callee := Callee.value (Operand.func 105), args := #[Operand.tmp 33, Operand.tmp 34], argTypes := #[67, 40] }, type := 40, pos := "l2_code.go:262", after := #[{ on := 4, ground := Ground.data }, { on := 5, ground := Ground.data }, { on := 3, ground := Ground.chain }], guard := none }
abbrev dD.o7 : Oper := { dst := none, op := Op.store 24 (Operand.tmp 6) (Operand.tmp 32), type := 0, pos := "l2_code.go:262", after := #[{ on := 3, ground := Ground.data }, { on := 6, ground := Ground.chain }, { on := 0, ground := Ground.phase }, { on := 1, ground := Ground.phase }, { on := 2, ground := Ground.phase }, { on := 3, ground := Ground.phase }, { on := 4, ground := Ground.textOnly Departure.lateStores }, { on := 5, ground := Ground.textOnly Departure.inlinedCapture }, { on := 6, ground := Ground.textOnly Departure.lateStoresUnsure }], guard := none }
abbrev dD.o8 : Oper := { dst := none, op := Op.store 40 (Operand.tmp 7) (Operand.tmp 35), type := 0, pos := "l2_code.go:262", after := #[{ on := 6, ground := Ground.data }, { on := 7, ground := Ground.chain }, { on := 0, ground := Ground.phase }, { on := 1, ground := Ground.phase }, { on := 2, ground := Ground.phase }, { on := 3, ground := Ground.phase }, { on := 4, ground := Ground.phase }, { on := 5, ground := Ground.phase }, { on := 6, ground := Ground.phase }, { on := 7, ground := Ground.phase }], guard := none }

def dD.pick (f : Func) : Option (Code × Code) := match f.body with
 | some (.seq _ (.seq _ (.seq _ (.seq (.seq _ (.block _ (.rangeFunc _ _ a b))) _)))) => some (a, b)
 | _ => none
def dD.pickOps (f : Func) : Option (Array Oper) := match f.body with
 | some (.seq _ (.seq _ (.seq _ (.seq (.seq _ (.block _ (.rangeFunc _ _ _ (.block _ (.seq _ (.cond _ (.region _ ops _) _)))))) _)))) => some ops
 | _ => none
abbrev dD.g (l0 : List S67) (x : Nat) : Value := .agg #[.string (rd_T67 l0 (x : Int)).f0, .int .i64 (rd_T67 l0 (x : Int)).f1, .int .i64 (rd_T67 l0 (x : Int)).f2, .int .i64 (rd_T67 l0 (x : Int)).f3, .int .i64 (rd_T67 l0 (x : Int)).f4]
abbrev dD.ops : Array Oper := #[dD.o0, dD.o1, dD.o2, dD.o3, dD.o4, dD.o5, dD.o6, dD.o7, dD.o8]
/-- The frame of a round at its second region; what the round does not look at is u. -/
abbrev dD.act7 (u : Nat → Value) (gl ga Bx : Nat) (t29 t30 t31 t32 t33 t34 : Value) : Act := { tmps := #[u 0, u 1, u 2, u 3, u 4, u 5, .pointer (some ⟨gl, 0, none⟩), .pointer (some ⟨ga, 0, none⟩), u 8, .pointer (some ⟨Bx, 0, none⟩), u 10, u 11, u 12, u 13, u 14, u 15, u 16, u 17, u 18, u 19, u 20, u 21, u 22, u 23, u 24, u 25, u 26, u 27, u 28, t29, t30, t31, t32, t33, t34, undef, undef, undef, undef], defers := [] }
def dD.cells (l0 : List S67) (gl ga Bx x : Nat) (vL vA : Value) (W : World) : Prop := W.cell? ⟨gl, 0, none⟩ = some vL ∧ W.cell? ⟨ga, 0, none⟩ = some vA ∧ W.cell? ⟨Bx, 0, none⟩ = some (.string (rd_T67 l0 (x : Int)).f0) ∧ W.cell? ⟨Bx, 1, none⟩ = some (.int .i64 (rd_T67 l0 (x : Int)).f1) ∧ W.cell? ⟨Bx, 2, none⟩ = some (.int .i64 (rd_T67 l0 (x : Int)).f2) ∧ W.cell? ⟨Bx, 3, none⟩ = some (.int .i64 (rd_T67 l0 (x : Int)).f3) ∧ W.cell? ⟨Bx, 4, none⟩ = some (.int .i64 (rd_T67 l0 (x : Int)).f4)
def dD.grown (W : World) (v3 vL : Value) (w3 : World) : Prop := W.grownBy w3 vL.ownBlock ∧ (v3.ownBlock = vL.ownBlock ∨ ∃ b, v3.ownBlock = some b ∧ W.heap.size ≤ b) ∧ W.heap.size ≤ w3.heap.size
theorem dD.app {ops : Array Oper} {o : Oper} {a : Act} {Kc : Act → World → Prop} {Q : Exit → Act → World → Prop} (hw : Region.wanted o (yielded ops a.tmps) = true)
  (ho : o.op = .call { callee := .builtin .append, args := #[.tmp 29, .tmp 31], argTypes := #[24, 24] }) (y : S67) (vL : Value) (L : List S67) (base B2 : Nat) (ok : Nat → Prop) (W w2 : World) (hs : a.eval (.tmp 29) = vL) (hx : a.eval (.tmp 31) = .slice (some ⟨B2, 0, none⟩) 1 1)
  (hw2 : w2 = W.alloc (.cells #[.string y.f0, .int .i64 y.f1, .int .i64 y.f2, .int .i64 y.f3, .int .i64 y.f4] 67)) (hB2 : B2 = W.heap.size) (HL : Kd.R k67 67 W base ok vL L) (hbase : base ≤ W.heap.size) (hfresh : ∀ k, W.heap.size ≤ k → ok k) (hLn : L.length ≤ 1000)
  (h : ∀ v3 w3, Kd.R k67 67 w3 base ok v3 (L ++ [y]) → dD.grown W v3 vL w3 → Kc (a.put o.dst v3) w3) :
  if Region.wanted o (yielded ops a.tmps) = true then Oper.wp Try.prog o a w2 Kc Q else Kc (a.put o.dst undef) w2 := by
 have hg0 : W.grownBy w2 vL.ownBlock := by rw [hw2]; exact World.grownBy_alloc _ _ _
 have hsz : w2.heap.size = W.heap.size + 1 := by rw [hw2]; simp
 have hblk : w2.heap[W.heap.size]? = some (.cells #[.string y.f0, .int .i64 y.f1, .int .i64 y.f2, .int .i64 y.f3, .int .i64 y.f4] 67 (0, 0)) := by rw [hw2]; exact blk_new _ _
 refine Kd.R_append_rows_step k67 (Rr := fun (z : S67) cs => cs = [.string z.f0, .int .i64 z.f1, .int .i64 z.f2, .int .i64 z.f3, .int .i64 z.f4]) (w0 := w2) base hw (.tmp 29) (.tmp 31) 24 67 (.agg #[(.string ⟨#[]⟩), (.int .i64 0), (.int .i64 0), (.int .i64 0), (.int .i64 0)]) 48 ho Try.underlying24 info67 rfl (by decide) (by omega) vL L [y] (some ⟨B2, 0, none⟩) 1 1 ok (fun _ => False) hs hx (by rw [hw2]; exact Kd.R_alloc HL _) ?_ ?_ (fun _ h => h.elim) (fun k hk => hfresh k (by omega)) (Below.refl _ _) (by omega) (by omega) ?_
 ·refine ⟨rfl, by omega, fun _ => ⟨_, rfl, fun j p hj => ?_⟩⟩
  cases j with
  | zero =>
   obtain rfl := Option.some.inj hj
   refine ⟨_, rfl, rfl, fun i u hu => ?_⟩
   subst hB2
   match i with
   | 0 => exact (zI hblk 0).trans hu
   | 1 => exact (zI hblk 1).trans hu
   | 2 => exact (zI hblk 2).trans hu
   | 3 => exact (zI hblk 3).trans hu
   | 4 => exact (zI hblk 4).trans hu
   | i + 5 => cases hu
  | succ j => cases hj
 ·rintro z cs rfl
  exact k67_mkM _ _ _ z
 ·intro v1 w1 hR hB hg hat
  refine h v1 w1 hR ⟨hg0.trans hg, ?_, ?_⟩
  ·rcases hat with hat | ⟨b, hb, hle⟩
   ·exact .inl hat
   ·exact .inr ⟨b, hb, by omega⟩
  ·have := hg.size
   omega
theorem dD.cells_grown {l0 : List S67} {gl ga Bx x : Nat} {vL vA : Value} {W w3 : World} {row : Option Nat} (h : dD.cells l0 gl ga Bx x vL vA W) (hg : W.drew.grownBy w3 row) (hgl : some gl ≠ row) (hga : some ga ≠ row) (hBx : some Bx ≠ row) : dD.cells l0 gl ga Bx x vL vA w3 := by
 obtain ⟨h1, h2, h3, h4, h5, h6, h7⟩ := h
 have key : ∀ (g o : Nat) (v : Value), some g ≠ row → W.cell? ⟨g, o, none⟩ = some v → w3.cell? ⟨g, o, none⟩ = some v := fun g o v hne hc =>
  (World.cell?_of_block (a := ⟨g, o, none⟩) (hg.block g (zW W ⟨g, o, none⟩ hc) hne)).trans hc
 exact ⟨key _ _ _ hgl h1, key _ _ _ hga h2, key _ _ _ hBx h3, key _ _ _ hBx h4, key _ _ _ hBx h5, key _ _ _ hBx h6, key _ _ _ hBx h7⟩

set_option maxRecDepth 100000 in
set_option maxHeartbeats 8000000 in
theorem dD.region7 {Q : Exit → Act → World → Prop} (l0 : List S67) (x : Nat) (u : Nat → Value) (gl ga Bx : Nat) (AL : Option Addr) (L : List S67) (cL : Nat) (Aa : Option Addr) (al : List Int) (ca base : Nat) (ok : Nat → Prop) (W : World)
  (hcells : dD.cells l0 gl ga Bx x (Value.slice AL L.length cL) (Value.slice Aa al.length ca) W) (hHL : Kd.R k67 67 W base ok (Value.slice AL L.length cL) L) (hbase : base ≤ W.heap.size) (hfresh : ∀ k, W.heap.size ≤ k → ok k) (hLn : L.length ≤ 1000)
  (hgl : some gl ≠ (Value.slice AL L.length cL).ownBlock) (hga : some ga ≠ (Value.slice AL L.length cL).ownBlock) (hBx : some Bx ≠ (Value.slice AL L.length cL).ownBlock)
  (hend : ∀ (B2 : Nat) (w3 : World) (v3 : Value) (hv3 : Kd.R k67 67 w3 base ok v3 (L ++ [(⟨(rd_T67 l0 (x : Int)).f0, (rd_T67 l0 (x : Int)).f1, (rd_T67 l0 (x : Int)).f2, (rd_T67 l0 (x : Int)).f3, (rd_T67 l0 (x : Int)).f4⟩ : S67)])) (hk3 : dD.cells l0 gl ga Bx x (Value.slice AL L.length cL) (Value.slice Aa al.length ca) w3) (hb3 : dD.grown W.drew v3 (Value.slice AL L.length cL) w3), wpAny Try.prog .any dD.ops Q 3 #[true, true, true, true, true, true, false, false, false] (dD.act7 u gl ga Bx (Value.slice AL L.length cL) (dD.g l0 x) (.slice (some ⟨B2, 0, none⟩) 1 1) v3 (dD.g l0 x) (Value.slice Aa al.length ca)) w3) :
  wpAny Try.prog .any dD.ops Q 9 #[false, false, false, false, false, false, false, false, false] (dD.act7 u gl ga Bx undef undef undef undef undef undef) W.drew := by
 have hHL' : Kd.R k67 67 W.drew base ok (Value.slice AL L.length cL) L := Kd.R_drew hHL
 have hgc : ∀ {v3 : Value} {w3 : World}, dD.grown W.drew v3 (Value.slice AL L.length cL) w3 → dD.cells l0 gl ga Bx x (Value.slice AL L.length cL) (Value.slice Aa al.length ca) w3 := by
  intro v3 w3 h
  exact dD.cells_grown hcells h.1 hgl hga hBx
 have hk1 : dD.cells l0 gl ga Bx x (Value.slice AL L.length cL) (Value.slice Aa al.length ca) W.drew := hcells
 have hk2' : dD.cells l0 gl ga Bx x (Value.slice AL L.length cL) (Value.slice Aa al.length ca) (W.drew.alloc (.cells #[.string (rd_T67 l0 (x : Int)).f0, .int .i64 (rd_T67 l0 (x : Int)).f1, .int .i64 (rd_T67 l0 (x : Int)).f2, .int .i64 (rd_T67 l0 (x : Int)).f3, .int .i64 (rd_T67 l0 (x : Int)).f4] 67)) := dD.cells_grown (W := W) hcells (World.grownBy_alloc _ _ _) hgl hga hBx
 have h_012345 : ∀ (B2 : Nat) (w3 : World) (v3 : Value) (hv3 : Kd.R k67 67 w3 base ok v3 (L ++ [(⟨(rd_T67 l0 (x : Int)).f0, (rd_T67 l0 (x : Int)).f1, (rd_T67 l0 (x : Int)).f2, (rd_T67 l0 (x : Int)).f3, (rd_T67 l0 (x : Int)).f4⟩ : S67)])) (hk3 : dD.cells l0 gl ga Bx x (Value.slice AL L.length cL) (Value.slice Aa al.length ca) w3) (hb3 : dD.grown W.drew v3 (Value.slice AL L.length cL) w3), wpAny Try.prog .any dD.ops Q 3 #[true, true, true, true, true, true, false, false, false] (dD.act7 u gl ga Bx (Value.slice AL L.length cL) (dD.g l0 x) (.slice (some ⟨B2, 0, none⟩) 1 1) v3 (dD.g l0 x) (Value.slice Aa al.length ca)) w3 := by
  intro B2 w3 v3 hv3 hk3 hb3
  exact hend B2 w3 v3 hv3 hk3 hb3
 have h_01234 : ∀ (B2 : Nat) (w3 : World) (v3 : Value) (hv3 : Kd.R k67 67 w3 base ok v3 (L ++ [(⟨(rd_T67 l0 (x : Int)).f0, (rd_T67 l0 (x : Int)).f1, (rd_T67 l0 (x : Int)).f2, (rd_T67 l0 (x : Int)).f3, (rd_T67 l0 (x : Int)).f4⟩ : S67)])) (hk3 : dD.cells l0 gl ga Bx x (Value.slice AL L.length cL) (Value.slice Aa al.length ca) w3) (hb3 : dD.grown W.drew v3 (Value.slice AL L.length cL) w3), wpAny Try.prog .any dD.ops Q 4 #[true, true, true, true, true, false, false, false, false] (dD.act7 u gl ga Bx (Value.slice AL L.length cL) (dD.g l0 x) (.slice (some ⟨B2, 0, none⟩) 1 1) v3 (dD.g l0 x) undef) w3 := by
  intro B2 w3 v3 hv3 hk3 hb3
  have hk_ := hk3
  obtain ⟨q1, q2, q3, q4, q5, q6, q7⟩ := hk_
  refine wpAny_ready (rs := [5]) (by kernel_rfl) (by simp) ?_
  refine AllReady.cons (o := dD.o5) rfl (fun K hK => ?_) ?_
  ·unfold dD.o5
   go_simp
   exact hK _ _ (h_012345 B2 w3 v3 hv3 hk3 hb3)
  exact AllReady.nil
 have h_01235 : ∀ (B2 : Nat) (w3 : World) (v3 : Value) (hv3 : Kd.R k67 67 w3 base ok v3 (L ++ [(⟨(rd_T67 l0 (x : Int)).f0, (rd_T67 l0 (x : Int)).f1, (rd_T67 l0 (x : Int)).f2, (rd_T67 l0 (x : Int)).f3, (rd_T67 l0 (x : Int)).f4⟩ : S67)])) (hk3 : dD.cells l0 gl ga Bx x (Value.slice AL L.length cL) (Value.slice Aa al.length ca) w3) (hb3 : dD.grown W.drew v3 (Value.slice AL L.length cL) w3), wpAny Try.prog .any dD.ops Q 4 #[true, true, true, true, false, true, false, false, false] (dD.act7 u gl ga Bx (Value.slice AL L.length cL) (dD.g l0 x) (.slice (some ⟨B2, 0, none⟩) 1 1) v3 undef (Value.slice Aa al.length ca)) w3 := by
  intro B2 w3 v3 hv3 hk3 hb3
  have hk_ := hk3
  obtain ⟨q1, q2, q3, q4, q5, q6, q7⟩ := hk_
  refine wpAny_ready (rs := [4]) (by kernel_rfl) (by simp) ?_
  refine AllReady.cons (o := dD.o4) rfl (fun K hK => ?_) ?_
  ·unfold dD.o4
   go_simp
   exact hK _ _ (h_012345 B2 w3 v3 hv3 hk3 hb3)
  exact AllReady.nil
 have h_01245 : ∀ (B2 : Nat) (w2 : World) (hw2 : w2 = W.drew.alloc (.cells #[.string (rd_T67 l0 (x : Int)).f0, .int .i64 (rd_T67 l0 (x : Int)).f1, .int .i64 (rd_T67 l0 (x : Int)).f2, .int .i64 (rd_T67 l0 (x : Int)).f3, .int .i64 (rd_T67 l0 (x : Int)).f4] 67)) (hB2 : B2 = W.drew.heap.size) (hk2 : dD.cells l0 gl ga Bx x (Value.slice AL L.length cL) (Value.slice Aa al.length ca) w2), wpAny Try.prog .any dD.ops Q 4 #[true, true, true, false, true, true, false, false, false] (dD.act7 u gl ga Bx (Value.slice AL L.length cL) (dD.g l0 x) (.slice (some ⟨B2, 0, none⟩) 1 1) undef (dD.g l0 x) (Value.slice Aa al.length ca)) w2 := by
  intro B2 w2 hw2 hB2 hk2
  have hk_ := hk2
  obtain ⟨q1, q2, q3, q4, q5, q6, q7⟩ := hk_
  have HW := zK hw2
  have HB2 := zK hB2
  clear hw2 hB2
  refine wpAny_ready (rs := [3]) (by kernel_rfl) (by simp) ?_
  refine AllReady.cons (o := dD.o3) rfl (fun K hK => ?_) ?_
  ·exact dD.app (by rfl) rfl ⟨(rd_T67 l0 (x : Int)).f0, (rd_T67 l0 (x : Int)).f1, (rd_T67 l0 (x : Int)).f2, (rd_T67 l0 (x : Int)).f3, (rd_T67 l0 (x : Int)).f4⟩ (Value.slice AL L.length cL) L base B2 ok W.drew w2 rfl rfl HW.out HB2.out hHL' hbase hfresh hLn (fun v3 w3 hv3 hg3 => hK _ _ (h_012345 B2 w3 v3 hv3 (hgc hg3) hg3))
  exact AllReady.nil
 have h_0123 : ∀ (B2 : Nat) (w3 : World) (v3 : Value) (hv3 : Kd.R k67 67 w3 base ok v3 (L ++ [(⟨(rd_T67 l0 (x : Int)).f0, (rd_T67 l0 (x : Int)).f1, (rd_T67 l0 (x : Int)).f2, (rd_T67 l0 (x : Int)).f3, (rd_T67 l0 (x : Int)).f4⟩ : S67)])) (hk3 : dD.cells l0 gl ga Bx x (Value.slice AL L.length cL) (Value.slice Aa al.length ca) w3) (hb3 : dD.grown W.drew v3 (Value.slice AL L.length cL) w3), wpAny Try.prog .any dD.ops Q 5 #[true, true, true, true, false, false, false, false, false] (dD.act7 u gl ga Bx (Value.slice AL L.length cL) (dD.g l0 x) (.slice (some ⟨B2, 0, none⟩) 1 1) v3 undef undef) w3 := by
  intro B2 w3 v3 hv3 hk3 hb3
  have hk_ := hk3
  obtain ⟨q1, q2, q3, q4, q5, q6, q7⟩ := hk_
  refine wpAny_ready (rs := [4, 5]) (by kernel_rfl) (by simp) ?_
  refine AllReady.cons (o := dD.o4) rfl (fun K hK => ?_) ?_
  ·unfold dD.o4
   go_simp
   exact hK _ _ (h_01234 B2 w3 v3 hv3 hk3 hb3)
  refine AllReady.cons (o := dD.o5) rfl (fun K hK => ?_) ?_
  ·unfold dD.o5
   go_simp
   exact hK _ _ (h_01235 B2 w3 v3 hv3 hk3 hb3)
  exact AllReady.nil
 have h_0124 : ∀ (B2 : Nat) (w2 : World) (hw2 : w2 = W.drew.alloc (.cells #[.string (rd_T67 l0 (x : Int)).f0, .int .i64 (rd_T67 l0 (x : Int)).f1, .int .i64 (rd_T67 l0 (x : Int)).f2, .int .i64 (rd_T67 l0 (x : Int)).f3, .int .i64 (rd_T67 l0 (x : Int)).f4] 67)) (hB2 : B2 = W.drew.heap.size) (hk2 : dD.cells l0 gl ga Bx x (Value.slice AL L.length cL) (Value.slice Aa al.length ca) w2), wpAny Try.prog .any dD.ops Q 5 #[true, true, true, false, true, false, false, false, false] (dD.act7 u gl ga Bx (Value.slice AL L.length cL) (dD.g l0 x) (.slice (some ⟨B2, 0, none⟩) 1 1) undef (dD.g l0 x) undef) w2 := by
  intro B2 w2 hw2 hB2 hk2
  have hk_ := hk2
  obtain ⟨q1, q2, q3, q4, q5, q6, q7⟩ := hk_
  have HW := zK hw2
  have HB2 := zK hB2
  clear hw2 hB2
  refine wpAny_ready (rs := [3, 5]) (by kernel_rfl) (by simp) ?_
  refine AllReady.cons (o := dD.o3) rfl (fun K hK => ?_) ?_
  ·exact dD.app (by rfl) rfl ⟨(rd_T67 l0 (x : Int)).f0, (rd_T67 l0 (x : Int)).f1, (rd_T67 l0 (x : Int)).f2, (rd_T67 l0 (x : Int)).f3, (rd_T67 l0 (x : Int)).f4⟩ (Value.slice AL L.length cL) L base B2 ok W.drew w2 rfl rfl HW.out HB2.out hHL' hbase hfresh hLn (fun v3 w3 hv3 hg3 => hK _ _ (h_01234 B2 w3 v3 hv3 (hgc hg3) hg3))
  refine AllReady.cons (o := dD.o5) rfl (fun K hK => ?_) ?_
  ·unfold dD.o5
   go_simp
   exact hK _ _ (h_01245 B2 w2 HW.out HB2.out ⟨q1, q2, q3, q4, q5, q6, q7⟩)
  exact AllReady.nil
 have h_0125 : ∀ (B2 : Nat) (w2 : World) (hw2 : w2 = W.drew.alloc (.cells #[.string (rd_T67 l0 (x : Int)).f0, .int .i64 (rd_T67 l0 (x : Int)).f1, .int .i64 (rd_T67 l0 (x : Int)).f2, .int .i64 (rd_T67 l0 (x : Int)).f3, .int .i64 (rd_T67 l0 (x : Int)).f4] 67)) (hB2 : B2 = W.drew.heap.size) (hk2 : dD.cells l0 gl ga Bx x (Value.slice AL L.length cL) (Value.slice Aa al.length ca) w2), wpAny Try.prog .any dD.ops Q 5 #[true, true, true, false, false, true, false, false, false] (dD.act7 u gl ga Bx (Value.slice AL L.length cL) (dD.g l0 x) (.slice (some ⟨B2, 0, none⟩) 1 1) undef undef (Value.slice Aa al.length ca)) w2 := by
  intro B2 w2 hw2 hB2 hk2
  have hk_ := hk2
  obtain ⟨q1, q2, q3, q4, q5, q6, q7⟩ := hk_
  have HW := zK hw2
  have HB2 := zK hB2
  clear hw2 hB2
  refine wpAny_ready (rs := [3, 4]) (by kernel_rfl) (by simp) ?_
  refine AllReady.cons (o := dD.o3) rfl (fun K hK => ?_) ?_
  ·exact dD.app (by rfl) rfl ⟨(rd_T67 l0 (x : Int)).f0, (rd_T67 l0 (x : Int)).f1, (rd_T67 l0 (x : Int)).f2, (rd_T67 l0 (x : Int)).f3, (rd_T67 l0 (x : Int)).f4⟩ (Value.slice AL L.length cL) L base B2 ok W.drew w2 rfl rfl HW.out HB2.out hHL' hbase hfresh hLn (fun v3 w3 hv3 hg3 => hK _ _ (h_01235 B2 w3 v3 hv3 (hgc hg3) hg3))
  refine AllReady.cons (o := dD.o4) rfl (fun K hK => ?_) ?_
  ·unfold dD.o4
   go_simp
   exact hK _ _ (h_01245 B2 w2 HW.out HB2.out ⟨q1, q2, q3, q4, q5, q6, q7⟩)
  exact AllReady.nil
 have h_0145 : ∀ (B2 : Nat), wpAny Try.prog .any dD.ops Q 5 #[true, true, false, false, true, true, false, false, false] (dD.act7 u gl ga Bx (Value.slice AL L.length cL) (dD.g l0 x) undef undef (dD.g l0 x) (Value.slice Aa al.length ca)) W.drew := by
  intro B2
  have hk_ := hk1
  obtain ⟨q1, q2, q3, q4, q5, q6, q7⟩ := hk_
  refine wpAny_ready (rs := [2]) (by kernel_rfl) (by simp) ?_
  refine AllReady.cons (o := dD.o2) rfl (fun K hK => ?_) ?_
  ·unfold dD.o2
   go_simp
   exact hK _ _ (h_01245 _ _ rfl rfl hk2')
  exact AllReady.nil
 have h_1245 : ∀ (B2 : Nat) (w2 : World) (hw2 : w2 = W.drew.alloc (.cells #[.string (rd_T67 l0 (x : Int)).f0, .int .i64 (rd_T67 l0 (x : Int)).f1, .int .i64 (rd_T67 l0 (x : Int)).f2, .int .i64 (rd_T67 l0 (x : Int)).f3, .int .i64 (rd_T67 l0 (x : Int)).f4] 67)) (hB2 : B2 = W.drew.heap.size) (hk2 : dD.cells l0 gl ga Bx x (Value.slice AL L.length cL) (Value.slice Aa al.length ca) w2), wpAny Try.prog .any dD.ops Q 5 #[false, true, true, false, true, true, false, false, false] (dD.act7 u gl ga Bx undef (dD.g l0 x) (.slice (some ⟨B2, 0, none⟩) 1 1) undef (dD.g l0 x) (Value.slice Aa al.length ca)) w2 := by
  intro B2 w2 hw2 hB2 hk2
  have hk_ := hk2
  obtain ⟨q1, q2, q3, q4, q5, q6, q7⟩ := hk_
  have HW := zK hw2
  have HB2 := zK hB2
  clear hw2 hB2
  refine wpAny_ready (rs := [0]) (by kernel_rfl) (by simp) ?_
  refine AllReady.cons (o := dD.o0) rfl (fun K hK => ?_) ?_
  ·unfold dD.o0
   go_simp
   exact hK _ _ (h_01245 B2 w2 HW.out HB2.out ⟨q1, q2, q3, q4, q5, q6, q7⟩)
  exact AllReady.nil
 have h_012 : ∀ (B2 : Nat) (w2 : World) (hw2 : w2 = W.drew.alloc (.cells #[.string (rd_T67 l0 (x : Int)).f0, .int .i64 (rd_T67 l0 (x : Int)).f1, .int .i64 (rd_T67 l0 (x : Int)).f2, .int .i64 (rd_T67 l0 (x : Int)).f3, .int .i64 (rd_T67 l0 (x : Int)).f4] 67)) (hB2 : B2 = W.drew.heap.size) (hk2 : dD.cells l0 gl ga Bx x (Value.slice AL L.length cL) (Value.slice Aa al.length ca) w2), wpAny Try.prog .any dD.ops Q 6 #[true, true, true, false, false, false, false, false, false] (dD.act7 u gl ga Bx (Value.slice AL L.length cL) (dD.g l0 x) (.slice (some ⟨B2, 0, none⟩) 1 1) undef undef undef) w2 := by
  intro B2 w2 hw2 hB2 hk2
  have hk_ := hk2
  obtain ⟨q1, q2, q3, q4, q5, q6, q7⟩ := hk_
  have HW := zK hw2
  have HB2 := zK hB2
  clear hw2 hB2
  refine wpAny_ready (rs := [3, 4, 5]) (by kernel_rfl) (by simp) ?_
  refine AllReady.cons (o := dD.o3) rfl (fun K hK => ?_) ?_
  ·exact dD.app (by rfl) rfl ⟨(rd_T67 l0 (x : Int)).f0, (rd_T67 l0 (x : Int)).f1, (rd_T67 l0 (x : Int)).f2, (rd_T67 l0 (x : Int)).f3, (rd_T67 l0 (x : Int)).f4⟩ (Value.slice AL L.length cL) L base B2 ok W.drew w2 rfl rfl HW.out HB2.out hHL' hbase hfresh hLn (fun v3 w3 hv3 hg3 => hK _ _ (h_0123 B2 w3 v3 hv3 (hgc hg3) hg3))
  refine AllReady.cons (o := dD.o4) rfl (fun K hK => ?_) ?_
  ·unfold dD.o4
   go_simp
   exact hK _ _ (h_0124 B2 w2 HW.out HB2.out ⟨q1, q2, q3, q4, q5, q6, q7⟩)
  refine AllReady.cons (o := dD.o5) rfl (fun K hK => ?_) ?_
  ·unfold dD.o5
   go_simp
   exact hK _ _ (h_0125 B2 w2 HW.out HB2.out ⟨q1, q2, q3, q4, q5, q6, q7⟩)
  exact AllReady.nil
 have h_014 : ∀ (B2 : Nat), wpAny Try.prog .any dD.ops Q 6 #[true, true, false, false, true, false, false, false, false] (dD.act7 u gl ga Bx (Value.slice AL L.length cL) (dD.g l0 x) undef undef (dD.g l0 x) undef) W.drew := by
  intro B2
  have hk_ := hk1
  obtain ⟨q1, q2, q3, q4, q5, q6, q7⟩ := hk_
  refine wpAny_ready (rs := [2, 5]) (by kernel_rfl) (by simp) ?_
  refine AllReady.cons (o := dD.o2) rfl (fun K hK => ?_) ?_
  ·unfold dD.o2
   go_simp
   exact hK _ _ (h_0124 _ _ rfl rfl hk2')
  refine AllReady.cons (o := dD.o5) rfl (fun K hK => ?_) ?_
  ·unfold dD.o5
   go_simp
   exact hK _ _ (h_0145 B2)
  exact AllReady.nil
 have h_015 : ∀ (B2 : Nat), wpAny Try.prog .any dD.ops Q 6 #[true, true, false, false, false, true, false, false, false] (dD.act7 u gl ga Bx (Value.slice AL L.length cL) (dD.g l0 x) undef undef undef (Value.slice Aa al.length ca)) W.drew := by
  intro B2
  have hk_ := hk1
  obtain ⟨q1, q2, q3, q4, q5, q6, q7⟩ := hk_
  refine wpAny_ready (rs := [2, 4]) (by kernel_rfl) (by simp) ?_
  refine AllReady.cons (o := dD.o2) rfl (fun K hK => ?_) ?_
  ·unfold dD.o2
   go_simp
   exact hK _ _ (h_0125 _ _ rfl rfl hk2')
  refine AllReady.cons (o := dD.o4) rfl (fun K hK => ?_) ?_
  ·unfold dD.o4
   go_simp
   exact hK _ _ (h_0145 B2)
  exact AllReady.nil
 have h_045 : ∀ (B2 : Nat), wpAny Try.prog .any dD.ops Q 6 #[true, false, false, false, true, true, false, false, false] (dD.act7 u gl ga Bx (Value.slice AL L.length cL) undef undef undef (dD.g l0 x) (Value.slice Aa al.length ca)) W.drew := by
  intro B2
  have hk_ := hk1
  obtain ⟨q1, q2, q3, q4, q5, q6, q7⟩ := hk_
  refine wpAny_ready (rs := [1]) (by kernel_rfl) (by simp) ?_
  refine AllReady.cons (o := dD.o1) rfl (fun K hK => ?_) ?_
  ·unfold dD.o1
   go_simp
   exact hK _ _ (h_0145 B2)
  exact AllReady.nil
 have h_124 : ∀ (B2 : Nat) (w2 : World) (hw2 : w2 = W.drew.alloc (.cells #[.string (rd_T67 l0 (x : Int)).f0, .int .i64 (rd_T67 l0 (x : Int)).f1, .int .i64 (rd_T67 l0 (x : Int)).f2, .int .i64 (rd_T67 l0 (x : Int)).f3, .int .i64 (rd_T67 l0 (x : Int)).f4] 67)) (hB2 : B2 = W.drew.heap.size) (hk2 : dD.cells l0 gl ga Bx x (Value.slice AL L.length cL) (Value.slice Aa al.length ca) w2), wpAny Try.prog .any dD.ops Q 6 #[false, true, true, false, true, false, false, false, false] (dD.act7 u gl ga Bx undef (dD.g l0 x) (.slice (some ⟨B2, 0, none⟩) 1 1) undef (dD.g l0 x) undef) w2 := by
  intro B2 w2 hw2 hB2 hk2
  have hk_ := hk2
  obtain ⟨q1, q2, q3, q4, q5, q6, q7⟩ := hk_
  have HW := zK hw2
  have HB2 := zK hB2
  clear hw2 hB2
  refine wpAny_ready (rs := [0, 5]) (by kernel_rfl) (by simp) ?_
  refine AllReady.cons (o := dD.o0) rfl (fun K hK => ?_) ?_
  ·unfold dD.o0
   go_simp
   exact hK _ _ (h_0124 B2 w2 HW.out HB2.out ⟨q1, q2, q3, q4, q5, q6, q7⟩)
  refine AllReady.cons (o := dD.o5) rfl (fun K hK => ?_) ?_
  ·unfold dD.o5
   go_simp
   exact hK _ _ (h_1245 B2 w2 HW.out HB2.out ⟨q1, q2, q3, q4, q5, q6, q7⟩)
  exact AllReady.nil
 have h_125 : ∀ (B2 : Nat) (w2 : World) (hw2 : w2 = W.drew.alloc (.cells #[.string (rd_T67 l0 (x : Int)).f0, .int .i64 (rd_T67 l0 (x : Int)).f1, .int .i64 (rd_T67 l0 (x : Int)).f2, .int .i64 (rd_T67 l0 (x : Int)).f3, .int .i64 (rd_T67 l0 (x : Int)).f4] 67)) (hB2 : B2 = W.drew.heap.size) (hk2 : dD.cells l0 gl ga Bx x (Value.slice AL L.length cL) (Value.slice Aa al.length ca) w2), wpAny Try.prog .any dD.ops Q 6 #[false, true, true, false, false, true, false, false, false] (dD.act7 u gl ga Bx undef (dD.g l0 x) (.slice (some ⟨B2, 0, none⟩) 1 1) undef undef (Value.slice Aa al.length ca)) w2 := by
  intro B2 w2 hw2 hB2 hk2
  have hk_ := hk2
  obtain ⟨q1, q2, q3, q4, q5, q6, q7⟩ := hk_
  have HW := zK hw2
  have HB2 := zK hB2
  clear hw2 hB2
  refine wpAny_ready (rs := [0, 4]) (by kernel_rfl) (by simp) ?_
  refine AllReady.cons (o := dD.o0) rfl (fun K hK => ?_) ?_
  ·unfold dD.o0
   go_simp
   exact hK _ _ (h_0125 B2 w2 HW.out HB2.out ⟨q1, q2, q3, q4, q5, q6, q7⟩)
  refine AllReady.cons (o := dD.o4) rfl (fun K hK => ?_) ?_
  ·unfold dD.o4
   go_simp
   exact hK _ _ (h_1245 B2 w2 HW.out HB2.out ⟨q1, q2, q3, q4, q5, q6, q7⟩)
  exact AllReady.nil
 have h_145 : ∀ (B2 : Nat), wpAny Try.prog .any dD.ops Q 6 #[false, true, false, false, true, true, false, false, false] (dD.act7 u gl ga Bx undef (dD.g l0 x) undef undef (dD.g l0 x) (Value.slice Aa al.length ca)) W.drew := by
  intro B2
  have hk_ := hk1
  obtain ⟨q1, q2, q3, q4, q5, q6, q7⟩ := hk_
  refine wpAny_ready (rs := [0, 2]) (by kernel_rfl) (by simp) ?_
  refine AllReady.cons (o := dD.o0) rfl (fun K hK => ?_) ?_
  ·unfold dD.o0
   go_simp
   exact hK _ _ (h_0145 B2)
  refine AllReady.cons (o := dD.o2) rfl (fun K hK => ?_) ?_
  ·unfold dD.o2
   go_simp
   exact hK _ _ (h_1245 _ _ rfl rfl hk2')
  exact AllReady.nil
 have h_01 : ∀ (B2 : Nat), wpAny Try.prog .any dD.ops Q 7 #[true, true, false, false, false, false, false, false, false] (dD.act7 u gl ga Bx (Value.slice AL L.length cL) (dD.g l0 x) undef undef undef undef) W.drew := by
  intro B2
  have hk_ := hk1
  obtain ⟨q1, q2, q3, q4, q5, q6, q7⟩ := hk_
  refine wpAny_ready (rs := [2, 4, 5]) (by kernel_rfl) (by simp) ?_
  refine AllReady.cons (o := dD.o2) rfl (fun K hK => ?_) ?_
  ·unfold dD.o2
   go_simp
   exact hK _ _ (h_012 _ _ rfl rfl hk2')
  refine AllReady.cons (o := dD.o4) rfl (fun K hK => ?_) ?_
  ·unfold dD.o4
   go_simp
   exact hK _ _ (h_014 B2)
  refine AllReady.cons (o := dD.o5) rfl (fun K hK => ?_) ?_
  ·unfold dD.o5
   go_simp
   exact hK _ _ (h_015 B2)
  exact AllReady.nil
 have h_04 : ∀ (B2 : Nat), wpAny Try.prog .any dD.ops Q 7 #[true, false, false, false, true, false, false, false, false] (dD.act7 u gl ga Bx (Value.slice AL L.length cL) undef undef undef (dD.g l0 x) undef) W.drew := by
  intro B2
  have hk_ := hk1
  obtain ⟨q1, q2, q3, q4, q5, q6, q7⟩ := hk_
  refine wpAny_ready (rs := [1, 5]) (by kernel_rfl) (by simp) ?_
  refine AllReady.cons (o := dD.o1) rfl (fun K hK => ?_) ?_
  ·unfold dD.o1
   go_simp
   exact hK _ _ (h_014 B2)
  refine AllReady.cons (o := dD.o5) rfl (fun K hK => ?_) ?_
  ·unfold dD.o5
   go_simp
   exact hK _ _ (h_045 B2)
  exact AllReady.nil
 have h_05 : ∀ (B2 : Nat), wpAny Try.prog .any dD.ops Q 7 #[true, false, false, false, false, true, false, false, false] (dD.act7 u gl ga Bx (Value.slice AL L.length cL) undef undef undef undef (Value.slice Aa al.length ca)) W.drew := by
  intro B2
  have hk_ := hk1
  obtain ⟨q1, q2, q3, q4, q5, q6, q7⟩ := hk_
  refine wpAny_ready (rs := [1, 4]) (by kernel_rfl) (by simp) ?_
  refine AllReady.cons (o := dD.o1) rfl (fun K hK => ?_) ?_
  ·unfold dD.o1
   go_simp
   exact hK _ _ (h_015 B2)
  refine AllReady.cons (o := dD.o4) rfl (fun K hK => ?_) ?_
  ·unfold dD.o4
   go_simp
   exact hK _ _ (h_045 B2)
  exact AllReady.nil
 have h_12 : ∀ (B2 : Nat) (w2 : World) (hw2 : w2 = W.drew.alloc (.cells #[.string (rd_T67 l0 (x : Int)).f0, .int .i64 (rd_T67 l0 (x : Int)).f1, .int .i64 (rd_T67 l0 (x : Int)).f2, .int .i64 (rd_T67 l0 (x : Int)).f3, .int .i64 (rd_T67 l0 (x : Int)).f4] 67)) (hB2 : B2 = W.drew.heap.size) (hk2 : dD.cells l0 gl ga Bx x (Value.slice AL L.length cL) (Value.slice Aa al.length ca) w2), wpAny Try.prog .any dD.ops Q 7 #[false, true, true, false, false, false, false, false, false] (dD.act7 u gl ga Bx undef (dD.g l0 x) (.slice (some ⟨B2, 0, none⟩) 1 1) undef undef undef) w2 := by
  intro B2 w2 hw2 hB2 hk2
  have hk_ := hk2
  obtain ⟨q1, q2, q3, q4, q5, q6, q7⟩ := hk_
  have HW := zK hw2
  have HB2 := zK hB2
  clear hw2 hB2
  refine wpAny_ready (rs := [0, 4, 5]) (by kernel_rfl) (by simp) ?_
  refine AllReady.cons (o := dD.o0) rfl (fun K hK => ?_) ?_
  ·unfold dD.o0
   go_simp
   exact hK _ _ (h_012 B2 w2 HW.out HB2.out ⟨q1, q2, q3, q4, q5, q6, q7⟩)
  refine AllReady.cons (o := dD.o4) rfl (fun K hK => ?_) ?_
  ·unfold dD.o4
   go_simp
   exact hK _ _ (h_124 B2 w2 HW.out HB2.out ⟨q1, q2, q3, q4, q5, q6, q7⟩)
  refine AllReady.cons (o := dD.o5) rfl (fun K hK => ?_) ?_
  ·unfold dD.o5
   go_simp
   exact hK _ _ (h_125 B2 w2 HW.out HB2.out ⟨q1, q2, q3, q4, q5, q6, q7⟩)
  exact AllReady.nil
 have h_14 : ∀ (B2 : Nat), wpAny Try.prog .any dD.ops Q 7 #[false, true, false, false, true, false, false, false, false] (dD.act7 u gl ga Bx undef (dD.g l0 x) undef undef (dD.g l0 x) undef) W.drew := by
  intro B2
  have hk_ := hk1
  obtain ⟨q1, q2, q3, q4, q5, q6, q7⟩ := hk_
  refine wpAny_ready (rs := [0, 2, 5]) (by kernel_rfl) (by simp) ?_
  refine AllReady.cons (o := dD.o0) rfl (fun K hK => ?_) ?_
  ·unfold dD.o0
   go_simp
   exact hK _ _ (h_014 B2)
  refine AllReady.cons (o := dD.o2) rfl (fun K hK => ?_) ?_
  ·unfold dD.o2
   go_simp
   exact hK _ _ (h_124 _ _ rfl rfl hk2')
  refine AllReady.cons (o := dD.o5) rfl (fun K hK => ?_) ?_
  ·unfold dD.o5
   go_simp
   exact hK _ _ (h_145 B2)
  exact AllReady.nil
 have h_15 : ∀ (B2 : Nat), wpAny Try.prog .any dD.ops Q 7 #[false, true, false, false, false, true, false, false, false] (dD.act7 u gl ga Bx undef (dD.g l0 x) undef undef undef (Value.slice Aa al.length ca)) W.drew := by
  intro B2
  have hk_ := hk1
  obtain ⟨q1, q2, q3, q4, q5, q6, q7⟩ := hk_
  refine wpAny_ready (rs := [0, 2, 4]) (by kernel_rfl) (by simp) ?_
  refine AllReady.cons (o := dD.o0) rfl (fun K hK => ?_) ?_
  ·unfold dD.o0
   go_simp
   exact hK _ _ (h_015 B2)
  refine AllReady.cons (o := dD.o2) rfl (fun K hK => ?_) ?_
  ·unfold dD.o2
   go_simp
   exact hK _ _ (h_125 _ _ rfl rfl hk2')
  refine AllReady.cons (o := dD.o4) rfl (fun K hK => ?_) ?_
  ·unfold dD.o4
   go_simp
   exact hK _ _ (h_145 B2)
  exact AllReady.nil
 have h_45 : ∀ (B2 : Nat), wpAny Try.prog .any dD.ops Q 7 #[false, false, false, false, true, true, false, false, false] (dD.act7 u gl ga Bx undef undef undef undef (dD.g l0 x) (Value.slice Aa al.length ca)) W.drew := by
  intro B2
  have hk_ := hk1
  obtain ⟨q1, q2, q3, q4, q5, q6, q7⟩ := hk_
  refine wpAny_ready (rs := [0, 1]) (by kernel_rfl) (by simp) ?_
  refine AllReady.cons (o := dD.o0) rfl (fun K hK => ?_) ?_
  ·unfold dD.o0
   go_simp
   exact hK _ _ (h_045 B2)
  refine AllReady.cons (o := dD.o1) rfl (fun K hK => ?_) ?_
  ·unfold dD.o1
   go_simp
   exact hK _ _ (h_145 B2)
  exact AllReady.nil
 have h_0 : ∀ (B2 : Nat), wpAny Try.prog .any dD.ops Q 8 #[true, false, false, false, false, false, false, false, false] (dD.act7 u gl ga Bx (Value.slice AL L.length cL) undef undef undef undef undef) W.drew := by
  intro B2
  have hk_ := hk1
  obtain ⟨q1, q2, q3, q4, q5, q6, q7⟩ := hk_
  refine wpAny_ready (rs := [1, 4, 5]) (by kernel_rfl) (by simp) ?_
  refine AllReady.cons (o := dD.o1) rfl (fun K hK => ?_) ?_
  ·unfold dD.o1
   go_simp
   exact hK _ _ (h_01 B2)
  refine AllReady.cons (o := dD.o4) rfl (fun K hK => ?_) ?_
  ·unfold dD.o4
   go_simp
   exact hK _ _ (h_04 B2)
  refine AllReady.cons (o := dD.o5) rfl (fun K hK => ?_) ?_
  ·unfold dD.o5
   go_simp
   exact hK _ _ (h_05 B2)
  exact AllReady.nil
 have h_1 : ∀ (B2 : Nat), wpAny Try.prog .any dD.ops Q 8 #[false, true, false, false, false, false, false, false, false] (dD.act7 u gl ga Bx undef (dD.g l0 x) undef undef undef undef) W.drew := by
  intro B2
  have hk_ := hk1
  obtain ⟨q1, q2, q3, q4, q5, q6, q7⟩ := hk_
  refine wpAny_ready (rs := [0, 2, 4, 5]) (by kernel_rfl) (by simp) ?_
  refine AllReady.cons (o := dD.o0) rfl (fun K hK => ?_) ?_
  ·unfold dD.o0
   go_simp
   exact hK _ _ (h_01 B2)
  refine AllReady.cons (o := dD.o2) rfl (fun K hK => ?_) ?_
  ·unfold dD.o2
   go_simp
   exact hK _ _ (h_12 _ _ rfl rfl hk2')
  refine AllReady.cons (o := dD.o4) rfl (fun K hK => ?_) ?_
  ·unfold dD.o4
   go_simp
   exact hK _ _ (h_14 B2)
  refine AllReady.cons (o := dD.o5) rfl (fun K hK => ?_) ?_
  ·unfold dD.o5
   go_simp
   exact hK _ _ (h_15 B2)
  exact AllReady.nil
 have h_4 : ∀ (B2 : Nat), wpAny Try.prog .any dD.ops Q 8 #[false, false, false, false, true, false, false, false, false] (dD.act7 u gl ga Bx undef undef undef undef (dD.g l0 x) undef) W.drew := by
  intro B2
  have hk_ := hk1
  obtain ⟨q1, q2, q3, q4, q5, q6, q7⟩ := hk_
  refine wpAny_ready (rs := [0, 1, 5]) (by kernel_rfl) (by simp) ?_
  refine AllReady.cons (o := dD.o0) rfl (fun K hK => ?_) ?_
  ·unfold dD.o0
   go_simp
   exact hK _ _ (h_04 B2)
  refine AllReady.cons (o := dD.o1) rfl (fun K hK => ?_) ?_
  ·unfold dD.o1
   go_simp
   exact hK _ _ (h_14 B2)
  refine AllReady.cons (o := dD.o5) rfl (fun K hK => ?_) ?_
  ·unfold dD.o5
   go_simp
   exact hK _ _ (h_45 B2)
  exact AllReady.nil
 have h_5 : ∀ (B2 : Nat), wpAny Try.prog .any dD.ops Q 8 #[false, false, false, false, false, true, false, false, false] (dD.act7 u gl ga Bx undef undef undef undef undef (Value.slice Aa al.length ca)) W.drew := by
  intro B2
  have hk_ := hk1
  obtain ⟨q1, q2, q3, q4, q5, q6, q7⟩ := hk_
  refine wpAny_ready (rs := [0, 1, 4]) (by kernel_rfl) (by simp) ?_
  refine AllReady.cons (o := dD.o0) rfl (fun K hK => ?_) ?_
  ·unfold dD.o0
   go_simp
   exact hK _ _ (h_05 B2)
  refine AllReady.cons (o := dD.o1) rfl (fun K hK => ?_) ?_
  ·unfold dD.o1
   go_simp
   exact hK _ _ (h_15 B2)
  refine AllReady.cons (o := dD.o4) rfl (fun K hK => ?_) ?_
  ·unfold dD.o4
   go_simp
   exact hK _ _ (h_45 B2)
  exact AllReady.nil
 have h_ : ∀ (B2 : Nat), wpAny Try.prog .any dD.ops Q 9 #[false, false, false, false, false, false, false, false, false] (dD.act7 u gl ga Bx undef undef undef undef undef undef) W.drew := by
  intro B2
  have hk_ := hk1
  obtain ⟨q1, q2, q3, q4, q5, q6, q7⟩ := hk_
  refine wpAny_ready (rs := [0, 1, 4, 5]) (by kernel_rfl) (by simp) ?_
  refine AllReady.cons (o := dD.o0) rfl (fun K hK => ?_) ?_
  ·unfold dD.o0
   go_simp
   exact hK _ _ (h_0 B2)
  refine AllReady.cons (o := dD.o1) rfl (fun K hK => ?_) ?_
  ·unfold dD.o1
   go_simp
   exact hK _ _ (h_1 B2)
  refine AllReady.cons (o := dD.o4) rfl (fun K hK => ?_) ?_
  ·unfold dD.o4
   go_simp
   exact hK _ _ (h_4 B2)
  refine AllReady.cons (o := dD.o5) rfl (fun K hK => ?_) ?_
  ·unfold dD.o5
   go_simp
   exact hK _ _ (h_5 B2)
  exact AllReady.nil
 exact h_ 0

set_option maxRecDepth 100000 in
set_option maxHeartbeats 4000000 in
theorem dD.fine {Q : Exit → Act → World → Prop} (l0 : List S67) (x : Nat) (u : Nat → Value) (gl ga Bx : Nat) (t29 t30 t31 : Value) (A3 : Option Addr) (n3 c3 : Nat) (vL : Value) (Aa : Option Addr) (al rb : List Int) (ca : Nat) (w3 : World)
  (hbl : Boxed w3 gl 24 vL) (hba : Boxed w3 ga 40 (.slice Aa al.length ca)) (hne : gl ≠ ga) (hCa : Kd.C (Kd.int .i64) w3 Aa al.length al) (hca : al.length ≤ ca) (hbef : impl_liveSets.hand_bef l0 x al = some rb)
  (hQ : ∀ (a : Act) (w7 : World) (A7 : Option Addr) (c7 : Nat), Below w3.heap.size w3 w7 → Kd.R (Kd.int .i64) 3 w7 w3.heap.size (fun _ => True) (.slice A7 rb.length c7) rb → Q .normal a ((w7.setCell ⟨gl, 0, none⟩ (.slice A3 n3 c3)).setCell ⟨ga, 0, none⟩ (.slice A7 rb.length c7))) :
  wpAny Try.prog .any dD.ops Q 3 #[true, true, true, true, true, true, false, false, false] (dD.act7 u gl ga Bx t29 t30 t31 (.slice A3 n3 c3) (dD.g l0 x) (.slice Aa al.length ca)) w3 := by
 refine wpAny_ready (rs := [6]) (by kernel_rfl) (by simp) ?_
 refine AllReady.cons (o := dD.o6) rfl (fun K hK => ?_) AllReady.nil
 unfold dD.o6
 go_simp
 refine (impl_Instr_before.calls 1000 _ _ _ _ _ Aa ca al rb _ hCa hca hbef).mono ?_
 rintro e w7 ⟨v7, rfl, hv7, hb7⟩
 obtain ⟨A7, c7, rfl⟩ := Kd.R_slice hv7
 have hbl7 : Boxed w7 gl 24 vL := (hb7.block _ hbl.lt).trans hbl
 have hba7 : Boxed w7 ga 40 (.slice Aa al.length ca) := (hb7.block _ hba.lt).trans hba
 refine hK _ _ ?_
 clear hK K
 have hc1 := hbl7.cell
 have hf1 := hbl7.frozen
 have hc2 : (w7.setCell ⟨gl, 0, none⟩ (.slice A3 n3 c3)).cell? ⟨ga, 0, none⟩ = some (.slice Aa al.length ca) := (hba7.other (fun e => hne e.symm) _).cell
 have hf2 : (w7.setCell ⟨gl, 0, none⟩ (.slice A3 n3 c3)).frozen? ⟨ga, 0, none⟩ = false := (hba7.other (fun e => hne e.symm) _).frozen
 refine wpAny_ready (rs := [7]) (by kernel_rfl) (by simp) ?_
 refine AllReady.cons (o := dD.o7) rfl (fun K hK => ?_) AllReady.nil
 unfold dD.o7
 go_simp
 refine hK _ _ ?_
 clear hK K
 refine wpAny_ready (rs := [8]) (by kernel_rfl) (by simp) ?_
 refine AllReady.cons (o := dD.o8) rfl (fun K hK => ?_) AllReady.nil
 unfold dD.o8
 go_simp
 refine hK _ _ ?_
 clear hK K
 refine wpAny_done (by kernel_rfl) ?_ _
 exact hQ _ _ _ _ hb7 hv7

section
attribute [local go_sem] Oper.semAt_some
def impl_DropDead.hand_has (xs : List S67) (i : Nat) (L : List Int) : Option Bool := slices_Contains_int_int.f 1000 L (rd_T67 xs (i : Int)).f1
/-- The frame of a round. -/
abbrev dD.act (l0 : List S67) (u : Nat → Value) (gl ga Bx x : Nat) : Act := { tmps := #[u 0, u 1, u 2, u 3, u 4, u 5, .pointer (some ⟨gl, 0, none⟩), .pointer (some ⟨ga, 0, none⟩), u 8, .pointer (some ⟨Bx, 0, none⟩), u 10, u 11, u 12, u 13, u 14, u 15, u 16, u 17, u 18, u 19, u 20, u 21, u 22, .int .i64 (x : Int), .agg #[.string (rd_T67 l0 (x : Int)).f0, .int .i64 (rd_T67 l0 (x : Int)).f1, .int .i64 (rd_T67 l0 (x : Int)).f2, .int .i64 (rd_T67 l0 (x : Int)).f3, .int .i64 (rd_T67 l0 (x : Int)).f4], undef, undef, undef, undef, undef, undef, undef, undef, undef, undef, undef, undef, undef, undef], defers := [] }
def dD.post (Post : World → Prop) : Exit → Act → World → Prop
 | .normal, _, w => Post w
 | _, _, _ => False
set_option maxRecDepth 100000 in
set_option maxHeartbeats 8000000 in
theorem dD.body {As Bo : Code} (hp : dD.pick Try.f56 = some (As, Bo)) (l0 : List S67) (x l : Nat) (u : Nat → Value) (gl ga Bx : Nat) (AL : Option Addr) (L : List S67) (cL : Nat) (Aa : Option Addr) (al rb : List Int) (ca base : Nat) (ok : Nat → Prop) (b : Bool) (W : World) (Post : World → Prop)
  (hbl : Boxed W gl 24 (.slice AL L.length cL)) (hba : Boxed W ga 40 (.slice Aa al.length ca)) (hne : gl ≠ ga)
  (hx2 : W.heap[Bx]? = some (.cells #[.string (rd_T67 l0 (x : Int)).f0, .int .i64 (rd_T67 l0 (x : Int)).f1, .int .i64 (rd_T67 l0 (x : Int)).f2, .int .i64 (rd_T67 l0 (x : Int)).f3, .int .i64 (rd_T67 l0 (x : Int)).f4] 67 (0, 0)))
  (hHL : Kd.R k67 67 W base ok (.slice AL L.length cL) L) (hbase : base ≤ W.heap.size) (hfresh : ∀ k, W.heap.size ≤ k → ok k) (hLn : L.length ≤ 1000)
  (hgl : some gl ≠ (Value.slice AL L.length cL).ownBlock) (hga : some ga ≠ (Value.slice AL L.length cL).ownBlock) (hBx : some Bx ≠ (Value.slice AL L.length cL).ownBlock)
  (hCa : ∀ w3, W.grownBy w3 (Value.slice AL L.length cL).ownBlock → Kd.C (Kd.int .i64) w3 Aa al.length al) (hca : al.length ≤ ca) (hhas : impl_DropDead.hand_has l0 x al = some b) (hbef : impl_liveSets.hand_bef l0 x al = some rb)
  (hfin0 : b = false → ∀ nd, Post (W.drewN nd))
  (hfin1 : b = true → ∀ nd w3 A3 c3 w7 A7 c7, Kd.R k67 67 w3 base ok (.slice A3 (L.length + 1) c3) (L ++ [⟨(rd_T67 l0 (x : Int)).f0, (rd_T67 l0 (x : Int)).f1, (rd_T67 l0 (x : Int)).f2, (rd_T67 l0 (x : Int)).f3, (rd_T67 l0 (x : Int)).f4⟩]) → dD.grown (W.drewN nd).drew (.slice A3 (L.length + 1) c3) (.slice AL L.length cL) w3 → Below w3.heap.size w3 w7 → Kd.R (Kd.int .i64) 3 w7 w3.heap.size (fun _ => True) (.slice A7 rb.length c7) rb → Post ((w7.setCell ⟨gl, 0, none⟩ (.slice A3 (L.length + 1) c3)).setCell ⟨ga, 0, none⟩ (.slice A7 rb.length c7))) :
  Bo.wpIn (Fence.wide.inRound l) 6 Try.prog (dD.post Post) (dD.act l0 u gl ga Bx x) W := by
 unfold dD.pick Try.f56 at hp
 dsimp only at hp
 injection hp with hp
 injection hp with hp1 hp2
 subst hp2
 clear hp1
 have hc1 := hba.cell
 have hd1 : W.cell? ⟨Bx, 1, none⟩ = some (.int .i64 (rd_T67 l0 (x : Int)).f1) := (zI hx2 1).trans rfl
 have hC0 : Kd.C (Kd.int .i64) W Aa al.length al := hCa W (World.grownBy.refl W _)
 have HX := zK hx2
 clear hx2
 have H0 := zK hfin0
 have H1 := zK hfin1
 have HCA := zK hCa
 clear hfin0 hfin1 hCa
 cases b with
 | false =>
  gi_wp2_with (refine ⟨(trivial : Fence.wide.fn 104), ?_⟩; gi_at_call 104; refine (CallsIn.inRound l (callsIn_wide.2 (slices_Contains_int_int.calls 1000 Aa ca al _ false _ hC0 hca hhas))).mono ?_; rintro e w' ⟨rfl, ⟨nd, rfl⟩⟩)
  exact H0.out (by simp) _
 | true =>
  gi_wp2_with (refine ⟨(trivial : Fence.wide.fn 104), ?_⟩; gi_at_call 104; refine (CallsIn.inRound l (callsIn_wide.2 (slices_Contains_int_int.calls 1000 Aa ca al _ true _ hC0 hca hhas))).mono ?_; rintro e w' ⟨rfl, ⟨nd, rfl⟩⟩)
  refine lF.region (by kernel_rfl) (fun h => h.elim fun _ h => h.elim fun _ h => h) ?_ ?_
  ·intro i o hi c
   rcases i with _ | _ | _ | _ | _ | _ | _ | _ | _ | i <;> simp at hi <;> (subst hi; intro h; cases h)
  ·have hcells : dD.cells l0 gl ga Bx x (Value.slice AL L.length cL) (Value.slice Aa al.length ca) (W.drewN nd) := ⟨hbl.cell, hc1, (zI HX.out 0).trans rfl, hd1, (zI HX.out 2).trans rfl, (zI HX.out 3).trans rfl, (zI HX.out 4).trans rfl⟩
   have key := dD.region7 (Q := Exit.inBlock 1 (dD.post Post)) l0 x (fun i => if i = 23 then .int .i64 (x : Int) else if i = 24 then .agg #[.string (rd_T67 l0 (x : Int)).f0, .int .i64 (rd_T67 l0 (x : Int)).f1, .int .i64 (rd_T67 l0 (x : Int)).f2, .int .i64 (rd_T67 l0 (x : Int)).f3, .int .i64 (rd_T67 l0 (x : Int)).f4] else if i = 25 then .slice Aa al.length ca else if i = 26 then .pointer (some ⟨Bx, 1, none⟩) else if i = 27 then .int .i64 (rd_T67 l0 (x : Int)).f1 else if i = 28 then .bool true else u i) gl ga Bx AL L cL Aa al ca base ok (W.drewN nd) hcells (Kd.R_drewN hHL nd) hbase hfresh hLn hgl hga hBx ?_
   ·exact key
   intro B2 w3 v3 hv3 hk3 hb3
   obtain ⟨A3, c3, rfl⟩ := Kd.R_slice hv3
   have hg3 : W.grownBy w3 (Value.slice AL L.length cL).ownBlock := (show W.grownBy (W.drewN nd).drew _ from ⟨rfl, rfl, rfl, Nat.le_refl _, fun _ _ _ => rfl⟩).trans hb3.1
   have hlen : (L ++ [(⟨(rd_T67 l0 (x : Int)).f0, (rd_T67 l0 (x : Int)).f1, (rd_T67 l0 (x : Int)).f2, (rd_T67 l0 (x : Int)).f3, (rd_T67 l0 (x : Int)).f4⟩ : S67)]).length = L.length + 1 := by simp
   rw [hlen] at hv3 hb3 ⊢
   exact dD.fine l0 x _ gl ga Bx _ _ _ A3 _ c3 (.slice AL L.length cL) Aa al rb ca w3 (hbl.kept hg3 hgl) (hba.kept hg3 hga) hne (HCA.out w3 hg3) hca hbef (fun a w7 A7 c7 hb7 hv7 => H1.out (by simp) nd w3 A3 c3 w7 A7 c7 hv3 hb3 hb7 hv7)
end

abbrev rV.o0 : Oper := { dst := some 14, op := Op.move (Operand.tmp 0), type := 24, pos := "slices.go:485", after := #[], guard := none }
abbrev rV.o1 : Oper := { dst := some 15, op := Op.move (Operand.tmp 2), type := 3, pos := "slices.go:485", after := #[], guard := none }
abbrev rV.o2 : Oper := { dst := some 16, op := Op.move (Operand.tmp 0), type := 24, pos := "slices.go:485", after := #[{ on := 13, ground := Ground.gcOnly Departure.lateStores }], guard := none }
abbrev rV.o3 : Oper := { dst := some 17, op := Op.move (Operand.tmp 3), type := 3, pos := "slices.go:485", after := #[{ on := 13, ground := Ground.gcOnly Departure.lateStores }], guard := none }
abbrev rV.o4 : Oper := { dst := some 18, op := Op.move (Operand.tmp 0), type := 24, pos := "slices.go:485", after := #[], guard := none }
abbrev rV.o5 : Oper := { dst := some 19, op := Op.move (Operand.tmp 3), type := 3, pos := "slices.go:485", after := #[], guard := none }
abbrev rV.o6 : Oper := { dst := some 20, op := Op.indexAddr 24 (Operand.tmp 18) (Operand.tmp 19), type := 0, pos := "slices.go:485", after := #[{ on := 4, ground := Ground.data }, { on := 5, ground := Ground.data }], guard := none }
abbrev rV.o7 : Oper := { dst := some 21, op := Op.load 67 (Operand.tmp 20), type := 67, pos := "slices.go:485", after := #[{ on := 6, ground := Ground.data }], guard := none }
abbrev rV.o8 : Oper := { dst := some 22, op := Op.move (Operand.tmp 0), type := 24, pos := "slices.go:485", after := #[], guard := none }
abbrev rV.o9 : Oper := { dst := some 23, op := Op.move (Operand.tmp 2), type := 3, pos := "slices.go:485", after := #[], guard := none }
abbrev rV.o10 : Oper := { dst := some 24, op := Op.indexAddr 24 (Operand.tmp 22) (Operand.tmp 23), type := 0, pos := "slices.go:485", after := #[{ on := 8, ground := Ground.data }, { on := 9, ground := Ground.data }], guard := none }
abbrev rV.o11 : Oper := { dst := some 25, op := Op.load 67 (Operand.tmp 24), type := 67, pos := "slices.go:485", after := #[{ on := 10, ground := Ground.data }], guard := none }
abbrev rV.o12 : Oper := { dst := some 26, op := Op.indexAddr 24 (Operand.tmp 14) (Operand.tmp 15), type := 0, pos := "slices.go:485", after := #[{ on := 0, ground := Ground.data }, { on := 1, ground := Ground.data }, { on := 0, ground := Ground.phase }, { on := 1, ground := Ground.phase }, { on := 2, ground := Ground.textOnly Departure.lateStores }, { on := 3, ground := Ground.textOnly Departure.lateStores }, { on := 4, ground := Ground.phase }, { on := 5, ground := Ground.phase }, { on := 6, ground := Ground.phase }, { on := 7, ground := Ground.phase }, { on := 8, ground := Ground.textOnly Departure.lateStores }, { on := 9, ground := Ground.textOnly Departure.lateStores }, { on := 10, ground := Ground.textOnly Departure.lateStoresUnsure }, { on := 11, ground := Ground.phase }], guard := none }
abbrev rV.o13 : Oper := { dst := none, op := Op.store 67 (Operand.tmp 26) (Operand.tmp 21), type := 0, pos := "slices.go:485", after := #[{ on := 12, ground := Ground.data }, { on := 7, ground := Ground.data }, { on := 0, ground := Ground.phase }, { on := 1, ground := Ground.phase }, { on := 2, ground := Ground.textOnly Departure.lateStores }, { on := 3, ground := Ground.textOnly Departure.lateStores }, { on := 4, ground := Ground.phase }, { on := 5, ground := Ground.phase }, { on := 6, ground := Ground.phase }, { on := 7, ground := Ground.phase }, { on := 8, ground := Ground.textOnly Departure.lateStores }, { on := 9, ground := Ground.textOnly Departure.lateStores }, { on := 10, ground := Ground.textOnly Departure.lateStoresUnsure }, { on := 11, ground := Ground.phase }], guard := none }
abbrev rV.o14 : Oper := { dst := some 27, op := Op.indexAddr 24 (Operand.tmp 16) (Operand.tmp 17), type := 0, pos := "slices.go:485", after := #[{ on := 2, ground := Ground.data }, { on := 3, ground := Ground.data }, { on := 0, ground := Ground.phase }, { on := 1, ground := Ground.phase }, { on := 2, ground := Ground.phase }, { on := 3, ground := Ground.phase }, { on := 4, ground := Ground.phase }, { on := 5, ground := Ground.phase }, { on := 6, ground := Ground.phase }, { on := 7, ground := Ground.phase }, { on := 8, ground := Ground.phase }, { on := 9, ground := Ground.phase }, { on := 10, ground := Ground.phase }, { on := 11, ground := Ground.phase }, { on := 12, ground := Ground.phase }, { on := 13, ground := Ground.phase }], guard := none }
abbrev rV.o15 : Oper := { dst := none, op := Op.store 67 (Operand.tmp 27) (Operand.tmp 25), type := 0, pos := "slices.go:485", after := #[{ on := 14, ground := Ground.data }, { on := 11, ground := Ground.data }, { on := 13, ground := Ground.chain }, { on := 0, ground := Ground.phase }, { on := 1, ground := Ground.phase }, { on := 2, ground := Ground.phase }, { on := 3, ground := Ground.phase }, { on := 4, ground := Ground.phase }, { on := 5, ground := Ground.phase }, { on := 6, ground := Ground.phase }, { on := 7, ground := Ground.phase }, { on := 8, ground := Ground.phase }, { on := 9, ground := Ground.phase }, { on := 10, ground := Ground.phase }, { on := 11, ground := Ground.phase }, { on := 12, ground := Ground.phase }, { on := 13, ground := Ground.phase }], guard := none }
abbrev rV.ops : Array Oper := #[rV.o0, rV.o1, rV.o2, rV.o3, rV.o4, rV.o5, rV.o6, rV.o7, rV.o8, rV.o9, rV.o10, rV.o11, rV.o12, rV.o13, rV.o14, rV.o15]

abbrev rV.agg (y : S67) : Value := .agg #[.string y.f0, .int .i64 y.f1, .int .i64 y.f2, .int .i64 y.f3, .int .i64 y.f4]
abbrev rV.act (u : Nat → Value) (v : Value) (t j : Nat) (t14 t15 t16 t17 t18 t19 t20 t21 t22 t23 t24 t25 t26 t27 : Value) : Act := { tmps := #[v, u 1, .int .i64 (t : Int), .int .i64 (j : Int), u 4, u 5, u 6, u 7, u 8, u 9, u 10, u 11, u 12, u 13, t14, t15, t16, t17, t18, t19, t20, t21, t22, t23, t24, t25, t26, t27], defers := [] }
set_option maxRecDepth 100000 in
set_option maxHeartbeats 4000000 in
theorem rV.swap {Q : Exit → Act → World → Prop} (hQp : ∀ c (a : Act) d v w, Q (.panic c) (a.put (some d) v) w → Q (.panic c) a w) (u : Nat → Value) (g n cap t j base : Nat) (ok : Nat → Prop) (xs : List S67) (W : World)
  (HR : Kd.R k67 67 W base ok (.slice (some ⟨g, 0, none⟩) n cap) xs) (ht : t < n) (hj : j < n) (hn : n ≤ 1000)
  (hQ : ∀ (u' : Nat → Value) (W' : World), (∀ i, 1 ≤ i → i ≤ 13 → u' i = u i) → Kd.R k67 67 W' base ok (.slice (some ⟨g, 0, none⟩) n cap) ((xs.set t (rd_T67 xs (j : Int))).set j (rd_T67 xs (t : Int))) → W.grownBy W' (some g) → Q .normal (rV.act u' (.slice (some ⟨g, 0, none⟩) n cap) t j (u' 14) (u' 15) (u' 16) (u' 17) (u' 18) (u' 19) (u' 20) (u' 21) (u' 22) (u' 23) (u' 24) (u' 25) (u' 26) (u' 27)) W') :
  wpAny Try.prog .any rV.ops Q 16 (Array.replicate 16 false) (rV.act u (.slice (some ⟨g, 0, none⟩) n cap) t j (u 14) (u 15) (u 16) (u 17) (u 18) (u 19) (u 20) (u 21) (u 22) (u 23) (u 24) (u 25) (u 26) (u 27)) W := by
 have hti : (t : Int) < (n : Int) := by omega
 have hji : (j : Int) < (n : Int) := by omega
 obtain ⟨ct, hclt, hMt, hct, hft⟩ := Kd.R_elem HR z67 (t : Int) (by omega) hti
 obtain ⟨cj, hclj, hMj, hcj, hfj⟩ := Kd.R_elem HR z67 (j : Int) (by omega) hji
 obtain rfl := k67_openM hMt
 obtain rfl := k67_openM hMj
 have ht0 : W.cell? ⟨g, t * 5, none⟩ = some (.string (rd_T67 xs (t : Int)).f0) := hct 0 _ rfl
 have ht1 : W.cell? ⟨g, t * 5 + 1, none⟩ = some (.int .i64 (rd_T67 xs (t : Int)).f1) := hct 1 _ rfl
 have ht2 : W.cell? ⟨g, t * 5 + 2, none⟩ = some (.int .i64 (rd_T67 xs (t : Int)).f2) := hct 2 _ rfl
 have ht3 : W.cell? ⟨g, t * 5 + 3, none⟩ = some (.int .i64 (rd_T67 xs (t : Int)).f3) := hct 3 _ rfl
 have ht4 : W.cell? ⟨g, t * 5 + 4, none⟩ = some (.int .i64 (rd_T67 xs (t : Int)).f4) := hct 4 _ rfl
 have hj0 : W.cell? ⟨g, j * 5, none⟩ = some (.string (rd_T67 xs (j : Int)).f0) := hcj 0 _ rfl
 have hj1 : W.cell? ⟨g, j * 5 + 1, none⟩ = some (.int .i64 (rd_T67 xs (j : Int)).f1) := hcj 1 _ rfl
 have hj2 : W.cell? ⟨g, j * 5 + 2, none⟩ = some (.int .i64 (rd_T67 xs (j : Int)).f2) := hcj 2 _ rfl
 have hj3 : W.cell? ⟨g, j * 5 + 3, none⟩ = some (.int .i64 (rd_T67 xs (j : Int)).f3) := hcj 3 _ rfl
 have hj4 : W.cell? ⟨g, j * 5 + 4, none⟩ = some (.int .i64 (rd_T67 xs (j : Int)).f4) := hcj 4 _ rfl
 have hg0 : W.frozen? ⟨g, t * 5, none⟩ = false := hft 0
 have hg1 : W.frozen? ⟨g, t * 5 + 1, none⟩ = false := hft 1
 have hg2 : W.frozen? ⟨g, t * 5 + 2, none⟩ = false := hft 2
 have hg3 : W.frozen? ⟨g, t * 5 + 3, none⟩ = false := hft 3
 have hg4 : W.frozen? ⟨g, t * 5 + 4, none⟩ = false := hft 4
 have h14 : ∀ W13 : World, Kd.R k67 67 W13 base ok (.slice (some ⟨g, 0, none⟩) n cap) (xs.set t (rd_T67 xs (j : Int))) → W.grownBy W13 (some g) → wpAny Try.prog .any rV.ops Q 2 #[true, true, true, true, true, true, true, true, true, true, true, true, true, true, false, false] (rV.act u (.slice (some ⟨g, 0, none⟩) n cap) t j (.slice (some ⟨g, 0, none⟩) n cap) (.int .i64 (t : Int)) (.slice (some ⟨g, 0, none⟩) n cap) (.int .i64 (j : Int)) (.slice (some ⟨g, 0, none⟩) n cap) (.int .i64 (j : Int)) (.pointer (some ⟨g, j * 5, none⟩)) (rV.agg (rd_T67 xs (j : Int))) (.slice (some ⟨g, 0, none⟩) n cap) (.int .i64 (t : Int)) (.pointer (some ⟨g, t * 5, none⟩)) (rV.agg (rd_T67 xs (t : Int))) (.pointer (some ⟨g, t * 5, none⟩)) (u 27)) W13 := by
  intro W13 HR13 hg13
  obtain ⟨cq, hclq, hMq, hcq, hfq⟩ := Kd.R_elem HR13 z67 (j : Int) (by omega) hji
  obtain rfl := k67_openM hMq
  have hq0 : W13.cell? ⟨g, j * 5, none⟩ = some (.string (rd_T67 (xs.set t (rd_T67 xs (j : Int))) (j : Int)).f0) := hcq 0 _ rfl
  have hq1 : W13.cell? ⟨g, j * 5 + 1, none⟩ = some (.int .i64 (rd_T67 (xs.set t (rd_T67 xs (j : Int))) (j : Int)).f1) := hcq 1 _ rfl
  have hq2 : W13.cell? ⟨g, j * 5 + 2, none⟩ = some (.int .i64 (rd_T67 (xs.set t (rd_T67 xs (j : Int))) (j : Int)).f2) := hcq 2 _ rfl
  have hq3 : W13.cell? ⟨g, j * 5 + 3, none⟩ = some (.int .i64 (rd_T67 (xs.set t (rd_T67 xs (j : Int))) (j : Int)).f3) := hcq 3 _ rfl
  have hq4 : W13.cell? ⟨g, j * 5 + 4, none⟩ = some (.int .i64 (rd_T67 (xs.set t (rd_T67 xs (j : Int))) (j : Int)).f4) := hcq 4 _ rfl
  have hr0 : W13.frozen? ⟨g, j * 5, none⟩ = false := hfq 0
  have hr1 : W13.frozen? ⟨g, j * 5 + 1, none⟩ = false := hfq 1
  have hr2 : W13.frozen? ⟨g, j * 5 + 2, none⟩ = false := hfq 2
  have hr3 : W13.frozen? ⟨g, j * 5 + 3, none⟩ = false := hfq 3
  have hr4 : W13.frozen? ⟨g, j * 5 + 4, none⟩ = false := hfq 4
  have HP := Kd.R_seg HR13 (j : Int) (by omega) hji (seg := [.string (rd_T67 xs (t : Int)).f0, .int .i64 (rd_T67 xs (t : Int)).f1, .int .i64 (rd_T67 xs (t : Int)).f2, .int .i64 (rd_T67 xs (t : Int)).f3, .int .i64 (rd_T67 xs (t : Int)).f4]) (j := 0) hclq hcq (Nat.le_refl 5) (x' := rd_T67 xs (t : Int)) (k67_mkM _ _ _ _) (fun _ hk => hk)
  have HPa := zK HP
  clear HP hMq hcq hfq hclq
  refine wpAny_take (i := 14) (v := (.pointer (some ⟨g, j * 5, none⟩))) rfl (by kernel_rfl) (by kernel_rfl) (by kernel_rfl) (fun c a w h => hQp c a _ _ w h) (Or.inl ⟨by rfl, by intro w_; go_simp <;> (intro h_; omega)⟩) ?_
  refine wpAny_ready (rs := [15]) (by kernel_rfl) (by simp) ?_
  refine AllReady.cons (o := rV.o15) rfl (fun K hK => ?_) AllReady.nil
  unfold rV.o15
  go_simp
  refine hK _ _ ?_
  refine wpAny_done (by kernel_rfl) ?_ _
  exact hQ (fun i => if i = 14 then (.slice (some ⟨g, 0, none⟩) n cap) else if i = 15 then (.int .i64 (t : Int)) else if i = 16 then (.slice (some ⟨g, 0, none⟩) n cap) else if i = 17 then (.int .i64 (j : Int)) else if i = 18 then (.slice (some ⟨g, 0, none⟩) n cap) else if i = 19 then (.int .i64 (j : Int)) else if i = 20 then (.pointer (some ⟨g, j * 5, none⟩)) else if i = 21 then (rV.agg (rd_T67 xs (j : Int))) else if i = 22 then (.slice (some ⟨g, 0, none⟩) n cap) else if i = 23 then (.int .i64 (t : Int)) else if i = 24 then (.pointer (some ⟨g, t * 5, none⟩)) else if i = 25 then (rV.agg (rd_T67 xs (t : Int))) else if i = 26 then (.pointer (some ⟨g, t * 5, none⟩)) else if i = 27 then (.pointer (some ⟨g, j * 5, none⟩)) else  u i) _ (fun i h1 h2 => by repeat (rw [if_neg (by omega)])) HPa.out.1 (hg13.trans HPa.out.2)
 have h12 : wpAny Try.prog .any rV.ops Q 4 #[true, true, true, true, true, true, true, true, true, true, true, true, false, false, false, false] (rV.act u (.slice (some ⟨g, 0, none⟩) n cap) t j (.slice (some ⟨g, 0, none⟩) n cap) (.int .i64 (t : Int)) (.slice (some ⟨g, 0, none⟩) n cap) (.int .i64 (j : Int)) (.slice (some ⟨g, 0, none⟩) n cap) (.int .i64 (j : Int)) (.pointer (some ⟨g, j * 5, none⟩)) (rV.agg (rd_T67 xs (j : Int))) (.slice (some ⟨g, 0, none⟩) n cap) (.int .i64 (t : Int)) (.pointer (some ⟨g, t * 5, none⟩)) (rV.agg (rd_T67 xs (t : Int))) (u 26) (u 27)) W := by
  have HP := Kd.R_seg HR (t : Int) (by omega) hti (seg := [.string (rd_T67 xs (j : Int)).f0, .int .i64 (rd_T67 xs (j : Int)).f1, .int .i64 (rd_T67 xs (j : Int)).f2, .int .i64 (rd_T67 xs (j : Int)).f3, .int .i64 (rd_T67 xs (j : Int)).f4]) (j := 0) hclt hct (Nat.le_refl 5) (x' := rd_T67 xs (j : Int)) (k67_mkM _ _ _ _) (fun _ hk => hk)
  have HPa := zK HP
  clear HP
  refine wpAny_take (i := 12) (v := (.pointer (some ⟨g, t * 5, none⟩))) rfl (by kernel_rfl) (by kernel_rfl) (by kernel_rfl) (fun c a w h => hQp c a _ _ w h) (Or.inl ⟨by rfl, by intro w_; go_simp <;> (intro h_; omega)⟩) ?_
  refine wpAny_ready (rs := [13]) (by kernel_rfl) (by simp) ?_
  refine AllReady.cons (o := rV.o13) rfl (fun K hK => ?_) AllReady.nil
  unfold rV.o13
  go_simp
  exact hK _ _ (h14 _ HPa.out.1 HPa.out.2)
 refine wpAny_take (i := 0) (v := (.slice (some ⟨g, 0, none⟩) n cap)) rfl (by kernel_rfl) (by kernel_rfl) (by kernel_rfl) (fun c a w h => hQp c a _ _ w h) (Or.inl ⟨by rfl, by intro w_; go_simp <;> (intro h_; omega)⟩) ?_
 refine wpAny_take (i := 1) (v := (.int .i64 (t : Int))) rfl (by kernel_rfl) (by kernel_rfl) (by kernel_rfl) (fun c a w h => hQp c a _ _ w h) (Or.inl ⟨by rfl, by intro w_; go_simp <;> (intro h_; omega)⟩) ?_
 refine wpAny_take (i := 2) (v := (.slice (some ⟨g, 0, none⟩) n cap)) rfl (by kernel_rfl) (by kernel_rfl) (by kernel_rfl) (fun c a w h => hQp c a _ _ w h) (Or.inl ⟨by rfl, by intro w_; go_simp <;> (intro h_; omega)⟩) ?_
 refine wpAny_take (i := 3) (v := (.int .i64 (j : Int))) rfl (by kernel_rfl) (by kernel_rfl) (by kernel_rfl) (fun c a w h => hQp c a _ _ w h) (Or.inl ⟨by rfl, by intro w_; go_simp <;> (intro h_; omega)⟩) ?_
 refine wpAny_take (i := 4) (v := (.slice (some ⟨g, 0, none⟩) n cap)) rfl (by kernel_rfl) (by kernel_rfl) (by kernel_rfl) (fun c a w h => hQp c a _ _ w h) (Or.inl ⟨by rfl, by intro w_; go_simp <;> (intro h_; omega)⟩) ?_
 refine wpAny_take (i := 5) (v := (.int .i64 (j : Int))) rfl (by kernel_rfl) (by kernel_rfl) (by kernel_rfl) (fun c a w h => hQp c a _ _ w h) (Or.inl ⟨by rfl, by intro w_; go_simp <;> (intro h_; omega)⟩) ?_
 refine wpAny_take (i := 6) (v := (.pointer (some ⟨g, j * 5, none⟩))) rfl (by kernel_rfl) (by kernel_rfl) (by kernel_rfl) (fun c a w h => hQp c a _ _ w h) (Or.inl ⟨by rfl, by intro w_; go_simp <;> (intro h_; omega)⟩) ?_
 refine wpAny_take (i := 8) (v := (.slice (some ⟨g, 0, none⟩) n cap)) rfl (by kernel_rfl) (by kernel_rfl) (by kernel_rfl) (fun c a w h => hQp c a _ _ w h) (Or.inl ⟨by rfl, by intro w_; go_simp <;> (intro h_; omega)⟩) ?_
 refine wpAny_take (i := 9) (v := (.int .i64 (t : Int))) rfl (by kernel_rfl) (by kernel_rfl) (by kernel_rfl) (fun c a w h => hQp c a _ _ w h) (Or.inl ⟨by rfl, by intro w_; go_simp <;> (intro h_; omega)⟩) ?_
 refine wpAny_take (i := 10) (v := (.pointer (some ⟨g, t * 5, none⟩))) rfl (by kernel_rfl) (by kernel_rfl) (by kernel_rfl) (fun c a w h => hQp c a _ _ w h) (Or.inl ⟨by rfl, by intro w_; go_simp <;> (intro h_; omega)⟩) ?_
 refine wpAny_ready (rs := [7, 11]) (by kernel_rfl) (by simp) ?_
 refine AllReady.cons (o := rV.o7) rfl (fun K hK => ?_) ?_
 ·unfold rV.o7
  go_simp
  refine hK _ _ ?_
  clear hK K
  refine wpAny_ready (rs := [11]) (by kernel_rfl) (by simp) ?_
  refine AllReady.cons (o := rV.o11) rfl (fun K hK => ?_) AllReady.nil
  unfold rV.o11
  go_simp
  exact hK _ _ h12
 refine AllReady.cons (o := rV.o11) rfl (fun K hK => ?_) ?_
 ·unfold rV.o11
  go_simp
  refine hK _ _ ?_
  clear hK K
  refine wpAny_ready (rs := [7]) (by kernel_rfl) (by simp) ?_
  refine AllReady.cons (o := rV.o7) rfl (fun K hK => ?_) AllReady.nil
  unfold rV.o7
  go_simp
  exact hK _ _ h12
 exact AllReady.nil

theorem rV.wrapI (z : Int) (h0 : 0 ≤ z) (h1 : z ≤ 1000) : IntKind.i64.wrap (z - 1) = z - 1 := by unfold IntKind.wrap; (try simp [IntKind.signed, IntKind.bits]); omega
theorem rV.wrap (z : Int) (h0 : 0 ≤ z) (h1 : z ≤ 1000) : wrap64 (z - 1) = z - 1 := by unfold wrap64; omega
def rV.st (xs : List S67) : Nat → List S67
 | 0 => xs
 | t + 1 => ((rV.st xs t).set t (rd_T67 (rV.st xs t) ((xs.length - 1 - t : Nat) : Int))).set (xs.length - 1 - t) (rd_T67 (rV.st xs t) (t : Int))
theorem rV.len (xs : List S67) (t : Nat) : (rV.st xs t).length = xs.length := by
 induction t with
 | zero => rfl
 | succ t ih => simp [rV.st, ih]
theorem rV.rd (xs : List S67) (k : Nat) (h : k < xs.length) : some (rd_T67 xs (k : Int)) = xs[k]? := by
 have : rd_T67 xs (k : Int) = xs.getD k z67 := rfl
 rw [this, List.getD_eq_getElem?_getD, List.getElem?_eq_getElem h]
 rfl
theorem rV.get (xs : List S67) (t : Nat) : 2 * t ≤ xs.length → ∀ k, k < xs.length → (rV.st xs t)[k]? = if k < t ∨ xs.length ≤ k + t then xs[xs.length - 1 - k]? else xs[k]? := by
 induction t with
 | zero =>
  intro _ k hk
  rw [if_neg (by omega)]
  rfl
 | succ t ih =>
  intro ht k hk
  have hl := rV.len xs t
  have h1 := rV.rd (rV.st xs t) (xs.length - 1 - t) (by omega)
  have h2 := rV.rd (rV.st xs t) t (by omega)
  rw [ih (by omega) _ (by omega)] at h1 h2
  rw [if_neg (by omega)] at h1 h2
  show (((rV.st xs t).set t _).set (xs.length - 1 - t) _)[k]? = _
  by_cases e1 : k = xs.length - 1 - t
  ·subst e1
   rw [List.getElem?_set_self (by simp; omega), h2, if_pos (by omega)]
   congr 1
   omega
  ·rw [List.getElem?_set_ne (by omega)]
   by_cases e2 : k = t
   ·subst e2
    rw [List.getElem?_set_self (by omega), h1, if_pos (by omega)]
   ·rw [List.getElem?_set_ne (by omega), ih (by omega) k hk]
    by_cases c : k < t ∨ xs.length ≤ k + t
    ·rw [if_pos c, if_pos (by omega)]
    ·rw [if_neg c, if_neg (by omega)]
theorem rV.done (xs : List S67) (t : Nat) (h1 : 2 * t ≤ xs.length) (h2 : xs.length ≤ 2 * t + 1) : rV.st xs t = xs.reverse := by
 apply List.ext_getElem?
 intro k
 by_cases hk : k < xs.length
 ·rw [rV.get xs t h1 k hk, List.getElem?_reverse hk]
  split
  ·rfl
  ·congr 1
   omega
 ·rw [List.getElem?_eq_none (by rw [rV.len]; omega), List.getElem?_eq_none (by simp; omega)]
set_option maxRecDepth 100000 in
set_option maxHeartbeats 4000000 in
theorem rV.calls (v : Value) (xs : List S67) (base : Nat) (ok : Nat → Prop) (w : World) (HR : Kd.R k67 67 w base ok v xs) (hn : xs.length ≤ 1000) :
  Calls Try.prog 106 #[v] w fun e w' => (∃ r, e = .returned r) ∧ Kd.R k67 67 w' base ok v xs.reverse ∧ w.grownBy w' v.ownBlock := by
 obtain ⟨A, cap, rfl⟩ := Kd.R_slice HR
 have hw0 : wrap64 ((xs.length : Int) - 1) = (xs.length : Int) - 1 := by unfold wrap64; omega
 have HRa := zK HR
 clear HR
 go_enter Try.func106, Try.ntmps106
 go_wp2
 go_loopw [2, 3] (fun vi vj wr => ∃ t : Nat, 2 * t ≤ xs.length ∧ vi = .int .i64 (t : Int) ∧ vj = .int .i64 ((xs.length : Int) - 1 - (t : Int)) ∧ Kd.R k67 67 wr base ok (.slice A xs.length cap) (rV.st xs t) ∧ w.grownBy wr (Value.slice A xs.length cap).ownBlock)
  (fun vi _ _ => (1000 - intOf vi).toNat)
 case atStart => exact ⟨0, by omega, by simp, by simp [hw0], HRa.out, World.grownBy.refl _ _⟩
 case round =>
  obtain ⟨t, ht, rfl, rfl, hR, hg⟩ := hrel
  have HRr := zK hR
  have HG := zK hg
  clear hR hg
  by_cases hc : (t : Int) < (xs.length : Int) - 1 - (t : Int)
  ·obtain ⟨j, ej⟩ : ∃ j : Nat, (xs.length : Int) - 1 - (t : Int) = (j : Int) := ⟨xs.length - 1 - t, by omega⟩
   rw [ej] at hc ⊢
   have hjn : j = xs.length - 1 - t := by omega
   have hcb := eq_true hc
   have hw1 : wrap64 ((t : Int) + 1) = (t : Int) + 1 := by unfold wrap64; omega
   have hw2 : wrap64 ((j : Int) - 1) = (j : Int) - 1 := rV.wrap _ (by omega) (by omega)
   have hw3 : IntKind.i64.wrap ((j : Int) - 1) = (j : Int) - 1 := rV.wrapI _ (by omega) (by omega)
   have hf1 : 2 * (t + 1) ≤ xs.length := by omega
   have hf2 : (j : Int) - 1 = (xs.length : Int) - 1 - ((t + 1 : Nat) : Int) := by omega
   have hf3 : t < xs.length ∧ j < xs.length := ⟨by omega, by omega⟩
   have hf4 : (1000 - ((t : Int) + 1)).toNat < (1000 - (t : Int)).toNat := by omega
   have hf5 : 0 < (rV.st xs t).length := by rw [rV.len]; omega
   have HJ := zK hjn
   have HF := zK (And.intro hf1 (And.intro hf2 (And.intro hf3 (And.intro hf4 hf5))))
   clear hf1 hf2 hf3 hf4 hf5 hjn ej
   go_wp2
   obtain ⟨ga, ca, ea, hba, hla, cla, hga⟩ := Kd.R_form HRr.out HF.out.2.2.2.2
   injection ea with ea1 ea2 ea3
   subst ea1
   have hl := rV.len xs t
   refine wp_region_any (by kernel_rfl) ?_
   refine rV.swap ?hQp (fun i => if i = 1 then undef else if i = 4 then .slice (some ⟨ga, 0, none⟩) xs.length cap else if i = 5 then .int .i64 (xs.length : Int) else if i = 6 then .int .i64 ((xs.length : Int) - 1) else if i = 7 then .int .i64 (t : Int) else if i = 8 then .int .i64 (j : Int) else if i = 9 then .bool true else if i = 10 then u10 else if i = 11 then u11 else if i = 12 then u12 else if i = 13 then u13 else if i = 14 then u14 else if i = 15 then u15 else if i = 16 then u16 else if i = 17 then u17 else if i = 18 then u18 else if i = 19 then u19 else if i = 20 then u20 else if i = 21 then u21 else if i = 22 then u22 else if i = 23 then u23 else if i = 24 then u24 else if i = 25 then u25 else if i = 26 then u26 else u27) ga xs.length cap t j base ok (rV.st xs t) (World.drew wr) (Kd.R_drew HRr.out) HF.out.2.2.1.1 HF.out.2.2.1.2 hn ?_
   case hQp => exact fun _ _ _ _ _ h => h
   intro u' W' hu hR' hg'
   have hS := zK (show Kd.R k67 67 W' base ok (.slice (some ⟨ga, 0, none⟩) xs.length cap) (rV.st xs (t + 1)) from by unfold rV.st; rw [← HJ.out]; exact hR')
   have hG := zK (HG.out.trans ((show wr.grownBy wr.drew _ from ⟨rfl, rfl, rfl, Nat.le_refl _, fun _ _ _ => rfl⟩).trans hg'))
   have e1 := (hu 1 (by omega) (by omega)).trans (show _ = undef from rfl)
   have e4 := (hu 4 (by omega) (by omega)).trans (show _ = Value.slice (some ⟨ga, 0, none⟩) xs.length cap from rfl)
   have e5 := (hu 5 (by omega) (by omega)).trans (show _ = Value.int .i64 (xs.length : Int) from rfl)
   have e6 := (hu 6 (by omega) (by omega)).trans (show _ = Value.int .i64 ((xs.length : Int) - 1) from rfl)
   unfold rV.act
   rw [e1, e4, e5, e6]
   clear hu e1 e4 e5 e6 hR' hg'
   go_wp2
   go_roundw
   case rel => exact ⟨t + 1, HF.out.1, by simp [hw1], by rw [← HF.out.2.1], hS.out, hG.out⟩
   case measure => simpa [intOf, hw1] using HF.out.2.2.2.1
  ·have hcb := eq_false hc
   go_wp2
   go_end0
   exact ⟨⟨_, rfl⟩, by rw [← rV.done xs t ht (by omega)]; exact HRr.out, HG.out⟩

def impl_DropDead.hand_st (xs : List S67) (out : List Int) : Nat → List S67 × List Int
 | 0 => ([], out)
 | m + 1 => if impl_DropDead.hand_has xs (xs.length - 1 - m) (impl_DropDead.hand_st xs out m).2 = some true then ((impl_DropDead.hand_st xs out m).1 ++ [⟨(rd_T67 xs ((xs.length - 1 - m : Nat) : Int)).f0, (rd_T67 xs ((xs.length - 1 - m : Nat) : Int)).f1, (rd_T67 xs ((xs.length - 1 - m : Nat) : Int)).f2, (rd_T67 xs ((xs.length - 1 - m : Nat) : Int)).f3, (rd_T67 xs ((xs.length - 1 - m : Nat) : Int)).f4⟩], (impl_liveSets.hand_bef xs (xs.length - 1 - m) (impl_DropDead.hand_st xs out m).2).getD []) else impl_DropDead.hand_st xs out m
/-- The round copes with whatever wanted registers. -/
def impl_DropDead.hand_ok (xs : List S67) (out : List Int) : Prop := impl_liveSets.hand_ok xs out ∧ ∀ i, i < xs.length → ∀ L, impl_liveSets.hand_want L → ∃ b, impl_DropDead.hand_has xs i L = some b

theorem dD.kept {α : Type} {d : Kd α} {e base : Nat} {ok : Nat → Prop} {W W' : World} {v : Value} {xs : List α} {row : Option Nat} (h : d.R e W base ok v xs) (hg : W.grownBy W' row) (hr : ∀ r q cells, row = some r → W.heap[r]? = some (.cells cells q (0, 0)) → q ∉ e :: d.E) : d.R e W' base ok v xs := by
 refine Kd.R_mono (Kd.R_move (Kd.R_bound h) (fun k hk => ?_)) (fun _ hk => hk.1)
 obtain ⟨_, _, hlt, q, hq, cells, hc⟩ := hk
 exact hg.block k hlt (fun e => hr k q cells e.symm hc hq)
theorem dD.far {α : Type} {d : Kd α} {e base g t : Nat} {ok : Nat → Prop} {W : World} {v u u' : Value} {xs : List α} (h : d.R e W base ok v xs) (hb : Boxed W g t u) (ht : t ∉ e :: d.E) : d.R e (W.setCell ⟨g, 0, none⟩ u') base ok v xs := by
 refine Kd.R_mono (Kd.R_far (Kd.R_bound h) (fun k hk => ?_) u') (fun _ hk => hk.1)
 obtain ⟨_, _, hlt, q, hq, cells, hc⟩ := hk
 rintro rfl
 have : W.heap[k]? = some (.cells #[u] t (0, 0)) := hb
 rw [this] at hc
 injection hc with hc
 injection hc with _ hc
 exact ht (hc ▸ hq)
/-- What holds between the rounds. -/
def dD.inv (l0 : List S67) (l1 : List Int) (w : World) (A0 : Option Addr) (c0 gl ga Bs : Nat) (pre : List (bwiter.handA l0.length)) (W : World) : Prop :=
 (∃ (AL : Option Addr) (L : List S67) (cL : Nat) (Aa : Option Addr) (al : List Int) (ca : Nat), Boxed W gl 24 (.slice AL L.length cL) ∧ Boxed W ga 40 (.slice Aa al.length ca) ∧ Kd.R k67 67 W w.heap.size (fun _ => True) (.slice AL L.length cL) L ∧ Kd.R (Kd.int .i64) 3 W w.heap.size (fun _ => True) (.slice Aa al.length ca) al ∧ impl_liveSets.hand_want al ∧ L.length ≤ pre.length ∧ ∀ m, m ≤ l0.length → pre = bwiter.hand_from l0.length m → impl_DropDead.hand_st l0 l1 m = (L, al)) ∧ Boxed W Bs 24 (.slice A0 l0.length c0) ∧ Below w.heap.size w W
theorem dD.step {l0 : List S67} {l1 : List Int} {pre : List (bwiter.handA l0.length)} {x : bwiter.handA l0.length} {L : List S67} {al : List Int} (h : ∀ m, m ≤ l0.length → pre = bwiter.hand_from l0.length m → impl_DropDead.hand_st l0 l1 m = (L, al)) (m : Nat) (hm : m ≤ l0.length) (e : pre ++ [x] = bwiter.hand_from l0.length m) : ∃ t, m = t + 1 ∧ x.1 = l0.length - 1 - t ∧ impl_DropDead.hand_st l0 l1 t = (L, al) := by
 have hx := x.2
 cases m with
 | zero => cases pre <;> cases e
 | succ m =>
  rw [bwiter.hand_from, dif_pos (by omega)] at e
  obtain ⟨e1, e2⟩ := List.append_inj' e rfl
  have e3 : x.1 = l0.length - 1 - m := by
   have := congrArg (fun l => l.map (fun y : bwiter.handA l0.length => y.1)) e2
   simpa using this
  exact ⟨m, rfl, e3, h m (by omega) e1⟩
theorem dD.fin0 {l0 : List S67} {l1 : List Int} {w : World} {A0 : Option Addr} {c0 gl ga Bs B : Nat} {pre : List (bwiter.handA l0.length)} {x : bwiter.handA l0.length} {W : World} {AL : Option Addr} {L : List S67} {cL : Nat} {Aa : Option Addr} {al : List Int} {ca : Nat}
  (h1 : Boxed W gl 24 (.slice AL L.length cL)) (h2 : Boxed W ga 40 (.slice Aa al.length ca)) (h3 : Kd.R k67 67 W w.heap.size (fun _ => True) (.slice AL L.length cL) L) (h4 : Kd.R (Kd.int .i64) 3 W w.heap.size (fun _ => True) (.slice Aa al.length ca) al) (h5 : impl_liveSets.hand_want al) (h6 : L.length ≤ pre.length) (h7 : ∀ m, m ≤ l0.length → pre = bwiter.hand_from l0.length m → impl_DropDead.hand_st l0 l1 m = (L, al)) (h8 : Boxed W Bs 24 (.slice A0 l0.length c0)) (h9 : Below w.heap.size w W)
  (hb : impl_DropDead.hand_has l0 x.1 al = some false) (nd : Nat) :
  KeepsFrom B W (W.drewN nd) ∧ bwiter.hand_keep w.heap.size Bs W (W.drewN nd) ∧ dD.inv l0 l1 w A0 c0 gl ga Bs (pre ++ [x]) (W.drewN nd) := by
 refine ⟨⟨Nat.le_refl _, fun _ _ _ h _ => h⟩, ⟨⟨rfl, rfl, rfl, Nat.le_refl _, fun _ _ => rfl⟩, rfl⟩, ⟨AL, L, cL, Aa, al, ca, h1, h2, Kd.R_drewN h3 nd, Kd.R_drewN h4 nd, h5, by simp; omega, fun m hm e => ?_⟩, h8, ⟨h9.os, h9.tape, h9.output, h9.size, h9.block⟩⟩
 obtain ⟨t, rfl, e3, hst⟩ := dD.step h7 m hm e
 rw [impl_DropDead.hand_st, hst, ← e3]
 dsimp only
 rw [hb, if_neg (by decide)]
theorem dD.fin1 {l0 : List S67} {l1 : List Int} {w : World} {A0 : Option Addr} {c0 gl ga Bs B : Nat} {pre : List (bwiter.handA l0.length)} {x : bwiter.handA l0.length} {W : World} {AL : Option Addr} {L : List S67} {cL : Nat} {Aa : Option Addr} {al rb : List Int} {ca : Nat}
  (h1 : Boxed W gl 24 (.slice AL L.length cL)) (h2 : Boxed W ga 40 (.slice Aa al.length ca)) (h3 : Kd.R k67 67 W w.heap.size (fun _ => True) (.slice AL L.length cL) L) (h4 : Kd.R (Kd.int .i64) 3 W w.heap.size (fun _ => True) (.slice Aa al.length ca) al) (h6 : L.length ≤ pre.length) (h7 : ∀ m, m ≤ l0.length → pre = bwiter.hand_from l0.length m → impl_DropDead.hand_st l0 l1 m = (L, al)) (h8 : Boxed W Bs 24 (.slice A0 l0.length c0)) (h9 : Below w.heap.size w W) (hgl : w.heap.size ≤ gl) (hga : w.heap.size ≤ ga) (hne : gl ≠ ga) (hne1 : gl ≠ Bs) (hne2 : ga ≠ Bs)
  (hb : impl_DropDead.hand_has l0 x.1 al = some true) (hbef : impl_liveSets.hand_bef l0 x.1 al = some rb) (hwr : impl_liveSets.hand_want rb) (nd : Nat) (w3 : World) (A3 : Option Addr) (c3 : Nat) (w7 : World) (A7 : Option Addr) (c7 : Nat)
  (k1 : Kd.R k67 67 w3 w.heap.size (fun _ => True) (.slice A3 (L.length + 1) c3) (L ++ [⟨(rd_T67 l0 (x.1 : Int)).f0, (rd_T67 l0 (x.1 : Int)).f1, (rd_T67 l0 (x.1 : Int)).f2, (rd_T67 l0 (x.1 : Int)).f3, (rd_T67 l0 (x.1 : Int)).f4⟩])) (k2 : dD.grown (W.drewN nd).drew (.slice A3 (L.length + 1) c3) (.slice AL L.length cL) w3) (k3 : Below w3.heap.size w3 w7) (k4 : Kd.R (Kd.int .i64) 3 w7 w3.heap.size (fun _ => True) (.slice A7 rb.length c7) rb) :
  KeepsFrom B W ((w7.setCell ⟨gl, 0, none⟩ (.slice A3 (L.length + 1) c3)).setCell ⟨ga, 0, none⟩ (.slice A7 rb.length c7)) ∧ bwiter.hand_keep w.heap.size Bs W ((w7.setCell ⟨gl, 0, none⟩ (.slice A3 (L.length + 1) c3)).setCell ⟨ga, 0, none⟩ (.slice A7 rb.length c7)) ∧ dD.inv l0 l1 w A0 c0 gl ga Bs (pre ++ [x]) ((w7.setCell ⟨gl, 0, none⟩ (.slice A3 (L.length + 1) c3)).setCell ⟨ga, 0, none⟩ (.slice A7 rb.length c7)) := by
 have hg : W.grownBy w3 (Value.slice AL L.length cL).ownBlock := (show W.grownBy (W.drewN nd).drew _ from ⟨rfl, rfl, rfl, Nat.le_refl _, fun _ _ _ => rfl⟩).trans k2.1
 obtain ⟨inner, hown⟩ := Kd.R_own h3
 have n1 := h1.not_row (by decide) hown
 have n2 := h2.not_row (by decide) hown
 have n3 := h8.not_row (by decide) hown
 have b1 : Boxed w7 gl 24 (.slice AL L.length cL) := (k3.block _ (h1.kept hg n1).lt).trans (h1.kept hg n1)
 have b2 : Boxed w7 ga 40 (.slice Aa al.length ca) := (k3.block _ (h2.kept hg n2).lt).trans (h2.kept hg n2)
 have b3 : Boxed w7 Bs 24 (.slice A0 l0.length c0) := (k3.block _ (h8.kept hg n3).lt).trans (h8.kept hg n3)
 have d1 : Boxed (w7.setCell ⟨gl, 0, none⟩ (.slice A3 (L.length + 1) c3)) gl 24 (.slice A3 (L.length + 1) c3) := b1.set _
 have d2 := b2.other (fun e => hne e.symm) (.slice A3 (L.length + 1) c3)
 have d3 := b3.other (fun e => hne1 e.symm) (.slice A3 (L.length + 1) c3)
 have hrow : ∀ k, (Value.slice AL L.length cL).ownBlock = some k → w.heap.size ≤ k := fun k e => ((Kd.R_bound h3).1 k e).2.1
 have hB3 : Below w.heap.size W w3 := (Below.refl w.heap.size W).grown hg h9.size (fun k e => hrow k e)
 have hB7 : Below w.heap.size W w7 := hB3.trans (k3.mono (Nat.le_trans h9.size hg.size))
 have hBe : Below w.heap.size W ((w7.setCell ⟨gl, 0, none⟩ (.slice A3 (L.length + 1) c3)).setCell ⟨ga, 0, none⟩ (.slice A7 rb.length c7)) := (hB7.setCell (p := ⟨gl, 0, none⟩) hgl _).setCell (p := ⟨ga, 0, none⟩) hga _
 have r1 : Kd.R k67 67 w7 w.heap.size (fun _ => True) (.slice A3 (L.length + 1) c3) _ := Kd.R_below k1 k3
 have r2 : Kd.R (Kd.int .i64) 3 w7 w.heap.size (fun _ => True) (.slice A7 rb.length c7) rb := Kd.R_lower k4 (Nat.le_trans h9.size hg.size)
 have hlen : (L ++ [(⟨(rd_T67 l0 (x.1 : Int)).f0, (rd_T67 l0 (x.1 : Int)).f1, (rd_T67 l0 (x.1 : Int)).f2, (rd_T67 l0 (x.1 : Int)).f3, (rd_T67 l0 (x.1 : Int)).f4⟩ : S67)]).length = L.length + 1 := by simp
 refine ⟨⟨Nat.le_trans hg.size (Nat.le_trans k3.size (by simp [World.setCell])), fun k o _ ho hc => ?_⟩, ⟨hBe, ?_⟩, ⟨A3, _, c3, A7, rb, c7, by rw [hlen]; exact d1.other hne _, d2.set _, by rw [hlen]; exact dD.far (dD.far r1 b1 (by decide)) d2 (by decide), dD.far (dD.far r2 b1 (by decide)) d2 (by decide), hwr, by simp; omega, fun m hm e => ?_⟩, d3.other (fun e => hne2 e.symm) _, h9.trans hBe⟩
 ·have hk : k < W.heap.size := (Array.getElem?_eq_some_iff.1 ho).1
  have hnc : ∀ cells t, W.heap[k]? ≠ some (.cells cells t (0, 0)) := fun cells t e => by
   rw [e] at ho
   cases ho
   cases hc
  have g1 : k ≠ gl := fun e => hnc _ _ (e ▸ h1)
  have g2 : k ≠ ga := fun e => hnc _ _ (e ▸ h2)
  have g3 : some k ≠ (Value.slice AL L.length cL).ownBlock := fun e => by
   obtain ⟨cells, hc'⟩ := own_typed hown k e.symm
   exact hnc _ _ hc'
  rw [Below.heap_setCell _ ⟨ga, 0, none⟩ _ k g2, Below.heap_setCell _ ⟨gl, 0, none⟩ _ k g1, k3.block k (Nat.lt_of_lt_of_le hk hg.size), hg.block k hk g3]
  exact ho
 ·exact (d3.other (fun e => hne2 e.symm) _).trans (Eq.symm h8)
 ·obtain ⟨t, rfl, e3, hst⟩ := dD.step h7 m hm e
  rw [impl_DropDead.hand_st, hst, ← e3]
  dsimp only
  rw [hb, if_pos rfl, hbef]
  rfl

section
attribute [local go_sem] Oper.semAt_some
set_option maxRecDepth 100000 in
set_option maxHeartbeats 8000000 in
theorem impl_DropDead.hand_S (k : Nat) (A0 : Option Addr) (c0 : Nat) (l0 : List (S67)) (A1 : Option Addr) (c1 : Nat) (l1 : List Int) (w : World) (hr0 : Kd.C k67 w A0 l0.length l0) (hc0 : l0.length ≤ c0) (hr1 : Kd.C (Kd.int .i64) w A1 l1.length l1) (hc1 : l1.length ≤ c1) (h60 : impl_IsCode.f k l0 = some true) (h94 : impl_areWanted.f k l1 = some true) (hok : impl_DropDead.hand_ok l0 l1) :
  Calls Try.prog 56 #[.slice A0 l0.length c0, .slice A1 l1.length c1] w fun e w' => ∃ v0_ : Value, e = .returned (.tuple #[v0_, .bool true]) ∧ Kd.R k67 67 w' w.heap.size (fun _ => True) v0_ (impl_DropDead.hand_st l0 l1 l0.length).1.reverse ∧ Below w.heap.size w w' := by
 obtain ⟨⟨hn, hn1, hw1, hcl⟩, hhas⟩ := hok
 have hcl1 : slices_Clone_int_int.f l1 = some l1 := by
  unfold slices_Clone_int_int.f
  rw [Option.bind_some, if_pos (by simp; omega), List.nil_append]
 refine (callsIn_wide (n := 8)).1 ?_
 refine callsIn_of_wp_marks Try.func56 rfl trivial ?_ rfl
 simp only [Try.ntmps56, List.size_toArray, List.length_cons, List.length_nil, Nat.reduceAdd, Nat.reduceSub, Array.replicate_succ, Array.replicate_zero, List.push_toArray, List.append_toArray, List.nil_append, List.cons_append]
 refine wpIn_wide.2 ?_
 have HB := zK (Below.refl w.heap.size w)
 have HR0 := zK hr0
 have HR1 := zK hr1
 have HHAS := zK hhas
 have HCL := zK hcl
 clear hhas hcl
 go_wp2_with (first
  | (go_at_call 60; refine (impl_IsCode.calls k A0 c0 l0 true _ ?_ hc0 h60).mono ?_; exact HR0.out; rintro e w8 ⟨rfl, hb8⟩; have hbw := zK hb8; clear hb8)
  | (go_at_call 94; refine (impl_areWanted.calls k A1 c1 l1 true _ ?_ hc1 h94).mono ?_; exact Kd.C_below HR1.out hbw.out; rintro e w9 ⟨rfl, ⟨nd, rfl⟩⟩)
  | (go_at_call 79; refine (slices_Clone_int_int.calls A1 c1 l1 l1 _ ?_ hc1 hcl1).mono ?_; exact Kd.C_alloc (Kd.C_drewN (Kd.C_below HR1.out hbw.out) _) _; rintro e w1 ⟨v1, rfl, hv1, hb1⟩; obtain ⟨Ao, co, rfl⟩ := Kd.R_slice hv1; have HV1 := zK hv1; have HB1 := zK hb1; clear hv1 hb1)
  | (go_at_call 103; refine (callsIn_wide.1 (bwiter.hand_make Fence.wide 8 trivial rfl A0 l0.length c0 _)).mono ?_; rintro e w' ⟨rfl, rfl⟩))
 refine (wpIn_wide (n := 8)).1 ?_
 obtain ⟨w2, hw2⟩ : ∃ w2, w2 = (w1.alloc (.cells #[.slice (some ⟨w8.heap.size, 0, none⟩) 0 0] 24)).alloc (.cells #[.slice Ao l1.length co] 40) := ⟨_, rfl⟩
 have hsz : w2.heap.size = w1.heap.size + 1 + 1 := by rw [hw2]; simp
 have hb8 : Below w.heap.size w w8 := hbw.out
 have hb1 : Below (w8.heap.size + 1) ((w8.drewN nd).alloc (Obj.cells #[] 67)) w1 := by have := HB1.out; simpa using this
 have hnew : w1.heap[w8.heap.size]? = some (.cells #[] 67 (0, 0)) := (hb1.block _ (Nat.lt_succ_self _)).trans (blk_new (w8.drewN nd) _)
 have hBw1 : Below w.heap.size w w1 := ((zB hb8 nd).alloc hb8.size _).trans (hb1.mono (Nat.le_trans hb8.size (Nat.le_succ _)))
 have hB2 : Below w.heap.size w w2 := by rw [hw2]; exact (hBw1.alloc hBw1.size _).alloc (by have := hBw1.size; simp; omega) _
 have b1 : Boxed w2 w1.heap.size 24 (.slice (some ⟨w8.heap.size, 0, none⟩) 0 0) := by rw [hw2]; exact (Boxed.new w1 24 _).alloc _
 have b2 : Boxed w2 (w1.heap.size + 1) 40 (.slice Ao l1.length co) := by rw [hw2]; exact by simpa using Boxed.new (w1.alloc (.cells #[.slice (some ⟨w8.heap.size, 0, none⟩) 0 0] 24)) 40 (.slice Ao l1.length co)
 have hold : ∀ k, k < w1.heap.size → w2.heap[k]? = w1.heap[k]? := fun k hk => by rw [hw2]; exact (zA (zA (Below.refl w1.heap.size w1) _) _).block k hk
 have hlt8 : w8.heap.size < w1.heap.size := (Array.getElem?_eq_some_iff.1 hnew).1
 have rL : Kd.R k67 67 w2 w.heap.size (fun _ => True) (.slice (some ⟨w8.heap.size, 0, none⟩) 0 0) [] := by
  refine ⟨fun _ _ => trivial, [], ⟨by simp, .inr ⟨w8.heap.size, 0, #[], by simp, hb8.size, (hold _ hlt8).trans hnew, by simp, by unfold maxLen; omega, by simp, by simp⟩⟩, ?_, fun j p hj => by cases hj⟩
  simp
 have rA : Kd.R (Kd.int .i64) 3 w2 w.heap.size (fun _ => True) (.slice Ao l1.length co) l1 := by
  have h := Kd.R_lower (base' := w.heap.size) HV1.out (by have := hb8.size; simp; omega)
  rw [hw2]
  exact Kd.R_alloc (Kd.R_alloc h _) _
 have hI0 : dD.inv l0 l1 w A0 c0 w1.heap.size (w1.heap.size + 1) w2.heap.size [] (w2.alloc (.cells #[.slice A0 l0.length c0] 24)) := by
  refine ⟨⟨_, [], 0, Ao, l1, co, b1.alloc _, b2.alloc _, Kd.R_alloc rL _, Kd.R_alloc rA _, hw1, Nat.le_refl _, fun m hm e => ?_⟩, Boxed.new w2 24 _, hB2.alloc hB2.size _⟩
  have := congrArg List.length e
  rw [bwiter.hand_from_len _ _ hm] at this
  obtain rfl : m = 0 := this.symm
  rfl
 have hg1 : w.heap.size ≤ w1.heap.size := hBw1.size
 rw [← hw2, show w1.heap.size + 1 + 1 = w2.heap.size from hsz.symm]
 have hga : w1.heap.size + 1 < w2.heap.size := by omega
 have hne : w1.heap.size ≠ w1.heap.size + 1 := by omega
 have hgl2 : w1.heap.size < w2.heap.size := by omega
 have hga2 : w.heap.size ≤ w1.heap.size + 1 := by omega
 generalize w1.heap.size + 1 = ga at hI0 hga hne hga2 b2 ⊢
 generalize w1.heap.size = gl at hI0 hne hgl2 hg1 b1 ⊢
 clear hold hlt8 hnew HB1 HV1 hb1 b1 b2 rL rA hsz hw2
 refine wpIn_rangeFunc_ownH (n := 8) (F := Fence.wide) rfl (by decide) (gf := 151) (lb := #[.pointer (some ⟨w2.heap.size, 0, none⟩)]) rfl trivial (enters_of Try.func151 (by kernel_rfl) rfl)
  (bwiter.hand_stops Fence.wide 7 trivial rfl (by decide) w2.heap.size c0 A0 l0 w (w2.alloc (.cells #[.slice A0 l0.length c0] 24)) (by omega) hr0 (hB2.alloc hB2.size _) (Boxed.new w2 24 _).cell (by simp)) bwiter.hand_keep_t (bwiter.hand_keep_b (by have := hB2.size; simp; omega) (by simp)) (Below.refl _ _) (fun _ => rfl)
  (fun pre W => dD.inv l0 l1 w A0 c0 gl ga w2.heap.size pre W)
  (fun _ _ _ => False)
  ?_ (fun _ _ _ _ _ hs _ _ => hs) ?_
  (fun x a' W => ∃ (Bx : Nat) (v : Value), Boxed W gl 24 v ∧ some Bx ≠ v.ownBlock ∧ W.heap[Bx]? = some (.cells #[.string (rd_T67 l0 (x.1 : Int)).f0, .int .i64 (rd_T67 l0 (x.1 : Int)).f1, .int .i64 (rd_T67 l0 (x.1 : Int)).f2, .int .i64 (rd_T67 l0 (x.1 : Int)).f3, .int .i64 (rd_T67 l0 (x.1 : Int)).f4] 67 (0, 0)) ∧ a' = dD.act l0 (fun i => if i = 0 then .slice A0 l0.length c0 else if i = 1 then .slice A1 l1.length c1 else if i = 4 then .slice none 0 0 else if i = 5 then .bool false else if i = 10 then .slice A0 l0.length c0 else if i = 11 then .bool true else if i = 12 then .bool false else if i = 13 then .bool false else if i = 14 then .slice A1 l1.length c1 else if i = 15 then .bool true else if i = 16 then .bool false else if i = 17 then .bool false else if i = 18 then .slice (some ⟨w8.heap.size, 0, none⟩) 0 0 else if i = 19 then .slice A1 l1.length c1 else if i = 20 then .slice Ao l1.length co else if i = 21 then .slice A0 l0.length c0 else if i = 22 then .func (.func 151) #[] #[.pointer (some ⟨w2.heap.size, 0, none⟩)] else undef) gl ga Bx x.1)
  ?_ ?_ ?_ ?_ ?_
 ·intro s W W' row hs hg hr
  obtain ⟨⟨AL, L, cL, Aa, al, ca, i1, i2, i3, i4, i5, i6, i7⟩, i8, i9⟩ := hs
  have hq : ∀ r q cells, row = some r → W.heap[r]? = some (.cells cells q (0, 0)) → False := fun r q cells e hc => by
   obtain ⟨_, o, ho, hf⟩ := hr r e
   rw [hc] at ho
   cases ho
   cases hf
  exact ⟨⟨AL, L, cL, Aa, al, ca, impl_liveSets.hand_blk i1 hg hr, impl_liveSets.hand_blk i2 hg hr, dD.kept i3 hg (fun r q cells e hc => (hq r q cells e hc).elim), dD.kept i4 hg (fun r q cells e hc => (hq r q cells e hc).elim), i5, i6, i7⟩, impl_liveSets.hand_blk i8 hg hr, ownFrom_below (β := Unit) (Nat.le_refl _) (by have := hB2.size; simp; omega) () W W' row i9 hg hr⟩
 ·exact hI0
 ·intro x a' s W W' row hs hg hr
  obtain ⟨Bx, v, j1, j2, j3, j4⟩ := hs
  exact ⟨Bx, v, impl_liveSets.hand_blk j1 hg hr, j2, impl_liveSets.hand_blk j3 hg hr, j4⟩
 ·intro l pre x W K hi hKK
  obtain ⟨⟨AL, L, cL, Aa, al, ca, i1, i2, i3, i4, i5, i6, i7⟩, i8, i9⟩ := hi
  simp only [bwiter.hand_encs]
  have HI := zK i1
  have hbd := (Kd.R_bound i3).1
  gi_wp2
  exact hKK _ _ ((KeepsOthers.alloc _ _).from _) ⟨(Below.refl w.heap.size W).alloc i9.size _, Below.heap_alloc _ _ _ i8.lt⟩ ⟨⟨AL, L, cL, Aa, al, ca, i1.alloc _, i2.alloc _, Kd.R_alloc i3 _, Kd.R_alloc i4 _, i5, i6, i7⟩, i8.alloc _, i9.alloc i9.size _⟩ ⟨W.heap.size, _, i1.alloc _, fun e => by have := (hbd _ e.symm).2.2.1; omega, blk_new _ _, rfl⟩
 ·rintro l pre x a' W hl hrr ⟨⟨AL, L, cL, Aa, al, ca, i1, i2, i3, i4, i5, i6, i7⟩, i8, i9⟩ ⟨Bx, v, j1, j2, j3, rfl⟩ hlt
  have hx := x.2
  have hv : v = .slice AL L.length cL := by
   have e1 : W.heap[gl]? = some (.cells #[v] 24 (0, 0)) := j1
   have e2 : W.heap[gl]? = some (.cells #[.slice AL L.length cL] 24 (0, 0)) := i1
   rw [e1] at e2
   injection e2 with e2
   injection e2 with e2
   injection e2 with e2
   injection e2 with e2
  subst hv
  obtain ⟨b, hb⟩ := HHAS.out x.1 hx al i5
  obtain ⟨rb, hbef, hwr⟩ := HCL.out x.1 hx al i5
  obtain ⟨inner, hown⟩ := Kd.R_own i3
  obtain ⟨Aa', ca', ea, hca, hCa⟩ := Kd.R_reads i4
  injection ea with ea1 ea2 ea3
  subst ea1
  subst ea3
  have hCg : ∀ w3, W.grownBy w3 (Value.slice AL L.length cL).ownBlock → Kd.C (Kd.int .i64) w3 Aa al.length al := fun w3 hg => by
   have h := dD.kept i4 hg (fun r q cells e hc => by
    obtain ⟨cells', hc'⟩ := own_typed hown r e
    rw [hc] at hc'
    injection hc' with hc'
    injection hc' with _ hq
    subst hq
    decide)
   exact (Kd.R_reads' h).2.2
  exact wpIn_mono (dD.body (As := _) (Bo := _) rfl l0 x.1 l _ gl ga Bx AL L cL Aa al rb ca w.heap.size (fun _ => True) b W _ i1 i2 hne j3 i3 i9.size (fun _ _ => trivial) (by omega) (i1.not_row (by decide) hown) (i2.not_row (by decide) hown) j2 hCg hca hb hbef
   (fun hbf nd => dD.fin0 i1 i2 i3 i4 i5 i6 i7 i8 i9 (hbf ▸ hb) nd)
   (fun hbt nd w3 A3 c3 w7 A7 c7 k1 k2 k3 k4 => dD.fin1 i1 i2 i3 i4 i6 i7 i8 i9 hg1 hga2 hne (by omega) (by omega) (hbt ▸ hb) hbef hwr nd w3 A3 c3 w7 A7 c7 k1 k2 k3 k4)) (fun e a w hq => by cases e <;> first | exact hq | exact hq.elim)
 ·rintro D ys W hD rfl ⟨⟨AL, L, cL, Aa, al, ca, i1, i2, i3, i4, i5, i6, i7⟩, i8, i9⟩ hKd
  have hcc := i1.cell
  have hst := i7 l0.length (Nat.le_refl _) rfl
  have hLn : L.length ≤ 1000 := by rw [bwiter.hand_from_len _ _ (Nat.le_refl _)] at i6; omega
  obtain ⟨inner, hown⟩ := Kd.R_own i3
  have n1 := i1.not_row (by decide) hown
  have HR := zK i3
  have H1 := zK i1
  have H9 := zK i9
  have HST := zK hst
  clear i1 i2 i3 i4 i5 i6 i7 i8 i9 hst
  go_wp2_with (go_at_call 106; refine (rV.calls _ L w.heap.size (fun _ => True) _ HR.out hLn).mono ?_; rintro e w9 ⟨⟨r9, rfl⟩, hR9, hg9⟩; have hc9 := (H1.out.kept hg9 n1).cell)
  have hbd := (Kd.R_bound HR.out).1
  have hneD : some D ≠ (Value.slice AL L.length cL).ownBlock := fun e => by
   obtain ⟨cells, hc'⟩ := own_typed hown D e.symm
   rw [hKd] at hc'
   cases hc'
  have hKd9 := (hg9.block D (Array.getElem?_eq_some_iff.1 hKd).1 hneD).trans hKd
  have hB9 : Below w.heap.size w w9 := H9.out.grown hg9 H9.out.size (fun k e => (hbd k e).2.1)
  refine ⟨by simp, .inl ⟨_, _, rfl, run_takeDeferred hKd9, ?_⟩⟩
  refine ⟨_, results_tmp2 rfl _ _ _, _, rfl, ?_, hB9.trans (belowK_b (w := w) (Nat.le_refl _) w9 D _ _ (Nat.le_trans hB2.size (Nat.le_trans (by simp) hD)) hKd9 rfl rfl)⟩
  rw [HST.out]
  exact dD.kept hR9 (grownBy_putObj' w9 D _) (fun r q cells e hc => by
   cases e
   rw [hKd9] at hc
   cases hc)
 ·intro D c pre W _ _ h _
  exact h.elim
end

noncomputable section
open Classical in
def impl_DropDead.f (k : Nat) (l0 : List (S67)) (l1 : List Int) : Option ((List (S67)) × Bool) := (impl_IsCode.f k l0).bind fun b1 => if b1 = true then ((impl_areWanted.f k l1).bind fun b2 => if b2 = true then (if impl_DropDead.hand_ok l0 l1 then some ((impl_DropDead.hand_st l0 l1 l0.length).1.reverse, true) else none) else some ([], false)) else some ([], false)
theorem impl_DropDead.mono : ∀ a0 a1 k, LeO (impl_DropDead.f k a0 a1) (impl_DropDead.f (k + 1) a0 a1) := by
 intro a0 a1 k
 unfold impl_DropDead.f
 refine LeO.bind (impl_IsCode.mono _ _) (fun _ => ?_)
 refine LeO.ite ?_ (LeO.refl _)
 exact LeO.bind (impl_areWanted.mono _ _) (fun _ => LeO.refl _)
set_option maxRecDepth 100000 in
set_option maxHeartbeats 4000000 in
theorem impl_DropDead.calls (k : Nat) (A0 : Option Addr) (c0 : Nat) (l0 : List (S67)) (A1 : Option Addr) (c1 : Nat) (l1 : List Int) (r1 : List (S67)) (r2 : Bool) (w : World) (hr0 : Kd.C k67 w A0 l0.length l0) (hc0 : l0.length ≤ c0) (hr1 : Kd.C (Kd.int .i64) w A1 l1.length l1) (hc1 : l1.length ≤ c1) (h : impl_DropDead.f k l0 l1 = some (r1, r2)) :
  Calls Try.prog 56 #[.slice A0 l0.length c0, .slice A1 l1.length c1] w fun e w' => ∃ v0_ : Value, e = .returned (.tuple #[v0_, .bool r2]) ∧ Kd.R k67 67 w' w.heap.size (fun _ => True) v0_ r1 ∧ Below w.heap.size w w' := by
 unfold impl_DropDead.f at h
 obtain ⟨b1, h60, h⟩ := Option.bind_eq_some_iff.mp h
 have HR0 := zK hr0
 have HR1 := zK hr1
 cases b1 with
 | true =>
  rw [if_pos rfl] at h
  obtain ⟨b2, h94, h⟩ := Option.bind_eq_some_iff.mp h
  cases b2 with
  | true =>
   rw [if_pos rfl] at h
   by_cases hok : impl_DropDead.hand_ok l0 l1
   ·rw [if_pos hok] at h
    have h := Option.some.inj h
    injection h with e1 e2
    subst e1
    subst e2
    exact impl_DropDead.hand_S k A0 c0 l0 A1 c1 l1 w hr0 hc0 hr1 hc1 h60 h94 hok
   ·rw [if_neg hok] at h
    exact absurd h (by simp)
  | false =>
   rw [if_neg (by decide)] at h
   have h := Option.some.inj h
   injection h with e1 e2
   subst e1
   subst e2
   clear hr0 hr1
   go_enter Try.func56, Try.ntmps56
   go_wp2_with (first
    | (go_at_call 60; refine (impl_IsCode.calls k A0 c0 l0 true _ ?_ hc0 h60).mono ?_; exact HR0.out; rintro e w8 ⟨rfl, hb8⟩; have hbw := zK hb8; clear hb8)
    | (go_at_call 94; refine (impl_areWanted.calls k A1 c1 l1 false _ ?_ hc1 h94).mono ?_; exact Kd.C_below HR1.out hbw.out; rintro e w9 ⟨rfl, ⟨nd, rfl⟩⟩))
   go_ret2
   exact ⟨_, rfl, Kd.R_nil _ _ _ _ _, zB hbw.out _⟩
 | false =>
  rw [if_neg (by decide)] at h
  have h := Option.some.inj h
  injection h with e1 e2
  subst e1
  subst e2
  clear hr0 hr1
  go_enter Try.func56, Try.ntmps56
  go_wp2_with (go_at_call 60; refine (impl_IsCode.calls k A0 c0 l0 false _ ?_ hc0 h60).mono ?_; exact HR0.out; rintro e w8 ⟨rfl, hb8⟩; have hbw := zK hb8; clear hb8)
  go_ret2
  exact ⟨_, rfl, Kd.R_nil _ _ _ _ _, hbw.out⟩
end

/-! ### laws_FnExactDropDead: function 13 -/
mutual
noncomputable def laws_FnExactDropDead.j0 : Nat → List (S65) → List Int → List (S67) → Bool → List (S67) → List Int → List (S67) → Bool → Bool → Option (Bool)
 | 0, _, _, _, _, _, _, _, _, _ => none
 | k + 1, x0, x1, x6, x7, x8, x9, x10, x11, x51 => if x51 = true then (some false) else ((laws_toInstrS.f k x0).bind fun t626 => ((laws_eqInstrS.f k x8 t626).bind fun t629 => (if t629 = true then ((laws_toIntS.f k x1).bind fun t630 => ((laws_eqIntS.f k x9 t630).bind fun t633 => (if t633 = true then ((laws_markInstrS.f k x8 1).bind fun bt634 => ((laws_markIntS.f k x9 bt634.1).bind fun bt636 => (if bt636.1 < 0 then (laws_FnExactDropDead.j1 k x0 x1 x6 x7 x10 true) else ((laws_eqInstrS.f k x10 x6).bind fun t638 => (if t638 = true then (laws_FnExactDropDead.j1 k x0 x1 x6 x7 x10 (x11 != x7)) else (laws_FnExactDropDead.j1 k x0 x1 x6 x7 x10 true)))))) else (some false)))) else (some false))))
noncomputable def laws_FnExactDropDead.j1 : Nat → List (S65) → List Int → List (S67) → Bool → List (S67) → Bool → Option (Bool)
 | 0, _, _, _, _, _, _ => none
 | k + 1, x0, x1, x6, x7, x10, x80 => if x80 = true then (some false) else ((laws_markInstrS.f k x10 1).bind fun bt639 => ((laws_heldInstrS.f k bt639.2 1).bind fun t641 => (if t641 < 0 then (some false) else (if t641 = bt639.1 then ((laws_toInstrS.f k x0).bind fun t642 => ((laws_toIntS.f k x1).bind fun t645 => ((impl_DropDead.f k t642 t645).bind fun bt648 => ((laws_eqInstrS.f k bt648.1 x6).bind fun t652 => (if t652 = true then (laws_FnExactDropDead.j2 k bt639.2 bt639.1 (bt648.2 != x7)) else (laws_FnExactDropDead.j2 k bt639.2 bt639.1 true)))))) else (some false)))))
noncomputable def laws_FnExactDropDead.j2 : Nat → List (S67) → Int → Bool → Option (Bool)
 | 0, _, _, _ => none
 | k + 1, x10, x13, x108 => if x108 = true then (some false) else ((laws_heldInstrS.f k x10 1).bind fun t653 => (if t653 < 0 then (some false) else (if t653 = x13 then (some true) else (some false))))
end
noncomputable def laws_FnExactDropDead.f (k : Nat) (l0 : List (S65)) (l1 : List Int) : Option (Bool) := if (l1.length : Int) > 1048576 then (some true) else ((laws_szInstrS.f k l0 1048576).bind fun t604 => (if t604 < 0 then (some true) else ((laws_toInstrS.f k l0).bind fun t605 => ((laws_toIntS.f k l1).bind fun t608 => ((spec_DropDead.f k t605 t608).bind fun bt611 => ((laws_toInstrS.f k l0).bind fun t615 => ((laws_toIntS.f k l1).bind fun t618 => ((impl_DropDead.f k t615 t618).bind fun bt621 => ((laws_eqInstrS.f k bt621.1 bt611.1).bind fun t625 => (if t625 = true then (laws_FnExactDropDead.j0 k l0 l1 bt611.1 bt611.2 t615 t618 bt621.1 bt621.2 (bt621.2 != bt611.2)) else (laws_FnExactDropDead.j0 k l0 l1 bt611.1 bt611.2 t615 t618 bt621.1 bt621.2 true)))))))))))
theorem laws_FnExactDropDead.mono_l : ∀ k, (∀ y0 y1 y2 y3 y4 y5 y6 y7 y8, LeO (laws_FnExactDropDead.j0 k y0 y1 y2 y3 y4 y5 y6 y7 y8) (laws_FnExactDropDead.j0 (k + 1) y0 y1 y2 y3 y4 y5 y6 y7 y8)) ∧ (∀ y0 y1 y2 y3 y4 y5, LeO (laws_FnExactDropDead.j1 k y0 y1 y2 y3 y4 y5) (laws_FnExactDropDead.j1 (k + 1) y0 y1 y2 y3 y4 y5)) ∧ (∀ y0 y1 y2, LeO (laws_FnExactDropDead.j2 k y0 y1 y2) (laws_FnExactDropDead.j2 (k + 1) y0 y1 y2))
 | 0 => ⟨fun _ _ _ _ _ _ _ _ _ r h => by simp [laws_FnExactDropDead.j0] at h, fun _ _ _ _ _ _ r h => by simp [laws_FnExactDropDead.j1] at h, fun _ _ _ r h => by simp [laws_FnExactDropDead.j2] at h⟩
 | k + 1 => by
  obtain ⟨ih0, ih1, ih2⟩ := laws_FnExactDropDead.mono_l k
  refine ⟨?_, ?_, ?_⟩
  ·intro y0 y1 y2 y3 y4 y5 y6 y7 y8
   unfold laws_FnExactDropDead.j0
   repeat' first
   | (with_reducible exact ih0 _ _ _ _ _ _ _ _ _)
   | (with_reducible exact ih1 _ _ _ _ _ _)
   | (with_reducible exact ih2 _ _ _)
   | (with_reducible exact impl_DropDead.mono _ _ _)
   | (with_reducible exact laws_eqInstrS.mono _ _ _)
   | (with_reducible exact laws_eqIntS.mono _ _ _)
   | (with_reducible exact laws_heldInstrS.mono _ _ _)
   | (with_reducible exact laws_markInstrS.mono _ _ _)
   | (with_reducible exact laws_markIntS.mono _ _ _)
   | (with_reducible exact laws_szInstrS.mono _ _ _)
   | (with_reducible exact laws_toInstrS.mono _ _)
   | (with_reducible exact laws_toIntS.mono _ _)
   | (with_reducible exact spec_DropDead.mono _ _ _)
   | (with_reducible exact LeO.refl _)
   | (with_reducible exact LeO.none _)
   | (with_reducible refine LeO.ite ?_ ?_)
   | (with_reducible refine LeO.bind ?_ (fun _ => ?_))
   | exact ih0 _ _ _ _ _ _ _ _ _
   | exact ih1 _ _ _ _ _ _
   | exact ih2 _ _ _
   | exact impl_DropDead.mono _ _ _
   | exact laws_eqInstrS.mono _ _ _
   | exact laws_eqIntS.mono _ _ _
   | exact laws_heldInstrS.mono _ _ _
   | exact laws_markInstrS.mono _ _ _
   | exact laws_markIntS.mono _ _ _
   | exact laws_szInstrS.mono _ _ _
   | exact laws_toInstrS.mono _ _
   | exact laws_toIntS.mono _ _
   | exact spec_DropDead.mono _ _ _
   | exact LeO.none _
   | refine LeO.ite ?_ ?_
   | refine LeO.bind ?_ (fun _ => ?_)
  ·intro y0 y1 y2 y3 y4 y5
   unfold laws_FnExactDropDead.j1
   repeat' first
   | (with_reducible exact ih0 _ _ _ _ _ _ _ _ _)
   | (with_reducible exact ih1 _ _ _ _ _ _)
   | (with_reducible exact ih2 _ _ _)
   | (with_reducible exact impl_DropDead.mono _ _ _)
   | (with_reducible exact laws_eqInstrS.mono _ _ _)
   | (with_reducible exact laws_eqIntS.mono _ _ _)
   | (with_reducible exact laws_heldInstrS.mono _ _ _)
   | (with_reducible exact laws_markInstrS.mono _ _ _)
   | (with_reducible exact laws_markIntS.mono _ _ _)
   | (with_reducible exact laws_szInstrS.mono _ _ _)
   | (with_reducible exact laws_toInstrS.mono _ _)
   | (with_reducible exact laws_toIntS.mono _ _)
   | (with_reducible exact spec_DropDead.mono _ _ _)
   | (with_reducible exact LeO.refl _)
   | (with_reducible exact LeO.none _)
   | (with_reducible refine LeO.ite ?_ ?_)
   | (with_reducible refine LeO.bind ?_ (fun _ => ?_))
   | exact ih0 _ _ _ _ _ _ _ _ _
   | exact ih1 _ _ _ _ _ _
   | exact ih2 _ _ _
   | exact impl_DropDead.mono _ _ _
   | exact laws_eqInstrS.mono _ _ _
   | exact laws_eqIntS.mono _ _ _
   | exact laws_heldInstrS.mono _ _ _
   | exact laws_markInstrS.mono _ _ _
   | exact laws_markIntS.mono _ _ _
   | exact laws_szInstrS.mono _ _ _
   | exact laws_toInstrS.mono _ _
   | exact laws_toIntS.mono _ _
   | exact spec_DropDead.mono _ _ _
   | exact LeO.none _
   | refine LeO.ite ?_ ?_
   | refine LeO.bind ?_ (fun _ => ?_)
  ·intro y0 y1 y2
   unfold laws_FnExactDropDead.j2
   repeat' first
   | (with_reducible exact ih0 _ _ _ _ _ _ _ _ _)
   | (with_reducible exact ih1 _ _ _ _ _ _)
   | (with_reducible exact ih2 _ _ _)
   | (with_reducible exact impl_DropDead.mono _ _ _)
   | (with_reducible exact laws_eqInstrS.mono _ _ _)
   | (with_reducible exact laws_eqIntS.mono _ _ _)
   | (with_reducible exact laws_heldInstrS.mono _ _ _)
   | (with_reducible exact laws_markInstrS.mono _ _ _)
   | (with_reducible exact laws_markIntS.mono _ _ _)
   | (with_reducible exact laws_szInstrS.mono _ _ _)
   | (with_reducible exact laws_toInstrS.mono _ _)
   | (with_reducible exact laws_toIntS.mono _ _)
   | (with_reducible exact spec_DropDead.mono _ _ _)
   | (with_reducible exact LeO.refl _)
   | (with_reducible exact LeO.none _)
   | (with_reducible refine LeO.ite ?_ ?_)
   | (with_reducible refine LeO.bind ?_ (fun _ => ?_))
   | exact ih0 _ _ _ _ _ _ _ _ _
   | exact ih1 _ _ _ _ _ _
   | exact ih2 _ _ _
   | exact impl_DropDead.mono _ _ _
   | exact laws_eqInstrS.mono _ _ _
   | exact laws_eqIntS.mono _ _ _
   | exact laws_heldInstrS.mono _ _ _
   | exact laws_markInstrS.mono _ _ _
   | exact laws_markIntS.mono _ _ _
   | exact laws_szInstrS.mono _ _ _
   | exact laws_toInstrS.mono _ _
   | exact laws_toIntS.mono _ _
   | exact spec_DropDead.mono _ _ _
   | exact LeO.none _
   | refine LeO.ite ?_ ?_
   | refine LeO.bind ?_ (fun _ => ?_)
theorem laws_FnExactDropDead.mono : ∀ a0 a1 k, LeO (laws_FnExactDropDead.f k a0 a1) (laws_FnExactDropDead.f (k + 1) a0 a1) := by
 intro a0 a1 k
 obtain ⟨ih0, ih1, ih2⟩ := laws_FnExactDropDead.mono_l k
 unfold laws_FnExactDropDead.f
 repeat' first
   | (with_reducible exact ih0 _ _ _ _ _ _ _ _ _)
   | (with_reducible exact ih1 _ _ _ _ _ _)
   | (with_reducible exact ih2 _ _ _)
   | (with_reducible exact impl_DropDead.mono _ _ _)
   | (with_reducible exact laws_eqInstrS.mono _ _ _)
   | (with_reducible exact laws_eqIntS.mono _ _ _)
   | (with_reducible exact laws_heldInstrS.mono _ _ _)
   | (with_reducible exact laws_markInstrS.mono _ _ _)
   | (with_reducible exact laws_markIntS.mono _ _ _)
   | (with_reducible exact laws_szInstrS.mono _ _ _)
   | (with_reducible exact laws_toInstrS.mono _ _)
   | (with_reducible exact laws_toIntS.mono _ _)
   | (with_reducible exact spec_DropDead.mono _ _ _)
   | (with_reducible exact LeO.refl _)
   | (with_reducible exact LeO.none _)
   | (with_reducible refine LeO.ite ?_ ?_)
   | (with_reducible refine LeO.bind ?_ (fun _ => ?_))
   | exact ih0 _ _ _ _ _ _ _ _ _
   | exact ih1 _ _ _ _ _ _
   | exact ih2 _ _ _
   | exact impl_DropDead.mono _ _ _
   | exact laws_eqInstrS.mono _ _ _
   | exact laws_eqIntS.mono _ _ _
   | exact laws_heldInstrS.mono _ _ _
   | exact laws_markInstrS.mono _ _ _
   | exact laws_markIntS.mono _ _ _
   | exact laws_szInstrS.mono _ _ _
   | exact laws_toInstrS.mono _ _
   | exact laws_toIntS.mono _ _
   | exact spec_DropDead.mono _ _ _
   | exact LeO.none _
   | refine LeO.ite ?_ ?_
   | refine LeO.bind ?_ (fun _ => ?_)
set_option maxHeartbeats 8000000 in
set_option maxRecDepth 100000 in
theorem laws_FnExactDropDead.calls (k : Nat) (A0 : Option Addr) (c0 : Nat) (l0 : List (S65)) (A1 : Option Addr) (c1 : Nat) (l1 : List Int) (r : Bool) (w : World) (hr0 : Kd.C k65 w A0 l0.length l0) (hc0 : l0.length ≤ c0) (hr1 : Kd.C (Kd.int .i64) w A1 l1.length l1) (hc1 : l1.length ≤ c1) (h : laws_FnExactDropDead.f k l0 l1 = some r) (hr : r = true) :
  Calls Try.prog 13 #[.slice A0 l0.length c0, .slice A1 l1.length c1] w fun e w' => e = .returned (.bool r) ∧ Below w.heap.size w w' := by
 have HR0 := zK hr0
 have HC0 := zK hc0
 clear hr0 hc0
 have HR1 := zK hr1
 have HC1 := zK hc1
 clear hr1 hc1
 have HB := zK (Below.refl w.heap.size w)
 have H : (if (l1.length : Int) > 1048576 then (some true) else ((laws_szInstrS.f k l0 1048576).bind fun t604 => (if t604 < 0 then (some true) else ((laws_toInstrS.f k l0).bind fun t605 => ((laws_toIntS.f k l1).bind fun t608 => ((spec_DropDead.f k t605 t608).bind fun bt611 => ((laws_toInstrS.f k l0).bind fun t615 => ((laws_toIntS.f k l1).bind fun t618 => ((impl_DropDead.f k t615 t618).bind fun bt621 => ((laws_eqInstrS.f k bt621.1 bt611.1).bind fun t625 => (if t625 = true then (laws_FnExactDropDead.j0 k l0 l1 bt611.1 bt611.2 t615 t618 bt621.1 bt621.2 (bt621.2 != bt611.2)) else (laws_FnExactDropDead.j0 k l0 l1 bt611.1 bt611.2 t615 t618 bt621.1 bt621.2 true)))))))))))) = some r := h
 clear h
 by_cases c3 : (l1.length : Int) > 1048576
 ·rw [if_pos c3] at H
  have c3b0 : decide (1048576 < (l1.length : Int)) = true := decide_eq_true c3
  have c3b1 : decide (1048576 < l1.length) = true := decide_eq_true (by omega)
  clear c3
  obtain rfl := Option.some.inj H
  go_enter Try.func13, Try.ntmps13
  go_wp2
  go_ret
  exact ⟨by first | rfl | (simp [errW_none, errW_some] <;> rfl) | (simp [*, errW_none, errW_some] <;> rfl), by repeat (first | (with_reducible first | exact HB.out | apply zA | apply zB | apply zC) | exact HB.out)⟩
 ·rw [if_neg c3] at H
  have c3b0 : decide (1048576 < (l1.length : Int)) = false := decide_eq_false c3
  have c3b1 : decide (1048576 < l1.length) = false := decide_eq_false (by omega)
  clear c3
  replace H := Option.bind_eq_some_iff.mp H
  obtain ⟨t604, A40, H⟩ := H
  replace H : (if t604 < 0 then (some true) else ((laws_toInstrS.f k l0).bind fun t605 => ((laws_toIntS.f k l1).bind fun t608 => ((spec_DropDead.f k t605 t608).bind fun bt611 => ((laws_toInstrS.f k l0).bind fun t615 => ((laws_toIntS.f k l1).bind fun t618 => ((impl_DropDead.f k t615 t618).bind fun bt621 => ((laws_eqInstrS.f k bt621.1 bt611.1).bind fun t625 => (if t625 = true then (laws_FnExactDropDead.j0 k l0 l1 bt611.1 bt611.2 t615 t618 bt621.1 bt621.2 (bt621.2 != bt611.2)) else (laws_FnExactDropDead.j0 k l0 l1 bt611.1 bt611.2 t615 t618 bt621.1 bt621.2 true)))))))))) = some r := H
  have A4 := zK A40
  clear A40
  by_cases c5 : t604 < 0
  ·rw [if_pos c5] at H
   have c5b0 : decide (t604 < 0) = true := decide_eq_true c5
   clear c5
   obtain rfl := Option.some.inj H
   go_enter Try.func13, Try.ntmps13
   go_wp2_with (first | ((with_reducible refine gate_callee (f := 14) rfl ?_); refine goesL_ (some 22) rfl rfl Try.func14 (by kernel_rfl) rfl #[.slice A0 l0.length c0, .int .i64 1048576] rfl (by (try simp only [z6, z7, z8]); first | done | rfl | (simp only [z4, z5]; rfl)) ?_; (with_reducible refine (laws_szInstrS.calls k _ _ l0 1048576 t604 _ ?side1 ?side2 A4.out).mono ?_); (case side1 => repeat (first | exact HR0.out | (with_reducible refine Kd.C_alloc ?_ _) | (with_reducible refine Kd.C_drewN ?_ _) | (with_reducible refine Kd.C_drew ?_))); (case side2 => exact HC0.out); rintro e w6 ⟨rfl, hb⟩; refine ⟨_, rfl, ?_⟩; have n0_ := zK (zL (by repeat (first | (with_reducible first | exact HB.out | apply zA | apply zB | apply zC) | exact HB.out)) hb); clear HB; have HB := n0_; clear n0_; (try clear hb); (try clear hb2); (try clear hk); (try clear hi)))
   go_ret
   exact ⟨by first | rfl | (simp [errW_none, errW_some] <;> rfl) | (simp [*, errW_none, errW_some] <;> rfl), by repeat (first | (with_reducible first | exact HB.out | apply zA | apply zB | apply zC) | exact HB.out)⟩
  ·rw [if_neg c5] at H
   have c5b0 : decide (t604 < 0) = false := decide_eq_false c5
   clear c5
   replace H := Option.bind_eq_some_iff.mp H
   obtain ⟨t605, A70, H⟩ := H
   replace H : ((laws_toIntS.f k l1).bind fun t608 => ((spec_DropDead.f k t605 t608).bind fun bt611 => ((laws_toInstrS.f k l0).bind fun t615 => ((laws_toIntS.f k l1).bind fun t618 => ((impl_DropDead.f k t615 t618).bind fun bt621 => ((laws_eqInstrS.f k bt621.1 bt611.1).bind fun t625 => (if t625 = true then (laws_FnExactDropDead.j0 k l0 l1 bt611.1 bt611.2 t615 t618 bt621.1 bt621.2 (bt621.2 != bt611.2)) else (laws_FnExactDropDead.j0 k l0 l1 bt611.1 bt611.2 t615 t618 bt621.1 bt621.2 true)))))))) = some r := H
   have A7 := zK A70
   clear A70
   replace H := Option.bind_eq_some_iff.mp H
   obtain ⟨t608, A80, H⟩ := H
   replace H : ((spec_DropDead.f k t605 t608).bind fun bt611 => ((laws_toInstrS.f k l0).bind fun t615 => ((laws_toIntS.f k l1).bind fun t618 => ((impl_DropDead.f k t615 t618).bind fun bt621 => ((laws_eqInstrS.f k bt621.1 bt611.1).bind fun t625 => (if t625 = true then (laws_FnExactDropDead.j0 k l0 l1 bt611.1 bt611.2 t615 t618 bt621.1 bt621.2 (bt621.2 != bt611.2)) else (laws_FnExactDropDead.j0 k l0 l1 bt611.1 bt611.2 t615 t618 bt621.1 bt621.2 true))))))) = some r := H
   have A8 := zK A80
   clear A80
   replace H := Option.bind_eq_some_iff.mp H
   obtain ⟨⟨t611, t612⟩, A90, H⟩ := H
   replace H : ((laws_toInstrS.f k l0).bind fun t615 => ((laws_toIntS.f k l1).bind fun t618 => ((impl_DropDead.f k t615 t618).bind fun bt621 => ((laws_eqInstrS.f k bt621.1 t611).bind fun t625 => (if t625 = true then (laws_FnExactDropDead.j0 k l0 l1 t611 t612 t615 t618 bt621.1 bt621.2 (bt621.2 != t612)) else (laws_FnExactDropDead.j0 k l0 l1 t611 t612 t615 t618 bt621.1 bt621.2 true)))))) = some r := H
   have A9 := zK A90
   clear A90
   replace H := Option.bind_eq_some_iff.mp H
   obtain ⟨t615, A100, H⟩ := H
   replace H : ((laws_toIntS.f k l1).bind fun t618 => ((impl_DropDead.f k t615 t618).bind fun bt621 => ((laws_eqInstrS.f k bt621.1 t611).bind fun t625 => (if t625 = true then (laws_FnExactDropDead.j0 k l0 l1 t611 t612 t615 t618 bt621.1 bt621.2 (bt621.2 != t612)) else (laws_FnExactDropDead.j0 k l0 l1 t611 t612 t615 t618 bt621.1 bt621.2 true))))) = some r := H
   have A10 := zK A100
   clear A100
   replace H := Option.bind_eq_some_iff.mp H
   obtain ⟨t618, A110, H⟩ := H
   replace H : ((impl_DropDead.f k t615 t618).bind fun bt621 => ((laws_eqInstrS.f k bt621.1 t611).bind fun t625 => (if t625 = true then (laws_FnExactDropDead.j0 k l0 l1 t611 t612 t615 t618 bt621.1 bt621.2 (bt621.2 != t612)) else (laws_FnExactDropDead.j0 k l0 l1 t611 t612 t615 t618 bt621.1 bt621.2 true)))) = some r := H
   have A11 := zK A110
   clear A110
   replace H := Option.bind_eq_some_iff.mp H
   obtain ⟨⟨t621, t622⟩, A120, H⟩ := H
   replace H : ((laws_eqInstrS.f k t621 t611).bind fun t625 => (if t625 = true then (laws_FnExactDropDead.j0 k l0 l1 t611 t612 t615 t618 t621 t622 (t622 != t612)) else (laws_FnExactDropDead.j0 k l0 l1 t611 t612 t615 t618 t621 t622 true))) = some r := H
   have A12 := zK A120
   clear A120
   have HC13 := zK H
   clear H
   go_enter Try.func13, Try.ntmps13
   go_upto_region 11 with (first | ((with_reducible refine gate_callee (f := 14) rfl ?_); refine goesL_ (some 22) rfl rfl Try.func14 (by kernel_rfl) rfl #[.slice A0 l0.length c0, .int .i64 1048576] rfl (by (try simp only [z6, z7, z8]); first | done | rfl | (simp only [z4, z5]; rfl)) ?_; (with_reducible refine (laws_szInstrS.calls k _ _ l0 1048576 t604 _ ?side1 ?side2 A4.out).mono ?_); (case side1 => repeat (first | exact HR0.out | (with_reducible refine Kd.C_alloc ?_ _) | (with_reducible refine Kd.C_drewN ?_ _) | (with_reducible refine Kd.C_drew ?_))); (case side2 => exact HC0.out); rintro e w14 ⟨rfl, hb⟩; refine ⟨_, rfl, ?_⟩; have n0_ := zK (zL (by repeat (first | (with_reducible first | exact HB.out | apply zA | apply zB | apply zC) | exact HB.out)) hb); clear HB; have HB := n0_; clear n0_; (try clear hb); (try clear hb2); (try clear hk); (try clear hi)) | ((with_reducible refine gate_callee (f := 16) rfl ?_); refine goesL_ (some 27) rfl rfl Try.func16 (by kernel_rfl) rfl #[.slice A0 l0.length c0] rfl (by (try simp only [z6, z7, z8]); first | done | rfl | (simp only [z4, z5]; rfl)) ?_; (with_reducible refine (laws_toInstrS.calls k _ _ l0 t605 _ ?side1 ?side2 A7.out).mono ?_); (case side1 => repeat (first | exact (Kd.C_below HR0.out HB.out) | (with_reducible refine Kd.C_alloc ?_ _) | (with_reducible refine Kd.C_drewN ?_ _) | (with_reducible refine Kd.C_drew ?_))); (case side2 => exact HC0.out); rintro e w15 ⟨v606, rfl, ho0, hb⟩; refine ⟨_, rfl, ?_⟩; have n0_ := zK (Kd.R_lower ho0 (zN (by repeat (first | (with_reducible first | exact HB.out | apply zA | apply zB | apply zC) | exact HB.out)))); have n1_ := zK (zL (by repeat (first | (with_reducible first | exact HB.out | apply zA | apply zB | apply zC) | exact HB.out)) hb); clear HB; have HO607 := n0_; have HB := n1_; clear n0_ n1_; (try clear hb); (try clear hb2); (try clear hk); (try clear hi); (try clear ho0)) | ((with_reducible refine gate_callee (f := 33) rfl ?_); refine goesL_ (some 29) rfl rfl Try.func33 (by kernel_rfl) rfl #[.slice A1 l1.length c1] rfl (by (try simp only [z6, z7, z8]); first | done | rfl | (simp only [z4, z5]; rfl)) ?_; (with_reducible refine (laws_toIntS.calls k _ _ l1 t608 _ ?side1 ?side2 A8.out).mono ?_); (case side1 => repeat (first | exact (Kd.C_below HR1.out HB.out) | (with_reducible refine Kd.C_alloc ?_ _) | (with_reducible refine Kd.C_drewN ?_ _) | (with_reducible refine Kd.C_drew ?_))); (case side2 => exact HC1.out); rintro e w16 ⟨v609, rfl, ho0, hb⟩; refine ⟨_, rfl, ?_⟩; have n0_ := zK (Kd.R_below (by (with_reducible repeat (first | apply Kd.R_alloc | apply Kd.R_drewN | apply Kd.R_drew)); exact HO607.out) hb); have n1_ := zK (Kd.R_lower ho0 (zN (by repeat (first | (with_reducible first | exact HB.out | apply zA | apply zB | apply zC) | exact HB.out)))); have n2_ := zK (zL (by repeat (first | (with_reducible first | exact HB.out | apply zA | apply zB | apply zC) | exact HB.out)) hb); clear HO607; clear HB; have HO607 := n0_; have HO610 := n1_; have HB := n2_; clear n0_ n1_ n2_; (try clear hb); (try clear hb2); (try clear hk); (try clear hi); (try clear ho0); obtain ⟨Ao17, co17, eo17⟩ := Kd.R_slice HO607.out; subst eo17; obtain ⟨Ao18, co18, eo18⟩ := Kd.R_slice HO610.out; subst eo18) | ((with_reducible refine gate_callee (f := 55) rfl ?_); refine goesL_ (some 30) rfl rfl Try.func55 (by kernel_rfl) rfl #[.slice Ao17 t605.length co17, .slice Ao18 t608.length co18] rfl (by (try simp only [z6, z7, z8]); first | done | rfl | (simp only [z4, z5]; rfl)) ?_; (with_reducible refine (spec_DropDead.calls k _ _ t605 _ _ t608 t611 t612 _ ?side1 ?side2 ?side3 ?side4 A9.out).mono ?_); (case side1 => repeat (first | exact (Kd.R_reads' HO607.out).2.2 | (with_reducible refine Kd.C_alloc ?_ _) | (with_reducible refine Kd.C_drewN ?_ _) | (with_reducible refine Kd.C_drew ?_))); (case side2 => exact (Kd.R_reads' HO607.out).2.1); (case side3 => repeat (first | exact (Kd.R_reads' HO610.out).2.2 | (with_reducible refine Kd.C_alloc ?_ _) | (with_reducible refine Kd.C_drewN ?_ _) | (with_reducible refine Kd.C_drew ?_))); (case side4 => exact (Kd.R_reads' HO610.out).2.1); rintro e w19 ⟨v613, rfl, ho0, hb⟩; refine ⟨_, rfl, ?_⟩; have n0_ := zK (Kd.R_elder' (by (with_reducible repeat (first | apply Kd.R_alloc | apply Kd.R_drewN | apply Kd.R_drew)); exact HO607.out) (Kd.R_base ho0) hb); have n1_ := zK (Kd.R_below (by (with_reducible repeat (first | apply Kd.R_alloc | apply Kd.R_drewN | apply Kd.R_drew)); exact HO610.out) hb); have n2_ := zK (Kd.R_lower (Kd.R_new' ho0 (Kd.R_lt (by (with_reducible repeat (first | apply Kd.R_alloc | apply Kd.R_drewN | apply Kd.R_drew)); exact HO607.out))) (zN (by repeat (first | (with_reducible first | exact HB.out | apply zA | apply zB | apply zC) | exact HB.out)))); have n3_ := zK (zL (by repeat (first | (with_reducible first | exact HB.out | apply zA | apply zB | apply zC) | exact HB.out)) hb); clear HO607; clear HO610; clear HB; have HO607 := n0_; have HO610 := n1_; have HO614 := n2_; have HB := n3_; clear n0_ n1_ n2_ n3_; (try clear hb); (try clear hb2); (try clear hk); (try clear hi); (try clear ho0)) | ((with_reducible refine gate_callee (f := 16) rfl ?_); refine goesL_ (some 34) rfl rfl Try.func16 (by kernel_rfl) rfl #[.slice A0 l0.length c0] rfl (by (try simp only [z6, z7, z8]); first | done | rfl | (simp only [z4, z5]; rfl)) ?_; (with_reducible refine (laws_toInstrS.calls k _ _ l0 t615 _ ?side1 ?side2 A10.out).mono ?_); (case side1 => repeat (first | exact (Kd.C_below HR0.out HB.out) | (with_reducible refine Kd.C_alloc ?_ _) | (with_reducible refine Kd.C_drewN ?_ _) | (with_reducible refine Kd.C_drew ?_))); (case side2 => exact HC0.out); rintro e w20 ⟨v616, rfl, ho0, hb⟩; refine ⟨_, rfl, ?_⟩; have n0_ := zK (Kd.R_elder' (by (with_reducible repeat (first | apply Kd.R_alloc | apply Kd.R_drewN | apply Kd.R_drew)); exact HO607.out) (Kd.R_base ho0) hb); have n1_ := zK (Kd.R_below (by (with_reducible repeat (first | apply Kd.R_alloc | apply Kd.R_drewN | apply Kd.R_drew)); exact HO610.out) hb); have n2_ := zK (Kd.R_elder' (by (with_reducible repeat (first | apply Kd.R_alloc | apply Kd.R_drewN | apply Kd.R_drew)); exact HO614.out) (Kd.R_base ho0) hb); have n3_ := zK (Kd.R_lower (Kd.R_new' (Kd.R_new' ho0 (Kd.R_lt (by (with_reducible repeat (first | apply Kd.R_alloc | apply Kd.R_drewN | apply Kd.R_drew)); exact HO607.out))) (Kd.R_lt (by (with_reducible repeat (first | apply Kd.R_alloc | apply Kd.R_drewN | apply Kd.R_drew)); exact HO614.out))) (zN (by repeat (first | (with_reducible first | exact HB.out | apply zA | apply zB | apply zC) | exact HB.out)))); have n4_ := zK (zL (by repeat (first | (with_reducible first | exact HB.out | apply zA | apply zB | apply zC) | exact HB.out)) hb); clear HO607; clear HO610; clear HO614; clear HB; have HO607 := n0_; have HO610 := n1_; have HO614 := n2_; have HO617 := n3_; have HB := n4_; clear n0_ n1_ n2_ n3_ n4_; (try clear hb); (try clear hb2); (try clear hk); (try clear hi); (try clear ho0)) | ((with_reducible refine gate_callee (f := 33) rfl ?_); refine goesL_ (some 36) rfl rfl Try.func33 (by kernel_rfl) rfl #[.slice A1 l1.length c1] rfl (by (try simp only [z6, z7, z8]); first | done | rfl | (simp only [z4, z5]; rfl)) ?_; (with_reducible refine (laws_toIntS.calls k _ _ l1 t618 _ ?side1 ?side2 A11.out).mono ?_); (case side1 => repeat (first | exact (Kd.C_below HR1.out HB.out) | (with_reducible refine Kd.C_alloc ?_ _) | (with_reducible refine Kd.C_drewN ?_ _) | (with_reducible refine Kd.C_drew ?_))); (case side2 => exact HC1.out); rintro e w21 ⟨v619, rfl, ho0, hb⟩; refine ⟨_, rfl, ?_⟩; have n0_ := zK (Kd.R_below (by (with_reducible repeat (first | apply Kd.R_alloc | apply Kd.R_drewN | apply Kd.R_drew)); exact HO607.out) hb); have n1_ := zK (Kd.R_elder' (by (with_reducible repeat (first | apply Kd.R_alloc | apply Kd.R_drewN | apply Kd.R_drew)); exact HO610.out) (Kd.R_base ho0) hb); have n2_ := zK (Kd.R_below (by (with_reducible repeat (first | apply Kd.R_alloc | apply Kd.R_drewN | apply Kd.R_drew)); exact HO614.out) hb); have n3_ := zK (Kd.R_below (by (with_reducible repeat (first | apply Kd.R_alloc | apply Kd.R_drewN | apply Kd.R_drew)); exact HO617.out) hb); have n4_ := zK (Kd.R_lower (Kd.R_new' ho0 (Kd.R_lt (by (with_reducible repeat (first | apply Kd.R_alloc | apply Kd.R_drewN | apply Kd.R_drew)); exact HO610.out))) (zN (by repeat (first | (with_reducible first | exact HB.out | apply zA | apply zB | apply zC) | exact HB.out)))); have n5_ := zK (zL (by repeat (first | (with_reducible first | exact HB.out | apply zA | apply zB | apply zC) | exact HB.out)) hb); clear HO607; clear HO610; clear HO614; clear HO617; clear HB; have HO607 := n0_; have HO610 := n1_; have HO614 := n2_; have HO617 := n3_; have HO620 := n4_; have HB := n5_; clear n0_ n1_ n2_ n3_ n4_ n5_; (try clear hb); (try clear hb2); (try clear hk); (try clear hi); (try clear ho0); obtain ⟨Ao22, co22, eo22⟩ := Kd.R_slice HO617.out; subst eo22; obtain ⟨Ao23, co23, eo23⟩ := Kd.R_slice HO620.out; subst eo23) | ((with_reducible refine gate_callee (f := 56) rfl ?_); refine goesL_ (some 40) rfl rfl Try.func56 (by kernel_rfl) rfl #[.slice Ao22 t615.length co22, .slice Ao23 t618.length co23] rfl (by (try simp only [z6, z7, z8]); first | done | rfl | (simp only [z4, z5]; rfl)) ?_; (with_reducible refine (impl_DropDead.calls k _ _ t615 _ _ t618 t621 t622 _ ?side1 ?side2 ?side3 ?side4 A12.out).mono ?_); (case side1 => repeat (first | exact (Kd.R_reads' HO617.out).2.2 | (with_reducible refine Kd.C_alloc ?_ _) | (with_reducible refine Kd.C_drewN ?_ _) | (with_reducible refine Kd.C_drew ?_))); (case side2 => exact (Kd.R_reads' HO617.out).2.1); (case side3 => repeat (first | exact (Kd.R_reads' HO620.out).2.2 | (with_reducible refine Kd.C_alloc ?_ _) | (with_reducible refine Kd.C_drewN ?_ _) | (with_reducible refine Kd.C_drew ?_))); (case side4 => exact (Kd.R_reads' HO620.out).2.1); rintro e w24 ⟨v623, rfl, ho0, hb⟩; refine ⟨_, rfl, ?_⟩; have n0_ := zK (Kd.R_elder' (by (with_reducible repeat (first | apply Kd.R_alloc | apply Kd.R_drewN | apply Kd.R_drew)); exact HO607.out) (Kd.R_base ho0) hb); have n1_ := zK (Kd.R_below (by (with_reducible repeat (first | apply Kd.R_alloc | apply Kd.R_drewN | apply Kd.R_drew)); exact HO610.out) hb); have n2_ := zK (Kd.R_elder' (by (with_reducible repeat (first | apply Kd.R_alloc | apply Kd.R_drewN | apply Kd.R_drew)); exact HO614.out) (Kd.R_base ho0) hb); have n3_ := zK (Kd.R_elder' (by (with_reducible repeat (first | apply Kd.R_alloc | apply Kd.R_drewN | apply Kd.R_drew)); exact HO617.out) (Kd.R_base ho0) hb); have n4_ := zK (Kd.R_below (by (with_reducible repeat (first | apply Kd.R_alloc | apply Kd.R_drewN | apply Kd.R_drew)); exact HO620.out) hb); have n5_ := zK (Kd.R_lower (Kd.R_new' (Kd.R_new' (Kd.R_new' ho0 (Kd.R_lt (by (with_reducible repeat (first | apply Kd.R_alloc | apply Kd.R_drewN | apply Kd.R_drew)); exact HO607.out))) (Kd.R_lt (by (with_reducible repeat (first | apply Kd.R_alloc | apply Kd.R_drewN | apply Kd.R_drew)); exact HO614.out))) (Kd.R_lt (by (with_reducible repeat (first | apply Kd.R_alloc | apply Kd.R_drewN | apply Kd.R_drew)); exact HO617.out))) (zN (by repeat (first | (with_reducible first | exact HB.out | apply zA | apply zB | apply zC) | exact HB.out)))); have n6_ := zK (zL (by repeat (first | (with_reducible first | exact HB.out | apply zA | apply zB | apply zC) | exact HB.out)) hb); clear HO607; clear HO610; clear HO614; clear HO617; clear HO620; clear HB; have HO607 := n0_; have HO610 := n1_; have HO614 := n2_; have HO617 := n3_; have HO620 := n4_; have HO624 := n5_; have HB := n6_; clear n0_ n1_ n2_ n3_ n4_ n5_ n6_; (try clear hb); (try clear hb2); (try clear hk); (try clear hi); (try clear ho0)))
   (try simp only [Act.put, z1, z2, z3])
   go_cut [51] (fun v51 wc => ∃ (kq : Nat) (x51_12 : Bool), v51 = .bool x51_12 ∧ Aside0 (laws_FnExactDropDead.j0 kq l0 l1 t611 t612 t615 t618 t621 t622 x51_12 = some r) ∧ Aside0 (kq ≤ k) ∧ Aside0 (Kd.R k67 67 wc w.heap.size (fun k_ => some k_ ≠ ((.slice Ao22 t615.length co22) : Value).ownBlock ∧ some k_ ≠ (v623 : Value).ownBlock) v613 t611) ∧ Aside0 (Kd.R k67 67 wc w.heap.size (fun k_ => some k_ ≠ (v613 : Value).ownBlock ∧ some k_ ≠ (v623 : Value).ownBlock) (.slice Ao22 t615.length co22) t615) ∧ Aside0 (Kd.R (Kd.int .i64) 3 wc w.heap.size (fun _ => True) (.slice Ao23 t618.length co23) t618) ∧ Aside0 (Kd.R k67 67 wc w.heap.size (fun k_ => some k_ ≠ (v613 : Value).ownBlock ∧ some k_ ≠ ((.slice Ao22 t615.length co22) : Value).ownBlock) v623 t621) ∧ Aside0 (Below w.heap.size w wc))
   case first =>
    have H := HC13.out
    clear HC13
    replace H := Option.bind_eq_some_iff.mp H
    obtain ⟨t625, A250, H⟩ := H
    replace H : (if t625 = true then (laws_FnExactDropDead.j0 k l0 l1 t611 t612 t615 t618 t621 t622 (t622 != t612)) else (laws_FnExactDropDead.j0 k l0 l1 t611 t612 t615 t618 t621 t622 true)) = some r := H
    have A25 := zK A250
    clear A250
    by_cases c26 : t625 = true
    ·subst c26
     rw [if_pos rfl] at H
     have H' := zK H
     clear H
     obtain ⟨Ao27, co27, eo27⟩ := Kd.R_slice HO624.out
     subst eo27
     obtain ⟨Ao28, co28, eo28⟩ := Kd.R_slice HO614.out
     subst eo28
     go_wp2_with (first | ((with_reducible refine gate_callee (f := 18) rfl ?_); refine goesL_ (some 45) rfl rfl Try.func18 (by kernel_rfl) rfl #[.slice Ao27 t621.length co27, .slice Ao28 t611.length co28] rfl (by (try simp only [z6, z7, z8]); first | done | rfl | (simp only [z4, z5]; rfl)) ?_; (with_reducible refine (laws_eqInstrS.calls k _ _ t621 _ _ t611 true _ ?side1 ?side2 ?side3 ?side4 A25.out).mono ?_); (case side1 => repeat (first | exact (Kd.R_reads' HO624.out).2.2 | (with_reducible refine Kd.C_alloc ?_ _) | (with_reducible refine Kd.C_drewN ?_ _) | (with_reducible refine Kd.C_drew ?_))); (case side2 => exact (Kd.R_reads' HO624.out).2.1); (case side3 => repeat (first | exact (Kd.R_reads' HO614.out).2.2 | (with_reducible refine Kd.C_alloc ?_ _) | (with_reducible refine Kd.C_drewN ?_ _) | (with_reducible refine Kd.C_drew ?_))); (case side4 => exact (Kd.R_reads' HO614.out).2.1); rintro e w29 ⟨rfl, hb⟩; refine ⟨_, rfl, ?_⟩; have n0_ := zK (Kd.R_below (by (with_reducible repeat (first | apply Kd.R_alloc | apply Kd.R_drewN | apply Kd.R_drew)); exact HO607.out) hb); have n1_ := zK (Kd.R_below (by (with_reducible repeat (first | apply Kd.R_alloc | apply Kd.R_drewN | apply Kd.R_drew)); exact HO610.out) hb); have n2_ := zK (Kd.R_below (by (with_reducible repeat (first | apply Kd.R_alloc | apply Kd.R_drewN | apply Kd.R_drew)); exact HO614.out) hb); have n3_ := zK (Kd.R_below (by (with_reducible repeat (first | apply Kd.R_alloc | apply Kd.R_drewN | apply Kd.R_drew)); exact HO617.out) hb); have n4_ := zK (Kd.R_below (by (with_reducible repeat (first | apply Kd.R_alloc | apply Kd.R_drewN | apply Kd.R_drew)); exact HO620.out) hb); have n5_ := zK (Kd.R_below (by (with_reducible repeat (first | apply Kd.R_alloc | apply Kd.R_drewN | apply Kd.R_drew)); exact HO624.out) hb); have n6_ := zK (zL (by repeat (first | (with_reducible first | exact HB.out | apply zA | apply zB | apply zC) | exact HB.out)) hb); clear HO607; clear HO610; clear HO614; clear HO617; clear HO620; clear HO624; clear HB; have HO607 := n0_; have HO610 := n1_; have HO614 := n2_; have HO617 := n3_; have HO620 := n4_; have HO624 := n5_; have HB := n6_; clear n0_ n1_ n2_ n3_ n4_ n5_ n6_; (try clear hb); (try clear hb2); (try clear hk); (try clear hi)))
     go_meet
     case rel => exact ⟨_, ((t622 != t612)), (by first | rfl | (simp; done) | (simp [*]; done)), H', ⟨by first | omega | exact Nat.le_refl _⟩, ⟨by (with_reducible repeat (first | apply Kd.R_alloc | apply Kd.R_drewN | apply Kd.R_drew)); exact Kd.R_mono HO614.out (fun _ hk => ⟨hk.1.2, hk.2⟩)⟩, ⟨by (with_reducible repeat (first | apply Kd.R_alloc | apply Kd.R_drewN | apply Kd.R_drew)); exact Kd.R_mono HO617.out (fun _ hk => ⟨hk.1.2, hk.2⟩)⟩, ⟨by (with_reducible repeat (first | apply Kd.R_alloc | apply Kd.R_drewN | apply Kd.R_drew)); exact Kd.R_mono HO620.out (fun _ hk => trivial)⟩, ⟨by (with_reducible repeat (first | apply Kd.R_alloc | apply Kd.R_drewN | apply Kd.R_drew)); exact Kd.R_mono HO624.out (fun _ hk => ⟨hk.1.2, hk.2⟩)⟩, ⟨by repeat (first | (with_reducible first | exact HB.out | apply zA | apply zB | apply zC) | exact HB.out)⟩⟩
    ·replace c26 := Bool.eq_false_iff.mpr c26
     subst c26
     rw [if_neg (show ¬ (false = true) by decide)] at H
     have H' := zK H
     clear H
     obtain ⟨Ao30, co30, eo30⟩ := Kd.R_slice HO624.out
     subst eo30
     obtain ⟨Ao31, co31, eo31⟩ := Kd.R_slice HO614.out
     subst eo31
     go_wp2_with (first | ((with_reducible refine gate_callee (f := 18) rfl ?_); refine goesL_ (some 45) rfl rfl Try.func18 (by kernel_rfl) rfl #[.slice Ao30 t621.length co30, .slice Ao31 t611.length co31] rfl (by (try simp only [z6, z7, z8]); first | done | rfl | (simp only [z4, z5]; rfl)) ?_; (with_reducible refine (laws_eqInstrS.calls k _ _ t621 _ _ t611 false _ ?side1 ?side2 ?side3 ?side4 A25.out).mono ?_); (case side1 => repeat (first | exact (Kd.R_reads' HO624.out).2.2 | (with_reducible refine Kd.C_alloc ?_ _) | (with_reducible refine Kd.C_drewN ?_ _) | (with_reducible refine Kd.C_drew ?_))); (case side2 => exact (Kd.R_reads' HO624.out).2.1); (case side3 => repeat (first | exact (Kd.R_reads' HO614.out).2.2 | (with_reducible refine Kd.C_alloc ?_ _) | (with_reducible refine Kd.C_drewN ?_ _) | (with_reducible refine Kd.C_drew ?_))); (case side4 => exact (Kd.R_reads' HO614.out).2.1); rintro e w32 ⟨rfl, hb⟩; refine ⟨_, rfl, ?_⟩; have n0_ := zK (Kd.R_below (by (with_reducible repeat (first | apply Kd.R_alloc | apply Kd.R_drewN | apply Kd.R_drew)); exact HO607.out) hb); have n1_ := zK (Kd.R_below (by (with_reducible repeat (first | apply Kd.R_alloc | apply Kd.R_drewN | apply Kd.R_drew)); exact HO610.out) hb); have n2_ := zK (Kd.R_below (by (with_reducible repeat (first | apply Kd.R_alloc | apply Kd.R_drewN | apply Kd.R_drew)); exact HO614.out) hb); have n3_ := zK (Kd.R_below (by (with_reducible repeat (first | apply Kd.R_alloc | apply Kd.R_drewN | apply Kd.R_drew)); exact HO617.out) hb); have n4_ := zK (Kd.R_below (by (with_reducible repeat (first | apply Kd.R_alloc | apply Kd.R_drewN | apply Kd.R_drew)); exact HO620.out) hb); have n5_ := zK (Kd.R_below (by (with_reducible repeat (first | apply Kd.R_alloc | apply Kd.R_drewN | apply Kd.R_drew)); exact HO624.out) hb); have n6_ := zK (zL (by repeat (first | (with_reducible first | exact HB.out | apply zA | apply zB | apply zC) | exact HB.out)) hb); clear HO607; clear HO610; clear HO614; clear HO617; clear HO620; clear HO624; clear HB; have HO607 := n0_; have HO610 := n1_; have HO614 := n2_; have HO617 := n3_; have HO620 := n4_; have HO624 := n5_; have HB := n6_; clear n0_ n1_ n2_ n3_ n4_ n5_ n6_; (try clear hb); (try clear hb2); (try clear hk); (try clear hi)))
     go_meet
     case rel => exact ⟨_, (true), (by first | rfl | (simp; done) | (simp [*]; done)), H', ⟨by first | omega | exact Nat.le_refl _⟩, ⟨by (with_reducible repeat (first | apply Kd.R_alloc | apply Kd.R_drewN | apply Kd.R_drew)); exact Kd.R_mono HO614.out (fun _ hk => ⟨hk.1.2, hk.2⟩)⟩, ⟨by (with_reducible repeat (first | apply Kd.R_alloc | apply Kd.R_drewN | apply Kd.R_drew)); exact Kd.R_mono HO617.out (fun _ hk => ⟨hk.1.2, hk.2⟩)⟩, ⟨by (with_reducible repeat (first | apply Kd.R_alloc | apply Kd.R_drewN | apply Kd.R_drew)); exact Kd.R_mono HO620.out (fun _ hk => trivial)⟩, ⟨by (with_reducible repeat (first | apply Kd.R_alloc | apply Kd.R_drewN | apply Kd.R_drew)); exact Kd.R_mono HO624.out (fun _ hk => ⟨hk.1.2, hk.2⟩)⟩, ⟨by repeat (first | (with_reducible first | exact HB.out | apply zA | apply zB | apply zC) | exact HB.out)⟩⟩
   case rest =>
    clear HC13
    try clear c1
    try clear c2
    try clear p2
    try clear c3
    try clear c3b0
    try clear c3b1
    try clear c5
    try clear c5b0
    try clear c13
    try clear c14
    try clear c16
    try clear c18
    try clear c26
    obtain ⟨kq, x51_12, rfl, HA, HJ12, HO_6, HO_8, HO_9, HO_10, HB⟩ := hcut
    cases kq with
    | zero => exact absurd HA.out (by simp [laws_FnExactDropDead.j0])
    | succ kj12 =>
     have H := HA.out
     clear HA
     simp only [laws_FnExactDropDead.j0] at H
     by_cases c33 : x51_12 = true
     ·subst c33
      rw [if_pos rfl] at H
      exact absurd ((Option.some.inj H).trans hr) (by decide)
     ·replace c33 := Bool.eq_false_iff.mpr c33
      subst c33
      rw [if_neg (show ¬ (false = true) by decide)] at H
      replace H := Option.bind_eq_some_iff.mp H
      obtain ⟨t626, A340, H⟩ := H
      replace H : ((laws_eqInstrS.f kj12 t615 t626).bind fun t629 => (if t629 = true then ((laws_toIntS.f kj12 l1).bind fun t630 => ((laws_eqIntS.f kj12 t618 t630).bind fun t633 => (if t633 = true then ((laws_markInstrS.f kj12 t615 1).bind fun bt634 => ((laws_markIntS.f kj12 t618 bt634.1).bind fun bt636 => (if bt636.1 < 0 then (laws_FnExactDropDead.j1 kj12 l0 l1 t611 t612 t621 true) else ((laws_eqInstrS.f kj12 t621 t611).bind fun t638 => (if t638 = true then (laws_FnExactDropDead.j1 kj12 l0 l1 t611 t612 t621 (t622 != t612)) else (laws_FnExactDropDead.j1 kj12 l0 l1 t611 t612 t621 true)))))) else (some false)))) else (some false))) = some r := H
      have A34 := zK A340
      clear A340
      replace H := Option.bind_eq_some_iff.mp H
      obtain ⟨t629, A350, H⟩ := H
      replace H : (if t629 = true then ((laws_toIntS.f kj12 l1).bind fun t630 => ((laws_eqIntS.f kj12 t618 t630).bind fun t633 => (if t633 = true then ((laws_markInstrS.f kj12 t615 1).bind fun bt634 => ((laws_markIntS.f kj12 t618 bt634.1).bind fun bt636 => (if bt636.1 < 0 then (laws_FnExactDropDead.j1 kj12 l0 l1 t611 t612 t621 true) else ((laws_eqInstrS.f kj12 t621 t611).bind fun t638 => (if t638 = true then (laws_FnExactDropDead.j1 kj12 l0 l1 t611 t612 t621 (t622 != t612)) else (laws_FnExactDropDead.j1 kj12 l0 l1 t611 t612 t621 true)))))) else (some false)))) else (some false)) = some r := H
      have A35 := zK A350
      clear A350
      by_cases c36 : t629 = true
      ·subst c36
       rw [if_pos rfl] at H
       replace H := Option.bind_eq_some_iff.mp H
       obtain ⟨t630, A370, H⟩ := H
       replace H : ((laws_eqIntS.f kj12 t618 t630).bind fun t633 => (if t633 = true then ((laws_markInstrS.f kj12 t615 1).bind fun bt634 => ((laws_markIntS.f kj12 t618 bt634.1).bind fun bt636 => (if bt636.1 < 0 then (laws_FnExactDropDead.j1 kj12 l0 l1 t611 t612 t621 true) else ((laws_eqInstrS.f kj12 t621 t611).bind fun t638 => (if t638 = true then (laws_FnExactDropDead.j1 kj12 l0 l1 t611 t612 t621 (t622 != t612)) else (laws_FnExactDropDead.j1 kj12 l0 l1 t611 t612 t621 true)))))) else (some false))) = some r := H
       have A37 := zK A370
       clear A370
       replace H := Option.bind_eq_some_iff.mp H
       obtain ⟨t633, A380, H⟩ := H
       replace H : (if t633 = true then ((laws_markInstrS.f kj12 t615 1).bind fun bt634 => ((laws_markIntS.f kj12 t618 bt634.1).bind fun bt636 => (if bt636.1 < 0 then (laws_FnExactDropDead.j1 kj12 l0 l1 t611 t612 t621 true) else ((laws_eqInstrS.f kj12 t621 t611).bind fun t638 => (if t638 = true then (laws_FnExactDropDead.j1 kj12 l0 l1 t611 t612 t621 (t622 != t612)) else (laws_FnExactDropDead.j1 kj12 l0 l1 t611 t612 t621 true)))))) else (some false)) = some r := H
       have A38 := zK A380
       clear A380
       by_cases c39 : t633 = true
       ·subst c39
        rw [if_pos rfl] at H
        replace H := Option.bind_eq_some_iff.mp H
        obtain ⟨⟨t634, t635⟩, A400, H⟩ := H
        replace H : ((laws_markIntS.f kj12 t618 t634).bind fun bt636 => (if bt636.1 < 0 then (laws_FnExactDropDead.j1 kj12 l0 l1 t611 t612 t621 true) else ((laws_eqInstrS.f kj12 t621 t611).bind fun t638 => (if t638 = true then (laws_FnExactDropDead.j1 kj12 l0 l1 t611 t612 t621 (t622 != t612)) else (laws_FnExactDropDead.j1 kj12 l0 l1 t611 t612 t621 true))))) = some r := H
        have A40 := zK A400
        clear A400
        replace H := Option.bind_eq_some_iff.mp H
        obtain ⟨⟨t636, t637⟩, A410, H⟩ := H
        replace H : (if t636 < 0 then (laws_FnExactDropDead.j1 kj12 l0 l1 t611 t612 t621 true) else ((laws_eqInstrS.f kj12 t621 t611).bind fun t638 => (if t638 = true then (laws_FnExactDropDead.j1 kj12 l0 l1 t611 t612 t621 (t622 != t612)) else (laws_FnExactDropDead.j1 kj12 l0 l1 t611 t612 t621 true)))) = some r := H
        have A41 := zK A410
        clear A410
        have HC42 := zK H
        clear H
        go_upto_region 20 with (first | ((with_reducible refine gate_callee (f := 16) rfl ?_); refine goesL_ (some 54) rfl rfl Try.func16 (by kernel_rfl) rfl #[.slice A0 l0.length c0] rfl (by (try simp only [z6, z7, z8]); first | done | rfl | (simp only [z4, z5]; rfl)) ?_; (with_reducible refine (laws_toInstrS.calls kj12 _ _ l0 t626 _ ?side1 ?side2 A34.out).mono ?_); (case side1 => repeat (first | exact (Kd.C_below HR0.out HB.out) | (with_reducible refine Kd.C_alloc ?_ _) | (with_reducible refine Kd.C_drewN ?_ _) | (with_reducible refine Kd.C_drew ?_))); (case side2 => exact HC0.out); rintro e w43 ⟨v627, rfl, ho0, hb⟩; refine ⟨_, rfl, ?_⟩; have n0_ := zK (Kd.R_elder' (by (with_reducible repeat (first | apply Kd.R_alloc | apply Kd.R_drewN | apply Kd.R_drew)); exact HO_6.out) (Kd.R_base ho0) hb); have n1_ := zK (Kd.R_elder' (by (with_reducible repeat (first | apply Kd.R_alloc | apply Kd.R_drewN | apply Kd.R_drew)); exact HO_8.out) (Kd.R_base ho0) hb); have n2_ := zK (Kd.R_below (by (with_reducible repeat (first | apply Kd.R_alloc | apply Kd.R_drewN | apply Kd.R_drew)); exact HO_9.out) hb); have n3_ := zK (Kd.R_elder' (by (with_reducible repeat (first | apply Kd.R_alloc | apply Kd.R_drewN | apply Kd.R_drew)); exact HO_10.out) (Kd.R_base ho0) hb); have n4_ := zK (Kd.R_lower (Kd.R_new' (Kd.R_new' (Kd.R_new' ho0 (Kd.R_lt (by (with_reducible repeat (first | apply Kd.R_alloc | apply Kd.R_drewN | apply Kd.R_drew)); exact HO_6.out))) (Kd.R_lt (by (with_reducible repeat (first | apply Kd.R_alloc | apply Kd.R_drewN | apply Kd.R_drew)); exact HO_8.out))) (Kd.R_lt (by (with_reducible repeat (first | apply Kd.R_alloc | apply Kd.R_drewN | apply Kd.R_drew)); exact HO_10.out))) (zN (by repeat (first | (with_reducible first | exact HB.out | apply zA | apply zB | apply zC) | exact HB.out)))); have n5_ := zK (zL (by repeat (first | (with_reducible first | exact HB.out | apply zA | apply zB | apply zC) | exact HB.out)) hb); clear HO_6; clear HO_8; clear HO_9; clear HO_10; clear HB; have HO_6 := n0_; have HO_8 := n1_; have HO_9 := n2_; have HO_10 := n3_; have HO628 := n4_; have HB := n5_; clear n0_ n1_ n2_ n3_ n4_ n5_; (try clear hb); (try clear hb2); (try clear hk); (try clear hi); (try clear ho0); obtain ⟨Ao44, co44, eo44⟩ := Kd.R_slice HO628.out; subst eo44) | ((with_reducible refine gate_callee (f := 18) rfl ?_); refine goesL_ (some 55) rfl rfl Try.func18 (by kernel_rfl) rfl #[.slice Ao22 t615.length co22, .slice Ao44 t626.length co44] rfl (by (try simp only [z6, z7, z8]); first | done | rfl | (simp only [z4, z5]; rfl)) ?_; (with_reducible refine (laws_eqInstrS.calls kj12 _ _ t615 _ _ t626 true _ ?side1 ?side2 ?side3 ?side4 A35.out).mono ?_); (case side1 => repeat (first | exact (Kd.R_reads' HO_8.out).2.2 | (with_reducible refine Kd.C_alloc ?_ _) | (with_reducible refine Kd.C_drewN ?_ _) | (with_reducible refine Kd.C_drew ?_))); (case side2 => exact (Kd.R_reads' HO_8.out).2.1); (case side3 => repeat (first | exact (Kd.R_reads' HO628.out).2.2 | (with_reducible refine Kd.C_alloc ?_ _) | (with_reducible refine Kd.C_drewN ?_ _) | (with_reducible refine Kd.C_drew ?_))); (case side4 => exact (Kd.R_reads' HO628.out).2.1); rintro e w45 ⟨rfl, hb⟩; refine ⟨_, rfl, ?_⟩; have n0_ := zK (Kd.R_below (by (with_reducible repeat (first | apply Kd.R_alloc | apply Kd.R_drewN | apply Kd.R_drew)); exact HO_6.out) hb); have n1_ := zK (Kd.R_below (by (with_reducible repeat (first | apply Kd.R_alloc | apply Kd.R_drewN | apply Kd.R_drew)); exact HO_8.out) hb); have n2_ := zK (Kd.R_below (by (with_reducible repeat (first | apply Kd.R_alloc | apply Kd.R_drewN | apply Kd.R_drew)); exact HO_9.out) hb); have n3_ := zK (Kd.R_below (by (with_reducible repeat (first | apply Kd.R_alloc | apply Kd.R_drewN | apply Kd.R_drew)); exact HO_10.out) hb); have n4_ := zK (Kd.R_below (by (with_reducible repeat (first | apply Kd.R_alloc | apply Kd.R_drewN | apply Kd.R_drew)); exact HO628.out) hb); have n5_ := zK (zL (by repeat (first | (with_reducible first | exact HB.out | apply zA | apply zB | apply zC) | exact HB.out)) hb); clear HO_6; clear HO_8; clear HO_9; clear HO_10; clear HO628; clear HB; have HO_6 := n0_; have HO_8 := n1_; have HO_9 := n2_; have HO_10 := n3_; have HO628 := n4_; have HB := n5_; clear n0_ n1_ n2_ n3_ n4_ n5_; (try clear hb); (try clear hb2); (try clear hk); (try clear hi)) | ((with_reducible refine gate_callee (f := 33) rfl ?_); refine goesL_ (some 59) rfl rfl Try.func33 (by kernel_rfl) rfl #[.slice A1 l1.length c1] rfl (by (try simp only [z6, z7, z8]); first | done | rfl | (simp only [z4, z5]; rfl)) ?_; (with_reducible refine (laws_toIntS.calls kj12 _ _ l1 t630 _ ?side1 ?side2 A37.out).mono ?_); (case side1 => repeat (first | exact (Kd.C_below HR1.out HB.out) | (with_reducible refine Kd.C_alloc ?_ _) | (with_reducible refine Kd.C_drewN ?_ _) | (with_reducible refine Kd.C_drew ?_))); (case side2 => exact HC1.out); rintro e w46 ⟨v631, rfl, ho0, hb⟩; refine ⟨_, rfl, ?_⟩; have n0_ := zK (Kd.R_below (by (with_reducible repeat (first | apply Kd.R_alloc | apply Kd.R_drewN | apply Kd.R_drew)); exact HO_6.out) hb); have n1_ := zK (Kd.R_below (by (with_reducible repeat (first | apply Kd.R_alloc | apply Kd.R_drewN | apply Kd.R_drew)); exact HO_8.out) hb); have n2_ := zK (Kd.R_elder' (by (with_reducible repeat (first | apply Kd.R_alloc | apply Kd.R_drewN | apply Kd.R_drew)); exact HO_9.out) (Kd.R_base ho0) hb); have n3_ := zK (Kd.R_below (by (with_reducible repeat (first | apply Kd.R_alloc | apply Kd.R_drewN | apply Kd.R_drew)); exact HO_10.out) hb); have n4_ := zK (Kd.R_below (by (with_reducible repeat (first | apply Kd.R_alloc | apply Kd.R_drewN | apply Kd.R_drew)); exact HO628.out) hb); have n5_ := zK (Kd.R_lower (Kd.R_new' ho0 (Kd.R_lt (by (with_reducible repeat (first | apply Kd.R_alloc | apply Kd.R_drewN | apply Kd.R_drew)); exact HO_9.out))) (zN (by repeat (first | (with_reducible first | exact HB.out | apply zA | apply zB | apply zC) | exact HB.out)))); have n6_ := zK (zL (by repeat (first | (with_reducible first | exact HB.out | apply zA | apply zB | apply zC) | exact HB.out)) hb); clear HO_6; clear HO_8; clear HO_9; clear HO_10; clear HO628; clear HB; have HO_6 := n0_; have HO_8 := n1_; have HO_9 := n2_; have HO_10 := n3_; have HO628 := n4_; have HO632 := n5_; have HB := n6_; clear n0_ n1_ n2_ n3_ n4_ n5_ n6_; (try clear hb); (try clear hb2); (try clear hk); (try clear hi); (try clear ho0); obtain ⟨Ao47, co47, eo47⟩ := Kd.R_slice HO632.out; subst eo47) | ((with_reducible refine gate_callee (f := 36) rfl ?_); refine goesL_ (some 60) rfl rfl Try.func36 (by kernel_rfl) rfl #[.slice Ao23 t618.length co23, .slice Ao47 t630.length co47] rfl (by (try simp only [z6, z7, z8]); first | done | rfl | (simp only [z4, z5]; rfl)) ?_; (with_reducible refine (laws_eqIntS.calls kj12 _ _ t618 _ _ t630 true _ ?side1 ?side2 ?side3 ?side4 A38.out).mono ?_); (case side1 => repeat (first | exact (Kd.R_reads' HO_9.out).2.2 | (with_reducible refine Kd.C_alloc ?_ _) | (with_reducible refine Kd.C_drewN ?_ _) | (with_reducible refine Kd.C_drew ?_))); (case side2 => exact (Kd.R_reads' HO_9.out).2.1); (case side3 => repeat (first | exact (Kd.R_reads' HO632.out).2.2 | (with_reducible refine Kd.C_alloc ?_ _) | (with_reducible refine Kd.C_drewN ?_ _) | (with_reducible refine Kd.C_drew ?_))); (case side4 => exact (Kd.R_reads' HO632.out).2.1); rintro e w' ⟨rfl, ⟨nd, rfl⟩⟩; refine ⟨_, rfl, ?_⟩) | ((with_reducible refine gate_callee (f := 19) rfl ?_); refine goesL_ (some 64) rfl rfl Try.func19 (by kernel_rfl) rfl #[.slice Ao22 t615.length co22, .int .i64 1] rfl (by (try simp only [z6, z7, z8]); first | done | rfl | (simp only [z4, z5]; rfl)) ?_; (with_reducible refine (laws_markInstrS.calls kj12 (fun k_ => some k_ = (.slice Ao22 t615.length co22 : Value).ownBlock) (.slice Ao22 t615.length co22) t615 1 t634 t635 w _ ?side1 ?side2 A40.out).mono ?_); (case side1 => repeat (first | (with_reducible first | exact HB.out | apply zA | apply zB | apply zC) | exact HB.out)); (case side2 => exact Kd.R_tight rfl HO_8.out); rintro e w48 ⟨rfl, hy0, hb, hkp⟩; refine ⟨_, rfl, ?_⟩; have n0_ := zK (Kd.R_mono (ok' := fun k_ => some k_ ≠ (.slice Ao22 t615.length co22 : Value).ownBlock ∧ some k_ ≠ (v623 : Value).ownBlock ∧ some k_ ≠ (.slice Ao44 t626.length co44 : Value).ownBlock) (Kd.R_keptB (HO_6.out) hkp (fun k_ hk_ hs_ => (hk_.1.1) hs_)) (fun k_ hk_ => ⟨hk_.1.1.1, hk_.1.1.2, hk_.1.2⟩)); have n1_ := zK (Kd.R_reok rfl hy0 (fun k_ e_ => HO_8.out.1 k_ e_)); have n2_ := zK (Kd.R_mono (ok' := fun k_ => some k_ ≠ (.slice Ao47 t630.length co47 : Value).ownBlock) (Kd.R_keptB ((Kd.R_apart' HO_9.out (Kd.R_typed HO_8.out) (by decide))) hkp (fun k_ hk_ hs_ => (hk_.2) hs_)) (fun k_ hk_ => hk_.1.1.2)); have n3_ := zK (Kd.R_mono (ok' := fun k_ => some k_ ≠ (v613 : Value).ownBlock ∧ some k_ ≠ (.slice Ao22 t615.length co22 : Value).ownBlock ∧ some k_ ≠ (.slice Ao44 t626.length co44 : Value).ownBlock) (Kd.R_keptB (HO_10.out) hkp (fun k_ hk_ hs_ => (hk_.1.2) hs_)) (fun k_ hk_ => ⟨hk_.1.1.1, hk_.1.1.2, hk_.1.2⟩)); have n4_ := zK (Kd.R_mono (ok' := fun k_ => some k_ ≠ (v613 : Value).ownBlock ∧ some k_ ≠ (.slice Ao22 t615.length co22 : Value).ownBlock ∧ some k_ ≠ (v623 : Value).ownBlock) (Kd.R_keptB (HO628.out) hkp (fun k_ hk_ hs_ => (hk_.1.2) hs_)) (fun k_ hk_ => ⟨hk_.1.1.1.2, hk_.1.1.2, hk_.1.2⟩)); have n5_ := zK (Kd.R_mono (ok' := fun k_ => some k_ ≠ (.slice Ao23 t618.length co23 : Value).ownBlock) (Kd.R_keptB ((Kd.R_apart' HO632.out (Kd.R_typed HO_8.out) (by decide))) hkp (fun k_ hk_ hs_ => (hk_.2) hs_)) (fun k_ hk_ => hk_.1.1.2)); have n6_ := zK (hb); clear HO_6; clear HO_8; clear HO_9; clear HO_10; clear HO628; clear HO632; clear HB; have HO_6 := n0_; have HO_8 := n1_; have HO_9 := n2_; have HO_10 := n3_; have HO628 := n4_; have HO632 := n5_; have HB := n6_; clear n0_ n1_ n2_ n3_ n4_ n5_ n6_; (try clear hb); (try clear hkp); (try clear hy0)) | ((with_reducible refine gate_callee (f := 37) rfl ?_); refine goesL_ (some 67) rfl rfl Try.func37 (by kernel_rfl) rfl #[.slice Ao23 t618.length co23, .int .i64 t634] rfl (by (try simp only [z6, z7, z8]); first | done | rfl | (simp only [z4, z5]; rfl)) ?_; (with_reducible refine (laws_markIntS.calls kj12 (fun k_ => some k_ = (.slice Ao23 t618.length co23 : Value).ownBlock) (.slice Ao23 t618.length co23) t618 t634 t636 t637 w _ ?side1 ?side2 A41.out).mono ?_); (case side1 => repeat (first | (with_reducible first | exact HB.out | apply zA | apply zB | apply zC) | exact HB.out)); (case side2 => exact Kd.R_tight rfl HO_9.out); rintro e w49 ⟨rfl, hy0, hb, hkp⟩; refine ⟨_, rfl, ?_⟩; have n0_ := zK (Kd.R_mono (ok' := fun k_ => some k_ ≠ (.slice Ao22 t615.length co22 : Value).ownBlock ∧ some k_ ≠ (v623 : Value).ownBlock ∧ some k_ ≠ (.slice Ao44 t626.length co44 : Value).ownBlock) (Kd.R_keptB ((Kd.R_apart' HO_6.out (Kd.R_typed HO_9.out) (by decide))) hkp (fun k_ hk_ hs_ => (hk_.2) hs_)) (fun k_ hk_ => ⟨hk_.1.1.1, hk_.1.1.2.1, hk_.1.1.2.2⟩)); have n1_ := zK (Kd.R_mono (ok' := fun k_ => some k_ ≠ (v613 : Value).ownBlock ∧ some k_ ≠ (v623 : Value).ownBlock ∧ some k_ ≠ (.slice Ao44 t626.length co44 : Value).ownBlock) (Kd.R_keptB ((Kd.R_apart' HO_8.out (Kd.R_typed HO_9.out) (by decide))) hkp (fun k_ hk_ hs_ => (hk_.2) hs_)) (fun k_ hk_ => ⟨hk_.1.1.1.1, hk_.1.1.1.2, hk_.1.1.2⟩)); have n2_ := zK (Kd.R_reok rfl hy0 (fun k_ e_ => HO_9.out.1 k_ e_)); have n3_ := zK (Kd.R_mono (ok' := fun k_ => some k_ ≠ (v613 : Value).ownBlock ∧ some k_ ≠ (.slice Ao22 t615.length co22 : Value).ownBlock ∧ some k_ ≠ (.slice Ao44 t626.length co44 : Value).ownBlock) (Kd.R_keptB ((Kd.R_apart' HO_10.out (Kd.R_typed HO_9.out) (by decide))) hkp (fun k_ hk_ hs_ => (hk_.2) hs_)) (fun k_ hk_ => ⟨hk_.1.1.1, hk_.1.1.2.1, hk_.1.1.2.2⟩)); have n4_ := zK (Kd.R_mono (ok' := fun k_ => some k_ ≠ (v613 : Value).ownBlock ∧ some k_ ≠ (.slice Ao22 t615.length co22 : Value).ownBlock ∧ some k_ ≠ (v623 : Value).ownBlock) (Kd.R_keptB ((Kd.R_apart' HO628.out (Kd.R_typed HO_9.out) (by decide))) hkp (fun k_ hk_ hs_ => (hk_.2) hs_)) (fun k_ hk_ => ⟨hk_.1.1.1, hk_.1.1.2.1, hk_.1.1.2.2⟩)); have n5_ := zK (Kd.R_mono (ok' := fun k_ => some k_ ≠ (.slice Ao23 t618.length co23 : Value).ownBlock) (Kd.R_keptB (HO632.out) hkp (fun k_ hk_ hs_ => (hk_) hs_)) (fun k_ hk_ => hk_.1)); have n6_ := zK (hb); clear HO_6; clear HO_8; clear HO_9; clear HO_10; clear HO628; clear HO632; clear HB; have HO_6 := n0_; have HO_8 := n1_; have HO_9 := n2_; have HO_10 := n3_; have HO628 := n4_; have HO632 := n5_; have HB := n6_; clear n0_ n1_ n2_ n3_ n4_ n5_ n6_; (try clear hb); (try clear hkp); (try clear hy0)))
        (try simp only [Act.put, z1, z2, z3])
        go_cut [80] (fun v80 wc => ∃ (kq : Nat) (x80_41 : Bool), v80 = .bool x80_41 ∧ Aside0 (laws_FnExactDropDead.j1 kq l0 l1 t611 t612 t621 x80_41 = some r) ∧ Aside0 (kq ≤ kj12) ∧ Aside0 (Kd.R k67 67 wc w.heap.size (fun k_ => some k_ ≠ (v623 : Value).ownBlock) v613 t611) ∧ Aside0 (Kd.R k67 67 wc w.heap.size (fun k_ => some k_ ≠ (v613 : Value).ownBlock) v623 t621) ∧ Aside0 (Below w.heap.size w wc))
        case first =>
         have H := HC42.out
         clear HC42
         by_cases c50 : t636 < 0
         ·rw [if_pos c50] at H
          have c50b0 : decide (t636 < 0) = true := decide_eq_true c50
          clear c50
          (first | rw [c50b0] | (simp only [i64_w, i32_w]; rw [c50b0]) | skip)
          have H' := zK H
          clear H
          go_wp2
          go_meet
          case rel => exact ⟨_, (true), (by first | rfl | (simp; done) | (simp [*]; done)), H', ⟨by have := HJ12.out; first | omega | exact Nat.le_refl _⟩, ⟨by (with_reducible repeat (first | apply Kd.R_alloc | apply Kd.R_drewN | apply Kd.R_drew)); exact Kd.R_mono HO_6.out (fun _ hk => hk.2.1)⟩, ⟨by (with_reducible repeat (first | apply Kd.R_alloc | apply Kd.R_drewN | apply Kd.R_drew)); exact Kd.R_mono HO_10.out (fun _ hk => hk.1)⟩, ⟨by repeat (first | (with_reducible first | exact HB.out | apply zA | apply zB | apply zC) | exact HB.out)⟩⟩
         ·rw [if_neg c50] at H
          have c50b0 : decide (t636 < 0) = false := decide_eq_false c50
          clear c50
          (first | rw [c50b0] | (simp only [i64_w, i32_w]; rw [c50b0]) | skip)
          replace H := Option.bind_eq_some_iff.mp H
          obtain ⟨t638, A510, H⟩ := H
          replace H : (if t638 = true then (laws_FnExactDropDead.j1 kj12 l0 l1 t611 t612 t621 (t622 != t612)) else (laws_FnExactDropDead.j1 kj12 l0 l1 t611 t612 t621 true)) = some r := H
          have A51 := zK A510
          clear A510
          by_cases c52 : t638 = true
          ·subst c52
           rw [if_pos rfl] at H
           have H' := zK H
           clear H
           obtain ⟨Ao53, co53, eo53⟩ := Kd.R_slice HO_10.out
           subst eo53
           obtain ⟨Ao54, co54, eo54⟩ := Kd.R_slice HO_6.out
           subst eo54
           go_wp2_with (first | (go_at_call 18; (with_reducible refine (laws_eqInstrS.calls kj12 _ _ t621 _ _ t611 true _ ?side1 ?side2 ?side3 ?side4 A51.out).mono ?_); (case side1 => repeat (first | exact (Kd.R_reads' HO_10.out).2.2 | (with_reducible refine Kd.C_alloc ?_ _) | (with_reducible refine Kd.C_drewN ?_ _) | (with_reducible refine Kd.C_drew ?_))); (case side2 => exact (Kd.R_reads' HO_10.out).2.1); (case side3 => repeat (first | exact (Kd.R_reads' HO_6.out).2.2 | (with_reducible refine Kd.C_alloc ?_ _) | (with_reducible refine Kd.C_drewN ?_ _) | (with_reducible refine Kd.C_drew ?_))); (case side4 => exact (Kd.R_reads' HO_6.out).2.1); rintro e w55 ⟨rfl, hb⟩; have n0_ := zK (Kd.R_below (by (with_reducible repeat (first | apply Kd.R_alloc | apply Kd.R_drewN | apply Kd.R_drew)); exact HO_6.out) hb); have n1_ := zK (Kd.R_below (by (with_reducible repeat (first | apply Kd.R_alloc | apply Kd.R_drewN | apply Kd.R_drew)); exact HO_8.out) hb); have n2_ := zK (Kd.R_below (by (with_reducible repeat (first | apply Kd.R_alloc | apply Kd.R_drewN | apply Kd.R_drew)); exact HO_9.out) hb); have n3_ := zK (Kd.R_below (by (with_reducible repeat (first | apply Kd.R_alloc | apply Kd.R_drewN | apply Kd.R_drew)); exact HO_10.out) hb); have n4_ := zK (Kd.R_below (by (with_reducible repeat (first | apply Kd.R_alloc | apply Kd.R_drewN | apply Kd.R_drew)); exact HO628.out) hb); have n5_ := zK (Kd.R_below (by (with_reducible repeat (first | apply Kd.R_alloc | apply Kd.R_drewN | apply Kd.R_drew)); exact HO632.out) hb); have n6_ := zK (zL (by repeat (first | (with_reducible first | exact HB.out | apply zA | apply zB | apply zC) | exact HB.out)) hb); clear HO_6; clear HO_8; clear HO_9; clear HO_10; clear HO628; clear HO632; clear HB; have HO_6 := n0_; have HO_8 := n1_; have HO_9 := n2_; have HO_10 := n3_; have HO628 := n4_; have HO632 := n5_; have HB := n6_; clear n0_ n1_ n2_ n3_ n4_ n5_ n6_; (try clear hb); (try clear hb2); (try clear hk); (try clear hi)))
           go_meet
           case rel => exact ⟨_, ((t622 != t612)), (by first | rfl | (simp; done) | (simp [*]; done)), H', ⟨by have := HJ12.out; first | omega | exact Nat.le_refl _⟩, ⟨by (with_reducible repeat (first | apply Kd.R_alloc | apply Kd.R_drewN | apply Kd.R_drew)); exact Kd.R_mono HO_6.out (fun _ hk => hk.2.1)⟩, ⟨by (with_reducible repeat (first | apply Kd.R_alloc | apply Kd.R_drewN | apply Kd.R_drew)); exact Kd.R_mono HO_10.out (fun _ hk => hk.1)⟩, ⟨by repeat (first | (with_reducible first | exact HB.out | apply zA | apply zB | apply zC) | exact HB.out)⟩⟩
          ·replace c52 := Bool.eq_false_iff.mpr c52
           subst c52
           rw [if_neg (show ¬ (false = true) by decide)] at H
           have H' := zK H
           clear H
           obtain ⟨Ao56, co56, eo56⟩ := Kd.R_slice HO_10.out
           subst eo56
           obtain ⟨Ao57, co57, eo57⟩ := Kd.R_slice HO_6.out
           subst eo57
           go_wp2_with (first | (go_at_call 18; (with_reducible refine (laws_eqInstrS.calls kj12 _ _ t621 _ _ t611 false _ ?side1 ?side2 ?side3 ?side4 A51.out).mono ?_); (case side1 => repeat (first | exact (Kd.R_reads' HO_10.out).2.2 | (with_reducible refine Kd.C_alloc ?_ _) | (with_reducible refine Kd.C_drewN ?_ _) | (with_reducible refine Kd.C_drew ?_))); (case side2 => exact (Kd.R_reads' HO_10.out).2.1); (case side3 => repeat (first | exact (Kd.R_reads' HO_6.out).2.2 | (with_reducible refine Kd.C_alloc ?_ _) | (with_reducible refine Kd.C_drewN ?_ _) | (with_reducible refine Kd.C_drew ?_))); (case side4 => exact (Kd.R_reads' HO_6.out).2.1); rintro e w58 ⟨rfl, hb⟩; have n0_ := zK (Kd.R_below (by (with_reducible repeat (first | apply Kd.R_alloc | apply Kd.R_drewN | apply Kd.R_drew)); exact HO_6.out) hb); have n1_ := zK (Kd.R_below (by (with_reducible repeat (first | apply Kd.R_alloc | apply Kd.R_drewN | apply Kd.R_drew)); exact HO_8.out) hb); have n2_ := zK (Kd.R_below (by (with_reducible repeat (first | apply Kd.R_alloc | apply Kd.R_drewN | apply Kd.R_drew)); exact HO_9.out) hb); have n3_ := zK (Kd.R_below (by (with_reducible repeat (first | apply Kd.R_alloc | apply Kd.R_drewN | apply Kd.R_drew)); exact HO_10.out) hb); have n4_ := zK (Kd.R_below (by (with_reducible repeat (first | apply Kd.R_alloc | apply Kd.R_drewN | apply Kd.R_drew)); exact HO628.out) hb); have n5_ := zK (Kd.R_below (by (with_reducible repeat (first | apply Kd.R_alloc | apply Kd.R_drewN | apply Kd.R_drew)); exact HO632.out) hb); have n6_ := zK (zL (by repeat (first | (with_reducible first | exact HB.out | apply zA | apply zB | apply zC) | exact HB.out)) hb); clear HO_6; clear HO_8; clear HO_9; clear HO_10; clear HO628; clear HO632; clear HB; have HO_6 := n0_; have HO_8 := n1_; have HO_9 := n2_; have HO_10 := n3_; have HO628 := n4_; have HO632 := n5_; have HB := n6_; clear n0_ n1_ n2_ n3_ n4_ n5_ n6_; (try clear hb); (try clear hb2); (try clear hk); (try clear hi)))
           go_meet
           case rel => exact ⟨_, (true), (by first | rfl | (simp; done) | (simp [*]; done)), H', ⟨by have := HJ12.out; first | omega | exact Nat.le_refl _⟩, ⟨by (with_reducible repeat (first | apply Kd.R_alloc | apply Kd.R_drewN | apply Kd.R_drew)); exact Kd.R_mono HO_6.out (fun _ hk => hk.2.1)⟩, ⟨by (with_reducible repeat (first | apply Kd.R_alloc | apply Kd.R_drewN | apply Kd.R_drew)); exact Kd.R_mono HO_10.out (fun _ hk => hk.1)⟩, ⟨by repeat (first | (with_reducible first | exact HB.out | apply zA | apply zB | apply zC) | exact HB.out)⟩⟩
        case rest =>
         clear HC42
         try clear c1
         try clear c2
         try clear p2
         try clear c3
         try clear c3b0
         try clear c3b1
         try clear c5
         try clear c5b0
         try clear c13
         try clear c14
         try clear c16
         try clear c18
         try clear c19
         try clear c26
         try clear c33
         try clear c36
         try clear c37
         try clear c39
         try clear c50
         try clear c50b0
         try clear c52
         try clear c55
         try clear c56
         try clear p2
         obtain ⟨kq, x80_41, rfl, HA, HJ41, HO_6, HO_10, HB⟩ := hcut
         cases kq with
         | zero => exact absurd HA.out (by simp [laws_FnExactDropDead.j1])
         | succ kj41 =>
          have H := HA.out
          clear HA
          simp only [laws_FnExactDropDead.j1] at H
          by_cases c59 : x80_41 = true
          ·subst c59
           rw [if_pos rfl] at H
           exact absurd ((Option.some.inj H).trans hr) (by decide)
          ·replace c59 := Bool.eq_false_iff.mpr c59
           subst c59
           rw [if_neg (show ¬ (false = true) by decide)] at H
           replace H := Option.bind_eq_some_iff.mp H
           obtain ⟨⟨t639, t640⟩, A600, H⟩ := H
           replace H : ((laws_heldInstrS.f kj41 t640 1).bind fun t641 => (if t641 < 0 then (some false) else (if t641 = t639 then ((laws_toInstrS.f kj41 l0).bind fun t642 => ((laws_toIntS.f kj41 l1).bind fun t645 => ((impl_DropDead.f kj41 t642 t645).bind fun bt648 => ((laws_eqInstrS.f kj41 bt648.1 t611).bind fun t652 => (if t652 = true then (laws_FnExactDropDead.j2 kj41 t640 t639 (bt648.2 != t612)) else (laws_FnExactDropDead.j2 kj41 t640 t639 true)))))) else (some false)))) = some r := H
           have A60 := zK A600
           clear A600
           replace H := Option.bind_eq_some_iff.mp H
           obtain ⟨t641, A610, H⟩ := H
           replace H : (if t641 < 0 then (some false) else (if t641 = t639 then ((laws_toInstrS.f kj41 l0).bind fun t642 => ((laws_toIntS.f kj41 l1).bind fun t645 => ((impl_DropDead.f kj41 t642 t645).bind fun bt648 => ((laws_eqInstrS.f kj41 bt648.1 t611).bind fun t652 => (if t652 = true then (laws_FnExactDropDead.j2 kj41 t640 t639 (bt648.2 != t612)) else (laws_FnExactDropDead.j2 kj41 t640 t639 true)))))) else (some false))) = some r := H
           have A61 := zK A610
           clear A610
           by_cases c62 : t641 < 0
           ·rw [if_pos c62] at H
            have c62b0 : decide (t641 < 0) = true := decide_eq_true c62
            clear c62
            exact absurd ((Option.some.inj H).trans hr) (by decide)
           ·rw [if_neg c62] at H
            have c62b0 : decide (t641 < 0) = false := decide_eq_false c62
            clear c62
            by_cases c66 : t641 = t639
            ·rw [if_pos c66] at H
             have c66b0 : (t641 == t639) = true := beq_iff_eq.mpr c66
             have c66b1 : (t641 != t639) = false := bne_eq_false_iff_eq.mpr c66
             clear c66
             replace H := Option.bind_eq_some_iff.mp H
             obtain ⟨t642, A670, H⟩ := H
             replace H : ((laws_toIntS.f kj41 l1).bind fun t645 => ((impl_DropDead.f kj41 t642 t645).bind fun bt648 => ((laws_eqInstrS.f kj41 bt648.1 t611).bind fun t652 => (if t652 = true then (laws_FnExactDropDead.j2 kj41 t640 t639 (bt648.2 != t612)) else (laws_FnExactDropDead.j2 kj41 t640 t639 true))))) = some r := H
             have A67 := zK A670
             clear A670
             replace H := Option.bind_eq_some_iff.mp H
             obtain ⟨t645, A680, H⟩ := H
             replace H : ((impl_DropDead.f kj41 t642 t645).bind fun bt648 => ((laws_eqInstrS.f kj41 bt648.1 t611).bind fun t652 => (if t652 = true then (laws_FnExactDropDead.j2 kj41 t640 t639 (bt648.2 != t612)) else (laws_FnExactDropDead.j2 kj41 t640 t639 true)))) = some r := H
             have A68 := zK A680
             clear A680
             replace H := Option.bind_eq_some_iff.mp H
             obtain ⟨⟨t648, t649⟩, A690, H⟩ := H
             replace H : ((laws_eqInstrS.f kj41 t648 t611).bind fun t652 => (if t652 = true then (laws_FnExactDropDead.j2 kj41 t640 t639 (t649 != t612)) else (laws_FnExactDropDead.j2 kj41 t640 t639 true))) = some r := H
             have A69 := zK A690
             clear A690
             have HC70 := zK H
             clear H
             obtain ⟨Ao71, co71, eo71⟩ := Kd.R_slice HO_10.out
             subst eo71
             go_upto_region 31 with (first | ((with_reducible refine gate_callee (f := 19) rfl ?_); refine goesL_ (some 83) rfl rfl Try.func19 (by kernel_rfl) rfl #[.slice Ao71 t621.length co71, .int .i64 1] rfl (by (try simp only [z6, z7, z8]); first | done | rfl | (simp only [z4, z5]; rfl)) ?_; (with_reducible refine (laws_markInstrS.calls kj41 (fun k_ => some k_ = (.slice Ao71 t621.length co71 : Value).ownBlock) (.slice Ao71 t621.length co71) t621 1 t639 t640 w _ ?side1 ?side2 A60.out).mono ?_); (case side1 => repeat (first | (with_reducible first | exact HB.out | apply zA | apply zB | apply zC) | exact HB.out)); (case side2 => exact Kd.R_tight rfl HO_10.out); rintro e w72 ⟨rfl, hy0, hb, hkp⟩; refine ⟨_, rfl, ?_⟩; have n0_ := zK (Kd.R_mono (ok' := fun k_ => some k_ ≠ (.slice Ao71 t621.length co71 : Value).ownBlock) (Kd.R_keptB (HO_6.out) hkp (fun k_ hk_ hs_ => (hk_) hs_)) (fun k_ hk_ => hk_.1)); have n1_ := zK (Kd.R_reok rfl hy0 (fun k_ e_ => HO_10.out.1 k_ e_)); have n2_ := zK (hb); clear HO_6; clear HO_10; clear HB; have HO_6 := n0_; have HO_10 := n1_; have HB := n2_; clear n0_ n1_ n2_; (try clear hb); (try clear hkp); (try clear hy0)) | ((with_reducible refine gate_callee (f := 20) rfl ?_); refine goesL_ (some 86) rfl rfl Try.func20 (by kernel_rfl) rfl #[.slice Ao71 t640.length co71, .int .i64 1] rfl (by (try simp only [z6, z7, z8]); first | done | (rw [show t640.length = t621.length from (Kd.R_reads' HO_10.out).1.symm] <;> rfl) | rfl | (simp only [z4, z5]; rfl)) ?_; (with_reducible refine (laws_heldInstrS.calls kj41 _ _ t640 1 t641 _ ?side1 ?side2 A61.out).mono ?_); (case side1 => repeat (first | exact (Kd.R_reads' HO_10.out).2.2 | (with_reducible refine Kd.C_alloc ?_ _) | (with_reducible refine Kd.C_drewN ?_ _) | (with_reducible refine Kd.C_drew ?_))); (case side2 => rw [show t640.length = t621.length from (Kd.R_reads' HO_10.out).1.symm]; exact (Kd.R_reads' HO_10.out).2.1); rintro e w73 ⟨rfl, hb⟩; refine ⟨_, rfl, ?_⟩; have n0_ := zK (Kd.R_below (by (with_reducible repeat (first | apply Kd.R_alloc | apply Kd.R_drewN | apply Kd.R_drew)); exact HO_6.out) hb); have n1_ := zK (Kd.R_below (by (with_reducible repeat (first | apply Kd.R_alloc | apply Kd.R_drewN | apply Kd.R_drew)); exact HO_10.out) hb); have n2_ := zK (zL (by repeat (first | (with_reducible first | exact HB.out | apply zA | apply zB | apply zC) | exact HB.out)) hb); clear HO_6; clear HO_10; clear HB; have HO_6 := n0_; have HO_10 := n1_; have HB := n2_; clear n0_ n1_ n2_; (try clear hb); (try clear hb2); (try clear hk); (try clear hi)) | ((with_reducible refine gate_callee (f := 16) rfl ?_); refine goesL_ (some 94) rfl rfl Try.func16 (by kernel_rfl) rfl #[.slice A0 l0.length c0] rfl (by (try simp only [z6, z7, z8]); first | done | rfl | (simp only [z4, z5]; rfl)) ?_; (with_reducible refine (laws_toInstrS.calls kj41 _ _ l0 t642 _ ?side1 ?side2 A67.out).mono ?_); (case side1 => repeat (first | exact (Kd.C_below HR0.out HB.out) | (with_reducible refine Kd.C_alloc ?_ _) | (with_reducible refine Kd.C_drewN ?_ _) | (with_reducible refine Kd.C_drew ?_))); (case side2 => exact HC0.out); rintro e w74 ⟨v643, rfl, ho0, hb⟩; refine ⟨_, rfl, ?_⟩; have n0_ := zK (Kd.R_elder' (by (with_reducible repeat (first | apply Kd.R_alloc | apply Kd.R_drewN | apply Kd.R_drew)); exact HO_6.out) (Kd.R_base ho0) hb); have n1_ := zK (Kd.R_elder' (by (with_reducible repeat (first | apply Kd.R_alloc | apply Kd.R_drewN | apply Kd.R_drew)); exact HO_10.out) (Kd.R_base ho0) hb); have n2_ := zK (Kd.R_lower (Kd.R_new' (Kd.R_new' ho0 (Kd.R_lt (by (with_reducible repeat (first | apply Kd.R_alloc | apply Kd.R_drewN | apply Kd.R_drew)); exact HO_6.out))) (Kd.R_lt (by (with_reducible repeat (first | apply Kd.R_alloc | apply Kd.R_drewN | apply Kd.R_drew)); exact HO_10.out))) (zN (by repeat (first | (with_reducible first | exact HB.out | apply zA | apply zB | apply zC) | exact HB.out)))); have n3_ := zK (zL (by repeat (first | (with_reducible first | exact HB.out | apply zA | apply zB | apply zC) | exact HB.out)) hb); clear HO_6; clear HO_10; clear HB; have HO_6 := n0_; have HO_10 := n1_; have HO644 := n2_; have HB := n3_; clear n0_ n1_ n2_ n3_; (try clear hb); (try clear hb2); (try clear hk); (try clear hi); (try clear ho0)) | ((with_reducible refine gate_callee (f := 33) rfl ?_); refine goesL_ (some 96) rfl rfl Try.func33 (by kernel_rfl) rfl #[.slice A1 l1.length c1] rfl (by (try simp only [z6, z7, z8]); first | done | rfl | (simp only [z4, z5]; rfl)) ?_; (with_reducible refine (laws_toIntS.calls kj41 _ _ l1 t645 _ ?side1 ?side2 A68.out).mono ?_); (case side1 => repeat (first | exact (Kd.C_below HR1.out HB.out) | (with_reducible refine Kd.C_alloc ?_ _) | (with_reducible refine Kd.C_drewN ?_ _) | (with_reducible refine Kd.C_drew ?_))); (case side2 => exact HC1.out); rintro e w75 ⟨v646, rfl, ho0, hb⟩; refine ⟨_, rfl, ?_⟩; have n0_ := zK (Kd.R_below (by (with_reducible repeat (first | apply Kd.R_alloc | apply Kd.R_drewN | apply Kd.R_drew)); exact HO_6.out) hb); have n1_ := zK (Kd.R_below (by (with_reducible repeat (first | apply Kd.R_alloc | apply Kd.R_drewN | apply Kd.R_drew)); exact HO_10.out) hb); have n2_ := zK (Kd.R_below (by (with_reducible repeat (first | apply Kd.R_alloc | apply Kd.R_drewN | apply Kd.R_drew)); exact HO644.out) hb); have n3_ := zK (Kd.R_lower ho0 (zN (by repeat (first | (with_reducible first | exact HB.out | apply zA | apply zB | apply zC) | exact HB.out)))); have n4_ := zK (zL (by repeat (first | (with_reducible first | exact HB.out | apply zA | apply zB | apply zC) | exact HB.out)) hb); clear HO_6; clear HO_10; clear HO644; clear HB; have HO_6 := n0_; have HO_10 := n1_; have HO644 := n2_; have HO647 := n3_; have HB := n4_; clear n0_ n1_ n2_ n3_ n4_; (try clear hb); (try clear hb2); (try clear hk); (try clear hi); (try clear ho0); obtain ⟨Ao76, co76, eo76⟩ := Kd.R_slice HO644.out; subst eo76; obtain ⟨Ao77, co77, eo77⟩ := Kd.R_slice HO647.out; subst eo77) | ((with_reducible refine gate_callee (f := 56) rfl ?_); refine goesL_ (some 97) rfl rfl Try.func56 (by kernel_rfl) rfl #[.slice Ao76 t642.length co76, .slice Ao77 t645.length co77] rfl (by (try simp only [z6, z7, z8]); first | done | rfl | (simp only [z4, z5]; rfl)) ?_; (with_reducible refine (impl_DropDead.calls kj41 _ _ t642 _ _ t645 t648 t649 _ ?side1 ?side2 ?side3 ?side4 A69.out).mono ?_); (case side1 => repeat (first | exact (Kd.R_reads' HO644.out).2.2 | (with_reducible refine Kd.C_alloc ?_ _) | (with_reducible refine Kd.C_drewN ?_ _) | (with_reducible refine Kd.C_drew ?_))); (case side2 => exact (Kd.R_reads' HO644.out).2.1); (case side3 => repeat (first | exact (Kd.R_reads' HO647.out).2.2 | (with_reducible refine Kd.C_alloc ?_ _) | (with_reducible refine Kd.C_drewN ?_ _) | (with_reducible refine Kd.C_drew ?_))); (case side4 => exact (Kd.R_reads' HO647.out).2.1); rintro e w78 ⟨v650, rfl, ho0, hb⟩; refine ⟨_, rfl, ?_⟩; have n0_ := zK (Kd.R_elder' (by (with_reducible repeat (first | apply Kd.R_alloc | apply Kd.R_drewN | apply Kd.R_drew)); exact HO_6.out) (Kd.R_base ho0) hb); have n1_ := zK (Kd.R_elder' (by (with_reducible repeat (first | apply Kd.R_alloc | apply Kd.R_drewN | apply Kd.R_drew)); exact HO_10.out) (Kd.R_base ho0) hb); have n2_ := zK (Kd.R_elder' (by (with_reducible repeat (first | apply Kd.R_alloc | apply Kd.R_drewN | apply Kd.R_drew)); exact HO644.out) (Kd.R_base ho0) hb); have n3_ := zK (Kd.R_below (by (with_reducible repeat (first | apply Kd.R_alloc | apply Kd.R_drewN | apply Kd.R_drew)); exact HO647.out) hb); have n4_ := zK (Kd.R_lower (Kd.R_new' (Kd.R_new' (Kd.R_new' ho0 (Kd.R_lt (by (with_reducible repeat (first | apply Kd.R_alloc | apply Kd.R_drewN | apply Kd.R_drew)); exact HO_6.out))) (Kd.R_lt (by (with_reducible repeat (first | apply Kd.R_alloc | apply Kd.R_drewN | apply Kd.R_drew)); exact HO_10.out))) (Kd.R_lt (by (with_reducible repeat (first | apply Kd.R_alloc | apply Kd.R_drewN | apply Kd.R_drew)); exact HO644.out))) (zN (by repeat (first | (with_reducible first | exact HB.out | apply zA | apply zB | apply zC) | exact HB.out)))); have n5_ := zK (zL (by repeat (first | (with_reducible first | exact HB.out | apply zA | apply zB | apply zC) | exact HB.out)) hb); clear HO_6; clear HO_10; clear HO644; clear HO647; clear HB; have HO_6 := n0_; have HO_10 := n1_; have HO644 := n2_; have HO647 := n3_; have HO651 := n4_; have HB := n5_; clear n0_ n1_ n2_ n3_ n4_ n5_; (try clear hb); (try clear hb2); (try clear hk); (try clear hi); (try clear ho0)))
             (try simp only [Act.put, z1, z2, z3])
             go_cut [108] (fun v108 wc => ∃ (kq : Nat) (x108_69 : Bool), v108 = .bool x108_69 ∧ Aside0 (laws_FnExactDropDead.j2 kq t640 t639 x108_69 = some r) ∧ Aside0 (kq ≤ kj41) ∧ Aside0 (Kd.R k67 67 wc w.heap.size (fun _ => True) (.slice Ao71 t621.length co71) t640) ∧ Aside0 (Below w.heap.size w wc))
             case first =>
              have H := HC70.out
              clear HC70
              replace H := Option.bind_eq_some_iff.mp H
              obtain ⟨t652, A790, H⟩ := H
              replace H : (if t652 = true then (laws_FnExactDropDead.j2 kj41 t640 t639 (t649 != t612)) else (laws_FnExactDropDead.j2 kj41 t640 t639 true)) = some r := H
              have A79 := zK A790
              clear A790
              by_cases c80 : t652 = true
              ·subst c80
               rw [if_pos rfl] at H
               have H' := zK H
               clear H
               obtain ⟨Ao81, co81, eo81⟩ := Kd.R_slice HO651.out
               subst eo81
               obtain ⟨Ao82, co82, eo82⟩ := Kd.R_slice HO_6.out
               subst eo82
               go_wp2_with (first | ((with_reducible refine gate_callee (f := 18) rfl ?_); refine goesL_ (some 102) rfl rfl Try.func18 (by kernel_rfl) rfl #[.slice Ao81 t648.length co81, .slice Ao82 t611.length co82] rfl (by (try simp only [z6, z7, z8]); first | done | rfl | (simp only [z4, z5]; rfl)) ?_; (with_reducible refine (laws_eqInstrS.calls kj41 _ _ t648 _ _ t611 true _ ?side1 ?side2 ?side3 ?side4 A79.out).mono ?_); (case side1 => repeat (first | exact (Kd.R_reads' HO651.out).2.2 | (with_reducible refine Kd.C_alloc ?_ _) | (with_reducible refine Kd.C_drewN ?_ _) | (with_reducible refine Kd.C_drew ?_))); (case side2 => exact (Kd.R_reads' HO651.out).2.1); (case side3 => repeat (first | exact (Kd.R_reads' HO_6.out).2.2 | (with_reducible refine Kd.C_alloc ?_ _) | (with_reducible refine Kd.C_drewN ?_ _) | (with_reducible refine Kd.C_drew ?_))); (case side4 => exact (Kd.R_reads' HO_6.out).2.1); rintro e w83 ⟨rfl, hb⟩; refine ⟨_, rfl, ?_⟩; have n0_ := zK (Kd.R_below (by (with_reducible repeat (first | apply Kd.R_alloc | apply Kd.R_drewN | apply Kd.R_drew)); exact HO_6.out) hb); have n1_ := zK (Kd.R_below (by (with_reducible repeat (first | apply Kd.R_alloc | apply Kd.R_drewN | apply Kd.R_drew)); exact HO_10.out) hb); have n2_ := zK (Kd.R_below (by (with_reducible repeat (first | apply Kd.R_alloc | apply Kd.R_drewN | apply Kd.R_drew)); exact HO644.out) hb); have n3_ := zK (Kd.R_below (by (with_reducible repeat (first | apply Kd.R_alloc | apply Kd.R_drewN | apply Kd.R_drew)); exact HO647.out) hb); have n4_ := zK (Kd.R_below (by (with_reducible repeat (first | apply Kd.R_alloc | apply Kd.R_drewN | apply Kd.R_drew)); exact HO651.out) hb); have n5_ := zK (zL (by repeat (first | (with_reducible first | exact HB.out | apply zA | apply zB | apply zC) | exact HB.out)) hb); clear HO_6; clear HO_10; clear HO644; clear HO647; clear HO651; clear HB; have HO_6 := n0_; have HO_10 := n1_; have HO644 := n2_; have HO647 := n3_; have HO651 := n4_; have HB := n5_; clear n0_ n1_ n2_ n3_ n4_ n5_; (try clear hb); (try clear hb2); (try clear hk); (try clear hi)))
               go_meet
               case rel => exact ⟨_, ((t649 != t612)), (by first | rfl | (simp; done) | (simp [*]; done)), H', ⟨by have := HJ12.out; have := HJ41.out; first | omega | exact Nat.le_refl _⟩, ⟨by (with_reducible repeat (first | apply Kd.R_alloc | apply Kd.R_drewN | apply Kd.R_drew)); exact Kd.R_mono HO_10.out (fun _ hk => trivial)⟩, ⟨by repeat (first | (with_reducible first | exact HB.out | apply zA | apply zB | apply zC) | exact HB.out)⟩⟩
              ·replace c80 := Bool.eq_false_iff.mpr c80
               subst c80
               rw [if_neg (show ¬ (false = true) by decide)] at H
               have H' := zK H
               clear H
               obtain ⟨Ao84, co84, eo84⟩ := Kd.R_slice HO651.out
               subst eo84
               obtain ⟨Ao85, co85, eo85⟩ := Kd.R_slice HO_6.out
               subst eo85
               go_wp2_with (first | ((with_reducible refine gate_callee (f := 18) rfl ?_); refine goesL_ (some 102) rfl rfl Try.func18 (by kernel_rfl) rfl #[.slice Ao84 t648.length co84, .slice Ao85 t611.length co85] rfl (by (try simp only [z6, z7, z8]); first | done | rfl | (simp only [z4, z5]; rfl)) ?_; (with_reducible refine (laws_eqInstrS.calls kj41 _ _ t648 _ _ t611 false _ ?side1 ?side2 ?side3 ?side4 A79.out).mono ?_); (case side1 => repeat (first | exact (Kd.R_reads' HO651.out).2.2 | (with_reducible refine Kd.C_alloc ?_ _) | (with_reducible refine Kd.C_drewN ?_ _) | (with_reducible refine Kd.C_drew ?_))); (case side2 => exact (Kd.R_reads' HO651.out).2.1); (case side3 => repeat (first | exact (Kd.R_reads' HO_6.out).2.2 | (with_reducible refine Kd.C_alloc ?_ _) | (with_reducible refine Kd.C_drewN ?_ _) | (with_reducible refine Kd.C_drew ?_))); (case side4 => exact (Kd.R_reads' HO_6.out).2.1); rintro e w86 ⟨rfl, hb⟩; refine ⟨_, rfl, ?_⟩; have n0_ := zK (Kd.R_below (by (with_reducible repeat (first | apply Kd.R_alloc | apply Kd.R_drewN | apply Kd.R_drew)); exact HO_6.out) hb); have n1_ := zK (Kd.R_below (by (with_reducible repeat (first | apply Kd.R_alloc | apply Kd.R_drewN | apply Kd.R_drew)); exact HO_10.out) hb); have n2_ := zK (Kd.R_below (by (with_reducible repeat (first | apply Kd.R_alloc | apply Kd.R_drewN | apply Kd.R_drew)); exact HO644.out) hb); have n3_ := zK (Kd.R_below (by (with_reducible repeat (first | apply Kd.R_alloc | apply Kd.R_drewN | apply Kd.R_drew)); exact HO647.out) hb); have n4_ := zK (Kd.R_below (by (with_reducible repeat (first | apply Kd.R_alloc | apply Kd.R_drewN | apply Kd.R_drew)); exact HO651.out) hb); have n5_ := zK (zL (by repeat (first | (with_reducible first | exact HB.out | apply zA | apply zB | apply zC) | exact HB.out)) hb); clear HO_6; clear HO_10; clear HO644; clear HO647; clear HO651; clear HB; have HO_6 := n0_; have HO_10 := n1_; have HO644 := n2_; have HO647 := n3_; have HO651 := n4_; have HB := n5_; clear n0_ n1_ n2_ n3_ n4_ n5_; (try clear hb); (try clear hb2); (try clear hk); (try clear hi)))
               go_meet
               case rel => exact ⟨_, (true), (by first | rfl | (simp; done) | (simp [*]; done)), H', ⟨by have := HJ12.out; have := HJ41.out; first | omega | exact Nat.le_refl _⟩, ⟨by (with_reducible repeat (first | apply Kd.R_alloc | apply Kd.R_drewN | apply Kd.R_drew)); exact Kd.R_mono HO_10.out (fun _ hk => trivial)⟩, ⟨by repeat (first | (with_reducible first | exact HB.out | apply zA | apply zB | apply zC) | exact HB.out)⟩⟩
             case rest =>
              clear HC70
              try clear c1
              try clear c2
              try clear p2
              try clear c3
              try clear c3b0
              try clear c3b1
              try clear c5
              try clear c5b0
              try clear c6
              try clear c8
              try clear c13
              try clear c14
              try clear c16
              try clear c18
              try clear c19
              try clear c20
              try clear c26
              try clear c33
              try clear c36
              try clear c37
              try clear c39
              try clear c50
              try clear c50b0
              try clear c52
              try clear c55
              try clear c56
              try clear c59
              try clear c62
              try clear c62b0
              try clear c66
              try clear c66b0
              try clear c66b1
              try clear c80
              try clear p2
              obtain ⟨kq, x108_69, rfl, HA, HJ69, HO_10, HB⟩ := hcut
              have hl10_69 := (Kd.R_reads' HO_10.out).1
              rw [hl10_69] at HO_10
              (try simp only [hl10_69])
              cases kq with
              | zero => exact absurd HA.out (by simp [laws_FnExactDropDead.j2])
              | succ kj69 =>
               have H := HA.out
               clear HA
               simp only [laws_FnExactDropDead.j2] at H
               by_cases c87 : x108_69 = true
               ·subst c87
                rw [if_pos rfl] at H
                exact absurd ((Option.some.inj H).trans hr) (by decide)
               ·replace c87 := Bool.eq_false_iff.mpr c87
                subst c87
                rw [if_neg (show ¬ (false = true) by decide)] at H
                replace H := Option.bind_eq_some_iff.mp H
                obtain ⟨t653, A880, H⟩ := H
                replace H : (if t653 < 0 then (some false) else (if t653 = t639 then (some true) else (some false))) = some r := H
                have A88 := zK A880
                clear A880
                by_cases c89 : t653 < 0
                ·rw [if_pos c89] at H
                 have c89b0 : decide (t653 < 0) = true := decide_eq_true c89
                 clear c89
                 exact absurd ((Option.some.inj H).trans hr) (by decide)
                ·rw [if_neg c89] at H
                 have c89b0 : decide (t653 < 0) = false := decide_eq_false c89
                 clear c89
                 by_cases c91 : t653 = t639
                 ·rw [if_pos c91] at H
                  have c91b0 : (t653 == t639) = true := beq_iff_eq.mpr c91
                  have c91b1 : (t653 != t639) = false := bne_eq_false_iff_eq.mpr c91
                  clear c91
                  obtain rfl := Option.some.inj H
                  go_wp2_with (first | ((with_reducible refine gate_callee (f := 20) rfl ?_); refine goesL_ (some 111) rfl rfl Try.func20 (by kernel_rfl) rfl #[.slice Ao71 t640.length co71, .int .i64 1] rfl (by (try simp only [z6, z7, z8]); first | done | rfl | (simp only [z4, z5]; rfl)) ?_; (with_reducible refine (laws_heldInstrS.calls kj69 _ _ t640 1 t653 _ ?side1 ?side2 A88.out).mono ?_); (case side1 => repeat (first | exact (Kd.R_reads' HO_10.out).2.2 | (with_reducible refine Kd.C_alloc ?_ _) | (with_reducible refine Kd.C_drewN ?_ _) | (with_reducible refine Kd.C_drew ?_))); (case side2 => exact (Kd.R_reads' HO_10.out).2.1); rintro e w92 ⟨rfl, hb⟩; refine ⟨_, rfl, ?_⟩; have n0_ := zK (Kd.R_below (by (with_reducible repeat (first | apply Kd.R_alloc | apply Kd.R_drewN | apply Kd.R_drew)); exact HO_10.out) hb); have n1_ := zK (zL (by repeat (first | (with_reducible first | exact HB.out | apply zA | apply zB | apply zC) | exact HB.out)) hb); clear HO_10; clear HB; have HO_10 := n0_; have HB := n1_; clear n0_ n1_; (try clear hb); (try clear hb2); (try clear hk); (try clear hi)))
                  go_ret
                  exact ⟨by first | rfl | (simp [errW_none, errW_some] <;> rfl) | (simp [*, errW_none, errW_some] <;> rfl), by repeat (first | (with_reducible first | exact HB.out | apply zA | apply zB | apply zC) | exact HB.out)⟩
                 ·rw [if_neg c91] at H
                  have c91b0 : (t653 == t639) = false := beq_eq_false_iff_ne.mpr c91
                  have c91b1 : (t653 != t639) = true := bne_iff_ne.mpr c91
                  exact absurd ((Option.some.inj H).trans hr) (by decide)
            ·rw [if_neg c66] at H
             have c66b0 : (t641 == t639) = false := beq_eq_false_iff_ne.mpr c66
             have c66b1 : (t641 != t639) = true := bne_iff_ne.mpr c66
             exact absurd ((Option.some.inj H).trans hr) (by decide)
       ·replace c39 := Bool.eq_false_iff.mpr c39
        subst c39
        rw [if_neg (show ¬ (false = true) by decide)] at H
        exact absurd ((Option.some.inj H).trans hr) (by decide)
      ·replace c36 := Bool.eq_false_iff.mpr c36
       subst c36
       rw [if_neg (show ¬ (false = true) by decide)] at H
       exact absurd ((Option.some.inj H).trans hr) (by decide)

end Go.Proofs.Ytecmlikhmkcdpaa.G
