/- slices.Repeat of one number. -/
import Derived.Test.YtecmlikhmkcdpaaEShare
import Derived.Laws.IdiomCopy
namespace Go.Proofs.Ytecmlikhmkcdpaa.E
open Go.RowKit Go.Proofs.YtecmlikhmkcdpaaW.PrintWords Go.Proofs.YtecmlikhmkcdpaaW.PrintLast Go.Proofs.YtecmlikhmkcdpaaW.PrintMore
attribute [local go_sem] max2_int min2_int max_two min_two max_three min_three max_four min_four
set_option linter.unusedVariables false
set_option linter.unusedSimpArgs false
/-! ### bits_Mul64: function 185 -/
def bits_Mul64.f (a0 : Int) (a1 : Int) : Option (Int × Int) := some (IntKind.u64.wrap ((IntKind.u64.wrap ((IntKind.u64.wrap ((a0 / 4294967296) * (a1 / 4294967296))) + ((IntKind.u64.wrap ((IntKind.u64.wrap ((a0 / 4294967296) * (Go.bits .and .u64 a1 4294967295))) + ((IntKind.u64.wrap ((Go.bits .and .u64 a0 4294967295) * (Go.bits .and .u64 a1 4294967295))) / 4294967296))) / 4294967296))) + ((IntKind.u64.wrap ((Go.bits .and .u64 (IntKind.u64.wrap ((IntKind.u64.wrap ((a0 / 4294967296) * (Go.bits .and .u64 a1 4294967295))) + ((IntKind.u64.wrap ((Go.bits .and .u64 a0 4294967295) * (Go.bits .and .u64 a1 4294967295))) / 4294967296))) 4294967295) + (IntKind.u64.wrap ((Go.bits .and .u64 a0 4294967295) * (a1 / 4294967296))))) / 4294967296)), IntKind.u64.wrap (a0 * a1))
set_option maxHeartbeats 8000000 in
set_option maxRecDepth 100000 in
theorem bits_Mul64.calls (a0 : Int) (a1 : Int) (r1 : Int) (r2 : Int) (w : World) (h : bits_Mul64.f a0 a1 = some (r1, r2)) :
    Calls Try.prog 185 #[.int .u64 a0, .int .u64 a1] w fun e w' => e = .returned (.tuple #[.int .u64 r1, .int .u64 r2]) ∧ Drawn0 w w' := by
  have H : (some (IntKind.u64.wrap ((IntKind.u64.wrap ((IntKind.u64.wrap ((a0 / 4294967296) * (a1 / 4294967296))) + ((IntKind.u64.wrap ((IntKind.u64.wrap ((a0 / 4294967296) * (Go.bits .and .u64 a1 4294967295))) + ((IntKind.u64.wrap ((Go.bits .and .u64 a0 4294967295) * (Go.bits .and .u64 a1 4294967295))) / 4294967296))) / 4294967296))) + ((IntKind.u64.wrap ((Go.bits .and .u64 (IntKind.u64.wrap ((IntKind.u64.wrap ((a0 / 4294967296) * (Go.bits .and .u64 a1 4294967295))) + ((IntKind.u64.wrap ((Go.bits .and .u64 a0 4294967295) * (Go.bits .and .u64 a1 4294967295))) / 4294967296))) 4294967295) + (IntKind.u64.wrap ((Go.bits .and .u64 a0 4294967295) * (a1 / 4294967296))))) / 4294967296)), IntKind.u64.wrap (a0 * a1))) = some (r1, r2) := h
  clear h
  simp only [Option.some.injEq, Prod.mk.injEq] at H
  obtain ⟨rfl, rfl⟩ := H
  go_enter Try.func185, Try.ntmps185
  go_wp2
  go_ret2
  exact ⟨by first | rfl | (simp; done) | (simp [*]; done), by repeat (first | exact Drawn0.refl _ | apply Drawn0.step)⟩

/-! ### bits_Mul: function 164 -/
def bits_Mul.f (a0 : Int) (a1 : Int) : Option (Int × Int) := (bits_Mul64.f a0 a1).bind fun bt326 => (some (bt326.1, bt326.2))
set_option maxHeartbeats 8000000 in
set_option maxRecDepth 100000 in
theorem bits_Mul.calls (a0 : Int) (a1 : Int) (r1 : Int) (r2 : Int) (w : World) (h : bits_Mul.f a0 a1 = some (r1, r2)) :
    Calls Try.prog 164 #[.int .u64 a0, .int .u64 a1] w fun e w' => e = .returned (.tuple #[.int .u64 r1, .int .u64 r2]) ∧ Drawn0 w w' := by
  have H : ((bits_Mul64.f a0 a1).bind fun bt326 => (some (bt326.1, bt326.2))) = some (r1, r2) := h
  clear h
  replace H := Option.bind_eq_some_iff.mp H
  obtain ⟨⟨t326, t327⟩, A30, H⟩ := H
  replace H : (some (t326, t327)) = some (r1, r2) := H
  have A3 := Aside0.mk A30
  clear A30
  simp only [Option.some.injEq, Prod.mk.injEq] at H
  obtain ⟨rfl, rfl⟩ := H
  go_enter Try.func164, Try.ntmps164
  go_wp2_with (first | ((with_reducible refine gate_callee (f := 185) rfl ?_); refine goesL_ (some 25) rfl rfl Try.func185 (by kernel_rfl) rfl #[.int .u64 a0, .int .u64 a1] rfl (by (try simp only [List.map_toArray, List.map_cons, List.map_nil]); first | done | rfl | (simp only [List.length_drop, List.length_take]; rfl)) ?_; (with_reducible refine (bits_Mul64.calls a0 a1 t326 t327 _ A3.out).mono ?_); rintro e w' ⟨rfl, ⟨nd, rfl⟩⟩; refine ⟨_, rfl, ?_⟩))
  go_ret2
  exact ⟨by first | rfl | (simp; done) | (simp [*]; done), by repeat (first | exact Drawn0.refl _ | apply Drawn0.step)⟩


theorem mulTab : (List.range 25).all (fun n => decide (bits_Mul.f 1 (Int.ofNat n) = some (0, Int.ofNat n))) = true := by kernel_rfl
theorem mul_one (n : Nat) (h : n < 25) : bits_Mul.f 1 (n : Int) = some (0, (n : Int)) := of_decide_eq_true (List.all_eq_true.1 mulTab n (List.mem_range.2 h))
/-- Numbers put one behind another. -/
def puts (m : Nat) : List Int → List Int → List Int
  | [], ds => ds
  | x :: xs, ds => puts (m + 1) xs (ds.set m x)
theorem puts_length : ∀ (xs : List Int) (m : Nat) (ds : List Int), (puts m xs ds).length = ds.length
  | [], _, _ => rfl
  | x :: xs, m, ds => by rw [puts, puts_length xs, List.length_set]
theorem dn_puts {gd : Nat} : ∀ (xs : List Int) (m : Nat) (ds : List Int) (W : World), dn gd ds W → dn gd (puts m xs ds) (W.setCells gd m (xs.map (Value.int .i64)))
  | [], _, _, _, h => h
  | x :: xs, m, ds, W, h => dn_puts xs (m + 1) (ds.set m x) _ (dn_set h m x)
theorem below_puts {B gd : Nat} {w : World} (hg : B ≤ gd) : ∀ (vs : List Value) (m : Nat) (W : World), Below B w W → Below B w (W.setCells gd m vs)
  | [], _, _, h => h
  | v :: vs, m, W, h => below_puts hg vs (m + 1) _ (h.setCell hg v)
theorem puts_get (v : Int) : ∀ (c m : Nat) (ds : List Int) (q : Nat) (hq : q < (puts m (List.replicate c v) ds).length), (q < m ∧ ds[q]'(by rw [puts_length] at hq; exact hq) = v ∨ m ≤ q ∧ q < m + c) → (puts m (List.replicate c v) ds)[q] = v
  | 0, m, ds, q, hq, h => by
    rcases h with h | h
    · exact h.2
    · omega
  | c + 1, m, ds, q, hq, h => by
    have hl : q < ds.length := by rw [puts_length] at hq; exact hq
    show (puts (m + 1) (List.replicate c v) (ds.set m v))[q] = v
    refine puts_get v c (m + 1) (ds.set m v) q _ ?_
    by_cases e : q = m
    · subst e
      exact .inl ⟨by omega, by simp⟩
    · rcases h with h | h
      · exact .inl ⟨by omega, by rw [List.getElem_set_ne (fun x => e x.symm)]; exact h.2⟩
      · exact .inr ⟨by omega, by omega⟩
theorem copy_dn {gd o dl dc so sl sc c ty : Nat} {gs : Nat} {ds : List Int} {W : World} (hd : dn gd ds W) (hc : c = Nat.min sl dl) (hl : o + c ≤ ds.length) (hsrc : ∀ j, j < c → W.cell? ⟨gs, so + j, none⟩ = some (.int .i64 (-1))) :
    (Builtin.copy_ #[40, 40] ty #[.slice (some ⟨gd, o, none⟩) dl dc, .slice (some ⟨gs, so, none⟩) sl sc]).run Try.prog W = .ok (goInt (c : Int)) (W.setCells gd o ((List.replicate c (-1 : Int)).map (Value.int .i64))) := by
  have h := run_copy_cells (P := Try.prog) W 40 40 ty 3 gd o dl dc ⟨gs, so, none⟩ sl sc ((List.replicate c (-1 : Int)).map (Value.int .i64)) Try.underlying40 (by kernel_rfl) (by simpa using hc) ?_ ?_ ?_ ?_
  · simpa using h
  · intro j v hj
    simp only [List.getElem?_map, List.getElem?_replicate] at hj
    split at hj
    · next hjc =>
      simp only [Option.map_some, Option.some.injEq] at hj
      subst hj
      have := hsrc j hjc
      unfold Addr.add
      split
      · next e => subst e; exact this
      · exact this
    · cases hj
  · intro j hj
    have hj' : j < c := by simpa using hj
    rw [blk_cell hd (o + j)]
    simp [show o + j < ds.length by omega]
  · intro j hj
    exact blk_frozen hd _
  · intro v hv
    simp only [List.map_replicate, List.mem_replicate] at hv
    rw [hv.2]
    rfl
section
variable {ops : Array Oper} {rest : List Oper} {o : Oper} {a : Act} {Q : Exit → Act → World → Prop} {W : World}
theorem copy_event (hgd : o.guard = none) {N : Tmp} (hd : o.dst = some N) (s x : Operand) (ho : o.op = .call { callee := .builtin .copy, args := #[s, x], argTypes := #[40, 40] }) {vs vx : Value} (hs : a.eval s = vs) (hx : a.eval x = vx) {c : Int} {w1 : World}
    (hr : (Builtin.copy_ #[40, 40] o.type #[vs, vx]).run Try.prog W = .ok (goInt c) w1) (h : ∀ w', w' = w1 → wpList Try.prog ops Q rest (a.put o.dst (goInt c)) w') : wpList Try.prog ops Q (o :: rest) a W := by
  refine wpList_plain hgd fun K hK => ?_
  unfold Oper.wp execOp
  simp only [ho, resolve, invoke, builtin, Sem.run_bind, Sem.run_pure, Result.andThen_ok, List.map_toArray, List.map_cons, List.map_nil, hs, hx, hr]
  exact hK _ _ (h _ rfl)
theorem copy_step {Kc : Act → World → Prop} (hw : Region.wanted o (yielded ops a.tmps) = true) (s x : Operand) (ho : o.op = .call { callee := .builtin .copy, args := #[s, x], argTypes := #[40, 40] }) {vs vx : Value} (hs : a.eval s = vs) (hx : a.eval x = vx) {c : Int} {w1 : World}
    (hr : (Builtin.copy_ #[40, 40] o.type #[vs, vx]).run Try.prog W = .ok (goInt c) w1) (h : ∀ w', w' = w1 → Kc (a.put o.dst (goInt c)) w') : if Region.wanted o (yielded ops a.tmps) = true then Oper.wp Try.prog o a W Kc Q else Kc (a.put o.dst undef) W := by
  rw [if_pos hw]
  unfold Oper.wp execOp
  simp only [ho, resolve, invoke, builtin, Sem.run_bind, Sem.run_pure, Result.andThen_ok, List.map_toArray, List.map_cons, List.map_nil, hs, hx, hr]
  exact h _ rfl
end
set_option maxHeartbeats 8000000 in
set_option maxRecDepth 100000 in
theorem repeat_calls (g0 n : Nat) (h1 : 1 ≤ n) (h24 : n ≤ 24) (W : World) (h0 : W.heap[g0]? = some (.cells #[.int .i64 (-1)] 3 (0, 0))) :
    Calls Try.prog 120 #[.slice (some ⟨g0, 0, none⟩) 1 1, .int .i64 (n : Int)] W fun e w' => ∃ g, e = .returned (.slice (some ⟨g, 0, none⟩) n n) ∧ W.heap.size ≤ g ∧ dn g (List.replicate n (-1)) w' ∧ Below W.heap.size W w' := by
  have HB := Aside0.mk (Below.refl W.heap.size W)
  have HX := Aside0.mk h0
  have HMU := Aside0.mk (mul_one n (by omega))
  have hu132 := Try.underlying132
  have d0 : decide ((n : Int) < 0) = false := decide_eq_false (by omega)
  have d1 : decide ((9223372036854775807 : Int) < (n : Int)) = false := decide_eq_false (by omega)
  go_enter Try.func120, Try.ntmps120
  go_wp2_with (first | ((with_reducible refine gate_callee (f := 164) rfl ?_); refine goesL_ (some 18) rfl rfl Try.func164 (by kernel_rfl) rfl #[.int .u64 1, .int .u64 (n : Int)] rfl (by (try simp only [List.map_toArray, List.map_cons, List.map_nil]); first | done | rfl | (simp only [List.length_drop, List.length_take]; rfl)) ?_; (with_reducible refine (bits_Mul.calls 1 (n : Int) 0 (n : Int) _ HMU.out).mono ?_); rintro e w1 ⟨rfl, hb⟩; refine ⟨_, rfl, ?_⟩; have n0_ := Aside0.mk (below_step (by repeat (first | (with_reducible first | exact HB.out | apply below_alloc | apply pw_below_drewN | apply below_drew1) | exact HB.out)) hb.below); clear HB; have HB := n0_; clear n0_; have n1_ := Aside0.mk (blk_below (g := g0) (o := .cells #[.int .i64 (-1)] 3 (0, 0)) (by (with_reducible repeat (first | refine blk_drewN ?_ _ | refine blk_drew ?_ | refine blk_alloc ?_ _)); exact HX.out) hb.below); clear HX hb; have HX := n1_; clear n1_; skip) | ((with_reducible refine gate_dst (N := 30) rfl ?_); refine make_dn ?hg (N := 30) ?hd _ _ rfl n rfl rfl (by omega) ?_; (case hd => rfl); (case hg => rfl); intro gd hg w2 hdn hb; have HGD := Aside0.mk (show W.heap.size ≤ gd from by rw [hg]; exact below_size (by repeat (first | (with_reducible first | exact HB.out | apply below_alloc | apply pw_below_drewN | apply below_drew1) | exact HB.out))); have HDN := Aside0.mk hdn; have n1_ := Aside0.mk (blk_below (g := g0) (o := .cells #[.int .i64 (-1)] 3 (0, 0)) (by (with_reducible repeat (first | refine blk_drewN ?_ _ | refine blk_drew ?_ | refine blk_alloc ?_ _)); exact HX.out) hb); have n0_ := Aside0.mk (below_step (by repeat (first | (with_reducible first | exact HB.out | apply below_alloc | apply pw_below_drewN | apply below_drew1) | exact HB.out)) hb); clear HB HX; have HB := n0_; have HX := n1_; clear n0_ n1_ hg hdn hb; have hcp : (Builtin.copy_ #[40, 40] 3 #[.slice (some ⟨gd, 0, none⟩) n n, .slice (some ⟨g0, 0, none⟩) 1 1]).run Try.prog w2 = .ok (goInt 1) (w2.setCells gd 0 [.int .i64 (-1)]) := copy_dn (c := 1) (o := 0) (so := 0) HDN.out (show 1 = min 1 n by omega) (by simp; omega) (fun j hj => by obtain rfl : j = 0 := (by omega); exact (blk_cell HX.out 0).trans rfl)))
  have HDP := Aside0.mk (show dn gd (puts 0 (List.replicate 1 (-1)) (List.replicate n 0)) (w2.setCells gd 0 [.int .i64 (-1)]) from dn_puts (List.replicate 1 (-1)) 0 _ _ HDN.out)
  have HBP := Aside0.mk (show Below W.heap.size W (w2.setCells gd 0 [.int .i64 (-1)]) from below_puts HGD.out _ _ _ HB.out)
  clear hcp
  go_loopg [8] (n + 1) (fun kq v8 w' => ∃ (x : Int) (wl : World) (ds : List Int), v8 = .int .i64 x ∧ wl = w' ∧ Aside0 ((n : Int) - x < kq) ∧ Aside0 (1 ≤ x ∧ x ≤ n) ∧ Aside0 (ds.length = n) ∧ Aside0 (∀ (q : Nat) (hq : q < ds.length), (q : Int) < x → ds[q] = -1) ∧ Aside0 (dn gd ds w') ∧ Aside0 (Below W.heap.size W w'))
  case atStart => exact ⟨1, _, puts 0 (List.replicate 1 (-1)) (List.replicate n 0), rfl, rfl, ⟨by omega⟩, ⟨by omega⟩, ⟨by rw [puts_length]; simp⟩, ⟨fun q hq h => puts_get (-1) 1 0 _ q hq (.inr ⟨by omega, by omega⟩)⟩, ⟨HDP.out⟩, ⟨HBP.out⟩⟩
  case round =>
    clear HB HX HDN HDP HBP
    obtain ⟨x, wl, ds, rfl, hwl, HM0, HI, LD, HS, HDN, HB⟩ := hrel
    subst hwl
    cases gk with
    | zero => exact absurd HM0.out (by have := HI.out; omega)
    | succ k1 =>
      by_cases c6 : x < (n : Int)
      · have c6b0 : decide (x < (n : Int)) = true := decide_eq_true c6
        have p1 : (0 ≤ x) = True := eq_true (by have := HI.out; omega)
        have p2 : (x ≤ (n : Int)) = True := eq_true HI.out.2
        have CX := Aside0.mk c6
        clear c6
        obtain ⟨C, hC⟩ : ∃ C, C = Nat.min x.toNat (n - x.toNat) := ⟨_, rfl⟩
        have hC2 : C = min x.toNat (n - x.toNat) := hC
        have hne : (n = x.toNat) = False := eq_false (by have := CX.out; have := HI.out; omega)
        have hcp : (Builtin.copy_ #[40, 40] 3 #[.slice (some ⟨gd, x.toNat, none⟩) (n - x.toNat) (n - x.toNat), .slice (some ⟨gd, 0, none⟩) x.toNat n]).run Try.prog wl.drew = .ok (goInt (C : Int)) (wl.drew.setCells gd x.toNat ((List.replicate C (-1 : Int)).map (Value.int .i64))) :=
          copy_dn (c := C) (so := 0) (show dn gd ds wl.drew from HDN.out) hC (by have := LD.out; have := CX.out; have := HI.out; omega) (fun j hj => by
            have hl : j < ds.length := by have := LD.out; have := CX.out; have := HI.out; omega
            rw [Nat.zero_add]
            refine (blk_cell (show wl.drew.heap[gd]? = _ from HDN.out) j).trans ?_
            have := HS.out j hl (by have := HI.out; omega)
            simp [hl, this])
        have HCC := Aside0.mk hC2
        clear hC hC2
        go_wp2
        go_region
        go_wp2
        go_roundg k1
        case measure => have := HM0.out; omega
        case rel =>
          have hw : wrap64 (x + (C : Int)) = x + (C : Int) := by have := HCC.out; have := HI.out; unfold wrap64; omega
          have hCp : 1 ≤ C := by have := HCC.out; have := HI.out; have := CX.out; omega
          exact ⟨wrap64 (x + (C : Int)), _, puts x.toNat (List.replicate C (-1)) ds, rfl, rfl, ⟨by rw [hw]; have := HM0.out; omega⟩, ⟨by rw [hw]; have := HCC.out; have := HI.out; have := CX.out; omega⟩, ⟨by rw [puts_length]; exact LD.out⟩, ⟨fun q hq h => by
            rw [hw] at h
            have hql : q < ds.length := by rw [puts_length] at hq; exact hq
            refine puts_get (-1) C x.toNat ds q hq ?_
            rcases Nat.lt_or_ge q x.toNat with h2 | h2
            · exact .inl ⟨h2, HS.out q hql (by have := HI.out; omega)⟩
            · exact .inr ⟨h2, by have := HI.out; omega⟩⟩, ⟨by have h9 := dn_puts (List.replicate C (-1)) x.toNat ds wl.drew (show dn gd ds wl.drew from HDN.out); simpa using h9⟩, ⟨by have h9 := below_puts HGD.out ((List.replicate C (-1 : Int)).map (Value.int .i64)) x.toNat wl.drew (below_drew HB.out); simpa using h9⟩⟩
      · have c6b0 : decide (x < (n : Int)) = false := decide_eq_false c6
        have hds : ds = List.replicate n (-1) := by
          apply List.ext_getElem
          · rw [LD.out]; simp
          · intro q h1 h2
            rw [HS.out q h1 (by have := HI.out; have := LD.out; omega)]
            simp
        subst hds
        clear c6
        go_wp2
        go_ret
        exact ⟨gd, rfl, HGD.out, HDN.out, HB.out⟩
end Go.Proofs.Ytecmlikhmkcdpaa.E
