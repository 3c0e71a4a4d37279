/- The trace of code: rows that lie apart. -/
import Derived.Test.YtecmlikhmkcdpaaGApart
import Derived.Test.YtecmlikhmkcdpaaGImplRun
namespace Go.Proofs.Ytecmlikhmkcdpaa.G
open Go.RowKit Go.Proofs.YtecmlikhmkcdpaaW.PrintWords Go.Proofs.YtecmlikhmkcdpaaW.PrintLast Go.Proofs.YtecmlikhmkcdpaaW.PrintMore
attribute [local go_sem] max2_int min2_int max_two min_two max_three min_three max_four min_four
set_option linter.unusedVariables false
set_option linter.unusedSimpArgs false

theorem lit_event {P : Program} {ops : Array Oper} {rest : List Oper} {o : Oper} {a : Act} {Q : Exit → Act → World → Prop} {W : World} (hgd : o.guard = none) {N : Tmp} (_hd : o.dst = some N) {cs : Array Value} {t : TypeId} {n : Nat}
    (hrun : (execOp a.eval o).run P W = .ok (.value (.slice (some ⟨W.heap.size, 0, none⟩) n n)) (W.alloc (.cells cs t (0, 0))))
    (h : ∀ g, g = W.heap.size → ∀ w1, w1.heap[g]? = some (.cells cs t (0, 0)) → Below W.heap.size W w1 → wpList P ops Q rest (a.put o.dst (.slice (some ⟨g, 0, none⟩) n n)) w1) : wpList P ops Q (o :: rest) a W :=
  Kd.event_run hgd hrun (h _ rfl _ (blk_new W _) (below_alloc (Below.refl _ _) _))
/-- A list of rows that is appended to: its rows lie apart, and none of them in the list's own block. -/
def rowsO (n base : Nat) (v : Value) (vs : List Value) (Ls : Nat → List Int) (Fo : Nat → Nat) (W : World) : Prop :=
  W.ownsRow base 40 1 v n vs ∧ ∀ j x, vs[j]? = some x → Kd.R (Kd.int .i64) 3 W base (fun k => Fo k = j ∧ some k ≠ v.ownBlock) x (Ls j)
theorem rowsO_append {n base N0 : Nat} {v vn v1 : Value} {vs : List Value} {Ls : Nat → List Int} {L' : List Int} {Fo : Nat → Nat} {wr W w1 : World} (h : rowsO n base v vs Ls Fo wr) (hW : ∀ q, q < wr.heap.size → W.heap[q]? = wr.heap[q]?) (hs : wr.heap.size ≤ W.heap.size) (hN : wr.heap.size ≤ N0)
    (hR : Kd.R (Kd.int .i64) 3 W base (fun k => N0 ≤ k) vn L') (ho : w1.ownsRow base 40 1 v1 (n + 1) (vs ++ [vn])) (hg : W.grownBy w1 v.ownBlock) (hat : v1.ownBlock = v.ownBlock ∨ ∃ b, v1.ownBlock = some b ∧ W.heap.size ≤ b) :
    rowsO (n + 1) base v1 (vs ++ [vn]) (fun j => if j = n then L' else Ls j) (fun k => if N0 ≤ k then n else Fo k) w1 := by
  refine ⟨ho, fun j x hx => ?_⟩
  have hl : vs.length = n := by have := h.1.1; omega
  have hv1 : ∀ k, k < W.heap.size → some k ≠ v.ownBlock → some k ≠ v1.ownBlock := fun k hk hne he => by
    rcases hat with e | ⟨b, e, hb⟩
    · rw [e] at he
      exact hne he
    · rw [e] at he
      injection he with he
      omega
  rcases Nat.lt_or_ge j n with hj | hj
  · rw [List.getElem?_append_left (by omega)] at hx
    show Kd.R (Kd.int .i64) 3 w1 base (fun k => (if N0 ≤ k then n else Fo k) = j ∧ some k ≠ v1.ownBlock) x (if j = n then L' else Ls j)
    rw [if_neg (by omega)]
    refine Kd.R_mono (Kd.R_move (Kd.R_bound (h.2 j x hx)) (fun k hk => ?_)) (fun k hk => ?_)
    · exact (hg.block k (by have := hk.2.2.1; omega) hk.1.2).trans (hW k hk.2.2.1)
    · have := hk.2.2.1
      exact ⟨by rw [if_neg (by omega)]; exact hk.1.1, hv1 k (by omega) hk.1.2⟩
  · rw [List.getElem?_append_right (by omega), hl] at hx
    have hjn : j = n := by
      have := (List.getElem?_eq_some_iff.1 hx).1
      simp at this
      omega
    subst hjn
    have hxe : vn = x := by simpa using hx
    subst hxe
    show Kd.R (Kd.int .i64) 3 w1 base (fun k => (if N0 ≤ k then j else Fo k) = j ∧ some k ≠ v1.ownBlock) vn (if j = j then L' else Ls j)
    rw [if_pos rfl]
    have hv : ∀ k, N0 ≤ k → some k ≠ v.ownBlock := fun k hk he => by
      have := own_lt h.1 k he.symm
      omega
    refine Kd.R_mono (Kd.R_move (Kd.R_bound hR) (fun k hk => hg.block k hk.2.2.1 (hv k hk.1))) (fun k hk => ⟨by rw [if_pos hk.1], hv1 k hk.2.2.1 (hv k hk.1)⟩)
theorem rowsO_congr {n base : Nat} {v : Value} {vs : List Value} {Ls Ls' : Nat → List Int} {Fo : Nat → Nat} {W : World} (h : rowsO n base v vs Ls Fo W) (he : ∀ j, j < n → Ls j = Ls' j) : rowsO n base v vs Ls' Fo W :=
  ⟨h.1, fun j x hx => by
    have : j < n := by
      have h1 := (List.getElem?_eq_some_iff.1 hx).1
      have h2 := h.1.1
      omega
    rw [← he j this]
    exact h.2 j x hx⟩
theorem rowsO_ap {n base : Nat} {v : Value} {vs : List Value} {Ls : Nat → List Int} {Fo : Nat → Nat} {W : World} (h : rowsO n base v vs Ls Fo W) (hn : 0 < n) : ∃ g c, v = .slice (some ⟨g, 0, none⟩) n c ∧ n ≤ c ∧ rowsap n base g (some ⟨g, 0, none⟩) (fun j => vs.getD j undef) Ls Fo W := by
  obtain ⟨hl, h1⟩ := h.1
  rcases h1 with ⟨_, h1⟩ | ⟨g, cap, cur, rfl, hb, hc, hcap, _, hsz, ht⟩
  · omega
  · refine ⟨g, cap, rfl, hcap, fun _ => ⟨rfl, hb, cur, hc, fun j hj => ?_⟩, fun j hj => ?_⟩
    · have h2 : vs[j]? = cur[j]? := by
        rw [← ht, Nat.mul_one, List.getElem?_take, if_pos hj, Array.getElem?_toList]
      rw [← h2]
      show vs[j]? = some (vs.getD j undef)
      rw [List.getD_eq_getElem?_getD, List.getElem?_eq_getElem (by omega)]
      rfl
    · have hx : vs[j]? = some (vs.getD j undef) := by
        rw [List.getD_eq_getElem?_getD, List.getElem?_eq_getElem (by omega)]
        rfl
      refine Kd.R_mono (h.2 j _ hx) (fun k hk => ⟨hk.1, fun e => hk.2 ?_⟩)
      subst e
      rfl
theorem run_one (k : Nat) (A0 : Option Addr) (c0 : Nat) (x : S67) (P1_ : Nat → Prop) (u9000_ : Value) (l1 : List Int) (r : List Int) (w0 w : World) (hB : Below w0.heap.size w0 w) (hr0 : ∀ W_, Kept w W_ (fun k_ => P1_ k_) → Kd.C k67 W_ A0 ([x] : List S67).length [x]) (hc0 : ([x] : List S67).length ≤ c0) (ho1 : Kd.R (Kd.int .i64) 3 w w0.heap.size P1_ u9000_ l1) (h : impl_run.f k [x] l1 = some r) :
    Calls Try.prog 80 #[.slice A0 1 c0, u9000_] w fun e w' => e = .returned (.tuple #[]) ∧ Kd.R (Kd.int .i64) 3 w' w0.heap.size (fun k_ => (P1_ k_ ∨ w.heap.size ≤ k_)) u9000_ r ∧ Below w0.heap.size w0 w' ∧ Kept w w' (fun k_ => P1_ k_) :=
  impl_run.calls k A0 c0 [x] P1_ u9000_ l1 r w0 w hB hr0 hc0 ho1 h
/-- What the trace's rows are: each made by one step out of the one before. -/
def traceP (k : Nat) (xs : List S67) (u : List Int) (Lw : List (List Int)) (b : Bool) : Prop :=
  (impl_IsCode.f k xs = some false ∧ Lw = [] ∧ b = false) ∨ (impl_IsCode.f k xs = some true ∧ impl_areRegs.f k u = some false ∧ Lw = [] ∧ b = false) ∨
  (impl_IsCode.f k xs = some true ∧ impl_areRegs.f k u = some true ∧ b = true ∧ Lw.length = xs.length + 1 ∧ xs.length ≤ 1000 ∧ rowOf Lw 0 = u ∧ (∀ i, (rowOf Lw i).length ≤ 1000) ∧ ∀ i : Nat, i < xs.length → impl_run.f k [rd_T67 xs (i : Int)] (rowOf Lw i) = some (rowOf Lw (i + 1)))
theorem clone_same (l : List Int) (h : l.length ≤ 1000) : slices_Clone_int_int.f l = some l := by
  unfold slices_Clone_int_int.f
  rw [Option.bind_some, if_pos (by simp; omega), List.nil_append]
set_option maxHeartbeats 40000000 in
set_option maxRecDepth 100000 in
theorem impl_TraceOf.hand_ap (k : Nat) (A0 : Option Addr) (c0 : Nat) (l0 : List (S67)) (A1 : Option Addr) (c1 : Nat) (l1 : List Int) (r1 : List (List Int)) (r2 : Bool) (w : World) (hr0 : Kd.C k67 w A0 l0.length l0) (hc0 : l0.length ≤ c0) (hr1 : Kd.C (Kd.int .i64) w A1 l1.length l1) (hc1 : l1.length ≤ c1) (h : traceP k l0 l1 r1 r2) :
    Calls Try.prog 34 #[.slice A0 l0.length c0, .slice A1 l1.length c1] w (apRes r2 r1 w) := by
  have HR0 := zK hr0
  have HC0 := zK hc0
  have HR1 := zK hr1
  have HC1 := zK hc1
  clear hr0 hc0 hr1 hc1
  have HB := zK (Below.refl w.heap.size w)
  rcases h with ⟨hco, rfl, rfl⟩ | ⟨hco, hrg, rfl, rfl⟩ | ⟨hco, hrg, rfl, hlen, hn, h0, hsm, hst⟩
  · have Hco := zK hco
    clear hco
    go_enter Try.func34, Try.ntmps34
    go_wp2_with (first | ((with_reducible refine gate_callee (f := 60) rfl ?_); refine goesL_ (some 11) rfl rfl Try.func60 (by kernel_rfl) rfl #[.slice A0 l0.length c0] rfl (by (try simp only [z6, z7, z8]); first | done | (simp only [hj]; rfl) | rfl | (simp only [z4, z5]; rfl)) ?_; (with_reducible refine (impl_IsCode.calls k _ _ l0 false _ HR0.out HC0.out Hco.out).mono ?_); rintro e w8 ⟨rfl, hb⟩; refine ⟨_, rfl, ?_⟩; have n0_ := zK (zL (by repeat (first | (with_reducible first | exact HB.out | apply zA | apply zB | apply zC) | exact HB.out)) hb); clear HB; have HB := n0_; clear n0_; skip))
    go_ret2
    exact apRes_nil _ _ (by repeat (first | (with_reducible first | exact HB.out | apply zA | apply zB | apply zC) | exact HB.out))
  · have Hco := zK hco
    have Hrg := zK hrg
    clear hco hrg
    go_enter Try.func34, Try.ntmps34
    go_wp2_with (first | ((with_reducible refine gate_callee (f := 60) rfl ?_); refine goesL_ (some 11) rfl rfl Try.func60 (by kernel_rfl) rfl #[.slice A0 l0.length c0] rfl (by (try simp only [z6, z7, z8]); first | done | (simp only [hj]; rfl) | rfl | (simp only [z4, z5]; rfl)) ?_; (with_reducible refine (impl_IsCode.calls k _ _ l0 true _ HR0.out HC0.out Hco.out).mono ?_); rintro e w8 ⟨rfl, hb⟩; refine ⟨_, rfl, ?_⟩; have n0_ := zK (zL (by repeat (first | (with_reducible first | exact HB.out | apply zA | apply zB | apply zC) | exact HB.out)) hb); clear HB; have HB := n0_; clear n0_; skip) | (go_at_call 78; (with_reducible refine (impl_areRegs.calls k _ _ l1 false _ ?side1 ?side2 Hrg.out).mono ?_); (case side1 => repeat (first | exact (Kd.C_below HR1.out HB.out) | (with_reducible refine Kd.C_drewN ?_ _) | (with_reducible refine Kd.C_drew ?_))); (case side2 => exact HC1.out); rintro e w' ⟨rfl, ⟨nd, rfl⟩⟩))
    go_ret2
    exact apRes_nil _ _ (by repeat (first | (with_reducible first | exact HB.out | apply zA | apply zB | apply zC) | exact HB.out))
  · have Hco := zK hco
    have Hrg := zK hrg
    have Hlen := zK hlen
    have Hn := zK hn
    have H0 := zK h0
    have Hcl := zK (fun i => clone_same _ (hsm i))
    have Hcl1 := zK (show slices_Clone_int_int.f l1 = some l1 from by rw [← h0]; exact clone_same _ (hsm 0))
    have Hst := zK hst
    clear hco hrg hlen hn h0 hsm hst
    go_enter Try.func34, Try.ntmps34
    go_wp2_with (first | ((with_reducible refine gate_callee (f := 60) rfl ?_); refine goesL_ (some 11) rfl rfl Try.func60 (by kernel_rfl) rfl #[.slice A0 l0.length c0] rfl (by (try simp only [z6, z7, z8]); first | done | (simp only [hj]; rfl) | rfl | (simp only [z4, z5]; rfl)) ?_; (with_reducible refine (impl_IsCode.calls k _ _ l0 true _ HR0.out HC0.out Hco.out).mono ?_); rintro e w8 ⟨rfl, hb⟩; refine ⟨_, rfl, ?_⟩; have n0_ := zK (zL (by repeat (first | (with_reducible first | exact HB.out | apply zA | apply zB | apply zC) | exact HB.out)) hb); clear HB; have HB := n0_; clear n0_; skip) | (go_at_call 78; (with_reducible refine (impl_areRegs.calls k _ _ l1 true _ ?side1 ?side2 Hrg.out).mono ?_); (case side1 => repeat (first | exact (Kd.C_below HR1.out HB.out) | (with_reducible refine Kd.C_drewN ?_ _) | (with_reducible refine Kd.C_drew ?_))); (case side2 => exact HC1.out); rintro e w' ⟨rfl, ⟨nd, rfl⟩⟩) | ((with_reducible refine gate_callee (f := 79) rfl ?_); refine goesL_ (some 19) rfl rfl Try.func79 (by kernel_rfl) rfl #[.slice A1 l1.length c1] rfl (by (try simp only [z6, z7, z8]); first | done | (simp only [hj]; rfl) | rfl | (simp only [z4, z5]; rfl)) ?_; (with_reducible refine (slices_Clone_int_int.calls _ _ l1 l1 _ (Kd.C_below HR1.out (by repeat (first | (with_reducible first | exact HB.out | apply zA | apply zB | apply zC) | exact HB.out))) HC1.out Hcl1.out).mono ?_); rintro e w9 ⟨v0, rfl, ho, hb⟩; refine ⟨_, rfl, ?_⟩; have HN0 := zK (Kd.R_lower ho (zN (by repeat (first | (with_reducible first | exact HB.out | apply zA | apply zB | apply zC) | exact HB.out)))); have n0_ := zK (zL (by repeat (first | (with_reducible first | exact HB.out | apply zA | apply zB | apply zC) | exact HB.out)) hb); clear HB; have HB := n0_; clear n0_; clear ho hb; obtain ⟨Ao0, co0, eo0⟩ := Kd.R_slice HN0.out; subst eo0; skip) | ((with_reducible refine gate_dst (N := 20) rfl ?_); refine lit_event ?hg (N := 20) ?hd (cs := #[.slice Ao0 l1.length co0]) (t := 40) (n := 1) ?hr ?_; (case hd => rfl); (case hg => rfl); (case hr => first | (go_simp; done) | (go_simp; rfl)); intro g hg w10 hbox hb; have HN1 := zK (Kd.R_below HN0.out hb); have HBX := zK hbox; have HGG := zK (show w.heap.size ≤ g from by rw [hg]; exact zN (by repeat (first | (with_reducible first | exact HB.out | apply zA | apply zB | apply zC) | exact HB.out))); have HGN := zK (show ∀ q, (Value.slice Ao0 l1.length co0).ownBlock = some q → q < g from by rw [hg]; exact fun q hq => Kd.R_lt HN0.out q hq); have n0_ := zK (zL (by repeat (first | (with_reducible first | exact HB.out | apply zA | apply zB | apply zC) | exact HB.out)) hb); clear HB; have HB := n0_; clear n0_; clear hg hbox hb HN0))
    go_loopw [6, 23] (fun v6 v23 wr => ∃ (i : Nat) (x : Int) (vs : List Value) (Fo : Nat → Nat), v23 = .int .i64 x ∧ Aside0 (x = (i : Int)) ∧ Aside0 (i ≤ l0.length) ∧ Aside0 (rowsO (i + 1) w.heap.size v6 vs (rowOf r1) Fo wr) ∧ Aside0 (Below w.heap.size w wr))
      (fun _ v23 _ => (1001 - intOf v23).toNat)
    case atStart =>
      refine ⟨0, 0, [.slice Ao0 l1.length co0], fun _ => 0, by first | rfl | simp, ⟨rfl⟩, ⟨Nat.zero_le _⟩, ⟨⟨⟨by simp, .inr ⟨g, 1, #[.slice Ao0 l1.length co0], rfl, HGG.out, ?_, Nat.le_refl _, by unfold maxLen; omega, by simp, by simp⟩⟩, fun j x hx => ?_⟩⟩, ⟨(by repeat (first | (with_reducible first | exact HB.out | apply zA | apply zB | apply zC) | exact HB.out))⟩⟩
      · exact HBX.out
      · have hj : j = 0 := by
          have := (List.getElem?_eq_some_iff.1 hx).1
          simp at this
          exact this
        subst hj
        have hxe : Value.slice Ao0 l1.length co0 = x := by simpa using hx
        subst hxe
        rw [H0.out]
        refine Kd.R_reok rfl HN1.out (fun q hq => ⟨rfl, fun he => ?_⟩)
        have h2 := HGN.out q hq
        have : q = g := by simpa [Value.ownBlock] using he
        omega
    case round =>
      obtain ⟨i, x, vs, Fo, rfl, HXI, HIN, HRO, HBr⟩ := hrel
      by_cases hc : i < l0.length
      · have hcb : decide (x < (l0.length : Int)) = true := decide_eq_true (by have := HXI.out; omega)
        have HRU := zK (show impl_run.f k [(⟨(rd_T67 l0 x).f0, (rd_T67 l0 x).f1, (rd_T67 l0 x).f2, (rd_T67 l0 x).f3, (rd_T67 l0 x).f4⟩ : S67)] (rowOf r1 i) = some (rowOf r1 (i + 1)) from by have := Hst.out i hc; rw [← HXI.out] at this; exact this)
        have p1 : 0 ≤ x := by have := HXI.out; omega
        have q1 : x < (l0.length : Int) := by have := HXI.out; omega
        obtain ⟨ad0, e0, hx0, hx1, hx2, hx3, hx4⟩ := at_T67 HR0.out x p1 q1
        generalize rd_T67 l0 x = X at hx0 hx1 hx2 hx3 hx4 HRU
        cases e0
        replace hx0 := zt HBr.out hx0
        replace hx1 := zt HBr.out hx1
        replace hx2 := zt HBr.out hx2
        replace hx3 := zt HBr.out hx3
        replace hx4 := zt HBr.out hx4
        obtain ⟨m, hm⟩ : ∃ m, m = i + 1 := ⟨_, rfl⟩
        rw [← hm] at HRO
        obtain ⟨g6, cv, rfl, hcv, hap⟩ := rowsO_ap HRO.out (by omega)
        obtain ⟨_, hcell⟩ := rowsap_cell hap i (by omega)
        obtain ⟨Ai, ci, hvi, hli, hCi⟩ := Kd.R_reads (hap.2 i (by omega))
        replace hvi : vs.getD i undef = .slice Ai (rowOf r1 i).length ci := hvi
        replace hcell : wr.cell? ⟨g6, i, none⟩ = some (vs.getD i undef) := hcell
        rw [hvi] at hcell
        have HCi := zK hCi
        have HLi := zK hli
        obtain ⟨jj, hj⟩ : ∃ j : Int, wrap64 ((m : Int) - 1) = j := ⟨_, rfl⟩
        have hjw : (IntKind.i64.wrap ((m : Int) - 1)) = jj := (i64_w _).trans hj
        have hji : jj = (i : Int) := by have := Hn.out; rw [← hj, hm]; unfold wrap64; omega
        have hadd : (⟨g6, 0, none⟩ : Addr).add jj.toNat = ⟨g6, i, none⟩ := by rw [hji, Int.toNat_natCast, add_plain]
        rw [← hadd] at hcell
        generalize (⟨g6, 0, none⟩ : Addr) = ad at hcell HRO ⊢
        have HCX := zK hcell
        have p2 : 0 ≤ jj := by omega
        have q2 : jj < (m : Int) := by omega
        have HMI := zK hm
        clear hap hcell hvi hli hCi hadd hji hm hcv
        replace p1 := eq_true p1
        replace q1 := eq_true q1
        replace p2 := eq_true p2
        replace q2 := eq_true q2
        have HI1 := zK hc
        clear hc
        have HM := zK (Below.refl wr.heap.size wr)
        have HB := HBr
        clear HBr
        go_wp2_with (first | ((with_reducible refine gate_dst (N := 8) rfl ?_); refine box_event ?hg (N := 8) ?hd (cs := #[.string (⟨#[]⟩ : ByteArray), .int .i64 0, .int .i64 0, .int .i64 0, .int .i64 0]) (t := 67) ?hr ?_; (case hd => rfl); (case hg => rfl); (case hr => first | (go_simp; done) | (go_simp; rfl)); intro gb hg w24 hbox hb; have GE := zK (show wr.heap.size ≤ gb from by rw [hg]; exact zN (by repeat (first | (with_reducible first | exact HM.out | apply zA | apply zB | apply zC) | exact HM.out))); have GW := zK (show w.heap.size ≤ gb from by rw [hg]; exact zN (by repeat (first | (with_reducible first | exact HB.out | apply zA | apply zB | apply zC) | exact HB.out))); have BK := zK hbox; have n0_ := zK (zL (by repeat (first | (with_reducible first | exact HM.out | apply zA | apply zB | apply zC) | exact HM.out)) hb); clear HM; have HM := n0_; clear n0_; have n0_ := zK (zL (by repeat (first | (with_reducible first | exact HB.out | apply zA | apply zB | apply zC) | exact HB.out)) hb); clear HB; have HB := n0_; clear n0_;  clear hb hbox hg; have hcz25_0 : w24.cell? ⟨gb, 0, none⟩ = some (.string (⟨#[]⟩ : ByteArray)) := (zI BK.out 0).trans rfl; have hcz25_1 : w24.cell? ⟨gb, 1, none⟩ = some (.int .i64 0) := (zI BK.out 1).trans rfl; have hcz25_2 : w24.cell? ⟨gb, 2, none⟩ = some (.int .i64 0) := (zI BK.out 2).trans rfl; have hcz25_3 : w24.cell? ⟨gb, 3, none⟩ = some (.int .i64 0) := (zI BK.out 3).trans rfl; have hcz25_4 : w24.cell? ⟨gb, 4, none⟩ = some (.int .i64 0) := (zI BK.out 4).trans rfl; have hfz25_0 := zH BK.out 0; have hfz25_1 := zH BK.out 1; have hfz25_2 := zH BK.out 2; have hfz25_3 := zH BK.out 3; have hfz25_4 := zH BK.out 4; skip) | ((with_reducible refine gate_store (t := 67) (p := 8) rfl ?_); refine store_event (t := 67) (p := 8) (v := ?vo_w26) (w1 := (((((w24.setCell ⟨gb, 0, none⟩ (.string (X.f0))).setCell ⟨gb, 1, none⟩ (.int .i64 (X.f1))).setCell ⟨gb, 2, none⟩ (.int .i64 (X.f2))).setCell ⟨gb, 3, none⟩ (.int .i64 (X.f3))).setCell ⟨gb, 4, none⟩ (.int .i64 (X.f4)))) ?hg ?ho ?hn ?hr ?_; (case ho => rfl); (case hg => rfl); (case hn => rfl); (case hr => first | (go_simp; done) | (go_simp; rfl)); intro w26 hw; have n1_ : Aside0 (w26.heap[gb]? = some (.cells #[.string (X.f0), .int .i64 (X.f1), .int .i64 (X.f2), .int .i64 (X.f3), .int .i64 (X.f4)] 67 (0, 0))) := ⟨(by rw [hw]; exact (by (with_reducible repeat (first | refine zE ?_ _ | refine zF ?_ | refine zG ?_ _)); refine blk_put (cs := #[.string (X.f0), .int .i64 (X.f1), .int .i64 (X.f2), .int .i64 (X.f3), .int .i64 0]) ?_ 4 _ rfl; (with_reducible repeat (first | refine zE ?_ _ | refine zF ?_ | refine zG ?_ _)); refine blk_put (cs := #[.string (X.f0), .int .i64 (X.f1), .int .i64 (X.f2), .int .i64 0, .int .i64 0]) ?_ 3 _ rfl; (with_reducible repeat (first | refine zE ?_ _ | refine zF ?_ | refine zG ?_ _)); refine blk_put (cs := #[.string (X.f0), .int .i64 (X.f1), .int .i64 0, .int .i64 0, .int .i64 0]) ?_ 2 _ rfl; (with_reducible repeat (first | refine zE ?_ _ | refine zF ?_ | refine zG ?_ _)); refine blk_put (cs := #[.string (X.f0), .int .i64 0, .int .i64 0, .int .i64 0, .int .i64 0]) ?_ 1 _ rfl; (with_reducible repeat (first | refine zE ?_ _ | refine zF ?_ | refine zG ?_ _)); refine blk_put (cs := #[.string (⟨#[]⟩ : ByteArray), .int .i64 0, .int .i64 0, .int .i64 0, .int .i64 0]) ?_ 0 _ rfl; (with_reducible repeat (first | refine zE ?_ _ | refine zF ?_ | refine zG ?_ _));  exact BK.out))⟩; have n2_ : Aside0 (Below wr.heap.size wr w26) := ⟨(by rw [hw]; exact (by repeat (first | (with_reducible first | exact HM.out | apply zA | apply zB | apply zC | refine zD ?_ GE.out) | exact HM.out)))⟩; have n3_ : Aside0 (Below w.heap.size w w26) := ⟨(by rw [hw]; exact (by repeat (first | (with_reducible first | exact HB.out | apply zA | apply zB | apply zC | refine zD ?_ GW.out) | exact HB.out)))⟩; clear hw BK HM HB; have BK := n1_; have HM := n2_; have HB := n3_; clear n1_ n2_ n3_; have hcx := zt HM.out HCX.out) | ((with_reducible refine gate_callee (f := 79) rfl ?_); refine goesL_ (some 33) rfl rfl Try.func79 (by kernel_rfl) rfl #[.slice Ai (rowOf r1 i).length ci] rfl (by (try simp only [z6, z7, z8]); first | done | (simp only [hj]; rfl) | rfl | (simp only [z4, z5]; rfl)) ?_; (with_reducible refine (slices_Clone_int_int.calls _ _ (rowOf r1 i) (rowOf r1 i) _ (Kd.C_below HCi.out (by repeat (first | (with_reducible first | exact HM.out | apply zA | apply zB | apply zC) | exact HM.out))) HLi.out (Hcl.out i)).mono ?_); rintro e w28 ⟨v5, rfl, ho, hb⟩; refine ⟨_, rfl, ?_⟩; have HNX := zK (Kd.R_lower (Kd.R_mono (ok' := fun k => w26.heap.size ≤ k ∧ k < w28.heap.size) (Kd.R_bound ho) (fun k hk => ⟨hk.2.1, hk.2.2.1⟩)) (zN (by repeat (first | (with_reducible first | exact HB.out | apply zA | apply zB | apply zC) | exact HB.out)))); have HS6 := zK (zN (by repeat (first | (with_reducible first | exact HM.out | apply zA | apply zB | apply zC) | exact HM.out))); have n1_ := zK (zM (g := gb) (o := .cells #[.string (X.f0), .int .i64 (X.f1), .int .i64 (X.f2), .int .i64 (X.f3), .int .i64 (X.f4)] 67 (0, 0)) (by (with_reducible repeat (first | refine zE ?_ _ | refine zF ?_ | refine zG ?_ _)); exact BK.out) hb); clear BK; have BK := n1_; clear n1_; have n0_ := zK (zL (by repeat (first | (with_reducible first | exact HM.out | apply zA | apply zB | apply zC) | exact HM.out)) hb); clear HM; have HM := n0_; clear n0_; have n0_ := zK (zL (by repeat (first | (with_reducible first | exact HB.out | apply zA | apply zB | apply zC) | exact HB.out)) hb); clear HB; have HB := n0_; clear n0_;  clear ho hb; have hcz29_0 : w28.cell? ⟨gb, 0, none⟩ = some (.string (X.f0)) := (zI BK.out 0).trans rfl; have hcz29_1 : w28.cell? ⟨gb, 1, none⟩ = some (.int .i64 (X.f1)) := (zI BK.out 1).trans rfl; have hcz29_2 : w28.cell? ⟨gb, 2, none⟩ = some (.int .i64 (X.f2)) := (zI BK.out 2).trans rfl; have hcz29_3 : w28.cell? ⟨gb, 3, none⟩ = some (.int .i64 (X.f3)) := (zI BK.out 3).trans rfl; have hcz29_4 : w28.cell? ⟨gb, 4, none⟩ = some (.int .i64 (X.f4)) := (zI BK.out 4).trans rfl; have hfz29_0 := zH BK.out 0; have hfz29_1 := zH BK.out 1; have hfz29_2 := zH BK.out 2; have hfz29_3 := zH BK.out 3; have hfz29_4 := zH BK.out 4;  obtain ⟨Ao, co, eo⟩ := Kd.R_slice HNX.out; subst eo; skip) | ((with_reducible refine gate_dst (N := 35) rfl ?_); refine Kd.R_lit k67 _ 67 ?hg (N := 35) ?hd (xs := ([(⟨X.f0, X.f1, X.f2, X.f3, X.f4⟩ : S67)] : List (S67))) (inner := [.string (X.f0), .int .i64 (X.f1), .int .i64 (X.f2), .int .i64 (X.f3), .int .i64 (X.f4)]) (ok := fun _ => True) (okp := fun _ => True) ?hr ?hp (fun _ hk => hk) trivial (Below.refl _ _) (Nat.le_refl _) (by simp) ?_; (case hd => rfl); (case hg => rfl); (case hr => first | (go_simp; done) | (go_simp; rfl)); (case hp => exact (Reps.c5 (show Kd.M k67 _ _ _ (⟨X.f0, X.f1, X.f2, X.f3, X.f4⟩ : S67) [.string (X.f0), .int .i64 (X.f1), .int .i64 (X.f2), .int .i64 (X.f3), .int .i64 (X.f4)] from (k67_mkM _ _ _ (⟨X.f0, X.f1, X.f2, X.f3, X.f4⟩ : S67) )) (Reps.none _ _))); intro v6 w30 ho hb hg_ hnew_; clear hg_ hnew_; have HLT := zK (Kd.R_mono (ok' := fun k => w28.heap.size ≤ k) (Kd.R_bound ho) (fun k hk => hk.2.1)); have n1_ := zK (Kd.R_below HNX.out hb); clear HNX; have HNX := n1_; clear n1_; have n0_ := zK (zL (by repeat (first | (with_reducible first | exact HM.out | apply zA | apply zB | apply zC) | exact HM.out)) hb); clear HM; have HM := n0_; clear n0_; have n0_ := zK (zL (by repeat (first | (with_reducible first | exact HB.out | apply zA | apply zB | apply zC) | exact HB.out)) hb); clear HB; have HB := n0_; clear n0_;  clear hb ho; obtain ⟨Al, cl, el⟩ := Kd.R_slice HLT.out; subst el) | ((with_reducible refine gate_callee (f := 80) rfl ?_); refine goesL_ (some 37) rfl rfl Try.func80 (by kernel_rfl) rfl #[.slice Al 1 cl, .slice Ao (rowOf r1 i).length co] rfl (by (try simp only [z6, z7, z8]); first | done | (simp only [hj]; rfl) | rfl | (simp only [z4, z5]; rfl)) ?_; have HZ := (run_one k Al cl (⟨X.f0, X.f1, X.f2, X.f3, X.f4⟩ : S67) (fun k => w26.heap.size ≤ k ∧ k < w28.heap.size) (.slice Ao (rowOf r1 i).length co) (rowOf r1 i) (rowOf r1 (i + 1)) w _ (by repeat (first | (with_reducible first | exact HB.out | apply zA | apply zB | apply zC) | exact HB.out)) (Kd.C_kept_own HLT.out (fun k hk hs => Nat.not_le.2 hs.2 hk)) (Kd.R_reads' HLT.out).2.1 HNX.out HRU.out); (with_reducible refine HZ.mono ?_); clear HZ; rintro e w34 ⟨rfl, hy0, hb, hkp⟩; refine ⟨_, rfl, ?_⟩; have HNY := zK (Kd.R_reok (ok := fun k => w26.heap.size ≤ k) rfl hy0 (fun k e_ => (HNX.out.1 k e_).1)); have HWK := zK (show ∀ q, q < wr.heap.size → w34.heap[q]? = wr.heap[q]? from fun q hq => (hkp.2 q (Nat.lt_of_lt_of_le hq (zN (by repeat (first | (with_reducible first | exact HM.out | apply zA | apply zB | apply zC) | exact HM.out)))) (fun hs => Nat.not_lt.2 (Nat.le_trans HS6.out hs.1) hq)).trans (HM.out.block q hq)); have HWS := zK (Nat.le_trans (zN (by repeat (first | (with_reducible first | exact HM.out | apply zA | apply zB | apply zC) | exact HM.out))) hkp.1 : wr.heap.size ≤ w34.heap.size); clear HB HM BK HLT HNX; have HB := zK hb; clear hb hkp hy0; skip) | ((with_reducible refine gate_builtin (b := .append) (xs := #[.tmp 38, .tmp 40]) rfl ?_); at_builtin; refine print_append_cells (w0 := w) w.heap.size rfl (.tmp 38) (.tmp 40) 41 40 (.slice none 0 0) 1 24 rfl Try.underlying41 info40 rfl (by decide) (by omega) (.slice (some ad) m cv) m vs [.slice Ao (rowOf r1 i).length co] rfl rfl rfl (fun u hu => by rw [List.mem_singleton.1 hu]; rfl) ?aO ?aB ?aS ?aL ?_; (case aO => exact own_move HRO.out.1 (fun q hq => HWK.out q (own_lt HRO.out.1 q hq))); (case aB => exact (by repeat (first | (with_reducible first | exact HB.out | apply zA | apply zB | apply zC) | exact HB.out))); (case aS => exact zN (by repeat (first | (with_reducible first | exact HB.out | apply zA | apply zB | apply zC) | exact HB.out))); (case aL => have := HMI.out; have := HIN.out; have := Hn.out; omega); intro v1 w35 hown hb hg hat; have HAP := zK (rowsO_append HRO.out HWK.out HWS.out HS6.out HNY.out hown hg hat); clear HB; have HB := zK hb; clear hb hown hg hat))
        go_roundw
        case rel =>
          have h1 := HXI.out
          have h3 := Hn.out
          have h4 := HI1.out
          have hAP := HAP.out
          rw [HMI.out] at hAP
          refine ⟨i + 1, _, _, _, by first | rfl | simp, ⟨?_⟩, ⟨h4⟩, ⟨rowsO_congr hAP ?_⟩, HB⟩
          · unfold wrap64
            omega
          · intro j hj
            show (if j = i + 1 then rowOf r1 (i + 1) else rowOf r1 j) = rowOf r1 j
            by_cases e : j = i + 1
            · rw [if_pos e, e]
            · rw [if_neg e]
        case measure =>
          have h1 := HXI.out
          have h3 := Hn.out
          have h4 := HI1.out
          have h5 : wrap64 (x + 1) = x + 1 := by unfold wrap64; omega
          simp [intOf, h5]
          omega
      · have hcb : decide (x < (l0.length : Int)) = false := decide_eq_false (by have := HXI.out; have := HIN.out; omega)
        have hil := HIN.out
        obtain rfl : i = l0.length := by omega
        clear hil hc
        obtain ⟨g6, cv, rfl, hcv, hap⟩ := rowsO_ap HRO.out (by omega)
        have HAP := zK hap
        have HCV := zK hcv
        have HB := HBr
        clear hap hcv HRO HBr
        go_wp2
        go_ret2
        have h1 := Hlen.out
        have h2 := Hn.out
        refine ⟨g6, some ⟨g6, 0, none⟩, cv, _, Fo, by rw [h1]; rfl, by rw [h1]; exact HCV.out, by omega, by rw [h1]; exact HAP.out, (by repeat (first | (with_reducible first | exact HB.out | apply zA | apply zB | apply zC) | exact HB.out))⟩
end Go.Proofs.Ytecmlikhmkcdpaa.G
