/- exBuilt.once: a node and what it needs, each once, added to what is built where nodes are shared. -/
import Derived.Test.YtecmlikhmkcdpaaEWalk
import Derived.Test.YtecmlikhmkcdpaaEPutS
namespace Go.Proofs.Ytecmlikhmkcdpaa.E
open Go.RowKit Go.Proofs.YtecmlikhmkcdpaaW.PrintWords Go.Proofs.YtecmlikhmkcdpaaW.PrintLast Go.Proofs.YtecmlikhmkcdpaaW.PrintMore
attribute [local go_sem] max2_int min2_int max_two min_two max_three min_three max_four min_four
set_option linter.unusedVariables false
set_option linter.unusedSimpArgs false

/-- A node put where nodes are shared: its index, and the nodes. -/
def putN (X : S79) (nodes : List S79) : Int × List S79 := match nodes.findIdx? (fun m => sameN m X) with
  | some j => ((j : Int), nodes)
  | none => ((nodes.length : Int), nodes ++ [X])
theorem put_calls (X : S79) (gb : Nat) (ok : Nat → Prop) (nodes : List S79) (w0 W : World) (hB : Below w0.heap.size w0 W) (hd : bld gb w0.heap.size ok true nodes W) (hgb : w0.heap.size ≤ gb) (hok : ¬ ok gb) (hfr : ∀ k, W.heap.size ≤ k → ok k) (hn : nodes.length < 1000) :
    Calls Try.prog 115 #[.pointer (some ⟨gb, 0, none⟩), .agg #[.string X.f0, .int .i64 X.f1, .int .i64 X.f2, .int .i64 X.f3]] W fun e w' => e = .returned (.int .i64 (putN X nodes).1) ∧ bld gb w0.heap.size ok true (putN X nodes).2 w' ∧ Below w0.heap.size w0 w' ∧ Kept W w' (fun k => k = gb ∨ ok k) := by
  refine (put_share X gb ok nodes w0 W hB hd hgb hok hfr hn).mono fun e w' ⟨h1, h2, h3⟩ => ?_
  rcases h3 with ⟨i, hi, he, hs, hall, hb⟩ | ⟨he, hall, hb⟩
  · have hf : nodes.findIdx? (fun m => sameN m X) = some i := List.findIdx?_eq_some_iff_getElem.2 ⟨hi, hs, fun j hj => by rw [hall j (by omega) hj]; decide⟩
    unfold putN
    rw [hf]
    exact ⟨he, hb, h1, h2⟩
  · have hf : nodes.findIdx? (fun m => sameN m X) = none := List.findIdx?_eq_none_iff.2 (fun x hx => by
      obtain ⟨j, hj, rfl⟩ := List.mem_iff_getElem.1 hx
      exact hall j hj)
    unfold putN
    rw [hf]
    exact ⟨he, hb, h1, h2⟩
/-- What is done: a row of numbers in a block of its own. -/
def dn (gd : Nat) (ds : List Int) (W : World) : Prop := W.heap[gd]? = some (.cells (ds.map (Value.int .i64)).toArray 3 (0, 0))
theorem addgd (gd n : Nat) : Addr.add ⟨gd, 0, none⟩ n = ⟨gd, n, none⟩ := by
  unfold Addr.add
  split
  · next h => subst h; rfl
  · rw [Nat.zero_add]
theorem dn_at {gd : Nat} {ds : List Int} {W : World} (h : dn gd ds W) (i : Int) (h0 : 0 ≤ i) (h1 : i < (ds.length : Int)) : W.cell? ⟨gd, i.toNat, none⟩ = some (.int .i64 (rd ds i)) := by
  rw [blk_cell h i.toNat]
  have hl : i.toNat < ds.length := by omega
  unfold rd
  simp [List.getD_eq_getElem?_getD, hl]
theorem dn_fr {gd : Nat} {ds : List Int} {W : World} (h : dn gd ds W) (i : Int) : W.frozen? ⟨gd, i.toNat, none⟩ = false := by
  exact blk_frozen h _
theorem dn_set {gd : Nat} {ds : List Int} {W : World} (h : dn gd ds W) (n : Nat) (x : Int) : dn gd (ds.set n x) (W.setCell ⟨gd, n, none⟩ (.int .i64 x)) := by
  have := blk_set h n (.int .i64 x)
  unfold dn
  rw [this, List.map_set]
  simp
theorem rd_set {ds : List Int} (i : Int) (h0 : 0 ≤ i) (h1 : i < (ds.length : Int)) {x : Int} : rd (ds.set i.toNat x) i = x := by
  have hl : i.toNat < ds.length := by omega
  unfold rd
  simp [List.getD_eq_getElem?_getD, hl]
def exb_once.f : Nat → List S79 → Int → List S79 → List Int → Option (Int × List S79 × List Int)
  | 0, _, _, _, _ => none
  | k + 1, e, i, nodes, ds => if 0 ≤ i then (if i < (e.length : Int) then (if 0 ≤ rd ds i then some (rd ds i, nodes, ds) else
      ((spec_exParts.f k (rd_T79 e i).f0 (rd_T79 e i).f1 (rd_T79 e i).f2 (rd_T79 e i).f3).bind fun ps =>
      (if 0 < ps.length then exb_once.f k e (rd_T79 e i).f1 nodes ds else some (0, nodes, ds)).bind fun a =>
      (if 1 < ps.length then exb_once.f k e (rd_T79 e i).f2 a.2.1 a.2.2 else some (0, a.2.1, a.2.2)).bind fun b =>
      if b.2.1.length < 1000 then some ((putN ⟨(rd_T79 e i).f0, a.1, b.1, (rd_T79 e i).f3⟩ b.2.1).1, (putN ⟨(rd_T79 e i).f0, a.1, b.1, (rd_T79 e i).f3⟩ b.2.1).2, b.2.2.set i.toNat (putN ⟨(rd_T79 e i).f0, a.1, b.1, (rd_T79 e i).f3⟩ b.2.1).1) else none)) else none) else none
theorem exb_once.len : ∀ k e i nodes ds r1 r2 r3, exb_once.f k e i nodes ds = some (r1, r2, r3) → r3.length = ds.length := by
  intro k
  induction k with
  | zero => intro e i nodes ds r1 r2 r3 h; cases h
  | succ k ih =>
    intro e i nodes ds r1 r2 r3 h
    simp only [exb_once.f] at h
    split at h
    · split at h
      · split at h
        · cases h; rfl
        · obtain ⟨ps, _, h⟩ := Option.bind_eq_some_iff.mp h
          obtain ⟨a, ha, h⟩ := Option.bind_eq_some_iff.mp h
          obtain ⟨b, hb, h⟩ := Option.bind_eq_some_iff.mp h
          have la : a.2.2.length = ds.length := by
            split at ha
            · exact ih _ _ _ _ a.1 a.2.1 a.2.2 ha
            · cases ha; rfl
          have lb : b.2.2.length = a.2.2.length := by
            split at hb
            · exact ih _ _ _ _ b.1 b.2.1 b.2.2 hb
            · cases hb; rfl
          split at h
          · cases h; simp [lb, la]
          · cases h
      · cases h
    · cases h
/-- Where the walk stands. -/
def oInv (gb gn gd : Nat) (ok : Nat → Prop) (w0 W : World) (nodes : List S79) (ds : List Int) (n1 n2 : Int) (X : S79) (cur : World) : Prop :=
  Below w0.heap.size w0 cur ∧ bld gb w0.heap.size (fun q => ok q ∧ q ≠ gn) true nodes cur ∧ cur.heap[gn]? = some (.cells #[.string X.f0, .int .i64 n1, .int .i64 n2, .int .i64 X.f3] 79 (0, 0)) ∧ Kept W cur (fun q => q = gb ∨ q = gd ∨ ok q) ∧ W.heap.size ≤ gn ∧ w0.heap.size ≤ gn ∧ gn ≠ gb ∧ dn gd ds cur ∧ ¬ ok gd ∧ gd ≠ gb ∧ gd ≠ gn ∧ w0.heap.size ≤ gd
theorem oInv_below {gb gn gd : Nat} {ok : Nat → Prop} {w0 W cur cur' : World} {nodes : List S79} {ds : List Int} {n1 n2 : Int} {X : S79} (h : oInv gb gn gd ok w0 W nodes ds n1 n2 X cur) (hb : Below cur.heap.size cur cur') : oInv gb gn gd ok w0 W nodes ds n1 n2 X cur' := by
  obtain ⟨h1, h2, h3, h4, h5, h6, h7, h8, h9⟩ := h
  exact ⟨below_step h1 hb, bld_below h2 hb, (hb.block gn (blk_lt h3)).trans h3, ⟨Nat.le_trans h4.1 hb.size, fun i hi hs => (hb.block i (Nat.lt_of_lt_of_le hi h4.1)).trans (h4.2 i hi hs)⟩, h5, h6, h7, (hb.block gd (blk_lt h8)).trans h8, h9⟩
theorem oInv_rec {gb gn gd : Nat} {ok : Nat → Prop} {w0 W cur cur' : World} {nodes nodes' : List S79} {ds ds' : List Int} {n1 n2 : Int} {X : S79} (h : oInv gb gn gd ok w0 W nodes ds n1 n2 X cur) (hb : Below w0.heap.size w0 cur') (hd : bld gb w0.heap.size (fun q => ok q ∧ q ≠ gn) true nodes' cur') (hdn : dn gd ds' cur') (hk : Kept cur cur' (fun q => q = gb ∨ q = gd ∨ (ok q ∧ q ≠ gn))) : oInv gb gn gd ok w0 W nodes' ds' n1 n2 X cur' := by
  obtain ⟨h1, h2, h3, h4, h5, h6, h7, h8, h9, h10, h11, h12⟩ := h
  refine ⟨hb, hd, (hk.2 gn (blk_lt h3) (fun hs => ?_)).trans h3, ⟨Nat.le_trans h4.1 hk.1, fun i hi hs => (hk.2 i (Nat.lt_of_lt_of_le hi h4.1) (fun hs' => hs ?_)).trans (h4.2 i hi hs)⟩, h5, h6, h7, hdn, h9, h10, h11, h12⟩
  · rcases hs with hs | hs | hs
    · exact h7 hs
    · exact h11 hs.symm
    · exact hs.2 rfl
  · rcases hs' with hs' | hs' | hs'
    · exact .inl hs'
    · exact .inr (.inl hs')
    · exact .inr (.inr hs'.1)
theorem oInv_put {gb gn gd : Nat} {ok : Nat → Prop} {w0 W cur cur' : World} {nodes nodes' : List S79} {ds : List Int} {n1 n2 : Int} {X : S79} (h : oInv gb gn gd ok w0 W nodes ds n1 n2 X cur) (hb : Below w0.heap.size w0 cur') (hd : bld gb w0.heap.size (fun q => ok q ∧ q ≠ gn) true nodes' cur') (hk : Kept cur cur' (fun q => q = gb ∨ (ok q ∧ q ≠ gn))) : oInv gb gn gd ok w0 W nodes' ds n1 n2 X cur' := by
  refine oInv_rec h hb hd ?_ ⟨hk.1, fun i hi hs => hk.2 i hi (fun hs' => hs (hs'.elim .inl (fun x => .inr (.inr x))))⟩
  obtain ⟨h1, h2, h3, h4, h5, h6, h7, h8, h9, h10, h11, h12⟩ := h
  exact (hk.2 gd (blk_lt h8) (fun hs => hs.elim h10 (fun x => h9 x.1))).trans h8
theorem oInv_far {gb gn gd j : Nat} {ok : Nat → Prop} {w0 W cur : World} {nodes : List S79} {ds : List Int} {n1 n2 m1 m2 : Int} {X : S79} {v : Value} (h : oInv gb gn gd ok w0 W nodes ds n1 n2 X cur) (hx : (cur.setCell ⟨gn, j, none⟩ v).heap[gn]? = some (.cells #[.string X.f0, .int .i64 m1, .int .i64 m2, .int .i64 X.f3] 79 (0, 0))) : oInv gb gn gd ok w0 W nodes ds m1 m2 X (cur.setCell ⟨gn, j, none⟩ v) := by
  obtain ⟨h1, h2, h3, h4, h5, h6, h7, h8, h9, h10, h11, h12⟩ := h
  refine ⟨h1.setCell h6 _, bld_step h2 (fun k hk hs => Below.heap_setCell cur ⟨gn, j, none⟩ _ k (fun e => ?_)), hx, ⟨by have := h4.1; simpa [World.setCell] using this, fun i hi hs => (Below.heap_setCell cur ⟨gn, j, none⟩ _ i (fun e => ?_)).trans (h4.2 i hi hs)⟩, h5, h6, h7, blk_far h8 (p := ⟨gn, j, none⟩) h11 _, h9, h10, h11, h12⟩
  · have e : k = gn := e
    rcases hs with hs | hs
    · exact h7 (e.symm.trans hs)
    · exact hs.2 e
  · have e : i = gn := e
    omega
theorem oInv_set1 {gb gn gd : Nat} {ok : Nat → Prop} {w0 W cur : World} {nodes : List S79} {ds : List Int} {n1 n2 : Int} {X : S79} (h : oInv gb gn gd ok w0 W nodes ds n1 n2 X cur) (a : Int) : oInv gb gn gd ok w0 W nodes ds a n2 X (cur.setCell ⟨gn, 1, none⟩ (.int .i64 a)) := oInv_far h (blk_set h.2.2.1 1 _)
theorem oInv_set2 {gb gn gd : Nat} {ok : Nat → Prop} {w0 W cur : World} {nodes : List S79} {ds : List Int} {n1 n2 : Int} {X : S79} (h : oInv gb gn gd ok w0 W nodes ds n1 n2 X cur) (a : Int) : oInv gb gn gd ok w0 W nodes ds n1 a X (cur.setCell ⟨gn, 2, none⟩ (.int .i64 a)) := oInv_far h (blk_set h.2.2.1 2 _)
theorem oInv_done {gb gn gd n : Nat} {ok : Nat → Prop} {w0 W cur : World} {nodes : List S79} {ds : List Int} {n1 n2 x : Int} {X : S79} (h : oInv gb gn gd ok w0 W nodes ds n1 n2 X cur) : oInv gb gn gd ok w0 W nodes (ds.set n x) n1 n2 X (cur.setCell ⟨gd, n, none⟩ (.int .i64 x)) := by
  obtain ⟨h1, h2, h3, h4, h5, h6, h7, h8, h9, h10, h11, h12⟩ := h
  have hd := dn_set h8 n x
  refine ⟨h1.setCell h12 _, bld_step h2 (fun k hk hs => Below.heap_setCell cur ⟨gd, n, none⟩ _ k (fun e => ?_)), blk_far h3 (p := ⟨gd, n, none⟩) (fun e => h11 e.symm) _, ⟨by have := h4.1; simpa [World.setCell] using this, fun i hi hs => (Below.heap_setCell cur ⟨gd, n, none⟩ _ i (fun e => hs (.inr (.inl e)))).trans (h4.2 i hi hs)⟩, h5, h6, h7, hd, h9, h10, h11, h12⟩
  have e : k = gd := e
  rcases hs with hs | hs
  · exact h10 (e.symm.trans hs)
  · exact h9 (e ▸ hs.1)
theorem oInv_fresh {gb gn gd : Nat} {ok : Nat → Prop} {w0 W cur : World} {nodes : List S79} {ds : List Int} {n1 n2 : Int} {X : S79} (h : oInv gb gn gd ok w0 W nodes ds n1 n2 X cur) (hf : ∀ q, W.heap.size ≤ q → ok q) : ∀ q, cur.heap.size ≤ q → ok q ∧ q ≠ gn := fun q hq => by
  have h1 := h.2.2.2.1.1
  have h2 := blk_lt h.2.2.1
  exact ⟨hf q (by omega), by omega⟩
set_option maxHeartbeats 16000000 in
set_option maxRecDepth 100000 in
theorem once_step (k : Nat) (ih : ∀ (A1 : Option Addr) (c1 : Nat) (e : List S79) (i : Int) (gb gd : Nat) (ok : Nat → Prop) (nodes : List S79) (ds : List Int) (w0 W : World) (r1 : Int) (r2 : List S79) (r3 : List Int) (hB : Below w0.heap.size w0 W) (hd : bld gb w0.heap.size ok true nodes W) (hdn : dn gd ds W) (hgb : w0.heap.size ≤ gb) (hgd : w0.heap.size ≤ gd) (hne : gd ≠ gb) (hok : ¬ ok gb) (hokd : ¬ ok gd) (hfr : ∀ q, W.heap.size ≤ q → ok q) (hr : Kd.C k79 w0 A1 e.length e) (hc1 : e.length ≤ c1) (hdl : ds.length = e.length) (h : exb_once.f k e i nodes ds = some (r1, r2, r3)),
      Calls Try.prog 119 #[.pointer (some ⟨gb, 0, none⟩), .slice A1 e.length c1, .int .i64 i, .slice (some ⟨gd, 0, none⟩) e.length e.length] W fun e w' => e = .returned (.int .i64 r1) ∧ bld gb w0.heap.size ok true r2 w' ∧ dn gd r3 w' ∧ Below w0.heap.size w0 w' ∧ Kept W w' (fun q => q = gb ∨ q = gd ∨ ok q))
    (A1 : Option Addr) (c1 : Nat) (e : List S79) (i : Int) (gb gd : Nat) (ok : Nat → Prop) (nodes : List S79) (ds : List Int) (w0 W : World) (r1 : Int) (r2 : List S79) (r3 : List Int) (hB : Below w0.heap.size w0 W) (hd : bld gb w0.heap.size ok true nodes W) (hdn : dn gd ds W) (hgb : w0.heap.size ≤ gb) (hgd : w0.heap.size ≤ gd) (hne : gd ≠ gb) (hok : ¬ ok gb) (hokd : ¬ ok gd) (hfr : ∀ q, W.heap.size ≤ q → ok q) (hr : Kd.C k79 w0 A1 e.length e) (hc1 : e.length ≤ c1) (hdl : ds.length = e.length) (h : exb_once.f (k + 1) e i nodes ds = some (r1, r2, r3)) :
    Calls Try.prog 119 #[.pointer (some ⟨gb, 0, none⟩), .slice A1 e.length c1, .int .i64 i, .slice (some ⟨gd, 0, none⟩) e.length e.length] W fun e w' => e = .returned (.int .i64 r1) ∧ bld gb w0.heap.size ok true r2 w' ∧ dn gd r3 w' ∧ Below w0.heap.size w0 w' ∧ Kept W w' (fun q => q = gb ∨ q = gd ∨ ok q) := by
  have hu79 := Try.underlying79
  have HB := Aside0.mk hB
  have HD := Aside0.mk hd
  have HDN := Aside0.mk hdn
  have HGB := Aside0.mk hgb
  have HGD := Aside0.mk hgd
  have HNE := Aside0.mk hne
  have HOK := Aside0.mk hok
  have HOD := Aside0.mk hokd
  have HFR := Aside0.mk hfr
  have HR := Aside0.mk hr
  have HC1 := Aside0.mk hc1
  have HDL := Aside0.mk hdl
  have HIH := Aside0.mk ih
  clear hB hd hdn hgb hgd hne hok hokd hfr hr hc1 ih hdl
  have H := h
  clear h
  simp only [exb_once.f] at H
  by_cases p1 : 0 ≤ i
  · rw [if_pos p1] at H
    by_cases q1 : i < (e.length : Int)
    · rw [if_pos q1] at H
      have PI := Aside0.mk p1
      have QI := Aside0.mk (show i < (ds.length : Int) by rw [HDL.out]; exact q1)
      have hdd := dn_at HDN.out i p1 QI.out
      by_cases d1 : 0 ≤ rd ds i
      · have dq : decide (0 ≤ rd ds i) = true := decide_eq_true d1
        rw [if_pos d1] at H
        clear d1
        replace H := Option.some.inj H
        injection H with z1 z2
        injection z2 with z2 z3
        subst z1
        subst z2
        subst z3
        replace p1 := eq_true p1
        replace q1 := eq_true q1
        go_enter Try.func119, Try.ntmps119
        go_wp2
        go_ret
        exact ⟨rfl, HD.out, HDN.out, HB.out, ⟨Nat.le_refl _, fun _ _ _ => rfl⟩⟩
      have dq : decide (0 ≤ rd ds i) = false := decide_eq_false d1
      rw [if_neg d1] at H
      clear d1
      obtain ⟨ad0, e0, hx0, hx1, hx2, hx3⟩ := at_T79 HR.out i p1 q1
      generalize rd_T79 e i = X at hx0 hx1 hx2 hx3 H
      cases e0
      have HH := Aside0.mk H
      clear H
      have X0 := Aside0.mk hx0
      have X1 := Aside0.mk hx1
      have X2 := Aside0.mk hx2
      have X3 := Aside0.mk hx3
      have hB := HB.out
      have step : ∀ {a : Addr} {v : Value}, w0.cell? a = some v → W.cell? a = some v := fun h => (hB.cell (World.block_lt_of_cell? w0 _ h)).trans h
      replace hx0 := step hx0
      replace hx1 := step hx1
      replace hx2 := step hx2
      replace hx3 := step hx3
      clear step hB
      have hy0 := (Below.cell (below_alloc (Below.refl W.heap.size W) (.cells #[.string (⟨#[]⟩ : ByteArray), .int .i64 0, .int .i64 0, .int .i64 0] 79 (0, 0))) (World.block_lt_of_cell? W _ hx0)).trans hx0
      have hy3 := (Below.cell (below_alloc (Below.refl W.heap.size W) (.cells #[.string (⟨#[]⟩ : ByteArray), .int .i64 0, .int .i64 0, .int .i64 0] 79 (0, 0))) (World.block_lt_of_cell? W _ hx3)).trans hx3
      go_enter Try.func119, Try.ntmps119
      replace p1 := eq_true p1
      replace q1 := eq_true q1
      go_wp2
      go_region
      have I := Aside0.mk (show oInv gb W.heap.size gd ok w0 W nodes ds 0 0 X ((W.alloc (.cells #[.string X.f0, .int .i64 0, .int .i64 0, .int .i64 X.f3] 79 (0, 0))).drew) from
        ⟨below_drew (HB.out.alloc HB.out.size _), bld_step (bld_mono (bld_bound HD.out) (fun q hq => ⟨hq.1, Nat.ne_of_lt hq.2⟩)) (fun q hq _ => Below.heap_alloc W _ q hq), heap_alloc_new W _, Kept.of_below (below_drew (below_alloc (Below.refl _ _) _)) _, Nat.le_refl _, HB.out.size, Nat.ne_of_gt (by obtain ⟨_, _, hh, _⟩ := HD.out; exact (Array.getElem?_eq_some_iff.1 hh).1), (Below.heap_alloc W _ gd (blk_lt HDN.out)).trans HDN.out, HOD.out, HNE.out, Nat.ne_of_lt (blk_lt HDN.out), HGD.out⟩)
      generalize (W.alloc (.cells #[.string X.f0, .int .i64 0, .int .i64 0, .int .i64 X.f3] 79 (0, 0))).drew = W1 at I ⊢
      obtain ⟨gn, hgn⟩ : ∃ gn, gn = W.heap.size := ⟨_, rfl⟩
      rw [← hgn] at I ⊢
      clear hgn hy0 hy3 hx0 hx1 hx2 hx3 hdd
      have hx0W1 := cell_old I.out.1 X0.out
      have hx1W1 := cell_old I.out.1 X1.out
      have hx2W1 := cell_old I.out.1 X2.out
      have hx3W1 := cell_old I.out.1 X3.out
      have hcn0W1 : W1.cell? ⟨gn, 0, none⟩ = some (.string X.f0) := (blk_cell I.out.2.2.1 0).trans rfl
      have hcn1W1 : W1.cell? ⟨gn, 1, none⟩ = some (.int .i64 (0)) := (blk_cell I.out.2.2.1 1).trans rfl
      have hcn2W1 : W1.cell? ⟨gn, 2, none⟩ = some (.int .i64 (0)) := (blk_cell I.out.2.2.1 2).trans rfl
      have hcn3W1 : W1.cell? ⟨gn, 3, none⟩ = some (.int .i64 X.f3) := (blk_cell I.out.2.2.1 3).trans rfl
      have hfn1W1 := blk_frozen I.out.2.2.1 1
      have hfn2W1 := blk_frozen I.out.2.2.1 2
      have H := HH.out
      clear HH
      replace H := Option.bind_eq_some_iff.mp H
      obtain ⟨ps, HP, H⟩ := H
      have HP := Aside0.mk HP
      have hm : ps.length = 0 ∨ ps.length = 1 ∨ 1 < ps.length := by omega
      rcases hm with hm | hm | hm
      · have e0 : decide (0 < (ps.length : Int)) = false := decide_eq_false (by omega)
        have e0' : decide (0 < ps.length) = false := decide_eq_false (by omega)
        have e1 : decide (1 < (ps.length : Int)) = false := decide_eq_false (by omega)
        have e1' : decide (1 < ps.length) = false := decide_eq_false (by omega)
        rw [if_neg (show ¬ 0 < ps.length by omega)] at H
        replace H := Option.bind_eq_some_iff.mp H
        obtain ⟨a, HA, H⟩ := H
        obtain rfl := Option.some.inj HA
        rw [if_neg (show ¬ 1 < ps.length by omega)] at H
        replace H := Option.bind_eq_some_iff.mp H
        obtain ⟨b, HBB, H⟩ := H
        obtain rfl := Option.some.inj HBB
        have H : (if (nodes).length < 1000 then some ((putN (⟨X.f0, 0, 0, X.f3⟩ : S79) nodes).1, (putN (⟨X.f0, 0, 0, X.f3⟩ : S79) nodes).2, (ds).set i.toNat (putN (⟨X.f0, 0, 0, X.f3⟩ : S79) nodes).1) else none) = some (r1, r2, r3) := H
        have DLN := Aside0.mk (show i < ((ds).length : Int) by rw [HDL.out]; have := QI.out; rw [HDL.out] at this; exact this)
        by_cases hn3 : (nodes).length < 1000
        · rw [if_pos hn3] at H
          replace H := Option.some.inj H
          injection H with z1 z2
          injection z2 with z2 z3
          subst z1
          subst z2
          subst z3
          have HN3 := Aside0.mk hn3
          clear hn3 hm
          go_wp2_with (first | ((with_reducible refine gate_callee (f := 114) rfl ?_); refine goesL_ (some 34) rfl rfl Try.func114 (by kernel_rfl) rfl #[.agg #[.string X.f0, .int .i64 X.f1, .int .i64 X.f2, .int .i64 X.f3]] rfl (by (try simp only [List.map_toArray, List.map_cons, List.map_nil]); first | done | rfl | (simp only [List.length_drop, List.length_take]; rfl)) ?_; (with_reducible refine (spec_exParts.calls k X.f0 X.f1 X.f2 X.f3 ps _ HP.out).mono ?_); rintro e w2 ⟨v, rfl, ho, hb⟩; refine ⟨_, rfl, ?_⟩; obtain ⟨Ap, cp, rfl⟩ := Kd.R_slice ho; have n0_ := Aside0.mk (oInv_below I.out hb); clear ho hb I; have I := n0_; clear n0_; have hx0w2 := cell_old I.out.1 X0.out; have hx1w2 := cell_old I.out.1 X1.out; have hx2w2 := cell_old I.out.1 X2.out; have hx3w2 := cell_old I.out.1 X3.out; have hcn0w2 : w2.cell? ⟨gn, 0, none⟩ = some (.string X.f0) := (blk_cell I.out.2.2.1 0).trans rfl; have hcn1w2 : w2.cell? ⟨gn, 1, none⟩ = some (.int .i64 (0)) := (blk_cell I.out.2.2.1 1).trans rfl; have hcn2w2 : w2.cell? ⟨gn, 2, none⟩ = some (.int .i64 (0)) := (blk_cell I.out.2.2.1 2).trans rfl; have hcn3w2 : w2.cell? ⟨gn, 3, none⟩ = some (.int .i64 X.f3) := (blk_cell I.out.2.2.1 3).trans rfl; have hfn1w2 := blk_frozen I.out.2.2.1 1; have hfn2w2 := blk_frozen I.out.2.2.1 2; skip) | ((with_reducible refine gate_callee (f := 114) rfl ?_); refine goesL_ (some 51) rfl rfl Try.func114 (by kernel_rfl) rfl #[.agg #[.string X.f0, .int .i64 X.f1, .int .i64 X.f2, .int .i64 X.f3]] rfl (by (try simp only [List.map_toArray, List.map_cons, List.map_nil]); first | done | rfl | (simp only [List.length_drop, List.length_take]; rfl)) ?_; (with_reducible refine (spec_exParts.calls k X.f0 X.f1 X.f2 X.f3 ps _ HP.out).mono ?_); rintro e w5 ⟨v, rfl, ho, hb⟩; refine ⟨_, rfl, ?_⟩; obtain ⟨Ap, cp, rfl⟩ := Kd.R_slice ho; have n0_ := Aside0.mk (oInv_below I.out hb); clear ho hb I; have I := n0_; clear n0_; have hx0w5 := cell_old I.out.1 X0.out; have hx1w5 := cell_old I.out.1 X1.out; have hx2w5 := cell_old I.out.1 X2.out; have hx3w5 := cell_old I.out.1 X3.out; have hcn0w5 : w5.cell? ⟨gn, 0, none⟩ = some (.string X.f0) := (blk_cell I.out.2.2.1 0).trans rfl; have hcn1w5 : w5.cell? ⟨gn, 1, none⟩ = some (.int .i64 (0)) := (blk_cell I.out.2.2.1 1).trans rfl; have hcn2w5 : w5.cell? ⟨gn, 2, none⟩ = some (.int .i64 (0)) := (blk_cell I.out.2.2.1 2).trans rfl; have hcn3w5 : w5.cell? ⟨gn, 3, none⟩ = some (.int .i64 X.f3) := (blk_cell I.out.2.2.1 3).trans rfl; have hfn1w5 := blk_frozen I.out.2.2.1 1; have hfn2w5 := blk_frozen I.out.2.2.1 2; skip) | ((with_reducible refine gate_callee (f := 115) rfl ?_); refine goesL_ (some 68) rfl rfl Try.func115 (by kernel_rfl) rfl #[.pointer (some ⟨gb, 0, none⟩), .agg #[.string X.f0, .int .i64 (0), .int .i64 (0), .int .i64 X.f3]] rfl (by (try simp only [List.map_toArray, List.map_cons, List.map_nil]); first | done | rfl) ?_; have HZ := put_calls ⟨X.f0, 0, 0, X.f3⟩ gb (fun q => ok q ∧ q ≠ gn) nodes w0 _ I.out.1 I.out.2.1 HGB.out (fun hq => HOK.out hq.1) (oInv_fresh I.out HFR.out) HN3.out; change Calls Try.prog 115 #[.pointer (some ⟨gb, 0, none⟩), .agg #[.string X.f0, .int .i64 (0), .int .i64 (0), .int .i64 X.f3]] _ _ at HZ; (with_reducible refine HZ.mono ?_); clear HZ; rintro e w9 ⟨rfl, hd, hb, hk⟩; refine ⟨_, rfl, ?_⟩; have n0_ := Aside0.mk (oInv_put I.out hb hd hk); clear hd hb hk I; have I := n0_; clear n0_; have hdw := dn_at I.out.2.2.2.2.2.2.2.1 i PI.out (by rw [HDL.out]; have := QI.out; rw [HDL.out] at this; exact this); have hdf := dn_fr I.out.2.2.2.2.2.2.2.1 i; skip) | ((with_reducible refine gate_store (t := 3) (p := 69) rfl ?_); refine store_event (t := 3) (p := 69) (v := ?vo_d) (w1 := w9.setCell ⟨gd, i.toNat, none⟩ (.int .i64 (putN (⟨X.f0, 0, 0, X.f3⟩ : S79) nodes).1)) ?hg ?ho ?hn ?hr ?_; (case ho => rfl); (case hg => rfl); (case hn => rfl); (case hr => first | (go_simp; done) | (go_simp; rfl)); intro w10 hw; have n0_ := Aside0.mk (show oInv gb gn gd ok w0 W _ _ _ _ X w10 from by rw [hw]; exact oInv_done (n := i.toNat) (x := (putN (⟨X.f0, 0, 0, X.f3⟩ : S79) nodes).1) I.out); clear I hw hdw hdf; have I := n0_; clear n0_; have hde : w10.cell? ⟨gd, i.toNat, none⟩ = some (.int .i64 (putN (⟨X.f0, 0, 0, X.f3⟩ : S79) nodes).1) := (dn_at I.out.2.2.2.2.2.2.2.1 i PI.out (by rw [List.length_set]; exact DLN.out)).trans (by rw [rd_set i PI.out DLN.out])))
          go_ret
          exact ⟨rfl, bld_mono I.out.2.1 (fun q hq => hq.1), I.out.2.2.2.2.2.2.2.1, I.out.1, I.out.2.2.2.1⟩
        · rw [if_neg hn3] at H
          cases H
      · have e0 : decide (0 < (ps.length : Int)) = true := decide_eq_true (by omega)
        have e0' : decide (0 < ps.length) = true := decide_eq_true (by omega)
        have e1 : decide (1 < (ps.length : Int)) = false := decide_eq_false (by omega)
        have e1' : decide (1 < ps.length) = false := decide_eq_false (by omega)
        rw [if_pos (show 0 < ps.length by omega)] at H
        replace H := Option.bind_eq_some_iff.mp H
        obtain ⟨a, HA, H⟩ := H
        have HA := Aside0.mk (show exb_once.f k e X.f1 nodes ds = some (a.1, a.2.1, a.2.2) from HA)
        have LA := Aside0.mk (exb_once.len _ _ _ _ _ _ _ _ HA.out)
        rw [if_neg (show ¬ 1 < ps.length by omega)] at H
        replace H := Option.bind_eq_some_iff.mp H
        obtain ⟨b, HBB, H⟩ := H
        obtain rfl := Option.some.inj HBB
        have H : (if (a.2.1).length < 1000 then some ((putN (⟨X.f0, a.1, 0, X.f3⟩ : S79) a.2.1).1, (putN (⟨X.f0, a.1, 0, X.f3⟩ : S79) a.2.1).2, (a.2.2).set i.toNat (putN (⟨X.f0, a.1, 0, X.f3⟩ : S79) a.2.1).1) else none) = some (r1, r2, r3) := H
        have DLN := Aside0.mk (show i < ((a.2.2).length : Int) by rw [LA.out, HDL.out]; have := QI.out; rw [HDL.out] at this; exact this)
        by_cases hn3 : (a.2.1).length < 1000
        · rw [if_pos hn3] at H
          replace H := Option.some.inj H
          injection H with z1 z2
          injection z2 with z2 z3
          subst z1
          subst z2
          subst z3
          have HN3 := Aside0.mk hn3
          clear hn3 hm
          go_wp2_with (first | ((with_reducible refine gate_callee (f := 114) rfl ?_); refine goesL_ (some 34) rfl rfl Try.func114 (by kernel_rfl) rfl #[.agg #[.string X.f0, .int .i64 X.f1, .int .i64 X.f2, .int .i64 X.f3]] rfl (by (try simp only [List.map_toArray, List.map_cons, List.map_nil]); first | done | rfl | (simp only [List.length_drop, List.length_take]; rfl)) ?_; (with_reducible refine (spec_exParts.calls k X.f0 X.f1 X.f2 X.f3 ps _ HP.out).mono ?_); rintro e w2 ⟨v, rfl, ho, hb⟩; refine ⟨_, rfl, ?_⟩; obtain ⟨Ap, cp, rfl⟩ := Kd.R_slice ho; have n0_ := Aside0.mk (oInv_below I.out hb); clear ho hb I; have I := n0_; clear n0_; have hx0w2 := cell_old I.out.1 X0.out; have hx1w2 := cell_old I.out.1 X1.out; have hx2w2 := cell_old I.out.1 X2.out; have hx3w2 := cell_old I.out.1 X3.out; have hcn0w2 : w2.cell? ⟨gn, 0, none⟩ = some (.string X.f0) := (blk_cell I.out.2.2.1 0).trans rfl; have hcn1w2 : w2.cell? ⟨gn, 1, none⟩ = some (.int .i64 (0)) := (blk_cell I.out.2.2.1 1).trans rfl; have hcn2w2 : w2.cell? ⟨gn, 2, none⟩ = some (.int .i64 (0)) := (blk_cell I.out.2.2.1 2).trans rfl; have hcn3w2 : w2.cell? ⟨gn, 3, none⟩ = some (.int .i64 X.f3) := (blk_cell I.out.2.2.1 3).trans rfl; have hfn1w2 := blk_frozen I.out.2.2.1 1; have hfn2w2 := blk_frozen I.out.2.2.1 2; skip) | ((with_reducible refine gate_callee (f := 119) rfl ?_); refine goesL_ (some 45) rfl rfl Try.func119 (by kernel_rfl) rfl #[.pointer (some ⟨gb, 0, none⟩), .slice (some ad0) e.length c1, .int .i64 X.f1, .slice (some ⟨gd, 0, none⟩) e.length e.length] rfl (by (try simp only [List.map_toArray, List.map_cons, List.map_nil]); first | done | rfl) ?_; have HZ := HIH.out _ c1 e X.f1 gb gd (fun q => ok q ∧ q ≠ gn) nodes ds w0 _ a.1 a.2.1 a.2.2 I.out.1 I.out.2.1 I.out.2.2.2.2.2.2.2.1 HGB.out HGD.out HNE.out (fun hq => HOK.out hq.1) (fun hq => HOD.out hq.1) (oInv_fresh I.out HFR.out) HR.out HC1.out HDL.out HA.out; change Calls Try.prog 119 #[.pointer (some ⟨gb, 0, none⟩), .slice (some ad0) e.length c1, .int .i64 X.f1, .slice (some ⟨gd, 0, none⟩) e.length e.length] _ _ at HZ; (with_reducible refine HZ.mono ?_); clear HZ; rintro e w3 ⟨rfl, hd, hdn, hb, hk⟩; refine ⟨_, rfl, ?_⟩; have n0_ := Aside0.mk (oInv_rec I.out hb hd hdn hk); clear hd hdn hb hk I; have I := n0_; clear n0_; have hx0w3 := cell_old I.out.1 X0.out; have hx1w3 := cell_old I.out.1 X1.out; have hx2w3 := cell_old I.out.1 X2.out; have hx3w3 := cell_old I.out.1 X3.out; have hcn0w3 : w3.cell? ⟨gn, 0, none⟩ = some (.string X.f0) := (blk_cell I.out.2.2.1 0).trans rfl; have hcn1w3 : w3.cell? ⟨gn, 1, none⟩ = some (.int .i64 (0)) := (blk_cell I.out.2.2.1 1).trans rfl; have hcn2w3 : w3.cell? ⟨gn, 2, none⟩ = some (.int .i64 (0)) := (blk_cell I.out.2.2.1 2).trans rfl; have hcn3w3 : w3.cell? ⟨gn, 3, none⟩ = some (.int .i64 X.f3) := (blk_cell I.out.2.2.1 3).trans rfl; have hfn1w3 := blk_frozen I.out.2.2.1 1; have hfn2w3 := blk_frozen I.out.2.2.1 2; skip) | ((with_reducible refine gate_store (t := 3) (p := 46) rfl ?_); refine store_event (t := 3) (p := 46) (v := ?vo_w4) (w1 := w3.setCell ⟨gn, 1, none⟩ (.int .i64 a.1)) ?hg ?ho ?hn ?hr ?_; (case ho => rfl); (case hg => rfl); (case hn => rfl); (case hr => first | (go_simp; done) | (go_simp; rfl)); intro w4 hw; have n0_ := Aside0.mk (show oInv gb gn gd ok w0 W _ _ (a.1) (0) X w4 from by rw [hw]; exact oInv_set1 I.out a.1); clear I hw; have I := n0_; clear n0_; have hx0w4 := cell_old I.out.1 X0.out; have hx1w4 := cell_old I.out.1 X1.out; have hx2w4 := cell_old I.out.1 X2.out; have hx3w4 := cell_old I.out.1 X3.out; have hcn0w4 : w4.cell? ⟨gn, 0, none⟩ = some (.string X.f0) := (blk_cell I.out.2.2.1 0).trans rfl; have hcn1w4 : w4.cell? ⟨gn, 1, none⟩ = some (.int .i64 (a.1)) := (blk_cell I.out.2.2.1 1).trans rfl; have hcn2w4 : w4.cell? ⟨gn, 2, none⟩ = some (.int .i64 (0)) := (blk_cell I.out.2.2.1 2).trans rfl; have hcn3w4 : w4.cell? ⟨gn, 3, none⟩ = some (.int .i64 X.f3) := (blk_cell I.out.2.2.1 3).trans rfl; have hfn1w4 := blk_frozen I.out.2.2.1 1; have hfn2w4 := blk_frozen I.out.2.2.1 2) | ((with_reducible refine gate_callee (f := 114) rfl ?_); refine goesL_ (some 51) rfl rfl Try.func114 (by kernel_rfl) rfl #[.agg #[.string X.f0, .int .i64 X.f1, .int .i64 X.f2, .int .i64 X.f3]] rfl (by (try simp only [List.map_toArray, List.map_cons, List.map_nil]); first | done | rfl | (simp only [List.length_drop, List.length_take]; rfl)) ?_; (with_reducible refine (spec_exParts.calls k X.f0 X.f1 X.f2 X.f3 ps _ HP.out).mono ?_); rintro e w5 ⟨v, rfl, ho, hb⟩; refine ⟨_, rfl, ?_⟩; obtain ⟨Ap, cp, rfl⟩ := Kd.R_slice ho; have n0_ := Aside0.mk (oInv_below I.out hb); clear ho hb I; have I := n0_; clear n0_; have hx0w5 := cell_old I.out.1 X0.out; have hx1w5 := cell_old I.out.1 X1.out; have hx2w5 := cell_old I.out.1 X2.out; have hx3w5 := cell_old I.out.1 X3.out; have hcn0w5 : w5.cell? ⟨gn, 0, none⟩ = some (.string X.f0) := (blk_cell I.out.2.2.1 0).trans rfl; have hcn1w5 : w5.cell? ⟨gn, 1, none⟩ = some (.int .i64 (a.1)) := (blk_cell I.out.2.2.1 1).trans rfl; have hcn2w5 : w5.cell? ⟨gn, 2, none⟩ = some (.int .i64 (0)) := (blk_cell I.out.2.2.1 2).trans rfl; have hcn3w5 : w5.cell? ⟨gn, 3, none⟩ = some (.int .i64 X.f3) := (blk_cell I.out.2.2.1 3).trans rfl; have hfn1w5 := blk_frozen I.out.2.2.1 1; have hfn2w5 := blk_frozen I.out.2.2.1 2; skip) | ((with_reducible refine gate_callee (f := 115) rfl ?_); refine goesL_ (some 68) rfl rfl Try.func115 (by kernel_rfl) rfl #[.pointer (some ⟨gb, 0, none⟩), .agg #[.string X.f0, .int .i64 (a.1), .int .i64 (0), .int .i64 X.f3]] rfl (by (try simp only [List.map_toArray, List.map_cons, List.map_nil]); first | done | rfl) ?_; have HZ := put_calls ⟨X.f0, a.1, 0, X.f3⟩ gb (fun q => ok q ∧ q ≠ gn) a.2.1 w0 _ I.out.1 I.out.2.1 HGB.out (fun hq => HOK.out hq.1) (oInv_fresh I.out HFR.out) HN3.out; change Calls Try.prog 115 #[.pointer (some ⟨gb, 0, none⟩), .agg #[.string X.f0, .int .i64 (a.1), .int .i64 (0), .int .i64 X.f3]] _ _ at HZ; (with_reducible refine HZ.mono ?_); clear HZ; rintro e w9 ⟨rfl, hd, hb, hk⟩; refine ⟨_, rfl, ?_⟩; have n0_ := Aside0.mk (oInv_put I.out hb hd hk); clear hd hb hk I; have I := n0_; clear n0_; have hdw := dn_at I.out.2.2.2.2.2.2.2.1 i PI.out (by rw [LA.out, HDL.out]; have := QI.out; rw [HDL.out] at this; exact this); have hdf := dn_fr I.out.2.2.2.2.2.2.2.1 i; skip) | ((with_reducible refine gate_store (t := 3) (p := 69) rfl ?_); refine store_event (t := 3) (p := 69) (v := ?vo_d) (w1 := w9.setCell ⟨gd, i.toNat, none⟩ (.int .i64 (putN (⟨X.f0, a.1, 0, X.f3⟩ : S79) a.2.1).1)) ?hg ?ho ?hn ?hr ?_; (case ho => rfl); (case hg => rfl); (case hn => rfl); (case hr => first | (go_simp; done) | (go_simp; rfl)); intro w10 hw; have n0_ := Aside0.mk (show oInv gb gn gd ok w0 W _ _ _ _ X w10 from by rw [hw]; exact oInv_done (n := i.toNat) (x := (putN (⟨X.f0, a.1, 0, X.f3⟩ : S79) a.2.1).1) I.out); clear I hw hdw hdf; have I := n0_; clear n0_; have hde : w10.cell? ⟨gd, i.toNat, none⟩ = some (.int .i64 (putN (⟨X.f0, a.1, 0, X.f3⟩ : S79) a.2.1).1) := (dn_at I.out.2.2.2.2.2.2.2.1 i PI.out (by rw [List.length_set]; exact DLN.out)).trans (by rw [rd_set i PI.out DLN.out])))
          go_ret
          exact ⟨rfl, bld_mono I.out.2.1 (fun q hq => hq.1), I.out.2.2.2.2.2.2.2.1, I.out.1, I.out.2.2.2.1⟩
        · rw [if_neg hn3] at H
          cases H
      · have e0 : decide (0 < (ps.length : Int)) = true := decide_eq_true (by omega)
        have e0' : decide (0 < ps.length) = true := decide_eq_true (by omega)
        have e1 : decide (1 < (ps.length : Int)) = true := decide_eq_true (by omega)
        have e1' : decide (1 < ps.length) = true := decide_eq_true (by omega)
        rw [if_pos (show 0 < ps.length by omega)] at H
        replace H := Option.bind_eq_some_iff.mp H
        obtain ⟨a, HA, H⟩ := H
        have HA := Aside0.mk (show exb_once.f k e X.f1 nodes ds = some (a.1, a.2.1, a.2.2) from HA)
        have LA := Aside0.mk (exb_once.len _ _ _ _ _ _ _ _ HA.out)
        rw [if_pos (show 1 < ps.length by omega)] at H
        replace H := Option.bind_eq_some_iff.mp H
        obtain ⟨b, HBB, H⟩ := H
        have HBB := Aside0.mk (show exb_once.f k e X.f2 a.2.1 a.2.2 = some (b.1, b.2.1, b.2.2) from HBB)
        have LB := Aside0.mk (exb_once.len _ _ _ _ _ _ _ _ HBB.out)
        have H : (if (b.2.1).length < 1000 then some ((putN (⟨X.f0, a.1, b.1, X.f3⟩ : S79) b.2.1).1, (putN (⟨X.f0, a.1, b.1, X.f3⟩ : S79) b.2.1).2, (b.2.2).set i.toNat (putN (⟨X.f0, a.1, b.1, X.f3⟩ : S79) b.2.1).1) else none) = some (r1, r2, r3) := H
        have DLN := Aside0.mk (show i < ((b.2.2).length : Int) by rw [LB.out, LA.out, HDL.out]; have := QI.out; rw [HDL.out] at this; exact this)
        by_cases hn3 : (b.2.1).length < 1000
        · rw [if_pos hn3] at H
          replace H := Option.some.inj H
          injection H with z1 z2
          injection z2 with z2 z3
          subst z1
          subst z2
          subst z3
          have HN3 := Aside0.mk hn3
          clear hn3 hm
          go_wp2_with (first | ((with_reducible refine gate_callee (f := 114) rfl ?_); refine goesL_ (some 34) rfl rfl Try.func114 (by kernel_rfl) rfl #[.agg #[.string X.f0, .int .i64 X.f1, .int .i64 X.f2, .int .i64 X.f3]] rfl (by (try simp only [List.map_toArray, List.map_cons, List.map_nil]); first | done | rfl | (simp only [List.length_drop, List.length_take]; rfl)) ?_; (with_reducible refine (spec_exParts.calls k X.f0 X.f1 X.f2 X.f3 ps _ HP.out).mono ?_); rintro e w2 ⟨v, rfl, ho, hb⟩; refine ⟨_, rfl, ?_⟩; obtain ⟨Ap, cp, rfl⟩ := Kd.R_slice ho; have n0_ := Aside0.mk (oInv_below I.out hb); clear ho hb I; have I := n0_; clear n0_; have hx0w2 := cell_old I.out.1 X0.out; have hx1w2 := cell_old I.out.1 X1.out; have hx2w2 := cell_old I.out.1 X2.out; have hx3w2 := cell_old I.out.1 X3.out; have hcn0w2 : w2.cell? ⟨gn, 0, none⟩ = some (.string X.f0) := (blk_cell I.out.2.2.1 0).trans rfl; have hcn1w2 : w2.cell? ⟨gn, 1, none⟩ = some (.int .i64 (0)) := (blk_cell I.out.2.2.1 1).trans rfl; have hcn2w2 : w2.cell? ⟨gn, 2, none⟩ = some (.int .i64 (0)) := (blk_cell I.out.2.2.1 2).trans rfl; have hcn3w2 : w2.cell? ⟨gn, 3, none⟩ = some (.int .i64 X.f3) := (blk_cell I.out.2.2.1 3).trans rfl; have hfn1w2 := blk_frozen I.out.2.2.1 1; have hfn2w2 := blk_frozen I.out.2.2.1 2; skip) | ((with_reducible refine gate_callee (f := 119) rfl ?_); refine goesL_ (some 45) rfl rfl Try.func119 (by kernel_rfl) rfl #[.pointer (some ⟨gb, 0, none⟩), .slice (some ad0) e.length c1, .int .i64 X.f1, .slice (some ⟨gd, 0, none⟩) e.length e.length] rfl (by (try simp only [List.map_toArray, List.map_cons, List.map_nil]); first | done | rfl) ?_; have HZ := HIH.out _ c1 e X.f1 gb gd (fun q => ok q ∧ q ≠ gn) nodes ds w0 _ a.1 a.2.1 a.2.2 I.out.1 I.out.2.1 I.out.2.2.2.2.2.2.2.1 HGB.out HGD.out HNE.out (fun hq => HOK.out hq.1) (fun hq => HOD.out hq.1) (oInv_fresh I.out HFR.out) HR.out HC1.out HDL.out HA.out; change Calls Try.prog 119 #[.pointer (some ⟨gb, 0, none⟩), .slice (some ad0) e.length c1, .int .i64 X.f1, .slice (some ⟨gd, 0, none⟩) e.length e.length] _ _ at HZ; (with_reducible refine HZ.mono ?_); clear HZ; rintro e w3 ⟨rfl, hd, hdn, hb, hk⟩; refine ⟨_, rfl, ?_⟩; have n0_ := Aside0.mk (oInv_rec I.out hb hd hdn hk); clear hd hdn hb hk I; have I := n0_; clear n0_; have hx0w3 := cell_old I.out.1 X0.out; have hx1w3 := cell_old I.out.1 X1.out; have hx2w3 := cell_old I.out.1 X2.out; have hx3w3 := cell_old I.out.1 X3.out; have hcn0w3 : w3.cell? ⟨gn, 0, none⟩ = some (.string X.f0) := (blk_cell I.out.2.2.1 0).trans rfl; have hcn1w3 : w3.cell? ⟨gn, 1, none⟩ = some (.int .i64 (0)) := (blk_cell I.out.2.2.1 1).trans rfl; have hcn2w3 : w3.cell? ⟨gn, 2, none⟩ = some (.int .i64 (0)) := (blk_cell I.out.2.2.1 2).trans rfl; have hcn3w3 : w3.cell? ⟨gn, 3, none⟩ = some (.int .i64 X.f3) := (blk_cell I.out.2.2.1 3).trans rfl; have hfn1w3 := blk_frozen I.out.2.2.1 1; have hfn2w3 := blk_frozen I.out.2.2.1 2; skip) | ((with_reducible refine gate_store (t := 3) (p := 46) rfl ?_); refine store_event (t := 3) (p := 46) (v := ?vo_w4) (w1 := w3.setCell ⟨gn, 1, none⟩ (.int .i64 a.1)) ?hg ?ho ?hn ?hr ?_; (case ho => rfl); (case hg => rfl); (case hn => rfl); (case hr => first | (go_simp; done) | (go_simp; rfl)); intro w4 hw; have n0_ := Aside0.mk (show oInv gb gn gd ok w0 W _ _ (a.1) (0) X w4 from by rw [hw]; exact oInv_set1 I.out a.1); clear I hw; have I := n0_; clear n0_; have hx0w4 := cell_old I.out.1 X0.out; have hx1w4 := cell_old I.out.1 X1.out; have hx2w4 := cell_old I.out.1 X2.out; have hx3w4 := cell_old I.out.1 X3.out; have hcn0w4 : w4.cell? ⟨gn, 0, none⟩ = some (.string X.f0) := (blk_cell I.out.2.2.1 0).trans rfl; have hcn1w4 : w4.cell? ⟨gn, 1, none⟩ = some (.int .i64 (a.1)) := (blk_cell I.out.2.2.1 1).trans rfl; have hcn2w4 : w4.cell? ⟨gn, 2, none⟩ = some (.int .i64 (0)) := (blk_cell I.out.2.2.1 2).trans rfl; have hcn3w4 : w4.cell? ⟨gn, 3, none⟩ = some (.int .i64 X.f3) := (blk_cell I.out.2.2.1 3).trans rfl; have hfn1w4 := blk_frozen I.out.2.2.1 1; have hfn2w4 := blk_frozen I.out.2.2.1 2) | ((with_reducible refine gate_callee (f := 114) rfl ?_); refine goesL_ (some 51) rfl rfl Try.func114 (by kernel_rfl) rfl #[.agg #[.string X.f0, .int .i64 X.f1, .int .i64 X.f2, .int .i64 X.f3]] rfl (by (try simp only [List.map_toArray, List.map_cons, List.map_nil]); first | done | rfl | (simp only [List.length_drop, List.length_take]; rfl)) ?_; (with_reducible refine (spec_exParts.calls k X.f0 X.f1 X.f2 X.f3 ps _ HP.out).mono ?_); rintro e w5 ⟨v, rfl, ho, hb⟩; refine ⟨_, rfl, ?_⟩; obtain ⟨Ap, cp, rfl⟩ := Kd.R_slice ho; have n0_ := Aside0.mk (oInv_below I.out hb); clear ho hb I; have I := n0_; clear n0_; have hx0w5 := cell_old I.out.1 X0.out; have hx1w5 := cell_old I.out.1 X1.out; have hx2w5 := cell_old I.out.1 X2.out; have hx3w5 := cell_old I.out.1 X3.out; have hcn0w5 : w5.cell? ⟨gn, 0, none⟩ = some (.string X.f0) := (blk_cell I.out.2.2.1 0).trans rfl; have hcn1w5 : w5.cell? ⟨gn, 1, none⟩ = some (.int .i64 (a.1)) := (blk_cell I.out.2.2.1 1).trans rfl; have hcn2w5 : w5.cell? ⟨gn, 2, none⟩ = some (.int .i64 (0)) := (blk_cell I.out.2.2.1 2).trans rfl; have hcn3w5 : w5.cell? ⟨gn, 3, none⟩ = some (.int .i64 X.f3) := (blk_cell I.out.2.2.1 3).trans rfl; have hfn1w5 := blk_frozen I.out.2.2.1 1; have hfn2w5 := blk_frozen I.out.2.2.1 2; skip) | ((with_reducible refine gate_callee (f := 119) rfl ?_); refine goesL_ (some 62) rfl rfl Try.func119 (by kernel_rfl) rfl #[.pointer (some ⟨gb, 0, none⟩), .slice (some ad0) e.length c1, .int .i64 X.f2, .slice (some ⟨gd, 0, none⟩) e.length e.length] rfl (by (try simp only [List.map_toArray, List.map_cons, List.map_nil]); first | done | rfl) ?_; have HZ := HIH.out _ c1 e X.f2 gb gd (fun q => ok q ∧ q ≠ gn) a.2.1 a.2.2 w0 _ b.1 b.2.1 b.2.2 I.out.1 I.out.2.1 I.out.2.2.2.2.2.2.2.1 HGB.out HGD.out HNE.out (fun hq => HOK.out hq.1) (fun hq => HOD.out hq.1) (oInv_fresh I.out HFR.out) HR.out HC1.out (LA.out.trans HDL.out) HBB.out; change Calls Try.prog 119 #[.pointer (some ⟨gb, 0, none⟩), .slice (some ad0) e.length c1, .int .i64 X.f2, .slice (some ⟨gd, 0, none⟩) e.length e.length] _ _ at HZ; (with_reducible refine HZ.mono ?_); clear HZ; rintro e w6 ⟨rfl, hd, hdn, hb, hk⟩; refine ⟨_, rfl, ?_⟩; have n0_ := Aside0.mk (oInv_rec I.out hb hd hdn hk); clear hd hdn hb hk I; have I := n0_; clear n0_; have hx0w6 := cell_old I.out.1 X0.out; have hx1w6 := cell_old I.out.1 X1.out; have hx2w6 := cell_old I.out.1 X2.out; have hx3w6 := cell_old I.out.1 X3.out; have hcn0w6 : w6.cell? ⟨gn, 0, none⟩ = some (.string X.f0) := (blk_cell I.out.2.2.1 0).trans rfl; have hcn1w6 : w6.cell? ⟨gn, 1, none⟩ = some (.int .i64 (a.1)) := (blk_cell I.out.2.2.1 1).trans rfl; have hcn2w6 : w6.cell? ⟨gn, 2, none⟩ = some (.int .i64 (0)) := (blk_cell I.out.2.2.1 2).trans rfl; have hcn3w6 : w6.cell? ⟨gn, 3, none⟩ = some (.int .i64 X.f3) := (blk_cell I.out.2.2.1 3).trans rfl; have hfn1w6 := blk_frozen I.out.2.2.1 1; have hfn2w6 := blk_frozen I.out.2.2.1 2; skip) | ((with_reducible refine gate_store (t := 3) (p := 63) rfl ?_); refine store_event (t := 3) (p := 63) (v := ?vo_w7) (w1 := w6.setCell ⟨gn, 2, none⟩ (.int .i64 b.1)) ?hg ?ho ?hn ?hr ?_; (case ho => rfl); (case hg => rfl); (case hn => rfl); (case hr => first | (go_simp; done) | (go_simp; rfl)); intro w7 hw; have n0_ := Aside0.mk (show oInv gb gn gd ok w0 W _ _ (a.1) (b.1) X w7 from by rw [hw]; exact oInv_set2 I.out b.1); clear I hw; have I := n0_; clear n0_; have hx0w7 := cell_old I.out.1 X0.out; have hx1w7 := cell_old I.out.1 X1.out; have hx2w7 := cell_old I.out.1 X2.out; have hx3w7 := cell_old I.out.1 X3.out; have hcn0w7 : w7.cell? ⟨gn, 0, none⟩ = some (.string X.f0) := (blk_cell I.out.2.2.1 0).trans rfl; have hcn1w7 : w7.cell? ⟨gn, 1, none⟩ = some (.int .i64 (a.1)) := (blk_cell I.out.2.2.1 1).trans rfl; have hcn2w7 : w7.cell? ⟨gn, 2, none⟩ = some (.int .i64 (b.1)) := (blk_cell I.out.2.2.1 2).trans rfl; have hcn3w7 : w7.cell? ⟨gn, 3, none⟩ = some (.int .i64 X.f3) := (blk_cell I.out.2.2.1 3).trans rfl; have hfn1w7 := blk_frozen I.out.2.2.1 1; have hfn2w7 := blk_frozen I.out.2.2.1 2) | ((with_reducible refine gate_callee (f := 115) rfl ?_); refine goesL_ (some 68) rfl rfl Try.func115 (by kernel_rfl) rfl #[.pointer (some ⟨gb, 0, none⟩), .agg #[.string X.f0, .int .i64 (a.1), .int .i64 (b.1), .int .i64 X.f3]] rfl (by (try simp only [List.map_toArray, List.map_cons, List.map_nil]); first | done | rfl) ?_; have HZ := put_calls ⟨X.f0, a.1, b.1, X.f3⟩ gb (fun q => ok q ∧ q ≠ gn) b.2.1 w0 _ I.out.1 I.out.2.1 HGB.out (fun hq => HOK.out hq.1) (oInv_fresh I.out HFR.out) HN3.out; change Calls Try.prog 115 #[.pointer (some ⟨gb, 0, none⟩), .agg #[.string X.f0, .int .i64 (a.1), .int .i64 (b.1), .int .i64 X.f3]] _ _ at HZ; (with_reducible refine HZ.mono ?_); clear HZ; rintro e w9 ⟨rfl, hd, hb, hk⟩; refine ⟨_, rfl, ?_⟩; have n0_ := Aside0.mk (oInv_put I.out hb hd hk); clear hd hb hk I; have I := n0_; clear n0_; have hdw := dn_at I.out.2.2.2.2.2.2.2.1 i PI.out (by rw [LB.out, LA.out, HDL.out]; have := QI.out; rw [HDL.out] at this; exact this); have hdf := dn_fr I.out.2.2.2.2.2.2.2.1 i; skip) | ((with_reducible refine gate_store (t := 3) (p := 69) rfl ?_); refine store_event (t := 3) (p := 69) (v := ?vo_d) (w1 := w9.setCell ⟨gd, i.toNat, none⟩ (.int .i64 (putN (⟨X.f0, a.1, b.1, X.f3⟩ : S79) b.2.1).1)) ?hg ?ho ?hn ?hr ?_; (case ho => rfl); (case hg => rfl); (case hn => rfl); (case hr => first | (go_simp; done) | (go_simp; rfl)); intro w10 hw; have n0_ := Aside0.mk (show oInv gb gn gd ok w0 W _ _ _ _ X w10 from by rw [hw]; exact oInv_done (n := i.toNat) (x := (putN (⟨X.f0, a.1, b.1, X.f3⟩ : S79) b.2.1).1) I.out); clear I hw hdw hdf; have I := n0_; clear n0_; have hde : w10.cell? ⟨gd, i.toNat, none⟩ = some (.int .i64 (putN (⟨X.f0, a.1, b.1, X.f3⟩ : S79) b.2.1).1) := (dn_at I.out.2.2.2.2.2.2.2.1 i PI.out (by rw [List.length_set]; exact DLN.out)).trans (by rw [rd_set i PI.out DLN.out])))
          go_ret
          exact ⟨rfl, bld_mono I.out.2.1 (fun q hq => hq.1), I.out.2.2.2.2.2.2.2.1, I.out.1, I.out.2.2.2.1⟩
        · rw [if_neg hn3] at H
          cases H
    · rw [if_neg q1] at H
      cases H
  · rw [if_neg p1] at H
    cases H
theorem once_calls (k : Nat) : ∀ (A1 : Option Addr) (c1 : Nat) (e : List S79) (i : Int) (gb gd : Nat) (ok : Nat → Prop) (nodes : List S79) (ds : List Int) (w0 W : World) (r1 : Int) (r2 : List S79) (r3 : List Int) (hB : Below w0.heap.size w0 W) (hd : bld gb w0.heap.size ok true nodes W) (hdn : dn gd ds W) (hgb : w0.heap.size ≤ gb) (hgd : w0.heap.size ≤ gd) (hne : gd ≠ gb) (hok : ¬ ok gb) (hokd : ¬ ok gd) (hfr : ∀ q, W.heap.size ≤ q → ok q) (hr : Kd.C k79 w0 A1 e.length e) (hc1 : e.length ≤ c1) (hdl : ds.length = e.length) (h : exb_once.f k e i nodes ds = some (r1, r2, r3)),
      Calls Try.prog 119 #[.pointer (some ⟨gb, 0, none⟩), .slice A1 e.length c1, .int .i64 i, .slice (some ⟨gd, 0, none⟩) e.length e.length] W fun e w' => e = .returned (.int .i64 r1) ∧ bld gb w0.heap.size ok true r2 w' ∧ dn gd r3 w' ∧ Below w0.heap.size w0 w' ∧ Kept W w' (fun q => q = gb ∨ q = gd ∨ ok q) := by
  induction k with
  | zero =>
    intro A1 c1 e i gb gd ok nodes ds w0 W r1 r2 r3 hB hd hdn hgb hgd hne hok hokd hfr hr hc1 hdl h
    cases h
  | succ k ih => exact once_step k ih
end Go.Proofs.Ytecmlikhmkcdpaa.E
