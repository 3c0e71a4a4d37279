/- impl.share: the nodes of an expression, each once, equal ones made one. -/
import Derived.Test.YtecmlikhmkcdpaaUX
import Derived.Test.YtecmlikhmkcdpaaEIdx
import Derived.Test.YtecmlikhmkcdpaaERep
import Derived.Test.YtecmlikhmkcdpaaEOnceF
import Derived.Test.YtecmlikhmkcdpaaEImplNodeRenamed
namespace Go.Proofs.Ytecmlikhmkcdpaa.E
open Go.RowKit Go.Proofs.YtecmlikhmkcdpaaW.PrintWords Go.Proofs.YtecmlikhmkcdpaaW.PrintLast Go.Proofs.YtecmlikhmkcdpaaW.PrintMore
attribute [local go_sem] max2_int min2_int max_two min_two max_three min_three max_four min_four
set_option linter.unusedVariables false
set_option linter.unusedSimpArgs false

def shr.go (f : Int → List S79 → List Int → Option (List S79 × List Int)) : List Int → List S79 → List Int → Option (List S79 × List Int)
  | [], out, ds => some (out, ds)
  | p :: ps, out, ds => (f p out ds).bind fun s => shr.go f ps s.1 s.2
def shr.put (i : Int) (X : S79) (out : List S79) (ds : List Int) : Option (List S79 × List Int) :=
  if out.length < 1000 then (if idxN X out < 0 then some (out ++ [X], ds.set i.toNat (out.length : Int)) else some (out, ds.set i.toNat (idxN X out))) else none
def shr.f : Nat → List S79 → Int → List S79 → List Int → Option (List S79 × List Int)
  | 0, _, _, _, _ => none
  | k + 1, e, i, out, ds => if 0 ≤ i then (if i < (e.length : Int) then (if 0 ≤ rd ds i then some (out, ds) else
      ((impl_Node_of.f k (rd_T79 e i).f0 (rd_T79 e i).f1 (rd_T79 e i).f2 (rd_T79 e i).f3).bind fun ps =>
      (shr.go (shr.f k e) ps out ds).bind fun s =>
      (impl_Node_renamed.f k (rd_T79 e i).f0 (rd_T79 e i).f1 (rd_T79 e i).f2 (rd_T79 e i).f3 s.2).bind fun q => shr.put i ⟨q.1, q.2.1, q.2.2.1, q.2.2.2⟩ s.1 s.2)) else none) else none
theorem shr.go_len {f : Int → List S79 → List Int → Option (List S79 × List Int)} (hf : ∀ i out ds r2 r3, f i out ds = some (r2, r3) → r3.length = ds.length) : ∀ ps out ds r2 r3, shr.go f ps out ds = some (r2, r3) → r3.length = ds.length
  | [], out, ds, r2, r3, h => by cases h; rfl
  | p :: ps, out, ds, r2, r3, h => by
    obtain ⟨s, hs, h⟩ := Option.bind_eq_some_iff.mp h
    rw [shr.go_len hf ps s.1 s.2 r2 r3 h, hf p out ds s.1 s.2 hs]
theorem shr.put_len {i : Int} {X : S79} {out : List S79} {ds : List Int} {r2 : List S79} {r3 : List Int} (h : shr.put i X out ds = some (r2, r3)) : r3.length = ds.length := by
  unfold shr.put at h
  split at h
  · split at h <;> cases h <;> simp
  · cases h
theorem shr.len : ∀ k e i out ds r2 r3, shr.f k e i out ds = some (r2, r3) → r3.length = ds.length := by
  intro k
  induction k with
  | zero => intro e i out ds r2 r3 h; cases h
  | succ k ih =>
    intro e i out ds r2 r3 h
    simp only [shr.f] at h
    split at h
    · split at h
      · split at h
        · cases h; rfl
        · obtain ⟨ps, _, h⟩ := Option.bind_eq_some_iff.mp h
          obtain ⟨s, hs, h⟩ := Option.bind_eq_some_iff.mp h
          obtain ⟨q, _, h⟩ := Option.bind_eq_some_iff.mp h
          rw [shr.put_len h, shr.go_len (fun i out ds r2 r3 => ih e i out ds r2 r3) ps out ds s.1 s.2 hs]
      · cases h
    · cases h
theorem shr.go_mono {f g : Int → List S79 → List Int → Option (List S79 × List Int)} (hf : ∀ i out ds, LeO (f i out ds) (g i out ds)) : ∀ ps out ds, LeO (shr.go f ps out ds) (shr.go g ps out ds)
  | [], _, _ => LeO.refl _
  | p :: ps, out, ds => LeO.bind (hf p out ds) (fun s => shr.go_mono hf ps s.1 s.2)
theorem shr.mono : ∀ k e i n ds, LeO (shr.f k e i n ds) (shr.f (k + 1) e i n ds) := by
  intro k
  induction k with
  | zero => intro e i n ds r h; cases h
  | succ k ih =>
    intro e i n ds
    rw [shr.f, shr.f]
    repeat' first
      | (with_reducible exact ih _ _ _ _)
      | (with_reducible exact impl_Node_of.mono _ _ _ _ _)
      | (with_reducible exact impl_Node_renamed.mono _ _ _ _ _ _)
      | (with_reducible exact shr.go_mono (fun i o d => ih _ i o d) _ _ _)
      | (with_reducible exact LeO.refl _)
      | (with_reducible exact LeO.none _)
      | (with_reducible refine LeO.ite ?_ ?_)
      | (with_reducible refine LeO.bind ?_ (fun _ => ?_))
/-- Where the walk stands: the boxes of names, e, walk and out, and what they hold. -/
def shS (bn be bw bo gd : Nat) (A0 : Option Addr) (c0 n : Nat) (ok : Nat → Prop) (w0 : World) (out : List S79) (ds : List Int) (cur : World) : Prop :=
  Below w0.heap.size w0 cur ∧ cur.heap[bn]? = some (.cells #[.slice (some ⟨gd, 0, none⟩) n n] 40 (0, 0)) ∧ cur.heap[be]? = some (.cells #[.slice A0 n c0] 33 (0, 0)) ∧ cur.heap[bw]? = some (.cells #[.func (.func 121) #[] #[.pointer (some ⟨bn, 0, none⟩), .pointer (some ⟨be, 0, none⟩), .pointer (some ⟨bw, 0, none⟩), .pointer (some ⟨bo, 0, none⟩)]] 118 (0, 0)) ∧
  (∃ A c, cur.heap[bo]? = some (.cells #[.slice A out.length c] 33 (0, 0)) ∧ Kd.R k79 79 cur w0.heap.size ok (.slice A out.length c) out) ∧ dn gd ds cur
def shF (bn be bw bo gd : Nat) (ok : Nat → Prop) (B : Nat) : Prop := B ≤ bo ∧ B ≤ gd ∧ bo ≠ bn ∧ bo ≠ be ∧ bo ≠ bw ∧ bo ≠ gd ∧ gd ≠ bn ∧ gd ≠ be ∧ gd ≠ bw ∧ ¬ ok bn ∧ ¬ ok be ∧ ¬ ok bw ∧ ¬ ok bo ∧ ¬ ok gd
section
variable {bn be bw bo gd : Nat} {A0 : Option Addr} {c0 n : Nat} {ok ok' : Nat → Prop} {w0 : World} {out : List S79} {ds : List Int} {cur cur' : World}
theorem shS_below (h : shS bn be bw bo gd A0 c0 n ok w0 out ds cur) (hb : Below cur.heap.size cur cur') : shS bn be bw bo gd A0 c0 n ok w0 out ds cur' := by
  obtain ⟨h1, h2, h3, h4, ⟨A, c, h5, h6⟩, h7⟩ := h
  exact ⟨below_step h1 hb, blk_below h2 hb, blk_below h3 hb, blk_below h4 hb, ⟨A, c, blk_below h5 hb, Kd.R_below h6 hb⟩, (hb.block gd (blk_lt h7)).trans h7⟩
theorem shS_mono (h : shS bn be bw bo gd A0 c0 n ok w0 out ds cur) (hm : ∀ q, ok q → q < cur.heap.size → ok' q) : shS bn be bw bo gd A0 c0 n ok' w0 out ds cur := by
  obtain ⟨h1, h2, h3, h4, ⟨A, c, h5, h6⟩, h7⟩ := h
  exact ⟨h1, h2, h3, h4, ⟨A, c, h5, Kd.R_mono (Kd.R_bound h6) (fun q hq => hm q hq.1 hq.2.2.1)⟩, h7⟩
theorem shS_set (h : shS bn be bw bo gd A0 c0 n ok w0 out ds cur) (hf : shF bn be bw bo gd ok w0.heap.size) (m : Nat) (x : Int) : shS bn be bw bo gd A0 c0 n ok w0 out (ds.set m x) (cur.setCell ⟨gd, m, none⟩ (.int .i64 x)) := by
  obtain ⟨h1, h2, h3, h4, ⟨A, c, h5, h6⟩, h7⟩ := h
  obtain ⟨f1, f2, f3, f4, f5, f6, f7, f8, f9, f10, f11, f12, f13, f14⟩ := hf
  exact ⟨h1.setCell f2 _, blk_far h2 (p := ⟨gd, m, none⟩) (fun e => f7 e.symm) _, blk_far h3 (p := ⟨gd, m, none⟩) (fun e => f8 e.symm) _, blk_far h4 (p := ⟨gd, m, none⟩) (fun e => f9 e.symm) _,
    ⟨A, c, blk_far h5 (p := ⟨gd, m, none⟩) f6 _, Kd.R_far (p := ⟨gd, m, none⟩) h6 (fun k hk e => f14 (by have e : k = gd := e; rw [← e]; exact hk)) _⟩, dn_set h7 m x⟩
theorem shS_out (h : shS bn be bw bo gd A0 c0 n ok w0 out ds cur) (hf : shF bn be bw bo gd ok w0.heap.size) {w2 : World} {A2 : Option Addr} {c2 : Nat} {X : S79} {row : Option Nat} (hrow : ∀ q, row = some q → ok q) (hB : Below w0.heap.size w0 w2) (hg : cur.grownBy w2 row) (hr : Kd.R k79 79 w2 w0.heap.size ok (.slice A2 (out ++ [X]).length c2) (out ++ [X])) : shS bn be bw bo gd A0 c0 n ok w0 (out ++ [X]) ds (w2.setCell ⟨bo, 0, none⟩ (.slice A2 (out ++ [X]).length c2)) := by
  obtain ⟨h1, h2, h3, h4, ⟨A, c, h5, h6⟩, h7⟩ := h
  obtain ⟨f1, f2, f3, f4, f5, f6, f7, f8, f9, f10, f11, f12, f13, f14⟩ := hf
  have hk : ∀ q, ¬ ok q → q < cur.heap.size → w2.heap[q]? = cur.heap[q]? := fun q hq hl => hg.block q hl (fun e => hq (hrow q e.symm))
  refine ⟨hB.setCell f1 _, blk_far ((hk bn f10 (blk_lt h2)).trans h2) (p := ⟨bo, 0, none⟩) (fun e => f3 e.symm) _, blk_far ((hk be f11 (blk_lt h3)).trans h3) (p := ⟨bo, 0, none⟩) (fun e => f4 e.symm) _, blk_far ((hk bw f12 (blk_lt h4)).trans h4) (p := ⟨bo, 0, none⟩) (fun e => f5 e.symm) _, ⟨A2, c2, ?_, Kd.R_far (p := ⟨bo, 0, none⟩) hr (fun k hk e => f13 (by have e : k = bo := e; rw [← e]; exact hk)) _⟩, ?_⟩
  · have := blk_set ((hk bo f13 (blk_lt h5)).trans h5) 0 (.slice A2 (out ++ [X]).length c2)
    exact this
  · exact (Below.heap_setCell w2 ⟨bo, 0, none⟩ _ gd (fun e => f6 e.symm)).trans ((hk gd f14 (blk_lt h7)).trans h7)
theorem shF_imp (hf : shF bn be bw bo gd ok w0.heap.size) (hi : ∀ q, ok' q → ok q) : shF bn be bw bo gd ok' w0.heap.size := by
  obtain ⟨f1, f2, f3, f4, f5, f6, f7, f8, f9, f10, f11, f12, f13, f14⟩ := hf
  exact ⟨f1, f2, f3, f4, f5, f6, f7, f8, f9, fun h => f10 (hi _ h), fun h => f11 (hi _ h), fun h => f12 (hi _ h), fun h => f13 (hi _ h), fun h => f14 (hi _ h)⟩
theorem Kept.trans' {W w1 w2 : World} {S : Nat → Prop} (h1 : Kept W w1 S) (h2 : Kept w1 w2 S) : Kept W w2 S :=
  ⟨Nat.le_trans h1.1 h2.1, fun q hq hs => (h2.2 q (Nat.lt_of_lt_of_le hq h1.1) hs).trans (h1.2 q hq hs)⟩
theorem Kept.imp' {W w1 : World} {S S' : Nat → Prop} (h1 : Kept W w1 S) (hi : ∀ q, S q → S' q) : Kept W w1 S' := ⟨h1.1, fun q hq hs => h1.2 q hq (fun h => hs (hi q h))⟩
theorem dn_C {gd : Nat} {ds : List Int} {W : World} (h : dn gd ds W) (hl : ds.length ≤ 9223372036854775807) : Kd.C (Kd.int .i64) W (some ⟨gd, 0, none⟩) ds.length ds := by
  refine Kd.C_of_reads (d := (0 : Int)) ⟨rfl, hl, fun _ => ⟨_, rfl, fun j hj => ?_⟩⟩
  rw [addgd, blk_cell h j]
  simp [List.getD_eq_getElem?_getD, hj]
theorem fresh_blk {wl w5 : World} {o : Obj} (hb : Below (wl.drew.alloc o).heap.size (wl.drew.alloc o) w5) : w5.heap[wl.heap.size]? = some o :=
  (hb.block wl.heap.size (show wl.drew.heap.size < (wl.drew.alloc o).heap.size from blk_lt (heap_alloc_new wl.drew o))).trans (heap_alloc_new wl.drew o)
theorem blk_set4 {w : World} {g t : Nat} {a0 a1 a2 a3 : Value} (h : w.heap[g]? = some (.cells #[a0, a1, a2, a3] t (0, 0))) (b0 b1 b2 b3 : Value) : ((((w.setCell ⟨g, 0, none⟩ b0).setCell ⟨g, 1, none⟩ b1).setCell ⟨g, 2, none⟩ b2).setCell ⟨g, 3, none⟩ b3).heap[g]? = some (.cells #[b0, b1, b2, b3] t (0, 0)) :=
  blk_set (blk_set (blk_set (blk_set h 0 b0) 1 b1) 2 b2) 3 b3
theorem Kept.set' {W w1 : World} {S : Nat → Prop} (h : Kept W w1 S) {p : Addr} (hp : S p.block) (v : Value) : Kept W (w1.setCell p v) S :=
  ⟨by have := h.1; simpa [World.setCell] using this, fun q hq hs => (Below.heap_setCell w1 p v q (fun e => hs (by have e : q = p.block := e; rw [e]; exact hp))).trans (h.2 q hq hs)⟩
theorem row_kept {W w2 wl : World} {Ap : Option Addr} {cp : Nat} {ps : List Int} (h : Kd.R (Kd.int .i64) 3 w2 W.heap.size (fun _ => True) (.slice Ap ps.length cp) ps) (hb : bo < W.heap.size) (hg : gd < W.heap.size) (hok : ∀ q, W.heap.size ≤ q → q < w2.heap.size → ¬ ok' q) (hk : Kept w2 wl (fun q => q = bo ∨ q = gd ∨ ok' q)) : Kd.C (Kd.int .i64) wl Ap ps.length ps :=
  (Kd.R_reads' (Kd.R_step (Kd.R_bound h) (fun q hq hl => hk.2 q hl (by
    have h1 := hq.2.1
    rintro (e | e | e)
    · omega
    · omega
    · exact hok q h1 hl e)))).2.2
theorem go_drop {f : Int → List S79 → List Int → Option (List S79 × List Int)} {ps : List Int} {x : Int} (h0 : 0 ≤ x) (h1 : x < (ps.length : Int)) {o1 : List S79} {d1 : List Int} {r : List S79 × List Int} (h : shr.go f (ps.drop x.toNat) o1 d1 = some r) : ∃ z, f (rd ps x) o1 d1 = some z ∧ shr.go f (ps.drop (x + 1).toNat) z.1 z.2 = some r := by
  have hl : x.toNat < ps.length := by omega
  rw [List.drop_eq_getElem_cons hl] at h
  obtain ⟨z, hz, h⟩ := Option.bind_eq_some_iff.mp h
  have e : rd ps x = ps[x.toNat] := by unfold rd; simp [List.getD_eq_getElem?_getD, hl]
  have e2 : (x + 1).toNat = x.toNat + 1 := by omega
  exact ⟨z, by rw [e]; exact hz, by rw [e2]; exact h⟩
end
/-- The state in which impl.share calls its closure. -/
theorem share_start (w : World) (n : Nat) {bn be bw bo gd w2s : Nat} {A0 A6 : Option Addr} {c0 c6 : Nat} {ds : List Int} {w4 w5 w6 w7 w8 w9 w10 : World} (hB : Below w.heap.size w w6) (be6 : w6.heap[be]? = some (.cells #[.slice A0 n c0] 33 (0, 0))) (bo6 : w6.heap[bo]? = some (.cells #[.slice none 0 0] 33 (0, 0))) (bn6 : w6.heap[bn]? = some (.cells #[.slice none 0 0] 40 (0, 0))) (dn6 : dn gd ds w6)
    (ho : Kd.R k79 79 w6 w.heap.size (fun q => q ≠ be ∧ q < w2s) (.slice A6 0 c6) []) (hbe : w.heap.size ≤ be) (hbe2 : be < w2s) (hgd : w2s ≤ gd) (hgd4 : gd < w4.heap.size) (hbo : w4.heap.size ≤ bo) (hbo5 : bo < w5.heap.size) (hw4 : w.heap.size ≤ w4.heap.size) (hbn : w5.heap.size ≤ bn)
    (h7 : w7 = w6.setCell ⟨bo, 0, none⟩ (.slice A6 0 c6)) (h8 : w8 = w7.setCell ⟨bn, 0, none⟩ (.slice (some ⟨gd, 0, none⟩) n n)) (h9 : Below w8.heap.size w8 w9) (hbw : w8.heap.size ≤ bw) (bw9 : w9.heap[bw]? = some (.cells #[.nilFunc] 118 (0, 0))) (h10 : w10 = w9.setCell ⟨bw, 0, none⟩ (.func (.func 121) #[] #[.pointer (some ⟨bn, 0, none⟩), .pointer (some ⟨be, 0, none⟩), .pointer (some ⟨bw, 0, none⟩), .pointer (some ⟨bo, 0, none⟩)])) :
    ∃ ok : Nat → Prop, shS bn be bw bo gd A0 c0 n ok w [] ds w10 ∧ shF bn be bw bo gd ok w.heap.size ∧ ∀ q, w10.heap.size ≤ q → ok q := by
  have s7 : w7.heap.size = w6.heap.size := by rw [h7]; simp [World.setCell]
  have s8 : w8.heap.size = w7.heap.size := by rw [h8]; simp [World.setCell]
  have s10 : w10.heap.size = w9.heap.size := by rw [h10]; simp [World.setCell]
  have l1 := blk_lt be6
  have l2 := blk_lt bo6
  have l3 := blk_lt bn6
  have l4 := blk_lt dn6
  have l5 := blk_lt bw9
  have l6 := h9.size
  have n1 : be ≠ bo := by omega
  have n2 : be ≠ bn := by omega
  have n3 : be ≠ bw := by omega
  have n4 : be ≠ gd := by omega
  have n5 : bo ≠ bn := by omega
  have n6 : bo ≠ bw := by omega
  have n7 : bo ≠ gd := by omega
  have n8 : bn ≠ bw := by omega
  have n9 : bn ≠ gd := by omega
  have na : bw ≠ gd := by omega
  refine ⟨fun q => q ≠ be ∧ q ≠ bn ∧ q ≠ bw ∧ q ≠ bo ∧ q ≠ gd, ?_, ⟨by omega, by omega, fun e => n5 e, fun e => n1 e.symm, n6, n7, fun e => n9 e.symm, fun e => n4 e.symm, fun e => na e.symm, fun h => h.2.1 rfl, fun h => h.1 rfl, fun h => h.2.2.1 rfl, fun h => h.2.2.2.1 rfl, fun h => h.2.2.2.2 rfl⟩, fun q hq => ⟨by omega, by omega, by omega, by omega, by omega⟩⟩
  have HR6 : Kd.R k79 79 w6 w.heap.size (fun q => q ≠ be ∧ q ≠ bn ∧ q ≠ bw ∧ q ≠ bo ∧ q ≠ gd) (.slice A6 0 c6) [] := Kd.R_mono ho (fun q hq => ⟨hq.1, by omega, by omega, by omega, by omega⟩)
  have HR7 : Kd.R k79 79 w7 w.heap.size (fun q => q ≠ be ∧ q ≠ bn ∧ q ≠ bw ∧ q ≠ bo ∧ q ≠ gd) (.slice A6 0 c6) [] := by rw [h7]; exact Kd.R_far (p := ⟨bo, 0, none⟩) HR6 (fun q hq => hq.2.2.2.1) _
  have HR8 : Kd.R k79 79 w8 w.heap.size (fun q => q ≠ be ∧ q ≠ bn ∧ q ≠ bw ∧ q ≠ bo ∧ q ≠ gd) (.slice A6 0 c6) [] := by rw [h8]; exact Kd.R_far (p := ⟨bn, 0, none⟩) HR7 (fun q hq => hq.2.1) _
  have HR9 := Kd.R_below HR8 h9
  have HR10 : Kd.R k79 79 w10 w.heap.size (fun q => q ≠ be ∧ q ≠ bn ∧ q ≠ bw ∧ q ≠ bo ∧ q ≠ gd) (.slice A6 0 c6) [] := by rw [h10]; exact Kd.R_far (p := ⟨bw, 0, none⟩) HR9 (fun q hq => hq.2.2.1) _
  have B7 : Below w.heap.size w w7 := by rw [h7]; exact hB.setCell (by show w.heap.size ≤ bo; omega) _
  have B8 : Below w.heap.size w w8 := by rw [h8]; exact B7.setCell (by show w.heap.size ≤ bn; omega) _
  have B10 : Below w.heap.size w w10 := by rw [h10]; exact (below_step B8 h9).setCell (by show w.heap.size ≤ bw; omega) _
  have step : ∀ {g t : Nat} {cs : Array Value}, w8.heap[g]? = some (.cells cs t (0, 0)) → g ≠ bw → w10.heap[g]? = some (.cells cs t (0, 0)) := fun h hne => by
    rw [h10]
    exact blk_far (blk_below h h9) (p := ⟨bw, 0, none⟩) hne _
  have bo7 : w7.heap[bo]? = some (.cells #[.slice A6 0 c6] 33 (0, 0)) := by rw [h7]; exact blk_set bo6 0 _
  have bo8 : w8.heap[bo]? = some (.cells #[.slice A6 0 c6] 33 (0, 0)) := by rw [h8]; exact blk_far bo7 (p := ⟨bn, 0, none⟩) n5 _
  have bn7 : w7.heap[bn]? = some (.cells #[.slice none 0 0] 40 (0, 0)) := by rw [h7]; exact blk_far bn6 (p := ⟨bo, 0, none⟩) (fun e => n5 e.symm) _
  have bn8 : w8.heap[bn]? = some (.cells #[.slice (some ⟨gd, 0, none⟩) n n] 40 (0, 0)) := by rw [h8]; exact blk_set bn7 0 _
  have be7 : w7.heap[be]? = some (.cells #[.slice A0 n c0] 33 (0, 0)) := by rw [h7]; exact blk_far be6 (p := ⟨bo, 0, none⟩) n1 _
  have be8 : w8.heap[be]? = some (.cells #[.slice A0 n c0] 33 (0, 0)) := by rw [h8]; exact blk_far be7 (p := ⟨bn, 0, none⟩) n2 _
  have dn7 : dn gd ds w7 := by unfold dn; rw [h7]; exact blk_far dn6 (p := ⟨bo, 0, none⟩) (fun e => n7 e.symm) _
  have dn8 : dn gd ds w8 := by unfold dn; rw [h8]; exact blk_far dn7 (p := ⟨bn, 0, none⟩) (fun e => n9 e.symm) _
  exact ⟨B10, step bn8 n8, step be8 n3, by rw [h10]; exact blk_set bw9 0 _, ⟨A6, c6, step bo8 n6, HR10⟩, step dn8 (fun e => na e.symm)⟩
set_option maxHeartbeats 16000000 in
set_option maxRecDepth 100000 in
theorem shr_step (k : Nat) (ih : ∀ (bn be bw bo gd : Nat) (A0 : Option Addr) (c0 : Nat) (e : List S79) (i : Int) (ok : Nat → Prop) (out : List S79) (ds : List Int) (w0 W : World) (r2 : List S79) (r3 : List Int) (hst : shS bn be bw bo gd A0 c0 e.length ok w0 out ds W) (hfx : shF bn be bw bo gd ok w0.heap.size) (hfr : ∀ q, W.heap.size ≤ q → ok q) (hr : Kd.C k79 w0 A0 e.length e) (hc0 : e.length ≤ c0) (hdl : ds.length = e.length) (h : shr.f k e i out ds = some (r2, r3)),
      Calls Try.prog 121 #[.int .i64 i, .pointer (some ⟨bn, 0, none⟩), .pointer (some ⟨be, 0, none⟩), .pointer (some ⟨bw, 0, none⟩), .pointer (some ⟨bo, 0, none⟩)] W fun e_ w' => e_ = .returned (.tuple #[]) ∧ shS bn be bw bo gd A0 c0 e.length ok w0 r2 r3 w' ∧ Kept W w' (fun q => q = bo ∨ q = gd ∨ ok q))
    (bn be bw bo gd : Nat) (A0 : Option Addr) (c0 : Nat) (e : List S79) (i : Int) (ok : Nat → Prop) (out : List S79) (ds : List Int) (w0 W : World) (r2 : List S79) (r3 : List Int) (hst : shS bn be bw bo gd A0 c0 e.length ok w0 out ds W) (hfx : shF bn be bw bo gd ok w0.heap.size) (hfr : ∀ q, W.heap.size ≤ q → ok q) (hr : Kd.C k79 w0 A0 e.length e) (hc0 : e.length ≤ c0) (hdl : ds.length = e.length) (h : shr.f (k + 1) e i out ds = some (r2, r3)) :
    Calls Try.prog 121 #[.int .i64 i, .pointer (some ⟨bn, 0, none⟩), .pointer (some ⟨be, 0, none⟩), .pointer (some ⟨bw, 0, none⟩), .pointer (some ⟨bo, 0, none⟩)] W fun e_ w' => e_ = .returned (.tuple #[]) ∧ shS bn be bw bo gd A0 c0 e.length ok w0 r2 r3 w' ∧ Kept W w' (fun q => q = bo ∨ q = gd ∨ ok q) := by
  have hu79 := Try.underlying79
  have ST := Aside0.mk hst
  have FX := Aside0.mk hfx
  have HFR := Aside0.mk hfr
  have HR := Aside0.mk hr
  have HC0 := Aside0.mk hc0
  have HDL := Aside0.mk hdl
  have HIH := Aside0.mk ih
  clear hst hfx hfr hr hc0 hdl ih
  have H := h
  clear h
  simp only [shr.f] at H
  by_cases p1 : 0 ≤ i
  · rw [if_pos p1] at H
    by_cases q1 : i < (e.length : Int)
    · rw [if_pos q1] at H
      have PI := Aside0.mk p1
      have QI := Aside0.mk (show i < (ds.length : Int) by rw [HDL.out]; exact q1)
      have hdd := dn_at ST.out.2.2.2.2.2 i p1 QI.out
      have hcn : W.cell? ⟨bn, 0, none⟩ = some (.slice (some ⟨gd, 0, none⟩) e.length e.length) := (blk_cell ST.out.2.1 0).trans rfl
      by_cases d1 : 0 ≤ rd ds i
      · have dq : decide (0 ≤ rd ds i) = true := decide_eq_true d1
        rw [if_pos d1] at H
        clear d1
        replace H := Option.some.inj H
        injection H with z2 z3
        subst z2
        subst z3
        replace p1 := eq_true p1
        replace q1 := eq_true q1
        go_enter Try.func121, Try.ntmps121
        go_wp2
        ((try simp only [Exit.inBlock, Exit.then]); refine bodyPost_ret (results_none rfl _ _ _) rfl ?_)
        exact ⟨rfl, ST.out, ⟨Nat.le_refl _, fun _ _ _ => rfl⟩⟩
      have dq : decide (0 ≤ rd ds i) = false := decide_eq_false d1
      rw [if_neg d1] at H
      clear d1
      obtain ⟨ad0, e0, hx0, hx1, hx2, hx3⟩ := at_T79 HR.out i p1 q1
      generalize rd_T79 e i = X at hx0 hx1 hx2 hx3 H
      cases e0
      have HH := Aside0.mk H
      clear H
      have X0 := Aside0.mk hx0
      have X1 := Aside0.mk hx1
      have X2 := Aside0.mk hx2
      have X3 := Aside0.mk hx3
      have hB := ST.out.1
      have step : ∀ {a : Addr} {v : Value}, w0.cell? a = some v → W.cell? a = some v := fun h => (hB.cell (World.block_lt_of_cell? w0 _ h)).trans h
      replace hx0 := step hx0
      replace hx1 := step hx1
      replace hx2 := step hx2
      replace hx3 := step hx3
      clear step hB
      have hce : W.cell? ⟨be, 0, none⟩ = some (.slice (some ad0) e.length c0) := (blk_cell ST.out.2.2.1 0).trans rfl
      have hcw : W.cell? ⟨bw, 0, none⟩ = some (.func (.func 121) #[] #[.pointer (some ⟨bn, 0, none⟩), .pointer (some ⟨be, 0, none⟩), .pointer (some ⟨bw, 0, none⟩), .pointer (some ⟨bo, 0, none⟩)]) := (blk_cell ST.out.2.2.2.1 0).trans rfl
      go_enter Try.func121, Try.ntmps121
      replace p1 := eq_true p1
      replace q1 := eq_true q1
      have H := HH.out
      clear HH
      replace H := Option.bind_eq_some_iff.mp H
      obtain ⟨ps, HP, H⟩ := H
      have HP := Aside0.mk HP
      replace H := Option.bind_eq_some_iff.mp H
      obtain ⟨s, HS, H⟩ := H
      have HS := Aside0.mk (show shr.go (shr.f k e) ps out ds = some (s.1, s.2) from HS)
      replace H := Option.bind_eq_some_iff.mp H
      obtain ⟨q, HQ, H⟩ := H
      have HQ := Aside0.mk HQ
      have HH := Aside0.mk H
      clear H
      go_wp2_with (first | ((with_reducible refine gate_callee (f := 118) rfl ?_); refine goesL_ (some 18) rfl rfl Try.func118 (by kernel_rfl) rfl #[.agg #[.string X.f0, .int .i64 X.f1, .int .i64 X.f2, .int .i64 X.f3]] rfl (by (try simp only [List.map_toArray, List.map_cons, List.map_nil]); first | done | rfl | (simp only [List.length_drop, List.length_take]; rfl)) ?_; (with_reducible refine (impl_Node_of.calls k X.f0 X.f1 X.f2 X.f3 ps _ HP.out).mono ?_); rintro e_ w2 ⟨v, rfl, ho, hb⟩; refine ⟨_, rfl, ?_⟩; obtain ⟨Ap, cp, rfl⟩ := Kd.R_slice ho; have HO := Aside0.mk ho; have HB2 := Aside0.mk hb; have ST2 := Aside0.mk (shS_below ST.out hb); clear ho hb; skip))
      obtain ⟨okp, hokp⟩ : ∃ okp : Nat → Prop, okp = fun q => ok q ∧ ¬ (W.heap.size ≤ q ∧ q < w2.heap.size) := ⟨_, rfl⟩
      have FXp := Aside0.mk (show shF bn be bw bo gd okp w0.heap.size from by rw [hokp]; exact shF_imp FX.out (fun q hq => hq.1))
      have STp := Aside0.mk (show shS bn be bw bo gd (some ad0) c0 e.length okp w0 out ds w2 from by rw [hokp]; exact shS_below (shS_mono ST.out (fun q hq hl => ⟨hq, by omega⟩)) HB2.out)
      have HFRp := Aside0.mk (show ∀ q, w2.heap.size ≤ q → okp q from by rw [hokp]; exact fun q hq => ⟨HFR.out q (by have := HB2.out.size; omega), by omega⟩)
      have HOKp := Aside0.mk (show ∀ q, okp q → ok q from by rw [hokp]; exact fun q hq => hq.1)
      have NOKp := Aside0.mk (show ∀ q, W.heap.size ≤ q → q < w2.heap.size → ¬ okp q from by rw [hokp]; exact fun q h1 h2 h3 => h3.2 ⟨h1, h2⟩)
      have GBO := Aside0.mk (show bo < W.heap.size from by obtain ⟨_, _, hh, _⟩ := ST.out.2.2.2.2.1; exact blk_lt hh)
      have GGD := Aside0.mk (show gd < W.heap.size from blk_lt ST.out.2.2.2.2.2)
      clear hokp
      go_loopg [20] (ps.length + 1) (fun kq v20 w' => ∃ (x : Int) (wl : World) (o1 : List S79) (d1 : List Int), v20 = .int .i64 x ∧ wl = w' ∧ Aside0 (x + kq = ps.length + 1) ∧ Aside0 (0 ≤ x ∧ x ≤ ps.length) ∧ Aside0 (d1.length = e.length) ∧ Aside0 (shr.go (shr.f k e) (ps.drop x.toNat) o1 d1 = some (s.1, s.2)) ∧ Aside0 (shS bn be bw bo gd (some ad0) c0 e.length okp w0 o1 d1 w') ∧ Aside0 (Kept w2 w' (fun q => q = bo ∨ q = gd ∨ okp q)))
      case atStart => exact ⟨0, _, out, ds, (by first | rfl | (simp; done)), rfl, ⟨by omega⟩, ⟨by omega⟩, ⟨HDL.out⟩, ⟨HS.out⟩, ⟨STp.out⟩, ⟨Kept.refl _ _⟩⟩
      case round =>
        obtain ⟨x, wl, o1, d1, rfl, hwl, HM0, HI, LD, HG, SL, KP⟩ := hrel
        subst hwl
        have hcwl : wl.cell? ⟨bw, 0, none⟩ = some (.func (.func 121) #[] #[.pointer (some ⟨bn, 0, none⟩), .pointer (some ⟨be, 0, none⟩), .pointer (some ⟨bw, 0, none⟩), .pointer (some ⟨bo, 0, none⟩)]) := (blk_cell SL.out.2.2.2.1 0).trans rfl
        cases gk with
        | zero => exact absurd HM0.out (by have := HI.out; omega)
        | succ k1 =>
          by_cases c6 : x < (ps.length : Int)
          · have c6b0 : decide (x < (ps.length : Int)) = true := decide_eq_true c6
            have CX := Aside0.mk c6
            obtain ⟨z, hz, hg⟩ := go_drop HI.out.1 c6 HG.out
            have HZZ := Aside0.mk (show shr.f k e (rd ps x) o1 d1 = some (z.1, z.2) from hz)
            have HGG := Aside0.mk hg
            clear hz hg
            obtain ⟨ad1, e1, hxr⟩ := Kd.at_int (row_kept HO.out GBO.out GGD.out NOKp.out KP.out) x HI.out.1 c6
            have E1 := Aside0.mk e1
            subst e1
            have p18 : (0 ≤ x) = True := eq_true HI.out.1
            have q18 := eq_true c6
            clear c6
            go_wp2_with (first | (go_at_call 121; have HZ := HIH.out bn be bw bo gd (some ad0) c0 e (rd ps x) okp o1 d1 w0 wl z.1 z.2 SL.out FXp.out (fun q hq => HFRp.out q (Nat.le_trans KP.out.1 hq)) HR.out HC0.out LD.out HZZ.out; (with_reducible refine HZ.mono ?_); clear HZ; rintro e_ w4 ⟨rfl, hs, hk⟩; have SL4 := Aside0.mk hs; have KP4 := Aside0.mk hk; clear hs hk))
            go_roundg k1
            case measure => have := HM0.out; omega
            case rel =>
              have hw1 : wrap64 (x + 1) = x + 1 := by have := CX.out; have := HI.out; have := (Kd.R_reads' HO.out).2.2.2.1; unfold wrap64; omega
              exact ⟨wrap64 (x + 1), _, z.1, z.2, rfl, rfl, ⟨by have := HM0.out; rw [hw1]; omega⟩, ⟨by rw [hw1]; have := HI.out; have := CX.out; omega⟩, ⟨(shr.len _ _ _ _ _ _ _ HZZ.out).trans LD.out⟩, ⟨by rw [hw1]; exact HGG.out⟩, ⟨SL4.out⟩, ⟨Kept.trans' KP.out KP4.out⟩⟩
          · have c6b0 : decide (x < (ps.length : Int)) = false := decide_eq_false c6
            have hds : (o1, d1) = s := by
              have hg := HG.out
              rw [List.drop_of_length_le (by omega)] at hg
              exact Option.some.inj hg
            clear c6
            subst hds
            have HQd := Aside0.mk (show impl_Node_renamed.f k X.f0 X.f1 X.f2 X.f3 d1 = some (q.1, q.2.1, q.2.2.1, q.2.2.2) from HQ.out)
            have STl := Aside0.mk (shS_mono SL.out (fun q hq _ => HOKp.out q hq))
            have DNl := Aside0.mk SL.out.2.2.2.2.2
            have HQC := Aside0.mk (show ∀ w', Below wl.heap.size wl w' → Calls Try.prog 122 #[.agg #[.string X.f0, .int .i64 X.f1, .int .i64 X.f2, .int .i64 X.f3], .slice (some ⟨gd, 0, none⟩) e.length e.length] w' (fun e_ w'' => e_ = .returned (.agg #[.string q.1, .int .i64 q.2.1, .int .i64 q.2.2.1, .int .i64 q.2.2.2]) ∧ Below w'.heap.size w' w'') from fun w' hb => by
              have hd := (hb.block gd (blk_lt DNl.out)).trans DNl.out
              have hm : d1.length ≤ 9223372036854775807 := by rw [LD.out]; exact HR.out.2.1
              have hz := impl_Node_renamed.calls k X.f0 X.f1 X.f2 X.f3 (some ⟨gd, 0, none⟩) d1.length d1 q.1 q.2.1 q.2.2.1 q.2.2.2 w' (dn_C hd hm) (Nat.le_refl _) HQd.out
              rw [LD.out] at hz
              exact hz)
            have HS6 := Aside0.mk (show ∀ w', Below wl.heap.size wl w' → (Below wl.heap.size wl w' ∧ w'.cell? ⟨be, 0, none⟩ = some (.slice (some ad0) e.length c0) ∧ w'.cell? ⟨bn, 0, none⟩ = some (.slice (some ⟨gd, 0, none⟩) e.length e.length) ∧
                w'.cell? (ad0.add (i.toNat * 4)) = some (.string X.f0) ∧ w'.cell? ⟨(ad0.add (i.toNat * 4)).block, (ad0.add (i.toNat * 4)).off + 1, none⟩ = some (.int .i64 X.f1) ∧ w'.cell? ⟨(ad0.add (i.toNat * 4)).block, (ad0.add (i.toNat * 4)).off + 2, none⟩ = some (.int .i64 X.f2) ∧ w'.cell? ⟨(ad0.add (i.toNat * 4)).block, (ad0.add (i.toNat * 4)).off + 3, none⟩ = some (.int .i64 X.f3)) from fun w' hb => by
              have hB := below_step SL.out.1 hb
              exact ⟨hb, (blk_cell (blk_below SL.out.2.2.1 hb) 0).trans rfl, (blk_cell (blk_below SL.out.2.1 hb) 0).trans rfl, cell_old hB X0.out, cell_old hB X1.out, cell_old hB X2.out, cell_old hB X3.out⟩)
            have HB6 := Aside0.mk (Below.refl wl.heap.size wl)
            clear hcwl HM0 HG
            go_wp2
            go_region_held3 (fun w' => Below wl.heap.size wl w' ∧ w'.cell? ⟨be, 0, none⟩ = some (.slice (some ad0) e.length c0) ∧ w'.cell? ⟨bn, 0, none⟩ = some (.slice (some ⟨gd, 0, none⟩) e.length e.length) ∧
                w'.cell? (ad0.add (i.toNat * 4)) = some (.string X.f0) ∧ w'.cell? ⟨(ad0.add (i.toNat * 4)).block, (ad0.add (i.toNat * 4)).off + 1, none⟩ = some (.int .i64 X.f1) ∧ w'.cell? ⟨(ad0.add (i.toNat * 4)).block, (ad0.add (i.toNat * 4)).off + 2, none⟩ = some (.int .i64 X.f2) ∧ w'.cell? ⟨(ad0.add (i.toNat * 4)).block, (ad0.add (i.toNat * 4)).off + 3, none⟩ = some (.int .i64 X.f3)) (refine HS6.out _ (by repeat (first | (with_reducible first | exact HB6.out | apply below_alloc | apply pw_below_drewN | apply below_drew1) | exact HB6.out | refine below_set ?_ (by first | exact Nat.le_refl _ | exact HB6.out.size | (simp; exact HB6.out.size))))) (first | (go_at_call 122; refine (HQC.out _ (by repeat (first | (with_reducible first | exact HB6.out | apply below_alloc | apply pw_below_drewN | apply below_drew1) | exact HB6.out | refine below_set ?_ (by first | exact Nat.le_refl _ | exact HB6.out.size | (simp; exact HB6.out.size))))).mono ?_; rintro e_ w5 ⟨rfl, hb⟩; have n0_ := Aside0.mk (below_step (by repeat (first | (with_reducible first | exact HB6.out | apply below_alloc | apply pw_below_drewN | apply below_drew1) | exact HB6.out | refine below_set ?_ (by first | exact Nat.le_refl _ | exact HB6.out.size | (simp; exact HB6.out.size)))) hb); clear HB6; have HB6 := n0_; clear n0_; try (have hgn := fresh_blk hb; have HGN := Aside0.mk hgn; have hfn0 := blk_frozen hgn 0; have hfn1 := blk_frozen hgn 1; have hfn2 := blk_frozen hgn 2; have hfn3 := blk_frozen hgn 3; have hcn0 : w5.cell? ⟨wl.heap.size, 0, none⟩ = some (.string (⟨#[]⟩ : ByteArray)) := (blk_cell hgn 0).trans rfl; have hcn1 : w5.cell? ⟨wl.heap.size, 1, none⟩ = some (.int .i64 0) := (blk_cell hgn 1).trans rfl; have hcn2 : w5.cell? ⟨wl.heap.size, 2, none⟩ = some (.int .i64 0) := (blk_cell hgn 2).trans rfl; have hcn3 : w5.cell? ⟨wl.heap.size, 3, none⟩ = some (.int .i64 0) := (blk_cell hgn 3).trans rfl; clear hgn)))
            all_goals
              first
                | (have BX := Aside0.mk (heap_alloc_new w5 (.cells #[.string q.1, .int .i64 q.2.1, .int .i64 q.2.2.1, .int .i64 q.2.2.2] 79)); have HB8 := Aside0.mk (show Below wl.heap.size wl (w5.alloc (.cells #[.string q.1, .int .i64 q.2.1, .int .i64 q.2.2.1, .int .i64 q.2.2.2] 79)) from below_alloc HB6.out _); generalize (w5.alloc (.cells #[.string q.1, .int .i64 q.2.1, .int .i64 q.2.2.1, .int .i64 q.2.2.2] 79)) = W8 at BX HB8 ⊢; obtain ⟨gn, hgn⟩ : ∃ gn, gn = w5.heap.size := ⟨_, rfl⟩; have GN := Aside0.mk (show wl.heap.size ≤ gn from by rw [hgn]; exact HB6.out.size); rw [← hgn] at BX ⊢; clear hgn)
                | (have BX := Aside0.mk (blk_set4 HGN.out (.string q.1) (.int .i64 q.2.1) (.int .i64 q.2.2.1) (.int .i64 q.2.2.2)); have HB8 := Aside0.mk (show Below wl.heap.size wl ((((w5.setCell ⟨wl.heap.size, 0, none⟩ (.string q.1)).setCell ⟨wl.heap.size, 1, none⟩ (.int .i64 q.2.1)).setCell ⟨wl.heap.size, 2, none⟩ (.int .i64 q.2.2.1)).setCell ⟨wl.heap.size, 3, none⟩ (.int .i64 q.2.2.2)) from by repeat (first | (with_reducible first | exact HB6.out | apply below_alloc | apply pw_below_drewN | apply below_drew1) | exact HB6.out | refine below_set ?_ (by first | exact Nat.le_refl _ | exact HB6.out.size | (simp; exact HB6.out.size)))); generalize ((((w5.setCell ⟨wl.heap.size, 0, none⟩ (.string q.1)).setCell ⟨wl.heap.size, 1, none⟩ (.int .i64 q.2.1)).setCell ⟨wl.heap.size, 2, none⟩ (.int .i64 q.2.2.1)).setCell ⟨wl.heap.size, 3, none⟩ (.int .i64 q.2.2.2)) = W8 at BX HB8 ⊢; obtain ⟨gn, hgn⟩ : ∃ gn, gn = wl.heap.size := ⟨_, rfl⟩; have GN := Aside0.mk (show wl.heap.size ≤ gn from by rw [hgn]; exact Nat.le_refl _); rw [← hgn] at BX ⊢; clear hgn hfn0 hfn1 hfn2 hfn3 hcn0 hcn1 hcn2 hcn3)
            all_goals
              have ST8 := Aside0.mk (shS_below STl.out HB8.out)
              have KP8 := Aside0.mk (Kept.trans' (Kept.imp' (Kept.of_below HB2.out (fun q => q = bo ∨ q = gd ∨ ok q)) (fun q hq => hq)) (Kept.trans' (Kept.imp' KP.out (fun q hq => hq.imp id (fun h => h.imp id (HOKp.out q)))) (Kept.of_below HB8.out (fun q => q = bo ∨ q = gd ∨ ok q))))
              generalize hY : (⟨q.1, q.2.1, q.2.2.1, q.2.2.2⟩ : S79) = Y at HH
              rw [show q.1 = Y.f0 from by rw [← hY], show q.2.1 = Y.f1 from by rw [← hY], show q.2.2.1 = Y.f2 from by rw [← hY], show q.2.2.2 = Y.f3 from by rw [← hY]] at BX ⊢
              clear hY
              have H := HH.out
              unfold shr.put at H
              by_cases hn3 : (o1.length) < 1000
              · rw [if_pos (show (o1, d1).1.length < 1000 from hn3)] at H
                have HN3 := Aside0.mk hn3
                clear hn3
                obtain ⟨Ao, co, hbo, hvo⟩ := ST8.out.2.2.2.2.1
                have HBO := Aside0.mk hbo
                have HVO := Aside0.mk hvo
                have WLW := Aside0.mk (show W.heap.size ≤ wl.heap.size from Nat.le_trans HB2.out.size KP.out.1)
                have NGD := Aside0.mk (show gn ≠ gd from by have := GN.out; have := GGD.out; have := WLW.out; omega)
                have NGO := Aside0.mk (show gn ≠ bo from by have := GN.out; have := GBO.out; have := WLW.out; omega)
                clear hbo hvo
                have HIC := Aside0.mk (show ∀ w', Below W8.heap.size W8 w' → Calls Try.prog 123 #[.slice Ao o1.length co, .agg #[.string Y.f0, .int .i64 Y.f1, .int .i64 Y.f2, .int .i64 Y.f3]] w' (fun e_ w'' => e_ = .returned (.int .i64 (idxN Y o1)) ∧ Below w'.heap.size w' w'') from fun w' hb => index_calls Y Ao co o1 w' (Kd.C_below (Kd.R_reads' HVO.out).2.2 hb) HN3.out)
                have HS7 := Aside0.mk (show ∀ w', Below W8.heap.size W8 w' → (w'.cell? ⟨bn, 0, none⟩ = some (.slice (some ⟨gd, 0, none⟩) e.length e.length) ∧ w'.cell? ⟨bo, 0, none⟩ = some (.slice Ao o1.length co) ∧ w'.cell? ⟨gn, 0, none⟩ = some (.string Y.f0) ∧ w'.cell? ⟨gn, 1, none⟩ = some (.int .i64 Y.f1) ∧ w'.cell? ⟨gn, 2, none⟩ = some (.int .i64 Y.f2) ∧ w'.cell? ⟨gn, 3, none⟩ = some (.int .i64 Y.f3)) from fun w' hb => ⟨(blk_cell (blk_below ST8.out.2.1 hb) 0).trans rfl, (blk_cell (blk_below HBO.out hb) 0).trans rfl, (blk_cell (blk_below BX.out hb) 0).trans rfl, (blk_cell (blk_below BX.out hb) 1).trans rfl, (blk_cell (blk_below BX.out hb) 2).trans rfl, (blk_cell (blk_below BX.out hb) 3).trans rfl⟩)
                have HT7 := Aside0.mk (show ∀ (v : Value) (w7 w' : World), Below W8.heap.size W8 w7 → w' = w7.setCell ⟨gd, i.toNat, none⟩ v → (w'.cell? ⟨bn, 0, none⟩ = some (.slice (some ⟨gd, 0, none⟩) e.length e.length) ∧ w'.cell? ⟨bo, 0, none⟩ = some (.slice Ao o1.length co) ∧ w'.cell? ⟨gn, 0, none⟩ = some (.string Y.f0) ∧ w'.cell? ⟨gn, 1, none⟩ = some (.int .i64 Y.f1) ∧ w'.cell? ⟨gn, 2, none⟩ = some (.int .i64 Y.f2) ∧ w'.cell? ⟨gn, 3, none⟩ = some (.int .i64 Y.f3)) from fun v w7 w' hb hw => by
                  have f := FX.out
                  unfold shF at f
                  obtain ⟨_, _, _, _, _, f6, f7, _⟩ := f
                  subst hw
                  have b1 := blk_far (blk_below ST8.out.2.1 hb) (p := ⟨gd, i.toNat, none⟩) (fun e => f7 e.symm) v
                  have b2 := blk_far (blk_below HBO.out hb) (p := ⟨gd, i.toNat, none⟩) f6 v
                  have b3 := blk_far (blk_below BX.out hb) (p := ⟨gd, i.toNat, none⟩) NGD.out v
                  exact ⟨(blk_cell b1 0).trans rfl, (blk_cell b2 0).trans rfl, (blk_cell b3 0).trans rfl, (blk_cell b3 1).trans rfl, (blk_cell b3 2).trans rfl, (blk_cell b3 3).trans rfl⟩)
                have HB7 := Aside0.mk (Below.refl W8.heap.size W8)
                have QL := Aside0.mk (show i < (d1.length : Int) by rw [LD.out]; have := QI.out; rw [HDL.out] at this; exact this)
                have DN8 := Aside0.mk ST8.out.2.2.2.2.2
                go_wp2
                go_region_held3 (fun w' => w'.cell? ⟨bn, 0, none⟩ = some (.slice (some ⟨gd, 0, none⟩) e.length e.length) ∧ w'.cell? ⟨bo, 0, none⟩ = some (.slice Ao o1.length co) ∧ w'.cell? ⟨gn, 0, none⟩ = some (.string Y.f0) ∧ w'.cell? ⟨gn, 1, none⟩ = some (.int .i64 Y.f1) ∧ w'.cell? ⟨gn, 2, none⟩ = some (.int .i64 Y.f2) ∧ w'.cell? ⟨gn, 3, none⟩ = some (.int .i64 Y.f3)) (first | (refine HS7.out _ ?_; (repeat (first | (with_reducible first | exact HB7.out | apply below_alloc | apply pw_below_drewN | apply below_drew1) | exact HB7.out | refine below_set ?_ (by first | exact Nat.le_refl _ | exact HB7.out.size | (simp; exact HB7.out.size)))); done) | exact HT7.out _ _ _ HB7.out rfl) (first | (go_at_call 123; refine (HIC.out _ (by repeat (first | (with_reducible first | exact HB7.out | apply below_alloc | apply pw_below_drewN | apply below_drew1) | exact HB7.out | refine below_set ?_ (by first | exact Nat.le_refl _ | exact HB7.out.size | (simp; exact HB7.out.size))))).mono ?_; rintro e_ w9 ⟨rfl, hb⟩; have n0_ := Aside0.mk (below_step (by repeat (first | (with_reducible first | exact HB7.out | apply below_alloc | apply pw_below_drewN | apply below_drew1) | exact HB7.out | refine below_set ?_ (by first | exact Nat.le_refl _ | exact HB7.out.size | (simp; exact HB7.out.size)))) hb); clear HB7; have HB7 := n0_; clear n0_; have hd9 : dn gd d1 w9 := (HB7.out.block gd (blk_lt DN8.out)).trans DN8.out; have hdw := dn_at hd9 i PI.out QL.out; have hdf := dn_fr hd9 i; clear hd9 hb))
                have ST9 := Aside0.mk (shS_set (shS_below ST8.out HB7.out) FX.out i.toNat (idxN Y o1))
                have KP9 := Aside0.mk (Kept.set' (Kept.trans' KP8.out (Kept.of_below HB7.out _)) (p := ⟨gd, i.toNat, none⟩) (.inr (.inl rfl)) (.int .i64 (idxN Y o1)))
                have BX9 := Aside0.mk (blk_far (blk_below BX.out HB7.out) (p := ⟨gd, i.toNat, none⟩) NGD.out (.int .i64 (idxN Y o1)))
                clear hdw hdf
                generalize w9.setCell ⟨gd, i.toNat, none⟩ (.int .i64 (idxN Y o1)) = W9 at ST9 KP9 BX9 ⊢
                generalize idxN Y o1 = j at H ST9 ⊢
                have hcn9 : W9.cell? ⟨bn, 0, none⟩ = some (.slice (some ⟨gd, 0, none⟩) e.length e.length) := (blk_cell ST9.out.2.1 0).trans rfl
                have QL9 := Aside0.mk (show i < ((d1.set i.toNat j).length : Int) by rw [List.length_set]; exact QL.out)
                have hdw9 : W9.cell? ⟨gd, i.toNat, none⟩ = some (.int .i64 j) := (dn_at ST9.out.2.2.2.2.2 i PI.out QL9.out).trans (by rw [rd_set i PI.out QL.out])
                have hdf9 := dn_fr ST9.out.2.2.2.2.2 i
                by_cases cj : j < 0
                · have cjb : decide (j < 0) = true := decide_eq_true cj
                  rw [if_pos cj] at H
                  replace H := Option.some.inj H
                  injection H with z2 z3
                  subst z2
                  subst z3
                  clear cj
                  obtain ⟨Ap9, cp9, hbo9, hvo9⟩ := ST9.out.2.2.2.2.1
                  have hco9 : W9.cell? ⟨bo, 0, none⟩ = some (.slice Ap9 o1.length cp9) := (blk_cell hbo9 0).trans rfl
                  clear hbo9 hvo9
                  go_wp2_with (first | ((with_reducible refine gate_store (t := 3) (p := 49) rfl ?_); refine store_event (t := 3) (p := 49) (v := ?vo_w10) (w1 := W9.setCell ⟨gd, i.toNat, none⟩ (.int .i64 (o1.length : Int))) ?hg ?ho ?hn ?hr ?_; (case ho => rfl); (case hg => rfl); (case hn => rfl); (case hr => first | (go_simp; done) | (go_simp; rfl)); intro w10 hw; have ST10 := Aside0.mk (show shS bn be bw bo gd (some ad0) c0 e.length ok w0 o1 ((d1.set i.toNat j).set i.toNat (o1.length : Int)) w10 from by rw [hw]; exact shS_set ST9.out FX.out i.toNat _); have KP10 := Aside0.mk (show Kept W w10 (fun q => q = bo ∨ q = gd ∨ ok q) from by rw [hw]; exact Kept.set' KP9.out (p := ⟨gd, i.toNat, none⟩) (.inr (.inl rfl)) _); have BX10 := Aside0.mk (show w10.heap[gn]? = some (.cells #[.string Y.f0, .int .i64 Y.f1, .int .i64 Y.f2, .int .i64 Y.f3] 79 (0, 0)) from by rw [hw]; exact blk_far BX9.out (p := ⟨gd, i.toNat, none⟩) NGD.out _); clear hw hdw9 hdf9 hcn9 hco9; obtain ⟨Aq, cq, hbo10, hvo10⟩ := ST10.out.2.2.2.2.1; have HBO10 := Aside0.mk hbo10; have HVO10 := Aside0.mk hvo10; have hco10 : w10.cell? ⟨bo, 0, none⟩ = some (.slice Aq o1.length cq) := (blk_cell hbo10 0).trans rfl; have hg0 : w10.cell? ⟨gn, 0, none⟩ = some (.string Y.f0) := (blk_cell BX10.out 0).trans rfl; have hg1 : w10.cell? ⟨gn, 1, none⟩ = some (.int .i64 Y.f1) := (blk_cell BX10.out 1).trans rfl; have hg2 : w10.cell? ⟨gn, 2, none⟩ = some (.int .i64 Y.f2) := (blk_cell BX10.out 2).trans rfl; have hg3 : w10.cell? ⟨gn, 3, none⟩ = some (.int .i64 Y.f3) := (blk_cell BX10.out 3).trans rfl; clear hbo10 hvo10; skip) | ((with_reducible refine gate_builtin (b := .append) (xs := #[.tmp 50, .tmp 52]) rfl ?_); at_builtin; refine Kd.R_append k79 (w0 := w0) (W := w10) w0.heap.size rfl (.tmp 50) (.tmp 52) 33 79 (.agg #[(.string ⟨#[]⟩), (.int .i64 0), (.int .i64 0), (.int .i64 0)]) 40 rfl Try.underlying33 info79 rfl (by decide) (by omega) (.slice Aq o1.length cq) o1 Y [.string Y.f0, .int .i64 Y.f1, .int .i64 Y.f2, .int .i64 Y.f3] ok (fun _ => False) rfl (by first | (go_simp; done) | (go_simp; rfl)) ?aP (fun _ hk => hk.elim) ?aF ?aO ?aB ?aS ?aL ?_; (case aP => exact k79_mkM _ _ _ Y); (case aB => exact ST10.out.1); (case aF => exact (fun q hq => HFR.out q (Nat.le_trans KP10.out.1 hq))); (case aO => exact HVO10.out); (case aS => exact ST10.out.1.size); (case aL => have := HN3.out; omega); intro v1 w11 hr hb hg hat; obtain ⟨A2, c2, rfl⟩ := Kd.R_slice hr; have HR11 := Aside0.mk hr; have HB11 := Aside0.mk hb; have HG11 := Aside0.mk hg; have hbo11 := (hg.block bo (blk_lt HBO10.out) (fun e_ => FX.out.2.2.2.2.2.2.2.2.2.2.2.2.1 (HVO10.out.1 _ e_.symm))).trans HBO10.out; have hco11 : w11.cell? ⟨bo, 0, none⟩ = some (.slice Aq o1.length cq) := (blk_cell hbo11 0).trans rfl; have hfo11 := blk_frozen hbo11 0; clear hr hb hg hat hbo11 hco10 hg0 hg1 hg2 hg3))
                  go_end0
                  refine ⟨rfl, ?_, ?_⟩
                  · have h := shS_out ST10.out FX.out (fun q hq => HVO10.out.1 q hq) HB11.out HG11.out HR11.out
                    rw [List.set_set, show (o1 ++ [Y]).length = o1.length + 1 from by simp] at h
                    exact h
                  · exact Kept.set' (Kept.trans' KP10.out ⟨HG11.out.size, fun q hq hs => HG11.out.block q hq (fun e_ => hs (.inr (.inr (HVO10.out.1 q e_.symm))))⟩) (p := ⟨bo, 0, none⟩) (.inl rfl) _
                · have cjb : decide (j < 0) = false := decide_eq_false cj
                  rw [if_neg cj] at H
                  replace H := Option.some.inj H
                  injection H with z2 z3
                  subst z2
                  subst z3
                  clear cj
                  go_wp2
                  go_end0
                  exact ⟨rfl, ST9.out, KP9.out⟩
              · rw [if_neg (show ¬ (o1, d1).1.length < 1000 from hn3)] at H
                cases H
    · rw [if_neg q1] at H
      cases H
  · rw [if_neg p1] at H
    cases H
theorem shr_calls (k : Nat) : ∀ (bn be bw bo gd : Nat) (A0 : Option Addr) (c0 : Nat) (e : List S79) (i : Int) (ok : Nat → Prop) (out : List S79) (ds : List Int) (w0 W : World) (r2 : List S79) (r3 : List Int) (hst : shS bn be bw bo gd A0 c0 e.length ok w0 out ds W) (hfx : shF bn be bw bo gd ok w0.heap.size) (hfr : ∀ q, W.heap.size ≤ q → ok q) (hr : Kd.C k79 w0 A0 e.length e) (hc0 : e.length ≤ c0) (hdl : ds.length = e.length) (h : shr.f k e i out ds = some (r2, r3)),
      Calls Try.prog 121 #[.int .i64 i, .pointer (some ⟨bn, 0, none⟩), .pointer (some ⟨be, 0, none⟩), .pointer (some ⟨bw, 0, none⟩), .pointer (some ⟨bo, 0, none⟩)] W fun e_ w' => e_ = .returned (.tuple #[]) ∧ shS bn be bw bo gd A0 c0 e.length ok w0 r2 r3 w' ∧ Kept W w' (fun q => q = bo ∨ q = gd ∨ ok q) := by
  induction k with
  | zero =>
    intro bn be bw bo gd A0 c0 e i ok out ds w0 W r2 r3 hst hfx hfr hr hc0 hdl h
    cases h
  | succ k ih => exact shr_step k ih
section
variable {ops : Array Oper} {rest : List Oper} {o : Oper} {a : Act} {Q : Exit → Act → World → Prop} {W : World}
theorem lit_event (hgd : o.guard = none) {N : Tmp} (_hd : o.dst = some N) {cs : Array Value} {t : TypeId} {n : Nat}
    (hrun : (execOp a.eval o).run Try.prog W = .ok (.value (.slice (some ⟨W.heap.size, 0, none⟩) n n)) (W.alloc (.cells cs t (0, 0))))
    (h : ∀ g, g = W.heap.size → ∀ w1, w1.heap[g]? = some (.cells cs t (0, 0)) → Below W.heap.size W w1 → wpList Try.prog ops Q rest (a.put o.dst (.slice (some ⟨g, 0, none⟩) n n)) w1) : wpList Try.prog ops Q (o :: rest) a W :=
  Kd.event_run hgd hrun (h _ rfl _ (blk_new W _) (below_alloc (Below.refl _ _) _))
end
def impl_share.f (k : Nat) (l0 : List S79) : Option (List S79) := if 1 ≤ l0.length then (if l0.length ≤ 24 then (shr.f k l0 (wrap64 ((l0.length : Int) - 1)) [] (List.replicate l0.length (-1))).bind fun r => some r.1 else none) else none
theorem impl_share.mono : ∀ a0 k, LeO (impl_share.f k a0) (impl_share.f (k + 1) a0) := by
  intro a0 k
  unfold impl_share.f
  repeat' first
    | (with_reducible exact shr.mono _ _ _ _ _)
    | (with_reducible exact LeO.refl _)
    | (with_reducible exact LeO.none _)
    | (with_reducible refine LeO.ite ?_ ?_)
    | (with_reducible refine LeO.bind ?_ (fun _ => ?_))
set_option maxHeartbeats 16000000 in
set_option maxRecDepth 100000 in
theorem impl_share.calls (k : Nat) (A0 : Option Addr) (c0 : Nat) (l0 : List S79) (r0 : List S79) (w : World) (hr0 : Kd.C k79 w A0 l0.length l0) (hc0 : l0.length ≤ c0) (h : impl_share.f k l0 = some r0) :
    Calls Try.prog 72 #[.slice A0 l0.length c0] w fun e w' => ∃ v0_ : Value, e = .returned v0_ ∧ Kd.R k79 79 w' w.heap.size (fun _ => True) v0_ r0 ∧ Below w.heap.size w w' := by
  have HR0 := Aside0.mk hr0
  have HC0 := Aside0.mk hc0
  clear hr0 hc0
  have HB := Aside0.mk (Below.refl w.heap.size w)
  have H := h
  clear h
  unfold impl_share.f at H
  have hmf : ∀ (fn : Fn) (first cap : Array Value) (w : World), (Instr.makeFunc fn first cap).run Try.prog w = .ok (.func fn first cap) w := fun _ _ _ _ => rfl
  have hsf : ∀ (W : World) (a : Addr) (fn : Fn) (x y : Array Value), (store a (.func fn x y)).run Try.prog W = stored Try.prog W a (.func fn x y) .plain := fun W a fn x y => run_store Try.prog W a _ .plain rfl
  by_cases hl1 : 1 ≤ l0.length
  · rw [if_pos hl1] at H
    by_cases hl2 : l0.length ≤ 24
    · rw [if_pos hl2] at H
      have HL1 := Aside0.mk hl1
      have HL2 := Aside0.mk hl2
      clear hl1 hl2
      obtain ⟨j, hj⟩ : ∃ j : Int, wrap64 ((l0.length : Int) - 1) = j := ⟨_, rfl⟩
      rw [hj] at H
      have hjw : (IntKind.i64.wrap ((l0.length : Int) - 1)) = j := (i64_w _).trans hj
      replace H := Option.bind_eq_some_iff.mp H
      obtain ⟨r, HW, H⟩ := H
      have HW := Aside0.mk (show shr.f k l0 j [] (List.replicate l0.length (-1)) = some (r.1, r.2) from HW)
      obtain rfl := Option.some.inj H
      clear H
      go_enter Try.func72, Try.ntmps72
      go_wp2_with (first | ((with_reducible refine gate_dst (N := 1) rfl ?_); refine box_event ?hg (N := 1) ?hd (cs := #[.slice A0 l0.length c0]) (t := 33) ?hr ?_; (case hd => rfl); (case hg => rfl); (case hr => first | (go_simp; done) | (go_simp; rfl)); intro be hg w1 hbox hb; have GBE := Aside0.mk (show w.heap.size ≤ be from by rw [hg]; exact Nat.le_refl _); have BE1 := Aside0.mk hbox; have HB1 := Aside0.mk (below_step HB.out hb); have LBE := Aside0.mk (blk_lt hbox); clear hg hbox hb; skip) | ((with_reducible refine gate_dst (N := 6) rfl ?_); refine Kd.R_lit k79 _ 79 ?hg (N := 6) ?hd (xs := ([] : List (S79))) (inner := []) (ok := fun q => q ≠ be) (okp := fun q => q ≠ be) ?hr ?hp (fun _ hk => hk) (Nat.ne_of_gt LBE.out) (Below.refl _ _) (Nat.le_refl _) (by simp) ?_; (case hd => rfl); (case hg => rfl); (case hr => first | (go_simp; done) | (go_simp; rfl)); (case hp => exact (Reps.none _ _)); intro v6 w2 ho hb hg_ hnew_; clear hg_ hnew_; obtain ⟨A6, c6, rfl⟩ := Kd.R_slice ho; have HO6 := Aside0.mk (Kd.R_lower ho HB1.out.size); have HB2 := Aside0.mk (below_step HB1.out hb); have BE2 := Aside0.mk (blk_below BE1.out hb); clear ho hb) | ((with_reducible refine gate_dst (N := 7) rfl ?_); refine lit_event ?hg (N := 7) ?hd (cs := #[.int .i64 (-1)]) (t := 3) (n := 1) ?hr ?_; (case hd => rfl); (case hg => rfl); (case hr => first | (go_simp; done) | (go_simp; rfl)); intro g7 hg w3 hbox hb; have BX7 := Aside0.mk hbox; have HB3 := Aside0.mk (below_step HB2.out hb); have BE3 := Aside0.mk (blk_below BE2.out hb); have HO7 := Aside0.mk (Kd.R_below (Kd.R_mono (Kd.R_bound HO6.out) (fun q hq => (⟨hq.1, hq.2.2.1⟩ : q ≠ be ∧ q < w2.heap.size))) hb); have SZ3 := Aside0.mk hb.size; have hce3 : w3.cell? ⟨be, 0, none⟩ = some (.slice A0 l0.length c0) := (blk_cell BE3.out 0).trans rfl; clear hg hbox hb) | ((with_reducible refine gate_callee (f := 120) rfl ?_); refine goesL_ (some 10) rfl rfl Try.func120 (by kernel_rfl) rfl #[.slice (some ⟨g7, 0, none⟩) 1 1, .int .i64 (l0.length : Int)] rfl (by (try simp only [List.map_toArray, List.map_cons, List.map_nil]); first | done | rfl) ?_; have HZ := repeat_calls g7 l0.length HL1.out HL2.out w3 BX7.out; change Calls Try.prog 120 #[.slice (some ⟨g7, 0, none⟩) 1 1, .int .i64 (l0.length : Int)] _ _ at HZ; (with_reducible refine HZ.mono ?_); clear HZ; rintro e_ w4 ⟨gd, rfl, hg, hdn, hb⟩; refine ⟨_, rfl, ?_⟩; have HB4 := Aside0.mk (below_step HB3.out hb); have BE4 := Aside0.mk (blk_below BE3.out hb); have HO8 := Aside0.mk (Kd.R_below HO7.out hb); have GD4 := Aside0.mk hg; have DN4 := Aside0.mk hdn; have SZ4 := Aside0.mk hb.size; clear hg hdn hb hce3; skip) | ((with_reducible refine gate_dst (N := 3) rfl ?_); refine box_event ?hg (N := 3) ?hd (cs := #[.slice none 0 0]) (t := 33) ?hr ?_; (case hd => rfl); (case hg => rfl); (case hr => first | (go_simp; done) | (go_simp; rfl)); intro bo hg w5 hbox hb; have GBO := Aside0.mk (show w4.heap.size ≤ bo from by rw [hg]; exact Nat.le_refl _); have BO5 := Aside0.mk hbox; have HB5 := Aside0.mk (below_step HB4.out hb); have BE5 := Aside0.mk (blk_below BE4.out hb); have HO9 := Aside0.mk (Kd.R_below HO8.out hb); have DN5 := Aside0.mk (show dn gd _ w5 from (hb.block gd (blk_lt DN4.out)).trans DN4.out); have LBO := Aside0.mk (blk_lt hbox); clear hg hbox hb; skip) | ((with_reducible refine gate_dst (N := 4) rfl ?_); refine box_event ?hg (N := 4) ?hd (cs := #[.slice none 0 0]) (t := 40) ?hr ?_; (case hd => rfl); (case hg => rfl); (case hr => first | (go_simp; done) | (go_simp; rfl)); intro bn hg w6 hbox hb; have GBN := Aside0.mk (show w5.heap.size ≤ bn from by rw [hg]; exact Nat.le_refl _); have BN6 := Aside0.mk hbox; have HB6 := Aside0.mk (below_step HB5.out hb); have BE6 := Aside0.mk (blk_below BE5.out hb); have BO6 := Aside0.mk (blk_below BO5.out hb); have HOA := Aside0.mk (Kd.R_below HO9.out hb); have DN6 := Aside0.mk (show dn gd _ w6 from (hb.block gd (blk_lt DN5.out)).trans DN5.out); have hfo6 := blk_frozen BO6.out 0; have hco6 : w6.cell? ⟨bo, 0, none⟩ = some (.slice none 0 0) := (blk_cell BO6.out 0).trans rfl; have LBN := Aside0.mk (blk_lt hbox); clear hg hbox hb; skip) | ((with_reducible refine gate_store (t := 33) (p := 3) rfl ?_); refine store_event (t := 33) (p := 3) (v := ?vo_w7) (w1 := w6.setCell ⟨bo, 0, none⟩ (.slice A6 0 c6)) ?hg ?ho ?hn ?hr ?_; (case ho => rfl); (case hg => rfl); (case hn => rfl); (case hr => first | (go_simp; done) | (go_simp; rfl)); intro w7 hw; have HW7 := Aside0.mk hw; have hfn7 : w7.frozen? ⟨bn, 0, none⟩ = false := blk_frozen (by rw [hw]; exact blk_far BN6.out (p := ⟨bo, 0, none⟩) (by have := GBN.out; have := LBO.out; show bn ≠ bo; omega) _) 0; have hcn7 : w7.cell? ⟨bn, 0, none⟩ = some (.slice none 0 0) := (blk_cell (by rw [hw]; exact blk_far BN6.out (p := ⟨bo, 0, none⟩) (by have := GBN.out; have := LBO.out; show bn ≠ bo; omega) _) 0).trans rfl; clear hw hfo6 hco6; skip) | ((with_reducible refine gate_store (t := 40) (p := 4) rfl ?_); refine store_event (t := 40) (p := 4) (v := ?vo_w8) (w1 := w7.setCell ⟨bn, 0, none⟩ (.slice (some ⟨gd, 0, none⟩) l0.length l0.length)) ?hg ?ho ?hn ?hr ?_; (case ho => rfl); (case hg => rfl); (case hn => rfl); (case hr => first | (go_simp; done) | (go_simp; rfl)); intro w8 hw; have HW8 := Aside0.mk hw; clear hw hfn7 hcn7; skip) | ((with_reducible refine gate_dst (N := 5) rfl ?_); refine box_event ?hg (N := 5) ?hd (cs := #[.nilFunc]) (t := 118) ?hr ?_; (case hd => rfl); (case hg => rfl); (case hr => first | (go_simp; done) | (go_simp; rfl)); intro bw hg w9 hbox hb; have GBW := Aside0.mk (show w8.heap.size ≤ bw from by rw [hg]; exact Nat.le_refl _); have BW9 := Aside0.mk hbox; have HB9 := Aside0.mk hb; have hfw9 := blk_frozen hbox 0; have hcw9 : w9.cell? ⟨bw, 0, none⟩ = some .nilFunc := (blk_cell hbox 0).trans rfl; clear hg hbox hb; skip) | ((with_reducible refine gate_store (t := 118) (p := 5) rfl ?_); refine store_event (t := 118) (p := 5) (v := ?vo_w10) (w1 := w9.setCell ⟨bw, 0, none⟩ (.func (.func 121) #[] #[.pointer (some ⟨bn, 0, none⟩), .pointer (some ⟨be, 0, none⟩), .pointer (some ⟨bw, 0, none⟩), .pointer (some ⟨bo, 0, none⟩)])) ?hg ?ho ?hn ?hr ?_; (case ho => rfl); (case hg => rfl); (case hn => rfl); (case hr => first | (go_simp; done) | (go_simp; rfl)); intro w10 hw; obtain ⟨ok, STS, FXS, FRS⟩ := share_start w l0.length (bn := bn) (be := be) (bw := bw) (bo := bo) (gd := gd) (w2s := w2.heap.size) HB6.out BE6.out BO6.out BN6.out DN6.out HOA.out GBE.out (by have := BE2.out; have := blk_lt this; omega) (by have := GD4.out; have := SZ3.out; omega) (blk_lt DN4.out) GBO.out LBO.out (by have := HB4.out.size; omega) GBN.out HW7.out HW8.out HB9.out GBW.out BW9.out hw; have ST10 := Aside0.mk STS; have FX10 := Aside0.mk FXS; have FR10 := Aside0.mk FRS; clear STS FXS FRS hw hfw9 hcw9; have hcw10 : w10.cell? ⟨bw, 0, none⟩ = some (.func (.func 121) #[] #[.pointer (some ⟨bn, 0, none⟩), .pointer (some ⟨be, 0, none⟩), .pointer (some ⟨bw, 0, none⟩), .pointer (some ⟨bo, 0, none⟩)]) := (blk_cell ST10.out.2.2.2.1 0).trans rfl; have hce10 : w10.cell? ⟨be, 0, none⟩ = some (.slice A0 l0.length c0) := (blk_cell ST10.out.2.2.1 0).trans rfl; skip) | (go_at_call 121; have HZ := shr_calls k bn be bw bo gd A0 c0 l0 j ok [] (List.replicate l0.length (-1)) w w10 r.1 r.2 ST10.out FX10.out FR10.out HR0.out HC0.out (by simp) HW.out; (with_reducible refine HZ.mono ?_); clear HZ; rintro e_ w11 ⟨rfl, hs, hk⟩; have STE := Aside0.mk hs; clear hs hk; obtain ⟨A2, c2, hbx, hrr⟩ := STE.out.2.2.2.2.1; have hco11 : w11.cell? ⟨bo, 0, none⟩ = some (.slice A2 r.1.length c2) := (blk_cell hbx 0).trans rfl; have HRR := Aside0.mk hrr; clear hbx hrr))
      go_ret
      exact ⟨_, rfl, Kd.R_mono HRR.out (fun _ _ => trivial), STE.out.1⟩
    · rw [if_neg hl2] at H
      cases H
  · rw [if_neg hl1] at H
    cases H
end Go.Proofs.Ytecmlikhmkcdpaa.E
