/- The head of the translation, read: how this program was made. -/
import Derived.Test.YthnckplfnmkmpaaRows
import Derived.JoinedOf
import Derived.KernelRfl
namespace Go.Proofs.Ythnckplfnmkmpaa
open Go
set_option maxRecDepth 100000
def headSigns : List Char := [Char.ofNat 104, Char.ofNat 97, Char.ofNat 114, Char.ofNat 110, Char.ofNat 101, Char.ofNat 115, Char.ofNat 115, Char.ofNat 32, Char.ofNat 101, Char.ofNat 99, Char.ofNat 98, Char.ofNat 50, Char.ofNat 53, Char.ofNat 101, Char.ofNat 50, Char.ofNat 49, Char.ofNat 97, Char.ofNat 100, Char.ofNat 51, Char.ofNat 57, Char.ofNat 102, Char.ofNat 48, Char.ofNat 98, Char.ofNat 100, Char.ofNat 98, Char.ofNat 101, Char.ofNat 50, Char.ofNat 49, Char.ofNat 53, Char.ofNat 48, Char.ofNat 52, Char.ofNat 55, Char.ofNat 101, Char.ofNat 57, Char.ofNat 56, Char.ofNat 101, Char.ofNat 50, Char.ofNat 99, Char.ofNat 57, Char.ofNat 53, Char.ofNat 54, Char.ofNat 101, Char.ofNat 55, Char.ofNat 56, Char.ofNat 57, Char.ofNat 101, Char.ofNat 54, Char.ofNat 102, Char.ofNat 54, Char.ofNat 53, Char.ofNat 101, Char.ofNat 101, Char.ofNat 48, Char.ofNat 51, Char.ofNat 57, Char.ofNat 48, Char.ofNat 52, Char.ofNat 54, Char.ofNat 100, Char.ofNat 97, Char.ofNat 57, Char.ofNat 102, Char.ofNat 49, Char.ofNat 102, Char.ofNat 54, Char.ofNat 97, Char.ofNat 57, Char.ofNat 54, Char.ofNat 99, Char.ofNat 56, Char.ofNat 57, Char.ofNat 53, Char.ofNat 32, Char.ofNat 99, Char.ofNat 117, Char.ofNat 116, Char.ofNat 32, Char.ofNat 97, Char.ofNat 116, Char.ofNat 32, Char.ofNat 108, Char.ofNat 111, Char.ofNat 111, Char.ofNat 112, Char.ofNat 46, Char.ofNat 101, Char.ofNat 120, Char.ofNat 97, Char.ofNat 109, Char.ofNat 112, Char.ofNat 108, Char.ofNat 101, Char.ofNat 47, Char.ofNat 103, Char.ofNat 48, Char.ofNat 49, Char.ofNat 49, Char.ofNat 50, Char.ofNat 55, Char.ofNat 47, Char.ofNat 108, Char.ofNat 97, Char.ofNat 119, Char.ofNat 115, Char.ofNat 46, Char.ofNat 70, Char.ofNat 110, Char.ofNat 69, Char.ofNat 120, Char.ofNat 97, Char.ofNat 99, Char.ofNat 116, Char.ofNat 70, Char.ofNat 111, Char.ofNat 108, Char.ofNat 100, Char.ofNat 69, Char.ofNat 120, Char.ofNat 112, Char.ofNat 114, Char.ofNat 32, Char.ofNat 108, Char.ofNat 111, Char.ofNat 111, Char.ofNat 112, Char.ofNat 46, Char.ofNat 101, Char.ofNat 120, Char.ofNat 97, Char.ofNat 109, Char.ofNat 112, Char.ofNat 108, Char.ofNat 101, Char.ofNat 47, Char.ofNat 103, Char.ofNat 48, Char.ofNat 49, Char.ofNat 49, Char.ofNat 50, Char.ofNat 55, Char.ofNat 47, Char.ofNat 108, Char.ofNat 97, Char.ofNat 119, Char.ofNat 115, Char.ofNat 46, Char.ofNat 70, Char.ofNat 110, Char.ofNat 69, Char.ofNat 120, Char.ofNat 97, Char.ofNat 99, Char.ofNat 116, Char.ofNat 82, Char.ofNat 101, Char.ofNat 97, Char.ofNat 100, Char.ofNat 115, Char.ofNat 79, Char.ofNat 102, Char.ofNat 32, Char.ofNat 108, Char.ofNat 111, Char.ofNat 111, Char.ofNat 112, Char.ofNat 46, Char.ofNat 101, Char.ofNat 120, Char.ofNat 97, Char.ofNat 109, Char.ofNat 112, Char.ofNat 108, Char.ofNat 101, Char.ofNat 47, Char.ofNat 103, Char.ofNat 48, Char.ofNat 49, Char.ofNat 49, Char.ofNat 50, Char.ofNat 55, Char.ofNat 47, Char.ofNat 108, Char.ofNat 97, Char.ofNat 119, Char.ofNat 115, Char.ofNat 46, Char.ofNat 70, Char.ofNat 110, Char.ofNat 69, Char.ofNat 120, Char.ofNat 97, Char.ofNat 99, Char.ofNat 116, Char.ofNat 65, Char.ofNat 114, Char.ofNat 101, Char.ofNat 73, Char.ofNat 110, Char.ofNat 100, Char.ofNat 101, Char.ofNat 112, Char.ofNat 101, Char.ofNat 110, Char.ofNat 100, Char.ofNat 101, Char.ofNat 110, Char.ofNat 116, Char.ofNat 32, Char.ofNat 108, Char.ofNat 111, Char.ofNat 111, Char.ofNat 112, Char.ofNat 46, Char.ofNat 101, Char.ofNat 120, Char.ofNat 97, Char.ofNat 109, Char.ofNat 112, Char.ofNat 108, Char.ofNat 101, Char.ofNat 47, Char.ofNat 103, Char.ofNat 48, Char.ofNat 49, Char.ofNat 49, Char.ofNat 50, Char.ofNat 55, Char.ofNat 47, Char.ofNat 108, Char.ofNat 97, Char.ofNat 119, Char.ofNat 115, Char.ofNat 46, Char.ofNat 70, Char.ofNat 110, Char.ofNat 69, Char.ofNat 120, Char.ofNat 97, Char.ofNat 99, Char.ofNat 116, Char.ofNat 83, Char.ofNat 119, Char.ofNat 97, Char.ofNat 112, Char.ofNat 78, Char.ofNat 101, Char.ofNat 105, Char.ofNat 103, Char.ofNat 104, Char.ofNat 98, Char.ofNat 111, Char.ofNat 117, Char.ofNat 114, Char.ofNat 115, Char.ofNat 32, Char.ofNat 108, Char.ofNat 111, Char.ofNat 111, Char.ofNat 112, Char.ofNat 46, Char.ofNat 101, Char.ofNat 120, Char.ofNat 97, Char.ofNat 109, Char.ofNat 112, Char.ofNat 108, Char.ofNat 101, Char.ofNat 47, Char.ofNat 103, Char.ofNat 48, Char.ofNat 49, Char.ofNat 49, Char.ofNat 50, Char.ofNat 55, Char.ofNat 47, Char.ofNat 108, Char.ofNat 97, Char.ofNat 119, Char.ofNat 115, Char.ofNat 46, Char.ofNat 70, Char.ofNat 110, Char.ofNat 69, Char.ofNat 120, Char.ofNat 97, Char.ofNat 99, Char.ofNat 116, Char.ofNat 82, Char.ofNat 101, Char.ofNat 110, Char.ofNat 97, Char.ofNat 109, Char.ofNat 101, Char.ofNat 67, Char.ofNat 111, Char.ofNat 100, Char.ofNat 101, Char.ofNat 32, Char.ofNat 108, Char.ofNat 111, Char.ofNat 111, Char.ofNat 112, Char.ofNat 46, Char.ofNat 101, Char.ofNat 120, Char.ofNat 97, Char.ofNat 109, Char.ofNat 112, Char.ofNat 108, Char.ofNat 101, Char.ofNat 47, Char.ofNat 103, Char.ofNat 48, Char.ofNat 49, Char.ofNat 49, Char.ofNat 50, Char.ofNat 55, Char.ofNat 47, Char.ofNat 108, Char.ofNat 97, Char.ofNat 119, Char.ofNat 115, Char.ofNat 46, Char.ofNat 70, Char.ofNat 110, Char.ofNat 69, Char.ofNat 120, Char.ofNat 97, Char.ofNat 99, Char.ofNat 116, Char.ofNat 67, Char.ofNat 108, Char.ofNat 97, Char.ofNat 115, Char.ofNat 115, Char.ofNat 101, Char.ofNat 115, Char.ofNat 79, Char.ofNat 102]
theorem head_is : Try.prog.initOrder = String.ofList headSigns := by kernel_rfl
theorem head_list : Try.prog.initOrder.toList = headSigns := by rw [head_is]; exact String.toList_ofList
def cutSigns : List Char := [Char.ofNat 99, Char.ofNat 117, Char.ofNat 116]
def headRest : List (List Char) := (behindMainWord (wordsSigns headSigns)).tail
theorem head_words0 : behindMainWord (wordsSigns headSigns) = cutSigns :: headRest := by decide +kernel
theorem strip_none {w : List Char} {ws : List (List Char)} : ∀ os : List String, (os.all fun o => !(w == o.toList)) = true → stripLifts os (w :: ws) = ([], w :: ws)
 | [], _ => rfl
 | o :: os, h => by
  simp only [List.all_cons, Bool.and_eq_true, Bool.not_eq_true'] at h
  unfold stripLifts
  rw [h.1, if_neg (by decide)]
  exact strip_none os h.2
theorem strip : stripLifts liftWords (cutSigns :: headRest) = ([], cutSigns :: headRest) := strip_none liftWords (by decide +kernel)
theorem c1 : (cutSigns == "gc".toList || cutSigns == "spec".toList) = false := by decide +kernel
theorem c2 (x : Bool) : (cutSigns == "cut".toList || x) = true := by
 rw [show (cutSigns == "cut".toList) = true by decide +kernel]; rfl
theorem mk (P : Program) (r : List (List Char)) (h : behindMainWord (wordsSigns P.initOrder.toList) = cutSigns :: r) : P.make = some .cut := by
 unfold Program.make
 rw [h]
 simp only [c1, c2]
 rfl
theorem hl (P : Program) (r : List (List Char)) (h : behindMainWord (wordsSigns P.initOrder.toList) = cutSigns :: r) (hs : stripLifts liftWords (cutSigns :: r) = ([], cutSigns :: r)) : P.headLifts = [] := by
 unfold Program.headLifts
 rw [h, hs]
 simp only [ite_self]
theorem lf (P : Program) (r : List (List Char)) (h : behindMainWord (wordsSigns P.initOrder.toList) = cutSigns :: r) (h0 : P.headLifts = []) : P.liftsFinal = false := by
 unfold Program.liftsFinal
 rw [h, h0]
 show ((some cutSigns == some "carried".toList && ((cutSigns :: r).take 3 != ["carried".toList, "gc".toList, "cut".toList])) || ([] : List String).contains "finals") = false
 rw [show (some cutSigns == some "carried".toList) = false by decide +kernel]
 rfl
theorem me (P : Program) (r : List (List Char)) (h : behindMainWord (wordsSigns P.initOrder.toList) = cutSigns :: r) (hs : stripLifts liftWords (cutSigns :: r) = ([], cutSigns :: r)) (h1 : P.laysLater = false) (h2 : P.bearsReflect = false) (h3 : P.doorFits [] = true) : P.mayEnter = true := by
 unfold Program.mayEnter
 rw [h]
 simp only [hs, h1, h2, h3, List.head?_cons]
 rw [show (some cutSigns == some "cut".toList) = true by decide +kernel]
 simp
theorem head_words : behindMainWord (wordsSigns Try.prog.initOrder.toList) = cutSigns :: headRest := by rw [head_list]; exact head_words0
theorem head_make : Try.prog.make = some .cut := mk _ _ head_words
theorem head_lifts : Try.prog.liftsFinal = false := lf _ _ head_words (hl _ _ head_words strip)
theorem lays_later : Try.prog.laysLater = false := by kernel_rfl
theorem bears_reflect : Try.prog.bearsReflect = false := by kernel_rfl
theorem door_fits : Try.prog.doorFits [] = true := by kernel_rfl
theorem head_enter : Try.prog.mayEnter = true := me _ _ head_words strip lays_later bears_reflect door_fits
theorem and_true_intro {a b : Bool} (ha : a = true) (hb : b = true) : (a && b) = true := by rw [ha, hb]; rfl
theorem lifted_ok {x : Bool} (h : x = false) : (x == Try.prog.liftsFinal) = true := by rw [head_lifts, h]; rfl
theorem make_ok {m : Make} (h : m = .cut) : (Try.prog.make == some m) = true := by rw [head_make, h]; decide +kernel
end Go.Proofs.Ythnckplfnmkmpaa
