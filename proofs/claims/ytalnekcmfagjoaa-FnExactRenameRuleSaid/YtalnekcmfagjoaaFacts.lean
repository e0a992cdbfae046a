/- Closed facts of the whole program, paid once: the signs of the dump's head are read once, as a list. -/
import Derived.Test.YtalnekcmfagjoaaRows
import Derived.JoinedOf
import Derived.KernelRfl
namespace Go.Proofs.Ytalnekcmfagjoaa

theorem and_ : ∀ {a b : Bool}, a = true → b = true → (a && b) = true
  | true, true, _, _ => rfl
/-- the signs of the dump's head -/
def ioL : List Char := List.map Char.ofNat [104, 97, 114, 110, 101, 115, 115, 32, 98, 51, 48, 102, 57, 50, 102, 51, 48, 53, 53, 48, 97, 49, 50, 50, 54, 101, 51, 97, 56, 49, 98, 97, 55, 99, 98, 56, 52, 57, 57, 54, 100, 53, 53, 52, 101, 101, 97, 48, 54, 55, 56, 52, 53, 57, 52, 98, 99, 100, 55, 48, 102, 50, 51, 99, 57, 48, 99, 102, 49, 98, 101, 98, 32, 99, 117, 116, 32, 97, 116, 32, 108, 111, 111, 112, 46, 101, 120, 97, 109, 112, 108, 101, 47, 103, 48, 48, 53, 49, 56, 47, 108, 97, 119, 115, 46, 70, 110, 69, 120, 97, 99, 116, 82, 101, 110, 97, 109, 101, 82, 117, 108, 101, 32, 108, 111, 111, 112, 46, 101, 120, 97, 109, 112, 108, 101, 47, 103, 48, 48, 53, 49, 56, 47, 108, 97, 119, 115, 46, 70, 110, 69, 120, 97, 99, 116, 65, 100, 100, 86, 101, 114, 115, 105, 111, 110, 32, 108, 111, 111, 112, 46, 101, 120, 97, 109, 112, 108, 101, 47, 103, 48, 48, 53, 49, 56, 47, 108, 97, 119, 115, 46, 70, 110, 69, 120, 97, 99, 116, 83, 121, 110, 99, 65, 114, 99, 104, 105, 118, 101, 32, 108, 111, 111, 112, 46, 101, 120, 97, 109, 112, 108, 101, 47, 103, 48, 48, 53, 49, 56, 47, 108, 97, 119, 115, 46, 70, 110, 69, 120, 97, 99, 116, 67, 114, 97, 115, 104, 65, 114, 99, 104, 105, 118, 101]
def cutW : List Char := List.map Char.ofNat [99, 117, 116]
theorem io_eq : Try.prog.initOrder = String.ofList ioL := by
  unfold Try.prog
  dsimp only [Try.progTables]
  kernel_rfl
theorem io_list : Try.prog.initOrder.toList = ioL := by rw [io_eq, String.toList_ofList]
theorem io_words : behindMainWord (wordsSigns ioL) = cutW :: (behindMainWord (wordsSigns ioL)).tail := by kernel_rfl
theorem io_strip (rest : List (List Char)) : stripLifts liftWords (cutW :: rest) = ([], cutW :: rest) := by kernel_rfl
theorem cut_gc : (cutW == "gc".toList || cutW == "spec".toList) = false := by kernel_rfl
theorem cut_carried : (cutW == "carried".toList) = false := by kernel_rfl
theorem cut_carried' : (some cutW == some "carried".toList) = false := by kernel_rfl
theorem cut_cut : (some cutW == some "cut".toList) = true := by kernel_rfl
theorem cut_cut' : (cutW == "cut".toList) = true := by kernel_rfl
theorem no_later : Try.prog.laysLater = false := by kernel_rfl
theorem no_reflect : Try.prog.bearsReflect = false := by kernel_rfl
theorem door_fits : Try.prog.doorFits [] = true := by kernel_rfl
section
variable {P : Program} {rest : List (List Char)} (h : behindMainWord (wordsSigns P.initOrder.toList) = cutW :: rest)
include h
theorem head_lifts_of : P.headLifts = [] := by
  unfold Program.headLifts
  rw [h, io_strip]
  simp only [List.head?_cons, cut_cut, if_true]
theorem enter_of (h1 : P.laysLater = false) (h2 : P.bearsReflect = false) (h3 : P.doorFits [] = true) : P.mayEnter = true := by
  unfold Program.mayEnter
  rw [h]
  simp only [io_strip, cut_gc, cut_carried, cut_cut, h1, h2, h3, List.head?_cons, Bool.false_and, Bool.false_or, Bool.not_false, Bool.and_true, Bool.or_true, List.contains_nil]
theorem final_of : P.liftsFinal = false := by
  unfold Program.liftsFinal
  rw [head_lifts_of h, h]
  simp only [List.head?_cons, cut_carried', Bool.false_and, Bool.false_or, List.contains_nil]
theorem make_of : P.make = some .cut := by
  unfold Program.make
  rw [h]
  simp only [cut_gc, cut_cut', Bool.true_or, if_true]
  rfl
end
theorem io_head : behindMainWord (wordsSigns Try.prog.initOrder.toList) = cutW :: (behindMainWord (wordsSigns ioL)).tail := by rw [io_list]; exact io_words
theorem fact_enter : Try.prog.mayEnter = true := enter_of io_head no_later no_reflect door_fits
theorem fact_final : Try.prog.liftsFinal = false := final_of io_head
theorem fact_make : Try.prog.make = some .cut := make_of io_head
theorem fact_final' : (false == Try.prog.liftsFinal) = true := by rw [fact_final]; rfl
theorem fact_make' : (Try.prog.make == some Make.cut) = true := by rw [fact_make]; kernel_rfl
theorem fact_laid : laidOutB Try.prog = true := by kernel_rfl
theorem fact_maps : mapsRowed Try.prog = true := by kernel_rfl
theorem fact_stops : (Try.prog.stops == []) = true := by kernel_rfl
theorem fact_knobs : (Try.prog.stopKnobs == []) = true := by kernel_rfl
theorem fact_heard : Try.prog.stopsHeard = true := by kernel_rfl
end Go.Proofs.Ytalnekcmfagjoaa
