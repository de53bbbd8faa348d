/-
  The closed facts on the program's head, proved word by word (the kernel's own run over the head's text outgrows the memory where a seat has many roots).
-/
import Derived.Test.YtehgipbedlamaaaRows
import Derived.JoinedOf
import Derived.KernelRfl
namespace Go.Proofs.Ytehgipbedlamaaa
open Go
set_option maxRecDepth 100000
theorem ws_sp (r : List Char) : wordsSigns (Char.ofNat 32 :: r) = [] :: wordsSigns r := rfl
theorem ws_cons (c : Char) (r : List Char) (w : List Char) (ws : List (List Char)) (hc : c ≠ Char.ofNat 32) (h : wordsSigns r = w :: ws) : wordsSigns (c :: r) = (c :: w) :: ws := by
  rw [wordsSigns.eq_def]
  split
  · rename_i h'; cases h'
  · rename_i h'; simp at h'; exact absurd h'.1 hc
  · rename_i h'; simp at h'; obtain ⟨rfl, rfl⟩ := h'; rw [h]
theorem ws_word (w r : List Char) (h : w.all (fun c => c.toNat != 32) = true) : wordsSigns (w ++ Char.ofNat 32 :: r) = w :: wordsSigns r := by
  induction w with
  | nil => exact ws_sp r
  | cons c w ih =>
    simp only [List.all_cons, Bool.and_eq_true] at h
    refine ws_cons c _ w _ ?_ (ih h.2)
    rintro rfl
    exact absurd h.1 (by decide)

def hW : List Char := [104, 97, 114, 110, 101, 115, 115].map Char.ofNat
def sW : List Char := [101, 51, 99, 98, 99, 50, 100, 102, 55, 99, 55, 51, 102, 52, 100, 99, 101, 101, 102, 100, 50, 57, 56, 55, 99, 54, 99, 48, 48, 56, 55, 97, 99, 54, 54, 49, 48, 55, 54, 51, 50, 54, 98, 98, 51, 101, 49, 54, 99, 52, 52, 48, 99, 102, 51, 57, 100, 52, 56, 99, 56, 101, 99, 52].map Char.ofNat
def cW : List Char := [99, 117, 116].map Char.ofNat
def rW : List Char := [97, 116, 32, 108, 111, 111, 112, 46, 101, 120, 97, 109, 112, 108, 101, 47, 103, 114, 111, 117, 112, 109, 117, 108, 116, 105, 99, 97, 115, 116, 47, 108, 97, 119, 115, 46, 70, 110, 83, 116, 117, 99, 107, 71, 105, 118, 101, 32, 108, 111, 111, 112, 46, 101, 120, 97, 109, 112, 108, 101, 47, 103, 114, 111, 117, 112, 109, 117, 108, 116, 105, 99, 97, 115, 116, 47, 108, 97, 119, 115, 46, 70, 110, 67, 114, 101, 100, 105, 116, 115, 75, 101, 112, 116, 32, 108, 111, 111, 112, 46, 101, 120, 97, 109, 112, 108, 101, 47, 103, 114, 111, 117, 112, 109, 117, 108, 116, 105, 99, 97, 115, 116, 47, 108, 97, 119, 115, 46, 70, 110, 69, 120, 97, 99, 116, 67, 114, 101, 100, 105, 116, 115, 71, 105, 118, 101, 32, 108, 111, 111, 112, 46, 101, 120, 97, 109, 112, 108, 101, 47, 103, 114, 111, 117, 112, 109, 117, 108, 116, 105, 99, 97, 115, 116, 47, 108, 97, 119, 115, 46, 70, 110, 79, 114, 100, 101, 114, 101, 100, 65, 115, 107, 32, 108, 111, 111, 112, 46, 101, 120, 97, 109, 112, 108, 101, 47, 103, 114, 111, 117, 112, 109, 117, 108, 116, 105, 99, 97, 115, 116, 47, 108, 97, 119, 115, 46, 70, 110, 69, 120, 97, 99, 116, 67, 114, 101, 100, 105, 116, 115, 65, 115, 107, 32, 108, 111, 111, 112, 46, 101, 120, 97, 109, 112, 108, 101, 47, 103, 114, 111, 117, 112, 109, 117, 108, 116, 105, 99, 97, 115, 116, 47, 108, 97, 119, 115, 46, 70, 110, 67, 114, 101, 100, 105, 116, 115, 71, 105, 118, 101, 32, 108, 111, 111, 112, 46, 101, 120, 97, 109, 112, 108, 101, 47, 103, 114, 111, 117, 112, 109, 117, 108, 116, 105, 99, 97, 115, 116, 47, 108, 97, 119, 115, 46, 70, 110, 67, 114, 101, 100, 105, 116, 115, 82, 111, 117, 110, 100, 32, 108, 111, 111, 112, 46, 101, 120, 97, 109, 112, 108, 101, 47, 103, 114, 111, 117, 112, 109, 117, 108, 116, 105, 99, 97, 115, 116, 47, 108, 97, 119, 115, 46, 70, 110, 79, 114, 100, 101, 114, 101, 100, 71, 105, 118, 101].map Char.ofNat
theorem h0 : Try.prog.initOrder = String.ofList (hW ++ Char.ofNat 32 :: (sW ++ Char.ofNat 32 :: (cW ++ Char.ofNat 32 :: rW))) := by kernel_rfl
theorem hL : wordsSigns Try.prog.initOrder.toList = hW :: sW :: cW :: wordsSigns rW := by
  rw [h0, String.toList_ofList, ws_word _ _ (by kernel_rfl), ws_word _ _ (by kernel_rfl), ws_word _ _ (by kernel_rfl)]
theorem hL' : ∃ R, wordsSigns Try.prog.initOrder.toList = hW :: sW :: cW :: R := ⟨_, hL⟩
theorem x1 (R : List (List Char)) : behindMainWord (hW :: sW :: cW :: R) = cW :: R := by kernel_rfl
theorem x2 : (cW == "gc".toList) = false := by kernel_rfl
theorem x3 : (cW == "cut".toList) = true := by kernel_rfl
theorem x3' : cW = "cut".toList := eq_of_beq x3
theorem x5 : (cW == "spec".toList) = false := by kernel_rfl
theorem x6 : (cW == "carried".toList) = false := by kernel_rfl
theorem x7 (R : List (List Char)) : stripLifts liftWords (cW :: R) = ([], cW :: R) := by kernel_rfl
theorem y1 : Try.prog.laysLater = false := by kernel_rfl
theorem y2 : Try.prog.bearsReflect = false := by kernel_rfl
theorem y3 : Try.prog.doorFits [] = true := by kernel_rfl
theorem fact_make_of {P : Program} {R : List (List Char)} (hL : wordsSigns P.initOrder.toList = hW :: sW :: cW :: R) : P.make = some .cut := by
  unfold Program.make
  rw [hL, x1]
  dsimp only
  rw [x2, x5, x3]
  rfl
theorem fact_mayEnter_of {P : Program} {R : List (List Char)} (hL : wordsSigns P.initOrder.toList = hW :: sW :: cW :: R) (y1 : P.laysLater = false) (y2 : P.bearsReflect = false) (y3 : P.doorFits [] = true) : P.mayEnter = true := by
  unfold Program.mayEnter
  rw [hL, x1]
  dsimp only
  rw [x7, y1, y2, y3, x3']
  simp
theorem fact_lifts_of {P : Program} {R : List (List Char)} (hL : wordsSigns P.initOrder.toList = hW :: sW :: cW :: R) : P.liftsFinal = false := by
  unfold Program.liftsFinal Program.headLifts
  rw [hL, x1, x7]
  dsimp only [List.head?_cons]
  have h : (some cW == some "carried".toList) = false := x6
  rw [h]
  simp
theorem fact_make : Try.prog.make = some .cut := by
  obtain ⟨R, hL⟩ := hL'
  exact fact_make_of hL
theorem fact_mayEnter : Try.prog.mayEnter = true := by
  obtain ⟨R, hL⟩ := hL'
  exact fact_mayEnter_of hL y1 y2 y3
theorem fact_lifts : Try.prog.liftsFinal = false := by
  obtain ⟨R, hL⟩ := hL'
  exact fact_lifts_of hL

theorem and_intro {a b : Bool} (ha : a = true) (hb : b = true) : (a && b) = true := by rw [ha, hb]; rfl

theorem own : ownKnob Try.prog.godebug = none := by kernel_rfl
theorem laidOut : laidOutB Try.prog = true := by kernel_rfl
end Go.Proofs.Ytehgipbedlamaaa
