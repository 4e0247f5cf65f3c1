/- The contracts of the functions that the laws reach, each over a plain Lean function, written by wip/ownprint.py of this claim's session. -/
import Derived.Test.YtdphgnakigcaeaaDoorPc0
import Derived.Test.YtdphgnakigcaeaaDoorPc1
import Derived.Test.YtdphgnakigcaeaaDoorPc6
import Derived.Test.YtdphgnakigcaeaaDoorPc7
import Derived.Test.YtdphgnakigcaeaaDoorPc13
import Derived.Test.YtdphgnakigcaeaaDoorPc18
import Derived.Test.YtdphgnakigcaeaaDoorPc19
import Derived.Test.YtdphgnakigcaeaaDoorPc20
namespace Go.Proofs.YtdphgnakigcaeaaDoor.Pc
open Go.RowKit Go.Proofs.YtdphgnakigcaeaaDoorW.PrintWords Go.Proofs.YtdphgnakigcaeaaDoorW.PrintLast Go.Proofs.YtdphgnakigcaeaaDoorW.PrintMore
attribute [local go_sem] max2_int min2_int max_two min_two max_three min_three max_four min_four   -- for this text's walks alone
attribute [local go_sem high] binOp_leq_p
set_option linter.unusedVariables false
set_option linter.unusedSimpArgs false

attribute [local go_sem high] eqA24
/-! ### dioramalaw04_same: function 29 -/
def dioramalaw04_same.f (k : Nat) (a0_0 : Int) (a0_1 : Int) (a1_0 : Int) (a1_1 : Int) : Option (Bool) := (ratio_Add.f k a0_0 a0_1 a1_0 a1_1).bind fun bt510 => ((dioramaref04_Add.f k a0_0 a0_1 a1_0 a1_1).bind fun bt514 => ((ratio_Sub.f k a0_0 a0_1 a1_0 a1_1).bind fun bt518 => ((dioramaref04_Sub.f k a0_0 a0_1 a1_0 a1_1).bind fun bt522 => ((ratio_Mul.f k a0_0 a0_1 a1_0 a1_1).bind fun bt526 => ((dioramaref04_Mul.f k a0_0 a0_1 a1_0 a1_1).bind fun bt530 => (if (bt510.1 == bt514.1 && (bt510.2.1 == bt514.2.1)) = true then (if bt510.2.2 = bt514.2.2 then (if (bt518.1 == bt522.1 && (bt518.2.1 == bt522.2.1)) = true then (if bt518.2.2 = bt522.2.2 then (if (bt526.1 == bt530.1 && (bt526.2.1 == bt530.2.1)) = true then (if bt526.2.2 = bt530.2.2 then ((ratio_Compare.f k a0_0 a0_1 a1_0 a1_1).bind fun t534 => ((dioramaref04_Compare.f k a0_0 a0_1 a1_0 a1_1).bind fun t535 => (if t534 = t535 then ((ratio_Floor.f k a0_0 a0_1).bind fun t536 => ((dioramaref04_Floor.f k a0_0 a0_1).bind fun t537 => (if t536 = t537 then ((ratio_Text.f a0_0 a0_1).bind fun t538 => ((dioramaref04_Text.f k a0_0 a0_1).bind fun t539 => (some (t538.toList == t539.toList)))) else (some false)))) else (some false)))) else (some false)) else (some false)) else (some false)) else (some false)) else (some false)) else (some false)))))))
theorem dioramalaw04_same.mono : ∀ a0 a1 a2 a3 k, LeO (dioramalaw04_same.f k a0 a1 a2 a3) (dioramalaw04_same.f (k + 1) a0 a1 a2 a3) := by
 intro a0 a1 a2 a3 k
 unfold dioramalaw04_same.f
 repeat' first
   | (with_reducible exact dioramaref04_Add.mono _ _ _ _ _)
   | (with_reducible exact dioramaref04_Compare.mono _ _ _ _ _)
   | (with_reducible exact dioramaref04_Floor.mono _ _ _)
   | (with_reducible exact dioramaref04_Mul.mono _ _ _ _ _)
   | (with_reducible exact dioramaref04_Sub.mono _ _ _ _ _)
   | (with_reducible exact dioramaref04_Text.mono _ _ _)
   | (with_reducible exact ratio_Add.mono _ _ _ _ _)
   | (with_reducible exact ratio_Compare.mono _ _ _ _ _)
   | (with_reducible exact ratio_Floor.mono _ _ _)
   | (with_reducible exact ratio_Mul.mono _ _ _ _ _)
   | (with_reducible exact ratio_Sub.mono _ _ _ _ _)
   | (with_reducible exact LeO.refl _)
   | (with_reducible exact LeO.none _)
   | (with_reducible refine LeO.ite ?_ ?_)
   | (with_reducible refine LeO.bind ?_ (fun _ => ?_))
   | exact dioramaref04_Add.mono _ _ _ _ _
   | exact dioramaref04_Compare.mono _ _ _ _ _
   | exact dioramaref04_Floor.mono _ _ _
   | exact dioramaref04_Mul.mono _ _ _ _ _
   | exact dioramaref04_Sub.mono _ _ _ _ _
   | exact dioramaref04_Text.mono _ _ _
   | exact ratio_Add.mono _ _ _ _ _
   | exact ratio_Compare.mono _ _ _ _ _
   | exact ratio_Floor.mono _ _ _
   | exact ratio_Mul.mono _ _ _ _ _
   | exact ratio_Sub.mono _ _ _ _ _
   | exact LeO.none _
   | refine LeO.ite ?_ ?_
   | refine LeO.bind ?_ (fun _ => ?_)
def dioramalaw04_same.T7 : Bool × List (List Nat × List Nat) := (true, [([], []), ([], []), ([0, 1], [0, 1]), ([2], [2]), ([3], [3]), ([3], [3]), ([4, 5, 3], [3, 4, 5]), ([3, 6], [3, 6]), ([7, 3], [7]), ([8], [8]), ([8], [8]), ([9, 10, 8], [8, 9, 10]), ([8, 11], [8, 11]), ([12, 8], [12]), ([13], [13]), ([13], [13]), ([14, 15, 13], [13, 14, 15]), ([13, 16], [13, 16]), ([17, 13], [17]), ([18], [18]), ([18], [18]), ([19, 20, 18], [18, 19, 20]), ([18, 21], [18, 21]), ([22, 18], [22]), ([23], [23]), ([23], [23]), ([24, 25, 23], [23, 24, 25]), ([23, 26], [23, 26]), ([27, 23], [27]), ([28], [28]), ([28], [28]), ([29, 30, 28, 28], [28, 29, 30]), ([28], [28]), ([28], [28]), ([32, 33, 31, 28], [28, 32, 33]), ([31, 34, 28], [28, 31, 34]), ([28, 35], [28, 35]), ([36, 34], [36]), ([37], [37]), ([38, 37, 37], [37, 38]), ([37], [37]), ([40, 39, 37], [37, 40]), ([39, 41, 37], [37, 39, 41]), ([37, 42], [37, 42]), ([43, 41], [43]), ([44], [44]), ([45, 44, 44], [44, 45]), ([44], [44]), ([47, 46, 44], [44, 47]), ([46, 48, 44], [44, 46, 48]), ([44, 49], [44, 49]), ([50, 48, 0, 1, 2, 3, 4, 5, 6, 7, 8, 9, 10, 11, 12, 13, 14, 15, 16, 17, 18, 19, 20, 21, 22, 23, 24, 25, 26, 27, 28, 29, 30, 31, 32, 33, 34, 35, 36, 37, 38, 39, 40, 41, 42, 43, 44, 45, 46, 47, 48, 49, 50], [50])])
def dioramalaw04_same.B7 : List Nat := [0, 0, 3, 7, 15, 15, 63, 127, 255, 511, 511, 2047, 4095, 8191, 16383, 16383, 65535, 131071, 262143, 524287, 524287, 2097151, 4194303, 8388607, 16777215, 16777215, 67108863, 134217727, 268435455, 536870911, 536870911, 2147483647, 536870911, 536870911, 17179869183, 34359738367, 68719476735, 137438953471, 274877906943, 549755813887, 274877906943, 2199023255551, 4398046511103, 8796093022207, 17592186044415, 35184372088831, 70368744177663, 35184372088831, 281474976710655, 562949953421311, 1125899906842623, 2251799813685247]
theorem dioramalaw04_same.tab7 : rtab .any (opsOf Tryd.f29 7) = dioramalaw04_same.T7 := by kernel_rfl
theorem dioramalaw04_same.bits7 : waitsOk dioramalaw04_same.T7.2 dioramalaw04_same.B7 = true := by kernel_rfl
set_option maxHeartbeats 8000000 in
set_option maxRecDepth 100000 in
theorem dioramalaw04_same.calls (k : Nat) (a0_0 : Int) (a0_1 : Int) (a1_0 : Int) (a1_1 : Int) (r : Bool) (w : World) (hv : LaidAt w) (h : dioramalaw04_same.f k a0_0 a0_1 a1_0 a1_1 = some r) (hr : r = true) :
  Calls Tryd.prog 29 #[.agg #[.int .i64 a0_0, .int .i64 a0_1], .agg #[.int .i64 a1_0, .int .i64 a1_1]] w fun e w' => e = .returned (.bool r) ∧ Below w.heap.size w w' := by
 have hu24 := Tryd.underlying24
 have HB := Aside0.mk (Below.refl w.heap.size w)
 have H : ((ratio_Add.f k a0_0 a0_1 a1_0 a1_1).bind fun bt510 => ((dioramaref04_Add.f k a0_0 a0_1 a1_0 a1_1).bind fun bt514 => ((ratio_Sub.f k a0_0 a0_1 a1_0 a1_1).bind fun bt518 => ((dioramaref04_Sub.f k a0_0 a0_1 a1_0 a1_1).bind fun bt522 => ((ratio_Mul.f k a0_0 a0_1 a1_0 a1_1).bind fun bt526 => ((dioramaref04_Mul.f k a0_0 a0_1 a1_0 a1_1).bind fun bt530 => (if (bt510.1 == bt514.1 && (bt510.2.1 == bt514.2.1)) = true then (if bt510.2.2 = bt514.2.2 then (if (bt518.1 == bt522.1 && (bt518.2.1 == bt522.2.1)) = true then (if bt518.2.2 = bt522.2.2 then (if (bt526.1 == bt530.1 && (bt526.2.1 == bt530.2.1)) = true then (if bt526.2.2 = bt530.2.2 then ((ratio_Compare.f k a0_0 a0_1 a1_0 a1_1).bind fun t534 => ((dioramaref04_Compare.f k a0_0 a0_1 a1_0 a1_1).bind fun t535 => (if t534 = t535 then ((ratio_Floor.f k a0_0 a0_1).bind fun t536 => ((dioramaref04_Floor.f k a0_0 a0_1).bind fun t537 => (if t536 = t537 then ((ratio_Text.f a0_0 a0_1).bind fun t538 => ((dioramaref04_Text.f k a0_0 a0_1).bind fun t539 => (some (t538.toList == t539.toList)))) else (some false)))) else (some false)))) else (some false)) else (some false)) else (some false)) else (some false)) else (some false)) else (some false)))))))) = some r := h
 clear h
 replace H := Option.bind_eq_some_iff.mp H
 obtain ⟨⟨t510, t511, t512⟩, A30, H⟩ := H
 replace H : ((dioramaref04_Add.f k a0_0 a0_1 a1_0 a1_1).bind fun bt514 => ((ratio_Sub.f k a0_0 a0_1 a1_0 a1_1).bind fun bt518 => ((dioramaref04_Sub.f k a0_0 a0_1 a1_0 a1_1).bind fun bt522 => ((ratio_Mul.f k a0_0 a0_1 a1_0 a1_1).bind fun bt526 => ((dioramaref04_Mul.f k a0_0 a0_1 a1_0 a1_1).bind fun bt530 => (if (t510 == bt514.1 && (t511 == bt514.2.1)) = true then (if t512 = bt514.2.2 then (if (bt518.1 == bt522.1 && (bt518.2.1 == bt522.2.1)) = true then (if bt518.2.2 = bt522.2.2 then (if (bt526.1 == bt530.1 && (bt526.2.1 == bt530.2.1)) = true then (if bt526.2.2 = bt530.2.2 then ((ratio_Compare.f k a0_0 a0_1 a1_0 a1_1).bind fun t534 => ((dioramaref04_Compare.f k a0_0 a0_1 a1_0 a1_1).bind fun t535 => (if t534 = t535 then ((ratio_Floor.f k a0_0 a0_1).bind fun t536 => ((dioramaref04_Floor.f k a0_0 a0_1).bind fun t537 => (if t536 = t537 then ((ratio_Text.f a0_0 a0_1).bind fun t538 => ((dioramaref04_Text.f k a0_0 a0_1).bind fun t539 => (some (t538.toList == t539.toList)))) else (some false)))) else (some false)))) else (some false)) else (some false)) else (some false)) else (some false)) else (some false)) else (some false))))))) = some r := H
 have A3 := Aside0.mk A30
 clear A30
 replace H := Option.bind_eq_some_iff.mp H
 obtain ⟨⟨t514, t515, t516⟩, A40, H⟩ := H
 replace H : ((ratio_Sub.f k a0_0 a0_1 a1_0 a1_1).bind fun bt518 => ((dioramaref04_Sub.f k a0_0 a0_1 a1_0 a1_1).bind fun bt522 => ((ratio_Mul.f k a0_0 a0_1 a1_0 a1_1).bind fun bt526 => ((dioramaref04_Mul.f k a0_0 a0_1 a1_0 a1_1).bind fun bt530 => (if (t510 == t514 && (t511 == t515)) = true then (if t512 = t516 then (if (bt518.1 == bt522.1 && (bt518.2.1 == bt522.2.1)) = true then (if bt518.2.2 = bt522.2.2 then (if (bt526.1 == bt530.1 && (bt526.2.1 == bt530.2.1)) = true then (if bt526.2.2 = bt530.2.2 then ((ratio_Compare.f k a0_0 a0_1 a1_0 a1_1).bind fun t534 => ((dioramaref04_Compare.f k a0_0 a0_1 a1_0 a1_1).bind fun t535 => (if t534 = t535 then ((ratio_Floor.f k a0_0 a0_1).bind fun t536 => ((dioramaref04_Floor.f k a0_0 a0_1).bind fun t537 => (if t536 = t537 then ((ratio_Text.f a0_0 a0_1).bind fun t538 => ((dioramaref04_Text.f k a0_0 a0_1).bind fun t539 => (some (t538.toList == t539.toList)))) else (some false)))) else (some false)))) else (some false)) else (some false)) else (some false)) else (some false)) else (some false)) else (some false)))))) = some r := H
 have A4 := Aside0.mk A40
 clear A40
 replace H := Option.bind_eq_some_iff.mp H
 obtain ⟨⟨t518, t519, t520⟩, A50, H⟩ := H
 replace H : ((dioramaref04_Sub.f k a0_0 a0_1 a1_0 a1_1).bind fun bt522 => ((ratio_Mul.f k a0_0 a0_1 a1_0 a1_1).bind fun bt526 => ((dioramaref04_Mul.f k a0_0 a0_1 a1_0 a1_1).bind fun bt530 => (if (t510 == t514 && (t511 == t515)) = true then (if t512 = t516 then (if (t518 == bt522.1 && (t519 == bt522.2.1)) = true then (if t520 = bt522.2.2 then (if (bt526.1 == bt530.1 && (bt526.2.1 == bt530.2.1)) = true then (if bt526.2.2 = bt530.2.2 then ((ratio_Compare.f k a0_0 a0_1 a1_0 a1_1).bind fun t534 => ((dioramaref04_Compare.f k a0_0 a0_1 a1_0 a1_1).bind fun t535 => (if t534 = t535 then ((ratio_Floor.f k a0_0 a0_1).bind fun t536 => ((dioramaref04_Floor.f k a0_0 a0_1).bind fun t537 => (if t536 = t537 then ((ratio_Text.f a0_0 a0_1).bind fun t538 => ((dioramaref04_Text.f k a0_0 a0_1).bind fun t539 => (some (t538.toList == t539.toList)))) else (some false)))) else (some false)))) else (some false)) else (some false)) else (some false)) else (some false)) else (some false)) else (some false))))) = some r := H
 have A5 := Aside0.mk A50
 clear A50
 replace H := Option.bind_eq_some_iff.mp H
 obtain ⟨⟨t522, t523, t524⟩, A60, H⟩ := H
 replace H : ((ratio_Mul.f k a0_0 a0_1 a1_0 a1_1).bind fun bt526 => ((dioramaref04_Mul.f k a0_0 a0_1 a1_0 a1_1).bind fun bt530 => (if (t510 == t514 && (t511 == t515)) = true then (if t512 = t516 then (if (t518 == t522 && (t519 == t523)) = true then (if t520 = t524 then (if (bt526.1 == bt530.1 && (bt526.2.1 == bt530.2.1)) = true then (if bt526.2.2 = bt530.2.2 then ((ratio_Compare.f k a0_0 a0_1 a1_0 a1_1).bind fun t534 => ((dioramaref04_Compare.f k a0_0 a0_1 a1_0 a1_1).bind fun t535 => (if t534 = t535 then ((ratio_Floor.f k a0_0 a0_1).bind fun t536 => ((dioramaref04_Floor.f k a0_0 a0_1).bind fun t537 => (if t536 = t537 then ((ratio_Text.f a0_0 a0_1).bind fun t538 => ((dioramaref04_Text.f k a0_0 a0_1).bind fun t539 => (some (t538.toList == t539.toList)))) else (some false)))) else (some false)))) else (some false)) else (some false)) else (some false)) else (some false)) else (some false)) else (some false)))) = some r := H
 have A6 := Aside0.mk A60
 clear A60
 replace H := Option.bind_eq_some_iff.mp H
 obtain ⟨⟨t526, t527, t528⟩, A70, H⟩ := H
 replace H : ((dioramaref04_Mul.f k a0_0 a0_1 a1_0 a1_1).bind fun bt530 => (if (t510 == t514 && (t511 == t515)) = true then (if t512 = t516 then (if (t518 == t522 && (t519 == t523)) = true then (if t520 = t524 then (if (t526 == bt530.1 && (t527 == bt530.2.1)) = true then (if t528 = bt530.2.2 then ((ratio_Compare.f k a0_0 a0_1 a1_0 a1_1).bind fun t534 => ((dioramaref04_Compare.f k a0_0 a0_1 a1_0 a1_1).bind fun t535 => (if t534 = t535 then ((ratio_Floor.f k a0_0 a0_1).bind fun t536 => ((dioramaref04_Floor.f k a0_0 a0_1).bind fun t537 => (if t536 = t537 then ((ratio_Text.f a0_0 a0_1).bind fun t538 => ((dioramaref04_Text.f k a0_0 a0_1).bind fun t539 => (some (t538.toList == t539.toList)))) else (some false)))) else (some false)))) else (some false)) else (some false)) else (some false)) else (some false)) else (some false)) else (some false))) = some r := H
 have A7 := Aside0.mk A70
 clear A70
 replace H := Option.bind_eq_some_iff.mp H
 obtain ⟨⟨t530, t531, t532⟩, A80, H⟩ := H
 replace H : (if (t510 == t514 && (t511 == t515)) = true then (if t512 = t516 then (if (t518 == t522 && (t519 == t523)) = true then (if t520 = t524 then (if (t526 == t530 && (t527 == t531)) = true then (if t528 = t532 then ((ratio_Compare.f k a0_0 a0_1 a1_0 a1_1).bind fun t534 => ((dioramaref04_Compare.f k a0_0 a0_1 a1_0 a1_1).bind fun t535 => (if t534 = t535 then ((ratio_Floor.f k a0_0 a0_1).bind fun t536 => ((dioramaref04_Floor.f k a0_0 a0_1).bind fun t537 => (if t536 = t537 then ((ratio_Text.f a0_0 a0_1).bind fun t538 => ((dioramaref04_Text.f k a0_0 a0_1).bind fun t539 => (some (t538.toList == t539.toList)))) else (some false)))) else (some false)))) else (some false)) else (some false)) else (some false)) else (some false)) else (some false)) else (some false)) = some r := H
 have A8 := Aside0.mk A80
 clear A80
 by_cases c9 : (t510 == t514 && (t511 == t515)) = true
 ·rw [if_pos c9] at H
  have c9b0 : (t510 == t514 && (t511 == t515)) = true := c9
  (try (have c9b1 : decide (t510 = t514 && (t511 == t515)) = true := by simpa using c9))
  (try (have c9b2 : (t510 == t514 && (t511 == t515)) = true := by simpa using c9))
  clear c9
  by_cases c10 : t512 = t516
  ·rw [if_pos c10] at H
   have c10b0 : (t512 == t516) = true := beq_iff_eq.mpr c10
   have c10b1 : (t512 != t516) = false := bne_eq_false_iff_eq.mpr c10
   clear c10
   by_cases c11 : (t518 == t522 && (t519 == t523)) = true
   ·rw [if_pos c11] at H
    have c11b0 : (t518 == t522 && (t519 == t523)) = true := c11
    (try (have c11b1 : decide (t518 = t522 && (t519 == t523)) = true := by simpa using c11))
    (try (have c11b2 : (t518 == t522 && (t519 == t523)) = true := by simpa using c11))
    clear c11
    by_cases c12 : t520 = t524
    ·rw [if_pos c12] at H
     have c12b0 : (t520 == t524) = true := beq_iff_eq.mpr c12
     have c12b1 : (t520 != t524) = false := bne_eq_false_iff_eq.mpr c12
     clear c12
     by_cases c13 : (t526 == t530 && (t527 == t531)) = true
     ·rw [if_pos c13] at H
      have c13b0 : (t526 == t530 && (t527 == t531)) = true := c13
      (try (have c13b1 : decide (t526 = t530 && (t527 == t531)) = true := by simpa using c13))
      (try (have c13b2 : (t526 == t530 && (t527 == t531)) = true := by simpa using c13))
      clear c13
      by_cases c14 : t528 = t532
      ·rw [if_pos c14] at H
       have c14b0 : (t528 == t532) = true := beq_iff_eq.mpr c14
       have c14b1 : (t528 != t532) = false := bne_eq_false_iff_eq.mpr c14
       clear c14
       replace H := Option.bind_eq_some_iff.mp H
       obtain ⟨t534, A150, H⟩ := H
       replace H : ((dioramaref04_Compare.f k a0_0 a0_1 a1_0 a1_1).bind fun t535 => (if t534 = t535 then ((ratio_Floor.f k a0_0 a0_1).bind fun t536 => ((dioramaref04_Floor.f k a0_0 a0_1).bind fun t537 => (if t536 = t537 then ((ratio_Text.f a0_0 a0_1).bind fun t538 => ((dioramaref04_Text.f k a0_0 a0_1).bind fun t539 => (some (t538.toList == t539.toList)))) else (some false)))) else (some false))) = some r := H
       have A15 := Aside0.mk A150
       clear A150
       replace H := Option.bind_eq_some_iff.mp H
       obtain ⟨t535, A160, H⟩ := H
       replace H : (if t534 = t535 then ((ratio_Floor.f k a0_0 a0_1).bind fun t536 => ((dioramaref04_Floor.f k a0_0 a0_1).bind fun t537 => (if t536 = t537 then ((ratio_Text.f a0_0 a0_1).bind fun t538 => ((dioramaref04_Text.f k a0_0 a0_1).bind fun t539 => (some (t538.toList == t539.toList)))) else (some false)))) else (some false)) = some r := H
       have A16 := Aside0.mk A160
       clear A160
       by_cases c17 : t534 = t535
       ·rw [if_pos c17] at H
        have c17b0 : (t534 == t535) = true := beq_iff_eq.mpr c17
        have c17b1 : (t534 != t535) = false := bne_eq_false_iff_eq.mpr c17
        clear c17
        replace H := Option.bind_eq_some_iff.mp H
        obtain ⟨t536, A180, H⟩ := H
        replace H : ((dioramaref04_Floor.f k a0_0 a0_1).bind fun t537 => (if t536 = t537 then ((ratio_Text.f a0_0 a0_1).bind fun t538 => ((dioramaref04_Text.f k a0_0 a0_1).bind fun t539 => (some (t538.toList == t539.toList)))) else (some false))) = some r := H
        have A18 := Aside0.mk A180
        clear A180
        replace H := Option.bind_eq_some_iff.mp H
        obtain ⟨t537, A190, H⟩ := H
        replace H : (if t536 = t537 then ((ratio_Text.f a0_0 a0_1).bind fun t538 => ((dioramaref04_Text.f k a0_0 a0_1).bind fun t539 => (some (t538.toList == t539.toList)))) else (some false)) = some r := H
        have A19 := Aside0.mk A190
        clear A190
        by_cases c20 : t536 = t537
        ·rw [if_pos c20] at H
         have c20b0 : (t536 == t537) = true := beq_iff_eq.mpr c20
         have c20b1 : (t536 != t537) = false := bne_eq_false_iff_eq.mpr c20
         clear c20
         replace H := Option.bind_eq_some_iff.mp H
         obtain ⟨t538, A210, H⟩ := H
         replace H : ((dioramaref04_Text.f k a0_0 a0_1).bind fun t539 => (some (t538.toList == t539.toList))) = some r := H
         have A21 := Aside0.mk A210
         clear A210
         replace H := Option.bind_eq_some_iff.mp H
         obtain ⟨t539, A220, H⟩ := H
         replace H : (some (t538.toList == t539.toList)) = some r := H
         have A22 := Aside0.mk A220
         clear A220
         obtain rfl := Option.some.inj H
         go_enter Tryd.func29, Tryd.ntmps29
         try go_wp2_with (first | ((with_reducible refine gate_dst (N := 2) rfl ?_); refine box_event ?hg (N := 2) ?hd (cs := #[.int .i64 a0_0, .int .i64 a0_1]) (t := 24) ?hr ?_; (case hd => rfl); (case hg => rfl); (case hr => first | (go_simp; done) | (go_simp; rfl)); intro gb508 hg w23 hbox hb; have BK508 := Aside0.mk (hbox); have GW508 := gw_ (w := w) hg; have GE508 := gw_ (w := w) hg; replace HB := Aside0.mk (below_step bl_ hb); clear hb hbox hg) | ((with_reducible refine gate_dst (N := 3) rfl ?_); refine box_event ?hg (N := 3) ?hd (cs := #[.int .i64 a1_0, .int .i64 a1_1]) (t := 24) ?hr ?_; (case hd => rfl); (case hg => rfl); (case hr => first | (go_simp; done) | (go_simp; rfl)); intro gb509 hg w24 hbox hb; have BK509 := Aside0.mk (hbox); have GW509 := gw_ (w := w) hg; have GE509 := gw_ (w := w) hg; have NB508_509 := nl_ BK508 hg; have NB509_508 := ng_ BK508 hg; replace BK508 := up_ BK508 hb; replace HB := Aside0.mk (below_step bl_ hb); clear hb hbox hg; have hnb25 := NB508_509.out; have hnc25 := NB509_508.out; have hcz26_0 : w24.cell? ⟨gb508, 0, none⟩ = some (.int .i64 a0_0) := (blk_cell BK508.out 0).trans rfl; have hcz26_1 : w24.cell? ⟨gb508, 1, none⟩ = some (.int .i64 a0_1) := (blk_cell BK508.out 1).trans rfl; have hfz26_0 := blk_frozen BK508.out 0; have hfz26_1 := blk_frozen BK508.out 1; have hcz27_0 : w24.cell? ⟨gb509, 0, none⟩ = some (.int .i64 a1_0) := (blk_cell BK509.out 0).trans rfl; have hcz27_1 : w24.cell? ⟨gb509, 1, none⟩ = some (.int .i64 a1_1) := (blk_cell BK509.out 1).trans rfl; have hfz27_0 := blk_frozen BK509.out 0; have hfz27_1 := blk_frozen BK509.out 1) | ((with_reducible refine gate_callee (f := 11) rfl ?_); refine goesL_ (some 20) rfl rfl Tryd.func11 (by kernel_rfl) rfl #[.agg #[.int .i64 a0_0, .int .i64 a0_1], .agg #[.int .i64 a1_0, .int .i64 a1_1]] rfl (by (try simp only [List.map_toArray, List.map_cons, List.map_nil]); first | done | rfl | (simp only [List.length_drop, List.length_take]; rfl)) ?_; (with_reducible refine (ratio_Add.calls k a0_0 a0_1 a1_0 a1_1 t510 t511 t512 _ A3.out).mono ?_); rintro e w28 ⟨rfl, hb⟩; refine ⟨_, rfl, ?_⟩; replace BK508 := up_ BK508 hb; replace BK509 := up_ BK509 hb; replace HB := Aside0.mk (below_step bl_ hb); (try clear hb); (try clear hb2); (try clear hk); (try clear hi)) | ((with_reducible refine gate_dst (N := 5) rfl ?_); refine box_event ?hg (N := 5) ?hd (cs := #[.int .i64 0, .int .i64 0]) (t := 24) ?hr ?_; (case hd => rfl); (case hg => rfl); (case hr => first | (go_simp; done) | (go_simp; rfl)); intro gb513 hg w29 hbox hb; have BK513 := Aside0.mk (hbox); have GW513 := gw_ (w := w) hg; have GE513 := gw_ (w := w) hg; have NB508_513 := nl_ BK508 hg; have NB513_508 := ng_ BK508 hg; have NB509_513 := nl_ BK509 hg; have NB513_509 := ng_ BK509 hg; replace BK508 := up_ BK508 hb; replace BK509 := up_ BK509 hb; replace HB := Aside0.mk (below_step bl_ hb); clear hb hbox hg; have hnb30 := NB513_508.out; have hnc30 := NB508_513.out; have hnb31 := NB513_509.out; have hnc31 := NB509_513.out; have hcz32_0 : w29.cell? ⟨gb513, 0, none⟩ = some (.int .i64 0) := (blk_cell BK513.out 0).trans rfl; have hcz32_1 : w29.cell? ⟨gb513, 1, none⟩ = some (.int .i64 0) := (blk_cell BK513.out 1).trans rfl; have hfz32_0 := blk_frozen BK513.out 0; have hfz32_1 := blk_frozen BK513.out 1; have hcz33_0 : w29.cell? ⟨gb508, 0, none⟩ = some (.int .i64 a0_0) := (blk_cell BK508.out 0).trans rfl; have hcz33_1 : w29.cell? ⟨gb508, 1, none⟩ = some (.int .i64 a0_1) := (blk_cell BK508.out 1).trans rfl; have hfz33_0 := blk_frozen BK508.out 0; have hfz33_1 := blk_frozen BK508.out 1; have hcz34_0 : w29.cell? ⟨gb509, 0, none⟩ = some (.int .i64 a1_0) := (blk_cell BK509.out 0).trans rfl; have hcz34_1 : w29.cell? ⟨gb509, 1, none⟩ = some (.int .i64 a1_1) := (blk_cell BK509.out 1).trans rfl; have hfz34_0 := blk_frozen BK509.out 0; have hfz34_1 := blk_frozen BK509.out 1) | ((with_reducible refine gate_callee (f := 42) rfl ?_); refine goesL_ (some 26) rfl rfl Tryd.func42 (by kernel_rfl) rfl #[.agg #[.int .i64 a0_0, .int .i64 a0_1], .agg #[.int .i64 a1_0, .int .i64 a1_1]] rfl (by (try simp only [List.map_toArray, List.map_cons, List.map_nil]); first | done | rfl | (simp only [List.length_drop, List.length_take]; rfl)) ?_; (with_reducible refine (dioramaref04_Add.calls k a0_0 a0_1 a1_0 a1_1 t514 t515 t516 _ A4.out).mono ?_); rintro e w35 ⟨rfl, hb⟩; refine ⟨_, rfl, ?_⟩; replace BK508 := up_ BK508 hb; replace BK509 := up_ BK509 hb; replace BK513 := up24_ gb513 t510 t511 hb; replace HB := Aside0.mk (below_step bl_ hb); (try clear hb); (try clear hb2); (try clear hk); (try clear hi)) | ((with_reducible refine gate_dst (N := 7) rfl ?_); refine box_event ?hg (N := 7) ?hd (cs := #[.int .i64 0, .int .i64 0]) (t := 24) ?hr ?_; (case hd => rfl); (case hg => rfl); (case hr => first | (go_simp; done) | (go_simp; rfl)); intro gb517 hg w36 hbox hb; have BK517 := Aside0.mk (hbox); have GW517 := gw_ (w := w) hg; have GE517 := gw_ (w := w) hg; have NB508_517 := nl_ BK508 hg; have NB517_508 := ng_ BK508 hg; have NB509_517 := nl_ BK509 hg; have NB517_509 := ng_ BK509 hg; have NB513_517 := nl_ BK513 hg; have NB517_513 := ng_ BK513 hg; replace BK508 := up_ BK508 hb; replace BK509 := up_ BK509 hb; replace BK513 := up_ BK513 hb; replace HB := Aside0.mk (below_step bl_ hb); clear hb hbox hg; have hnb37 := NB517_508.out; have hnc37 := NB508_517.out; have hnb38 := NB517_509.out; have hnc38 := NB509_517.out; have hnb39 := NB517_513.out; have hnc39 := NB513_517.out; have hcz40_0 : w36.cell? ⟨gb517, 0, none⟩ = some (.int .i64 0) := (blk_cell BK517.out 0).trans rfl; have hcz40_1 : w36.cell? ⟨gb517, 1, none⟩ = some (.int .i64 0) := (blk_cell BK517.out 1).trans rfl; have hfz40_0 := blk_frozen BK517.out 0; have hfz40_1 := blk_frozen BK517.out 1; have hcz41_0 : w36.cell? ⟨gb508, 0, none⟩ = some (.int .i64 a0_0) := (blk_cell BK508.out 0).trans rfl; have hcz41_1 : w36.cell? ⟨gb508, 1, none⟩ = some (.int .i64 a0_1) := (blk_cell BK508.out 1).trans rfl; have hfz41_0 := blk_frozen BK508.out 0; have hfz41_1 := blk_frozen BK508.out 1; have hcz42_0 : w36.cell? ⟨gb509, 0, none⟩ = some (.int .i64 a1_0) := (blk_cell BK509.out 0).trans rfl; have hcz42_1 : w36.cell? ⟨gb509, 1, none⟩ = some (.int .i64 a1_1) := (blk_cell BK509.out 1).trans rfl; have hfz42_0 := blk_frozen BK509.out 0; have hfz42_1 := blk_frozen BK509.out 1) | ((with_reducible refine gate_callee (f := 13) rfl ?_); refine goesL_ (some 32) rfl rfl Tryd.func13 (by kernel_rfl) rfl #[.agg #[.int .i64 a0_0, .int .i64 a0_1], .agg #[.int .i64 a1_0, .int .i64 a1_1]] rfl (by (try simp only [List.map_toArray, List.map_cons, List.map_nil]); first | done | rfl | (simp only [List.length_drop, List.length_take]; rfl)) ?_; (with_reducible refine (ratio_Sub.calls k a0_0 a0_1 a1_0 a1_1 t518 t519 t520 _ A5.out).mono ?_); rintro e w43 ⟨rfl, hb⟩; refine ⟨_, rfl, ?_⟩; replace BK508 := up_ BK508 hb; replace BK509 := up_ BK509 hb; replace BK513 := up_ BK513 hb; replace BK517 := up24_ gb517 t514 t515 hb; replace HB := Aside0.mk (below_step bl_ hb); (try clear hb); (try clear hb2); (try clear hk); (try clear hi)) | ((with_reducible refine gate_dst (N := 9) rfl ?_); refine box_event ?hg (N := 9) ?hd (cs := #[.int .i64 0, .int .i64 0]) (t := 24) ?hr ?_; (case hd => rfl); (case hg => rfl); (case hr => first | (go_simp; done) | (go_simp; rfl)); intro gb521 hg w44 hbox hb; have BK521 := Aside0.mk (hbox); have GW521 := gw_ (w := w) hg; have GE521 := gw_ (w := w) hg; have NB508_521 := nl_ BK508 hg; have NB521_508 := ng_ BK508 hg; have NB509_521 := nl_ BK509 hg; have NB521_509 := ng_ BK509 hg; have NB513_521 := nl_ BK513 hg; have NB521_513 := ng_ BK513 hg; have NB517_521 := nl_ BK517 hg; have NB521_517 := ng_ BK517 hg; replace BK508 := up_ BK508 hb; replace BK509 := up_ BK509 hb; replace BK513 := up_ BK513 hb; replace BK517 := up_ BK517 hb; replace HB := Aside0.mk (below_step bl_ hb); clear hb hbox hg; have hnb45 := NB521_508.out; have hnc45 := NB508_521.out; have hnb46 := NB521_509.out; have hnc46 := NB509_521.out; have hnb47 := NB521_513.out; have hnc47 := NB513_521.out; have hnb48 := NB521_517.out; have hnc48 := NB517_521.out; have hcz49_0 : w44.cell? ⟨gb521, 0, none⟩ = some (.int .i64 0) := (blk_cell BK521.out 0).trans rfl; have hcz49_1 : w44.cell? ⟨gb521, 1, none⟩ = some (.int .i64 0) := (blk_cell BK521.out 1).trans rfl; have hfz49_0 := blk_frozen BK521.out 0; have hfz49_1 := blk_frozen BK521.out 1; have hcz50_0 : w44.cell? ⟨gb508, 0, none⟩ = some (.int .i64 a0_0) := (blk_cell BK508.out 0).trans rfl; have hcz50_1 : w44.cell? ⟨gb508, 1, none⟩ = some (.int .i64 a0_1) := (blk_cell BK508.out 1).trans rfl; have hfz50_0 := blk_frozen BK508.out 0; have hfz50_1 := blk_frozen BK508.out 1; have hcz51_0 : w44.cell? ⟨gb509, 0, none⟩ = some (.int .i64 a1_0) := (blk_cell BK509.out 0).trans rfl; have hcz51_1 : w44.cell? ⟨gb509, 1, none⟩ = some (.int .i64 a1_1) := (blk_cell BK509.out 1).trans rfl; have hfz51_0 := blk_frozen BK509.out 0; have hfz51_1 := blk_frozen BK509.out 1) | ((with_reducible refine gate_callee (f := 43) rfl ?_); refine goesL_ (some 38) rfl rfl Tryd.func43 (by kernel_rfl) rfl #[.agg #[.int .i64 a0_0, .int .i64 a0_1], .agg #[.int .i64 a1_0, .int .i64 a1_1]] rfl (by (try simp only [List.map_toArray, List.map_cons, List.map_nil]); first | done | rfl | (simp only [List.length_drop, List.length_take]; rfl)) ?_; (with_reducible refine (dioramaref04_Sub.calls k a0_0 a0_1 a1_0 a1_1 t522 t523 t524 _ A6.out).mono ?_); rintro e w52 ⟨rfl, hb⟩; refine ⟨_, rfl, ?_⟩; replace BK508 := up_ BK508 hb; replace BK509 := up_ BK509 hb; replace BK513 := up_ BK513 hb; replace BK517 := up_ BK517 hb; replace BK521 := up24_ gb521 t518 t519 hb; replace HB := Aside0.mk (below_step bl_ hb); (try clear hb); (try clear hb2); (try clear hk); (try clear hi)) | ((with_reducible refine gate_dst (N := 11) rfl ?_); refine box_event ?hg (N := 11) ?hd (cs := #[.int .i64 0, .int .i64 0]) (t := 24) ?hr ?_; (case hd => rfl); (case hg => rfl); (case hr => first | (go_simp; done) | (go_simp; rfl)); intro gb525 hg w53 hbox hb; have BK525 := Aside0.mk (hbox); have GW525 := gw_ (w := w) hg; have GE525 := gw_ (w := w) hg; have NB508_525 := nl_ BK508 hg; have NB525_508 := ng_ BK508 hg; have NB509_525 := nl_ BK509 hg; have NB525_509 := ng_ BK509 hg; have NB513_525 := nl_ BK513 hg; have NB525_513 := ng_ BK513 hg; have NB517_525 := nl_ BK517 hg; have NB525_517 := ng_ BK517 hg; have NB521_525 := nl_ BK521 hg; have NB525_521 := ng_ BK521 hg; replace BK508 := up_ BK508 hb; replace BK509 := up_ BK509 hb; replace BK513 := up_ BK513 hb; replace BK517 := up_ BK517 hb; replace BK521 := up_ BK521 hb; replace HB := Aside0.mk (below_step bl_ hb); clear hb hbox hg; have hnb54 := NB525_508.out; have hnc54 := NB508_525.out; have hnb55 := NB525_509.out; have hnc55 := NB509_525.out; have hnb56 := NB525_513.out; have hnc56 := NB513_525.out; have hnb57 := NB525_517.out; have hnc57 := NB517_525.out; have hnb58 := NB525_521.out; have hnc58 := NB521_525.out; have hcz59_0 : w53.cell? ⟨gb525, 0, none⟩ = some (.int .i64 0) := (blk_cell BK525.out 0).trans rfl; have hcz59_1 : w53.cell? ⟨gb525, 1, none⟩ = some (.int .i64 0) := (blk_cell BK525.out 1).trans rfl; have hfz59_0 := blk_frozen BK525.out 0; have hfz59_1 := blk_frozen BK525.out 1; have hcz60_0 : w53.cell? ⟨gb508, 0, none⟩ = some (.int .i64 a0_0) := (blk_cell BK508.out 0).trans rfl; have hcz60_1 : w53.cell? ⟨gb508, 1, none⟩ = some (.int .i64 a0_1) := (blk_cell BK508.out 1).trans rfl; have hfz60_0 := blk_frozen BK508.out 0; have hfz60_1 := blk_frozen BK508.out 1; have hcz61_0 : w53.cell? ⟨gb509, 0, none⟩ = some (.int .i64 a1_0) := (blk_cell BK509.out 0).trans rfl; have hcz61_1 : w53.cell? ⟨gb509, 1, none⟩ = some (.int .i64 a1_1) := (blk_cell BK509.out 1).trans rfl; have hfz61_0 := blk_frozen BK509.out 0; have hfz61_1 := blk_frozen BK509.out 1) | ((with_reducible refine gate_callee (f := 12) rfl ?_); refine goesL_ (some 44) rfl rfl Tryd.func12 (by kernel_rfl) rfl #[.agg #[.int .i64 a0_0, .int .i64 a0_1], .agg #[.int .i64 a1_0, .int .i64 a1_1]] rfl (by (try simp only [List.map_toArray, List.map_cons, List.map_nil]); first | done | rfl | (simp only [List.length_drop, List.length_take]; rfl)) ?_; (with_reducible refine (ratio_Mul.calls k a0_0 a0_1 a1_0 a1_1 t526 t527 t528 _ A7.out).mono ?_); rintro e w62 ⟨rfl, hb⟩; refine ⟨_, rfl, ?_⟩; replace BK508 := up_ BK508 hb; replace BK509 := up_ BK509 hb; replace BK513 := up_ BK513 hb; replace BK517 := up_ BK517 hb; replace BK521 := up_ BK521 hb; replace BK525 := up24_ gb525 t522 t523 hb; replace HB := Aside0.mk (below_step bl_ hb); (try clear hb); (try clear hb2); (try clear hk); (try clear hi)) | ((with_reducible refine gate_dst (N := 13) rfl ?_); refine box_event ?hg (N := 13) ?hd (cs := #[.int .i64 0, .int .i64 0]) (t := 24) ?hr ?_; (case hd => rfl); (case hg => rfl); (case hr => first | (go_simp; done) | (go_simp; rfl)); intro gb529 hg w63 hbox hb; have BK529 := Aside0.mk (hbox); have GW529 := gw_ (w := w) hg; have GE529 := gw_ (w := w) hg; have NB508_529 := nl_ BK508 hg; have NB529_508 := ng_ BK508 hg; have NB509_529 := nl_ BK509 hg; have NB529_509 := ng_ BK509 hg; have NB513_529 := nl_ BK513 hg; have NB529_513 := ng_ BK513 hg; have NB517_529 := nl_ BK517 hg; have NB529_517 := ng_ BK517 hg; have NB521_529 := nl_ BK521 hg; have NB529_521 := ng_ BK521 hg; have NB525_529 := nl_ BK525 hg; have NB529_525 := ng_ BK525 hg; replace BK508 := up_ BK508 hb; replace BK509 := up_ BK509 hb; replace BK513 := up_ BK513 hb; replace BK517 := up_ BK517 hb; replace BK521 := up_ BK521 hb; replace BK525 := up_ BK525 hb; replace HB := Aside0.mk (below_step bl_ hb); clear hb hbox hg; have hnb64 := NB529_508.out; have hnc64 := NB508_529.out; have hnb65 := NB529_509.out; have hnc65 := NB509_529.out; have hnb66 := NB529_513.out; have hnc66 := NB513_529.out; have hnb67 := NB529_517.out; have hnc67 := NB517_529.out; have hnb68 := NB529_521.out; have hnc68 := NB521_529.out; have hnb69 := NB529_525.out; have hnc69 := NB525_529.out; have hcz70_0 : w63.cell? ⟨gb529, 0, none⟩ = some (.int .i64 0) := (blk_cell BK529.out 0).trans rfl; have hcz70_1 : w63.cell? ⟨gb529, 1, none⟩ = some (.int .i64 0) := (blk_cell BK529.out 1).trans rfl; have hfz70_0 := blk_frozen BK529.out 0; have hfz70_1 := blk_frozen BK529.out 1; have hcz71_0 : w63.cell? ⟨gb508, 0, none⟩ = some (.int .i64 a0_0) := (blk_cell BK508.out 0).trans rfl; have hcz71_1 : w63.cell? ⟨gb508, 1, none⟩ = some (.int .i64 a0_1) := (blk_cell BK508.out 1).trans rfl; have hfz71_0 := blk_frozen BK508.out 0; have hfz71_1 := blk_frozen BK508.out 1; have hcz72_0 : w63.cell? ⟨gb509, 0, none⟩ = some (.int .i64 a1_0) := (blk_cell BK509.out 0).trans rfl; have hcz72_1 : w63.cell? ⟨gb509, 1, none⟩ = some (.int .i64 a1_1) := (blk_cell BK509.out 1).trans rfl; have hfz72_0 := blk_frozen BK509.out 0; have hfz72_1 := blk_frozen BK509.out 1) | ((with_reducible refine gate_callee (f := 44) rfl ?_); refine goesL_ (some 50) rfl rfl Tryd.func44 (by kernel_rfl) rfl #[.agg #[.int .i64 a0_0, .int .i64 a0_1], .agg #[.int .i64 a1_0, .int .i64 a1_1]] rfl (by (try simp only [List.map_toArray, List.map_cons, List.map_nil]); first | done | rfl | (simp only [List.length_drop, List.length_take]; rfl)) ?_; (with_reducible refine (dioramaref04_Mul.calls k a0_0 a0_1 a1_0 a1_1 t530 t531 t532 _ A8.out).mono ?_); rintro e w73 ⟨rfl, hb⟩; refine ⟨_, rfl, ?_⟩; replace BK508 := up_ BK508 hb; replace BK509 := up_ BK509 hb; replace BK513 := up_ BK513 hb; replace BK517 := up_ BK517 hb; replace BK521 := up_ BK521 hb; replace BK525 := up_ BK525 hb; replace BK529 := up24_ gb529 t526 t527 hb; replace HB := Aside0.mk (below_step bl_ hb); (try clear hb); (try clear hb2); (try clear hk); (try clear hi)) | ((with_reducible refine gate_dst (N := 15) rfl ?_); refine box_event ?hg (N := 15) ?hd (cs := #[.int .i64 0, .int .i64 0]) (t := 24) ?hr ?_; (case hd => rfl); (case hg => rfl); (case hr => first | (go_simp; done) | (go_simp; rfl)); intro gb533 hg w74 hbox hb; have BK533 := Aside0.mk (hbox); have GW533 := gw_ (w := w) hg; have GE533 := gw_ (w := w) hg; have NB508_533 := nl_ BK508 hg; have NB533_508 := ng_ BK508 hg; have NB509_533 := nl_ BK509 hg; have NB533_509 := ng_ BK509 hg; have NB513_533 := nl_ BK513 hg; have NB533_513 := ng_ BK513 hg; have NB517_533 := nl_ BK517 hg; have NB533_517 := ng_ BK517 hg; have NB521_533 := nl_ BK521 hg; have NB533_521 := ng_ BK521 hg; have NB525_533 := nl_ BK525 hg; have NB533_525 := ng_ BK525 hg; have NB529_533 := nl_ BK529 hg; have NB533_529 := ng_ BK529 hg; replace BK508 := up_ BK508 hb; replace BK509 := up_ BK509 hb; replace BK513 := up_ BK513 hb; replace BK517 := up_ BK517 hb; replace BK521 := up_ BK521 hb; replace BK525 := up_ BK525 hb; replace BK529 := up_ BK529 hb; replace HB := Aside0.mk (below_step bl_ hb); clear hb hbox hg; have hnb75 := NB533_508.out; have hnc75 := NB508_533.out; have hnb76 := NB533_509.out; have hnc76 := NB509_533.out; have hnb77 := NB533_513.out; have hnc77 := NB513_533.out; have hnb78 := NB533_517.out; have hnc78 := NB517_533.out; have hnb79 := NB533_521.out; have hnc79 := NB521_533.out; have hnb80 := NB533_525.out; have hnc80 := NB525_533.out; have hnb81 := NB533_529.out; have hnc81 := NB529_533.out; have hcz82_0 : w74.cell? ⟨gb533, 0, none⟩ = some (.int .i64 0) := (blk_cell BK533.out 0).trans rfl; have hcz82_1 : w74.cell? ⟨gb533, 1, none⟩ = some (.int .i64 0) := (blk_cell BK533.out 1).trans rfl; have hfz82_0 := blk_frozen BK533.out 0; have hfz82_1 := blk_frozen BK533.out 1))
         have n0_ : Aside0 (((w74.setCell ⟨gb533, 0, none⟩ (.int .i64 t530)).setCell ⟨gb533, 1, none⟩ (.int .i64 t531)).heap[gb508]? = some (.cells #[.int .i64 a0_0, .int .i64 a0_1] 24 (0, 0))) := ⟨pk_⟩
         have n1_ : Aside0 (((w74.setCell ⟨gb533, 0, none⟩ (.int .i64 t530)).setCell ⟨gb533, 1, none⟩ (.int .i64 t531)).heap[gb509]? = some (.cells #[.int .i64 a1_0, .int .i64 a1_1] 24 (0, 0))) := ⟨pk_⟩
         have n2_ : Aside0 (((w74.setCell ⟨gb533, 0, none⟩ (.int .i64 t530)).setCell ⟨gb533, 1, none⟩ (.int .i64 t531)).heap[gb513]? = some (.cells #[.int .i64 t510, .int .i64 t511] 24 (0, 0))) := ⟨pk_⟩
         have n3_ : Aside0 (((w74.setCell ⟨gb533, 0, none⟩ (.int .i64 t530)).setCell ⟨gb533, 1, none⟩ (.int .i64 t531)).heap[gb517]? = some (.cells #[.int .i64 t514, .int .i64 t515] 24 (0, 0))) := ⟨pk_⟩
         have n4_ : Aside0 (((w74.setCell ⟨gb533, 0, none⟩ (.int .i64 t530)).setCell ⟨gb533, 1, none⟩ (.int .i64 t531)).heap[gb521]? = some (.cells #[.int .i64 t518, .int .i64 t519] 24 (0, 0))) := ⟨pk_⟩
         have n5_ : Aside0 (((w74.setCell ⟨gb533, 0, none⟩ (.int .i64 t530)).setCell ⟨gb533, 1, none⟩ (.int .i64 t531)).heap[gb525]? = some (.cells #[.int .i64 t522, .int .i64 t523] 24 (0, 0))) := ⟨pk_⟩
         have n6_ : Aside0 (((w74.setCell ⟨gb533, 0, none⟩ (.int .i64 t530)).setCell ⟨gb533, 1, none⟩ (.int .i64 t531)).heap[gb529]? = some (.cells #[.int .i64 t526, .int .i64 t527] 24 (0, 0))) := ⟨pk_⟩
         have n7_ : Aside0 (((w74.setCell ⟨gb533, 0, none⟩ (.int .i64 t530)).setCell ⟨gb533, 1, none⟩ (.int .i64 t531)).heap[gb533]? = some (.cells #[.int .i64 t530, .int .i64 t531] 24 (0, 0))) := ⟨pk_⟩
         have n8_ : Aside0 (Below w.heap.size w ((w74.setCell ⟨gb533, 0, none⟩ (.int .i64 t530)).setCell ⟨gb533, 1, none⟩ (.int .i64 t531))) := ⟨bl_⟩
         (try clear BK508); (try clear BK509); (try clear BK513); (try clear BK517); (try clear BK521); (try clear BK525); (try clear BK529); (try clear BK533); (try clear HB)
         generalize ((w74.setCell ⟨gb533, 0, none⟩ (.int .i64 t530)).setCell ⟨gb533, 1, none⟩ (.int .i64 t531)) = w83 at n0_ n1_ n2_ n3_ n4_ n5_ n6_ n7_ n8_ ⊢
         have BK508 := n0_
         have BK509 := n1_
         have BK513 := n2_
         have BK517 := n3_
         have BK521 := n4_
         have BK525 := n5_
         have BK529 := n6_
         have BK533 := n7_
         have HB := n8_
         clear n0_ n1_ n2_ n3_ n4_ n5_ n6_ n7_ n8_
         have n0_ := Aside0.mk (blk_drew BK508.out)
         have n1_ := Aside0.mk (blk_drew BK509.out)
         have n2_ := Aside0.mk (blk_drew BK513.out)
         have n3_ := Aside0.mk (blk_drew BK517.out)
         have n4_ := Aside0.mk (blk_drew BK521.out)
         have n5_ := Aside0.mk (blk_drew BK525.out)
         have n6_ := Aside0.mk (blk_drew BK529.out)
         have n7_ := Aside0.mk (blk_drew BK533.out)
         have n8_ := Aside0.mk (below_drew1 HB.out)
         clear BK508; clear BK509; clear BK513; clear BK517; clear BK521; clear BK525; clear BK529; clear BK533; clear HB
         have BK508 := n0_
         have BK509 := n1_
         have BK513 := n2_
         have BK517 := n3_
         have BK521 := n4_
         have BK525 := n5_
         have BK529 := n6_
         have BK533 := n7_
         have HB := n8_
         clear n0_ n1_ n2_ n3_ n4_ n5_ n6_ n7_ n8_
         refine start_ (n := 52) (S := fun w' => w'.cell? ⟨gb513, 0, none⟩ = some (.int .i64 t510) ∧ w'.cell? ⟨gb513, 1, none⟩ = some (.int .i64 t511) ∧ w'.cell? ⟨gb517, 0, none⟩ = some (.int .i64 t514) ∧ w'.cell? ⟨gb517, 1, none⟩ = some (.int .i64 t515) ∧ w'.cell? ⟨gb521, 0, none⟩ = some (.int .i64 t518) ∧ w'.cell? ⟨gb521, 1, none⟩ = some (.int .i64 t519) ∧ w'.cell? ⟨gb525, 0, none⟩ = some (.int .i64 t522) ∧ w'.cell? ⟨gb525, 1, none⟩ = some (.int .i64 t523) ∧ w'.cell? ⟨gb529, 0, none⟩ = some (.int .i64 t526) ∧ w'.cell? ⟨gb529, 1, none⟩ = some (.int .i64 t527) ∧ w'.cell? ⟨gb533, 0, none⟩ = some (.int .i64 t530) ∧ w'.cell? ⟨gb533, 1, none⟩ = some (.int .i64 t531) ∧ w'.cell? ⟨gb508, 0, none⟩ = some (.int .i64 a0_0) ∧ w'.cell? ⟨gb508, 1, none⟩ = some (.int .i64 a0_1) ∧ w'.cell? ⟨gb509, 0, none⟩ = some (.int .i64 a1_0) ∧ w'.cell? ⟨gb509, 1, none⟩ = some (.int .i64 a1_1)) (ds := []) #[false, false, false, false, false, false, false, false, false, false, false, false, false, false, false, false, false, false, false, false, false, false, false, false, false, false, false, false, false, false, false, false, false, false, false, false, false, false, false, false, false, false, false, false, false, false, false, false, false, false, false, false] (by kernel_rfl) rfl rfl ⟨(blk_cell BK513.out 0).trans rfl, (blk_cell BK513.out 1).trans rfl, (blk_cell BK517.out 0).trans rfl, (blk_cell BK517.out 1).trans rfl, (blk_cell BK521.out 0).trans rfl, (blk_cell BK521.out 1).trans rfl, (blk_cell BK525.out 0).trans rfl, (blk_cell BK525.out 1).trans rfl, (blk_cell BK529.out 0).trans rfl, (blk_cell BK529.out 1).trans rfl, (blk_cell BK533.out 0).trans rfl, (blk_cell BK533.out 1).trans rfl, (blk_cell BK508.out 0).trans rfl, (blk_cell BK508.out 1).trans rfl, (blk_cell BK509.out 0).trans rfl, (blk_cell BK509.out 1).trans rfl⟩ (fun hHeld => ?_); refine with_tabW dioramalaw04_same.tab7 dioramalaw04_same.bits7 (fun HT_ HW_ => ?_)
         generalize w83.drew = w84 at BK508 BK509 BK513 BK517 BK521 BK525 BK529 BK533 HB hHeld ⊢
         refine take_ (i := 0) (N := some 53) (v := ?_) (a' := ?_) #[true, false, false, false, false, false, false, false, false, false, false, false, false, false, false, false, false, false, false, false, false, false, false, false, false, false, false, false, false, false, false, false, false, false, false, false, false, false, false, false, false, false, false, false, false, false, false, false, false, false, false, false] rfl rfl (take_ofW HT_.out HW_.out (by kernel_rfl)) (fun _ _ _ h => h) (Or.inl ⟨by rfl, ?_⟩) hHeld ?_ ?_
         rotate_left
         ·rintro w' ⟨s0, s1, s2, s3, s4, s5, s6, s7, s8, s9, s10, s11, s12, s13, s14, s15⟩
          go_simp
          with_reducible rfl
         rotate_left
         ·simp only [Act.put, List.setIfInBounds_toArray, List.set_cons_zero, List.set_cons_succ, i64_w, i32_w]
          rfl
         refine take_ (i := 1) (N := some 54) (v := ?_) (a' := ?_) #[true, true, false, false, false, false, false, false, false, false, false, false, false, false, false, false, false, false, false, false, false, false, false, false, false, false, false, false, false, false, false, false, false, false, false, false, false, false, false, false, false, false, false, false, false, false, false, false, false, false, false, false] rfl rfl (take_ofW HT_.out HW_.out (by kernel_rfl)) (fun _ _ _ h => h) (Or.inl ⟨by rfl, ?_⟩) hHeld ?_ ?_
         rotate_left
         ·rintro w' ⟨s0, s1, s2, s3, s4, s5, s6, s7, s8, s9, s10, s11, s12, s13, s14, s15⟩
          go_simp
          with_reducible rfl
         rotate_left
         ·simp only [Act.put, List.setIfInBounds_toArray, List.set_cons_zero, List.set_cons_succ, i64_w, i32_w]
          rfl
         refine pure_ (i := 2) (N := some 55) (v := ?_) (a' := ?_) #[true, true, true, false, false, false, false, false, false, false, false, false, false, false, false, false, false, false, false, false, false, false, false, false, false, false, false, false, false, false, false, false, false, false, false, false, false, false, false, false, false, false, false, false, false, false, false, false, false, false, false, false] rfl rfl (any_of HT_.out (by kernel_rfl)) (fun _ _ _ h => h) (Or.inl ⟨by rfl, ?_⟩) ?_ ?_
         rotate_left
         ·intro w'
          go_simp
          with_reducible rfl
         rotate_left
         ·simp only [Act.put, List.setIfInBounds_toArray, List.set_cons_zero, List.set_cons_succ, i64_w, i32_w]
          rfl
         refine pure_ (i := 3) (N := some 56) (v := ?_) (a' := ?_) #[true, true, true, true, false, false, false, false, false, false, false, false, false, false, false, false, false, false, false, false, false, false, false, false, false, false, false, false, false, false, false, false, false, false, false, false, false, false, false, false, false, false, false, false, false, false, false, false, false, false, false, false] rfl rfl (any_of HT_.out (by kernel_rfl)) (fun _ _ _ h => h) (Or.inl ⟨by rfl, ?_⟩) ?_ ?_
         rotate_left
         ·intro w'
          go_simp
          with_reducible rfl
         rotate_left
         ·simp only [Act.put, List.setIfInBounds_toArray, List.set_cons_zero, List.set_cons_succ, i64_w, i32_w]
          rfl
         refine pure_ (i := 4) (N := some 57) (v := ?_) (a' := ?_) #[true, true, true, true, true, false, false, false, false, false, false, false, false, false, false, false, false, false, false, false, false, false, false, false, false, false, false, false, false, false, false, false, false, false, false, false, false, false, false, false, false, false, false, false, false, false, false, false, false, false, false, false] rfl rfl (any_of HT_.out (by kernel_rfl)) (fun _ _ _ h => h) (Or.inl ⟨by rfl, ?_⟩) ?_ ?_
         rotate_left
         ·intro w'
          go_simp
          with_reducible rfl
         rotate_left
         ·simp only [Act.put, List.setIfInBounds_toArray, List.set_cons_zero, List.set_cons_succ, i64_w, i32_w]
          rfl
         refine pure_ (i := 5) (N := some 58) (v := ?_) (a' := ?_) #[true, true, true, true, true, true, false, false, false, false, false, false, false, false, false, false, false, false, false, false, false, false, false, false, false, false, false, false, false, false, false, false, false, false, false, false, false, false, false, false, false, false, false, false, false, false, false, false, false, false, false, false] rfl rfl (any_of HT_.out (by kernel_rfl)) (fun _ _ _ h => h) (Or.inl ⟨by rfl, ?_⟩) ?_ ?_
         rotate_left
         ·intro w'
          go_simp
          with_reducible rfl
         rotate_left
         ·simp only [Act.put, List.setIfInBounds_toArray, List.set_cons_zero, List.set_cons_succ, i64_w, i32_w]
          rfl
         refine pure_ (i := 6) (N := some 59) (v := ?_) (a' := ?_) #[true, true, true, true, true, true, true, false, false, false, false, false, false, false, false, false, false, false, false, false, false, false, false, false, false, false, false, false, false, false, false, false, false, false, false, false, false, false, false, false, false, false, false, false, false, false, false, false, false, false, false, false] rfl rfl (any_of HT_.out (by kernel_rfl)) (fun _ _ _ h => h) (Or.inl ⟨by rfl, ?_⟩) ?_ ?_
         rotate_left
         ·intro w'
          go_simp
          with_reducible rfl
         rotate_left
         ·simp only [Act.put, List.setIfInBounds_toArray, List.set_cons_zero, List.set_cons_succ, i64_w, i32_w]
          rfl
         refine pure_ (i := 7) (N := some 60) (v := ?_) (a' := ?_) #[true, true, true, true, true, true, true, true, false, false, false, false, false, false, false, false, false, false, false, false, false, false, false, false, false, false, false, false, false, false, false, false, false, false, false, false, false, false, false, false, false, false, false, false, false, false, false, false, false, false, false, false] rfl rfl (any_of HT_.out (by kernel_rfl)) (fun _ _ _ h => h) (Or.inl ⟨by rfl, ?_⟩) ?_ ?_
         rotate_left
         ·intro w'
          go_simp
          with_reducible rfl
         rotate_left
         ·simp only [Act.put, List.setIfInBounds_toArray, List.set_cons_zero, List.set_cons_succ, i64_w, i32_w]
          rfl
         refine pure_ (i := 8) (N := some 61) (v := ?_) (a' := ?_) #[true, true, true, true, true, true, true, true, true, false, false, false, false, false, false, false, false, false, false, false, false, false, false, false, false, false, false, false, false, false, false, false, false, false, false, false, false, false, false, false, false, false, false, false, false, false, false, false, false, false, false, false] rfl rfl (any_of HT_.out (by kernel_rfl)) (fun _ _ _ h => h) (Or.inl ⟨by rfl, ?_⟩) ?_ ?_
         rotate_left
         ·intro w'
          go_simp
          with_reducible rfl
         rotate_left
         ·simp only [Act.put, List.setIfInBounds_toArray, List.set_cons_zero, List.set_cons_succ, i64_w, i32_w]
          rfl
         refine take_ (i := 9) (N := some 62) (v := ?_) (a' := ?_) #[true, true, true, true, true, true, true, true, true, true, false, false, false, false, false, false, false, false, false, false, false, false, false, false, false, false, false, false, false, false, false, false, false, false, false, false, false, false, false, false, false, false, false, false, false, false, false, false, false, false, false, false] rfl rfl (take_ofW HT_.out HW_.out (by kernel_rfl)) (fun _ _ _ h => h) (Or.inl ⟨by rfl, ?_⟩) hHeld ?_ ?_
         rotate_left
         ·rintro w' ⟨s0, s1, s2, s3, s4, s5, s6, s7, s8, s9, s10, s11, s12, s13, s14, s15⟩
          go_simp
          with_reducible rfl
         rotate_left
         ·simp only [Act.put, List.setIfInBounds_toArray, List.set_cons_zero, List.set_cons_succ, i64_w, i32_w]
          rfl
         refine take_ (i := 10) (N := some 63) (v := ?_) (a' := ?_) #[true, true, true, true, true, true, true, true, true, true, true, false, false, false, false, false, false, false, false, false, false, false, false, false, false, false, false, false, false, false, false, false, false, false, false, false, false, false, false, false, false, false, false, false, false, false, false, false, false, false, false, false] rfl rfl (take_ofW HT_.out HW_.out (by kernel_rfl)) (fun _ _ _ h => h) (Or.inl ⟨by rfl, ?_⟩) hHeld ?_ ?_
         rotate_left
         ·rintro w' ⟨s0, s1, s2, s3, s4, s5, s6, s7, s8, s9, s10, s11, s12, s13, s14, s15⟩
          go_simp
          with_reducible rfl
         rotate_left
         ·simp only [Act.put, List.setIfInBounds_toArray, List.set_cons_zero, List.set_cons_succ, i64_w, i32_w]
          rfl
         refine pure_ (i := 11) (N := some 64) (v := ?_) (a' := ?_) #[true, true, true, true, true, true, true, true, true, true, true, true, false, false, false, false, false, false, false, false, false, false, false, false, false, false, false, false, false, false, false, false, false, false, false, false, false, false, false, false, false, false, false, false, false, false, false, false, false, false, false, false] rfl rfl (any_of HT_.out (by kernel_rfl)) (fun _ _ _ h => h) (Or.inl ⟨by rfl, ?_⟩) ?_ ?_
         rotate_left
         ·intro w'
          go_simp
          with_reducible rfl
         rotate_left
         ·simp only [Act.put, List.setIfInBounds_toArray, List.set_cons_zero, List.set_cons_succ, i64_w, i32_w]
          rfl
         refine pure_ (i := 12) (N := some 65) (v := ?_) (a' := ?_) #[true, true, true, true, true, true, true, true, true, true, true, true, true, false, false, false, false, false, false, false, false, false, false, false, false, false, false, false, false, false, false, false, false, false, false, false, false, false, false, false, false, false, false, false, false, false, false, false, false, false, false, false] rfl rfl (any_of HT_.out (by kernel_rfl)) (fun _ _ _ h => h) (Or.inl ⟨by rfl, ?_⟩) ?_ ?_
         rotate_left
         ·intro w'
          go_simp
          with_reducible rfl
         rotate_left
         ·simp only [Act.put, List.setIfInBounds_toArray, List.set_cons_zero, List.set_cons_succ, i64_w, i32_w]
          rfl
         refine pure_ (i := 13) (N := some 66) (v := ?_) (a' := ?_) #[true, true, true, true, true, true, true, true, true, true, true, true, true, true, false, false, false, false, false, false, false, false, false, false, false, false, false, false, false, false, false, false, false, false, false, false, false, false, false, false, false, false, false, false, false, false, false, false, false, false, false, false] rfl rfl (any_of HT_.out (by kernel_rfl)) (fun _ _ _ h => h) (Or.inl ⟨by rfl, ?_⟩) ?_ ?_
         rotate_left
         ·intro w'
          go_simp
          with_reducible rfl
         rotate_left
         ·simp only [Act.put, List.setIfInBounds_toArray, List.set_cons_zero, List.set_cons_succ, i64_w, i32_w]
          rfl
         refine pure_ (i := 14) (N := some 67) (v := ?_) (a' := ?_) #[true, true, true, true, true, true, true, true, true, true, true, true, true, true, true, false, false, false, false, false, false, false, false, false, false, false, false, false, false, false, false, false, false, false, false, false, false, false, false, false, false, false, false, false, false, false, false, false, false, false, false, false] rfl rfl (any_of HT_.out (by kernel_rfl)) (fun _ _ _ h => h) (Or.inl ⟨by rfl, ?_⟩) ?_ ?_
         rotate_left
         ·intro w'
          go_simp
          with_reducible rfl
         rotate_left
         ·simp only [Act.put, List.setIfInBounds_toArray, List.set_cons_zero, List.set_cons_succ, i64_w, i32_w]
          rfl
         refine pure_ (i := 15) (N := some 68) (v := ?_) (a' := ?_) #[true, true, true, true, true, true, true, true, true, true, true, true, true, true, true, true, false, false, false, false, false, false, false, false, false, false, false, false, false, false, false, false, false, false, false, false, false, false, false, false, false, false, false, false, false, false, false, false, false, false, false, false] rfl rfl (any_of HT_.out (by kernel_rfl)) (fun _ _ _ h => h) (Or.inl ⟨by rfl, ?_⟩) ?_ ?_
         rotate_left
         ·intro w'
          go_simp
          with_reducible rfl
         rotate_left
         ·simp only [Act.put, List.setIfInBounds_toArray, List.set_cons_zero, List.set_cons_succ, i64_w, i32_w]
          rfl
         refine pure_ (i := 16) (N := some 69) (v := ?_) (a' := ?_) #[true, true, true, true, true, true, true, true, true, true, true, true, true, true, true, true, true, false, false, false, false, false, false, false, false, false, false, false, false, false, false, false, false, false, false, false, false, false, false, false, false, false, false, false, false, false, false, false, false, false, false, false] rfl rfl (any_of HT_.out (by kernel_rfl)) (fun _ _ _ h => h) (Or.inl ⟨by rfl, ?_⟩) ?_ ?_
         rotate_left
         ·intro w'
          go_simp
          with_reducible rfl
         rotate_left
         ·simp only [Act.put, List.setIfInBounds_toArray, List.set_cons_zero, List.set_cons_succ, i64_w, i32_w]
          rfl
         refine pure_ (i := 17) (N := some 70) (v := ?_) (a' := ?_) #[true, true, true, true, true, true, true, true, true, true, true, true, true, true, true, true, true, true, false, false, false, false, false, false, false, false, false, false, false, false, false, false, false, false, false, false, false, false, false, false, false, false, false, false, false, false, false, false, false, false, false, false] rfl rfl (any_of HT_.out (by kernel_rfl)) (fun _ _ _ h => h) (Or.inl ⟨by rfl, ?_⟩) ?_ ?_
         rotate_left
         ·intro w'
          go_simp
          with_reducible rfl
         rotate_left
         ·simp only [Act.put, List.setIfInBounds_toArray, List.set_cons_zero, List.set_cons_succ, i64_w, i32_w]
          rfl
         refine pure_ (i := 18) (N := some 71) (v := ?_) (a' := ?_) #[true, true, true, true, true, true, true, true, true, true, true, true, true, true, true, true, true, true, true, false, false, false, false, false, false, false, false, false, false, false, false, false, false, false, false, false, false, false, false, false, false, false, false, false, false, false, false, false, false, false, false, false] rfl rfl (any_of HT_.out (by kernel_rfl)) (fun _ _ _ h => h) (Or.inl ⟨by rfl, ?_⟩) ?_ ?_
         rotate_left
         ·intro w'
          go_simp
          with_reducible rfl
         rotate_left
         ·simp only [Act.put, List.setIfInBounds_toArray, List.set_cons_zero, List.set_cons_succ, i64_w, i32_w]
          rfl
         refine take_ (i := 19) (N := some 72) (v := ?_) (a' := ?_) #[true, true, true, true, true, true, true, true, true, true, true, true, true, true, true, true, true, true, true, true, false, false, false, false, false, false, false, false, false, false, false, false, false, false, false, false, false, false, false, false, false, false, false, false, false, false, false, false, false, false, false, false] rfl rfl (take_ofW HT_.out HW_.out (by kernel_rfl)) (fun _ _ _ h => h) (Or.inl ⟨by rfl, ?_⟩) hHeld ?_ ?_
         rotate_left
         ·rintro w' ⟨s0, s1, s2, s3, s4, s5, s6, s7, s8, s9, s10, s11, s12, s13, s14, s15⟩
          go_simp
          with_reducible rfl
         rotate_left
         ·simp only [Act.put, List.setIfInBounds_toArray, List.set_cons_zero, List.set_cons_succ, i64_w, i32_w]
          rfl
         refine take_ (i := 20) (N := some 73) (v := ?_) (a' := ?_) #[true, true, true, true, true, true, true, true, true, true, true, true, true, true, true, true, true, true, true, true, true, false, false, false, false, false, false, false, false, false, false, false, false, false, false, false, false, false, false, false, false, false, false, false, false, false, false, false, false, false, false, false] rfl rfl (take_ofW HT_.out HW_.out (by kernel_rfl)) (fun _ _ _ h => h) (Or.inl ⟨by rfl, ?_⟩) hHeld ?_ ?_
         rotate_left
         ·rintro w' ⟨s0, s1, s2, s3, s4, s5, s6, s7, s8, s9, s10, s11, s12, s13, s14, s15⟩
          go_simp
          with_reducible rfl
         rotate_left
         ·simp only [Act.put, List.setIfInBounds_toArray, List.set_cons_zero, List.set_cons_succ, i64_w, i32_w]
          rfl
         refine pure_ (i := 21) (N := some 74) (v := ?_) (a' := ?_) #[true, true, true, true, true, true, true, true, true, true, true, true, true, true, true, true, true, true, true, true, true, true, false, false, false, false, false, false, false, false, false, false, false, false, false, false, false, false, false, false, false, false, false, false, false, false, false, false, false, false, false, false] rfl rfl (any_of HT_.out (by kernel_rfl)) (fun _ _ _ h => h) (Or.inl ⟨by rfl, ?_⟩) ?_ ?_
         rotate_left
         ·intro w'
          go_simp
          with_reducible rfl
         rotate_left
         ·simp only [Act.put, List.setIfInBounds_toArray, List.set_cons_zero, List.set_cons_succ, i64_w, i32_w]
          rfl
         refine pure_ (i := 22) (N := some 75) (v := ?_) (a' := ?_) #[true, true, true, true, true, true, true, true, true, true, true, true, true, true, true, true, true, true, true, true, true, true, true, false, false, false, false, false, false, false, false, false, false, false, false, false, false, false, false, false, false, false, false, false, false, false, false, false, false, false, false, false] rfl rfl (any_of HT_.out (by kernel_rfl)) (fun _ _ _ h => h) (Or.inl ⟨by rfl, ?_⟩) ?_ ?_
         rotate_left
         ·intro w'
          go_simp
          with_reducible rfl
         rotate_left
         ·simp only [Act.put, List.setIfInBounds_toArray, List.set_cons_zero, List.set_cons_succ, i64_w, i32_w]
          rfl
         refine pure_ (i := 23) (N := some 76) (v := ?_) (a' := ?_) #[true, true, true, true, true, true, true, true, true, true, true, true, true, true, true, true, true, true, true, true, true, true, true, true, false, false, false, false, false, false, false, false, false, false, false, false, false, false, false, false, false, false, false, false, false, false, false, false, false, false, false, false] rfl rfl (any_of HT_.out (by kernel_rfl)) (fun _ _ _ h => h) (Or.inl ⟨by rfl, ?_⟩) ?_ ?_
         rotate_left
         ·intro w'
          go_simp
          with_reducible rfl
         rotate_left
         ·simp only [Act.put, List.setIfInBounds_toArray, List.set_cons_zero, List.set_cons_succ, i64_w, i32_w]
          rfl
         refine pure_ (i := 24) (N := some 77) (v := ?_) (a' := ?_) #[true, true, true, true, true, true, true, true, true, true, true, true, true, true, true, true, true, true, true, true, true, true, true, true, true, false, false, false, false, false, false, false, false, false, false, false, false, false, false, false, false, false, false, false, false, false, false, false, false, false, false, false] rfl rfl (any_of HT_.out (by kernel_rfl)) (fun _ _ _ h => h) (Or.inl ⟨by rfl, ?_⟩) ?_ ?_
         rotate_left
         ·intro w'
          go_simp
          with_reducible rfl
         rotate_left
         ·simp only [Act.put, List.setIfInBounds_toArray, List.set_cons_zero, List.set_cons_succ, i64_w, i32_w]
          rfl
         refine pure_ (i := 25) (N := some 78) (v := ?_) (a' := ?_) #[true, true, true, true, true, true, true, true, true, true, true, true, true, true, true, true, true, true, true, true, true, true, true, true, true, true, false, false, false, false, false, false, false, false, false, false, false, false, false, false, false, false, false, false, false, false, false, false, false, false, false, false] rfl rfl (any_of HT_.out (by kernel_rfl)) (fun _ _ _ h => h) (Or.inl ⟨by rfl, ?_⟩) ?_ ?_
         rotate_left
         ·intro w'
          go_simp
          with_reducible rfl
         rotate_left
         ·simp only [Act.put, List.setIfInBounds_toArray, List.set_cons_zero, List.set_cons_succ, i64_w, i32_w]
          rfl
         refine pure_ (i := 26) (N := some 79) (v := ?_) (a' := ?_) #[true, true, true, true, true, true, true, true, true, true, true, true, true, true, true, true, true, true, true, true, true, true, true, true, true, true, true, false, false, false, false, false, false, false, false, false, false, false, false, false, false, false, false, false, false, false, false, false, false, false, false, false] rfl rfl (any_of HT_.out (by kernel_rfl)) (fun _ _ _ h => h) (Or.inl ⟨by rfl, ?_⟩) ?_ ?_
         rotate_left
         ·intro w'
          go_simp
          with_reducible rfl
         rotate_left
         ·simp only [Act.put, List.setIfInBounds_toArray, List.set_cons_zero, List.set_cons_succ, i64_w, i32_w]
          rfl
         refine pure_ (i := 27) (N := some 80) (v := ?_) (a' := ?_) #[true, true, true, true, true, true, true, true, true, true, true, true, true, true, true, true, true, true, true, true, true, true, true, true, true, true, true, true, false, false, false, false, false, false, false, false, false, false, false, false, false, false, false, false, false, false, false, false, false, false, false, false] rfl rfl (any_of HT_.out (by kernel_rfl)) (fun _ _ _ h => h) (Or.inl ⟨by rfl, ?_⟩) ?_ ?_
         rotate_left
         ·intro w'
          go_simp
          with_reducible rfl
         rotate_left
         ·simp only [Act.put, List.setIfInBounds_toArray, List.set_cons_zero, List.set_cons_succ, i64_w, i32_w]
          rfl
         refine pure_ (i := 28) (N := some 81) (v := ?_) (a' := ?_) #[true, true, true, true, true, true, true, true, true, true, true, true, true, true, true, true, true, true, true, true, true, true, true, true, true, true, true, true, true, false, false, false, false, false, false, false, false, false, false, false, false, false, false, false, false, false, false, false, false, false, false, false] rfl rfl (any_of HT_.out (by kernel_rfl)) (fun _ _ _ h => h) (Or.inl ⟨by rfl, ?_⟩) ?_ ?_
         rotate_left
         ·intro w'
          go_simp
          with_reducible rfl
         rotate_left
         ·simp only [Act.put, List.setIfInBounds_toArray, List.set_cons_zero, List.set_cons_succ, i64_w, i32_w]
          rfl
         refine take_ (i := 29) (N := some 82) (v := ?_) (a' := ?_) #[true, true, true, true, true, true, true, true, true, true, true, true, true, true, true, true, true, true, true, true, true, true, true, true, true, true, true, true, true, true, false, false, false, false, false, false, false, false, false, false, false, false, false, false, false, false, false, false, false, false, false, false] rfl rfl (take_ofW HT_.out HW_.out (by kernel_rfl)) (fun _ _ _ h => h) (Or.inl ⟨by rfl, ?_⟩) hHeld ?_ ?_
         rotate_left
         ·rintro w' ⟨s0, s1, s2, s3, s4, s5, s6, s7, s8, s9, s10, s11, s12, s13, s14, s15⟩
          go_simp
          with_reducible rfl
         rotate_left
         ·simp only [Act.put, List.setIfInBounds_toArray, List.set_cons_zero, List.set_cons_succ, i64_w, i32_w]
          rfl
         refine take_ (i := 30) (N := some 83) (v := ?_) (a' := ?_) #[true, true, true, true, true, true, true, true, true, true, true, true, true, true, true, true, true, true, true, true, true, true, true, true, true, true, true, true, true, true, true, false, false, false, false, false, false, false, false, false, false, false, false, false, false, false, false, false, false, false, false, false] rfl rfl (take_ofW HT_.out HW_.out (by kernel_rfl)) (fun _ _ _ h => h) (Or.inl ⟨by rfl, ?_⟩) hHeld ?_ ?_
         rotate_left
         ·rintro w' ⟨s0, s1, s2, s3, s4, s5, s6, s7, s8, s9, s10, s11, s12, s13, s14, s15⟩
          go_simp
          with_reducible rfl
         rotate_left
         ·simp only [Act.put, List.setIfInBounds_toArray, List.set_cons_zero, List.set_cons_succ, i64_w, i32_w]
          rfl
         refine take_ (i := 32) (N := some 85) (v := ?_) (a' := ?_) #[true, true, true, true, true, true, true, true, true, true, true, true, true, true, true, true, true, true, true, true, true, true, true, true, true, true, true, true, true, true, true, false, true, false, false, false, false, false, false, false, false, false, false, false, false, false, false, false, false, false, false, false] rfl rfl (take_ofW HT_.out HW_.out (by kernel_rfl)) (fun _ _ _ h => h) (Or.inl ⟨by rfl, ?_⟩) hHeld ?_ ?_
         rotate_left
         ·rintro w' ⟨s0, s1, s2, s3, s4, s5, s6, s7, s8, s9, s10, s11, s12, s13, s14, s15⟩
          go_simp
          with_reducible rfl
         rotate_left
         ·simp only [Act.put, List.setIfInBounds_toArray, List.set_cons_zero, List.set_cons_succ, i64_w, i32_w]
          rfl
         refine take_ (i := 33) (N := some 86) (v := ?_) (a' := ?_) #[true, true, true, true, true, true, true, true, true, true, true, true, true, true, true, true, true, true, true, true, true, true, true, true, true, true, true, true, true, true, true, false, true, true, false, false, false, false, false, false, false, false, false, false, false, false, false, false, false, false, false, false] rfl rfl (take_ofW HT_.out HW_.out (by kernel_rfl)) (fun _ _ _ h => h) (Or.inl ⟨by rfl, ?_⟩) hHeld ?_ ?_
         rotate_left
         ·rintro w' ⟨s0, s1, s2, s3, s4, s5, s6, s7, s8, s9, s10, s11, s12, s13, s14, s15⟩
          go_simp
          with_reducible rfl
         rotate_left
         ·simp only [Act.put, List.setIfInBounds_toArray, List.set_cons_zero, List.set_cons_succ, i64_w, i32_w]
          rfl
         refine one_ (i := 31) (N := some 84) #[true, true, true, true, true, true, true, true, true, true, true, true, true, true, true, true, true, true, true, true, true, true, true, true, true, true, true, true, true, true, true, true, true, true, false, false, false, false, false, false, false, false, false, false, false, false, false, false, false, false, false, false] rfl rfl (one_of HT_.out (by kernel_rfl)) (by decide) (fun K hK => ?_)
         refine goes_ Tryd.func14 (by kernel_rfl) rfl #[.agg #[.int .i64 a0_0, .int .i64 a0_1], .agg #[.int .i64 a1_0, .int .i64 a1_1]] (by rfl) rfl rfl (by (try simp only [List.map_toArray, List.map_cons, List.map_nil]); first | done | rfl | (simp only [List.length_drop, List.length_take]; rfl)) ?_
         with_reducible refine (ratio_Compare.calls k a0_0 a0_1 a1_0 a1_1 t534 _ A15.out).mono ?_
         rintro e w85 ⟨rfl, hb⟩
         refine ⟨_, rfl, ?_⟩
         have n0_ := Aside0.mk (blk_below (g := gb508) (o := .cells #[.int .i64 a0_0, .int .i64 a0_1] 24 (0, 0)) pk_ hb)
         have n1_ := Aside0.mk (blk_below (g := gb509) (o := .cells #[.int .i64 a1_0, .int .i64 a1_1] 24 (0, 0)) pk_ hb)
         have n2_ := Aside0.mk (blk_below (g := gb513) (o := .cells #[.int .i64 t510, .int .i64 t511] 24 (0, 0)) pk_ hb)
         have n3_ := Aside0.mk (blk_below (g := gb517) (o := .cells #[.int .i64 t514, .int .i64 t515] 24 (0, 0)) pk_ hb)
         have n4_ := Aside0.mk (blk_below (g := gb521) (o := .cells #[.int .i64 t518, .int .i64 t519] 24 (0, 0)) pk_ hb)
         have n5_ := Aside0.mk (blk_below (g := gb525) (o := .cells #[.int .i64 t522, .int .i64 t523] 24 (0, 0)) pk_ hb)
         have n6_ := Aside0.mk (blk_below (g := gb529) (o := .cells #[.int .i64 t526, .int .i64 t527] 24 (0, 0)) pk_ hb)
         have n7_ := Aside0.mk (blk_below (g := gb533) (o := .cells #[.int .i64 t530, .int .i64 t531] 24 (0, 0)) pk_ hb)
         have n8_ := Aside0.mk (below_step bl_ hb)
         clear BK508; clear BK509; clear BK513; clear BK517; clear BK521; clear BK525; clear BK529; clear BK533; clear HB
         have BK508 := n0_
         have BK509 := n1_
         have BK513 := n2_
         have BK517 := n3_
         have BK521 := n4_
         have BK525 := n5_
         have BK529 := n6_
         have BK533 := n7_
         have HB := n8_
         clear n0_ n1_ n2_ n3_ n4_ n5_ n6_ n7_ n8_
         (try clear hb); (try clear hb2); (try clear hk); (try clear hi)
         refine hK.out _ _ ⟨(blk_cell BK513.out 0).trans rfl, (blk_cell BK513.out 1).trans rfl, (blk_cell BK517.out 0).trans rfl, (blk_cell BK517.out 1).trans rfl, (blk_cell BK521.out 0).trans rfl, (blk_cell BK521.out 1).trans rfl, (blk_cell BK525.out 0).trans rfl, (blk_cell BK525.out 1).trans rfl, (blk_cell BK529.out 0).trans rfl, (blk_cell BK529.out 1).trans rfl, (blk_cell BK533.out 0).trans rfl, (blk_cell BK533.out 1).trans rfl, (blk_cell BK508.out 0).trans rfl, (blk_cell BK508.out 1).trans rfl, (blk_cell BK509.out 0).trans rfl, (blk_cell BK509.out 1).trans rfl⟩ (fun hHeld => ?_)
         clear hK K
         refine norm_ (a' := ?_) ?_ ?_
         rotate_left
         ·show Act.put _ (some 84) _ = _
          simp only [Act.put, List.setIfInBounds_toArray, List.set_cons_zero, List.set_cons_succ, i64_w, i32_w]
          rfl
         refine one_ (i := 34) (N := some 87) #[true, true, true, true, true, true, true, true, true, true, true, true, true, true, true, true, true, true, true, true, true, true, true, true, true, true, true, true, true, true, true, true, true, true, true, false, false, false, false, false, false, false, false, false, false, false, false, false, false, false, false, false] rfl rfl (one_of HT_.out (by kernel_rfl)) (by decide) (fun K hK => ?_)
         refine goes_ Tryd.func45 (by kernel_rfl) rfl #[.agg #[.int .i64 a0_0, .int .i64 a0_1], .agg #[.int .i64 a1_0, .int .i64 a1_1]] (by rfl) rfl rfl (by (try simp only [List.map_toArray, List.map_cons, List.map_nil]); first | done | rfl | (simp only [List.length_drop, List.length_take]; rfl)) ?_
         with_reducible refine (dioramaref04_Compare.calls k a0_0 a0_1 a1_0 a1_1 t535 _ A16.out).mono ?_
         rintro e w86 ⟨rfl, hb⟩
         refine ⟨_, rfl, ?_⟩
         have n0_ := Aside0.mk (blk_below (g := gb508) (o := .cells #[.int .i64 a0_0, .int .i64 a0_1] 24 (0, 0)) pk_ hb)
         have n1_ := Aside0.mk (blk_below (g := gb509) (o := .cells #[.int .i64 a1_0, .int .i64 a1_1] 24 (0, 0)) pk_ hb)
         have n2_ := Aside0.mk (blk_below (g := gb513) (o := .cells #[.int .i64 t510, .int .i64 t511] 24 (0, 0)) pk_ hb)
         have n3_ := Aside0.mk (blk_below (g := gb517) (o := .cells #[.int .i64 t514, .int .i64 t515] 24 (0, 0)) pk_ hb)
         have n4_ := Aside0.mk (blk_below (g := gb521) (o := .cells #[.int .i64 t518, .int .i64 t519] 24 (0, 0)) pk_ hb)
         have n5_ := Aside0.mk (blk_below (g := gb525) (o := .cells #[.int .i64 t522, .int .i64 t523] 24 (0, 0)) pk_ hb)
         have n6_ := Aside0.mk (blk_below (g := gb529) (o := .cells #[.int .i64 t526, .int .i64 t527] 24 (0, 0)) pk_ hb)
         have n7_ := Aside0.mk (blk_below (g := gb533) (o := .cells #[.int .i64 t530, .int .i64 t531] 24 (0, 0)) pk_ hb)
         have n8_ := Aside0.mk (below_step bl_ hb)
         clear BK508; clear BK509; clear BK513; clear BK517; clear BK521; clear BK525; clear BK529; clear BK533; clear HB
         have BK508 := n0_
         have BK509 := n1_
         have BK513 := n2_
         have BK517 := n3_
         have BK521 := n4_
         have BK525 := n5_
         have BK529 := n6_
         have BK533 := n7_
         have HB := n8_
         clear n0_ n1_ n2_ n3_ n4_ n5_ n6_ n7_ n8_
         (try clear hb); (try clear hb2); (try clear hk); (try clear hi)
         refine hK.out _ _ ⟨(blk_cell BK513.out 0).trans rfl, (blk_cell BK513.out 1).trans rfl, (blk_cell BK517.out 0).trans rfl, (blk_cell BK517.out 1).trans rfl, (blk_cell BK521.out 0).trans rfl, (blk_cell BK521.out 1).trans rfl, (blk_cell BK525.out 0).trans rfl, (blk_cell BK525.out 1).trans rfl, (blk_cell BK529.out 0).trans rfl, (blk_cell BK529.out 1).trans rfl, (blk_cell BK533.out 0).trans rfl, (blk_cell BK533.out 1).trans rfl, (blk_cell BK508.out 0).trans rfl, (blk_cell BK508.out 1).trans rfl, (blk_cell BK509.out 0).trans rfl, (blk_cell BK509.out 1).trans rfl⟩ (fun hHeld => ?_)
         clear hK K
         refine norm_ (a' := ?_) ?_ ?_
         rotate_left
         ·show Act.put _ (some 87) _ = _
          simp only [Act.put, List.setIfInBounds_toArray, List.set_cons_zero, List.set_cons_succ, i64_w, i32_w]
          rfl
         refine pure_ (i := 35) (N := some 88) (v := ?_) (a' := ?_) #[true, true, true, true, true, true, true, true, true, true, true, true, true, true, true, true, true, true, true, true, true, true, true, true, true, true, true, true, true, true, true, true, true, true, true, true, false, false, false, false, false, false, false, false, false, false, false, false, false, false, false, false] rfl rfl (any_of HT_.out (by kernel_rfl)) (fun _ _ _ h => h) (Or.inl ⟨by rfl, ?_⟩) ?_ ?_
         rotate_left
         ·intro w'
          go_simp
          with_reducible rfl
         rotate_left
         ·simp only [Act.put, List.setIfInBounds_toArray, List.set_cons_zero, List.set_cons_succ, i64_w, i32_w]
          rfl
         refine pure_ (i := 36) (N := some 89) (v := ?_) (a' := ?_) #[true, true, true, true, true, true, true, true, true, true, true, true, true, true, true, true, true, true, true, true, true, true, true, true, true, true, true, true, true, true, true, true, true, true, true, true, true, false, false, false, false, false, false, false, false, false, false, false, false, false, false, false] rfl rfl (any_of HT_.out (by kernel_rfl)) (fun _ _ _ h => h) (Or.inl ⟨by rfl, ?_⟩) ?_ ?_
         rotate_left
         ·intro w'
          go_simp
          with_reducible rfl
         rotate_left
         ·simp only [Act.put, List.setIfInBounds_toArray, List.set_cons_zero, List.set_cons_succ, i64_w, i32_w]
          rfl
         refine pure_ (i := 37) (N := some 90) (v := ?_) (a' := ?_) #[true, true, true, true, true, true, true, true, true, true, true, true, true, true, true, true, true, true, true, true, true, true, true, true, true, true, true, true, true, true, true, true, true, true, true, true, true, true, false, false, false, false, false, false, false, false, false, false, false, false, false, false] rfl rfl (any_of HT_.out (by kernel_rfl)) (fun _ _ _ h => h) (Or.inl ⟨by rfl, ?_⟩) ?_ ?_
         rotate_left
         ·intro w'
          go_simp
          with_reducible rfl
         rotate_left
         ·simp only [Act.put, List.setIfInBounds_toArray, List.set_cons_zero, List.set_cons_succ, i64_w, i32_w]
          rfl
         refine take_ (i := 38) (N := some 91) (v := ?_) (a' := ?_) #[true, true, true, true, true, true, true, true, true, true, true, true, true, true, true, true, true, true, true, true, true, true, true, true, true, true, true, true, true, true, true, true, true, true, true, true, true, true, true, false, false, false, false, false, false, false, false, false, false, false, false, false] rfl rfl (take_ofW HT_.out HW_.out (by kernel_rfl)) (fun _ _ _ h => h) (Or.inl ⟨by rfl, ?_⟩) hHeld ?_ ?_
         rotate_left
         ·rintro w' ⟨s0, s1, s2, s3, s4, s5, s6, s7, s8, s9, s10, s11, s12, s13, s14, s15⟩
          go_simp
          with_reducible rfl
         rotate_left
         ·simp only [Act.put, List.setIfInBounds_toArray, List.set_cons_zero, List.set_cons_succ, i64_w, i32_w]
          rfl
         refine take_ (i := 40) (N := some 93) (v := ?_) (a' := ?_) #[true, true, true, true, true, true, true, true, true, true, true, true, true, true, true, true, true, true, true, true, true, true, true, true, true, true, true, true, true, true, true, true, true, true, true, true, true, true, true, false, true, false, false, false, false, false, false, false, false, false, false, false] rfl rfl (take_ofW HT_.out HW_.out (by kernel_rfl)) (fun _ _ _ h => h) (Or.inl ⟨by rfl, ?_⟩) hHeld ?_ ?_
         rotate_left
         ·rintro w' ⟨s0, s1, s2, s3, s4, s5, s6, s7, s8, s9, s10, s11, s12, s13, s14, s15⟩
          go_simp
          with_reducible rfl
         rotate_left
         ·simp only [Act.put, List.setIfInBounds_toArray, List.set_cons_zero, List.set_cons_succ, i64_w, i32_w]
          rfl
         refine one_ (i := 39) (N := some 92) #[true, true, true, true, true, true, true, true, true, true, true, true, true, true, true, true, true, true, true, true, true, true, true, true, true, true, true, true, true, true, true, true, true, true, true, true, true, true, true, true, true, false, false, false, false, false, false, false, false, false, false, false] rfl rfl (one_of HT_.out (by kernel_rfl)) (by decide) (fun K hK => ?_)
         refine goes_ Tryd.func16 (by kernel_rfl) rfl #[.agg #[.int .i64 a0_0, .int .i64 a0_1]] (by rfl) rfl rfl (by (try simp only [List.map_toArray, List.map_cons, List.map_nil]); first | done | rfl | (simp only [List.length_drop, List.length_take]; rfl)) ?_
         with_reducible refine (ratio_Floor.calls k a0_0 a0_1 t536 _ A18.out).mono ?_
         rintro e w87 ⟨rfl, hb⟩
         refine ⟨_, rfl, ?_⟩
         have n0_ := Aside0.mk (blk_below (g := gb508) (o := .cells #[.int .i64 a0_0, .int .i64 a0_1] 24 (0, 0)) pk_ hb)
         have n1_ := Aside0.mk (blk_below (g := gb509) (o := .cells #[.int .i64 a1_0, .int .i64 a1_1] 24 (0, 0)) pk_ hb)
         have n2_ := Aside0.mk (blk_below (g := gb513) (o := .cells #[.int .i64 t510, .int .i64 t511] 24 (0, 0)) pk_ hb)
         have n3_ := Aside0.mk (blk_below (g := gb517) (o := .cells #[.int .i64 t514, .int .i64 t515] 24 (0, 0)) pk_ hb)
         have n4_ := Aside0.mk (blk_below (g := gb521) (o := .cells #[.int .i64 t518, .int .i64 t519] 24 (0, 0)) pk_ hb)
         have n5_ := Aside0.mk (blk_below (g := gb525) (o := .cells #[.int .i64 t522, .int .i64 t523] 24 (0, 0)) pk_ hb)
         have n6_ := Aside0.mk (blk_below (g := gb529) (o := .cells #[.int .i64 t526, .int .i64 t527] 24 (0, 0)) pk_ hb)
         have n7_ := Aside0.mk (blk_below (g := gb533) (o := .cells #[.int .i64 t530, .int .i64 t531] 24 (0, 0)) pk_ hb)
         have n8_ := Aside0.mk (below_step bl_ hb)
         clear BK508; clear BK509; clear BK513; clear BK517; clear BK521; clear BK525; clear BK529; clear BK533; clear HB
         have BK508 := n0_
         have BK509 := n1_
         have BK513 := n2_
         have BK517 := n3_
         have BK521 := n4_
         have BK525 := n5_
         have BK529 := n6_
         have BK533 := n7_
         have HB := n8_
         clear n0_ n1_ n2_ n3_ n4_ n5_ n6_ n7_ n8_
         (try clear hb); (try clear hb2); (try clear hk); (try clear hi)
         refine hK.out _ _ ⟨(blk_cell BK513.out 0).trans rfl, (blk_cell BK513.out 1).trans rfl, (blk_cell BK517.out 0).trans rfl, (blk_cell BK517.out 1).trans rfl, (blk_cell BK521.out 0).trans rfl, (blk_cell BK521.out 1).trans rfl, (blk_cell BK525.out 0).trans rfl, (blk_cell BK525.out 1).trans rfl, (blk_cell BK529.out 0).trans rfl, (blk_cell BK529.out 1).trans rfl, (blk_cell BK533.out 0).trans rfl, (blk_cell BK533.out 1).trans rfl, (blk_cell BK508.out 0).trans rfl, (blk_cell BK508.out 1).trans rfl, (blk_cell BK509.out 0).trans rfl, (blk_cell BK509.out 1).trans rfl⟩ (fun hHeld => ?_)
         clear hK K
         refine norm_ (a' := ?_) ?_ ?_
         rotate_left
         ·show Act.put _ (some 92) _ = _
          simp only [Act.put, List.setIfInBounds_toArray, List.set_cons_zero, List.set_cons_succ, i64_w, i32_w]
          rfl
         refine one_ (i := 41) (N := some 94) #[true, true, true, true, true, true, true, true, true, true, true, true, true, true, true, true, true, true, true, true, true, true, true, true, true, true, true, true, true, true, true, true, true, true, true, true, true, true, true, true, true, true, false, false, false, false, false, false, false, false, false, false] rfl rfl (one_of HT_.out (by kernel_rfl)) (by decide) (fun K hK => ?_)
         refine goes_ Tryd.func46 (by kernel_rfl) rfl #[.agg #[.int .i64 a0_0, .int .i64 a0_1]] (by rfl) rfl rfl (by (try simp only [List.map_toArray, List.map_cons, List.map_nil]); first | done | rfl | (simp only [List.length_drop, List.length_take]; rfl)) ?_
         with_reducible refine (dioramaref04_Floor.calls k a0_0 a0_1 t537 _ A19.out).mono ?_
         rintro e w88 ⟨rfl, hb⟩
         refine ⟨_, rfl, ?_⟩
         have n0_ := Aside0.mk (blk_below (g := gb508) (o := .cells #[.int .i64 a0_0, .int .i64 a0_1] 24 (0, 0)) pk_ hb)
         have n1_ := Aside0.mk (blk_below (g := gb509) (o := .cells #[.int .i64 a1_0, .int .i64 a1_1] 24 (0, 0)) pk_ hb)
         have n2_ := Aside0.mk (blk_below (g := gb513) (o := .cells #[.int .i64 t510, .int .i64 t511] 24 (0, 0)) pk_ hb)
         have n3_ := Aside0.mk (blk_below (g := gb517) (o := .cells #[.int .i64 t514, .int .i64 t515] 24 (0, 0)) pk_ hb)
         have n4_ := Aside0.mk (blk_below (g := gb521) (o := .cells #[.int .i64 t518, .int .i64 t519] 24 (0, 0)) pk_ hb)
         have n5_ := Aside0.mk (blk_below (g := gb525) (o := .cells #[.int .i64 t522, .int .i64 t523] 24 (0, 0)) pk_ hb)
         have n6_ := Aside0.mk (blk_below (g := gb529) (o := .cells #[.int .i64 t526, .int .i64 t527] 24 (0, 0)) pk_ hb)
         have n7_ := Aside0.mk (blk_below (g := gb533) (o := .cells #[.int .i64 t530, .int .i64 t531] 24 (0, 0)) pk_ hb)
         have n8_ := Aside0.mk (below_step bl_ hb)
         clear BK508; clear BK509; clear BK513; clear BK517; clear BK521; clear BK525; clear BK529; clear BK533; clear HB
         have BK508 := n0_
         have BK509 := n1_
         have BK513 := n2_
         have BK517 := n3_
         have BK521 := n4_
         have BK525 := n5_
         have BK529 := n6_
         have BK533 := n7_
         have HB := n8_
         clear n0_ n1_ n2_ n3_ n4_ n5_ n6_ n7_ n8_
         (try clear hb); (try clear hb2); (try clear hk); (try clear hi)
         refine hK.out _ _ ⟨(blk_cell BK513.out 0).trans rfl, (blk_cell BK513.out 1).trans rfl, (blk_cell BK517.out 0).trans rfl, (blk_cell BK517.out 1).trans rfl, (blk_cell BK521.out 0).trans rfl, (blk_cell BK521.out 1).trans rfl, (blk_cell BK525.out 0).trans rfl, (blk_cell BK525.out 1).trans rfl, (blk_cell BK529.out 0).trans rfl, (blk_cell BK529.out 1).trans rfl, (blk_cell BK533.out 0).trans rfl, (blk_cell BK533.out 1).trans rfl, (blk_cell BK508.out 0).trans rfl, (blk_cell BK508.out 1).trans rfl, (blk_cell BK509.out 0).trans rfl, (blk_cell BK509.out 1).trans rfl⟩ (fun hHeld => ?_)
         clear hK K
         refine norm_ (a' := ?_) ?_ ?_
         rotate_left
         ·show Act.put _ (some 94) _ = _
          simp only [Act.put, List.setIfInBounds_toArray, List.set_cons_zero, List.set_cons_succ, i64_w, i32_w]
          rfl
         refine pure_ (i := 42) (N := some 95) (v := ?_) (a' := ?_) #[true, true, true, true, true, true, true, true, true, true, true, true, true, true, true, true, true, true, true, true, true, true, true, true, true, true, true, true, true, true, true, true, true, true, true, true, true, true, true, true, true, true, true, false, false, false, false, false, false, false, false, false] rfl rfl (any_of HT_.out (by kernel_rfl)) (fun _ _ _ h => h) (Or.inl ⟨by rfl, ?_⟩) ?_ ?_
         rotate_left
         ·intro w'
          go_simp
          with_reducible rfl
         rotate_left
         ·simp only [Act.put, List.setIfInBounds_toArray, List.set_cons_zero, List.set_cons_succ, i64_w, i32_w]
          rfl
         refine pure_ (i := 43) (N := some 96) (v := ?_) (a' := ?_) #[true, true, true, true, true, true, true, true, true, true, true, true, true, true, true, true, true, true, true, true, true, true, true, true, true, true, true, true, true, true, true, true, true, true, true, true, true, true, true, true, true, true, true, true, false, false, false, false, false, false, false, false] rfl rfl (any_of HT_.out (by kernel_rfl)) (fun _ _ _ h => h) (Or.inl ⟨by rfl, ?_⟩) ?_ ?_
         rotate_left
         ·intro w'
          go_simp
          with_reducible rfl
         rotate_left
         ·simp only [Act.put, List.setIfInBounds_toArray, List.set_cons_zero, List.set_cons_succ, i64_w, i32_w]
          rfl
         refine pure_ (i := 44) (N := some 97) (v := ?_) (a' := ?_) #[true, true, true, true, true, true, true, true, true, true, true, true, true, true, true, true, true, true, true, true, true, true, true, true, true, true, true, true, true, true, true, true, true, true, true, true, true, true, true, true, true, true, true, true, true, false, false, false, false, false, false, false] rfl rfl (any_of HT_.out (by kernel_rfl)) (fun _ _ _ h => h) (Or.inl ⟨by rfl, ?_⟩) ?_ ?_
         rotate_left
         ·intro w'
          go_simp
          with_reducible rfl
         rotate_left
         ·simp only [Act.put, List.setIfInBounds_toArray, List.set_cons_zero, List.set_cons_succ, i64_w, i32_w]
          rfl
         refine take_ (i := 45) (N := some 98) (v := ?_) (a' := ?_) #[true, true, true, true, true, true, true, true, true, true, true, true, true, true, true, true, true, true, true, true, true, true, true, true, true, true, true, true, true, true, true, true, true, true, true, true, true, true, true, true, true, true, true, true, true, true, false, false, false, false, false, false] rfl rfl (take_ofW HT_.out HW_.out (by kernel_rfl)) (fun _ _ _ h => h) (Or.inl ⟨by rfl, ?_⟩) hHeld ?_ ?_
         rotate_left
         ·rintro w' ⟨s0, s1, s2, s3, s4, s5, s6, s7, s8, s9, s10, s11, s12, s13, s14, s15⟩
          go_simp
          with_reducible rfl
         rotate_left
         ·simp only [Act.put, List.setIfInBounds_toArray, List.set_cons_zero, List.set_cons_succ, i64_w, i32_w]
          rfl
         refine take_ (i := 47) (N := some 100) (v := ?_) (a' := ?_) #[true, true, true, true, true, true, true, true, true, true, true, true, true, true, true, true, true, true, true, true, true, true, true, true, true, true, true, true, true, true, true, true, true, true, true, true, true, true, true, true, true, true, true, true, true, true, false, true, false, false, false, false] rfl rfl (take_ofW HT_.out HW_.out (by kernel_rfl)) (fun _ _ _ h => h) (Or.inl ⟨by rfl, ?_⟩) hHeld ?_ ?_
         rotate_left
         ·rintro w' ⟨s0, s1, s2, s3, s4, s5, s6, s7, s8, s9, s10, s11, s12, s13, s14, s15⟩
          go_simp
          with_reducible rfl
         rotate_left
         ·simp only [Act.put, List.setIfInBounds_toArray, List.set_cons_zero, List.set_cons_succ, i64_w, i32_w]
          rfl
         refine one_ (i := 46) (N := some 99) #[true, true, true, true, true, true, true, true, true, true, true, true, true, true, true, true, true, true, true, true, true, true, true, true, true, true, true, true, true, true, true, true, true, true, true, true, true, true, true, true, true, true, true, true, true, true, true, true, false, false, false, false] rfl rfl (one_of HT_.out (by kernel_rfl)) (by decide) (fun K hK => ?_)
         refine goes_ Tryd.func28 (by kernel_rfl) rfl #[.agg #[.int .i64 a0_0, .int .i64 a0_1]] (by rfl) rfl rfl (by (try simp only [List.map_toArray, List.map_cons, List.map_nil]); first | done | rfl | (simp only [List.length_drop, List.length_take]; rfl)) ?_
         with_reducible refine (ratio_Text.calls (hv := hv.step (by repeat (first | (with_reducible first | exact HB.out | apply below_alloc | apply pw_below_drewN | apply below_drew1 | refine below_set ?_ (Aside0.out (by assumption))) | exact HB.out))) a0_0 a0_1 t538 _ A21.out).mono ?_
         rintro e w89 ⟨rfl, hb⟩
         refine ⟨_, rfl, ?_⟩
         have n0_ := Aside0.mk (blk_below (g := gb508) (o := .cells #[.int .i64 a0_0, .int .i64 a0_1] 24 (0, 0)) pk_ hb)
         have n1_ := Aside0.mk (blk_below (g := gb509) (o := .cells #[.int .i64 a1_0, .int .i64 a1_1] 24 (0, 0)) pk_ hb)
         have n2_ := Aside0.mk (blk_below (g := gb513) (o := .cells #[.int .i64 t510, .int .i64 t511] 24 (0, 0)) pk_ hb)
         have n3_ := Aside0.mk (blk_below (g := gb517) (o := .cells #[.int .i64 t514, .int .i64 t515] 24 (0, 0)) pk_ hb)
         have n4_ := Aside0.mk (blk_below (g := gb521) (o := .cells #[.int .i64 t518, .int .i64 t519] 24 (0, 0)) pk_ hb)
         have n5_ := Aside0.mk (blk_below (g := gb525) (o := .cells #[.int .i64 t522, .int .i64 t523] 24 (0, 0)) pk_ hb)
         have n6_ := Aside0.mk (blk_below (g := gb529) (o := .cells #[.int .i64 t526, .int .i64 t527] 24 (0, 0)) pk_ hb)
         have n7_ := Aside0.mk (blk_below (g := gb533) (o := .cells #[.int .i64 t530, .int .i64 t531] 24 (0, 0)) pk_ hb)
         have n8_ := Aside0.mk (below_step bl_ hb)
         clear BK508; clear BK509; clear BK513; clear BK517; clear BK521; clear BK525; clear BK529; clear BK533; clear HB
         have BK508 := n0_
         have BK509 := n1_
         have BK513 := n2_
         have BK517 := n3_
         have BK521 := n4_
         have BK525 := n5_
         have BK529 := n6_
         have BK533 := n7_
         have HB := n8_
         clear n0_ n1_ n2_ n3_ n4_ n5_ n6_ n7_ n8_
         (try clear hb); (try clear hb2); (try clear hk); (try clear hi)
         refine hK.out _ _ ⟨(blk_cell BK513.out 0).trans rfl, (blk_cell BK513.out 1).trans rfl, (blk_cell BK517.out 0).trans rfl, (blk_cell BK517.out 1).trans rfl, (blk_cell BK521.out 0).trans rfl, (blk_cell BK521.out 1).trans rfl, (blk_cell BK525.out 0).trans rfl, (blk_cell BK525.out 1).trans rfl, (blk_cell BK529.out 0).trans rfl, (blk_cell BK529.out 1).trans rfl, (blk_cell BK533.out 0).trans rfl, (blk_cell BK533.out 1).trans rfl, (blk_cell BK508.out 0).trans rfl, (blk_cell BK508.out 1).trans rfl, (blk_cell BK509.out 0).trans rfl, (blk_cell BK509.out 1).trans rfl⟩ (fun hHeld => ?_)
         clear hK K
         refine norm_ (a' := ?_) ?_ ?_
         rotate_left
         ·show Act.put _ (some 99) _ = _
          simp only [Act.put, List.setIfInBounds_toArray, List.set_cons_zero, List.set_cons_succ, i64_w, i32_w]
          rfl
         refine one_ (i := 48) (N := some 101) #[true, true, true, true, true, true, true, true, true, true, true, true, true, true, true, true, true, true, true, true, true, true, true, true, true, true, true, true, true, true, true, true, true, true, true, true, true, true, true, true, true, true, true, true, true, true, true, true, true, false, false, false] rfl rfl (one_of HT_.out (by kernel_rfl)) (by decide) (fun K hK => ?_)
         refine goes_ Tryd.func21 (by kernel_rfl) rfl #[.agg #[.int .i64 a0_0, .int .i64 a0_1]] (by rfl) rfl rfl (by (try simp only [List.map_toArray, List.map_cons, List.map_nil]); first | done | rfl | (simp only [List.length_drop, List.length_take]; rfl)) ?_
         with_reducible refine (dioramaref04_Text.calls k a0_0 a0_1 t539 _ A22.out).mono ?_
         rintro e w90 ⟨rfl, hb⟩
         refine ⟨_, rfl, ?_⟩
         have n0_ := Aside0.mk (blk_below (g := gb508) (o := .cells #[.int .i64 a0_0, .int .i64 a0_1] 24 (0, 0)) pk_ hb)
         have n1_ := Aside0.mk (blk_below (g := gb509) (o := .cells #[.int .i64 a1_0, .int .i64 a1_1] 24 (0, 0)) pk_ hb)
         have n2_ := Aside0.mk (blk_below (g := gb513) (o := .cells #[.int .i64 t510, .int .i64 t511] 24 (0, 0)) pk_ hb)
         have n3_ := Aside0.mk (blk_below (g := gb517) (o := .cells #[.int .i64 t514, .int .i64 t515] 24 (0, 0)) pk_ hb)
         have n4_ := Aside0.mk (blk_below (g := gb521) (o := .cells #[.int .i64 t518, .int .i64 t519] 24 (0, 0)) pk_ hb)
         have n5_ := Aside0.mk (blk_below (g := gb525) (o := .cells #[.int .i64 t522, .int .i64 t523] 24 (0, 0)) pk_ hb)
         have n6_ := Aside0.mk (blk_below (g := gb529) (o := .cells #[.int .i64 t526, .int .i64 t527] 24 (0, 0)) pk_ hb)
         have n7_ := Aside0.mk (blk_below (g := gb533) (o := .cells #[.int .i64 t530, .int .i64 t531] 24 (0, 0)) pk_ hb)
         have n8_ := Aside0.mk (below_step bl_ hb)
         clear BK508; clear BK509; clear BK513; clear BK517; clear BK521; clear BK525; clear BK529; clear BK533; clear HB
         have BK508 := n0_
         have BK509 := n1_
         have BK513 := n2_
         have BK517 := n3_
         have BK521 := n4_
         have BK525 := n5_
         have BK529 := n6_
         have BK533 := n7_
         have HB := n8_
         clear n0_ n1_ n2_ n3_ n4_ n5_ n6_ n7_ n8_
         (try clear hb); (try clear hb2); (try clear hk); (try clear hi)
         refine hK.out _ _ ⟨(blk_cell BK513.out 0).trans rfl, (blk_cell BK513.out 1).trans rfl, (blk_cell BK517.out 0).trans rfl, (blk_cell BK517.out 1).trans rfl, (blk_cell BK521.out 0).trans rfl, (blk_cell BK521.out 1).trans rfl, (blk_cell BK525.out 0).trans rfl, (blk_cell BK525.out 1).trans rfl, (blk_cell BK529.out 0).trans rfl, (blk_cell BK529.out 1).trans rfl, (blk_cell BK533.out 0).trans rfl, (blk_cell BK533.out 1).trans rfl, (blk_cell BK508.out 0).trans rfl, (blk_cell BK508.out 1).trans rfl, (blk_cell BK509.out 0).trans rfl, (blk_cell BK509.out 1).trans rfl⟩ (fun hHeld => ?_)
         clear hK K
         refine norm_ (a' := ?_) ?_ ?_
         rotate_left
         ·show Act.put _ (some 101) _ = _
          simp only [Act.put, List.setIfInBounds_toArray, List.set_cons_zero, List.set_cons_succ, i64_w, i32_w]
          rfl
         refine pure_ (i := 49) (N := some 102) (v := ?_) (a' := ?_) #[true, true, true, true, true, true, true, true, true, true, true, true, true, true, true, true, true, true, true, true, true, true, true, true, true, true, true, true, true, true, true, true, true, true, true, true, true, true, true, true, true, true, true, true, true, true, true, true, true, true, false, false] rfl rfl (any_of HT_.out (by kernel_rfl)) (fun _ _ _ h => h) (Or.inl ⟨by rfl, ?_⟩) ?_ ?_
         rotate_left
         ·intro w'
          go_simp
          with_reducible rfl
         rotate_left
         ·simp only [Act.put, List.setIfInBounds_toArray, List.set_cons_zero, List.set_cons_succ, i64_w, i32_w]
          rfl
         refine pure_ (i := 50) (N := some 103) (v := ?_) (a' := ?_) #[true, true, true, true, true, true, true, true, true, true, true, true, true, true, true, true, true, true, true, true, true, true, true, true, true, true, true, true, true, true, true, true, true, true, true, true, true, true, true, true, true, true, true, true, true, true, true, true, true, true, true, false] rfl rfl (any_of HT_.out (by kernel_rfl)) (fun _ _ _ h => h) (Or.inl ⟨by rfl, ?_⟩) ?_ ?_
         rotate_left
         ·intro w'
          go_simp
          with_reducible rfl
         rotate_left
         ·simp only [Act.put, List.setIfInBounds_toArray, List.set_cons_zero, List.set_cons_succ, i64_w, i32_w]
          rfl
         refine pure_ (i := 51) (N := some 4) (v := ?_) (a' := ?_) #[true, true, true, true, true, true, true, true, true, true, true, true, true, true, true, true, true, true, true, true, true, true, true, true, true, true, true, true, true, true, true, true, true, true, true, true, true, true, true, true, true, true, true, true, true, true, true, true, true, true, true, true] rfl rfl (any_of HT_.out (by kernel_rfl)) (fun _ _ _ h => h) (Or.inl ⟨by rfl, ?_⟩) ?_ ?_
         rotate_left
         ·intro w'
          go_simp
          with_reducible rfl
         rotate_left
         ·simp only [Act.put, List.setIfInBounds_toArray, List.set_cons_zero, List.set_cons_succ, i64_w, i32_w]
          rfl
         refine done_ (done_of HT_.out (by kernel_rfl)) ?_
         try go_wp2
         go_ret
         exact ⟨by first | rfl | (simp [errW_none, errW_some] <;> rfl) | (simp [*, errW_none, errW_some] <;> rfl), by repeat (first | (with_reducible first | exact HB.out | apply below_alloc | apply pw_below_drewN | apply below_drew1 | refine below_set ?_ GE508.out | refine below_set ?_ GE509.out | refine below_set ?_ GE513.out | refine below_set ?_ GE517.out | refine below_set ?_ GE521.out | refine below_set ?_ GE525.out | refine below_set ?_ GE529.out | refine below_set ?_ GE533.out) | exact HB.out)⟩
        ·rw [if_neg c20] at H
         have c20b0 : (t536 == t537) = false := beq_eq_false_iff_ne.mpr c20
         have c20b1 : (t536 != t537) = true := bne_iff_ne.mpr c20
         obtain rfl := Option.some.inj H
         cases hr
       ·rw [if_neg c17] at H
        have c17b0 : (t534 == t535) = false := beq_eq_false_iff_ne.mpr c17
        have c17b1 : (t534 != t535) = true := bne_iff_ne.mpr c17
        obtain rfl := Option.some.inj H
        cases hr
      ·rw [if_neg c14] at H
       have c14b0 : (t528 == t532) = false := beq_eq_false_iff_ne.mpr c14
       have c14b1 : (t528 != t532) = true := bne_iff_ne.mpr c14
       obtain rfl := Option.some.inj H
       cases hr
     ·rw [if_neg c13] at H
      have c13b0 : (t526 == t530 && (t527 == t531)) = false := by simpa using c13
      (try (have c13b1 : decide (t526 = t530 && (t527 == t531)) = false := by simpa using c13))
      (try (have c13b2 : (t526 == t530 && (t527 == t531)) = false := by simpa using c13))
      (try (have c13b3 : ¬ (t526 = t530 && (t527 == t531)) := by simpa using c13))
      clear c13
      obtain rfl := Option.some.inj H
      cases hr
    ·rw [if_neg c12] at H
     have c12b0 : (t520 == t524) = false := beq_eq_false_iff_ne.mpr c12
     have c12b1 : (t520 != t524) = true := bne_iff_ne.mpr c12
     obtain rfl := Option.some.inj H
     cases hr
   ·rw [if_neg c11] at H
    have c11b0 : (t518 == t522 && (t519 == t523)) = false := by simpa using c11
    (try (have c11b1 : decide (t518 = t522 && (t519 == t523)) = false := by simpa using c11))
    (try (have c11b2 : (t518 == t522 && (t519 == t523)) = false := by simpa using c11))
    (try (have c11b3 : ¬ (t518 = t522 && (t519 == t523)) := by simpa using c11))
    clear c11
    obtain rfl := Option.some.inj H
    cases hr
  ·rw [if_neg c10] at H
   have c10b0 : (t512 == t516) = false := beq_eq_false_iff_ne.mpr c10
   have c10b1 : (t512 != t516) = true := bne_iff_ne.mpr c10
   obtain rfl := Option.some.inj H
   cases hr
 ·rw [if_neg c9] at H
  have c9b0 : (t510 == t514 && (t511 == t515)) = false := by simpa using c9
  (try (have c9b1 : decide (t510 = t514 && (t511 == t515)) = false := by simpa using c9))
  (try (have c9b2 : (t510 == t514 && (t511 == t515)) = false := by simpa using c9))
  (try (have c9b3 : ¬ (t510 = t514 && (t511 == t515)) := by simpa using c9))
  clear c9
  obtain rfl := Option.some.inj H
  cases hr
end Go.Proofs.YtdphgnakigcaeaaDoor.Pc
