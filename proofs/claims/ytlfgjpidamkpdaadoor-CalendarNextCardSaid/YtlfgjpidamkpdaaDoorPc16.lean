/- The contracts of the functions that the laws reach, each over a plain Lean function, written by wip/ownprint.py of this claim's session. -/
import Derived.Test.YtlfgjpidamkpdaaDoorPc0
import Derived.Test.YtlfgjpidamkpdaaDoorPc1
import Derived.Test.YtlfgjpidamkpdaaDoorPc2
import Derived.Test.YtlfgjpidamkpdaaDoorPc3
import Derived.Test.YtlfgjpidamkpdaaDoorPc6
namespace Go.Proofs.YtlfgjpidamkpdaaDoor.Pc
open Go.RowKit Go.Proofs.YtlfgjpidamkpdaaDoorW.PrintWords Go.Proofs.YtlfgjpidamkpdaaDoorW.PrintLast Go.Proofs.YtlfgjpidamkpdaaDoorW.PrintMore
attribute [local go_sem] max2_int min2_int max_two min_two max_three min_three max_four min_four   -- for this text's walks alone
attribute [local go_sem high] binOp_leq_p
set_option linter.unusedVariables false
set_option linter.unusedSimpArgs false

/-! ### dioramalaw08_CalendarNext: function 7 -/
mutual
def dioramalaw08_CalendarNext.j0 : Nat → Int → Int → Int → Int → Bool → Option (Bool)
  | 0, _, _, _, _, _ => none
  | k + 1, x3, x4, x5, x6, x56 => if x56 = true then (some false) else (if x3 < 146096 then ((calendar_Civil.f k (wrap64 (x3 + 1))).bind fun bt414 => (if bt414.1 = x4 then (if bt414.2.1 = x5 then (dioramalaw08_CalendarNext.j1 k x3 x4 x5 x6 bt414.1 bt414.2.1 bt414.2.2 (bt414.2.2 == (wrap64 (x6 + 1)))) else (dioramalaw08_CalendarNext.j1 k x3 x4 x5 x6 bt414.1 bt414.2.1 bt414.2.2 false)) else (dioramalaw08_CalendarNext.j1 k x3 x4 x5 x6 bt414.1 bt414.2.1 bt414.2.2 false))) else (dioramalaw08_CalendarNext.j4 k x3 x4 x5 x6))
def dioramalaw08_CalendarNext.j4 : Nat → Int → Int → Int → Int → Option (Bool)
  | 0, _, _, _, _ => none
  | k + 1, x3, x4, x5, x6 => if x3 < 0 then ((calendar_Civil.f k (wrap64 (x3 + 146097))).bind fun bt429 => (if bt429.1 = (wrap64 (x4 + 400)) then (if bt429.2.1 = x5 then (if bt429.2.2 = x6 then ((calendar_Weekday.f (wrap64 (x3 + 146097))).bind fun t432 => ((calendar_Weekday.f x3).bind fun t433 => (if t432 = t433 then ((dioramalaw08_lives.f k).bind fun t434 => (some t434)) else (some false)))) else (some false)) else (some false)) else (some false))) else ((dioramalaw08_lives.f k).bind fun t435 => (some t435))
def dioramalaw08_CalendarNext.j1 : Nat → Int → Int → Int → Int → Int → Int → Int → Bool → Option (Bool)
  | 0, _, _, _, _, _, _, _, _ => none
  | k + 1, x3, x4, x5, x6, x11, x12, x13, x14 => if x11 = x4 then (if x12 = (wrap64 (x5 + 1)) then (dioramalaw08_CalendarNext.j2 k x3 x4 x5 x6 x11 x12 x13 x14 (x13 == 1)) else (dioramalaw08_CalendarNext.j2 k x3 x4 x5 x6 x11 x12 x13 x14 false)) else (dioramalaw08_CalendarNext.j2 k x3 x4 x5 x6 x11 x12 x13 x14 false)
def dioramalaw08_CalendarNext.j2 : Nat → Int → Int → Int → Int → Int → Int → Int → Bool → Bool → Option (Bool)
  | 0, _, _, _, _, _, _, _, _, _ => none
  | k + 1, x3, x4, x5, x6, x11, x12, x13, x14, x15 => if x11 = (wrap64 (x4 + 1)) then (if x12 = 1 then (if x5 = 12 then (dioramalaw08_CalendarNext.j3 k x3 x4 x5 x6 x14 x15 (x13 == 1)) else (dioramalaw08_CalendarNext.j3 k x3 x4 x5 x6 x14 x15 false)) else (dioramalaw08_CalendarNext.j3 k x3 x4 x5 x6 x14 x15 false)) else (dioramalaw08_CalendarNext.j3 k x3 x4 x5 x6 x14 x15 false)
def dioramalaw08_CalendarNext.j3 : Nat → Int → Int → Int → Int → Bool → Bool → Bool → Option (Bool)
  | 0, _, _, _, _, _, _, _ => none
  | k + 1, x3, x4, x5, x6, x14, x15, x16 => if x14 = true then ((calendar_Weekday.f (wrap64 (x3 + 1))).bind fun t417 => ((calendar_Weekday.f x3).bind fun t418 => (if t417 = (Int.tmod (wrap64 (t418 + 1)) 7) then ((calendar_Text.f k (wrap64 (x3 + 1))).bind fun t419 => ((calendar_Text.f k x3).bind fun t420 => (if ((Op.bytesLess t420.toList t419.toList) = true) then (dioramalaw08_CalendarNext.j4 k x3 x4 x5 x6) else (some false)))) else (some false)))) else (if x15 = true then ((calendar_Weekday.f (wrap64 (x3 + 1))).bind fun t421 => ((calendar_Weekday.f x3).bind fun t422 => (if t421 = (Int.tmod (wrap64 (t422 + 1)) 7) then ((calendar_Text.f k (wrap64 (x3 + 1))).bind fun t423 => ((calendar_Text.f k x3).bind fun t424 => (if ((Op.bytesLess t424.toList t423.toList) = true) then (dioramalaw08_CalendarNext.j4 k x3 x4 x5 x6) else (some false)))) else (some false)))) else (if x16 = true then ((calendar_Weekday.f (wrap64 (x3 + 1))).bind fun t425 => ((calendar_Weekday.f x3).bind fun t426 => (if t425 = (Int.tmod (wrap64 (t426 + 1)) 7) then ((calendar_Text.f k (wrap64 (x3 + 1))).bind fun t427 => ((calendar_Text.f k x3).bind fun t428 => (if ((Op.bytesLess t428.toList t427.toList) = true) then (dioramalaw08_CalendarNext.j4 k x3 x4 x5 x6) else (some false)))) else (some false)))) else (some false)))
end
def dioramalaw08_CalendarNext.f (k : Nat) (a0 : Int) : Option (Bool) := (dioramaref08_Some.f k a0).bind fun t405 => ((calendar_Civil.f k t405).bind fun bt406 => ((calendar_Day.f k bt406.1 bt406.2.1 bt406.2.2).bind fun bt409 => ((calendar_Text.f k t405).bind fun t411 => ((calendar_Parse.f k t411).bind fun bt412 => (if bt409.2 = 0 then (if bt412.2 = 0 then (if bt409.1 = t405 then (dioramalaw08_CalendarNext.j0 k t405 bt406.1 bt406.2.1 bt406.2.2 (bt412.1 != t405)) else (dioramalaw08_CalendarNext.j0 k t405 bt406.1 bt406.2.1 bt406.2.2 true)) else (dioramalaw08_CalendarNext.j0 k t405 bt406.1 bt406.2.1 bt406.2.2 true)) else (dioramalaw08_CalendarNext.j0 k t405 bt406.1 bt406.2.1 bt406.2.2 true))))))
theorem dioramalaw08_CalendarNext.mono_l : ∀ k, (∀ y0 y1 y2 y3 y4, LeO (dioramalaw08_CalendarNext.j0 k y0 y1 y2 y3 y4) (dioramalaw08_CalendarNext.j0 (k + 1) y0 y1 y2 y3 y4)) ∧ (∀ y0 y1 y2 y3, LeO (dioramalaw08_CalendarNext.j4 k y0 y1 y2 y3) (dioramalaw08_CalendarNext.j4 (k + 1) y0 y1 y2 y3)) ∧ (∀ y0 y1 y2 y3 y4 y5 y6 y7, LeO (dioramalaw08_CalendarNext.j1 k y0 y1 y2 y3 y4 y5 y6 y7) (dioramalaw08_CalendarNext.j1 (k + 1) y0 y1 y2 y3 y4 y5 y6 y7)) ∧ (∀ y0 y1 y2 y3 y4 y5 y6 y7 y8, LeO (dioramalaw08_CalendarNext.j2 k y0 y1 y2 y3 y4 y5 y6 y7 y8) (dioramalaw08_CalendarNext.j2 (k + 1) y0 y1 y2 y3 y4 y5 y6 y7 y8)) ∧ (∀ y0 y1 y2 y3 y4 y5 y6, LeO (dioramalaw08_CalendarNext.j3 k y0 y1 y2 y3 y4 y5 y6) (dioramalaw08_CalendarNext.j3 (k + 1) y0 y1 y2 y3 y4 y5 y6))
  | 0 => ⟨fun _ _ _ _ _ r h => by simp [dioramalaw08_CalendarNext.j0] at h, fun _ _ _ _ r h => by simp [dioramalaw08_CalendarNext.j4] at h, fun _ _ _ _ _ _ _ _ r h => by simp [dioramalaw08_CalendarNext.j1] at h, fun _ _ _ _ _ _ _ _ _ r h => by simp [dioramalaw08_CalendarNext.j2] at h, fun _ _ _ _ _ _ _ r h => by simp [dioramalaw08_CalendarNext.j3] at h⟩
  | k + 1 => by
    obtain ⟨ih0, ih1, ih2, ih3, ih4⟩ := dioramalaw08_CalendarNext.mono_l k
    refine ⟨?_, ?_, ?_, ?_, ?_⟩
    · intro y0 y1 y2 y3 y4
      unfold dioramalaw08_CalendarNext.j0
      repeat' first
      | (with_reducible exact ih0 _ _ _ _ _)
      | (with_reducible exact ih1 _ _ _ _)
      | (with_reducible exact ih2 _ _ _ _ _ _ _ _)
      | (with_reducible exact ih3 _ _ _ _ _ _ _ _ _)
      | (with_reducible exact ih4 _ _ _ _ _ _ _)
      | (with_reducible exact calendar_Civil.mono _ _)
      | (with_reducible exact calendar_Day.mono _ _ _ _)
      | (with_reducible exact calendar_Parse.mono _ _)
      | (with_reducible exact calendar_Text.mono _ _)
      | (with_reducible exact dioramalaw08_lives.mono _)
      | (with_reducible exact dioramaref08_Some.mono _ _)
      | (with_reducible exact LeO.refl _)
      | (with_reducible exact LeO.none _)
      | (with_reducible refine LeO.ite ?_ ?_)
      | (with_reducible refine LeO.bind ?_ (fun _ => ?_))
      | exact ih0 _ _ _ _ _
      | exact ih1 _ _ _ _
      | exact ih2 _ _ _ _ _ _ _ _
      | exact ih3 _ _ _ _ _ _ _ _ _
      | exact ih4 _ _ _ _ _ _ _
      | exact calendar_Civil.mono _ _
      | exact calendar_Day.mono _ _ _ _
      | exact calendar_Parse.mono _ _
      | exact calendar_Text.mono _ _
      | exact dioramalaw08_lives.mono _
      | exact dioramaref08_Some.mono _ _
      | exact LeO.none _
      | refine LeO.ite ?_ ?_
      | refine LeO.bind ?_ (fun _ => ?_)
    · intro y0 y1 y2 y3
      unfold dioramalaw08_CalendarNext.j4
      repeat' first
      | (with_reducible exact ih0 _ _ _ _ _)
      | (with_reducible exact ih1 _ _ _ _)
      | (with_reducible exact ih2 _ _ _ _ _ _ _ _)
      | (with_reducible exact ih3 _ _ _ _ _ _ _ _ _)
      | (with_reducible exact ih4 _ _ _ _ _ _ _)
      | (with_reducible exact calendar_Civil.mono _ _)
      | (with_reducible exact calendar_Day.mono _ _ _ _)
      | (with_reducible exact calendar_Parse.mono _ _)
      | (with_reducible exact calendar_Text.mono _ _)
      | (with_reducible exact dioramalaw08_lives.mono _)
      | (with_reducible exact dioramaref08_Some.mono _ _)
      | (with_reducible exact LeO.refl _)
      | (with_reducible exact LeO.none _)
      | (with_reducible refine LeO.ite ?_ ?_)
      | (with_reducible refine LeO.bind ?_ (fun _ => ?_))
      | exact ih0 _ _ _ _ _
      | exact ih1 _ _ _ _
      | exact ih2 _ _ _ _ _ _ _ _
      | exact ih3 _ _ _ _ _ _ _ _ _
      | exact ih4 _ _ _ _ _ _ _
      | exact calendar_Civil.mono _ _
      | exact calendar_Day.mono _ _ _ _
      | exact calendar_Parse.mono _ _
      | exact calendar_Text.mono _ _
      | exact dioramalaw08_lives.mono _
      | exact dioramaref08_Some.mono _ _
      | exact LeO.none _
      | refine LeO.ite ?_ ?_
      | refine LeO.bind ?_ (fun _ => ?_)
    · intro y0 y1 y2 y3 y4 y5 y6 y7
      unfold dioramalaw08_CalendarNext.j1
      repeat' first
      | (with_reducible exact ih0 _ _ _ _ _)
      | (with_reducible exact ih1 _ _ _ _)
      | (with_reducible exact ih2 _ _ _ _ _ _ _ _)
      | (with_reducible exact ih3 _ _ _ _ _ _ _ _ _)
      | (with_reducible exact ih4 _ _ _ _ _ _ _)
      | (with_reducible exact calendar_Civil.mono _ _)
      | (with_reducible exact calendar_Day.mono _ _ _ _)
      | (with_reducible exact calendar_Parse.mono _ _)
      | (with_reducible exact calendar_Text.mono _ _)
      | (with_reducible exact dioramalaw08_lives.mono _)
      | (with_reducible exact dioramaref08_Some.mono _ _)
      | (with_reducible exact LeO.refl _)
      | (with_reducible exact LeO.none _)
      | (with_reducible refine LeO.ite ?_ ?_)
      | (with_reducible refine LeO.bind ?_ (fun _ => ?_))
      | exact ih0 _ _ _ _ _
      | exact ih1 _ _ _ _
      | exact ih2 _ _ _ _ _ _ _ _
      | exact ih3 _ _ _ _ _ _ _ _ _
      | exact ih4 _ _ _ _ _ _ _
      | exact calendar_Civil.mono _ _
      | exact calendar_Day.mono _ _ _ _
      | exact calendar_Parse.mono _ _
      | exact calendar_Text.mono _ _
      | exact dioramalaw08_lives.mono _
      | exact dioramaref08_Some.mono _ _
      | exact LeO.none _
      | refine LeO.ite ?_ ?_
      | refine LeO.bind ?_ (fun _ => ?_)
    · intro y0 y1 y2 y3 y4 y5 y6 y7 y8
      unfold dioramalaw08_CalendarNext.j2
      repeat' first
      | (with_reducible exact ih0 _ _ _ _ _)
      | (with_reducible exact ih1 _ _ _ _)
      | (with_reducible exact ih2 _ _ _ _ _ _ _ _)
      | (with_reducible exact ih3 _ _ _ _ _ _ _ _ _)
      | (with_reducible exact ih4 _ _ _ _ _ _ _)
      | (with_reducible exact calendar_Civil.mono _ _)
      | (with_reducible exact calendar_Day.mono _ _ _ _)
      | (with_reducible exact calendar_Parse.mono _ _)
      | (with_reducible exact calendar_Text.mono _ _)
      | (with_reducible exact dioramalaw08_lives.mono _)
      | (with_reducible exact dioramaref08_Some.mono _ _)
      | (with_reducible exact LeO.refl _)
      | (with_reducible exact LeO.none _)
      | (with_reducible refine LeO.ite ?_ ?_)
      | (with_reducible refine LeO.bind ?_ (fun _ => ?_))
      | exact ih0 _ _ _ _ _
      | exact ih1 _ _ _ _
      | exact ih2 _ _ _ _ _ _ _ _
      | exact ih3 _ _ _ _ _ _ _ _ _
      | exact ih4 _ _ _ _ _ _ _
      | exact calendar_Civil.mono _ _
      | exact calendar_Day.mono _ _ _ _
      | exact calendar_Parse.mono _ _
      | exact calendar_Text.mono _ _
      | exact dioramalaw08_lives.mono _
      | exact dioramaref08_Some.mono _ _
      | exact LeO.none _
      | refine LeO.ite ?_ ?_
      | refine LeO.bind ?_ (fun _ => ?_)
    · intro y0 y1 y2 y3 y4 y5 y6
      unfold dioramalaw08_CalendarNext.j3
      repeat' first
      | (with_reducible exact ih0 _ _ _ _ _)
      | (with_reducible exact ih1 _ _ _ _)
      | (with_reducible exact ih2 _ _ _ _ _ _ _ _)
      | (with_reducible exact ih3 _ _ _ _ _ _ _ _ _)
      | (with_reducible exact ih4 _ _ _ _ _ _ _)
      | (with_reducible exact calendar_Civil.mono _ _)
      | (with_reducible exact calendar_Day.mono _ _ _ _)
      | (with_reducible exact calendar_Parse.mono _ _)
      | (with_reducible exact calendar_Text.mono _ _)
      | (with_reducible exact dioramalaw08_lives.mono _)
      | (with_reducible exact dioramaref08_Some.mono _ _)
      | (with_reducible exact LeO.refl _)
      | (with_reducible exact LeO.none _)
      | (with_reducible refine LeO.ite ?_ ?_)
      | (with_reducible refine LeO.bind ?_ (fun _ => ?_))
      | exact ih0 _ _ _ _ _
      | exact ih1 _ _ _ _
      | exact ih2 _ _ _ _ _ _ _ _
      | exact ih3 _ _ _ _ _ _ _ _ _
      | exact ih4 _ _ _ _ _ _ _
      | exact calendar_Civil.mono _ _
      | exact calendar_Day.mono _ _ _ _
      | exact calendar_Parse.mono _ _
      | exact calendar_Text.mono _ _
      | exact dioramalaw08_lives.mono _
      | exact dioramaref08_Some.mono _ _
      | exact LeO.none _
      | refine LeO.ite ?_ ?_
      | refine LeO.bind ?_ (fun _ => ?_)
theorem dioramalaw08_CalendarNext.mono : ∀ a0 k, LeO (dioramalaw08_CalendarNext.f k a0) (dioramalaw08_CalendarNext.f (k + 1) a0) := by
  intro a0 k
  obtain ⟨ih0, ih1, ih2, ih3, ih4⟩ := dioramalaw08_CalendarNext.mono_l k
  unfold dioramalaw08_CalendarNext.f
  repeat' first
      | (with_reducible exact ih0 _ _ _ _ _)
      | (with_reducible exact ih1 _ _ _ _)
      | (with_reducible exact ih2 _ _ _ _ _ _ _ _)
      | (with_reducible exact ih3 _ _ _ _ _ _ _ _ _)
      | (with_reducible exact ih4 _ _ _ _ _ _ _)
      | (with_reducible exact calendar_Civil.mono _ _)
      | (with_reducible exact calendar_Day.mono _ _ _ _)
      | (with_reducible exact calendar_Parse.mono _ _)
      | (with_reducible exact calendar_Text.mono _ _)
      | (with_reducible exact dioramalaw08_lives.mono _)
      | (with_reducible exact dioramaref08_Some.mono _ _)
      | (with_reducible exact LeO.refl _)
      | (with_reducible exact LeO.none _)
      | (with_reducible refine LeO.ite ?_ ?_)
      | (with_reducible refine LeO.bind ?_ (fun _ => ?_))
      | exact ih0 _ _ _ _ _
      | exact ih1 _ _ _ _
      | exact ih2 _ _ _ _ _ _ _ _
      | exact ih3 _ _ _ _ _ _ _ _ _
      | exact ih4 _ _ _ _ _ _ _
      | exact calendar_Civil.mono _ _
      | exact calendar_Day.mono _ _ _ _
      | exact calendar_Parse.mono _ _
      | exact calendar_Text.mono _ _
      | exact dioramalaw08_lives.mono _
      | exact dioramaref08_Some.mono _ _
      | exact LeO.none _
      | refine LeO.ite ?_ ?_
      | refine LeO.bind ?_ (fun _ => ?_)
set_option maxHeartbeats 8000000 in
set_option maxRecDepth 100000 in
theorem dioramalaw08_CalendarNext.calls (k : Nat) (a0 : Int) (r : Bool) (w : World) (hv : LaidAt w) (h : dioramalaw08_CalendarNext.f k a0 = some r) :
    Calls Tryd.prog 7 #[.int .i64 a0] w fun e w' => e = .returned (.bool r) ∧ Below w.heap.size w w' := by
  have HB := Aside0.mk (Below.refl w.heap.size w)
  have H : ((dioramaref08_Some.f k a0).bind fun t405 => ((calendar_Civil.f k t405).bind fun bt406 => ((calendar_Day.f k bt406.1 bt406.2.1 bt406.2.2).bind fun bt409 => ((calendar_Text.f k t405).bind fun t411 => ((calendar_Parse.f k t411).bind fun bt412 => (if bt409.2 = 0 then (if bt412.2 = 0 then (if bt409.1 = t405 then (dioramalaw08_CalendarNext.j0 k t405 bt406.1 bt406.2.1 bt406.2.2 (bt412.1 != t405)) else (dioramalaw08_CalendarNext.j0 k t405 bt406.1 bt406.2.1 bt406.2.2 true)) else (dioramalaw08_CalendarNext.j0 k t405 bt406.1 bt406.2.1 bt406.2.2 true)) else (dioramalaw08_CalendarNext.j0 k t405 bt406.1 bt406.2.1 bt406.2.2 true))))))) = some r := h
  clear h
  replace H := Option.bind_eq_some_iff.mp H
  obtain ⟨t405, A20, H⟩ := H
  replace H : ((calendar_Civil.f k t405).bind fun bt406 => ((calendar_Day.f k bt406.1 bt406.2.1 bt406.2.2).bind fun bt409 => ((calendar_Text.f k t405).bind fun t411 => ((calendar_Parse.f k t411).bind fun bt412 => (if bt409.2 = 0 then (if bt412.2 = 0 then (if bt409.1 = t405 then (dioramalaw08_CalendarNext.j0 k t405 bt406.1 bt406.2.1 bt406.2.2 (bt412.1 != t405)) else (dioramalaw08_CalendarNext.j0 k t405 bt406.1 bt406.2.1 bt406.2.2 true)) else (dioramalaw08_CalendarNext.j0 k t405 bt406.1 bt406.2.1 bt406.2.2 true)) else (dioramalaw08_CalendarNext.j0 k t405 bt406.1 bt406.2.1 bt406.2.2 true)))))) = some r := H
  have A2 := Aside0.mk A20
  clear A20
  replace H := Option.bind_eq_some_iff.mp H
  obtain ⟨⟨t406, t407, t408⟩, A30, H⟩ := H
  replace H : ((calendar_Day.f k t406 t407 t408).bind fun bt409 => ((calendar_Text.f k t405).bind fun t411 => ((calendar_Parse.f k t411).bind fun bt412 => (if bt409.2 = 0 then (if bt412.2 = 0 then (if bt409.1 = t405 then (dioramalaw08_CalendarNext.j0 k t405 t406 t407 t408 (bt412.1 != t405)) else (dioramalaw08_CalendarNext.j0 k t405 t406 t407 t408 true)) else (dioramalaw08_CalendarNext.j0 k t405 t406 t407 t408 true)) else (dioramalaw08_CalendarNext.j0 k t405 t406 t407 t408 true))))) = some r := H
  have A3 := Aside0.mk A30
  clear A30
  replace H := Option.bind_eq_some_iff.mp H
  obtain ⟨⟨t409, t410⟩, A40, H⟩ := H
  replace H : ((calendar_Text.f k t405).bind fun t411 => ((calendar_Parse.f k t411).bind fun bt412 => (if t410 = 0 then (if bt412.2 = 0 then (if t409 = t405 then (dioramalaw08_CalendarNext.j0 k t405 t406 t407 t408 (bt412.1 != t405)) else (dioramalaw08_CalendarNext.j0 k t405 t406 t407 t408 true)) else (dioramalaw08_CalendarNext.j0 k t405 t406 t407 t408 true)) else (dioramalaw08_CalendarNext.j0 k t405 t406 t407 t408 true)))) = some r := H
  have A4 := Aside0.mk A40
  clear A40
  replace H := Option.bind_eq_some_iff.mp H
  obtain ⟨t411, A50, H⟩ := H
  replace H : ((calendar_Parse.f k t411).bind fun bt412 => (if t410 = 0 then (if bt412.2 = 0 then (if t409 = t405 then (dioramalaw08_CalendarNext.j0 k t405 t406 t407 t408 (bt412.1 != t405)) else (dioramalaw08_CalendarNext.j0 k t405 t406 t407 t408 true)) else (dioramalaw08_CalendarNext.j0 k t405 t406 t407 t408 true)) else (dioramalaw08_CalendarNext.j0 k t405 t406 t407 t408 true))) = some r := H
  have A5 := Aside0.mk A50
  clear A50
  replace H := Option.bind_eq_some_iff.mp H
  obtain ⟨⟨t412, t413⟩, A60, H⟩ := H
  replace H : (if t410 = 0 then (if t413 = 0 then (if t409 = t405 then (dioramalaw08_CalendarNext.j0 k t405 t406 t407 t408 (t412 != t405)) else (dioramalaw08_CalendarNext.j0 k t405 t406 t407 t408 true)) else (dioramalaw08_CalendarNext.j0 k t405 t406 t407 t408 true)) else (dioramalaw08_CalendarNext.j0 k t405 t406 t407 t408 true)) = some r := H
  have A6 := Aside0.mk A60
  clear A60
  have HC7 := Aside0.mk H
  clear H
  go_enter Tryd.func7, Tryd.ntmps7
  go_upto_region 5 with (first | ((with_reducible refine gate_callee (f := 10) rfl ?_); refine goesL_ (some 21) rfl rfl Tryd.func10 (by kernel_rfl) rfl #[.int .i64 a0] rfl (by (try simp only [List.map_toArray, List.map_cons, List.map_nil]); first | done | rfl | (simp only [List.length_drop, List.length_take]; rfl)) ?_; (with_reducible refine (dioramaref08_Some.calls k a0 t405 _ A2.out).mono ?_); rintro e w8 ⟨rfl, hb⟩; refine ⟨_, rfl, ?_⟩; have n0_ := Aside0.mk (below_step (by repeat (first | (with_reducible first | exact HB.out | apply below_alloc | apply pw_below_drewN | apply below_drew1) | exact HB.out)) hb); clear HB; have HB := n0_; clear n0_; (try clear hb); (try clear hb2); (try clear hk); (try clear hi)) | ((with_reducible refine gate_callee (f := 11) rfl ?_); refine goesL_ (some 24) rfl rfl Tryd.func11 (by kernel_rfl) rfl #[.int .i64 t405] rfl (by (try simp only [List.map_toArray, List.map_cons, List.map_nil]); first | done | rfl | (simp only [List.length_drop, List.length_take]; rfl)) ?_; (with_reducible refine (calendar_Civil.calls k t405 t406 t407 t408 _ A3.out).mono ?_); rintro e w9 ⟨rfl, hb⟩; refine ⟨_, rfl, ?_⟩; have n0_ := Aside0.mk (below_step (by repeat (first | (with_reducible first | exact HB.out | apply below_alloc | apply pw_below_drewN | apply below_drew1) | exact HB.out)) hb); clear HB; have HB := n0_; clear n0_; (try clear hb); (try clear hb2); (try clear hk); (try clear hi)) | ((with_reducible refine gate_callee (f := 18) rfl ?_); refine goesL_ (some 32) rfl rfl Tryd.func18 (by kernel_rfl) rfl #[.int .i64 t406, .int .i64 t407, .int .i64 t408] rfl (by (try simp only [List.map_toArray, List.map_cons, List.map_nil]); first | done | rfl | (simp only [List.length_drop, List.length_take]; rfl)) ?_; (with_reducible refine (calendar_Day.calls k t406 t407 t408 t409 t410 _ A4.out).mono ?_); rintro e w10 ⟨rfl, hb⟩; refine ⟨_, rfl, ?_⟩; have n0_ := Aside0.mk (below_step (by repeat (first | (with_reducible first | exact HB.out | apply below_alloc | apply pw_below_drewN | apply below_drew1) | exact HB.out)) hb); clear HB; have HB := n0_; clear n0_; (try clear hb); (try clear hb2); (try clear hk); (try clear hi)) | ((with_reducible refine gate_callee (f := 15) rfl ?_); refine goesL_ (some 37) rfl rfl Tryd.func15 (by kernel_rfl) rfl #[.int .i64 t405] rfl (by (try simp only [List.map_toArray, List.map_cons, List.map_nil]); first | done | rfl | (simp only [List.length_drop, List.length_take]; rfl)) ?_; (with_reducible refine (calendar_Text.calls (hv := hv.step (by repeat (first | (with_reducible first | exact HB.out | apply below_alloc | apply pw_below_drewN | apply below_drew1) | exact HB.out))) k t405 t411 _ A5.out).mono ?_); rintro e w11 ⟨rfl, hb⟩; refine ⟨_, rfl, ?_⟩; have n0_ := Aside0.mk (below_step (by repeat (first | (with_reducible first | exact HB.out | apply below_alloc | apply pw_below_drewN | apply below_drew1) | exact HB.out)) hb); clear HB; have HB := n0_; clear n0_; (try clear hb); (try clear hb2); (try clear hk); (try clear hi)) | ((with_reducible refine gate_callee (f := 22) rfl ?_); refine goesL_ (some 38) rfl rfl Tryd.func22 (by kernel_rfl) rfl #[.string t411] rfl (by (try simp only [List.map_toArray, List.map_cons, List.map_nil]); first | done | rfl | (simp only [List.length_drop, List.length_take]; rfl)) ?_; (with_reducible refine (calendar_Parse.calls (hv := hv.step (by repeat (first | (with_reducible first | exact HB.out | apply below_alloc | apply pw_below_drewN | apply below_drew1) | exact HB.out))) k t411 t412 t413 _ A6.out).mono ?_); rintro e w12 ⟨rfl, hb⟩; refine ⟨_, rfl, ?_⟩; have n0_ := Aside0.mk (below_step (by repeat (first | (with_reducible first | exact HB.out | apply below_alloc | apply pw_below_drewN | apply below_drew1) | exact HB.out)) hb); clear HB; have HB := n0_; clear n0_; (try clear hb); (try clear hb2); (try clear hk); (try clear hi)))
  (try simp only [Act.put, List.setIfInBounds_toArray, List.set_cons_zero, List.set_cons_succ])
  go_cut [56] (fun v56 wc => ∃ (kq : Nat) (x56_6 : Bool), v56 = .bool x56_6 ∧ Aside0 (dioramalaw08_CalendarNext.j0 kq t405 t406 t407 t408 x56_6 = some r) ∧ Aside0 (kq ≤ k) ∧ Aside0 (Below w.heap.size w wc))
  case first =>
    have H := HC7.out
    clear HC7
    by_cases c13 : t410 = 0
    · rw [if_pos c13] at H
      have c13b0 : (t410 == 0) = true := beq_iff_eq.mpr c13
      have c13b1 : (t410 != 0) = false := bne_eq_false_iff_eq.mpr c13
      clear c13
      (first | rw [c13b0] | (simp only [i64_w, i32_w]; rw [c13b0]) | skip)
      by_cases c14 : t413 = 0
      · rw [if_pos c14] at H
        have c14b0 : (t413 == 0) = true := beq_iff_eq.mpr c14
        have c14b1 : (t413 != 0) = false := bne_eq_false_iff_eq.mpr c14
        clear c14
        by_cases c15 : t409 = t405
        · as_aux_lemma =>
            rw [if_pos c15] at H
            have c15b0 : (t409 == t405) = true := beq_iff_eq.mpr c15
            have c15b1 : (t409 != t405) = false := bne_eq_false_iff_eq.mpr c15
            clear c15
            have H' := Aside0.mk H
            clear H
            go_wp2
            go_meet
            case rel => exact ⟨_, ((t412 != t405)), (by first | rfl | (simp; done) | (simp [*]; done)), H', ⟨by first | omega | exact Nat.le_refl _⟩, ⟨by repeat (first | (with_reducible first | exact HB.out | apply below_alloc | apply pw_below_drewN | apply below_drew1) | exact HB.out)⟩⟩
        · as_aux_lemma =>
            rw [if_neg c15] at H
            have c15b0 : (t409 == t405) = false := beq_eq_false_iff_ne.mpr c15
            have c15b1 : (t409 != t405) = true := bne_iff_ne.mpr c15
            have H' := Aside0.mk H
            clear H
            go_wp2
            go_meet
            case rel => exact ⟨_, (true), (by first | rfl | (simp; done) | (simp [*]; done)), H', ⟨by first | omega | exact Nat.le_refl _⟩, ⟨by repeat (first | (with_reducible first | exact HB.out | apply below_alloc | apply pw_below_drewN | apply below_drew1) | exact HB.out)⟩⟩
      · as_aux_lemma =>
          rw [if_neg c14] at H
          have c14b0 : (t413 == 0) = false := beq_eq_false_iff_ne.mpr c14
          have c14b1 : (t413 != 0) = true := bne_iff_ne.mpr c14
          have H' := Aside0.mk H
          clear H
          go_wp2
          go_meet
          case rel => exact ⟨_, (true), (by first | rfl | (simp; done) | (simp [*]; done)), H', ⟨by first | omega | exact Nat.le_refl _⟩, ⟨by repeat (first | (with_reducible first | exact HB.out | apply below_alloc | apply pw_below_drewN | apply below_drew1) | exact HB.out)⟩⟩
    · as_aux_lemma =>
        rw [if_neg c13] at H
        have c13b0 : (t410 == 0) = false := beq_eq_false_iff_ne.mpr c13
        have c13b1 : (t410 != 0) = true := bne_iff_ne.mpr c13
        (first | rw [c13b0] | (simp only [i64_w, i32_w]; rw [c13b0]) | skip)
        have H' := Aside0.mk H
        clear H
        go_wp2
        go_meet
        case rel => exact ⟨_, (true), (by first | rfl | (simp; done) | (simp [*]; done)), H', ⟨by first | omega | exact Nat.le_refl _⟩, ⟨by repeat (first | (with_reducible first | exact HB.out | apply below_alloc | apply pw_below_drewN | apply below_drew1) | exact HB.out)⟩⟩
  case rest =>
    clear HC7
    try clear c1
    try clear c2
    try clear p2
    try clear c7
    try clear c10
    try clear c11
    try clear c13
    try clear c13b0
    try clear c13b1
    try clear c14
    try clear c14b0
    try clear c14b1
    try clear c15
    try clear c15b0
    try clear c15b1
    obtain ⟨kq, x56_6, rfl, HA, HJ6, HB⟩ := hcut
    cases kq with
    | zero => exact absurd HA.out (by simp [dioramalaw08_CalendarNext.j0])
    | succ kj6 =>
      have H := HA.out
      clear HA
      simp only [dioramalaw08_CalendarNext.j0] at H
      by_cases c16 : x56_6 = true
      · as_aux_lemma =>
          subst c16
          have H1 : (some false) = some r := by rw [if_pos rfl] at H; exact H
          clear H
          have H := H1
          clear H1
          obtain rfl := Option.some.inj H
          go_wp2
          go_ret
          exact ⟨by first | rfl | (simp [errW_none, errW_some] <;> rfl) | (simp [*, errW_none, errW_some] <;> rfl), by repeat (first | (with_reducible first | exact HB.out | apply below_alloc | apply pw_below_drewN | apply below_drew1) | exact HB.out)⟩
      · replace c16 := Bool.eq_false_iff.mpr c16
        subst c16
        have H1 : (if t405 < 146096 then ((calendar_Civil.f kj6 (wrap64 (t405 + 1))).bind fun bt414 => (if bt414.1 = t406 then (if bt414.2.1 = t407 then (dioramalaw08_CalendarNext.j1 kj6 t405 t406 t407 t408 bt414.1 bt414.2.1 bt414.2.2 (bt414.2.2 == (wrap64 (t408 + 1)))) else (dioramalaw08_CalendarNext.j1 kj6 t405 t406 t407 t408 bt414.1 bt414.2.1 bt414.2.2 false)) else (dioramalaw08_CalendarNext.j1 kj6 t405 t406 t407 t408 bt414.1 bt414.2.1 bt414.2.2 false))) else (dioramalaw08_CalendarNext.j4 kj6 t405 t406 t407 t408)) = some r := by rw [if_neg (show ¬ (false = true) by decide)] at H; exact H
        clear H
        have H := H1
        clear H1
        have HC17 := Aside0.mk H
        clear H
        go_upto_if 58 with (fail)
        go_cut [] (fun wc => ∃ (kq : Nat), Aside0 (dioramalaw08_CalendarNext.j4 kq t405 t406 t407 t408 = some r) ∧ Aside0 (kq ≤ kj6) ∧ Aside0 (Below w.heap.size w wc))
        case first =>
          have H := HC17.out
          clear HC17
          by_cases c18 : t405 < 146096
          · rw [if_pos c18] at H
            have c18b0 : decide (t405 < 146096) = true := decide_eq_true c18
            clear c18
            (first | rw [c18b0] | (simp only [i64_w, i32_w]; rw [c18b0]) | skip)
            replace H := Option.bind_eq_some_iff.mp H
            obtain ⟨⟨t414, t415, t416⟩, A190, H⟩ := H
            replace H : (if t414 = t406 then (if t415 = t407 then (dioramalaw08_CalendarNext.j1 kj6 t405 t406 t407 t408 t414 t415 t416 (t416 == (wrap64 (t408 + 1)))) else (dioramalaw08_CalendarNext.j1 kj6 t405 t406 t407 t408 t414 t415 t416 false)) else (dioramalaw08_CalendarNext.j1 kj6 t405 t406 t407 t408 t414 t415 t416 false)) = some r := H
            have A19 := Aside0.mk A190
            clear A190
            have HC20 := Aside0.mk H
            clear H
            go_upto_region 9 with (first | ((with_reducible refine gate_callee (f := 11) rfl ?_); refine goesL_ (some 62) rfl rfl Tryd.func11 (by kernel_rfl) rfl #[.int .i64 (wrap64 (t405 + 1))] rfl (by (try simp only [List.map_toArray, List.map_cons, List.map_nil]); first | done | rfl | (simp only [List.length_drop, List.length_take]; rfl)) ?_; (with_reducible refine (calendar_Civil.calls kj6 (wrap64 (t405 + 1)) t414 t415 t416 _ A19.out).mono ?_); rintro e w21 ⟨rfl, hb⟩; refine ⟨_, rfl, ?_⟩; have n0_ := Aside0.mk (below_step (by repeat (first | (with_reducible first | exact HB.out | apply below_alloc | apply pw_below_drewN | apply below_drew1) | exact HB.out)) hb); clear HB; have HB := n0_; clear n0_; (try clear hb); (try clear hb2); (try clear hk); (try clear hi)))
            (try simp only [Act.put, List.setIfInBounds_toArray, List.set_cons_zero, List.set_cons_succ])
            go_cut [14] (fun v14 wc => ∃ (kq : Nat) (x14_19 : Bool), v14 = .bool x14_19 ∧ Aside0 (dioramalaw08_CalendarNext.j1 kq t405 t406 t407 t408 t414 t415 t416 x14_19 = some r) ∧ Aside0 (kq ≤ kj6) ∧ Aside0 (Below w.heap.size w wc))
            case first =>
              have H := HC20.out
              clear HC20
              by_cases c22 : t414 = t406
              · rw [if_pos c22] at H
                have c22b0 : (t414 == t406) = true := beq_iff_eq.mpr c22
                have c22b1 : (t414 != t406) = false := bne_eq_false_iff_eq.mpr c22
                clear c22
                (first | rw [c22b0] | (simp only [i64_w, i32_w]; rw [c22b0]) | skip)
                by_cases c23 : t415 = t407
                · as_aux_lemma =>
                    rw [if_pos c23] at H
                    have c23b0 : (t415 == t407) = true := beq_iff_eq.mpr c23
                    have c23b1 : (t415 != t407) = false := bne_eq_false_iff_eq.mpr c23
                    clear c23
                    have H' := Aside0.mk H
                    clear H
                    go_wp2
                    go_meet
                    case rel => exact ⟨_, ((t416 == (wrap64 (t408 + 1)))), (by first | rfl | (simp; done) | (simp [*]; done)), H', ⟨by have := HJ6.out; first | omega | exact Nat.le_refl _⟩, ⟨by repeat (first | (with_reducible first | exact HB.out | apply below_alloc | apply pw_below_drewN | apply below_drew1) | exact HB.out)⟩⟩
                · as_aux_lemma =>
                    rw [if_neg c23] at H
                    have c23b0 : (t415 == t407) = false := beq_eq_false_iff_ne.mpr c23
                    have c23b1 : (t415 != t407) = true := bne_iff_ne.mpr c23
                    have H' := Aside0.mk H
                    clear H
                    go_wp2
                    go_meet
                    case rel => exact ⟨_, (false), (by first | rfl | (simp; done) | (simp [*]; done)), H', ⟨by have := HJ6.out; first | omega | exact Nat.le_refl _⟩, ⟨by repeat (first | (with_reducible first | exact HB.out | apply below_alloc | apply pw_below_drewN | apply below_drew1) | exact HB.out)⟩⟩
              · as_aux_lemma =>
                  rw [if_neg c22] at H
                  have c22b0 : (t414 == t406) = false := beq_eq_false_iff_ne.mpr c22
                  have c22b1 : (t414 != t406) = true := bne_iff_ne.mpr c22
                  (first | rw [c22b0] | (simp only [i64_w, i32_w]; rw [c22b0]) | skip)
                  have H' := Aside0.mk H
                  clear H
                  go_wp2
                  go_meet
                  case rel => exact ⟨_, (false), (by first | rfl | (simp; done) | (simp [*]; done)), H', ⟨by have := HJ6.out; first | omega | exact Nat.le_refl _⟩, ⟨by repeat (first | (with_reducible first | exact HB.out | apply below_alloc | apply pw_below_drewN | apply below_drew1) | exact HB.out)⟩⟩
            case rest =>
              clear HC20
              try clear c1
              try clear c2
              try clear p2
              try clear p6
              try clear c7
              try clear c10
              try clear c11
              try clear c13
              try clear c13b0
              try clear c13b1
              try clear c14
              try clear c14b0
              try clear c14b1
              try clear c15
              try clear c15b0
              try clear c15b1
              try clear c16
              try clear c18
              try clear c18b0
              try clear c22
              try clear c22b0
              try clear c22b1
              try clear c23
              try clear c23b0
              try clear c23b1
              try clear p2
              obtain ⟨kq, x14_19, rfl, HA, HJ19, HB⟩ := hcut
              cases kq with
              | zero => exact absurd HA.out (by simp [dioramalaw08_CalendarNext.j1])
              | succ kj19 =>
                have H := HA.out
                clear HA
                simp only [dioramalaw08_CalendarNext.j1] at H
                have HC24 := Aside0.mk H
                clear H
                go_upto_region 10 with (fail)
                go_cut [15] (fun v15 wc => ∃ (kq : Nat) (x15_23 : Bool), v15 = .bool x15_23 ∧ Aside0 (dioramalaw08_CalendarNext.j2 kq t405 t406 t407 t408 t414 t415 t416 x14_19 x15_23 = some r) ∧ Aside0 (kq ≤ kj19) ∧ Aside0 (Below w.heap.size w wc))
                case first =>
                  have H := HC24.out
                  clear HC24
                  by_cases c25 : t414 = t406
                  · rw [if_pos c25] at H
                    have c25b0 : (t414 == t406) = true := beq_iff_eq.mpr c25
                    have c25b1 : (t414 != t406) = false := bne_eq_false_iff_eq.mpr c25
                    clear c25
                    (first | rw [c25b0] | (simp only [i64_w, i32_w]; rw [c25b0]) | skip)
                    by_cases c26 : t415 = (wrap64 (t407 + 1))
                    · as_aux_lemma =>
                        rw [if_pos c26] at H
                        have c26b0 : (t415 == (wrap64 (t407 + 1))) = true := beq_iff_eq.mpr c26
                        have c26b1 : (t415 != (wrap64 (t407 + 1))) = false := bne_eq_false_iff_eq.mpr c26
                        clear c26
                        have H' := Aside0.mk H
                        clear H
                        go_wp2
                        go_meet
                        case rel => exact ⟨_, ((t416 == 1)), (by first | rfl | (simp; done) | (simp [*]; done)), H', ⟨by have := HJ6.out; have := HJ19.out; first | omega | exact Nat.le_refl _⟩, ⟨by repeat (first | (with_reducible first | exact HB.out | apply below_alloc | apply pw_below_drewN | apply below_drew1) | exact HB.out)⟩⟩
                    · as_aux_lemma =>
                        rw [if_neg c26] at H
                        have c26b0 : (t415 == (wrap64 (t407 + 1))) = false := beq_eq_false_iff_ne.mpr c26
                        have c26b1 : (t415 != (wrap64 (t407 + 1))) = true := bne_iff_ne.mpr c26
                        have H' := Aside0.mk H
                        clear H
                        go_wp2
                        go_meet
                        case rel => exact ⟨_, (false), (by first | rfl | (simp; done) | (simp [*]; done)), H', ⟨by have := HJ6.out; have := HJ19.out; first | omega | exact Nat.le_refl _⟩, ⟨by repeat (first | (with_reducible first | exact HB.out | apply below_alloc | apply pw_below_drewN | apply below_drew1) | exact HB.out)⟩⟩
                  · as_aux_lemma =>
                      rw [if_neg c25] at H
                      have c25b0 : (t414 == t406) = false := beq_eq_false_iff_ne.mpr c25
                      have c25b1 : (t414 != t406) = true := bne_iff_ne.mpr c25
                      (first | rw [c25b0] | (simp only [i64_w, i32_w]; rw [c25b0]) | skip)
                      have H' := Aside0.mk H
                      clear H
                      go_wp2
                      go_meet
                      case rel => exact ⟨_, (false), (by first | rfl | (simp; done) | (simp [*]; done)), H', ⟨by have := HJ6.out; have := HJ19.out; first | omega | exact Nat.le_refl _⟩, ⟨by repeat (first | (with_reducible first | exact HB.out | apply below_alloc | apply pw_below_drewN | apply below_drew1) | exact HB.out)⟩⟩
                case rest =>
                  clear HC24
                  try clear c1
                  try clear c2
                  try clear p2
                  try clear p6
                  try clear c7
                  try clear c10
                  try clear c11
                  try clear c13
                  try clear c13b0
                  try clear c13b1
                  try clear c14
                  try clear c14b0
                  try clear c14b1
                  try clear c15
                  try clear c15b0
                  try clear c15b1
                  try clear c16
                  try clear c18
                  try clear c18b0
                  try clear c22
                  try clear c22b0
                  try clear c22b1
                  try clear c23
                  try clear c23b0
                  try clear c23b1
                  try clear c25
                  try clear c25b0
                  try clear c25b1
                  try clear c26
                  try clear c26b0
                  try clear c26b1
                  try clear p2
                  try clear p6
                  obtain ⟨kq, x15_23, rfl, HA, HJ23, HB⟩ := hcut
                  cases kq with
                  | zero => exact absurd HA.out (by simp [dioramalaw08_CalendarNext.j2])
                  | succ kj23 =>
                    have H := HA.out
                    clear HA
                    simp only [dioramalaw08_CalendarNext.j2] at H
                    have HC27 := Aside0.mk H
                    clear H
                    go_upto_region 11 with (fail)
                    go_cut [16] (fun v16 wc => ∃ (kq : Nat) (x16_26 : Bool), v16 = .bool x16_26 ∧ Aside0 (dioramalaw08_CalendarNext.j3 kq t405 t406 t407 t408 x14_19 x15_23 x16_26 = some r) ∧ Aside0 (kq ≤ kj23) ∧ Aside0 (Below w.heap.size w wc))
                    case first =>
                      have H := HC27.out
                      clear HC27
                      by_cases c28 : t414 = (wrap64 (t406 + 1))
                      · rw [if_pos c28] at H
                        have c28b0 : (t414 == (wrap64 (t406 + 1))) = true := beq_iff_eq.mpr c28
                        have c28b1 : (t414 != (wrap64 (t406 + 1))) = false := bne_eq_false_iff_eq.mpr c28
                        clear c28
                        (first | rw [c28b0] | (simp only [i64_w, i32_w]; rw [c28b0]) | skip)
                        by_cases c29 : t415 = 1
                        · rw [if_pos c29] at H
                          have c29b0 : (t415 == 1) = true := beq_iff_eq.mpr c29
                          have c29b1 : (t415 != 1) = false := bne_eq_false_iff_eq.mpr c29
                          clear c29
                          by_cases c30 : t407 = 12
                          · as_aux_lemma =>
                              rw [if_pos c30] at H
                              have c30b0 : (t407 == 12) = true := beq_iff_eq.mpr c30
                              have c30b1 : (t407 != 12) = false := bne_eq_false_iff_eq.mpr c30
                              clear c30
                              have H' := Aside0.mk H
                              clear H
                              go_wp2
                              go_meet
                              case rel => exact ⟨_, ((t416 == 1)), (by first | rfl | (simp; done) | (simp [*]; done)), H', ⟨by have := HJ6.out; have := HJ19.out; have := HJ23.out; first | omega | exact Nat.le_refl _⟩, ⟨by repeat (first | (with_reducible first | exact HB.out | apply below_alloc | apply pw_below_drewN | apply below_drew1) | exact HB.out)⟩⟩
                          · as_aux_lemma =>
                              rw [if_neg c30] at H
                              have c30b0 : (t407 == 12) = false := beq_eq_false_iff_ne.mpr c30
                              have c30b1 : (t407 != 12) = true := bne_iff_ne.mpr c30
                              have H' := Aside0.mk H
                              clear H
                              go_wp2
                              go_meet
                              case rel => exact ⟨_, (false), (by first | rfl | (simp; done) | (simp [*]; done)), H', ⟨by have := HJ6.out; have := HJ19.out; have := HJ23.out; first | omega | exact Nat.le_refl _⟩, ⟨by repeat (first | (with_reducible first | exact HB.out | apply below_alloc | apply pw_below_drewN | apply below_drew1) | exact HB.out)⟩⟩
                        · as_aux_lemma =>
                            rw [if_neg c29] at H
                            have c29b0 : (t415 == 1) = false := beq_eq_false_iff_ne.mpr c29
                            have c29b1 : (t415 != 1) = true := bne_iff_ne.mpr c29
                            have H' := Aside0.mk H
                            clear H
                            go_wp2
                            go_meet
                            case rel => exact ⟨_, (false), (by first | rfl | (simp; done) | (simp [*]; done)), H', ⟨by have := HJ6.out; have := HJ19.out; have := HJ23.out; first | omega | exact Nat.le_refl _⟩, ⟨by repeat (first | (with_reducible first | exact HB.out | apply below_alloc | apply pw_below_drewN | apply below_drew1) | exact HB.out)⟩⟩
                      · as_aux_lemma =>
                          rw [if_neg c28] at H
                          have c28b0 : (t414 == (wrap64 (t406 + 1))) = false := beq_eq_false_iff_ne.mpr c28
                          have c28b1 : (t414 != (wrap64 (t406 + 1))) = true := bne_iff_ne.mpr c28
                          (first | rw [c28b0] | (simp only [i64_w, i32_w]; rw [c28b0]) | skip)
                          have H' := Aside0.mk H
                          clear H
                          go_wp2
                          go_meet
                          case rel => exact ⟨_, (false), (by first | rfl | (simp; done) | (simp [*]; done)), H', ⟨by have := HJ6.out; have := HJ19.out; have := HJ23.out; first | omega | exact Nat.le_refl _⟩, ⟨by repeat (first | (with_reducible first | exact HB.out | apply below_alloc | apply pw_below_drewN | apply below_drew1) | exact HB.out)⟩⟩
                    case rest =>
                      clear HC27
                      try clear c1
                      try clear c2
                      try clear p2
                      try clear c3
                      try clear p6
                      try clear c7
                      try clear c10
                      try clear c11
                      try clear c13
                      try clear c13b0
                      try clear c13b1
                      try clear c14
                      try clear c14b0
                      try clear c14b1
                      try clear c15
                      try clear c15b0
                      try clear c15b1
                      try clear c16
                      try clear c18
                      try clear c18b0
                      try clear c22
                      try clear c22b0
                      try clear c22b1
                      try clear c23
                      try clear c23b0
                      try clear c23b1
                      try clear c25
                      try clear c25b0
                      try clear c25b1
                      try clear c26
                      try clear c26b0
                      try clear c26b1
                      try clear c28
                      try clear c28b0
                      try clear c28b1
                      try clear c29
                      try clear c29b0
                      try clear c29b1
                      try clear c30
                      try clear c30b0
                      try clear c30b1
                      try clear p2
                      try clear p6
                      obtain ⟨kq, x16_26, rfl, HA, HJ26, HB⟩ := hcut
                      cases kq with
                      | zero => exact absurd HA.out (by simp [dioramalaw08_CalendarNext.j3])
                      | succ kj26 =>
                        have H := HA.out
                        clear HA
                        simp only [dioramalaw08_CalendarNext.j3] at H
                        by_cases c31 : x14_19 = true
                        · subst c31
                          have H1 : ((calendar_Weekday.f (wrap64 (t405 + 1))).bind fun t417 => ((calendar_Weekday.f t405).bind fun t418 => (if t417 = (Int.tmod (wrap64 (t418 + 1)) 7) then ((calendar_Text.f kj26 (wrap64 (t405 + 1))).bind fun t419 => ((calendar_Text.f kj26 t405).bind fun t420 => (if ((Op.bytesLess t420.toList t419.toList) = true) then (dioramalaw08_CalendarNext.j4 kj26 t405 t406 t407 t408) else (some false)))) else (some false)))) = some r := by rw [if_pos rfl] at H; exact H
                          clear H
                          have H := H1
                          clear H1
                          replace H := Option.bind_eq_some_iff.mp H
                          obtain ⟨t417, A320, H⟩ := H
                          replace H : ((calendar_Weekday.f t405).bind fun t418 => (if t417 = (Int.tmod (wrap64 (t418 + 1)) 7) then ((calendar_Text.f kj26 (wrap64 (t405 + 1))).bind fun t419 => ((calendar_Text.f kj26 t405).bind fun t420 => (if ((Op.bytesLess t420.toList t419.toList) = true) then (dioramalaw08_CalendarNext.j4 kj26 t405 t406 t407 t408) else (some false)))) else (some false))) = some r := H
                          have A32 := Aside0.mk A320
                          clear A320
                          replace H := Option.bind_eq_some_iff.mp H
                          obtain ⟨t418, A330, H⟩ := H
                          replace H : (if t417 = (Int.tmod (wrap64 (t418 + 1)) 7) then ((calendar_Text.f kj26 (wrap64 (t405 + 1))).bind fun t419 => ((calendar_Text.f kj26 t405).bind fun t420 => (if ((Op.bytesLess t420.toList t419.toList) = true) then (dioramalaw08_CalendarNext.j4 kj26 t405 t406 t407 t408) else (some false)))) else (some false)) = some r := H
                          have A33 := Aside0.mk A330
                          clear A330
                          by_cases c34 : t417 = (Int.tmod (wrap64 (t418 + 1)) 7)
                          · rw [if_pos c34] at H
                            have c34b0 : (t417 == (Int.tmod (wrap64 (t418 + 1)) 7)) = true := beq_iff_eq.mpr c34
                            have c34b1 : (t417 != (Int.tmod (wrap64 (t418 + 1)) 7)) = false := bne_eq_false_iff_eq.mpr c34
                            clear c34
                            replace H := Option.bind_eq_some_iff.mp H
                            obtain ⟨t419, A350, H⟩ := H
                            replace H : ((calendar_Text.f kj26 t405).bind fun t420 => (if ((Op.bytesLess t420.toList t419.toList) = true) then (dioramalaw08_CalendarNext.j4 kj26 t405 t406 t407 t408) else (some false))) = some r := H
                            have A35 := Aside0.mk A350
                            clear A350
                            replace H := Option.bind_eq_some_iff.mp H
                            obtain ⟨t420, A360, H⟩ := H
                            replace H : (if ((Op.bytesLess t420.toList t419.toList) = true) then (dioramalaw08_CalendarNext.j4 kj26 t405 t406 t407 t408) else (some false)) = some r := H
                            have A36 := Aside0.mk A360
                            clear A360
                            by_cases c37 : ((Op.bytesLess t420.toList t419.toList) = true)
                            · as_aux_lemma =>
                                rw [if_pos c37] at H
                                have c37b0 : (Op.bytesLess t420.toList t419.toList) = true := c37
                                clear c37
                                have H' := Aside0.mk H
                                clear H
                                go_wp2_with (first | (go_at_call 13; (with_reducible refine (calendar_Weekday.calls (wrap64 (t405 + 1)) t417 _ A32.out).mono ?_); rintro e w' ⟨rfl, ⟨nd, rfl⟩⟩) | (go_at_call 13; (with_reducible refine (calendar_Weekday.calls t405 t418 _ A33.out).mono ?_); rintro e w' ⟨rfl, ⟨nd, rfl⟩⟩) | (go_at_call 15; (with_reducible refine (calendar_Text.calls (hv := hv.step (by repeat (first | (with_reducible first | exact HB.out | apply below_alloc | apply pw_below_drewN | apply below_drew1) | exact HB.out))) kj26 (wrap64 (t405 + 1)) t419 _ A35.out).mono ?_); rintro e w38 ⟨rfl, hb⟩; have n0_ := Aside0.mk (below_step (by repeat (first | (with_reducible first | exact HB.out | apply below_alloc | apply pw_below_drewN | apply below_drew1) | exact HB.out)) hb); clear HB; have HB := n0_; clear n0_; (try clear hb); (try clear hb2); (try clear hk); (try clear hi)) | (go_at_call 15; (with_reducible refine (calendar_Text.calls (hv := hv.step (by repeat (first | (with_reducible first | exact HB.out | apply below_alloc | apply pw_below_drewN | apply below_drew1) | exact HB.out))) kj26 t405 t420 _ A36.out).mono ?_); rintro e w39 ⟨rfl, hb⟩; have n0_ := Aside0.mk (below_step (by repeat (first | (with_reducible first | exact HB.out | apply below_alloc | apply pw_below_drewN | apply below_drew1) | exact HB.out)) hb); clear HB; have HB := n0_; clear n0_; (try clear hb); (try clear hb2); (try clear hk); (try clear hi)))
                                go_meet
                                case rel => exact ⟨_, H', ⟨by have := HJ6.out; have := HJ19.out; have := HJ23.out; have := HJ26.out; first | omega | exact Nat.le_refl _⟩, ⟨by repeat (first | (with_reducible first | exact HB.out | apply below_alloc | apply pw_below_drewN | apply below_drew1) | exact HB.out)⟩⟩
                            · as_aux_lemma =>
                                rw [if_neg c37] at H
                                have c37b0 : (Op.bytesLess t420.toList t419.toList) = false := by simpa using c37
                                clear c37
                                obtain rfl := Option.some.inj H
                                go_wp2_with (first | (go_at_call 13; (with_reducible refine (calendar_Weekday.calls (wrap64 (t405 + 1)) t417 _ A32.out).mono ?_); rintro e w' ⟨rfl, ⟨nd, rfl⟩⟩) | (go_at_call 13; (with_reducible refine (calendar_Weekday.calls t405 t418 _ A33.out).mono ?_); rintro e w' ⟨rfl, ⟨nd, rfl⟩⟩) | (go_at_call 15; (with_reducible refine (calendar_Text.calls (hv := hv.step (by repeat (first | (with_reducible first | exact HB.out | apply below_alloc | apply pw_below_drewN | apply below_drew1) | exact HB.out))) kj26 (wrap64 (t405 + 1)) t419 _ A35.out).mono ?_); rintro e w40 ⟨rfl, hb⟩; have n0_ := Aside0.mk (below_step (by repeat (first | (with_reducible first | exact HB.out | apply below_alloc | apply pw_below_drewN | apply below_drew1) | exact HB.out)) hb); clear HB; have HB := n0_; clear n0_; (try clear hb); (try clear hb2); (try clear hk); (try clear hi)) | (go_at_call 15; (with_reducible refine (calendar_Text.calls (hv := hv.step (by repeat (first | (with_reducible first | exact HB.out | apply below_alloc | apply pw_below_drewN | apply below_drew1) | exact HB.out))) kj26 t405 t420 _ A36.out).mono ?_); rintro e w41 ⟨rfl, hb⟩; have n0_ := Aside0.mk (below_step (by repeat (first | (with_reducible first | exact HB.out | apply below_alloc | apply pw_below_drewN | apply below_drew1) | exact HB.out)) hb); clear HB; have HB := n0_; clear n0_; (try clear hb); (try clear hb2); (try clear hk); (try clear hi)))
                                go_ret
                                exact ⟨by first | rfl | (simp [errW_none, errW_some] <;> rfl) | (simp [*, errW_none, errW_some] <;> rfl), by repeat (first | (with_reducible first | exact HB.out | apply below_alloc | apply pw_below_drewN | apply below_drew1) | exact HB.out)⟩
                          · as_aux_lemma =>
                              rw [if_neg c34] at H
                              have c34b0 : (t417 == (Int.tmod (wrap64 (t418 + 1)) 7)) = false := beq_eq_false_iff_ne.mpr c34
                              have c34b1 : (t417 != (Int.tmod (wrap64 (t418 + 1)) 7)) = true := bne_iff_ne.mpr c34
                              obtain rfl := Option.some.inj H
                              go_wp2_with (first | (go_at_call 13; (with_reducible refine (calendar_Weekday.calls (wrap64 (t405 + 1)) t417 _ A32.out).mono ?_); rintro e w' ⟨rfl, ⟨nd, rfl⟩⟩) | (go_at_call 13; (with_reducible refine (calendar_Weekday.calls t405 t418 _ A33.out).mono ?_); rintro e w' ⟨rfl, ⟨nd, rfl⟩⟩))
                              go_ret
                              exact ⟨by first | rfl | (simp [errW_none, errW_some] <;> rfl) | (simp [*, errW_none, errW_some] <;> rfl), by repeat (first | (with_reducible first | exact HB.out | apply below_alloc | apply pw_below_drewN | apply below_drew1) | exact HB.out)⟩
                        · replace c31 := Bool.eq_false_iff.mpr c31
                          subst c31
                          have H1 : (if x15_23 = true then ((calendar_Weekday.f (wrap64 (t405 + 1))).bind fun t421 => ((calendar_Weekday.f t405).bind fun t422 => (if t421 = (Int.tmod (wrap64 (t422 + 1)) 7) then ((calendar_Text.f kj26 (wrap64 (t405 + 1))).bind fun t423 => ((calendar_Text.f kj26 t405).bind fun t424 => (if ((Op.bytesLess t424.toList t423.toList) = true) then (dioramalaw08_CalendarNext.j4 kj26 t405 t406 t407 t408) else (some false)))) else (some false)))) else (if x16_26 = true then ((calendar_Weekday.f (wrap64 (t405 + 1))).bind fun t425 => ((calendar_Weekday.f t405).bind fun t426 => (if t425 = (Int.tmod (wrap64 (t426 + 1)) 7) then ((calendar_Text.f kj26 (wrap64 (t405 + 1))).bind fun t427 => ((calendar_Text.f kj26 t405).bind fun t428 => (if ((Op.bytesLess t428.toList t427.toList) = true) then (dioramalaw08_CalendarNext.j4 kj26 t405 t406 t407 t408) else (some false)))) else (some false)))) else (some false))) = some r := by rw [if_neg (show ¬ (false = true) by decide)] at H; exact H
                          clear H
                          have H := H1
                          clear H1
                          by_cases c42 : x15_23 = true
                          · subst c42
                            have H1 : ((calendar_Weekday.f (wrap64 (t405 + 1))).bind fun t421 => ((calendar_Weekday.f t405).bind fun t422 => (if t421 = (Int.tmod (wrap64 (t422 + 1)) 7) then ((calendar_Text.f kj26 (wrap64 (t405 + 1))).bind fun t423 => ((calendar_Text.f kj26 t405).bind fun t424 => (if ((Op.bytesLess t424.toList t423.toList) = true) then (dioramalaw08_CalendarNext.j4 kj26 t405 t406 t407 t408) else (some false)))) else (some false)))) = some r := by rw [if_pos rfl] at H; exact H
                            clear H
                            have H := H1
                            clear H1
                            replace H := Option.bind_eq_some_iff.mp H
                            obtain ⟨t421, A430, H⟩ := H
                            replace H : ((calendar_Weekday.f t405).bind fun t422 => (if t421 = (Int.tmod (wrap64 (t422 + 1)) 7) then ((calendar_Text.f kj26 (wrap64 (t405 + 1))).bind fun t423 => ((calendar_Text.f kj26 t405).bind fun t424 => (if ((Op.bytesLess t424.toList t423.toList) = true) then (dioramalaw08_CalendarNext.j4 kj26 t405 t406 t407 t408) else (some false)))) else (some false))) = some r := H
                            have A43 := Aside0.mk A430
                            clear A430
                            replace H := Option.bind_eq_some_iff.mp H
                            obtain ⟨t422, A440, H⟩ := H
                            replace H : (if t421 = (Int.tmod (wrap64 (t422 + 1)) 7) then ((calendar_Text.f kj26 (wrap64 (t405 + 1))).bind fun t423 => ((calendar_Text.f kj26 t405).bind fun t424 => (if ((Op.bytesLess t424.toList t423.toList) = true) then (dioramalaw08_CalendarNext.j4 kj26 t405 t406 t407 t408) else (some false)))) else (some false)) = some r := H
                            have A44 := Aside0.mk A440
                            clear A440
                            by_cases c45 : t421 = (Int.tmod (wrap64 (t422 + 1)) 7)
                            · rw [if_pos c45] at H
                              have c45b0 : (t421 == (Int.tmod (wrap64 (t422 + 1)) 7)) = true := beq_iff_eq.mpr c45
                              have c45b1 : (t421 != (Int.tmod (wrap64 (t422 + 1)) 7)) = false := bne_eq_false_iff_eq.mpr c45
                              clear c45
                              replace H := Option.bind_eq_some_iff.mp H
                              obtain ⟨t423, A460, H⟩ := H
                              replace H : ((calendar_Text.f kj26 t405).bind fun t424 => (if ((Op.bytesLess t424.toList t423.toList) = true) then (dioramalaw08_CalendarNext.j4 kj26 t405 t406 t407 t408) else (some false))) = some r := H
                              have A46 := Aside0.mk A460
                              clear A460
                              replace H := Option.bind_eq_some_iff.mp H
                              obtain ⟨t424, A470, H⟩ := H
                              replace H : (if ((Op.bytesLess t424.toList t423.toList) = true) then (dioramalaw08_CalendarNext.j4 kj26 t405 t406 t407 t408) else (some false)) = some r := H
                              have A47 := Aside0.mk A470
                              clear A470
                              by_cases c48 : ((Op.bytesLess t424.toList t423.toList) = true)
                              · as_aux_lemma =>
                                  rw [if_pos c48] at H
                                  have c48b0 : (Op.bytesLess t424.toList t423.toList) = true := c48
                                  clear c48
                                  have H' := Aside0.mk H
                                  clear H
                                  go_wp2_with (first | (go_at_call 13; (with_reducible refine (calendar_Weekday.calls (wrap64 (t405 + 1)) t421 _ A43.out).mono ?_); rintro e w' ⟨rfl, ⟨nd, rfl⟩⟩) | (go_at_call 13; (with_reducible refine (calendar_Weekday.calls t405 t422 _ A44.out).mono ?_); rintro e w' ⟨rfl, ⟨nd, rfl⟩⟩) | (go_at_call 15; (with_reducible refine (calendar_Text.calls (hv := hv.step (by repeat (first | (with_reducible first | exact HB.out | apply below_alloc | apply pw_below_drewN | apply below_drew1) | exact HB.out))) kj26 (wrap64 (t405 + 1)) t423 _ A46.out).mono ?_); rintro e w49 ⟨rfl, hb⟩; have n0_ := Aside0.mk (below_step (by repeat (first | (with_reducible first | exact HB.out | apply below_alloc | apply pw_below_drewN | apply below_drew1) | exact HB.out)) hb); clear HB; have HB := n0_; clear n0_; (try clear hb); (try clear hb2); (try clear hk); (try clear hi)) | (go_at_call 15; (with_reducible refine (calendar_Text.calls (hv := hv.step (by repeat (first | (with_reducible first | exact HB.out | apply below_alloc | apply pw_below_drewN | apply below_drew1) | exact HB.out))) kj26 t405 t424 _ A47.out).mono ?_); rintro e w50 ⟨rfl, hb⟩; have n0_ := Aside0.mk (below_step (by repeat (first | (with_reducible first | exact HB.out | apply below_alloc | apply pw_below_drewN | apply below_drew1) | exact HB.out)) hb); clear HB; have HB := n0_; clear n0_; (try clear hb); (try clear hb2); (try clear hk); (try clear hi)))
                                  go_meet
                                  case rel => exact ⟨_, H', ⟨by have := HJ6.out; have := HJ19.out; have := HJ23.out; have := HJ26.out; first | omega | exact Nat.le_refl _⟩, ⟨by repeat (first | (with_reducible first | exact HB.out | apply below_alloc | apply pw_below_drewN | apply below_drew1) | exact HB.out)⟩⟩
                              · as_aux_lemma =>
                                  rw [if_neg c48] at H
                                  have c48b0 : (Op.bytesLess t424.toList t423.toList) = false := by simpa using c48
                                  clear c48
                                  obtain rfl := Option.some.inj H
                                  go_wp2_with (first | (go_at_call 13; (with_reducible refine (calendar_Weekday.calls (wrap64 (t405 + 1)) t421 _ A43.out).mono ?_); rintro e w' ⟨rfl, ⟨nd, rfl⟩⟩) | (go_at_call 13; (with_reducible refine (calendar_Weekday.calls t405 t422 _ A44.out).mono ?_); rintro e w' ⟨rfl, ⟨nd, rfl⟩⟩) | (go_at_call 15; (with_reducible refine (calendar_Text.calls (hv := hv.step (by repeat (first | (with_reducible first | exact HB.out | apply below_alloc | apply pw_below_drewN | apply below_drew1) | exact HB.out))) kj26 (wrap64 (t405 + 1)) t423 _ A46.out).mono ?_); rintro e w51 ⟨rfl, hb⟩; have n0_ := Aside0.mk (below_step (by repeat (first | (with_reducible first | exact HB.out | apply below_alloc | apply pw_below_drewN | apply below_drew1) | exact HB.out)) hb); clear HB; have HB := n0_; clear n0_; (try clear hb); (try clear hb2); (try clear hk); (try clear hi)) | (go_at_call 15; (with_reducible refine (calendar_Text.calls (hv := hv.step (by repeat (first | (with_reducible first | exact HB.out | apply below_alloc | apply pw_below_drewN | apply below_drew1) | exact HB.out))) kj26 t405 t424 _ A47.out).mono ?_); rintro e w52 ⟨rfl, hb⟩; have n0_ := Aside0.mk (below_step (by repeat (first | (with_reducible first | exact HB.out | apply below_alloc | apply pw_below_drewN | apply below_drew1) | exact HB.out)) hb); clear HB; have HB := n0_; clear n0_; (try clear hb); (try clear hb2); (try clear hk); (try clear hi)))
                                  go_ret
                                  exact ⟨by first | rfl | (simp [errW_none, errW_some] <;> rfl) | (simp [*, errW_none, errW_some] <;> rfl), by repeat (first | (with_reducible first | exact HB.out | apply below_alloc | apply pw_below_drewN | apply below_drew1) | exact HB.out)⟩
                            · as_aux_lemma =>
                                rw [if_neg c45] at H
                                have c45b0 : (t421 == (Int.tmod (wrap64 (t422 + 1)) 7)) = false := beq_eq_false_iff_ne.mpr c45
                                have c45b1 : (t421 != (Int.tmod (wrap64 (t422 + 1)) 7)) = true := bne_iff_ne.mpr c45
                                obtain rfl := Option.some.inj H
                                go_wp2_with (first | (go_at_call 13; (with_reducible refine (calendar_Weekday.calls (wrap64 (t405 + 1)) t421 _ A43.out).mono ?_); rintro e w' ⟨rfl, ⟨nd, rfl⟩⟩) | (go_at_call 13; (with_reducible refine (calendar_Weekday.calls t405 t422 _ A44.out).mono ?_); rintro e w' ⟨rfl, ⟨nd, rfl⟩⟩))
                                go_ret
                                exact ⟨by first | rfl | (simp [errW_none, errW_some] <;> rfl) | (simp [*, errW_none, errW_some] <;> rfl), by repeat (first | (with_reducible first | exact HB.out | apply below_alloc | apply pw_below_drewN | apply below_drew1) | exact HB.out)⟩
                          · replace c42 := Bool.eq_false_iff.mpr c42
                            subst c42
                            have H1 : (if x16_26 = true then ((calendar_Weekday.f (wrap64 (t405 + 1))).bind fun t425 => ((calendar_Weekday.f t405).bind fun t426 => (if t425 = (Int.tmod (wrap64 (t426 + 1)) 7) then ((calendar_Text.f kj26 (wrap64 (t405 + 1))).bind fun t427 => ((calendar_Text.f kj26 t405).bind fun t428 => (if ((Op.bytesLess t428.toList t427.toList) = true) then (dioramalaw08_CalendarNext.j4 kj26 t405 t406 t407 t408) else (some false)))) else (some false)))) else (some false)) = some r := by rw [if_neg (show ¬ (false = true) by decide)] at H; exact H
                            clear H
                            have H := H1
                            clear H1
                            by_cases c53 : x16_26 = true
                            · subst c53
                              have H1 : ((calendar_Weekday.f (wrap64 (t405 + 1))).bind fun t425 => ((calendar_Weekday.f t405).bind fun t426 => (if t425 = (Int.tmod (wrap64 (t426 + 1)) 7) then ((calendar_Text.f kj26 (wrap64 (t405 + 1))).bind fun t427 => ((calendar_Text.f kj26 t405).bind fun t428 => (if ((Op.bytesLess t428.toList t427.toList) = true) then (dioramalaw08_CalendarNext.j4 kj26 t405 t406 t407 t408) else (some false)))) else (some false)))) = some r := by rw [if_pos rfl] at H; exact H
                              clear H
                              have H := H1
                              clear H1
                              replace H := Option.bind_eq_some_iff.mp H
                              obtain ⟨t425, A540, H⟩ := H
                              replace H : ((calendar_Weekday.f t405).bind fun t426 => (if t425 = (Int.tmod (wrap64 (t426 + 1)) 7) then ((calendar_Text.f kj26 (wrap64 (t405 + 1))).bind fun t427 => ((calendar_Text.f kj26 t405).bind fun t428 => (if ((Op.bytesLess t428.toList t427.toList) = true) then (dioramalaw08_CalendarNext.j4 kj26 t405 t406 t407 t408) else (some false)))) else (some false))) = some r := H
                              have A54 := Aside0.mk A540
                              clear A540
                              replace H := Option.bind_eq_some_iff.mp H
                              obtain ⟨t426, A550, H⟩ := H
                              replace H : (if t425 = (Int.tmod (wrap64 (t426 + 1)) 7) then ((calendar_Text.f kj26 (wrap64 (t405 + 1))).bind fun t427 => ((calendar_Text.f kj26 t405).bind fun t428 => (if ((Op.bytesLess t428.toList t427.toList) = true) then (dioramalaw08_CalendarNext.j4 kj26 t405 t406 t407 t408) else (some false)))) else (some false)) = some r := H
                              have A55 := Aside0.mk A550
                              clear A550
                              by_cases c56 : t425 = (Int.tmod (wrap64 (t426 + 1)) 7)
                              · rw [if_pos c56] at H
                                have c56b0 : (t425 == (Int.tmod (wrap64 (t426 + 1)) 7)) = true := beq_iff_eq.mpr c56
                                have c56b1 : (t425 != (Int.tmod (wrap64 (t426 + 1)) 7)) = false := bne_eq_false_iff_eq.mpr c56
                                clear c56
                                replace H := Option.bind_eq_some_iff.mp H
                                obtain ⟨t427, A570, H⟩ := H
                                replace H : ((calendar_Text.f kj26 t405).bind fun t428 => (if ((Op.bytesLess t428.toList t427.toList) = true) then (dioramalaw08_CalendarNext.j4 kj26 t405 t406 t407 t408) else (some false))) = some r := H
                                have A57 := Aside0.mk A570
                                clear A570
                                replace H := Option.bind_eq_some_iff.mp H
                                obtain ⟨t428, A580, H⟩ := H
                                replace H : (if ((Op.bytesLess t428.toList t427.toList) = true) then (dioramalaw08_CalendarNext.j4 kj26 t405 t406 t407 t408) else (some false)) = some r := H
                                have A58 := Aside0.mk A580
                                clear A580
                                by_cases c59 : ((Op.bytesLess t428.toList t427.toList) = true)
                                · as_aux_lemma =>
                                    rw [if_pos c59] at H
                                    have c59b0 : (Op.bytesLess t428.toList t427.toList) = true := c59
                                    clear c59
                                    have H' := Aside0.mk H
                                    clear H
                                    go_wp2_with (first | (go_at_call 13; (with_reducible refine (calendar_Weekday.calls (wrap64 (t405 + 1)) t425 _ A54.out).mono ?_); rintro e w' ⟨rfl, ⟨nd, rfl⟩⟩) | (go_at_call 13; (with_reducible refine (calendar_Weekday.calls t405 t426 _ A55.out).mono ?_); rintro e w' ⟨rfl, ⟨nd, rfl⟩⟩) | (go_at_call 15; (with_reducible refine (calendar_Text.calls (hv := hv.step (by repeat (first | (with_reducible first | exact HB.out | apply below_alloc | apply pw_below_drewN | apply below_drew1) | exact HB.out))) kj26 (wrap64 (t405 + 1)) t427 _ A57.out).mono ?_); rintro e w60 ⟨rfl, hb⟩; have n0_ := Aside0.mk (below_step (by repeat (first | (with_reducible first | exact HB.out | apply below_alloc | apply pw_below_drewN | apply below_drew1) | exact HB.out)) hb); clear HB; have HB := n0_; clear n0_; (try clear hb); (try clear hb2); (try clear hk); (try clear hi)) | (go_at_call 15; (with_reducible refine (calendar_Text.calls (hv := hv.step (by repeat (first | (with_reducible first | exact HB.out | apply below_alloc | apply pw_below_drewN | apply below_drew1) | exact HB.out))) kj26 t405 t428 _ A58.out).mono ?_); rintro e w61 ⟨rfl, hb⟩; have n0_ := Aside0.mk (below_step (by repeat (first | (with_reducible first | exact HB.out | apply below_alloc | apply pw_below_drewN | apply below_drew1) | exact HB.out)) hb); clear HB; have HB := n0_; clear n0_; (try clear hb); (try clear hb2); (try clear hk); (try clear hi)))
                                    go_meet
                                    case rel => exact ⟨_, H', ⟨by have := HJ6.out; have := HJ19.out; have := HJ23.out; have := HJ26.out; first | omega | exact Nat.le_refl _⟩, ⟨by repeat (first | (with_reducible first | exact HB.out | apply below_alloc | apply pw_below_drewN | apply below_drew1) | exact HB.out)⟩⟩
                                · as_aux_lemma =>
                                    rw [if_neg c59] at H
                                    have c59b0 : (Op.bytesLess t428.toList t427.toList) = false := by simpa using c59
                                    clear c59
                                    obtain rfl := Option.some.inj H
                                    go_wp2_with (first | (go_at_call 13; (with_reducible refine (calendar_Weekday.calls (wrap64 (t405 + 1)) t425 _ A54.out).mono ?_); rintro e w' ⟨rfl, ⟨nd, rfl⟩⟩) | (go_at_call 13; (with_reducible refine (calendar_Weekday.calls t405 t426 _ A55.out).mono ?_); rintro e w' ⟨rfl, ⟨nd, rfl⟩⟩) | (go_at_call 15; (with_reducible refine (calendar_Text.calls (hv := hv.step (by repeat (first | (with_reducible first | exact HB.out | apply below_alloc | apply pw_below_drewN | apply below_drew1) | exact HB.out))) kj26 (wrap64 (t405 + 1)) t427 _ A57.out).mono ?_); rintro e w62 ⟨rfl, hb⟩; have n0_ := Aside0.mk (below_step (by repeat (first | (with_reducible first | exact HB.out | apply below_alloc | apply pw_below_drewN | apply below_drew1) | exact HB.out)) hb); clear HB; have HB := n0_; clear n0_; (try clear hb); (try clear hb2); (try clear hk); (try clear hi)) | (go_at_call 15; (with_reducible refine (calendar_Text.calls (hv := hv.step (by repeat (first | (with_reducible first | exact HB.out | apply below_alloc | apply pw_below_drewN | apply below_drew1) | exact HB.out))) kj26 t405 t428 _ A58.out).mono ?_); rintro e w63 ⟨rfl, hb⟩; have n0_ := Aside0.mk (below_step (by repeat (first | (with_reducible first | exact HB.out | apply below_alloc | apply pw_below_drewN | apply below_drew1) | exact HB.out)) hb); clear HB; have HB := n0_; clear n0_; (try clear hb); (try clear hb2); (try clear hk); (try clear hi)))
                                    go_ret
                                    exact ⟨by first | rfl | (simp [errW_none, errW_some] <;> rfl) | (simp [*, errW_none, errW_some] <;> rfl), by repeat (first | (with_reducible first | exact HB.out | apply below_alloc | apply pw_below_drewN | apply below_drew1) | exact HB.out)⟩
                              · as_aux_lemma =>
                                  rw [if_neg c56] at H
                                  have c56b0 : (t425 == (Int.tmod (wrap64 (t426 + 1)) 7)) = false := beq_eq_false_iff_ne.mpr c56
                                  have c56b1 : (t425 != (Int.tmod (wrap64 (t426 + 1)) 7)) = true := bne_iff_ne.mpr c56
                                  obtain rfl := Option.some.inj H
                                  go_wp2_with (first | (go_at_call 13; (with_reducible refine (calendar_Weekday.calls (wrap64 (t405 + 1)) t425 _ A54.out).mono ?_); rintro e w' ⟨rfl, ⟨nd, rfl⟩⟩) | (go_at_call 13; (with_reducible refine (calendar_Weekday.calls t405 t426 _ A55.out).mono ?_); rintro e w' ⟨rfl, ⟨nd, rfl⟩⟩))
                                  go_ret
                                  exact ⟨by first | rfl | (simp [errW_none, errW_some] <;> rfl) | (simp [*, errW_none, errW_some] <;> rfl), by repeat (first | (with_reducible first | exact HB.out | apply below_alloc | apply pw_below_drewN | apply below_drew1) | exact HB.out)⟩
                            · as_aux_lemma =>
                                replace c53 := Bool.eq_false_iff.mpr c53
                                subst c53
                                have H1 : (some false) = some r := by rw [if_neg (show ¬ (false = true) by decide)] at H; exact H
                                clear H
                                have H := H1
                                clear H1
                                obtain rfl := Option.some.inj H
                                go_wp2
                                go_ret
                                exact ⟨by first | rfl | (simp [errW_none, errW_some] <;> rfl) | (simp [*, errW_none, errW_some] <;> rfl), by repeat (first | (with_reducible first | exact HB.out | apply below_alloc | apply pw_below_drewN | apply below_drew1) | exact HB.out)⟩
          · as_aux_lemma =>
              rw [if_neg c18] at H
              have c18b0 : decide (t405 < 146096) = false := decide_eq_false c18
              clear c18
              (first | rw [c18b0] | (simp only [i64_w, i32_w]; rw [c18b0]) | skip)
              have H' := Aside0.mk H
              clear H
              go_wp2
              go_meet
              case rel => exact ⟨_, H', ⟨by have := HJ6.out; first | omega | exact Nat.le_refl _⟩, ⟨by repeat (first | (with_reducible first | exact HB.out | apply below_alloc | apply pw_below_drewN | apply below_drew1) | exact HB.out)⟩⟩
        case rest =>
          clear HC17
          try clear c1
          try clear c2
          try clear p2
          try clear c3
          try clear c4
          try clear c5
          try clear p6
          try clear c7
          try clear c10
          try clear c11
          try clear c13
          try clear c13b0
          try clear c13b1
          try clear c14
          try clear c14b0
          try clear c14b1
          try clear c15
          try clear c15b0
          try clear c15b1
          try clear c16
          try clear c18
          try clear c18b0
          try clear c22
          try clear c22b0
          try clear c22b1
          try clear c23
          try clear c23b0
          try clear c23b1
          try clear c25
          try clear c25b0
          try clear c25b1
          try clear c26
          try clear c26b0
          try clear c26b1
          try clear c28
          try clear c28b0
          try clear c28b1
          try clear c29
          try clear c29b0
          try clear c29b1
          try clear c30
          try clear c30b0
          try clear c30b1
          try clear c31
          try clear c34
          try clear c34b0
          try clear c34b1
          try clear c37
          try clear c37b0
          try clear c42
          try clear c45
          try clear c45b0
          try clear c45b1
          try clear c48
          try clear c48b0
          try clear c53
          try clear c56
          try clear c56b0
          try clear c56b1
          try clear c59
          try clear c59b0
          try clear p2
          try clear p6
          obtain ⟨kq, HA, HJ16, HB⟩ := hcut
          cases kq with
          | zero => exact absurd HA.out (by simp [dioramalaw08_CalendarNext.j4])
          | succ kj16 =>
            have H := HA.out
            clear HA
            simp only [dioramalaw08_CalendarNext.j4] at H
            by_cases c64 : t405 < 0
            · rw [if_pos c64] at H
              have c64b0 : decide (t405 < 0) = true := decide_eq_true c64
              clear c64
              replace H := Option.bind_eq_some_iff.mp H
              obtain ⟨⟨t429, t430, t431⟩, A650, H⟩ := H
              replace H : (if t429 = (wrap64 (t406 + 400)) then (if t430 = t407 then (if t431 = t408 then ((calendar_Weekday.f (wrap64 (t405 + 146097))).bind fun t432 => ((calendar_Weekday.f t405).bind fun t433 => (if t432 = t433 then ((dioramalaw08_lives.f kj16).bind fun t434 => (some t434)) else (some false)))) else (some false)) else (some false)) else (some false)) = some r := H
              have A65 := Aside0.mk A650
              clear A650
              by_cases c66 : t429 = (wrap64 (t406 + 400))
              · rw [if_pos c66] at H
                have c66b0 : (t429 == (wrap64 (t406 + 400))) = true := beq_iff_eq.mpr c66
                have c66b1 : (t429 != (wrap64 (t406 + 400))) = false := bne_eq_false_iff_eq.mpr c66
                clear c66
                by_cases c67 : t430 = t407
                · rw [if_pos c67] at H
                  have c67b0 : (t430 == t407) = true := beq_iff_eq.mpr c67
                  have c67b1 : (t430 != t407) = false := bne_eq_false_iff_eq.mpr c67
                  clear c67
                  by_cases c68 : t431 = t408
                  · rw [if_pos c68] at H
                    have c68b0 : (t431 == t408) = true := beq_iff_eq.mpr c68
                    have c68b1 : (t431 != t408) = false := bne_eq_false_iff_eq.mpr c68
                    clear c68
                    replace H := Option.bind_eq_some_iff.mp H
                    obtain ⟨t432, A690, H⟩ := H
                    replace H : ((calendar_Weekday.f t405).bind fun t433 => (if t432 = t433 then ((dioramalaw08_lives.f kj16).bind fun t434 => (some t434)) else (some false))) = some r := H
                    have A69 := Aside0.mk A690
                    clear A690
                    replace H := Option.bind_eq_some_iff.mp H
                    obtain ⟨t433, A700, H⟩ := H
                    replace H : (if t432 = t433 then ((dioramalaw08_lives.f kj16).bind fun t434 => (some t434)) else (some false)) = some r := H
                    have A70 := Aside0.mk A700
                    clear A700
                    by_cases c71 : t432 = t433
                    · as_aux_lemma =>
                        rw [if_pos c71] at H
                        have c71b0 : (t432 == t433) = true := beq_iff_eq.mpr c71
                        have c71b1 : (t432 != t433) = false := bne_eq_false_iff_eq.mpr c71
                        clear c71
                        replace H := Option.bind_eq_some_iff.mp H
                        obtain ⟨t434, A720, H⟩ := H
                        replace H : (some t434) = some r := H
                        have A72 := Aside0.mk A720
                        clear A720
                        obtain rfl := Option.some.inj H
                        go_wp2_with (first | ((with_reducible refine gate_callee (f := 11) rfl ?_); refine goesL_ (some 142) rfl rfl Tryd.func11 (by kernel_rfl) rfl #[.int .i64 (wrap64 (t405 + 146097))] rfl (by (try simp only [List.map_toArray, List.map_cons, List.map_nil]); first | done | rfl | (simp only [List.length_drop, List.length_take]; rfl)) ?_; (with_reducible refine (calendar_Civil.calls kj16 (wrap64 (t405 + 146097)) t429 t430 t431 _ A65.out).mono ?_); rintro e w73 ⟨rfl, hb⟩; refine ⟨_, rfl, ?_⟩; have n0_ := Aside0.mk (below_step (by repeat (first | (with_reducible first | exact HB.out | apply below_alloc | apply pw_below_drewN | apply below_drew1) | exact HB.out)) hb); clear HB; have HB := n0_; clear n0_; (try clear hb); (try clear hb2); (try clear hk); (try clear hi)) | (go_at_call 13; (with_reducible refine (calendar_Weekday.calls (wrap64 (t405 + 146097)) t432 _ A69.out).mono ?_); rintro e w' ⟨rfl, ⟨nd, rfl⟩⟩) | (go_at_call 13; (with_reducible refine (calendar_Weekday.calls t405 t433 _ A70.out).mono ?_); rintro e w' ⟨rfl, ⟨nd, rfl⟩⟩) | (go_at_call 20; (with_reducible refine (dioramalaw08_lives.calls (hv := hv.step (by repeat (first | (with_reducible first | exact HB.out | apply below_alloc | apply pw_below_drewN | apply below_drew1) | exact HB.out))) kj16  t434 _ A72.out).mono ?_); rintro e w74 ⟨rfl, hb⟩; have n0_ := Aside0.mk (below_step (by repeat (first | (with_reducible first | exact HB.out | apply below_alloc | apply pw_below_drewN | apply below_drew1) | exact HB.out)) hb); clear HB; have HB := n0_; clear n0_; (try clear hb); (try clear hb2); (try clear hk); (try clear hi)))
                        go_ret
                        exact ⟨by first | rfl | (simp [errW_none, errW_some] <;> rfl) | (simp [*, errW_none, errW_some] <;> rfl), by repeat (first | (with_reducible first | exact HB.out | apply below_alloc | apply pw_below_drewN | apply below_drew1) | exact HB.out)⟩
                    · as_aux_lemma =>
                        rw [if_neg c71] at H
                        have c71b0 : (t432 == t433) = false := beq_eq_false_iff_ne.mpr c71
                        have c71b1 : (t432 != t433) = true := bne_iff_ne.mpr c71
                        obtain rfl := Option.some.inj H
                        go_wp2_with (first | ((with_reducible refine gate_callee (f := 11) rfl ?_); refine goesL_ (some 142) rfl rfl Tryd.func11 (by kernel_rfl) rfl #[.int .i64 (wrap64 (t405 + 146097))] rfl (by (try simp only [List.map_toArray, List.map_cons, List.map_nil]); first | done | rfl | (simp only [List.length_drop, List.length_take]; rfl)) ?_; (with_reducible refine (calendar_Civil.calls kj16 (wrap64 (t405 + 146097)) t429 t430 t431 _ A65.out).mono ?_); rintro e w75 ⟨rfl, hb⟩; refine ⟨_, rfl, ?_⟩; have n0_ := Aside0.mk (below_step (by repeat (first | (with_reducible first | exact HB.out | apply below_alloc | apply pw_below_drewN | apply below_drew1) | exact HB.out)) hb); clear HB; have HB := n0_; clear n0_; (try clear hb); (try clear hb2); (try clear hk); (try clear hi)) | (go_at_call 13; (with_reducible refine (calendar_Weekday.calls (wrap64 (t405 + 146097)) t432 _ A69.out).mono ?_); rintro e w' ⟨rfl, ⟨nd, rfl⟩⟩) | (go_at_call 13; (with_reducible refine (calendar_Weekday.calls t405 t433 _ A70.out).mono ?_); rintro e w' ⟨rfl, ⟨nd, rfl⟩⟩))
                        go_ret
                        exact ⟨by first | rfl | (simp [errW_none, errW_some] <;> rfl) | (simp [*, errW_none, errW_some] <;> rfl), by repeat (first | (with_reducible first | exact HB.out | apply below_alloc | apply pw_below_drewN | apply below_drew1) | exact HB.out)⟩
                  · as_aux_lemma =>
                      rw [if_neg c68] at H
                      have c68b0 : (t431 == t408) = false := beq_eq_false_iff_ne.mpr c68
                      have c68b1 : (t431 != t408) = true := bne_iff_ne.mpr c68
                      obtain rfl := Option.some.inj H
                      go_wp2_with (first | ((with_reducible refine gate_callee (f := 11) rfl ?_); refine goesL_ (some 142) rfl rfl Tryd.func11 (by kernel_rfl) rfl #[.int .i64 (wrap64 (t405 + 146097))] rfl (by (try simp only [List.map_toArray, List.map_cons, List.map_nil]); first | done | rfl | (simp only [List.length_drop, List.length_take]; rfl)) ?_; (with_reducible refine (calendar_Civil.calls kj16 (wrap64 (t405 + 146097)) t429 t430 t431 _ A65.out).mono ?_); rintro e w76 ⟨rfl, hb⟩; refine ⟨_, rfl, ?_⟩; have n0_ := Aside0.mk (below_step (by repeat (first | (with_reducible first | exact HB.out | apply below_alloc | apply pw_below_drewN | apply below_drew1) | exact HB.out)) hb); clear HB; have HB := n0_; clear n0_; (try clear hb); (try clear hb2); (try clear hk); (try clear hi)))
                      go_ret
                      exact ⟨by first | rfl | (simp [errW_none, errW_some] <;> rfl) | (simp [*, errW_none, errW_some] <;> rfl), by repeat (first | (with_reducible first | exact HB.out | apply below_alloc | apply pw_below_drewN | apply below_drew1) | exact HB.out)⟩
                · as_aux_lemma =>
                    rw [if_neg c67] at H
                    have c67b0 : (t430 == t407) = false := beq_eq_false_iff_ne.mpr c67
                    have c67b1 : (t430 != t407) = true := bne_iff_ne.mpr c67
                    obtain rfl := Option.some.inj H
                    go_wp2_with (first | ((with_reducible refine gate_callee (f := 11) rfl ?_); refine goesL_ (some 142) rfl rfl Tryd.func11 (by kernel_rfl) rfl #[.int .i64 (wrap64 (t405 + 146097))] rfl (by (try simp only [List.map_toArray, List.map_cons, List.map_nil]); first | done | rfl | (simp only [List.length_drop, List.length_take]; rfl)) ?_; (with_reducible refine (calendar_Civil.calls kj16 (wrap64 (t405 + 146097)) t429 t430 t431 _ A65.out).mono ?_); rintro e w77 ⟨rfl, hb⟩; refine ⟨_, rfl, ?_⟩; have n0_ := Aside0.mk (below_step (by repeat (first | (with_reducible first | exact HB.out | apply below_alloc | apply pw_below_drewN | apply below_drew1) | exact HB.out)) hb); clear HB; have HB := n0_; clear n0_; (try clear hb); (try clear hb2); (try clear hk); (try clear hi)))
                    go_ret
                    exact ⟨by first | rfl | (simp [errW_none, errW_some] <;> rfl) | (simp [*, errW_none, errW_some] <;> rfl), by repeat (first | (with_reducible first | exact HB.out | apply below_alloc | apply pw_below_drewN | apply below_drew1) | exact HB.out)⟩
              · as_aux_lemma =>
                  rw [if_neg c66] at H
                  have c66b0 : (t429 == (wrap64 (t406 + 400))) = false := beq_eq_false_iff_ne.mpr c66
                  have c66b1 : (t429 != (wrap64 (t406 + 400))) = true := bne_iff_ne.mpr c66
                  obtain rfl := Option.some.inj H
                  go_wp2_with (first | ((with_reducible refine gate_callee (f := 11) rfl ?_); refine goesL_ (some 142) rfl rfl Tryd.func11 (by kernel_rfl) rfl #[.int .i64 (wrap64 (t405 + 146097))] rfl (by (try simp only [List.map_toArray, List.map_cons, List.map_nil]); first | done | rfl | (simp only [List.length_drop, List.length_take]; rfl)) ?_; (with_reducible refine (calendar_Civil.calls kj16 (wrap64 (t405 + 146097)) t429 t430 t431 _ A65.out).mono ?_); rintro e w78 ⟨rfl, hb⟩; refine ⟨_, rfl, ?_⟩; have n0_ := Aside0.mk (below_step (by repeat (first | (with_reducible first | exact HB.out | apply below_alloc | apply pw_below_drewN | apply below_drew1) | exact HB.out)) hb); clear HB; have HB := n0_; clear n0_; (try clear hb); (try clear hb2); (try clear hk); (try clear hi)))
                  go_ret
                  exact ⟨by first | rfl | (simp [errW_none, errW_some] <;> rfl) | (simp [*, errW_none, errW_some] <;> rfl), by repeat (first | (with_reducible first | exact HB.out | apply below_alloc | apply pw_below_drewN | apply below_drew1) | exact HB.out)⟩
            · as_aux_lemma =>
                rw [if_neg c64] at H
                have c64b0 : decide (t405 < 0) = false := decide_eq_false c64
                clear c64
                replace H := Option.bind_eq_some_iff.mp H
                obtain ⟨t435, A790, H⟩ := H
                replace H : (some t435) = some r := H
                have A79 := Aside0.mk A790
                clear A790
                obtain rfl := Option.some.inj H
                go_wp2_with (first | ((with_reducible refine gate_callee (f := 20) rfl ?_); refine goesL_ (some 171) rfl rfl Tryd.func20 (by kernel_rfl) rfl #[] rfl (by (try simp only [List.map_toArray, List.map_cons, List.map_nil]); first | done | rfl | (simp only [List.length_drop, List.length_take]; rfl)) ?_; (with_reducible refine (dioramalaw08_lives.calls (hv := hv.step (by repeat (first | (with_reducible first | exact HB.out | apply below_alloc | apply pw_below_drewN | apply below_drew1) | exact HB.out))) kj16  t435 _ A79.out).mono ?_); rintro e w80 ⟨rfl, hb⟩; refine ⟨_, rfl, ?_⟩; have n0_ := Aside0.mk (below_step (by repeat (first | (with_reducible first | exact HB.out | apply below_alloc | apply pw_below_drewN | apply below_drew1) | exact HB.out)) hb); clear HB; have HB := n0_; clear n0_; (try clear hb); (try clear hb2); (try clear hk); (try clear hi)))
                go_ret
                exact ⟨by first | rfl | (simp [errW_none, errW_some] <;> rfl) | (simp [*, errW_none, errW_some] <;> rfl), by repeat (first | (with_reducible first | exact HB.out | apply below_alloc | apply pw_below_drewN | apply below_drew1) | exact HB.out)⟩
  
/-- THE ONE PURE STATEMENT of dioramalaw08_CalendarNext: yours. -/
def dioramalaw08_CalendarNext.Pure : Prop := ∀ (a0 : Int), (Lit.int .i64 a0).wf = true → ∃ k, dioramalaw08_CalendarNext.f k a0 = some true
theorem dioramalaw08_CalendarNext.walk (P : dioramalaw08_CalendarNext.Pure) (a0 : Int) (w : World) (hv : LaidAt w) (w0 : (Lit.int .i64 a0).wf = true) :
    Calls Tryd.prog 7 #[.int .i64 a0] w fun e w' => e = .returned (.bool true) ∧ Below w.heap.size w w' := by
  obtain ⟨k, h⟩ := P a0 w0
  refine (dioramalaw08_CalendarNext.calls (hv := hv) k a0 true w h).mono ?_
  rintro e w' ⟨rfl, hd⟩
  exact ⟨rfl, hd⟩

end Go.Proofs.YtlfgjpidamkpdaaDoor.Pc
