/- The contracts of the functions that the laws reach, each over a plain Lean function, written by wip/ownprint.py of this claim's session. -/
import Derived.Test.YtlfgjpidamkpdaaDoorPc0
import Derived.Test.YtlfgjpidamkpdaaDoorPc1
import Derived.Test.YtlfgjpidamkpdaaDoorPc2
import Derived.Test.YtlfgjpidamkpdaaDoorPc4
import Derived.Test.YtlfgjpidamkpdaaDoorPc5
import Derived.Test.YtlfgjpidamkpdaaDoorPc6
import Derived.Test.YtlfgjpidamkpdaaDoorPc10
import Derived.Test.YtlfgjpidamkpdaaDoorPc11
namespace Go.Proofs.YtlfgjpidamkpdaaDoor.Pc
open Go.RowKit Go.Proofs.YtlfgjpidamkpdaaDoorW.PrintWords Go.Proofs.YtlfgjpidamkpdaaDoorW.PrintLast Go.Proofs.YtlfgjpidamkpdaaDoorW.PrintMore
attribute [local go_sem] max2_int min2_int max_two min_two max_three min_three max_four min_four   -- for this text's walks alone
attribute [local go_sem high] binOp_leq_p
set_option linter.unusedVariables false
set_option linter.unusedSimpArgs false

/-! ### dioramalaw08_CalendarMoments: function 8 -/
mutual
def dioramalaw08_CalendarMoments.j0 : Nat → Int → Int → Int → Int → Int → Option (Bool)
  | 0, _, _, _, _, _ => none
  | k + 1, x8, x445000, x445001, x445002, x445003 => (calendar_Local.f k x8 x445000 x445001 x445002 x445003).bind fun bt456 => (if bt456.2.2 = 0 then ((calendar_Moments.f k bt456.1 bt456.2.1 x445000 x445001 x445002 x445003).bind fun bt460 => (if bt460.2 = 0 then (if (bt460.1.length : Int) < 1 then (dioramalaw08_CalendarMoments.j1 k x8 bt456.1 bt456.2.1 bt460.1 true x445000 x445001 x445002 x445003) else (if (bt460.1.length : Int) > 2 then (dioramalaw08_CalendarMoments.j1 k x8 bt456.1 bt456.2.1 bt460.1 true x445000 x445001 x445002 x445003) else (if x445001 = 0 then (if (bt460.1.length : Int) = 1 then (if (bt460.1.length : Int) = 2 then (if 0 < (bt460.1.length : Int) then (if 1 < (bt460.1.length : Int) then (dioramalaw08_CalendarMoments.j1 k x8 bt456.1 bt456.2.1 bt460.1 (decide ((rd bt460.1 0) ≥ (rd bt460.1 1))) x445000 x445001 x445002 x445003) else (none)) else (none)) else (dioramalaw08_CalendarMoments.j1 k x8 bt456.1 bt456.2.1 bt460.1 false x445000 x445001 x445002 x445003)) else (dioramalaw08_CalendarMoments.j1 k x8 bt456.1 bt456.2.1 bt460.1 true x445000 x445001 x445002 x445003)) else (if (bt460.1.length : Int) = 2 then (if 0 < (bt460.1.length : Int) then (if 1 < (bt460.1.length : Int) then (dioramalaw08_CalendarMoments.j1 k x8 bt456.1 bt456.2.1 bt460.1 (decide ((rd bt460.1 0) ≥ (rd bt460.1 1))) x445000 x445001 x445002 x445003) else (none)) else (none)) else (dioramalaw08_CalendarMoments.j1 k x8 bt456.1 bt456.2.1 bt460.1 false x445000 x445001 x445002 x445003))))) else (dioramalaw08_CalendarMoments.j1 k x8 bt456.1 bt456.2.1 bt460.1 true x445000 x445001 x445002 x445003))) else (if bt456.2.2 = 5 then ((dioramalaw08_lives.f k).bind fun t459 => (some t459)) else (some false)))
def dioramalaw08_CalendarMoments.j1 : Nat → Int → Int → Int → List Int → Bool → Int → Int → Int → Int → Option (Bool)
  | 0, _, _, _, _, _, _, _, _, _ => none
  | k + 1, x8, x16, x17, x19, x127, x445000, x445001, x445002, x445003 => if x127 = true then (some false) else (if 0 < (x19.length : Int) then (if (rd x19 0) = x8 then (dioramalaw08_CalendarMoments.j2 k x8 x16 x17 false x445000 x445001 x445002 x445003) else (if 0 ≤ (wrap64 ((x19.length : Int) - 1)) then (if (wrap64 ((x19.length : Int) - 1)) < (x19.length : Int) then (dioramalaw08_CalendarMoments.j2 k x8 x16 x17 ((rd x19 (wrap64 ((x19.length : Int) - 1))) != x8) x445000 x445001 x445002 x445003) else (none)) else (none))) else (none))
def dioramalaw08_CalendarMoments.j2 : Nat → Int → Int → Int → Bool → Int → Int → Int → Int → Option (Bool)
  | 0, _, _, _, _, _, _, _, _ => none
  | k + 1, x8, x16, x17, x142, x445000, x445001, x445002, x445003 => if x142 = true then (some false) else ((calendar_Local.f k (wrap64 (x8 + 1)) x445000 x445001 x445002 x445003).bind fun bt470 => (if bt470.2.2 = 0 then (if (wrap64 ((wrap64 ((wrap64 ((wrap64 (1440 * bt470.1)) + bt470.2.1)) - (wrap64 (1440 * x16)))) - x17)) = 1 then ((dioramalaw08_lives.f k).bind fun t473 => (some t473)) else (if (wrap64 ((wrap64 ((wrap64 ((wrap64 (1440 * bt470.1)) + bt470.2.1)) - (wrap64 (1440 * x16)))) - x17)) = (wrap64 (1 + x445001)) then ((dioramalaw08_lives.f k).bind fun t474 => (some t474)) else (if (wrap64 ((wrap64 ((wrap64 ((wrap64 (1440 * bt470.1)) + bt470.2.1)) - (wrap64 (1440 * x16)))) - x17)) = (wrap64 (1 - x445001)) then ((dioramalaw08_lives.f k).bind fun t475 => (some t475)) else (some false)))) else (if bt470.2.2 = 5 then ((dioramalaw08_lives.f k).bind fun t476 => (some t476)) else (some false))))
end
def dioramalaw08_CalendarMoments.f (k : Nat) (a0 : Int) (l1 : List Int) (a2 : Int) : Option (Bool) := (dioramaref08_Zones.f l1).bind fun bt436 => ((dioramalaw08_own.f bt436.1 bt436.2.1 bt436.2.2.1 bt436.2.2.2).bind fun bt440 => ((dioramaref08_Some.f k a0).bind fun t445 => ((dioramaref01_Around.f a2 1440).bind fun t446 => ((dioramaref01_At.f l1 4 3).bind fun t447 => (if t447 > 0 then ((dioramaref08_Some.f k a0).bind fun t448 => ((dioramaref08_Civil.f k t448).bind fun bt449 => ((dioramaref08_Day.f k bt449.1 1 1).bind fun bt452 => (if t447 = 2 then ((dioramaref01_Around.f a2 240).bind fun t454 => (dioramalaw08_CalendarMoments.j0 k (wrap64 ((wrap64 ((wrap64 ((wrap64 (1440 * (wrap64 ((wrap64 (bt452.1 + bt440.2.2.2)) - 1)))) - bt440.1)) + t454)) - 120)) bt440.1 bt440.2.1 bt440.2.2.1 bt440.2.2.2)) else ((dioramaref01_Around.f a2 240).bind fun t455 => (dioramalaw08_CalendarMoments.j0 k (wrap64 ((wrap64 ((wrap64 ((wrap64 (1440 * (wrap64 ((wrap64 (bt452.1 + bt440.2.2.1)) - 1)))) - bt440.1)) + t455)) - 120)) bt440.1 bt440.2.1 bt440.2.2.1 bt440.2.2.2)))))) else (dioramalaw08_CalendarMoments.j0 k (wrap64 ((wrap64 (1440 * t445)) + t446)) bt440.1 bt440.2.1 bt440.2.2.1 bt440.2.2.2))))))
theorem dioramalaw08_CalendarMoments.mono_l : ∀ k, (∀ y0 y1 y2 y3 y4, LeO (dioramalaw08_CalendarMoments.j0 k y0 y1 y2 y3 y4) (dioramalaw08_CalendarMoments.j0 (k + 1) y0 y1 y2 y3 y4)) ∧ (∀ y0 y1 y2 y3 y4 y5 y6 y7 y8, LeO (dioramalaw08_CalendarMoments.j1 k y0 y1 y2 y3 y4 y5 y6 y7 y8) (dioramalaw08_CalendarMoments.j1 (k + 1) y0 y1 y2 y3 y4 y5 y6 y7 y8)) ∧ (∀ y0 y1 y2 y3 y4 y5 y6 y7, LeO (dioramalaw08_CalendarMoments.j2 k y0 y1 y2 y3 y4 y5 y6 y7) (dioramalaw08_CalendarMoments.j2 (k + 1) y0 y1 y2 y3 y4 y5 y6 y7))
  | 0 => ⟨fun _ _ _ _ _ r h => by simp [dioramalaw08_CalendarMoments.j0] at h, fun _ _ _ _ _ _ _ _ _ r h => by simp [dioramalaw08_CalendarMoments.j1] at h, fun _ _ _ _ _ _ _ _ r h => by simp [dioramalaw08_CalendarMoments.j2] at h⟩
  | k + 1 => by
    obtain ⟨ih0, ih1, ih2⟩ := dioramalaw08_CalendarMoments.mono_l k
    refine ⟨?_, ?_, ?_⟩
    · intro y0 y1 y2 y3 y4
      unfold dioramalaw08_CalendarMoments.j0
      repeat' first
      | (with_reducible exact ih0 _ _ _ _ _)
      | (with_reducible exact ih1 _ _ _ _ _ _ _ _ _)
      | (with_reducible exact ih2 _ _ _ _ _ _ _ _)
      | (with_reducible exact calendar_Local.mono _ _ _ _ _ _)
      | (with_reducible exact calendar_Moments.mono _ _ _ _ _ _ _)
      | (with_reducible exact dioramalaw08_lives.mono _)
      | (with_reducible exact dioramaref08_Civil.mono _ _)
      | (with_reducible exact dioramaref08_Day.mono _ _ _ _)
      | (with_reducible exact dioramaref08_Some.mono _ _)
      | (with_reducible exact LeO.refl _)
      | (with_reducible exact LeO.none _)
      | (with_reducible refine LeO.ite ?_ ?_)
      | (with_reducible refine LeO.bind ?_ (fun _ => ?_))
      | exact ih0 _ _ _ _ _
      | exact ih1 _ _ _ _ _ _ _ _ _
      | exact ih2 _ _ _ _ _ _ _ _
      | exact calendar_Local.mono _ _ _ _ _ _
      | exact calendar_Moments.mono _ _ _ _ _ _ _
      | exact dioramalaw08_lives.mono _
      | exact dioramaref08_Civil.mono _ _
      | exact dioramaref08_Day.mono _ _ _ _
      | exact dioramaref08_Some.mono _ _
      | exact LeO.none _
      | refine LeO.ite ?_ ?_
      | refine LeO.bind ?_ (fun _ => ?_)
    · intro y0 y1 y2 y3 y4 y5 y6 y7 y8
      unfold dioramalaw08_CalendarMoments.j1
      repeat' first
      | (with_reducible exact ih0 _ _ _ _ _)
      | (with_reducible exact ih1 _ _ _ _ _ _ _ _ _)
      | (with_reducible exact ih2 _ _ _ _ _ _ _ _)
      | (with_reducible exact calendar_Local.mono _ _ _ _ _ _)
      | (with_reducible exact calendar_Moments.mono _ _ _ _ _ _ _)
      | (with_reducible exact dioramalaw08_lives.mono _)
      | (with_reducible exact dioramaref08_Civil.mono _ _)
      | (with_reducible exact dioramaref08_Day.mono _ _ _ _)
      | (with_reducible exact dioramaref08_Some.mono _ _)
      | (with_reducible exact LeO.refl _)
      | (with_reducible exact LeO.none _)
      | (with_reducible refine LeO.ite ?_ ?_)
      | (with_reducible refine LeO.bind ?_ (fun _ => ?_))
      | exact ih0 _ _ _ _ _
      | exact ih1 _ _ _ _ _ _ _ _ _
      | exact ih2 _ _ _ _ _ _ _ _
      | exact calendar_Local.mono _ _ _ _ _ _
      | exact calendar_Moments.mono _ _ _ _ _ _ _
      | exact dioramalaw08_lives.mono _
      | exact dioramaref08_Civil.mono _ _
      | exact dioramaref08_Day.mono _ _ _ _
      | exact dioramaref08_Some.mono _ _
      | exact LeO.none _
      | refine LeO.ite ?_ ?_
      | refine LeO.bind ?_ (fun _ => ?_)
    · intro y0 y1 y2 y3 y4 y5 y6 y7
      unfold dioramalaw08_CalendarMoments.j2
      repeat' first
      | (with_reducible exact ih0 _ _ _ _ _)
      | (with_reducible exact ih1 _ _ _ _ _ _ _ _ _)
      | (with_reducible exact ih2 _ _ _ _ _ _ _ _)
      | (with_reducible exact calendar_Local.mono _ _ _ _ _ _)
      | (with_reducible exact calendar_Moments.mono _ _ _ _ _ _ _)
      | (with_reducible exact dioramalaw08_lives.mono _)
      | (with_reducible exact dioramaref08_Civil.mono _ _)
      | (with_reducible exact dioramaref08_Day.mono _ _ _ _)
      | (with_reducible exact dioramaref08_Some.mono _ _)
      | (with_reducible exact LeO.refl _)
      | (with_reducible exact LeO.none _)
      | (with_reducible refine LeO.ite ?_ ?_)
      | (with_reducible refine LeO.bind ?_ (fun _ => ?_))
      | exact ih0 _ _ _ _ _
      | exact ih1 _ _ _ _ _ _ _ _ _
      | exact ih2 _ _ _ _ _ _ _ _
      | exact calendar_Local.mono _ _ _ _ _ _
      | exact calendar_Moments.mono _ _ _ _ _ _ _
      | exact dioramalaw08_lives.mono _
      | exact dioramaref08_Civil.mono _ _
      | exact dioramaref08_Day.mono _ _ _ _
      | exact dioramaref08_Some.mono _ _
      | exact LeO.none _
      | refine LeO.ite ?_ ?_
      | refine LeO.bind ?_ (fun _ => ?_)
theorem dioramalaw08_CalendarMoments.mono : ∀ a0 a1 a2 k, LeO (dioramalaw08_CalendarMoments.f k a0 a1 a2) (dioramalaw08_CalendarMoments.f (k + 1) a0 a1 a2) := by
  intro a0 a1 a2 k
  obtain ⟨ih0, ih1, ih2⟩ := dioramalaw08_CalendarMoments.mono_l k
  unfold dioramalaw08_CalendarMoments.f
  repeat' first
      | (with_reducible exact ih0 _ _ _ _ _)
      | (with_reducible exact ih1 _ _ _ _ _ _ _ _ _)
      | (with_reducible exact ih2 _ _ _ _ _ _ _ _)
      | (with_reducible exact calendar_Local.mono _ _ _ _ _ _)
      | (with_reducible exact calendar_Moments.mono _ _ _ _ _ _ _)
      | (with_reducible exact dioramalaw08_lives.mono _)
      | (with_reducible exact dioramaref08_Civil.mono _ _)
      | (with_reducible exact dioramaref08_Day.mono _ _ _ _)
      | (with_reducible exact dioramaref08_Some.mono _ _)
      | (with_reducible exact LeO.refl _)
      | (with_reducible exact LeO.none _)
      | (with_reducible refine LeO.ite ?_ ?_)
      | (with_reducible refine LeO.bind ?_ (fun _ => ?_))
      | exact ih0 _ _ _ _ _
      | exact ih1 _ _ _ _ _ _ _ _ _
      | exact ih2 _ _ _ _ _ _ _ _
      | exact calendar_Local.mono _ _ _ _ _ _
      | exact calendar_Moments.mono _ _ _ _ _ _ _
      | exact dioramalaw08_lives.mono _
      | exact dioramaref08_Civil.mono _ _
      | exact dioramaref08_Day.mono _ _ _ _
      | exact dioramaref08_Some.mono _ _
      | exact LeO.none _
      | refine LeO.ite ?_ ?_
      | refine LeO.bind ?_ (fun _ => ?_)
set_option maxHeartbeats 8000000 in
set_option maxRecDepth 100000 in
theorem dioramalaw08_CalendarMoments.calls (k : Nat) (a0 : Int) (A1 : Option Addr) (c1 : Nat) (l1 : List Int) (a2 : Int) (r : Bool) (w : World) (hv : LaidAt w) (hr1 : Kd.C (Kd.int .i64) w A1 l1.length l1) (hc1 : l1.length ≤ c1) (h : dioramalaw08_CalendarMoments.f k a0 l1 a2 = some r) :
    Calls Tryd.prog 8 #[.int .i64 a0, .slice A1 l1.length c1, .int .i64 a2] w fun e w' => e = .returned (.bool r) ∧ Below w.heap.size w w' := by
  have hu39 := Tryd.underlying39
  have HR1 := Aside0.mk hr1
  have HC1 := Aside0.mk hc1
  clear hr1 hc1
  have HB := Aside0.mk (Below.refl w.heap.size w)
  have H : ((dioramaref08_Zones.f l1).bind fun bt436 => ((dioramalaw08_own.f bt436.1 bt436.2.1 bt436.2.2.1 bt436.2.2.2).bind fun bt440 => ((dioramaref08_Some.f k a0).bind fun t445 => ((dioramaref01_Around.f a2 1440).bind fun t446 => ((dioramaref01_At.f l1 4 3).bind fun t447 => (if t447 > 0 then ((dioramaref08_Some.f k a0).bind fun t448 => ((dioramaref08_Civil.f k t448).bind fun bt449 => ((dioramaref08_Day.f k bt449.1 1 1).bind fun bt452 => (if t447 = 2 then ((dioramaref01_Around.f a2 240).bind fun t454 => (dioramalaw08_CalendarMoments.j0 k (wrap64 ((wrap64 ((wrap64 ((wrap64 (1440 * (wrap64 ((wrap64 (bt452.1 + bt440.2.2.2)) - 1)))) - bt440.1)) + t454)) - 120)) bt440.1 bt440.2.1 bt440.2.2.1 bt440.2.2.2)) else ((dioramaref01_Around.f a2 240).bind fun t455 => (dioramalaw08_CalendarMoments.j0 k (wrap64 ((wrap64 ((wrap64 ((wrap64 (1440 * (wrap64 ((wrap64 (bt452.1 + bt440.2.2.1)) - 1)))) - bt440.1)) + t455)) - 120)) bt440.1 bt440.2.1 bt440.2.2.1 bt440.2.2.2)))))) else (dioramalaw08_CalendarMoments.j0 k (wrap64 ((wrap64 (1440 * t445)) + t446)) bt440.1 bt440.2.1 bt440.2.2.1 bt440.2.2.2))))))) = some r := h
  clear h
  replace H := Option.bind_eq_some_iff.mp H
  obtain ⟨⟨t436, t437, t438, t439⟩, A40, H⟩ := H
  replace H : ((dioramalaw08_own.f t436 t437 t438 t439).bind fun bt440 => ((dioramaref08_Some.f k a0).bind fun t445 => ((dioramaref01_Around.f a2 1440).bind fun t446 => ((dioramaref01_At.f l1 4 3).bind fun t447 => (if t447 > 0 then ((dioramaref08_Some.f k a0).bind fun t448 => ((dioramaref08_Civil.f k t448).bind fun bt449 => ((dioramaref08_Day.f k bt449.1 1 1).bind fun bt452 => (if t447 = 2 then ((dioramaref01_Around.f a2 240).bind fun t454 => (dioramalaw08_CalendarMoments.j0 k (wrap64 ((wrap64 ((wrap64 ((wrap64 (1440 * (wrap64 ((wrap64 (bt452.1 + bt440.2.2.2)) - 1)))) - bt440.1)) + t454)) - 120)) bt440.1 bt440.2.1 bt440.2.2.1 bt440.2.2.2)) else ((dioramaref01_Around.f a2 240).bind fun t455 => (dioramalaw08_CalendarMoments.j0 k (wrap64 ((wrap64 ((wrap64 ((wrap64 (1440 * (wrap64 ((wrap64 (bt452.1 + bt440.2.2.1)) - 1)))) - bt440.1)) + t455)) - 120)) bt440.1 bt440.2.1 bt440.2.2.1 bt440.2.2.2)))))) else (dioramalaw08_CalendarMoments.j0 k (wrap64 ((wrap64 (1440 * t445)) + t446)) bt440.1 bt440.2.1 bt440.2.2.1 bt440.2.2.2)))))) = some r := H
  have A4 := Aside0.mk A40
  clear A40
  replace H := Option.bind_eq_some_iff.mp H
  obtain ⟨⟨t440, t441, t442, t443⟩, A50, H⟩ := H
  replace H : ((dioramaref08_Some.f k a0).bind fun t445 => ((dioramaref01_Around.f a2 1440).bind fun t446 => ((dioramaref01_At.f l1 4 3).bind fun t447 => (if t447 > 0 then ((dioramaref08_Some.f k a0).bind fun t448 => ((dioramaref08_Civil.f k t448).bind fun bt449 => ((dioramaref08_Day.f k bt449.1 1 1).bind fun bt452 => (if t447 = 2 then ((dioramaref01_Around.f a2 240).bind fun t454 => (dioramalaw08_CalendarMoments.j0 k (wrap64 ((wrap64 ((wrap64 ((wrap64 (1440 * (wrap64 ((wrap64 (bt452.1 + t443)) - 1)))) - t440)) + t454)) - 120)) t440 t441 t442 t443)) else ((dioramaref01_Around.f a2 240).bind fun t455 => (dioramalaw08_CalendarMoments.j0 k (wrap64 ((wrap64 ((wrap64 ((wrap64 (1440 * (wrap64 ((wrap64 (bt452.1 + t442)) - 1)))) - t440)) + t455)) - 120)) t440 t441 t442 t443)))))) else (dioramalaw08_CalendarMoments.j0 k (wrap64 ((wrap64 (1440 * t445)) + t446)) t440 t441 t442 t443))))) = some r := H
  have A5 := Aside0.mk A50
  clear A50
  replace H := Option.bind_eq_some_iff.mp H
  obtain ⟨t445, A60, H⟩ := H
  replace H : ((dioramaref01_Around.f a2 1440).bind fun t446 => ((dioramaref01_At.f l1 4 3).bind fun t447 => (if t447 > 0 then ((dioramaref08_Some.f k a0).bind fun t448 => ((dioramaref08_Civil.f k t448).bind fun bt449 => ((dioramaref08_Day.f k bt449.1 1 1).bind fun bt452 => (if t447 = 2 then ((dioramaref01_Around.f a2 240).bind fun t454 => (dioramalaw08_CalendarMoments.j0 k (wrap64 ((wrap64 ((wrap64 ((wrap64 (1440 * (wrap64 ((wrap64 (bt452.1 + t443)) - 1)))) - t440)) + t454)) - 120)) t440 t441 t442 t443)) else ((dioramaref01_Around.f a2 240).bind fun t455 => (dioramalaw08_CalendarMoments.j0 k (wrap64 ((wrap64 ((wrap64 ((wrap64 (1440 * (wrap64 ((wrap64 (bt452.1 + t442)) - 1)))) - t440)) + t455)) - 120)) t440 t441 t442 t443)))))) else (dioramalaw08_CalendarMoments.j0 k (wrap64 ((wrap64 (1440 * t445)) + t446)) t440 t441 t442 t443)))) = some r := H
  have A6 := Aside0.mk A60
  clear A60
  replace H := Option.bind_eq_some_iff.mp H
  obtain ⟨t446, A70, H⟩ := H
  replace H : ((dioramaref01_At.f l1 4 3).bind fun t447 => (if t447 > 0 then ((dioramaref08_Some.f k a0).bind fun t448 => ((dioramaref08_Civil.f k t448).bind fun bt449 => ((dioramaref08_Day.f k bt449.1 1 1).bind fun bt452 => (if t447 = 2 then ((dioramaref01_Around.f a2 240).bind fun t454 => (dioramalaw08_CalendarMoments.j0 k (wrap64 ((wrap64 ((wrap64 ((wrap64 (1440 * (wrap64 ((wrap64 (bt452.1 + t443)) - 1)))) - t440)) + t454)) - 120)) t440 t441 t442 t443)) else ((dioramaref01_Around.f a2 240).bind fun t455 => (dioramalaw08_CalendarMoments.j0 k (wrap64 ((wrap64 ((wrap64 ((wrap64 (1440 * (wrap64 ((wrap64 (bt452.1 + t442)) - 1)))) - t440)) + t455)) - 120)) t440 t441 t442 t443)))))) else (dioramalaw08_CalendarMoments.j0 k (wrap64 ((wrap64 (1440 * t445)) + t446)) t440 t441 t442 t443))) = some r := H
  have A7 := Aside0.mk A70
  clear A70
  replace H := Option.bind_eq_some_iff.mp H
  obtain ⟨t447, A80, H⟩ := H
  replace H : (if t447 > 0 then ((dioramaref08_Some.f k a0).bind fun t448 => ((dioramaref08_Civil.f k t448).bind fun bt449 => ((dioramaref08_Day.f k bt449.1 1 1).bind fun bt452 => (if t447 = 2 then ((dioramaref01_Around.f a2 240).bind fun t454 => (dioramalaw08_CalendarMoments.j0 k (wrap64 ((wrap64 ((wrap64 ((wrap64 (1440 * (wrap64 ((wrap64 (bt452.1 + t443)) - 1)))) - t440)) + t454)) - 120)) t440 t441 t442 t443)) else ((dioramaref01_Around.f a2 240).bind fun t455 => (dioramalaw08_CalendarMoments.j0 k (wrap64 ((wrap64 ((wrap64 ((wrap64 (1440 * (wrap64 ((wrap64 (bt452.1 + t442)) - 1)))) - t440)) + t455)) - 120)) t440 t441 t442 t443)))))) else (dioramalaw08_CalendarMoments.j0 k (wrap64 ((wrap64 (1440 * t445)) + t446)) t440 t441 t442 t443)) = some r := H
  have A8 := Aside0.mk A80
  clear A80
  have HC9 := Aside0.mk H
  clear H
  go_enter Tryd.func8, Tryd.ntmps8
  go_upto_if 37 with (first | (go_at_call 25; (with_reducible refine (dioramaref08_Zones.calls _ _ l1 t436 t437 t438 t439 _ ?side1 ?side2 A4.out).mono ?_); (case side1 => repeat (first | exact HR1.out | (with_reducible refine Kd.C_alloc ?_ _) | (with_reducible refine Kd.C_drewN ?_ _) | (with_reducible refine Kd.C_drew ?_))); (case side2 => exact HC1.out); rintro e w10 ⟨rfl, hb⟩; have n0_ := Aside0.mk (below_step (by repeat (first | (with_reducible first | exact HB.out | apply below_alloc | apply pw_below_drewN | apply below_drew1) | exact HB.out)) hb); clear HB; have HB := n0_; clear n0_; (try clear hb); (try clear hb2); (try clear hk); (try clear hi)) | (go_at_call 24; (with_reducible refine (dioramalaw08_own.calls t436 t437 t438 t439 t440 t441 t442 t443 _ A5.out).mono ?_); rintro e w11 ⟨rfl, hb⟩; have n0_ := Aside0.mk (below_step (by repeat (first | (with_reducible first | exact HB.out | apply below_alloc | apply pw_below_drewN | apply below_drew1) | exact HB.out)) hb); clear HB; have HB := n0_; clear n0_; (try clear hb); (try clear hb2); (try clear hk); (try clear hi)) | ((with_reducible refine gate_dst (N := 7) rfl ?_); (try (refine gate_guard (by rfl) ?_; dsimp only)); refine box_event ?hg (N := 7) ?hd (cs := #[.int .i64 0, .int .i64 0, .int .i64 0, .int .i64 0]) (t := 39) ?hr ?_; (case hd => rfl); (case hg => rfl); (case hr => first | (go_simp; done) | (go_simp; rfl)); intro gb444 hg w12 hbox hb; have n0_ := Aside0.mk (below_step (by repeat (first | (with_reducible first | exact HB.out | apply below_alloc | apply pw_below_drewN | apply below_drew1) | exact HB.out)) hb); have n1_ := Aside0.mk (hbox); have n2_ := Aside0.mk ((by rw [hg]; exact (below_size (by repeat (first | (with_reducible first | exact HB.out | apply below_alloc | apply pw_below_drewN | apply below_drew1) | exact HB.out))) : w.heap.size ≤ gb444)); have n3_ := Aside0.mk ((by rw [hg]; exact (below_size (by repeat (first | (with_reducible first | exact HB.out | apply below_alloc | apply pw_below_drewN | apply below_drew1) | exact HB.out))) : w.heap.size ≤ gb444)); clear HB; have HB := n0_; have BK444 := n1_; have GW444 := n2_; have GE444 := n3_; clear n0_ n1_ n2_ n3_; clear hb hbox hg; have hcz13_0 : w12.cell? ⟨gb444, 0, none⟩ = some (.int .i64 0) := (blk_cell BK444.out 0).trans rfl; have hcz13_1 : w12.cell? ⟨gb444, 1, none⟩ = some (.int .i64 0) := (blk_cell BK444.out 1).trans rfl; have hcz13_2 : w12.cell? ⟨gb444, 2, none⟩ = some (.int .i64 0) := (blk_cell BK444.out 2).trans rfl; have hcz13_3 : w12.cell? ⟨gb444, 3, none⟩ = some (.int .i64 0) := (blk_cell BK444.out 3).trans rfl; have hfz13_0 := blk_frozen BK444.out 0; have hfz13_1 := blk_frozen BK444.out 1; have hfz13_2 := blk_frozen BK444.out 2; have hfz13_3 := blk_frozen BK444.out 3) | (go_at_call 10; (with_reducible refine (dioramaref08_Some.calls k a0 t445 _ A6.out).mono ?_); rintro e w14 ⟨rfl, hb⟩; have n0_ := Aside0.mk (blk_below (g := gb444) (o := .cells #[.int .i64 t440, .int .i64 t441, .int .i64 t442, .int .i64 t443] 39 (0, 0)) (by (with_reducible repeat (first | refine blk_drewN ?_ _ | refine blk_drew ?_ | refine blk_alloc ?_ _)); refine blk_put (cs := #[.int .i64 t440, .int .i64 t441, .int .i64 t442, .int .i64 0]) ?_ 3 _ rfl; (with_reducible repeat (first | refine blk_drewN ?_ _ | refine blk_drew ?_ | refine blk_alloc ?_ _)); refine blk_put (cs := #[.int .i64 t440, .int .i64 t441, .int .i64 0, .int .i64 0]) ?_ 2 _ rfl; (with_reducible repeat (first | refine blk_drewN ?_ _ | refine blk_drew ?_ | refine blk_alloc ?_ _)); refine blk_put (cs := #[.int .i64 t440, .int .i64 0, .int .i64 0, .int .i64 0]) ?_ 1 _ rfl; (with_reducible repeat (first | refine blk_drewN ?_ _ | refine blk_drew ?_ | refine blk_alloc ?_ _)); refine blk_put (cs := #[.int .i64 0, .int .i64 0, .int .i64 0, .int .i64 0]) ?_ 0 _ rfl; (with_reducible repeat (first | refine blk_drewN ?_ _ | refine blk_drew ?_ | refine blk_alloc ?_ _)); exact BK444.out) hb); have n1_ := Aside0.mk (below_step (by repeat (first | (with_reducible first | exact HB.out | apply below_alloc | apply pw_below_drewN | apply below_drew1 | refine below_set ?_ GE444.out) | exact HB.out)) hb); clear BK444; clear HB; have BK444 := n0_; have HB := n1_; clear n0_ n1_; (try clear hb); (try clear hb2); (try clear hk); (try clear hi)) | (go_at_call 17; (with_reducible refine (dioramaref01_Around.calls a2 1440 t446 _ A7.out).mono ?_); rintro e w' ⟨rfl, ⟨nd, rfl⟩⟩; (try first | exact ⟨rfl, _, World.drewN_drewN _ _ _⟩ | exact ⟨rfl, _, Eq.trans (World.drewN_drewN _ _ _) (congrArg (World.drewN _) (Nat.add_assoc _ _ _))⟩)) | (go_at_call 34; (with_reducible refine (dioramaref01_At.calls _ _ l1 4 3 t447 _ ?side1 ?side2 A8.out).mono ?_); (case side1 => repeat (first | exact (Kd.C_below HR1.out (by repeat (first | (with_reducible first | exact HB.out | apply below_alloc | apply pw_below_drewN | apply below_drew1 | refine below_set ?_ GE444.out) | exact HB.out))) | (with_reducible refine Kd.C_alloc ?_ _) | (with_reducible refine Kd.C_drewN ?_ _) | (with_reducible refine Kd.C_drew ?_))); (case side2 => exact HC1.out); rintro e w' ⟨rfl, ⟨nd, rfl⟩⟩; (try first | exact ⟨rfl, _, World.drewN_drewN _ _ _⟩ | exact ⟨rfl, _, Eq.trans (World.drewN_drewN _ _ _) (congrArg (World.drewN _) (Nat.add_assoc _ _ _))⟩)))
  repeat (go_quiet (first | (go_at_call 25; (with_reducible refine (dioramaref08_Zones.calls _ _ l1 t436 t437 t438 t439 _ ?side1 ?side2 A4.out).mono ?_); (case side1 => repeat (first | exact HR1.out | (with_reducible refine Kd.C_alloc ?_ _) | (with_reducible refine Kd.C_drewN ?_ _) | (with_reducible refine Kd.C_drew ?_))); (case side2 => exact HC1.out); rintro e w10 ⟨rfl, hb⟩; have n0_ := Aside0.mk (below_step (by repeat (first | (with_reducible first | exact HB.out | apply below_alloc | apply pw_below_drewN | apply below_drew1) | exact HB.out)) hb); clear HB; have HB := n0_; clear n0_; (try clear hb); (try clear hb2); (try clear hk); (try clear hi)) | (go_at_call 24; (with_reducible refine (dioramalaw08_own.calls t436 t437 t438 t439 t440 t441 t442 t443 _ A5.out).mono ?_); rintro e w11 ⟨rfl, hb⟩; have n0_ := Aside0.mk (below_step (by repeat (first | (with_reducible first | exact HB.out | apply below_alloc | apply pw_below_drewN | apply below_drew1) | exact HB.out)) hb); clear HB; have HB := n0_; clear n0_; (try clear hb); (try clear hb2); (try clear hk); (try clear hi)) | ((with_reducible refine gate_dst (N := 7) rfl ?_); (try (refine gate_guard (by rfl) ?_; dsimp only)); refine box_event ?hg (N := 7) ?hd (cs := #[.int .i64 0, .int .i64 0, .int .i64 0, .int .i64 0]) (t := 39) ?hr ?_; (case hd => rfl); (case hg => rfl); (case hr => first | (go_simp; done) | (go_simp; rfl)); intro gb444 hg w12 hbox hb; have n0_ := Aside0.mk (below_step (by repeat (first | (with_reducible first | exact HB.out | apply below_alloc | apply pw_below_drewN | apply below_drew1) | exact HB.out)) hb); have n1_ := Aside0.mk (hbox); have n2_ := Aside0.mk ((by rw [hg]; exact (below_size (by repeat (first | (with_reducible first | exact HB.out | apply below_alloc | apply pw_below_drewN | apply below_drew1) | exact HB.out))) : w.heap.size ≤ gb444)); have n3_ := Aside0.mk ((by rw [hg]; exact (below_size (by repeat (first | (with_reducible first | exact HB.out | apply below_alloc | apply pw_below_drewN | apply below_drew1) | exact HB.out))) : w.heap.size ≤ gb444)); clear HB; have HB := n0_; have BK444 := n1_; have GW444 := n2_; have GE444 := n3_; clear n0_ n1_ n2_ n3_; clear hb hbox hg; have hcz13_0 : w12.cell? ⟨gb444, 0, none⟩ = some (.int .i64 0) := (blk_cell BK444.out 0).trans rfl; have hcz13_1 : w12.cell? ⟨gb444, 1, none⟩ = some (.int .i64 0) := (blk_cell BK444.out 1).trans rfl; have hcz13_2 : w12.cell? ⟨gb444, 2, none⟩ = some (.int .i64 0) := (blk_cell BK444.out 2).trans rfl; have hcz13_3 : w12.cell? ⟨gb444, 3, none⟩ = some (.int .i64 0) := (blk_cell BK444.out 3).trans rfl; have hfz13_0 := blk_frozen BK444.out 0; have hfz13_1 := blk_frozen BK444.out 1; have hfz13_2 := blk_frozen BK444.out 2; have hfz13_3 := blk_frozen BK444.out 3) | (go_at_call 10; (with_reducible refine (dioramaref08_Some.calls k a0 t445 _ A6.out).mono ?_); rintro e w14 ⟨rfl, hb⟩; have n0_ := Aside0.mk (blk_below (g := gb444) (o := .cells #[.int .i64 t440, .int .i64 t441, .int .i64 t442, .int .i64 t443] 39 (0, 0)) (by (with_reducible repeat (first | refine blk_drewN ?_ _ | refine blk_drew ?_ | refine blk_alloc ?_ _)); refine blk_put (cs := #[.int .i64 t440, .int .i64 t441, .int .i64 t442, .int .i64 0]) ?_ 3 _ rfl; (with_reducible repeat (first | refine blk_drewN ?_ _ | refine blk_drew ?_ | refine blk_alloc ?_ _)); refine blk_put (cs := #[.int .i64 t440, .int .i64 t441, .int .i64 0, .int .i64 0]) ?_ 2 _ rfl; (with_reducible repeat (first | refine blk_drewN ?_ _ | refine blk_drew ?_ | refine blk_alloc ?_ _)); refine blk_put (cs := #[.int .i64 t440, .int .i64 0, .int .i64 0, .int .i64 0]) ?_ 1 _ rfl; (with_reducible repeat (first | refine blk_drewN ?_ _ | refine blk_drew ?_ | refine blk_alloc ?_ _)); refine blk_put (cs := #[.int .i64 0, .int .i64 0, .int .i64 0, .int .i64 0]) ?_ 0 _ rfl; (with_reducible repeat (first | refine blk_drewN ?_ _ | refine blk_drew ?_ | refine blk_alloc ?_ _)); exact BK444.out) hb); have n1_ := Aside0.mk (below_step (by repeat (first | (with_reducible first | exact HB.out | apply below_alloc | apply pw_below_drewN | apply below_drew1 | refine below_set ?_ GE444.out) | exact HB.out)) hb); clear BK444; clear HB; have BK444 := n0_; have HB := n1_; clear n0_ n1_; (try clear hb); (try clear hb2); (try clear hk); (try clear hi)) | (go_at_call 17; (with_reducible refine (dioramaref01_Around.calls a2 1440 t446 _ A7.out).mono ?_); rintro e w' ⟨rfl, ⟨nd, rfl⟩⟩; (try first | exact ⟨rfl, _, World.drewN_drewN _ _ _⟩ | exact ⟨rfl, _, Eq.trans (World.drewN_drewN _ _ _) (congrArg (World.drewN _) (Nat.add_assoc _ _ _))⟩)) | (go_at_call 34; (with_reducible refine (dioramaref01_At.calls _ _ l1 4 3 t447 _ ?side1 ?side2 A8.out).mono ?_); (case side1 => repeat (first | exact (Kd.C_below HR1.out (by repeat (first | (with_reducible first | exact HB.out | apply below_alloc | apply pw_below_drewN | apply below_drew1 | refine below_set ?_ GE444.out) | exact HB.out))) | (with_reducible refine Kd.C_alloc ?_ _) | (with_reducible refine Kd.C_drewN ?_ _) | (with_reducible refine Kd.C_drew ?_))); (case side2 => exact HC1.out); rintro e w' ⟨rfl, ⟨nd, rfl⟩⟩; (try first | exact ⟨rfl, _, World.drewN_drewN _ _ _⟩ | exact ⟨rfl, _, Eq.trans (World.drewN_drewN _ _ _) (congrArg (World.drewN _) (Nat.add_assoc _ _ _))⟩))); go_upto_if 37 with (first | (go_at_call 25; (with_reducible refine (dioramaref08_Zones.calls _ _ l1 t436 t437 t438 t439 _ ?side1 ?side2 A4.out).mono ?_); (case side1 => repeat (first | exact HR1.out | (with_reducible refine Kd.C_alloc ?_ _) | (with_reducible refine Kd.C_drewN ?_ _) | (with_reducible refine Kd.C_drew ?_))); (case side2 => exact HC1.out); rintro e w10 ⟨rfl, hb⟩; have n0_ := Aside0.mk (below_step (by repeat (first | (with_reducible first | exact HB.out | apply below_alloc | apply pw_below_drewN | apply below_drew1) | exact HB.out)) hb); clear HB; have HB := n0_; clear n0_; (try clear hb); (try clear hb2); (try clear hk); (try clear hi)) | (go_at_call 24; (with_reducible refine (dioramalaw08_own.calls t436 t437 t438 t439 t440 t441 t442 t443 _ A5.out).mono ?_); rintro e w11 ⟨rfl, hb⟩; have n0_ := Aside0.mk (below_step (by repeat (first | (with_reducible first | exact HB.out | apply below_alloc | apply pw_below_drewN | apply below_drew1) | exact HB.out)) hb); clear HB; have HB := n0_; clear n0_; (try clear hb); (try clear hb2); (try clear hk); (try clear hi)) | ((with_reducible refine gate_dst (N := 7) rfl ?_); (try (refine gate_guard (by rfl) ?_; dsimp only)); refine box_event ?hg (N := 7) ?hd (cs := #[.int .i64 0, .int .i64 0, .int .i64 0, .int .i64 0]) (t := 39) ?hr ?_; (case hd => rfl); (case hg => rfl); (case hr => first | (go_simp; done) | (go_simp; rfl)); intro gb444 hg w12 hbox hb; have n0_ := Aside0.mk (below_step (by repeat (first | (with_reducible first | exact HB.out | apply below_alloc | apply pw_below_drewN | apply below_drew1) | exact HB.out)) hb); have n1_ := Aside0.mk (hbox); have n2_ := Aside0.mk ((by rw [hg]; exact (below_size (by repeat (first | (with_reducible first | exact HB.out | apply below_alloc | apply pw_below_drewN | apply below_drew1) | exact HB.out))) : w.heap.size ≤ gb444)); have n3_ := Aside0.mk ((by rw [hg]; exact (below_size (by repeat (first | (with_reducible first | exact HB.out | apply below_alloc | apply pw_below_drewN | apply below_drew1) | exact HB.out))) : w.heap.size ≤ gb444)); clear HB; have HB := n0_; have BK444 := n1_; have GW444 := n2_; have GE444 := n3_; clear n0_ n1_ n2_ n3_; clear hb hbox hg; have hcz13_0 : w12.cell? ⟨gb444, 0, none⟩ = some (.int .i64 0) := (blk_cell BK444.out 0).trans rfl; have hcz13_1 : w12.cell? ⟨gb444, 1, none⟩ = some (.int .i64 0) := (blk_cell BK444.out 1).trans rfl; have hcz13_2 : w12.cell? ⟨gb444, 2, none⟩ = some (.int .i64 0) := (blk_cell BK444.out 2).trans rfl; have hcz13_3 : w12.cell? ⟨gb444, 3, none⟩ = some (.int .i64 0) := (blk_cell BK444.out 3).trans rfl; have hfz13_0 := blk_frozen BK444.out 0; have hfz13_1 := blk_frozen BK444.out 1; have hfz13_2 := blk_frozen BK444.out 2; have hfz13_3 := blk_frozen BK444.out 3) | (go_at_call 10; (with_reducible refine (dioramaref08_Some.calls k a0 t445 _ A6.out).mono ?_); rintro e w14 ⟨rfl, hb⟩; have n0_ := Aside0.mk (blk_below (g := gb444) (o := .cells #[.int .i64 t440, .int .i64 t441, .int .i64 t442, .int .i64 t443] 39 (0, 0)) (by (with_reducible repeat (first | refine blk_drewN ?_ _ | refine blk_drew ?_ | refine blk_alloc ?_ _)); refine blk_put (cs := #[.int .i64 t440, .int .i64 t441, .int .i64 t442, .int .i64 0]) ?_ 3 _ rfl; (with_reducible repeat (first | refine blk_drewN ?_ _ | refine blk_drew ?_ | refine blk_alloc ?_ _)); refine blk_put (cs := #[.int .i64 t440, .int .i64 t441, .int .i64 0, .int .i64 0]) ?_ 2 _ rfl; (with_reducible repeat (first | refine blk_drewN ?_ _ | refine blk_drew ?_ | refine blk_alloc ?_ _)); refine blk_put (cs := #[.int .i64 t440, .int .i64 0, .int .i64 0, .int .i64 0]) ?_ 1 _ rfl; (with_reducible repeat (first | refine blk_drewN ?_ _ | refine blk_drew ?_ | refine blk_alloc ?_ _)); refine blk_put (cs := #[.int .i64 0, .int .i64 0, .int .i64 0, .int .i64 0]) ?_ 0 _ rfl; (with_reducible repeat (first | refine blk_drewN ?_ _ | refine blk_drew ?_ | refine blk_alloc ?_ _)); exact BK444.out) hb); have n1_ := Aside0.mk (below_step (by repeat (first | (with_reducible first | exact HB.out | apply below_alloc | apply pw_below_drewN | apply below_drew1 | refine below_set ?_ GE444.out) | exact HB.out)) hb); clear BK444; clear HB; have BK444 := n0_; have HB := n1_; clear n0_ n1_; (try clear hb); (try clear hb2); (try clear hk); (try clear hi)) | (go_at_call 17; (with_reducible refine (dioramaref01_Around.calls a2 1440 t446 _ A7.out).mono ?_); rintro e w' ⟨rfl, ⟨nd, rfl⟩⟩; (try first | exact ⟨rfl, _, World.drewN_drewN _ _ _⟩ | exact ⟨rfl, _, Eq.trans (World.drewN_drewN _ _ _) (congrArg (World.drewN _) (Nat.add_assoc _ _ _))⟩)) | (go_at_call 34; (with_reducible refine (dioramaref01_At.calls _ _ l1 4 3 t447 _ ?side1 ?side2 A8.out).mono ?_); (case side1 => repeat (first | exact (Kd.C_below HR1.out (by repeat (first | (with_reducible first | exact HB.out | apply below_alloc | apply pw_below_drewN | apply below_drew1 | refine below_set ?_ GE444.out) | exact HB.out))) | (with_reducible refine Kd.C_alloc ?_ _) | (with_reducible refine Kd.C_drewN ?_ _) | (with_reducible refine Kd.C_drew ?_))); (case side2 => exact HC1.out); rintro e w' ⟨rfl, ⟨nd, rfl⟩⟩; (try first | exact ⟨rfl, _, World.drewN_drewN _ _ _⟩ | exact ⟨rfl, _, Eq.trans (World.drewN_drewN _ _ _) (congrArg (World.drewN _) (Nat.add_assoc _ _ _))⟩))))
  (try simp only [Act.put, List.setIfInBounds_toArray, List.set_cons_zero, List.set_cons_succ])
  go_cut [8] (fun v8 wc => ∃ (kq : Nat) (x8_8 : Int), v8 = .int .i64 x8_8 ∧ Aside0 (dioramalaw08_CalendarMoments.j0 kq x8_8 t440 t441 t442 t443 = some r) ∧ Aside0 (kq ≤ k) ∧ Aside0 (wc.heap[gb444]? = some (.cells #[.int .i64 t440, .int .i64 t441, .int .i64 t442, .int .i64 t443] 39 (0, 0))) ∧ Aside0 (Below w.heap.size w wc))
  case first =>
    have H := HC9.out
    clear HC9
    by_cases c15 : t447 > 0
    · rw [if_pos c15] at H
      have c15b0 : decide (0 < t447) = true := decide_eq_true c15
      clear c15
      (first | rw [c15b0] | (simp only [i64_w, i32_w]; rw [c15b0]) | skip)
      replace H := Option.bind_eq_some_iff.mp H
      obtain ⟨t448, A160, H⟩ := H
      replace H : ((dioramaref08_Civil.f k t448).bind fun bt449 => ((dioramaref08_Day.f k bt449.1 1 1).bind fun bt452 => (if t447 = 2 then ((dioramaref01_Around.f a2 240).bind fun t454 => (dioramalaw08_CalendarMoments.j0 k (wrap64 ((wrap64 ((wrap64 ((wrap64 (1440 * (wrap64 ((wrap64 (bt452.1 + t443)) - 1)))) - t440)) + t454)) - 120)) t440 t441 t442 t443)) else ((dioramaref01_Around.f a2 240).bind fun t455 => (dioramalaw08_CalendarMoments.j0 k (wrap64 ((wrap64 ((wrap64 ((wrap64 (1440 * (wrap64 ((wrap64 (bt452.1 + t442)) - 1)))) - t440)) + t455)) - 120)) t440 t441 t442 t443))))) = some r := H
      have A16 := Aside0.mk A160
      clear A160
      replace H := Option.bind_eq_some_iff.mp H
      obtain ⟨⟨t449, t450, t451⟩, A170, H⟩ := H
      replace H : ((dioramaref08_Day.f k t449 1 1).bind fun bt452 => (if t447 = 2 then ((dioramaref01_Around.f a2 240).bind fun t454 => (dioramalaw08_CalendarMoments.j0 k (wrap64 ((wrap64 ((wrap64 ((wrap64 (1440 * (wrap64 ((wrap64 (bt452.1 + t443)) - 1)))) - t440)) + t454)) - 120)) t440 t441 t442 t443)) else ((dioramaref01_Around.f a2 240).bind fun t455 => (dioramalaw08_CalendarMoments.j0 k (wrap64 ((wrap64 ((wrap64 ((wrap64 (1440 * (wrap64 ((wrap64 (bt452.1 + t442)) - 1)))) - t440)) + t455)) - 120)) t440 t441 t442 t443)))) = some r := H
      have A17 := Aside0.mk A170
      clear A170
      replace H := Option.bind_eq_some_iff.mp H
      obtain ⟨⟨t452, t453⟩, A180, H⟩ := H
      replace H : (if t447 = 2 then ((dioramaref01_Around.f a2 240).bind fun t454 => (dioramalaw08_CalendarMoments.j0 k (wrap64 ((wrap64 ((wrap64 ((wrap64 (1440 * (wrap64 ((wrap64 (t452 + t443)) - 1)))) - t440)) + t454)) - 120)) t440 t441 t442 t443)) else ((dioramaref01_Around.f a2 240).bind fun t455 => (dioramalaw08_CalendarMoments.j0 k (wrap64 ((wrap64 ((wrap64 ((wrap64 (1440 * (wrap64 ((wrap64 (t452 + t442)) - 1)))) - t440)) + t455)) - 120)) t440 t441 t442 t443))) = some r := H
      have A18 := Aside0.mk A180
      clear A180
      by_cases c19 : t447 = 2
      · rw [if_pos c19] at H
        have c19b0 : (t447 == 2) = true := beq_iff_eq.mpr c19
        have c19b1 : (t447 != 2) = false := bne_eq_false_iff_eq.mpr c19
        clear c19
        replace H := Option.bind_eq_some_iff.mp H
        obtain ⟨t454, A200, H⟩ := H
        replace H : (dioramalaw08_CalendarMoments.j0 k (wrap64 ((wrap64 ((wrap64 ((wrap64 (1440 * (wrap64 ((wrap64 (t452 + t443)) - 1)))) - t440)) + t454)) - 120)) t440 t441 t442 t443) = some r := H
        have A20 := Aside0.mk A200
        clear A200
        have H' := Aside0.mk H
        clear H
        go_wp2_with (first | (go_at_call 10; (with_reducible refine (dioramaref08_Some.calls k a0 t448 _ A16.out).mono ?_); rintro e w21 ⟨rfl, hb⟩; have n0_ := Aside0.mk (blk_below (g := gb444) (o := .cells #[.int .i64 t440, .int .i64 t441, .int .i64 t442, .int .i64 t443] 39 (0, 0)) (by (with_reducible repeat (first | refine blk_drewN ?_ _ | refine blk_drew ?_ | refine blk_alloc ?_ _)); exact BK444.out) hb); have n1_ := Aside0.mk (below_step (by repeat (first | (with_reducible first | exact HB.out | apply below_alloc | apply pw_below_drewN | apply below_drew1 | refine below_set ?_ GE444.out) | exact HB.out)) hb); clear BK444; clear HB; have BK444 := n0_; have HB := n1_; clear n0_ n1_; (try clear hb); (try clear hb2); (try clear hk); (try clear hi)) | (go_at_call 12; (with_reducible refine (dioramaref08_Civil.calls k t448 t449 t450 t451 _ A17.out).mono ?_); rintro e w' ⟨rfl, ⟨nd, rfl⟩⟩; (try first | exact ⟨rfl, _, World.drewN_drewN _ _ _⟩ | exact ⟨rfl, _, Eq.trans (World.drewN_drewN _ _ _) (congrArg (World.drewN _) (Nat.add_assoc _ _ _))⟩)) | (go_at_call 19; (with_reducible refine (dioramaref08_Day.calls k t449 1 1 t452 t453 _ A18.out).mono ?_); rintro e w' ⟨rfl, ⟨nd, rfl⟩⟩; (try first | exact ⟨rfl, _, World.drewN_drewN _ _ _⟩ | exact ⟨rfl, _, Eq.trans (World.drewN_drewN _ _ _) (congrArg (World.drewN _) (Nat.add_assoc _ _ _))⟩); have hcz22_0 : w21.cell? ⟨gb444, 0, none⟩ = some (.int .i64 t440) := (blk_cell BK444.out 0).trans rfl; have hcz22_1 : w21.cell? ⟨gb444, 1, none⟩ = some (.int .i64 t441) := (blk_cell BK444.out 1).trans rfl; have hcz22_2 : w21.cell? ⟨gb444, 2, none⟩ = some (.int .i64 t442) := (blk_cell BK444.out 2).trans rfl; have hcz22_3 : w21.cell? ⟨gb444, 3, none⟩ = some (.int .i64 t443) := (blk_cell BK444.out 3).trans rfl; have hfz22_0 := blk_frozen BK444.out 0; have hfz22_1 := blk_frozen BK444.out 1; have hfz22_2 := blk_frozen BK444.out 2; have hfz22_3 := blk_frozen BK444.out 3) | (go_at_call 17; (with_reducible refine (dioramaref01_Around.calls a2 240 t454 _ A20.out).mono ?_); rintro e w' ⟨rfl, ⟨nd, rfl⟩⟩; (try first | exact ⟨rfl, _, World.drewN_drewN _ _ _⟩ | exact ⟨rfl, _, Eq.trans (World.drewN_drewN _ _ _) (congrArg (World.drewN _) (Nat.add_assoc _ _ _))⟩)))
        repeat (go_quiet (first | (go_at_call 10; (with_reducible refine (dioramaref08_Some.calls k a0 t448 _ A16.out).mono ?_); rintro e w21 ⟨rfl, hb⟩; have n0_ := Aside0.mk (blk_below (g := gb444) (o := .cells #[.int .i64 t440, .int .i64 t441, .int .i64 t442, .int .i64 t443] 39 (0, 0)) (by (with_reducible repeat (first | refine blk_drewN ?_ _ | refine blk_drew ?_ | refine blk_alloc ?_ _)); exact BK444.out) hb); have n1_ := Aside0.mk (below_step (by repeat (first | (with_reducible first | exact HB.out | apply below_alloc | apply pw_below_drewN | apply below_drew1 | refine below_set ?_ GE444.out) | exact HB.out)) hb); clear BK444; clear HB; have BK444 := n0_; have HB := n1_; clear n0_ n1_; (try clear hb); (try clear hb2); (try clear hk); (try clear hi)) | (go_at_call 12; (with_reducible refine (dioramaref08_Civil.calls k t448 t449 t450 t451 _ A17.out).mono ?_); rintro e w' ⟨rfl, ⟨nd, rfl⟩⟩; (try first | exact ⟨rfl, _, World.drewN_drewN _ _ _⟩ | exact ⟨rfl, _, Eq.trans (World.drewN_drewN _ _ _) (congrArg (World.drewN _) (Nat.add_assoc _ _ _))⟩)) | (go_at_call 19; (with_reducible refine (dioramaref08_Day.calls k t449 1 1 t452 t453 _ A18.out).mono ?_); rintro e w' ⟨rfl, ⟨nd, rfl⟩⟩; (try first | exact ⟨rfl, _, World.drewN_drewN _ _ _⟩ | exact ⟨rfl, _, Eq.trans (World.drewN_drewN _ _ _) (congrArg (World.drewN _) (Nat.add_assoc _ _ _))⟩); have hcz22_0 : w21.cell? ⟨gb444, 0, none⟩ = some (.int .i64 t440) := (blk_cell BK444.out 0).trans rfl; have hcz22_1 : w21.cell? ⟨gb444, 1, none⟩ = some (.int .i64 t441) := (blk_cell BK444.out 1).trans rfl; have hcz22_2 : w21.cell? ⟨gb444, 2, none⟩ = some (.int .i64 t442) := (blk_cell BK444.out 2).trans rfl; have hcz22_3 : w21.cell? ⟨gb444, 3, none⟩ = some (.int .i64 t443) := (blk_cell BK444.out 3).trans rfl; have hfz22_0 := blk_frozen BK444.out 0; have hfz22_1 := blk_frozen BK444.out 1; have hfz22_2 := blk_frozen BK444.out 2; have hfz22_3 := blk_frozen BK444.out 3) | (go_at_call 17; (with_reducible refine (dioramaref01_Around.calls a2 240 t454 _ A20.out).mono ?_); rintro e w' ⟨rfl, ⟨nd, rfl⟩⟩; (try first | exact ⟨rfl, _, World.drewN_drewN _ _ _⟩ | exact ⟨rfl, _, Eq.trans (World.drewN_drewN _ _ _) (congrArg (World.drewN _) (Nat.add_assoc _ _ _))⟩))); try go_wp2_with (first | (go_at_call 10; (with_reducible refine (dioramaref08_Some.calls k a0 t448 _ A16.out).mono ?_); rintro e w21 ⟨rfl, hb⟩; have n0_ := Aside0.mk (blk_below (g := gb444) (o := .cells #[.int .i64 t440, .int .i64 t441, .int .i64 t442, .int .i64 t443] 39 (0, 0)) (by (with_reducible repeat (first | refine blk_drewN ?_ _ | refine blk_drew ?_ | refine blk_alloc ?_ _)); exact BK444.out) hb); have n1_ := Aside0.mk (below_step (by repeat (first | (with_reducible first | exact HB.out | apply below_alloc | apply pw_below_drewN | apply below_drew1 | refine below_set ?_ GE444.out) | exact HB.out)) hb); clear BK444; clear HB; have BK444 := n0_; have HB := n1_; clear n0_ n1_; (try clear hb); (try clear hb2); (try clear hk); (try clear hi)) | (go_at_call 12; (with_reducible refine (dioramaref08_Civil.calls k t448 t449 t450 t451 _ A17.out).mono ?_); rintro e w' ⟨rfl, ⟨nd, rfl⟩⟩; (try first | exact ⟨rfl, _, World.drewN_drewN _ _ _⟩ | exact ⟨rfl, _, Eq.trans (World.drewN_drewN _ _ _) (congrArg (World.drewN _) (Nat.add_assoc _ _ _))⟩)) | (go_at_call 19; (with_reducible refine (dioramaref08_Day.calls k t449 1 1 t452 t453 _ A18.out).mono ?_); rintro e w' ⟨rfl, ⟨nd, rfl⟩⟩; (try first | exact ⟨rfl, _, World.drewN_drewN _ _ _⟩ | exact ⟨rfl, _, Eq.trans (World.drewN_drewN _ _ _) (congrArg (World.drewN _) (Nat.add_assoc _ _ _))⟩); have hcz22_0 : w21.cell? ⟨gb444, 0, none⟩ = some (.int .i64 t440) := (blk_cell BK444.out 0).trans rfl; have hcz22_1 : w21.cell? ⟨gb444, 1, none⟩ = some (.int .i64 t441) := (blk_cell BK444.out 1).trans rfl; have hcz22_2 : w21.cell? ⟨gb444, 2, none⟩ = some (.int .i64 t442) := (blk_cell BK444.out 2).trans rfl; have hcz22_3 : w21.cell? ⟨gb444, 3, none⟩ = some (.int .i64 t443) := (blk_cell BK444.out 3).trans rfl; have hfz22_0 := blk_frozen BK444.out 0; have hfz22_1 := blk_frozen BK444.out 1; have hfz22_2 := blk_frozen BK444.out 2; have hfz22_3 := blk_frozen BK444.out 3) | (go_at_call 17; (with_reducible refine (dioramaref01_Around.calls a2 240 t454 _ A20.out).mono ?_); rintro e w' ⟨rfl, ⟨nd, rfl⟩⟩; (try first | exact ⟨rfl, _, World.drewN_drewN _ _ _⟩ | exact ⟨rfl, _, Eq.trans (World.drewN_drewN _ _ _) (congrArg (World.drewN _) (Nat.add_assoc _ _ _))⟩))))
        go_meet
        case rel => exact ⟨_, (wrap64 ((wrap64 ((wrap64 ((wrap64 (1440 * (wrap64 ((wrap64 (t452 + t443)) - 1)))) - t440)) + t454)) - 120)), (by first | rfl | (simp; done) | (simp [*]; done)), H', ⟨by first | omega | exact Nat.le_refl _⟩, ⟨by (with_reducible repeat (first | refine blk_drewN ?_ _ | refine blk_drew ?_ | refine blk_alloc ?_ _)); exact BK444.out⟩, ⟨by repeat (first | (with_reducible first | exact HB.out | apply below_alloc | apply pw_below_drewN | apply below_drew1 | refine below_set ?_ GE444.out) | exact HB.out)⟩⟩
      · rw [if_neg c19] at H
        have c19b0 : (t447 == 2) = false := beq_eq_false_iff_ne.mpr c19
        have c19b1 : (t447 != 2) = true := bne_iff_ne.mpr c19
        replace H := Option.bind_eq_some_iff.mp H
        obtain ⟨t455, A230, H⟩ := H
        replace H : (dioramalaw08_CalendarMoments.j0 k (wrap64 ((wrap64 ((wrap64 ((wrap64 (1440 * (wrap64 ((wrap64 (t452 + t442)) - 1)))) - t440)) + t455)) - 120)) t440 t441 t442 t443) = some r := H
        have A23 := Aside0.mk A230
        clear A230
        have H' := Aside0.mk H
        clear H
        go_wp2_with (first | (go_at_call 10; (with_reducible refine (dioramaref08_Some.calls k a0 t448 _ A16.out).mono ?_); rintro e w24 ⟨rfl, hb⟩; have n0_ := Aside0.mk (blk_below (g := gb444) (o := .cells #[.int .i64 t440, .int .i64 t441, .int .i64 t442, .int .i64 t443] 39 (0, 0)) (by (with_reducible repeat (first | refine blk_drewN ?_ _ | refine blk_drew ?_ | refine blk_alloc ?_ _)); exact BK444.out) hb); have n1_ := Aside0.mk (below_step (by repeat (first | (with_reducible first | exact HB.out | apply below_alloc | apply pw_below_drewN | apply below_drew1 | refine below_set ?_ GE444.out) | exact HB.out)) hb); clear BK444; clear HB; have BK444 := n0_; have HB := n1_; clear n0_ n1_; (try clear hb); (try clear hb2); (try clear hk); (try clear hi)) | (go_at_call 12; (with_reducible refine (dioramaref08_Civil.calls k t448 t449 t450 t451 _ A17.out).mono ?_); rintro e w' ⟨rfl, ⟨nd, rfl⟩⟩; (try first | exact ⟨rfl, _, World.drewN_drewN _ _ _⟩ | exact ⟨rfl, _, Eq.trans (World.drewN_drewN _ _ _) (congrArg (World.drewN _) (Nat.add_assoc _ _ _))⟩)) | (go_at_call 19; (with_reducible refine (dioramaref08_Day.calls k t449 1 1 t452 t453 _ A18.out).mono ?_); rintro e w' ⟨rfl, ⟨nd, rfl⟩⟩; (try first | exact ⟨rfl, _, World.drewN_drewN _ _ _⟩ | exact ⟨rfl, _, Eq.trans (World.drewN_drewN _ _ _) (congrArg (World.drewN _) (Nat.add_assoc _ _ _))⟩); have hcz25_0 : w24.cell? ⟨gb444, 0, none⟩ = some (.int .i64 t440) := (blk_cell BK444.out 0).trans rfl; have hcz25_1 : w24.cell? ⟨gb444, 1, none⟩ = some (.int .i64 t441) := (blk_cell BK444.out 1).trans rfl; have hcz25_2 : w24.cell? ⟨gb444, 2, none⟩ = some (.int .i64 t442) := (blk_cell BK444.out 2).trans rfl; have hcz25_3 : w24.cell? ⟨gb444, 3, none⟩ = some (.int .i64 t443) := (blk_cell BK444.out 3).trans rfl; have hfz25_0 := blk_frozen BK444.out 0; have hfz25_1 := blk_frozen BK444.out 1; have hfz25_2 := blk_frozen BK444.out 2; have hfz25_3 := blk_frozen BK444.out 3) | (go_at_call 17; (with_reducible refine (dioramaref01_Around.calls a2 240 t455 _ A23.out).mono ?_); rintro e w' ⟨rfl, ⟨nd, rfl⟩⟩; (try first | exact ⟨rfl, _, World.drewN_drewN _ _ _⟩ | exact ⟨rfl, _, Eq.trans (World.drewN_drewN _ _ _) (congrArg (World.drewN _) (Nat.add_assoc _ _ _))⟩)))
        repeat (go_quiet (first | (go_at_call 10; (with_reducible refine (dioramaref08_Some.calls k a0 t448 _ A16.out).mono ?_); rintro e w24 ⟨rfl, hb⟩; have n0_ := Aside0.mk (blk_below (g := gb444) (o := .cells #[.int .i64 t440, .int .i64 t441, .int .i64 t442, .int .i64 t443] 39 (0, 0)) (by (with_reducible repeat (first | refine blk_drewN ?_ _ | refine blk_drew ?_ | refine blk_alloc ?_ _)); exact BK444.out) hb); have n1_ := Aside0.mk (below_step (by repeat (first | (with_reducible first | exact HB.out | apply below_alloc | apply pw_below_drewN | apply below_drew1 | refine below_set ?_ GE444.out) | exact HB.out)) hb); clear BK444; clear HB; have BK444 := n0_; have HB := n1_; clear n0_ n1_; (try clear hb); (try clear hb2); (try clear hk); (try clear hi)) | (go_at_call 12; (with_reducible refine (dioramaref08_Civil.calls k t448 t449 t450 t451 _ A17.out).mono ?_); rintro e w' ⟨rfl, ⟨nd, rfl⟩⟩; (try first | exact ⟨rfl, _, World.drewN_drewN _ _ _⟩ | exact ⟨rfl, _, Eq.trans (World.drewN_drewN _ _ _) (congrArg (World.drewN _) (Nat.add_assoc _ _ _))⟩)) | (go_at_call 19; (with_reducible refine (dioramaref08_Day.calls k t449 1 1 t452 t453 _ A18.out).mono ?_); rintro e w' ⟨rfl, ⟨nd, rfl⟩⟩; (try first | exact ⟨rfl, _, World.drewN_drewN _ _ _⟩ | exact ⟨rfl, _, Eq.trans (World.drewN_drewN _ _ _) (congrArg (World.drewN _) (Nat.add_assoc _ _ _))⟩); have hcz25_0 : w24.cell? ⟨gb444, 0, none⟩ = some (.int .i64 t440) := (blk_cell BK444.out 0).trans rfl; have hcz25_1 : w24.cell? ⟨gb444, 1, none⟩ = some (.int .i64 t441) := (blk_cell BK444.out 1).trans rfl; have hcz25_2 : w24.cell? ⟨gb444, 2, none⟩ = some (.int .i64 t442) := (blk_cell BK444.out 2).trans rfl; have hcz25_3 : w24.cell? ⟨gb444, 3, none⟩ = some (.int .i64 t443) := (blk_cell BK444.out 3).trans rfl; have hfz25_0 := blk_frozen BK444.out 0; have hfz25_1 := blk_frozen BK444.out 1; have hfz25_2 := blk_frozen BK444.out 2; have hfz25_3 := blk_frozen BK444.out 3) | (go_at_call 17; (with_reducible refine (dioramaref01_Around.calls a2 240 t455 _ A23.out).mono ?_); rintro e w' ⟨rfl, ⟨nd, rfl⟩⟩; (try first | exact ⟨rfl, _, World.drewN_drewN _ _ _⟩ | exact ⟨rfl, _, Eq.trans (World.drewN_drewN _ _ _) (congrArg (World.drewN _) (Nat.add_assoc _ _ _))⟩))); try go_wp2_with (first | (go_at_call 10; (with_reducible refine (dioramaref08_Some.calls k a0 t448 _ A16.out).mono ?_); rintro e w24 ⟨rfl, hb⟩; have n0_ := Aside0.mk (blk_below (g := gb444) (o := .cells #[.int .i64 t440, .int .i64 t441, .int .i64 t442, .int .i64 t443] 39 (0, 0)) (by (with_reducible repeat (first | refine blk_drewN ?_ _ | refine blk_drew ?_ | refine blk_alloc ?_ _)); exact BK444.out) hb); have n1_ := Aside0.mk (below_step (by repeat (first | (with_reducible first | exact HB.out | apply below_alloc | apply pw_below_drewN | apply below_drew1 | refine below_set ?_ GE444.out) | exact HB.out)) hb); clear BK444; clear HB; have BK444 := n0_; have HB := n1_; clear n0_ n1_; (try clear hb); (try clear hb2); (try clear hk); (try clear hi)) | (go_at_call 12; (with_reducible refine (dioramaref08_Civil.calls k t448 t449 t450 t451 _ A17.out).mono ?_); rintro e w' ⟨rfl, ⟨nd, rfl⟩⟩; (try first | exact ⟨rfl, _, World.drewN_drewN _ _ _⟩ | exact ⟨rfl, _, Eq.trans (World.drewN_drewN _ _ _) (congrArg (World.drewN _) (Nat.add_assoc _ _ _))⟩)) | (go_at_call 19; (with_reducible refine (dioramaref08_Day.calls k t449 1 1 t452 t453 _ A18.out).mono ?_); rintro e w' ⟨rfl, ⟨nd, rfl⟩⟩; (try first | exact ⟨rfl, _, World.drewN_drewN _ _ _⟩ | exact ⟨rfl, _, Eq.trans (World.drewN_drewN _ _ _) (congrArg (World.drewN _) (Nat.add_assoc _ _ _))⟩); have hcz25_0 : w24.cell? ⟨gb444, 0, none⟩ = some (.int .i64 t440) := (blk_cell BK444.out 0).trans rfl; have hcz25_1 : w24.cell? ⟨gb444, 1, none⟩ = some (.int .i64 t441) := (blk_cell BK444.out 1).trans rfl; have hcz25_2 : w24.cell? ⟨gb444, 2, none⟩ = some (.int .i64 t442) := (blk_cell BK444.out 2).trans rfl; have hcz25_3 : w24.cell? ⟨gb444, 3, none⟩ = some (.int .i64 t443) := (blk_cell BK444.out 3).trans rfl; have hfz25_0 := blk_frozen BK444.out 0; have hfz25_1 := blk_frozen BK444.out 1; have hfz25_2 := blk_frozen BK444.out 2; have hfz25_3 := blk_frozen BK444.out 3) | (go_at_call 17; (with_reducible refine (dioramaref01_Around.calls a2 240 t455 _ A23.out).mono ?_); rintro e w' ⟨rfl, ⟨nd, rfl⟩⟩; (try first | exact ⟨rfl, _, World.drewN_drewN _ _ _⟩ | exact ⟨rfl, _, Eq.trans (World.drewN_drewN _ _ _) (congrArg (World.drewN _) (Nat.add_assoc _ _ _))⟩))))
        go_meet
        case rel => exact ⟨_, (wrap64 ((wrap64 ((wrap64 ((wrap64 (1440 * (wrap64 ((wrap64 (t452 + t442)) - 1)))) - t440)) + t455)) - 120)), (by first | rfl | (simp; done) | (simp [*]; done)), H', ⟨by first | omega | exact Nat.le_refl _⟩, ⟨by (with_reducible repeat (first | refine blk_drewN ?_ _ | refine blk_drew ?_ | refine blk_alloc ?_ _)); exact BK444.out⟩, ⟨by repeat (first | (with_reducible first | exact HB.out | apply below_alloc | apply pw_below_drewN | apply below_drew1 | refine below_set ?_ GE444.out) | exact HB.out)⟩⟩
    · rw [if_neg c15] at H
      have c15b0 : decide (0 < t447) = false := decide_eq_false c15
      clear c15
      (first | rw [c15b0] | (simp only [i64_w, i32_w]; rw [c15b0]) | skip)
      have H' := Aside0.mk H
      clear H
      go_wp2
      repeat (go_quiet (fail); try go_wp2)
      go_meet
      case rel => exact ⟨_, (wrap64 ((wrap64 (1440 * t445)) + t446)), (by first | rfl | (simp; done) | (simp [*]; done)), H', ⟨by first | omega | exact Nat.le_refl _⟩, ⟨by (with_reducible repeat (first | refine blk_drewN ?_ _ | refine blk_drew ?_ | refine blk_alloc ?_ _)); exact BK444.out⟩, ⟨by repeat (first | (with_reducible first | exact HB.out | apply below_alloc | apply pw_below_drewN | apply below_drew1 | refine below_set ?_ GE444.out) | exact HB.out)⟩⟩
  case rest =>
    clear HC9
    try clear c1
    try clear p2
    try clear p6
    try clear c8
    try clear c15
    try clear c15b0
    try clear c19
    try clear c19b0
    try clear c19b1
    try clear hcz13_0
    try clear hcz13_1
    try clear hcz13_2
    try clear hcz13_3
    try clear hcz22_0
    try clear hcz22_1
    try clear hcz22_2
    try clear hcz22_3
    try clear hcz25_0
    try clear hcz25_1
    try clear hcz25_2
    try clear hcz25_3
    try clear hfz13_0
    try clear hfz13_1
    try clear hfz13_2
    try clear hfz13_3
    try clear hfz22_0
    try clear hfz22_1
    try clear hfz22_2
    try clear hfz22_3
    try clear hfz25_0
    try clear hfz25_1
    try clear hfz25_2
    try clear hfz25_3
    obtain ⟨kq, x8_8, rfl, HA, HJ8, BK444, HB⟩ := hcut
    cases kq with
    | zero => exact absurd HA.out (by simp [dioramalaw08_CalendarMoments.j0])
    | succ kj8 =>
      have H := HA.out
      clear HA
      simp only [dioramalaw08_CalendarMoments.j0] at H
      replace H := Option.bind_eq_some_iff.mp H
      obtain ⟨⟨t456, t457, t458⟩, A260, H⟩ := H
      replace H : (if t458 = 0 then ((calendar_Moments.f kj8 t456 t457 t440 t441 t442 t443).bind fun bt460 => (if bt460.2 = 0 then (if (bt460.1.length : Int) < 1 then (dioramalaw08_CalendarMoments.j1 kj8 x8_8 t456 t457 bt460.1 true t440 t441 t442 t443) else (if (bt460.1.length : Int) > 2 then (dioramalaw08_CalendarMoments.j1 kj8 x8_8 t456 t457 bt460.1 true t440 t441 t442 t443) else (if t441 = 0 then (if (bt460.1.length : Int) = 1 then (if (bt460.1.length : Int) = 2 then (if 0 < (bt460.1.length : Int) then (if 1 < (bt460.1.length : Int) then (dioramalaw08_CalendarMoments.j1 kj8 x8_8 t456 t457 bt460.1 (decide ((rd bt460.1 0) ≥ (rd bt460.1 1))) t440 t441 t442 t443) else (none)) else (none)) else (dioramalaw08_CalendarMoments.j1 kj8 x8_8 t456 t457 bt460.1 false t440 t441 t442 t443)) else (dioramalaw08_CalendarMoments.j1 kj8 x8_8 t456 t457 bt460.1 true t440 t441 t442 t443)) else (if (bt460.1.length : Int) = 2 then (if 0 < (bt460.1.length : Int) then (if 1 < (bt460.1.length : Int) then (dioramalaw08_CalendarMoments.j1 kj8 x8_8 t456 t457 bt460.1 (decide ((rd bt460.1 0) ≥ (rd bt460.1 1))) t440 t441 t442 t443) else (none)) else (none)) else (dioramalaw08_CalendarMoments.j1 kj8 x8_8 t456 t457 bt460.1 false t440 t441 t442 t443))))) else (dioramalaw08_CalendarMoments.j1 kj8 x8_8 t456 t457 bt460.1 true t440 t441 t442 t443))) else (if t458 = 5 then ((dioramalaw08_lives.f kj8).bind fun t459 => (some t459)) else (some false))) = some r := H
      have A26 := Aside0.mk A260
      clear A260
      by_cases c27 : t458 = 0
      · rw [if_pos c27] at H
        have c27b0 : (t458 == 0) = true := beq_iff_eq.mpr c27
        have c27b1 : (t458 != 0) = false := bne_eq_false_iff_eq.mpr c27
        clear c27
        replace H := Option.bind_eq_some_iff.mp H
        obtain ⟨⟨t460, t463⟩, A280, H⟩ := H
        replace H : (if t463 = 0 then (if (t460.length : Int) < 1 then (dioramalaw08_CalendarMoments.j1 kj8 x8_8 t456 t457 t460 true t440 t441 t442 t443) else (if (t460.length : Int) > 2 then (dioramalaw08_CalendarMoments.j1 kj8 x8_8 t456 t457 t460 true t440 t441 t442 t443) else (if t441 = 0 then (if (t460.length : Int) = 1 then (if (t460.length : Int) = 2 then (if 0 < (t460.length : Int) then (if 1 < (t460.length : Int) then (dioramalaw08_CalendarMoments.j1 kj8 x8_8 t456 t457 t460 (decide ((rd t460 0) ≥ (rd t460 1))) t440 t441 t442 t443) else (none)) else (none)) else (dioramalaw08_CalendarMoments.j1 kj8 x8_8 t456 t457 t460 false t440 t441 t442 t443)) else (dioramalaw08_CalendarMoments.j1 kj8 x8_8 t456 t457 t460 true t440 t441 t442 t443)) else (if (t460.length : Int) = 2 then (if 0 < (t460.length : Int) then (if 1 < (t460.length : Int) then (dioramalaw08_CalendarMoments.j1 kj8 x8_8 t456 t457 t460 (decide ((rd t460 0) ≥ (rd t460 1))) t440 t441 t442 t443) else (none)) else (none)) else (dioramalaw08_CalendarMoments.j1 kj8 x8_8 t456 t457 t460 false t440 t441 t442 t443))))) else (dioramalaw08_CalendarMoments.j1 kj8 x8_8 t456 t457 t460 true t440 t441 t442 t443)) = some r := H
        have A28 := Aside0.mk A280
        clear A280
        have HC29 := Aside0.mk H
        clear H
        have hcz30_0 : wc.cell? ⟨gb444, 0, none⟩ = some (.int .i64 t440) := (blk_cell BK444.out 0).trans rfl
        have hcz30_1 : wc.cell? ⟨gb444, 1, none⟩ = some (.int .i64 t441) := (blk_cell BK444.out 1).trans rfl
        have hcz30_2 : wc.cell? ⟨gb444, 2, none⟩ = some (.int .i64 t442) := (blk_cell BK444.out 2).trans rfl
        have hcz30_3 : wc.cell? ⟨gb444, 3, none⟩ = some (.int .i64 t443) := (blk_cell BK444.out 3).trans rfl
        have hfz30_0 := blk_frozen BK444.out 0
        have hfz30_1 := blk_frozen BK444.out 1
        have hfz30_2 := blk_frozen BK444.out 2
        have hfz30_3 := blk_frozen BK444.out 3
        go_upto_region 15 with (first | (go_at_call 26; (with_reducible refine (calendar_Local.calls kj8 x8_8 t440 t441 t442 t443 t456 t457 t458 _ A26.out).mono ?_); rintro e w31 ⟨rfl, hb⟩; have n0_ := Aside0.mk (blk_below (g := gb444) (o := .cells #[.int .i64 t440, .int .i64 t441, .int .i64 t442, .int .i64 t443] 39 (0, 0)) (by (with_reducible repeat (first | refine blk_drewN ?_ _ | refine blk_drew ?_ | refine blk_alloc ?_ _)); exact BK444.out) hb); have n1_ := Aside0.mk (below_step (by repeat (first | (with_reducible first | exact HB.out | apply below_alloc | apply pw_below_drewN | apply below_drew1 | refine below_set ?_ GE444.out) | exact HB.out)) hb); clear BK444; clear HB; have BK444 := n0_; have HB := n1_; clear n0_ n1_; (try clear hb); (try clear hb2); (try clear hk); (try clear hi); have hcz32_0 : w31.cell? ⟨gb444, 0, none⟩ = some (.int .i64 t440) := (blk_cell BK444.out 0).trans rfl; have hcz32_1 : w31.cell? ⟨gb444, 1, none⟩ = some (.int .i64 t441) := (blk_cell BK444.out 1).trans rfl; have hcz32_2 : w31.cell? ⟨gb444, 2, none⟩ = some (.int .i64 t442) := (blk_cell BK444.out 2).trans rfl; have hcz32_3 : w31.cell? ⟨gb444, 3, none⟩ = some (.int .i64 t443) := (blk_cell BK444.out 3).trans rfl; have hfz32_0 := blk_frozen BK444.out 0; have hfz32_1 := blk_frozen BK444.out 1; have hfz32_2 := blk_frozen BK444.out 2; have hfz32_3 := blk_frozen BK444.out 3) | (go_at_call 29; (with_reducible refine (calendar_Moments.calls kj8 t456 t457 t440 t441 t442 t443 t460 t463 _ A28.out).mono ?_); rintro e w33 ⟨v461, rfl, ho0, hb⟩; have n0_ := Aside0.mk (Kd.R_lower ho0 (below_size (by repeat (first | (with_reducible first | exact HB.out | apply below_alloc | apply pw_below_drewN | apply below_drew1 | refine below_set ?_ GE444.out) | exact HB.out)))); have n1_ := Aside0.mk (blk_below (g := gb444) (o := .cells #[.int .i64 t440, .int .i64 t441, .int .i64 t442, .int .i64 t443] 39 (0, 0)) (by (with_reducible repeat (first | refine blk_drewN ?_ _ | refine blk_drew ?_ | refine blk_alloc ?_ _)); exact BK444.out) hb); have n2_ := Aside0.mk (below_step (by repeat (first | (with_reducible first | exact HB.out | apply below_alloc | apply pw_below_drewN | apply below_drew1 | refine below_set ?_ GE444.out) | exact HB.out)) hb); clear BK444; clear HB; have HO462 := n0_; have BK444 := n1_; have HB := n2_; clear n0_ n1_ n2_; (try clear hb); (try clear hb2); (try clear hk); (try clear hi); (try clear ho0)))
        repeat (go_quiet (first | (go_at_call 26; (with_reducible refine (calendar_Local.calls kj8 x8_8 t440 t441 t442 t443 t456 t457 t458 _ A26.out).mono ?_); rintro e w31 ⟨rfl, hb⟩; have n0_ := Aside0.mk (blk_below (g := gb444) (o := .cells #[.int .i64 t440, .int .i64 t441, .int .i64 t442, .int .i64 t443] 39 (0, 0)) (by (with_reducible repeat (first | refine blk_drewN ?_ _ | refine blk_drew ?_ | refine blk_alloc ?_ _)); exact BK444.out) hb); have n1_ := Aside0.mk (below_step (by repeat (first | (with_reducible first | exact HB.out | apply below_alloc | apply pw_below_drewN | apply below_drew1 | refine below_set ?_ GE444.out) | exact HB.out)) hb); clear BK444; clear HB; have BK444 := n0_; have HB := n1_; clear n0_ n1_; (try clear hb); (try clear hb2); (try clear hk); (try clear hi); have hcz32_0 : w31.cell? ⟨gb444, 0, none⟩ = some (.int .i64 t440) := (blk_cell BK444.out 0).trans rfl; have hcz32_1 : w31.cell? ⟨gb444, 1, none⟩ = some (.int .i64 t441) := (blk_cell BK444.out 1).trans rfl; have hcz32_2 : w31.cell? ⟨gb444, 2, none⟩ = some (.int .i64 t442) := (blk_cell BK444.out 2).trans rfl; have hcz32_3 : w31.cell? ⟨gb444, 3, none⟩ = some (.int .i64 t443) := (blk_cell BK444.out 3).trans rfl; have hfz32_0 := blk_frozen BK444.out 0; have hfz32_1 := blk_frozen BK444.out 1; have hfz32_2 := blk_frozen BK444.out 2; have hfz32_3 := blk_frozen BK444.out 3) | (go_at_call 29; (with_reducible refine (calendar_Moments.calls kj8 t456 t457 t440 t441 t442 t443 t460 t463 _ A28.out).mono ?_); rintro e w33 ⟨v461, rfl, ho0, hb⟩; have n0_ := Aside0.mk (Kd.R_lower ho0 (below_size (by repeat (first | (with_reducible first | exact HB.out | apply below_alloc | apply pw_below_drewN | apply below_drew1 | refine below_set ?_ GE444.out) | exact HB.out)))); have n1_ := Aside0.mk (blk_below (g := gb444) (o := .cells #[.int .i64 t440, .int .i64 t441, .int .i64 t442, .int .i64 t443] 39 (0, 0)) (by (with_reducible repeat (first | refine blk_drewN ?_ _ | refine blk_drew ?_ | refine blk_alloc ?_ _)); exact BK444.out) hb); have n2_ := Aside0.mk (below_step (by repeat (first | (with_reducible first | exact HB.out | apply below_alloc | apply pw_below_drewN | apply below_drew1 | refine below_set ?_ GE444.out) | exact HB.out)) hb); clear BK444; clear HB; have HO462 := n0_; have BK444 := n1_; have HB := n2_; clear n0_ n1_ n2_; (try clear hb); (try clear hb2); (try clear hk); (try clear hi); (try clear ho0))); go_upto_region 15 with (first | (go_at_call 26; (with_reducible refine (calendar_Local.calls kj8 x8_8 t440 t441 t442 t443 t456 t457 t458 _ A26.out).mono ?_); rintro e w31 ⟨rfl, hb⟩; have n0_ := Aside0.mk (blk_below (g := gb444) (o := .cells #[.int .i64 t440, .int .i64 t441, .int .i64 t442, .int .i64 t443] 39 (0, 0)) (by (with_reducible repeat (first | refine blk_drewN ?_ _ | refine blk_drew ?_ | refine blk_alloc ?_ _)); exact BK444.out) hb); have n1_ := Aside0.mk (below_step (by repeat (first | (with_reducible first | exact HB.out | apply below_alloc | apply pw_below_drewN | apply below_drew1 | refine below_set ?_ GE444.out) | exact HB.out)) hb); clear BK444; clear HB; have BK444 := n0_; have HB := n1_; clear n0_ n1_; (try clear hb); (try clear hb2); (try clear hk); (try clear hi); have hcz32_0 : w31.cell? ⟨gb444, 0, none⟩ = some (.int .i64 t440) := (blk_cell BK444.out 0).trans rfl; have hcz32_1 : w31.cell? ⟨gb444, 1, none⟩ = some (.int .i64 t441) := (blk_cell BK444.out 1).trans rfl; have hcz32_2 : w31.cell? ⟨gb444, 2, none⟩ = some (.int .i64 t442) := (blk_cell BK444.out 2).trans rfl; have hcz32_3 : w31.cell? ⟨gb444, 3, none⟩ = some (.int .i64 t443) := (blk_cell BK444.out 3).trans rfl; have hfz32_0 := blk_frozen BK444.out 0; have hfz32_1 := blk_frozen BK444.out 1; have hfz32_2 := blk_frozen BK444.out 2; have hfz32_3 := blk_frozen BK444.out 3) | (go_at_call 29; (with_reducible refine (calendar_Moments.calls kj8 t456 t457 t440 t441 t442 t443 t460 t463 _ A28.out).mono ?_); rintro e w33 ⟨v461, rfl, ho0, hb⟩; have n0_ := Aside0.mk (Kd.R_lower ho0 (below_size (by repeat (first | (with_reducible first | exact HB.out | apply below_alloc | apply pw_below_drewN | apply below_drew1 | refine below_set ?_ GE444.out) | exact HB.out)))); have n1_ := Aside0.mk (blk_below (g := gb444) (o := .cells #[.int .i64 t440, .int .i64 t441, .int .i64 t442, .int .i64 t443] 39 (0, 0)) (by (with_reducible repeat (first | refine blk_drewN ?_ _ | refine blk_drew ?_ | refine blk_alloc ?_ _)); exact BK444.out) hb); have n2_ := Aside0.mk (below_step (by repeat (first | (with_reducible first | exact HB.out | apply below_alloc | apply pw_below_drewN | apply below_drew1 | refine below_set ?_ GE444.out) | exact HB.out)) hb); clear BK444; clear HB; have HO462 := n0_; have BK444 := n1_; have HB := n2_; clear n0_ n1_ n2_; (try clear hb); (try clear hb2); (try clear hk); (try clear hi); (try clear ho0))))
        (try simp only [Act.put, List.setIfInBounds_toArray, List.set_cons_zero, List.set_cons_succ])
        go_cut [127] (fun v127 wc => ∃ (kq : Nat) (x127_28 : Bool), v127 = .bool x127_28 ∧ Aside0 (dioramalaw08_CalendarMoments.j1 kq x8_8 t456 t457 t460 x127_28 t440 t441 t442 t443 = some r) ∧ Aside0 (kq ≤ kj8) ∧ Aside0 (Kd.R (Kd.int .i64) 3 wc w.heap.size (fun _ => True) v461 t460) ∧ Aside0 (wc.heap[gb444]? = some (.cells #[.int .i64 t440, .int .i64 t441, .int .i64 t442, .int .i64 t443] 39 (0, 0))) ∧ Aside0 (Below w.heap.size w wc))
        case first =>
          have H := HC29.out
          clear HC29
          by_cases c34 : t463 = 0
          · rw [if_pos c34] at H
            have c34b0 : (t463 == 0) = true := beq_iff_eq.mpr c34
            have c34b1 : (t463 != 0) = false := bne_eq_false_iff_eq.mpr c34
            clear c34
            (first | rw [c34b0] | (simp only [i64_w, i32_w]; rw [c34b0]) | skip)
            by_cases c35 : (t460.length : Int) < 1
            · rw [if_pos c35] at H
              have c35b0 : decide ((t460.length : Int) < 1) = true := decide_eq_true c35
              have c35b1 : decide (t460.length < 1) = true := decide_eq_true (by omega)
              clear c35
              have H' := Aside0.mk H
              clear H
              obtain ⟨Ao36, co36, eo36⟩ := Kd.R_slice HO462.out
              subst eo36
              go_wp2
              repeat (go_quiet (fail); try go_wp2)
              go_meet
              case rel => exact ⟨_, (true), (by first | rfl | (simp; done) | (simp [*]; done)), H', ⟨by have := HJ8.out; first | omega | exact Nat.le_refl _⟩, ⟨by (with_reducible repeat (first | apply Kd.R_alloc | apply Kd.R_drewN | apply Kd.R_drew)); exact HO462.out⟩, ⟨by (with_reducible repeat (first | refine blk_drewN ?_ _ | refine blk_drew ?_ | refine blk_alloc ?_ _)); exact BK444.out⟩, ⟨by repeat (first | (with_reducible first | exact HB.out | apply below_alloc | apply pw_below_drewN | apply below_drew1 | refine below_set ?_ GE444.out) | exact HB.out)⟩⟩
            · rw [if_neg c35] at H
              have c35b0 : decide ((t460.length : Int) < 1) = false := decide_eq_false c35
              have c35b1 : decide (t460.length < 1) = false := decide_eq_false (by omega)
              clear c35
              by_cases c37 : (t460.length : Int) > 2
              · rw [if_pos c37] at H
                have c37b0 : decide (2 < (t460.length : Int)) = true := decide_eq_true c37
                have c37b1 : decide (2 < t460.length) = true := decide_eq_true (by omega)
                clear c37
                have H' := Aside0.mk H
                clear H
                obtain ⟨Ao38, co38, eo38⟩ := Kd.R_slice HO462.out
                subst eo38
                go_wp2
                repeat (go_quiet (fail); try go_wp2)
                go_meet
                case rel => exact ⟨_, (true), (by first | rfl | (simp; done) | (simp [*]; done)), H', ⟨by have := HJ8.out; first | omega | exact Nat.le_refl _⟩, ⟨by (with_reducible repeat (first | apply Kd.R_alloc | apply Kd.R_drewN | apply Kd.R_drew)); exact HO462.out⟩, ⟨by (with_reducible repeat (first | refine blk_drewN ?_ _ | refine blk_drew ?_ | refine blk_alloc ?_ _)); exact BK444.out⟩, ⟨by repeat (first | (with_reducible first | exact HB.out | apply below_alloc | apply pw_below_drewN | apply below_drew1 | refine below_set ?_ GE444.out) | exact HB.out)⟩⟩
              · rw [if_neg c37] at H
                have c37b0 : decide (2 < (t460.length : Int)) = false := decide_eq_false c37
                have c37b1 : decide (2 < t460.length) = false := decide_eq_false (by omega)
                clear c37
                by_cases c39 : t441 = 0
                · rw [if_pos c39] at H
                  have c39b0 : (t441 == 0) = true := beq_iff_eq.mpr c39
                  have c39b1 : (t441 != 0) = false := bne_eq_false_iff_eq.mpr c39
                  clear c39
                  by_cases c40 : (t460.length : Int) = 1
                  · rw [if_pos c40] at H
                    have c40b0 : ((t460.length : Int) == 1) = true := beq_iff_eq.mpr c40
                    have c40b1 : ((t460.length : Int) != 1) = false := bne_eq_false_iff_eq.mpr c40
                    clear c40
                    by_cases c41 : (t460.length : Int) = 2
                    · rw [if_pos c41] at H
                      have c41b0 : ((t460.length : Int) == 2) = true := beq_iff_eq.mpr c41
                      have c41b1 : ((t460.length : Int) != 2) = false := bne_eq_false_iff_eq.mpr c41
                      clear c41
                      by_cases c42 : 0 < (t460.length : Int)
                      · rw [if_pos c42] at H
                        have c42b0 : decide (0 < (t460.length : Int)) = true := decide_eq_true c42
                        have c42b1 : decide (0 < t460.length) = true := decide_eq_true (by omega)
                        clear c42
                        by_cases c43 : 1 < (t460.length : Int)
                        · rw [if_pos c43] at H
                          have c43b0 : decide (1 < (t460.length : Int)) = true := decide_eq_true c43
                          have c43b1 : decide (1 < t460.length) = true := decide_eq_true (by omega)
                          clear c43
                          have H' := Aside0.mk H
                          clear H
                          obtain ⟨Ao44, co44, eo44⟩ := Kd.R_slice HO462.out
                          subst eo44
                          have hcz45_0 : w33.cell? ⟨gb444, 0, none⟩ = some (.int .i64 t440) := (blk_cell BK444.out 0).trans rfl
                          have hcz45_1 : w33.cell? ⟨gb444, 1, none⟩ = some (.int .i64 t441) := (blk_cell BK444.out 1).trans rfl
                          have hcz45_2 : w33.cell? ⟨gb444, 2, none⟩ = some (.int .i64 t442) := (blk_cell BK444.out 2).trans rfl
                          have hcz45_3 : w33.cell? ⟨gb444, 3, none⟩ = some (.int .i64 t443) := (blk_cell BK444.out 3).trans rfl
                          have hfz45_0 := blk_frozen BK444.out 0
                          have hfz45_1 := blk_frozen BK444.out 1
                          have hfz45_2 := blk_frozen BK444.out 2
                          have hfz45_3 := blk_frozen BK444.out 3
                          have p464 : 0 ≤ (0 : Int) := (by omega)
                          have q464 : 0 < (t460.length : Int) := of_decide_eq_true (by first | (with_reducible assumption) | assumption)
                          obtain ⟨ad464, e464, hx464_0⟩ := Kd.at_int (Kd.R_reads' HO462.out).2.2 0 p464 q464
                          cases e464
                          have qi464 : (0 < t460.length) = True := eq_true (by omega)
                          (try rw [show ((0 : Int)).toNat = 0 from rfl] at hx464_0)
                          (try rw [Addr.add_zero'] at hx464_0)
                          replace p464 := eq_true p464
                          replace q464 := eq_true q464
                          have p465 : 0 ≤ (1 : Int) := (by omega)
                          have q465 : 1 < (t460.length : Int) := of_decide_eq_true (by first | (with_reducible assumption) | assumption)
                          obtain ⟨ad465, e465, hx465_0⟩ := Kd.at_int (Kd.R_reads' HO462.out).2.2 1 p465 q465
                          obtain rfl : ad464 = ad465 := (by injection e465)
                          (try simp only [show (1 : Int).toNat = 1 from rfl, Nat.reduceMul, Nat.reduceEqDiff, Go.Addr.add, ↓reduceIte] at hx465_0)
                          have qi465 : (1 < t460.length) = True := eq_true (by omega)
                          (try rw [show ((1 : Int)).toNat = 1 from rfl] at hx465_0)
                          replace p465 := eq_true p465
                          replace q465 := eq_true q465
                          go_wp2
                          repeat (go_quiet (fail); try go_wp2)
                          go_meet
                          case rel => exact ⟨_, (decide ((rd t460 0) ≥ (rd t460 1))), (by first | rfl | (simp; done) | (simp [*]; done)), H', ⟨by have := HJ8.out; first | omega | exact Nat.le_refl _⟩, ⟨by (with_reducible repeat (first | apply Kd.R_alloc | apply Kd.R_drewN | apply Kd.R_drew)); exact HO462.out⟩, ⟨by (with_reducible repeat (first | refine blk_drewN ?_ _ | refine blk_drew ?_ | refine blk_alloc ?_ _)); exact BK444.out⟩, ⟨by repeat (first | (with_reducible first | exact HB.out | apply below_alloc | apply pw_below_drewN | apply below_drew1 | refine below_set ?_ GE444.out) | exact HB.out)⟩⟩
                        · rw [if_neg c43] at H
                          exact absurd H (by simp)
                      · rw [if_neg c42] at H
                        exact absurd H (by simp)
                    · rw [if_neg c41] at H
                      have c41b0 : ((t460.length : Int) == 2) = false := beq_eq_false_iff_ne.mpr c41
                      have c41b1 : ((t460.length : Int) != 2) = true := bne_iff_ne.mpr c41
                      have H' := Aside0.mk H
                      clear H
                      obtain ⟨Ao46, co46, eo46⟩ := Kd.R_slice HO462.out
                      subst eo46
                      have hcz47_0 : w33.cell? ⟨gb444, 0, none⟩ = some (.int .i64 t440) := (blk_cell BK444.out 0).trans rfl
                      have hcz47_1 : w33.cell? ⟨gb444, 1, none⟩ = some (.int .i64 t441) := (blk_cell BK444.out 1).trans rfl
                      have hcz47_2 : w33.cell? ⟨gb444, 2, none⟩ = some (.int .i64 t442) := (blk_cell BK444.out 2).trans rfl
                      have hcz47_3 : w33.cell? ⟨gb444, 3, none⟩ = some (.int .i64 t443) := (blk_cell BK444.out 3).trans rfl
                      have hfz47_0 := blk_frozen BK444.out 0
                      have hfz47_1 := blk_frozen BK444.out 1
                      have hfz47_2 := blk_frozen BK444.out 2
                      have hfz47_3 := blk_frozen BK444.out 3
                      go_wp2
                      repeat (go_quiet (fail); try go_wp2)
                      go_meet
                      case rel => exact ⟨_, (false), (by first | rfl | (simp; done) | (simp [*]; done)), H', ⟨by have := HJ8.out; first | omega | exact Nat.le_refl _⟩, ⟨by (with_reducible repeat (first | apply Kd.R_alloc | apply Kd.R_drewN | apply Kd.R_drew)); exact HO462.out⟩, ⟨by (with_reducible repeat (first | refine blk_drewN ?_ _ | refine blk_drew ?_ | refine blk_alloc ?_ _)); exact BK444.out⟩, ⟨by repeat (first | (with_reducible first | exact HB.out | apply below_alloc | apply pw_below_drewN | apply below_drew1 | refine below_set ?_ GE444.out) | exact HB.out)⟩⟩
                  · rw [if_neg c40] at H
                    have c40b0 : ((t460.length : Int) == 1) = false := beq_eq_false_iff_ne.mpr c40
                    have c40b1 : ((t460.length : Int) != 1) = true := bne_iff_ne.mpr c40
                    have H' := Aside0.mk H
                    clear H
                    obtain ⟨Ao48, co48, eo48⟩ := Kd.R_slice HO462.out
                    subst eo48
                    have hcz49_0 : w33.cell? ⟨gb444, 0, none⟩ = some (.int .i64 t440) := (blk_cell BK444.out 0).trans rfl
                    have hcz49_1 : w33.cell? ⟨gb444, 1, none⟩ = some (.int .i64 t441) := (blk_cell BK444.out 1).trans rfl
                    have hcz49_2 : w33.cell? ⟨gb444, 2, none⟩ = some (.int .i64 t442) := (blk_cell BK444.out 2).trans rfl
                    have hcz49_3 : w33.cell? ⟨gb444, 3, none⟩ = some (.int .i64 t443) := (blk_cell BK444.out 3).trans rfl
                    have hfz49_0 := blk_frozen BK444.out 0
                    have hfz49_1 := blk_frozen BK444.out 1
                    have hfz49_2 := blk_frozen BK444.out 2
                    have hfz49_3 := blk_frozen BK444.out 3
                    go_wp2
                    repeat (go_quiet (fail); try go_wp2)
                    go_meet
                    case rel => exact ⟨_, (true), (by first | rfl | (simp; done) | (simp [*]; done)), H', ⟨by have := HJ8.out; first | omega | exact Nat.le_refl _⟩, ⟨by (with_reducible repeat (first | apply Kd.R_alloc | apply Kd.R_drewN | apply Kd.R_drew)); exact HO462.out⟩, ⟨by (with_reducible repeat (first | refine blk_drewN ?_ _ | refine blk_drew ?_ | refine blk_alloc ?_ _)); exact BK444.out⟩, ⟨by repeat (first | (with_reducible first | exact HB.out | apply below_alloc | apply pw_below_drewN | apply below_drew1 | refine below_set ?_ GE444.out) | exact HB.out)⟩⟩
                · rw [if_neg c39] at H
                  have c39b0 : (t441 == 0) = false := beq_eq_false_iff_ne.mpr c39
                  have c39b1 : (t441 != 0) = true := bne_iff_ne.mpr c39
                  by_cases c50 : (t460.length : Int) = 2
                  · rw [if_pos c50] at H
                    have c50b0 : ((t460.length : Int) == 2) = true := beq_iff_eq.mpr c50
                    have c50b1 : ((t460.length : Int) != 2) = false := bne_eq_false_iff_eq.mpr c50
                    clear c50
                    by_cases c51 : 0 < (t460.length : Int)
                    · rw [if_pos c51] at H
                      have c51b0 : decide (0 < (t460.length : Int)) = true := decide_eq_true c51
                      have c51b1 : decide (0 < t460.length) = true := decide_eq_true (by omega)
                      clear c51
                      by_cases c52 : 1 < (t460.length : Int)
                      · rw [if_pos c52] at H
                        have c52b0 : decide (1 < (t460.length : Int)) = true := decide_eq_true c52
                        have c52b1 : decide (1 < t460.length) = true := decide_eq_true (by omega)
                        clear c52
                        have H' := Aside0.mk H
                        clear H
                        obtain ⟨Ao53, co53, eo53⟩ := Kd.R_slice HO462.out
                        subst eo53
                        have hcz54_0 : w33.cell? ⟨gb444, 0, none⟩ = some (.int .i64 t440) := (blk_cell BK444.out 0).trans rfl
                        have hcz54_1 : w33.cell? ⟨gb444, 1, none⟩ = some (.int .i64 t441) := (blk_cell BK444.out 1).trans rfl
                        have hcz54_2 : w33.cell? ⟨gb444, 2, none⟩ = some (.int .i64 t442) := (blk_cell BK444.out 2).trans rfl
                        have hcz54_3 : w33.cell? ⟨gb444, 3, none⟩ = some (.int .i64 t443) := (blk_cell BK444.out 3).trans rfl
                        have hfz54_0 := blk_frozen BK444.out 0
                        have hfz54_1 := blk_frozen BK444.out 1
                        have hfz54_2 := blk_frozen BK444.out 2
                        have hfz54_3 := blk_frozen BK444.out 3
                        have p466 : 0 ≤ (0 : Int) := (by omega)
                        have q466 : 0 < (t460.length : Int) := of_decide_eq_true (by first | (with_reducible assumption) | assumption)
                        obtain ⟨ad466, e466, hx466_0⟩ := Kd.at_int (Kd.R_reads' HO462.out).2.2 0 p466 q466
                        cases e466
                        have qi466 : (0 < t460.length) = True := eq_true (by omega)
                        (try rw [show ((0 : Int)).toNat = 0 from rfl] at hx466_0)
                        (try rw [Addr.add_zero'] at hx466_0)
                        replace p466 := eq_true p466
                        replace q466 := eq_true q466
                        have p467 : 0 ≤ (1 : Int) := (by omega)
                        have q467 : 1 < (t460.length : Int) := of_decide_eq_true (by first | (with_reducible assumption) | assumption)
                        obtain ⟨ad467, e467, hx467_0⟩ := Kd.at_int (Kd.R_reads' HO462.out).2.2 1 p467 q467
                        obtain rfl : ad466 = ad467 := (by injection e467)
                        (try simp only [show (1 : Int).toNat = 1 from rfl, Nat.reduceMul, Nat.reduceEqDiff, Go.Addr.add, ↓reduceIte] at hx467_0)
                        have qi467 : (1 < t460.length) = True := eq_true (by omega)
                        (try rw [show ((1 : Int)).toNat = 1 from rfl] at hx467_0)
                        replace p467 := eq_true p467
                        replace q467 := eq_true q467
                        go_wp2
                        repeat (go_quiet (fail); try go_wp2)
                        go_meet
                        case rel => exact ⟨_, (decide ((rd t460 0) ≥ (rd t460 1))), (by first | rfl | (simp; done) | (simp [*]; done)), H', ⟨by have := HJ8.out; first | omega | exact Nat.le_refl _⟩, ⟨by (with_reducible repeat (first | apply Kd.R_alloc | apply Kd.R_drewN | apply Kd.R_drew)); exact HO462.out⟩, ⟨by (with_reducible repeat (first | refine blk_drewN ?_ _ | refine blk_drew ?_ | refine blk_alloc ?_ _)); exact BK444.out⟩, ⟨by repeat (first | (with_reducible first | exact HB.out | apply below_alloc | apply pw_below_drewN | apply below_drew1 | refine below_set ?_ GE444.out) | exact HB.out)⟩⟩
                      · rw [if_neg c52] at H
                        exact absurd H (by simp)
                    · rw [if_neg c51] at H
                      exact absurd H (by simp)
                  · rw [if_neg c50] at H
                    have c50b0 : ((t460.length : Int) == 2) = false := beq_eq_false_iff_ne.mpr c50
                    have c50b1 : ((t460.length : Int) != 2) = true := bne_iff_ne.mpr c50
                    have H' := Aside0.mk H
                    clear H
                    obtain ⟨Ao55, co55, eo55⟩ := Kd.R_slice HO462.out
                    subst eo55
                    have hcz56_0 : w33.cell? ⟨gb444, 0, none⟩ = some (.int .i64 t440) := (blk_cell BK444.out 0).trans rfl
                    have hcz56_1 : w33.cell? ⟨gb444, 1, none⟩ = some (.int .i64 t441) := (blk_cell BK444.out 1).trans rfl
                    have hcz56_2 : w33.cell? ⟨gb444, 2, none⟩ = some (.int .i64 t442) := (blk_cell BK444.out 2).trans rfl
                    have hcz56_3 : w33.cell? ⟨gb444, 3, none⟩ = some (.int .i64 t443) := (blk_cell BK444.out 3).trans rfl
                    have hfz56_0 := blk_frozen BK444.out 0
                    have hfz56_1 := blk_frozen BK444.out 1
                    have hfz56_2 := blk_frozen BK444.out 2
                    have hfz56_3 := blk_frozen BK444.out 3
                    go_wp2
                    repeat (go_quiet (fail); try go_wp2)
                    go_meet
                    case rel => exact ⟨_, (false), (by first | rfl | (simp; done) | (simp [*]; done)), H', ⟨by have := HJ8.out; first | omega | exact Nat.le_refl _⟩, ⟨by (with_reducible repeat (first | apply Kd.R_alloc | apply Kd.R_drewN | apply Kd.R_drew)); exact HO462.out⟩, ⟨by (with_reducible repeat (first | refine blk_drewN ?_ _ | refine blk_drew ?_ | refine blk_alloc ?_ _)); exact BK444.out⟩, ⟨by repeat (first | (with_reducible first | exact HB.out | apply below_alloc | apply pw_below_drewN | apply below_drew1 | refine below_set ?_ GE444.out) | exact HB.out)⟩⟩
          · rw [if_neg c34] at H
            have c34b0 : (t463 == 0) = false := beq_eq_false_iff_ne.mpr c34
            have c34b1 : (t463 != 0) = true := bne_iff_ne.mpr c34
            (first | rw [c34b0] | (simp only [i64_w, i32_w]; rw [c34b0]) | skip)
            have H' := Aside0.mk H
            clear H
            go_wp2
            repeat (go_quiet (fail); try go_wp2)
            go_meet
            case rel => exact ⟨_, (true), (by first | rfl | (simp; done) | (simp [*]; done)), H', ⟨by have := HJ8.out; first | omega | exact Nat.le_refl _⟩, ⟨by (with_reducible repeat (first | apply Kd.R_alloc | apply Kd.R_drewN | apply Kd.R_drew)); exact HO462.out⟩, ⟨by (with_reducible repeat (first | refine blk_drewN ?_ _ | refine blk_drew ?_ | refine blk_alloc ?_ _)); exact BK444.out⟩, ⟨by repeat (first | (with_reducible first | exact HB.out | apply below_alloc | apply pw_below_drewN | apply below_drew1 | refine below_set ?_ GE444.out) | exact HB.out)⟩⟩
        case rest =>
          clear HC29
          try clear c1
          try clear c2
          try clear p2
          try clear c3
          try clear c4
          try clear p4
          try clear q4
          try clear hx4
          try clear qi4
          try clear c5
          try clear p6
          try clear c8
          try clear c15
          try clear c15b0
          try clear c19
          try clear c19b0
          try clear c19b1
          try clear c27
          try clear c27b0
          try clear c27b1
          try clear c34
          try clear c34b0
          try clear c34b1
          try clear c35
          try clear c35b0
          try clear c35b1
          try clear c37
          try clear c37b0
          try clear c37b1
          try clear c39
          try clear c39b0
          try clear c39b1
          try clear c40
          try clear c40b0
          try clear c40b1
          try clear c41
          try clear c41b0
          try clear c41b1
          try clear c42
          try clear c42b0
          try clear c42b1
          try clear c43
          try clear c43b0
          try clear c43b1
          try clear p46
          try clear q46
          try clear hx46
          try clear qi46
          try clear c50
          try clear c50b0
          try clear c50b1
          try clear c51
          try clear c51b0
          try clear c51b1
          try clear c52
          try clear c52b0
          try clear c52b1
          try clear hcz13_0
          try clear hcz13_1
          try clear hcz13_2
          try clear hcz13_3
          try clear hcz22_0
          try clear hcz22_1
          try clear hcz22_2
          try clear hcz22_3
          try clear hcz25_0
          try clear hcz25_1
          try clear hcz25_2
          try clear hcz25_3
          try clear hcz30_0
          try clear hcz30_1
          try clear hcz30_2
          try clear hcz30_3
          try clear hcz32_0
          try clear hcz32_1
          try clear hcz32_2
          try clear hcz32_3
          try clear hcz45_0
          try clear hcz45_1
          try clear hcz45_2
          try clear hcz45_3
          try clear hcz47_0
          try clear hcz47_1
          try clear hcz47_2
          try clear hcz47_3
          try clear hcz49_0
          try clear hcz49_1
          try clear hcz49_2
          try clear hcz49_3
          try clear hcz54_0
          try clear hcz54_1
          try clear hcz54_2
          try clear hcz54_3
          try clear hcz56_0
          try clear hcz56_1
          try clear hcz56_2
          try clear hcz56_3
          try clear hfz13_0
          try clear hfz13_1
          try clear hfz13_2
          try clear hfz13_3
          try clear hfz22_0
          try clear hfz22_1
          try clear hfz22_2
          try clear hfz22_3
          try clear hfz25_0
          try clear hfz25_1
          try clear hfz25_2
          try clear hfz25_3
          try clear hfz30_0
          try clear hfz30_1
          try clear hfz30_2
          try clear hfz30_3
          try clear hfz32_0
          try clear hfz32_1
          try clear hfz32_2
          try clear hfz32_3
          try clear hfz45_0
          try clear hfz45_1
          try clear hfz45_2
          try clear hfz45_3
          try clear hfz47_0
          try clear hfz47_1
          try clear hfz47_2
          try clear hfz47_3
          try clear hfz49_0
          try clear hfz49_1
          try clear hfz49_2
          try clear hfz49_3
          try clear hfz54_0
          try clear hfz54_1
          try clear hfz54_2
          try clear hfz54_3
          try clear hfz56_0
          try clear hfz56_1
          try clear hfz56_2
          try clear hfz56_3
          try clear hx464_0
          try clear hx465_0
          try clear hx466_0
          try clear hx467_0
          try clear p2
          try clear p464
          try clear p465
          try clear p466
          try clear p467
          try clear p6
          try clear q464
          try clear q465
          try clear q466
          try clear q467
          obtain ⟨kq, x127_28, rfl, HA, HJ28, HO_19, BK444, HB⟩ := hcut
          cases kq with
          | zero => exact absurd HA.out (by simp [dioramalaw08_CalendarMoments.j1])
          | succ kj28 =>
            have H := HA.out
            clear HA
            simp only [dioramalaw08_CalendarMoments.j1] at H
            by_cases c57 : x127_28 = true
            · subst c57
              have H1 : (some false) = some r := by rw [if_pos rfl] at H; exact H
              clear H
              have H := H1
              clear H1
              obtain rfl := Option.some.inj H
              go_wp2
              repeat (go_quiet (fail); try go_wp2)
              go_ret
              exact ⟨by first | rfl | (simp [errW_none, errW_some] <;> rfl) | (simp [*, errW_none, errW_some] <;> rfl), by repeat (first | (with_reducible first | exact HB.out | apply below_alloc | apply pw_below_drewN | apply below_drew1 | refine below_set ?_ GE444.out) | exact HB.out)⟩
            · replace c57 := Bool.eq_false_iff.mpr c57
              subst c57
              have H1 : (if 0 < (t460.length : Int) then (if (rd t460 0) = x8_8 then (dioramalaw08_CalendarMoments.j2 kj28 x8_8 t456 t457 false t440 t441 t442 t443) else (if 0 ≤ (wrap64 ((t460.length : Int) - 1)) then (if (wrap64 ((t460.length : Int) - 1)) < (t460.length : Int) then (dioramalaw08_CalendarMoments.j2 kj28 x8_8 t456 t457 ((rd t460 (wrap64 ((t460.length : Int) - 1))) != x8_8) t440 t441 t442 t443) else (none)) else (none))) else (none)) = some r := by rw [if_neg (show ¬ (false = true) by decide)] at H; exact H
              clear H
              have H := H1
              clear H1
              have HC58 := Aside0.mk H
              clear H
              go_upto_region 17 with (fail)
              repeat (go_quiet (fail); go_upto_region 17 with (fail))
              go_cut [142] (fun v142 wc => ∃ (kq : Nat) (x142_57 : Bool), v142 = .bool x142_57 ∧ Aside0 (dioramalaw08_CalendarMoments.j2 kq x8_8 t456 t457 x142_57 t440 t441 t442 t443 = some r) ∧ Aside0 (kq ≤ kj28) ∧ Aside0 (wc.heap[gb444]? = some (.cells #[.int .i64 t440, .int .i64 t441, .int .i64 t442, .int .i64 t443] 39 (0, 0))) ∧ Aside0 (Below w.heap.size w wc))
              case first =>
                have H := HC58.out
                clear HC58
                by_cases c59 : 0 < (t460.length : Int)
                · rw [if_pos c59] at H
                  have c59b0 : decide (0 < (t460.length : Int)) = true := decide_eq_true c59
                  have c59b1 : decide (0 < t460.length) = true := decide_eq_true (by omega)
                  clear c59
                  (first | rw [c59b0] | (simp only [i64_w, i32_w]; rw [c59b0]) | skip)
                  by_cases c60 : (rd t460 0) = x8_8
                  · rw [if_pos c60] at H
                    have c60b0 : ((rd t460 0) == x8_8) = true := beq_iff_eq.mpr c60
                    have c60b1 : ((rd t460 0) != x8_8) = false := bne_eq_false_iff_eq.mpr c60
                    clear c60
                    have H' := Aside0.mk H
                    clear H
                    obtain ⟨Ao61, co61, eo61⟩ := Kd.R_slice HO_19.out
                    subst eo61
                    have p468 : 0 ≤ (0 : Int) := (by omega)
                    have q468 : 0 < (t460.length : Int) := of_decide_eq_true (by first | (with_reducible assumption) | assumption)
                    obtain ⟨ad468, e468, hx468_0⟩ := Kd.at_int (Kd.R_reads' HO_19.out).2.2 0 p468 q468
                    cases e468
                    have qi468 : (0 < t460.length) = True := eq_true (by omega)
                    (try rw [show ((0 : Int)).toNat = 0 from rfl] at hx468_0)
                    (try rw [Addr.add_zero'] at hx468_0)
                    replace p468 := eq_true p468
                    replace q468 := eq_true q468
                    go_wp2
                    repeat (go_quiet (fail); try go_wp2)
                    go_meet
                    case rel => exact ⟨_, (false), (by first | rfl | (simp; done) | (simp [*]; done)), H', ⟨by have := HJ8.out; have := HJ28.out; first | omega | exact Nat.le_refl _⟩, ⟨by (with_reducible repeat (first | refine blk_drewN ?_ _ | refine blk_drew ?_ | refine blk_alloc ?_ _)); exact BK444.out⟩, ⟨by repeat (first | (with_reducible first | exact HB.out | apply below_alloc | apply pw_below_drewN | apply below_drew1 | refine below_set ?_ GE444.out) | exact HB.out)⟩⟩
                  · rw [if_neg c60] at H
                    have c60b0 : ((rd t460 0) == x8_8) = false := beq_eq_false_iff_ne.mpr c60
                    have c60b1 : ((rd t460 0) != x8_8) = true := bne_iff_ne.mpr c60
                    obtain ⟨ji62, hji62⟩ : ∃ j_ : Int, (wrap64 ((t460.length : Int) - 1)) = j_ := ⟨_, rfl⟩
                    replace H : (if 0 ≤ (ji62) then (if (ji62) < (t460.length : Int) then (dioramalaw08_CalendarMoments.j2 kj28 x8_8 t456 t457 ((rd t460 (ji62)) != x8_8) t440 t441 t442 t443) else (none)) else (none)) = some r := by first | (rw [hji62] at H; exact H) | (simp only [hji62] at H ⊢; exact H)
                    have hji62w : (IntKind.i64.wrap ((t460.length : Int) - 1)) = ji62 := (i64_w _).trans hji62
                    by_cases c63 : 0 ≤ (ji62)
                    · rw [if_pos c63] at H
                      have c63b0 : decide (0 ≤ (ji62)) = true := decide_eq_true c63
                      clear c63
                      by_cases c64 : (ji62) < (t460.length : Int)
                      · rw [if_pos c64] at H
                        have c64b0 : decide ((ji62) < (t460.length : Int)) = true := decide_eq_true c64
                        clear c64
                        have H' := Aside0.mk H
                        clear H
                        obtain ⟨Ao65, co65, eo65⟩ := Kd.R_slice HO_19.out
                        subst eo65
                        have p468 : 0 ≤ (0 : Int) := (by omega)
                        have q468 : 0 < (t460.length : Int) := of_decide_eq_true (by first | (with_reducible assumption) | assumption)
                        obtain ⟨ad468, e468, hx468_0⟩ := Kd.at_int (Kd.R_reads' HO_19.out).2.2 0 p468 q468
                        cases e468
                        have qi468 : (0 < t460.length) = True := eq_true (by omega)
                        (try rw [show ((0 : Int)).toNat = 0 from rfl] at hx468_0)
                        (try rw [Addr.add_zero'] at hx468_0)
                        replace p468 := eq_true p468
                        replace q468 := eq_true q468
                        have p469 : 0 ≤ ((ji62) : Int) := of_decide_eq_true (by first | (with_reducible assumption) | assumption)
                        have q469 : (ji62) < (t460.length : Int) := of_decide_eq_true (by first | (with_reducible assumption) | assumption)
                        obtain ⟨ad469, e469, hx469_0⟩ := Kd.at_int (Kd.R_reads' HO_19.out).2.2 (ji62) p469 q469
                        obtain rfl : ad468 = ad469 := (by injection e469)
                        replace p469 := eq_true p469
                        replace q469 := eq_true q469
                        go_wp2
                        repeat (go_quiet (fail); try go_wp2)
                        go_meet
                        case rel => exact ⟨_, (((rd t460 (ji62)) != x8_8)), (by first | rfl | (simp; done) | (simp only [← hji62] <;> (first | rfl | simp)) | (simp [*]; done)), H', ⟨by have := HJ8.out; have := HJ28.out; first | omega | exact Nat.le_refl _⟩, ⟨by (with_reducible repeat (first | refine blk_drewN ?_ _ | refine blk_drew ?_ | refine blk_alloc ?_ _)); exact BK444.out⟩, ⟨by repeat (first | (with_reducible first | exact HB.out | apply below_alloc | apply pw_below_drewN | apply below_drew1 | refine below_set ?_ GE444.out) | exact HB.out)⟩⟩
                      · rw [if_neg c64] at H
                        exact absurd H (by simp)
                    · rw [if_neg c63] at H
                      exact absurd H (by simp)
                · rw [if_neg c59] at H
                  exact absurd H (by simp)
              case rest =>
                clear HC58
                try clear c1
                try clear c2
                try clear p2
                try clear c3
                try clear c4
                try clear p4
                try clear q4
                try clear hx4
                try clear qi4
                try clear c5
                try clear c6
                try clear p6
                try clear c8
                try clear c15
                try clear c15b0
                try clear c19
                try clear c19b0
                try clear c19b1
                try clear c27
                try clear c27b0
                try clear c27b1
                try clear c34
                try clear c34b0
                try clear c34b1
                try clear c35
                try clear c35b0
                try clear c35b1
                try clear c37
                try clear c37b0
                try clear c37b1
                try clear c39
                try clear c39b0
                try clear c39b1
                try clear c40
                try clear c40b0
                try clear c40b1
                try clear c41
                try clear c41b0
                try clear c41b1
                try clear c42
                try clear c42b0
                try clear c42b1
                try clear c43
                try clear c43b0
                try clear c43b1
                try clear p46
                try clear q46
                try clear hx46
                try clear qi46
                try clear c50
                try clear c50b0
                try clear c50b1
                try clear c51
                try clear c51b0
                try clear c51b1
                try clear c52
                try clear c52b0
                try clear c52b1
                try clear c57
                try clear c59
                try clear c59b0
                try clear c59b1
                try clear c60
                try clear c60b0
                try clear c60b1
                try clear c63
                try clear c63b0
                try clear c64
                try clear c64b0
                try clear p64
                try clear hcz13_0
                try clear hcz13_1
                try clear hcz13_2
                try clear hcz13_3
                try clear hcz22_0
                try clear hcz22_1
                try clear hcz22_2
                try clear hcz22_3
                try clear hcz25_0
                try clear hcz25_1
                try clear hcz25_2
                try clear hcz25_3
                try clear hcz30_0
                try clear hcz30_1
                try clear hcz30_2
                try clear hcz30_3
                try clear hcz32_0
                try clear hcz32_1
                try clear hcz32_2
                try clear hcz32_3
                try clear hcz45_0
                try clear hcz45_1
                try clear hcz45_2
                try clear hcz45_3
                try clear hcz47_0
                try clear hcz47_1
                try clear hcz47_2
                try clear hcz47_3
                try clear hcz49_0
                try clear hcz49_1
                try clear hcz49_2
                try clear hcz49_3
                try clear hcz54_0
                try clear hcz54_1
                try clear hcz54_2
                try clear hcz54_3
                try clear hcz56_0
                try clear hcz56_1
                try clear hcz56_2
                try clear hcz56_3
                try clear hfz13_0
                try clear hfz13_1
                try clear hfz13_2
                try clear hfz13_3
                try clear hfz22_0
                try clear hfz22_1
                try clear hfz22_2
                try clear hfz22_3
                try clear hfz25_0
                try clear hfz25_1
                try clear hfz25_2
                try clear hfz25_3
                try clear hfz30_0
                try clear hfz30_1
                try clear hfz30_2
                try clear hfz30_3
                try clear hfz32_0
                try clear hfz32_1
                try clear hfz32_2
                try clear hfz32_3
                try clear hfz45_0
                try clear hfz45_1
                try clear hfz45_2
                try clear hfz45_3
                try clear hfz47_0
                try clear hfz47_1
                try clear hfz47_2
                try clear hfz47_3
                try clear hfz49_0
                try clear hfz49_1
                try clear hfz49_2
                try clear hfz49_3
                try clear hfz54_0
                try clear hfz54_1
                try clear hfz54_2
                try clear hfz54_3
                try clear hfz56_0
                try clear hfz56_1
                try clear hfz56_2
                try clear hfz56_3
                try clear hx464_0
                try clear hx465_0
                try clear hx466_0
                try clear hx467_0
                try clear hx468_0
                try clear hx469_0
                try clear p2
                try clear p4
                try clear p46
                try clear p464
                try clear p465
                try clear p466
                try clear p467
                try clear p468
                try clear p469
                try clear p6
                try clear q4
                try clear q46
                try clear q464
                try clear q465
                try clear q466
                try clear q467
                try clear q468
                try clear q469
                obtain ⟨kq, x142_57, rfl, HA, HJ57, BK444, HB⟩ := hcut
                cases kq with
                | zero => exact absurd HA.out (by simp [dioramalaw08_CalendarMoments.j2])
                | succ kj57 =>
                  have H := HA.out
                  clear HA
                  simp only [dioramalaw08_CalendarMoments.j2] at H
                  by_cases c66 : x142_57 = true
                  · subst c66
                    have H1 : (some false) = some r := by rw [if_pos rfl] at H; exact H
                    clear H
                    have H := H1
                    clear H1
                    obtain rfl := Option.some.inj H
                    go_wp2
                    repeat (go_quiet (fail); try go_wp2)
                    go_ret
                    exact ⟨by first | rfl | (simp [errW_none, errW_some] <;> rfl) | (simp [*, errW_none, errW_some] <;> rfl), by repeat (first | (with_reducible first | exact HB.out | apply below_alloc | apply pw_below_drewN | apply below_drew1 | refine below_set ?_ GE444.out) | exact HB.out)⟩
                  · replace c66 := Bool.eq_false_iff.mpr c66
                    subst c66
                    have H1 : ((calendar_Local.f kj57 (wrap64 (x8_8 + 1)) t440 t441 t442 t443).bind fun bt470 => (if bt470.2.2 = 0 then (if (wrap64 ((wrap64 ((wrap64 ((wrap64 (1440 * bt470.1)) + bt470.2.1)) - (wrap64 (1440 * t456)))) - t457)) = 1 then ((dioramalaw08_lives.f kj57).bind fun t473 => (some t473)) else (if (wrap64 ((wrap64 ((wrap64 ((wrap64 (1440 * bt470.1)) + bt470.2.1)) - (wrap64 (1440 * t456)))) - t457)) = (wrap64 (1 + t441)) then ((dioramalaw08_lives.f kj57).bind fun t474 => (some t474)) else (if (wrap64 ((wrap64 ((wrap64 ((wrap64 (1440 * bt470.1)) + bt470.2.1)) - (wrap64 (1440 * t456)))) - t457)) = (wrap64 (1 - t441)) then ((dioramalaw08_lives.f kj57).bind fun t475 => (some t475)) else (some false)))) else (if bt470.2.2 = 5 then ((dioramalaw08_lives.f kj57).bind fun t476 => (some t476)) else (some false)))) = some r := by rw [if_neg (show ¬ (false = true) by decide)] at H; exact H
                    clear H
                    have H := H1
                    clear H1
                    replace H := Option.bind_eq_some_iff.mp H
                    obtain ⟨⟨t470, t471, t472⟩, A670, H⟩ := H
                    replace H : (if t472 = 0 then (if (wrap64 ((wrap64 ((wrap64 ((wrap64 (1440 * t470)) + t471)) - (wrap64 (1440 * t456)))) - t457)) = 1 then ((dioramalaw08_lives.f kj57).bind fun t473 => (some t473)) else (if (wrap64 ((wrap64 ((wrap64 ((wrap64 (1440 * t470)) + t471)) - (wrap64 (1440 * t456)))) - t457)) = (wrap64 (1 + t441)) then ((dioramalaw08_lives.f kj57).bind fun t474 => (some t474)) else (if (wrap64 ((wrap64 ((wrap64 ((wrap64 (1440 * t470)) + t471)) - (wrap64 (1440 * t456)))) - t457)) = (wrap64 (1 - t441)) then ((dioramalaw08_lives.f kj57).bind fun t475 => (some t475)) else (some false)))) else (if t472 = 5 then ((dioramalaw08_lives.f kj57).bind fun t476 => (some t476)) else (some false))) = some r := H
                    have A67 := Aside0.mk A670
                    clear A670
                    by_cases c68 : t472 = 0
                    · rw [if_pos c68] at H
                      have c68b0 : (t472 == 0) = true := beq_iff_eq.mpr c68
                      have c68b1 : (t472 != 0) = false := bne_eq_false_iff_eq.mpr c68
                      clear c68
                      by_cases c69 : (wrap64 ((wrap64 ((wrap64 ((wrap64 (1440 * t470)) + t471)) - (wrap64 (1440 * t456)))) - t457)) = 1
                      · rw [if_pos c69] at H
                        have c69b0 : ((wrap64 ((wrap64 ((wrap64 ((wrap64 (1440 * t470)) + t471)) - (wrap64 (1440 * t456)))) - t457)) == 1) = true := beq_iff_eq.mpr c69
                        have c69b1 : ((wrap64 ((wrap64 ((wrap64 ((wrap64 (1440 * t470)) + t471)) - (wrap64 (1440 * t456)))) - t457)) != 1) = false := bne_eq_false_iff_eq.mpr c69
                        clear c69
                        replace H := Option.bind_eq_some_iff.mp H
                        obtain ⟨t473, A700, H⟩ := H
                        replace H : (some t473) = some r := H
                        have A70 := Aside0.mk A700
                        clear A700
                        obtain rfl := Option.some.inj H
                        have hcz71_0 : wc.cell? ⟨gb444, 0, none⟩ = some (.int .i64 t440) := (blk_cell BK444.out 0).trans rfl
                        have hcz71_1 : wc.cell? ⟨gb444, 1, none⟩ = some (.int .i64 t441) := (blk_cell BK444.out 1).trans rfl
                        have hcz71_2 : wc.cell? ⟨gb444, 2, none⟩ = some (.int .i64 t442) := (blk_cell BK444.out 2).trans rfl
                        have hcz71_3 : wc.cell? ⟨gb444, 3, none⟩ = some (.int .i64 t443) := (blk_cell BK444.out 3).trans rfl
                        have hfz71_0 := blk_frozen BK444.out 0
                        have hfz71_1 := blk_frozen BK444.out 1
                        have hfz71_2 := blk_frozen BK444.out 2
                        have hfz71_3 := blk_frozen BK444.out 3
                        go_wp2_with (first | (go_at_call 26; (with_reducible refine (calendar_Local.calls kj57 (wrap64 (x8_8 + 1)) t440 t441 t442 t443 t470 t471 t472 _ A67.out).mono ?_); rintro e w72 ⟨rfl, hb⟩; have n0_ := Aside0.mk (blk_below (g := gb444) (o := .cells #[.int .i64 t440, .int .i64 t441, .int .i64 t442, .int .i64 t443] 39 (0, 0)) (by (with_reducible repeat (first | refine blk_drewN ?_ _ | refine blk_drew ?_ | refine blk_alloc ?_ _)); exact BK444.out) hb); have n1_ := Aside0.mk (below_step (by repeat (first | (with_reducible first | exact HB.out | apply below_alloc | apply pw_below_drewN | apply below_drew1 | refine below_set ?_ GE444.out) | exact HB.out)) hb); clear BK444; clear HB; have BK444 := n0_; have HB := n1_; clear n0_ n1_; (try clear hb); (try clear hb2); (try clear hk); (try clear hi)) | (go_at_call 20; (with_reducible refine (dioramalaw08_lives.calls (hv := hv.step (by repeat (first | (with_reducible first | exact HB.out | apply below_alloc | apply pw_below_drewN | apply below_drew1) | exact HB.out))) kj57  t473 _ A70.out).mono ?_); rintro e w73 ⟨rfl, hb⟩; have n0_ := Aside0.mk (blk_below (g := gb444) (o := .cells #[.int .i64 t440, .int .i64 t441, .int .i64 t442, .int .i64 t443] 39 (0, 0)) (by (with_reducible repeat (first | refine blk_drewN ?_ _ | refine blk_drew ?_ | refine blk_alloc ?_ _)); exact BK444.out) hb); have n1_ := Aside0.mk (below_step (by repeat (first | (with_reducible first | exact HB.out | apply below_alloc | apply pw_below_drewN | apply below_drew1 | refine below_set ?_ GE444.out) | exact HB.out)) hb); clear BK444; clear HB; have BK444 := n0_; have HB := n1_; clear n0_ n1_; (try clear hb); (try clear hb2); (try clear hk); (try clear hi)))
                        repeat (go_quiet (first | (go_at_call 26; (with_reducible refine (calendar_Local.calls kj57 (wrap64 (x8_8 + 1)) t440 t441 t442 t443 t470 t471 t472 _ A67.out).mono ?_); rintro e w72 ⟨rfl, hb⟩; have n0_ := Aside0.mk (blk_below (g := gb444) (o := .cells #[.int .i64 t440, .int .i64 t441, .int .i64 t442, .int .i64 t443] 39 (0, 0)) (by (with_reducible repeat (first | refine blk_drewN ?_ _ | refine blk_drew ?_ | refine blk_alloc ?_ _)); exact BK444.out) hb); have n1_ := Aside0.mk (below_step (by repeat (first | (with_reducible first | exact HB.out | apply below_alloc | apply pw_below_drewN | apply below_drew1 | refine below_set ?_ GE444.out) | exact HB.out)) hb); clear BK444; clear HB; have BK444 := n0_; have HB := n1_; clear n0_ n1_; (try clear hb); (try clear hb2); (try clear hk); (try clear hi)) | (go_at_call 20; (with_reducible refine (dioramalaw08_lives.calls (hv := hv.step (by repeat (first | (with_reducible first | exact HB.out | apply below_alloc | apply pw_below_drewN | apply below_drew1) | exact HB.out))) kj57  t473 _ A70.out).mono ?_); rintro e w73 ⟨rfl, hb⟩; have n0_ := Aside0.mk (blk_below (g := gb444) (o := .cells #[.int .i64 t440, .int .i64 t441, .int .i64 t442, .int .i64 t443] 39 (0, 0)) (by (with_reducible repeat (first | refine blk_drewN ?_ _ | refine blk_drew ?_ | refine blk_alloc ?_ _)); exact BK444.out) hb); have n1_ := Aside0.mk (below_step (by repeat (first | (with_reducible first | exact HB.out | apply below_alloc | apply pw_below_drewN | apply below_drew1 | refine below_set ?_ GE444.out) | exact HB.out)) hb); clear BK444; clear HB; have BK444 := n0_; have HB := n1_; clear n0_ n1_; (try clear hb); (try clear hb2); (try clear hk); (try clear hi))); try go_wp2_with (first | (go_at_call 26; (with_reducible refine (calendar_Local.calls kj57 (wrap64 (x8_8 + 1)) t440 t441 t442 t443 t470 t471 t472 _ A67.out).mono ?_); rintro e w72 ⟨rfl, hb⟩; have n0_ := Aside0.mk (blk_below (g := gb444) (o := .cells #[.int .i64 t440, .int .i64 t441, .int .i64 t442, .int .i64 t443] 39 (0, 0)) (by (with_reducible repeat (first | refine blk_drewN ?_ _ | refine blk_drew ?_ | refine blk_alloc ?_ _)); exact BK444.out) hb); have n1_ := Aside0.mk (below_step (by repeat (first | (with_reducible first | exact HB.out | apply below_alloc | apply pw_below_drewN | apply below_drew1 | refine below_set ?_ GE444.out) | exact HB.out)) hb); clear BK444; clear HB; have BK444 := n0_; have HB := n1_; clear n0_ n1_; (try clear hb); (try clear hb2); (try clear hk); (try clear hi)) | (go_at_call 20; (with_reducible refine (dioramalaw08_lives.calls (hv := hv.step (by repeat (first | (with_reducible first | exact HB.out | apply below_alloc | apply pw_below_drewN | apply below_drew1) | exact HB.out))) kj57  t473 _ A70.out).mono ?_); rintro e w73 ⟨rfl, hb⟩; have n0_ := Aside0.mk (blk_below (g := gb444) (o := .cells #[.int .i64 t440, .int .i64 t441, .int .i64 t442, .int .i64 t443] 39 (0, 0)) (by (with_reducible repeat (first | refine blk_drewN ?_ _ | refine blk_drew ?_ | refine blk_alloc ?_ _)); exact BK444.out) hb); have n1_ := Aside0.mk (below_step (by repeat (first | (with_reducible first | exact HB.out | apply below_alloc | apply pw_below_drewN | apply below_drew1 | refine below_set ?_ GE444.out) | exact HB.out)) hb); clear BK444; clear HB; have BK444 := n0_; have HB := n1_; clear n0_ n1_; (try clear hb); (try clear hb2); (try clear hk); (try clear hi))))
                        go_ret
                        exact ⟨by first | rfl | (simp [errW_none, errW_some] <;> rfl) | (simp [*, errW_none, errW_some] <;> rfl), by repeat (first | (with_reducible first | exact HB.out | apply below_alloc | apply pw_below_drewN | apply below_drew1 | refine below_set ?_ GE444.out) | exact HB.out)⟩
                      · rw [if_neg c69] at H
                        have c69b0 : ((wrap64 ((wrap64 ((wrap64 ((wrap64 (1440 * t470)) + t471)) - (wrap64 (1440 * t456)))) - t457)) == 1) = false := beq_eq_false_iff_ne.mpr c69
                        have c69b1 : ((wrap64 ((wrap64 ((wrap64 ((wrap64 (1440 * t470)) + t471)) - (wrap64 (1440 * t456)))) - t457)) != 1) = true := bne_iff_ne.mpr c69
                        by_cases c74 : (wrap64 ((wrap64 ((wrap64 ((wrap64 (1440 * t470)) + t471)) - (wrap64 (1440 * t456)))) - t457)) = (wrap64 (1 + t441))
                        · rw [if_pos c74] at H
                          have c74b0 : ((wrap64 ((wrap64 ((wrap64 ((wrap64 (1440 * t470)) + t471)) - (wrap64 (1440 * t456)))) - t457)) == (wrap64 (1 + t441))) = true := beq_iff_eq.mpr c74
                          have c74b1 : ((wrap64 ((wrap64 ((wrap64 ((wrap64 (1440 * t470)) + t471)) - (wrap64 (1440 * t456)))) - t457)) != (wrap64 (1 + t441))) = false := bne_eq_false_iff_eq.mpr c74
                          clear c74
                          replace H := Option.bind_eq_some_iff.mp H
                          obtain ⟨t474, A750, H⟩ := H
                          replace H : (some t474) = some r := H
                          have A75 := Aside0.mk A750
                          clear A750
                          obtain rfl := Option.some.inj H
                          have hcz76_0 : wc.cell? ⟨gb444, 0, none⟩ = some (.int .i64 t440) := (blk_cell BK444.out 0).trans rfl
                          have hcz76_1 : wc.cell? ⟨gb444, 1, none⟩ = some (.int .i64 t441) := (blk_cell BK444.out 1).trans rfl
                          have hcz76_2 : wc.cell? ⟨gb444, 2, none⟩ = some (.int .i64 t442) := (blk_cell BK444.out 2).trans rfl
                          have hcz76_3 : wc.cell? ⟨gb444, 3, none⟩ = some (.int .i64 t443) := (blk_cell BK444.out 3).trans rfl
                          have hfz76_0 := blk_frozen BK444.out 0
                          have hfz76_1 := blk_frozen BK444.out 1
                          have hfz76_2 := blk_frozen BK444.out 2
                          have hfz76_3 := blk_frozen BK444.out 3
                          go_wp2_with (first | (go_at_call 26; (with_reducible refine (calendar_Local.calls kj57 (wrap64 (x8_8 + 1)) t440 t441 t442 t443 t470 t471 t472 _ A67.out).mono ?_); rintro e w77 ⟨rfl, hb⟩; have n0_ := Aside0.mk (blk_below (g := gb444) (o := .cells #[.int .i64 t440, .int .i64 t441, .int .i64 t442, .int .i64 t443] 39 (0, 0)) (by (with_reducible repeat (first | refine blk_drewN ?_ _ | refine blk_drew ?_ | refine blk_alloc ?_ _)); exact BK444.out) hb); have n1_ := Aside0.mk (below_step (by repeat (first | (with_reducible first | exact HB.out | apply below_alloc | apply pw_below_drewN | apply below_drew1 | refine below_set ?_ GE444.out) | exact HB.out)) hb); clear BK444; clear HB; have BK444 := n0_; have HB := n1_; clear n0_ n1_; (try clear hb); (try clear hb2); (try clear hk); (try clear hi); have hcz78_0 : w77.cell? ⟨gb444, 0, none⟩ = some (.int .i64 t440) := (blk_cell BK444.out 0).trans rfl; have hcz78_1 : w77.cell? ⟨gb444, 1, none⟩ = some (.int .i64 t441) := (blk_cell BK444.out 1).trans rfl; have hcz78_2 : w77.cell? ⟨gb444, 2, none⟩ = some (.int .i64 t442) := (blk_cell BK444.out 2).trans rfl; have hcz78_3 : w77.cell? ⟨gb444, 3, none⟩ = some (.int .i64 t443) := (blk_cell BK444.out 3).trans rfl; have hfz78_0 := blk_frozen BK444.out 0; have hfz78_1 := blk_frozen BK444.out 1; have hfz78_2 := blk_frozen BK444.out 2; have hfz78_3 := blk_frozen BK444.out 3) | (go_at_call 20; (with_reducible refine (dioramalaw08_lives.calls (hv := hv.step (by repeat (first | (with_reducible first | exact HB.out | apply below_alloc | apply pw_below_drewN | apply below_drew1) | exact HB.out))) kj57  t474 _ A75.out).mono ?_); rintro e w79 ⟨rfl, hb⟩; have n0_ := Aside0.mk (blk_below (g := gb444) (o := .cells #[.int .i64 t440, .int .i64 t441, .int .i64 t442, .int .i64 t443] 39 (0, 0)) (by (with_reducible repeat (first | refine blk_drewN ?_ _ | refine blk_drew ?_ | refine blk_alloc ?_ _)); exact BK444.out) hb); have n1_ := Aside0.mk (below_step (by repeat (first | (with_reducible first | exact HB.out | apply below_alloc | apply pw_below_drewN | apply below_drew1 | refine below_set ?_ GE444.out) | exact HB.out)) hb); clear BK444; clear HB; have BK444 := n0_; have HB := n1_; clear n0_ n1_; (try clear hb); (try clear hb2); (try clear hk); (try clear hi)))
                          repeat (go_quiet (first | (go_at_call 26; (with_reducible refine (calendar_Local.calls kj57 (wrap64 (x8_8 + 1)) t440 t441 t442 t443 t470 t471 t472 _ A67.out).mono ?_); rintro e w77 ⟨rfl, hb⟩; have n0_ := Aside0.mk (blk_below (g := gb444) (o := .cells #[.int .i64 t440, .int .i64 t441, .int .i64 t442, .int .i64 t443] 39 (0, 0)) (by (with_reducible repeat (first | refine blk_drewN ?_ _ | refine blk_drew ?_ | refine blk_alloc ?_ _)); exact BK444.out) hb); have n1_ := Aside0.mk (below_step (by repeat (first | (with_reducible first | exact HB.out | apply below_alloc | apply pw_below_drewN | apply below_drew1 | refine below_set ?_ GE444.out) | exact HB.out)) hb); clear BK444; clear HB; have BK444 := n0_; have HB := n1_; clear n0_ n1_; (try clear hb); (try clear hb2); (try clear hk); (try clear hi); have hcz78_0 : w77.cell? ⟨gb444, 0, none⟩ = some (.int .i64 t440) := (blk_cell BK444.out 0).trans rfl; have hcz78_1 : w77.cell? ⟨gb444, 1, none⟩ = some (.int .i64 t441) := (blk_cell BK444.out 1).trans rfl; have hcz78_2 : w77.cell? ⟨gb444, 2, none⟩ = some (.int .i64 t442) := (blk_cell BK444.out 2).trans rfl; have hcz78_3 : w77.cell? ⟨gb444, 3, none⟩ = some (.int .i64 t443) := (blk_cell BK444.out 3).trans rfl; have hfz78_0 := blk_frozen BK444.out 0; have hfz78_1 := blk_frozen BK444.out 1; have hfz78_2 := blk_frozen BK444.out 2; have hfz78_3 := blk_frozen BK444.out 3) | (go_at_call 20; (with_reducible refine (dioramalaw08_lives.calls (hv := hv.step (by repeat (first | (with_reducible first | exact HB.out | apply below_alloc | apply pw_below_drewN | apply below_drew1) | exact HB.out))) kj57  t474 _ A75.out).mono ?_); rintro e w79 ⟨rfl, hb⟩; have n0_ := Aside0.mk (blk_below (g := gb444) (o := .cells #[.int .i64 t440, .int .i64 t441, .int .i64 t442, .int .i64 t443] 39 (0, 0)) (by (with_reducible repeat (first | refine blk_drewN ?_ _ | refine blk_drew ?_ | refine blk_alloc ?_ _)); exact BK444.out) hb); have n1_ := Aside0.mk (below_step (by repeat (first | (with_reducible first | exact HB.out | apply below_alloc | apply pw_below_drewN | apply below_drew1 | refine below_set ?_ GE444.out) | exact HB.out)) hb); clear BK444; clear HB; have BK444 := n0_; have HB := n1_; clear n0_ n1_; (try clear hb); (try clear hb2); (try clear hk); (try clear hi))); try go_wp2_with (first | (go_at_call 26; (with_reducible refine (calendar_Local.calls kj57 (wrap64 (x8_8 + 1)) t440 t441 t442 t443 t470 t471 t472 _ A67.out).mono ?_); rintro e w77 ⟨rfl, hb⟩; have n0_ := Aside0.mk (blk_below (g := gb444) (o := .cells #[.int .i64 t440, .int .i64 t441, .int .i64 t442, .int .i64 t443] 39 (0, 0)) (by (with_reducible repeat (first | refine blk_drewN ?_ _ | refine blk_drew ?_ | refine blk_alloc ?_ _)); exact BK444.out) hb); have n1_ := Aside0.mk (below_step (by repeat (first | (with_reducible first | exact HB.out | apply below_alloc | apply pw_below_drewN | apply below_drew1 | refine below_set ?_ GE444.out) | exact HB.out)) hb); clear BK444; clear HB; have BK444 := n0_; have HB := n1_; clear n0_ n1_; (try clear hb); (try clear hb2); (try clear hk); (try clear hi); have hcz78_0 : w77.cell? ⟨gb444, 0, none⟩ = some (.int .i64 t440) := (blk_cell BK444.out 0).trans rfl; have hcz78_1 : w77.cell? ⟨gb444, 1, none⟩ = some (.int .i64 t441) := (blk_cell BK444.out 1).trans rfl; have hcz78_2 : w77.cell? ⟨gb444, 2, none⟩ = some (.int .i64 t442) := (blk_cell BK444.out 2).trans rfl; have hcz78_3 : w77.cell? ⟨gb444, 3, none⟩ = some (.int .i64 t443) := (blk_cell BK444.out 3).trans rfl; have hfz78_0 := blk_frozen BK444.out 0; have hfz78_1 := blk_frozen BK444.out 1; have hfz78_2 := blk_frozen BK444.out 2; have hfz78_3 := blk_frozen BK444.out 3) | (go_at_call 20; (with_reducible refine (dioramalaw08_lives.calls (hv := hv.step (by repeat (first | (with_reducible first | exact HB.out | apply below_alloc | apply pw_below_drewN | apply below_drew1) | exact HB.out))) kj57  t474 _ A75.out).mono ?_); rintro e w79 ⟨rfl, hb⟩; have n0_ := Aside0.mk (blk_below (g := gb444) (o := .cells #[.int .i64 t440, .int .i64 t441, .int .i64 t442, .int .i64 t443] 39 (0, 0)) (by (with_reducible repeat (first | refine blk_drewN ?_ _ | refine blk_drew ?_ | refine blk_alloc ?_ _)); exact BK444.out) hb); have n1_ := Aside0.mk (below_step (by repeat (first | (with_reducible first | exact HB.out | apply below_alloc | apply pw_below_drewN | apply below_drew1 | refine below_set ?_ GE444.out) | exact HB.out)) hb); clear BK444; clear HB; have BK444 := n0_; have HB := n1_; clear n0_ n1_; (try clear hb); (try clear hb2); (try clear hk); (try clear hi))))
                          go_ret
                          exact ⟨by first | rfl | (simp [errW_none, errW_some] <;> rfl) | (simp [*, errW_none, errW_some] <;> rfl), by repeat (first | (with_reducible first | exact HB.out | apply below_alloc | apply pw_below_drewN | apply below_drew1 | refine below_set ?_ GE444.out) | exact HB.out)⟩
                        · rw [if_neg c74] at H
                          have c74b0 : ((wrap64 ((wrap64 ((wrap64 ((wrap64 (1440 * t470)) + t471)) - (wrap64 (1440 * t456)))) - t457)) == (wrap64 (1 + t441))) = false := beq_eq_false_iff_ne.mpr c74
                          have c74b1 : ((wrap64 ((wrap64 ((wrap64 ((wrap64 (1440 * t470)) + t471)) - (wrap64 (1440 * t456)))) - t457)) != (wrap64 (1 + t441))) = true := bne_iff_ne.mpr c74
                          by_cases c80 : (wrap64 ((wrap64 ((wrap64 ((wrap64 (1440 * t470)) + t471)) - (wrap64 (1440 * t456)))) - t457)) = (wrap64 (1 - t441))
                          · rw [if_pos c80] at H
                            have c80b0 : ((wrap64 ((wrap64 ((wrap64 ((wrap64 (1440 * t470)) + t471)) - (wrap64 (1440 * t456)))) - t457)) == (wrap64 (1 - t441))) = true := beq_iff_eq.mpr c80
                            have c80b1 : ((wrap64 ((wrap64 ((wrap64 ((wrap64 (1440 * t470)) + t471)) - (wrap64 (1440 * t456)))) - t457)) != (wrap64 (1 - t441))) = false := bne_eq_false_iff_eq.mpr c80
                            clear c80
                            replace H := Option.bind_eq_some_iff.mp H
                            obtain ⟨t475, A810, H⟩ := H
                            replace H : (some t475) = some r := H
                            have A81 := Aside0.mk A810
                            clear A810
                            obtain rfl := Option.some.inj H
                            have hcz82_0 : wc.cell? ⟨gb444, 0, none⟩ = some (.int .i64 t440) := (blk_cell BK444.out 0).trans rfl
                            have hcz82_1 : wc.cell? ⟨gb444, 1, none⟩ = some (.int .i64 t441) := (blk_cell BK444.out 1).trans rfl
                            have hcz82_2 : wc.cell? ⟨gb444, 2, none⟩ = some (.int .i64 t442) := (blk_cell BK444.out 2).trans rfl
                            have hcz82_3 : wc.cell? ⟨gb444, 3, none⟩ = some (.int .i64 t443) := (blk_cell BK444.out 3).trans rfl
                            have hfz82_0 := blk_frozen BK444.out 0
                            have hfz82_1 := blk_frozen BK444.out 1
                            have hfz82_2 := blk_frozen BK444.out 2
                            have hfz82_3 := blk_frozen BK444.out 3
                            go_wp2_with (first | (go_at_call 26; (with_reducible refine (calendar_Local.calls kj57 (wrap64 (x8_8 + 1)) t440 t441 t442 t443 t470 t471 t472 _ A67.out).mono ?_); rintro e w83 ⟨rfl, hb⟩; have n0_ := Aside0.mk (blk_below (g := gb444) (o := .cells #[.int .i64 t440, .int .i64 t441, .int .i64 t442, .int .i64 t443] 39 (0, 0)) (by (with_reducible repeat (first | refine blk_drewN ?_ _ | refine blk_drew ?_ | refine blk_alloc ?_ _)); exact BK444.out) hb); have n1_ := Aside0.mk (below_step (by repeat (first | (with_reducible first | exact HB.out | apply below_alloc | apply pw_below_drewN | apply below_drew1 | refine below_set ?_ GE444.out) | exact HB.out)) hb); clear BK444; clear HB; have BK444 := n0_; have HB := n1_; clear n0_ n1_; (try clear hb); (try clear hb2); (try clear hk); (try clear hi); have hcz84_0 : w83.cell? ⟨gb444, 0, none⟩ = some (.int .i64 t440) := (blk_cell BK444.out 0).trans rfl; have hcz84_1 : w83.cell? ⟨gb444, 1, none⟩ = some (.int .i64 t441) := (blk_cell BK444.out 1).trans rfl; have hcz84_2 : w83.cell? ⟨gb444, 2, none⟩ = some (.int .i64 t442) := (blk_cell BK444.out 2).trans rfl; have hcz84_3 : w83.cell? ⟨gb444, 3, none⟩ = some (.int .i64 t443) := (blk_cell BK444.out 3).trans rfl; have hfz84_0 := blk_frozen BK444.out 0; have hfz84_1 := blk_frozen BK444.out 1; have hfz84_2 := blk_frozen BK444.out 2; have hfz84_3 := blk_frozen BK444.out 3) | (go_at_call 20; (with_reducible refine (dioramalaw08_lives.calls (hv := hv.step (by repeat (first | (with_reducible first | exact HB.out | apply below_alloc | apply pw_below_drewN | apply below_drew1) | exact HB.out))) kj57  t475 _ A81.out).mono ?_); rintro e w85 ⟨rfl, hb⟩; have n0_ := Aside0.mk (blk_below (g := gb444) (o := .cells #[.int .i64 t440, .int .i64 t441, .int .i64 t442, .int .i64 t443] 39 (0, 0)) (by (with_reducible repeat (first | refine blk_drewN ?_ _ | refine blk_drew ?_ | refine blk_alloc ?_ _)); exact BK444.out) hb); have n1_ := Aside0.mk (below_step (by repeat (first | (with_reducible first | exact HB.out | apply below_alloc | apply pw_below_drewN | apply below_drew1 | refine below_set ?_ GE444.out) | exact HB.out)) hb); clear BK444; clear HB; have BK444 := n0_; have HB := n1_; clear n0_ n1_; (try clear hb); (try clear hb2); (try clear hk); (try clear hi)))
                            repeat (go_quiet (first | (go_at_call 26; (with_reducible refine (calendar_Local.calls kj57 (wrap64 (x8_8 + 1)) t440 t441 t442 t443 t470 t471 t472 _ A67.out).mono ?_); rintro e w83 ⟨rfl, hb⟩; have n0_ := Aside0.mk (blk_below (g := gb444) (o := .cells #[.int .i64 t440, .int .i64 t441, .int .i64 t442, .int .i64 t443] 39 (0, 0)) (by (with_reducible repeat (first | refine blk_drewN ?_ _ | refine blk_drew ?_ | refine blk_alloc ?_ _)); exact BK444.out) hb); have n1_ := Aside0.mk (below_step (by repeat (first | (with_reducible first | exact HB.out | apply below_alloc | apply pw_below_drewN | apply below_drew1 | refine below_set ?_ GE444.out) | exact HB.out)) hb); clear BK444; clear HB; have BK444 := n0_; have HB := n1_; clear n0_ n1_; (try clear hb); (try clear hb2); (try clear hk); (try clear hi); have hcz84_0 : w83.cell? ⟨gb444, 0, none⟩ = some (.int .i64 t440) := (blk_cell BK444.out 0).trans rfl; have hcz84_1 : w83.cell? ⟨gb444, 1, none⟩ = some (.int .i64 t441) := (blk_cell BK444.out 1).trans rfl; have hcz84_2 : w83.cell? ⟨gb444, 2, none⟩ = some (.int .i64 t442) := (blk_cell BK444.out 2).trans rfl; have hcz84_3 : w83.cell? ⟨gb444, 3, none⟩ = some (.int .i64 t443) := (blk_cell BK444.out 3).trans rfl; have hfz84_0 := blk_frozen BK444.out 0; have hfz84_1 := blk_frozen BK444.out 1; have hfz84_2 := blk_frozen BK444.out 2; have hfz84_3 := blk_frozen BK444.out 3) | (go_at_call 20; (with_reducible refine (dioramalaw08_lives.calls (hv := hv.step (by repeat (first | (with_reducible first | exact HB.out | apply below_alloc | apply pw_below_drewN | apply below_drew1) | exact HB.out))) kj57  t475 _ A81.out).mono ?_); rintro e w85 ⟨rfl, hb⟩; have n0_ := Aside0.mk (blk_below (g := gb444) (o := .cells #[.int .i64 t440, .int .i64 t441, .int .i64 t442, .int .i64 t443] 39 (0, 0)) (by (with_reducible repeat (first | refine blk_drewN ?_ _ | refine blk_drew ?_ | refine blk_alloc ?_ _)); exact BK444.out) hb); have n1_ := Aside0.mk (below_step (by repeat (first | (with_reducible first | exact HB.out | apply below_alloc | apply pw_below_drewN | apply below_drew1 | refine below_set ?_ GE444.out) | exact HB.out)) hb); clear BK444; clear HB; have BK444 := n0_; have HB := n1_; clear n0_ n1_; (try clear hb); (try clear hb2); (try clear hk); (try clear hi))); try go_wp2_with (first | (go_at_call 26; (with_reducible refine (calendar_Local.calls kj57 (wrap64 (x8_8 + 1)) t440 t441 t442 t443 t470 t471 t472 _ A67.out).mono ?_); rintro e w83 ⟨rfl, hb⟩; have n0_ := Aside0.mk (blk_below (g := gb444) (o := .cells #[.int .i64 t440, .int .i64 t441, .int .i64 t442, .int .i64 t443] 39 (0, 0)) (by (with_reducible repeat (first | refine blk_drewN ?_ _ | refine blk_drew ?_ | refine blk_alloc ?_ _)); exact BK444.out) hb); have n1_ := Aside0.mk (below_step (by repeat (first | (with_reducible first | exact HB.out | apply below_alloc | apply pw_below_drewN | apply below_drew1 | refine below_set ?_ GE444.out) | exact HB.out)) hb); clear BK444; clear HB; have BK444 := n0_; have HB := n1_; clear n0_ n1_; (try clear hb); (try clear hb2); (try clear hk); (try clear hi); have hcz84_0 : w83.cell? ⟨gb444, 0, none⟩ = some (.int .i64 t440) := (blk_cell BK444.out 0).trans rfl; have hcz84_1 : w83.cell? ⟨gb444, 1, none⟩ = some (.int .i64 t441) := (blk_cell BK444.out 1).trans rfl; have hcz84_2 : w83.cell? ⟨gb444, 2, none⟩ = some (.int .i64 t442) := (blk_cell BK444.out 2).trans rfl; have hcz84_3 : w83.cell? ⟨gb444, 3, none⟩ = some (.int .i64 t443) := (blk_cell BK444.out 3).trans rfl; have hfz84_0 := blk_frozen BK444.out 0; have hfz84_1 := blk_frozen BK444.out 1; have hfz84_2 := blk_frozen BK444.out 2; have hfz84_3 := blk_frozen BK444.out 3) | (go_at_call 20; (with_reducible refine (dioramalaw08_lives.calls (hv := hv.step (by repeat (first | (with_reducible first | exact HB.out | apply below_alloc | apply pw_below_drewN | apply below_drew1) | exact HB.out))) kj57  t475 _ A81.out).mono ?_); rintro e w85 ⟨rfl, hb⟩; have n0_ := Aside0.mk (blk_below (g := gb444) (o := .cells #[.int .i64 t440, .int .i64 t441, .int .i64 t442, .int .i64 t443] 39 (0, 0)) (by (with_reducible repeat (first | refine blk_drewN ?_ _ | refine blk_drew ?_ | refine blk_alloc ?_ _)); exact BK444.out) hb); have n1_ := Aside0.mk (below_step (by repeat (first | (with_reducible first | exact HB.out | apply below_alloc | apply pw_below_drewN | apply below_drew1 | refine below_set ?_ GE444.out) | exact HB.out)) hb); clear BK444; clear HB; have BK444 := n0_; have HB := n1_; clear n0_ n1_; (try clear hb); (try clear hb2); (try clear hk); (try clear hi))))
                            go_ret
                            exact ⟨by first | rfl | (simp [errW_none, errW_some] <;> rfl) | (simp [*, errW_none, errW_some] <;> rfl), by repeat (first | (with_reducible first | exact HB.out | apply below_alloc | apply pw_below_drewN | apply below_drew1 | refine below_set ?_ GE444.out) | exact HB.out)⟩
                          · rw [if_neg c80] at H
                            have c80b0 : ((wrap64 ((wrap64 ((wrap64 ((wrap64 (1440 * t470)) + t471)) - (wrap64 (1440 * t456)))) - t457)) == (wrap64 (1 - t441))) = false := beq_eq_false_iff_ne.mpr c80
                            have c80b1 : ((wrap64 ((wrap64 ((wrap64 ((wrap64 (1440 * t470)) + t471)) - (wrap64 (1440 * t456)))) - t457)) != (wrap64 (1 - t441))) = true := bne_iff_ne.mpr c80
                            obtain rfl := Option.some.inj H
                            have hcz86_0 : wc.cell? ⟨gb444, 0, none⟩ = some (.int .i64 t440) := (blk_cell BK444.out 0).trans rfl
                            have hcz86_1 : wc.cell? ⟨gb444, 1, none⟩ = some (.int .i64 t441) := (blk_cell BK444.out 1).trans rfl
                            have hcz86_2 : wc.cell? ⟨gb444, 2, none⟩ = some (.int .i64 t442) := (blk_cell BK444.out 2).trans rfl
                            have hcz86_3 : wc.cell? ⟨gb444, 3, none⟩ = some (.int .i64 t443) := (blk_cell BK444.out 3).trans rfl
                            have hfz86_0 := blk_frozen BK444.out 0
                            have hfz86_1 := blk_frozen BK444.out 1
                            have hfz86_2 := blk_frozen BK444.out 2
                            have hfz86_3 := blk_frozen BK444.out 3
                            go_wp2_with (first | (go_at_call 26; (with_reducible refine (calendar_Local.calls kj57 (wrap64 (x8_8 + 1)) t440 t441 t442 t443 t470 t471 t472 _ A67.out).mono ?_); rintro e w87 ⟨rfl, hb⟩; have n0_ := Aside0.mk (blk_below (g := gb444) (o := .cells #[.int .i64 t440, .int .i64 t441, .int .i64 t442, .int .i64 t443] 39 (0, 0)) (by (with_reducible repeat (first | refine blk_drewN ?_ _ | refine blk_drew ?_ | refine blk_alloc ?_ _)); exact BK444.out) hb); have n1_ := Aside0.mk (below_step (by repeat (first | (with_reducible first | exact HB.out | apply below_alloc | apply pw_below_drewN | apply below_drew1 | refine below_set ?_ GE444.out) | exact HB.out)) hb); clear BK444; clear HB; have BK444 := n0_; have HB := n1_; clear n0_ n1_; (try clear hb); (try clear hb2); (try clear hk); (try clear hi); have hcz88_0 : w87.cell? ⟨gb444, 0, none⟩ = some (.int .i64 t440) := (blk_cell BK444.out 0).trans rfl; have hcz88_1 : w87.cell? ⟨gb444, 1, none⟩ = some (.int .i64 t441) := (blk_cell BK444.out 1).trans rfl; have hcz88_2 : w87.cell? ⟨gb444, 2, none⟩ = some (.int .i64 t442) := (blk_cell BK444.out 2).trans rfl; have hcz88_3 : w87.cell? ⟨gb444, 3, none⟩ = some (.int .i64 t443) := (blk_cell BK444.out 3).trans rfl; have hfz88_0 := blk_frozen BK444.out 0; have hfz88_1 := blk_frozen BK444.out 1; have hfz88_2 := blk_frozen BK444.out 2; have hfz88_3 := blk_frozen BK444.out 3))
                            repeat (go_quiet (first | (go_at_call 26; (with_reducible refine (calendar_Local.calls kj57 (wrap64 (x8_8 + 1)) t440 t441 t442 t443 t470 t471 t472 _ A67.out).mono ?_); rintro e w87 ⟨rfl, hb⟩; have n0_ := Aside0.mk (blk_below (g := gb444) (o := .cells #[.int .i64 t440, .int .i64 t441, .int .i64 t442, .int .i64 t443] 39 (0, 0)) (by (with_reducible repeat (first | refine blk_drewN ?_ _ | refine blk_drew ?_ | refine blk_alloc ?_ _)); exact BK444.out) hb); have n1_ := Aside0.mk (below_step (by repeat (first | (with_reducible first | exact HB.out | apply below_alloc | apply pw_below_drewN | apply below_drew1 | refine below_set ?_ GE444.out) | exact HB.out)) hb); clear BK444; clear HB; have BK444 := n0_; have HB := n1_; clear n0_ n1_; (try clear hb); (try clear hb2); (try clear hk); (try clear hi); have hcz88_0 : w87.cell? ⟨gb444, 0, none⟩ = some (.int .i64 t440) := (blk_cell BK444.out 0).trans rfl; have hcz88_1 : w87.cell? ⟨gb444, 1, none⟩ = some (.int .i64 t441) := (blk_cell BK444.out 1).trans rfl; have hcz88_2 : w87.cell? ⟨gb444, 2, none⟩ = some (.int .i64 t442) := (blk_cell BK444.out 2).trans rfl; have hcz88_3 : w87.cell? ⟨gb444, 3, none⟩ = some (.int .i64 t443) := (blk_cell BK444.out 3).trans rfl; have hfz88_0 := blk_frozen BK444.out 0; have hfz88_1 := blk_frozen BK444.out 1; have hfz88_2 := blk_frozen BK444.out 2; have hfz88_3 := blk_frozen BK444.out 3)); try go_wp2_with (first | (go_at_call 26; (with_reducible refine (calendar_Local.calls kj57 (wrap64 (x8_8 + 1)) t440 t441 t442 t443 t470 t471 t472 _ A67.out).mono ?_); rintro e w87 ⟨rfl, hb⟩; have n0_ := Aside0.mk (blk_below (g := gb444) (o := .cells #[.int .i64 t440, .int .i64 t441, .int .i64 t442, .int .i64 t443] 39 (0, 0)) (by (with_reducible repeat (first | refine blk_drewN ?_ _ | refine blk_drew ?_ | refine blk_alloc ?_ _)); exact BK444.out) hb); have n1_ := Aside0.mk (below_step (by repeat (first | (with_reducible first | exact HB.out | apply below_alloc | apply pw_below_drewN | apply below_drew1 | refine below_set ?_ GE444.out) | exact HB.out)) hb); clear BK444; clear HB; have BK444 := n0_; have HB := n1_; clear n0_ n1_; (try clear hb); (try clear hb2); (try clear hk); (try clear hi); have hcz88_0 : w87.cell? ⟨gb444, 0, none⟩ = some (.int .i64 t440) := (blk_cell BK444.out 0).trans rfl; have hcz88_1 : w87.cell? ⟨gb444, 1, none⟩ = some (.int .i64 t441) := (blk_cell BK444.out 1).trans rfl; have hcz88_2 : w87.cell? ⟨gb444, 2, none⟩ = some (.int .i64 t442) := (blk_cell BK444.out 2).trans rfl; have hcz88_3 : w87.cell? ⟨gb444, 3, none⟩ = some (.int .i64 t443) := (blk_cell BK444.out 3).trans rfl; have hfz88_0 := blk_frozen BK444.out 0; have hfz88_1 := blk_frozen BK444.out 1; have hfz88_2 := blk_frozen BK444.out 2; have hfz88_3 := blk_frozen BK444.out 3)))
                            go_ret
                            exact ⟨by first | rfl | (simp [errW_none, errW_some] <;> rfl) | (simp [*, errW_none, errW_some] <;> rfl), by repeat (first | (with_reducible first | exact HB.out | apply below_alloc | apply pw_below_drewN | apply below_drew1 | refine below_set ?_ GE444.out) | exact HB.out)⟩
                    · rw [if_neg c68] at H
                      have c68b0 : (t472 == 0) = false := beq_eq_false_iff_ne.mpr c68
                      have c68b1 : (t472 != 0) = true := bne_iff_ne.mpr c68
                      by_cases c89 : t472 = 5
                      · rw [if_pos c89] at H
                        have c89b0 : (t472 == 5) = true := beq_iff_eq.mpr c89
                        have c89b1 : (t472 != 5) = false := bne_eq_false_iff_eq.mpr c89
                        clear c89
                        replace H := Option.bind_eq_some_iff.mp H
                        obtain ⟨t476, A900, H⟩ := H
                        replace H : (some t476) = some r := H
                        have A90 := Aside0.mk A900
                        clear A900
                        obtain rfl := Option.some.inj H
                        have hcz91_0 : wc.cell? ⟨gb444, 0, none⟩ = some (.int .i64 t440) := (blk_cell BK444.out 0).trans rfl
                        have hcz91_1 : wc.cell? ⟨gb444, 1, none⟩ = some (.int .i64 t441) := (blk_cell BK444.out 1).trans rfl
                        have hcz91_2 : wc.cell? ⟨gb444, 2, none⟩ = some (.int .i64 t442) := (blk_cell BK444.out 2).trans rfl
                        have hcz91_3 : wc.cell? ⟨gb444, 3, none⟩ = some (.int .i64 t443) := (blk_cell BK444.out 3).trans rfl
                        have hfz91_0 := blk_frozen BK444.out 0
                        have hfz91_1 := blk_frozen BK444.out 1
                        have hfz91_2 := blk_frozen BK444.out 2
                        have hfz91_3 := blk_frozen BK444.out 3
                        go_wp2_with (first | (go_at_call 26; (with_reducible refine (calendar_Local.calls kj57 (wrap64 (x8_8 + 1)) t440 t441 t442 t443 t470 t471 t472 _ A67.out).mono ?_); rintro e w92 ⟨rfl, hb⟩; have n0_ := Aside0.mk (blk_below (g := gb444) (o := .cells #[.int .i64 t440, .int .i64 t441, .int .i64 t442, .int .i64 t443] 39 (0, 0)) (by (with_reducible repeat (first | refine blk_drewN ?_ _ | refine blk_drew ?_ | refine blk_alloc ?_ _)); exact BK444.out) hb); have n1_ := Aside0.mk (below_step (by repeat (first | (with_reducible first | exact HB.out | apply below_alloc | apply pw_below_drewN | apply below_drew1 | refine below_set ?_ GE444.out) | exact HB.out)) hb); clear BK444; clear HB; have BK444 := n0_; have HB := n1_; clear n0_ n1_; (try clear hb); (try clear hb2); (try clear hk); (try clear hi)) | (go_at_call 20; (with_reducible refine (dioramalaw08_lives.calls (hv := hv.step (by repeat (first | (with_reducible first | exact HB.out | apply below_alloc | apply pw_below_drewN | apply below_drew1) | exact HB.out))) kj57  t476 _ A90.out).mono ?_); rintro e w93 ⟨rfl, hb⟩; have n0_ := Aside0.mk (blk_below (g := gb444) (o := .cells #[.int .i64 t440, .int .i64 t441, .int .i64 t442, .int .i64 t443] 39 (0, 0)) (by (with_reducible repeat (first | refine blk_drewN ?_ _ | refine blk_drew ?_ | refine blk_alloc ?_ _)); exact BK444.out) hb); have n1_ := Aside0.mk (below_step (by repeat (first | (with_reducible first | exact HB.out | apply below_alloc | apply pw_below_drewN | apply below_drew1 | refine below_set ?_ GE444.out) | exact HB.out)) hb); clear BK444; clear HB; have BK444 := n0_; have HB := n1_; clear n0_ n1_; (try clear hb); (try clear hb2); (try clear hk); (try clear hi)))
                        repeat (go_quiet (first | (go_at_call 26; (with_reducible refine (calendar_Local.calls kj57 (wrap64 (x8_8 + 1)) t440 t441 t442 t443 t470 t471 t472 _ A67.out).mono ?_); rintro e w92 ⟨rfl, hb⟩; have n0_ := Aside0.mk (blk_below (g := gb444) (o := .cells #[.int .i64 t440, .int .i64 t441, .int .i64 t442, .int .i64 t443] 39 (0, 0)) (by (with_reducible repeat (first | refine blk_drewN ?_ _ | refine blk_drew ?_ | refine blk_alloc ?_ _)); exact BK444.out) hb); have n1_ := Aside0.mk (below_step (by repeat (first | (with_reducible first | exact HB.out | apply below_alloc | apply pw_below_drewN | apply below_drew1 | refine below_set ?_ GE444.out) | exact HB.out)) hb); clear BK444; clear HB; have BK444 := n0_; have HB := n1_; clear n0_ n1_; (try clear hb); (try clear hb2); (try clear hk); (try clear hi)) | (go_at_call 20; (with_reducible refine (dioramalaw08_lives.calls (hv := hv.step (by repeat (first | (with_reducible first | exact HB.out | apply below_alloc | apply pw_below_drewN | apply below_drew1) | exact HB.out))) kj57  t476 _ A90.out).mono ?_); rintro e w93 ⟨rfl, hb⟩; have n0_ := Aside0.mk (blk_below (g := gb444) (o := .cells #[.int .i64 t440, .int .i64 t441, .int .i64 t442, .int .i64 t443] 39 (0, 0)) (by (with_reducible repeat (first | refine blk_drewN ?_ _ | refine blk_drew ?_ | refine blk_alloc ?_ _)); exact BK444.out) hb); have n1_ := Aside0.mk (below_step (by repeat (first | (with_reducible first | exact HB.out | apply below_alloc | apply pw_below_drewN | apply below_drew1 | refine below_set ?_ GE444.out) | exact HB.out)) hb); clear BK444; clear HB; have BK444 := n0_; have HB := n1_; clear n0_ n1_; (try clear hb); (try clear hb2); (try clear hk); (try clear hi))); try go_wp2_with (first | (go_at_call 26; (with_reducible refine (calendar_Local.calls kj57 (wrap64 (x8_8 + 1)) t440 t441 t442 t443 t470 t471 t472 _ A67.out).mono ?_); rintro e w92 ⟨rfl, hb⟩; have n0_ := Aside0.mk (blk_below (g := gb444) (o := .cells #[.int .i64 t440, .int .i64 t441, .int .i64 t442, .int .i64 t443] 39 (0, 0)) (by (with_reducible repeat (first | refine blk_drewN ?_ _ | refine blk_drew ?_ | refine blk_alloc ?_ _)); exact BK444.out) hb); have n1_ := Aside0.mk (below_step (by repeat (first | (with_reducible first | exact HB.out | apply below_alloc | apply pw_below_drewN | apply below_drew1 | refine below_set ?_ GE444.out) | exact HB.out)) hb); clear BK444; clear HB; have BK444 := n0_; have HB := n1_; clear n0_ n1_; (try clear hb); (try clear hb2); (try clear hk); (try clear hi)) | (go_at_call 20; (with_reducible refine (dioramalaw08_lives.calls (hv := hv.step (by repeat (first | (with_reducible first | exact HB.out | apply below_alloc | apply pw_below_drewN | apply below_drew1) | exact HB.out))) kj57  t476 _ A90.out).mono ?_); rintro e w93 ⟨rfl, hb⟩; have n0_ := Aside0.mk (blk_below (g := gb444) (o := .cells #[.int .i64 t440, .int .i64 t441, .int .i64 t442, .int .i64 t443] 39 (0, 0)) (by (with_reducible repeat (first | refine blk_drewN ?_ _ | refine blk_drew ?_ | refine blk_alloc ?_ _)); exact BK444.out) hb); have n1_ := Aside0.mk (below_step (by repeat (first | (with_reducible first | exact HB.out | apply below_alloc | apply pw_below_drewN | apply below_drew1 | refine below_set ?_ GE444.out) | exact HB.out)) hb); clear BK444; clear HB; have BK444 := n0_; have HB := n1_; clear n0_ n1_; (try clear hb); (try clear hb2); (try clear hk); (try clear hi))))
                        go_ret
                        exact ⟨by first | rfl | (simp [errW_none, errW_some] <;> rfl) | (simp [*, errW_none, errW_some] <;> rfl), by repeat (first | (with_reducible first | exact HB.out | apply below_alloc | apply pw_below_drewN | apply below_drew1 | refine below_set ?_ GE444.out) | exact HB.out)⟩
                      · rw [if_neg c89] at H
                        have c89b0 : (t472 == 5) = false := beq_eq_false_iff_ne.mpr c89
                        have c89b1 : (t472 != 5) = true := bne_iff_ne.mpr c89
                        obtain rfl := Option.some.inj H
                        have hcz94_0 : wc.cell? ⟨gb444, 0, none⟩ = some (.int .i64 t440) := (blk_cell BK444.out 0).trans rfl
                        have hcz94_1 : wc.cell? ⟨gb444, 1, none⟩ = some (.int .i64 t441) := (blk_cell BK444.out 1).trans rfl
                        have hcz94_2 : wc.cell? ⟨gb444, 2, none⟩ = some (.int .i64 t442) := (blk_cell BK444.out 2).trans rfl
                        have hcz94_3 : wc.cell? ⟨gb444, 3, none⟩ = some (.int .i64 t443) := (blk_cell BK444.out 3).trans rfl
                        have hfz94_0 := blk_frozen BK444.out 0
                        have hfz94_1 := blk_frozen BK444.out 1
                        have hfz94_2 := blk_frozen BK444.out 2
                        have hfz94_3 := blk_frozen BK444.out 3
                        go_wp2_with (first | (go_at_call 26; (with_reducible refine (calendar_Local.calls kj57 (wrap64 (x8_8 + 1)) t440 t441 t442 t443 t470 t471 t472 _ A67.out).mono ?_); rintro e w95 ⟨rfl, hb⟩; have n0_ := Aside0.mk (blk_below (g := gb444) (o := .cells #[.int .i64 t440, .int .i64 t441, .int .i64 t442, .int .i64 t443] 39 (0, 0)) (by (with_reducible repeat (first | refine blk_drewN ?_ _ | refine blk_drew ?_ | refine blk_alloc ?_ _)); exact BK444.out) hb); have n1_ := Aside0.mk (below_step (by repeat (first | (with_reducible first | exact HB.out | apply below_alloc | apply pw_below_drewN | apply below_drew1 | refine below_set ?_ GE444.out) | exact HB.out)) hb); clear BK444; clear HB; have BK444 := n0_; have HB := n1_; clear n0_ n1_; (try clear hb); (try clear hb2); (try clear hk); (try clear hi)))
                        repeat (go_quiet (first | (go_at_call 26; (with_reducible refine (calendar_Local.calls kj57 (wrap64 (x8_8 + 1)) t440 t441 t442 t443 t470 t471 t472 _ A67.out).mono ?_); rintro e w95 ⟨rfl, hb⟩; have n0_ := Aside0.mk (blk_below (g := gb444) (o := .cells #[.int .i64 t440, .int .i64 t441, .int .i64 t442, .int .i64 t443] 39 (0, 0)) (by (with_reducible repeat (first | refine blk_drewN ?_ _ | refine blk_drew ?_ | refine blk_alloc ?_ _)); exact BK444.out) hb); have n1_ := Aside0.mk (below_step (by repeat (first | (with_reducible first | exact HB.out | apply below_alloc | apply pw_below_drewN | apply below_drew1 | refine below_set ?_ GE444.out) | exact HB.out)) hb); clear BK444; clear HB; have BK444 := n0_; have HB := n1_; clear n0_ n1_; (try clear hb); (try clear hb2); (try clear hk); (try clear hi))); try go_wp2_with (first | (go_at_call 26; (with_reducible refine (calendar_Local.calls kj57 (wrap64 (x8_8 + 1)) t440 t441 t442 t443 t470 t471 t472 _ A67.out).mono ?_); rintro e w95 ⟨rfl, hb⟩; have n0_ := Aside0.mk (blk_below (g := gb444) (o := .cells #[.int .i64 t440, .int .i64 t441, .int .i64 t442, .int .i64 t443] 39 (0, 0)) (by (with_reducible repeat (first | refine blk_drewN ?_ _ | refine blk_drew ?_ | refine blk_alloc ?_ _)); exact BK444.out) hb); have n1_ := Aside0.mk (below_step (by repeat (first | (with_reducible first | exact HB.out | apply below_alloc | apply pw_below_drewN | apply below_drew1 | refine below_set ?_ GE444.out) | exact HB.out)) hb); clear BK444; clear HB; have BK444 := n0_; have HB := n1_; clear n0_ n1_; (try clear hb); (try clear hb2); (try clear hk); (try clear hi))))
                        go_ret
                        exact ⟨by first | rfl | (simp [errW_none, errW_some] <;> rfl) | (simp [*, errW_none, errW_some] <;> rfl), by repeat (first | (with_reducible first | exact HB.out | apply below_alloc | apply pw_below_drewN | apply below_drew1 | refine below_set ?_ GE444.out) | exact HB.out)⟩
      · rw [if_neg c27] at H
        have c27b0 : (t458 == 0) = false := beq_eq_false_iff_ne.mpr c27
        have c27b1 : (t458 != 0) = true := bne_iff_ne.mpr c27
        by_cases c96 : t458 = 5
        · rw [if_pos c96] at H
          have c96b0 : (t458 == 5) = true := beq_iff_eq.mpr c96
          have c96b1 : (t458 != 5) = false := bne_eq_false_iff_eq.mpr c96
          clear c96
          replace H := Option.bind_eq_some_iff.mp H
          obtain ⟨t459, A970, H⟩ := H
          replace H : (some t459) = some r := H
          have A97 := Aside0.mk A970
          clear A970
          obtain rfl := Option.some.inj H
          have hcz98_0 : wc.cell? ⟨gb444, 0, none⟩ = some (.int .i64 t440) := (blk_cell BK444.out 0).trans rfl
          have hcz98_1 : wc.cell? ⟨gb444, 1, none⟩ = some (.int .i64 t441) := (blk_cell BK444.out 1).trans rfl
          have hcz98_2 : wc.cell? ⟨gb444, 2, none⟩ = some (.int .i64 t442) := (blk_cell BK444.out 2).trans rfl
          have hcz98_3 : wc.cell? ⟨gb444, 3, none⟩ = some (.int .i64 t443) := (blk_cell BK444.out 3).trans rfl
          have hfz98_0 := blk_frozen BK444.out 0
          have hfz98_1 := blk_frozen BK444.out 1
          have hfz98_2 := blk_frozen BK444.out 2
          have hfz98_3 := blk_frozen BK444.out 3
          go_wp2_with (first | (go_at_call 26; (with_reducible refine (calendar_Local.calls kj8 x8_8 t440 t441 t442 t443 t456 t457 t458 _ A26.out).mono ?_); rintro e w99 ⟨rfl, hb⟩; have n0_ := Aside0.mk (blk_below (g := gb444) (o := .cells #[.int .i64 t440, .int .i64 t441, .int .i64 t442, .int .i64 t443] 39 (0, 0)) (by (with_reducible repeat (first | refine blk_drewN ?_ _ | refine blk_drew ?_ | refine blk_alloc ?_ _)); exact BK444.out) hb); have n1_ := Aside0.mk (below_step (by repeat (first | (with_reducible first | exact HB.out | apply below_alloc | apply pw_below_drewN | apply below_drew1 | refine below_set ?_ GE444.out) | exact HB.out)) hb); clear BK444; clear HB; have BK444 := n0_; have HB := n1_; clear n0_ n1_; (try clear hb); (try clear hb2); (try clear hk); (try clear hi)) | (go_at_call 20; (with_reducible refine (dioramalaw08_lives.calls (hv := hv.step (by repeat (first | (with_reducible first | exact HB.out | apply below_alloc | apply pw_below_drewN | apply below_drew1) | exact HB.out))) kj8  t459 _ A97.out).mono ?_); rintro e w100 ⟨rfl, hb⟩; have n0_ := Aside0.mk (blk_below (g := gb444) (o := .cells #[.int .i64 t440, .int .i64 t441, .int .i64 t442, .int .i64 t443] 39 (0, 0)) (by (with_reducible repeat (first | refine blk_drewN ?_ _ | refine blk_drew ?_ | refine blk_alloc ?_ _)); exact BK444.out) hb); have n1_ := Aside0.mk (below_step (by repeat (first | (with_reducible first | exact HB.out | apply below_alloc | apply pw_below_drewN | apply below_drew1 | refine below_set ?_ GE444.out) | exact HB.out)) hb); clear BK444; clear HB; have BK444 := n0_; have HB := n1_; clear n0_ n1_; (try clear hb); (try clear hb2); (try clear hk); (try clear hi)))
          repeat (go_quiet (first | (go_at_call 26; (with_reducible refine (calendar_Local.calls kj8 x8_8 t440 t441 t442 t443 t456 t457 t458 _ A26.out).mono ?_); rintro e w99 ⟨rfl, hb⟩; have n0_ := Aside0.mk (blk_below (g := gb444) (o := .cells #[.int .i64 t440, .int .i64 t441, .int .i64 t442, .int .i64 t443] 39 (0, 0)) (by (with_reducible repeat (first | refine blk_drewN ?_ _ | refine blk_drew ?_ | refine blk_alloc ?_ _)); exact BK444.out) hb); have n1_ := Aside0.mk (below_step (by repeat (first | (with_reducible first | exact HB.out | apply below_alloc | apply pw_below_drewN | apply below_drew1 | refine below_set ?_ GE444.out) | exact HB.out)) hb); clear BK444; clear HB; have BK444 := n0_; have HB := n1_; clear n0_ n1_; (try clear hb); (try clear hb2); (try clear hk); (try clear hi)) | (go_at_call 20; (with_reducible refine (dioramalaw08_lives.calls (hv := hv.step (by repeat (first | (with_reducible first | exact HB.out | apply below_alloc | apply pw_below_drewN | apply below_drew1) | exact HB.out))) kj8  t459 _ A97.out).mono ?_); rintro e w100 ⟨rfl, hb⟩; have n0_ := Aside0.mk (blk_below (g := gb444) (o := .cells #[.int .i64 t440, .int .i64 t441, .int .i64 t442, .int .i64 t443] 39 (0, 0)) (by (with_reducible repeat (first | refine blk_drewN ?_ _ | refine blk_drew ?_ | refine blk_alloc ?_ _)); exact BK444.out) hb); have n1_ := Aside0.mk (below_step (by repeat (first | (with_reducible first | exact HB.out | apply below_alloc | apply pw_below_drewN | apply below_drew1 | refine below_set ?_ GE444.out) | exact HB.out)) hb); clear BK444; clear HB; have BK444 := n0_; have HB := n1_; clear n0_ n1_; (try clear hb); (try clear hb2); (try clear hk); (try clear hi))); try go_wp2_with (first | (go_at_call 26; (with_reducible refine (calendar_Local.calls kj8 x8_8 t440 t441 t442 t443 t456 t457 t458 _ A26.out).mono ?_); rintro e w99 ⟨rfl, hb⟩; have n0_ := Aside0.mk (blk_below (g := gb444) (o := .cells #[.int .i64 t440, .int .i64 t441, .int .i64 t442, .int .i64 t443] 39 (0, 0)) (by (with_reducible repeat (first | refine blk_drewN ?_ _ | refine blk_drew ?_ | refine blk_alloc ?_ _)); exact BK444.out) hb); have n1_ := Aside0.mk (below_step (by repeat (first | (with_reducible first | exact HB.out | apply below_alloc | apply pw_below_drewN | apply below_drew1 | refine below_set ?_ GE444.out) | exact HB.out)) hb); clear BK444; clear HB; have BK444 := n0_; have HB := n1_; clear n0_ n1_; (try clear hb); (try clear hb2); (try clear hk); (try clear hi)) | (go_at_call 20; (with_reducible refine (dioramalaw08_lives.calls (hv := hv.step (by repeat (first | (with_reducible first | exact HB.out | apply below_alloc | apply pw_below_drewN | apply below_drew1) | exact HB.out))) kj8  t459 _ A97.out).mono ?_); rintro e w100 ⟨rfl, hb⟩; have n0_ := Aside0.mk (blk_below (g := gb444) (o := .cells #[.int .i64 t440, .int .i64 t441, .int .i64 t442, .int .i64 t443] 39 (0, 0)) (by (with_reducible repeat (first | refine blk_drewN ?_ _ | refine blk_drew ?_ | refine blk_alloc ?_ _)); exact BK444.out) hb); have n1_ := Aside0.mk (below_step (by repeat (first | (with_reducible first | exact HB.out | apply below_alloc | apply pw_below_drewN | apply below_drew1 | refine below_set ?_ GE444.out) | exact HB.out)) hb); clear BK444; clear HB; have BK444 := n0_; have HB := n1_; clear n0_ n1_; (try clear hb); (try clear hb2); (try clear hk); (try clear hi))))
          go_ret
          exact ⟨by first | rfl | (simp [errW_none, errW_some] <;> rfl) | (simp [*, errW_none, errW_some] <;> rfl), by repeat (first | (with_reducible first | exact HB.out | apply below_alloc | apply pw_below_drewN | apply below_drew1 | refine below_set ?_ GE444.out) | exact HB.out)⟩
        · rw [if_neg c96] at H
          have c96b0 : (t458 == 5) = false := beq_eq_false_iff_ne.mpr c96
          have c96b1 : (t458 != 5) = true := bne_iff_ne.mpr c96
          obtain rfl := Option.some.inj H
          have hcz101_0 : wc.cell? ⟨gb444, 0, none⟩ = some (.int .i64 t440) := (blk_cell BK444.out 0).trans rfl
          have hcz101_1 : wc.cell? ⟨gb444, 1, none⟩ = some (.int .i64 t441) := (blk_cell BK444.out 1).trans rfl
          have hcz101_2 : wc.cell? ⟨gb444, 2, none⟩ = some (.int .i64 t442) := (blk_cell BK444.out 2).trans rfl
          have hcz101_3 : wc.cell? ⟨gb444, 3, none⟩ = some (.int .i64 t443) := (blk_cell BK444.out 3).trans rfl
          have hfz101_0 := blk_frozen BK444.out 0
          have hfz101_1 := blk_frozen BK444.out 1
          have hfz101_2 := blk_frozen BK444.out 2
          have hfz101_3 := blk_frozen BK444.out 3
          go_wp2_with (first | (go_at_call 26; (with_reducible refine (calendar_Local.calls kj8 x8_8 t440 t441 t442 t443 t456 t457 t458 _ A26.out).mono ?_); rintro e w102 ⟨rfl, hb⟩; have n0_ := Aside0.mk (blk_below (g := gb444) (o := .cells #[.int .i64 t440, .int .i64 t441, .int .i64 t442, .int .i64 t443] 39 (0, 0)) (by (with_reducible repeat (first | refine blk_drewN ?_ _ | refine blk_drew ?_ | refine blk_alloc ?_ _)); exact BK444.out) hb); have n1_ := Aside0.mk (below_step (by repeat (first | (with_reducible first | exact HB.out | apply below_alloc | apply pw_below_drewN | apply below_drew1 | refine below_set ?_ GE444.out) | exact HB.out)) hb); clear BK444; clear HB; have BK444 := n0_; have HB := n1_; clear n0_ n1_; (try clear hb); (try clear hb2); (try clear hk); (try clear hi)))
          repeat (go_quiet (first | (go_at_call 26; (with_reducible refine (calendar_Local.calls kj8 x8_8 t440 t441 t442 t443 t456 t457 t458 _ A26.out).mono ?_); rintro e w102 ⟨rfl, hb⟩; have n0_ := Aside0.mk (blk_below (g := gb444) (o := .cells #[.int .i64 t440, .int .i64 t441, .int .i64 t442, .int .i64 t443] 39 (0, 0)) (by (with_reducible repeat (first | refine blk_drewN ?_ _ | refine blk_drew ?_ | refine blk_alloc ?_ _)); exact BK444.out) hb); have n1_ := Aside0.mk (below_step (by repeat (first | (with_reducible first | exact HB.out | apply below_alloc | apply pw_below_drewN | apply below_drew1 | refine below_set ?_ GE444.out) | exact HB.out)) hb); clear BK444; clear HB; have BK444 := n0_; have HB := n1_; clear n0_ n1_; (try clear hb); (try clear hb2); (try clear hk); (try clear hi))); try go_wp2_with (first | (go_at_call 26; (with_reducible refine (calendar_Local.calls kj8 x8_8 t440 t441 t442 t443 t456 t457 t458 _ A26.out).mono ?_); rintro e w102 ⟨rfl, hb⟩; have n0_ := Aside0.mk (blk_below (g := gb444) (o := .cells #[.int .i64 t440, .int .i64 t441, .int .i64 t442, .int .i64 t443] 39 (0, 0)) (by (with_reducible repeat (first | refine blk_drewN ?_ _ | refine blk_drew ?_ | refine blk_alloc ?_ _)); exact BK444.out) hb); have n1_ := Aside0.mk (below_step (by repeat (first | (with_reducible first | exact HB.out | apply below_alloc | apply pw_below_drewN | apply below_drew1 | refine below_set ?_ GE444.out) | exact HB.out)) hb); clear BK444; clear HB; have BK444 := n0_; have HB := n1_; clear n0_ n1_; (try clear hb); (try clear hb2); (try clear hk); (try clear hi))))
          go_ret
          exact ⟨by first | rfl | (simp [errW_none, errW_some] <;> rfl) | (simp [*, errW_none, errW_some] <;> rfl), by repeat (first | (with_reducible first | exact HB.out | apply below_alloc | apply pw_below_drewN | apply below_drew1 | refine below_set ?_ GE444.out) | exact HB.out)⟩

/-- THE ONE PURE STATEMENT of dioramalaw08_CalendarMoments: yours. -/
def dioramalaw08_CalendarMoments.Pure : Prop := ∀ (a0 : Int) (l1 : List Int) (a2 : Int), (Lit.int .i64 a0).wf = true → l1.length ≤ maxLen → l1.length * 8 ≤ 140737488351232 → (∀ x ∈ l1, (Lit.int .i64 x).wf = true) → (Lit.int .i64 a2).wf = true → ∃ k, dioramalaw08_CalendarMoments.f k a0 l1 a2 = some true
theorem dioramalaw08_CalendarMoments.walk (P : dioramalaw08_CalendarMoments.Pure) (a0 : Int) (a1 : Option Addr) (len1 cap1 : Nat) (z1 : List Int) (a2 : Int) (w : World) (hv : LaidAt w) (w0 : (Lit.int .i64 a0).wf = true) (w1 : (a1 = none ∧ len1 = 0 ∧ cap1 = 0 ∧ z1 = []) ∨ ∃ x, a1 = some x ∧ len1 ≤ cap1 ∧ cap1 ≤ maxLen ∧ z1.length = cap1 ∧ (∀ i, i < z1.length → w.cell? (x.add i) = some (.int .i64 (z1.getD i 0))) ∧ ∀ n ∈ z1, (Lit.int .i64 n).wf = true) (y1 : len1 * 8 ≤ 140737488351232) (w2 : (Lit.int .i64 a2).wf = true) :
    Calls Tryd.prog 8 #[.int .i64 a0, .slice a1 len1 cap1, .int .i64 a2] w fun e w' => e = .returned (.bool true) ∧ Below w.heap.size w w' := by
  obtain ⟨l1, rfl, hr1, hm1, hw1, hc1⟩ := ReadsInt.ofRowC w1
  obtain ⟨k, h⟩ := P a0 l1 a2 w0 hm1 y1 hw1 w2
  refine (dioramalaw08_CalendarMoments.calls (hv := hv) k a0 _ _ l1 a2 true w (Kd.C_of_reads (d := (0 : Int)) (h1 := fun _ => rfl) hr1) hc1 h).mono ?_
  rintro e w' ⟨rfl, hd⟩
  exact ⟨rfl, hd⟩

end Go.Proofs.YtlfgjpidamkpdaaDoor.Pc
