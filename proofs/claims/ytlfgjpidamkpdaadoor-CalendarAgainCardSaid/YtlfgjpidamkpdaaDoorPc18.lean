/- The contracts of the functions that the laws reach, each over a plain Lean function, written by wip/ownprint.py of this claim's session. -/
import Derived.Test.YtlfgjpidamkpdaaDoorPc0
import Derived.Test.YtlfgjpidamkpdaaDoorPc1
import Derived.Test.YtlfgjpidamkpdaaDoorPc2
import Derived.Test.YtlfgjpidamkpdaaDoorPc5
import Derived.Test.YtlfgjpidamkpdaaDoorPc6
import Derived.Test.YtlfgjpidamkpdaaDoorPc15
namespace Go.Proofs.YtlfgjpidamkpdaaDoor.Pc
open Go.RowKit Go.Proofs.YtlfgjpidamkpdaaDoorW.PrintWords Go.Proofs.YtlfgjpidamkpdaaDoorW.PrintLast Go.Proofs.YtlfgjpidamkpdaaDoorW.PrintMore
attribute [local go_sem] max2_int min2_int max_two min_two max_three min_three max_four min_four   -- for this text's walks alone
attribute [local go_sem high] binOp_leq_p
set_option linter.unusedVariables false
set_option linter.unusedSimpArgs false

/-! ### dioramalaw08_CalendarAgain: function 9 -/
mutual
def dioramalaw08_CalendarAgain.j1 : Nat → Int → Int → Int → List Int → Option (Bool)
  | 0, _, _, _, _ => none
  | k + 1, x1, x2, x9, x10 => (dioramaref01_Around.f x1 30).bind fun t483 => ((dioramaref01_Around.f x2 30).bind fun t484 => (if (Int.tmod x1 2) = 1 then (dioramalaw08_CalendarAgain.j2 k x9 x10 (wrap64 (-(wrap64 (1 + t483)))) (wrap64 (-(wrap64 (1 + t484))))) else (dioramalaw08_CalendarAgain.j2 k x9 x10 (wrap64 (1 + t483)) (wrap64 (1 + t484)))))
def dioramalaw08_CalendarAgain.j2 : Nat → Int → List Int → Int → Int → Option (Bool)
  | 0, _, _, _, _ => none
  | k + 1, x9, x10, x12, x13 => (calendar_Work.f k x9 x12 x10).bind fun bt485 => ((calendar_Work.f k x9 (wrap64 (x12 + x13)) x10).bind fun bt487 => (if bt485.2 = 0 then (dioramalaw08_CalendarAgain.j3 k x9 x10 x12 x13 bt485.1 bt485.2 bt487.1 bt487.2 (bt487.2 != 0)) else (dioramalaw08_CalendarAgain.j3 k x9 x10 x12 x13 bt485.1 bt485.2 bt487.1 bt487.2 true)))
def dioramalaw08_CalendarAgain.j3 : Nat → Int → List Int → Int → Int → Int → Int → Int → Int → Bool → Option (Bool)
  | 0, _, _, _, _, _, _, _, _, _ => none
  | k + 1, x9, x10, x12, x13, x14, x15, x16, x17, x79 => if x79 = true then (if x15 = 5 then (if x17 = 5 then ((dioramalaw08_lives.f k).bind fun t489 => (some t489)) else (some false)) else (if x15 = 0 then (if x17 = 5 then ((dioramalaw08_lives.f k).bind fun t490 => (some t490)) else (some false)) else (some false))) else ((calendar_Work.f k x14 x13 x10).bind fun bt491 => (if bt491.2 = 0 then (if bt491.1 = x16 then ((dioramaref08_Working.f k x14 x10).bind fun t493 => (if t493 = true then ((calendar_Weekday.f x16).bind fun t494 => (dioramalaw08_CalendarAgain.j4 k x9 x10 x12 x14 (decide (t494 > 4)))) else (dioramalaw08_CalendarAgain.j4 k x9 x10 x12 x14 true))) else (dioramalaw08_CalendarAgain.j4 k x9 x10 x12 x14 true)) else (dioramalaw08_CalendarAgain.j4 k x9 x10 x12 x14 true)))
def dioramalaw08_CalendarAgain.j4 : Nat → Int → List Int → Int → Int → Bool → Option (Bool)
  | 0, _, _, _, _, _ => none
  | k + 1, x9, x10, x12, x14, x117 => if x117 = true then (some false) else ((calendar_Work.f k x14 (wrap64 (-x12)) x10).bind fun bt495 => ((dioramaref08_Working.f k x9 x10).bind fun t497 => (if t497 = true then (if bt495.2 = 0 then (if bt495.1 = x9 then ((dioramalaw08_lives.f k).bind fun t498 => (some t498)) else (some false)) else (some false)) else ((dioramalaw08_lives.f k).bind fun t499 => (some t499)))))
def dioramalaw08_CalendarAgain.l0 : Nat → Int → Int → List Int → Int → List Int → Int → Option (Bool)
  | 0, _, _, _, _, _, _ => none
  | k + 1, x1, x2, x3, x9, x10, x11 => if x11 < (x3.length : Int) then (if x11 < 30 then (if 0 ≤ x11 then ((dioramaref01_Around.f (rd x3 x11) 60).bind fun t479 => (if x10.length < 17592186044416 then (dioramalaw08_CalendarAgain.l0 k x1 x2 x3 x9 (x10 ++ [wrap64 ((wrap64 (x9 + t479)) - 30)]) (wrap64 (x11 + 1))) else (none))) else (none)) else (dioramalaw08_CalendarAgain.j1 k x1 x2 x9 x10)) else (dioramalaw08_CalendarAgain.j1 k x1 x2 x9 x10)
end
def dioramalaw08_CalendarAgain.f (k : Nat) (a0 : Int) (a1 : Int) (a2 : Int) (l3 : List Int) : Option (Bool) := (dioramaref08_Some.f k a0).bind fun t477 => (dioramalaw08_CalendarAgain.l0 k a1 a2 l3 t477 ([] : List Int) 0)
theorem dioramalaw08_CalendarAgain.mono_l : ∀ k, (∀ y0 y1 y2 y3, LeO (dioramalaw08_CalendarAgain.j1 k y0 y1 y2 y3) (dioramalaw08_CalendarAgain.j1 (k + 1) y0 y1 y2 y3)) ∧ (∀ y0 y1 y2 y3, LeO (dioramalaw08_CalendarAgain.j2 k y0 y1 y2 y3) (dioramalaw08_CalendarAgain.j2 (k + 1) y0 y1 y2 y3)) ∧ (∀ y0 y1 y2 y3 y4 y5 y6 y7 y8, LeO (dioramalaw08_CalendarAgain.j3 k y0 y1 y2 y3 y4 y5 y6 y7 y8) (dioramalaw08_CalendarAgain.j3 (k + 1) y0 y1 y2 y3 y4 y5 y6 y7 y8)) ∧ (∀ y0 y1 y2 y3 y4, LeO (dioramalaw08_CalendarAgain.j4 k y0 y1 y2 y3 y4) (dioramalaw08_CalendarAgain.j4 (k + 1) y0 y1 y2 y3 y4)) ∧ (∀ y0 y1 y2 y3 y4 y5, LeO (dioramalaw08_CalendarAgain.l0 k y0 y1 y2 y3 y4 y5) (dioramalaw08_CalendarAgain.l0 (k + 1) y0 y1 y2 y3 y4 y5))
  | 0 => ⟨fun _ _ _ _ r h => by simp [dioramalaw08_CalendarAgain.j1] at h, fun _ _ _ _ r h => by simp [dioramalaw08_CalendarAgain.j2] at h, fun _ _ _ _ _ _ _ _ _ r h => by simp [dioramalaw08_CalendarAgain.j3] at h, fun _ _ _ _ _ r h => by simp [dioramalaw08_CalendarAgain.j4] at h, fun _ _ _ _ _ _ r h => by simp [dioramalaw08_CalendarAgain.l0] at h⟩
  | k + 1 => by
    obtain ⟨ih0, ih1, ih2, ih3, ih4⟩ := dioramalaw08_CalendarAgain.mono_l k
    refine ⟨?_, ?_, ?_, ?_, ?_⟩
    · intro y0 y1 y2 y3
      unfold dioramalaw08_CalendarAgain.j1
      repeat' first
      | (with_reducible exact ih0 _ _ _ _)
      | (with_reducible exact ih1 _ _ _ _)
      | (with_reducible exact ih2 _ _ _ _ _ _ _ _ _)
      | (with_reducible exact ih3 _ _ _ _ _)
      | (with_reducible exact ih4 _ _ _ _ _ _)
      | (with_reducible exact calendar_Work.mono _ _ _ _)
      | (with_reducible exact dioramalaw08_lives.mono _)
      | (with_reducible exact dioramaref08_Some.mono _ _)
      | (with_reducible exact dioramaref08_Working.mono _ _ _)
      | (with_reducible exact LeO.refl _)
      | (with_reducible exact LeO.none _)
      | (with_reducible refine LeO.ite ?_ ?_)
      | (with_reducible refine LeO.bind ?_ (fun _ => ?_))
      | exact ih0 _ _ _ _
      | exact ih1 _ _ _ _
      | exact ih2 _ _ _ _ _ _ _ _ _
      | exact ih3 _ _ _ _ _
      | exact ih4 _ _ _ _ _ _
      | exact calendar_Work.mono _ _ _ _
      | exact dioramalaw08_lives.mono _
      | exact dioramaref08_Some.mono _ _
      | exact dioramaref08_Working.mono _ _ _
      | exact LeO.none _
      | refine LeO.ite ?_ ?_
      | refine LeO.bind ?_ (fun _ => ?_)
    · intro y0 y1 y2 y3
      unfold dioramalaw08_CalendarAgain.j2
      repeat' first
      | (with_reducible exact ih0 _ _ _ _)
      | (with_reducible exact ih1 _ _ _ _)
      | (with_reducible exact ih2 _ _ _ _ _ _ _ _ _)
      | (with_reducible exact ih3 _ _ _ _ _)
      | (with_reducible exact ih4 _ _ _ _ _ _)
      | (with_reducible exact calendar_Work.mono _ _ _ _)
      | (with_reducible exact dioramalaw08_lives.mono _)
      | (with_reducible exact dioramaref08_Some.mono _ _)
      | (with_reducible exact dioramaref08_Working.mono _ _ _)
      | (with_reducible exact LeO.refl _)
      | (with_reducible exact LeO.none _)
      | (with_reducible refine LeO.ite ?_ ?_)
      | (with_reducible refine LeO.bind ?_ (fun _ => ?_))
      | exact ih0 _ _ _ _
      | exact ih1 _ _ _ _
      | exact ih2 _ _ _ _ _ _ _ _ _
      | exact ih3 _ _ _ _ _
      | exact ih4 _ _ _ _ _ _
      | exact calendar_Work.mono _ _ _ _
      | exact dioramalaw08_lives.mono _
      | exact dioramaref08_Some.mono _ _
      | exact dioramaref08_Working.mono _ _ _
      | exact LeO.none _
      | refine LeO.ite ?_ ?_
      | refine LeO.bind ?_ (fun _ => ?_)
    · intro y0 y1 y2 y3 y4 y5 y6 y7 y8
      unfold dioramalaw08_CalendarAgain.j3
      repeat' first
      | (with_reducible exact ih0 _ _ _ _)
      | (with_reducible exact ih1 _ _ _ _)
      | (with_reducible exact ih2 _ _ _ _ _ _ _ _ _)
      | (with_reducible exact ih3 _ _ _ _ _)
      | (with_reducible exact ih4 _ _ _ _ _ _)
      | (with_reducible exact calendar_Work.mono _ _ _ _)
      | (with_reducible exact dioramalaw08_lives.mono _)
      | (with_reducible exact dioramaref08_Some.mono _ _)
      | (with_reducible exact dioramaref08_Working.mono _ _ _)
      | (with_reducible exact LeO.refl _)
      | (with_reducible exact LeO.none _)
      | (with_reducible refine LeO.ite ?_ ?_)
      | (with_reducible refine LeO.bind ?_ (fun _ => ?_))
      | exact ih0 _ _ _ _
      | exact ih1 _ _ _ _
      | exact ih2 _ _ _ _ _ _ _ _ _
      | exact ih3 _ _ _ _ _
      | exact ih4 _ _ _ _ _ _
      | exact calendar_Work.mono _ _ _ _
      | exact dioramalaw08_lives.mono _
      | exact dioramaref08_Some.mono _ _
      | exact dioramaref08_Working.mono _ _ _
      | exact LeO.none _
      | refine LeO.ite ?_ ?_
      | refine LeO.bind ?_ (fun _ => ?_)
    · intro y0 y1 y2 y3 y4
      unfold dioramalaw08_CalendarAgain.j4
      repeat' first
      | (with_reducible exact ih0 _ _ _ _)
      | (with_reducible exact ih1 _ _ _ _)
      | (with_reducible exact ih2 _ _ _ _ _ _ _ _ _)
      | (with_reducible exact ih3 _ _ _ _ _)
      | (with_reducible exact ih4 _ _ _ _ _ _)
      | (with_reducible exact calendar_Work.mono _ _ _ _)
      | (with_reducible exact dioramalaw08_lives.mono _)
      | (with_reducible exact dioramaref08_Some.mono _ _)
      | (with_reducible exact dioramaref08_Working.mono _ _ _)
      | (with_reducible exact LeO.refl _)
      | (with_reducible exact LeO.none _)
      | (with_reducible refine LeO.ite ?_ ?_)
      | (with_reducible refine LeO.bind ?_ (fun _ => ?_))
      | exact ih0 _ _ _ _
      | exact ih1 _ _ _ _
      | exact ih2 _ _ _ _ _ _ _ _ _
      | exact ih3 _ _ _ _ _
      | exact ih4 _ _ _ _ _ _
      | exact calendar_Work.mono _ _ _ _
      | exact dioramalaw08_lives.mono _
      | exact dioramaref08_Some.mono _ _
      | exact dioramaref08_Working.mono _ _ _
      | exact LeO.none _
      | refine LeO.ite ?_ ?_
      | refine LeO.bind ?_ (fun _ => ?_)
    · intro y0 y1 y2 y3 y4 y5
      unfold dioramalaw08_CalendarAgain.l0
      repeat' first
      | (with_reducible exact ih0 _ _ _ _)
      | (with_reducible exact ih1 _ _ _ _)
      | (with_reducible exact ih2 _ _ _ _ _ _ _ _ _)
      | (with_reducible exact ih3 _ _ _ _ _)
      | (with_reducible exact ih4 _ _ _ _ _ _)
      | (with_reducible exact calendar_Work.mono _ _ _ _)
      | (with_reducible exact dioramalaw08_lives.mono _)
      | (with_reducible exact dioramaref08_Some.mono _ _)
      | (with_reducible exact dioramaref08_Working.mono _ _ _)
      | (with_reducible exact LeO.refl _)
      | (with_reducible exact LeO.none _)
      | (with_reducible refine LeO.ite ?_ ?_)
      | (with_reducible refine LeO.bind ?_ (fun _ => ?_))
      | exact ih0 _ _ _ _
      | exact ih1 _ _ _ _
      | exact ih2 _ _ _ _ _ _ _ _ _
      | exact ih3 _ _ _ _ _
      | exact ih4 _ _ _ _ _ _
      | exact calendar_Work.mono _ _ _ _
      | exact dioramalaw08_lives.mono _
      | exact dioramaref08_Some.mono _ _
      | exact dioramaref08_Working.mono _ _ _
      | exact LeO.none _
      | refine LeO.ite ?_ ?_
      | refine LeO.bind ?_ (fun _ => ?_)
theorem dioramalaw08_CalendarAgain.mono : ∀ a0 a1 a2 a3 k, LeO (dioramalaw08_CalendarAgain.f k a0 a1 a2 a3) (dioramalaw08_CalendarAgain.f (k + 1) a0 a1 a2 a3) := by
  intro a0 a1 a2 a3 k
  obtain ⟨ih0, ih1, ih2, ih3, ih4⟩ := dioramalaw08_CalendarAgain.mono_l k
  unfold dioramalaw08_CalendarAgain.f
  repeat' first
      | (with_reducible exact ih0 _ _ _ _)
      | (with_reducible exact ih1 _ _ _ _)
      | (with_reducible exact ih2 _ _ _ _ _ _ _ _ _)
      | (with_reducible exact ih3 _ _ _ _ _)
      | (with_reducible exact ih4 _ _ _ _ _ _)
      | (with_reducible exact calendar_Work.mono _ _ _ _)
      | (with_reducible exact dioramalaw08_lives.mono _)
      | (with_reducible exact dioramaref08_Some.mono _ _)
      | (with_reducible exact dioramaref08_Working.mono _ _ _)
      | (with_reducible exact LeO.refl _)
      | (with_reducible exact LeO.none _)
      | (with_reducible refine LeO.ite ?_ ?_)
      | (with_reducible refine LeO.bind ?_ (fun _ => ?_))
      | exact ih0 _ _ _ _
      | exact ih1 _ _ _ _
      | exact ih2 _ _ _ _ _ _ _ _ _
      | exact ih3 _ _ _ _ _
      | exact ih4 _ _ _ _ _ _
      | exact calendar_Work.mono _ _ _ _
      | exact dioramalaw08_lives.mono _
      | exact dioramaref08_Some.mono _ _
      | exact dioramaref08_Working.mono _ _ _
      | exact LeO.none _
      | refine LeO.ite ?_ ?_
      | refine LeO.bind ?_ (fun _ => ?_)
set_option maxHeartbeats 8000000 in
set_option maxRecDepth 100000 in
theorem dioramalaw08_CalendarAgain.calls (k : Nat) (a0 : Int) (a1 : Int) (a2 : Int) (A3 : Option Addr) (c3 : Nat) (l3 : List Int) (r : Bool) (w : World) (hv : LaidAt w) (hr3 : Kd.C (Kd.int .i64) w A3 l3.length l3) (hc3 : l3.length ≤ c3) (h : dioramalaw08_CalendarAgain.f k a0 a1 a2 l3 = some r) :
    Calls Tryd.prog 9 #[.int .i64 a0, .int .i64 a1, .int .i64 a2, .slice A3 l3.length c3] w fun e w' => e = .returned (.bool r) ∧ Below w.heap.size w w' := by
  have HR3 := Aside0.mk hr3
  have HC3 := Aside0.mk hc3
  clear hr3 hc3
  have HB := Aside0.mk (Below.refl w.heap.size w)
  have H : ((dioramaref08_Some.f k a0).bind fun t477 => (dioramalaw08_CalendarAgain.l0 k a1 a2 l3 t477 ([] : List Int) 0)) = some r := h
  clear h
  replace H := Option.bind_eq_some_iff.mp H
  obtain ⟨t477, A50, H⟩ := H
  replace H : (dioramalaw08_CalendarAgain.l0 k a1 a2 l3 t477 ([] : List Int) 0) = some r := H
  have A5 := Aside0.mk A50
  clear A50
  have HC6 := Aside0.mk H
  clear H
  go_enter Tryd.func9, Tryd.ntmps9
  go_upto_block 0 with (first | ((with_reducible refine gate_callee (f := 10) rfl ?_); refine goesL_ (some 23) rfl rfl Tryd.func10 (by kernel_rfl) rfl #[.int .i64 a0] rfl (by (try simp only [List.map_toArray, List.map_cons, List.map_nil]); first | done | rfl | (simp only [List.length_drop, List.length_take]; rfl)) ?_; (with_reducible refine (dioramaref08_Some.calls k a0 t477 _ A5.out).mono ?_); rintro e w7 ⟨rfl, hb⟩; refine ⟨_, rfl, ?_⟩; have n0_ := Aside0.mk (below_step (by repeat (first | (with_reducible first | exact HB.out | apply below_alloc | apply pw_below_drewN | apply below_drew1) | exact HB.out)) hb); clear HB; have HB := n0_; clear n0_; (try clear hb); (try clear hb2); (try clear hk); (try clear hi)))
  (try simp only [Act.put, List.setIfInBounds_toArray, List.set_cons_zero, List.set_cons_succ])
  go_cut [10] (fun v10 wc => ∃ (kq : Nat) (x10_5 : List Int), Aside0 (dioramalaw08_CalendarAgain.j1 kq a1 a2 t477 x10_5 = some r) ∧ Aside0 (kq ≤ k) ∧ Aside0 (Kd.R (Kd.int .i64) 3 wc w.heap.size (fun _ => True) v10 x10_5) ∧ Aside0 (Below w.heap.size w wc))
  case first =>
    have H := HC6.out
    clear HC6
    have H' := Aside0.mk H
    clear H
    go_wp2
    go_loopg [10, 11] k (fun kq v10 v11 w' => ∃ (x10_1 : List Int) (x11_1 : Int), v11 = .int .i64 x11_1 ∧ Aside0 (dioramalaw08_CalendarAgain.l0 kq a1 a2 l3 t477 x10_1 x11_1 = some r) ∧ Aside0 (kq ≤ k) ∧ Aside0 (Kd.R (Kd.int .i64) 3 w' w.heap.size (fun _ => True) v10 x10_1) ∧ Aside0 (Below w.heap.size w w'))
    case atStart => exact ⟨(([] : List Int)), (0), (by first | rfl | (simp; done) | (simp [*]; done)), H', ⟨Nat.le_refl _⟩, ⟨by first | exact Kd.R_nil _ _ _ _ _ | exact Kd.N_nil _ _ _ _ _ | exact Kd.V_nil _ _ _ _ _ | exact Kd.Q_nil _ _ _ _ _ | exact Kd.S_nil _ _ _ _ _⟩, ⟨by repeat (first | (with_reducible first | exact HB.out | apply below_alloc | apply pw_below_drewN | apply below_drew1) | exact HB.out)⟩⟩
    case round =>
      clear H'
      try clear c1
      try clear p2
      try clear c3
      obtain ⟨x10_1, x11_1, rfl, HA, HK1, HO_10, HB⟩ := hrel
      cases gk with
      | zero => exact absurd HA.out (by simp [dioramalaw08_CalendarAgain.l0])
      | succ k1 =>
        have H := HA.out
        clear HA
        simp only [dioramalaw08_CalendarAgain.l0] at H
        by_cases c8 : x11_1 < (l3.length : Int)
        · rw [if_pos c8] at H
          have c8b0 : decide (x11_1 < (l3.length : Int)) = true := decide_eq_true c8
          clear c8
          (first | rw [c8b0] | (simp only [i64_w, i32_w]; rw [c8b0]) | skip)
          by_cases c9 : x11_1 < 30
          · rw [if_pos c9] at H
            have c9b0 : decide (x11_1 < 30) = true := decide_eq_true c9
            clear c9
            by_cases c10 : 0 ≤ x11_1
            · rw [if_pos c10] at H
              have c10b0 : decide (0 ≤ x11_1) = true := decide_eq_true c10
              clear c10
              replace H := Option.bind_eq_some_iff.mp H
              obtain ⟨t479, A110, H⟩ := H
              replace H : (if x10_1.length < 17592186044416 then (dioramalaw08_CalendarAgain.l0 k1 a1 a2 l3 t477 (x10_1 ++ [wrap64 ((wrap64 (t477 + t479)) - 30)]) (wrap64 (x11_1 + 1))) else (none)) = some r := H
              have A11 := Aside0.mk A110
              clear A110
              by_cases c12 : x10_1.length < 17592186044416
              · rw [if_pos c12] at H
                have LMc12 := Aside0.mk c12
                clear c12
                obtain ⟨y480, hy480⟩ : ∃ y_ : List Int, y_ = (x10_1 ++ [wrap64 ((wrap64 (t477 + t479)) - 30)]) := ⟨_, rfl⟩
                replace H : (dioramalaw08_CalendarAgain.l0 k1 a1 a2 l3 t477 y480 (wrap64 (x11_1 + 1))) = some r := by first | (rw [hy480]; with_reducible exact H) | (have H2_ := (Option.bind_some _ _).symm.trans H; rw [hy480]; with_reducible exact H2_) | (have H2_ := (Option.bind_some _ _).symm.trans H; with_reducible exact H2_) | with_reducible exact H | (rw [hy480]; exact H) | exact H
                have Ny480 := Aside0.mk hy480
                clear hy480
                have H' := Aside0.mk H
                clear H
                have p478 : 0 ≤ (x11_1 : Int) := of_decide_eq_true (by first | (with_reducible assumption) | assumption)
                have q478 : x11_1 < (l3.length : Int) := of_decide_eq_true (by first | (with_reducible assumption) | assumption)
                obtain ⟨ad478, e478, hx478_0⟩ := Kd.at_int HR3.out x11_1 p478 q478
                cases e478
                replace hx478_0 := (HB.out.cell (World.block_lt_of_cell? w _ hx478_0)).trans hx478_0
                replace p478 := eq_true p478
                replace q478 := eq_true q478
                go_wp2_with (first | ((with_reducible refine gate_callee (f := 17) rfl ?_); refine goesL_ (some 40) rfl rfl Tryd.func17 (by kernel_rfl) rfl #[.int .i64 (rd l3 x11_1), .int .i64 60] rfl (by (try simp only [List.map_toArray, List.map_cons, List.map_nil]); first | done | rfl | (simp only [List.length_drop, List.length_take]; rfl)) ?_; (with_reducible refine (dioramaref01_Around.calls (rd l3 x11_1) 60 t479 _ A11.out).mono ?_); rintro e w' ⟨rfl, ⟨nd, rfl⟩⟩; refine ⟨_, rfl, ?_⟩) | ((with_reducible refine gate_builtin (b := .append) (xs := #[.tmp 34, .tmp 43]) rfl ?_); at_builtin; refine Kd.R_append (Kd.int .i64) (w0 := w) w.heap.size rfl (.tmp 34) (.tmp 43) 23 3 (.int .i64 0) 8 rfl Tryd.underlying23 info3 rfl (by decide) (by omega) u10 x10_1 (wrap64 ((wrap64 (t477 + t479)) - 30)) [.int .i64 (wrap64 ((wrap64 (t477 + t479)) - 30))] (fun _ => True) (fun _ => False) rfl rfl ?aP (fun _ hk => hk.elim) ?aF ?aO ?aB ?aS ?aL ?_; (case aP => exact rfl); (case aB => exact (by repeat (first | (with_reducible first | exact HB.out | apply below_alloc | apply pw_below_drewN | apply below_drew1) | exact HB.out))); (case aF => exact (fun _ _ => trivial)); (case aO => exact (by (with_reducible repeat (first | apply Kd.R_alloc | apply Kd.R_drewN | apply Kd.R_drew)); exact HO_10.out)); (case aS => exact (below_size (by repeat (first | (with_reducible first | exact HB.out | apply below_alloc | apply pw_below_drewN | apply below_drew1) | exact HB.out)))); (case aL => have := LMc12.out; omega); intro v481 w13 ho hb hg hat; rw [← Ny480.out] at ho; have n0_ := Aside0.mk (hb); have n1_ := Aside0.mk (ho); clear HB; clear HO_10; have HB := n0_; have HO482 := n1_; clear n0_ n1_; clear ho hb hg hat))
                go_roundg k1
                case measure => have := HK1.out; omega
                case rel => exact ⟨(y480), (wrap64 (x11_1 + 1)), (by first | rfl | (simp; done) | (simp [*]; done)), H', ⟨by have := HK1.out; omega⟩, ⟨by (with_reducible repeat (first | apply Kd.R_alloc | apply Kd.R_drewN | apply Kd.R_drew)); exact HO482.out⟩, ⟨by repeat (first | (with_reducible first | exact HB.out | apply below_alloc | apply pw_below_drewN | apply below_drew1) | exact HB.out)⟩⟩
              · rw [if_neg c12] at H
                exact absurd H (by simp)
            · rw [if_neg c10] at H
              exact absurd H (by simp)
          · rw [if_neg c9] at H
            have c9b0 : decide (x11_1 < 30) = false := decide_eq_false c9
            clear c9
            have H' := Aside0.mk H
            clear H
            go_wp2
            go_meet
            case rel => exact ⟨_, (x10_1), H', ⟨by have := HK1.out; first | omega | exact Nat.le_refl _⟩, ⟨by (with_reducible repeat (first | apply Kd.R_alloc | apply Kd.R_drewN | apply Kd.R_drew)); exact HO_10.out⟩, ⟨by repeat (first | (with_reducible first | exact HB.out | apply below_alloc | apply pw_below_drewN | apply below_drew1) | exact HB.out)⟩⟩
        · rw [if_neg c8] at H
          have c8b0 : decide (x11_1 < (l3.length : Int)) = false := decide_eq_false c8
          clear c8
          (first | rw [c8b0] | (simp only [i64_w, i32_w]; rw [c8b0]) | skip)
          have H' := Aside0.mk H
          clear H
          go_wp2
          go_meet
          case rel => exact ⟨_, (x10_1), H', ⟨by have := HK1.out; first | omega | exact Nat.le_refl _⟩, ⟨by (with_reducible repeat (first | apply Kd.R_alloc | apply Kd.R_drewN | apply Kd.R_drew)); exact HO_10.out⟩, ⟨by repeat (first | (with_reducible first | exact HB.out | apply below_alloc | apply pw_below_drewN | apply below_drew1) | exact HB.out)⟩⟩
  case rest =>
    clear HC6
    try clear c1
    try clear p2
    try clear c3
    try clear p4
    try clear q4
    try clear hx4
    try clear p6
    try clear c8
    try clear c8b0
    try clear c9
    try clear c9b0
    try clear c10
    try clear c10b0
    try clear c12
    try clear hx478_0
    try clear p2
    try clear p478
    try clear q478
    obtain ⟨kq, x10_5, HA, HJ5, HO_10, HB⟩ := hcut
    cases kq with
    | zero => exact absurd HA.out (by simp [dioramalaw08_CalendarAgain.j1])
    | succ kj5 =>
      have H := HA.out
      clear HA
      simp only [dioramalaw08_CalendarAgain.j1] at H
      replace H := Option.bind_eq_some_iff.mp H
      obtain ⟨t483, A140, H⟩ := H
      replace H : ((dioramaref01_Around.f a2 30).bind fun t484 => (if (Int.tmod a1 2) = 1 then (dioramalaw08_CalendarAgain.j2 kj5 t477 x10_5 (wrap64 (-(wrap64 (1 + t483)))) (wrap64 (-(wrap64 (1 + t484))))) else (dioramalaw08_CalendarAgain.j2 kj5 t477 x10_5 (wrap64 (1 + t483)) (wrap64 (1 + t484))))) = some r := H
      have A14 := Aside0.mk A140
      clear A140
      replace H := Option.bind_eq_some_iff.mp H
      obtain ⟨t484, A150, H⟩ := H
      replace H : (if (Int.tmod a1 2) = 1 then (dioramalaw08_CalendarAgain.j2 kj5 t477 x10_5 (wrap64 (-(wrap64 (1 + t483)))) (wrap64 (-(wrap64 (1 + t484))))) else (dioramalaw08_CalendarAgain.j2 kj5 t477 x10_5 (wrap64 (1 + t483)) (wrap64 (1 + t484)))) = some r := H
      have A15 := Aside0.mk A150
      clear A150
      have HC16 := Aside0.mk H
      clear H
      go_upto_if 53 with (first | ((with_reducible refine gate_callee (f := 17) rfl ?_); refine goesL_ (some 46) rfl rfl Tryd.func17 (by kernel_rfl) rfl #[.int .i64 a1, .int .i64 30] rfl (by (try simp only [List.map_toArray, List.map_cons, List.map_nil]); first | done | rfl | (simp only [List.length_drop, List.length_take]; rfl)) ?_; (with_reducible refine (dioramaref01_Around.calls a1 30 t483 _ A14.out).mono ?_); rintro e w' ⟨rfl, ⟨nd, rfl⟩⟩; refine ⟨_, rfl, ?_⟩) | ((with_reducible refine gate_callee (f := 17) rfl ?_); refine goesL_ (some 49) rfl rfl Tryd.func17 (by kernel_rfl) rfl #[.int .i64 a2, .int .i64 30] rfl (by (try simp only [List.map_toArray, List.map_cons, List.map_nil]); first | done | rfl | (simp only [List.length_drop, List.length_take]; rfl)) ?_; (with_reducible refine (dioramaref01_Around.calls a2 30 t484 _ A15.out).mono ?_); rintro e w' ⟨rfl, ⟨nd, rfl⟩⟩; refine ⟨_, rfl, ?_⟩))
      (try simp only [Act.put, List.setIfInBounds_toArray, List.set_cons_zero, List.set_cons_succ])
      go_cut [12, 13] (fun v12 v13 wc => ∃ (kq : Nat) (x12_15 : Int) (x13_15 : Int), v12 = .int .i64 x12_15 ∧ v13 = .int .i64 x13_15 ∧ Aside0 (dioramalaw08_CalendarAgain.j2 kq t477 x10_5 x12_15 x13_15 = some r) ∧ Aside0 (kq ≤ kj5) ∧ Aside0 (Kd.R (Kd.int .i64) 3 wc w.heap.size (fun _ => True) u10 x10_5) ∧ Aside0 (Below w.heap.size w wc))
      case first =>
        have H := HC16.out
        clear HC16
        by_cases c17 : (Int.tmod a1 2) = 1
        · rw [if_pos c17] at H
          have c17b0 : ((Int.tmod a1 2) == 1) = true := beq_iff_eq.mpr c17
          have c17b1 : ((Int.tmod a1 2) != 1) = false := bne_eq_false_iff_eq.mpr c17
          clear c17
          (first | rw [c17b0] | (simp only [i64_w, i32_w]; rw [c17b0]) | skip)
          have H' := Aside0.mk H
          clear H
          go_wp2
          go_meet
          case rel => exact ⟨_, (wrap64 (-(wrap64 (1 + t483)))), (wrap64 (-(wrap64 (1 + t484)))), (by first | rfl | (simp; done) | (simp [*]; done)), (by first | rfl | (simp; done) | (simp [*]; done)), H', ⟨by have := HJ5.out; first | omega | exact Nat.le_refl _⟩, ⟨by (with_reducible repeat (first | apply Kd.R_alloc | apply Kd.R_drewN | apply Kd.R_drew)); exact HO_10.out⟩, ⟨by repeat (first | (with_reducible first | exact HB.out | apply below_alloc | apply pw_below_drewN | apply below_drew1) | exact HB.out)⟩⟩
        · rw [if_neg c17] at H
          have c17b0 : ((Int.tmod a1 2) == 1) = false := beq_eq_false_iff_ne.mpr c17
          have c17b1 : ((Int.tmod a1 2) != 1) = true := bne_iff_ne.mpr c17
          (first | rw [c17b0] | (simp only [i64_w, i32_w]; rw [c17b0]) | skip)
          have H' := Aside0.mk H
          clear H
          go_wp2
          go_meet
          case rel => exact ⟨_, (wrap64 (1 + t483)), (wrap64 (1 + t484)), (by first | rfl | (simp; done) | (simp [*]; done)), (by first | rfl | (simp; done) | (simp [*]; done)), H', ⟨by have := HJ5.out; first | omega | exact Nat.le_refl _⟩, ⟨by (with_reducible repeat (first | apply Kd.R_alloc | apply Kd.R_drewN | apply Kd.R_drew)); exact HO_10.out⟩, ⟨by repeat (first | (with_reducible first | exact HB.out | apply below_alloc | apply pw_below_drewN | apply below_drew1) | exact HB.out)⟩⟩
      case rest =>
        clear HC16
        try clear c1
        try clear p2
        try clear c3
        try clear p4
        try clear q4
        try clear hx4
        try clear p6
        try clear c8
        try clear c8b0
        try clear c9
        try clear c9b0
        try clear c10
        try clear c10b0
        try clear c12
        try clear c17
        try clear c17b0
        try clear c17b1
        try clear hx478_0
        try clear p2
        try clear p4
        try clear p478
        try clear p6
        try clear q4
        try clear q478
        obtain ⟨kq, x12_15, x13_15, rfl, rfl, HA, HJ15, HO_10, HB⟩ := hcut
        cases kq with
        | zero => exact absurd HA.out (by simp [dioramalaw08_CalendarAgain.j2])
        | succ kj15 =>
          have H := HA.out
          clear HA
          simp only [dioramalaw08_CalendarAgain.j2] at H
          replace H := Option.bind_eq_some_iff.mp H
          obtain ⟨⟨t485, t486⟩, A180, H⟩ := H
          replace H : ((calendar_Work.f kj15 t477 (wrap64 (x12_15 + x13_15)) x10_5).bind fun bt487 => (if t486 = 0 then (dioramalaw08_CalendarAgain.j3 kj15 t477 x10_5 x12_15 x13_15 t485 t486 bt487.1 bt487.2 (bt487.2 != 0)) else (dioramalaw08_CalendarAgain.j3 kj15 t477 x10_5 x12_15 x13_15 t485 t486 bt487.1 bt487.2 true))) = some r := H
          have A18 := Aside0.mk A180
          clear A180
          replace H := Option.bind_eq_some_iff.mp H
          obtain ⟨⟨t487, t488⟩, A190, H⟩ := H
          replace H : (if t486 = 0 then (dioramalaw08_CalendarAgain.j3 kj15 t477 x10_5 x12_15 x13_15 t485 t486 t487 t488 (t488 != 0)) else (dioramalaw08_CalendarAgain.j3 kj15 t477 x10_5 x12_15 x13_15 t485 t486 t487 t488 true)) = some r := H
          have A19 := Aside0.mk A190
          clear A190
          have HC20 := Aside0.mk H
          clear H
          obtain ⟨Ao21, co21, eo21⟩ := Kd.R_slice HO_10.out
          subst eo21
          go_upto_region 14 with (first | ((with_reducible refine gate_callee (f := 32) rfl ?_); refine goesL_ (some 62) rfl rfl Tryd.func32 (by kernel_rfl) rfl #[.int .i64 t477, .int .i64 x12_15, .slice Ao21 x10_5.length co21] rfl (by (try simp only [List.map_toArray, List.map_cons, List.map_nil]); first | done | rfl | (simp only [List.length_drop, List.length_take]; rfl)) ?_; (with_reducible refine (calendar_Work.calls kj15 t477 x12_15 _ _ x10_5 t485 t486 _ ?side1 ?side2 A18.out).mono ?_); (case side1 => repeat (first | exact (Kd.R_reads' HO_10.out).2.2 | (with_reducible refine Kd.C_alloc ?_ _) | (with_reducible refine Kd.C_drewN ?_ _) | (with_reducible refine Kd.C_drew ?_))); (case side2 => exact (Kd.R_reads' HO_10.out).2.1); rintro e w' ⟨rfl, ⟨nd, rfl⟩⟩; refine ⟨_, rfl, ?_⟩) | ((with_reducible refine gate_callee (f := 32) rfl ?_); refine goesL_ (some 71) rfl rfl Tryd.func32 (by kernel_rfl) rfl #[.int .i64 t477, .int .i64 (wrap64 (x12_15 + x13_15)), .slice Ao21 x10_5.length co21] rfl (by (try simp only [List.map_toArray, List.map_cons, List.map_nil]); first | done | rfl | (simp only [List.length_drop, List.length_take]; rfl)) ?_; (with_reducible refine (calendar_Work.calls kj15 t477 (wrap64 (x12_15 + x13_15)) _ _ x10_5 t487 t488 _ ?side1 ?side2 A19.out).mono ?_); (case side1 => repeat (first | exact (Kd.R_reads' HO_10.out).2.2 | (with_reducible refine Kd.C_alloc ?_ _) | (with_reducible refine Kd.C_drewN ?_ _) | (with_reducible refine Kd.C_drew ?_))); (case side2 => exact (Kd.R_reads' HO_10.out).2.1); rintro e w' ⟨rfl, ⟨nd, rfl⟩⟩; refine ⟨_, rfl, ?_⟩))
          (try simp only [Act.put, List.setIfInBounds_toArray, List.set_cons_zero, List.set_cons_succ])
          go_cut [79] (fun v79 wc => ∃ (kq : Nat) (x79_19 : Bool), v79 = .bool x79_19 ∧ Aside0 (dioramalaw08_CalendarAgain.j3 kq t477 x10_5 x12_15 x13_15 t485 t486 t487 t488 x79_19 = some r) ∧ Aside0 (kq ≤ kj15) ∧ Aside0 (Kd.R (Kd.int .i64) 3 wc w.heap.size (fun _ => True) (.slice Ao21 x10_5.length co21) x10_5) ∧ Aside0 (Below w.heap.size w wc))
          case first =>
            have H := HC20.out
            clear HC20
            by_cases c22 : t486 = 0
            · rw [if_pos c22] at H
              have c22b0 : (t486 == 0) = true := beq_iff_eq.mpr c22
              have c22b1 : (t486 != 0) = false := bne_eq_false_iff_eq.mpr c22
              clear c22
              (first | rw [c22b0] | (simp only [i64_w, i32_w]; rw [c22b0]) | skip)
              have H' := Aside0.mk H
              clear H
              go_wp2
              go_meet
              case rel => exact ⟨_, ((t488 != 0)), (by first | rfl | (simp; done) | (simp [*]; done)), H', ⟨by have := HJ5.out; have := HJ15.out; first | omega | exact Nat.le_refl _⟩, ⟨by (with_reducible repeat (first | apply Kd.R_alloc | apply Kd.R_drewN | apply Kd.R_drew)); exact HO_10.out⟩, ⟨by repeat (first | (with_reducible first | exact HB.out | apply below_alloc | apply pw_below_drewN | apply below_drew1) | exact HB.out)⟩⟩
            · rw [if_neg c22] at H
              have c22b0 : (t486 == 0) = false := beq_eq_false_iff_ne.mpr c22
              have c22b1 : (t486 != 0) = true := bne_iff_ne.mpr c22
              (first | rw [c22b0] | (simp only [i64_w, i32_w]; rw [c22b0]) | skip)
              have H' := Aside0.mk H
              clear H
              go_wp2
              go_meet
              case rel => exact ⟨_, (true), (by first | rfl | (simp; done) | (simp [*]; done)), H', ⟨by have := HJ5.out; have := HJ15.out; first | omega | exact Nat.le_refl _⟩, ⟨by (with_reducible repeat (first | apply Kd.R_alloc | apply Kd.R_drewN | apply Kd.R_drew)); exact HO_10.out⟩, ⟨by repeat (first | (with_reducible first | exact HB.out | apply below_alloc | apply pw_below_drewN | apply below_drew1) | exact HB.out)⟩⟩
          case rest =>
            clear HC20
            try clear c1
            try clear c2
            try clear p2
            try clear c3
            try clear p4
            try clear q4
            try clear hx4
            try clear p6
            try clear c8
            try clear c8b0
            try clear c9
            try clear c9b0
            try clear c10
            try clear c10b0
            try clear c12
            try clear c17
            try clear c17b0
            try clear c17b1
            try clear c22
            try clear c22b0
            try clear c22b1
            try clear hx478_0
            try clear p2
            try clear p4
            try clear p478
            try clear p6
            try clear q4
            try clear q478
            obtain ⟨kq, x79_19, rfl, HA, HJ19, HO_10, HB⟩ := hcut
            cases kq with
            | zero => exact absurd HA.out (by simp [dioramalaw08_CalendarAgain.j3])
            | succ kj19 =>
              have H := HA.out
              clear HA
              simp only [dioramalaw08_CalendarAgain.j3] at H
              by_cases c23 : x79_19 = true
              · subst c23
                have H1 : (if t486 = 5 then (if t488 = 5 then ((dioramalaw08_lives.f kj19).bind fun t489 => (some t489)) else (some false)) else (if t486 = 0 then (if t488 = 5 then ((dioramalaw08_lives.f kj19).bind fun t490 => (some t490)) else (some false)) else (some false))) = some r := by rw [if_pos rfl] at H; exact H
                clear H
                have H := H1
                clear H1
                by_cases c24 : t486 = 5
                · rw [if_pos c24] at H
                  have c24b0 : (t486 == 5) = true := beq_iff_eq.mpr c24
                  have c24b1 : (t486 != 5) = false := bne_eq_false_iff_eq.mpr c24
                  clear c24
                  by_cases c25 : t488 = 5
                  · rw [if_pos c25] at H
                    have c25b0 : (t488 == 5) = true := beq_iff_eq.mpr c25
                    have c25b1 : (t488 != 5) = false := bne_eq_false_iff_eq.mpr c25
                    clear c25
                    replace H := Option.bind_eq_some_iff.mp H
                    obtain ⟨t489, A260, H⟩ := H
                    replace H : (some t489) = some r := H
                    have A26 := Aside0.mk A260
                    clear A260
                    obtain rfl := Option.some.inj H
                    go_wp2_with (first | (go_at_call 20; (with_reducible refine (dioramalaw08_lives.calls (hv := hv.step (by repeat (first | (with_reducible first | exact HB.out | apply below_alloc | apply pw_below_drewN | apply below_drew1) | exact HB.out))) kj19  t489 _ A26.out).mono ?_); rintro e w27 ⟨rfl, hb⟩; have n0_ := Aside0.mk (Kd.R_below (by (with_reducible repeat (first | apply Kd.R_alloc | apply Kd.R_drewN | apply Kd.R_drew)); exact HO_10.out) hb); have n1_ := Aside0.mk (below_step (by repeat (first | (with_reducible first | exact HB.out | apply below_alloc | apply pw_below_drewN | apply below_drew1) | exact HB.out)) hb); clear HO_10; clear HB; have HO_10 := n0_; have HB := n1_; clear n0_ n1_; (try clear hb); (try clear hb2); (try clear hk); (try clear hi)))
                    go_ret
                    exact ⟨by first | rfl | (simp [errW_none, errW_some] <;> rfl) | (simp [*, errW_none, errW_some] <;> rfl), by repeat (first | (with_reducible first | exact HB.out | apply below_alloc | apply pw_below_drewN | apply below_drew1) | exact HB.out)⟩
                  · rw [if_neg c25] at H
                    have c25b0 : (t488 == 5) = false := beq_eq_false_iff_ne.mpr c25
                    have c25b1 : (t488 != 5) = true := bne_iff_ne.mpr c25
                    obtain rfl := Option.some.inj H
                    go_wp2
                    go_ret
                    exact ⟨by first | rfl | (simp [errW_none, errW_some] <;> rfl) | (simp [*, errW_none, errW_some] <;> rfl), by repeat (first | (with_reducible first | exact HB.out | apply below_alloc | apply pw_below_drewN | apply below_drew1) | exact HB.out)⟩
                · rw [if_neg c24] at H
                  have c24b0 : (t486 == 5) = false := beq_eq_false_iff_ne.mpr c24
                  have c24b1 : (t486 != 5) = true := bne_iff_ne.mpr c24
                  by_cases c28 : t486 = 0
                  · rw [if_pos c28] at H
                    have c28b0 : (t486 == 0) = true := beq_iff_eq.mpr c28
                    have c28b1 : (t486 != 0) = false := bne_eq_false_iff_eq.mpr c28
                    clear c28
                    by_cases c29 : t488 = 5
                    · rw [if_pos c29] at H
                      have c29b0 : (t488 == 5) = true := beq_iff_eq.mpr c29
                      have c29b1 : (t488 != 5) = false := bne_eq_false_iff_eq.mpr c29
                      clear c29
                      replace H := Option.bind_eq_some_iff.mp H
                      obtain ⟨t490, A300, H⟩ := H
                      replace H : (some t490) = some r := H
                      have A30 := Aside0.mk A300
                      clear A300
                      obtain rfl := Option.some.inj H
                      go_wp2_with (first | (go_at_call 20; (with_reducible refine (dioramalaw08_lives.calls (hv := hv.step (by repeat (first | (with_reducible first | exact HB.out | apply below_alloc | apply pw_below_drewN | apply below_drew1) | exact HB.out))) kj19  t490 _ A30.out).mono ?_); rintro e w31 ⟨rfl, hb⟩; have n0_ := Aside0.mk (Kd.R_below (by (with_reducible repeat (first | apply Kd.R_alloc | apply Kd.R_drewN | apply Kd.R_drew)); exact HO_10.out) hb); have n1_ := Aside0.mk (below_step (by repeat (first | (with_reducible first | exact HB.out | apply below_alloc | apply pw_below_drewN | apply below_drew1) | exact HB.out)) hb); clear HO_10; clear HB; have HO_10 := n0_; have HB := n1_; clear n0_ n1_; (try clear hb); (try clear hb2); (try clear hk); (try clear hi)))
                      go_ret
                      exact ⟨by first | rfl | (simp [errW_none, errW_some] <;> rfl) | (simp [*, errW_none, errW_some] <;> rfl), by repeat (first | (with_reducible first | exact HB.out | apply below_alloc | apply pw_below_drewN | apply below_drew1) | exact HB.out)⟩
                    · rw [if_neg c29] at H
                      have c29b0 : (t488 == 5) = false := beq_eq_false_iff_ne.mpr c29
                      have c29b1 : (t488 != 5) = true := bne_iff_ne.mpr c29
                      obtain rfl := Option.some.inj H
                      go_wp2
                      go_ret
                      exact ⟨by first | rfl | (simp [errW_none, errW_some] <;> rfl) | (simp [*, errW_none, errW_some] <;> rfl), by repeat (first | (with_reducible first | exact HB.out | apply below_alloc | apply pw_below_drewN | apply below_drew1) | exact HB.out)⟩
                  · rw [if_neg c28] at H
                    have c28b0 : (t486 == 0) = false := beq_eq_false_iff_ne.mpr c28
                    have c28b1 : (t486 != 0) = true := bne_iff_ne.mpr c28
                    obtain rfl := Option.some.inj H
                    go_wp2
                    go_ret
                    exact ⟨by first | rfl | (simp [errW_none, errW_some] <;> rfl) | (simp [*, errW_none, errW_some] <;> rfl), by repeat (first | (with_reducible first | exact HB.out | apply below_alloc | apply pw_below_drewN | apply below_drew1) | exact HB.out)⟩
              · replace c23 := Bool.eq_false_iff.mpr c23
                subst c23
                have H1 : ((calendar_Work.f kj19 t485 x13_15 x10_5).bind fun bt491 => (if bt491.2 = 0 then (if bt491.1 = t487 then ((dioramaref08_Working.f kj19 t485 x10_5).bind fun t493 => (if t493 = true then ((calendar_Weekday.f t487).bind fun t494 => (dioramalaw08_CalendarAgain.j4 kj19 t477 x10_5 x12_15 t485 (decide (t494 > 4)))) else (dioramalaw08_CalendarAgain.j4 kj19 t477 x10_5 x12_15 t485 true))) else (dioramalaw08_CalendarAgain.j4 kj19 t477 x10_5 x12_15 t485 true)) else (dioramalaw08_CalendarAgain.j4 kj19 t477 x10_5 x12_15 t485 true))) = some r := by rw [if_neg (show ¬ (false = true) by decide)] at H; exact H
                clear H
                have H := H1
                clear H1
                replace H := Option.bind_eq_some_iff.mp H
                obtain ⟨⟨t491, t492⟩, A320, H⟩ := H
                replace H : (if t492 = 0 then (if t491 = t487 then ((dioramaref08_Working.f kj19 t485 x10_5).bind fun t493 => (if t493 = true then ((calendar_Weekday.f t487).bind fun t494 => (dioramalaw08_CalendarAgain.j4 kj19 t477 x10_5 x12_15 t485 (decide (t494 > 4)))) else (dioramalaw08_CalendarAgain.j4 kj19 t477 x10_5 x12_15 t485 true))) else (dioramalaw08_CalendarAgain.j4 kj19 t477 x10_5 x12_15 t485 true)) else (dioramalaw08_CalendarAgain.j4 kj19 t477 x10_5 x12_15 t485 true)) = some r := H
                have A32 := Aside0.mk A320
                clear A320
                have HC33 := Aside0.mk H
                clear H
                go_upto_region 17 with (first | ((with_reducible refine gate_callee (f := 32) rfl ?_); refine goesL_ (some 97) rfl rfl Tryd.func32 (by kernel_rfl) rfl #[.int .i64 t485, .int .i64 x13_15, .slice Ao21 x10_5.length co21] rfl (by (try simp only [List.map_toArray, List.map_cons, List.map_nil]); first | done | rfl | (simp only [List.length_drop, List.length_take]; rfl)) ?_; (with_reducible refine (calendar_Work.calls kj19 t485 x13_15 _ _ x10_5 t491 t492 _ ?side1 ?side2 A32.out).mono ?_); (case side1 => repeat (first | exact (Kd.R_reads' HO_10.out).2.2 | (with_reducible refine Kd.C_alloc ?_ _) | (with_reducible refine Kd.C_drewN ?_ _) | (with_reducible refine Kd.C_drew ?_))); (case side2 => exact (Kd.R_reads' HO_10.out).2.1); rintro e w' ⟨rfl, ⟨nd, rfl⟩⟩; refine ⟨_, rfl, ?_⟩))
                (try simp only [Act.put, List.setIfInBounds_toArray, List.set_cons_zero, List.set_cons_succ])
                go_cut [117] (fun v117 wc => ∃ (kq : Nat) (x117_32 : Bool), v117 = .bool x117_32 ∧ Aside0 (dioramalaw08_CalendarAgain.j4 kq t477 x10_5 x12_15 t485 x117_32 = some r) ∧ Aside0 (kq ≤ kj19) ∧ Aside0 (Kd.R (Kd.int .i64) 3 wc w.heap.size (fun _ => True) (.slice Ao21 x10_5.length co21) x10_5) ∧ Aside0 (Below w.heap.size w wc))
                case first =>
                  have H := HC33.out
                  clear HC33
                  by_cases c34 : t492 = 0
                  · rw [if_pos c34] at H
                    have c34b0 : (t492 == 0) = true := beq_iff_eq.mpr c34
                    have c34b1 : (t492 != 0) = false := bne_eq_false_iff_eq.mpr c34
                    clear c34
                    (first | rw [c34b0] | (simp only [i64_w, i32_w]; rw [c34b0]) | skip)
                    by_cases c35 : t491 = t487
                    · rw [if_pos c35] at H
                      have c35b0 : (t491 == t487) = true := beq_iff_eq.mpr c35
                      have c35b1 : (t491 != t487) = false := bne_eq_false_iff_eq.mpr c35
                      clear c35
                      replace H := Option.bind_eq_some_iff.mp H
                      obtain ⟨t493, A360, H⟩ := H
                      replace H : (if t493 = true then ((calendar_Weekday.f t487).bind fun t494 => (dioramalaw08_CalendarAgain.j4 kj19 t477 x10_5 x12_15 t485 (decide (t494 > 4)))) else (dioramalaw08_CalendarAgain.j4 kj19 t477 x10_5 x12_15 t485 true)) = some r := H
                      have A36 := Aside0.mk A360
                      clear A360
                      by_cases c37 : t493 = true
                      · subst c37
                        have H1 : ((calendar_Weekday.f t487).bind fun t494 => (dioramalaw08_CalendarAgain.j4 kj19 t477 x10_5 x12_15 t485 (decide (t494 > 4)))) = some r := by rw [if_pos rfl] at H; exact H
                        clear H
                        have H := H1
                        clear H1
                        replace H := Option.bind_eq_some_iff.mp H
                        obtain ⟨t494, A380, H⟩ := H
                        replace H : (dioramalaw08_CalendarAgain.j4 kj19 t477 x10_5 x12_15 t485 (decide (t494 > 4))) = some r := H
                        have A38 := Aside0.mk A380
                        clear A380
                        have H' := Aside0.mk H
                        clear H
                        go_wp2_with (first | (go_at_call 35; (with_reducible refine (dioramaref08_Working.calls kj19 t485 _ _ x10_5 true _ ?side1 ?side2 A36.out).mono ?_); (case side1 => repeat (first | exact (Kd.R_reads' HO_10.out).2.2 | (with_reducible refine Kd.C_alloc ?_ _) | (with_reducible refine Kd.C_drewN ?_ _) | (with_reducible refine Kd.C_drew ?_))); (case side2 => exact (Kd.R_reads' HO_10.out).2.1); rintro e w' ⟨rfl, ⟨nd, rfl⟩⟩) | (go_at_call 13; (with_reducible refine (calendar_Weekday.calls t487 t494 _ A38.out).mono ?_); rintro e w' ⟨rfl, ⟨nd, rfl⟩⟩))
                        go_meet
                        case rel => exact ⟨_, (decide (t494 > 4)), (by first | rfl | (simp; done) | (simp [*]; done)), H', ⟨by have := HJ5.out; have := HJ15.out; have := HJ19.out; first | omega | exact Nat.le_refl _⟩, ⟨by (with_reducible repeat (first | apply Kd.R_alloc | apply Kd.R_drewN | apply Kd.R_drew)); exact HO_10.out⟩, ⟨by repeat (first | (with_reducible first | exact HB.out | apply below_alloc | apply pw_below_drewN | apply below_drew1) | exact HB.out)⟩⟩
                      · replace c37 := Bool.eq_false_iff.mpr c37
                        subst c37
                        have H1 : (dioramalaw08_CalendarAgain.j4 kj19 t477 x10_5 x12_15 t485 true) = some r := by rw [if_neg (show ¬ (false = true) by decide)] at H; exact H
                        clear H
                        have H := H1
                        clear H1
                        have H' := Aside0.mk H
                        clear H
                        go_wp2_with (first | (go_at_call 35; (with_reducible refine (dioramaref08_Working.calls kj19 t485 _ _ x10_5 false _ ?side1 ?side2 A36.out).mono ?_); (case side1 => repeat (first | exact (Kd.R_reads' HO_10.out).2.2 | (with_reducible refine Kd.C_alloc ?_ _) | (with_reducible refine Kd.C_drewN ?_ _) | (with_reducible refine Kd.C_drew ?_))); (case side2 => exact (Kd.R_reads' HO_10.out).2.1); rintro e w' ⟨rfl, ⟨nd, rfl⟩⟩))
                        go_meet
                        case rel => exact ⟨_, (true), (by first | rfl | (simp; done) | (simp [*]; done)), H', ⟨by have := HJ5.out; have := HJ15.out; have := HJ19.out; first | omega | exact Nat.le_refl _⟩, ⟨by (with_reducible repeat (first | apply Kd.R_alloc | apply Kd.R_drewN | apply Kd.R_drew)); exact HO_10.out⟩, ⟨by repeat (first | (with_reducible first | exact HB.out | apply below_alloc | apply pw_below_drewN | apply below_drew1) | exact HB.out)⟩⟩
                    · rw [if_neg c35] at H
                      have c35b0 : (t491 == t487) = false := beq_eq_false_iff_ne.mpr c35
                      have c35b1 : (t491 != t487) = true := bne_iff_ne.mpr c35
                      have H' := Aside0.mk H
                      clear H
                      go_wp2
                      go_meet
                      case rel => exact ⟨_, (true), (by first | rfl | (simp; done) | (simp [*]; done)), H', ⟨by have := HJ5.out; have := HJ15.out; have := HJ19.out; first | omega | exact Nat.le_refl _⟩, ⟨by (with_reducible repeat (first | apply Kd.R_alloc | apply Kd.R_drewN | apply Kd.R_drew)); exact HO_10.out⟩, ⟨by repeat (first | (with_reducible first | exact HB.out | apply below_alloc | apply pw_below_drewN | apply below_drew1) | exact HB.out)⟩⟩
                  · rw [if_neg c34] at H
                    have c34b0 : (t492 == 0) = false := beq_eq_false_iff_ne.mpr c34
                    have c34b1 : (t492 != 0) = true := bne_iff_ne.mpr c34
                    (first | rw [c34b0] | (simp only [i64_w, i32_w]; rw [c34b0]) | skip)
                    have H' := Aside0.mk H
                    clear H
                    go_wp2
                    go_meet
                    case rel => exact ⟨_, (true), (by first | rfl | (simp; done) | (simp [*]; done)), H', ⟨by have := HJ5.out; have := HJ15.out; have := HJ19.out; first | omega | exact Nat.le_refl _⟩, ⟨by (with_reducible repeat (first | apply Kd.R_alloc | apply Kd.R_drewN | apply Kd.R_drew)); exact HO_10.out⟩, ⟨by repeat (first | (with_reducible first | exact HB.out | apply below_alloc | apply pw_below_drewN | apply below_drew1) | exact HB.out)⟩⟩
                case rest =>
                  clear HC33
                  try clear c1
                  try clear c2
                  try clear p2
                  try clear c3
                  try clear p4
                  try clear q4
                  try clear hx4
                  try clear p6
                  try clear c8
                  try clear c8b0
                  try clear c9
                  try clear c9b0
                  try clear c10
                  try clear c10b0
                  try clear c12
                  try clear c17
                  try clear c17b0
                  try clear c17b1
                  try clear c22
                  try clear c22b0
                  try clear c22b1
                  try clear c23
                  try clear c24
                  try clear c24b0
                  try clear c24b1
                  try clear c25
                  try clear c25b0
                  try clear c25b1
                  try clear c28
                  try clear c28b0
                  try clear c28b1
                  try clear c29
                  try clear c29b0
                  try clear c29b1
                  try clear c32
                  try clear c34
                  try clear c34b0
                  try clear c34b1
                  try clear c35
                  try clear c35b0
                  try clear c35b1
                  try clear c37
                  try clear hx478_0
                  try clear p2
                  try clear p4
                  try clear p478
                  try clear p6
                  try clear q4
                  try clear q478
                  obtain ⟨kq, x117_32, rfl, HA, HJ32, HO_10, HB⟩ := hcut
                  cases kq with
                  | zero => exact absurd HA.out (by simp [dioramalaw08_CalendarAgain.j4])
                  | succ kj32 =>
                    have H := HA.out
                    clear HA
                    simp only [dioramalaw08_CalendarAgain.j4] at H
                    by_cases c39 : x117_32 = true
                    · subst c39
                      have H1 : (some false) = some r := by rw [if_pos rfl] at H; exact H
                      clear H
                      have H := H1
                      clear H1
                      obtain rfl := Option.some.inj H
                      go_wp2
                      go_ret
                      exact ⟨by first | rfl | (simp [errW_none, errW_some] <;> rfl) | (simp [*, errW_none, errW_some] <;> rfl), by repeat (first | (with_reducible first | exact HB.out | apply below_alloc | apply pw_below_drewN | apply below_drew1) | exact HB.out)⟩
                    · replace c39 := Bool.eq_false_iff.mpr c39
                      subst c39
                      have H1 : ((calendar_Work.f kj32 t485 (wrap64 (-x12_15)) x10_5).bind fun bt495 => ((dioramaref08_Working.f kj32 t477 x10_5).bind fun t497 => (if t497 = true then (if bt495.2 = 0 then (if bt495.1 = t477 then ((dioramalaw08_lives.f kj32).bind fun t498 => (some t498)) else (some false)) else (some false)) else ((dioramalaw08_lives.f kj32).bind fun t499 => (some t499))))) = some r := by rw [if_neg (show ¬ (false = true) by decide)] at H; exact H
                      clear H
                      have H := H1
                      clear H1
                      replace H := Option.bind_eq_some_iff.mp H
                      obtain ⟨⟨t495, t496⟩, A400, H⟩ := H
                      replace H : ((dioramaref08_Working.f kj32 t477 x10_5).bind fun t497 => (if t497 = true then (if t496 = 0 then (if t495 = t477 then ((dioramalaw08_lives.f kj32).bind fun t498 => (some t498)) else (some false)) else (some false)) else ((dioramalaw08_lives.f kj32).bind fun t499 => (some t499)))) = some r := H
                      have A40 := Aside0.mk A400
                      clear A400
                      replace H := Option.bind_eq_some_iff.mp H
                      obtain ⟨t497, A410, H⟩ := H
                      replace H : (if t497 = true then (if t496 = 0 then (if t495 = t477 then ((dioramalaw08_lives.f kj32).bind fun t498 => (some t498)) else (some false)) else (some false)) else ((dioramalaw08_lives.f kj32).bind fun t499 => (some t499))) = some r := H
                      have A41 := Aside0.mk A410
                      clear A410
                      by_cases c42 : t497 = true
                      · subst c42
                        have H1 : (if t496 = 0 then (if t495 = t477 then ((dioramalaw08_lives.f kj32).bind fun t498 => (some t498)) else (some false)) else (some false)) = some r := by rw [if_pos rfl] at H; exact H
                        clear H
                        have H := H1
                        clear H1
                        by_cases c43 : t496 = 0
                        · rw [if_pos c43] at H
                          have c43b0 : (t496 == 0) = true := beq_iff_eq.mpr c43
                          have c43b1 : (t496 != 0) = false := bne_eq_false_iff_eq.mpr c43
                          clear c43
                          by_cases c44 : t495 = t477
                          · rw [if_pos c44] at H
                            have c44b0 : (t495 == t477) = true := beq_iff_eq.mpr c44
                            have c44b1 : (t495 != t477) = false := bne_eq_false_iff_eq.mpr c44
                            clear c44
                            replace H := Option.bind_eq_some_iff.mp H
                            obtain ⟨t498, A450, H⟩ := H
                            replace H : (some t498) = some r := H
                            have A45 := Aside0.mk A450
                            clear A450
                            obtain rfl := Option.some.inj H
                            go_wp2_with (first | ((with_reducible refine gate_callee (f := 32) rfl ?_); refine goesL_ (some 123) rfl rfl Tryd.func32 (by kernel_rfl) rfl #[.int .i64 t485, .int .i64 (wrap64 (-x12_15)), .slice Ao21 x10_5.length co21] rfl (by (try simp only [List.map_toArray, List.map_cons, List.map_nil]); first | done | rfl | (simp only [List.length_drop, List.length_take]; rfl)) ?_; (with_reducible refine (calendar_Work.calls kj32 t485 (wrap64 (-x12_15)) _ _ x10_5 t495 t496 _ ?side1 ?side2 A40.out).mono ?_); (case side1 => repeat (first | exact (Kd.R_reads' HO_10.out).2.2 | (with_reducible refine Kd.C_alloc ?_ _) | (with_reducible refine Kd.C_drewN ?_ _) | (with_reducible refine Kd.C_drew ?_))); (case side2 => exact (Kd.R_reads' HO_10.out).2.1); rintro e w' ⟨rfl, ⟨nd, rfl⟩⟩; refine ⟨_, rfl, ?_⟩) | ((with_reducible refine gate_callee (f := 35) rfl ?_); refine goesL_ (some 128) rfl rfl Tryd.func35 (by kernel_rfl) rfl #[.int .i64 t477, .slice Ao21 x10_5.length co21] rfl (by (try simp only [List.map_toArray, List.map_cons, List.map_nil]); first | done | rfl | (simp only [List.length_drop, List.length_take]; rfl)) ?_; (with_reducible refine (dioramaref08_Working.calls kj32 t477 _ _ x10_5 true _ ?side1 ?side2 A41.out).mono ?_); (case side1 => repeat (first | exact (Kd.R_reads' HO_10.out).2.2 | (with_reducible refine Kd.C_alloc ?_ _) | (with_reducible refine Kd.C_drewN ?_ _) | (with_reducible refine Kd.C_drew ?_))); (case side2 => exact (Kd.R_reads' HO_10.out).2.1); rintro e w' ⟨rfl, ⟨nd, rfl⟩⟩; refine ⟨_, rfl, ?_⟩) | (go_at_call 20; (with_reducible refine (dioramalaw08_lives.calls (hv := hv.step (by repeat (first | (with_reducible first | exact HB.out | apply below_alloc | apply pw_below_drewN | apply below_drew1) | exact HB.out))) kj32  t498 _ A45.out).mono ?_); rintro e w46 ⟨rfl, hb⟩; have n0_ := Aside0.mk (Kd.R_below (by (with_reducible repeat (first | apply Kd.R_alloc | apply Kd.R_drewN | apply Kd.R_drew)); exact HO_10.out) hb); have n1_ := Aside0.mk (below_step (by repeat (first | (with_reducible first | exact HB.out | apply below_alloc | apply pw_below_drewN | apply below_drew1) | exact HB.out)) hb); clear HO_10; clear HB; have HO_10 := n0_; have HB := n1_; clear n0_ n1_; (try clear hb); (try clear hb2); (try clear hk); (try clear hi)))
                            go_ret
                            exact ⟨by first | rfl | (simp [errW_none, errW_some] <;> rfl) | (simp [*, errW_none, errW_some] <;> rfl), by repeat (first | (with_reducible first | exact HB.out | apply below_alloc | apply pw_below_drewN | apply below_drew1) | exact HB.out)⟩
                          · rw [if_neg c44] at H
                            have c44b0 : (t495 == t477) = false := beq_eq_false_iff_ne.mpr c44
                            have c44b1 : (t495 != t477) = true := bne_iff_ne.mpr c44
                            obtain rfl := Option.some.inj H
                            go_wp2_with (first | ((with_reducible refine gate_callee (f := 32) rfl ?_); refine goesL_ (some 123) rfl rfl Tryd.func32 (by kernel_rfl) rfl #[.int .i64 t485, .int .i64 (wrap64 (-x12_15)), .slice Ao21 x10_5.length co21] rfl (by (try simp only [List.map_toArray, List.map_cons, List.map_nil]); first | done | rfl | (simp only [List.length_drop, List.length_take]; rfl)) ?_; (with_reducible refine (calendar_Work.calls kj32 t485 (wrap64 (-x12_15)) _ _ x10_5 t495 t496 _ ?side1 ?side2 A40.out).mono ?_); (case side1 => repeat (first | exact (Kd.R_reads' HO_10.out).2.2 | (with_reducible refine Kd.C_alloc ?_ _) | (with_reducible refine Kd.C_drewN ?_ _) | (with_reducible refine Kd.C_drew ?_))); (case side2 => exact (Kd.R_reads' HO_10.out).2.1); rintro e w' ⟨rfl, ⟨nd, rfl⟩⟩; refine ⟨_, rfl, ?_⟩) | ((with_reducible refine gate_callee (f := 35) rfl ?_); refine goesL_ (some 128) rfl rfl Tryd.func35 (by kernel_rfl) rfl #[.int .i64 t477, .slice Ao21 x10_5.length co21] rfl (by (try simp only [List.map_toArray, List.map_cons, List.map_nil]); first | done | rfl | (simp only [List.length_drop, List.length_take]; rfl)) ?_; (with_reducible refine (dioramaref08_Working.calls kj32 t477 _ _ x10_5 true _ ?side1 ?side2 A41.out).mono ?_); (case side1 => repeat (first | exact (Kd.R_reads' HO_10.out).2.2 | (with_reducible refine Kd.C_alloc ?_ _) | (with_reducible refine Kd.C_drewN ?_ _) | (with_reducible refine Kd.C_drew ?_))); (case side2 => exact (Kd.R_reads' HO_10.out).2.1); rintro e w' ⟨rfl, ⟨nd, rfl⟩⟩; refine ⟨_, rfl, ?_⟩))
                            go_ret
                            exact ⟨by first | rfl | (simp [errW_none, errW_some] <;> rfl) | (simp [*, errW_none, errW_some] <;> rfl), by repeat (first | (with_reducible first | exact HB.out | apply below_alloc | apply pw_below_drewN | apply below_drew1) | exact HB.out)⟩
                        · rw [if_neg c43] at H
                          have c43b0 : (t496 == 0) = false := beq_eq_false_iff_ne.mpr c43
                          have c43b1 : (t496 != 0) = true := bne_iff_ne.mpr c43
                          obtain rfl := Option.some.inj H
                          go_wp2_with (first | ((with_reducible refine gate_callee (f := 32) rfl ?_); refine goesL_ (some 123) rfl rfl Tryd.func32 (by kernel_rfl) rfl #[.int .i64 t485, .int .i64 (wrap64 (-x12_15)), .slice Ao21 x10_5.length co21] rfl (by (try simp only [List.map_toArray, List.map_cons, List.map_nil]); first | done | rfl | (simp only [List.length_drop, List.length_take]; rfl)) ?_; (with_reducible refine (calendar_Work.calls kj32 t485 (wrap64 (-x12_15)) _ _ x10_5 t495 t496 _ ?side1 ?side2 A40.out).mono ?_); (case side1 => repeat (first | exact (Kd.R_reads' HO_10.out).2.2 | (with_reducible refine Kd.C_alloc ?_ _) | (with_reducible refine Kd.C_drewN ?_ _) | (with_reducible refine Kd.C_drew ?_))); (case side2 => exact (Kd.R_reads' HO_10.out).2.1); rintro e w' ⟨rfl, ⟨nd, rfl⟩⟩; refine ⟨_, rfl, ?_⟩) | ((with_reducible refine gate_callee (f := 35) rfl ?_); refine goesL_ (some 128) rfl rfl Tryd.func35 (by kernel_rfl) rfl #[.int .i64 t477, .slice Ao21 x10_5.length co21] rfl (by (try simp only [List.map_toArray, List.map_cons, List.map_nil]); first | done | rfl | (simp only [List.length_drop, List.length_take]; rfl)) ?_; (with_reducible refine (dioramaref08_Working.calls kj32 t477 _ _ x10_5 true _ ?side1 ?side2 A41.out).mono ?_); (case side1 => repeat (first | exact (Kd.R_reads' HO_10.out).2.2 | (with_reducible refine Kd.C_alloc ?_ _) | (with_reducible refine Kd.C_drewN ?_ _) | (with_reducible refine Kd.C_drew ?_))); (case side2 => exact (Kd.R_reads' HO_10.out).2.1); rintro e w' ⟨rfl, ⟨nd, rfl⟩⟩; refine ⟨_, rfl, ?_⟩))
                          go_ret
                          exact ⟨by first | rfl | (simp [errW_none, errW_some] <;> rfl) | (simp [*, errW_none, errW_some] <;> rfl), by repeat (first | (with_reducible first | exact HB.out | apply below_alloc | apply pw_below_drewN | apply below_drew1) | exact HB.out)⟩
                      · replace c42 := Bool.eq_false_iff.mpr c42
                        subst c42
                        have H1 : ((dioramalaw08_lives.f kj32).bind fun t499 => (some t499)) = some r := by rw [if_neg (show ¬ (false = true) by decide)] at H; exact H
                        clear H
                        have H := H1
                        clear H1
                        replace H := Option.bind_eq_some_iff.mp H
                        obtain ⟨t499, A470, H⟩ := H
                        replace H : (some t499) = some r := H
                        have A47 := Aside0.mk A470
                        clear A470
                        obtain rfl := Option.some.inj H
                        go_wp2_with (first | ((with_reducible refine gate_callee (f := 32) rfl ?_); refine goesL_ (some 123) rfl rfl Tryd.func32 (by kernel_rfl) rfl #[.int .i64 t485, .int .i64 (wrap64 (-x12_15)), .slice Ao21 x10_5.length co21] rfl (by (try simp only [List.map_toArray, List.map_cons, List.map_nil]); first | done | rfl | (simp only [List.length_drop, List.length_take]; rfl)) ?_; (with_reducible refine (calendar_Work.calls kj32 t485 (wrap64 (-x12_15)) _ _ x10_5 t495 t496 _ ?side1 ?side2 A40.out).mono ?_); (case side1 => repeat (first | exact (Kd.R_reads' HO_10.out).2.2 | (with_reducible refine Kd.C_alloc ?_ _) | (with_reducible refine Kd.C_drewN ?_ _) | (with_reducible refine Kd.C_drew ?_))); (case side2 => exact (Kd.R_reads' HO_10.out).2.1); rintro e w' ⟨rfl, ⟨nd, rfl⟩⟩; refine ⟨_, rfl, ?_⟩) | ((with_reducible refine gate_callee (f := 35) rfl ?_); refine goesL_ (some 128) rfl rfl Tryd.func35 (by kernel_rfl) rfl #[.int .i64 t477, .slice Ao21 x10_5.length co21] rfl (by (try simp only [List.map_toArray, List.map_cons, List.map_nil]); first | done | rfl | (simp only [List.length_drop, List.length_take]; rfl)) ?_; (with_reducible refine (dioramaref08_Working.calls kj32 t477 _ _ x10_5 false _ ?side1 ?side2 A41.out).mono ?_); (case side1 => repeat (first | exact (Kd.R_reads' HO_10.out).2.2 | (with_reducible refine Kd.C_alloc ?_ _) | (with_reducible refine Kd.C_drewN ?_ _) | (with_reducible refine Kd.C_drew ?_))); (case side2 => exact (Kd.R_reads' HO_10.out).2.1); rintro e w' ⟨rfl, ⟨nd, rfl⟩⟩; refine ⟨_, rfl, ?_⟩) | (go_at_call 20; (with_reducible refine (dioramalaw08_lives.calls (hv := hv.step (by repeat (first | (with_reducible first | exact HB.out | apply below_alloc | apply pw_below_drewN | apply below_drew1) | exact HB.out))) kj32  t499 _ A47.out).mono ?_); rintro e w48 ⟨rfl, hb⟩; have n0_ := Aside0.mk (Kd.R_below (by (with_reducible repeat (first | apply Kd.R_alloc | apply Kd.R_drewN | apply Kd.R_drew)); exact HO_10.out) hb); have n1_ := Aside0.mk (below_step (by repeat (first | (with_reducible first | exact HB.out | apply below_alloc | apply pw_below_drewN | apply below_drew1) | exact HB.out)) hb); clear HO_10; clear HB; have HO_10 := n0_; have HB := n1_; clear n0_ n1_; (try clear hb); (try clear hb2); (try clear hk); (try clear hi)))
                        go_ret
                        exact ⟨by first | rfl | (simp [errW_none, errW_some] <;> rfl) | (simp [*, errW_none, errW_some] <;> rfl), by repeat (first | (with_reducible first | exact HB.out | apply below_alloc | apply pw_below_drewN | apply below_drew1) | exact HB.out)⟩

/-- THE ONE PURE STATEMENT of dioramalaw08_CalendarAgain: yours. -/
def dioramalaw08_CalendarAgain.Pure : Prop := ∀ (a0 : Int) (a1 : Int) (a2 : Int) (l3 : List Int), (Lit.int .i64 a0).wf = true → (Lit.int .i64 a1).wf = true → (Lit.int .i64 a2).wf = true → l3.length ≤ maxLen → l3.length * 8 ≤ 140737488351232 → (∀ x ∈ l3, (Lit.int .i64 x).wf = true) → ∃ k, dioramalaw08_CalendarAgain.f k a0 a1 a2 l3 = some true
theorem dioramalaw08_CalendarAgain.walk (P : dioramalaw08_CalendarAgain.Pure) (a0 : Int) (a1 : Int) (a2 : Int) (a3 : Option Addr) (len3 cap3 : Nat) (z3 : List Int) (w : World) (hv : LaidAt w) (w0 : (Lit.int .i64 a0).wf = true) (w1 : (Lit.int .i64 a1).wf = true) (w2 : (Lit.int .i64 a2).wf = true) (w3 : (a3 = none ∧ len3 = 0 ∧ cap3 = 0 ∧ z3 = []) ∨ ∃ x, a3 = some x ∧ len3 ≤ cap3 ∧ cap3 ≤ maxLen ∧ z3.length = cap3 ∧ (∀ i, i < z3.length → w.cell? (x.add i) = some (.int .i64 (z3.getD i 0))) ∧ ∀ n ∈ z3, (Lit.int .i64 n).wf = true) (y3 : len3 * 8 ≤ 140737488351232) :
    Calls Tryd.prog 9 #[.int .i64 a0, .int .i64 a1, .int .i64 a2, .slice a3 len3 cap3] w fun e w' => e = .returned (.bool true) ∧ Below w.heap.size w w' := by
  obtain ⟨l3, rfl, hr3, hm3, hw3, hc3⟩ := ReadsInt.ofRowC w3
  obtain ⟨k, h⟩ := P a0 a1 a2 l3 w0 w1 w2 hm3 y3 hw3
  refine (dioramalaw08_CalendarAgain.calls (hv := hv) k a0 a1 a2 _ _ l3 true w (Kd.C_of_reads (d := (0 : Int)) (h1 := fun _ => rfl) hr3) hc3 h).mono ?_
  rintro e w' ⟨rfl, hd⟩
  exact ⟨rfl, hd⟩

end Go.Proofs.YtlfgjpidamkpdaaDoor.Pc
