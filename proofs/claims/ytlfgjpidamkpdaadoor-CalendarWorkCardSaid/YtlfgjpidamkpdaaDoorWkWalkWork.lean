/- The contracts of the functions that the laws reach, each over a plain Lean function, written by wip/ownprint.py of this claim's session. -/
import Derived.Test.YtlfgjpidamkpdaaDoorPc0
import Derived.Test.YtlfgjpidamkpdaaDoorPc1
import Derived.Test.YtlfgjpidamkpdaaDoorPc5
import Derived.Test.YtlfgjpidamkpdaaDoorPc6
import Derived.Test.YtlfgjpidamkpdaaDoorPc15
namespace Go.Proofs.YtlfgjpidamkpdaaDoor.Pc
open Go.RowKit Go.Proofs.YtlfgjpidamkpdaaDoorW.PrintWords Go.Proofs.YtlfgjpidamkpdaaDoorW.PrintLast Go.Proofs.YtlfgjpidamkpdaaDoorW.PrintMore
attribute [local go_sem] max2_int min2_int max_two min_two max_three min_three max_four min_four   -- for this text's walks alone
attribute [local go_sem high] binOp_leq_p
set_option linter.unusedVariables false
set_option linter.unusedSimpArgs false

/-! ### dioramalaw08_CalendarWork: function 6 -/
mutual
def dioramalaw08_CalendarWork.j1 : Nat → Int → Int → Int → Int → List Int → Option (Bool)
  | 0, _, _, _, _, _ => none
  | k + 1, x1, x3, x4, x11, x12 => (dioramaref01_Around.f x3 5).bind fun t380 => (if 0 ≤ (wrap64 (398 + t380)) then (if (wrap64 (398 + t380) : Int).toNat ≤ 35184372088832 then ((dioramaref01_Around.f x1 41).bind fun t387 => ((dioramaref01_Around.f x1 2006).bind fun t388 => (dioramalaw08_CalendarWork.l1 k x4 x11 x12 (([x12, [], (List.replicate (wrap64 (398 + t380) : Int).toNat 0)] : List (List Int))) (([wrap64 (t387 - 20), x1, wrap64 (t388 - 1003)] : List Int)) 0))) else (none)) else (none))
def dioramalaw08_CalendarWork.l1 : Nat → Int → Int → List Int → List (List Int) → List Int → Int → Option (Bool)
  | 0, _, _, _, _, _, _ => none
  | k + 1, x4, x11, x12, x14, x15, x16 => if x16 < 3 then (dioramalaw08_CalendarWork.l2 k x4 x11 x12 x14 x15 x16 0) else ((calendar_Work.f k x4 1 x12).bind fun bt392 => ((dioramaref08_Work.f k x4 1 x12).bind fun bt394 => (if bt392.1 = bt394.1 then (if bt392.2 = bt394.2 then ((dioramalaw08_lives.f k).bind fun t396 => (some t396)) else (some false)) else (some false))))
def dioramalaw08_CalendarWork.l2 : Nat → Int → Int → List Int → List (List Int) → List Int → Int → Int → Option (Bool)
  | 0, _, _, _, _, _, _, _ => none
  | k + 1, x4, x11, x12, x14, x15, x16, x17 => if x17 < 3 then (if 0 ≤ x17 then (if x17 < (x15.length : Int) then (if 0 ≤ x16 then (if x16 < (x14.length : Int) then ((calendar_Work.f k x11 (rd x15 x17) (rd_L3 x14 x16)).bind fun bt399 => ((dioramaref08_Work.f k x11 (rd x15 x17) (rd_L3 x14 x16)).bind fun bt403 => (if bt399.1 = bt403.1 then (if bt399.2 = bt403.2 then (dioramalaw08_CalendarWork.l2 k x4 x11 x12 x14 x15 x16 (wrap64 (x17 + 1))) else (some false)) else (some false)))) else (none)) else (none)) else (none)) else (none)) else (dioramalaw08_CalendarWork.l1 k x4 x11 x12 x14 x15 (wrap64 (x16 + 1)))
def dioramalaw08_CalendarWork.l0 : Nat → Int → List Int → Int → Int → Int → List Int → Int → Option (Bool)
  | 0, _, _, _, _, _, _, _ => none
  | k + 1, x1, x2, x3, x4, x11, x12, x13 => if x13 < (x2.length : Int) then (if x13 < 30 then (if 0 ≤ x13 then ((dioramaref01_Around.f (rd x2 x13) 60).bind fun t376 => (if x12.length < 17592186044416 then (dioramalaw08_CalendarWork.l0 k x1 x2 x3 x4 x11 (x12 ++ [wrap64 ((wrap64 (x11 + t376)) - 30)]) (wrap64 (x13 + 1))) else (none))) else (none)) else (dioramalaw08_CalendarWork.j1 k x1 x3 x4 x11 x12)) else (dioramalaw08_CalendarWork.j1 k x1 x3 x4 x11 x12)
end
def dioramalaw08_CalendarWork.f (k : Nat) (a0 : Int) (a1 : Int) (l2 : List Int) (a3 : Int) (a4 : Int) : Option (Bool) := (dioramaref08_Some.f k a0).bind fun t374 => (dioramalaw08_CalendarWork.l0 k a1 l2 a3 a4 t374 ([] : List Int) 0)
theorem dioramalaw08_CalendarWork.mono_l : ∀ k, (∀ y0 y1 y2 y3 y4, LeO (dioramalaw08_CalendarWork.j1 k y0 y1 y2 y3 y4) (dioramalaw08_CalendarWork.j1 (k + 1) y0 y1 y2 y3 y4)) ∧ (∀ y0 y1 y2 y3 y4 y5, LeO (dioramalaw08_CalendarWork.l1 k y0 y1 y2 y3 y4 y5) (dioramalaw08_CalendarWork.l1 (k + 1) y0 y1 y2 y3 y4 y5)) ∧ (∀ y0 y1 y2 y3 y4 y5 y6, LeO (dioramalaw08_CalendarWork.l2 k y0 y1 y2 y3 y4 y5 y6) (dioramalaw08_CalendarWork.l2 (k + 1) y0 y1 y2 y3 y4 y5 y6)) ∧ (∀ y0 y1 y2 y3 y4 y5 y6, LeO (dioramalaw08_CalendarWork.l0 k y0 y1 y2 y3 y4 y5 y6) (dioramalaw08_CalendarWork.l0 (k + 1) y0 y1 y2 y3 y4 y5 y6))
  | 0 => ⟨fun _ _ _ _ _ r h => by simp [dioramalaw08_CalendarWork.j1] at h, fun _ _ _ _ _ _ r h => by simp [dioramalaw08_CalendarWork.l1] at h, fun _ _ _ _ _ _ _ r h => by simp [dioramalaw08_CalendarWork.l2] at h, fun _ _ _ _ _ _ _ r h => by simp [dioramalaw08_CalendarWork.l0] at h⟩
  | k + 1 => by
    obtain ⟨ih0, ih1, ih2, ih3⟩ := dioramalaw08_CalendarWork.mono_l k
    refine ⟨?_, ?_, ?_, ?_⟩
    · intro y0 y1 y2 y3 y4
      unfold dioramalaw08_CalendarWork.j1
      repeat' first
      | (with_reducible exact ih0 _ _ _ _ _)
      | (with_reducible exact ih1 _ _ _ _ _ _)
      | (with_reducible exact ih2 _ _ _ _ _ _ _)
      | (with_reducible exact ih3 _ _ _ _ _ _ _)
      | (with_reducible exact calendar_Work.mono _ _ _ _)
      | (with_reducible exact dioramalaw08_lives.mono _)
      | (with_reducible exact dioramaref08_Some.mono _ _)
      | (with_reducible exact dioramaref08_Work.mono _ _ _ _)
      | (with_reducible exact LeO.refl _)
      | (with_reducible exact LeO.none _)
      | (with_reducible refine LeO.ite ?_ ?_)
      | (with_reducible refine LeO.bind ?_ (fun _ => ?_))
      | exact ih0 _ _ _ _ _
      | exact ih1 _ _ _ _ _ _
      | exact ih2 _ _ _ _ _ _ _
      | exact ih3 _ _ _ _ _ _ _
      | exact calendar_Work.mono _ _ _ _
      | exact dioramalaw08_lives.mono _
      | exact dioramaref08_Some.mono _ _
      | exact dioramaref08_Work.mono _ _ _ _
      | exact LeO.none _
      | refine LeO.ite ?_ ?_
      | refine LeO.bind ?_ (fun _ => ?_)
    · intro y0 y1 y2 y3 y4 y5
      unfold dioramalaw08_CalendarWork.l1
      repeat' first
      | (with_reducible exact ih0 _ _ _ _ _)
      | (with_reducible exact ih1 _ _ _ _ _ _)
      | (with_reducible exact ih2 _ _ _ _ _ _ _)
      | (with_reducible exact ih3 _ _ _ _ _ _ _)
      | (with_reducible exact calendar_Work.mono _ _ _ _)
      | (with_reducible exact dioramalaw08_lives.mono _)
      | (with_reducible exact dioramaref08_Some.mono _ _)
      | (with_reducible exact dioramaref08_Work.mono _ _ _ _)
      | (with_reducible exact LeO.refl _)
      | (with_reducible exact LeO.none _)
      | (with_reducible refine LeO.ite ?_ ?_)
      | (with_reducible refine LeO.bind ?_ (fun _ => ?_))
      | exact ih0 _ _ _ _ _
      | exact ih1 _ _ _ _ _ _
      | exact ih2 _ _ _ _ _ _ _
      | exact ih3 _ _ _ _ _ _ _
      | exact calendar_Work.mono _ _ _ _
      | exact dioramalaw08_lives.mono _
      | exact dioramaref08_Some.mono _ _
      | exact dioramaref08_Work.mono _ _ _ _
      | exact LeO.none _
      | refine LeO.ite ?_ ?_
      | refine LeO.bind ?_ (fun _ => ?_)
    · intro y0 y1 y2 y3 y4 y5 y6
      unfold dioramalaw08_CalendarWork.l2
      repeat' first
      | (with_reducible exact ih0 _ _ _ _ _)
      | (with_reducible exact ih1 _ _ _ _ _ _)
      | (with_reducible exact ih2 _ _ _ _ _ _ _)
      | (with_reducible exact ih3 _ _ _ _ _ _ _)
      | (with_reducible exact calendar_Work.mono _ _ _ _)
      | (with_reducible exact dioramalaw08_lives.mono _)
      | (with_reducible exact dioramaref08_Some.mono _ _)
      | (with_reducible exact dioramaref08_Work.mono _ _ _ _)
      | (with_reducible exact LeO.refl _)
      | (with_reducible exact LeO.none _)
      | (with_reducible refine LeO.ite ?_ ?_)
      | (with_reducible refine LeO.bind ?_ (fun _ => ?_))
      | exact ih0 _ _ _ _ _
      | exact ih1 _ _ _ _ _ _
      | exact ih2 _ _ _ _ _ _ _
      | exact ih3 _ _ _ _ _ _ _
      | exact calendar_Work.mono _ _ _ _
      | exact dioramalaw08_lives.mono _
      | exact dioramaref08_Some.mono _ _
      | exact dioramaref08_Work.mono _ _ _ _
      | exact LeO.none _
      | refine LeO.ite ?_ ?_
      | refine LeO.bind ?_ (fun _ => ?_)
    · intro y0 y1 y2 y3 y4 y5 y6
      unfold dioramalaw08_CalendarWork.l0
      repeat' first
      | (with_reducible exact ih0 _ _ _ _ _)
      | (with_reducible exact ih1 _ _ _ _ _ _)
      | (with_reducible exact ih2 _ _ _ _ _ _ _)
      | (with_reducible exact ih3 _ _ _ _ _ _ _)
      | (with_reducible exact calendar_Work.mono _ _ _ _)
      | (with_reducible exact dioramalaw08_lives.mono _)
      | (with_reducible exact dioramaref08_Some.mono _ _)
      | (with_reducible exact dioramaref08_Work.mono _ _ _ _)
      | (with_reducible exact LeO.refl _)
      | (with_reducible exact LeO.none _)
      | (with_reducible refine LeO.ite ?_ ?_)
      | (with_reducible refine LeO.bind ?_ (fun _ => ?_))
      | exact ih0 _ _ _ _ _
      | exact ih1 _ _ _ _ _ _
      | exact ih2 _ _ _ _ _ _ _
      | exact ih3 _ _ _ _ _ _ _
      | exact calendar_Work.mono _ _ _ _
      | exact dioramalaw08_lives.mono _
      | exact dioramaref08_Some.mono _ _
      | exact dioramaref08_Work.mono _ _ _ _
      | exact LeO.none _
      | refine LeO.ite ?_ ?_
      | refine LeO.bind ?_ (fun _ => ?_)
theorem dioramalaw08_CalendarWork.mono : ∀ a0 a1 a2 a3 a4 k, LeO (dioramalaw08_CalendarWork.f k a0 a1 a2 a3 a4) (dioramalaw08_CalendarWork.f (k + 1) a0 a1 a2 a3 a4) := by
  intro a0 a1 a2 a3 a4 k
  obtain ⟨ih0, ih1, ih2, ih3⟩ := dioramalaw08_CalendarWork.mono_l k
  unfold dioramalaw08_CalendarWork.f
  repeat' first
      | (with_reducible exact ih0 _ _ _ _ _)
      | (with_reducible exact ih1 _ _ _ _ _ _)
      | (with_reducible exact ih2 _ _ _ _ _ _ _)
      | (with_reducible exact ih3 _ _ _ _ _ _ _)
      | (with_reducible exact calendar_Work.mono _ _ _ _)
      | (with_reducible exact dioramalaw08_lives.mono _)
      | (with_reducible exact dioramaref08_Some.mono _ _)
      | (with_reducible exact dioramaref08_Work.mono _ _ _ _)
      | (with_reducible exact LeO.refl _)
      | (with_reducible exact LeO.none _)
      | (with_reducible refine LeO.ite ?_ ?_)
      | (with_reducible refine LeO.bind ?_ (fun _ => ?_))
      | exact ih0 _ _ _ _ _
      | exact ih1 _ _ _ _ _ _
      | exact ih2 _ _ _ _ _ _ _
      | exact ih3 _ _ _ _ _ _ _
      | exact calendar_Work.mono _ _ _ _
      | exact dioramalaw08_lives.mono _
      | exact dioramaref08_Some.mono _ _
      | exact dioramaref08_Work.mono _ _ _ _
      | exact LeO.none _
      | refine LeO.ite ?_ ?_
      | refine LeO.bind ?_ (fun _ => ?_)
set_option maxHeartbeats 8000000 in
set_option maxRecDepth 100000 in
theorem dioramalaw08_CalendarWork.calls (k : Nat) (a0 : Int) (a1 : Int) (A2 : Option Addr) (c2 : Nat) (l2 : List Int) (a3 : Int) (a4 : Int) (r : Bool) (w : World) (hv : LaidAt w) (hr2 : Kd.C (Kd.int .i64) w A2 l2.length l2) (hc2 : l2.length ≤ c2) (h : dioramalaw08_CalendarWork.f k a0 a1 l2 a3 a4 = some r) :
    Calls Tryd.prog 6 #[.int .i64 a0, .int .i64 a1, .slice A2 l2.length c2, .int .i64 a3, .int .i64 a4] w fun e w' => e = .returned (.bool r) ∧ Below w.heap.size w w' := by
  have HR2 := Aside0.mk hr2
  have HC2 := Aside0.mk hc2
  clear hr2 hc2
  have HB := Aside0.mk (Below.refl w.heap.size w)
  have H : ((dioramaref08_Some.f k a0).bind fun t374 => (dioramalaw08_CalendarWork.l0 k a1 l2 a3 a4 t374 ([] : List Int) 0)) = some r := h
  clear h
  replace H := Option.bind_eq_some_iff.mp H
  obtain ⟨t374, A60, H⟩ := H
  replace H : (dioramalaw08_CalendarWork.l0 k a1 l2 a3 a4 t374 ([] : List Int) 0) = some r := H
  have A6 := Aside0.mk A60
  clear A60
  have HC7 := Aside0.mk H
  clear H
  go_enter Tryd.func6, Tryd.ntmps6
  go_upto_block 0 with (first | (go_at_call 10; (with_reducible refine (dioramaref08_Some.calls k a0 t374 _ A6.out).mono ?_); rintro e w8 ⟨rfl, hb⟩; have n0_ := Aside0.mk (below_step (by repeat (first | (with_reducible first | exact HB.out | apply below_alloc | apply pw_below_drewN | apply below_drew1) | exact HB.out)) hb); clear HB; have HB := n0_; clear n0_; (try clear hb); (try clear hb2); (try clear hk); (try clear hi)))
  repeat (go_quiet (first | (go_at_call 10; (with_reducible refine (dioramaref08_Some.calls k a0 t374 _ A6.out).mono ?_); rintro e w8 ⟨rfl, hb⟩; have n0_ := Aside0.mk (below_step (by repeat (first | (with_reducible first | exact HB.out | apply below_alloc | apply pw_below_drewN | apply below_drew1) | exact HB.out)) hb); clear HB; have HB := n0_; clear n0_; (try clear hb); (try clear hb2); (try clear hk); (try clear hi))); go_upto_block 0 with (first | (go_at_call 10; (with_reducible refine (dioramaref08_Some.calls k a0 t374 _ A6.out).mono ?_); rintro e w8 ⟨rfl, hb⟩; have n0_ := Aside0.mk (below_step (by repeat (first | (with_reducible first | exact HB.out | apply below_alloc | apply pw_below_drewN | apply below_drew1) | exact HB.out)) hb); clear HB; have HB := n0_; clear n0_; (try clear hb); (try clear hb2); (try clear hk); (try clear hi))))
  (try simp only [Act.put, List.setIfInBounds_toArray, List.set_cons_zero, List.set_cons_succ])
  go_cut [12] (fun v12 wc => ∃ (kq : Nat) (x12_6 : List Int), Aside0 (dioramalaw08_CalendarWork.j1 kq a1 a3 a4 t374 x12_6 = some r) ∧ Aside0 (kq ≤ k) ∧ Aside0 (Kd.R (Kd.int .i64) 3 wc w.heap.size (fun _ => True) v12 x12_6) ∧ Aside0 (Below w.heap.size w wc))
  case first =>
    have H := HC7.out
    clear HC7
    have H' := Aside0.mk H
    clear H
    go_wp2
    repeat (go_quiet (fail); try go_wp2)
    go_loopg [12, 13] k (fun kq v12 v13 w' => ∃ (x12_1 : List Int) (x13_1 : Int), v13 = .int .i64 x13_1 ∧ Aside0 (dioramalaw08_CalendarWork.l0 kq a1 l2 a3 a4 t374 x12_1 x13_1 = some r) ∧ Aside0 (kq ≤ k) ∧ Aside0 (Kd.R (Kd.int .i64) 3 w' w.heap.size (fun _ => True) v12 x12_1) ∧ Aside0 (Below w.heap.size w w'))
    case atStart => exact ⟨(([] : List Int)), (0), (by first | rfl | (simp; done) | (simp [*]; done)), H', ⟨Nat.le_refl _⟩, ⟨by first | exact Kd.R_nil _ _ _ _ _ | exact Kd.N_nil _ _ _ _ _ | exact Kd.V_nil _ _ _ _ _ | exact Kd.Q_nil _ _ _ _ _ | exact Kd.S_nil _ _ _ _ _⟩, ⟨by repeat (first | (with_reducible first | exact HB.out | apply below_alloc | apply pw_below_drewN | apply below_drew1) | exact HB.out)⟩⟩
    case round =>
      clear H'
      try clear c2
      try clear p2
      try clear c6
      obtain ⟨x12_1, x13_1, rfl, HA, HK1, HO_12, HB⟩ := hrel
      cases gk with
      | zero => exact absurd HA.out (by simp [dioramalaw08_CalendarWork.l0])
      | succ k1 =>
        have H := HA.out
        clear HA
        simp only [dioramalaw08_CalendarWork.l0] at H
        by_cases c9 : x13_1 < (l2.length : Int)
        · rw [if_pos c9] at H
          have c9b0 : decide (x13_1 < (l2.length : Int)) = true := decide_eq_true c9
          clear c9
          (first | rw [c9b0] | (simp only [i64_w, i32_w]; rw [c9b0]) | skip)
          by_cases c10 : x13_1 < 30
          · rw [if_pos c10] at H
            have c10b0 : decide (x13_1 < 30) = true := decide_eq_true c10
            clear c10
            by_cases c11 : 0 ≤ x13_1
            · rw [if_pos c11] at H
              have c11b0 : decide (0 ≤ x13_1) = true := decide_eq_true c11
              clear c11
              replace H := Option.bind_eq_some_iff.mp H
              obtain ⟨t376, A120, H⟩ := H
              replace H : (if x12_1.length < 17592186044416 then (dioramalaw08_CalendarWork.l0 k1 a1 l2 a3 a4 t374 (x12_1 ++ [wrap64 ((wrap64 (t374 + t376)) - 30)]) (wrap64 (x13_1 + 1))) else (none)) = some r := H
              have A12 := Aside0.mk A120
              clear A120
              by_cases c13 : x12_1.length < 17592186044416
              · rw [if_pos c13] at H
                have LMc13 := Aside0.mk c13
                clear c13
                obtain ⟨y377, hy377⟩ : ∃ y_ : List Int, y_ = (x12_1 ++ [wrap64 ((wrap64 (t374 + t376)) - 30)]) := ⟨_, rfl⟩
                replace H : (dioramalaw08_CalendarWork.l0 k1 a1 l2 a3 a4 t374 y377 (wrap64 (x13_1 + 1))) = some r := by first | (rw [hy377]; with_reducible exact H) | (have H2_ := (Option.bind_some _ _).symm.trans H; rw [hy377]; with_reducible exact H2_) | (have H2_ := (Option.bind_some _ _).symm.trans H; with_reducible exact H2_) | with_reducible exact H | (rw [hy377]; exact H) | exact H
                have Ny377 := Aside0.mk hy377
                clear hy377
                have H' := Aside0.mk H
                clear H
                have p375 : 0 ≤ (x13_1 : Int) := of_decide_eq_true (by first | (with_reducible assumption) | assumption)
                have q375 : x13_1 < (l2.length : Int) := of_decide_eq_true (by first | (with_reducible assumption) | assumption)
                obtain ⟨ad375, e375, hx375_0⟩ := Kd.at_int HR2.out x13_1 p375 q375
                cases e375
                replace hx375_0 := (HB.out.cell (World.block_lt_of_cell? w _ hx375_0)).trans hx375_0
                replace p375 := eq_true p375
                replace q375 := eq_true q375
                go_wp2_with (first | (go_at_call 17; (with_reducible refine (dioramaref01_Around.calls (rd l2 x13_1) 60 t376 _ A12.out).mono ?_); rintro e w' ⟨rfl, ⟨nd, rfl⟩⟩; (try first | exact ⟨rfl, _, World.drewN_drewN _ _ _⟩ | exact ⟨rfl, _, Eq.trans (World.drewN_drewN _ _ _) (congrArg (World.drewN _) (Nat.add_assoc _ _ _))⟩)) | ((with_reducible refine gate_builtin (b := .append) (xs := #[.tmp 38, .tmp 47]) rfl ?_); at_builtin; refine Kd.R_append (Kd.int .i64) (w0 := w) w.heap.size rfl (.tmp 38) (.tmp 47) 23 3 (.int .i64 0) 8 rfl Tryd.underlying23 info3 rfl (by decide) (by omega) u12 x12_1 (wrap64 ((wrap64 (t374 + t376)) - 30)) [.int .i64 (wrap64 ((wrap64 (t374 + t376)) - 30))] (fun _ => True) (fun _ => False) rfl rfl ?aP (fun _ hk => hk.elim) ?aF ?aO ?aB ?aS ?aL ?_; (case aP => exact rfl); (case aB => exact (by repeat (first | (with_reducible first | exact HB.out | apply below_alloc | apply pw_below_drewN | apply below_drew1) | exact HB.out))); (case aF => exact (fun _ _ => trivial)); (case aO => exact (by (with_reducible repeat (first | apply Kd.R_alloc | apply Kd.R_drewN | apply Kd.R_drew)); exact HO_12.out)); (case aS => exact (below_size (by repeat (first | (with_reducible first | exact HB.out | apply below_alloc | apply pw_below_drewN | apply below_drew1) | exact HB.out)))); (case aL => have := LMc13.out; omega); intro v378 w14 ho hb hg hat; rw [← Ny377.out] at ho; have n0_ := Aside0.mk (hb); have n1_ := Aside0.mk (ho); clear HB; clear HO_12; have HB := n0_; have HO379 := n1_; clear n0_ n1_; clear ho hb hg hat))
                repeat (go_quiet (first | (go_at_call 17; (with_reducible refine (dioramaref01_Around.calls (rd l2 x13_1) 60 t376 _ A12.out).mono ?_); rintro e w' ⟨rfl, ⟨nd, rfl⟩⟩; (try first | exact ⟨rfl, _, World.drewN_drewN _ _ _⟩ | exact ⟨rfl, _, Eq.trans (World.drewN_drewN _ _ _) (congrArg (World.drewN _) (Nat.add_assoc _ _ _))⟩)) | ((with_reducible refine gate_builtin (b := .append) (xs := #[.tmp 38, .tmp 47]) rfl ?_); at_builtin; refine Kd.R_append (Kd.int .i64) (w0 := w) w.heap.size rfl (.tmp 38) (.tmp 47) 23 3 (.int .i64 0) 8 rfl Tryd.underlying23 info3 rfl (by decide) (by omega) u12 x12_1 (wrap64 ((wrap64 (t374 + t376)) - 30)) [.int .i64 (wrap64 ((wrap64 (t374 + t376)) - 30))] (fun _ => True) (fun _ => False) rfl rfl ?aP (fun _ hk => hk.elim) ?aF ?aO ?aB ?aS ?aL ?_; (case aP => exact rfl); (case aB => exact (by repeat (first | (with_reducible first | exact HB.out | apply below_alloc | apply pw_below_drewN | apply below_drew1) | exact HB.out))); (case aF => exact (fun _ _ => trivial)); (case aO => exact (by (with_reducible repeat (first | apply Kd.R_alloc | apply Kd.R_drewN | apply Kd.R_drew)); exact HO_12.out)); (case aS => exact (below_size (by repeat (first | (with_reducible first | exact HB.out | apply below_alloc | apply pw_below_drewN | apply below_drew1) | exact HB.out)))); (case aL => have := LMc13.out; omega); intro v378 w14 ho hb hg hat; rw [← Ny377.out] at ho; have n0_ := Aside0.mk (hb); have n1_ := Aside0.mk (ho); clear HB; clear HO_12; have HB := n0_; have HO379 := n1_; clear n0_ n1_; clear ho hb hg hat)); try go_wp2_with (first | (go_at_call 17; (with_reducible refine (dioramaref01_Around.calls (rd l2 x13_1) 60 t376 _ A12.out).mono ?_); rintro e w' ⟨rfl, ⟨nd, rfl⟩⟩; (try first | exact ⟨rfl, _, World.drewN_drewN _ _ _⟩ | exact ⟨rfl, _, Eq.trans (World.drewN_drewN _ _ _) (congrArg (World.drewN _) (Nat.add_assoc _ _ _))⟩)) | ((with_reducible refine gate_builtin (b := .append) (xs := #[.tmp 38, .tmp 47]) rfl ?_); at_builtin; refine Kd.R_append (Kd.int .i64) (w0 := w) w.heap.size rfl (.tmp 38) (.tmp 47) 23 3 (.int .i64 0) 8 rfl Tryd.underlying23 info3 rfl (by decide) (by omega) u12 x12_1 (wrap64 ((wrap64 (t374 + t376)) - 30)) [.int .i64 (wrap64 ((wrap64 (t374 + t376)) - 30))] (fun _ => True) (fun _ => False) rfl rfl ?aP (fun _ hk => hk.elim) ?aF ?aO ?aB ?aS ?aL ?_; (case aP => exact rfl); (case aB => exact (by repeat (first | (with_reducible first | exact HB.out | apply below_alloc | apply pw_below_drewN | apply below_drew1) | exact HB.out))); (case aF => exact (fun _ _ => trivial)); (case aO => exact (by (with_reducible repeat (first | apply Kd.R_alloc | apply Kd.R_drewN | apply Kd.R_drew)); exact HO_12.out)); (case aS => exact (below_size (by repeat (first | (with_reducible first | exact HB.out | apply below_alloc | apply pw_below_drewN | apply below_drew1) | exact HB.out)))); (case aL => have := LMc13.out; omega); intro v378 w14 ho hb hg hat; rw [← Ny377.out] at ho; have n0_ := Aside0.mk (hb); have n1_ := Aside0.mk (ho); clear HB; clear HO_12; have HB := n0_; have HO379 := n1_; clear n0_ n1_; clear ho hb hg hat)))
                go_roundg k1
                case measure => have := HK1.out; omega
                case rel => exact ⟨(y377), (wrap64 (x13_1 + 1)), (by first | rfl | (simp; done) | (simp [*]; done)), H', ⟨by have := HK1.out; omega⟩, ⟨by (with_reducible repeat (first | apply Kd.R_alloc | apply Kd.R_drewN | apply Kd.R_drew)); exact HO379.out⟩, ⟨by repeat (first | (with_reducible first | exact HB.out | apply below_alloc | apply pw_below_drewN | apply below_drew1) | exact HB.out)⟩⟩
              · rw [if_neg c13] at H
                exact absurd H (by simp)
            · rw [if_neg c11] at H
              exact absurd H (by simp)
          · rw [if_neg c10] at H
            have c10b0 : decide (x13_1 < 30) = false := decide_eq_false c10
            clear c10
            have H' := Aside0.mk H
            clear H
            go_wp2
            repeat (go_quiet (fail); try go_wp2)
            go_meet
            case rel => exact ⟨_, (x12_1), H', ⟨by have := HK1.out; first | omega | exact Nat.le_refl _⟩, ⟨by (with_reducible repeat (first | apply Kd.R_alloc | apply Kd.R_drewN | apply Kd.R_drew)); exact HO_12.out⟩, ⟨by repeat (first | (with_reducible first | exact HB.out | apply below_alloc | apply pw_below_drewN | apply below_drew1) | exact HB.out)⟩⟩
        · rw [if_neg c9] at H
          have c9b0 : decide (x13_1 < (l2.length : Int)) = false := decide_eq_false c9
          clear c9
          (first | rw [c9b0] | (simp only [i64_w, i32_w]; rw [c9b0]) | skip)
          have H' := Aside0.mk H
          clear H
          go_wp2
          repeat (go_quiet (fail); try go_wp2)
          go_meet
          case rel => exact ⟨_, (x12_1), H', ⟨by have := HK1.out; first | omega | exact Nat.le_refl _⟩, ⟨by (with_reducible repeat (first | apply Kd.R_alloc | apply Kd.R_drewN | apply Kd.R_drew)); exact HO_12.out⟩, ⟨by repeat (first | (with_reducible first | exact HB.out | apply below_alloc | apply pw_below_drewN | apply below_drew1) | exact HB.out)⟩⟩
  case rest =>
    clear HC7
    try clear c1
    try clear c2
    try clear p2
    try clear p3
    try clear q3
    try clear hx3
    try clear c6
    try clear p6
    try clear c9
    try clear c9b0
    try clear c10
    try clear c10b0
    try clear c11
    try clear c11b0
    try clear c13
    try clear hx375_0
    try clear p2
    try clear p375
    try clear q375
    obtain ⟨kq, x12_6, HA, HJ6, HO_12, HB⟩ := hcut
    cases kq with
    | zero => exact absurd HA.out (by simp [dioramalaw08_CalendarWork.j1])
    | succ kj6 =>
      have H := HA.out
      clear HA
      simp only [dioramalaw08_CalendarWork.j1] at H
      replace H := Option.bind_eq_some_iff.mp H
      obtain ⟨t380, A150, H⟩ := H
      replace H : (if 0 ≤ (wrap64 (398 + t380)) then (if (wrap64 (398 + t380) : Int).toNat ≤ 35184372088832 then ((dioramaref01_Around.f a1 41).bind fun t387 => ((dioramaref01_Around.f a1 2006).bind fun t388 => (dioramalaw08_CalendarWork.l1 kj6 a4 t374 x12_6 (([x12_6, [], (List.replicate (wrap64 (398 + t380) : Int).toNat 0)] : List (List Int))) (([wrap64 (t387 - 20), a1, wrap64 (t388 - 1003)] : List Int)) 0))) else (none)) else (none)) = some r := H
      have A15 := Aside0.mk A150
      clear A150
      obtain ⟨ji16, hji16⟩ : ∃ j_ : Int, (wrap64 (398 + t380)) = j_ := ⟨_, rfl⟩
      replace H : (if 0 ≤ (ji16) then (if (ji16 : Int).toNat ≤ 35184372088832 then ((dioramaref01_Around.f a1 41).bind fun t387 => ((dioramaref01_Around.f a1 2006).bind fun t388 => (dioramalaw08_CalendarWork.l1 kj6 a4 t374 x12_6 (([x12_6, [], (List.replicate (ji16 : Int).toNat 0)] : List (List Int))) (([wrap64 (t387 - 20), a1, wrap64 (t388 - 1003)] : List Int)) 0))) else (none)) else (none)) = some r := by first | (rw [hji16] at H; exact H) | (simp only [hji16] at H ⊢; exact H)
      (try rw [hji16] at A15)
      have hji16w : (IntKind.i64.wrap (398 + t380)) = ji16 := (i64_w _).trans hji16
      by_cases c17 : 0 ≤ (ji16)
      · rw [if_pos c17] at H
        have c17b0 := eq_true c17
        have c17b1 : decide (0 ≤ (ji16)) = true := decide_eq_true c17
        clear c17
        by_cases c18 : (ji16 : Int).toNat ≤ 35184372088832
        · rw [if_pos c18] at H
          have c18b0 := eq_true c18
          have c18b1 : decide ((ji16 : Int).toNat ≤ 35184372088832) = true := decide_eq_true c18
          clear c18
          obtain ⟨y381, hy381⟩ : ∃ y_ : List Int, y_ = (List.replicate (ji16 : Int).toNat 0) := ⟨_, rfl⟩
          replace H : ((dioramaref01_Around.f a1 41).bind fun t387 => ((dioramaref01_Around.f a1 2006).bind fun t388 => (dioramalaw08_CalendarWork.l1 kj6 a4 t374 x12_6 (([x12_6, [], y381] : List (List Int))) (([wrap64 (t387 - 20), a1, wrap64 (t388 - 1003)] : List Int)) 0))) = some r := by first | (rw [hy381]; with_reducible exact H) | (have H2_ := (Option.bind_some _ _).symm.trans H; rw [hy381]; with_reducible exact H2_) | (have H2_ := (Option.bind_some _ _).symm.trans H; with_reducible exact H2_) | with_reducible exact H | (rw [hy381]; exact H) | exact H
          have Ny381 := Aside0.mk hy381
          clear hy381
          obtain ⟨y384, hy384⟩ : ∃ y_ : List (List Int), y_ = (([x12_6, [], y381] : List (List Int))) := ⟨_, rfl⟩
          replace H : ((dioramaref01_Around.f a1 41).bind fun t387 => ((dioramaref01_Around.f a1 2006).bind fun t388 => (dioramalaw08_CalendarWork.l1 kj6 a4 t374 x12_6 y384 (([wrap64 (t387 - 20), a1, wrap64 (t388 - 1003)] : List Int)) 0))) = some r := by first | (rw [hy384]; with_reducible exact H) | (have H2_ := (Option.bind_some _ _).symm.trans H; rw [hy384]; with_reducible exact H2_) | (have H2_ := (Option.bind_some _ _).symm.trans H; with_reducible exact H2_) | with_reducible exact H | (rw [hy384]; exact H) | exact H
          have Ny384 := Aside0.mk hy384
          clear hy384
          replace H := Option.bind_eq_some_iff.mp H
          obtain ⟨t387, A190, H⟩ := H
          replace H : ((dioramaref01_Around.f a1 2006).bind fun t388 => (dioramalaw08_CalendarWork.l1 kj6 a4 t374 x12_6 y384 (([wrap64 (t387 - 20), a1, wrap64 (t388 - 1003)] : List Int)) 0)) = some r := H
          have A19 := Aside0.mk A190
          clear A190
          replace H := Option.bind_eq_some_iff.mp H
          obtain ⟨t388, A200, H⟩ := H
          replace H : (dioramalaw08_CalendarWork.l1 kj6 a4 t374 x12_6 y384 (([wrap64 (t387 - 20), a1, wrap64 (t388 - 1003)] : List Int)) 0) = some r := H
          have A20 := Aside0.mk A200
          clear A200
          obtain ⟨y389, hy389⟩ : ∃ y_ : List Int, y_ = (([wrap64 (t387 - 20), a1, wrap64 (t388 - 1003)] : List Int)) := ⟨_, rfl⟩
          replace H : (dioramalaw08_CalendarWork.l1 kj6 a4 t374 x12_6 y384 y389 0) = some r := by first | (rw [hy389]; with_reducible exact H) | (have H2_ := (Option.bind_some _ _).symm.trans H; rw [hy389]; with_reducible exact H2_) | (have H2_ := (Option.bind_some _ _).symm.trans H; with_reducible exact H2_) | with_reducible exact H | (rw [hy389]; exact H) | exact H
          have Ny389 := Aside0.mk hy389
          clear hy389
          have H' := Aside0.mk H
          clear H
          go_wp2_with (first | (go_at_call 17; (with_reducible refine (dioramaref01_Around.calls a3 5 t380 _ A15.out).mono ?_); rintro e w' ⟨rfl, ⟨nd, rfl⟩⟩; (try first | exact ⟨rfl, _, World.drewN_drewN _ _ _⟩ | exact ⟨rfl, _, Eq.trans (World.drewN_drewN _ _ _) (congrArg (World.drewN _) (Nat.add_assoc _ _ _))⟩)) | ((with_reducible refine gate_dst (N := 53) rfl ?_); refine Kd.R_make (Kd.int .i64) _ 3 rfl (N := 53) rfl 23 _ _ rfl ji16 rfl rfl Tryd.underlying23 (.int .i64 0) 8 info3 rfl (by decide) (by omega) 0 (ok := fun _ => True) (okp := fun _ => True) rfl (fun _ hk => hk) trivial (of_decide_eq_true (by first | (with_reducible assumption) | assumption)) (Nat.le_trans (Nat.mul_le_mul_right _ (of_decide_eq_true (by first | (with_reducible assumption) | assumption) : ji16.toNat ≤ 35184372088832)) (by omega)) (Below.refl _ _) (Nat.le_refl _) ?_; intro v382 w21 ho22 hb hg_ hnew_; clear hg_ hnew_; (first | rw [← Ny381.out] at ho22 | (simp only [Int.reduceToNat] at ho22; rw [← Ny381.out] at ho22)); have n0_ := Aside0.mk (Kd.R_elder' (by (with_reducible repeat (first | apply Kd.R_alloc | apply Kd.R_drewN | apply Kd.R_drew)); exact HO_12.out) (Kd.R_base ho22) hb); have n1_ := Aside0.mk (Kd.R_lower (Kd.R_new' ho22 (Kd.R_lt (by (with_reducible repeat (first | apply Kd.R_alloc | apply Kd.R_drewN | apply Kd.R_drew)); exact HO_12.out))) (below_size (by repeat (first | (with_reducible first | exact HB.out | apply below_alloc | apply pw_below_drewN | apply below_drew1) | exact HB.out)))); have n2_ := Aside0.mk (below_step (by repeat (first | (with_reducible first | exact HB.out | apply below_alloc | apply pw_below_drewN | apply below_drew1) | exact HB.out)) hb); clear HO_12; clear HB; have HO_12 := n0_; have HO383 := n1_; have HB := n2_; clear n0_ n1_ n2_; clear hb ho22; obtain ⟨Ao23, co23, eo23⟩ := Kd.R_slice HO_12.out; subst eo23; obtain ⟨Ao24, co24, eo24⟩ := Kd.R_slice HO383.out; subst eo24) | ((with_reducible refine gate_dst (N := 54) rfl ?_); refine Kd.N_lit (Kd.slice 3 (Kd.int .i64)) _ 23 ?hg (N' := 54) ?hd (xs := ([x12_6, [], y381] : List (List Int))) (inner := [.slice Ao23 x12_6.length co23, .slice none 0 0, .slice Ao24 y381.length co24]) (ok := (fun _ => True)) (okp := (fun _ => True)) ?hr ?hp (fun _ hk => hk) ((show ∀ k_, w21.heap.size ≤ k_ → (fun _ => True) k_ from fun k_ hk => trivial) _ (Nat.le_refl _)) (Below.refl _ _) (Nat.le_refl _) (by simp) ?_; (case hd => rfl); (case hg => rfl); (case hr => first | (go_simp; done) | (go_simp; rfl)); (case hp => exact (Reps.one (show Kd.FK (Kd.slice 3 (Kd.int .i64)) _ _ x12_6 [.slice Ao23 x12_6.length co23] from (Kd.FK_slice_mk (Kd.R_reads' (Kd.R_mono (ok' := (fun _ => True)) (HO_12.out) (fun k_ hk => trivial))).2.1 (Kd.R_F (Kd.R_mono (ok' := (fun _ => True)) (HO_12.out) (fun k_ hk => trivial))))) (Reps.one (show Kd.FK (Kd.slice 3 (Kd.int .i64)) _ _ [] [.slice none 0 0] from (Kd.FK_slice_mk (Nat.le_refl _) (Kd.F_nil _ _ _))) (Reps.one (show Kd.FK (Kd.slice 3 (Kd.int .i64)) _ _ y381 [.slice Ao24 y381.length co24] from (Kd.FK_slice_mk (Kd.R_reads' (Kd.R_mono (ok' := (fun _ => True)) (HO383.out) (fun k_ hk => trivial))).2.1 (Kd.R_F (Kd.R_mono (ok' := (fun _ => True)) (HO383.out) (fun k_ hk => trivial))))) (Reps.none _ _))))); intro v385 w25 ho26 hb hg_ hnew_; clear hg_ hnew_; (first | rw [← Ny384.out] at ho26 | (simp only [Int.reduceToNat] at ho26; rw [← Ny384.out] at ho26)); have n0_ := Aside0.mk (Kd.N_lower ho26 (below_size (by repeat (first | (with_reducible first | exact HB.out | apply below_alloc | apply pw_below_drewN | apply below_drew1) | exact HB.out)))); have n1_ := Aside0.mk (below_step (by repeat (first | (with_reducible first | exact HB.out | apply below_alloc | apply pw_below_drewN | apply below_drew1) | exact HB.out)) hb); have nx_ := Aside0.mk (Kd.R_mono (ok' := fun _ => True) (Kd.R_move (Kd.R_bound HO_12.out) (fun k hk => hb.block k hk.2.2.1)) (fun _ _ => trivial)); clear HB; clear HO383; clear HO_12; have HO386 := n0_; have HB := n1_; have HO_12 := nx_; clear n0_ n1_ nx_; clear hb ho26) | (go_at_call 17; (with_reducible refine (dioramaref01_Around.calls a1 41 t387 _ A19.out).mono ?_); rintro e w' ⟨rfl, ⟨nd, rfl⟩⟩; (try first | exact ⟨rfl, _, World.drewN_drewN _ _ _⟩ | exact ⟨rfl, _, Eq.trans (World.drewN_drewN _ _ _) (congrArg (World.drewN _) (Nat.add_assoc _ _ _))⟩)) | (go_at_call 17; (with_reducible refine (dioramaref01_Around.calls a1 2006 t388 _ A20.out).mono ?_); rintro e w' ⟨rfl, ⟨nd, rfl⟩⟩; (try first | exact ⟨rfl, _, World.drewN_drewN _ _ _⟩ | exact ⟨rfl, _, Eq.trans (World.drewN_drewN _ _ _) (congrArg (World.drewN _) (Nat.add_assoc _ _ _))⟩)) | ((with_reducible refine gate_dst (N := 62) rfl ?_); refine Kd.R_lit (Kd.int .i64) _ 3 ?hg (N := 62) ?hd (xs := ([wrap64 (t387 - 20), a1, wrap64 (t388 - 1003)] : List Int)) (inner := [.int .i64 (wrap64 (t387 - 20)), .int .i64 a1, .int .i64 (wrap64 (t388 - 1003))]) (ok := fun _ => True) (okp := fun _ => True) ?hr ?hp (fun _ hk => hk) trivial (Below.refl _ _) (Nat.le_refl _) (by simp) ?_; (case hd => rfl); (case hg => rfl); (case hr => first | (go_simp; done) | (go_simp; rfl)); (case hp => exact (Reps.one (show Kd.M (Kd.int .i64) _ _ _ (wrap64 (t387 - 20)) [.int .i64 (wrap64 (t387 - 20))] from rfl) (Reps.one (show Kd.M (Kd.int .i64) _ _ _ a1 [.int .i64 a1] from rfl) (Reps.one (show Kd.M (Kd.int .i64) _ _ _ (wrap64 (t388 - 1003)) [.int .i64 (wrap64 (t388 - 1003))] from rfl) (Reps.none _ _))))); intro v390 w27 ho28 hb hg_ hnew_; clear hg_ hnew_; (first | rw [← Ny389.out] at ho28 | (simp only [Int.reduceToNat] at ho28; rw [← Ny389.out] at ho28)); have n0_ := Aside0.mk (Kd.N_elder' (by (with_reducible repeat (first | apply Kd.N_alloc | apply Kd.N_drewN | apply Kd.N_drew)); exact HO386.out) (Kd.R_base ho28) hb); have n1_ := Aside0.mk (Kd.R_lower ho28 (below_size (by repeat (first | (with_reducible first | exact HB.out | apply below_alloc | apply pw_below_drewN | apply below_drew1) | exact HB.out)))); have n2_ := Aside0.mk (below_step (by repeat (first | (with_reducible first | exact HB.out | apply below_alloc | apply pw_below_drewN | apply below_drew1) | exact HB.out)) hb); have nx_ := Aside0.mk (Kd.R_mono (ok' := fun _ => True) (Kd.R_elder' (by (with_reducible repeat (first | apply Kd.R_alloc | apply Kd.R_drewN | apply Kd.R_drew)); exact HO_12.out) (Kd.R_base ho28) hb) (fun _ _ => trivial)); clear HO386; clear HO_12; clear HB; have HO386 := n0_; have HO391 := n1_; have HB := n2_; have HO_12 := nx_; clear n0_ n1_ n2_ nx_; clear hb ho28))
          repeat (go_quiet (first | (go_at_call 17; (with_reducible refine (dioramaref01_Around.calls a3 5 t380 _ A15.out).mono ?_); rintro e w' ⟨rfl, ⟨nd, rfl⟩⟩; (try first | exact ⟨rfl, _, World.drewN_drewN _ _ _⟩ | exact ⟨rfl, _, Eq.trans (World.drewN_drewN _ _ _) (congrArg (World.drewN _) (Nat.add_assoc _ _ _))⟩)) | ((with_reducible refine gate_dst (N := 53) rfl ?_); refine Kd.R_make (Kd.int .i64) _ 3 rfl (N := 53) rfl 23 _ _ rfl ji16 rfl rfl Tryd.underlying23 (.int .i64 0) 8 info3 rfl (by decide) (by omega) 0 (ok := fun _ => True) (okp := fun _ => True) rfl (fun _ hk => hk) trivial (of_decide_eq_true (by first | (with_reducible assumption) | assumption)) (Nat.le_trans (Nat.mul_le_mul_right _ (of_decide_eq_true (by first | (with_reducible assumption) | assumption) : ji16.toNat ≤ 35184372088832)) (by omega)) (Below.refl _ _) (Nat.le_refl _) ?_; intro v382 w21 ho22 hb hg_ hnew_; clear hg_ hnew_; (first | rw [← Ny381.out] at ho22 | (simp only [Int.reduceToNat] at ho22; rw [← Ny381.out] at ho22)); have n0_ := Aside0.mk (Kd.R_elder' (by (with_reducible repeat (first | apply Kd.R_alloc | apply Kd.R_drewN | apply Kd.R_drew)); exact HO_12.out) (Kd.R_base ho22) hb); have n1_ := Aside0.mk (Kd.R_lower (Kd.R_new' ho22 (Kd.R_lt (by (with_reducible repeat (first | apply Kd.R_alloc | apply Kd.R_drewN | apply Kd.R_drew)); exact HO_12.out))) (below_size (by repeat (first | (with_reducible first | exact HB.out | apply below_alloc | apply pw_below_drewN | apply below_drew1) | exact HB.out)))); have n2_ := Aside0.mk (below_step (by repeat (first | (with_reducible first | exact HB.out | apply below_alloc | apply pw_below_drewN | apply below_drew1) | exact HB.out)) hb); clear HO_12; clear HB; have HO_12 := n0_; have HO383 := n1_; have HB := n2_; clear n0_ n1_ n2_; clear hb ho22; obtain ⟨Ao23, co23, eo23⟩ := Kd.R_slice HO_12.out; subst eo23; obtain ⟨Ao24, co24, eo24⟩ := Kd.R_slice HO383.out; subst eo24) | ((with_reducible refine gate_dst (N := 54) rfl ?_); refine Kd.N_lit (Kd.slice 3 (Kd.int .i64)) _ 23 ?hg (N' := 54) ?hd (xs := ([x12_6, [], y381] : List (List Int))) (inner := [.slice Ao23 x12_6.length co23, .slice none 0 0, .slice Ao24 y381.length co24]) (ok := (fun _ => True)) (okp := (fun _ => True)) ?hr ?hp (fun _ hk => hk) ((show ∀ k_, w21.heap.size ≤ k_ → (fun _ => True) k_ from fun k_ hk => trivial) _ (Nat.le_refl _)) (Below.refl _ _) (Nat.le_refl _) (by simp) ?_; (case hd => rfl); (case hg => rfl); (case hr => first | (go_simp; done) | (go_simp; rfl)); (case hp => exact (Reps.one (show Kd.FK (Kd.slice 3 (Kd.int .i64)) _ _ x12_6 [.slice Ao23 x12_6.length co23] from (Kd.FK_slice_mk (Kd.R_reads' (Kd.R_mono (ok' := (fun _ => True)) (HO_12.out) (fun k_ hk => trivial))).2.1 (Kd.R_F (Kd.R_mono (ok' := (fun _ => True)) (HO_12.out) (fun k_ hk => trivial))))) (Reps.one (show Kd.FK (Kd.slice 3 (Kd.int .i64)) _ _ [] [.slice none 0 0] from (Kd.FK_slice_mk (Nat.le_refl _) (Kd.F_nil _ _ _))) (Reps.one (show Kd.FK (Kd.slice 3 (Kd.int .i64)) _ _ y381 [.slice Ao24 y381.length co24] from (Kd.FK_slice_mk (Kd.R_reads' (Kd.R_mono (ok' := (fun _ => True)) (HO383.out) (fun k_ hk => trivial))).2.1 (Kd.R_F (Kd.R_mono (ok' := (fun _ => True)) (HO383.out) (fun k_ hk => trivial))))) (Reps.none _ _))))); intro v385 w25 ho26 hb hg_ hnew_; clear hg_ hnew_; (first | rw [← Ny384.out] at ho26 | (simp only [Int.reduceToNat] at ho26; rw [← Ny384.out] at ho26)); have n0_ := Aside0.mk (Kd.N_lower ho26 (below_size (by repeat (first | (with_reducible first | exact HB.out | apply below_alloc | apply pw_below_drewN | apply below_drew1) | exact HB.out)))); have n1_ := Aside0.mk (below_step (by repeat (first | (with_reducible first | exact HB.out | apply below_alloc | apply pw_below_drewN | apply below_drew1) | exact HB.out)) hb); have nx_ := Aside0.mk (Kd.R_mono (ok' := fun _ => True) (Kd.R_move (Kd.R_bound HO_12.out) (fun k hk => hb.block k hk.2.2.1)) (fun _ _ => trivial)); clear HB; clear HO383; clear HO_12; have HO386 := n0_; have HB := n1_; have HO_12 := nx_; clear n0_ n1_ nx_; clear hb ho26) | (go_at_call 17; (with_reducible refine (dioramaref01_Around.calls a1 41 t387 _ A19.out).mono ?_); rintro e w' ⟨rfl, ⟨nd, rfl⟩⟩; (try first | exact ⟨rfl, _, World.drewN_drewN _ _ _⟩ | exact ⟨rfl, _, Eq.trans (World.drewN_drewN _ _ _) (congrArg (World.drewN _) (Nat.add_assoc _ _ _))⟩)) | (go_at_call 17; (with_reducible refine (dioramaref01_Around.calls a1 2006 t388 _ A20.out).mono ?_); rintro e w' ⟨rfl, ⟨nd, rfl⟩⟩; (try first | exact ⟨rfl, _, World.drewN_drewN _ _ _⟩ | exact ⟨rfl, _, Eq.trans (World.drewN_drewN _ _ _) (congrArg (World.drewN _) (Nat.add_assoc _ _ _))⟩)) | ((with_reducible refine gate_dst (N := 62) rfl ?_); refine Kd.R_lit (Kd.int .i64) _ 3 ?hg (N := 62) ?hd (xs := ([wrap64 (t387 - 20), a1, wrap64 (t388 - 1003)] : List Int)) (inner := [.int .i64 (wrap64 (t387 - 20)), .int .i64 a1, .int .i64 (wrap64 (t388 - 1003))]) (ok := fun _ => True) (okp := fun _ => True) ?hr ?hp (fun _ hk => hk) trivial (Below.refl _ _) (Nat.le_refl _) (by simp) ?_; (case hd => rfl); (case hg => rfl); (case hr => first | (go_simp; done) | (go_simp; rfl)); (case hp => exact (Reps.one (show Kd.M (Kd.int .i64) _ _ _ (wrap64 (t387 - 20)) [.int .i64 (wrap64 (t387 - 20))] from rfl) (Reps.one (show Kd.M (Kd.int .i64) _ _ _ a1 [.int .i64 a1] from rfl) (Reps.one (show Kd.M (Kd.int .i64) _ _ _ (wrap64 (t388 - 1003)) [.int .i64 (wrap64 (t388 - 1003))] from rfl) (Reps.none _ _))))); intro v390 w27 ho28 hb hg_ hnew_; clear hg_ hnew_; (first | rw [← Ny389.out] at ho28 | (simp only [Int.reduceToNat] at ho28; rw [← Ny389.out] at ho28)); have n0_ := Aside0.mk (Kd.N_elder' (by (with_reducible repeat (first | apply Kd.N_alloc | apply Kd.N_drewN | apply Kd.N_drew)); exact HO386.out) (Kd.R_base ho28) hb); have n1_ := Aside0.mk (Kd.R_lower ho28 (below_size (by repeat (first | (with_reducible first | exact HB.out | apply below_alloc | apply pw_below_drewN | apply below_drew1) | exact HB.out)))); have n2_ := Aside0.mk (below_step (by repeat (first | (with_reducible first | exact HB.out | apply below_alloc | apply pw_below_drewN | apply below_drew1) | exact HB.out)) hb); have nx_ := Aside0.mk (Kd.R_mono (ok' := fun _ => True) (Kd.R_elder' (by (with_reducible repeat (first | apply Kd.R_alloc | apply Kd.R_drewN | apply Kd.R_drew)); exact HO_12.out) (Kd.R_base ho28) hb) (fun _ _ => trivial)); clear HO386; clear HO_12; clear HB; have HO386 := n0_; have HO391 := n1_; have HB := n2_; have HO_12 := nx_; clear n0_ n1_ n2_ nx_; clear hb ho28)); try go_wp2_with (first | (go_at_call 17; (with_reducible refine (dioramaref01_Around.calls a3 5 t380 _ A15.out).mono ?_); rintro e w' ⟨rfl, ⟨nd, rfl⟩⟩; (try first | exact ⟨rfl, _, World.drewN_drewN _ _ _⟩ | exact ⟨rfl, _, Eq.trans (World.drewN_drewN _ _ _) (congrArg (World.drewN _) (Nat.add_assoc _ _ _))⟩)) | ((with_reducible refine gate_dst (N := 53) rfl ?_); refine Kd.R_make (Kd.int .i64) _ 3 rfl (N := 53) rfl 23 _ _ rfl ji16 rfl rfl Tryd.underlying23 (.int .i64 0) 8 info3 rfl (by decide) (by omega) 0 (ok := fun _ => True) (okp := fun _ => True) rfl (fun _ hk => hk) trivial (of_decide_eq_true (by first | (with_reducible assumption) | assumption)) (Nat.le_trans (Nat.mul_le_mul_right _ (of_decide_eq_true (by first | (with_reducible assumption) | assumption) : ji16.toNat ≤ 35184372088832)) (by omega)) (Below.refl _ _) (Nat.le_refl _) ?_; intro v382 w21 ho22 hb hg_ hnew_; clear hg_ hnew_; (first | rw [← Ny381.out] at ho22 | (simp only [Int.reduceToNat] at ho22; rw [← Ny381.out] at ho22)); have n0_ := Aside0.mk (Kd.R_elder' (by (with_reducible repeat (first | apply Kd.R_alloc | apply Kd.R_drewN | apply Kd.R_drew)); exact HO_12.out) (Kd.R_base ho22) hb); have n1_ := Aside0.mk (Kd.R_lower (Kd.R_new' ho22 (Kd.R_lt (by (with_reducible repeat (first | apply Kd.R_alloc | apply Kd.R_drewN | apply Kd.R_drew)); exact HO_12.out))) (below_size (by repeat (first | (with_reducible first | exact HB.out | apply below_alloc | apply pw_below_drewN | apply below_drew1) | exact HB.out)))); have n2_ := Aside0.mk (below_step (by repeat (first | (with_reducible first | exact HB.out | apply below_alloc | apply pw_below_drewN | apply below_drew1) | exact HB.out)) hb); clear HO_12; clear HB; have HO_12 := n0_; have HO383 := n1_; have HB := n2_; clear n0_ n1_ n2_; clear hb ho22; obtain ⟨Ao23, co23, eo23⟩ := Kd.R_slice HO_12.out; subst eo23; obtain ⟨Ao24, co24, eo24⟩ := Kd.R_slice HO383.out; subst eo24) | ((with_reducible refine gate_dst (N := 54) rfl ?_); refine Kd.N_lit (Kd.slice 3 (Kd.int .i64)) _ 23 ?hg (N' := 54) ?hd (xs := ([x12_6, [], y381] : List (List Int))) (inner := [.slice Ao23 x12_6.length co23, .slice none 0 0, .slice Ao24 y381.length co24]) (ok := (fun _ => True)) (okp := (fun _ => True)) ?hr ?hp (fun _ hk => hk) ((show ∀ k_, w21.heap.size ≤ k_ → (fun _ => True) k_ from fun k_ hk => trivial) _ (Nat.le_refl _)) (Below.refl _ _) (Nat.le_refl _) (by simp) ?_; (case hd => rfl); (case hg => rfl); (case hr => first | (go_simp; done) | (go_simp; rfl)); (case hp => exact (Reps.one (show Kd.FK (Kd.slice 3 (Kd.int .i64)) _ _ x12_6 [.slice Ao23 x12_6.length co23] from (Kd.FK_slice_mk (Kd.R_reads' (Kd.R_mono (ok' := (fun _ => True)) (HO_12.out) (fun k_ hk => trivial))).2.1 (Kd.R_F (Kd.R_mono (ok' := (fun _ => True)) (HO_12.out) (fun k_ hk => trivial))))) (Reps.one (show Kd.FK (Kd.slice 3 (Kd.int .i64)) _ _ [] [.slice none 0 0] from (Kd.FK_slice_mk (Nat.le_refl _) (Kd.F_nil _ _ _))) (Reps.one (show Kd.FK (Kd.slice 3 (Kd.int .i64)) _ _ y381 [.slice Ao24 y381.length co24] from (Kd.FK_slice_mk (Kd.R_reads' (Kd.R_mono (ok' := (fun _ => True)) (HO383.out) (fun k_ hk => trivial))).2.1 (Kd.R_F (Kd.R_mono (ok' := (fun _ => True)) (HO383.out) (fun k_ hk => trivial))))) (Reps.none _ _))))); intro v385 w25 ho26 hb hg_ hnew_; clear hg_ hnew_; (first | rw [← Ny384.out] at ho26 | (simp only [Int.reduceToNat] at ho26; rw [← Ny384.out] at ho26)); have n0_ := Aside0.mk (Kd.N_lower ho26 (below_size (by repeat (first | (with_reducible first | exact HB.out | apply below_alloc | apply pw_below_drewN | apply below_drew1) | exact HB.out)))); have n1_ := Aside0.mk (below_step (by repeat (first | (with_reducible first | exact HB.out | apply below_alloc | apply pw_below_drewN | apply below_drew1) | exact HB.out)) hb); have nx_ := Aside0.mk (Kd.R_mono (ok' := fun _ => True) (Kd.R_move (Kd.R_bound HO_12.out) (fun k hk => hb.block k hk.2.2.1)) (fun _ _ => trivial)); clear HB; clear HO383; clear HO_12; have HO386 := n0_; have HB := n1_; have HO_12 := nx_; clear n0_ n1_ nx_; clear hb ho26) | (go_at_call 17; (with_reducible refine (dioramaref01_Around.calls a1 41 t387 _ A19.out).mono ?_); rintro e w' ⟨rfl, ⟨nd, rfl⟩⟩; (try first | exact ⟨rfl, _, World.drewN_drewN _ _ _⟩ | exact ⟨rfl, _, Eq.trans (World.drewN_drewN _ _ _) (congrArg (World.drewN _) (Nat.add_assoc _ _ _))⟩)) | (go_at_call 17; (with_reducible refine (dioramaref01_Around.calls a1 2006 t388 _ A20.out).mono ?_); rintro e w' ⟨rfl, ⟨nd, rfl⟩⟩; (try first | exact ⟨rfl, _, World.drewN_drewN _ _ _⟩ | exact ⟨rfl, _, Eq.trans (World.drewN_drewN _ _ _) (congrArg (World.drewN _) (Nat.add_assoc _ _ _))⟩)) | ((with_reducible refine gate_dst (N := 62) rfl ?_); refine Kd.R_lit (Kd.int .i64) _ 3 ?hg (N := 62) ?hd (xs := ([wrap64 (t387 - 20), a1, wrap64 (t388 - 1003)] : List Int)) (inner := [.int .i64 (wrap64 (t387 - 20)), .int .i64 a1, .int .i64 (wrap64 (t388 - 1003))]) (ok := fun _ => True) (okp := fun _ => True) ?hr ?hp (fun _ hk => hk) trivial (Below.refl _ _) (Nat.le_refl _) (by simp) ?_; (case hd => rfl); (case hg => rfl); (case hr => first | (go_simp; done) | (go_simp; rfl)); (case hp => exact (Reps.one (show Kd.M (Kd.int .i64) _ _ _ (wrap64 (t387 - 20)) [.int .i64 (wrap64 (t387 - 20))] from rfl) (Reps.one (show Kd.M (Kd.int .i64) _ _ _ a1 [.int .i64 a1] from rfl) (Reps.one (show Kd.M (Kd.int .i64) _ _ _ (wrap64 (t388 - 1003)) [.int .i64 (wrap64 (t388 - 1003))] from rfl) (Reps.none _ _))))); intro v390 w27 ho28 hb hg_ hnew_; clear hg_ hnew_; (first | rw [← Ny389.out] at ho28 | (simp only [Int.reduceToNat] at ho28; rw [← Ny389.out] at ho28)); have n0_ := Aside0.mk (Kd.N_elder' (by (with_reducible repeat (first | apply Kd.N_alloc | apply Kd.N_drewN | apply Kd.N_drew)); exact HO386.out) (Kd.R_base ho28) hb); have n1_ := Aside0.mk (Kd.R_lower ho28 (below_size (by repeat (first | (with_reducible first | exact HB.out | apply below_alloc | apply pw_below_drewN | apply below_drew1) | exact HB.out)))); have n2_ := Aside0.mk (below_step (by repeat (first | (with_reducible first | exact HB.out | apply below_alloc | apply pw_below_drewN | apply below_drew1) | exact HB.out)) hb); have nx_ := Aside0.mk (Kd.R_mono (ok' := fun _ => True) (Kd.R_elder' (by (with_reducible repeat (first | apply Kd.R_alloc | apply Kd.R_drewN | apply Kd.R_drew)); exact HO_12.out) (Kd.R_base ho28) hb) (fun _ _ => trivial)); clear HO386; clear HO_12; clear HB; have HO386 := n0_; have HO391 := n1_; have HB := n2_; have HO_12 := nx_; clear n0_ n1_ n2_ nx_; clear hb ho28)))
          go_loopg [16] kj6 (fun kq v16 w' => ∃ (x16_2 : Int), v16 = .int .i64 x16_2 ∧ Aside0 (dioramalaw08_CalendarWork.l1 kq a4 t374 x12_6 y384 y389 x16_2 = some r) ∧ Aside0 (kq ≤ kj6) ∧ Aside0 (Kd.R (Kd.int .i64) 3 w' w.heap.size (fun _ => True) (.slice Ao23 x12_6.length co23) x12_6) ∧ Aside0 (Kd.N (Kd.slice 3 (Kd.int .i64)) 23 w' w.heap.size (fun k_ => some k_ ≠ (v390 : Value).ownBlock) v385 y384) ∧ Aside0 (Kd.R (Kd.int .i64) 3 w' w.heap.size (fun _ => True) v390 y389) ∧ Aside0 (Below w.heap.size w w'))
          case atStart => exact ⟨(0), (by first | rfl | (simp; done) | (simp [*]; done)), H', ⟨Nat.le_refl _⟩, ⟨by (with_reducible repeat (first | apply Kd.R_alloc | apply Kd.R_drewN | apply Kd.R_drew)); exact HO_12.out⟩, ⟨by (with_reducible repeat (first | apply Kd.N_alloc | apply Kd.N_drewN | apply Kd.N_drew)); exact Kd.N_mono HO386.out (fun _ hk => hk.2)⟩, ⟨by (with_reducible repeat (first | apply Kd.R_alloc | apply Kd.R_drewN | apply Kd.R_drew)); exact HO391.out⟩, ⟨by repeat (first | (with_reducible first | exact HB.out | apply below_alloc | apply pw_below_drewN | apply below_drew1) | exact HB.out)⟩⟩
          case round =>
            clear H'
            try clear c1
            try clear c2
            try clear p2
            try clear p3
            try clear q3
            try clear hx3
            try clear c6
            try clear p6
            try clear c9
            try clear c9b0
            try clear c10
            try clear c10b0
            try clear c11
            try clear c11b0
            try clear c13
            try clear c17
            try clear c17b0
            try clear c17b1
            try clear c18
            try clear c18b0
            try clear c18b1
            try clear hx375_0
            try clear p2
            try clear p3
            try clear p375
            try clear p6
            try clear q3
            try clear q375
            obtain ⟨x16_2, rfl, HA, HK2, HO_12, HO_14, HO_15, HB⟩ := hrel
            cases gk with
            | zero => exact absurd HA.out (by simp [dioramalaw08_CalendarWork.l1])
            | succ k2 =>
              have H := HA.out
              clear HA
              simp only [dioramalaw08_CalendarWork.l1] at H
              by_cases c29 : x16_2 < 3
              · rw [if_pos c29] at H
                have c29b0 : decide (x16_2 < 3) = true := decide_eq_true c29
                clear c29
                have H' := Aside0.mk H
                clear H
                go_wp2
                repeat (go_quiet (fail); try go_wp2)
                go_loopg [17] k2 (fun kq v17 w' => ∃ (x17_3 : Int), v17 = .int .i64 x17_3 ∧ Aside0 (dioramalaw08_CalendarWork.l2 kq a4 t374 x12_6 y384 y389 x16_2 x17_3 = some r) ∧ Aside0 (kq ≤ k2) ∧ Aside0 (Kd.R (Kd.int .i64) 3 w' w.heap.size (fun _ => True) (.slice Ao23 x12_6.length co23) x12_6) ∧ Aside0 (Kd.N (Kd.slice 3 (Kd.int .i64)) 23 w' w.heap.size (fun k_ => some k_ ≠ (v390 : Value).ownBlock) v385 y384) ∧ Aside0 (Kd.R (Kd.int .i64) 3 w' w.heap.size (fun _ => True) v390 y389) ∧ Aside0 (Below w.heap.size w w'))
                case atStart => exact ⟨(0), (by first | rfl | (simp; done) | (simp [*]; done)), H', ⟨Nat.le_refl _⟩, ⟨by (with_reducible repeat (first | apply Kd.R_alloc | apply Kd.R_drewN | apply Kd.R_drew)); exact HO_12.out⟩, ⟨by (with_reducible repeat (first | apply Kd.N_alloc | apply Kd.N_drewN | apply Kd.N_drew)); exact HO_14.out⟩, ⟨by (with_reducible repeat (first | apply Kd.R_alloc | apply Kd.R_drewN | apply Kd.R_drew)); exact HO_15.out⟩, ⟨by repeat (first | (with_reducible first | exact HB.out | apply below_alloc | apply pw_below_drewN | apply below_drew1) | exact HB.out)⟩⟩
                case round =>
                  clear H'
                  try clear c1
                  try clear c2
                  try clear p2
                  try clear p3
                  try clear q3
                  try clear hx3
                  try clear c6
                  try clear p6
                  try clear c9
                  try clear c9b0
                  try clear c10
                  try clear c10b0
                  try clear c11
                  try clear c11b0
                  try clear c13
                  try clear c17
                  try clear c17b0
                  try clear c17b1
                  try clear c18
                  try clear c18b0
                  try clear c18b1
                  try clear c29
                  try clear c29b0
                  try clear hx375_0
                  try clear p2
                  try clear p3
                  try clear p375
                  try clear p6
                  try clear q3
                  try clear q375
                  obtain ⟨x17_3, rfl, HA, HK3, HO_12, HO_14, HO_15, HB⟩ := hrel
                  cases gk with
                  | zero => exact absurd HA.out (by simp [dioramalaw08_CalendarWork.l2])
                  | succ k3 =>
                    have H := HA.out
                    clear HA
                    simp only [dioramalaw08_CalendarWork.l2] at H
                    by_cases c30 : x17_3 < 3
                    · rw [if_pos c30] at H
                      have c30b0 : decide (x17_3 < 3) = true := decide_eq_true c30
                      clear c30
                      by_cases c31 : 0 ≤ x17_3
                      · rw [if_pos c31] at H
                        have c31b0 : decide (0 ≤ x17_3) = true := decide_eq_true c31
                        clear c31
                        by_cases c32 : x17_3 < (y389.length : Int)
                        · rw [if_pos c32] at H
                          have c32b0 : decide (x17_3 < (y389.length : Int)) = true := decide_eq_true c32
                          clear c32
                          by_cases c33 : 0 ≤ x16_2
                          · rw [if_pos c33] at H
                            have c33b0 : decide (0 ≤ x16_2) = true := decide_eq_true c33
                            clear c33
                            by_cases c34 : x16_2 < (y384.length : Int)
                            · rw [if_pos c34] at H
                              have c34b0 : decide (x16_2 < (y384.length : Int)) = true := decide_eq_true c34
                              clear c34
                              replace H := Option.bind_eq_some_iff.mp H
                              obtain ⟨⟨t399, t400⟩, A350, H⟩ := H
                              replace H : ((dioramaref08_Work.f k3 t374 (rd y389 x17_3) (rd_L3 y384 x16_2)).bind fun bt403 => (if t399 = bt403.1 then (if t400 = bt403.2 then (dioramalaw08_CalendarWork.l2 k3 a4 t374 x12_6 y384 y389 x16_2 (wrap64 (x17_3 + 1))) else (some false)) else (some false))) = some r := H
                              have A35 := Aside0.mk A350
                              clear A350
                              replace H := Option.bind_eq_some_iff.mp H
                              obtain ⟨⟨t403, t404⟩, A360, H⟩ := H
                              replace H : (if t399 = t403 then (if t400 = t404 then (dioramalaw08_CalendarWork.l2 k3 a4 t374 x12_6 y384 y389 x16_2 (wrap64 (x17_3 + 1))) else (some false)) else (some false)) = some r := H
                              have A36 := Aside0.mk A360
                              clear A360
                              by_cases c37 : t399 = t403
                              · rw [if_pos c37] at H
                                have c37b0 : (t399 == t403) = true := beq_iff_eq.mpr c37
                                have c37b1 : (t399 != t403) = false := bne_eq_false_iff_eq.mpr c37
                                clear c37
                                by_cases c38 : t400 = t404
                                · rw [if_pos c38] at H
                                  have c38b0 : (t400 == t404) = true := beq_iff_eq.mpr c38
                                  have c38b1 : (t400 != t404) = false := bne_eq_false_iff_eq.mpr c38
                                  clear c38
                                  have H' := Aside0.mk H
                                  clear H
                                  obtain ⟨Ao39, co39, eo39⟩ := Kd.R_slice HO_15.out
                                  subst eo39
                                  have p397 : 0 ≤ (x17_3 : Int) := of_decide_eq_true (by first | (with_reducible assumption) | assumption)
                                  have q397 : x17_3 < (y389.length : Int) := of_decide_eq_true (by first | (with_reducible assumption) | assumption)
                                  obtain ⟨ad397, e397, hx397_0⟩ := Kd.at_int (Kd.R_reads' HO_15.out).2.2 x17_3 p397 q397
                                  cases e397
                                  replace p397 := eq_true p397
                                  replace q397 := eq_true q397
                                  obtain ⟨Ao40, co40, eo40⟩ := Kd.N_slice HO_14.out
                                  subst eo40
                                  have p398 : 0 ≤ (x16_2 : Int) := of_decide_eq_true (by first | (with_reducible assumption) | assumption)
                                  have q398 : x16_2 < (y384.length : Int) := of_decide_eq_true (by first | (with_reducible assumption) | assumption)
                                  obtain ⟨ad398, A398_0, c398_0, e398, hx398_0, hl398_0, hi398_0⟩ := at_L3 (Kd.N_reads' HO_14.out).2.2 x16_2 p398 q398
                                  cases e398
                                  obtain ⟨ce398, hce398, hMe398, hcc398⟩ := Kd.N_get HO_14.out [] x16_2 p398 (by first | exact q398 | exact of_decide_eq_true (by first | (with_reducible assumption) | assumption) | (have e_ := (Kd.N_reads' HO_14.out).1; omega))
                                  obtain ⟨ua398_0, uc398_0, rfl, ul398_0, ge398_0⟩ := Kd.FK_slice_open hMe398
                                  have hv398_0 := hcc398 0 _ rfl
                                  rw [Nat.add_zero, show ((Kd.slice 3 (Kd.int .i64))).sz = 1 from rfl, Nat.mul_one] at hv398_0
                                  replace hv398_0 := Option.some.inj (hv398_0.symm.trans hx398_0)
                                  injection hv398_0 with hva_ hvn_ hvc_
                                  rw [hva_] at ge398_0
                                  rw [hvc_] at ul398_0
                                  have HL398_0 := Aside0.mk (show Kd.V (Kd.int .i64) 3 _ w.heap.size _ _ (rd_L3 y384 x16_2) from Kd.V_mk ul398_0 ge398_0)
                                  clear hva_ hvn_ hvc_ ge398_0 ul398_0
                                  clear hcc398 hce398
                                  have HR398_0 := Aside0.mk hi398_0
                                  have HC398_0 := Aside0.mk hl398_0
                                  clear hi398_0 hl398_0
                                  replace p398 := eq_true p398
                                  replace q398 := eq_true q398
                                  go_wp2_with (first | (go_at_call 32; (with_reducible refine (calendar_Work.calls k3 t374 (rd y389 x17_3) _ _ (rd_L3 y384 x16_2) t399 t400 _ ?side1 ?side2 A35.out).mono ?_); (case side1 => repeat (first | exact (by repeat (first | (with_reducible exact HR398_0.out) | (with_reducible refine Kd.C_alloc ?_ _) | (with_reducible refine Kd.C_drewN ?_ _) | (with_reducible refine Kd.C_drew ?_) | exact HR398_0.out)) | (with_reducible refine Kd.C_alloc ?_ _) | (with_reducible refine Kd.C_drewN ?_ _) | (with_reducible refine Kd.C_drew ?_))); (case side2 => exact HC398_0.out); rintro e w' ⟨rfl, ⟨nd, rfl⟩⟩; (try first | exact ⟨rfl, _, World.drewN_drewN _ _ _⟩ | exact ⟨rfl, _, Eq.trans (World.drewN_drewN _ _ _) (congrArg (World.drewN _) (Nat.add_assoc _ _ _))⟩); have p401 : 0 ≤ (x17_3 : Int) := of_decide_eq_true (by first | (with_reducible assumption) | assumption); have q401 : x17_3 < (y389.length : Int) := of_decide_eq_true (by first | (with_reducible assumption) | assumption); obtain ⟨ad401, e401, hx401_0⟩ := Kd.at_int (Kd.R_reads' HO_15.out).2.2 x17_3 p401 q401; obtain rfl : ad397 = ad401 := (by injection e401); replace p401 := eq_true p401; replace q401 := eq_true q401; have p402 : 0 ≤ (x16_2 : Int) := of_decide_eq_true (by first | (with_reducible assumption) | assumption); have q402 : x16_2 < (y384.length : Int) := of_decide_eq_true (by first | (with_reducible assumption) | assumption); obtain ⟨ad402, A402_0, c402_0, e402, hx402_0, hl402_0, hi402_0⟩ := at_L3 (Kd.N_reads' HO_14.out).2.2 x16_2 p402 q402; obtain rfl : ad398 = ad402 := (by injection e402); obtain ⟨ce402, hce402, hMe402, hcc402⟩ := Kd.N_get HO_14.out [] x16_2 p402 (by first | exact q402 | exact of_decide_eq_true (by first | (with_reducible assumption) | assumption) | (have e_ := (Kd.N_reads' HO_14.out).1; omega)); obtain ⟨ua402_0, uc402_0, rfl, ul402_0, ge402_0⟩ := Kd.FK_slice_open hMe402; have hv402_0 := hcc402 0 _ rfl; rw [Nat.add_zero, show ((Kd.slice 3 (Kd.int .i64))).sz = 1 from rfl, Nat.mul_one] at hv402_0; replace hv402_0 := Option.some.inj (hv402_0.symm.trans hx402_0); injection hv402_0 with hva_ hvn_ hvc_; rw [hva_] at ge402_0; rw [hvc_] at ul402_0; have HL402_0 := Aside0.mk (show Kd.V (Kd.int .i64) 3 _ w.heap.size _ _ (rd_L3 y384 x16_2) from Kd.V_mk ul402_0 ge402_0); clear hva_ hvn_ hvc_ ge402_0 ul402_0; clear hcc402 hce402; have HR402_0 := Aside0.mk hi402_0; have HC402_0 := Aside0.mk hl402_0; clear hi402_0 hl402_0; replace p402 := eq_true p402; replace q402 := eq_true q402; have ea_ := Option.some.inj (hx398_0.symm.trans hx402_0); injection ea_ with ea_ en_ ec_; subst ea_; subst ec_; clear en_) | (go_at_call 33; (with_reducible refine (dioramaref08_Work.calls k3 t374 (rd y389 x17_3) _ _ (rd_L3 y384 x16_2) t403 t404 _ ?side1 ?side2 A36.out).mono ?_); (case side1 => repeat (first | exact (by repeat (first | (with_reducible exact HR402_0.out) | (with_reducible refine Kd.C_alloc ?_ _) | (with_reducible refine Kd.C_drewN ?_ _) | (with_reducible refine Kd.C_drew ?_) | exact HR402_0.out)) | (with_reducible refine Kd.C_alloc ?_ _) | (with_reducible refine Kd.C_drewN ?_ _) | (with_reducible refine Kd.C_drew ?_))); (case side2 => exact HC402_0.out); rintro e w' ⟨rfl, ⟨nd, rfl⟩⟩; (try first | exact ⟨rfl, _, World.drewN_drewN _ _ _⟩ | exact ⟨rfl, _, Eq.trans (World.drewN_drewN _ _ _) (congrArg (World.drewN _) (Nat.add_assoc _ _ _))⟩)))
                                  repeat (go_quiet (first | (go_at_call 32; (with_reducible refine (calendar_Work.calls k3 t374 (rd y389 x17_3) _ _ (rd_L3 y384 x16_2) t399 t400 _ ?side1 ?side2 A35.out).mono ?_); (case side1 => repeat (first | exact (by repeat (first | (with_reducible exact HR398_0.out) | (with_reducible refine Kd.C_alloc ?_ _) | (with_reducible refine Kd.C_drewN ?_ _) | (with_reducible refine Kd.C_drew ?_) | exact HR398_0.out)) | (with_reducible refine Kd.C_alloc ?_ _) | (with_reducible refine Kd.C_drewN ?_ _) | (with_reducible refine Kd.C_drew ?_))); (case side2 => exact HC398_0.out); rintro e w' ⟨rfl, ⟨nd, rfl⟩⟩; (try first | exact ⟨rfl, _, World.drewN_drewN _ _ _⟩ | exact ⟨rfl, _, Eq.trans (World.drewN_drewN _ _ _) (congrArg (World.drewN _) (Nat.add_assoc _ _ _))⟩); have p401 : 0 ≤ (x17_3 : Int) := of_decide_eq_true (by first | (with_reducible assumption) | assumption); have q401 : x17_3 < (y389.length : Int) := of_decide_eq_true (by first | (with_reducible assumption) | assumption); obtain ⟨ad401, e401, hx401_0⟩ := Kd.at_int (Kd.R_reads' HO_15.out).2.2 x17_3 p401 q401; obtain rfl : ad397 = ad401 := (by injection e401); replace p401 := eq_true p401; replace q401 := eq_true q401; have p402 : 0 ≤ (x16_2 : Int) := of_decide_eq_true (by first | (with_reducible assumption) | assumption); have q402 : x16_2 < (y384.length : Int) := of_decide_eq_true (by first | (with_reducible assumption) | assumption); obtain ⟨ad402, A402_0, c402_0, e402, hx402_0, hl402_0, hi402_0⟩ := at_L3 (Kd.N_reads' HO_14.out).2.2 x16_2 p402 q402; obtain rfl : ad398 = ad402 := (by injection e402); obtain ⟨ce402, hce402, hMe402, hcc402⟩ := Kd.N_get HO_14.out [] x16_2 p402 (by first | exact q402 | exact of_decide_eq_true (by first | (with_reducible assumption) | assumption) | (have e_ := (Kd.N_reads' HO_14.out).1; omega)); obtain ⟨ua402_0, uc402_0, rfl, ul402_0, ge402_0⟩ := Kd.FK_slice_open hMe402; have hv402_0 := hcc402 0 _ rfl; rw [Nat.add_zero, show ((Kd.slice 3 (Kd.int .i64))).sz = 1 from rfl, Nat.mul_one] at hv402_0; replace hv402_0 := Option.some.inj (hv402_0.symm.trans hx402_0); injection hv402_0 with hva_ hvn_ hvc_; rw [hva_] at ge402_0; rw [hvc_] at ul402_0; have HL402_0 := Aside0.mk (show Kd.V (Kd.int .i64) 3 _ w.heap.size _ _ (rd_L3 y384 x16_2) from Kd.V_mk ul402_0 ge402_0); clear hva_ hvn_ hvc_ ge402_0 ul402_0; clear hcc402 hce402; have HR402_0 := Aside0.mk hi402_0; have HC402_0 := Aside0.mk hl402_0; clear hi402_0 hl402_0; replace p402 := eq_true p402; replace q402 := eq_true q402; have ea_ := Option.some.inj (hx398_0.symm.trans hx402_0); injection ea_ with ea_ en_ ec_; subst ea_; subst ec_; clear en_) | (go_at_call 33; (with_reducible refine (dioramaref08_Work.calls k3 t374 (rd y389 x17_3) _ _ (rd_L3 y384 x16_2) t403 t404 _ ?side1 ?side2 A36.out).mono ?_); (case side1 => repeat (first | exact (by repeat (first | (with_reducible exact HR402_0.out) | (with_reducible refine Kd.C_alloc ?_ _) | (with_reducible refine Kd.C_drewN ?_ _) | (with_reducible refine Kd.C_drew ?_) | exact HR402_0.out)) | (with_reducible refine Kd.C_alloc ?_ _) | (with_reducible refine Kd.C_drewN ?_ _) | (with_reducible refine Kd.C_drew ?_))); (case side2 => exact HC402_0.out); rintro e w' ⟨rfl, ⟨nd, rfl⟩⟩; (try first | exact ⟨rfl, _, World.drewN_drewN _ _ _⟩ | exact ⟨rfl, _, Eq.trans (World.drewN_drewN _ _ _) (congrArg (World.drewN _) (Nat.add_assoc _ _ _))⟩))); try go_wp2_with (first | (go_at_call 32; (with_reducible refine (calendar_Work.calls k3 t374 (rd y389 x17_3) _ _ (rd_L3 y384 x16_2) t399 t400 _ ?side1 ?side2 A35.out).mono ?_); (case side1 => repeat (first | exact (by repeat (first | (with_reducible exact HR398_0.out) | (with_reducible refine Kd.C_alloc ?_ _) | (with_reducible refine Kd.C_drewN ?_ _) | (with_reducible refine Kd.C_drew ?_) | exact HR398_0.out)) | (with_reducible refine Kd.C_alloc ?_ _) | (with_reducible refine Kd.C_drewN ?_ _) | (with_reducible refine Kd.C_drew ?_))); (case side2 => exact HC398_0.out); rintro e w' ⟨rfl, ⟨nd, rfl⟩⟩; (try first | exact ⟨rfl, _, World.drewN_drewN _ _ _⟩ | exact ⟨rfl, _, Eq.trans (World.drewN_drewN _ _ _) (congrArg (World.drewN _) (Nat.add_assoc _ _ _))⟩); have p401 : 0 ≤ (x17_3 : Int) := of_decide_eq_true (by first | (with_reducible assumption) | assumption); have q401 : x17_3 < (y389.length : Int) := of_decide_eq_true (by first | (with_reducible assumption) | assumption); obtain ⟨ad401, e401, hx401_0⟩ := Kd.at_int (Kd.R_reads' HO_15.out).2.2 x17_3 p401 q401; obtain rfl : ad397 = ad401 := (by injection e401); replace p401 := eq_true p401; replace q401 := eq_true q401; have p402 : 0 ≤ (x16_2 : Int) := of_decide_eq_true (by first | (with_reducible assumption) | assumption); have q402 : x16_2 < (y384.length : Int) := of_decide_eq_true (by first | (with_reducible assumption) | assumption); obtain ⟨ad402, A402_0, c402_0, e402, hx402_0, hl402_0, hi402_0⟩ := at_L3 (Kd.N_reads' HO_14.out).2.2 x16_2 p402 q402; obtain rfl : ad398 = ad402 := (by injection e402); obtain ⟨ce402, hce402, hMe402, hcc402⟩ := Kd.N_get HO_14.out [] x16_2 p402 (by first | exact q402 | exact of_decide_eq_true (by first | (with_reducible assumption) | assumption) | (have e_ := (Kd.N_reads' HO_14.out).1; omega)); obtain ⟨ua402_0, uc402_0, rfl, ul402_0, ge402_0⟩ := Kd.FK_slice_open hMe402; have hv402_0 := hcc402 0 _ rfl; rw [Nat.add_zero, show ((Kd.slice 3 (Kd.int .i64))).sz = 1 from rfl, Nat.mul_one] at hv402_0; replace hv402_0 := Option.some.inj (hv402_0.symm.trans hx402_0); injection hv402_0 with hva_ hvn_ hvc_; rw [hva_] at ge402_0; rw [hvc_] at ul402_0; have HL402_0 := Aside0.mk (show Kd.V (Kd.int .i64) 3 _ w.heap.size _ _ (rd_L3 y384 x16_2) from Kd.V_mk ul402_0 ge402_0); clear hva_ hvn_ hvc_ ge402_0 ul402_0; clear hcc402 hce402; have HR402_0 := Aside0.mk hi402_0; have HC402_0 := Aside0.mk hl402_0; clear hi402_0 hl402_0; replace p402 := eq_true p402; replace q402 := eq_true q402; have ea_ := Option.some.inj (hx398_0.symm.trans hx402_0); injection ea_ with ea_ en_ ec_; subst ea_; subst ec_; clear en_) | (go_at_call 33; (with_reducible refine (dioramaref08_Work.calls k3 t374 (rd y389 x17_3) _ _ (rd_L3 y384 x16_2) t403 t404 _ ?side1 ?side2 A36.out).mono ?_); (case side1 => repeat (first | exact (by repeat (first | (with_reducible exact HR402_0.out) | (with_reducible refine Kd.C_alloc ?_ _) | (with_reducible refine Kd.C_drewN ?_ _) | (with_reducible refine Kd.C_drew ?_) | exact HR402_0.out)) | (with_reducible refine Kd.C_alloc ?_ _) | (with_reducible refine Kd.C_drewN ?_ _) | (with_reducible refine Kd.C_drew ?_))); (case side2 => exact HC402_0.out); rintro e w' ⟨rfl, ⟨nd, rfl⟩⟩; (try first | exact ⟨rfl, _, World.drewN_drewN _ _ _⟩ | exact ⟨rfl, _, Eq.trans (World.drewN_drewN _ _ _) (congrArg (World.drewN _) (Nat.add_assoc _ _ _))⟩))))
                                  go_roundg k3
                                  case measure => have := HJ6.out; have := HK2.out; have := HK3.out; omega
                                  case rel => exact ⟨(wrap64 (x17_3 + 1)), (by first | rfl | (simp; done) | (simp [*]; done)), H', ⟨by have := HJ6.out; have := HK2.out; have := HK3.out; omega⟩, ⟨by (with_reducible repeat (first | apply Kd.R_alloc | apply Kd.R_drewN | apply Kd.R_drew)); exact HO_12.out⟩, ⟨by (with_reducible repeat (first | apply Kd.N_alloc | apply Kd.N_drewN | apply Kd.N_drew)); exact HO_14.out⟩, ⟨by (with_reducible repeat (first | apply Kd.R_alloc | apply Kd.R_drewN | apply Kd.R_drew)); exact HO_15.out⟩, ⟨by repeat (first | (with_reducible first | exact HB.out | apply below_alloc | apply pw_below_drewN | apply below_drew1) | exact HB.out)⟩⟩
                                · rw [if_neg c38] at H
                                  have c38b0 : (t400 == t404) = false := beq_eq_false_iff_ne.mpr c38
                                  have c38b1 : (t400 != t404) = true := bne_iff_ne.mpr c38
                                  obtain rfl := Option.some.inj H
                                  obtain ⟨Ao41, co41, eo41⟩ := Kd.R_slice HO_15.out
                                  subst eo41
                                  have p397 : 0 ≤ (x17_3 : Int) := of_decide_eq_true (by first | (with_reducible assumption) | assumption)
                                  have q397 : x17_3 < (y389.length : Int) := of_decide_eq_true (by first | (with_reducible assumption) | assumption)
                                  obtain ⟨ad397, e397, hx397_0⟩ := Kd.at_int (Kd.R_reads' HO_15.out).2.2 x17_3 p397 q397
                                  cases e397
                                  replace p397 := eq_true p397
                                  replace q397 := eq_true q397
                                  obtain ⟨Ao42, co42, eo42⟩ := Kd.N_slice HO_14.out
                                  subst eo42
                                  have p398 : 0 ≤ (x16_2 : Int) := of_decide_eq_true (by first | (with_reducible assumption) | assumption)
                                  have q398 : x16_2 < (y384.length : Int) := of_decide_eq_true (by first | (with_reducible assumption) | assumption)
                                  obtain ⟨ad398, A398_0, c398_0, e398, hx398_0, hl398_0, hi398_0⟩ := at_L3 (Kd.N_reads' HO_14.out).2.2 x16_2 p398 q398
                                  cases e398
                                  obtain ⟨ce398, hce398, hMe398, hcc398⟩ := Kd.N_get HO_14.out [] x16_2 p398 (by first | exact q398 | exact of_decide_eq_true (by first | (with_reducible assumption) | assumption) | (have e_ := (Kd.N_reads' HO_14.out).1; omega))
                                  obtain ⟨ua398_0, uc398_0, rfl, ul398_0, ge398_0⟩ := Kd.FK_slice_open hMe398
                                  have hv398_0 := hcc398 0 _ rfl
                                  rw [Nat.add_zero, show ((Kd.slice 3 (Kd.int .i64))).sz = 1 from rfl, Nat.mul_one] at hv398_0
                                  replace hv398_0 := Option.some.inj (hv398_0.symm.trans hx398_0)
                                  injection hv398_0 with hva_ hvn_ hvc_
                                  rw [hva_] at ge398_0
                                  rw [hvc_] at ul398_0
                                  have HL398_0 := Aside0.mk (show Kd.V (Kd.int .i64) 3 _ w.heap.size _ _ (rd_L3 y384 x16_2) from Kd.V_mk ul398_0 ge398_0)
                                  clear hva_ hvn_ hvc_ ge398_0 ul398_0
                                  clear hcc398 hce398
                                  have HR398_0 := Aside0.mk hi398_0
                                  have HC398_0 := Aside0.mk hl398_0
                                  clear hi398_0 hl398_0
                                  replace p398 := eq_true p398
                                  replace q398 := eq_true q398
                                  go_wp2_with (first | (go_at_call 32; (with_reducible refine (calendar_Work.calls k3 t374 (rd y389 x17_3) _ _ (rd_L3 y384 x16_2) t399 t400 _ ?side1 ?side2 A35.out).mono ?_); (case side1 => repeat (first | exact (by repeat (first | (with_reducible exact HR398_0.out) | (with_reducible refine Kd.C_alloc ?_ _) | (with_reducible refine Kd.C_drewN ?_ _) | (with_reducible refine Kd.C_drew ?_) | exact HR398_0.out)) | (with_reducible refine Kd.C_alloc ?_ _) | (with_reducible refine Kd.C_drewN ?_ _) | (with_reducible refine Kd.C_drew ?_))); (case side2 => exact HC398_0.out); rintro e w' ⟨rfl, ⟨nd, rfl⟩⟩; (try first | exact ⟨rfl, _, World.drewN_drewN _ _ _⟩ | exact ⟨rfl, _, Eq.trans (World.drewN_drewN _ _ _) (congrArg (World.drewN _) (Nat.add_assoc _ _ _))⟩); have p401 : 0 ≤ (x17_3 : Int) := of_decide_eq_true (by first | (with_reducible assumption) | assumption); have q401 : x17_3 < (y389.length : Int) := of_decide_eq_true (by first | (with_reducible assumption) | assumption); obtain ⟨ad401, e401, hx401_0⟩ := Kd.at_int (Kd.R_reads' HO_15.out).2.2 x17_3 p401 q401; obtain rfl : ad397 = ad401 := (by injection e401); replace p401 := eq_true p401; replace q401 := eq_true q401; have p402 : 0 ≤ (x16_2 : Int) := of_decide_eq_true (by first | (with_reducible assumption) | assumption); have q402 : x16_2 < (y384.length : Int) := of_decide_eq_true (by first | (with_reducible assumption) | assumption); obtain ⟨ad402, A402_0, c402_0, e402, hx402_0, hl402_0, hi402_0⟩ := at_L3 (Kd.N_reads' HO_14.out).2.2 x16_2 p402 q402; obtain rfl : ad398 = ad402 := (by injection e402); obtain ⟨ce402, hce402, hMe402, hcc402⟩ := Kd.N_get HO_14.out [] x16_2 p402 (by first | exact q402 | exact of_decide_eq_true (by first | (with_reducible assumption) | assumption) | (have e_ := (Kd.N_reads' HO_14.out).1; omega)); obtain ⟨ua402_0, uc402_0, rfl, ul402_0, ge402_0⟩ := Kd.FK_slice_open hMe402; have hv402_0 := hcc402 0 _ rfl; rw [Nat.add_zero, show ((Kd.slice 3 (Kd.int .i64))).sz = 1 from rfl, Nat.mul_one] at hv402_0; replace hv402_0 := Option.some.inj (hv402_0.symm.trans hx402_0); injection hv402_0 with hva_ hvn_ hvc_; rw [hva_] at ge402_0; rw [hvc_] at ul402_0; have HL402_0 := Aside0.mk (show Kd.V (Kd.int .i64) 3 _ w.heap.size _ _ (rd_L3 y384 x16_2) from Kd.V_mk ul402_0 ge402_0); clear hva_ hvn_ hvc_ ge402_0 ul402_0; clear hcc402 hce402; have HR402_0 := Aside0.mk hi402_0; have HC402_0 := Aside0.mk hl402_0; clear hi402_0 hl402_0; replace p402 := eq_true p402; replace q402 := eq_true q402; have ea_ := Option.some.inj (hx398_0.symm.trans hx402_0); injection ea_ with ea_ en_ ec_; subst ea_; subst ec_; clear en_) | (go_at_call 33; (with_reducible refine (dioramaref08_Work.calls k3 t374 (rd y389 x17_3) _ _ (rd_L3 y384 x16_2) t403 t404 _ ?side1 ?side2 A36.out).mono ?_); (case side1 => repeat (first | exact (by repeat (first | (with_reducible exact HR402_0.out) | (with_reducible refine Kd.C_alloc ?_ _) | (with_reducible refine Kd.C_drewN ?_ _) | (with_reducible refine Kd.C_drew ?_) | exact HR402_0.out)) | (with_reducible refine Kd.C_alloc ?_ _) | (with_reducible refine Kd.C_drewN ?_ _) | (with_reducible refine Kd.C_drew ?_))); (case side2 => exact HC402_0.out); rintro e w' ⟨rfl, ⟨nd, rfl⟩⟩; (try first | exact ⟨rfl, _, World.drewN_drewN _ _ _⟩ | exact ⟨rfl, _, Eq.trans (World.drewN_drewN _ _ _) (congrArg (World.drewN _) (Nat.add_assoc _ _ _))⟩)))
                                  repeat (go_quiet (first | (go_at_call 32; (with_reducible refine (calendar_Work.calls k3 t374 (rd y389 x17_3) _ _ (rd_L3 y384 x16_2) t399 t400 _ ?side1 ?side2 A35.out).mono ?_); (case side1 => repeat (first | exact (by repeat (first | (with_reducible exact HR398_0.out) | (with_reducible refine Kd.C_alloc ?_ _) | (with_reducible refine Kd.C_drewN ?_ _) | (with_reducible refine Kd.C_drew ?_) | exact HR398_0.out)) | (with_reducible refine Kd.C_alloc ?_ _) | (with_reducible refine Kd.C_drewN ?_ _) | (with_reducible refine Kd.C_drew ?_))); (case side2 => exact HC398_0.out); rintro e w' ⟨rfl, ⟨nd, rfl⟩⟩; (try first | exact ⟨rfl, _, World.drewN_drewN _ _ _⟩ | exact ⟨rfl, _, Eq.trans (World.drewN_drewN _ _ _) (congrArg (World.drewN _) (Nat.add_assoc _ _ _))⟩); have p401 : 0 ≤ (x17_3 : Int) := of_decide_eq_true (by first | (with_reducible assumption) | assumption); have q401 : x17_3 < (y389.length : Int) := of_decide_eq_true (by first | (with_reducible assumption) | assumption); obtain ⟨ad401, e401, hx401_0⟩ := Kd.at_int (Kd.R_reads' HO_15.out).2.2 x17_3 p401 q401; obtain rfl : ad397 = ad401 := (by injection e401); replace p401 := eq_true p401; replace q401 := eq_true q401; have p402 : 0 ≤ (x16_2 : Int) := of_decide_eq_true (by first | (with_reducible assumption) | assumption); have q402 : x16_2 < (y384.length : Int) := of_decide_eq_true (by first | (with_reducible assumption) | assumption); obtain ⟨ad402, A402_0, c402_0, e402, hx402_0, hl402_0, hi402_0⟩ := at_L3 (Kd.N_reads' HO_14.out).2.2 x16_2 p402 q402; obtain rfl : ad398 = ad402 := (by injection e402); obtain ⟨ce402, hce402, hMe402, hcc402⟩ := Kd.N_get HO_14.out [] x16_2 p402 (by first | exact q402 | exact of_decide_eq_true (by first | (with_reducible assumption) | assumption) | (have e_ := (Kd.N_reads' HO_14.out).1; omega)); obtain ⟨ua402_0, uc402_0, rfl, ul402_0, ge402_0⟩ := Kd.FK_slice_open hMe402; have hv402_0 := hcc402 0 _ rfl; rw [Nat.add_zero, show ((Kd.slice 3 (Kd.int .i64))).sz = 1 from rfl, Nat.mul_one] at hv402_0; replace hv402_0 := Option.some.inj (hv402_0.symm.trans hx402_0); injection hv402_0 with hva_ hvn_ hvc_; rw [hva_] at ge402_0; rw [hvc_] at ul402_0; have HL402_0 := Aside0.mk (show Kd.V (Kd.int .i64) 3 _ w.heap.size _ _ (rd_L3 y384 x16_2) from Kd.V_mk ul402_0 ge402_0); clear hva_ hvn_ hvc_ ge402_0 ul402_0; clear hcc402 hce402; have HR402_0 := Aside0.mk hi402_0; have HC402_0 := Aside0.mk hl402_0; clear hi402_0 hl402_0; replace p402 := eq_true p402; replace q402 := eq_true q402; have ea_ := Option.some.inj (hx398_0.symm.trans hx402_0); injection ea_ with ea_ en_ ec_; subst ea_; subst ec_; clear en_) | (go_at_call 33; (with_reducible refine (dioramaref08_Work.calls k3 t374 (rd y389 x17_3) _ _ (rd_L3 y384 x16_2) t403 t404 _ ?side1 ?side2 A36.out).mono ?_); (case side1 => repeat (first | exact (by repeat (first | (with_reducible exact HR402_0.out) | (with_reducible refine Kd.C_alloc ?_ _) | (with_reducible refine Kd.C_drewN ?_ _) | (with_reducible refine Kd.C_drew ?_) | exact HR402_0.out)) | (with_reducible refine Kd.C_alloc ?_ _) | (with_reducible refine Kd.C_drewN ?_ _) | (with_reducible refine Kd.C_drew ?_))); (case side2 => exact HC402_0.out); rintro e w' ⟨rfl, ⟨nd, rfl⟩⟩; (try first | exact ⟨rfl, _, World.drewN_drewN _ _ _⟩ | exact ⟨rfl, _, Eq.trans (World.drewN_drewN _ _ _) (congrArg (World.drewN _) (Nat.add_assoc _ _ _))⟩))); try go_wp2_with (first | (go_at_call 32; (with_reducible refine (calendar_Work.calls k3 t374 (rd y389 x17_3) _ _ (rd_L3 y384 x16_2) t399 t400 _ ?side1 ?side2 A35.out).mono ?_); (case side1 => repeat (first | exact (by repeat (first | (with_reducible exact HR398_0.out) | (with_reducible refine Kd.C_alloc ?_ _) | (with_reducible refine Kd.C_drewN ?_ _) | (with_reducible refine Kd.C_drew ?_) | exact HR398_0.out)) | (with_reducible refine Kd.C_alloc ?_ _) | (with_reducible refine Kd.C_drewN ?_ _) | (with_reducible refine Kd.C_drew ?_))); (case side2 => exact HC398_0.out); rintro e w' ⟨rfl, ⟨nd, rfl⟩⟩; (try first | exact ⟨rfl, _, World.drewN_drewN _ _ _⟩ | exact ⟨rfl, _, Eq.trans (World.drewN_drewN _ _ _) (congrArg (World.drewN _) (Nat.add_assoc _ _ _))⟩); have p401 : 0 ≤ (x17_3 : Int) := of_decide_eq_true (by first | (with_reducible assumption) | assumption); have q401 : x17_3 < (y389.length : Int) := of_decide_eq_true (by first | (with_reducible assumption) | assumption); obtain ⟨ad401, e401, hx401_0⟩ := Kd.at_int (Kd.R_reads' HO_15.out).2.2 x17_3 p401 q401; obtain rfl : ad397 = ad401 := (by injection e401); replace p401 := eq_true p401; replace q401 := eq_true q401; have p402 : 0 ≤ (x16_2 : Int) := of_decide_eq_true (by first | (with_reducible assumption) | assumption); have q402 : x16_2 < (y384.length : Int) := of_decide_eq_true (by first | (with_reducible assumption) | assumption); obtain ⟨ad402, A402_0, c402_0, e402, hx402_0, hl402_0, hi402_0⟩ := at_L3 (Kd.N_reads' HO_14.out).2.2 x16_2 p402 q402; obtain rfl : ad398 = ad402 := (by injection e402); obtain ⟨ce402, hce402, hMe402, hcc402⟩ := Kd.N_get HO_14.out [] x16_2 p402 (by first | exact q402 | exact of_decide_eq_true (by first | (with_reducible assumption) | assumption) | (have e_ := (Kd.N_reads' HO_14.out).1; omega)); obtain ⟨ua402_0, uc402_0, rfl, ul402_0, ge402_0⟩ := Kd.FK_slice_open hMe402; have hv402_0 := hcc402 0 _ rfl; rw [Nat.add_zero, show ((Kd.slice 3 (Kd.int .i64))).sz = 1 from rfl, Nat.mul_one] at hv402_0; replace hv402_0 := Option.some.inj (hv402_0.symm.trans hx402_0); injection hv402_0 with hva_ hvn_ hvc_; rw [hva_] at ge402_0; rw [hvc_] at ul402_0; have HL402_0 := Aside0.mk (show Kd.V (Kd.int .i64) 3 _ w.heap.size _ _ (rd_L3 y384 x16_2) from Kd.V_mk ul402_0 ge402_0); clear hva_ hvn_ hvc_ ge402_0 ul402_0; clear hcc402 hce402; have HR402_0 := Aside0.mk hi402_0; have HC402_0 := Aside0.mk hl402_0; clear hi402_0 hl402_0; replace p402 := eq_true p402; replace q402 := eq_true q402; have ea_ := Option.some.inj (hx398_0.symm.trans hx402_0); injection ea_ with ea_ en_ ec_; subst ea_; subst ec_; clear en_) | (go_at_call 33; (with_reducible refine (dioramaref08_Work.calls k3 t374 (rd y389 x17_3) _ _ (rd_L3 y384 x16_2) t403 t404 _ ?side1 ?side2 A36.out).mono ?_); (case side1 => repeat (first | exact (by repeat (first | (with_reducible exact HR402_0.out) | (with_reducible refine Kd.C_alloc ?_ _) | (with_reducible refine Kd.C_drewN ?_ _) | (with_reducible refine Kd.C_drew ?_) | exact HR402_0.out)) | (with_reducible refine Kd.C_alloc ?_ _) | (with_reducible refine Kd.C_drewN ?_ _) | (with_reducible refine Kd.C_drew ?_))); (case side2 => exact HC402_0.out); rintro e w' ⟨rfl, ⟨nd, rfl⟩⟩; (try first | exact ⟨rfl, _, World.drewN_drewN _ _ _⟩ | exact ⟨rfl, _, Eq.trans (World.drewN_drewN _ _ _) (congrArg (World.drewN _) (Nat.add_assoc _ _ _))⟩))))
                                  go_ret
                                  exact ⟨by first | rfl | (simp [errW_none, errW_some] <;> rfl) | (simp only [← hji16]; first | rfl | (simp [errW_none, errW_some] <;> rfl)) | (simp [*, errW_none, errW_some] <;> rfl), by repeat (first | (with_reducible first | exact HB.out | apply below_alloc | apply pw_below_drewN | apply below_drew1) | exact HB.out)⟩
                              · rw [if_neg c37] at H
                                have c37b0 : (t399 == t403) = false := beq_eq_false_iff_ne.mpr c37
                                have c37b1 : (t399 != t403) = true := bne_iff_ne.mpr c37
                                obtain rfl := Option.some.inj H
                                obtain ⟨Ao43, co43, eo43⟩ := Kd.R_slice HO_15.out
                                subst eo43
                                have p397 : 0 ≤ (x17_3 : Int) := of_decide_eq_true (by first | (with_reducible assumption) | assumption)
                                have q397 : x17_3 < (y389.length : Int) := of_decide_eq_true (by first | (with_reducible assumption) | assumption)
                                obtain ⟨ad397, e397, hx397_0⟩ := Kd.at_int (Kd.R_reads' HO_15.out).2.2 x17_3 p397 q397
                                cases e397
                                replace p397 := eq_true p397
                                replace q397 := eq_true q397
                                obtain ⟨Ao44, co44, eo44⟩ := Kd.N_slice HO_14.out
                                subst eo44
                                have p398 : 0 ≤ (x16_2 : Int) := of_decide_eq_true (by first | (with_reducible assumption) | assumption)
                                have q398 : x16_2 < (y384.length : Int) := of_decide_eq_true (by first | (with_reducible assumption) | assumption)
                                obtain ⟨ad398, A398_0, c398_0, e398, hx398_0, hl398_0, hi398_0⟩ := at_L3 (Kd.N_reads' HO_14.out).2.2 x16_2 p398 q398
                                cases e398
                                obtain ⟨ce398, hce398, hMe398, hcc398⟩ := Kd.N_get HO_14.out [] x16_2 p398 (by first | exact q398 | exact of_decide_eq_true (by first | (with_reducible assumption) | assumption) | (have e_ := (Kd.N_reads' HO_14.out).1; omega))
                                obtain ⟨ua398_0, uc398_0, rfl, ul398_0, ge398_0⟩ := Kd.FK_slice_open hMe398
                                have hv398_0 := hcc398 0 _ rfl
                                rw [Nat.add_zero, show ((Kd.slice 3 (Kd.int .i64))).sz = 1 from rfl, Nat.mul_one] at hv398_0
                                replace hv398_0 := Option.some.inj (hv398_0.symm.trans hx398_0)
                                injection hv398_0 with hva_ hvn_ hvc_
                                rw [hva_] at ge398_0
                                rw [hvc_] at ul398_0
                                have HL398_0 := Aside0.mk (show Kd.V (Kd.int .i64) 3 _ w.heap.size _ _ (rd_L3 y384 x16_2) from Kd.V_mk ul398_0 ge398_0)
                                clear hva_ hvn_ hvc_ ge398_0 ul398_0
                                clear hcc398 hce398
                                have HR398_0 := Aside0.mk hi398_0
                                have HC398_0 := Aside0.mk hl398_0
                                clear hi398_0 hl398_0
                                replace p398 := eq_true p398
                                replace q398 := eq_true q398
                                go_wp2_with (first | (go_at_call 32; (with_reducible refine (calendar_Work.calls k3 t374 (rd y389 x17_3) _ _ (rd_L3 y384 x16_2) t399 t400 _ ?side1 ?side2 A35.out).mono ?_); (case side1 => repeat (first | exact (by repeat (first | (with_reducible exact HR398_0.out) | (with_reducible refine Kd.C_alloc ?_ _) | (with_reducible refine Kd.C_drewN ?_ _) | (with_reducible refine Kd.C_drew ?_) | exact HR398_0.out)) | (with_reducible refine Kd.C_alloc ?_ _) | (with_reducible refine Kd.C_drewN ?_ _) | (with_reducible refine Kd.C_drew ?_))); (case side2 => exact HC398_0.out); rintro e w' ⟨rfl, ⟨nd, rfl⟩⟩; (try first | exact ⟨rfl, _, World.drewN_drewN _ _ _⟩ | exact ⟨rfl, _, Eq.trans (World.drewN_drewN _ _ _) (congrArg (World.drewN _) (Nat.add_assoc _ _ _))⟩); have p401 : 0 ≤ (x17_3 : Int) := of_decide_eq_true (by first | (with_reducible assumption) | assumption); have q401 : x17_3 < (y389.length : Int) := of_decide_eq_true (by first | (with_reducible assumption) | assumption); obtain ⟨ad401, e401, hx401_0⟩ := Kd.at_int (Kd.R_reads' HO_15.out).2.2 x17_3 p401 q401; obtain rfl : ad397 = ad401 := (by injection e401); replace p401 := eq_true p401; replace q401 := eq_true q401; have p402 : 0 ≤ (x16_2 : Int) := of_decide_eq_true (by first | (with_reducible assumption) | assumption); have q402 : x16_2 < (y384.length : Int) := of_decide_eq_true (by first | (with_reducible assumption) | assumption); obtain ⟨ad402, A402_0, c402_0, e402, hx402_0, hl402_0, hi402_0⟩ := at_L3 (Kd.N_reads' HO_14.out).2.2 x16_2 p402 q402; obtain rfl : ad398 = ad402 := (by injection e402); obtain ⟨ce402, hce402, hMe402, hcc402⟩ := Kd.N_get HO_14.out [] x16_2 p402 (by first | exact q402 | exact of_decide_eq_true (by first | (with_reducible assumption) | assumption) | (have e_ := (Kd.N_reads' HO_14.out).1; omega)); obtain ⟨ua402_0, uc402_0, rfl, ul402_0, ge402_0⟩ := Kd.FK_slice_open hMe402; have hv402_0 := hcc402 0 _ rfl; rw [Nat.add_zero, show ((Kd.slice 3 (Kd.int .i64))).sz = 1 from rfl, Nat.mul_one] at hv402_0; replace hv402_0 := Option.some.inj (hv402_0.symm.trans hx402_0); injection hv402_0 with hva_ hvn_ hvc_; rw [hva_] at ge402_0; rw [hvc_] at ul402_0; have HL402_0 := Aside0.mk (show Kd.V (Kd.int .i64) 3 _ w.heap.size _ _ (rd_L3 y384 x16_2) from Kd.V_mk ul402_0 ge402_0); clear hva_ hvn_ hvc_ ge402_0 ul402_0; clear hcc402 hce402; have HR402_0 := Aside0.mk hi402_0; have HC402_0 := Aside0.mk hl402_0; clear hi402_0 hl402_0; replace p402 := eq_true p402; replace q402 := eq_true q402; have ea_ := Option.some.inj (hx398_0.symm.trans hx402_0); injection ea_ with ea_ en_ ec_; subst ea_; subst ec_; clear en_) | (go_at_call 33; (with_reducible refine (dioramaref08_Work.calls k3 t374 (rd y389 x17_3) _ _ (rd_L3 y384 x16_2) t403 t404 _ ?side1 ?side2 A36.out).mono ?_); (case side1 => repeat (first | exact (by repeat (first | (with_reducible exact HR402_0.out) | (with_reducible refine Kd.C_alloc ?_ _) | (with_reducible refine Kd.C_drewN ?_ _) | (with_reducible refine Kd.C_drew ?_) | exact HR402_0.out)) | (with_reducible refine Kd.C_alloc ?_ _) | (with_reducible refine Kd.C_drewN ?_ _) | (with_reducible refine Kd.C_drew ?_))); (case side2 => exact HC402_0.out); rintro e w' ⟨rfl, ⟨nd, rfl⟩⟩; (try first | exact ⟨rfl, _, World.drewN_drewN _ _ _⟩ | exact ⟨rfl, _, Eq.trans (World.drewN_drewN _ _ _) (congrArg (World.drewN _) (Nat.add_assoc _ _ _))⟩)))
                                repeat (go_quiet (first | (go_at_call 32; (with_reducible refine (calendar_Work.calls k3 t374 (rd y389 x17_3) _ _ (rd_L3 y384 x16_2) t399 t400 _ ?side1 ?side2 A35.out).mono ?_); (case side1 => repeat (first | exact (by repeat (first | (with_reducible exact HR398_0.out) | (with_reducible refine Kd.C_alloc ?_ _) | (with_reducible refine Kd.C_drewN ?_ _) | (with_reducible refine Kd.C_drew ?_) | exact HR398_0.out)) | (with_reducible refine Kd.C_alloc ?_ _) | (with_reducible refine Kd.C_drewN ?_ _) | (with_reducible refine Kd.C_drew ?_))); (case side2 => exact HC398_0.out); rintro e w' ⟨rfl, ⟨nd, rfl⟩⟩; (try first | exact ⟨rfl, _, World.drewN_drewN _ _ _⟩ | exact ⟨rfl, _, Eq.trans (World.drewN_drewN _ _ _) (congrArg (World.drewN _) (Nat.add_assoc _ _ _))⟩); have p401 : 0 ≤ (x17_3 : Int) := of_decide_eq_true (by first | (with_reducible assumption) | assumption); have q401 : x17_3 < (y389.length : Int) := of_decide_eq_true (by first | (with_reducible assumption) | assumption); obtain ⟨ad401, e401, hx401_0⟩ := Kd.at_int (Kd.R_reads' HO_15.out).2.2 x17_3 p401 q401; obtain rfl : ad397 = ad401 := (by injection e401); replace p401 := eq_true p401; replace q401 := eq_true q401; have p402 : 0 ≤ (x16_2 : Int) := of_decide_eq_true (by first | (with_reducible assumption) | assumption); have q402 : x16_2 < (y384.length : Int) := of_decide_eq_true (by first | (with_reducible assumption) | assumption); obtain ⟨ad402, A402_0, c402_0, e402, hx402_0, hl402_0, hi402_0⟩ := at_L3 (Kd.N_reads' HO_14.out).2.2 x16_2 p402 q402; obtain rfl : ad398 = ad402 := (by injection e402); obtain ⟨ce402, hce402, hMe402, hcc402⟩ := Kd.N_get HO_14.out [] x16_2 p402 (by first | exact q402 | exact of_decide_eq_true (by first | (with_reducible assumption) | assumption) | (have e_ := (Kd.N_reads' HO_14.out).1; omega)); obtain ⟨ua402_0, uc402_0, rfl, ul402_0, ge402_0⟩ := Kd.FK_slice_open hMe402; have hv402_0 := hcc402 0 _ rfl; rw [Nat.add_zero, show ((Kd.slice 3 (Kd.int .i64))).sz = 1 from rfl, Nat.mul_one] at hv402_0; replace hv402_0 := Option.some.inj (hv402_0.symm.trans hx402_0); injection hv402_0 with hva_ hvn_ hvc_; rw [hva_] at ge402_0; rw [hvc_] at ul402_0; have HL402_0 := Aside0.mk (show Kd.V (Kd.int .i64) 3 _ w.heap.size _ _ (rd_L3 y384 x16_2) from Kd.V_mk ul402_0 ge402_0); clear hva_ hvn_ hvc_ ge402_0 ul402_0; clear hcc402 hce402; have HR402_0 := Aside0.mk hi402_0; have HC402_0 := Aside0.mk hl402_0; clear hi402_0 hl402_0; replace p402 := eq_true p402; replace q402 := eq_true q402; have ea_ := Option.some.inj (hx398_0.symm.trans hx402_0); injection ea_ with ea_ en_ ec_; subst ea_; subst ec_; clear en_) | (go_at_call 33; (with_reducible refine (dioramaref08_Work.calls k3 t374 (rd y389 x17_3) _ _ (rd_L3 y384 x16_2) t403 t404 _ ?side1 ?side2 A36.out).mono ?_); (case side1 => repeat (first | exact (by repeat (first | (with_reducible exact HR402_0.out) | (with_reducible refine Kd.C_alloc ?_ _) | (with_reducible refine Kd.C_drewN ?_ _) | (with_reducible refine Kd.C_drew ?_) | exact HR402_0.out)) | (with_reducible refine Kd.C_alloc ?_ _) | (with_reducible refine Kd.C_drewN ?_ _) | (with_reducible refine Kd.C_drew ?_))); (case side2 => exact HC402_0.out); rintro e w' ⟨rfl, ⟨nd, rfl⟩⟩; (try first | exact ⟨rfl, _, World.drewN_drewN _ _ _⟩ | exact ⟨rfl, _, Eq.trans (World.drewN_drewN _ _ _) (congrArg (World.drewN _) (Nat.add_assoc _ _ _))⟩))); try go_wp2_with (first | (go_at_call 32; (with_reducible refine (calendar_Work.calls k3 t374 (rd y389 x17_3) _ _ (rd_L3 y384 x16_2) t399 t400 _ ?side1 ?side2 A35.out).mono ?_); (case side1 => repeat (first | exact (by repeat (first | (with_reducible exact HR398_0.out) | (with_reducible refine Kd.C_alloc ?_ _) | (with_reducible refine Kd.C_drewN ?_ _) | (with_reducible refine Kd.C_drew ?_) | exact HR398_0.out)) | (with_reducible refine Kd.C_alloc ?_ _) | (with_reducible refine Kd.C_drewN ?_ _) | (with_reducible refine Kd.C_drew ?_))); (case side2 => exact HC398_0.out); rintro e w' ⟨rfl, ⟨nd, rfl⟩⟩; (try first | exact ⟨rfl, _, World.drewN_drewN _ _ _⟩ | exact ⟨rfl, _, Eq.trans (World.drewN_drewN _ _ _) (congrArg (World.drewN _) (Nat.add_assoc _ _ _))⟩); have p401 : 0 ≤ (x17_3 : Int) := of_decide_eq_true (by first | (with_reducible assumption) | assumption); have q401 : x17_3 < (y389.length : Int) := of_decide_eq_true (by first | (with_reducible assumption) | assumption); obtain ⟨ad401, e401, hx401_0⟩ := Kd.at_int (Kd.R_reads' HO_15.out).2.2 x17_3 p401 q401; obtain rfl : ad397 = ad401 := (by injection e401); replace p401 := eq_true p401; replace q401 := eq_true q401; have p402 : 0 ≤ (x16_2 : Int) := of_decide_eq_true (by first | (with_reducible assumption) | assumption); have q402 : x16_2 < (y384.length : Int) := of_decide_eq_true (by first | (with_reducible assumption) | assumption); obtain ⟨ad402, A402_0, c402_0, e402, hx402_0, hl402_0, hi402_0⟩ := at_L3 (Kd.N_reads' HO_14.out).2.2 x16_2 p402 q402; obtain rfl : ad398 = ad402 := (by injection e402); obtain ⟨ce402, hce402, hMe402, hcc402⟩ := Kd.N_get HO_14.out [] x16_2 p402 (by first | exact q402 | exact of_decide_eq_true (by first | (with_reducible assumption) | assumption) | (have e_ := (Kd.N_reads' HO_14.out).1; omega)); obtain ⟨ua402_0, uc402_0, rfl, ul402_0, ge402_0⟩ := Kd.FK_slice_open hMe402; have hv402_0 := hcc402 0 _ rfl; rw [Nat.add_zero, show ((Kd.slice 3 (Kd.int .i64))).sz = 1 from rfl, Nat.mul_one] at hv402_0; replace hv402_0 := Option.some.inj (hv402_0.symm.trans hx402_0); injection hv402_0 with hva_ hvn_ hvc_; rw [hva_] at ge402_0; rw [hvc_] at ul402_0; have HL402_0 := Aside0.mk (show Kd.V (Kd.int .i64) 3 _ w.heap.size _ _ (rd_L3 y384 x16_2) from Kd.V_mk ul402_0 ge402_0); clear hva_ hvn_ hvc_ ge402_0 ul402_0; clear hcc402 hce402; have HR402_0 := Aside0.mk hi402_0; have HC402_0 := Aside0.mk hl402_0; clear hi402_0 hl402_0; replace p402 := eq_true p402; replace q402 := eq_true q402; have ea_ := Option.some.inj (hx398_0.symm.trans hx402_0); injection ea_ with ea_ en_ ec_; subst ea_; subst ec_; clear en_) | (go_at_call 33; (with_reducible refine (dioramaref08_Work.calls k3 t374 (rd y389 x17_3) _ _ (rd_L3 y384 x16_2) t403 t404 _ ?side1 ?side2 A36.out).mono ?_); (case side1 => repeat (first | exact (by repeat (first | (with_reducible exact HR402_0.out) | (with_reducible refine Kd.C_alloc ?_ _) | (with_reducible refine Kd.C_drewN ?_ _) | (with_reducible refine Kd.C_drew ?_) | exact HR402_0.out)) | (with_reducible refine Kd.C_alloc ?_ _) | (with_reducible refine Kd.C_drewN ?_ _) | (with_reducible refine Kd.C_drew ?_))); (case side2 => exact HC402_0.out); rintro e w' ⟨rfl, ⟨nd, rfl⟩⟩; (try first | exact ⟨rfl, _, World.drewN_drewN _ _ _⟩ | exact ⟨rfl, _, Eq.trans (World.drewN_drewN _ _ _) (congrArg (World.drewN _) (Nat.add_assoc _ _ _))⟩))))
                                go_ret
                                exact ⟨by first | rfl | (simp [errW_none, errW_some] <;> rfl) | (simp only [← hji16]; first | rfl | (simp [errW_none, errW_some] <;> rfl)) | (simp [*, errW_none, errW_some] <;> rfl), by repeat (first | (with_reducible first | exact HB.out | apply below_alloc | apply pw_below_drewN | apply below_drew1) | exact HB.out)⟩
                            · rw [if_neg c34] at H
                              exact absurd H (by simp)
                          · rw [if_neg c33] at H
                            exact absurd H (by simp)
                        · rw [if_neg c32] at H
                          exact absurd H (by simp)
                      · rw [if_neg c31] at H
                        exact absurd H (by simp)
                    · rw [if_neg c30] at H
                      have c30b0 : decide (x17_3 < 3) = false := decide_eq_false c30
                      clear c30
                      have H' := Aside0.mk H
                      clear H
                      go_wp2
                      repeat (go_quiet (fail); try go_wp2)
                      go_roundg k3
                      case measure => have := HJ6.out; have := HK2.out; have := HK3.out; omega
                      case rel => exact ⟨(wrap64 (x16_2 + 1)), (by first | rfl | (simp; done) | (simp [*]; done)), H', ⟨by have := HJ6.out; have := HK2.out; have := HK3.out; omega⟩, ⟨by (with_reducible repeat (first | apply Kd.R_alloc | apply Kd.R_drewN | apply Kd.R_drew)); exact HO_12.out⟩, ⟨by (with_reducible repeat (first | apply Kd.N_alloc | apply Kd.N_drewN | apply Kd.N_drew)); exact HO_14.out⟩, ⟨by (with_reducible repeat (first | apply Kd.R_alloc | apply Kd.R_drewN | apply Kd.R_drew)); exact HO_15.out⟩, ⟨by repeat (first | (with_reducible first | exact HB.out | apply below_alloc | apply pw_below_drewN | apply below_drew1) | exact HB.out)⟩⟩
              · rw [if_neg c29] at H
                have c29b0 : decide (x16_2 < 3) = false := decide_eq_false c29
                clear c29
                replace H := Option.bind_eq_some_iff.mp H
                obtain ⟨⟨t392, t393⟩, A450, H⟩ := H
                replace H : ((dioramaref08_Work.f k2 a4 1 x12_6).bind fun bt394 => (if t392 = bt394.1 then (if t393 = bt394.2 then ((dioramalaw08_lives.f k2).bind fun t396 => (some t396)) else (some false)) else (some false))) = some r := H
                have A45 := Aside0.mk A450
                clear A450
                replace H := Option.bind_eq_some_iff.mp H
                obtain ⟨⟨t394, t395⟩, A460, H⟩ := H
                replace H : (if t392 = t394 then (if t393 = t395 then ((dioramalaw08_lives.f k2).bind fun t396 => (some t396)) else (some false)) else (some false)) = some r := H
                have A46 := Aside0.mk A460
                clear A460
                by_cases c47 : t392 = t394
                · rw [if_pos c47] at H
                  have c47b0 : (t392 == t394) = true := beq_iff_eq.mpr c47
                  have c47b1 : (t392 != t394) = false := bne_eq_false_iff_eq.mpr c47
                  clear c47
                  by_cases c48 : t393 = t395
                  · rw [if_pos c48] at H
                    have c48b0 : (t393 == t395) = true := beq_iff_eq.mpr c48
                    have c48b1 : (t393 != t395) = false := bne_eq_false_iff_eq.mpr c48
                    clear c48
                    replace H := Option.bind_eq_some_iff.mp H
                    obtain ⟨t396, A490, H⟩ := H
                    replace H : (some t396) = some r := H
                    have A49 := Aside0.mk A490
                    clear A490
                    obtain rfl := Option.some.inj H
                    go_wp2_with (first | (go_at_call 32; (with_reducible refine (calendar_Work.calls k2 a4 1 _ _ x12_6 t392 t393 _ ?side1 ?side2 A45.out).mono ?_); (case side1 => repeat (first | exact (Kd.R_reads' HO_12.out).2.2 | (with_reducible refine Kd.C_alloc ?_ _) | (with_reducible refine Kd.C_drewN ?_ _) | (with_reducible refine Kd.C_drew ?_))); (case side2 => exact (Kd.R_reads' HO_12.out).2.1); rintro e w' ⟨rfl, ⟨nd, rfl⟩⟩; (try first | exact ⟨rfl, _, World.drewN_drewN _ _ _⟩ | exact ⟨rfl, _, Eq.trans (World.drewN_drewN _ _ _) (congrArg (World.drewN _) (Nat.add_assoc _ _ _))⟩)) | (go_at_call 33; (with_reducible refine (dioramaref08_Work.calls k2 a4 1 _ _ x12_6 t394 t395 _ ?side1 ?side2 A46.out).mono ?_); (case side1 => repeat (first | exact (Kd.R_reads' HO_12.out).2.2 | (with_reducible refine Kd.C_alloc ?_ _) | (with_reducible refine Kd.C_drewN ?_ _) | (with_reducible refine Kd.C_drew ?_))); (case side2 => exact (Kd.R_reads' HO_12.out).2.1); rintro e w' ⟨rfl, ⟨nd, rfl⟩⟩; (try first | exact ⟨rfl, _, World.drewN_drewN _ _ _⟩ | exact ⟨rfl, _, Eq.trans (World.drewN_drewN _ _ _) (congrArg (World.drewN _) (Nat.add_assoc _ _ _))⟩)) | (go_at_call 20; (with_reducible refine (dioramalaw08_lives.calls (hv := hv.step (by repeat (first | (with_reducible first | exact HB.out | apply below_alloc | apply pw_below_drewN | apply below_drew1) | exact HB.out))) k2  t396 _ A49.out).mono ?_); rintro e w50 ⟨rfl, hb⟩; have n0_ := Aside0.mk (Kd.R_below (by (with_reducible repeat (first | apply Kd.R_alloc | apply Kd.R_drewN | apply Kd.R_drew)); exact HO_12.out) hb); have n1_ := Aside0.mk (Kd.N_below (by (with_reducible repeat (first | apply Kd.N_alloc | apply Kd.N_drewN | apply Kd.N_drew)); exact HO_14.out) hb); have n2_ := Aside0.mk (Kd.R_below (by (with_reducible repeat (first | apply Kd.R_alloc | apply Kd.R_drewN | apply Kd.R_drew)); exact HO_15.out) hb); have n3_ := Aside0.mk (below_step (by repeat (first | (with_reducible first | exact HB.out | apply below_alloc | apply pw_below_drewN | apply below_drew1) | exact HB.out)) hb); clear HO_12; clear HO_14; clear HO_15; clear HB; have HO_12 := n0_; have HO_14 := n1_; have HO_15 := n2_; have HB := n3_; clear n0_ n1_ n2_ n3_; (try clear hb); (try clear hb2); (try clear hk); (try clear hi)))
                    repeat (go_quiet (first | (go_at_call 32; (with_reducible refine (calendar_Work.calls k2 a4 1 _ _ x12_6 t392 t393 _ ?side1 ?side2 A45.out).mono ?_); (case side1 => repeat (first | exact (Kd.R_reads' HO_12.out).2.2 | (with_reducible refine Kd.C_alloc ?_ _) | (with_reducible refine Kd.C_drewN ?_ _) | (with_reducible refine Kd.C_drew ?_))); (case side2 => exact (Kd.R_reads' HO_12.out).2.1); rintro e w' ⟨rfl, ⟨nd, rfl⟩⟩; (try first | exact ⟨rfl, _, World.drewN_drewN _ _ _⟩ | exact ⟨rfl, _, Eq.trans (World.drewN_drewN _ _ _) (congrArg (World.drewN _) (Nat.add_assoc _ _ _))⟩)) | (go_at_call 33; (with_reducible refine (dioramaref08_Work.calls k2 a4 1 _ _ x12_6 t394 t395 _ ?side1 ?side2 A46.out).mono ?_); (case side1 => repeat (first | exact (Kd.R_reads' HO_12.out).2.2 | (with_reducible refine Kd.C_alloc ?_ _) | (with_reducible refine Kd.C_drewN ?_ _) | (with_reducible refine Kd.C_drew ?_))); (case side2 => exact (Kd.R_reads' HO_12.out).2.1); rintro e w' ⟨rfl, ⟨nd, rfl⟩⟩; (try first | exact ⟨rfl, _, World.drewN_drewN _ _ _⟩ | exact ⟨rfl, _, Eq.trans (World.drewN_drewN _ _ _) (congrArg (World.drewN _) (Nat.add_assoc _ _ _))⟩)) | (go_at_call 20; (with_reducible refine (dioramalaw08_lives.calls (hv := hv.step (by repeat (first | (with_reducible first | exact HB.out | apply below_alloc | apply pw_below_drewN | apply below_drew1) | exact HB.out))) k2  t396 _ A49.out).mono ?_); rintro e w50 ⟨rfl, hb⟩; have n0_ := Aside0.mk (Kd.R_below (by (with_reducible repeat (first | apply Kd.R_alloc | apply Kd.R_drewN | apply Kd.R_drew)); exact HO_12.out) hb); have n1_ := Aside0.mk (Kd.N_below (by (with_reducible repeat (first | apply Kd.N_alloc | apply Kd.N_drewN | apply Kd.N_drew)); exact HO_14.out) hb); have n2_ := Aside0.mk (Kd.R_below (by (with_reducible repeat (first | apply Kd.R_alloc | apply Kd.R_drewN | apply Kd.R_drew)); exact HO_15.out) hb); have n3_ := Aside0.mk (below_step (by repeat (first | (with_reducible first | exact HB.out | apply below_alloc | apply pw_below_drewN | apply below_drew1) | exact HB.out)) hb); clear HO_12; clear HO_14; clear HO_15; clear HB; have HO_12 := n0_; have HO_14 := n1_; have HO_15 := n2_; have HB := n3_; clear n0_ n1_ n2_ n3_; (try clear hb); (try clear hb2); (try clear hk); (try clear hi))); try go_wp2_with (first | (go_at_call 32; (with_reducible refine (calendar_Work.calls k2 a4 1 _ _ x12_6 t392 t393 _ ?side1 ?side2 A45.out).mono ?_); (case side1 => repeat (first | exact (Kd.R_reads' HO_12.out).2.2 | (with_reducible refine Kd.C_alloc ?_ _) | (with_reducible refine Kd.C_drewN ?_ _) | (with_reducible refine Kd.C_drew ?_))); (case side2 => exact (Kd.R_reads' HO_12.out).2.1); rintro e w' ⟨rfl, ⟨nd, rfl⟩⟩; (try first | exact ⟨rfl, _, World.drewN_drewN _ _ _⟩ | exact ⟨rfl, _, Eq.trans (World.drewN_drewN _ _ _) (congrArg (World.drewN _) (Nat.add_assoc _ _ _))⟩)) | (go_at_call 33; (with_reducible refine (dioramaref08_Work.calls k2 a4 1 _ _ x12_6 t394 t395 _ ?side1 ?side2 A46.out).mono ?_); (case side1 => repeat (first | exact (Kd.R_reads' HO_12.out).2.2 | (with_reducible refine Kd.C_alloc ?_ _) | (with_reducible refine Kd.C_drewN ?_ _) | (with_reducible refine Kd.C_drew ?_))); (case side2 => exact (Kd.R_reads' HO_12.out).2.1); rintro e w' ⟨rfl, ⟨nd, rfl⟩⟩; (try first | exact ⟨rfl, _, World.drewN_drewN _ _ _⟩ | exact ⟨rfl, _, Eq.trans (World.drewN_drewN _ _ _) (congrArg (World.drewN _) (Nat.add_assoc _ _ _))⟩)) | (go_at_call 20; (with_reducible refine (dioramalaw08_lives.calls (hv := hv.step (by repeat (first | (with_reducible first | exact HB.out | apply below_alloc | apply pw_below_drewN | apply below_drew1) | exact HB.out))) k2  t396 _ A49.out).mono ?_); rintro e w50 ⟨rfl, hb⟩; have n0_ := Aside0.mk (Kd.R_below (by (with_reducible repeat (first | apply Kd.R_alloc | apply Kd.R_drewN | apply Kd.R_drew)); exact HO_12.out) hb); have n1_ := Aside0.mk (Kd.N_below (by (with_reducible repeat (first | apply Kd.N_alloc | apply Kd.N_drewN | apply Kd.N_drew)); exact HO_14.out) hb); have n2_ := Aside0.mk (Kd.R_below (by (with_reducible repeat (first | apply Kd.R_alloc | apply Kd.R_drewN | apply Kd.R_drew)); exact HO_15.out) hb); have n3_ := Aside0.mk (below_step (by repeat (first | (with_reducible first | exact HB.out | apply below_alloc | apply pw_below_drewN | apply below_drew1) | exact HB.out)) hb); clear HO_12; clear HO_14; clear HO_15; clear HB; have HO_12 := n0_; have HO_14 := n1_; have HO_15 := n2_; have HB := n3_; clear n0_ n1_ n2_ n3_; (try clear hb); (try clear hb2); (try clear hk); (try clear hi))))
                    go_ret
                    exact ⟨by first | rfl | (simp [errW_none, errW_some] <;> rfl) | (simp only [← hji16]; first | rfl | (simp [errW_none, errW_some] <;> rfl)) | (simp [*, errW_none, errW_some] <;> rfl), by repeat (first | (with_reducible first | exact HB.out | apply below_alloc | apply pw_below_drewN | apply below_drew1) | exact HB.out)⟩
                  · rw [if_neg c48] at H
                    have c48b0 : (t393 == t395) = false := beq_eq_false_iff_ne.mpr c48
                    have c48b1 : (t393 != t395) = true := bne_iff_ne.mpr c48
                    obtain rfl := Option.some.inj H
                    go_wp2_with (first | (go_at_call 32; (with_reducible refine (calendar_Work.calls k2 a4 1 _ _ x12_6 t392 t393 _ ?side1 ?side2 A45.out).mono ?_); (case side1 => repeat (first | exact (Kd.R_reads' HO_12.out).2.2 | (with_reducible refine Kd.C_alloc ?_ _) | (with_reducible refine Kd.C_drewN ?_ _) | (with_reducible refine Kd.C_drew ?_))); (case side2 => exact (Kd.R_reads' HO_12.out).2.1); rintro e w' ⟨rfl, ⟨nd, rfl⟩⟩; (try first | exact ⟨rfl, _, World.drewN_drewN _ _ _⟩ | exact ⟨rfl, _, Eq.trans (World.drewN_drewN _ _ _) (congrArg (World.drewN _) (Nat.add_assoc _ _ _))⟩)) | (go_at_call 33; (with_reducible refine (dioramaref08_Work.calls k2 a4 1 _ _ x12_6 t394 t395 _ ?side1 ?side2 A46.out).mono ?_); (case side1 => repeat (first | exact (Kd.R_reads' HO_12.out).2.2 | (with_reducible refine Kd.C_alloc ?_ _) | (with_reducible refine Kd.C_drewN ?_ _) | (with_reducible refine Kd.C_drew ?_))); (case side2 => exact (Kd.R_reads' HO_12.out).2.1); rintro e w' ⟨rfl, ⟨nd, rfl⟩⟩; (try first | exact ⟨rfl, _, World.drewN_drewN _ _ _⟩ | exact ⟨rfl, _, Eq.trans (World.drewN_drewN _ _ _) (congrArg (World.drewN _) (Nat.add_assoc _ _ _))⟩)))
                    repeat (go_quiet (first | (go_at_call 32; (with_reducible refine (calendar_Work.calls k2 a4 1 _ _ x12_6 t392 t393 _ ?side1 ?side2 A45.out).mono ?_); (case side1 => repeat (first | exact (Kd.R_reads' HO_12.out).2.2 | (with_reducible refine Kd.C_alloc ?_ _) | (with_reducible refine Kd.C_drewN ?_ _) | (with_reducible refine Kd.C_drew ?_))); (case side2 => exact (Kd.R_reads' HO_12.out).2.1); rintro e w' ⟨rfl, ⟨nd, rfl⟩⟩; (try first | exact ⟨rfl, _, World.drewN_drewN _ _ _⟩ | exact ⟨rfl, _, Eq.trans (World.drewN_drewN _ _ _) (congrArg (World.drewN _) (Nat.add_assoc _ _ _))⟩)) | (go_at_call 33; (with_reducible refine (dioramaref08_Work.calls k2 a4 1 _ _ x12_6 t394 t395 _ ?side1 ?side2 A46.out).mono ?_); (case side1 => repeat (first | exact (Kd.R_reads' HO_12.out).2.2 | (with_reducible refine Kd.C_alloc ?_ _) | (with_reducible refine Kd.C_drewN ?_ _) | (with_reducible refine Kd.C_drew ?_))); (case side2 => exact (Kd.R_reads' HO_12.out).2.1); rintro e w' ⟨rfl, ⟨nd, rfl⟩⟩; (try first | exact ⟨rfl, _, World.drewN_drewN _ _ _⟩ | exact ⟨rfl, _, Eq.trans (World.drewN_drewN _ _ _) (congrArg (World.drewN _) (Nat.add_assoc _ _ _))⟩))); try go_wp2_with (first | (go_at_call 32; (with_reducible refine (calendar_Work.calls k2 a4 1 _ _ x12_6 t392 t393 _ ?side1 ?side2 A45.out).mono ?_); (case side1 => repeat (first | exact (Kd.R_reads' HO_12.out).2.2 | (with_reducible refine Kd.C_alloc ?_ _) | (with_reducible refine Kd.C_drewN ?_ _) | (with_reducible refine Kd.C_drew ?_))); (case side2 => exact (Kd.R_reads' HO_12.out).2.1); rintro e w' ⟨rfl, ⟨nd, rfl⟩⟩; (try first | exact ⟨rfl, _, World.drewN_drewN _ _ _⟩ | exact ⟨rfl, _, Eq.trans (World.drewN_drewN _ _ _) (congrArg (World.drewN _) (Nat.add_assoc _ _ _))⟩)) | (go_at_call 33; (with_reducible refine (dioramaref08_Work.calls k2 a4 1 _ _ x12_6 t394 t395 _ ?side1 ?side2 A46.out).mono ?_); (case side1 => repeat (first | exact (Kd.R_reads' HO_12.out).2.2 | (with_reducible refine Kd.C_alloc ?_ _) | (with_reducible refine Kd.C_drewN ?_ _) | (with_reducible refine Kd.C_drew ?_))); (case side2 => exact (Kd.R_reads' HO_12.out).2.1); rintro e w' ⟨rfl, ⟨nd, rfl⟩⟩; (try first | exact ⟨rfl, _, World.drewN_drewN _ _ _⟩ | exact ⟨rfl, _, Eq.trans (World.drewN_drewN _ _ _) (congrArg (World.drewN _) (Nat.add_assoc _ _ _))⟩))))
                    go_ret
                    exact ⟨by first | rfl | (simp [errW_none, errW_some] <;> rfl) | (simp only [← hji16]; first | rfl | (simp [errW_none, errW_some] <;> rfl)) | (simp [*, errW_none, errW_some] <;> rfl), by repeat (first | (with_reducible first | exact HB.out | apply below_alloc | apply pw_below_drewN | apply below_drew1) | exact HB.out)⟩
                · rw [if_neg c47] at H
                  have c47b0 : (t392 == t394) = false := beq_eq_false_iff_ne.mpr c47
                  have c47b1 : (t392 != t394) = true := bne_iff_ne.mpr c47
                  obtain rfl := Option.some.inj H
                  go_wp2_with (first | (go_at_call 32; (with_reducible refine (calendar_Work.calls k2 a4 1 _ _ x12_6 t392 t393 _ ?side1 ?side2 A45.out).mono ?_); (case side1 => repeat (first | exact (Kd.R_reads' HO_12.out).2.2 | (with_reducible refine Kd.C_alloc ?_ _) | (with_reducible refine Kd.C_drewN ?_ _) | (with_reducible refine Kd.C_drew ?_))); (case side2 => exact (Kd.R_reads' HO_12.out).2.1); rintro e w' ⟨rfl, ⟨nd, rfl⟩⟩; (try first | exact ⟨rfl, _, World.drewN_drewN _ _ _⟩ | exact ⟨rfl, _, Eq.trans (World.drewN_drewN _ _ _) (congrArg (World.drewN _) (Nat.add_assoc _ _ _))⟩)) | (go_at_call 33; (with_reducible refine (dioramaref08_Work.calls k2 a4 1 _ _ x12_6 t394 t395 _ ?side1 ?side2 A46.out).mono ?_); (case side1 => repeat (first | exact (Kd.R_reads' HO_12.out).2.2 | (with_reducible refine Kd.C_alloc ?_ _) | (with_reducible refine Kd.C_drewN ?_ _) | (with_reducible refine Kd.C_drew ?_))); (case side2 => exact (Kd.R_reads' HO_12.out).2.1); rintro e w' ⟨rfl, ⟨nd, rfl⟩⟩; (try first | exact ⟨rfl, _, World.drewN_drewN _ _ _⟩ | exact ⟨rfl, _, Eq.trans (World.drewN_drewN _ _ _) (congrArg (World.drewN _) (Nat.add_assoc _ _ _))⟩)))
                  repeat (go_quiet (first | (go_at_call 32; (with_reducible refine (calendar_Work.calls k2 a4 1 _ _ x12_6 t392 t393 _ ?side1 ?side2 A45.out).mono ?_); (case side1 => repeat (first | exact (Kd.R_reads' HO_12.out).2.2 | (with_reducible refine Kd.C_alloc ?_ _) | (with_reducible refine Kd.C_drewN ?_ _) | (with_reducible refine Kd.C_drew ?_))); (case side2 => exact (Kd.R_reads' HO_12.out).2.1); rintro e w' ⟨rfl, ⟨nd, rfl⟩⟩; (try first | exact ⟨rfl, _, World.drewN_drewN _ _ _⟩ | exact ⟨rfl, _, Eq.trans (World.drewN_drewN _ _ _) (congrArg (World.drewN _) (Nat.add_assoc _ _ _))⟩)) | (go_at_call 33; (with_reducible refine (dioramaref08_Work.calls k2 a4 1 _ _ x12_6 t394 t395 _ ?side1 ?side2 A46.out).mono ?_); (case side1 => repeat (first | exact (Kd.R_reads' HO_12.out).2.2 | (with_reducible refine Kd.C_alloc ?_ _) | (with_reducible refine Kd.C_drewN ?_ _) | (with_reducible refine Kd.C_drew ?_))); (case side2 => exact (Kd.R_reads' HO_12.out).2.1); rintro e w' ⟨rfl, ⟨nd, rfl⟩⟩; (try first | exact ⟨rfl, _, World.drewN_drewN _ _ _⟩ | exact ⟨rfl, _, Eq.trans (World.drewN_drewN _ _ _) (congrArg (World.drewN _) (Nat.add_assoc _ _ _))⟩))); try go_wp2_with (first | (go_at_call 32; (with_reducible refine (calendar_Work.calls k2 a4 1 _ _ x12_6 t392 t393 _ ?side1 ?side2 A45.out).mono ?_); (case side1 => repeat (first | exact (Kd.R_reads' HO_12.out).2.2 | (with_reducible refine Kd.C_alloc ?_ _) | (with_reducible refine Kd.C_drewN ?_ _) | (with_reducible refine Kd.C_drew ?_))); (case side2 => exact (Kd.R_reads' HO_12.out).2.1); rintro e w' ⟨rfl, ⟨nd, rfl⟩⟩; (try first | exact ⟨rfl, _, World.drewN_drewN _ _ _⟩ | exact ⟨rfl, _, Eq.trans (World.drewN_drewN _ _ _) (congrArg (World.drewN _) (Nat.add_assoc _ _ _))⟩)) | (go_at_call 33; (with_reducible refine (dioramaref08_Work.calls k2 a4 1 _ _ x12_6 t394 t395 _ ?side1 ?side2 A46.out).mono ?_); (case side1 => repeat (first | exact (Kd.R_reads' HO_12.out).2.2 | (with_reducible refine Kd.C_alloc ?_ _) | (with_reducible refine Kd.C_drewN ?_ _) | (with_reducible refine Kd.C_drew ?_))); (case side2 => exact (Kd.R_reads' HO_12.out).2.1); rintro e w' ⟨rfl, ⟨nd, rfl⟩⟩; (try first | exact ⟨rfl, _, World.drewN_drewN _ _ _⟩ | exact ⟨rfl, _, Eq.trans (World.drewN_drewN _ _ _) (congrArg (World.drewN _) (Nat.add_assoc _ _ _))⟩))))
                  go_ret
                  exact ⟨by first | rfl | (simp [errW_none, errW_some] <;> rfl) | (simp only [← hji16]; first | rfl | (simp [errW_none, errW_some] <;> rfl)) | (simp [*, errW_none, errW_some] <;> rfl), by repeat (first | (with_reducible first | exact HB.out | apply below_alloc | apply pw_below_drewN | apply below_drew1) | exact HB.out)⟩
        · rw [if_neg c18] at H
          exact absurd H (by simp)
      · rw [if_neg c17] at H
        exact absurd H (by simp)

/-- THE ONE PURE STATEMENT of dioramalaw08_CalendarWork: yours. -/
def dioramalaw08_CalendarWork.Pure : Prop := ∀ (a0 : Int) (a1 : Int) (l2 : List Int) (a3 : Int) (a4 : Int), (Lit.int .i64 a0).wf = true → (Lit.int .i64 a1).wf = true → l2.length ≤ maxLen → l2.length * 8 ≤ 140737488351232 → (∀ x ∈ l2, (Lit.int .i64 x).wf = true) → (Lit.int .i64 a3).wf = true → (Lit.int .i64 a4).wf = true → ∃ k, dioramalaw08_CalendarWork.f k a0 a1 l2 a3 a4 = some true
theorem dioramalaw08_CalendarWork.walk (P : dioramalaw08_CalendarWork.Pure) (a0 : Int) (a1 : Int) (a2 : Option Addr) (len2 cap2 : Nat) (z2 : List Int) (a3 : Int) (a4 : Int) (w : World) (hv : LaidAt w) (w0 : (Lit.int .i64 a0).wf = true) (w1 : (Lit.int .i64 a1).wf = true) (w2 : (a2 = none ∧ len2 = 0 ∧ cap2 = 0 ∧ z2 = []) ∨ ∃ x, a2 = some x ∧ len2 ≤ cap2 ∧ cap2 ≤ maxLen ∧ z2.length = cap2 ∧ (∀ i, i < z2.length → w.cell? (x.add i) = some (.int .i64 (z2.getD i 0))) ∧ ∀ n ∈ z2, (Lit.int .i64 n).wf = true) (y2 : len2 * 8 ≤ 140737488351232) (w3 : (Lit.int .i64 a3).wf = true) (w4 : (Lit.int .i64 a4).wf = true) :
    Calls Tryd.prog 6 #[.int .i64 a0, .int .i64 a1, .slice a2 len2 cap2, .int .i64 a3, .int .i64 a4] w fun e w' => e = .returned (.bool true) ∧ Below w.heap.size w w' := by
  obtain ⟨l2, rfl, hr2, hm2, hw2, hc2⟩ := ReadsInt.ofRowC w2
  obtain ⟨k, h⟩ := P a0 a1 l2 a3 a4 w0 w1 hm2 y2 hw2 w3 w4
  refine (dioramalaw08_CalendarWork.calls (hv := hv) k a0 a1 _ _ l2 a3 a4 true w (Kd.C_of_reads (d := (0 : Int)) (h1 := fun _ => rfl) hr2) hc2 h).mono ?_
  rintro e w' ⟨rfl, hd⟩
  exact ⟨rfl, hd⟩

end Go.Proofs.YtlfgjpidamkpdaaDoor.Pc
