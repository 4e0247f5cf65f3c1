/- The contracts of the functions that the laws reach, each over a plain Lean function, written by wip/ownprint.py of this claim's session. -/
import Derived.Test.YtlfgjpidamkpdaaDoorPc0
import Derived.Test.YtlfgjpidamkpdaaDoorPc1
import Derived.Test.YtlfgjpidamkpdaaDoorPc2
import Derived.Test.YtlfgjpidamkpdaaDoorPc4
import Derived.Test.YtlfgjpidamkpdaaDoorPc5
import Derived.Test.YtlfgjpidamkpdaaDoorPc6
import Derived.Test.YtlfgjpidamkpdaaDoorPc10
import Derived.Test.YtlfgjpidamkpdaaDoorPc11
import Derived.Test.YtlfgjpidamkpdaaDoorPc12
namespace Go.Proofs.YtlfgjpidamkpdaaDoor.Pc
open Go.RowKit Go.Proofs.YtlfgjpidamkpdaaDoorW.PrintWords Go.Proofs.YtlfgjpidamkpdaaDoorW.PrintLast Go.Proofs.YtlfgjpidamkpdaaDoorW.PrintMore
attribute [local go_sem] max2_int min2_int max_two min_two max_three min_three max_four min_four   -- for this text's walks alone
attribute [local go_sem high] binOp_leq_p
set_option linter.unusedVariables false
set_option linter.unusedSimpArgs false

/-! ### dioramaref08_Moments: function 30 -/
mutual
def dioramaref08_Moments.j0 : Nat → Int → Int → Bool → Int → Int → Int → Int → Option (List Int × Int)
  | 0, _, _, _, _, _, _, _ => none
  | k + 1, x0, x1, x27, x300000, x300001, x300002, x300003 => if x27 = true then (some (([] : List Int), 5)) else (dioramaref08_Moments.l0 k x0 x1 ([] : List Int) 0 x300000 x300001 x300002 x300003)
def dioramaref08_Moments.l0 : Nat → Int → Int → List Int → Int → Int → Int → Int → Int → Option (List Int × Int)
  | 0, _, _, _, _, _, _, _, _ => none
  | k + 1, x0, x1, x8, x9, x300000, x300001, x300002, x300003 => if x9 ≤ 120 then ((dioramaref08_Local.f k (wrap64 ((wrap64 ((wrap64 ((wrap64 ((wrap64 (1440 * x0)) + x1)) - x300000)) - 120)) + x9)) x300000 x300001 x300002 x300003).bind fun bt302 => (if bt302.2.2 = 0 then (if bt302.1 = x0 then (if bt302.2.1 = x1 then (if x8.length < 17592186044416 then (dioramaref08_Moments.l0 k x0 x1 (x8 ++ [wrap64 ((wrap64 ((wrap64 ((wrap64 ((wrap64 (1440 * x0)) + x1)) - x300000)) - 120)) + x9)]) (wrap64 (x9 + 1)) x300000 x300001 x300002 x300003) else (none)) else (dioramaref08_Moments.l0 k x0 x1 x8 (wrap64 (x9 + 1)) x300000 x300001 x300002 x300003)) else (dioramaref08_Moments.l0 k x0 x1 x8 (wrap64 (x9 + 1)) x300000 x300001 x300002 x300003)) else (dioramaref08_Moments.l0 k x0 x1 x8 (wrap64 (x9 + 1)) x300000 x300001 x300002 x300003))) else (some (x8, 0))
end
def dioramaref08_Moments.f (k : Nat) (a0 : Int) (a1 : Int) (a2_0 : Int) (a2_1 : Int) (a2_2 : Int) (a2_3 : Int) : Option (List Int × Int) := (dioramaref08_Proper.f a2_0 a2_1 a2_2 a2_3).bind fun t300 => (if t300 = true then ((dioramaref08_Known.f a0).bind fun t301 => (if t301 = true then (if a1 < 0 then (dioramaref08_Moments.j0 k a0 a1 true a2_0 a2_1 a2_2 a2_3) else (dioramaref08_Moments.j0 k a0 a1 (decide (a1 > 1439)) a2_0 a2_1 a2_2 a2_3)) else (dioramaref08_Moments.j0 k a0 a1 true a2_0 a2_1 a2_2 a2_3))) else (some (([] : List Int), 1)))
theorem dioramaref08_Moments.mono_l : ∀ k, (∀ y0 y1 y2 y3 y4 y5 y6, LeO (dioramaref08_Moments.j0 k y0 y1 y2 y3 y4 y5 y6) (dioramaref08_Moments.j0 (k + 1) y0 y1 y2 y3 y4 y5 y6)) ∧ (∀ y0 y1 y2 y3 y4 y5 y6 y7, LeO (dioramaref08_Moments.l0 k y0 y1 y2 y3 y4 y5 y6 y7) (dioramaref08_Moments.l0 (k + 1) y0 y1 y2 y3 y4 y5 y6 y7))
  | 0 => ⟨fun _ _ _ _ _ _ _ r h => by simp [dioramaref08_Moments.j0] at h, fun _ _ _ _ _ _ _ _ r h => by simp [dioramaref08_Moments.l0] at h⟩
  | k + 1 => by
    obtain ⟨ih0, ih1⟩ := dioramaref08_Moments.mono_l k
    refine ⟨?_, ?_⟩
    · intro y0 y1 y2 y3 y4 y5 y6
      unfold dioramaref08_Moments.j0
      repeat' first
      | (with_reducible exact ih0 _ _ _ _ _ _ _)
      | (with_reducible exact ih1 _ _ _ _ _ _ _ _)
      | (with_reducible exact dioramaref08_Local.mono _ _ _ _ _ _)
      | (with_reducible exact LeO.refl _)
      | (with_reducible exact LeO.none _)
      | (with_reducible refine LeO.ite ?_ ?_)
      | (with_reducible refine LeO.bind ?_ (fun _ => ?_))
      | exact ih0 _ _ _ _ _ _ _
      | exact ih1 _ _ _ _ _ _ _ _
      | exact dioramaref08_Local.mono _ _ _ _ _ _
      | exact LeO.none _
      | refine LeO.ite ?_ ?_
      | refine LeO.bind ?_ (fun _ => ?_)
    · intro y0 y1 y2 y3 y4 y5 y6 y7
      unfold dioramaref08_Moments.l0
      repeat' first
      | (with_reducible exact ih0 _ _ _ _ _ _ _)
      | (with_reducible exact ih1 _ _ _ _ _ _ _ _)
      | (with_reducible exact dioramaref08_Local.mono _ _ _ _ _ _)
      | (with_reducible exact LeO.refl _)
      | (with_reducible exact LeO.none _)
      | (with_reducible refine LeO.ite ?_ ?_)
      | (with_reducible refine LeO.bind ?_ (fun _ => ?_))
      | exact ih0 _ _ _ _ _ _ _
      | exact ih1 _ _ _ _ _ _ _ _
      | exact dioramaref08_Local.mono _ _ _ _ _ _
      | exact LeO.none _
      | refine LeO.ite ?_ ?_
      | refine LeO.bind ?_ (fun _ => ?_)
theorem dioramaref08_Moments.mono : ∀ a0 a1 a2 a3 a4 a5 k, LeO (dioramaref08_Moments.f k a0 a1 a2 a3 a4 a5) (dioramaref08_Moments.f (k + 1) a0 a1 a2 a3 a4 a5) := by
  intro a0 a1 a2 a3 a4 a5 k
  obtain ⟨ih0, ih1⟩ := dioramaref08_Moments.mono_l k
  unfold dioramaref08_Moments.f
  repeat' first
      | (with_reducible exact ih0 _ _ _ _ _ _ _)
      | (with_reducible exact ih1 _ _ _ _ _ _ _ _)
      | (with_reducible exact dioramaref08_Local.mono _ _ _ _ _ _)
      | (with_reducible exact LeO.refl _)
      | (with_reducible exact LeO.none _)
      | (with_reducible refine LeO.ite ?_ ?_)
      | (with_reducible refine LeO.bind ?_ (fun _ => ?_))
      | exact ih0 _ _ _ _ _ _ _
      | exact ih1 _ _ _ _ _ _ _ _
      | exact dioramaref08_Local.mono _ _ _ _ _ _
      | exact LeO.none _
      | refine LeO.ite ?_ ?_
      | refine LeO.bind ?_ (fun _ => ?_)
set_option maxHeartbeats 8000000 in
set_option maxRecDepth 100000 in
theorem dioramaref08_Moments.calls (k : Nat) (a0 : Int) (a1 : Int) (a2_0 : Int) (a2_1 : Int) (a2_2 : Int) (a2_3 : Int) (r1 : List Int) (r2 : Int) (w : World) (h : dioramaref08_Moments.f k a0 a1 a2_0 a2_1 a2_2 a2_3 = some (r1, r2)) :
    Calls Tryd.prog 30 #[.int .i64 a0, .int .i64 a1, .agg #[.int .i64 a2_0, .int .i64 a2_1, .int .i64 a2_2, .int .i64 a2_3]] w fun e w' => ∃ v0_ : Value, e = .returned (.tuple #[v0_, .int .i64 r2]) ∧ Kd.R (Kd.int .i64) 3 w' w.heap.size (fun _ => True) v0_ r1 ∧ Below w.heap.size w w' := by
  have hu41 := Tryd.underlying41
  have HB := Aside0.mk (Below.refl w.heap.size w)
  have H : ((dioramaref08_Proper.f a2_0 a2_1 a2_2 a2_3).bind fun t300 => (if t300 = true then ((dioramaref08_Known.f a0).bind fun t301 => (if t301 = true then (if a1 < 0 then (dioramaref08_Moments.j0 k a0 a1 true a2_0 a2_1 a2_2 a2_3) else (dioramaref08_Moments.j0 k a0 a1 (decide (a1 > 1439)) a2_0 a2_1 a2_2 a2_3)) else (dioramaref08_Moments.j0 k a0 a1 true a2_0 a2_1 a2_2 a2_3))) else (some (([] : List Int), 1)))) = some (r1, r2) := h
  clear h
  replace H := Option.bind_eq_some_iff.mp H
  obtain ⟨t300, A40, H⟩ := H
  replace H : (if t300 = true then ((dioramaref08_Known.f a0).bind fun t301 => (if t301 = true then (if a1 < 0 then (dioramaref08_Moments.j0 k a0 a1 true a2_0 a2_1 a2_2 a2_3) else (dioramaref08_Moments.j0 k a0 a1 (decide (a1 > 1439)) a2_0 a2_1 a2_2 a2_3)) else (dioramaref08_Moments.j0 k a0 a1 true a2_0 a2_1 a2_2 a2_3))) else (some (([] : List Int), 1))) = some (r1, r2) := H
  have A4 := Aside0.mk A40
  clear A40
  by_cases c5 : t300 = true
  · subst c5
    have H1 : ((dioramaref08_Known.f a0).bind fun t301 => (if t301 = true then (if a1 < 0 then (dioramaref08_Moments.j0 k a0 a1 true a2_0 a2_1 a2_2 a2_3) else (dioramaref08_Moments.j0 k a0 a1 (decide (a1 > 1439)) a2_0 a2_1 a2_2 a2_3)) else (dioramaref08_Moments.j0 k a0 a1 true a2_0 a2_1 a2_2 a2_3))) = some (r1, r2) := by rw [if_pos rfl] at H; exact H
    clear H
    have H := H1
    clear H1
    have HC6 := Aside0.mk H
    clear H
    go_enter Tryd.func30, Tryd.ntmps30
    go_upto_region 3 with (first | ((with_reducible refine gate_dst (N := 5) rfl ?_); refine box_event ?hg (N := 5) ?hd (cs := #[.int .i64 a2_0, .int .i64 a2_1, .int .i64 a2_2, .int .i64 a2_3]) (t := 41) ?hr ?_; (case hd => rfl); (case hg => rfl); (case hr => first | (go_simp; done) | (go_simp; rfl)); intro gb299 hg w7 hbox hb; have n0_ := Aside0.mk (below_step (by repeat (first | (with_reducible first | exact HB.out | apply below_alloc | apply pw_below_drewN | apply below_drew1) | exact HB.out)) hb); have n1_ := Aside0.mk (hbox); have n2_ := Aside0.mk ((by rw [hg]; exact (below_size (by repeat (first | (with_reducible first | exact HB.out | apply below_alloc | apply pw_below_drewN | apply below_drew1) | exact HB.out))) : w.heap.size ≤ gb299)); have n3_ := Aside0.mk ((by rw [hg]; exact (below_size (by repeat (first | (with_reducible first | exact HB.out | apply below_alloc | apply pw_below_drewN | apply below_drew1) | exact HB.out))) : w.heap.size ≤ gb299)); clear HB; have HB := n0_; have BK299 := n1_; have GW299 := n2_; have GE299 := n3_; clear n0_ n1_ n2_ n3_; clear hb hbox hg; have hcz8_0 : w7.cell? ⟨gb299, 0, none⟩ = some (.int .i64 a2_0) := (blk_cell BK299.out 0).trans rfl; have hcz8_1 : w7.cell? ⟨gb299, 1, none⟩ = some (.int .i64 a2_1) := (blk_cell BK299.out 1).trans rfl; have hcz8_2 : w7.cell? ⟨gb299, 2, none⟩ = some (.int .i64 a2_2) := (blk_cell BK299.out 2).trans rfl; have hcz8_3 : w7.cell? ⟨gb299, 3, none⟩ = some (.int .i64 a2_3) := (blk_cell BK299.out 3).trans rfl; have hfz8_0 := blk_frozen BK299.out 0; have hfz8_1 := blk_frozen BK299.out 1; have hfz8_2 := blk_frozen BK299.out 2; have hfz8_3 := blk_frozen BK299.out 3) | ((with_reducible refine gate_callee (f := 50) rfl ?_); refine goesL_ (some 15) rfl rfl Tryd.func50 (by kernel_rfl) rfl #[.agg #[.int .i64 a2_0, .int .i64 a2_1, .int .i64 a2_2, .int .i64 a2_3]] rfl (by (try simp only [List.map_toArray, List.map_cons, List.map_nil]); first | done | rfl | (simp only [List.length_drop, List.length_take]; rfl)) ?_; (with_reducible refine (dioramaref08_Proper.calls a2_0 a2_1 a2_2 a2_3 true _ A4.out).mono ?_); rintro e w9 ⟨rfl, hb⟩; refine ⟨_, rfl, ?_⟩; have n0_ := Aside0.mk (blk_below (g := gb299) (o := .cells #[.int .i64 a2_0, .int .i64 a2_1, .int .i64 a2_2, .int .i64 a2_3] 41 (0, 0)) (by (with_reducible repeat (first | refine blk_drewN ?_ _ | refine blk_drew ?_ | refine blk_alloc ?_ _)); exact BK299.out) hb); have n1_ := Aside0.mk (below_step (by repeat (first | (with_reducible first | exact HB.out | apply below_alloc | apply pw_below_drewN | apply below_drew1 | refine below_set ?_ GE299.out) | exact HB.out)) hb); clear BK299; clear HB; have BK299 := n0_; have HB := n1_; clear n0_ n1_; (try clear hb); (try clear hb2); (try clear hk); (try clear hi)))
    (try simp only [Act.put, List.setIfInBounds_toArray, List.set_cons_zero, List.set_cons_succ])
    go_cut [27] (fun v27 wc => ∃ (kq : Nat) (x27_5 : Bool), v27 = .bool x27_5 ∧ Aside0 (dioramaref08_Moments.j0 kq a0 a1 x27_5 a2_0 a2_1 a2_2 a2_3 = some (r1, r2)) ∧ Aside0 (kq ≤ k) ∧ Aside0 (wc.heap[gb299]? = some (.cells #[.int .i64 a2_0, .int .i64 a2_1, .int .i64 a2_2, .int .i64 a2_3] 41 (0, 0))) ∧ Aside0 (Below w.heap.size w wc))
    case first =>
      have H := HC6.out
      clear HC6
      replace H := Option.bind_eq_some_iff.mp H
      obtain ⟨t301, A100, H⟩ := H
      replace H : (if t301 = true then (if a1 < 0 then (dioramaref08_Moments.j0 k a0 a1 true a2_0 a2_1 a2_2 a2_3) else (dioramaref08_Moments.j0 k a0 a1 (decide (a1 > 1439)) a2_0 a2_1 a2_2 a2_3)) else (dioramaref08_Moments.j0 k a0 a1 true a2_0 a2_1 a2_2 a2_3)) = some (r1, r2) := H
      have A10 := Aside0.mk A100
      clear A100
      by_cases c11 : t301 = true
      · subst c11
        have H1 : (if a1 < 0 then (dioramaref08_Moments.j0 k a0 a1 true a2_0 a2_1 a2_2 a2_3) else (dioramaref08_Moments.j0 k a0 a1 (decide (a1 > 1439)) a2_0 a2_1 a2_2 a2_3)) = some (r1, r2) := by rw [if_pos rfl] at H; exact H
        clear H
        have H := H1
        clear H1
        by_cases c12 : a1 < 0
        · rw [if_pos c12] at H
          have c12b0 : decide (a1 < 0) = true := decide_eq_true c12
          clear c12
          (first | rw [c12b0] | (simp only [i64_w, i32_w]; rw [c12b0]) | skip)
          have H' := Aside0.mk H
          clear H
          go_wp2_with (first | ((with_reducible refine gate_callee (f := 39) rfl ?_); refine goesL_ (some 18) rfl rfl Tryd.func39 (by kernel_rfl) rfl #[.int .i64 a0] rfl (by (try simp only [List.map_toArray, List.map_cons, List.map_nil]); first | done | rfl | (simp only [List.length_drop, List.length_take]; rfl)) ?_; (with_reducible refine (dioramaref08_Known.calls a0 true _ A10.out).mono ?_); rintro e w' ⟨rfl, ⟨nd, rfl⟩⟩; refine ⟨_, rfl, ?_⟩))
          go_meet
          case rel => exact ⟨_, (true), (by first | rfl | (simp; done) | (simp [*]; done)), H', ⟨by first | omega | exact Nat.le_refl _⟩, ⟨by (with_reducible repeat (first | refine blk_drewN ?_ _ | refine blk_drew ?_ | refine blk_alloc ?_ _)); exact BK299.out⟩, ⟨by repeat (first | (with_reducible first | exact HB.out | apply below_alloc | apply pw_below_drewN | apply below_drew1 | refine below_set ?_ GE299.out) | exact HB.out)⟩⟩
        · rw [if_neg c12] at H
          have c12b0 : decide (a1 < 0) = false := decide_eq_false c12
          clear c12
          (first | rw [c12b0] | (simp only [i64_w, i32_w]; rw [c12b0]) | skip)
          have H' := Aside0.mk H
          clear H
          go_wp2_with (first | ((with_reducible refine gate_callee (f := 39) rfl ?_); refine goesL_ (some 18) rfl rfl Tryd.func39 (by kernel_rfl) rfl #[.int .i64 a0] rfl (by (try simp only [List.map_toArray, List.map_cons, List.map_nil]); first | done | rfl | (simp only [List.length_drop, List.length_take]; rfl)) ?_; (with_reducible refine (dioramaref08_Known.calls a0 true _ A10.out).mono ?_); rintro e w' ⟨rfl, ⟨nd, rfl⟩⟩; refine ⟨_, rfl, ?_⟩))
          go_meet
          case rel => exact ⟨_, (decide (a1 > 1439)), (by first | rfl | (simp; done) | (simp [*]; done)), H', ⟨by first | omega | exact Nat.le_refl _⟩, ⟨by (with_reducible repeat (first | refine blk_drewN ?_ _ | refine blk_drew ?_ | refine blk_alloc ?_ _)); exact BK299.out⟩, ⟨by repeat (first | (with_reducible first | exact HB.out | apply below_alloc | apply pw_below_drewN | apply below_drew1 | refine below_set ?_ GE299.out) | exact HB.out)⟩⟩
      · replace c11 := Bool.eq_false_iff.mpr c11
        subst c11
        have H1 : (dioramaref08_Moments.j0 k a0 a1 true a2_0 a2_1 a2_2 a2_3) = some (r1, r2) := by rw [if_neg (show ¬ (false = true) by decide)] at H; exact H
        clear H
        have H := H1
        clear H1
        have H' := Aside0.mk H
        clear H
        go_wp2_with (first | ((with_reducible refine gate_callee (f := 39) rfl ?_); refine goesL_ (some 18) rfl rfl Tryd.func39 (by kernel_rfl) rfl #[.int .i64 a0] rfl (by (try simp only [List.map_toArray, List.map_cons, List.map_nil]); first | done | rfl | (simp only [List.length_drop, List.length_take]; rfl)) ?_; (with_reducible refine (dioramaref08_Known.calls a0 false _ A10.out).mono ?_); rintro e w' ⟨rfl, ⟨nd, rfl⟩⟩; refine ⟨_, rfl, ?_⟩))
        go_meet
        case rel => exact ⟨_, (true), (by first | rfl | (simp; done) | (simp [*]; done)), H', ⟨by first | omega | exact Nat.le_refl _⟩, ⟨by (with_reducible repeat (first | refine blk_drewN ?_ _ | refine blk_drew ?_ | refine blk_alloc ?_ _)); exact BK299.out⟩, ⟨by repeat (first | (with_reducible first | exact HB.out | apply below_alloc | apply pw_below_drewN | apply below_drew1 | refine below_set ?_ GE299.out) | exact HB.out)⟩⟩
    case rest =>
      clear HC6
      try clear c1
      try clear p2
      try clear c3
      try clear c5
      try clear c11
      try clear c12
      try clear c12b0
      try clear hcz8_0
      try clear hcz8_1
      try clear hcz8_2
      try clear hcz8_3
      try clear hfz8_0
      try clear hfz8_1
      try clear hfz8_2
      try clear hfz8_3
      obtain ⟨kq, x27_5, rfl, HA, HJ5, BK299, HB⟩ := hcut
      cases kq with
      | zero => exact absurd HA.out (by simp [dioramaref08_Moments.j0])
      | succ kj5 =>
        have H := HA.out
        clear HA
        simp only [dioramaref08_Moments.j0] at H
        by_cases c13 : x27_5 = true
        · subst c13
          have H1 : (some (([] : List Int), 5)) = some (r1, r2) := by rw [if_pos rfl] at H; exact H
          clear H
          have H := H1
          clear H1
          simp only [Option.some.injEq, Prod.mk.injEq] at H
          obtain ⟨rfl, rfl⟩ := H
          go_wp2
          go_ret2
          exact ⟨_, by first | rfl | (simp [errW_none, errW_some] <;> rfl) | (simp [*, errW_none, errW_some] <;> rfl), by first | exact Kd.R_nil _ _ _ _ _ | exact Kd.N_nil _ _ _ _ _ | exact Kd.V_nil _ _ _ _ _ | exact Kd.Q_nil _ _ _ _ _ | exact Kd.S_nil _ _ _ _ _, by repeat (first | (with_reducible first | exact HB.out | apply below_alloc | apply pw_below_drewN | apply below_drew1 | refine below_set ?_ GE299.out) | exact HB.out)⟩
        · replace c13 := Bool.eq_false_iff.mpr c13
          subst c13
          have H1 : (dioramaref08_Moments.l0 kj5 a0 a1 ([] : List Int) 0 a2_0 a2_1 a2_2 a2_3) = some (r1, r2) := by rw [if_neg (show ¬ (false = true) by decide)] at H; exact H
          clear H
          have H := H1
          clear H1
          have H' := Aside0.mk H
          clear H
          go_wp2
          go_loopg [8, 9] kj5 (fun kq v8 v9 w' => ∃ (x8_2 : List Int) (x9_2 : Int), v9 = .int .i64 x9_2 ∧ Aside0 (dioramaref08_Moments.l0 kq a0 a1 x8_2 x9_2 a2_0 a2_1 a2_2 a2_3 = some (r1, r2)) ∧ Aside0 (kq ≤ kj5) ∧ Aside0 (Kd.R (Kd.int .i64) 3 w' w.heap.size (fun _ => True) v8 x8_2) ∧ Aside0 (w'.heap[gb299]? = some (.cells #[.int .i64 a2_0, .int .i64 a2_1, .int .i64 a2_2, .int .i64 a2_3] 41 (0, 0))) ∧ Aside0 (Below w.heap.size w w'))
          case atStart => exact ⟨(([] : List Int)), (0), (by first | rfl | (simp; done) | (simp [*]; done)), H', ⟨Nat.le_refl _⟩, ⟨by first | exact Kd.R_nil _ _ _ _ _ | exact Kd.N_nil _ _ _ _ _ | exact Kd.V_nil _ _ _ _ _ | exact Kd.Q_nil _ _ _ _ _ | exact Kd.S_nil _ _ _ _ _⟩, ⟨by (with_reducible repeat (first | refine blk_drewN ?_ _ | refine blk_drew ?_ | refine blk_alloc ?_ _)); exact BK299.out⟩, ⟨by repeat (first | (with_reducible first | exact HB.out | apply below_alloc | apply pw_below_drewN | apply below_drew1 | refine below_set ?_ GE299.out) | exact HB.out)⟩⟩
          case round =>
            clear H'
            try clear c1
            try clear p2
            try clear c3
            try clear c5
            try clear c11
            try clear c12
            try clear c12b0
            try clear c13
            try clear hcz8_0
            try clear hcz8_1
            try clear hcz8_2
            try clear hcz8_3
            try clear hfz8_0
            try clear hfz8_1
            try clear hfz8_2
            try clear hfz8_3
            try clear p2
            obtain ⟨x8_2, x9_2, rfl, HA, HK2, HO_8, BK299, HB⟩ := hrel
            cases gk with
            | zero => exact absurd HA.out (by simp [dioramaref08_Moments.l0])
            | succ k2 =>
              have H := HA.out
              clear HA
              simp only [dioramaref08_Moments.l0] at H
              by_cases c14 : x9_2 ≤ 120
              · rw [if_pos c14] at H
                have c14b0 : decide (x9_2 ≤ 120) = true := decide_eq_true c14
                clear c14
                replace H := Option.bind_eq_some_iff.mp H
                obtain ⟨⟨t302, t303, t304⟩, A150, H⟩ := H
                replace H : (if t304 = 0 then (if t302 = a0 then (if t303 = a1 then (if x8_2.length < 17592186044416 then (dioramaref08_Moments.l0 k2 a0 a1 (x8_2 ++ [wrap64 ((wrap64 ((wrap64 ((wrap64 ((wrap64 (1440 * a0)) + a1)) - a2_0)) - 120)) + x9_2)]) (wrap64 (x9_2 + 1)) a2_0 a2_1 a2_2 a2_3) else (none)) else (dioramaref08_Moments.l0 k2 a0 a1 x8_2 (wrap64 (x9_2 + 1)) a2_0 a2_1 a2_2 a2_3)) else (dioramaref08_Moments.l0 k2 a0 a1 x8_2 (wrap64 (x9_2 + 1)) a2_0 a2_1 a2_2 a2_3)) else (dioramaref08_Moments.l0 k2 a0 a1 x8_2 (wrap64 (x9_2 + 1)) a2_0 a2_1 a2_2 a2_3)) = some (r1, r2) := H
                have A15 := Aside0.mk A150
                clear A150
                by_cases c16 : t304 = 0
                · rw [if_pos c16] at H
                  have c16b0 : (t304 == 0) = true := beq_iff_eq.mpr c16
                  have c16b1 : (t304 != 0) = false := bne_eq_false_iff_eq.mpr c16
                  clear c16
                  by_cases c17 : t302 = a0
                  · rw [if_pos c17] at H
                    have c17b0 : (t302 == a0) = true := beq_iff_eq.mpr c17
                    have c17b1 : (t302 != a0) = false := bne_eq_false_iff_eq.mpr c17
                    clear c17
                    by_cases c18 : t303 = a1
                    · rw [if_pos c18] at H
                      have c18b0 : (t303 == a1) = true := beq_iff_eq.mpr c18
                      have c18b1 : (t303 != a1) = false := bne_eq_false_iff_eq.mpr c18
                      clear c18
                      by_cases c19 : x8_2.length < 17592186044416
                      · rw [if_pos c19] at H
                        have LMc19 := Aside0.mk c19
                        clear c19
                        obtain ⟨y305, hy305⟩ : ∃ y_ : List Int, y_ = (x8_2 ++ [wrap64 ((wrap64 ((wrap64 ((wrap64 ((wrap64 (1440 * a0)) + a1)) - a2_0)) - 120)) + x9_2)]) := ⟨_, rfl⟩
                        replace H : (dioramaref08_Moments.l0 k2 a0 a1 y305 (wrap64 (x9_2 + 1)) a2_0 a2_1 a2_2 a2_3) = some (r1, r2) := by first | (rw [hy305]; with_reducible exact H) | (have H2_ := (Option.bind_some _ _).symm.trans H; rw [hy305]; with_reducible exact H2_) | (have H2_ := (Option.bind_some _ _).symm.trans H; with_reducible exact H2_) | with_reducible exact H | (rw [hy305]; exact H) | exact H
                        have Ny305 := Aside0.mk hy305
                        clear hy305
                        have H' := Aside0.mk H
                        clear H
                        have hcz20_0 : wr.cell? ⟨gb299, 0, none⟩ = some (.int .i64 a2_0) := (blk_cell BK299.out 0).trans rfl
                        have hcz20_1 : wr.cell? ⟨gb299, 1, none⟩ = some (.int .i64 a2_1) := (blk_cell BK299.out 1).trans rfl
                        have hcz20_2 : wr.cell? ⟨gb299, 2, none⟩ = some (.int .i64 a2_2) := (blk_cell BK299.out 2).trans rfl
                        have hcz20_3 : wr.cell? ⟨gb299, 3, none⟩ = some (.int .i64 a2_3) := (blk_cell BK299.out 3).trans rfl
                        have hfz20_0 := blk_frozen BK299.out 0
                        have hfz20_1 := blk_frozen BK299.out 1
                        have hfz20_2 := blk_frozen BK299.out 2
                        have hfz20_3 := blk_frozen BK299.out 3
                        go_wp2_with (first | ((with_reducible refine gate_callee (f := 27) rfl ?_); refine goesL_ (some 45) rfl rfl Tryd.func27 (by kernel_rfl) rfl #[.int .i64 (wrap64 ((wrap64 ((wrap64 ((wrap64 ((wrap64 (1440 * a0)) + a1)) - a2_0)) - 120)) + x9_2)), .agg #[.int .i64 a2_0, .int .i64 a2_1, .int .i64 a2_2, .int .i64 a2_3]] rfl (by (try simp only [List.map_toArray, List.map_cons, List.map_nil]); first | done | rfl | (simp only [List.length_drop, List.length_take]; rfl)) ?_; (with_reducible refine (dioramaref08_Local.calls k2 (wrap64 ((wrap64 ((wrap64 ((wrap64 ((wrap64 (1440 * a0)) + a1)) - a2_0)) - 120)) + x9_2)) a2_0 a2_1 a2_2 a2_3 t302 t303 t304 _ A15.out).mono ?_); rintro e w21 ⟨rfl, hb⟩; refine ⟨_, rfl, ?_⟩; have n0_ := Aside0.mk (Kd.R_below (by (with_reducible repeat (first | apply Kd.R_alloc | apply Kd.R_drewN | apply Kd.R_drew)); exact HO_8.out) hb); have n1_ := Aside0.mk (blk_below (g := gb299) (o := .cells #[.int .i64 a2_0, .int .i64 a2_1, .int .i64 a2_2, .int .i64 a2_3] 41 (0, 0)) (by (with_reducible repeat (first | refine blk_drewN ?_ _ | refine blk_drew ?_ | refine blk_alloc ?_ _)); exact BK299.out) hb); have n2_ := Aside0.mk (below_step (by repeat (first | (with_reducible first | exact HB.out | apply below_alloc | apply pw_below_drewN | apply below_drew1 | refine below_set ?_ GE299.out) | exact HB.out)) hb); clear HO_8; clear BK299; clear HB; have HO_8 := n0_; have BK299 := n1_; have HB := n2_; clear n0_ n1_ n2_; (try clear hb); (try clear hb2); (try clear hk); (try clear hi)) | ((with_reducible refine gate_builtin (b := .append) (xs := #[.tmp 61, .tmp 63]) rfl ?_); at_builtin; refine Kd.R_append (Kd.int .i64) (w0 := w) w.heap.size rfl (.tmp 61) (.tmp 63) 23 3 (.int .i64 0) 8 rfl Tryd.underlying23 info3 rfl (by decide) (by omega) u8 x8_2 (wrap64 ((wrap64 ((wrap64 ((wrap64 ((wrap64 (1440 * a0)) + a1)) - a2_0)) - 120)) + x9_2)) [.int .i64 (wrap64 ((wrap64 ((wrap64 ((wrap64 ((wrap64 (1440 * a0)) + a1)) - a2_0)) - 120)) + x9_2))] (fun _ => True) (fun _ => False) rfl rfl ?aP (fun _ hk => hk.elim) ?aF ?aO ?aB ?aS ?aL ?_; (case aP => exact rfl); (case aB => exact (by repeat (first | (with_reducible first | exact HB.out | apply below_alloc | apply pw_below_drewN | apply below_drew1 | refine below_set ?_ GE299.out) | exact HB.out))); (case aF => exact (fun _ _ => trivial)); (case aO => exact (by (with_reducible repeat (first | apply Kd.R_alloc | apply Kd.R_drewN | apply Kd.R_drew)); exact HO_8.out)); (case aS => exact (below_size (by repeat (first | (with_reducible first | exact HB.out | apply below_alloc | apply pw_below_drewN | apply below_drew1 | refine below_set ?_ GE299.out) | exact HB.out)))); (case aL => have := LMc19.out; omega); intro v306 w22 ho hb hg hat; rw [← Ny305.out] at ho; have n0_ := Aside0.mk (blk_grown (g := gb299) (o := .cells #[.int .i64 a2_0, .int .i64 a2_1, .int .i64 a2_2, .int .i64 a2_3] 41 (0, 0)) (by (with_reducible repeat (first | refine blk_drewN ?_ _ | refine blk_drew ?_ | refine blk_alloc ?_ _)); exact BK299.out) hg (Kd.R_ne HO_8.out BK299.out (by decide))); have n1_ := Aside0.mk (hb); have n2_ := Aside0.mk (ho); clear BK299; clear HB; clear HO_8; have BK299 := n0_; have HB := n1_; have HO307 := n2_; clear n0_ n1_ n2_; clear ho hb hg hat))
                        go_roundg k2
                        case measure => have := HJ5.out; have := HK2.out; omega
                        case rel => exact ⟨(y305), (wrap64 (x9_2 + 1)), (by first | rfl | (simp; done) | (simp [*]; done)), H', ⟨by have := HJ5.out; have := HK2.out; omega⟩, ⟨by (with_reducible repeat (first | apply Kd.R_alloc | apply Kd.R_drewN | apply Kd.R_drew)); exact HO307.out⟩, ⟨by (with_reducible repeat (first | refine blk_drewN ?_ _ | refine blk_drew ?_ | refine blk_alloc ?_ _)); exact BK299.out⟩, ⟨by repeat (first | (with_reducible first | exact HB.out | apply below_alloc | apply pw_below_drewN | apply below_drew1 | refine below_set ?_ GE299.out) | exact HB.out)⟩⟩
                      · rw [if_neg c19] at H
                        exact absurd H (by simp)
                    · rw [if_neg c18] at H
                      have c18b0 : (t303 == a1) = false := beq_eq_false_iff_ne.mpr c18
                      have c18b1 : (t303 != a1) = true := bne_iff_ne.mpr c18
                      have H' := Aside0.mk H
                      clear H
                      have hcz23_0 : wr.cell? ⟨gb299, 0, none⟩ = some (.int .i64 a2_0) := (blk_cell BK299.out 0).trans rfl
                      have hcz23_1 : wr.cell? ⟨gb299, 1, none⟩ = some (.int .i64 a2_1) := (blk_cell BK299.out 1).trans rfl
                      have hcz23_2 : wr.cell? ⟨gb299, 2, none⟩ = some (.int .i64 a2_2) := (blk_cell BK299.out 2).trans rfl
                      have hcz23_3 : wr.cell? ⟨gb299, 3, none⟩ = some (.int .i64 a2_3) := (blk_cell BK299.out 3).trans rfl
                      have hfz23_0 := blk_frozen BK299.out 0
                      have hfz23_1 := blk_frozen BK299.out 1
                      have hfz23_2 := blk_frozen BK299.out 2
                      have hfz23_3 := blk_frozen BK299.out 3
                      go_wp2_with (first | ((with_reducible refine gate_callee (f := 27) rfl ?_); refine goesL_ (some 45) rfl rfl Tryd.func27 (by kernel_rfl) rfl #[.int .i64 (wrap64 ((wrap64 ((wrap64 ((wrap64 ((wrap64 (1440 * a0)) + a1)) - a2_0)) - 120)) + x9_2)), .agg #[.int .i64 a2_0, .int .i64 a2_1, .int .i64 a2_2, .int .i64 a2_3]] rfl (by (try simp only [List.map_toArray, List.map_cons, List.map_nil]); first | done | rfl | (simp only [List.length_drop, List.length_take]; rfl)) ?_; (with_reducible refine (dioramaref08_Local.calls k2 (wrap64 ((wrap64 ((wrap64 ((wrap64 ((wrap64 (1440 * a0)) + a1)) - a2_0)) - 120)) + x9_2)) a2_0 a2_1 a2_2 a2_3 t302 t303 t304 _ A15.out).mono ?_); rintro e w24 ⟨rfl, hb⟩; refine ⟨_, rfl, ?_⟩; have n0_ := Aside0.mk (Kd.R_below (by (with_reducible repeat (first | apply Kd.R_alloc | apply Kd.R_drewN | apply Kd.R_drew)); exact HO_8.out) hb); have n1_ := Aside0.mk (blk_below (g := gb299) (o := .cells #[.int .i64 a2_0, .int .i64 a2_1, .int .i64 a2_2, .int .i64 a2_3] 41 (0, 0)) (by (with_reducible repeat (first | refine blk_drewN ?_ _ | refine blk_drew ?_ | refine blk_alloc ?_ _)); exact BK299.out) hb); have n2_ := Aside0.mk (below_step (by repeat (first | (with_reducible first | exact HB.out | apply below_alloc | apply pw_below_drewN | apply below_drew1 | refine below_set ?_ GE299.out) | exact HB.out)) hb); clear HO_8; clear BK299; clear HB; have HO_8 := n0_; have BK299 := n1_; have HB := n2_; clear n0_ n1_ n2_; (try clear hb); (try clear hb2); (try clear hk); (try clear hi)))
                      go_roundg k2
                      case measure => have := HJ5.out; have := HK2.out; omega
                      case rel => exact ⟨(x8_2), (wrap64 (x9_2 + 1)), (by first | rfl | (simp; done) | (simp [*]; done)), H', ⟨by have := HJ5.out; have := HK2.out; omega⟩, ⟨by (with_reducible repeat (first | apply Kd.R_alloc | apply Kd.R_drewN | apply Kd.R_drew)); exact HO_8.out⟩, ⟨by (with_reducible repeat (first | refine blk_drewN ?_ _ | refine blk_drew ?_ | refine blk_alloc ?_ _)); exact BK299.out⟩, ⟨by repeat (first | (with_reducible first | exact HB.out | apply below_alloc | apply pw_below_drewN | apply below_drew1 | refine below_set ?_ GE299.out) | exact HB.out)⟩⟩
                  · rw [if_neg c17] at H
                    have c17b0 : (t302 == a0) = false := beq_eq_false_iff_ne.mpr c17
                    have c17b1 : (t302 != a0) = true := bne_iff_ne.mpr c17
                    have H' := Aside0.mk H
                    clear H
                    have hcz25_0 : wr.cell? ⟨gb299, 0, none⟩ = some (.int .i64 a2_0) := (blk_cell BK299.out 0).trans rfl
                    have hcz25_1 : wr.cell? ⟨gb299, 1, none⟩ = some (.int .i64 a2_1) := (blk_cell BK299.out 1).trans rfl
                    have hcz25_2 : wr.cell? ⟨gb299, 2, none⟩ = some (.int .i64 a2_2) := (blk_cell BK299.out 2).trans rfl
                    have hcz25_3 : wr.cell? ⟨gb299, 3, none⟩ = some (.int .i64 a2_3) := (blk_cell BK299.out 3).trans rfl
                    have hfz25_0 := blk_frozen BK299.out 0
                    have hfz25_1 := blk_frozen BK299.out 1
                    have hfz25_2 := blk_frozen BK299.out 2
                    have hfz25_3 := blk_frozen BK299.out 3
                    go_wp2_with (first | ((with_reducible refine gate_callee (f := 27) rfl ?_); refine goesL_ (some 45) rfl rfl Tryd.func27 (by kernel_rfl) rfl #[.int .i64 (wrap64 ((wrap64 ((wrap64 ((wrap64 ((wrap64 (1440 * a0)) + a1)) - a2_0)) - 120)) + x9_2)), .agg #[.int .i64 a2_0, .int .i64 a2_1, .int .i64 a2_2, .int .i64 a2_3]] rfl (by (try simp only [List.map_toArray, List.map_cons, List.map_nil]); first | done | rfl | (simp only [List.length_drop, List.length_take]; rfl)) ?_; (with_reducible refine (dioramaref08_Local.calls k2 (wrap64 ((wrap64 ((wrap64 ((wrap64 ((wrap64 (1440 * a0)) + a1)) - a2_0)) - 120)) + x9_2)) a2_0 a2_1 a2_2 a2_3 t302 t303 t304 _ A15.out).mono ?_); rintro e w26 ⟨rfl, hb⟩; refine ⟨_, rfl, ?_⟩; have n0_ := Aside0.mk (Kd.R_below (by (with_reducible repeat (first | apply Kd.R_alloc | apply Kd.R_drewN | apply Kd.R_drew)); exact HO_8.out) hb); have n1_ := Aside0.mk (blk_below (g := gb299) (o := .cells #[.int .i64 a2_0, .int .i64 a2_1, .int .i64 a2_2, .int .i64 a2_3] 41 (0, 0)) (by (with_reducible repeat (first | refine blk_drewN ?_ _ | refine blk_drew ?_ | refine blk_alloc ?_ _)); exact BK299.out) hb); have n2_ := Aside0.mk (below_step (by repeat (first | (with_reducible first | exact HB.out | apply below_alloc | apply pw_below_drewN | apply below_drew1 | refine below_set ?_ GE299.out) | exact HB.out)) hb); clear HO_8; clear BK299; clear HB; have HO_8 := n0_; have BK299 := n1_; have HB := n2_; clear n0_ n1_ n2_; (try clear hb); (try clear hb2); (try clear hk); (try clear hi)))
                    go_roundg k2
                    case measure => have := HJ5.out; have := HK2.out; omega
                    case rel => exact ⟨(x8_2), (wrap64 (x9_2 + 1)), (by first | rfl | (simp; done) | (simp [*]; done)), H', ⟨by have := HJ5.out; have := HK2.out; omega⟩, ⟨by (with_reducible repeat (first | apply Kd.R_alloc | apply Kd.R_drewN | apply Kd.R_drew)); exact HO_8.out⟩, ⟨by (with_reducible repeat (first | refine blk_drewN ?_ _ | refine blk_drew ?_ | refine blk_alloc ?_ _)); exact BK299.out⟩, ⟨by repeat (first | (with_reducible first | exact HB.out | apply below_alloc | apply pw_below_drewN | apply below_drew1 | refine below_set ?_ GE299.out) | exact HB.out)⟩⟩
                · rw [if_neg c16] at H
                  have c16b0 : (t304 == 0) = false := beq_eq_false_iff_ne.mpr c16
                  have c16b1 : (t304 != 0) = true := bne_iff_ne.mpr c16
                  have H' := Aside0.mk H
                  clear H
                  have hcz27_0 : wr.cell? ⟨gb299, 0, none⟩ = some (.int .i64 a2_0) := (blk_cell BK299.out 0).trans rfl
                  have hcz27_1 : wr.cell? ⟨gb299, 1, none⟩ = some (.int .i64 a2_1) := (blk_cell BK299.out 1).trans rfl
                  have hcz27_2 : wr.cell? ⟨gb299, 2, none⟩ = some (.int .i64 a2_2) := (blk_cell BK299.out 2).trans rfl
                  have hcz27_3 : wr.cell? ⟨gb299, 3, none⟩ = some (.int .i64 a2_3) := (blk_cell BK299.out 3).trans rfl
                  have hfz27_0 := blk_frozen BK299.out 0
                  have hfz27_1 := blk_frozen BK299.out 1
                  have hfz27_2 := blk_frozen BK299.out 2
                  have hfz27_3 := blk_frozen BK299.out 3
                  go_wp2_with (first | ((with_reducible refine gate_callee (f := 27) rfl ?_); refine goesL_ (some 45) rfl rfl Tryd.func27 (by kernel_rfl) rfl #[.int .i64 (wrap64 ((wrap64 ((wrap64 ((wrap64 ((wrap64 (1440 * a0)) + a1)) - a2_0)) - 120)) + x9_2)), .agg #[.int .i64 a2_0, .int .i64 a2_1, .int .i64 a2_2, .int .i64 a2_3]] rfl (by (try simp only [List.map_toArray, List.map_cons, List.map_nil]); first | done | rfl | (simp only [List.length_drop, List.length_take]; rfl)) ?_; (with_reducible refine (dioramaref08_Local.calls k2 (wrap64 ((wrap64 ((wrap64 ((wrap64 ((wrap64 (1440 * a0)) + a1)) - a2_0)) - 120)) + x9_2)) a2_0 a2_1 a2_2 a2_3 t302 t303 t304 _ A15.out).mono ?_); rintro e w28 ⟨rfl, hb⟩; refine ⟨_, rfl, ?_⟩; have n0_ := Aside0.mk (Kd.R_below (by (with_reducible repeat (first | apply Kd.R_alloc | apply Kd.R_drewN | apply Kd.R_drew)); exact HO_8.out) hb); have n1_ := Aside0.mk (blk_below (g := gb299) (o := .cells #[.int .i64 a2_0, .int .i64 a2_1, .int .i64 a2_2, .int .i64 a2_3] 41 (0, 0)) (by (with_reducible repeat (first | refine blk_drewN ?_ _ | refine blk_drew ?_ | refine blk_alloc ?_ _)); exact BK299.out) hb); have n2_ := Aside0.mk (below_step (by repeat (first | (with_reducible first | exact HB.out | apply below_alloc | apply pw_below_drewN | apply below_drew1 | refine below_set ?_ GE299.out) | exact HB.out)) hb); clear HO_8; clear BK299; clear HB; have HO_8 := n0_; have BK299 := n1_; have HB := n2_; clear n0_ n1_ n2_; (try clear hb); (try clear hb2); (try clear hk); (try clear hi)))
                  go_roundg k2
                  case measure => have := HJ5.out; have := HK2.out; omega
                  case rel => exact ⟨(x8_2), (wrap64 (x9_2 + 1)), (by first | rfl | (simp; done) | (simp [*]; done)), H', ⟨by have := HJ5.out; have := HK2.out; omega⟩, ⟨by (with_reducible repeat (first | apply Kd.R_alloc | apply Kd.R_drewN | apply Kd.R_drew)); exact HO_8.out⟩, ⟨by (with_reducible repeat (first | refine blk_drewN ?_ _ | refine blk_drew ?_ | refine blk_alloc ?_ _)); exact BK299.out⟩, ⟨by repeat (first | (with_reducible first | exact HB.out | apply below_alloc | apply pw_below_drewN | apply below_drew1 | refine below_set ?_ GE299.out) | exact HB.out)⟩⟩
              · rw [if_neg c14] at H
                have c14b0 : decide (x9_2 ≤ 120) = false := decide_eq_false c14
                clear c14
                simp only [Option.some.injEq, Prod.mk.injEq] at H
                obtain ⟨rfl, rfl⟩ := H
                go_wp2
                go_ret2
                exact ⟨_, by first | rfl | (simp [errW_none, errW_some] <;> rfl) | (simp [*, errW_none, errW_some] <;> rfl), by (with_reducible repeat (first | apply Kd.R_alloc | apply Kd.R_drewN | apply Kd.R_drew)); exact HO_8.out, by repeat (first | (with_reducible first | exact HB.out | apply below_alloc | apply pw_below_drewN | apply below_drew1 | refine below_set ?_ GE299.out) | exact HB.out)⟩
  · replace c5 := Bool.eq_false_iff.mpr c5
    subst c5
    have H1 : (some (([] : List Int), 1)) = some (r1, r2) := by rw [if_neg (show ¬ (false = true) by decide)] at H; exact H
    clear H
    have H := H1
    clear H1
    simp only [Option.some.injEq, Prod.mk.injEq] at H
    obtain ⟨rfl, rfl⟩ := H
    go_enter Tryd.func30, Tryd.ntmps30
    go_wp2_with (first | ((with_reducible refine gate_dst (N := 5) rfl ?_); refine box_event ?hg (N := 5) ?hd (cs := #[.int .i64 a2_0, .int .i64 a2_1, .int .i64 a2_2, .int .i64 a2_3]) (t := 41) ?hr ?_; (case hd => rfl); (case hg => rfl); (case hr => first | (go_simp; done) | (go_simp; rfl)); intro gb299 hg w29 hbox hb; have n0_ := Aside0.mk (below_step (by repeat (first | (with_reducible first | exact HB.out | apply below_alloc | apply pw_below_drewN | apply below_drew1) | exact HB.out)) hb); have n1_ := Aside0.mk (hbox); have n2_ := Aside0.mk ((by rw [hg]; exact (below_size (by repeat (first | (with_reducible first | exact HB.out | apply below_alloc | apply pw_below_drewN | apply below_drew1) | exact HB.out))) : w.heap.size ≤ gb299)); have n3_ := Aside0.mk ((by rw [hg]; exact (below_size (by repeat (first | (with_reducible first | exact HB.out | apply below_alloc | apply pw_below_drewN | apply below_drew1) | exact HB.out))) : w.heap.size ≤ gb299)); clear HB; have HB := n0_; have BK299 := n1_; have GW299 := n2_; have GE299 := n3_; clear n0_ n1_ n2_ n3_; clear hb hbox hg; have hcz30_0 : w29.cell? ⟨gb299, 0, none⟩ = some (.int .i64 a2_0) := (blk_cell BK299.out 0).trans rfl; have hcz30_1 : w29.cell? ⟨gb299, 1, none⟩ = some (.int .i64 a2_1) := (blk_cell BK299.out 1).trans rfl; have hcz30_2 : w29.cell? ⟨gb299, 2, none⟩ = some (.int .i64 a2_2) := (blk_cell BK299.out 2).trans rfl; have hcz30_3 : w29.cell? ⟨gb299, 3, none⟩ = some (.int .i64 a2_3) := (blk_cell BK299.out 3).trans rfl; have hfz30_0 := blk_frozen BK299.out 0; have hfz30_1 := blk_frozen BK299.out 1; have hfz30_2 := blk_frozen BK299.out 2; have hfz30_3 := blk_frozen BK299.out 3) | ((with_reducible refine gate_callee (f := 50) rfl ?_); refine goesL_ (some 15) rfl rfl Tryd.func50 (by kernel_rfl) rfl #[.agg #[.int .i64 a2_0, .int .i64 a2_1, .int .i64 a2_2, .int .i64 a2_3]] rfl (by (try simp only [List.map_toArray, List.map_cons, List.map_nil]); first | done | rfl | (simp only [List.length_drop, List.length_take]; rfl)) ?_; (with_reducible refine (dioramaref08_Proper.calls a2_0 a2_1 a2_2 a2_3 false _ A4.out).mono ?_); rintro e w31 ⟨rfl, hb⟩; refine ⟨_, rfl, ?_⟩; have n0_ := Aside0.mk (blk_below (g := gb299) (o := .cells #[.int .i64 a2_0, .int .i64 a2_1, .int .i64 a2_2, .int .i64 a2_3] 41 (0, 0)) (by (with_reducible repeat (first | refine blk_drewN ?_ _ | refine blk_drew ?_ | refine blk_alloc ?_ _)); exact BK299.out) hb); have n1_ := Aside0.mk (below_step (by repeat (first | (with_reducible first | exact HB.out | apply below_alloc | apply pw_below_drewN | apply below_drew1 | refine below_set ?_ GE299.out) | exact HB.out)) hb); clear BK299; clear HB; have BK299 := n0_; have HB := n1_; clear n0_ n1_; (try clear hb); (try clear hb2); (try clear hk); (try clear hi)))
    go_ret2
    exact ⟨_, by first | rfl | (simp [errW_none, errW_some] <;> rfl) | (simp [*, errW_none, errW_some] <;> rfl), by first | exact Kd.R_nil _ _ _ _ _ | exact Kd.N_nil _ _ _ _ _ | exact Kd.V_nil _ _ _ _ _ | exact Kd.Q_nil _ _ _ _ _ | exact Kd.S_nil _ _ _ _ _, by repeat (first | (with_reducible first | exact HB.out | apply below_alloc | apply pw_below_drewN | apply below_drew1 | refine below_set ?_ GE299.out) | exact HB.out)⟩

/-! ### dioramaref01_SameInts: function 31 -/
def dioramaref01_SameInts.l0 : Nat → List Int → List Int → Int → Option (Bool)
  | 0, _, _, _ => none
  | k + 1, x0, x1, x5 => if x5 < (x0.length : Int) then (if 0 ≤ x5 then (if x5 < (x1.length : Int) then (if (rd x0 x5) = (rd x1 x5) then (dioramaref01_SameInts.l0 k x0 x1 (wrap64 (x5 + 1))) else (some false)) else (none)) else (none)) else (some true)
def dioramaref01_SameInts.f (k : Nat) (l0 : List Int) (l1 : List Int) : Option (Bool) := if (l0.length : Int) = (l1.length : Int) then (dioramaref01_SameInts.l0 k l0 l1 0) else (some false)
theorem dioramaref01_SameInts.mono_l : ∀ k, (∀ y0 y1 y2, LeO (dioramaref01_SameInts.l0 k y0 y1 y2) (dioramaref01_SameInts.l0 (k + 1) y0 y1 y2))
  | 0 => fun _ _ _ r h => by simp [dioramaref01_SameInts.l0] at h
  | k + 1 => by
    have ih0 := dioramaref01_SameInts.mono_l k
    · intro y0 y1 y2
      unfold dioramaref01_SameInts.l0
      repeat' first
      | (with_reducible exact ih0 _ _ _)
      | (with_reducible exact LeO.refl _)
      | (with_reducible exact LeO.none _)
      | (with_reducible refine LeO.ite ?_ ?_)
      | (with_reducible refine LeO.bind ?_ (fun _ => ?_))
      | exact ih0 _ _ _
      | exact LeO.none _
      | refine LeO.ite ?_ ?_
      | refine LeO.bind ?_ (fun _ => ?_)
theorem dioramaref01_SameInts.mono : ∀ a0 a1 k, LeO (dioramaref01_SameInts.f k a0 a1) (dioramaref01_SameInts.f (k + 1) a0 a1) := by
  intro a0 a1 k
  have ih0 := dioramaref01_SameInts.mono_l k
  unfold dioramaref01_SameInts.f
  repeat' first
      | (with_reducible exact ih0 _ _ _)
      | (with_reducible exact LeO.refl _)
      | (with_reducible exact LeO.none _)
      | (with_reducible refine LeO.ite ?_ ?_)
      | (with_reducible refine LeO.bind ?_ (fun _ => ?_))
      | exact ih0 _ _ _
      | exact LeO.none _
      | refine LeO.ite ?_ ?_
      | refine LeO.bind ?_ (fun _ => ?_)
set_option maxHeartbeats 8000000 in
set_option maxRecDepth 100000 in
theorem dioramaref01_SameInts.calls (k : Nat) (A0 : Option Addr) (c0 : Nat) (l0 : List Int) (A1 : Option Addr) (c1 : Nat) (l1 : List Int) (r : Bool) (w : World) (hr0 : Kd.C (Kd.int .i64) w A0 l0.length l0) (hc0 : l0.length ≤ c0) (hr1 : Kd.C (Kd.int .i64) w A1 l1.length l1) (hc1 : l1.length ≤ c1) (h : dioramaref01_SameInts.f k l0 l1 = some r) :
    Calls Tryd.prog 31 #[.slice A0 l0.length c0, .slice A1 l1.length c1] w fun e w' => e = .returned (.bool r) ∧ Drawn0 w w' := by
  have HR0 := Aside0.mk hr0
  have HC0 := Aside0.mk hc0
  clear hr0 hc0
  have HR1 := Aside0.mk hr1
  have HC1 := Aside0.mk hc1
  clear hr1 hc1
  have H : (if (l0.length : Int) = (l1.length : Int) then (dioramaref01_SameInts.l0 k l0 l1 0) else (some false)) = some r := h
  clear h
  by_cases c3 : (l0.length : Int) = (l1.length : Int)
  · rw [if_pos c3] at H
    have c3b0 : ((l0.length : Int) == (l1.length : Int)) = true := beq_iff_eq.mpr c3
    have c3b1 : ((l0.length : Int) != (l1.length : Int)) = false := bne_eq_false_iff_eq.mpr c3
    have c3b2 : (l0.length == l1.length) = true := by first | simpa using c3 | (simp at c3 ⊢; omega)
    clear c3
    have H' := Aside0.mk H
    clear H
    go_enter Tryd.func31, Tryd.ntmps31
    go_wp2
    repeat (go_quiet (fail); try go_wp2)
    go_loopg [5] k (fun kq v5 w' => ∃ (x5_1 : Int), v5 = .int .i64 x5_1 ∧ Aside0 (dioramaref01_SameInts.l0 kq l0 l1 x5_1 = some r) ∧ Aside0 (kq ≤ k) ∧ Drawn0 w w')
    case atStart => exact ⟨(0), (by first | rfl | (simp; done) | (simp [*]; done)), H', ⟨Nat.le_refl _⟩, by repeat (first | exact Drawn0.refl _ | apply Drawn0.step)⟩
    case round =>
      clear H'
      try clear c1
      try clear p2
      try clear c3
      try clear c3b0
      try clear c3b1
      try clear c3b2
      obtain ⟨x5_1, rfl, HA, HK1, ⟨m1, rfl⟩⟩ := hrel
      cases gk with
      | zero => exact absurd HA.out (by simp [dioramaref01_SameInts.l0])
      | succ k1 =>
        have H := HA.out
        clear HA
        simp only [dioramaref01_SameInts.l0] at H
        by_cases c4 : x5_1 < (l0.length : Int)
        · rw [if_pos c4] at H
          have c4b0 : decide (x5_1 < (l0.length : Int)) = true := decide_eq_true c4
          clear c4
          by_cases c5 : 0 ≤ x5_1
          · rw [if_pos c5] at H
            have c5b0 : decide (0 ≤ x5_1) = true := decide_eq_true c5
            clear c5
            by_cases c6 : x5_1 < (l1.length : Int)
            · rw [if_pos c6] at H
              have c6b0 : decide (x5_1 < (l1.length : Int)) = true := decide_eq_true c6
              clear c6
              by_cases c7 : (rd l0 x5_1) = (rd l1 x5_1)
              · rw [if_pos c7] at H
                have c7b0 : ((rd l0 x5_1) == (rd l1 x5_1)) = true := beq_iff_eq.mpr c7
                have c7b1 : ((rd l0 x5_1) != (rd l1 x5_1)) = false := bne_eq_false_iff_eq.mpr c7
                clear c7
                have H' := Aside0.mk H
                clear H
                have p308 : 0 ≤ (x5_1 : Int) := of_decide_eq_true (by first | (with_reducible assumption) | assumption)
                have q308 : x5_1 < (l0.length : Int) := of_decide_eq_true (by first | (with_reducible assumption) | assumption)
                obtain ⟨ad308, e308, hx308_0⟩ := Kd.at_int HR0.out x5_1 p308 q308
                cases e308
                replace p308 := eq_true p308
                replace q308 := eq_true q308
                have p309 : 0 ≤ (x5_1 : Int) := of_decide_eq_true (by first | (with_reducible assumption) | assumption)
                have q309 : x5_1 < (l1.length : Int) := of_decide_eq_true (by first | (with_reducible assumption) | assumption)
                obtain ⟨ad309, e309, hx309_0⟩ := Kd.at_int HR1.out x5_1 p309 q309
                cases e309
                replace p309 := eq_true p309
                replace q309 := eq_true q309
                go_wp2
                repeat (go_quiet (fail); try go_wp2)
                go_roundg k1
                case measure => have := HK1.out; omega
                case rel => exact ⟨(wrap64 (x5_1 + 1)), (by first | rfl | (simp; done) | (simp [*]; done)), H', ⟨by have := HK1.out; omega⟩, by repeat (first | exact Drawn0.refl _ | apply Drawn0.step)⟩
              · rw [if_neg c7] at H
                have c7b0 : ((rd l0 x5_1) == (rd l1 x5_1)) = false := beq_eq_false_iff_ne.mpr c7
                have c7b1 : ((rd l0 x5_1) != (rd l1 x5_1)) = true := bne_iff_ne.mpr c7
                obtain rfl := Option.some.inj H
                have p308 : 0 ≤ (x5_1 : Int) := of_decide_eq_true (by first | (with_reducible assumption) | assumption)
                have q308 : x5_1 < (l0.length : Int) := of_decide_eq_true (by first | (with_reducible assumption) | assumption)
                obtain ⟨ad308, e308, hx308_0⟩ := Kd.at_int HR0.out x5_1 p308 q308
                cases e308
                replace p308 := eq_true p308
                replace q308 := eq_true q308
                have p309 : 0 ≤ (x5_1 : Int) := of_decide_eq_true (by first | (with_reducible assumption) | assumption)
                have q309 : x5_1 < (l1.length : Int) := of_decide_eq_true (by first | (with_reducible assumption) | assumption)
                obtain ⟨ad309, e309, hx309_0⟩ := Kd.at_int HR1.out x5_1 p309 q309
                cases e309
                replace p309 := eq_true p309
                replace q309 := eq_true q309
                go_wp2
                repeat (go_quiet (fail); try go_wp2)
                go_ret
                exact ⟨by first | rfl | (simp; done) | (simp [*]; done), by repeat (first | exact Drawn0.refl _ | apply Drawn0.step)⟩
            · rw [if_neg c6] at H
              exact absurd H (by simp)
          · rw [if_neg c5] at H
            exact absurd H (by simp)
        · rw [if_neg c4] at H
          have c4b0 : decide (x5_1 < (l0.length : Int)) = false := decide_eq_false c4
          clear c4
          obtain rfl := Option.some.inj H
          go_wp2
          repeat (go_quiet (fail); try go_wp2)
          go_ret
          exact ⟨by first | rfl | (simp; done) | (simp [*]; done), by repeat (first | exact Drawn0.refl _ | apply Drawn0.step)⟩
  · rw [if_neg c3] at H
    have c3b0 : ((l0.length : Int) == (l1.length : Int)) = false := beq_eq_false_iff_ne.mpr c3
    have c3b1 : ((l0.length : Int) != (l1.length : Int)) = true := bne_iff_ne.mpr c3
    have c3b2 : (l0.length == l1.length) = false := by first | simpa using c3 | (simp at c3 ⊢; omega)
    obtain rfl := Option.some.inj H
    go_enter Tryd.func31, Tryd.ntmps31
    go_wp2
    repeat (go_quiet (fail); try go_wp2)
    go_ret
    exact ⟨by first | rfl | (simp; done) | (simp [*]; done), by repeat (first | exact Drawn0.refl _ | apply Drawn0.step)⟩

/-! ### dioramalaw08_CalendarLocal: function 5 -/
mutual
def dioramalaw08_CalendarLocal.l0 : Nat → Int → Int → Int → Int → List (S39) → List Int → Int → Option (Bool)
 | 0, _, _, _, _, _, _, _ => none
 | k + 1, x3, x4, x11, x12, x13, x14, x15 => if x15 < 2 then (dioramalaw08_CalendarLocal.l1 k x3 x4 x11 x12 x13 x14 x15 0) else ((dioramalaw08_lives.f k).bind fun t328 => (some t328))
def dioramalaw08_CalendarLocal.l1 : Nat → Int → Int → Int → Int → List (S39) → List Int → Int → Int → Option (Bool)
 | 0, _, _, _, _, _, _, _, _ => none
 | k + 1, x3, x4, x11, x12, x13, x14, x15, x16 => if x16 < 3 then (if 0 ≤ x16 then (if x16 < (x14.length : Int) then (if 0 ≤ x15 then (if x15 < (x13.length : Int) then ((calendar_Local.f k (rd x14 x16) ((rd_T39 x13 x15).f0) ((rd_T39 x13 x15).f1) ((rd_T39 x13 x15).f2) ((rd_T39 x13 x15).f3)).bind fun bt331 => ((dioramalaw08_plain.f ((rd_T39 x13 x15).f0) ((rd_T39 x13 x15).f1) ((rd_T39 x13 x15).f2) ((rd_T39 x13 x15).f3)).bind fun bt336 => ((dioramaref08_Local.f k (rd x14 x16) bt336.1 bt336.2.1 bt336.2.2.1 bt336.2.2.2).bind fun bt340 => (if bt331.1 = bt340.1 then (if bt331.2.1 = bt340.2.1 then (if bt331.2.2 = bt340.2.2 then (dioramalaw08_CalendarLocal.l1 k x3 x4 x11 x12 x13 x14 x15 (wrap64 (x16 + 1))) else (some false)) else (some false)) else (some false))))) else (none)) else (none)) else (none)) else (none)) else (dioramalaw08_CalendarLocal.l2 k x3 x4 x11 x12 x13 x14 x15 (([x11, x4, x11] : List Int)) (([x12, x12, x3] : List Int)) 0)
def dioramalaw08_CalendarLocal.l2 : Nat → Int → Int → Int → Int → List (S39) → List Int → Int → List Int → List Int → Int → Option (Bool)
 | 0, _, _, _, _, _, _, _, _, _, _ => none
 | k + 1, x3, x4, x11, x12, x13, x14, x15, x23, x24, x25 => if x25 < 3 then (if 0 ≤ x25 then (if x25 < (x23.length : Int) then (if x25 < (x24.length : Int) then (if 0 ≤ x15 then (if x15 < (x13.length : Int) then ((calendar_Moments.f k (rd x23 x25) (rd x24 x25) ((rd_T39 x13 x15).f0) ((rd_T39 x13 x15).f1) ((rd_T39 x13 x15).f2) ((rd_T39 x13 x15).f3)).bind fun bt352 => ((dioramalaw08_plain.f ((rd_T39 x13 x15).f0) ((rd_T39 x13 x15).f1) ((rd_T39 x13 x15).f2) ((rd_T39 x13 x15).f3)).bind fun bt359 => ((dioramaref08_Moments.f k (rd x23 x25) (rd x24 x25) bt359.1 bt359.2.1 bt359.2.2.1 bt359.2.2.2).bind fun bt363 => (if bt352.2 = bt363.2 then ((dioramaref01_SameInts.f k bt352.1 bt363.1).bind fun t367 => (if t367 = true then (dioramalaw08_CalendarLocal.l2 k x3 x4 x11 x12 x13 x14 x15 x23 x24 (wrap64 (x25 + 1))) else (some false))) else (some false))))) else (none)) else (none)) else (none)) else (none)) else (none)) else (dioramalaw08_CalendarLocal.l0 k x3 x4 x11 x12 x13 x14 (wrap64 (x15 + 1)))
end
def dioramalaw08_CalendarLocal.f (k : Nat) (a0 : Int) (l1 : List Int) (a2_0 : Int) (a2_1 : Int) (a2_2 : Int) (a2_3 : Int) (a3 : Int) (a4 : Int) : Option (Bool) := (dioramaref08_Some.f k a0).bind fun t311 => ((dioramaref01_Around.f a3 1440).bind fun t312 => ((dioramaref08_Zones.f l1).bind fun bt313 => ((dioramalaw08_own.f bt313.1 bt313.2.1 bt313.2.2.1 bt313.2.2.2).bind fun bt317 => ((dioramaref01_Around.f a3 20).bind fun t324 => (dioramalaw08_CalendarLocal.l0 k a3 a4 t311 t312 (([(⟨bt317.1, bt317.2.1, bt317.2.2.1, bt317.2.2.2⟩ : S39), (⟨a2_0, a2_1, a2_2, a2_3⟩ : S39)] : List (S39))) (([wrap64 ((wrap64 (1440 * t311)) + t312), a4, wrap64 ((wrap64 ((wrap64 (1440 * t311)) - 900)) + t324)] : List Int)) 0)))))
theorem dioramalaw08_CalendarLocal.mono_l : ∀ k, (∀ y0 y1 y2 y3 y4 y5 y6, LeO (dioramalaw08_CalendarLocal.l0 k y0 y1 y2 y3 y4 y5 y6) (dioramalaw08_CalendarLocal.l0 (k + 1) y0 y1 y2 y3 y4 y5 y6)) ∧ (∀ y0 y1 y2 y3 y4 y5 y6 y7, LeO (dioramalaw08_CalendarLocal.l1 k y0 y1 y2 y3 y4 y5 y6 y7) (dioramalaw08_CalendarLocal.l1 (k + 1) y0 y1 y2 y3 y4 y5 y6 y7)) ∧ (∀ y0 y1 y2 y3 y4 y5 y6 y7 y8 y9, LeO (dioramalaw08_CalendarLocal.l2 k y0 y1 y2 y3 y4 y5 y6 y7 y8 y9) (dioramalaw08_CalendarLocal.l2 (k + 1) y0 y1 y2 y3 y4 y5 y6 y7 y8 y9))
 | 0 => ⟨fun _ _ _ _ _ _ _ r h => by simp [dioramalaw08_CalendarLocal.l0] at h, fun _ _ _ _ _ _ _ _ r h => by simp [dioramalaw08_CalendarLocal.l1] at h, fun _ _ _ _ _ _ _ _ _ _ r h => by simp [dioramalaw08_CalendarLocal.l2] at h⟩
 | k + 1 => by
  obtain ⟨ih0, ih1, ih2⟩ := dioramalaw08_CalendarLocal.mono_l k
  refine ⟨?_, ?_, ?_⟩
  ·intro y0 y1 y2 y3 y4 y5 y6
   unfold dioramalaw08_CalendarLocal.l0
   repeat' first
   | (with_reducible exact ih0 _ _ _ _ _ _ _)
   | (with_reducible exact ih1 _ _ _ _ _ _ _ _)
   | (with_reducible exact ih2 _ _ _ _ _ _ _ _ _ _)
   | (with_reducible exact calendar_Local.mono _ _ _ _ _ _)
   | (with_reducible exact calendar_Moments.mono _ _ _ _ _ _ _)
   | (with_reducible exact dioramalaw08_lives.mono _)
   | (with_reducible exact dioramaref01_SameInts.mono _ _ _)
   | (with_reducible exact dioramaref08_Local.mono _ _ _ _ _ _)
   | (with_reducible exact dioramaref08_Moments.mono _ _ _ _ _ _ _)
   | (with_reducible exact dioramaref08_Some.mono _ _)
   | (with_reducible exact LeO.refl _)
   | (with_reducible exact LeO.none _)
   | (with_reducible refine LeO.ite ?_ ?_)
   | (with_reducible refine LeO.bind ?_ (fun _ => ?_))
   | exact ih0 _ _ _ _ _ _ _
   | exact ih1 _ _ _ _ _ _ _ _
   | exact ih2 _ _ _ _ _ _ _ _ _ _
   | exact calendar_Local.mono _ _ _ _ _ _
   | exact calendar_Moments.mono _ _ _ _ _ _ _
   | exact dioramalaw08_lives.mono _
   | exact dioramaref01_SameInts.mono _ _ _
   | exact dioramaref08_Local.mono _ _ _ _ _ _
   | exact dioramaref08_Moments.mono _ _ _ _ _ _ _
   | exact dioramaref08_Some.mono _ _
   | exact LeO.none _
   | refine LeO.ite ?_ ?_
   | refine LeO.bind ?_ (fun _ => ?_)
  ·intro y0 y1 y2 y3 y4 y5 y6 y7
   unfold dioramalaw08_CalendarLocal.l1
   repeat' first
   | (with_reducible exact ih0 _ _ _ _ _ _ _)
   | (with_reducible exact ih1 _ _ _ _ _ _ _ _)
   | (with_reducible exact ih2 _ _ _ _ _ _ _ _ _ _)
   | (with_reducible exact calendar_Local.mono _ _ _ _ _ _)
   | (with_reducible exact calendar_Moments.mono _ _ _ _ _ _ _)
   | (with_reducible exact dioramalaw08_lives.mono _)
   | (with_reducible exact dioramaref01_SameInts.mono _ _ _)
   | (with_reducible exact dioramaref08_Local.mono _ _ _ _ _ _)
   | (with_reducible exact dioramaref08_Moments.mono _ _ _ _ _ _ _)
   | (with_reducible exact dioramaref08_Some.mono _ _)
   | (with_reducible exact LeO.refl _)
   | (with_reducible exact LeO.none _)
   | (with_reducible refine LeO.ite ?_ ?_)
   | (with_reducible refine LeO.bind ?_ (fun _ => ?_))
   | exact ih0 _ _ _ _ _ _ _
   | exact ih1 _ _ _ _ _ _ _ _
   | exact ih2 _ _ _ _ _ _ _ _ _ _
   | exact calendar_Local.mono _ _ _ _ _ _
   | exact calendar_Moments.mono _ _ _ _ _ _ _
   | exact dioramalaw08_lives.mono _
   | exact dioramaref01_SameInts.mono _ _ _
   | exact dioramaref08_Local.mono _ _ _ _ _ _
   | exact dioramaref08_Moments.mono _ _ _ _ _ _ _
   | exact dioramaref08_Some.mono _ _
   | exact LeO.none _
   | refine LeO.ite ?_ ?_
   | refine LeO.bind ?_ (fun _ => ?_)
  ·intro y0 y1 y2 y3 y4 y5 y6 y7 y8 y9
   unfold dioramalaw08_CalendarLocal.l2
   repeat' first
   | (with_reducible exact ih0 _ _ _ _ _ _ _)
   | (with_reducible exact ih1 _ _ _ _ _ _ _ _)
   | (with_reducible exact ih2 _ _ _ _ _ _ _ _ _ _)
   | (with_reducible exact calendar_Local.mono _ _ _ _ _ _)
   | (with_reducible exact calendar_Moments.mono _ _ _ _ _ _ _)
   | (with_reducible exact dioramalaw08_lives.mono _)
   | (with_reducible exact dioramaref01_SameInts.mono _ _ _)
   | (with_reducible exact dioramaref08_Local.mono _ _ _ _ _ _)
   | (with_reducible exact dioramaref08_Moments.mono _ _ _ _ _ _ _)
   | (with_reducible exact dioramaref08_Some.mono _ _)
   | (with_reducible exact LeO.refl _)
   | (with_reducible exact LeO.none _)
   | (with_reducible refine LeO.ite ?_ ?_)
   | (with_reducible refine LeO.bind ?_ (fun _ => ?_))
   | exact ih0 _ _ _ _ _ _ _
   | exact ih1 _ _ _ _ _ _ _ _
   | exact ih2 _ _ _ _ _ _ _ _ _ _
   | exact calendar_Local.mono _ _ _ _ _ _
   | exact calendar_Moments.mono _ _ _ _ _ _ _
   | exact dioramalaw08_lives.mono _
   | exact dioramaref01_SameInts.mono _ _ _
   | exact dioramaref08_Local.mono _ _ _ _ _ _
   | exact dioramaref08_Moments.mono _ _ _ _ _ _ _
   | exact dioramaref08_Some.mono _ _
   | exact LeO.none _
   | refine LeO.ite ?_ ?_
   | refine LeO.bind ?_ (fun _ => ?_)
theorem dioramalaw08_CalendarLocal.mono : ∀ a0 a1 a2 a3 a4 a5 a6 a7 k, LeO (dioramalaw08_CalendarLocal.f k a0 a1 a2 a3 a4 a5 a6 a7) (dioramalaw08_CalendarLocal.f (k + 1) a0 a1 a2 a3 a4 a5 a6 a7) := by
 intro a0 a1 a2 a3 a4 a5 a6 a7 k
 obtain ⟨ih0, ih1, ih2⟩ := dioramalaw08_CalendarLocal.mono_l k
 unfold dioramalaw08_CalendarLocal.f
 repeat' first
   | (with_reducible exact ih0 _ _ _ _ _ _ _)
   | (with_reducible exact ih1 _ _ _ _ _ _ _ _)
   | (with_reducible exact ih2 _ _ _ _ _ _ _ _ _ _)
   | (with_reducible exact calendar_Local.mono _ _ _ _ _ _)
   | (with_reducible exact calendar_Moments.mono _ _ _ _ _ _ _)
   | (with_reducible exact dioramalaw08_lives.mono _)
   | (with_reducible exact dioramaref01_SameInts.mono _ _ _)
   | (with_reducible exact dioramaref08_Local.mono _ _ _ _ _ _)
   | (with_reducible exact dioramaref08_Moments.mono _ _ _ _ _ _ _)
   | (with_reducible exact dioramaref08_Some.mono _ _)
   | (with_reducible exact LeO.refl _)
   | (with_reducible exact LeO.none _)
   | (with_reducible refine LeO.ite ?_ ?_)
   | (with_reducible refine LeO.bind ?_ (fun _ => ?_))
   | exact ih0 _ _ _ _ _ _ _
   | exact ih1 _ _ _ _ _ _ _ _
   | exact ih2 _ _ _ _ _ _ _ _ _ _
   | exact calendar_Local.mono _ _ _ _ _ _
   | exact calendar_Moments.mono _ _ _ _ _ _ _
   | exact dioramalaw08_lives.mono _
   | exact dioramaref01_SameInts.mono _ _ _
   | exact dioramaref08_Local.mono _ _ _ _ _ _
   | exact dioramaref08_Moments.mono _ _ _ _ _ _ _
   | exact dioramaref08_Some.mono _ _
   | exact LeO.none _
   | refine LeO.ite ?_ ?_
   | refine LeO.bind ?_ (fun _ => ?_)
def dioramalaw08_CalendarLocal.T11 : Bool × List (List Nat × List Nat) := (true, [([], []), ([], []), ([0, 1], [0, 1]), ([2], [2]), ([], []), ([], []), ([4, 5], [4, 5]), ([6], [6]), ([3, 7], [3, 7]), ([8], [8]), ([9], [9]), ([9], [9]), ([9], [9]), ([10, 8, 0, 1, 2, 3, 4, 5, 6, 7, 8, 9, 10], [10]), ([11, 13, 0, 1, 2, 3, 4, 5, 6, 7, 8, 9, 10, 11, 13], [11]), ([12, 14, 0, 1, 2, 3, 4, 5, 6, 7, 8, 9, 10, 11, 12, 13, 14], [12])])
def dioramalaw08_CalendarLocal.B11 : List Nat := [0, 0, 3, 7, 0, 0, 48, 112, 255, 511, 1023, 1023, 1023, 2047, 12287, 32767]
theorem dioramalaw08_CalendarLocal.tab11 : rtab .any (opsOf Tryd.f5 11) = dioramalaw08_CalendarLocal.T11 := by kernel_rfl
theorem dioramalaw08_CalendarLocal.bits11 : waitsOk dioramalaw08_CalendarLocal.T11.2 dioramalaw08_CalendarLocal.B11 = true := by kernel_rfl
def dioramalaw08_CalendarLocal.T12 : Bool × List (List Nat × List Nat) := (true, [([], []), ([], []), ([0, 1], [0, 1]), ([2], [2]), ([], []), ([], []), ([4, 5], [4, 5]), ([6], [6]), ([7], [7]), ([3, 8, 8], [3, 8]), ([9], [9]), ([10], [10]), ([10], [10]), ([10], [10]), ([11, 9, 0, 1, 2, 3, 4, 5, 6, 7, 8, 9, 10, 11], [11]), ([12, 14, 0, 1, 2, 3, 4, 5, 6, 7, 8, 9, 10, 11, 12, 14], [12]), ([13, 15, 0, 1, 2, 3, 4, 5, 6, 7, 8, 9, 10, 11, 12, 13, 14, 15], [13])])
def dioramalaw08_CalendarLocal.B12 : List Nat := [0, 0, 3, 7, 0, 0, 48, 112, 240, 511, 1023, 2047, 2047, 2047, 4095, 24575, 65535]
theorem dioramalaw08_CalendarLocal.tab12 : rtab .any (opsOf Tryd.f5 12) = dioramalaw08_CalendarLocal.T12 := by kernel_rfl
theorem dioramalaw08_CalendarLocal.bits12 : waitsOk dioramalaw08_CalendarLocal.T12.2 dioramalaw08_CalendarLocal.B12 = true := by kernel_rfl
def dioramalaw08_CalendarLocal.T20 : Bool × List (List Nat × List Nat) := (true, [([], []), ([], []), ([0, 1], [0, 1]), ([2], [2]), ([], []), ([], []), ([4, 5], [4, 5]), ([6], [6]), ([], []), ([], []), ([8, 9], [8, 9]), ([10], [10]), ([3, 7, 11], [3, 7, 11]), ([12], [12]), ([13], [13]), ([13], [13]), ([14, 12, 0, 1, 2, 3, 4, 5, 6, 7, 8, 9, 10, 11, 12, 13, 14], [14]), ([15, 16, 0, 1, 2, 3, 4, 5, 6, 7, 8, 9, 10, 11, 12, 13, 14, 15, 16], [15])])
def dioramalaw08_CalendarLocal.B20 : List Nat := [0, 0, 3, 7, 0, 0, 48, 112, 0, 0, 768, 1792, 4095, 8191, 16383, 16383, 32767, 131071]
theorem dioramalaw08_CalendarLocal.tab20 : rtab .any (opsOf Tryd.f5 20) = dioramalaw08_CalendarLocal.T20 := by kernel_rfl
theorem dioramalaw08_CalendarLocal.bits20 : waitsOk dioramalaw08_CalendarLocal.T20.2 dioramalaw08_CalendarLocal.B20 = true := by kernel_rfl
def dioramalaw08_CalendarLocal.T21 : Bool × List (List Nat × List Nat) := (true, [([], []), ([], []), ([0, 1], [0, 1]), ([2], [2]), ([], []), ([], []), ([4, 5], [4, 5]), ([6], [6]), ([], []), ([], []), ([8, 9], [8, 9]), ([10], [10]), ([11], [11]), ([3, 7, 12, 12], [3, 7, 12]), ([13], [13]), ([14], [14]), ([14], [14]), ([15, 13, 0, 1, 2, 3, 4, 5, 6, 7, 8, 9, 10, 11, 12, 13, 14, 15], [15]), ([16, 17, 0, 1, 2, 3, 4, 5, 6, 7, 8, 9, 10, 11, 12, 13, 14, 15, 16, 17], [16])])
def dioramalaw08_CalendarLocal.B21 : List Nat := [0, 0, 3, 7, 0, 0, 48, 112, 0, 0, 768, 1792, 3840, 8191, 16383, 32767, 32767, 65535, 262143]
theorem dioramalaw08_CalendarLocal.tab21 : rtab .any (opsOf Tryd.f5 21) = dioramalaw08_CalendarLocal.T21 := by kernel_rfl
theorem dioramalaw08_CalendarLocal.bits21 : waitsOk dioramalaw08_CalendarLocal.T21.2 dioramalaw08_CalendarLocal.B21 = true := by kernel_rfl

end Go.Proofs.YtlfgjpidamkpdaaDoor.Pc
