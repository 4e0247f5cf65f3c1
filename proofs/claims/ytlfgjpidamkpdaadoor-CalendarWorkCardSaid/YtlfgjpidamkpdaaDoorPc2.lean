/- The contracts of the functions that the laws reach, each over a plain Lean function, written by wip/ownprint.py of this claim's session. -/
import Derived.Test.YtlfgjpidamkpdaaDoorPc0
import Derived.Test.YtlfgjpidamkpdaaDoorPc1
namespace Go.Proofs.YtlfgjpidamkpdaaDoor.Pc
open Go.RowKit Go.Proofs.YtlfgjpidamkpdaaDoorW.PrintWords Go.Proofs.YtlfgjpidamkpdaaDoorW.PrintLast Go.Proofs.YtlfgjpidamkpdaaDoorW.PrintMore
attribute [local go_sem] max2_int min2_int max_two min_two max_three min_three max_four min_four   -- for this text's walks alone
attribute [local go_sem high] binOp_leq_p
set_option linter.unusedVariables false
set_option linter.unusedSimpArgs false

/-! ### calendar_Civil: function 11 -/
mutual
def calendar_Civil.j1 : Nat → Int → Int → Option (Int × Int × Int)
  | 0, _, _ => none
  | k + 1, x0, x5 => (calendar_first.f x5).bind fun t122 => (calendar_Civil.l1 k x5 (wrap64 (x0 - t122)) 1)
def calendar_Civil.l1 : Nat → Int → Int → Int → Option (Int × Int × Int)
  | 0, _, _, _ => none
  | k + 1, x5, x6, x7 => (calendar_length.f x5 x7).bind fun t123 => (if x6 ≥ t123 then (calendar_Civil.l1 k x5 (wrap64 (x6 - t123)) (wrap64 (x7 + 1))) else (some (x5, x7, wrap64 (x6 + 1))))
def calendar_Civil.l0 : Nat → Int → Int → Option (Int × Int × Int)
  | 0, _, _ => none
  | k + 1, x0, x5 => if x5 < 2399 then ((calendar_first.f (wrap64 (x5 + 1))).bind fun t121 => (if t121 ≤ x0 then (calendar_Civil.l0 k x0 (wrap64 (x5 + 1))) else (calendar_Civil.j1 k x0 x5))) else (calendar_Civil.j1 k x0 x5)
end
def calendar_Civil.f (k : Nat) (a0 : Int) : Option (Int × Int × Int) := (calendar_known.f a0).bind fun t120 => (if t120 = true then (calendar_Civil.l0 k a0 (wrap64 (1600 + (wrap64 (Int.tdiv (wrap64 (a0 + 146097)) 366))))) else (some (0, 0, 0)))
theorem calendar_Civil.mono_l : ∀ k, (∀ y0 y1, LeO (calendar_Civil.j1 k y0 y1) (calendar_Civil.j1 (k + 1) y0 y1)) ∧ (∀ y0 y1 y2, LeO (calendar_Civil.l1 k y0 y1 y2) (calendar_Civil.l1 (k + 1) y0 y1 y2)) ∧ (∀ y0 y1, LeO (calendar_Civil.l0 k y0 y1) (calendar_Civil.l0 (k + 1) y0 y1))
  | 0 => ⟨fun _ _ r h => by simp [calendar_Civil.j1] at h, fun _ _ _ r h => by simp [calendar_Civil.l1] at h, fun _ _ r h => by simp [calendar_Civil.l0] at h⟩
  | k + 1 => by
    obtain ⟨ih0, ih1, ih2⟩ := calendar_Civil.mono_l k
    refine ⟨?_, ?_, ?_⟩
    · intro y0 y1
      unfold calendar_Civil.j1
      repeat' first
      | (with_reducible exact ih0 _ _)
      | (with_reducible exact ih1 _ _ _)
      | (with_reducible exact ih2 _ _)
      | (with_reducible exact LeO.refl _)
      | (with_reducible exact LeO.none _)
      | (with_reducible refine LeO.ite ?_ ?_)
      | (with_reducible refine LeO.bind ?_ (fun _ => ?_))
      | exact ih0 _ _
      | exact ih1 _ _ _
      | exact ih2 _ _
      | exact LeO.none _
      | refine LeO.ite ?_ ?_
      | refine LeO.bind ?_ (fun _ => ?_)
    · intro y0 y1 y2
      unfold calendar_Civil.l1
      repeat' first
      | (with_reducible exact ih0 _ _)
      | (with_reducible exact ih1 _ _ _)
      | (with_reducible exact ih2 _ _)
      | (with_reducible exact LeO.refl _)
      | (with_reducible exact LeO.none _)
      | (with_reducible refine LeO.ite ?_ ?_)
      | (with_reducible refine LeO.bind ?_ (fun _ => ?_))
      | exact ih0 _ _
      | exact ih1 _ _ _
      | exact ih2 _ _
      | exact LeO.none _
      | refine LeO.ite ?_ ?_
      | refine LeO.bind ?_ (fun _ => ?_)
    · intro y0 y1
      unfold calendar_Civil.l0
      repeat' first
      | (with_reducible exact ih0 _ _)
      | (with_reducible exact ih1 _ _ _)
      | (with_reducible exact ih2 _ _)
      | (with_reducible exact LeO.refl _)
      | (with_reducible exact LeO.none _)
      | (with_reducible refine LeO.ite ?_ ?_)
      | (with_reducible refine LeO.bind ?_ (fun _ => ?_))
      | exact ih0 _ _
      | exact ih1 _ _ _
      | exact ih2 _ _
      | exact LeO.none _
      | refine LeO.ite ?_ ?_
      | refine LeO.bind ?_ (fun _ => ?_)
theorem calendar_Civil.mono : ∀ a0 k, LeO (calendar_Civil.f k a0) (calendar_Civil.f (k + 1) a0) := by
  intro a0 k
  obtain ⟨ih0, ih1, ih2⟩ := calendar_Civil.mono_l k
  unfold calendar_Civil.f
  repeat' first
      | (with_reducible exact ih0 _ _)
      | (with_reducible exact ih1 _ _ _)
      | (with_reducible exact ih2 _ _)
      | (with_reducible exact LeO.refl _)
      | (with_reducible exact LeO.none _)
      | (with_reducible refine LeO.ite ?_ ?_)
      | (with_reducible refine LeO.bind ?_ (fun _ => ?_))
      | exact ih0 _ _
      | exact ih1 _ _ _
      | exact ih2 _ _
      | exact LeO.none _
      | refine LeO.ite ?_ ?_
      | refine LeO.bind ?_ (fun _ => ?_)
set_option maxHeartbeats 8000000 in
set_option maxRecDepth 100000 in
theorem calendar_Civil.calls (k : Nat) (a0 : Int) (r1 : Int) (r2 : Int) (r3 : Int) (w : World) (h : calendar_Civil.f k a0 = some (r1, r2, r3)) :
    Calls Tryd.prog 11 #[.int .i64 a0] w fun e w' => e = .returned (.tuple #[.int .i64 r1, .int .i64 r2, .int .i64 r3]) ∧ Below w.heap.size w w' := by
  have HB := Aside0.mk (Below.refl w.heap.size w)
  have H : ((calendar_known.f a0).bind fun t120 => (if t120 = true then (calendar_Civil.l0 k a0 (wrap64 (1600 + (wrap64 (Int.tdiv (wrap64 (a0 + 146097)) 366))))) else (some (0, 0, 0)))) = some (r1, r2, r3) := h
  clear h
  replace H := Option.bind_eq_some_iff.mp H
  obtain ⟨t120, A20, H⟩ := H
  replace H : (if t120 = true then (calendar_Civil.l0 k a0 (wrap64 (1600 + (wrap64 (Int.tdiv (wrap64 (a0 + 146097)) 366))))) else (some (0, 0, 0))) = some (r1, r2, r3) := H
  have A2 := Aside0.mk A20
  clear A20
  by_cases c3 : t120 = true
  · subst c3
    have H1 : (calendar_Civil.l0 k a0 (wrap64 (1600 + (wrap64 (Int.tdiv (wrap64 (a0 + 146097)) 366))))) = some (r1, r2, r3) := by rw [if_pos rfl] at H; exact H
    clear H
    have H := H1
    clear H1
    have HC4 := Aside0.mk H
    clear H
    go_enter Tryd.func11, Tryd.ntmps11
    go_upto_block 0 with (first | ((with_reducible refine gate_callee (f := 36) rfl ?_); refine goesL_ (some 10) rfl rfl Tryd.func36 (by kernel_rfl) rfl #[.int .i64 a0] rfl (by (try simp only [List.map_toArray, List.map_cons, List.map_nil]); first | done | rfl | (simp only [List.length_drop, List.length_take]; rfl)) ?_; (with_reducible refine (calendar_known.calls a0 true _ A2.out).mono ?_); rintro e w' ⟨rfl, ⟨nd, rfl⟩⟩; refine ⟨_, rfl, ?_⟩))
    (try simp only [Act.put, List.setIfInBounds_toArray, List.set_cons_zero, List.set_cons_succ])
    go_cut [5] (fun v5 wc => ∃ (kq : Nat) (x5_3 : Int), v5 = .int .i64 x5_3 ∧ Aside0 (calendar_Civil.j1 kq a0 x5_3 = some (r1, r2, r3)) ∧ Aside0 (kq ≤ k) ∧ Aside0 (Below w.heap.size w wc))
    case first =>
      have H := HC4.out
      clear HC4
      have H' := Aside0.mk H
      clear H
      go_wp2
      go_loopg [5] k (fun kq v5 w' => ∃ (x5_1 : Int), v5 = .int .i64 x5_1 ∧ Aside0 (calendar_Civil.l0 kq a0 x5_1 = some (r1, r2, r3)) ∧ Aside0 (kq ≤ k) ∧ Aside0 (Below w.heap.size w w'))
      case atStart => exact ⟨(wrap64 (1600 + (wrap64 (Int.tdiv (wrap64 (a0 + 146097)) 366)))), (by first | rfl | (simp; done) | (simp [*]; done)), H', ⟨Nat.le_refl _⟩, ⟨by repeat (first | (with_reducible first | exact HB.out | apply below_alloc | apply pw_below_drewN | apply below_drew1) | exact HB.out)⟩⟩
      case round =>
        clear H'
        try clear c1
        try clear p2
        try clear c3
        obtain ⟨x5_1, rfl, HA, HK1, HB⟩ := hrel
        cases gk with
        | zero => exact absurd HA.out (by simp [calendar_Civil.l0])
        | succ k1 =>
          have H := HA.out
          clear HA
          simp only [calendar_Civil.l0] at H
          by_cases c5 : x5_1 < 2399
          · rw [if_pos c5] at H
            have c5b0 : decide (x5_1 < 2399) = true := decide_eq_true c5
            clear c5
            (first | rw [c5b0] | (simp only [i64_w, i32_w]; rw [c5b0]) | skip)
            replace H := Option.bind_eq_some_iff.mp H
            obtain ⟨t121, A60, H⟩ := H
            replace H : (if t121 ≤ a0 then (calendar_Civil.l0 k1 a0 (wrap64 (x5_1 + 1))) else (calendar_Civil.j1 k1 a0 x5_1)) = some (r1, r2, r3) := H
            have A6 := Aside0.mk A60
            clear A60
            by_cases c7 : t121 ≤ a0
            · rw [if_pos c7] at H
              have c7b0 : decide (t121 ≤ a0) = true := decide_eq_true c7
              clear c7
              have H' := Aside0.mk H
              clear H
              go_wp2_with (first | (go_at_call 37; (with_reducible refine (calendar_first.calls (wrap64 (x5_1 + 1)) t121 _ A6.out).mono ?_); rintro e w8 ⟨rfl, hb⟩; have n0_ := Aside0.mk (below_step (by repeat (first | (with_reducible first | exact HB.out | apply below_alloc | apply pw_below_drewN | apply below_drew1) | exact HB.out)) hb); clear HB; have HB := n0_; clear n0_; (try clear hb); (try clear hb2); (try clear hk); (try clear hi)))
              go_roundg k1
              case measure => have := HK1.out; omega
              case rel => exact ⟨(wrap64 (x5_1 + 1)), (by first | rfl | (simp; done) | (simp [*]; done)), H', ⟨by have := HK1.out; omega⟩, ⟨by repeat (first | (with_reducible first | exact HB.out | apply below_alloc | apply pw_below_drewN | apply below_drew1) | exact HB.out)⟩⟩
            · rw [if_neg c7] at H
              have c7b0 : decide (t121 ≤ a0) = false := decide_eq_false c7
              clear c7
              have H' := Aside0.mk H
              clear H
              go_wp2_with (first | (go_at_call 37; (with_reducible refine (calendar_first.calls (wrap64 (x5_1 + 1)) t121 _ A6.out).mono ?_); rintro e w9 ⟨rfl, hb⟩; have n0_ := Aside0.mk (below_step (by repeat (first | (with_reducible first | exact HB.out | apply below_alloc | apply pw_below_drewN | apply below_drew1) | exact HB.out)) hb); clear HB; have HB := n0_; clear n0_; (try clear hb); (try clear hb2); (try clear hk); (try clear hi)))
              go_meet
              case rel => exact ⟨_, (x5_1), (by first | rfl | (simp; done) | (simp [*]; done)), H', ⟨by have := HK1.out; first | omega | exact Nat.le_refl _⟩, ⟨by repeat (first | (with_reducible first | exact HB.out | apply below_alloc | apply pw_below_drewN | apply below_drew1) | exact HB.out)⟩⟩
          · rw [if_neg c5] at H
            have c5b0 : decide (x5_1 < 2399) = false := decide_eq_false c5
            clear c5
            (first | rw [c5b0] | (simp only [i64_w, i32_w]; rw [c5b0]) | skip)
            have H' := Aside0.mk H
            clear H
            go_wp2
            go_meet
            case rel => exact ⟨_, (x5_1), (by first | rfl | (simp; done) | (simp [*]; done)), H', ⟨by have := HK1.out; first | omega | exact Nat.le_refl _⟩, ⟨by repeat (first | (with_reducible first | exact HB.out | apply below_alloc | apply pw_below_drewN | apply below_drew1) | exact HB.out)⟩⟩
    case rest =>
      clear HC4
      try clear c1
      try clear p2
      try clear c3
      try clear c5
      try clear c5b0
      try clear p6
      try clear c7
      try clear c7b0
      try clear p2
      obtain ⟨kq, x5_3, rfl, HA, HJ3, HB⟩ := hcut
      cases kq with
      | zero => exact absurd HA.out (by simp [calendar_Civil.j1])
      | succ kj3 =>
        have H := HA.out
        clear HA
        simp only [calendar_Civil.j1] at H
        replace H := Option.bind_eq_some_iff.mp H
        obtain ⟨t122, A100, H⟩ := H
        replace H : (calendar_Civil.l1 kj3 x5_3 (wrap64 (a0 - t122)) 1) = some (r1, r2, r3) := H
        have A10 := Aside0.mk A100
        clear A100
        have H' := Aside0.mk H
        clear H
        go_wp2_with (first | ((with_reducible refine gate_callee (f := 37) rfl ?_); refine goesL_ (some 29) rfl rfl Tryd.func37 (by kernel_rfl) rfl #[.int .i64 x5_3] rfl (by (try simp only [List.map_toArray, List.map_cons, List.map_nil]); first | done | rfl | (simp only [List.length_drop, List.length_take]; rfl)) ?_; (with_reducible refine (calendar_first.calls x5_3 t122 _ A10.out).mono ?_); rintro e w11 ⟨rfl, hb⟩; refine ⟨_, rfl, ?_⟩; have n0_ := Aside0.mk (below_step (by repeat (first | (with_reducible first | exact HB.out | apply below_alloc | apply pw_below_drewN | apply below_drew1) | exact HB.out)) hb); clear HB; have HB := n0_; clear n0_; (try clear hb); (try clear hb2); (try clear hk); (try clear hi)))
        go_loopg [6, 7] kj3 (fun kq v6 v7 w' => ∃ (x6_2 : Int) (x7_2 : Int), v6 = .int .i64 x6_2 ∧ v7 = .int .i64 x7_2 ∧ Aside0 (calendar_Civil.l1 kq x5_3 x6_2 x7_2 = some (r1, r2, r3)) ∧ Aside0 (kq ≤ kj3) ∧ Aside0 (Below w.heap.size w w'))
        case atStart => exact ⟨(wrap64 (a0 - t122)), (1), (by first | rfl | (simp; done) | (simp [*]; done)), (by first | rfl | (simp; done) | (simp [*]; done)), H', ⟨Nat.le_refl _⟩, ⟨by repeat (first | (with_reducible first | exact HB.out | apply below_alloc | apply pw_below_drewN | apply below_drew1) | exact HB.out)⟩⟩
        case round =>
          clear H'
          try clear c1
          try clear p2
          try clear c3
          try clear c5
          try clear c5b0
          try clear p6
          try clear c7
          try clear c7b0
          try clear c11
          try clear p2
          try clear p6
          obtain ⟨x6_2, x7_2, rfl, rfl, HA, HK2, HB⟩ := hrel
          cases gk with
          | zero => exact absurd HA.out (by simp [calendar_Civil.l1])
          | succ k2 =>
            have H := HA.out
            clear HA
            simp only [calendar_Civil.l1] at H
            replace H := Option.bind_eq_some_iff.mp H
            obtain ⟨t123, A120, H⟩ := H
            replace H : (if x6_2 ≥ t123 then (calendar_Civil.l1 k2 x5_3 (wrap64 (x6_2 - t123)) (wrap64 (x7_2 + 1))) else (some (x5_3, x7_2, wrap64 (x6_2 + 1)))) = some (r1, r2, r3) := H
            have A12 := Aside0.mk A120
            clear A120
            by_cases c13 : x6_2 ≥ t123
            · rw [if_pos c13] at H
              have c13b0 : decide (t123 ≤ x6_2) = true := decide_eq_true c13
              clear c13
              have H' := Aside0.mk H
              clear H
              go_wp2_with (first | ((with_reducible refine gate_callee (f := 38) rfl ?_); refine goesL_ (some 35) rfl rfl Tryd.func38 (by kernel_rfl) rfl #[.int .i64 x5_3, .int .i64 x7_2] rfl (by (try simp only [List.map_toArray, List.map_cons, List.map_nil]); first | done | rfl | (simp only [List.length_drop, List.length_take]; rfl)) ?_; (with_reducible refine (calendar_length.calls x5_3 x7_2 t123 _ A12.out).mono ?_); rintro e w14 ⟨rfl, hb⟩; refine ⟨_, rfl, ?_⟩; have n0_ := Aside0.mk (below_step (by repeat (first | (with_reducible first | exact HB.out | apply below_alloc | apply pw_below_drewN | apply below_drew1) | exact HB.out)) hb); clear HB; have HB := n0_; clear n0_; (try clear hb); (try clear hb2); (try clear hk); (try clear hi)))
              go_roundg k2
              case measure => have := HJ3.out; have := HK2.out; omega
              case rel => exact ⟨(wrap64 (x6_2 - t123)), (wrap64 (x7_2 + 1)), (by first | rfl | (simp; done) | (simp [*]; done)), (by first | rfl | (simp; done) | (simp [*]; done)), H', ⟨by have := HJ3.out; have := HK2.out; omega⟩, ⟨by repeat (first | (with_reducible first | exact HB.out | apply below_alloc | apply pw_below_drewN | apply below_drew1) | exact HB.out)⟩⟩
            · rw [if_neg c13] at H
              have c13b0 : decide (t123 ≤ x6_2) = false := decide_eq_false c13
              clear c13
              simp only [Option.some.injEq, Prod.mk.injEq] at H
              obtain ⟨rfl, rfl, rfl⟩ := H
              go_wp2_with (first | ((with_reducible refine gate_callee (f := 38) rfl ?_); refine goesL_ (some 35) rfl rfl Tryd.func38 (by kernel_rfl) rfl #[.int .i64 x5_3, .int .i64 x7_2] rfl (by (try simp only [List.map_toArray, List.map_cons, List.map_nil]); first | done | rfl | (simp only [List.length_drop, List.length_take]; rfl)) ?_; (with_reducible refine (calendar_length.calls x5_3 x7_2 t123 _ A12.out).mono ?_); rintro e w15 ⟨rfl, hb⟩; refine ⟨_, rfl, ?_⟩; have n0_ := Aside0.mk (below_step (by repeat (first | (with_reducible first | exact HB.out | apply below_alloc | apply pw_below_drewN | apply below_drew1) | exact HB.out)) hb); clear HB; have HB := n0_; clear n0_; (try clear hb); (try clear hb2); (try clear hk); (try clear hi)))
              go_ret3
              exact ⟨by first | rfl | (simp [errW_none, errW_some] <;> rfl) | (simp [*, errW_none, errW_some] <;> rfl), by repeat (first | (with_reducible first | exact HB.out | apply below_alloc | apply pw_below_drewN | apply below_drew1) | exact HB.out)⟩
  · replace c3 := Bool.eq_false_iff.mpr c3
    subst c3
    have H1 : (some (0, 0, 0)) = some (r1, r2, r3) := by rw [if_neg (show ¬ (false = true) by decide)] at H; exact H
    clear H
    have H := H1
    clear H1
    simp only [Option.some.injEq, Prod.mk.injEq] at H
    obtain ⟨rfl, rfl, rfl⟩ := H
    go_enter Tryd.func11, Tryd.ntmps11
    go_wp2_with (first | ((with_reducible refine gate_callee (f := 36) rfl ?_); refine goesL_ (some 10) rfl rfl Tryd.func36 (by kernel_rfl) rfl #[.int .i64 a0] rfl (by (try simp only [List.map_toArray, List.map_cons, List.map_nil]); first | done | rfl | (simp only [List.length_drop, List.length_take]; rfl)) ?_; (with_reducible refine (calendar_known.calls a0 false _ A2.out).mono ?_); rintro e w' ⟨rfl, ⟨nd, rfl⟩⟩; refine ⟨_, rfl, ?_⟩))
    go_ret3
    exact ⟨by first | rfl | (simp [errW_none, errW_some] <;> rfl) | (simp [*, errW_none, errW_some] <;> rfl), by repeat (first | (with_reducible first | exact HB.out | apply below_alloc | apply pw_below_drewN | apply below_drew1) | exact HB.out)⟩

/-! ### dioramaref08_Known: function 39 -/
def dioramaref08_Known.f (a0 : Int) : Option (Bool) := if a0 ≥ (-146097) then (some (decide (a0 ≤ 146096))) else (some false)
set_option maxHeartbeats 8000000 in
set_option maxRecDepth 100000 in
theorem dioramaref08_Known.calls (a0 : Int) (r : Bool) (w : World) (h : dioramaref08_Known.f a0 = some r) :
    Calls Tryd.prog 39 #[.int .i64 a0] w fun e w' => e = .returned (.bool r) ∧ Drawn0 w w' := by
  have H : (if a0 ≥ (-146097) then (some (decide (a0 ≤ 146096))) else (some false)) = some r := h
  clear h
  by_cases c2 : a0 ≥ (-146097)
  · rw [if_pos c2] at H
    have c2b0 : decide ((-146097) ≤ a0) = true := decide_eq_true c2
    clear c2
    obtain rfl := Option.some.inj H
    go_enter Tryd.func39, Tryd.ntmps39
    go_wp2
    go_ret
    exact ⟨by first | rfl | (simp; done) | (simp [*]; done), by repeat (first | exact Drawn0.refl _ | apply Drawn0.step)⟩
  · rw [if_neg c2] at H
    have c2b0 : decide ((-146097) ≤ a0) = false := decide_eq_false c2
    clear c2
    obtain rfl := Option.some.inj H
    go_enter Tryd.func39, Tryd.ntmps39
    go_wp2
    go_ret
    exact ⟨by first | rfl | (simp; done) | (simp [*]; done), by repeat (first | exact Drawn0.refl _ | apply Drawn0.step)⟩

/-! ### dioramaref08_Civil: function 12 -/
mutual
def dioramaref08_Civil.l0 : Nat → Int → Int → Option (Int × Int × Int)
  | 0, _, _ => none
  | k + 1, x5, x6 => (dioramaref08_YearDays.f x6).bind fun t125 => (if x5 ≥ t125 then ((dioramaref08_YearDays.f x6).bind fun t126 => (dioramaref08_Civil.l0 k (wrap64 (x5 - t126)) (wrap64 (x6 + 1)))) else (dioramaref08_Civil.l1 k x5 x6 1))
def dioramaref08_Civil.l1 : Nat → Int → Int → Int → Option (Int × Int × Int)
  | 0, _, _, _ => none
  | k + 1, x5, x6, x7 => (dioramaref08_MonthDays.f x6 x7).bind fun t127 => (if x5 ≥ t127 then ((dioramaref08_MonthDays.f x6 x7).bind fun t128 => (dioramaref08_Civil.l1 k (wrap64 (x5 - t128)) x6 (wrap64 (x7 + 1)))) else (some (x6, x7, wrap64 (x5 + 1))))
end
def dioramaref08_Civil.f (k : Nat) (a0 : Int) : Option (Int × Int × Int) := (dioramaref08_Known.f a0).bind fun t124 => (if t124 = true then (dioramaref08_Civil.l0 k (wrap64 (a0 + 146097)) 1600) else (some (0, 0, 0)))
theorem dioramaref08_Civil.mono_l : ∀ k, (∀ y0 y1, LeO (dioramaref08_Civil.l0 k y0 y1) (dioramaref08_Civil.l0 (k + 1) y0 y1)) ∧ (∀ y0 y1 y2, LeO (dioramaref08_Civil.l1 k y0 y1 y2) (dioramaref08_Civil.l1 (k + 1) y0 y1 y2))
  | 0 => ⟨fun _ _ r h => by simp [dioramaref08_Civil.l0] at h, fun _ _ _ r h => by simp [dioramaref08_Civil.l1] at h⟩
  | k + 1 => by
    obtain ⟨ih0, ih1⟩ := dioramaref08_Civil.mono_l k
    refine ⟨?_, ?_⟩
    · intro y0 y1
      unfold dioramaref08_Civil.l0
      repeat' first
      | (with_reducible exact ih0 _ _)
      | (with_reducible exact ih1 _ _ _)
      | (with_reducible exact LeO.refl _)
      | (with_reducible exact LeO.none _)
      | (with_reducible refine LeO.ite ?_ ?_)
      | (with_reducible refine LeO.bind ?_ (fun _ => ?_))
      | exact ih0 _ _
      | exact ih1 _ _ _
      | exact LeO.none _
      | refine LeO.ite ?_ ?_
      | refine LeO.bind ?_ (fun _ => ?_)
    · intro y0 y1 y2
      unfold dioramaref08_Civil.l1
      repeat' first
      | (with_reducible exact ih0 _ _)
      | (with_reducible exact ih1 _ _ _)
      | (with_reducible exact LeO.refl _)
      | (with_reducible exact LeO.none _)
      | (with_reducible refine LeO.ite ?_ ?_)
      | (with_reducible refine LeO.bind ?_ (fun _ => ?_))
      | exact ih0 _ _
      | exact ih1 _ _ _
      | exact LeO.none _
      | refine LeO.ite ?_ ?_
      | refine LeO.bind ?_ (fun _ => ?_)
theorem dioramaref08_Civil.mono : ∀ a0 k, LeO (dioramaref08_Civil.f k a0) (dioramaref08_Civil.f (k + 1) a0) := by
  intro a0 k
  obtain ⟨ih0, ih1⟩ := dioramaref08_Civil.mono_l k
  unfold dioramaref08_Civil.f
  repeat' first
      | (with_reducible exact ih0 _ _)
      | (with_reducible exact ih1 _ _ _)
      | (with_reducible exact LeO.refl _)
      | (with_reducible exact LeO.none _)
      | (with_reducible refine LeO.ite ?_ ?_)
      | (with_reducible refine LeO.bind ?_ (fun _ => ?_))
      | exact ih0 _ _
      | exact ih1 _ _ _
      | exact LeO.none _
      | refine LeO.ite ?_ ?_
      | refine LeO.bind ?_ (fun _ => ?_)
set_option maxHeartbeats 8000000 in
set_option maxRecDepth 100000 in
theorem dioramaref08_Civil.calls (k : Nat) (a0 : Int) (r1 : Int) (r2 : Int) (r3 : Int) (w : World) (h : dioramaref08_Civil.f k a0 = some (r1, r2, r3)) :
    Calls Tryd.prog 12 #[.int .i64 a0] w fun e w' => e = .returned (.tuple #[.int .i64 r1, .int .i64 r2, .int .i64 r3]) ∧ Drawn0 w w' := by
  have H : ((dioramaref08_Known.f a0).bind fun t124 => (if t124 = true then (dioramaref08_Civil.l0 k (wrap64 (a0 + 146097)) 1600) else (some (0, 0, 0)))) = some (r1, r2, r3) := h
  clear h
  replace H := Option.bind_eq_some_iff.mp H
  obtain ⟨t124, A20, H⟩ := H
  replace H : (if t124 = true then (dioramaref08_Civil.l0 k (wrap64 (a0 + 146097)) 1600) else (some (0, 0, 0))) = some (r1, r2, r3) := H
  have A2 := Aside0.mk A20
  clear A20
  by_cases c3 : t124 = true
  · subst c3
    have H1 : (dioramaref08_Civil.l0 k (wrap64 (a0 + 146097)) 1600) = some (r1, r2, r3) := by rw [if_pos rfl] at H; exact H
    clear H
    have H := H1
    clear H1
    have H' := Aside0.mk H
    clear H
    go_enter Tryd.func12, Tryd.ntmps12
    go_wp2_with (first | ((with_reducible refine gate_callee (f := 39) rfl ?_); refine goesL_ (some 9) rfl rfl Tryd.func39 (by kernel_rfl) rfl #[.int .i64 a0] rfl (by (try simp only [List.map_toArray, List.map_cons, List.map_nil]); first | done | rfl | (simp only [List.length_drop, List.length_take]; rfl)) ?_; (with_reducible refine (dioramaref08_Known.calls a0 true _ A2.out).mono ?_); rintro e w' ⟨rfl, ⟨nd, rfl⟩⟩; refine ⟨_, rfl, ?_⟩))
    go_loopg [5, 6] k (fun kq v5 v6 w' => ∃ (x5_1 : Int) (x6_1 : Int), v5 = .int .i64 x5_1 ∧ v6 = .int .i64 x6_1 ∧ Aside0 (dioramaref08_Civil.l0 kq x5_1 x6_1 = some (r1, r2, r3)) ∧ Aside0 (kq ≤ k) ∧ Drawn0 w w')
    case atStart => exact ⟨(wrap64 (a0 + 146097)), (1600), (by first | rfl | (simp; done) | (simp [*]; done)), (by first | rfl | (simp; done) | (simp [*]; done)), H', ⟨Nat.le_refl _⟩, by repeat (first | exact Drawn0.refl _ | apply Drawn0.step)⟩
    case round =>
      clear H'
      try clear c1
      try clear p2
      try clear c3
      obtain ⟨x5_1, x6_1, rfl, rfl, HA, HK1, ⟨m1, rfl⟩⟩ := hrel
      cases gk with
      | zero => exact absurd HA.out (by simp [dioramaref08_Civil.l0])
      | succ k1 =>
        have H := HA.out
        clear HA
        simp only [dioramaref08_Civil.l0] at H
        replace H := Option.bind_eq_some_iff.mp H
        obtain ⟨t125, A40, H⟩ := H
        replace H : (if x5_1 ≥ t125 then ((dioramaref08_YearDays.f x6_1).bind fun t126 => (dioramaref08_Civil.l0 k1 (wrap64 (x5_1 - t126)) (wrap64 (x6_1 + 1)))) else (dioramaref08_Civil.l1 k1 x5_1 x6_1 1)) = some (r1, r2, r3) := H
        have A4 := Aside0.mk A40
        clear A40
        by_cases c5 : x5_1 ≥ t125
        · rw [if_pos c5] at H
          have c5b0 : decide (t125 ≤ x5_1) = true := decide_eq_true c5
          clear c5
          replace H := Option.bind_eq_some_iff.mp H
          obtain ⟨t126, A60, H⟩ := H
          replace H : (dioramaref08_Civil.l0 k1 (wrap64 (x5_1 - t126)) (wrap64 (x6_1 + 1))) = some (r1, r2, r3) := H
          have A6 := Aside0.mk A60
          clear A60
          have H' := Aside0.mk H
          clear H
          go_wp2_with (first | ((with_reducible refine gate_callee (f := 40) rfl ?_); refine goesL_ (some 15) rfl rfl Tryd.func40 (by kernel_rfl) rfl #[.int .i64 x6_1] rfl (by (try simp only [List.map_toArray, List.map_cons, List.map_nil]); first | done | rfl | (simp only [List.length_drop, List.length_take]; rfl)) ?_; (with_reducible refine (dioramaref08_YearDays.calls x6_1 t125 _ A4.out).mono ?_); rintro e w' ⟨rfl, ⟨nd, rfl⟩⟩; refine ⟨_, rfl, ?_⟩) | ((with_reducible refine gate_callee (f := 40) rfl ?_); refine goesL_ (some 19) rfl rfl Tryd.func40 (by kernel_rfl) rfl #[.int .i64 x6_1] rfl (by (try simp only [List.map_toArray, List.map_cons, List.map_nil]); first | done | rfl | (simp only [List.length_drop, List.length_take]; rfl)) ?_; (with_reducible refine (dioramaref08_YearDays.calls x6_1 t126 _ A6.out).mono ?_); rintro e w' ⟨rfl, ⟨nd, rfl⟩⟩; refine ⟨_, rfl, ?_⟩))
          go_roundg k1
          case measure => have := HK1.out; omega
          case rel => exact ⟨(wrap64 (x5_1 - t126)), (wrap64 (x6_1 + 1)), (by first | rfl | (simp; done) | (simp [*]; done)), (by first | rfl | (simp; done) | (simp [*]; done)), H', ⟨by have := HK1.out; omega⟩, by repeat (first | exact Drawn0.refl _ | apply Drawn0.step)⟩
        · rw [if_neg c5] at H
          have c5b0 : decide (t125 ≤ x5_1) = false := decide_eq_false c5
          clear c5
          have H' := Aside0.mk H
          clear H
          go_wp2_with (first | ((with_reducible refine gate_callee (f := 40) rfl ?_); refine goesL_ (some 15) rfl rfl Tryd.func40 (by kernel_rfl) rfl #[.int .i64 x6_1] rfl (by (try simp only [List.map_toArray, List.map_cons, List.map_nil]); first | done | rfl | (simp only [List.length_drop, List.length_take]; rfl)) ?_; (with_reducible refine (dioramaref08_YearDays.calls x6_1 t125 _ A4.out).mono ?_); rintro e w' ⟨rfl, ⟨nd, rfl⟩⟩; refine ⟨_, rfl, ?_⟩))
          go_loopg [5, 7] k1 (fun kq v5 v7 w' => ∃ (x5_2 : Int) (x7_2 : Int), v5 = .int .i64 x5_2 ∧ v7 = .int .i64 x7_2 ∧ Aside0 (dioramaref08_Civil.l1 kq x5_2 x6_1 x7_2 = some (r1, r2, r3)) ∧ Aside0 (kq ≤ k1) ∧ Drawn0 w w')
          case atStart => exact ⟨(x5_1), (1), (by first | rfl | (simp; done) | (simp [*]; done)), (by first | rfl | (simp; done) | (simp [*]; done)), H', ⟨Nat.le_refl _⟩, by repeat (first | exact Drawn0.refl _ | apply Drawn0.step)⟩
          case round =>
            clear H'
            try clear c1
            try clear p2
            try clear c3
            try clear c4
            try clear c5
            try clear c5b0
            try clear p6
            try clear p2
            obtain ⟨x5_2, x7_2, rfl, rfl, HA, HK2, ⟨m2, rfl⟩⟩ := hrel
            cases gk with
            | zero => exact absurd HA.out (by simp [dioramaref08_Civil.l1])
            | succ k2 =>
              have H := HA.out
              clear HA
              simp only [dioramaref08_Civil.l1] at H
              replace H := Option.bind_eq_some_iff.mp H
              obtain ⟨t127, A70, H⟩ := H
              replace H : (if x5_2 ≥ t127 then ((dioramaref08_MonthDays.f x6_1 x7_2).bind fun t128 => (dioramaref08_Civil.l1 k2 (wrap64 (x5_2 - t128)) x6_1 (wrap64 (x7_2 + 1)))) else (some (x6_1, x7_2, wrap64 (x5_2 + 1)))) = some (r1, r2, r3) := H
              have A7 := Aside0.mk A70
              clear A70
              by_cases c8 : x5_2 ≥ t127
              · rw [if_pos c8] at H
                have c8b0 : decide (t127 ≤ x5_2) = true := decide_eq_true c8
                clear c8
                replace H := Option.bind_eq_some_iff.mp H
                obtain ⟨t128, A90, H⟩ := H
                replace H : (dioramaref08_Civil.l1 k2 (wrap64 (x5_2 - t128)) x6_1 (wrap64 (x7_2 + 1))) = some (r1, r2, r3) := H
                have A9 := Aside0.mk A90
                clear A90
                have H' := Aside0.mk H
                clear H
                go_wp2_with (first | ((with_reducible refine gate_callee (f := 41) rfl ?_); refine goesL_ (some 26) rfl rfl Tryd.func41 (by kernel_rfl) rfl #[.int .i64 x6_1, .int .i64 x7_2] rfl (by (try simp only [List.map_toArray, List.map_cons, List.map_nil]); first | done | rfl | (simp only [List.length_drop, List.length_take]; rfl)) ?_; (with_reducible refine (dioramaref08_MonthDays.calls x6_1 x7_2 t127 _ A7.out).mono ?_); rintro e w' ⟨rfl, ⟨nd, rfl⟩⟩; refine ⟨_, rfl, ?_⟩) | ((with_reducible refine gate_callee (f := 41) rfl ?_); refine goesL_ (some 31) rfl rfl Tryd.func41 (by kernel_rfl) rfl #[.int .i64 x6_1, .int .i64 x7_2] rfl (by (try simp only [List.map_toArray, List.map_cons, List.map_nil]); first | done | rfl | (simp only [List.length_drop, List.length_take]; rfl)) ?_; (with_reducible refine (dioramaref08_MonthDays.calls x6_1 x7_2 t128 _ A9.out).mono ?_); rintro e w' ⟨rfl, ⟨nd, rfl⟩⟩; refine ⟨_, rfl, ?_⟩))
                go_roundg k2
                case measure => have := HK1.out; have := HK2.out; omega
                case rel => exact ⟨(wrap64 (x5_2 - t128)), (wrap64 (x7_2 + 1)), (by first | rfl | (simp; done) | (simp [*]; done)), (by first | rfl | (simp; done) | (simp [*]; done)), H', ⟨by have := HK1.out; have := HK2.out; omega⟩, by repeat (first | exact Drawn0.refl _ | apply Drawn0.step)⟩
              · rw [if_neg c8] at H
                have c8b0 : decide (t127 ≤ x5_2) = false := decide_eq_false c8
                clear c8
                simp only [Option.some.injEq, Prod.mk.injEq] at H
                obtain ⟨rfl, rfl, rfl⟩ := H
                go_wp2_with (first | ((with_reducible refine gate_callee (f := 41) rfl ?_); refine goesL_ (some 26) rfl rfl Tryd.func41 (by kernel_rfl) rfl #[.int .i64 x6_1, .int .i64 x7_2] rfl (by (try simp only [List.map_toArray, List.map_cons, List.map_nil]); first | done | rfl | (simp only [List.length_drop, List.length_take]; rfl)) ?_; (with_reducible refine (dioramaref08_MonthDays.calls x6_1 x7_2 t127 _ A7.out).mono ?_); rintro e w' ⟨rfl, ⟨nd, rfl⟩⟩; refine ⟨_, rfl, ?_⟩))
                go_ret3
                exact ⟨by first | rfl | (simp; done) | (simp [*]; done), by repeat (first | exact Drawn0.refl _ | apply Drawn0.step)⟩
  · replace c3 := Bool.eq_false_iff.mpr c3
    subst c3
    have H1 : (some (0, 0, 0)) = some (r1, r2, r3) := by rw [if_neg (show ¬ (false = true) by decide)] at H; exact H
    clear H
    have H := H1
    clear H1
    simp only [Option.some.injEq, Prod.mk.injEq] at H
    obtain ⟨rfl, rfl, rfl⟩ := H
    go_enter Tryd.func12, Tryd.ntmps12
    go_wp2_with (first | ((with_reducible refine gate_callee (f := 39) rfl ?_); refine goesL_ (some 9) rfl rfl Tryd.func39 (by kernel_rfl) rfl #[.int .i64 a0] rfl (by (try simp only [List.map_toArray, List.map_cons, List.map_nil]); first | done | rfl | (simp only [List.length_drop, List.length_take]; rfl)) ?_; (with_reducible refine (dioramaref08_Known.calls a0 false _ A2.out).mono ?_); rintro e w' ⟨rfl, ⟨nd, rfl⟩⟩; refine ⟨_, rfl, ?_⟩))
    go_ret3
    exact ⟨by first | rfl | (simp; done) | (simp [*]; done), by repeat (first | exact Drawn0.refl _ | apply Drawn0.step)⟩

/-! ### calendar_Weekday: function 13 -/
def calendar_Weekday.f (a0 : Int) : Option (Int) := (calendar_known.f a0).bind fun t129 => (if t129 = true then (some (Int.tmod (wrap64 ((wrap64 (a0 + 146097)) + 5)) 7)) else (some 0))
set_option maxHeartbeats 8000000 in
set_option maxRecDepth 100000 in
theorem calendar_Weekday.calls (a0 : Int) (r : Int) (w : World) (h : calendar_Weekday.f a0 = some r) :
    Calls Tryd.prog 13 #[.int .i64 a0] w fun e w' => e = .returned (.int .i64 r) ∧ Drawn0 w w' := by
  have H : ((calendar_known.f a0).bind fun t129 => (if t129 = true then (some (Int.tmod (wrap64 ((wrap64 (a0 + 146097)) + 5)) 7)) else (some 0))) = some r := h
  clear h
  replace H := Option.bind_eq_some_iff.mp H
  obtain ⟨t129, A20, H⟩ := H
  replace H : (if t129 = true then (some (Int.tmod (wrap64 ((wrap64 (a0 + 146097)) + 5)) 7)) else (some 0)) = some r := H
  have A2 := Aside0.mk A20
  clear A20
  by_cases c3 : t129 = true
  · subst c3
    have H1 : (some (Int.tmod (wrap64 ((wrap64 (a0 + 146097)) + 5)) 7)) = some r := by rw [if_pos rfl] at H; exact H
    clear H
    have H := H1
    clear H1
    obtain rfl := Option.some.inj H
    go_enter Tryd.func13, Tryd.ntmps13
    go_wp2_with (first | ((with_reducible refine gate_callee (f := 36) rfl ?_); refine goesL_ (some 4) rfl rfl Tryd.func36 (by kernel_rfl) rfl #[.int .i64 a0] rfl (by (try simp only [List.map_toArray, List.map_cons, List.map_nil]); first | done | rfl | (simp only [List.length_drop, List.length_take]; rfl)) ?_; (with_reducible refine (calendar_known.calls a0 true _ A2.out).mono ?_); rintro e w' ⟨rfl, ⟨nd, rfl⟩⟩; refine ⟨_, rfl, ?_⟩))
    go_ret
    exact ⟨by first | rfl | (simp; done) | (simp [*]; done), by repeat (first | exact Drawn0.refl _ | apply Drawn0.step)⟩
  · replace c3 := Bool.eq_false_iff.mpr c3
    subst c3
    have H1 : (some 0) = some r := by rw [if_neg (show ¬ (false = true) by decide)] at H; exact H
    clear H
    have H := H1
    clear H1
    obtain rfl := Option.some.inj H
    go_enter Tryd.func13, Tryd.ntmps13
    go_wp2_with (first | ((with_reducible refine gate_callee (f := 36) rfl ?_); refine goesL_ (some 4) rfl rfl Tryd.func36 (by kernel_rfl) rfl #[.int .i64 a0] rfl (by (try simp only [List.map_toArray, List.map_cons, List.map_nil]); first | done | rfl | (simp only [List.length_drop, List.length_take]; rfl)) ?_; (with_reducible refine (calendar_known.calls a0 false _ A2.out).mono ?_); rintro e w' ⟨rfl, ⟨nd, rfl⟩⟩; refine ⟨_, rfl, ?_⟩))
    go_ret
    exact ⟨by first | rfl | (simp; done) | (simp [*]; done), by repeat (first | exact Drawn0.refl _ | apply Drawn0.step)⟩

/-! ### dioramaref08_Modulo: function 42 -/
def dioramaref08_Modulo.f (a0 : Int) (a1 : Int) : Option (Int) := if a1 = 0 then (none) else (some (Int.tmod (wrap64 ((Int.tmod a0 a1) + a1)) a1))
set_option maxHeartbeats 8000000 in
set_option maxRecDepth 100000 in
theorem dioramaref08_Modulo.calls (a0 : Int) (a1 : Int) (r : Int) (w : World) (h : dioramaref08_Modulo.f a0 a1 = some r) :
    Calls Tryd.prog 42 #[.int .i64 a0, .int .i64 a1] w fun e w' => e = .returned (.int .i64 r) ∧ Drawn0 w w' := by
  have H : (if a1 = 0 then (none) else (some (Int.tmod (wrap64 ((Int.tmod a0 a1) + a1)) a1))) = some r := h
  clear h
  by_cases c3 : a1 = 0
  · rw [if_pos c3] at H
    exact absurd H (by simp)
  · rw [if_neg c3] at H
    have c3b0 : (a1 == 0) = false := beq_eq_false_iff_ne.mpr c3
    have c3b1 : (a1 != 0) = true := bne_iff_ne.mpr c3
    obtain rfl := Option.some.inj H
    go_enter Tryd.func42, Tryd.ntmps42
    go_wp2
    go_ret
    exact ⟨by first | rfl | (simp; done) | (simp [*]; done), by repeat (first | exact Drawn0.refl _ | apply Drawn0.step)⟩

/-! ### dioramaref08_Weekday: function 14 -/
def dioramaref08_Weekday.f (a0 : Int) : Option (Int) := (dioramaref08_Known.f a0).bind fun t130 => (if t130 = true then ((dioramaref08_Modulo.f (wrap64 (a0 + 5)) 7).bind fun t131 => (some t131)) else (some 0))
set_option maxHeartbeats 8000000 in
set_option maxRecDepth 100000 in
theorem dioramaref08_Weekday.calls (a0 : Int) (r : Int) (w : World) (h : dioramaref08_Weekday.f a0 = some r) :
    Calls Tryd.prog 14 #[.int .i64 a0] w fun e w' => e = .returned (.int .i64 r) ∧ Drawn0 w w' := by
  have H : ((dioramaref08_Known.f a0).bind fun t130 => (if t130 = true then ((dioramaref08_Modulo.f (wrap64 (a0 + 5)) 7).bind fun t131 => (some t131)) else (some 0))) = some r := h
  clear h
  replace H := Option.bind_eq_some_iff.mp H
  obtain ⟨t130, A20, H⟩ := H
  replace H : (if t130 = true then ((dioramaref08_Modulo.f (wrap64 (a0 + 5)) 7).bind fun t131 => (some t131)) else (some 0)) = some r := H
  have A2 := Aside0.mk A20
  clear A20
  by_cases c3 : t130 = true
  · subst c3
    have H1 : ((dioramaref08_Modulo.f (wrap64 (a0 + 5)) 7).bind fun t131 => (some t131)) = some r := by rw [if_pos rfl] at H; exact H
    clear H
    have H := H1
    clear H1
    replace H := Option.bind_eq_some_iff.mp H
    obtain ⟨t131, A40, H⟩ := H
    replace H : (some t131) = some r := H
    have A4 := Aside0.mk A40
    clear A40
    obtain rfl := Option.some.inj H
    go_enter Tryd.func14, Tryd.ntmps14
    go_wp2_with (first | ((with_reducible refine gate_callee (f := 39) rfl ?_); refine goesL_ (some 4) rfl rfl Tryd.func39 (by kernel_rfl) rfl #[.int .i64 a0] rfl (by (try simp only [List.map_toArray, List.map_cons, List.map_nil]); first | done | rfl | (simp only [List.length_drop, List.length_take]; rfl)) ?_; (with_reducible refine (dioramaref08_Known.calls a0 true _ A2.out).mono ?_); rintro e w' ⟨rfl, ⟨nd, rfl⟩⟩; refine ⟨_, rfl, ?_⟩) | ((with_reducible refine gate_callee (f := 42) rfl ?_); refine goesL_ (some 8) rfl rfl Tryd.func42 (by kernel_rfl) rfl #[.int .i64 (wrap64 (a0 + 5)), .int .i64 7] rfl (by (try simp only [List.map_toArray, List.map_cons, List.map_nil]); first | done | rfl | (simp only [List.length_drop, List.length_take]; rfl)) ?_; (with_reducible refine (dioramaref08_Modulo.calls (wrap64 (a0 + 5)) 7 t131 _ A4.out).mono ?_); rintro e w' ⟨rfl, ⟨nd, rfl⟩⟩; refine ⟨_, rfl, ?_⟩))
    go_ret
    exact ⟨by first | rfl | (simp; done) | (simp [*]; done), by repeat (first | exact Drawn0.refl _ | apply Drawn0.step)⟩
  · replace c3 := Bool.eq_false_iff.mpr c3
    subst c3
    have H1 : (some 0) = some r := by rw [if_neg (show ¬ (false = true) by decide)] at H; exact H
    clear H
    have H := H1
    clear H1
    obtain rfl := Option.some.inj H
    go_enter Tryd.func14, Tryd.ntmps14
    go_wp2_with (first | ((with_reducible refine gate_callee (f := 39) rfl ?_); refine goesL_ (some 4) rfl rfl Tryd.func39 (by kernel_rfl) rfl #[.int .i64 a0] rfl (by (try simp only [List.map_toArray, List.map_cons, List.map_nil]); first | done | rfl | (simp only [List.length_drop, List.length_take]; rfl)) ?_; (with_reducible refine (dioramaref08_Known.calls a0 false _ A2.out).mono ?_); rintro e w' ⟨rfl, ⟨nd, rfl⟩⟩; refine ⟨_, rfl, ?_⟩))
    go_ret
    exact ⟨by first | rfl | (simp; done) | (simp [*]; done), by repeat (first | exact Drawn0.refl _ | apply Drawn0.step)⟩

/-! ### calendar_Text: function 15 -/
/-- two(n): the numeral of 100 + n without its first digit -/
def twoS (n : Int) : ByteArray := (⟨(Lib.itoa (100 + n)).toArray⟩ : ByteArray).extract 1 (⟨(Lib.itoa (100 + n)).toArray⟩ : ByteArray).size
def itoaS (n : Int) : ByteArray := ⟨(Lib.itoa n).toArray⟩
theorem itoaS_size (n : Int) : (itoaS n).size = (Lib.itoa n).length := by simp [itoaS, ByteArray.size]
theorem itoaS_le (n : Int) (h0 : 0 ≤ n) (h1 : n ≤ 10000) : (itoaS n).size ≤ 21 := by
  rw [itoaS_size]
  exact Lib.itoa_length_le n (by omega) (by omega)
theorem itoaS_pos (n : Int) (h0 : 0 ≤ n) : 1 ≤ (itoaS n).size := by
  rw [itoaS_size]
  unfold Lib.itoa
  rw [if_neg (by omega)]
  unfold Lib.decDigits
  split <;> simp
def textS (y m d : Int) : ByteArray := (((itoaS y ++ (⟨#[45]⟩ : ByteArray)) ++ twoS m) ++ (⟨#[45]⟩ : ByteArray)) ++ twoS d
def textOf (y m d : Int) : Option ByteArray := if (0 ≤ y ∧ y ≤ 9999) ∧ (0 ≤ m ∧ m ≤ 99) ∧ (0 ≤ d ∧ d ≤ 99) then some (textS y m d) else none
def calendar_Text.f (k : Nat) (a0 : Int) : Option ByteArray := (calendar_known.f a0).bind fun t => if t = true then (calendar_Civil.f k a0).bind fun b => textOf b.1 b.2.1 b.2.2 else some (⟨#[]⟩ : ByteArray)
theorem calendar_Text.mono : ∀ a0 k, LeO (calendar_Text.f k a0) (calendar_Text.f (k + 1) a0) := by
  intro a0 k
  unfold calendar_Text.f
  repeat' first
      | (with_reducible exact calendar_Civil.mono _ _)
      | (with_reducible exact LeO.refl _)
      | (with_reducible refine LeO.ite ?_ ?_)
      | (with_reducible refine LeO.bind ?_ (fun _ => ?_))
      | exact calendar_Civil.mono _ _
      | refine LeO.ite ?_ ?_
      | refine LeO.bind ?_ (fun _ => ?_)

theorem two_any (n : Int) (h0 : 0 ≤ n) (h1 : n ≤ 99) (w : World) (hv : LaidAt w) :
    Calls Tryd.prog 43 #[.int .i64 n] w fun e w' => e = .returned (.string (twoS n)) ∧ Below w.heap.size w w' := by
  have hp := itoaS_pos (100 + n) (by omega)
  have hl := itoaS_le (100 + n) (by omega) (by omega)
  have HI : Hid (strconv_Itoa.f (100 + n) = some (itoaS (100 + n))) := Lib.hid (by unfold strconv_Itoa.f; rw [if_pos (by omega)]; rfl)
  have HT : Hid (twoS n = (itoaS (100 + n)).extract 1 (itoaS (100 + n)).size) := Lib.hid rfl
  generalize itoaS (100 + n) = s at *
  generalize twoS n = t at *
  go_enter Tryd.func43, Tryd.ntmps43
  go_wp2_with (go_at_call 44; refine (strconv_Itoa.calls _ _ _ hv HI.out).mono ?_; rintro e w1 ⟨rfl, hb⟩)
  go_ret
  exact ⟨by rw [HT.out]; rfl, hb⟩

theorem size_twoS (n : Int) (h0 : 0 ≤ n) (h1 : n ≤ 99) : (twoS n).size ≤ 21 := by
  have hl := itoaS_le (100 + n) (by omega) (by omega)
  have e : twoS n = (itoaS (100 + n)).extract 1 (itoaS (100 + n)).size := rfl
  rw [e, ByteArray.size_extract]
  omega

set_option maxHeartbeats 1000000 in
set_option maxRecDepth 100000 in
theorem calendar_Text.calls (k : Nat) (a0 : Int) (r : ByteArray) (w : World) (hv : LaidAt w) (h : calendar_Text.f k a0 = some r) :
    Calls Tryd.prog 15 #[.int .i64 a0] w fun e w' => e = .returned (.string r) ∧ Below w.heap.size w w' := by
  unfold calendar_Text.f at h
  replace h := Option.bind_eq_some_iff.mp h
  obtain ⟨t, A1, h⟩ := h
  replace A1 := Aside0.mk A1
  cases t with
  | false =>
    rw [if_neg (by decide)] at h
    obtain rfl := Option.some.inj h
    go_enter Tryd.func15, Tryd.ntmps15
    go_wp2_with (go_at_call 36; refine (calendar_known.calls _ _ _ A1.out).mono ?_; rintro e w' ⟨rfl, ⟨nd, rfl⟩⟩)
    go_ret
    exact ⟨rfl, pw_below_drewN (Below.refl _ _) _⟩
  | true =>
    rw [if_pos rfl] at h
    replace h := Option.bind_eq_some_iff.mp h
    obtain ⟨⟨y, m, d⟩, A2, h⟩ := h
    replace A2 := Aside0.mk A2
    simp only at h
    unfold textOf at h
    split at h
    case isFalse => cases h
    rename_i hd
    obtain ⟨⟨y0, y1⟩, ⟨m0, m1⟩, ⟨d0, d1⟩⟩ := hd
    obtain rfl := Option.some.inj h
    have HI : Hid (strconv_Itoa.f y = some (itoaS y)) := Lib.hid (by unfold strconv_Itoa.f; rw [if_pos (by omega)]; rfl)
    have HM : ∀ w, LaidAt w → Calls Tryd.prog 43 #[.int .i64 m] w fun e w' => e = .returned (.string (twoS m)) ∧ Below w.heap.size w w' := fun w hv => two_any m m0 m1 w hv
    have HD : ∀ w, LaidAt w → Calls Tryd.prog 43 #[.int .i64 d] w fun e w' => e = .returned (.string (twoS d)) ∧ Below w.heap.size w w' := fun w hv => two_any d d0 d1 w hv
    replace HM := Aside0.mk HM
    replace HD := Aside0.mk HD
    have s1 := itoaS_le y y0 (by omega)
    have s2 := size_twoS m m0 m1
    have s3 := size_twoS d d0 d1
    have HR : Hid (textS y m d = (((itoaS y ++ (⟨#[45]⟩ : ByteArray)) ++ twoS m) ++ (⟨#[45]⟩ : ByteArray)) ++ twoS d) := Lib.hid rfl
    generalize textS y m d = z at *
    generalize itoaS y = a at *
    generalize twoS m = b at *
    generalize twoS d = c at *
    have q1 := eq_false (show ¬ 9223372036854775807 < a.size + 1 by omega)
    have q2 := eq_false (show ¬ 9223372036854775807 < a.size + 1 + b.size by omega)
    have q3 := eq_false (show ¬ 9223372036854775807 < a.size + 1 + b.size + 1 by omega)
    have q4 := eq_false (show ¬ 9223372036854775807 < a.size + 1 + b.size + 1 + c.size by omega)
    have HB := Aside0.mk (Below.refl w.heap.size w)
    go_enter Tryd.func15, Tryd.ntmps15
    go_wp2_with (first | (go_at_call 36; (with_reducible refine (calendar_known.calls _ _ _ A1.out).mono ?_); rintro e w' ⟨rfl, ⟨nd, rfl⟩⟩) | (go_at_call 11; (with_reducible refine (calendar_Civil.calls k a0 y m d _ A2.out).mono ?_); rintro e w1 ⟨rfl, hb⟩; have n0_ := Aside0.mk (below_step (by repeat (first | (with_reducible first | exact HB.out | apply below_alloc | apply pw_below_drewN | apply below_drew1) | exact HB.out)) hb); clear HB hb; have HB := n0_; clear n0_) | (go_at_call 44; (with_reducible refine (strconv_Itoa.calls y a _ (hv.step (by repeat (first | (with_reducible first | exact HB.out | apply below_alloc | apply pw_below_drewN | apply below_drew1) | exact HB.out))) HI.out).mono ?_); rintro e w1 ⟨rfl, hb⟩; have n0_ := Aside0.mk (below_step (by repeat (first | (with_reducible first | exact HB.out | apply below_alloc | apply pw_below_drewN | apply below_drew1) | exact HB.out)) hb); clear HB hb; have HB := n0_; clear n0_) | (go_at_call 43; (with_reducible refine (HM.out _ (hv.step (by repeat (first | (with_reducible first | exact HB.out | apply below_alloc | apply pw_below_drewN | apply below_drew1) | exact HB.out)))).mono ?_); rintro e w1 ⟨rfl, hb⟩; have n0_ := Aside0.mk (below_step (by repeat (first | (with_reducible first | exact HB.out | apply below_alloc | apply pw_below_drewN | apply below_drew1) | exact HB.out)) hb); clear HB hb; have HB := n0_; clear n0_) | (go_at_call 43; (with_reducible refine (HD.out _ (hv.step (by repeat (first | (with_reducible first | exact HB.out | apply below_alloc | apply pw_below_drewN | apply below_drew1) | exact HB.out)))).mono ?_); rintro e w1 ⟨rfl, hb⟩; have n0_ := Aside0.mk (below_step (by repeat (first | (with_reducible first | exact HB.out | apply below_alloc | apply pw_below_drewN | apply below_drew1) | exact HB.out)) hb); clear HB hb; have HB := n0_; clear n0_))
    go_ret
    exact ⟨by rw [HR.out]; rfl, HB.out⟩

/-! ### dioramaref08_digits: function 45 -/
def dioramaref08_digits.l0 : Nat → Int → Int → List Int → Int → Option (ByteArray)
  | 0, _, _, _, _ => none
  | k + 1, x0, x1, x5, x6 => if x6 < x1 then ((some (([(wrap64 (48 + (Int.tmod x0 10))) % 256] : List Int) : List Int)).bind fun y132 => (if y132.length + x5.length < 140737488355328 then (dioramaref08_digits.l0 k (wrap64 (Int.tdiv x0 10)) x1 (y132 ++ x5) (wrap64 (x6 + 1))) else (none))) else (some (strOfNums x5))
def dioramaref08_digits.f (k : Nat) (a0 : Int) (a1 : Int) : Option (ByteArray) := dioramaref08_digits.l0 k a0 a1 ([] : List Int) 0
theorem dioramaref08_digits.mono_l : ∀ k, (∀ y0 y1 y2 y3, LeO (dioramaref08_digits.l0 k y0 y1 y2 y3) (dioramaref08_digits.l0 (k + 1) y0 y1 y2 y3))
  | 0 => fun _ _ _ _ r h => by simp [dioramaref08_digits.l0] at h
  | k + 1 => by
    have ih0 := dioramaref08_digits.mono_l k
    · intro y0 y1 y2 y3
      unfold dioramaref08_digits.l0
      repeat' first
      | (with_reducible exact ih0 _ _ _ _)
      | (with_reducible exact LeO.refl _)
      | (with_reducible exact LeO.none _)
      | (with_reducible refine LeO.ite ?_ ?_)
      | (with_reducible refine LeO.bind ?_ (fun _ => ?_))
      | exact ih0 _ _ _ _
      | exact LeO.none _
      | refine LeO.ite ?_ ?_
      | refine LeO.bind ?_ (fun _ => ?_)
theorem dioramaref08_digits.mono : ∀ a0 a1 k, LeO (dioramaref08_digits.f k a0 a1) (dioramaref08_digits.f (k + 1) a0 a1) := by
  intro a0 a1 k
  have ih0 := dioramaref08_digits.mono_l k
  unfold dioramaref08_digits.f
  repeat' first
      | (with_reducible exact ih0 _ _ _ _)
      | (with_reducible exact LeO.refl _)
      | (with_reducible exact LeO.none _)
      | (with_reducible refine LeO.ite ?_ ?_)
      | (with_reducible refine LeO.bind ?_ (fun _ => ?_))
      | exact ih0 _ _ _ _
      | exact LeO.none _
      | refine LeO.ite ?_ ?_
      | refine LeO.bind ?_ (fun _ => ?_)
set_option maxHeartbeats 8000000 in
set_option maxRecDepth 100000 in
theorem dioramaref08_digits.calls (k : Nat) (a0 : Int) (a1 : Int) (r : ByteArray) (w : World) (h : dioramaref08_digits.f k a0 a1 = some r) :
    Calls Tryd.prog 45 #[.int .i64 a0, .int .i64 a1] w fun e w' => e = .returned (.string r) ∧ Below w.heap.size w w' := by
  have HB := Aside0.mk (Below.refl w.heap.size w)
  have H : (dioramaref08_digits.l0 k a0 a1 ([] : List Int) 0) = some r := h
  clear h
  have H' := Aside0.mk H
  clear H
  go_enter Tryd.func45, Tryd.ntmps45
  go_wp2
  go_loopg [0, 5, 6] k (fun kq v0 v5 v6 w' => ∃ (x0_1 : Int) (x5_1 : List Int) (x6_1 : Int), v0 = .int .i64 x0_1 ∧ v6 = .int .i64 x6_1 ∧ Aside0 (dioramaref08_digits.l0 kq x0_1 a1 x5_1 x6_1 = some r) ∧ Aside0 (kq ≤ k) ∧ Aside0 (Kd.R (Kd.int .u8) 5 w' w.heap.size (fun _ => True) v5 x5_1) ∧ Aside0 (Below w.heap.size w w'))
  case atStart => exact ⟨(a0), (([] : List Int)), (0), (by first | rfl | (simp; done) | (simp [*]; done)), (by first | rfl | (simp; done) | (simp [*]; done)), H', ⟨Nat.le_refl _⟩, ⟨by first | exact Kd.R_nil _ _ _ _ _ | exact Kd.N_nil _ _ _ _ _ | exact Kd.V_nil _ _ _ _ _ | exact Kd.Q_nil _ _ _ _ _ | exact Kd.S_nil _ _ _ _ _⟩, ⟨by repeat (first | (with_reducible first | exact HB.out | apply below_alloc | apply pw_below_drewN | apply below_drew1) | exact HB.out)⟩⟩
  case round =>
    clear H'
    try clear p2
    obtain ⟨x0_1, x5_1, x6_1, rfl, rfl, HA, HK1, HO_5, HB⟩ := hrel
    cases gk with
    | zero => exact absurd HA.out (by simp [dioramaref08_digits.l0])
    | succ k1 =>
      have H := HA.out
      clear HA
      simp only [dioramaref08_digits.l0] at H
      by_cases c3 : x6_1 < a1
      · rw [if_pos c3] at H
        have c3b0 : decide (x6_1 < a1) = true := decide_eq_true c3
        clear c3
        obtain ⟨y132, hy132⟩ : ∃ y_ : List Int, y_ = (([(wrap64 (48 + (Int.tmod x0_1 10))) % 256] : List Int)) := ⟨_, rfl⟩
        replace H : (if y132.length + x5_1.length < 140737488355328 then (dioramaref08_digits.l0 k1 (wrap64 (Int.tdiv x0_1 10)) a1 (y132 ++ x5_1) (wrap64 (x6_1 + 1))) else (none)) = some r := by first | (rw [hy132]; with_reducible exact H) | (have H2_ := (Option.bind_some _ _).symm.trans H; rw [hy132]; with_reducible exact H2_) | (have H2_ := (Option.bind_some _ _).symm.trans H; with_reducible exact H2_) | with_reducible exact H | (rw [hy132]; exact H) | exact H
        have Ny132 := Aside0.mk hy132
        clear hy132
        by_cases c4 : y132.length + x5_1.length < 140737488355328
        · rw [if_pos c4] at H
          have LMc4 := Aside0.mk c4
          clear c4
          obtain ⟨y135, hy135⟩ : ∃ y_ : List Int, y_ = (y132 ++ x5_1) := ⟨_, rfl⟩
          replace H : (dioramaref08_digits.l0 k1 (wrap64 (Int.tdiv x0_1 10)) a1 y135 (wrap64 (x6_1 + 1))) = some r := by first | (rw [hy135]; with_reducible exact H) | (have H2_ := (Option.bind_some _ _).symm.trans H; rw [hy135]; with_reducible exact H2_) | (have H2_ := (Option.bind_some _ _).symm.trans H; with_reducible exact H2_) | with_reducible exact H | (rw [hy135]; exact H) | exact H
          have Ny135 := Aside0.mk hy135
          clear hy135
          have H' := Aside0.mk H
          clear H
          go_wp2_with (first | ((with_reducible refine gate_dst (N := 16) rfl ?_); refine Kd.R_lit (Kd.int .u8) _ 5 ?hg (N := 16) ?hd (xs := ([(wrap64 (48 + (Int.tmod x0_1 10))) % 256] : List Int)) (inner := [.int .u8 ((wrap64 (48 + (Int.tmod x0_1 10))) % 256)]) (ok := fun _ => True) (okp := fun _ => True) ?hr ?hp (fun _ hk => hk) trivial (Below.refl _ _) (Nat.le_refl _) (by simp) ?_; (case hd => rfl); (case hg => rfl); (case hr => first | (go_simp; done) | (go_simp; rfl)); (case hp => exact (Reps.one (show Kd.M (Kd.int .u8) _ _ _ ((wrap64 (48 + (Int.tmod x0_1 10))) % 256) [.int .u8 ((wrap64 (48 + (Int.tmod x0_1 10))) % 256)] from rfl) (Reps.none _ _))); intro v133 w5 ho6 hb hg_ hnew_; clear hg_ hnew_; (first | rw [← Ny132.out] at ho6 | (simp only [Int.reduceToNat] at ho6; rw [← Ny132.out] at ho6)); have n0_ := Aside0.mk (Kd.R_elder' (by (with_reducible repeat (first | apply Kd.R_alloc | apply Kd.R_drewN | apply Kd.R_drew)); exact HO_5.out) (Kd.R_base ho6) hb); have n1_ := Aside0.mk (Kd.R_lower (Kd.R_new' ho6 (Kd.R_lt (by (with_reducible repeat (first | apply Kd.R_alloc | apply Kd.R_drewN | apply Kd.R_drew)); exact HO_5.out))) (below_size (by repeat (first | (with_reducible first | exact HB.out | apply below_alloc | apply pw_below_drewN | apply below_drew1) | exact HB.out)))); have n2_ := Aside0.mk (below_step (by repeat (first | (with_reducible first | exact HB.out | apply below_alloc | apply pw_below_drewN | apply below_drew1) | exact HB.out)) hb); clear HO_5; clear HB; have HO_5 := n0_; have HO134 := n1_; have HB := n2_; clear n0_ n1_ n2_; clear hb ho6; obtain ⟨Ao8, co8, eo8⟩ := Kd.R_slice HO_5.out; subst eo8) | ((with_reducible refine gate_builtin (b := .append) (xs := #[.tmp 16, .tmp 17]) rfl ?_); at_builtin; refine Kd.R_append_rows (Kd.int .u8) (w0 := w) w.heap.size rfl (.tmp 16) (.tmp 17) 33 5 (.int .u8 0) 1 rfl Tryd.underlying33 info5 rfl (by decide) (by omega) v133 y132 x5_1 _ _ _ (fun k_ => some k_ ≠ (.slice Ao8 x5_1.length co8 : Value).ownBlock) (fun _ => False) rfl rfl ?aO ?aR (fun _ _ h => h) (fun _ h => h.elim) ?aF ?aB ?aS ?aL ?_; (case aR => repeat (first | exact (Kd.R_reads' HO_5.out).2.2 | (with_reducible refine Kd.C_alloc ?_ _) | (with_reducible refine Kd.C_drewN ?_ _) | (with_reducible refine Kd.C_drew ?_))); (case aB => exact (by repeat (first | (with_reducible first | exact HB.out | apply below_alloc | apply pw_below_drewN | apply below_drew1) | exact HB.out))); (case aF => exact (fun k_ hk => Kd.fresh' (Kd.R_lt (by (with_reducible repeat (first | apply Kd.R_alloc | apply Kd.R_drewN | apply Kd.R_drew)); exact HO_5.out)) k_ hk)); (case aO => exact (by (with_reducible repeat (first | apply Kd.R_alloc | apply Kd.R_drewN | apply Kd.R_drew)); exact Kd.R_mono HO134.out (fun _ hk => hk.2))); (case aS => exact (below_size (by repeat (first | (with_reducible first | exact HB.out | apply below_alloc | apply pw_below_drewN | apply below_drew1) | exact HB.out)))); (case aL => have := LMc4.out; omega); intro v136 w7 ho hb hg hat; rw [← Ny135.out] at ho; have n0_ := Aside0.mk (Kd.R_after (ok := (fun _ => True)) (by (with_reducible repeat (first | apply Kd.R_alloc | apply Kd.R_drewN | apply Kd.R_drew)); exact HO_5.out) hg hat); have n1_ := Aside0.mk (hb); have n2_ := Aside0.mk (ho); clear HO_5; clear HB; clear HO134; have HO_5 := n0_; have HB := n1_; have HO137 := n2_; clear n0_ n1_ n2_; clear ho hb hg hat))
          go_roundg k1
          case measure => have := HK1.out; omega
          case rel => exact ⟨(wrap64 (Int.tdiv x0_1 10)), (y135), (wrap64 (x6_1 + 1)), (by first | rfl | (simp; done) | (simp [*]; done)), (by first | rfl | (simp; done) | (simp [*]; done)), H', ⟨by have := HK1.out; omega⟩, ⟨by (with_reducible repeat (first | apply Kd.R_alloc | apply Kd.R_drewN | apply Kd.R_drew)); exact Kd.R_mono HO137.out (fun _ hk => trivial)⟩, ⟨by repeat (first | (with_reducible first | exact HB.out | apply below_alloc | apply pw_below_drewN | apply below_drew1) | exact HB.out)⟩⟩
        · rw [if_neg c4] at H
          exact absurd H (by simp)
      · rw [if_neg c3] at H
        have c3b0 : decide (x6_1 < a1) = false := decide_eq_false c3
        clear c3
        obtain rfl := Option.some.inj H
        have hcv9 := own_string (P := Tryd.prog) Tryd.underlying33 Tryd.underlying5 Tryd.underlying9 (Kd.own_of_R HO_5.out)
        go_wp2
        go_ret
        exact ⟨by first | rfl | (simp [errW_none, errW_some] <;> rfl) | (simp [*, errW_none, errW_some] <;> rfl), by repeat (first | (with_reducible first | exact HB.out | apply below_alloc | apply pw_below_drewN | apply below_drew1) | exact HB.out)⟩

/-! ### dioramaref08_Text: function 16 -/
def dioramaref08_Text.f (k : Nat) (a0 : Int) : Option (ByteArray) := (dioramaref08_Known.f a0).bind fun t138 => (if t138 = true then ((dioramaref08_Civil.f k a0).bind fun bt139 => ((dioramaref08_digits.f k bt139.1 4).bind fun t142 => (if t142.size + 1 ≤ 9223372036854775807 then ((dioramaref08_digits.f k bt139.2.1 2).bind fun t143 => (if (t142 ++ (⟨#[45]⟩ : ByteArray)).size + t143.size ≤ 9223372036854775807 then (if ((t142 ++ (⟨#[45]⟩ : ByteArray)) ++ t143).size + 1 ≤ 9223372036854775807 then ((dioramaref08_digits.f k bt139.2.2 2).bind fun t144 => (if (((t142 ++ (⟨#[45]⟩ : ByteArray)) ++ t143) ++ (⟨#[45]⟩ : ByteArray)).size + t144.size ≤ 9223372036854775807 then (some ((((t142 ++ (⟨#[45]⟩ : ByteArray)) ++ t143) ++ (⟨#[45]⟩ : ByteArray)) ++ t144)) else (none))) else (none)) else (none))) else (none)))) else (some (⟨#[]⟩ : ByteArray)))
theorem dioramaref08_Text.mono : ∀ a0 k, LeO (dioramaref08_Text.f k a0) (dioramaref08_Text.f (k + 1) a0) := by
  intro a0 k
  unfold dioramaref08_Text.f
  repeat' first
      | (with_reducible exact dioramaref08_Civil.mono _ _)
      | (with_reducible exact dioramaref08_digits.mono _ _ _)
      | (with_reducible exact LeO.refl _)
      | (with_reducible exact LeO.none _)
      | (with_reducible refine LeO.ite ?_ ?_)
      | (with_reducible refine LeO.bind ?_ (fun _ => ?_))
      | exact dioramaref08_Civil.mono _ _
      | exact dioramaref08_digits.mono _ _ _
      | exact LeO.none _
      | refine LeO.ite ?_ ?_
      | refine LeO.bind ?_ (fun _ => ?_)
set_option maxHeartbeats 8000000 in
set_option maxRecDepth 100000 in
theorem dioramaref08_Text.calls (k : Nat) (a0 : Int) (r : ByteArray) (w : World) (h : dioramaref08_Text.f k a0 = some r) :
    Calls Tryd.prog 16 #[.int .i64 a0] w fun e w' => e = .returned (.string r) ∧ Below w.heap.size w w' := by
  have HB := Aside0.mk (Below.refl w.heap.size w)
  have H : ((dioramaref08_Known.f a0).bind fun t138 => (if t138 = true then ((dioramaref08_Civil.f k a0).bind fun bt139 => ((dioramaref08_digits.f k bt139.1 4).bind fun t142 => (if t142.size + 1 ≤ 9223372036854775807 then ((dioramaref08_digits.f k bt139.2.1 2).bind fun t143 => (if (t142 ++ (⟨#[45]⟩ : ByteArray)).size + t143.size ≤ 9223372036854775807 then (if ((t142 ++ (⟨#[45]⟩ : ByteArray)) ++ t143).size + 1 ≤ 9223372036854775807 then ((dioramaref08_digits.f k bt139.2.2 2).bind fun t144 => (if (((t142 ++ (⟨#[45]⟩ : ByteArray)) ++ t143) ++ (⟨#[45]⟩ : ByteArray)).size + t144.size ≤ 9223372036854775807 then (some ((((t142 ++ (⟨#[45]⟩ : ByteArray)) ++ t143) ++ (⟨#[45]⟩ : ByteArray)) ++ t144)) else (none))) else (none)) else (none))) else (none)))) else (some (⟨#[]⟩ : ByteArray)))) = some r := h
  clear h
  replace H := Option.bind_eq_some_iff.mp H
  obtain ⟨t138, A20, H⟩ := H
  replace H : (if t138 = true then ((dioramaref08_Civil.f k a0).bind fun bt139 => ((dioramaref08_digits.f k bt139.1 4).bind fun t142 => (if t142.size + 1 ≤ 9223372036854775807 then ((dioramaref08_digits.f k bt139.2.1 2).bind fun t143 => (if (t142 ++ (⟨#[45]⟩ : ByteArray)).size + t143.size ≤ 9223372036854775807 then (if ((t142 ++ (⟨#[45]⟩ : ByteArray)) ++ t143).size + 1 ≤ 9223372036854775807 then ((dioramaref08_digits.f k bt139.2.2 2).bind fun t144 => (if (((t142 ++ (⟨#[45]⟩ : ByteArray)) ++ t143) ++ (⟨#[45]⟩ : ByteArray)).size + t144.size ≤ 9223372036854775807 then (some ((((t142 ++ (⟨#[45]⟩ : ByteArray)) ++ t143) ++ (⟨#[45]⟩ : ByteArray)) ++ t144)) else (none))) else (none)) else (none))) else (none)))) else (some (⟨#[]⟩ : ByteArray))) = some r := H
  have A2 := Aside0.mk A20
  clear A20
  by_cases c3 : t138 = true
  · subst c3
    have H1 : ((dioramaref08_Civil.f k a0).bind fun bt139 => ((dioramaref08_digits.f k bt139.1 4).bind fun t142 => (if t142.size + 1 ≤ 9223372036854775807 then ((dioramaref08_digits.f k bt139.2.1 2).bind fun t143 => (if (t142 ++ (⟨#[45]⟩ : ByteArray)).size + t143.size ≤ 9223372036854775807 then (if ((t142 ++ (⟨#[45]⟩ : ByteArray)) ++ t143).size + 1 ≤ 9223372036854775807 then ((dioramaref08_digits.f k bt139.2.2 2).bind fun t144 => (if (((t142 ++ (⟨#[45]⟩ : ByteArray)) ++ t143) ++ (⟨#[45]⟩ : ByteArray)).size + t144.size ≤ 9223372036854775807 then (some ((((t142 ++ (⟨#[45]⟩ : ByteArray)) ++ t143) ++ (⟨#[45]⟩ : ByteArray)) ++ t144)) else (none))) else (none)) else (none))) else (none)))) = some r := by rw [if_pos rfl] at H; exact H
    clear H
    have H := H1
    clear H1
    replace H := Option.bind_eq_some_iff.mp H
    obtain ⟨⟨t139, t140, t141⟩, A40, H⟩ := H
    replace H : ((dioramaref08_digits.f k t139 4).bind fun t142 => (if t142.size + 1 ≤ 9223372036854775807 then ((dioramaref08_digits.f k t140 2).bind fun t143 => (if (t142 ++ (⟨#[45]⟩ : ByteArray)).size + t143.size ≤ 9223372036854775807 then (if ((t142 ++ (⟨#[45]⟩ : ByteArray)) ++ t143).size + 1 ≤ 9223372036854775807 then ((dioramaref08_digits.f k t141 2).bind fun t144 => (if (((t142 ++ (⟨#[45]⟩ : ByteArray)) ++ t143) ++ (⟨#[45]⟩ : ByteArray)).size + t144.size ≤ 9223372036854775807 then (some ((((t142 ++ (⟨#[45]⟩ : ByteArray)) ++ t143) ++ (⟨#[45]⟩ : ByteArray)) ++ t144)) else (none))) else (none)) else (none))) else (none))) = some r := H
    have A4 := Aside0.mk A40
    clear A40
    replace H := Option.bind_eq_some_iff.mp H
    obtain ⟨t142, A50, H⟩ := H
    replace H : (if t142.size + 1 ≤ 9223372036854775807 then ((dioramaref08_digits.f k t140 2).bind fun t143 => (if (t142 ++ (⟨#[45]⟩ : ByteArray)).size + t143.size ≤ 9223372036854775807 then (if ((t142 ++ (⟨#[45]⟩ : ByteArray)) ++ t143).size + 1 ≤ 9223372036854775807 then ((dioramaref08_digits.f k t141 2).bind fun t144 => (if (((t142 ++ (⟨#[45]⟩ : ByteArray)) ++ t143) ++ (⟨#[45]⟩ : ByteArray)).size + t144.size ≤ 9223372036854775807 then (some ((((t142 ++ (⟨#[45]⟩ : ByteArray)) ++ t143) ++ (⟨#[45]⟩ : ByteArray)) ++ t144)) else (none))) else (none)) else (none))) else (none)) = some r := H
    have A5 := Aside0.mk A50
    clear A50
    by_cases c6 : t142.size + 1 ≤ 9223372036854775807
    · rw [if_pos c6] at H
      have c6b0 := eq_true c6
      have c6b1 : decide (t142.size + 1 ≤ 9223372036854775807) = true := decide_eq_true c6
      try have c6b2 : (9223372036854775807 < t142.size + 1) = False := eq_false (Nat.not_lt.2 c6)
      replace H := Option.bind_eq_some_iff.mp H
      obtain ⟨t143, A70, H⟩ := H
      replace H : (if (t142 ++ (⟨#[45]⟩ : ByteArray)).size + t143.size ≤ 9223372036854775807 then (if ((t142 ++ (⟨#[45]⟩ : ByteArray)) ++ t143).size + 1 ≤ 9223372036854775807 then ((dioramaref08_digits.f k t141 2).bind fun t144 => (if (((t142 ++ (⟨#[45]⟩ : ByteArray)) ++ t143) ++ (⟨#[45]⟩ : ByteArray)).size + t144.size ≤ 9223372036854775807 then (some ((((t142 ++ (⟨#[45]⟩ : ByteArray)) ++ t143) ++ (⟨#[45]⟩ : ByteArray)) ++ t144)) else (none))) else (none)) else (none)) = some r := H
      have A7 := Aside0.mk A70
      clear A70
      by_cases c8 : (t142 ++ (⟨#[45]⟩ : ByteArray)).size + t143.size ≤ 9223372036854775807
      · rw [if_pos c8] at H
        try (have c8w : (9223372036854775807 < t142.size + 1 + t143.size) = False := eq_false (by have h1 := c8; simp only [ByteArray.size_append, ByteArray.size_extract, bsize1] at h1; simp only [eq_iff_iff, iff_true, iff_false] at *; omega))
        have c8b0 := eq_true c8
        have c8b1 : decide ((t142 ++ (⟨#[45]⟩ : ByteArray)).size + t143.size ≤ 9223372036854775807) = true := decide_eq_true c8
        try have c8b2 : (9223372036854775807 < (t142 ++ (⟨#[45]⟩ : ByteArray)).size + t143.size) = False := eq_false (Nat.not_lt.2 c8)
        by_cases c9 : ((t142 ++ (⟨#[45]⟩ : ByteArray)) ++ t143).size + 1 ≤ 9223372036854775807
        · rw [if_pos c9] at H
          try (have c9w : (9223372036854775807 < t142.size + 1 + t143.size + 1) = False := eq_false (by have h1 := c9; simp only [ByteArray.size_append, ByteArray.size_extract, bsize1] at h1; simp only [eq_iff_iff, iff_true, iff_false] at *; omega))
          have c9b0 := eq_true c9
          have c9b1 : decide (((t142 ++ (⟨#[45]⟩ : ByteArray)) ++ t143).size + 1 ≤ 9223372036854775807) = true := decide_eq_true c9
          try have c9b2 : (9223372036854775807 < ((t142 ++ (⟨#[45]⟩ : ByteArray)) ++ t143).size + 1) = False := eq_false (Nat.not_lt.2 c9)
          replace H := Option.bind_eq_some_iff.mp H
          obtain ⟨t144, A100, H⟩ := H
          replace H : (if (((t142 ++ (⟨#[45]⟩ : ByteArray)) ++ t143) ++ (⟨#[45]⟩ : ByteArray)).size + t144.size ≤ 9223372036854775807 then (some ((((t142 ++ (⟨#[45]⟩ : ByteArray)) ++ t143) ++ (⟨#[45]⟩ : ByteArray)) ++ t144)) else (none)) = some r := H
          have A10 := Aside0.mk A100
          clear A100
          by_cases c11 : (((t142 ++ (⟨#[45]⟩ : ByteArray)) ++ t143) ++ (⟨#[45]⟩ : ByteArray)).size + t144.size ≤ 9223372036854775807
          · rw [if_pos c11] at H
            try (have c11w : (9223372036854775807 < t142.size + 1 + t143.size + 1 + t144.size) = False := eq_false (by have h1 := c11; simp only [ByteArray.size_append, ByteArray.size_extract, bsize1] at h1; simp only [eq_iff_iff, iff_true, iff_false] at *; omega))
            have c11b0 := eq_true c11
            have c11b1 : decide ((((t142 ++ (⟨#[45]⟩ : ByteArray)) ++ t143) ++ (⟨#[45]⟩ : ByteArray)).size + t144.size ≤ 9223372036854775807) = true := decide_eq_true c11
            try have c11b2 : (9223372036854775807 < (((t142 ++ (⟨#[45]⟩ : ByteArray)) ++ t143) ++ (⟨#[45]⟩ : ByteArray)).size + t144.size) = False := eq_false (Nat.not_lt.2 c11)
            obtain rfl := Option.some.inj H
            go_enter Tryd.func16, Tryd.ntmps16
            go_wp2_with (first | ((with_reducible refine gate_callee (f := 39) rfl ?_); refine goesL_ (some 7) rfl rfl Tryd.func39 (by kernel_rfl) rfl #[.int .i64 a0] rfl (by (try simp only [List.map_toArray, List.map_cons, List.map_nil]); first | done | rfl | (simp only [List.length_drop, List.length_take]; rfl)) ?_; (with_reducible refine (dioramaref08_Known.calls a0 true _ A2.out).mono ?_); rintro e w' ⟨rfl, ⟨nd, rfl⟩⟩; refine ⟨_, rfl, ?_⟩) | ((with_reducible refine gate_callee (f := 12) rfl ?_); refine goesL_ (some 11) rfl rfl Tryd.func12 (by kernel_rfl) rfl #[.int .i64 a0] rfl (by (try simp only [List.map_toArray, List.map_cons, List.map_nil]); first | done | rfl | (simp only [List.length_drop, List.length_take]; rfl)) ?_; (with_reducible refine (dioramaref08_Civil.calls k a0 t139 t140 t141 _ A4.out).mono ?_); rintro e w' ⟨rfl, ⟨nd, rfl⟩⟩; refine ⟨_, rfl, ?_⟩) | ((with_reducible refine gate_callee (f := 45) rfl ?_); refine goesL_ (some 16) rfl rfl Tryd.func45 (by kernel_rfl) rfl #[.int .i64 t139, .int .i64 4] rfl (by (try simp only [List.map_toArray, List.map_cons, List.map_nil]); first | done | rfl | (simp only [List.length_drop, List.length_take]; rfl)) ?_; (with_reducible refine (dioramaref08_digits.calls k t139 4 t142 _ A5.out).mono ?_); rintro e w12 ⟨rfl, hb⟩; refine ⟨_, rfl, ?_⟩; have n0_ := Aside0.mk (below_step (by repeat (first | (with_reducible first | exact HB.out | apply below_alloc | apply pw_below_drewN | apply below_drew1) | exact HB.out)) hb); clear HB; have HB := n0_; clear n0_; (try clear hb); (try clear hb2); (try clear hk); (try clear hi)) | ((with_reducible refine gate_callee (f := 45) rfl ?_); refine goesL_ (some 19) rfl rfl Tryd.func45 (by kernel_rfl) rfl #[.int .i64 t140, .int .i64 2] rfl (by (try simp only [List.map_toArray, List.map_cons, List.map_nil]); first | done | rfl | (simp only [List.length_drop, List.length_take]; rfl)) ?_; (with_reducible refine (dioramaref08_digits.calls k t140 2 t143 _ A7.out).mono ?_); rintro e w13 ⟨rfl, hb⟩; refine ⟨_, rfl, ?_⟩; have n0_ := Aside0.mk (below_step (by repeat (first | (with_reducible first | exact HB.out | apply below_alloc | apply pw_below_drewN | apply below_drew1) | exact HB.out)) hb); clear HB; have HB := n0_; clear n0_; (try clear hb); (try clear hb2); (try clear hk); (try clear hi)) | ((with_reducible refine gate_callee (f := 45) rfl ?_); refine goesL_ (some 23) rfl rfl Tryd.func45 (by kernel_rfl) rfl #[.int .i64 t141, .int .i64 2] rfl (by (try simp only [List.map_toArray, List.map_cons, List.map_nil]); first | done | rfl | (simp only [List.length_drop, List.length_take]; rfl)) ?_; (with_reducible refine (dioramaref08_digits.calls k t141 2 t144 _ A10.out).mono ?_); rintro e w14 ⟨rfl, hb⟩; refine ⟨_, rfl, ?_⟩; have n0_ := Aside0.mk (below_step (by repeat (first | (with_reducible first | exact HB.out | apply below_alloc | apply pw_below_drewN | apply below_drew1) | exact HB.out)) hb); clear HB; have HB := n0_; clear n0_; (try clear hb); (try clear hb2); (try clear hk); (try clear hi)))
            go_ret
            exact ⟨by first | rfl | (simp [errW_none, errW_some] <;> rfl) | (simp [*, errW_none, errW_some] <;> rfl), by repeat (first | (with_reducible first | exact HB.out | apply below_alloc | apply pw_below_drewN | apply below_drew1) | exact HB.out)⟩
          · rw [if_neg c11] at H
            exact absurd H (by simp)
        · rw [if_neg c9] at H
          exact absurd H (by simp)
      · rw [if_neg c8] at H
        exact absurd H (by simp)
    · rw [if_neg c6] at H
      exact absurd H (by simp)
  · replace c3 := Bool.eq_false_iff.mpr c3
    subst c3
    have H1 : (some (⟨#[]⟩ : ByteArray)) = some r := by rw [if_neg (show ¬ (false = true) by decide)] at H; exact H
    clear H
    have H := H1
    clear H1
    obtain rfl := Option.some.inj H
    go_enter Tryd.func16, Tryd.ntmps16
    go_wp2_with (first | ((with_reducible refine gate_callee (f := 39) rfl ?_); refine goesL_ (some 7) rfl rfl Tryd.func39 (by kernel_rfl) rfl #[.int .i64 a0] rfl (by (try simp only [List.map_toArray, List.map_cons, List.map_nil]); first | done | rfl | (simp only [List.length_drop, List.length_take]; rfl)) ?_; (with_reducible refine (dioramaref08_Known.calls a0 false _ A2.out).mono ?_); rintro e w' ⟨rfl, ⟨nd, rfl⟩⟩; refine ⟨_, rfl, ?_⟩))
    go_ret
    exact ⟨by first | rfl | (simp [errW_none, errW_some] <;> rfl) | (simp [*, errW_none, errW_some] <;> rfl), by repeat (first | (with_reducible first | exact HB.out | apply below_alloc | apply pw_below_drewN | apply below_drew1) | exact HB.out)⟩

end Go.Proofs.YtlfgjpidamkpdaaDoor.Pc
