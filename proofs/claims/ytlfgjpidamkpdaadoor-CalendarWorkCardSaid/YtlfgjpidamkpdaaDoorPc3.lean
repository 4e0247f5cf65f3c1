/- The contracts of the functions that the laws reach, each over a plain Lean function, written by wip/ownprint.py of this claim's session. -/
import Derived.Test.YtlfgjpidamkpdaaDoorPc0
import Derived.Test.YtlfgjpidamkpdaaDoorPc1
import Derived.Test.YtlfgjpidamkpdaaDoorPc2
namespace Go.Proofs.YtlfgjpidamkpdaaDoor.Pc
open Go.RowKit Go.Proofs.YtlfgjpidamkpdaaDoorW.PrintWords Go.Proofs.YtlfgjpidamkpdaaDoorW.PrintLast Go.Proofs.YtlfgjpidamkpdaaDoorW.PrintMore
attribute [local go_sem] max2_int min2_int max_two min_two max_three min_three max_four min_four   -- for this text's walks alone
attribute [local go_sem high] binOp_leq_p
set_option linter.unusedVariables false
set_option linter.unusedSimpArgs false

/-! ### calendar_Day: function 18 -/
mutual
def calendar_Day.j0 : Nat → Int → Int → Int → Bool → Option (Int × Int)
  | 0, _, _, _, _ => none
  | k + 1, x0, x1, x2, x34 => if x34 = true then (some (0, 5)) else ((calendar_first.f x0).bind fun t146 => (calendar_Day.l0 k x0 x1 (wrap64 ((wrap64 (t146 + x2)) - 1)) 1))
def calendar_Day.l0 : Nat → Int → Int → Int → Int → Option (Int × Int)
  | 0, _, _, _, _ => none
  | k + 1, x0, x1, x8, x9 => if x9 < x1 then ((calendar_length.f x0 x9).bind fun t147 => (calendar_Day.l0 k x0 x1 (wrap64 (x8 + t147)) (wrap64 (x9 + 1)))) else (some (x8, 0))
end
def calendar_Day.f (k : Nat) (a0 : Int) (a1 : Int) (a2 : Int) : Option (Int × Int) := if a0 < 1600 then (calendar_Day.j0 k a0 a1 a2 true) else (if a0 ≥ 2400 then (calendar_Day.j0 k a0 a1 a2 true) else (if a1 < 1 then (calendar_Day.j0 k a0 a1 a2 true) else (if a1 > 12 then (calendar_Day.j0 k a0 a1 a2 true) else (if a2 < 1 then (calendar_Day.j0 k a0 a1 a2 true) else ((calendar_length.f a0 a1).bind fun t145 => (calendar_Day.j0 k a0 a1 a2 (decide (a2 > t145))))))))
theorem calendar_Day.mono_l : ∀ k, (∀ y0 y1 y2 y3, LeO (calendar_Day.j0 k y0 y1 y2 y3) (calendar_Day.j0 (k + 1) y0 y1 y2 y3)) ∧ (∀ y0 y1 y2 y3, LeO (calendar_Day.l0 k y0 y1 y2 y3) (calendar_Day.l0 (k + 1) y0 y1 y2 y3))
  | 0 => ⟨fun _ _ _ _ r h => by simp [calendar_Day.j0] at h, fun _ _ _ _ r h => by simp [calendar_Day.l0] at h⟩
  | k + 1 => by
    obtain ⟨ih0, ih1⟩ := calendar_Day.mono_l k
    refine ⟨?_, ?_⟩
    · intro y0 y1 y2 y3
      unfold calendar_Day.j0
      repeat' first
      | (with_reducible exact ih0 _ _ _ _)
      | (with_reducible exact ih1 _ _ _ _)
      | (with_reducible exact LeO.refl _)
      | (with_reducible exact LeO.none _)
      | (with_reducible refine LeO.ite ?_ ?_)
      | (with_reducible refine LeO.bind ?_ (fun _ => ?_))
      | exact ih0 _ _ _ _
      | exact ih1 _ _ _ _
      | exact LeO.none _
      | refine LeO.ite ?_ ?_
      | refine LeO.bind ?_ (fun _ => ?_)
    · intro y0 y1 y2 y3
      unfold calendar_Day.l0
      repeat' first
      | (with_reducible exact ih0 _ _ _ _)
      | (with_reducible exact ih1 _ _ _ _)
      | (with_reducible exact LeO.refl _)
      | (with_reducible exact LeO.none _)
      | (with_reducible refine LeO.ite ?_ ?_)
      | (with_reducible refine LeO.bind ?_ (fun _ => ?_))
      | exact ih0 _ _ _ _
      | exact ih1 _ _ _ _
      | exact LeO.none _
      | refine LeO.ite ?_ ?_
      | refine LeO.bind ?_ (fun _ => ?_)
theorem calendar_Day.mono : ∀ a0 a1 a2 k, LeO (calendar_Day.f k a0 a1 a2) (calendar_Day.f (k + 1) a0 a1 a2) := by
  intro a0 a1 a2 k
  obtain ⟨ih0, ih1⟩ := calendar_Day.mono_l k
  unfold calendar_Day.f
  repeat' first
      | (with_reducible exact ih0 _ _ _ _)
      | (with_reducible exact ih1 _ _ _ _)
      | (with_reducible exact LeO.refl _)
      | (with_reducible exact LeO.none _)
      | (with_reducible refine LeO.ite ?_ ?_)
      | (with_reducible refine LeO.bind ?_ (fun _ => ?_))
      | exact ih0 _ _ _ _
      | exact ih1 _ _ _ _
      | exact LeO.none _
      | refine LeO.ite ?_ ?_
      | refine LeO.bind ?_ (fun _ => ?_)
set_option maxHeartbeats 8000000 in
set_option maxRecDepth 100000 in
theorem calendar_Day.calls (k : Nat) (a0 : Int) (a1 : Int) (a2 : Int) (r1 : Int) (r2 : Int) (w : World) (h : calendar_Day.f k a0 a1 a2 = some (r1, r2)) :
    Calls Tryd.prog 18 #[.int .i64 a0, .int .i64 a1, .int .i64 a2] w fun e w' => e = .returned (.tuple #[.int .i64 r1, .int .i64 r2]) ∧ Below w.heap.size w w' := by
  have HB := Aside0.mk (Below.refl w.heap.size w)
  have H : (if a0 < 1600 then (calendar_Day.j0 k a0 a1 a2 true) else (if a0 ≥ 2400 then (calendar_Day.j0 k a0 a1 a2 true) else (if a1 < 1 then (calendar_Day.j0 k a0 a1 a2 true) else (if a1 > 12 then (calendar_Day.j0 k a0 a1 a2 true) else (if a2 < 1 then (calendar_Day.j0 k a0 a1 a2 true) else ((calendar_length.f a0 a1).bind fun t145 => (calendar_Day.j0 k a0 a1 a2 (decide (a2 > t145))))))))) = some (r1, r2) := h
  clear h
  have HC4 := Aside0.mk H
  clear H
  go_enter Tryd.func18, Tryd.ntmps18
  go_upto_region 1 with (fail)
  go_cut [34] (fun v34 wc => ∃ (kq : Nat) (x34_3 : Bool), v34 = .bool x34_3 ∧ Aside0 (calendar_Day.j0 kq a0 a1 a2 x34_3 = some (r1, r2)) ∧ Aside0 (kq ≤ k) ∧ Aside0 (Below w.heap.size w wc))
  case first =>
    have H := HC4.out
    clear HC4
    by_cases c5 : a0 < 1600
    · rw [if_pos c5] at H
      have c5b0 : decide (a0 < 1600) = true := decide_eq_true c5
      clear c5
      (first | rw [c5b0] | (simp only [i64_w, i32_w]; rw [c5b0]) | skip)
      have H' := Aside0.mk H
      clear H
      go_wp2
      go_meet
      case rel => exact ⟨_, (true), (by first | rfl | (simp; done) | (simp [*]; done)), H', ⟨by first | omega | exact Nat.le_refl _⟩, ⟨by repeat (first | (with_reducible first | exact HB.out | apply below_alloc | apply pw_below_drewN | apply below_drew1) | exact HB.out)⟩⟩
    · rw [if_neg c5] at H
      have c5b0 : decide (a0 < 1600) = false := decide_eq_false c5
      clear c5
      (first | rw [c5b0] | (simp only [i64_w, i32_w]; rw [c5b0]) | skip)
      by_cases c6 : a0 ≥ 2400
      · rw [if_pos c6] at H
        have c6b0 : decide (2400 ≤ a0) = true := decide_eq_true c6
        clear c6
        have H' := Aside0.mk H
        clear H
        go_wp2
        go_meet
        case rel => exact ⟨_, (true), (by first | rfl | (simp; done) | (simp [*]; done)), H', ⟨by first | omega | exact Nat.le_refl _⟩, ⟨by repeat (first | (with_reducible first | exact HB.out | apply below_alloc | apply pw_below_drewN | apply below_drew1) | exact HB.out)⟩⟩
      · rw [if_neg c6] at H
        have c6b0 : decide (2400 ≤ a0) = false := decide_eq_false c6
        clear c6
        by_cases c7 : a1 < 1
        · rw [if_pos c7] at H
          have c7b0 : decide (a1 < 1) = true := decide_eq_true c7
          clear c7
          have H' := Aside0.mk H
          clear H
          go_wp2
          go_meet
          case rel => exact ⟨_, (true), (by first | rfl | (simp; done) | (simp [*]; done)), H', ⟨by first | omega | exact Nat.le_refl _⟩, ⟨by repeat (first | (with_reducible first | exact HB.out | apply below_alloc | apply pw_below_drewN | apply below_drew1) | exact HB.out)⟩⟩
        · rw [if_neg c7] at H
          have c7b0 : decide (a1 < 1) = false := decide_eq_false c7
          clear c7
          by_cases c8 : a1 > 12
          · rw [if_pos c8] at H
            have c8b0 : decide (12 < a1) = true := decide_eq_true c8
            clear c8
            have H' := Aside0.mk H
            clear H
            go_wp2
            go_meet
            case rel => exact ⟨_, (true), (by first | rfl | (simp; done) | (simp [*]; done)), H', ⟨by first | omega | exact Nat.le_refl _⟩, ⟨by repeat (first | (with_reducible first | exact HB.out | apply below_alloc | apply pw_below_drewN | apply below_drew1) | exact HB.out)⟩⟩
          · rw [if_neg c8] at H
            have c8b0 : decide (12 < a1) = false := decide_eq_false c8
            clear c8
            by_cases c9 : a2 < 1
            · rw [if_pos c9] at H
              have c9b0 : decide (a2 < 1) = true := decide_eq_true c9
              clear c9
              have H' := Aside0.mk H
              clear H
              go_wp2
              go_meet
              case rel => exact ⟨_, (true), (by first | rfl | (simp; done) | (simp [*]; done)), H', ⟨by first | omega | exact Nat.le_refl _⟩, ⟨by repeat (first | (with_reducible first | exact HB.out | apply below_alloc | apply pw_below_drewN | apply below_drew1) | exact HB.out)⟩⟩
            · rw [if_neg c9] at H
              have c9b0 : decide (a2 < 1) = false := decide_eq_false c9
              clear c9
              replace H := Option.bind_eq_some_iff.mp H
              obtain ⟨t145, A100, H⟩ := H
              replace H : (calendar_Day.j0 k a0 a1 a2 (decide (a2 > t145))) = some (r1, r2) := H
              have A10 := Aside0.mk A100
              clear A100
              have H' := Aside0.mk H
              clear H
              go_wp2_with (first | (go_at_call 38; (with_reducible refine (calendar_length.calls a0 a1 t145 _ A10.out).mono ?_); rintro e w11 ⟨rfl, hb⟩; have n0_ := Aside0.mk (below_step (by repeat (first | (with_reducible first | exact HB.out | apply below_alloc | apply pw_below_drewN | apply below_drew1) | exact HB.out)) hb); clear HB; have HB := n0_; clear n0_; (try clear hb); (try clear hb2); (try clear hk); (try clear hi)))
              go_meet
              case rel => exact ⟨_, (decide (a2 > t145)), (by first | rfl | (simp; done) | (simp [*]; done)), H', ⟨by first | omega | exact Nat.le_refl _⟩, ⟨by repeat (first | (with_reducible first | exact HB.out | apply below_alloc | apply pw_below_drewN | apply below_drew1) | exact HB.out)⟩⟩
  case rest =>
    clear HC4
    try clear c1
    try clear p2
    try clear c5
    try clear c5b0
    try clear c6
    try clear c6b0
    try clear c7
    try clear c7b0
    try clear c8
    try clear c8b0
    try clear c9
    try clear c9b0
    obtain ⟨kq, x34_3, rfl, HA, HJ3, HB⟩ := hcut
    cases kq with
    | zero => exact absurd HA.out (by simp [calendar_Day.j0])
    | succ kj3 =>
      have H := HA.out
      clear HA
      simp only [calendar_Day.j0] at H
      by_cases c12 : x34_3 = true
      · subst c12
        have H1 : (some (0, 5)) = some (r1, r2) := by rw [if_pos rfl] at H; exact H
        clear H
        have H := H1
        clear H1
        simp only [Option.some.injEq, Prod.mk.injEq] at H
        obtain ⟨rfl, rfl⟩ := H
        go_wp2
        go_ret2
        exact ⟨by first | rfl | (simp [errW_none, errW_some] <;> rfl) | (simp [*, errW_none, errW_some] <;> rfl), by repeat (first | (with_reducible first | exact HB.out | apply below_alloc | apply pw_below_drewN | apply below_drew1) | exact HB.out)⟩
      · replace c12 := Bool.eq_false_iff.mpr c12
        subst c12
        have H1 : ((calendar_first.f a0).bind fun t146 => (calendar_Day.l0 kj3 a0 a1 (wrap64 ((wrap64 (t146 + a2)) - 1)) 1)) = some (r1, r2) := by rw [if_neg (show ¬ (false = true) by decide)] at H; exact H
        clear H
        have H := H1
        clear H1
        replace H := Option.bind_eq_some_iff.mp H
        obtain ⟨t146, A130, H⟩ := H
        replace H : (calendar_Day.l0 kj3 a0 a1 (wrap64 ((wrap64 (t146 + a2)) - 1)) 1) = some (r1, r2) := H
        have A13 := Aside0.mk A130
        clear A130
        have H' := Aside0.mk H
        clear H
        go_wp2_with (first | ((with_reducible refine gate_callee (f := 37) rfl ?_); refine goesL_ (some 36) rfl rfl Tryd.func37 (by kernel_rfl) rfl #[.int .i64 a0] rfl (by (try simp only [List.map_toArray, List.map_cons, List.map_nil]); first | done | rfl | (simp only [List.length_drop, List.length_take]; rfl)) ?_; (with_reducible refine (calendar_first.calls a0 t146 _ A13.out).mono ?_); rintro e w14 ⟨rfl, hb⟩; refine ⟨_, rfl, ?_⟩; have n0_ := Aside0.mk (below_step (by repeat (first | (with_reducible first | exact HB.out | apply below_alloc | apply pw_below_drewN | apply below_drew1) | exact HB.out)) hb); clear HB; have HB := n0_; clear n0_; (try clear hb); (try clear hb2); (try clear hk); (try clear hi)))
        go_loopg [8, 9] kj3 (fun kq v8 v9 w' => ∃ (x8_2 : Int) (x9_2 : Int), v8 = .int .i64 x8_2 ∧ v9 = .int .i64 x9_2 ∧ Aside0 (calendar_Day.l0 kq a0 a1 x8_2 x9_2 = some (r1, r2)) ∧ Aside0 (kq ≤ kj3) ∧ Aside0 (Below w.heap.size w w'))
        case atStart => exact ⟨(wrap64 ((wrap64 (t146 + a2)) - 1)), (1), (by first | rfl | (simp; done) | (simp [*]; done)), (by first | rfl | (simp; done) | (simp [*]; done)), H', ⟨Nat.le_refl _⟩, ⟨by repeat (first | (with_reducible first | exact HB.out | apply below_alloc | apply pw_below_drewN | apply below_drew1) | exact HB.out)⟩⟩
        case round =>
          clear H'
          try clear c1
          try clear p2
          try clear c3
          try clear c5
          try clear c5b0
          try clear c6
          try clear c6b0
          try clear p6
          try clear c7
          try clear c7b0
          try clear c8
          try clear c8b0
          try clear c9
          try clear c9b0
          try clear c12
          try clear p2
          obtain ⟨x8_2, x9_2, rfl, rfl, HA, HK2, HB⟩ := hrel
          cases gk with
          | zero => exact absurd HA.out (by simp [calendar_Day.l0])
          | succ k2 =>
            have H := HA.out
            clear HA
            simp only [calendar_Day.l0] at H
            by_cases c15 : x9_2 < a1
            · rw [if_pos c15] at H
              have c15b0 : decide (x9_2 < a1) = true := decide_eq_true c15
              clear c15
              replace H := Option.bind_eq_some_iff.mp H
              obtain ⟨t147, A160, H⟩ := H
              replace H : (calendar_Day.l0 k2 a0 a1 (wrap64 (x8_2 + t147)) (wrap64 (x9_2 + 1))) = some (r1, r2) := H
              have A16 := Aside0.mk A160
              clear A160
              have H' := Aside0.mk H
              clear H
              go_wp2_with (first | ((with_reducible refine gate_callee (f := 38) rfl ?_); refine goesL_ (some 48) rfl rfl Tryd.func38 (by kernel_rfl) rfl #[.int .i64 a0, .int .i64 x9_2] rfl (by (try simp only [List.map_toArray, List.map_cons, List.map_nil]); first | done | rfl | (simp only [List.length_drop, List.length_take]; rfl)) ?_; (with_reducible refine (calendar_length.calls a0 x9_2 t147 _ A16.out).mono ?_); rintro e w17 ⟨rfl, hb⟩; refine ⟨_, rfl, ?_⟩; have n0_ := Aside0.mk (below_step (by repeat (first | (with_reducible first | exact HB.out | apply below_alloc | apply pw_below_drewN | apply below_drew1) | exact HB.out)) hb); clear HB; have HB := n0_; clear n0_; (try clear hb); (try clear hb2); (try clear hk); (try clear hi)))
              go_roundg k2
              case measure => have := HJ3.out; have := HK2.out; omega
              case rel => exact ⟨(wrap64 (x8_2 + t147)), (wrap64 (x9_2 + 1)), (by first | rfl | (simp; done) | (simp [*]; done)), (by first | rfl | (simp; done) | (simp [*]; done)), H', ⟨by have := HJ3.out; have := HK2.out; omega⟩, ⟨by repeat (first | (with_reducible first | exact HB.out | apply below_alloc | apply pw_below_drewN | apply below_drew1) | exact HB.out)⟩⟩
            · rw [if_neg c15] at H
              have c15b0 : decide (x9_2 < a1) = false := decide_eq_false c15
              clear c15
              simp only [Option.some.injEq, Prod.mk.injEq] at H
              obtain ⟨rfl, rfl⟩ := H
              go_wp2
              go_ret2
              exact ⟨by first | rfl | (simp [errW_none, errW_some] <;> rfl) | (simp [*, errW_none, errW_some] <;> rfl), by repeat (first | (with_reducible first | exact HB.out | apply below_alloc | apply pw_below_drewN | apply below_drew1) | exact HB.out)⟩

/-! ### calendar_Parse: function 22 -/
/-- Atoi as a plain function: the number, where it is one -/
def numOf (s : ByteArray) : Option Int := match Lib.atoiAll s.data.toList with
  | .ok v => some v
  | _ => none
theorem Atoi_ok (s : ByteArray) (v : Int) (w : World) (hv : LaidAt w) (B : Hid (numOf s = some v)) (hs : s.size ≤ 1000) :
    Calls Tryd.prog 46 #[.string s] w fun e w' => e = .returned (.tuple #[.int .i64 v, .nilIface]) ∧ Below w.heap.size w w' := by
  refine (Atoi_any s (by omega) w hv).mono ?_
  intro e w' h
  have B := B.out
  unfold numOf at B
  rcases h with ⟨v1, hv1, he, hb⟩ | ⟨hn, _⟩
  · rw [hv1] at B
    obtain rfl := Option.some.inj B
    exact ⟨he, hb⟩
  · cases hq : Lib.atoiAll s.data.toList with
    | ok x => exact absurd hq (hn x)
    | _ => rw [hq] at B; cases B
theorem Atoi_no (s : ByteArray) (w : World) (hv : LaidAt w) (B : Hid (numOf s = none)) (hs : s.size ≤ 1000) :
    Calls Tryd.prog 46 #[.string s] w fun e w' => ∃ (n : Int) (N : Nat), e = .returned (.tuple #[.int .i64 n, .iface 79 (.pointer (some ⟨N, 0, none⟩))]) ∧ Below w.heap.size w w' := by
  refine (Atoi_any s (by omega) w hv).mono ?_
  intro e w' h
  have B := B.out
  unfold numOf at B
  rcases h with ⟨v1, hv1, he, hb⟩ | ⟨hn, n, N, he, hb⟩
  · rw [hv1] at B
    cases B
  · exact ⟨n, N, he, hb⟩

def calendar_Parse.f (k : Nat) (s : ByteArray) : Option (Int × Int) :=
  if s.size = 10 then
    match numOf (s.extract 0 4), numOf (s.extract 5 7), numOf (s.extract 8 s.size) with
    | some y, some m, some d => (calendar_Day.f k y m d).bind fun b => if b.2 = 0 then (calendar_Text.f k b.1).bind fun t => if t.toList = s.toList then some (b.1, 0) else some (0, 2) else some (0, 2)
    | _, _, _ => some (0, 2)
  else some (0, 2)
theorem calendar_Parse.mono : ∀ a0 k, LeO (calendar_Parse.f k a0) (calendar_Parse.f (k + 1) a0) := by
  intro a0 k
  unfold calendar_Parse.f
  refine LeO.ite ?_ (LeO.refl _)
  split
  · refine LeO.bind (calendar_Day.mono _ _ _ _) (fun _ => ?_)
    refine LeO.ite ?_ (LeO.refl _)
    exact LeO.bind (calendar_Text.mono _ _) (fun _ => LeO.refl _)
  · exact LeO.refl _

set_option maxHeartbeats 2000000 in
set_option maxRecDepth 100000 in
theorem Parse_badyyn (s : ByteArray) (hs : s.size = 10) (w : World) (hv : LaidAt w) (v1 : Int) (v2 : Int) (B1 : Hid (numOf (s.extract 0 4) = some v1)) (B2 : Hid (numOf (s.extract 5 7) = some v2)) (B3 : Hid (numOf (s.extract 8 10) = none)) :
    Calls Tryd.prog 22 #[.string s] w (RetBelow (.tuple #[.int .i64 0, .int .i64 2]) w) := by
  have l1 : (s.extract 0 4).size ≤ 1000 := by rw [ByteArray.size_extract]; omega
  have l2 : (s.extract 5 7).size ≤ 1000 := by rw [ByteArray.size_extract]; omega
  have l3 : (s.extract 8 10).size ≤ 1000 := by rw [ByteArray.size_extract]; omega
  have HB := Aside0.mk (Below.refl w.heap.size w)
  go_enter Tryd.func22, Tryd.ntmps22
  go_wp2_with (first | (go_at_call 46; (with_reducible refine (Atoi_ok (s.extract 0 4) v1 _ (hv.step (by repeat (first | (with_reducible first | exact HB.out | apply below_alloc | apply pw_below_drewN | apply below_drew1) | exact HB.out))) B1 l1).mono ?_); rintro e w1 ⟨rfl, hb⟩; have n0_ := Aside0.mk (below_step (by repeat (first | (with_reducible first | exact HB.out | apply below_alloc | apply pw_below_drewN | apply below_drew1) | exact HB.out)) hb); clear HB hb; have HB := n0_; clear n0_) | (go_at_call 46; (with_reducible refine (Atoi_ok (s.extract 5 7) v2 _ (hv.step (by repeat (first | (with_reducible first | exact HB.out | apply below_alloc | apply pw_below_drewN | apply below_drew1) | exact HB.out))) B2 l2).mono ?_); rintro e w1 ⟨rfl, hb⟩; have n0_ := Aside0.mk (below_step (by repeat (first | (with_reducible first | exact HB.out | apply below_alloc | apply pw_below_drewN | apply below_drew1) | exact HB.out)) hb); clear HB hb; have HB := n0_; clear n0_) | (go_at_call 46; (with_reducible refine (Atoi_no (s.extract 8 10) _ (hv.step (by repeat (first | (with_reducible first | exact HB.out | apply below_alloc | apply pw_below_drewN | apply below_drew1) | exact HB.out))) B3 l3).mono ?_); rintro e w1 ⟨nn, NN, rfl, hb⟩; have n0_ := Aside0.mk (below_step (by repeat (first | (with_reducible first | exact HB.out | apply below_alloc | apply pw_below_drewN | apply below_drew1) | exact HB.out)) hb); clear HB hb; have HB := n0_; clear n0_))
  go_ret2
  exact RetBelow.of rfl rfl HB.out

set_option maxHeartbeats 2000000 in
set_option maxRecDepth 100000 in
theorem Parse_badyny (s : ByteArray) (hs : s.size = 10) (w : World) (hv : LaidAt w) (v1 : Int) (v3 : Int) (B1 : Hid (numOf (s.extract 0 4) = some v1)) (B2 : Hid (numOf (s.extract 5 7) = none)) (B3 : Hid (numOf (s.extract 8 10) = some v3)) :
    Calls Tryd.prog 22 #[.string s] w (RetBelow (.tuple #[.int .i64 0, .int .i64 2]) w) := by
  have l1 : (s.extract 0 4).size ≤ 1000 := by rw [ByteArray.size_extract]; omega
  have l2 : (s.extract 5 7).size ≤ 1000 := by rw [ByteArray.size_extract]; omega
  have l3 : (s.extract 8 10).size ≤ 1000 := by rw [ByteArray.size_extract]; omega
  have HB := Aside0.mk (Below.refl w.heap.size w)
  go_enter Tryd.func22, Tryd.ntmps22
  go_wp2_with (first | (go_at_call 46; (with_reducible refine (Atoi_ok (s.extract 0 4) v1 _ (hv.step (by repeat (first | (with_reducible first | exact HB.out | apply below_alloc | apply pw_below_drewN | apply below_drew1) | exact HB.out))) B1 l1).mono ?_); rintro e w1 ⟨rfl, hb⟩; have n0_ := Aside0.mk (below_step (by repeat (first | (with_reducible first | exact HB.out | apply below_alloc | apply pw_below_drewN | apply below_drew1) | exact HB.out)) hb); clear HB hb; have HB := n0_; clear n0_) | (go_at_call 46; (with_reducible refine (Atoi_no (s.extract 5 7) _ (hv.step (by repeat (first | (with_reducible first | exact HB.out | apply below_alloc | apply pw_below_drewN | apply below_drew1) | exact HB.out))) B2 l2).mono ?_); rintro e w1 ⟨nn, NN, rfl, hb⟩; have n0_ := Aside0.mk (below_step (by repeat (first | (with_reducible first | exact HB.out | apply below_alloc | apply pw_below_drewN | apply below_drew1) | exact HB.out)) hb); clear HB hb; have HB := n0_; clear n0_) | (go_at_call 46; (with_reducible refine (Atoi_ok (s.extract 8 10) v3 _ (hv.step (by repeat (first | (with_reducible first | exact HB.out | apply below_alloc | apply pw_below_drewN | apply below_drew1) | exact HB.out))) B3 l3).mono ?_); rintro e w1 ⟨rfl, hb⟩; have n0_ := Aside0.mk (below_step (by repeat (first | (with_reducible first | exact HB.out | apply below_alloc | apply pw_below_drewN | apply below_drew1) | exact HB.out)) hb); clear HB hb; have HB := n0_; clear n0_))
  go_ret2
  exact RetBelow.of rfl rfl HB.out

set_option maxHeartbeats 2000000 in
set_option maxRecDepth 100000 in
theorem Parse_badynn (s : ByteArray) (hs : s.size = 10) (w : World) (hv : LaidAt w) (v1 : Int) (B1 : Hid (numOf (s.extract 0 4) = some v1)) (B2 : Hid (numOf (s.extract 5 7) = none)) (B3 : Hid (numOf (s.extract 8 10) = none)) :
    Calls Tryd.prog 22 #[.string s] w (RetBelow (.tuple #[.int .i64 0, .int .i64 2]) w) := by
  have l1 : (s.extract 0 4).size ≤ 1000 := by rw [ByteArray.size_extract]; omega
  have l2 : (s.extract 5 7).size ≤ 1000 := by rw [ByteArray.size_extract]; omega
  have l3 : (s.extract 8 10).size ≤ 1000 := by rw [ByteArray.size_extract]; omega
  have HB := Aside0.mk (Below.refl w.heap.size w)
  go_enter Tryd.func22, Tryd.ntmps22
  go_wp2_with (first | (go_at_call 46; (with_reducible refine (Atoi_ok (s.extract 0 4) v1 _ (hv.step (by repeat (first | (with_reducible first | exact HB.out | apply below_alloc | apply pw_below_drewN | apply below_drew1) | exact HB.out))) B1 l1).mono ?_); rintro e w1 ⟨rfl, hb⟩; have n0_ := Aside0.mk (below_step (by repeat (first | (with_reducible first | exact HB.out | apply below_alloc | apply pw_below_drewN | apply below_drew1) | exact HB.out)) hb); clear HB hb; have HB := n0_; clear n0_) | (go_at_call 46; (with_reducible refine (Atoi_no (s.extract 5 7) _ (hv.step (by repeat (first | (with_reducible first | exact HB.out | apply below_alloc | apply pw_below_drewN | apply below_drew1) | exact HB.out))) B2 l2).mono ?_); rintro e w1 ⟨nn, NN, rfl, hb⟩; have n0_ := Aside0.mk (below_step (by repeat (first | (with_reducible first | exact HB.out | apply below_alloc | apply pw_below_drewN | apply below_drew1) | exact HB.out)) hb); clear HB hb; have HB := n0_; clear n0_) | (go_at_call 46; (with_reducible refine (Atoi_no (s.extract 8 10) _ (hv.step (by repeat (first | (with_reducible first | exact HB.out | apply below_alloc | apply pw_below_drewN | apply below_drew1) | exact HB.out))) B3 l3).mono ?_); rintro e w1 ⟨nn, NN, rfl, hb⟩; have n0_ := Aside0.mk (below_step (by repeat (first | (with_reducible first | exact HB.out | apply below_alloc | apply pw_below_drewN | apply below_drew1) | exact HB.out)) hb); clear HB hb; have HB := n0_; clear n0_))
  go_ret2
  exact RetBelow.of rfl rfl HB.out

set_option maxHeartbeats 2000000 in
set_option maxRecDepth 100000 in
theorem Parse_badnyy (s : ByteArray) (hs : s.size = 10) (w : World) (hv : LaidAt w) (v2 : Int) (v3 : Int) (B1 : Hid (numOf (s.extract 0 4) = none)) (B2 : Hid (numOf (s.extract 5 7) = some v2)) (B3 : Hid (numOf (s.extract 8 10) = some v3)) :
    Calls Tryd.prog 22 #[.string s] w (RetBelow (.tuple #[.int .i64 0, .int .i64 2]) w) := by
  have l1 : (s.extract 0 4).size ≤ 1000 := by rw [ByteArray.size_extract]; omega
  have l2 : (s.extract 5 7).size ≤ 1000 := by rw [ByteArray.size_extract]; omega
  have l3 : (s.extract 8 10).size ≤ 1000 := by rw [ByteArray.size_extract]; omega
  have HB := Aside0.mk (Below.refl w.heap.size w)
  go_enter Tryd.func22, Tryd.ntmps22
  go_wp2_with (first | (go_at_call 46; (with_reducible refine (Atoi_no (s.extract 0 4) _ (hv.step (by repeat (first | (with_reducible first | exact HB.out | apply below_alloc | apply pw_below_drewN | apply below_drew1) | exact HB.out))) B1 l1).mono ?_); rintro e w1 ⟨nn, NN, rfl, hb⟩; have n0_ := Aside0.mk (below_step (by repeat (first | (with_reducible first | exact HB.out | apply below_alloc | apply pw_below_drewN | apply below_drew1) | exact HB.out)) hb); clear HB hb; have HB := n0_; clear n0_) | (go_at_call 46; (with_reducible refine (Atoi_ok (s.extract 5 7) v2 _ (hv.step (by repeat (first | (with_reducible first | exact HB.out | apply below_alloc | apply pw_below_drewN | apply below_drew1) | exact HB.out))) B2 l2).mono ?_); rintro e w1 ⟨rfl, hb⟩; have n0_ := Aside0.mk (below_step (by repeat (first | (with_reducible first | exact HB.out | apply below_alloc | apply pw_below_drewN | apply below_drew1) | exact HB.out)) hb); clear HB hb; have HB := n0_; clear n0_) | (go_at_call 46; (with_reducible refine (Atoi_ok (s.extract 8 10) v3 _ (hv.step (by repeat (first | (with_reducible first | exact HB.out | apply below_alloc | apply pw_below_drewN | apply below_drew1) | exact HB.out))) B3 l3).mono ?_); rintro e w1 ⟨rfl, hb⟩; have n0_ := Aside0.mk (below_step (by repeat (first | (with_reducible first | exact HB.out | apply below_alloc | apply pw_below_drewN | apply below_drew1) | exact HB.out)) hb); clear HB hb; have HB := n0_; clear n0_))
  go_ret2
  exact RetBelow.of rfl rfl HB.out

set_option maxHeartbeats 2000000 in
set_option maxRecDepth 100000 in
theorem Parse_badnyn (s : ByteArray) (hs : s.size = 10) (w : World) (hv : LaidAt w) (v2 : Int) (B1 : Hid (numOf (s.extract 0 4) = none)) (B2 : Hid (numOf (s.extract 5 7) = some v2)) (B3 : Hid (numOf (s.extract 8 10) = none)) :
    Calls Tryd.prog 22 #[.string s] w (RetBelow (.tuple #[.int .i64 0, .int .i64 2]) w) := by
  have l1 : (s.extract 0 4).size ≤ 1000 := by rw [ByteArray.size_extract]; omega
  have l2 : (s.extract 5 7).size ≤ 1000 := by rw [ByteArray.size_extract]; omega
  have l3 : (s.extract 8 10).size ≤ 1000 := by rw [ByteArray.size_extract]; omega
  have HB := Aside0.mk (Below.refl w.heap.size w)
  go_enter Tryd.func22, Tryd.ntmps22
  go_wp2_with (first | (go_at_call 46; (with_reducible refine (Atoi_no (s.extract 0 4) _ (hv.step (by repeat (first | (with_reducible first | exact HB.out | apply below_alloc | apply pw_below_drewN | apply below_drew1) | exact HB.out))) B1 l1).mono ?_); rintro e w1 ⟨nn, NN, rfl, hb⟩; have n0_ := Aside0.mk (below_step (by repeat (first | (with_reducible first | exact HB.out | apply below_alloc | apply pw_below_drewN | apply below_drew1) | exact HB.out)) hb); clear HB hb; have HB := n0_; clear n0_) | (go_at_call 46; (with_reducible refine (Atoi_ok (s.extract 5 7) v2 _ (hv.step (by repeat (first | (with_reducible first | exact HB.out | apply below_alloc | apply pw_below_drewN | apply below_drew1) | exact HB.out))) B2 l2).mono ?_); rintro e w1 ⟨rfl, hb⟩; have n0_ := Aside0.mk (below_step (by repeat (first | (with_reducible first | exact HB.out | apply below_alloc | apply pw_below_drewN | apply below_drew1) | exact HB.out)) hb); clear HB hb; have HB := n0_; clear n0_) | (go_at_call 46; (with_reducible refine (Atoi_no (s.extract 8 10) _ (hv.step (by repeat (first | (with_reducible first | exact HB.out | apply below_alloc | apply pw_below_drewN | apply below_drew1) | exact HB.out))) B3 l3).mono ?_); rintro e w1 ⟨nn, NN, rfl, hb⟩; have n0_ := Aside0.mk (below_step (by repeat (first | (with_reducible first | exact HB.out | apply below_alloc | apply pw_below_drewN | apply below_drew1) | exact HB.out)) hb); clear HB hb; have HB := n0_; clear n0_))
  go_ret2
  exact RetBelow.of rfl rfl HB.out

set_option maxHeartbeats 2000000 in
set_option maxRecDepth 100000 in
theorem Parse_badnny (s : ByteArray) (hs : s.size = 10) (w : World) (hv : LaidAt w) (v3 : Int) (B1 : Hid (numOf (s.extract 0 4) = none)) (B2 : Hid (numOf (s.extract 5 7) = none)) (B3 : Hid (numOf (s.extract 8 10) = some v3)) :
    Calls Tryd.prog 22 #[.string s] w (RetBelow (.tuple #[.int .i64 0, .int .i64 2]) w) := by
  have l1 : (s.extract 0 4).size ≤ 1000 := by rw [ByteArray.size_extract]; omega
  have l2 : (s.extract 5 7).size ≤ 1000 := by rw [ByteArray.size_extract]; omega
  have l3 : (s.extract 8 10).size ≤ 1000 := by rw [ByteArray.size_extract]; omega
  have HB := Aside0.mk (Below.refl w.heap.size w)
  go_enter Tryd.func22, Tryd.ntmps22
  go_wp2_with (first | (go_at_call 46; (with_reducible refine (Atoi_no (s.extract 0 4) _ (hv.step (by repeat (first | (with_reducible first | exact HB.out | apply below_alloc | apply pw_below_drewN | apply below_drew1) | exact HB.out))) B1 l1).mono ?_); rintro e w1 ⟨nn, NN, rfl, hb⟩; have n0_ := Aside0.mk (below_step (by repeat (first | (with_reducible first | exact HB.out | apply below_alloc | apply pw_below_drewN | apply below_drew1) | exact HB.out)) hb); clear HB hb; have HB := n0_; clear n0_) | (go_at_call 46; (with_reducible refine (Atoi_no (s.extract 5 7) _ (hv.step (by repeat (first | (with_reducible first | exact HB.out | apply below_alloc | apply pw_below_drewN | apply below_drew1) | exact HB.out))) B2 l2).mono ?_); rintro e w1 ⟨nn, NN, rfl, hb⟩; have n0_ := Aside0.mk (below_step (by repeat (first | (with_reducible first | exact HB.out | apply below_alloc | apply pw_below_drewN | apply below_drew1) | exact HB.out)) hb); clear HB hb; have HB := n0_; clear n0_) | (go_at_call 46; (with_reducible refine (Atoi_ok (s.extract 8 10) v3 _ (hv.step (by repeat (first | (with_reducible first | exact HB.out | apply below_alloc | apply pw_below_drewN | apply below_drew1) | exact HB.out))) B3 l3).mono ?_); rintro e w1 ⟨rfl, hb⟩; have n0_ := Aside0.mk (below_step (by repeat (first | (with_reducible first | exact HB.out | apply below_alloc | apply pw_below_drewN | apply below_drew1) | exact HB.out)) hb); clear HB hb; have HB := n0_; clear n0_))
  go_ret2
  exact RetBelow.of rfl rfl HB.out

set_option maxHeartbeats 2000000 in
set_option maxRecDepth 100000 in
theorem Parse_badnnn (s : ByteArray) (hs : s.size = 10) (w : World) (hv : LaidAt w) (B1 : Hid (numOf (s.extract 0 4) = none)) (B2 : Hid (numOf (s.extract 5 7) = none)) (B3 : Hid (numOf (s.extract 8 10) = none)) :
    Calls Tryd.prog 22 #[.string s] w (RetBelow (.tuple #[.int .i64 0, .int .i64 2]) w) := by
  have l1 : (s.extract 0 4).size ≤ 1000 := by rw [ByteArray.size_extract]; omega
  have l2 : (s.extract 5 7).size ≤ 1000 := by rw [ByteArray.size_extract]; omega
  have l3 : (s.extract 8 10).size ≤ 1000 := by rw [ByteArray.size_extract]; omega
  have HB := Aside0.mk (Below.refl w.heap.size w)
  go_enter Tryd.func22, Tryd.ntmps22
  go_wp2_with (first | (go_at_call 46; (with_reducible refine (Atoi_no (s.extract 0 4) _ (hv.step (by repeat (first | (with_reducible first | exact HB.out | apply below_alloc | apply pw_below_drewN | apply below_drew1) | exact HB.out))) B1 l1).mono ?_); rintro e w1 ⟨nn, NN, rfl, hb⟩; have n0_ := Aside0.mk (below_step (by repeat (first | (with_reducible first | exact HB.out | apply below_alloc | apply pw_below_drewN | apply below_drew1) | exact HB.out)) hb); clear HB hb; have HB := n0_; clear n0_) | (go_at_call 46; (with_reducible refine (Atoi_no (s.extract 5 7) _ (hv.step (by repeat (first | (with_reducible first | exact HB.out | apply below_alloc | apply pw_below_drewN | apply below_drew1) | exact HB.out))) B2 l2).mono ?_); rintro e w1 ⟨nn, NN, rfl, hb⟩; have n0_ := Aside0.mk (below_step (by repeat (first | (with_reducible first | exact HB.out | apply below_alloc | apply pw_below_drewN | apply below_drew1) | exact HB.out)) hb); clear HB hb; have HB := n0_; clear n0_) | (go_at_call 46; (with_reducible refine (Atoi_no (s.extract 8 10) _ (hv.step (by repeat (first | (with_reducible first | exact HB.out | apply below_alloc | apply pw_below_drewN | apply below_drew1) | exact HB.out))) B3 l3).mono ?_); rintro e w1 ⟨nn, NN, rfl, hb⟩; have n0_ := Aside0.mk (below_step (by repeat (first | (with_reducible first | exact HB.out | apply below_alloc | apply pw_below_drewN | apply below_drew1) | exact HB.out)) hb); clear HB hb; have HB := n0_; clear n0_))
  go_ret2
  exact RetBelow.of rfl rfl HB.out

set_option maxHeartbeats 2000000 in
set_option maxRecDepth 100000 in
theorem Parse_noday (k : Nat) (s : ByteArray) (hs : s.size = 10) (w : World) (hv : LaidAt w) (v1 v2 v3 : Int) (B1 : Hid (numOf (s.extract 0 4) = some v1)) (B2 : Hid (numOf (s.extract 5 7) = some v2)) (B3 : Hid (numOf (s.extract 8 10) = some v3)) (n c : Int) (A1 : Aside0 (calendar_Day.f k v1 v2 v3 = some (n, c))) (hc : (c != 0) = true) (hc2 : (c == 0) = false) :
    Calls Tryd.prog 22 #[.string s] w (RetBelow (.tuple #[.int .i64 0, .int .i64 2]) w) := by
  have l1 : (s.extract 0 4).size ≤ 1000 := by rw [ByteArray.size_extract]; omega
  have l2 : (s.extract 5 7).size ≤ 1000 := by rw [ByteArray.size_extract]; omega
  have l3 : (s.extract 8 10).size ≤ 1000 := by rw [ByteArray.size_extract]; omega
  have HB := Aside0.mk (Below.refl w.heap.size w)
  go_enter Tryd.func22, Tryd.ntmps22
  go_wp2_with (first | (go_at_call 46; (with_reducible refine (Atoi_ok (s.extract 0 4) v1 _ (hv.step (by repeat (first | (with_reducible first | exact HB.out | apply below_alloc | apply pw_below_drewN | apply below_drew1) | exact HB.out))) B1 l1).mono ?_); rintro e w1 ⟨rfl, hb⟩; have n0_ := Aside0.mk (below_step (by repeat (first | (with_reducible first | exact HB.out | apply below_alloc | apply pw_below_drewN | apply below_drew1) | exact HB.out)) hb); clear HB hb; have HB := n0_; clear n0_) | (go_at_call 46; (with_reducible refine (Atoi_ok (s.extract 5 7) v2 _ (hv.step (by repeat (first | (with_reducible first | exact HB.out | apply below_alloc | apply pw_below_drewN | apply below_drew1) | exact HB.out))) B2 l2).mono ?_); rintro e w1 ⟨rfl, hb⟩; have n0_ := Aside0.mk (below_step (by repeat (first | (with_reducible first | exact HB.out | apply below_alloc | apply pw_below_drewN | apply below_drew1) | exact HB.out)) hb); clear HB hb; have HB := n0_; clear n0_) | (go_at_call 46; (with_reducible refine (Atoi_ok (s.extract 8 10) v3 _ (hv.step (by repeat (first | (with_reducible first | exact HB.out | apply below_alloc | apply pw_below_drewN | apply below_drew1) | exact HB.out))) B3 l3).mono ?_); rintro e w1 ⟨rfl, hb⟩; have n0_ := Aside0.mk (below_step (by repeat (first | (with_reducible first | exact HB.out | apply below_alloc | apply pw_below_drewN | apply below_drew1) | exact HB.out)) hb); clear HB hb; have HB := n0_; clear n0_) | (go_at_call 18; (with_reducible refine (calendar_Day.calls k v1 v2 v3 n c _ A1.out).mono ?_); rintro e w1 ⟨rfl, hb⟩; have n0_ := Aside0.mk (below_step (by repeat (first | (with_reducible first | exact HB.out | apply below_alloc | apply pw_below_drewN | apply below_drew1) | exact HB.out)) hb); clear HB hb; have HB := n0_; clear n0_))
  go_ret2
  exact RetBelow.of rfl rfl HB.out

set_option maxHeartbeats 2000000 in
set_option maxRecDepth 100000 in
theorem Parse_other (k : Nat) (s : ByteArray) (hs : s.size = 10) (w : World) (hv : LaidAt w) (v1 v2 v3 : Int) (B1 : Hid (numOf (s.extract 0 4) = some v1)) (B2 : Hid (numOf (s.extract 5 7) = some v2)) (B3 : Hid (numOf (s.extract 8 10) = some v3)) (n : Int) (t : ByteArray) (A1 : Aside0 (calendar_Day.f k v1 v2 v3 = some (n, 0))) (A2 : Aside0 (calendar_Text.f k n = some t)) (q1 : (t.toList == s.toList) = false) (q2 : (t.toList != s.toList) = true) :
    Calls Tryd.prog 22 #[.string s] w (RetBelow (.tuple #[.int .i64 0, .int .i64 2]) w) := by
  have l1 : (s.extract 0 4).size ≤ 1000 := by rw [ByteArray.size_extract]; omega
  have l2 : (s.extract 5 7).size ≤ 1000 := by rw [ByteArray.size_extract]; omega
  have l3 : (s.extract 8 10).size ≤ 1000 := by rw [ByteArray.size_extract]; omega
  have HB := Aside0.mk (Below.refl w.heap.size w)
  go_enter Tryd.func22, Tryd.ntmps22
  go_wp2_with (first | (go_at_call 46; (with_reducible refine (Atoi_ok (s.extract 0 4) v1 _ (hv.step (by repeat (first | (with_reducible first | exact HB.out | apply below_alloc | apply pw_below_drewN | apply below_drew1) | exact HB.out))) B1 l1).mono ?_); rintro e w1 ⟨rfl, hb⟩; have n0_ := Aside0.mk (below_step (by repeat (first | (with_reducible first | exact HB.out | apply below_alloc | apply pw_below_drewN | apply below_drew1) | exact HB.out)) hb); clear HB hb; have HB := n0_; clear n0_) | (go_at_call 46; (with_reducible refine (Atoi_ok (s.extract 5 7) v2 _ (hv.step (by repeat (first | (with_reducible first | exact HB.out | apply below_alloc | apply pw_below_drewN | apply below_drew1) | exact HB.out))) B2 l2).mono ?_); rintro e w1 ⟨rfl, hb⟩; have n0_ := Aside0.mk (below_step (by repeat (first | (with_reducible first | exact HB.out | apply below_alloc | apply pw_below_drewN | apply below_drew1) | exact HB.out)) hb); clear HB hb; have HB := n0_; clear n0_) | (go_at_call 46; (with_reducible refine (Atoi_ok (s.extract 8 10) v3 _ (hv.step (by repeat (first | (with_reducible first | exact HB.out | apply below_alloc | apply pw_below_drewN | apply below_drew1) | exact HB.out))) B3 l3).mono ?_); rintro e w1 ⟨rfl, hb⟩; have n0_ := Aside0.mk (below_step (by repeat (first | (with_reducible first | exact HB.out | apply below_alloc | apply pw_below_drewN | apply below_drew1) | exact HB.out)) hb); clear HB hb; have HB := n0_; clear n0_) | (go_at_call 18; (with_reducible refine (calendar_Day.calls k v1 v2 v3 n 0 _ A1.out).mono ?_); rintro e w1 ⟨rfl, hb⟩; have n0_ := Aside0.mk (below_step (by repeat (first | (with_reducible first | exact HB.out | apply below_alloc | apply pw_below_drewN | apply below_drew1) | exact HB.out)) hb); clear HB hb; have HB := n0_; clear n0_) | (go_at_call 15; (with_reducible refine (calendar_Text.calls k n t _ (hv.step (by repeat (first | (with_reducible first | exact HB.out | apply below_alloc | apply pw_below_drewN | apply below_drew1) | exact HB.out))) A2.out).mono ?_); rintro e w1 ⟨rfl, hb⟩; have n0_ := Aside0.mk (below_step (by repeat (first | (with_reducible first | exact HB.out | apply below_alloc | apply pw_below_drewN | apply below_drew1) | exact HB.out)) hb); clear HB hb; have HB := n0_; clear n0_))
  go_ret2
  exact RetBelow.of rfl rfl HB.out

set_option maxHeartbeats 2000000 in
set_option maxRecDepth 100000 in
theorem Parse_same (k : Nat) (s : ByteArray) (hs : s.size = 10) (w : World) (hv : LaidAt w) (v1 v2 v3 : Int) (B1 : Hid (numOf (s.extract 0 4) = some v1)) (B2 : Hid (numOf (s.extract 5 7) = some v2)) (B3 : Hid (numOf (s.extract 8 10) = some v3)) (n : Int) (t : ByteArray) (A1 : Aside0 (calendar_Day.f k v1 v2 v3 = some (n, 0))) (A2 : Aside0 (calendar_Text.f k n = some t)) (q1 : (t.toList == s.toList) = true) (q2 : (t.toList != s.toList) = false) :
    Calls Tryd.prog 22 #[.string s] w (RetBelow (.tuple #[.int .i64 n, .int .i64 0]) w) := by
  have l1 : (s.extract 0 4).size ≤ 1000 := by rw [ByteArray.size_extract]; omega
  have l2 : (s.extract 5 7).size ≤ 1000 := by rw [ByteArray.size_extract]; omega
  have l3 : (s.extract 8 10).size ≤ 1000 := by rw [ByteArray.size_extract]; omega
  have HB := Aside0.mk (Below.refl w.heap.size w)
  go_enter Tryd.func22, Tryd.ntmps22
  go_wp2_with (first | (go_at_call 46; (with_reducible refine (Atoi_ok (s.extract 0 4) v1 _ (hv.step (by repeat (first | (with_reducible first | exact HB.out | apply below_alloc | apply pw_below_drewN | apply below_drew1) | exact HB.out))) B1 l1).mono ?_); rintro e w1 ⟨rfl, hb⟩; have n0_ := Aside0.mk (below_step (by repeat (first | (with_reducible first | exact HB.out | apply below_alloc | apply pw_below_drewN | apply below_drew1) | exact HB.out)) hb); clear HB hb; have HB := n0_; clear n0_) | (go_at_call 46; (with_reducible refine (Atoi_ok (s.extract 5 7) v2 _ (hv.step (by repeat (first | (with_reducible first | exact HB.out | apply below_alloc | apply pw_below_drewN | apply below_drew1) | exact HB.out))) B2 l2).mono ?_); rintro e w1 ⟨rfl, hb⟩; have n0_ := Aside0.mk (below_step (by repeat (first | (with_reducible first | exact HB.out | apply below_alloc | apply pw_below_drewN | apply below_drew1) | exact HB.out)) hb); clear HB hb; have HB := n0_; clear n0_) | (go_at_call 46; (with_reducible refine (Atoi_ok (s.extract 8 10) v3 _ (hv.step (by repeat (first | (with_reducible first | exact HB.out | apply below_alloc | apply pw_below_drewN | apply below_drew1) | exact HB.out))) B3 l3).mono ?_); rintro e w1 ⟨rfl, hb⟩; have n0_ := Aside0.mk (below_step (by repeat (first | (with_reducible first | exact HB.out | apply below_alloc | apply pw_below_drewN | apply below_drew1) | exact HB.out)) hb); clear HB hb; have HB := n0_; clear n0_) | (go_at_call 18; (with_reducible refine (calendar_Day.calls k v1 v2 v3 n 0 _ A1.out).mono ?_); rintro e w1 ⟨rfl, hb⟩; have n0_ := Aside0.mk (below_step (by repeat (first | (with_reducible first | exact HB.out | apply below_alloc | apply pw_below_drewN | apply below_drew1) | exact HB.out)) hb); clear HB hb; have HB := n0_; clear n0_) | (go_at_call 15; (with_reducible refine (calendar_Text.calls k n t _ (hv.step (by repeat (first | (with_reducible first | exact HB.out | apply below_alloc | apply pw_below_drewN | apply below_drew1) | exact HB.out))) A2.out).mono ?_); rintro e w1 ⟨rfl, hb⟩; have n0_ := Aside0.mk (below_step (by repeat (first | (with_reducible first | exact HB.out | apply below_alloc | apply pw_below_drewN | apply below_drew1) | exact HB.out)) hb); clear HB hb; have HB := n0_; clear n0_))
  go_ret2
  exact RetBelow.of rfl rfl HB.out

set_option maxRecDepth 100000 in
theorem Parse_short (s : ByteArray) (hs : s.size ≠ 10) (w : World) :
    Calls Tryd.prog 22 #[.string s] w (RetBelow (.tuple #[.int .i64 0, .int .i64 2]) w) := by
  have h1 : ((s.size : Int) == 10) = false := by rw [beq_eq_false_iff_ne]; omega
  have h2 : ((s.size : Int) != 10) = true := by rw [bne_iff_ne]; omega
  clear hs
  go_enter Tryd.func22, Tryd.ntmps22
  go_wp2
  go_ret2
  exact RetBelow.of rfl rfl (Below.refl _ _)

theorem calendar_Parse.calls (k : Nat) (a0 : ByteArray) (r1 r2 : Int) (w : World) (hv : LaidAt w) (h : calendar_Parse.f k a0 = some (r1, r2)) :
    Calls Tryd.prog 22 #[.string a0] w fun e w' => e = .returned (.tuple #[.int .i64 r1, .int .i64 r2]) ∧ Below w.heap.size w w' := by
  show Calls Tryd.prog 22 #[.string a0] w (RetBelow (.tuple #[.int .i64 r1, .int .i64 r2]) w)
  unfold calendar_Parse.f at h
  by_cases hs : a0.size = 10
  · rw [if_pos hs, hs] at h
    cases e1 : numOf (a0.extract 0 4) with
    | none =>
      rw [e1] at h
      obtain ⟨rfl, rfl⟩ := Prod.mk.inj (Option.some.inj h)
      cases e2 : numOf (a0.extract 5 7) with
      | none =>
        cases e3 : numOf (a0.extract 8 10) with
        | none => exact Parse_badnnn a0 hs w hv (Lib.hid e1) (Lib.hid e2) (Lib.hid e3)
        | some v3 => exact Parse_badnny a0 hs w hv v3 (Lib.hid e1) (Lib.hid e2) (Lib.hid e3)
      | some v2 =>
        cases e3 : numOf (a0.extract 8 10) with
        | none => exact Parse_badnyn a0 hs w hv v2 (Lib.hid e1) (Lib.hid e2) (Lib.hid e3)
        | some v3 => exact Parse_badnyy a0 hs w hv v2 v3 (Lib.hid e1) (Lib.hid e2) (Lib.hid e3)
    | some v1 =>
      cases e2 : numOf (a0.extract 5 7) with
      | none =>
        rw [e1, e2] at h
        obtain ⟨rfl, rfl⟩ := Prod.mk.inj (Option.some.inj h)
        cases e3 : numOf (a0.extract 8 10) with
        | none => exact Parse_badynn a0 hs w hv v1 (Lib.hid e1) (Lib.hid e2) (Lib.hid e3)
        | some v3 => exact Parse_badyny a0 hs w hv v1 v3 (Lib.hid e1) (Lib.hid e2) (Lib.hid e3)
      | some v2 =>
        cases e3 : numOf (a0.extract 8 10) with
        | none =>
          rw [e1, e2, e3] at h
          obtain ⟨rfl, rfl⟩ := Prod.mk.inj (Option.some.inj h)
          exact Parse_badyyn a0 hs w hv v1 v2 (Lib.hid e1) (Lib.hid e2) (Lib.hid e3)
        | some v3 =>
          rw [e1, e2, e3] at h
          replace h := Option.bind_eq_some_iff.mp h
          obtain ⟨⟨n, c⟩, A1, h⟩ := h
          by_cases hc : c = 0
          · subst hc
            rw [if_pos rfl] at h
            replace h := Option.bind_eq_some_iff.mp h
            obtain ⟨t, A2, h⟩ := h
            by_cases hq : t.toList = a0.toList
            · rw [if_pos hq] at h
              obtain ⟨rfl, rfl⟩ := Prod.mk.inj (Option.some.inj h)
              exact Parse_same k a0 hs w hv v1 v2 v3 (Lib.hid e1) (Lib.hid e2) (Lib.hid e3) _ t (Aside0.mk A1) (Aside0.mk A2) (beq_iff_eq.mpr hq) (bne_eq_false_iff_eq.mpr hq)
            · rw [if_neg hq] at h
              obtain ⟨rfl, rfl⟩ := Prod.mk.inj (Option.some.inj h)
              exact Parse_other k a0 hs w hv v1 v2 v3 (Lib.hid e1) (Lib.hid e2) (Lib.hid e3) _ t (Aside0.mk A1) (Aside0.mk A2) (beq_eq_false_iff_ne.mpr hq) (bne_iff_ne.mpr hq)
          · rw [if_neg hc] at h
            obtain ⟨rfl, rfl⟩ := Prod.mk.inj (Option.some.inj h)
            exact Parse_noday k a0 hs w hv v1 v2 v3 (Lib.hid e1) (Lib.hid e2) (Lib.hid e3) n c (Aside0.mk A1) (bne_iff_ne.mpr hc) (beq_eq_false_iff_ne.mpr hc)
  · rw [if_neg hs] at h
    obtain ⟨rfl, rfl⟩ := Prod.mk.inj (Option.some.inj h)
    exact Parse_short a0 hs w

/-! ### calendar_Zone_valid: function 48 -/
def calendar_Zone_valid.f (a0_0 : Int) (a0_1 : Int) (a0_2 : Int) (a0_3 : Int) : Option (Bool) := if a0_0 ≥ (-900) then (if a0_0 ≤ 900 then (if a0_1 ≥ 0 then (if a0_1 ≤ 120 then (if a0_2 ≥ 1 then (if a0_3 ≤ 367 then (some (decide (a0_2 ≤ a0_3))) else (some false)) else (some false)) else (some false)) else (some false)) else (some false)) else (some false)
set_option maxHeartbeats 8000000 in
set_option maxRecDepth 100000 in
theorem calendar_Zone_valid.calls (a0_0 : Int) (a0_1 : Int) (a0_2 : Int) (a0_3 : Int) (r : Bool) (w : World) (h : calendar_Zone_valid.f a0_0 a0_1 a0_2 a0_3 = some r) :
    Calls Tryd.prog 48 #[.agg #[.int .i64 a0_0, .int .i64 a0_1, .int .i64 a0_2, .int .i64 a0_3]] w fun e w' => e = .returned (.bool r) ∧ Below w.heap.size w w' := by
  have hu39 := Tryd.underlying39
  have HB := Aside0.mk (Below.refl w.heap.size w)
  have H : (if a0_0 ≥ (-900) then (if a0_0 ≤ 900 then (if a0_1 ≥ 0 then (if a0_1 ≤ 120 then (if a0_2 ≥ 1 then (if a0_3 ≤ 367 then (some (decide (a0_2 ≤ a0_3))) else (some false)) else (some false)) else (some false)) else (some false)) else (some false)) else (some false)) = some r := h
  clear h
  by_cases c2 : a0_0 ≥ (-900)
  · rw [if_pos c2] at H
    have c2b0 : decide ((-900) ≤ a0_0) = true := decide_eq_true c2
    clear c2
    by_cases c3 : a0_0 ≤ 900
    · rw [if_pos c3] at H
      have c3b0 : decide (a0_0 ≤ 900) = true := decide_eq_true c3
      clear c3
      by_cases c4 : a0_1 ≥ 0
      · rw [if_pos c4] at H
        have c4b0 : decide (0 ≤ a0_1) = true := decide_eq_true c4
        clear c4
        by_cases c5 : a0_1 ≤ 120
        · rw [if_pos c5] at H
          have c5b0 : decide (a0_1 ≤ 120) = true := decide_eq_true c5
          clear c5
          by_cases c6 : a0_2 ≥ 1
          · rw [if_pos c6] at H
            have c6b0 : decide (1 ≤ a0_2) = true := decide_eq_true c6
            clear c6
            by_cases c7 : a0_3 ≤ 367
            · rw [if_pos c7] at H
              have c7b0 : decide (a0_3 ≤ 367) = true := decide_eq_true c7
              clear c7
              obtain rfl := Option.some.inj H
              go_enter Tryd.func48, Tryd.ntmps48
              go_wp2_with (first | ((with_reducible refine gate_dst (N := 1) rfl ?_); refine box_event ?hg (N := 1) ?hd (cs := #[.int .i64 a0_0, .int .i64 a0_1, .int .i64 a0_2, .int .i64 a0_3]) (t := 39) ?hr ?_; (case hd => rfl); (case hg => rfl); (case hr => first | (go_simp; done) | (go_simp; rfl)); intro gb148 hg w8 hbox hb; have n0_ := Aside0.mk (below_step (by repeat (first | (with_reducible first | exact HB.out | apply below_alloc | apply pw_below_drewN | apply below_drew1) | exact HB.out)) hb); have n1_ := Aside0.mk (hbox); have n2_ := Aside0.mk ((by rw [hg]; exact (below_size (by repeat (first | (with_reducible first | exact HB.out | apply below_alloc | apply pw_below_drewN | apply below_drew1) | exact HB.out))) : w.heap.size ≤ gb148)); have n3_ := Aside0.mk ((by rw [hg]; exact (below_size (by repeat (first | (with_reducible first | exact HB.out | apply below_alloc | apply pw_below_drewN | apply below_drew1) | exact HB.out))) : w.heap.size ≤ gb148)); clear HB; have HB := n0_; have BK148 := n1_; have GW148 := n2_; have GE148 := n3_; clear n0_ n1_ n2_ n3_; clear hb hbox hg; have hcz9_0 : w8.cell? ⟨gb148, 0, none⟩ = some (.int .i64 a0_0) := (blk_cell BK148.out 0).trans rfl; have hcz9_1 : w8.cell? ⟨gb148, 1, none⟩ = some (.int .i64 a0_1) := (blk_cell BK148.out 1).trans rfl; have hcz9_2 : w8.cell? ⟨gb148, 2, none⟩ = some (.int .i64 a0_2) := (blk_cell BK148.out 2).trans rfl; have hcz9_3 : w8.cell? ⟨gb148, 3, none⟩ = some (.int .i64 a0_3) := (blk_cell BK148.out 3).trans rfl; have hfz9_0 := blk_frozen BK148.out 0; have hfz9_1 := blk_frozen BK148.out 1; have hfz9_2 := blk_frozen BK148.out 2; have hfz9_3 := blk_frozen BK148.out 3))
              go_ret
              exact ⟨by first | rfl | (simp [errW_none, errW_some] <;> rfl) | (simp [*, errW_none, errW_some] <;> rfl), by repeat (first | (with_reducible first | exact HB.out | apply below_alloc | apply pw_below_drewN | apply below_drew1 | refine below_set ?_ GE148.out) | exact HB.out)⟩
            · rw [if_neg c7] at H
              have c7b0 : decide (a0_3 ≤ 367) = false := decide_eq_false c7
              clear c7
              obtain rfl := Option.some.inj H
              go_enter Tryd.func48, Tryd.ntmps48
              go_wp2_with (first | ((with_reducible refine gate_dst (N := 1) rfl ?_); refine box_event ?hg (N := 1) ?hd (cs := #[.int .i64 a0_0, .int .i64 a0_1, .int .i64 a0_2, .int .i64 a0_3]) (t := 39) ?hr ?_; (case hd => rfl); (case hg => rfl); (case hr => first | (go_simp; done) | (go_simp; rfl)); intro gb148 hg w10 hbox hb; have n0_ := Aside0.mk (below_step (by repeat (first | (with_reducible first | exact HB.out | apply below_alloc | apply pw_below_drewN | apply below_drew1) | exact HB.out)) hb); have n1_ := Aside0.mk (hbox); have n2_ := Aside0.mk ((by rw [hg]; exact (below_size (by repeat (first | (with_reducible first | exact HB.out | apply below_alloc | apply pw_below_drewN | apply below_drew1) | exact HB.out))) : w.heap.size ≤ gb148)); have n3_ := Aside0.mk ((by rw [hg]; exact (below_size (by repeat (first | (with_reducible first | exact HB.out | apply below_alloc | apply pw_below_drewN | apply below_drew1) | exact HB.out))) : w.heap.size ≤ gb148)); clear HB; have HB := n0_; have BK148 := n1_; have GW148 := n2_; have GE148 := n3_; clear n0_ n1_ n2_ n3_; clear hb hbox hg; have hcz11_0 : w10.cell? ⟨gb148, 0, none⟩ = some (.int .i64 a0_0) := (blk_cell BK148.out 0).trans rfl; have hcz11_1 : w10.cell? ⟨gb148, 1, none⟩ = some (.int .i64 a0_1) := (blk_cell BK148.out 1).trans rfl; have hcz11_2 : w10.cell? ⟨gb148, 2, none⟩ = some (.int .i64 a0_2) := (blk_cell BK148.out 2).trans rfl; have hcz11_3 : w10.cell? ⟨gb148, 3, none⟩ = some (.int .i64 a0_3) := (blk_cell BK148.out 3).trans rfl; have hfz11_0 := blk_frozen BK148.out 0; have hfz11_1 := blk_frozen BK148.out 1; have hfz11_2 := blk_frozen BK148.out 2; have hfz11_3 := blk_frozen BK148.out 3))
              go_ret
              exact ⟨by first | rfl | (simp [errW_none, errW_some] <;> rfl) | (simp [*, errW_none, errW_some] <;> rfl), by repeat (first | (with_reducible first | exact HB.out | apply below_alloc | apply pw_below_drewN | apply below_drew1 | refine below_set ?_ GE148.out) | exact HB.out)⟩
          · rw [if_neg c6] at H
            have c6b0 : decide (1 ≤ a0_2) = false := decide_eq_false c6
            clear c6
            obtain rfl := Option.some.inj H
            go_enter Tryd.func48, Tryd.ntmps48
            go_wp2_with (first | ((with_reducible refine gate_dst (N := 1) rfl ?_); refine box_event ?hg (N := 1) ?hd (cs := #[.int .i64 a0_0, .int .i64 a0_1, .int .i64 a0_2, .int .i64 a0_3]) (t := 39) ?hr ?_; (case hd => rfl); (case hg => rfl); (case hr => first | (go_simp; done) | (go_simp; rfl)); intro gb148 hg w12 hbox hb; have n0_ := Aside0.mk (below_step (by repeat (first | (with_reducible first | exact HB.out | apply below_alloc | apply pw_below_drewN | apply below_drew1) | exact HB.out)) hb); have n1_ := Aside0.mk (hbox); have n2_ := Aside0.mk ((by rw [hg]; exact (below_size (by repeat (first | (with_reducible first | exact HB.out | apply below_alloc | apply pw_below_drewN | apply below_drew1) | exact HB.out))) : w.heap.size ≤ gb148)); have n3_ := Aside0.mk ((by rw [hg]; exact (below_size (by repeat (first | (with_reducible first | exact HB.out | apply below_alloc | apply pw_below_drewN | apply below_drew1) | exact HB.out))) : w.heap.size ≤ gb148)); clear HB; have HB := n0_; have BK148 := n1_; have GW148 := n2_; have GE148 := n3_; clear n0_ n1_ n2_ n3_; clear hb hbox hg; have hcz13_0 : w12.cell? ⟨gb148, 0, none⟩ = some (.int .i64 a0_0) := (blk_cell BK148.out 0).trans rfl; have hcz13_1 : w12.cell? ⟨gb148, 1, none⟩ = some (.int .i64 a0_1) := (blk_cell BK148.out 1).trans rfl; have hcz13_2 : w12.cell? ⟨gb148, 2, none⟩ = some (.int .i64 a0_2) := (blk_cell BK148.out 2).trans rfl; have hcz13_3 : w12.cell? ⟨gb148, 3, none⟩ = some (.int .i64 a0_3) := (blk_cell BK148.out 3).trans rfl; have hfz13_0 := blk_frozen BK148.out 0; have hfz13_1 := blk_frozen BK148.out 1; have hfz13_2 := blk_frozen BK148.out 2; have hfz13_3 := blk_frozen BK148.out 3))
            go_ret
            exact ⟨by first | rfl | (simp [errW_none, errW_some] <;> rfl) | (simp [*, errW_none, errW_some] <;> rfl), by repeat (first | (with_reducible first | exact HB.out | apply below_alloc | apply pw_below_drewN | apply below_drew1 | refine below_set ?_ GE148.out) | exact HB.out)⟩
        · rw [if_neg c5] at H
          have c5b0 : decide (a0_1 ≤ 120) = false := decide_eq_false c5
          clear c5
          obtain rfl := Option.some.inj H
          go_enter Tryd.func48, Tryd.ntmps48
          go_wp2_with (first | ((with_reducible refine gate_dst (N := 1) rfl ?_); refine box_event ?hg (N := 1) ?hd (cs := #[.int .i64 a0_0, .int .i64 a0_1, .int .i64 a0_2, .int .i64 a0_3]) (t := 39) ?hr ?_; (case hd => rfl); (case hg => rfl); (case hr => first | (go_simp; done) | (go_simp; rfl)); intro gb148 hg w14 hbox hb; have n0_ := Aside0.mk (below_step (by repeat (first | (with_reducible first | exact HB.out | apply below_alloc | apply pw_below_drewN | apply below_drew1) | exact HB.out)) hb); have n1_ := Aside0.mk (hbox); have n2_ := Aside0.mk ((by rw [hg]; exact (below_size (by repeat (first | (with_reducible first | exact HB.out | apply below_alloc | apply pw_below_drewN | apply below_drew1) | exact HB.out))) : w.heap.size ≤ gb148)); have n3_ := Aside0.mk ((by rw [hg]; exact (below_size (by repeat (first | (with_reducible first | exact HB.out | apply below_alloc | apply pw_below_drewN | apply below_drew1) | exact HB.out))) : w.heap.size ≤ gb148)); clear HB; have HB := n0_; have BK148 := n1_; have GW148 := n2_; have GE148 := n3_; clear n0_ n1_ n2_ n3_; clear hb hbox hg; have hcz15_0 : w14.cell? ⟨gb148, 0, none⟩ = some (.int .i64 a0_0) := (blk_cell BK148.out 0).trans rfl; have hcz15_1 : w14.cell? ⟨gb148, 1, none⟩ = some (.int .i64 a0_1) := (blk_cell BK148.out 1).trans rfl; have hcz15_2 : w14.cell? ⟨gb148, 2, none⟩ = some (.int .i64 a0_2) := (blk_cell BK148.out 2).trans rfl; have hcz15_3 : w14.cell? ⟨gb148, 3, none⟩ = some (.int .i64 a0_3) := (blk_cell BK148.out 3).trans rfl; have hfz15_0 := blk_frozen BK148.out 0; have hfz15_1 := blk_frozen BK148.out 1; have hfz15_2 := blk_frozen BK148.out 2; have hfz15_3 := blk_frozen BK148.out 3))
          go_ret
          exact ⟨by first | rfl | (simp [errW_none, errW_some] <;> rfl) | (simp [*, errW_none, errW_some] <;> rfl), by repeat (first | (with_reducible first | exact HB.out | apply below_alloc | apply pw_below_drewN | apply below_drew1 | refine below_set ?_ GE148.out) | exact HB.out)⟩
      · rw [if_neg c4] at H
        have c4b0 : decide (0 ≤ a0_1) = false := decide_eq_false c4
        clear c4
        obtain rfl := Option.some.inj H
        go_enter Tryd.func48, Tryd.ntmps48
        go_wp2_with (first | ((with_reducible refine gate_dst (N := 1) rfl ?_); refine box_event ?hg (N := 1) ?hd (cs := #[.int .i64 a0_0, .int .i64 a0_1, .int .i64 a0_2, .int .i64 a0_3]) (t := 39) ?hr ?_; (case hd => rfl); (case hg => rfl); (case hr => first | (go_simp; done) | (go_simp; rfl)); intro gb148 hg w16 hbox hb; have n0_ := Aside0.mk (below_step (by repeat (first | (with_reducible first | exact HB.out | apply below_alloc | apply pw_below_drewN | apply below_drew1) | exact HB.out)) hb); have n1_ := Aside0.mk (hbox); have n2_ := Aside0.mk ((by rw [hg]; exact (below_size (by repeat (first | (with_reducible first | exact HB.out | apply below_alloc | apply pw_below_drewN | apply below_drew1) | exact HB.out))) : w.heap.size ≤ gb148)); have n3_ := Aside0.mk ((by rw [hg]; exact (below_size (by repeat (first | (with_reducible first | exact HB.out | apply below_alloc | apply pw_below_drewN | apply below_drew1) | exact HB.out))) : w.heap.size ≤ gb148)); clear HB; have HB := n0_; have BK148 := n1_; have GW148 := n2_; have GE148 := n3_; clear n0_ n1_ n2_ n3_; clear hb hbox hg; have hcz17_0 : w16.cell? ⟨gb148, 0, none⟩ = some (.int .i64 a0_0) := (blk_cell BK148.out 0).trans rfl; have hcz17_1 : w16.cell? ⟨gb148, 1, none⟩ = some (.int .i64 a0_1) := (blk_cell BK148.out 1).trans rfl; have hcz17_2 : w16.cell? ⟨gb148, 2, none⟩ = some (.int .i64 a0_2) := (blk_cell BK148.out 2).trans rfl; have hcz17_3 : w16.cell? ⟨gb148, 3, none⟩ = some (.int .i64 a0_3) := (blk_cell BK148.out 3).trans rfl; have hfz17_0 := blk_frozen BK148.out 0; have hfz17_1 := blk_frozen BK148.out 1; have hfz17_2 := blk_frozen BK148.out 2; have hfz17_3 := blk_frozen BK148.out 3))
        go_ret
        exact ⟨by first | rfl | (simp [errW_none, errW_some] <;> rfl) | (simp [*, errW_none, errW_some] <;> rfl), by repeat (first | (with_reducible first | exact HB.out | apply below_alloc | apply pw_below_drewN | apply below_drew1 | refine below_set ?_ GE148.out) | exact HB.out)⟩
    · rw [if_neg c3] at H
      have c3b0 : decide (a0_0 ≤ 900) = false := decide_eq_false c3
      clear c3
      obtain rfl := Option.some.inj H
      go_enter Tryd.func48, Tryd.ntmps48
      go_wp2_with (first | ((with_reducible refine gate_dst (N := 1) rfl ?_); refine box_event ?hg (N := 1) ?hd (cs := #[.int .i64 a0_0, .int .i64 a0_1, .int .i64 a0_2, .int .i64 a0_3]) (t := 39) ?hr ?_; (case hd => rfl); (case hg => rfl); (case hr => first | (go_simp; done) | (go_simp; rfl)); intro gb148 hg w18 hbox hb; have n0_ := Aside0.mk (below_step (by repeat (first | (with_reducible first | exact HB.out | apply below_alloc | apply pw_below_drewN | apply below_drew1) | exact HB.out)) hb); have n1_ := Aside0.mk (hbox); have n2_ := Aside0.mk ((by rw [hg]; exact (below_size (by repeat (first | (with_reducible first | exact HB.out | apply below_alloc | apply pw_below_drewN | apply below_drew1) | exact HB.out))) : w.heap.size ≤ gb148)); have n3_ := Aside0.mk ((by rw [hg]; exact (below_size (by repeat (first | (with_reducible first | exact HB.out | apply below_alloc | apply pw_below_drewN | apply below_drew1) | exact HB.out))) : w.heap.size ≤ gb148)); clear HB; have HB := n0_; have BK148 := n1_; have GW148 := n2_; have GE148 := n3_; clear n0_ n1_ n2_ n3_; clear hb hbox hg; have hcz19_0 : w18.cell? ⟨gb148, 0, none⟩ = some (.int .i64 a0_0) := (blk_cell BK148.out 0).trans rfl; have hcz19_1 : w18.cell? ⟨gb148, 1, none⟩ = some (.int .i64 a0_1) := (blk_cell BK148.out 1).trans rfl; have hcz19_2 : w18.cell? ⟨gb148, 2, none⟩ = some (.int .i64 a0_2) := (blk_cell BK148.out 2).trans rfl; have hcz19_3 : w18.cell? ⟨gb148, 3, none⟩ = some (.int .i64 a0_3) := (blk_cell BK148.out 3).trans rfl; have hfz19_0 := blk_frozen BK148.out 0; have hfz19_1 := blk_frozen BK148.out 1; have hfz19_2 := blk_frozen BK148.out 2; have hfz19_3 := blk_frozen BK148.out 3))
      go_ret
      exact ⟨by first | rfl | (simp [errW_none, errW_some] <;> rfl) | (simp [*, errW_none, errW_some] <;> rfl), by repeat (first | (with_reducible first | exact HB.out | apply below_alloc | apply pw_below_drewN | apply below_drew1 | refine below_set ?_ GE148.out) | exact HB.out)⟩
  · rw [if_neg c2] at H
    have c2b0 : decide ((-900) ≤ a0_0) = false := decide_eq_false c2
    clear c2
    obtain rfl := Option.some.inj H
    go_enter Tryd.func48, Tryd.ntmps48
    go_wp2_with (first | ((with_reducible refine gate_dst (N := 1) rfl ?_); refine box_event ?hg (N := 1) ?hd (cs := #[.int .i64 a0_0, .int .i64 a0_1, .int .i64 a0_2, .int .i64 a0_3]) (t := 39) ?hr ?_; (case hd => rfl); (case hg => rfl); (case hr => first | (go_simp; done) | (go_simp; rfl)); intro gb148 hg w20 hbox hb; have n0_ := Aside0.mk (below_step (by repeat (first | (with_reducible first | exact HB.out | apply below_alloc | apply pw_below_drewN | apply below_drew1) | exact HB.out)) hb); have n1_ := Aside0.mk (hbox); have n2_ := Aside0.mk ((by rw [hg]; exact (below_size (by repeat (first | (with_reducible first | exact HB.out | apply below_alloc | apply pw_below_drewN | apply below_drew1) | exact HB.out))) : w.heap.size ≤ gb148)); have n3_ := Aside0.mk ((by rw [hg]; exact (below_size (by repeat (first | (with_reducible first | exact HB.out | apply below_alloc | apply pw_below_drewN | apply below_drew1) | exact HB.out))) : w.heap.size ≤ gb148)); clear HB; have HB := n0_; have BK148 := n1_; have GW148 := n2_; have GE148 := n3_; clear n0_ n1_ n2_ n3_; clear hb hbox hg; have hcz21_0 : w20.cell? ⟨gb148, 0, none⟩ = some (.int .i64 a0_0) := (blk_cell BK148.out 0).trans rfl; have hcz21_1 : w20.cell? ⟨gb148, 1, none⟩ = some (.int .i64 a0_1) := (blk_cell BK148.out 1).trans rfl; have hcz21_2 : w20.cell? ⟨gb148, 2, none⟩ = some (.int .i64 a0_2) := (blk_cell BK148.out 2).trans rfl; have hcz21_3 : w20.cell? ⟨gb148, 3, none⟩ = some (.int .i64 a0_3) := (blk_cell BK148.out 3).trans rfl; have hfz21_0 := blk_frozen BK148.out 0; have hfz21_1 := blk_frozen BK148.out 1; have hfz21_2 := blk_frozen BK148.out 2; have hfz21_3 := blk_frozen BK148.out 3))
    go_ret
    exact ⟨by first | rfl | (simp [errW_none, errW_some] <;> rfl) | (simp [*, errW_none, errW_some] <;> rfl), by repeat (first | (with_reducible first | exact HB.out | apply below_alloc | apply pw_below_drewN | apply below_drew1 | refine below_set ?_ GE148.out) | exact HB.out)⟩

/-! ### calendar_floor: function 49 -/
def calendar_floor.f (a0 : Int) : Option (Int × Int) := if (Int.tmod a0 1440) < 0 then (some (wrap64 ((wrap64 (Int.tdiv a0 1440)) - 1), wrap64 (a0 - (wrap64 (1440 * (wrap64 ((wrap64 (Int.tdiv a0 1440)) - 1))))))) else (some (wrap64 (Int.tdiv a0 1440), wrap64 (a0 - (wrap64 (1440 * (wrap64 (Int.tdiv a0 1440)))))))
set_option maxHeartbeats 8000000 in
set_option maxRecDepth 100000 in
theorem calendar_floor.calls (a0 : Int) (r1 : Int) (r2 : Int) (w : World) (h : calendar_floor.f a0 = some (r1, r2)) :
    Calls Tryd.prog 49 #[.int .i64 a0] w fun e w' => e = .returned (.tuple #[.int .i64 r1, .int .i64 r2]) ∧ Drawn0 w w' := by
  have H : (if (Int.tmod a0 1440) < 0 then (some (wrap64 ((wrap64 (Int.tdiv a0 1440)) - 1), wrap64 (a0 - (wrap64 (1440 * (wrap64 ((wrap64 (Int.tdiv a0 1440)) - 1))))))) else (some (wrap64 (Int.tdiv a0 1440), wrap64 (a0 - (wrap64 (1440 * (wrap64 (Int.tdiv a0 1440)))))))) = some (r1, r2) := h
  clear h
  by_cases c2 : (Int.tmod a0 1440) < 0
  · rw [if_pos c2] at H
    have c2b0 : decide ((Int.tmod a0 1440) < 0) = true := decide_eq_true c2
    clear c2
    simp only [Option.some.injEq, Prod.mk.injEq] at H
    obtain ⟨rfl, rfl⟩ := H
    go_enter Tryd.func49, Tryd.ntmps49
    go_wp2
    go_ret2
    exact ⟨by first | rfl | (simp; done) | (simp [*]; done), by repeat (first | exact Drawn0.refl _ | apply Drawn0.step)⟩
  · rw [if_neg c2] at H
    have c2b0 : decide ((Int.tmod a0 1440) < 0) = false := decide_eq_false c2
    clear c2
    simp only [Option.some.injEq, Prod.mk.injEq] at H
    obtain ⟨rfl, rfl⟩ := H
    go_enter Tryd.func49, Tryd.ntmps49
    go_wp2
    go_ret2
    exact ⟨by first | rfl | (simp; done) | (simp [*]; done), by repeat (first | exact Drawn0.refl _ | apply Drawn0.step)⟩

end Go.Proofs.YtlfgjpidamkpdaaDoor.Pc
