/- The contracts of the functions that the laws reach, each over a plain Lean function, written by wip/ownprint.py of this claim's session. -/
import Derived.Test.YtdphgnakigcaeaaDoorPc0
import Derived.Test.YtdphgnakigcaeaaDoorPc4
namespace Go.Proofs.YtdphgnakigcaeaaDoor.Pc
open Go.RowKit Go.Proofs.YtdphgnakigcaeaaDoorW.PrintWords Go.Proofs.YtdphgnakigcaeaaDoorW.PrintLast Go.Proofs.YtdphgnakigcaeaaDoorW.PrintMore
attribute [local go_sem] max2_int min2_int max_two min_two max_three min_three max_four min_four   -- for this text's walks alone
attribute [local go_sem high] binOp_leq_p
set_option linter.unusedVariables false
set_option linter.unusedSimpArgs false

/-! ### ratio_Floor: function 16 -/
def ratio_Floor.j0 : Nat → Bool → Int → Int → Option (Int)
  | 0, _, _, _ => none
  | k + 1, x11, x203000, x203001 => if x11 = true then (some 0) else (if x203001 = 0 then (none) else (if (wrap64 ((wrap64 (Int.tdiv x203000 x203001)) * x203001)) > x203000 then (some (wrap64 ((wrap64 (Int.tdiv x203000 x203001)) - 1))) else (some (wrap64 (Int.tdiv x203000 x203001)))))
def ratio_Floor.f (k : Nat) (a0_0 : Int) (a0_1 : Int) : Option (Int) := (ratio_Valid.f a0_0 a0_1).bind fun t203 => (if t203 = true then (ratio_Floor.j0 k (a0_1 == 0) a0_0 a0_1) else (ratio_Floor.j0 k true a0_0 a0_1))
theorem ratio_Floor.mono_l : ∀ k, (∀ y0 y1 y2, LeO (ratio_Floor.j0 k y0 y1 y2) (ratio_Floor.j0 (k + 1) y0 y1 y2))
  | 0 => fun _ _ _ r h => by simp [ratio_Floor.j0] at h
  | k + 1 => by
    have ih0 := ratio_Floor.mono_l k
    · intro y0 y1 y2
      unfold ratio_Floor.j0
      repeat' first
      | (with_reducible exact ih0 _ _ _)
      | (with_reducible exact LeO.refl _)
      | (with_reducible exact LeO.none _)
      | (with_reducible refine LeO.ite ?_ ?_)
      | (with_reducible refine LeO.bind ?_ (fun _ => ?_))
      | exact ih0 _ _ _
      | exact LeO.none _
      | refine LeO.ite ?_ ?_
      | refine LeO.bind ?_ (fun _ => ?_)
theorem ratio_Floor.mono : ∀ a0 a1 k, LeO (ratio_Floor.f k a0 a1) (ratio_Floor.f (k + 1) a0 a1) := by
  intro a0 a1 k
  have ih0 := ratio_Floor.mono_l k
  unfold ratio_Floor.f
  repeat' first
      | (with_reducible exact ih0 _ _ _)
      | (with_reducible exact LeO.refl _)
      | (with_reducible exact LeO.none _)
      | (with_reducible refine LeO.ite ?_ ?_)
      | (with_reducible refine LeO.bind ?_ (fun _ => ?_))
      | exact ih0 _ _ _
      | exact LeO.none _
      | refine LeO.ite ?_ ?_
      | refine LeO.bind ?_ (fun _ => ?_)
set_option maxHeartbeats 8000000 in
set_option maxRecDepth 100000 in
theorem ratio_Floor.calls (k : Nat) (a0_0 : Int) (a0_1 : Int) (r : Int) (w : World) (h : ratio_Floor.f k a0_0 a0_1 = some r) :
    Calls Tryd.prog 16 #[.agg #[.int .i64 a0_0, .int .i64 a0_1]] w fun e w' => e = .returned (.int .i64 r) ∧ Below w.heap.size w w' := by
  have hu24 := Tryd.underlying24
  have HB := Aside0.mk (Below.refl w.heap.size w)
  have H : ((ratio_Valid.f a0_0 a0_1).bind fun t203 => (if t203 = true then (ratio_Floor.j0 k (a0_1 == 0) a0_0 a0_1) else (ratio_Floor.j0 k true a0_0 a0_1))) = some r := h
  clear h
  have HC2 := Aside0.mk H
  clear H
  go_enter Tryd.func16, Tryd.ntmps16
  go_upto_region 1 with (first | ((with_reducible refine gate_dst (N := 1) rfl ?_); refine box_event ?hg (N := 1) ?hd (cs := #[.int .i64 a0_0, .int .i64 a0_1]) (t := 24) ?hr ?_; (case hd => rfl); (case hg => rfl); (case hr => first | (go_simp; done) | (go_simp; rfl)); intro gb202 hg w3 hbox hb; have n0_ := Aside0.mk (below_step (by repeat (first | (with_reducible first | exact HB.out | apply below_alloc | apply pw_below_drewN | apply below_drew1) | exact HB.out)) hb); have n1_ := Aside0.mk (hbox); have n2_ := Aside0.mk ((by rw [hg]; exact (below_size (by repeat (first | (with_reducible first | exact HB.out | apply below_alloc | apply pw_below_drewN | apply below_drew1) | exact HB.out))) : w.heap.size ≤ gb202)); have n3_ := Aside0.mk ((by rw [hg]; exact (below_size (by repeat (first | (with_reducible first | exact HB.out | apply below_alloc | apply pw_below_drewN | apply below_drew1) | exact HB.out))) : w.heap.size ≤ gb202)); clear HB; have HB := n0_; have BK202 := n1_; have GW202 := n2_; have GE202 := n3_; clear n0_ n1_ n2_ n3_; clear hb hbox hg))
  (try simp only [Act.put, List.setIfInBounds_toArray, List.set_cons_zero, List.set_cons_succ])
  go_cut [11] (fun v11 wc => ∃ (kq : Nat) (x11_1 : Bool), v11 = .bool x11_1 ∧ Aside0 (ratio_Floor.j0 kq x11_1 a0_0 a0_1 = some r) ∧ Aside0 (kq ≤ k) ∧ Aside0 (wc.heap[gb202]? = some (.cells #[.int .i64 a0_0, .int .i64 a0_1] 24 (0, 0))) ∧ Aside0 (Below w.heap.size w wc))
  case first =>
    have H := HC2.out
    clear HC2
    replace H := Option.bind_eq_some_iff.mp H
    obtain ⟨t203, A40, H⟩ := H
    replace H : (if t203 = true then (ratio_Floor.j0 k (a0_1 == 0) a0_0 a0_1) else (ratio_Floor.j0 k true a0_0 a0_1)) = some r := H
    have A4 := Aside0.mk A40
    clear A40
    by_cases c5 : t203 = true
    · subst c5
      have H1 : (ratio_Floor.j0 k (a0_1 == 0) a0_0 a0_1) = some r := by rw [if_pos rfl] at H; exact H
      clear H
      have H := H1
      clear H1
      have H' := Aside0.mk H
      clear H
      have hcz6_0 : w3.cell? ⟨gb202, 0, none⟩ = some (.int .i64 a0_0) := (blk_cell BK202.out 0).trans rfl
      have hcz6_1 : w3.cell? ⟨gb202, 1, none⟩ = some (.int .i64 a0_1) := (blk_cell BK202.out 1).trans rfl
      have hfz6_0 := blk_frozen BK202.out 0
      have hfz6_1 := blk_frozen BK202.out 1
      go_wp2_with (first | ((with_reducible refine gate_callee (f := 19) rfl ?_); refine goesL_ (some 5) rfl rfl Tryd.func19 (by kernel_rfl) rfl #[.agg #[.int .i64 a0_0, .int .i64 a0_1]] rfl (by (try simp only [List.map_toArray, List.map_cons, List.map_nil]); first | done | rfl | (simp only [List.length_drop, List.length_take]; rfl)) ?_; (with_reducible refine (ratio_Valid.calls a0_0 a0_1 true _ A4.out).mono ?_); rintro e w7 ⟨rfl, hb⟩; refine ⟨_, rfl, ?_⟩; have n0_ := Aside0.mk (blk_below (g := gb202) (o := .cells #[.int .i64 a0_0, .int .i64 a0_1] 24 (0, 0)) (by (with_reducible repeat (first | refine blk_drewN ?_ _ | refine blk_drew ?_ | refine blk_alloc ?_ _)); exact BK202.out) hb); have n1_ := Aside0.mk (below_step (by repeat (first | (with_reducible first | exact HB.out | apply below_alloc | apply pw_below_drewN | apply below_drew1 | refine below_set ?_ GE202.out) | exact HB.out)) hb); clear BK202; clear HB; have BK202 := n0_; have HB := n1_; clear n0_ n1_; (try clear hb); (try clear hb2); (try clear hk); (try clear hi); have hcz8_0 : w7.cell? ⟨gb202, 0, none⟩ = some (.int .i64 a0_0) := (blk_cell BK202.out 0).trans rfl; have hcz8_1 : w7.cell? ⟨gb202, 1, none⟩ = some (.int .i64 a0_1) := (blk_cell BK202.out 1).trans rfl; have hfz8_0 := blk_frozen BK202.out 0; have hfz8_1 := blk_frozen BK202.out 1))
      go_meet
      case rel => exact ⟨_, ((a0_1 == 0)), (by first | rfl | (simp; done) | (simp [*]; done)), H', ⟨by first | omega | exact Nat.le_refl _⟩, ⟨by (with_reducible repeat (first | refine blk_drewN ?_ _ | refine blk_drew ?_ | refine blk_alloc ?_ _)); exact BK202.out⟩, ⟨by repeat (first | (with_reducible first | exact HB.out | apply below_alloc | apply pw_below_drewN | apply below_drew1 | refine below_set ?_ GE202.out) | exact HB.out)⟩⟩
    · replace c5 := Bool.eq_false_iff.mpr c5
      subst c5
      have H1 : (ratio_Floor.j0 k true a0_0 a0_1) = some r := by rw [if_neg (show ¬ (false = true) by decide)] at H; exact H
      clear H
      have H := H1
      clear H1
      have H' := Aside0.mk H
      clear H
      have hcz9_0 : w3.cell? ⟨gb202, 0, none⟩ = some (.int .i64 a0_0) := (blk_cell BK202.out 0).trans rfl
      have hcz9_1 : w3.cell? ⟨gb202, 1, none⟩ = some (.int .i64 a0_1) := (blk_cell BK202.out 1).trans rfl
      have hfz9_0 := blk_frozen BK202.out 0
      have hfz9_1 := blk_frozen BK202.out 1
      go_wp2_with (first | ((with_reducible refine gate_callee (f := 19) rfl ?_); refine goesL_ (some 5) rfl rfl Tryd.func19 (by kernel_rfl) rfl #[.agg #[.int .i64 a0_0, .int .i64 a0_1]] rfl (by (try simp only [List.map_toArray, List.map_cons, List.map_nil]); first | done | rfl | (simp only [List.length_drop, List.length_take]; rfl)) ?_; (with_reducible refine (ratio_Valid.calls a0_0 a0_1 false _ A4.out).mono ?_); rintro e w10 ⟨rfl, hb⟩; refine ⟨_, rfl, ?_⟩; have n0_ := Aside0.mk (blk_below (g := gb202) (o := .cells #[.int .i64 a0_0, .int .i64 a0_1] 24 (0, 0)) (by (with_reducible repeat (first | refine blk_drewN ?_ _ | refine blk_drew ?_ | refine blk_alloc ?_ _)); exact BK202.out) hb); have n1_ := Aside0.mk (below_step (by repeat (first | (with_reducible first | exact HB.out | apply below_alloc | apply pw_below_drewN | apply below_drew1 | refine below_set ?_ GE202.out) | exact HB.out)) hb); clear BK202; clear HB; have BK202 := n0_; have HB := n1_; clear n0_ n1_; (try clear hb); (try clear hb2); (try clear hk); (try clear hi)))
      go_meet
      case rel => exact ⟨_, (true), (by first | rfl | (simp; done) | (simp [*]; done)), H', ⟨by first | omega | exact Nat.le_refl _⟩, ⟨by (with_reducible repeat (first | refine blk_drewN ?_ _ | refine blk_drew ?_ | refine blk_alloc ?_ _)); exact BK202.out⟩, ⟨by repeat (first | (with_reducible first | exact HB.out | apply below_alloc | apply pw_below_drewN | apply below_drew1 | refine below_set ?_ GE202.out) | exact HB.out)⟩⟩
  case rest =>
    clear HC2
    try clear c1
    try clear p2
    try clear c5
    try clear hcz6_0
    try clear hcz6_1
    try clear hcz8_0
    try clear hcz8_1
    try clear hcz9_0
    try clear hcz9_1
    try clear hfz6_0
    try clear hfz6_1
    try clear hfz8_0
    try clear hfz8_1
    try clear hfz9_0
    try clear hfz9_1
    obtain ⟨kq, x11_1, rfl, HA, HJ1, BK202, HB⟩ := hcut
    cases kq with
    | zero => exact absurd HA.out (by simp [ratio_Floor.j0])
    | succ kj1 =>
      have H := HA.out
      clear HA
      simp only [ratio_Floor.j0] at H
      by_cases c11 : x11_1 = true
      · subst c11
        have H1 : (some 0) = some r := by rw [if_pos rfl] at H; exact H
        clear H
        have H := H1
        clear H1
        obtain rfl := Option.some.inj H
        go_wp2
        go_ret
        exact ⟨by first | rfl | (simp [errW_none, errW_some] <;> rfl) | (simp [*, errW_none, errW_some] <;> rfl), by repeat (first | (with_reducible first | exact HB.out | apply below_alloc | apply pw_below_drewN | apply below_drew1 | refine below_set ?_ GE202.out) | exact HB.out)⟩
      · replace c11 := Bool.eq_false_iff.mpr c11
        subst c11
        have H1 : (if a0_1 = 0 then (none) else (if (wrap64 ((wrap64 (Int.tdiv a0_0 a0_1)) * a0_1)) > a0_0 then (some (wrap64 ((wrap64 (Int.tdiv a0_0 a0_1)) - 1))) else (some (wrap64 (Int.tdiv a0_0 a0_1))))) = some r := by rw [if_neg (show ¬ (false = true) by decide)] at H; exact H
        clear H
        have H := H1
        clear H1
        by_cases c12 : a0_1 = 0
        · rw [if_pos c12] at H
          exact absurd H (by simp)
        · rw [if_neg c12] at H
          have c12b0 : (a0_1 == 0) = false := beq_eq_false_iff_ne.mpr c12
          have c12b1 : (a0_1 != 0) = true := bne_iff_ne.mpr c12
          by_cases c13 : (wrap64 ((wrap64 (Int.tdiv a0_0 a0_1)) * a0_1)) > a0_0
          · rw [if_pos c13] at H
            have c13b0 : decide (a0_0 < (wrap64 ((wrap64 (Int.tdiv a0_0 a0_1)) * a0_1))) = true := decide_eq_true c13
            clear c13
            obtain rfl := Option.some.inj H
            have hcz14_0 : wc.cell? ⟨gb202, 0, none⟩ = some (.int .i64 a0_0) := (blk_cell BK202.out 0).trans rfl
            have hcz14_1 : wc.cell? ⟨gb202, 1, none⟩ = some (.int .i64 a0_1) := (blk_cell BK202.out 1).trans rfl
            have hfz14_0 := blk_frozen BK202.out 0
            have hfz14_1 := blk_frozen BK202.out 1
            go_wp2
            go_ret
            exact ⟨by first | rfl | (simp [errW_none, errW_some] <;> rfl) | (simp [*, errW_none, errW_some] <;> rfl), by repeat (first | (with_reducible first | exact HB.out | apply below_alloc | apply pw_below_drewN | apply below_drew1 | refine below_set ?_ GE202.out) | exact HB.out)⟩
          · rw [if_neg c13] at H
            have c13b0 : decide (a0_0 < (wrap64 ((wrap64 (Int.tdiv a0_0 a0_1)) * a0_1))) = false := decide_eq_false c13
            clear c13
            obtain rfl := Option.some.inj H
            have hcz15_0 : wc.cell? ⟨gb202, 0, none⟩ = some (.int .i64 a0_0) := (blk_cell BK202.out 0).trans rfl
            have hcz15_1 : wc.cell? ⟨gb202, 1, none⟩ = some (.int .i64 a0_1) := (blk_cell BK202.out 1).trans rfl
            have hfz15_0 := blk_frozen BK202.out 0
            have hfz15_1 := blk_frozen BK202.out 1
            go_wp2
            go_ret
            exact ⟨by first | rfl | (simp [errW_none, errW_some] <;> rfl) | (simp [*, errW_none, errW_some] <;> rfl), by repeat (first | (with_reducible first | exact HB.out | apply below_alloc | apply pw_below_drewN | apply below_drew1 | refine below_set ?_ GE202.out) | exact HB.out)⟩

/-! ### strconv_Itoa: function 41 -/
-- its contract stands in E0

/-! ### ratio_Text: function 28 -/
def ratio_Text.f (a0_0 : Int) (a0_1 : Int) : Option (ByteArray) := (ratio_Valid.f a0_0 a0_1).bind fun t205 => (if t205 = true then (if a0_1 ≤ 1 then ((strconv_Itoa.f a0_0).bind fun t206 => (some t206)) else ((strconv_Itoa.f a0_0).bind fun t207 => (if t207.size + 1 ≤ 9223372036854775807 then ((strconv_Itoa.f a0_1).bind fun t208 => (if (t207 ++ (⟨#[47]⟩ : ByteArray)).size + t208.size ≤ 9223372036854775807 then (some ((t207 ++ (⟨#[47]⟩ : ByteArray)) ++ t208)) else (none))) else (none)))) else (some (⟨#[]⟩ : ByteArray)))
def ratio_Text.T5 : Bool × List (List Nat × List Nat) := (true, [([], []), ([0], [0]), ([1], [1]), ([2], [2]), ([], []), ([4], [4]), ([5, 2], [5]), ([3, 6], [3, 6]), ([7, 6, 0, 1, 2, 3, 4, 5, 6, 7], [7])])
def ratio_Text.B5 : List Nat := [0, 1, 3, 7, 0, 16, 55, 127, 255]
theorem ratio_Text.tab5 : rtab .any (opsOf Tryd.f28 5) = ratio_Text.T5 := by kernel_rfl
theorem ratio_Text.bits5 : waitsOk ratio_Text.T5.2 ratio_Text.B5 = true := by kernel_rfl
set_option maxHeartbeats 8000000 in
set_option maxRecDepth 100000 in
theorem ratio_Text.calls (a0_0 : Int) (a0_1 : Int) (r : ByteArray) (w : World) (hv : LaidAt w) (h : ratio_Text.f a0_0 a0_1 = some r) :
    Calls Tryd.prog 28 #[.agg #[.int .i64 a0_0, .int .i64 a0_1]] w fun e w' => e = .returned (.string r) ∧ Below w.heap.size w w' := by
  have hu24 := Tryd.underlying24
  have HB := Aside0.mk (Below.refl w.heap.size w)
  have H : ((ratio_Valid.f a0_0 a0_1).bind fun t205 => (if t205 = true then (if a0_1 ≤ 1 then ((strconv_Itoa.f a0_0).bind fun t206 => (some t206)) else ((strconv_Itoa.f a0_0).bind fun t207 => (if t207.size + 1 ≤ 9223372036854775807 then ((strconv_Itoa.f a0_1).bind fun t208 => (if (t207 ++ (⟨#[47]⟩ : ByteArray)).size + t208.size ≤ 9223372036854775807 then (some ((t207 ++ (⟨#[47]⟩ : ByteArray)) ++ t208)) else (none))) else (none)))) else (some (⟨#[]⟩ : ByteArray)))) = some r := h
  clear h
  replace H := Option.bind_eq_some_iff.mp H
  obtain ⟨t205, A20, H⟩ := H
  replace H : (if t205 = true then (if a0_1 ≤ 1 then ((strconv_Itoa.f a0_0).bind fun t206 => (some t206)) else ((strconv_Itoa.f a0_0).bind fun t207 => (if t207.size + 1 ≤ 9223372036854775807 then ((strconv_Itoa.f a0_1).bind fun t208 => (if (t207 ++ (⟨#[47]⟩ : ByteArray)).size + t208.size ≤ 9223372036854775807 then (some ((t207 ++ (⟨#[47]⟩ : ByteArray)) ++ t208)) else (none))) else (none)))) else (some (⟨#[]⟩ : ByteArray))) = some r := H
  have A2 := Aside0.mk A20
  clear A20
  by_cases c3 : t205 = true
  · subst c3
    have H1 : (if a0_1 ≤ 1 then ((strconv_Itoa.f a0_0).bind fun t206 => (some t206)) else ((strconv_Itoa.f a0_0).bind fun t207 => (if t207.size + 1 ≤ 9223372036854775807 then ((strconv_Itoa.f a0_1).bind fun t208 => (if (t207 ++ (⟨#[47]⟩ : ByteArray)).size + t208.size ≤ 9223372036854775807 then (some ((t207 ++ (⟨#[47]⟩ : ByteArray)) ++ t208)) else (none))) else (none)))) = some r := by rw [if_pos rfl] at H; exact H
    clear H
    have H := H1
    clear H1
    by_cases c4 : a0_1 ≤ 1
    · rw [if_pos c4] at H
      have c4b0 : decide (a0_1 ≤ 1) = true := decide_eq_true c4
      clear c4
      replace H := Option.bind_eq_some_iff.mp H
      obtain ⟨t206, A50, H⟩ := H
      replace H : (some t206) = some r := H
      have A5 := Aside0.mk A50
      clear A50
      obtain rfl := Option.some.inj H
      go_enter Tryd.func28, Tryd.ntmps28
      go_wp2_with (first | ((with_reducible refine gate_dst (N := 1) rfl ?_); refine box_event ?hg (N := 1) ?hd (cs := #[.int .i64 a0_0, .int .i64 a0_1]) (t := 24) ?hr ?_; (case hd => rfl); (case hg => rfl); (case hr => first | (go_simp; done) | (go_simp; rfl)); intro gb204 hg w6 hbox hb; have n0_ := Aside0.mk (below_step (by repeat (first | (with_reducible first | exact HB.out | apply below_alloc | apply pw_below_drewN | apply below_drew1) | exact HB.out)) hb); have n1_ := Aside0.mk (hbox); have n2_ := Aside0.mk ((by rw [hg]; exact (below_size (by repeat (first | (with_reducible first | exact HB.out | apply below_alloc | apply pw_below_drewN | apply below_drew1) | exact HB.out))) : w.heap.size ≤ gb204)); have n3_ := Aside0.mk ((by rw [hg]; exact (below_size (by repeat (first | (with_reducible first | exact HB.out | apply below_alloc | apply pw_below_drewN | apply below_drew1) | exact HB.out))) : w.heap.size ≤ gb204)); clear HB; have HB := n0_; have BK204 := n1_; have GW204 := n2_; have GE204 := n3_; clear n0_ n1_ n2_ n3_; clear hb hbox hg; have hcz7_0 : w6.cell? ⟨gb204, 0, none⟩ = some (.int .i64 a0_0) := (blk_cell BK204.out 0).trans rfl; have hcz7_1 : w6.cell? ⟨gb204, 1, none⟩ = some (.int .i64 a0_1) := (blk_cell BK204.out 1).trans rfl; have hfz7_0 := blk_frozen BK204.out 0; have hfz7_1 := blk_frozen BK204.out 1) | ((with_reducible refine gate_callee (f := 19) rfl ?_); refine goesL_ (some 4) rfl rfl Tryd.func19 (by kernel_rfl) rfl #[.agg #[.int .i64 a0_0, .int .i64 a0_1]] rfl (by (try simp only [List.map_toArray, List.map_cons, List.map_nil]); first | done | rfl | (simp only [List.length_drop, List.length_take]; rfl)) ?_; (with_reducible refine (ratio_Valid.calls a0_0 a0_1 true _ A2.out).mono ?_); rintro e w8 ⟨rfl, hb⟩; refine ⟨_, rfl, ?_⟩; have n0_ := Aside0.mk (blk_below (g := gb204) (o := .cells #[.int .i64 a0_0, .int .i64 a0_1] 24 (0, 0)) (by (with_reducible repeat (first | refine blk_drewN ?_ _ | refine blk_drew ?_ | refine blk_alloc ?_ _)); exact BK204.out) hb); have n1_ := Aside0.mk (below_step (by repeat (first | (with_reducible first | exact HB.out | apply below_alloc | apply pw_below_drewN | apply below_drew1 | refine below_set ?_ GE204.out) | exact HB.out)) hb); clear BK204; clear HB; have BK204 := n0_; have HB := n1_; clear n0_ n1_; (try clear hb); (try clear hb2); (try clear hk); (try clear hi); have hcz9_0 : w8.cell? ⟨gb204, 0, none⟩ = some (.int .i64 a0_0) := (blk_cell BK204.out 0).trans rfl; have hcz9_1 : w8.cell? ⟨gb204, 1, none⟩ = some (.int .i64 a0_1) := (blk_cell BK204.out 1).trans rfl; have hfz9_0 := blk_frozen BK204.out 0; have hfz9_1 := blk_frozen BK204.out 1) | ((with_reducible refine gate_callee (f := 41) rfl ?_); refine goesL_ (some 11) rfl rfl Tryd.func41 (by kernel_rfl) rfl #[.int .i64 a0_0] rfl (by (try simp only [List.map_toArray, List.map_cons, List.map_nil]); first | done | rfl | (simp only [List.length_drop, List.length_take]; rfl)) ?_; (with_reducible refine (strconv_Itoa.calls (hv := hv.step (by repeat (first | (with_reducible first | exact HB.out | apply below_alloc | apply pw_below_drewN | apply below_drew1 | refine below_set ?_ (Aside0.out (by assumption))) | exact HB.out))) a0_0 t206 _ A5.out).mono ?_); rintro e w10 ⟨rfl, hb⟩; refine ⟨_, rfl, ?_⟩; have n0_ := Aside0.mk (blk_below (g := gb204) (o := .cells #[.int .i64 a0_0, .int .i64 a0_1] 24 (0, 0)) (by (with_reducible repeat (first | refine blk_drewN ?_ _ | refine blk_drew ?_ | refine blk_alloc ?_ _)); exact BK204.out) hb); have n1_ := Aside0.mk (below_step (by repeat (first | (with_reducible first | exact HB.out | apply below_alloc | apply pw_below_drewN | apply below_drew1 | refine below_set ?_ GE204.out) | exact HB.out)) hb); clear BK204; clear HB; have BK204 := n0_; have HB := n1_; clear n0_ n1_; (try clear hb); (try clear hb2); (try clear hk); (try clear hi)))
      go_ret
      exact ⟨by first | rfl | (simp [errW_none, errW_some] <;> rfl) | (simp [*, errW_none, errW_some] <;> rfl), by repeat (first | (with_reducible first | exact HB.out | apply below_alloc | apply pw_below_drewN | apply below_drew1 | refine below_set ?_ GE204.out) | exact HB.out)⟩
    · rw [if_neg c4] at H
      have c4b0 : decide (a0_1 ≤ 1) = false := decide_eq_false c4
      clear c4
      replace H := Option.bind_eq_some_iff.mp H
      obtain ⟨t207, A110, H⟩ := H
      replace H : (if t207.size + 1 ≤ 9223372036854775807 then ((strconv_Itoa.f a0_1).bind fun t208 => (if (t207 ++ (⟨#[47]⟩ : ByteArray)).size + t208.size ≤ 9223372036854775807 then (some ((t207 ++ (⟨#[47]⟩ : ByteArray)) ++ t208)) else (none))) else (none)) = some r := H
      have A11 := Aside0.mk A110
      clear A110
      by_cases c12 : t207.size + 1 ≤ 9223372036854775807
      · rw [if_pos c12] at H
        have c12b0 := eq_true c12
        have c12b1 : decide (t207.size + 1 ≤ 9223372036854775807) = true := decide_eq_true c12
        try have c12b2 : (9223372036854775807 < t207.size + 1) = False := eq_false (Nat.not_lt.2 c12)
        replace H := Option.bind_eq_some_iff.mp H
        obtain ⟨t208, A130, H⟩ := H
        replace H : (if (t207 ++ (⟨#[47]⟩ : ByteArray)).size + t208.size ≤ 9223372036854775807 then (some ((t207 ++ (⟨#[47]⟩ : ByteArray)) ++ t208)) else (none)) = some r := H
        have A13 := Aside0.mk A130
        clear A130
        by_cases c14 : (t207 ++ (⟨#[47]⟩ : ByteArray)).size + t208.size ≤ 9223372036854775807
        · rw [if_pos c14] at H
          try (have c14w : (9223372036854775807 < t207.size + 1 + t208.size) = False := eq_false (by have h1 := c14; simp only [ByteArray.size_append, ByteArray.size_extract, bsize1] at h1; simp only [eq_iff_iff, iff_true, iff_false] at *; omega))
          have c14b0 := eq_true c14
          have c14b1 : decide ((t207 ++ (⟨#[47]⟩ : ByteArray)).size + t208.size ≤ 9223372036854775807) = true := decide_eq_true c14
          try have c14b2 : (9223372036854775807 < (t207 ++ (⟨#[47]⟩ : ByteArray)).size + t208.size) = False := eq_false (Nat.not_lt.2 c14)
          obtain rfl := Option.some.inj H
          go_enter Tryd.func28, Tryd.ntmps28
          try go_wp2_with (first | ((with_reducible refine gate_dst (N := 1) rfl ?_); refine box_event ?hg (N := 1) ?hd (cs := #[.int .i64 a0_0, .int .i64 a0_1]) (t := 24) ?hr ?_; (case hd => rfl); (case hg => rfl); (case hr => first | (go_simp; done) | (go_simp; rfl)); intro gb204 hg w15 hbox hb; have n0_ := Aside0.mk (below_step (by repeat (first | (with_reducible first | exact HB.out | apply below_alloc | apply pw_below_drewN | apply below_drew1) | exact HB.out)) hb); have n1_ := Aside0.mk (hbox); have n2_ := Aside0.mk ((by rw [hg]; exact (below_size (by repeat (first | (with_reducible first | exact HB.out | apply below_alloc | apply pw_below_drewN | apply below_drew1) | exact HB.out))) : w.heap.size ≤ gb204)); have n3_ := Aside0.mk ((by rw [hg]; exact (below_size (by repeat (first | (with_reducible first | exact HB.out | apply below_alloc | apply pw_below_drewN | apply below_drew1) | exact HB.out))) : w.heap.size ≤ gb204)); clear HB; have HB := n0_; have BK204 := n1_; have GW204 := n2_; have GE204 := n3_; clear n0_ n1_ n2_ n3_; clear hb hbox hg; have hcz16_0 : w15.cell? ⟨gb204, 0, none⟩ = some (.int .i64 a0_0) := (blk_cell BK204.out 0).trans rfl; have hcz16_1 : w15.cell? ⟨gb204, 1, none⟩ = some (.int .i64 a0_1) := (blk_cell BK204.out 1).trans rfl; have hfz16_0 := blk_frozen BK204.out 0; have hfz16_1 := blk_frozen BK204.out 1) | ((with_reducible refine gate_callee (f := 19) rfl ?_); refine goesL_ (some 4) rfl rfl Tryd.func19 (by kernel_rfl) rfl #[.agg #[.int .i64 a0_0, .int .i64 a0_1]] rfl (by (try simp only [List.map_toArray, List.map_cons, List.map_nil]); first | done | rfl | (simp only [List.length_drop, List.length_take]; rfl)) ?_; (with_reducible refine (ratio_Valid.calls a0_0 a0_1 true _ A2.out).mono ?_); rintro e w17 ⟨rfl, hb⟩; refine ⟨_, rfl, ?_⟩; have n0_ := Aside0.mk (blk_below (g := gb204) (o := .cells #[.int .i64 a0_0, .int .i64 a0_1] 24 (0, 0)) (by (with_reducible repeat (first | refine blk_drewN ?_ _ | refine blk_drew ?_ | refine blk_alloc ?_ _)); exact BK204.out) hb); have n1_ := Aside0.mk (below_step (by repeat (first | (with_reducible first | exact HB.out | apply below_alloc | apply pw_below_drewN | apply below_drew1 | refine below_set ?_ GE204.out) | exact HB.out)) hb); clear BK204; clear HB; have BK204 := n0_; have HB := n1_; clear n0_ n1_; (try clear hb); (try clear hb2); (try clear hk); (try clear hi); have hcz18_0 : w17.cell? ⟨gb204, 0, none⟩ = some (.int .i64 a0_0) := (blk_cell BK204.out 0).trans rfl; have hcz18_1 : w17.cell? ⟨gb204, 1, none⟩ = some (.int .i64 a0_1) := (blk_cell BK204.out 1).trans rfl; have hfz18_0 := blk_frozen BK204.out 0; have hfz18_1 := blk_frozen BK204.out 1))
          have n0_ := Aside0.mk (blk_drew BK204.out)
          have n1_ := Aside0.mk (below_drew1 HB.out)
          clear BK204
          clear HB
          have BK204 := n0_
          have HB := n1_
          clear n0_ n1_
          refine start_ (n := 9) (S := fun w' => w'.cell? ⟨gb204, 0, none⟩ = some (.int .i64 a0_0) ∧ w'.cell? ⟨gb204, 1, none⟩ = some (.int .i64 a0_1)) (ds := []) #[false, false, false, false, false, false, false, false, false] (by kernel_rfl) rfl rfl ⟨(blk_cell BK204.out 0).trans rfl, (blk_cell BK204.out 1).trans rfl⟩ (fun hHeld => ?_); refine with_tabW ratio_Text.tab5 ratio_Text.bits5 (fun HT_ HW_ => ?_)
          generalize w17.drew = w19 at BK204 HB hHeld ⊢
          refine pure_ (i := 0) (N := some 12) (v := ?_) (a' := ?_) #[true, false, false, false, false, false, false, false, false] rfl rfl (any_of HT_.out (by kernel_rfl)) (fun _ _ _ h => h) (Or.inl ⟨by rfl, ?_⟩) ?_ ?_
          rotate_left
          · intro w'
            go_simp
            with_reducible rfl
          rotate_left
          · simp only [Act.put, List.setIfInBounds_toArray, List.set_cons_zero, List.set_cons_succ, i64_w, i32_w]
            rfl
          refine pure_ (i := 4) (N := some 16) (v := ?_) (a' := ?_) #[true, false, false, false, true, false, false, false, false] rfl rfl (any_of HT_.out (by kernel_rfl)) (fun _ _ _ h => h) (Or.inl ⟨by rfl, ?_⟩) ?_ ?_
          rotate_left
          · intro w'
            go_simp
            with_reducible rfl
          rotate_left
          · simp only [Act.put, List.setIfInBounds_toArray, List.set_cons_zero, List.set_cons_succ, i64_w, i32_w]
            rfl
          refine take_ (i := 1) (N := some 13) (v := ?_) (a' := ?_) #[true, true, false, false, true, false, false, false, false] rfl rfl (take_ofW HT_.out HW_.out (by kernel_rfl)) (fun _ _ _ h => h) (Or.inl ⟨by rfl, ?_⟩) hHeld ?_ ?_
          rotate_left
          · rintro w' ⟨s0, s1⟩
            go_simp
            with_reducible rfl
          rotate_left
          · simp only [Act.put, List.setIfInBounds_toArray, List.set_cons_zero, List.set_cons_succ, i64_w, i32_w]
            rfl
          refine take_ (i := 5) (N := some 17) (v := ?_) (a' := ?_) #[true, true, false, false, true, true, false, false, false] rfl rfl (take_ofW HT_.out HW_.out (by kernel_rfl)) (fun _ _ _ h => h) (Or.inl ⟨by rfl, ?_⟩) hHeld ?_ ?_
          rotate_left
          · rintro w' ⟨s0, s1⟩
            go_simp
            with_reducible rfl
          rotate_left
          · simp only [Act.put, List.setIfInBounds_toArray, List.set_cons_zero, List.set_cons_succ, i64_w, i32_w]
            rfl
          refine one_ (i := 2) (N := some 14) #[true, true, true, false, true, true, false, false, false] rfl rfl (one_of HT_.out (by kernel_rfl)) (by decide) (fun K hK => ?_)
          refine goes_ Tryd.func41 (by kernel_rfl) rfl #[.int .i64 a0_0] (by rfl) rfl rfl (by (try simp only [List.map_toArray, List.map_cons, List.map_nil]); first | done | rfl | (simp only [List.length_drop, List.length_take]; rfl)) ?_
          with_reducible refine (strconv_Itoa.calls (hv := hv.step (by repeat (first | (with_reducible first | exact HB.out | apply below_alloc | apply pw_below_drewN | apply below_drew1 | refine below_set ?_ (Aside0.out (by assumption))) | exact HB.out))) a0_0 t207 _ A11.out).mono ?_
          rintro e w20 ⟨rfl, hb⟩
          refine ⟨_, rfl, ?_⟩
          have n0_ := Aside0.mk (blk_below (g := gb204) (o := .cells #[.int .i64 a0_0, .int .i64 a0_1] 24 (0, 0)) (by (with_reducible repeat (first | refine blk_drewN ?_ _ | refine blk_drew ?_ | refine blk_alloc ?_ _)); exact BK204.out) hb)
          have n1_ := Aside0.mk (below_step (by repeat (first | (with_reducible first | exact HB.out | apply below_alloc | apply pw_below_drewN | apply below_drew1 | refine below_set ?_ GE204.out) | exact HB.out)) hb)
          clear BK204
          clear HB
          have BK204 := n0_
          have HB := n1_
          clear n0_ n1_
          (try clear hb)
          (try clear hb2)
          (try clear hk)
          (try clear hi)
          refine hK.out _ _ ⟨(blk_cell BK204.out 0).trans rfl, (blk_cell BK204.out 1).trans rfl⟩ (fun hHeld => ?_)
          clear hK K
          refine norm_ (a' := ?_) ?_ ?_
          rotate_left
          · show Act.put _ (some 14) _ = _
            simp only [Act.put, List.setIfInBounds_toArray, List.set_cons_zero, List.set_cons_succ, i64_w, i32_w]
            rfl
          refine pure_ (i := 3) (N := some 15) (v := ?_) (a' := ?_) #[true, true, true, true, true, true, false, false, false] rfl rfl (any_of HT_.out (by kernel_rfl)) (fun _ _ _ h => h) (Or.inl ⟨by rfl, ?_⟩) ?_ ?_
          rotate_left
          · intro w'
            go_simp
            with_reducible rfl
          rotate_left
          · simp only [Act.put, List.setIfInBounds_toArray, List.set_cons_zero, List.set_cons_succ, i64_w, i32_w]
            rfl
          refine one_ (i := 6) (N := some 18) #[true, true, true, true, true, true, true, false, false] rfl rfl (one_of HT_.out (by kernel_rfl)) (by decide) (fun K hK => ?_)
          refine goes_ Tryd.func41 (by kernel_rfl) rfl #[.int .i64 a0_1] (by rfl) rfl rfl (by (try simp only [List.map_toArray, List.map_cons, List.map_nil]); first | done | rfl | (simp only [List.length_drop, List.length_take]; rfl)) ?_
          with_reducible refine (strconv_Itoa.calls (hv := hv.step (by repeat (first | (with_reducible first | exact HB.out | apply below_alloc | apply pw_below_drewN | apply below_drew1 | refine below_set ?_ (Aside0.out (by assumption))) | exact HB.out))) a0_1 t208 _ A13.out).mono ?_
          rintro e w21 ⟨rfl, hb⟩
          refine ⟨_, rfl, ?_⟩
          have n0_ := Aside0.mk (blk_below (g := gb204) (o := .cells #[.int .i64 a0_0, .int .i64 a0_1] 24 (0, 0)) (by (with_reducible repeat (first | refine blk_drewN ?_ _ | refine blk_drew ?_ | refine blk_alloc ?_ _)); exact BK204.out) hb)
          have n1_ := Aside0.mk (below_step (by repeat (first | (with_reducible first | exact HB.out | apply below_alloc | apply pw_below_drewN | apply below_drew1 | refine below_set ?_ GE204.out) | exact HB.out)) hb)
          clear BK204
          clear HB
          have BK204 := n0_
          have HB := n1_
          clear n0_ n1_
          (try clear hb)
          (try clear hb2)
          (try clear hk)
          (try clear hi)
          refine hK.out _ _ ⟨(blk_cell BK204.out 0).trans rfl, (blk_cell BK204.out 1).trans rfl⟩ (fun hHeld => ?_)
          clear hK K
          refine norm_ (a' := ?_) ?_ ?_
          rotate_left
          · show Act.put _ (some 18) _ = _
            simp only [Act.put, List.setIfInBounds_toArray, List.set_cons_zero, List.set_cons_succ, i64_w, i32_w]
            rfl
          refine pure_ (i := 7) (N := some 19) (v := ?_) (a' := ?_) #[true, true, true, true, true, true, true, true, false] rfl rfl (any_of HT_.out (by kernel_rfl)) (fun _ _ _ h => h) (Or.inl ⟨by rfl, ?_⟩) ?_ ?_
          rotate_left
          · intro w'
            go_simp
            with_reducible rfl
          rotate_left
          · simp only [Act.put, List.setIfInBounds_toArray, List.set_cons_zero, List.set_cons_succ, i64_w, i32_w]
            rfl
          refine pure_ (i := 8) (N := some 2) (v := ?_) (a' := ?_) #[true, true, true, true, true, true, true, true, true] rfl rfl (any_of HT_.out (by kernel_rfl)) (fun _ _ _ h => h) (Or.inl ⟨by rfl, ?_⟩) ?_ ?_
          rotate_left
          · intro w'
            go_simp
            with_reducible rfl
          rotate_left
          · simp only [Act.put, List.setIfInBounds_toArray, List.set_cons_zero, List.set_cons_succ, i64_w, i32_w]
            rfl
          refine done_ (done_of HT_.out (by kernel_rfl)) ?_
          try go_wp2
          go_ret
          exact ⟨by first | rfl | (simp [errW_none, errW_some] <;> rfl) | (simp [*, errW_none, errW_some] <;> rfl), by repeat (first | (with_reducible first | exact HB.out | apply below_alloc | apply pw_below_drewN | apply below_drew1 | refine below_set ?_ GE204.out) | exact HB.out)⟩
        · rw [if_neg c14] at H
          exact absurd H (by simp)
      · rw [if_neg c12] at H
        exact absurd H (by simp)
  · replace c3 := Bool.eq_false_iff.mpr c3
    subst c3
    have H1 : (some (⟨#[]⟩ : ByteArray)) = some r := by rw [if_neg (show ¬ (false = true) by decide)] at H; exact H
    clear H
    have H := H1
    clear H1
    obtain rfl := Option.some.inj H
    go_enter Tryd.func28, Tryd.ntmps28
    go_wp2_with (first | ((with_reducible refine gate_dst (N := 1) rfl ?_); refine box_event ?hg (N := 1) ?hd (cs := #[.int .i64 a0_0, .int .i64 a0_1]) (t := 24) ?hr ?_; (case hd => rfl); (case hg => rfl); (case hr => first | (go_simp; done) | (go_simp; rfl)); intro gb204 hg w22 hbox hb; have n0_ := Aside0.mk (below_step (by repeat (first | (with_reducible first | exact HB.out | apply below_alloc | apply pw_below_drewN | apply below_drew1) | exact HB.out)) hb); have n1_ := Aside0.mk (hbox); have n2_ := Aside0.mk ((by rw [hg]; exact (below_size (by repeat (first | (with_reducible first | exact HB.out | apply below_alloc | apply pw_below_drewN | apply below_drew1) | exact HB.out))) : w.heap.size ≤ gb204)); have n3_ := Aside0.mk ((by rw [hg]; exact (below_size (by repeat (first | (with_reducible first | exact HB.out | apply below_alloc | apply pw_below_drewN | apply below_drew1) | exact HB.out))) : w.heap.size ≤ gb204)); clear HB; have HB := n0_; have BK204 := n1_; have GW204 := n2_; have GE204 := n3_; clear n0_ n1_ n2_ n3_; clear hb hbox hg; have hcz23_0 : w22.cell? ⟨gb204, 0, none⟩ = some (.int .i64 a0_0) := (blk_cell BK204.out 0).trans rfl; have hcz23_1 : w22.cell? ⟨gb204, 1, none⟩ = some (.int .i64 a0_1) := (blk_cell BK204.out 1).trans rfl; have hfz23_0 := blk_frozen BK204.out 0; have hfz23_1 := blk_frozen BK204.out 1) | ((with_reducible refine gate_callee (f := 19) rfl ?_); refine goesL_ (some 4) rfl rfl Tryd.func19 (by kernel_rfl) rfl #[.agg #[.int .i64 a0_0, .int .i64 a0_1]] rfl (by (try simp only [List.map_toArray, List.map_cons, List.map_nil]); first | done | rfl | (simp only [List.length_drop, List.length_take]; rfl)) ?_; (with_reducible refine (ratio_Valid.calls a0_0 a0_1 false _ A2.out).mono ?_); rintro e w24 ⟨rfl, hb⟩; refine ⟨_, rfl, ?_⟩; have n0_ := Aside0.mk (blk_below (g := gb204) (o := .cells #[.int .i64 a0_0, .int .i64 a0_1] 24 (0, 0)) (by (with_reducible repeat (first | refine blk_drewN ?_ _ | refine blk_drew ?_ | refine blk_alloc ?_ _)); exact BK204.out) hb); have n1_ := Aside0.mk (below_step (by repeat (first | (with_reducible first | exact HB.out | apply below_alloc | apply pw_below_drewN | apply below_drew1 | refine below_set ?_ GE204.out) | exact HB.out)) hb); clear BK204; clear HB; have BK204 := n0_; have HB := n1_; clear n0_ n1_; (try clear hb); (try clear hb2); (try clear hk); (try clear hi)))
    go_ret
    exact ⟨by first | rfl | (simp [errW_none, errW_some] <;> rfl) | (simp [*, errW_none, errW_some] <;> rfl), by repeat (first | (with_reducible first | exact HB.out | apply below_alloc | apply pw_below_drewN | apply below_drew1 | refine below_set ?_ GE204.out) | exact HB.out)⟩

/-! ### ratio_Parse: function 26 -/
def RetBelow (v : Value) (w : World) (e : Ending) (w' : World) : Prop := e = .returned v ∧ Below w.heap.size w w'
theorem RetBelow.of {v u : Value} {w : World} {e : Ending} {w' : World} (he : e = .returned u) (hu : u = v) (hb : Below w.heap.size w w') : RetBelow v w e w' := ⟨by rw [he, hu], hb⟩
/-- Atoi as a plain function: the number, where it is one -/
def numOf (s : ByteArray) : Option Int := match Lib.atoiAll s.data.toList with
  | .ok v => some v
  | _ => none
theorem Atoi_ok (s : ByteArray) (v : Int) (w : World) (hv : LaidAt w) (B : Hid (numOf s = some v)) (hs : s.size ≤ 1000) :
    Calls Tryd.prog 39 #[.string s] w fun e w' => e = .returned (.tuple #[.int .i64 v, .nilIface]) ∧ Below w.heap.size w w' := by
  refine (Atoi_any s (by omega) w hv).mono ?_
  intro e w' h
  have B := B.out
  unfold numOf at B
  rcases h with ⟨v1, hv1, he, hb⟩ | ⟨hn, _⟩
  · rw [hv1] at B
    obtain rfl := Option.some.inj B
    exact ⟨he, hb⟩
  · cases hq : Lib.atoiAll s.data.toList with
    | ok x => exact absurd hq (hn x)
    | _ => rw [hq] at B; cases B
theorem Atoi_no (s : ByteArray) (w : World) (hv : LaidAt w) (B : Hid (numOf s = none)) (hs : s.size ≤ 1000) :
    Calls Tryd.prog 39 #[.string s] w fun e w' => ∃ (n : Int) (N : Nat), e = .returned (.tuple #[.int .i64 n, .iface 71 (.pointer (some ⟨N, 0, none⟩))]) ∧ Below w.heap.size w w' := by
  refine (Atoi_any s (by omega) w hv).mono ?_
  intro e w' h
  have B := B.out
  unfold numOf at B
  rcases h with ⟨v1, hv1, he, hb⟩ | ⟨hn, n, N, he, hb⟩
  · rw [hv1] at B
    cases B
  · exact ⟨n, N, he, hb⟩
theorem Index_calls (s : ByteArray) (i : Int) (w : World) (hi : Hid (Lib.indexByte s.data.toList 47 = i)) :
    Calls Tryd.prog 53 #[.string s, .string ⟨#[47]⟩] w fun e w' => e = .returned (.int .i64 i) ∧ w' = w := by
  rw [← hi.out]
  exact Any.stringslite_Index_one Tryd.lays219 s 47 w
theorem lite_yes (s : ByteArray) (hs : s.size ≤ 1000000) (i : Int) (w : World) (hi : Hid (Lib.indexByte s.data.toList 47 = i)) (h0 : 0 ≤ i) (h1 : i < s.size) :
    Calls Tryd.prog 49 #[.string s, .string ⟨#[47]⟩] w fun e w' => e = .returned (.tuple #[.string (s.extract 0 i.toNat), .string (s.extract (i + 1).toNat s.size), .bool true]) ∧ Below w.heap.size w w' := by
  have c0 : decide (i ≥ 0) = true := decide_eq_true h0
  go_enter Tryd.func49, Tryd.ntmps49
  go_wp2_with (go_at_call 53; (with_reducible refine (Index_calls s i _ hi).mono ?_); rintro e w1 ⟨rfl, rfl⟩)
  have hs2 : (s.size : Int) ≤ 1000000 := by omega
  go_quiet (fail)
  go_wp2
  go_ret3
  exact ⟨rfl, pw_below_drewN (Below.refl _ _) _⟩
theorem lite_no (s : ByteArray) (i : Int) (w : World) (hi : Hid (Lib.indexByte s.data.toList 47 = i)) (h0 : ¬ 0 ≤ i) :
    Calls Tryd.prog 49 #[.string s, .string ⟨#[47]⟩] w fun e w' => e = .returned (.tuple #[.string s, .string ⟨#[]⟩, .bool false]) ∧ Below w.heap.size w w' := by
  have c0 : decide (i ≥ 0) = false := decide_eq_false h0
  go_enter Tryd.func49, Tryd.ntmps49
  go_wp2_with (go_at_call 53; (with_reducible refine (Index_calls s i _ hi).mono ?_); rintro e w1 ⟨rfl, rfl⟩)
  go_wp2
  go_ret3
  exact ⟨rfl, Below.refl _ _⟩
def cutFound (s : ByteArray) : Bool := decide (0 ≤ Lib.indexByte s.data.toList 47)
def cutFirst (s : ByteArray) : ByteArray := if 0 ≤ Lib.indexByte s.data.toList 47 then s.extract 0 (Lib.indexByte s.data.toList 47).toNat else s
def cutSecond (s : ByteArray) : ByteArray := if 0 ≤ Lib.indexByte s.data.toList 47 then s.extract (Lib.indexByte s.data.toList 47 + 1).toNat s.size else ⟨#[]⟩
theorem index_lt (s : ByteArray) (h : 0 ≤ Lib.indexByte s.data.toList 47) : Lib.indexByte s.data.toList 47 < s.size := by
  obtain ⟨n, hn⟩ := Int.eq_ofNat_of_zero_le h
  have := (Lib.indexByte_some hn).1
  have q : n < s.data.toList.length := by
    rcases Nat.lt_or_ge n s.data.toList.length with q | q
    · exact q
    · rw [List.getElem?_eq_none q] at this
      cases this
  rw [hn]
  have z : s.data.toList.length = s.size := by rw [Array.length_toList]; rfl
  omega
theorem lite_any (s : ByteArray) (hs : s.size ≤ 1000000) (w : World) :
    Calls Tryd.prog 49 #[.string s, .string ⟨#[47]⟩] w fun e w' => e = .returned (.tuple #[.string (cutFirst s), .string (cutSecond s), .bool (cutFound s)]) ∧ Below w.heap.size w w' := by
  unfold cutFirst cutSecond cutFound
  by_cases h : 0 ≤ Lib.indexByte s.data.toList 47
  · rw [if_pos h, if_pos h, decide_eq_true h]
    exact lite_yes s hs _ w (Lib.hid rfl) h (index_lt s h)
  · rw [if_neg h, if_neg h, decide_eq_false h]
    exact lite_no s _ w (Lib.hid rfl) h
theorem Cut_any (s : ByteArray) (hs : s.size ≤ 1000000) (x y : ByteArray) (b : Bool) (w : World) (hx : Hid (cutFirst s = x)) (hy : Hid (cutSecond s = y)) (hb : Hid (cutFound s = b)) :
    Calls Tryd.prog 38 #[.string s, .string ⟨#[47]⟩] w fun e w' => e = .returned (.tuple #[.string x, .string y, .bool b]) ∧ Below w.heap.size w w' := by
  have HL := lite_any s hs
  rw [hx.out, hy.out, hb.out] at HL
  replace HL := Lib.hid HL
  clear hx hy hb
  go_enter Tryd.func38, Tryd.ntmps38
  go_wp2_with (go_at_call 49; (with_reducible refine (HL.out _).mono ?_); rintro e w1 ⟨rfl, hb⟩; have HB := Aside0.mk hb; clear hb)
  go_ret3
  exact ⟨rfl, HB.out⟩
/-- what is behind the '/', or "1" -/
def cutNumber (s : ByteArray) : ByteArray := if cutFound s = true then cutSecond s else ⟨#[49]⟩
def ratio_Parse.f (s : ByteArray) : Option (Int × Int × Int) :=
  if s.size ≤ 1000 then
    match numOf (cutFirst s), numOf (cutNumber s) with
    | some p, some q => if q = 0 then some (0, 0, 2) else (ratio_Text.f p q).bind fun t => if t.toList = s.toList then some (p, q, 0) else some (0, 0, 2)
    | _, _ => some (0, 0, 2)
  else none
set_option maxHeartbeats 4000000 in
set_option maxRecDepth 100000 in
theorem ParseF_ny (s x y : ByteArray) (hs : s.size ≤ 1000000) (w : World) (hv : LaidAt w) (hx : Hid (cutFirst s = x)) (hy : Hid (cutSecond s = y)) (hb : Hid (cutFound s = true)) (lx : x.size ≤ 1000) (ly : (y).size ≤ 1000) (q : Int) (B1 : Hid (numOf x = none)) (B2 : Hid (numOf y = some q)) :
    Calls Tryd.prog 26 #[.string s] w (RetBelow (.tuple #[.agg #[.int .i64 0, .int .i64 0], .int .i64 2]) w) := by
  have hu24 := Tryd.underlying24
  have HB := Aside0.mk (Below.refl w.heap.size w)
  go_enter Tryd.func26, Tryd.ntmps26
  go_wp2_with (first | ((with_reducible refine gate_dst (N := 2) rfl ?_); refine box_event ?hg (N := 2) ?hd (cs := #[.int .i64 0, .int .i64 0]) (t := 24) ?hr ?_; (case hd => rfl); (case hg => rfl); (case hr => first | (go_simp; done) | (go_simp; rfl)); intro gb2 hg w2 hbox hb1; have n0_ := Aside0.mk (below_step (by repeat (first | (with_reducible first | exact HB.out | apply below_alloc | apply pw_below_drewN | apply below_drew1) | exact HB.out)) hb1); have n1_ := Aside0.mk (hbox); have n2_ := Aside0.mk ((by rw [hg]; exact (below_size (by repeat (first | (with_reducible first | exact HB.out | apply below_alloc | apply pw_below_drewN | apply below_drew1) | exact HB.out))) : w.heap.size ≤ gb2)); clear HB; have HB := n0_; have BK2 := n1_; have GE2 := n2_; clear n0_ n1_ n2_; clear hb1 hbox hg) | (go_at_call 38; (with_reducible refine (Cut_any s hs x y true _ hx hy hb).mono ?_); rintro e w38 ⟨rfl, hb1⟩; have n0_ := Aside0.mk (blk_below (g := gb2) (o := .cells #[.int .i64 0, .int .i64 0] 24 (0, 0)) (by (with_reducible repeat (first | refine blk_drewN ?_ _ | refine blk_drew ?_ | refine blk_alloc ?_ _)); exact BK2.out) hb1); have n1_ := Aside0.mk (below_step (by repeat (first | (with_reducible first | exact HB.out | apply below_alloc | apply pw_below_drewN | apply below_drew1 | refine below_set ?_ GE2.out) | exact HB.out)) hb1); clear BK2 HB hb1; have BK2 := n0_; have HB := n1_; clear n0_ n1_) | (go_at_call 39; (with_reducible refine (Atoi_no x _ (hv.step (by repeat (first | (with_reducible first | exact HB.out | apply below_alloc | apply pw_below_drewN | apply below_drew1 | refine below_set ?_ GE2.out) | exact HB.out))) B1 lx).mono ?_); rintro e w1 ⟨np, Np, rfl, hb1⟩; have n0_ := Aside0.mk (blk_below (g := gb2) (o := .cells #[.int .i64 0, .int .i64 0] 24 (0, 0)) (by (with_reducible repeat (first | refine blk_drewN ?_ _ | refine blk_drew ?_ | refine blk_alloc ?_ _)); exact BK2.out) hb1); have n1_ := Aside0.mk (below_step (by repeat (first | (with_reducible first | exact HB.out | apply below_alloc | apply pw_below_drewN | apply below_drew1 | refine below_set ?_ GE2.out) | exact HB.out)) hb1); clear BK2 HB hb1; have BK2 := n0_; have HB := n1_; clear n0_ n1_) | (go_at_call 39; (with_reducible refine (Atoi_ok y q _ (hv.step (by repeat (first | (with_reducible first | exact HB.out | apply below_alloc | apply pw_below_drewN | apply below_drew1 | refine below_set ?_ GE2.out) | exact HB.out))) B2 ly).mono ?_); rintro e w1 ⟨rfl, hb1⟩; have n0_ := Aside0.mk (blk_below (g := gb2) (o := .cells #[.int .i64 0, .int .i64 0] 24 (0, 0)) (by (with_reducible repeat (first | refine blk_drewN ?_ _ | refine blk_drew ?_ | refine blk_alloc ?_ _)); exact BK2.out) hb1); have n1_ := Aside0.mk (below_step (by repeat (first | (with_reducible first | exact HB.out | apply below_alloc | apply pw_below_drewN | apply below_drew1 | refine below_set ?_ GE2.out) | exact HB.out)) hb1); clear BK2 HB hb1; have BK2 := n0_; have HB := n1_; clear n0_ n1_) | ((with_reducible refine gate_dst (N := 11) rfl ?_); refine box_event ?hg (N := 11) ?hd (cs := #[.int .i64 0, .int .i64 0]) (t := 24) ?hr ?_; (case hd => rfl); (case hg => rfl); (case hr => first | (go_simp; done) | (go_simp; rfl)); intro gb11 hg w11 hbox hb1; have n0_ := Aside0.mk (blk_below (g := gb2) (o := .cells #[.int .i64 0, .int .i64 0] 24 (0, 0)) (by (with_reducible repeat (first | refine blk_drewN ?_ _ | refine blk_drew ?_ | refine blk_alloc ?_ _)); exact BK2.out) hb1); have n1_ := Aside0.mk (below_step (by repeat (first | (with_reducible first | exact HB.out | apply below_alloc | apply pw_below_drewN | apply below_drew1 | refine below_set ?_ GE2.out) | exact HB.out)) hb1); have n2_ := Aside0.mk (hbox); have n3_ := Aside0.mk ((by rw [hg]; exact (below_size (by repeat (first | (with_reducible first | exact HB.out | apply below_alloc | apply pw_below_drewN | apply below_drew1 | refine below_set ?_ GE2.out) | exact HB.out))) : w.heap.size ≤ gb11)); have n5_ := Aside0.mk ((by rw [hg]; exact Nat.ne_of_lt (blk_lt (g := gb2) (o := .cells #[.int .i64 0, .int .i64 0] 24 (0, 0)) (by (with_reducible repeat (first | refine blk_drewN ?_ _ | refine blk_drew ?_ | refine blk_alloc ?_ _)); exact BK2.out)) : gb2 ≠ gb11)); have n6_ := Aside0.mk ((by rw [hg]; exact Nat.ne_of_gt (blk_lt (g := gb2) (o := .cells #[.int .i64 0, .int .i64 0] 24 (0, 0)) (by (with_reducible repeat (first | refine blk_drewN ?_ _ | refine blk_drew ?_ | refine blk_alloc ?_ _)); exact BK2.out)) : gb11 ≠ gb2)); clear BK2; clear HB; have BK2 := n0_; have HB := n1_; have BK11 := n2_; have GE11 := n3_; have NB2_11 := n5_; have NB11_2 := n6_; clear n0_ n1_ n2_ n3_ n5_ n6_; clear hb1 hbox hg; have hnb := NB11_2.out; have hnc := NB2_11.out; have hcz1_0 : w11.cell? ⟨gb11, 0, none⟩ = some (.int .i64 (0)) := (blk_cell BK11.out 0).trans rfl; have hcz1_1 : w11.cell? ⟨gb11, 1, none⟩ = some (.int .i64 (0)) := (blk_cell BK11.out 1).trans rfl; have hfz1_0 := blk_frozen BK11.out 0; have hfz1_1 := blk_frozen BK11.out 1; have hcz2_0 : w11.cell? ⟨gb2, 0, none⟩ = some (.int .i64 (0)) := (blk_cell BK2.out 0).trans rfl; have hcz2_1 : w11.cell? ⟨gb2, 1, none⟩ = some (.int .i64 (0)) := (blk_cell BK2.out 1).trans rfl; have hfz2_0 := blk_frozen BK2.out 0; have hfz2_1 := blk_frozen BK2.out 1))
  repeat (go_quiet (fail); try go_wp2)
  refine bodyPost_ret (results_ct rfl _ _ gb2 24 #[.int .i64 (0), .int .i64 (0)] (0, 0) _ rfl (by (with_reducible repeat (first | refine blk_drewN ?_ _ | refine blk_drew ?_ | refine blk_alloc ?_ _)); refine blk_put (cs := #[.int .i64 (0), .int .i64 0]) ?_ 1 _ rfl; (with_reducible repeat (first | refine blk_drewN ?_ _ | refine blk_drew ?_ | refine blk_alloc ?_ _)); refine blk_put (cs := #[.int .i64 0, .int .i64 0]) ?_ 0 _ rfl; (with_reducible repeat (first | refine blk_drewN ?_ _ | refine blk_drew ?_ | refine blk_alloc ?_ _)); refine blk_far ?_ NB2_11.out _; (with_reducible repeat (first | refine blk_drewN ?_ _ | refine blk_drew ?_ | refine blk_alloc ?_ _)); refine blk_far ?_ NB2_11.out _; (with_reducible repeat (first | refine blk_drewN ?_ _ | refine blk_drew ?_ | refine blk_alloc ?_ _)); exact BK2.out) Tryd.underlying24 rfl (by kernel_rfl)) rfl ?_
  exact RetBelow.of rfl rfl (by repeat (first | (with_reducible first | exact HB.out | apply below_alloc | apply pw_below_drewN | apply below_drew1 | refine below_set ?_ GE2.out | refine below_set ?_ GE11.out) | exact HB.out))

set_option maxHeartbeats 4000000 in
set_option maxRecDepth 100000 in
theorem ParseF_nn (s x y : ByteArray) (hs : s.size ≤ 1000000) (w : World) (hv : LaidAt w) (hx : Hid (cutFirst s = x)) (hy : Hid (cutSecond s = y)) (hb : Hid (cutFound s = true)) (lx : x.size ≤ 1000) (ly : (y).size ≤ 1000) (B1 : Hid (numOf x = none)) (B2 : Hid (numOf y = none)) :
    Calls Tryd.prog 26 #[.string s] w (RetBelow (.tuple #[.agg #[.int .i64 0, .int .i64 0], .int .i64 2]) w) := by
  have hu24 := Tryd.underlying24
  have HB := Aside0.mk (Below.refl w.heap.size w)
  go_enter Tryd.func26, Tryd.ntmps26
  go_wp2_with (first | ((with_reducible refine gate_dst (N := 2) rfl ?_); refine box_event ?hg (N := 2) ?hd (cs := #[.int .i64 0, .int .i64 0]) (t := 24) ?hr ?_; (case hd => rfl); (case hg => rfl); (case hr => first | (go_simp; done) | (go_simp; rfl)); intro gb2 hg w2 hbox hb1; have n0_ := Aside0.mk (below_step (by repeat (first | (with_reducible first | exact HB.out | apply below_alloc | apply pw_below_drewN | apply below_drew1) | exact HB.out)) hb1); have n1_ := Aside0.mk (hbox); have n2_ := Aside0.mk ((by rw [hg]; exact (below_size (by repeat (first | (with_reducible first | exact HB.out | apply below_alloc | apply pw_below_drewN | apply below_drew1) | exact HB.out))) : w.heap.size ≤ gb2)); clear HB; have HB := n0_; have BK2 := n1_; have GE2 := n2_; clear n0_ n1_ n2_; clear hb1 hbox hg) | (go_at_call 38; (with_reducible refine (Cut_any s hs x y true _ hx hy hb).mono ?_); rintro e w38 ⟨rfl, hb1⟩; have n0_ := Aside0.mk (blk_below (g := gb2) (o := .cells #[.int .i64 0, .int .i64 0] 24 (0, 0)) (by (with_reducible repeat (first | refine blk_drewN ?_ _ | refine blk_drew ?_ | refine blk_alloc ?_ _)); exact BK2.out) hb1); have n1_ := Aside0.mk (below_step (by repeat (first | (with_reducible first | exact HB.out | apply below_alloc | apply pw_below_drewN | apply below_drew1 | refine below_set ?_ GE2.out) | exact HB.out)) hb1); clear BK2 HB hb1; have BK2 := n0_; have HB := n1_; clear n0_ n1_) | (go_at_call 39; (with_reducible refine (Atoi_no x _ (hv.step (by repeat (first | (with_reducible first | exact HB.out | apply below_alloc | apply pw_below_drewN | apply below_drew1 | refine below_set ?_ GE2.out) | exact HB.out))) B1 lx).mono ?_); rintro e w1 ⟨np, Np, rfl, hb1⟩; have n0_ := Aside0.mk (blk_below (g := gb2) (o := .cells #[.int .i64 0, .int .i64 0] 24 (0, 0)) (by (with_reducible repeat (first | refine blk_drewN ?_ _ | refine blk_drew ?_ | refine blk_alloc ?_ _)); exact BK2.out) hb1); have n1_ := Aside0.mk (below_step (by repeat (first | (with_reducible first | exact HB.out | apply below_alloc | apply pw_below_drewN | apply below_drew1 | refine below_set ?_ GE2.out) | exact HB.out)) hb1); clear BK2 HB hb1; have BK2 := n0_; have HB := n1_; clear n0_ n1_) | (go_at_call 39; (with_reducible refine (Atoi_no y _ (hv.step (by repeat (first | (with_reducible first | exact HB.out | apply below_alloc | apply pw_below_drewN | apply below_drew1 | refine below_set ?_ GE2.out) | exact HB.out))) B2 ly).mono ?_); rintro e w1 ⟨nq, Nq, rfl, hb1⟩; have n0_ := Aside0.mk (blk_below (g := gb2) (o := .cells #[.int .i64 0, .int .i64 0] 24 (0, 0)) (by (with_reducible repeat (first | refine blk_drewN ?_ _ | refine blk_drew ?_ | refine blk_alloc ?_ _)); exact BK2.out) hb1); have n1_ := Aside0.mk (below_step (by repeat (first | (with_reducible first | exact HB.out | apply below_alloc | apply pw_below_drewN | apply below_drew1 | refine below_set ?_ GE2.out) | exact HB.out)) hb1); clear BK2 HB hb1; have BK2 := n0_; have HB := n1_; clear n0_ n1_) | ((with_reducible refine gate_dst (N := 11) rfl ?_); refine box_event ?hg (N := 11) ?hd (cs := #[.int .i64 0, .int .i64 0]) (t := 24) ?hr ?_; (case hd => rfl); (case hg => rfl); (case hr => first | (go_simp; done) | (go_simp; rfl)); intro gb11 hg w11 hbox hb1; have n0_ := Aside0.mk (blk_below (g := gb2) (o := .cells #[.int .i64 0, .int .i64 0] 24 (0, 0)) (by (with_reducible repeat (first | refine blk_drewN ?_ _ | refine blk_drew ?_ | refine blk_alloc ?_ _)); exact BK2.out) hb1); have n1_ := Aside0.mk (below_step (by repeat (first | (with_reducible first | exact HB.out | apply below_alloc | apply pw_below_drewN | apply below_drew1 | refine below_set ?_ GE2.out) | exact HB.out)) hb1); have n2_ := Aside0.mk (hbox); have n3_ := Aside0.mk ((by rw [hg]; exact (below_size (by repeat (first | (with_reducible first | exact HB.out | apply below_alloc | apply pw_below_drewN | apply below_drew1 | refine below_set ?_ GE2.out) | exact HB.out))) : w.heap.size ≤ gb11)); have n5_ := Aside0.mk ((by rw [hg]; exact Nat.ne_of_lt (blk_lt (g := gb2) (o := .cells #[.int .i64 0, .int .i64 0] 24 (0, 0)) (by (with_reducible repeat (first | refine blk_drewN ?_ _ | refine blk_drew ?_ | refine blk_alloc ?_ _)); exact BK2.out)) : gb2 ≠ gb11)); have n6_ := Aside0.mk ((by rw [hg]; exact Nat.ne_of_gt (blk_lt (g := gb2) (o := .cells #[.int .i64 0, .int .i64 0] 24 (0, 0)) (by (with_reducible repeat (first | refine blk_drewN ?_ _ | refine blk_drew ?_ | refine blk_alloc ?_ _)); exact BK2.out)) : gb11 ≠ gb2)); clear BK2; clear HB; have BK2 := n0_; have HB := n1_; have BK11 := n2_; have GE11 := n3_; have NB2_11 := n5_; have NB11_2 := n6_; clear n0_ n1_ n2_ n3_ n5_ n6_; clear hb1 hbox hg; have hnb := NB11_2.out; have hnc := NB2_11.out; have hcz1_0 : w11.cell? ⟨gb11, 0, none⟩ = some (.int .i64 (0)) := (blk_cell BK11.out 0).trans rfl; have hcz1_1 : w11.cell? ⟨gb11, 1, none⟩ = some (.int .i64 (0)) := (blk_cell BK11.out 1).trans rfl; have hfz1_0 := blk_frozen BK11.out 0; have hfz1_1 := blk_frozen BK11.out 1; have hcz2_0 : w11.cell? ⟨gb2, 0, none⟩ = some (.int .i64 (0)) := (blk_cell BK2.out 0).trans rfl; have hcz2_1 : w11.cell? ⟨gb2, 1, none⟩ = some (.int .i64 (0)) := (blk_cell BK2.out 1).trans rfl; have hfz2_0 := blk_frozen BK2.out 0; have hfz2_1 := blk_frozen BK2.out 1))
  repeat (go_quiet (fail); try go_wp2)
  refine bodyPost_ret (results_ct rfl _ _ gb2 24 #[.int .i64 (0), .int .i64 (0)] (0, 0) _ rfl (by (with_reducible repeat (first | refine blk_drewN ?_ _ | refine blk_drew ?_ | refine blk_alloc ?_ _)); refine blk_put (cs := #[.int .i64 (0), .int .i64 0]) ?_ 1 _ rfl; (with_reducible repeat (first | refine blk_drewN ?_ _ | refine blk_drew ?_ | refine blk_alloc ?_ _)); refine blk_put (cs := #[.int .i64 0, .int .i64 0]) ?_ 0 _ rfl; (with_reducible repeat (first | refine blk_drewN ?_ _ | refine blk_drew ?_ | refine blk_alloc ?_ _)); refine blk_far ?_ NB2_11.out _; (with_reducible repeat (first | refine blk_drewN ?_ _ | refine blk_drew ?_ | refine blk_alloc ?_ _)); refine blk_far ?_ NB2_11.out _; (with_reducible repeat (first | refine blk_drewN ?_ _ | refine blk_drew ?_ | refine blk_alloc ?_ _)); exact BK2.out) Tryd.underlying24 rfl (by kernel_rfl)) rfl ?_
  exact RetBelow.of rfl rfl (by repeat (first | (with_reducible first | exact HB.out | apply below_alloc | apply pw_below_drewN | apply below_drew1 | refine below_set ?_ GE2.out | refine below_set ?_ GE11.out) | exact HB.out))

set_option maxHeartbeats 4000000 in
set_option maxRecDepth 100000 in
theorem ParseF_yn (s x y : ByteArray) (hs : s.size ≤ 1000000) (w : World) (hv : LaidAt w) (hx : Hid (cutFirst s = x)) (hy : Hid (cutSecond s = y)) (hb : Hid (cutFound s = true)) (lx : x.size ≤ 1000) (ly : (y).size ≤ 1000) (p : Int) (B1 : Hid (numOf x = some p)) (B2 : Hid (numOf y = none)) :
    Calls Tryd.prog 26 #[.string s] w (RetBelow (.tuple #[.agg #[.int .i64 0, .int .i64 0], .int .i64 2]) w) := by
  have hu24 := Tryd.underlying24
  have HB := Aside0.mk (Below.refl w.heap.size w)
  go_enter Tryd.func26, Tryd.ntmps26
  go_wp2_with (first | ((with_reducible refine gate_dst (N := 2) rfl ?_); refine box_event ?hg (N := 2) ?hd (cs := #[.int .i64 0, .int .i64 0]) (t := 24) ?hr ?_; (case hd => rfl); (case hg => rfl); (case hr => first | (go_simp; done) | (go_simp; rfl)); intro gb2 hg w2 hbox hb1; have n0_ := Aside0.mk (below_step (by repeat (first | (with_reducible first | exact HB.out | apply below_alloc | apply pw_below_drewN | apply below_drew1) | exact HB.out)) hb1); have n1_ := Aside0.mk (hbox); have n2_ := Aside0.mk ((by rw [hg]; exact (below_size (by repeat (first | (with_reducible first | exact HB.out | apply below_alloc | apply pw_below_drewN | apply below_drew1) | exact HB.out))) : w.heap.size ≤ gb2)); clear HB; have HB := n0_; have BK2 := n1_; have GE2 := n2_; clear n0_ n1_ n2_; clear hb1 hbox hg) | (go_at_call 38; (with_reducible refine (Cut_any s hs x y true _ hx hy hb).mono ?_); rintro e w38 ⟨rfl, hb1⟩; have n0_ := Aside0.mk (blk_below (g := gb2) (o := .cells #[.int .i64 0, .int .i64 0] 24 (0, 0)) (by (with_reducible repeat (first | refine blk_drewN ?_ _ | refine blk_drew ?_ | refine blk_alloc ?_ _)); exact BK2.out) hb1); have n1_ := Aside0.mk (below_step (by repeat (first | (with_reducible first | exact HB.out | apply below_alloc | apply pw_below_drewN | apply below_drew1 | refine below_set ?_ GE2.out) | exact HB.out)) hb1); clear BK2 HB hb1; have BK2 := n0_; have HB := n1_; clear n0_ n1_) | (go_at_call 39; (with_reducible refine (Atoi_ok x p _ (hv.step (by repeat (first | (with_reducible first | exact HB.out | apply below_alloc | apply pw_below_drewN | apply below_drew1 | refine below_set ?_ GE2.out) | exact HB.out))) B1 lx).mono ?_); rintro e w1 ⟨rfl, hb1⟩; have n0_ := Aside0.mk (blk_below (g := gb2) (o := .cells #[.int .i64 0, .int .i64 0] 24 (0, 0)) (by (with_reducible repeat (first | refine blk_drewN ?_ _ | refine blk_drew ?_ | refine blk_alloc ?_ _)); exact BK2.out) hb1); have n1_ := Aside0.mk (below_step (by repeat (first | (with_reducible first | exact HB.out | apply below_alloc | apply pw_below_drewN | apply below_drew1 | refine below_set ?_ GE2.out) | exact HB.out)) hb1); clear BK2 HB hb1; have BK2 := n0_; have HB := n1_; clear n0_ n1_) | (go_at_call 39; (with_reducible refine (Atoi_no y _ (hv.step (by repeat (first | (with_reducible first | exact HB.out | apply below_alloc | apply pw_below_drewN | apply below_drew1 | refine below_set ?_ GE2.out) | exact HB.out))) B2 ly).mono ?_); rintro e w1 ⟨nq, Nq, rfl, hb1⟩; have n0_ := Aside0.mk (blk_below (g := gb2) (o := .cells #[.int .i64 0, .int .i64 0] 24 (0, 0)) (by (with_reducible repeat (first | refine blk_drewN ?_ _ | refine blk_drew ?_ | refine blk_alloc ?_ _)); exact BK2.out) hb1); have n1_ := Aside0.mk (below_step (by repeat (first | (with_reducible first | exact HB.out | apply below_alloc | apply pw_below_drewN | apply below_drew1 | refine below_set ?_ GE2.out) | exact HB.out)) hb1); clear BK2 HB hb1; have BK2 := n0_; have HB := n1_; clear n0_ n1_) | ((with_reducible refine gate_dst (N := 11) rfl ?_); refine box_event ?hg (N := 11) ?hd (cs := #[.int .i64 0, .int .i64 0]) (t := 24) ?hr ?_; (case hd => rfl); (case hg => rfl); (case hr => first | (go_simp; done) | (go_simp; rfl)); intro gb11 hg w11 hbox hb1; have n0_ := Aside0.mk (blk_below (g := gb2) (o := .cells #[.int .i64 0, .int .i64 0] 24 (0, 0)) (by (with_reducible repeat (first | refine blk_drewN ?_ _ | refine blk_drew ?_ | refine blk_alloc ?_ _)); exact BK2.out) hb1); have n1_ := Aside0.mk (below_step (by repeat (first | (with_reducible first | exact HB.out | apply below_alloc | apply pw_below_drewN | apply below_drew1 | refine below_set ?_ GE2.out) | exact HB.out)) hb1); have n2_ := Aside0.mk (hbox); have n3_ := Aside0.mk ((by rw [hg]; exact (below_size (by repeat (first | (with_reducible first | exact HB.out | apply below_alloc | apply pw_below_drewN | apply below_drew1 | refine below_set ?_ GE2.out) | exact HB.out))) : w.heap.size ≤ gb11)); have n5_ := Aside0.mk ((by rw [hg]; exact Nat.ne_of_lt (blk_lt (g := gb2) (o := .cells #[.int .i64 0, .int .i64 0] 24 (0, 0)) (by (with_reducible repeat (first | refine blk_drewN ?_ _ | refine blk_drew ?_ | refine blk_alloc ?_ _)); exact BK2.out)) : gb2 ≠ gb11)); have n6_ := Aside0.mk ((by rw [hg]; exact Nat.ne_of_gt (blk_lt (g := gb2) (o := .cells #[.int .i64 0, .int .i64 0] 24 (0, 0)) (by (with_reducible repeat (first | refine blk_drewN ?_ _ | refine blk_drew ?_ | refine blk_alloc ?_ _)); exact BK2.out)) : gb11 ≠ gb2)); clear BK2; clear HB; have BK2 := n0_; have HB := n1_; have BK11 := n2_; have GE11 := n3_; have NB2_11 := n5_; have NB11_2 := n6_; clear n0_ n1_ n2_ n3_ n5_ n6_; clear hb1 hbox hg; have hnb := NB11_2.out; have hnc := NB2_11.out; have hcz1_0 : w11.cell? ⟨gb11, 0, none⟩ = some (.int .i64 (0)) := (blk_cell BK11.out 0).trans rfl; have hcz1_1 : w11.cell? ⟨gb11, 1, none⟩ = some (.int .i64 (0)) := (blk_cell BK11.out 1).trans rfl; have hfz1_0 := blk_frozen BK11.out 0; have hfz1_1 := blk_frozen BK11.out 1; have hcz2_0 : w11.cell? ⟨gb2, 0, none⟩ = some (.int .i64 (0)) := (blk_cell BK2.out 0).trans rfl; have hcz2_1 : w11.cell? ⟨gb2, 1, none⟩ = some (.int .i64 (0)) := (blk_cell BK2.out 1).trans rfl; have hfz2_0 := blk_frozen BK2.out 0; have hfz2_1 := blk_frozen BK2.out 1))
  repeat (go_quiet (fail); try go_wp2)
  refine bodyPost_ret (results_ct rfl _ _ gb2 24 #[.int .i64 (0), .int .i64 (0)] (0, 0) _ rfl (by (with_reducible repeat (first | refine blk_drewN ?_ _ | refine blk_drew ?_ | refine blk_alloc ?_ _)); refine blk_put (cs := #[.int .i64 (0), .int .i64 0]) ?_ 1 _ rfl; (with_reducible repeat (first | refine blk_drewN ?_ _ | refine blk_drew ?_ | refine blk_alloc ?_ _)); refine blk_put (cs := #[.int .i64 0, .int .i64 0]) ?_ 0 _ rfl; (with_reducible repeat (first | refine blk_drewN ?_ _ | refine blk_drew ?_ | refine blk_alloc ?_ _)); refine blk_far ?_ NB2_11.out _; (with_reducible repeat (first | refine blk_drewN ?_ _ | refine blk_drew ?_ | refine blk_alloc ?_ _)); refine blk_far ?_ NB2_11.out _; (with_reducible repeat (first | refine blk_drewN ?_ _ | refine blk_drew ?_ | refine blk_alloc ?_ _)); exact BK2.out) Tryd.underlying24 rfl (by kernel_rfl)) rfl ?_
  exact RetBelow.of rfl rfl (by repeat (first | (with_reducible first | exact HB.out | apply below_alloc | apply pw_below_drewN | apply below_drew1 | refine below_set ?_ GE2.out | refine below_set ?_ GE11.out) | exact HB.out))

set_option maxHeartbeats 4000000 in
set_option maxRecDepth 100000 in
theorem ParseF_z (s x y : ByteArray) (hs : s.size ≤ 1000000) (w : World) (hv : LaidAt w) (hx : Hid (cutFirst s = x)) (hy : Hid (cutSecond s = y)) (hb : Hid (cutFound s = true)) (lx : x.size ≤ 1000) (ly : (y).size ≤ 1000) (p : Int) (B1 : Hid (numOf x = some p)) (B2 : Hid (numOf y = some 0)) :
    Calls Tryd.prog 26 #[.string s] w (RetBelow (.tuple #[.agg #[.int .i64 0, .int .i64 0], .int .i64 2]) w) := by
  have hu24 := Tryd.underlying24
  have HB := Aside0.mk (Below.refl w.heap.size w)
  go_enter Tryd.func26, Tryd.ntmps26
  go_wp2_with (first | ((with_reducible refine gate_dst (N := 2) rfl ?_); refine box_event ?hg (N := 2) ?hd (cs := #[.int .i64 0, .int .i64 0]) (t := 24) ?hr ?_; (case hd => rfl); (case hg => rfl); (case hr => first | (go_simp; done) | (go_simp; rfl)); intro gb2 hg w2 hbox hb1; have n0_ := Aside0.mk (below_step (by repeat (first | (with_reducible first | exact HB.out | apply below_alloc | apply pw_below_drewN | apply below_drew1) | exact HB.out)) hb1); have n1_ := Aside0.mk (hbox); have n2_ := Aside0.mk ((by rw [hg]; exact (below_size (by repeat (first | (with_reducible first | exact HB.out | apply below_alloc | apply pw_below_drewN | apply below_drew1) | exact HB.out))) : w.heap.size ≤ gb2)); clear HB; have HB := n0_; have BK2 := n1_; have GE2 := n2_; clear n0_ n1_ n2_; clear hb1 hbox hg) | (go_at_call 38; (with_reducible refine (Cut_any s hs x y true _ hx hy hb).mono ?_); rintro e w38 ⟨rfl, hb1⟩; have n0_ := Aside0.mk (blk_below (g := gb2) (o := .cells #[.int .i64 0, .int .i64 0] 24 (0, 0)) (by (with_reducible repeat (first | refine blk_drewN ?_ _ | refine blk_drew ?_ | refine blk_alloc ?_ _)); exact BK2.out) hb1); have n1_ := Aside0.mk (below_step (by repeat (first | (with_reducible first | exact HB.out | apply below_alloc | apply pw_below_drewN | apply below_drew1 | refine below_set ?_ GE2.out) | exact HB.out)) hb1); clear BK2 HB hb1; have BK2 := n0_; have HB := n1_; clear n0_ n1_) | (go_at_call 39; (with_reducible refine (Atoi_ok x p _ (hv.step (by repeat (first | (with_reducible first | exact HB.out | apply below_alloc | apply pw_below_drewN | apply below_drew1 | refine below_set ?_ GE2.out) | exact HB.out))) B1 lx).mono ?_); rintro e w1 ⟨rfl, hb1⟩; have n0_ := Aside0.mk (blk_below (g := gb2) (o := .cells #[.int .i64 0, .int .i64 0] 24 (0, 0)) (by (with_reducible repeat (first | refine blk_drewN ?_ _ | refine blk_drew ?_ | refine blk_alloc ?_ _)); exact BK2.out) hb1); have n1_ := Aside0.mk (below_step (by repeat (first | (with_reducible first | exact HB.out | apply below_alloc | apply pw_below_drewN | apply below_drew1 | refine below_set ?_ GE2.out) | exact HB.out)) hb1); clear BK2 HB hb1; have BK2 := n0_; have HB := n1_; clear n0_ n1_) | (go_at_call 39; (with_reducible refine (Atoi_ok y 0 _ (hv.step (by repeat (first | (with_reducible first | exact HB.out | apply below_alloc | apply pw_below_drewN | apply below_drew1 | refine below_set ?_ GE2.out) | exact HB.out))) B2 ly).mono ?_); rintro e w1 ⟨rfl, hb1⟩; have n0_ := Aside0.mk (blk_below (g := gb2) (o := .cells #[.int .i64 0, .int .i64 0] 24 (0, 0)) (by (with_reducible repeat (first | refine blk_drewN ?_ _ | refine blk_drew ?_ | refine blk_alloc ?_ _)); exact BK2.out) hb1); have n1_ := Aside0.mk (below_step (by repeat (first | (with_reducible first | exact HB.out | apply below_alloc | apply pw_below_drewN | apply below_drew1 | refine below_set ?_ GE2.out) | exact HB.out)) hb1); clear BK2 HB hb1; have BK2 := n0_; have HB := n1_; clear n0_ n1_) | ((with_reducible refine gate_dst (N := 11) rfl ?_); refine box_event ?hg (N := 11) ?hd (cs := #[.int .i64 0, .int .i64 0]) (t := 24) ?hr ?_; (case hd => rfl); (case hg => rfl); (case hr => first | (go_simp; done) | (go_simp; rfl)); intro gb11 hg w11 hbox hb1; have n0_ := Aside0.mk (blk_below (g := gb2) (o := .cells #[.int .i64 0, .int .i64 0] 24 (0, 0)) (by (with_reducible repeat (first | refine blk_drewN ?_ _ | refine blk_drew ?_ | refine blk_alloc ?_ _)); exact BK2.out) hb1); have n1_ := Aside0.mk (below_step (by repeat (first | (with_reducible first | exact HB.out | apply below_alloc | apply pw_below_drewN | apply below_drew1 | refine below_set ?_ GE2.out) | exact HB.out)) hb1); have n2_ := Aside0.mk (hbox); have n3_ := Aside0.mk ((by rw [hg]; exact (below_size (by repeat (first | (with_reducible first | exact HB.out | apply below_alloc | apply pw_below_drewN | apply below_drew1 | refine below_set ?_ GE2.out) | exact HB.out))) : w.heap.size ≤ gb11)); have n5_ := Aside0.mk ((by rw [hg]; exact Nat.ne_of_lt (blk_lt (g := gb2) (o := .cells #[.int .i64 0, .int .i64 0] 24 (0, 0)) (by (with_reducible repeat (first | refine blk_drewN ?_ _ | refine blk_drew ?_ | refine blk_alloc ?_ _)); exact BK2.out)) : gb2 ≠ gb11)); have n6_ := Aside0.mk ((by rw [hg]; exact Nat.ne_of_gt (blk_lt (g := gb2) (o := .cells #[.int .i64 0, .int .i64 0] 24 (0, 0)) (by (with_reducible repeat (first | refine blk_drewN ?_ _ | refine blk_drew ?_ | refine blk_alloc ?_ _)); exact BK2.out)) : gb11 ≠ gb2)); clear BK2; clear HB; have BK2 := n0_; have HB := n1_; have BK11 := n2_; have GE11 := n3_; have NB2_11 := n5_; have NB11_2 := n6_; clear n0_ n1_ n2_ n3_ n5_ n6_; clear hb1 hbox hg; have hnb := NB11_2.out; have hnc := NB2_11.out; have hcz1_0 : w11.cell? ⟨gb11, 0, none⟩ = some (.int .i64 (0)) := (blk_cell BK11.out 0).trans rfl; have hcz1_1 : w11.cell? ⟨gb11, 1, none⟩ = some (.int .i64 (0)) := (blk_cell BK11.out 1).trans rfl; have hfz1_0 := blk_frozen BK11.out 0; have hfz1_1 := blk_frozen BK11.out 1; have hcz2_0 : w11.cell? ⟨gb2, 0, none⟩ = some (.int .i64 (0)) := (blk_cell BK2.out 0).trans rfl; have hcz2_1 : w11.cell? ⟨gb2, 1, none⟩ = some (.int .i64 (0)) := (blk_cell BK2.out 1).trans rfl; have hfz2_0 := blk_frozen BK2.out 0; have hfz2_1 := blk_frozen BK2.out 1))
  repeat (go_quiet (fail); try go_wp2)
  refine bodyPost_ret (results_ct rfl _ _ gb2 24 #[.int .i64 (0), .int .i64 (0)] (0, 0) _ rfl (by (with_reducible repeat (first | refine blk_drewN ?_ _ | refine blk_drew ?_ | refine blk_alloc ?_ _)); refine blk_put (cs := #[.int .i64 (0), .int .i64 0]) ?_ 1 _ rfl; (with_reducible repeat (first | refine blk_drewN ?_ _ | refine blk_drew ?_ | refine blk_alloc ?_ _)); refine blk_put (cs := #[.int .i64 0, .int .i64 0]) ?_ 0 _ rfl; (with_reducible repeat (first | refine blk_drewN ?_ _ | refine blk_drew ?_ | refine blk_alloc ?_ _)); refine blk_far ?_ NB2_11.out _; (with_reducible repeat (first | refine blk_drewN ?_ _ | refine blk_drew ?_ | refine blk_alloc ?_ _)); refine blk_far ?_ NB2_11.out _; (with_reducible repeat (first | refine blk_drewN ?_ _ | refine blk_drew ?_ | refine blk_alloc ?_ _)); exact BK2.out) Tryd.underlying24 rfl (by kernel_rfl)) rfl ?_
  exact RetBelow.of rfl rfl (by repeat (first | (with_reducible first | exact HB.out | apply below_alloc | apply pw_below_drewN | apply below_drew1 | refine below_set ?_ GE2.out | refine below_set ?_ GE11.out) | exact HB.out))

set_option maxHeartbeats 4000000 in
set_option maxRecDepth 100000 in
theorem ParseF_other (s x y : ByteArray) (hs : s.size ≤ 1000000) (w : World) (hv : LaidAt w) (hx : Hid (cutFirst s = x)) (hy : Hid (cutSecond s = y)) (hb : Hid (cutFound s = true)) (lx : x.size ≤ 1000) (ly : (y).size ≤ 1000) (p q : Int) (t : ByteArray) (B1 : Hid (numOf x = some p)) (B2 : Hid (numOf y = some q)) (A1 : Aside0 (ratio_Text.f p q = some t)) (z1 : (q == 0) = false) (z2 : (q = 0) = False) (q1 : (t.toList == s.toList) = false) (q2 : (t.toList != s.toList) = true) :
    Calls Tryd.prog 26 #[.string s] w (RetBelow (.tuple #[.agg #[.int .i64 0, .int .i64 0], .int .i64 2]) w) := by
  have hu24 := Tryd.underlying24
  have HB := Aside0.mk (Below.refl w.heap.size w)
  go_enter Tryd.func26, Tryd.ntmps26
  go_wp2_with (first | ((with_reducible refine gate_dst (N := 2) rfl ?_); refine box_event ?hg (N := 2) ?hd (cs := #[.int .i64 0, .int .i64 0]) (t := 24) ?hr ?_; (case hd => rfl); (case hg => rfl); (case hr => first | (go_simp; done) | (go_simp; rfl)); intro gb2 hg w2 hbox hb1; have n0_ := Aside0.mk (below_step (by repeat (first | (with_reducible first | exact HB.out | apply below_alloc | apply pw_below_drewN | apply below_drew1) | exact HB.out)) hb1); have n1_ := Aside0.mk (hbox); have n2_ := Aside0.mk ((by rw [hg]; exact (below_size (by repeat (first | (with_reducible first | exact HB.out | apply below_alloc | apply pw_below_drewN | apply below_drew1) | exact HB.out))) : w.heap.size ≤ gb2)); clear HB; have HB := n0_; have BK2 := n1_; have GE2 := n2_; clear n0_ n1_ n2_; clear hb1 hbox hg) | (go_at_call 38; (with_reducible refine (Cut_any s hs x y true _ hx hy hb).mono ?_); rintro e w38 ⟨rfl, hb1⟩; have n0_ := Aside0.mk (blk_below (g := gb2) (o := .cells #[.int .i64 0, .int .i64 0] 24 (0, 0)) (by (with_reducible repeat (first | refine blk_drewN ?_ _ | refine blk_drew ?_ | refine blk_alloc ?_ _)); exact BK2.out) hb1); have n1_ := Aside0.mk (below_step (by repeat (first | (with_reducible first | exact HB.out | apply below_alloc | apply pw_below_drewN | apply below_drew1 | refine below_set ?_ GE2.out) | exact HB.out)) hb1); clear BK2 HB hb1; have BK2 := n0_; have HB := n1_; clear n0_ n1_) | (go_at_call 39; (with_reducible refine (Atoi_ok x p _ (hv.step (by repeat (first | (with_reducible first | exact HB.out | apply below_alloc | apply pw_below_drewN | apply below_drew1 | refine below_set ?_ GE2.out) | exact HB.out))) B1 lx).mono ?_); rintro e w1 ⟨rfl, hb1⟩; have n0_ := Aside0.mk (blk_below (g := gb2) (o := .cells #[.int .i64 0, .int .i64 0] 24 (0, 0)) (by (with_reducible repeat (first | refine blk_drewN ?_ _ | refine blk_drew ?_ | refine blk_alloc ?_ _)); exact BK2.out) hb1); have n1_ := Aside0.mk (below_step (by repeat (first | (with_reducible first | exact HB.out | apply below_alloc | apply pw_below_drewN | apply below_drew1 | refine below_set ?_ GE2.out) | exact HB.out)) hb1); clear BK2 HB hb1; have BK2 := n0_; have HB := n1_; clear n0_ n1_) | (go_at_call 39; (with_reducible refine (Atoi_ok y q _ (hv.step (by repeat (first | (with_reducible first | exact HB.out | apply below_alloc | apply pw_below_drewN | apply below_drew1 | refine below_set ?_ GE2.out) | exact HB.out))) B2 ly).mono ?_); rintro e w1 ⟨rfl, hb1⟩; have n0_ := Aside0.mk (blk_below (g := gb2) (o := .cells #[.int .i64 0, .int .i64 0] 24 (0, 0)) (by (with_reducible repeat (first | refine blk_drewN ?_ _ | refine blk_drew ?_ | refine blk_alloc ?_ _)); exact BK2.out) hb1); have n1_ := Aside0.mk (below_step (by repeat (first | (with_reducible first | exact HB.out | apply below_alloc | apply pw_below_drewN | apply below_drew1 | refine below_set ?_ GE2.out) | exact HB.out)) hb1); clear BK2 HB hb1; have BK2 := n0_; have HB := n1_; clear n0_ n1_) | ((with_reducible refine gate_dst (N := 11) rfl ?_); refine box_event ?hg (N := 11) ?hd (cs := #[.int .i64 0, .int .i64 0]) (t := 24) ?hr ?_; (case hd => rfl); (case hg => rfl); (case hr => first | (go_simp; done) | (go_simp; rfl)); intro gb11 hg w11 hbox hb1; have n0_ := Aside0.mk (blk_below (g := gb2) (o := .cells #[.int .i64 0, .int .i64 0] 24 (0, 0)) (by (with_reducible repeat (first | refine blk_drewN ?_ _ | refine blk_drew ?_ | refine blk_alloc ?_ _)); exact BK2.out) hb1); have n1_ := Aside0.mk (below_step (by repeat (first | (with_reducible first | exact HB.out | apply below_alloc | apply pw_below_drewN | apply below_drew1 | refine below_set ?_ GE2.out) | exact HB.out)) hb1); have n2_ := Aside0.mk (hbox); have n3_ := Aside0.mk ((by rw [hg]; exact (below_size (by repeat (first | (with_reducible first | exact HB.out | apply below_alloc | apply pw_below_drewN | apply below_drew1 | refine below_set ?_ GE2.out) | exact HB.out))) : w.heap.size ≤ gb11)); have n5_ := Aside0.mk ((by rw [hg]; exact Nat.ne_of_lt (blk_lt (g := gb2) (o := .cells #[.int .i64 0, .int .i64 0] 24 (0, 0)) (by (with_reducible repeat (first | refine blk_drewN ?_ _ | refine blk_drew ?_ | refine blk_alloc ?_ _)); exact BK2.out)) : gb2 ≠ gb11)); have n6_ := Aside0.mk ((by rw [hg]; exact Nat.ne_of_gt (blk_lt (g := gb2) (o := .cells #[.int .i64 0, .int .i64 0] 24 (0, 0)) (by (with_reducible repeat (first | refine blk_drewN ?_ _ | refine blk_drew ?_ | refine blk_alloc ?_ _)); exact BK2.out)) : gb11 ≠ gb2)); clear BK2; clear HB; have BK2 := n0_; have HB := n1_; have BK11 := n2_; have GE11 := n3_; have NB2_11 := n5_; have NB11_2 := n6_; clear n0_ n1_ n2_ n3_ n5_ n6_; clear hb1 hbox hg; have hnb := NB11_2.out; have hnc := NB2_11.out; have hcz1_0 : w11.cell? ⟨gb11, 0, none⟩ = some (.int .i64 (0)) := (blk_cell BK11.out 0).trans rfl; have hcz1_1 : w11.cell? ⟨gb11, 1, none⟩ = some (.int .i64 (0)) := (blk_cell BK11.out 1).trans rfl; have hfz1_0 := blk_frozen BK11.out 0; have hfz1_1 := blk_frozen BK11.out 1; have hcz2_0 : w11.cell? ⟨gb2, 0, none⟩ = some (.int .i64 (0)) := (blk_cell BK2.out 0).trans rfl; have hcz2_1 : w11.cell? ⟨gb2, 1, none⟩ = some (.int .i64 (0)) := (blk_cell BK2.out 1).trans rfl; have hfz2_0 := blk_frozen BK2.out 0; have hfz2_1 := blk_frozen BK2.out 1) | (go_at_call 28; (with_reducible refine (ratio_Text.calls (hv := hv.step (by repeat (first | (with_reducible first | exact HB.out | apply below_alloc | apply pw_below_drewN | apply below_drew1 | refine below_set ?_ GE2.out | refine below_set ?_ GE11.out) | exact HB.out))) p q t _ A1.out).mono ?_); rintro e w28 ⟨rfl, hb1⟩; have n0_ := Aside0.mk (blk_below (g := gb2) (o := .cells #[.int .i64 0, .int .i64 0] 24 (0, 0)) (by (with_reducible repeat (first | refine blk_drewN ?_ _ | refine blk_drew ?_ | refine blk_alloc ?_ _)); refine blk_far ?_ NB2_11.out _; (with_reducible repeat (first | refine blk_drewN ?_ _ | refine blk_drew ?_ | refine blk_alloc ?_ _)); refine blk_far ?_ NB2_11.out _; (with_reducible repeat (first | refine blk_drewN ?_ _ | refine blk_drew ?_ | refine blk_alloc ?_ _)); exact BK2.out) hb1); have n1_ := Aside0.mk (blk_below (g := gb11) (o := .cells #[.int .i64 p, .int .i64 q] 24 (0, 0)) (by (with_reducible repeat (first | refine blk_drewN ?_ _ | refine blk_drew ?_ | refine blk_alloc ?_ _)); refine blk_put (cs := #[.int .i64 (p), .int .i64 0]) ?_ 1 _ rfl; (with_reducible repeat (first | refine blk_drewN ?_ _ | refine blk_drew ?_ | refine blk_alloc ?_ _)); refine blk_put (cs := #[.int .i64 0, .int .i64 0]) ?_ 0 _ rfl; (with_reducible repeat (first | refine blk_drewN ?_ _ | refine blk_drew ?_ | refine blk_alloc ?_ _)); exact BK11.out) hb1); have n2_ := Aside0.mk (below_step (by repeat (first | (with_reducible first | exact HB.out | apply below_alloc | apply pw_below_drewN | apply below_drew1 | refine below_set ?_ GE2.out | refine below_set ?_ GE11.out) | exact HB.out)) hb1); clear BK2; clear BK11; clear HB; have BK2 := n0_; have BK11 := n1_; have HB := n2_; clear n0_ n1_ n2_; clear hb1; have hcz3_0 : w28.cell? ⟨gb11, 0, none⟩ = some (.int .i64 (p)) := (blk_cell BK11.out 0).trans rfl; have hcz3_1 : w28.cell? ⟨gb11, 1, none⟩ = some (.int .i64 (q)) := (blk_cell BK11.out 1).trans rfl; have hfz3_0 := blk_frozen BK11.out 0; have hfz3_1 := blk_frozen BK11.out 1; have hcz4_0 : w28.cell? ⟨gb2, 0, none⟩ = some (.int .i64 (0)) := (blk_cell BK2.out 0).trans rfl; have hcz4_1 : w28.cell? ⟨gb2, 1, none⟩ = some (.int .i64 (0)) := (blk_cell BK2.out 1).trans rfl; have hfz4_0 := blk_frozen BK2.out 0; have hfz4_1 := blk_frozen BK2.out 1))
  repeat (go_quiet (fail); try go_wp2)
  refine bodyPost_ret (results_ct rfl _ _ gb2 24 #[.int .i64 (0), .int .i64 (0)] (0, 0) _ rfl (by (with_reducible repeat (first | refine blk_drewN ?_ _ | refine blk_drew ?_ | refine blk_alloc ?_ _)); refine blk_put (cs := #[.int .i64 (0), .int .i64 0]) ?_ 1 _ rfl; (with_reducible repeat (first | refine blk_drewN ?_ _ | refine blk_drew ?_ | refine blk_alloc ?_ _)); refine blk_put (cs := #[.int .i64 0, .int .i64 0]) ?_ 0 _ rfl; (with_reducible repeat (first | refine blk_drewN ?_ _ | refine blk_drew ?_ | refine blk_alloc ?_ _)); exact BK2.out) Tryd.underlying24 rfl (by kernel_rfl)) rfl ?_
  exact RetBelow.of rfl rfl (by repeat (first | (with_reducible first | exact HB.out | apply below_alloc | apply pw_below_drewN | apply below_drew1 | refine below_set ?_ GE2.out | refine below_set ?_ GE11.out) | exact HB.out))

set_option maxHeartbeats 4000000 in
set_option maxRecDepth 100000 in
theorem ParseF_same (s x y : ByteArray) (hs : s.size ≤ 1000000) (w : World) (hv : LaidAt w) (hx : Hid (cutFirst s = x)) (hy : Hid (cutSecond s = y)) (hb : Hid (cutFound s = true)) (lx : x.size ≤ 1000) (ly : (y).size ≤ 1000) (p q : Int) (t : ByteArray) (B1 : Hid (numOf x = some p)) (B2 : Hid (numOf y = some q)) (A1 : Aside0 (ratio_Text.f p q = some t)) (z1 : (q == 0) = false) (z2 : (q = 0) = False) (q1 : (t.toList == s.toList) = true) (q2 : (t.toList != s.toList) = false) :
    Calls Tryd.prog 26 #[.string s] w (RetBelow (.tuple #[.agg #[.int .i64 p, .int .i64 q], .int .i64 0]) w) := by
  have hu24 := Tryd.underlying24
  have HB := Aside0.mk (Below.refl w.heap.size w)
  go_enter Tryd.func26, Tryd.ntmps26
  go_wp2_with (first | ((with_reducible refine gate_dst (N := 2) rfl ?_); refine box_event ?hg (N := 2) ?hd (cs := #[.int .i64 0, .int .i64 0]) (t := 24) ?hr ?_; (case hd => rfl); (case hg => rfl); (case hr => first | (go_simp; done) | (go_simp; rfl)); intro gb2 hg w2 hbox hb1; have n0_ := Aside0.mk (below_step (by repeat (first | (with_reducible first | exact HB.out | apply below_alloc | apply pw_below_drewN | apply below_drew1) | exact HB.out)) hb1); have n1_ := Aside0.mk (hbox); have n2_ := Aside0.mk ((by rw [hg]; exact (below_size (by repeat (first | (with_reducible first | exact HB.out | apply below_alloc | apply pw_below_drewN | apply below_drew1) | exact HB.out))) : w.heap.size ≤ gb2)); clear HB; have HB := n0_; have BK2 := n1_; have GE2 := n2_; clear n0_ n1_ n2_; clear hb1 hbox hg) | (go_at_call 38; (with_reducible refine (Cut_any s hs x y true _ hx hy hb).mono ?_); rintro e w38 ⟨rfl, hb1⟩; have n0_ := Aside0.mk (blk_below (g := gb2) (o := .cells #[.int .i64 0, .int .i64 0] 24 (0, 0)) (by (with_reducible repeat (first | refine blk_drewN ?_ _ | refine blk_drew ?_ | refine blk_alloc ?_ _)); exact BK2.out) hb1); have n1_ := Aside0.mk (below_step (by repeat (first | (with_reducible first | exact HB.out | apply below_alloc | apply pw_below_drewN | apply below_drew1 | refine below_set ?_ GE2.out) | exact HB.out)) hb1); clear BK2 HB hb1; have BK2 := n0_; have HB := n1_; clear n0_ n1_) | (go_at_call 39; (with_reducible refine (Atoi_ok x p _ (hv.step (by repeat (first | (with_reducible first | exact HB.out | apply below_alloc | apply pw_below_drewN | apply below_drew1 | refine below_set ?_ GE2.out) | exact HB.out))) B1 lx).mono ?_); rintro e w1 ⟨rfl, hb1⟩; have n0_ := Aside0.mk (blk_below (g := gb2) (o := .cells #[.int .i64 0, .int .i64 0] 24 (0, 0)) (by (with_reducible repeat (first | refine blk_drewN ?_ _ | refine blk_drew ?_ | refine blk_alloc ?_ _)); exact BK2.out) hb1); have n1_ := Aside0.mk (below_step (by repeat (first | (with_reducible first | exact HB.out | apply below_alloc | apply pw_below_drewN | apply below_drew1 | refine below_set ?_ GE2.out) | exact HB.out)) hb1); clear BK2 HB hb1; have BK2 := n0_; have HB := n1_; clear n0_ n1_) | (go_at_call 39; (with_reducible refine (Atoi_ok y q _ (hv.step (by repeat (first | (with_reducible first | exact HB.out | apply below_alloc | apply pw_below_drewN | apply below_drew1 | refine below_set ?_ GE2.out) | exact HB.out))) B2 ly).mono ?_); rintro e w1 ⟨rfl, hb1⟩; have n0_ := Aside0.mk (blk_below (g := gb2) (o := .cells #[.int .i64 0, .int .i64 0] 24 (0, 0)) (by (with_reducible repeat (first | refine blk_drewN ?_ _ | refine blk_drew ?_ | refine blk_alloc ?_ _)); exact BK2.out) hb1); have n1_ := Aside0.mk (below_step (by repeat (first | (with_reducible first | exact HB.out | apply below_alloc | apply pw_below_drewN | apply below_drew1 | refine below_set ?_ GE2.out) | exact HB.out)) hb1); clear BK2 HB hb1; have BK2 := n0_; have HB := n1_; clear n0_ n1_) | ((with_reducible refine gate_dst (N := 11) rfl ?_); refine box_event ?hg (N := 11) ?hd (cs := #[.int .i64 0, .int .i64 0]) (t := 24) ?hr ?_; (case hd => rfl); (case hg => rfl); (case hr => first | (go_simp; done) | (go_simp; rfl)); intro gb11 hg w11 hbox hb1; have n0_ := Aside0.mk (blk_below (g := gb2) (o := .cells #[.int .i64 0, .int .i64 0] 24 (0, 0)) (by (with_reducible repeat (first | refine blk_drewN ?_ _ | refine blk_drew ?_ | refine blk_alloc ?_ _)); exact BK2.out) hb1); have n1_ := Aside0.mk (below_step (by repeat (first | (with_reducible first | exact HB.out | apply below_alloc | apply pw_below_drewN | apply below_drew1 | refine below_set ?_ GE2.out) | exact HB.out)) hb1); have n2_ := Aside0.mk (hbox); have n3_ := Aside0.mk ((by rw [hg]; exact (below_size (by repeat (first | (with_reducible first | exact HB.out | apply below_alloc | apply pw_below_drewN | apply below_drew1 | refine below_set ?_ GE2.out) | exact HB.out))) : w.heap.size ≤ gb11)); have n5_ := Aside0.mk ((by rw [hg]; exact Nat.ne_of_lt (blk_lt (g := gb2) (o := .cells #[.int .i64 0, .int .i64 0] 24 (0, 0)) (by (with_reducible repeat (first | refine blk_drewN ?_ _ | refine blk_drew ?_ | refine blk_alloc ?_ _)); exact BK2.out)) : gb2 ≠ gb11)); have n6_ := Aside0.mk ((by rw [hg]; exact Nat.ne_of_gt (blk_lt (g := gb2) (o := .cells #[.int .i64 0, .int .i64 0] 24 (0, 0)) (by (with_reducible repeat (first | refine blk_drewN ?_ _ | refine blk_drew ?_ | refine blk_alloc ?_ _)); exact BK2.out)) : gb11 ≠ gb2)); clear BK2; clear HB; have BK2 := n0_; have HB := n1_; have BK11 := n2_; have GE11 := n3_; have NB2_11 := n5_; have NB11_2 := n6_; clear n0_ n1_ n2_ n3_ n5_ n6_; clear hb1 hbox hg; have hnb := NB11_2.out; have hnc := NB2_11.out; have hcz1_0 : w11.cell? ⟨gb11, 0, none⟩ = some (.int .i64 (0)) := (blk_cell BK11.out 0).trans rfl; have hcz1_1 : w11.cell? ⟨gb11, 1, none⟩ = some (.int .i64 (0)) := (blk_cell BK11.out 1).trans rfl; have hfz1_0 := blk_frozen BK11.out 0; have hfz1_1 := blk_frozen BK11.out 1; have hcz2_0 : w11.cell? ⟨gb2, 0, none⟩ = some (.int .i64 (0)) := (blk_cell BK2.out 0).trans rfl; have hcz2_1 : w11.cell? ⟨gb2, 1, none⟩ = some (.int .i64 (0)) := (blk_cell BK2.out 1).trans rfl; have hfz2_0 := blk_frozen BK2.out 0; have hfz2_1 := blk_frozen BK2.out 1) | (go_at_call 28; (with_reducible refine (ratio_Text.calls (hv := hv.step (by repeat (first | (with_reducible first | exact HB.out | apply below_alloc | apply pw_below_drewN | apply below_drew1 | refine below_set ?_ GE2.out | refine below_set ?_ GE11.out) | exact HB.out))) p q t _ A1.out).mono ?_); rintro e w28 ⟨rfl, hb1⟩; have n0_ := Aside0.mk (blk_below (g := gb2) (o := .cells #[.int .i64 0, .int .i64 0] 24 (0, 0)) (by (with_reducible repeat (first | refine blk_drewN ?_ _ | refine blk_drew ?_ | refine blk_alloc ?_ _)); refine blk_far ?_ NB2_11.out _; (with_reducible repeat (first | refine blk_drewN ?_ _ | refine blk_drew ?_ | refine blk_alloc ?_ _)); refine blk_far ?_ NB2_11.out _; (with_reducible repeat (first | refine blk_drewN ?_ _ | refine blk_drew ?_ | refine blk_alloc ?_ _)); exact BK2.out) hb1); have n1_ := Aside0.mk (blk_below (g := gb11) (o := .cells #[.int .i64 p, .int .i64 q] 24 (0, 0)) (by (with_reducible repeat (first | refine blk_drewN ?_ _ | refine blk_drew ?_ | refine blk_alloc ?_ _)); refine blk_put (cs := #[.int .i64 (p), .int .i64 0]) ?_ 1 _ rfl; (with_reducible repeat (first | refine blk_drewN ?_ _ | refine blk_drew ?_ | refine blk_alloc ?_ _)); refine blk_put (cs := #[.int .i64 0, .int .i64 0]) ?_ 0 _ rfl; (with_reducible repeat (first | refine blk_drewN ?_ _ | refine blk_drew ?_ | refine blk_alloc ?_ _)); exact BK11.out) hb1); have n2_ := Aside0.mk (below_step (by repeat (first | (with_reducible first | exact HB.out | apply below_alloc | apply pw_below_drewN | apply below_drew1 | refine below_set ?_ GE2.out | refine below_set ?_ GE11.out) | exact HB.out)) hb1); clear BK2; clear BK11; clear HB; have BK2 := n0_; have BK11 := n1_; have HB := n2_; clear n0_ n1_ n2_; clear hb1; have hcz3_0 : w28.cell? ⟨gb11, 0, none⟩ = some (.int .i64 (p)) := (blk_cell BK11.out 0).trans rfl; have hcz3_1 : w28.cell? ⟨gb11, 1, none⟩ = some (.int .i64 (q)) := (blk_cell BK11.out 1).trans rfl; have hfz3_0 := blk_frozen BK11.out 0; have hfz3_1 := blk_frozen BK11.out 1; have hcz4_0 : w28.cell? ⟨gb2, 0, none⟩ = some (.int .i64 (0)) := (blk_cell BK2.out 0).trans rfl; have hcz4_1 : w28.cell? ⟨gb2, 1, none⟩ = some (.int .i64 (0)) := (blk_cell BK2.out 1).trans rfl; have hfz4_0 := blk_frozen BK2.out 0; have hfz4_1 := blk_frozen BK2.out 1))
  repeat (go_quiet (fail); try go_wp2)
  refine bodyPost_ret (results_ct rfl _ _ gb2 24 #[.int .i64 (p), .int .i64 (q)] (0, 0) _ rfl (by (with_reducible repeat (first | refine blk_drewN ?_ _ | refine blk_drew ?_ | refine blk_alloc ?_ _)); refine blk_put (cs := #[.int .i64 (p), .int .i64 0]) ?_ 1 _ rfl; (with_reducible repeat (first | refine blk_drewN ?_ _ | refine blk_drew ?_ | refine blk_alloc ?_ _)); refine blk_put (cs := #[.int .i64 0, .int .i64 0]) ?_ 0 _ rfl; (with_reducible repeat (first | refine blk_drewN ?_ _ | refine blk_drew ?_ | refine blk_alloc ?_ _)); exact BK2.out) Tryd.underlying24 rfl (by kernel_rfl)) rfl ?_
  exact RetBelow.of rfl rfl (by repeat (first | (with_reducible first | exact HB.out | apply below_alloc | apply pw_below_drewN | apply below_drew1 | refine below_set ?_ GE2.out | refine below_set ?_ GE11.out) | exact HB.out))

set_option maxHeartbeats 4000000 in
set_option maxRecDepth 100000 in
theorem ParseN_ny (s x y : ByteArray) (hs : s.size ≤ 1000000) (w : World) (hv : LaidAt w) (hx : Hid (cutFirst s = x)) (hy : Hid (cutSecond s = y)) (hb : Hid (cutFound s = false)) (lx : x.size ≤ 1000) (ly : ((⟨#[49]⟩ : ByteArray)).size ≤ 1000) (q : Int) (B1 : Hid (numOf x = none)) (B2 : Hid (numOf (⟨#[49]⟩ : ByteArray) = some q)) :
    Calls Tryd.prog 26 #[.string s] w (RetBelow (.tuple #[.agg #[.int .i64 0, .int .i64 0], .int .i64 2]) w) := by
  have hu24 := Tryd.underlying24
  have HB := Aside0.mk (Below.refl w.heap.size w)
  go_enter Tryd.func26, Tryd.ntmps26
  go_wp2_with (first | ((with_reducible refine gate_dst (N := 2) rfl ?_); refine box_event ?hg (N := 2) ?hd (cs := #[.int .i64 0, .int .i64 0]) (t := 24) ?hr ?_; (case hd => rfl); (case hg => rfl); (case hr => first | (go_simp; done) | (go_simp; rfl)); intro gb2 hg w2 hbox hb1; have n0_ := Aside0.mk (below_step (by repeat (first | (with_reducible first | exact HB.out | apply below_alloc | apply pw_below_drewN | apply below_drew1) | exact HB.out)) hb1); have n1_ := Aside0.mk (hbox); have n2_ := Aside0.mk ((by rw [hg]; exact (below_size (by repeat (first | (with_reducible first | exact HB.out | apply below_alloc | apply pw_below_drewN | apply below_drew1) | exact HB.out))) : w.heap.size ≤ gb2)); clear HB; have HB := n0_; have BK2 := n1_; have GE2 := n2_; clear n0_ n1_ n2_; clear hb1 hbox hg) | (go_at_call 38; (with_reducible refine (Cut_any s hs x y false _ hx hy hb).mono ?_); rintro e w38 ⟨rfl, hb1⟩; have n0_ := Aside0.mk (blk_below (g := gb2) (o := .cells #[.int .i64 0, .int .i64 0] 24 (0, 0)) (by (with_reducible repeat (first | refine blk_drewN ?_ _ | refine blk_drew ?_ | refine blk_alloc ?_ _)); exact BK2.out) hb1); have n1_ := Aside0.mk (below_step (by repeat (first | (with_reducible first | exact HB.out | apply below_alloc | apply pw_below_drewN | apply below_drew1 | refine below_set ?_ GE2.out) | exact HB.out)) hb1); clear BK2 HB hb1; have BK2 := n0_; have HB := n1_; clear n0_ n1_) | (go_at_call 39; (with_reducible refine (Atoi_no x _ (hv.step (by repeat (first | (with_reducible first | exact HB.out | apply below_alloc | apply pw_below_drewN | apply below_drew1 | refine below_set ?_ GE2.out) | exact HB.out))) B1 lx).mono ?_); rintro e w1 ⟨np, Np, rfl, hb1⟩; have n0_ := Aside0.mk (blk_below (g := gb2) (o := .cells #[.int .i64 0, .int .i64 0] 24 (0, 0)) (by (with_reducible repeat (first | refine blk_drewN ?_ _ | refine blk_drew ?_ | refine blk_alloc ?_ _)); exact BK2.out) hb1); have n1_ := Aside0.mk (below_step (by repeat (first | (with_reducible first | exact HB.out | apply below_alloc | apply pw_below_drewN | apply below_drew1 | refine below_set ?_ GE2.out) | exact HB.out)) hb1); clear BK2 HB hb1; have BK2 := n0_; have HB := n1_; clear n0_ n1_) | (go_at_call 39; (with_reducible refine (Atoi_ok (⟨#[49]⟩ : ByteArray) q _ (hv.step (by repeat (first | (with_reducible first | exact HB.out | apply below_alloc | apply pw_below_drewN | apply below_drew1 | refine below_set ?_ GE2.out) | exact HB.out))) B2 ly).mono ?_); rintro e w1 ⟨rfl, hb1⟩; have n0_ := Aside0.mk (blk_below (g := gb2) (o := .cells #[.int .i64 0, .int .i64 0] 24 (0, 0)) (by (with_reducible repeat (first | refine blk_drewN ?_ _ | refine blk_drew ?_ | refine blk_alloc ?_ _)); exact BK2.out) hb1); have n1_ := Aside0.mk (below_step (by repeat (first | (with_reducible first | exact HB.out | apply below_alloc | apply pw_below_drewN | apply below_drew1 | refine below_set ?_ GE2.out) | exact HB.out)) hb1); clear BK2 HB hb1; have BK2 := n0_; have HB := n1_; clear n0_ n1_) | ((with_reducible refine gate_dst (N := 11) rfl ?_); refine box_event ?hg (N := 11) ?hd (cs := #[.int .i64 0, .int .i64 0]) (t := 24) ?hr ?_; (case hd => rfl); (case hg => rfl); (case hr => first | (go_simp; done) | (go_simp; rfl)); intro gb11 hg w11 hbox hb1; have n0_ := Aside0.mk (blk_below (g := gb2) (o := .cells #[.int .i64 0, .int .i64 0] 24 (0, 0)) (by (with_reducible repeat (first | refine blk_drewN ?_ _ | refine blk_drew ?_ | refine blk_alloc ?_ _)); exact BK2.out) hb1); have n1_ := Aside0.mk (below_step (by repeat (first | (with_reducible first | exact HB.out | apply below_alloc | apply pw_below_drewN | apply below_drew1 | refine below_set ?_ GE2.out) | exact HB.out)) hb1); have n2_ := Aside0.mk (hbox); have n3_ := Aside0.mk ((by rw [hg]; exact (below_size (by repeat (first | (with_reducible first | exact HB.out | apply below_alloc | apply pw_below_drewN | apply below_drew1 | refine below_set ?_ GE2.out) | exact HB.out))) : w.heap.size ≤ gb11)); have n5_ := Aside0.mk ((by rw [hg]; exact Nat.ne_of_lt (blk_lt (g := gb2) (o := .cells #[.int .i64 0, .int .i64 0] 24 (0, 0)) (by (with_reducible repeat (first | refine blk_drewN ?_ _ | refine blk_drew ?_ | refine blk_alloc ?_ _)); exact BK2.out)) : gb2 ≠ gb11)); have n6_ := Aside0.mk ((by rw [hg]; exact Nat.ne_of_gt (blk_lt (g := gb2) (o := .cells #[.int .i64 0, .int .i64 0] 24 (0, 0)) (by (with_reducible repeat (first | refine blk_drewN ?_ _ | refine blk_drew ?_ | refine blk_alloc ?_ _)); exact BK2.out)) : gb11 ≠ gb2)); clear BK2; clear HB; have BK2 := n0_; have HB := n1_; have BK11 := n2_; have GE11 := n3_; have NB2_11 := n5_; have NB11_2 := n6_; clear n0_ n1_ n2_ n3_ n5_ n6_; clear hb1 hbox hg; have hnb := NB11_2.out; have hnc := NB2_11.out; have hcz1_0 : w11.cell? ⟨gb11, 0, none⟩ = some (.int .i64 (0)) := (blk_cell BK11.out 0).trans rfl; have hcz1_1 : w11.cell? ⟨gb11, 1, none⟩ = some (.int .i64 (0)) := (blk_cell BK11.out 1).trans rfl; have hfz1_0 := blk_frozen BK11.out 0; have hfz1_1 := blk_frozen BK11.out 1; have hcz2_0 : w11.cell? ⟨gb2, 0, none⟩ = some (.int .i64 (0)) := (blk_cell BK2.out 0).trans rfl; have hcz2_1 : w11.cell? ⟨gb2, 1, none⟩ = some (.int .i64 (0)) := (blk_cell BK2.out 1).trans rfl; have hfz2_0 := blk_frozen BK2.out 0; have hfz2_1 := blk_frozen BK2.out 1))
  repeat (go_quiet (fail); try go_wp2)
  refine bodyPost_ret (results_ct rfl _ _ gb2 24 #[.int .i64 (0), .int .i64 (0)] (0, 0) _ rfl (by (with_reducible repeat (first | refine blk_drewN ?_ _ | refine blk_drew ?_ | refine blk_alloc ?_ _)); refine blk_put (cs := #[.int .i64 (0), .int .i64 0]) ?_ 1 _ rfl; (with_reducible repeat (first | refine blk_drewN ?_ _ | refine blk_drew ?_ | refine blk_alloc ?_ _)); refine blk_put (cs := #[.int .i64 0, .int .i64 0]) ?_ 0 _ rfl; (with_reducible repeat (first | refine blk_drewN ?_ _ | refine blk_drew ?_ | refine blk_alloc ?_ _)); refine blk_far ?_ NB2_11.out _; (with_reducible repeat (first | refine blk_drewN ?_ _ | refine blk_drew ?_ | refine blk_alloc ?_ _)); refine blk_far ?_ NB2_11.out _; (with_reducible repeat (first | refine blk_drewN ?_ _ | refine blk_drew ?_ | refine blk_alloc ?_ _)); exact BK2.out) Tryd.underlying24 rfl (by kernel_rfl)) rfl ?_
  exact RetBelow.of rfl rfl (by repeat (first | (with_reducible first | exact HB.out | apply below_alloc | apply pw_below_drewN | apply below_drew1 | refine below_set ?_ GE2.out | refine below_set ?_ GE11.out) | exact HB.out))

set_option maxHeartbeats 4000000 in
set_option maxRecDepth 100000 in
theorem ParseN_other (s x y : ByteArray) (hs : s.size ≤ 1000000) (w : World) (hv : LaidAt w) (hx : Hid (cutFirst s = x)) (hy : Hid (cutSecond s = y)) (hb : Hid (cutFound s = false)) (lx : x.size ≤ 1000) (ly : ((⟨#[49]⟩ : ByteArray)).size ≤ 1000) (p q : Int) (t : ByteArray) (B1 : Hid (numOf x = some p)) (B2 : Hid (numOf (⟨#[49]⟩ : ByteArray) = some q)) (A1 : Aside0 (ratio_Text.f p q = some t)) (z1 : (q == 0) = false) (z2 : (q = 0) = False) (q1 : (t.toList == s.toList) = false) (q2 : (t.toList != s.toList) = true) :
    Calls Tryd.prog 26 #[.string s] w (RetBelow (.tuple #[.agg #[.int .i64 0, .int .i64 0], .int .i64 2]) w) := by
  have hu24 := Tryd.underlying24
  have HB := Aside0.mk (Below.refl w.heap.size w)
  go_enter Tryd.func26, Tryd.ntmps26
  go_wp2_with (first | ((with_reducible refine gate_dst (N := 2) rfl ?_); refine box_event ?hg (N := 2) ?hd (cs := #[.int .i64 0, .int .i64 0]) (t := 24) ?hr ?_; (case hd => rfl); (case hg => rfl); (case hr => first | (go_simp; done) | (go_simp; rfl)); intro gb2 hg w2 hbox hb1; have n0_ := Aside0.mk (below_step (by repeat (first | (with_reducible first | exact HB.out | apply below_alloc | apply pw_below_drewN | apply below_drew1) | exact HB.out)) hb1); have n1_ := Aside0.mk (hbox); have n2_ := Aside0.mk ((by rw [hg]; exact (below_size (by repeat (first | (with_reducible first | exact HB.out | apply below_alloc | apply pw_below_drewN | apply below_drew1) | exact HB.out))) : w.heap.size ≤ gb2)); clear HB; have HB := n0_; have BK2 := n1_; have GE2 := n2_; clear n0_ n1_ n2_; clear hb1 hbox hg) | (go_at_call 38; (with_reducible refine (Cut_any s hs x y false _ hx hy hb).mono ?_); rintro e w38 ⟨rfl, hb1⟩; have n0_ := Aside0.mk (blk_below (g := gb2) (o := .cells #[.int .i64 0, .int .i64 0] 24 (0, 0)) (by (with_reducible repeat (first | refine blk_drewN ?_ _ | refine blk_drew ?_ | refine blk_alloc ?_ _)); exact BK2.out) hb1); have n1_ := Aside0.mk (below_step (by repeat (first | (with_reducible first | exact HB.out | apply below_alloc | apply pw_below_drewN | apply below_drew1 | refine below_set ?_ GE2.out) | exact HB.out)) hb1); clear BK2 HB hb1; have BK2 := n0_; have HB := n1_; clear n0_ n1_) | (go_at_call 39; (with_reducible refine (Atoi_ok x p _ (hv.step (by repeat (first | (with_reducible first | exact HB.out | apply below_alloc | apply pw_below_drewN | apply below_drew1 | refine below_set ?_ GE2.out) | exact HB.out))) B1 lx).mono ?_); rintro e w1 ⟨rfl, hb1⟩; have n0_ := Aside0.mk (blk_below (g := gb2) (o := .cells #[.int .i64 0, .int .i64 0] 24 (0, 0)) (by (with_reducible repeat (first | refine blk_drewN ?_ _ | refine blk_drew ?_ | refine blk_alloc ?_ _)); exact BK2.out) hb1); have n1_ := Aside0.mk (below_step (by repeat (first | (with_reducible first | exact HB.out | apply below_alloc | apply pw_below_drewN | apply below_drew1 | refine below_set ?_ GE2.out) | exact HB.out)) hb1); clear BK2 HB hb1; have BK2 := n0_; have HB := n1_; clear n0_ n1_) | (go_at_call 39; (with_reducible refine (Atoi_ok (⟨#[49]⟩ : ByteArray) q _ (hv.step (by repeat (first | (with_reducible first | exact HB.out | apply below_alloc | apply pw_below_drewN | apply below_drew1 | refine below_set ?_ GE2.out) | exact HB.out))) B2 ly).mono ?_); rintro e w1 ⟨rfl, hb1⟩; have n0_ := Aside0.mk (blk_below (g := gb2) (o := .cells #[.int .i64 0, .int .i64 0] 24 (0, 0)) (by (with_reducible repeat (first | refine blk_drewN ?_ _ | refine blk_drew ?_ | refine blk_alloc ?_ _)); exact BK2.out) hb1); have n1_ := Aside0.mk (below_step (by repeat (first | (with_reducible first | exact HB.out | apply below_alloc | apply pw_below_drewN | apply below_drew1 | refine below_set ?_ GE2.out) | exact HB.out)) hb1); clear BK2 HB hb1; have BK2 := n0_; have HB := n1_; clear n0_ n1_) | ((with_reducible refine gate_dst (N := 11) rfl ?_); refine box_event ?hg (N := 11) ?hd (cs := #[.int .i64 0, .int .i64 0]) (t := 24) ?hr ?_; (case hd => rfl); (case hg => rfl); (case hr => first | (go_simp; done) | (go_simp; rfl)); intro gb11 hg w11 hbox hb1; have n0_ := Aside0.mk (blk_below (g := gb2) (o := .cells #[.int .i64 0, .int .i64 0] 24 (0, 0)) (by (with_reducible repeat (first | refine blk_drewN ?_ _ | refine blk_drew ?_ | refine blk_alloc ?_ _)); exact BK2.out) hb1); have n1_ := Aside0.mk (below_step (by repeat (first | (with_reducible first | exact HB.out | apply below_alloc | apply pw_below_drewN | apply below_drew1 | refine below_set ?_ GE2.out) | exact HB.out)) hb1); have n2_ := Aside0.mk (hbox); have n3_ := Aside0.mk ((by rw [hg]; exact (below_size (by repeat (first | (with_reducible first | exact HB.out | apply below_alloc | apply pw_below_drewN | apply below_drew1 | refine below_set ?_ GE2.out) | exact HB.out))) : w.heap.size ≤ gb11)); have n5_ := Aside0.mk ((by rw [hg]; exact Nat.ne_of_lt (blk_lt (g := gb2) (o := .cells #[.int .i64 0, .int .i64 0] 24 (0, 0)) (by (with_reducible repeat (first | refine blk_drewN ?_ _ | refine blk_drew ?_ | refine blk_alloc ?_ _)); exact BK2.out)) : gb2 ≠ gb11)); have n6_ := Aside0.mk ((by rw [hg]; exact Nat.ne_of_gt (blk_lt (g := gb2) (o := .cells #[.int .i64 0, .int .i64 0] 24 (0, 0)) (by (with_reducible repeat (first | refine blk_drewN ?_ _ | refine blk_drew ?_ | refine blk_alloc ?_ _)); exact BK2.out)) : gb11 ≠ gb2)); clear BK2; clear HB; have BK2 := n0_; have HB := n1_; have BK11 := n2_; have GE11 := n3_; have NB2_11 := n5_; have NB11_2 := n6_; clear n0_ n1_ n2_ n3_ n5_ n6_; clear hb1 hbox hg; have hnb := NB11_2.out; have hnc := NB2_11.out; have hcz1_0 : w11.cell? ⟨gb11, 0, none⟩ = some (.int .i64 (0)) := (blk_cell BK11.out 0).trans rfl; have hcz1_1 : w11.cell? ⟨gb11, 1, none⟩ = some (.int .i64 (0)) := (blk_cell BK11.out 1).trans rfl; have hfz1_0 := blk_frozen BK11.out 0; have hfz1_1 := blk_frozen BK11.out 1; have hcz2_0 : w11.cell? ⟨gb2, 0, none⟩ = some (.int .i64 (0)) := (blk_cell BK2.out 0).trans rfl; have hcz2_1 : w11.cell? ⟨gb2, 1, none⟩ = some (.int .i64 (0)) := (blk_cell BK2.out 1).trans rfl; have hfz2_0 := blk_frozen BK2.out 0; have hfz2_1 := blk_frozen BK2.out 1) | (go_at_call 28; (with_reducible refine (ratio_Text.calls (hv := hv.step (by repeat (first | (with_reducible first | exact HB.out | apply below_alloc | apply pw_below_drewN | apply below_drew1 | refine below_set ?_ GE2.out | refine below_set ?_ GE11.out) | exact HB.out))) p q t _ A1.out).mono ?_); rintro e w28 ⟨rfl, hb1⟩; have n0_ := Aside0.mk (blk_below (g := gb2) (o := .cells #[.int .i64 0, .int .i64 0] 24 (0, 0)) (by (with_reducible repeat (first | refine blk_drewN ?_ _ | refine blk_drew ?_ | refine blk_alloc ?_ _)); refine blk_far ?_ NB2_11.out _; (with_reducible repeat (first | refine blk_drewN ?_ _ | refine blk_drew ?_ | refine blk_alloc ?_ _)); refine blk_far ?_ NB2_11.out _; (with_reducible repeat (first | refine blk_drewN ?_ _ | refine blk_drew ?_ | refine blk_alloc ?_ _)); exact BK2.out) hb1); have n1_ := Aside0.mk (blk_below (g := gb11) (o := .cells #[.int .i64 p, .int .i64 q] 24 (0, 0)) (by (with_reducible repeat (first | refine blk_drewN ?_ _ | refine blk_drew ?_ | refine blk_alloc ?_ _)); refine blk_put (cs := #[.int .i64 (p), .int .i64 0]) ?_ 1 _ rfl; (with_reducible repeat (first | refine blk_drewN ?_ _ | refine blk_drew ?_ | refine blk_alloc ?_ _)); refine blk_put (cs := #[.int .i64 0, .int .i64 0]) ?_ 0 _ rfl; (with_reducible repeat (first | refine blk_drewN ?_ _ | refine blk_drew ?_ | refine blk_alloc ?_ _)); exact BK11.out) hb1); have n2_ := Aside0.mk (below_step (by repeat (first | (with_reducible first | exact HB.out | apply below_alloc | apply pw_below_drewN | apply below_drew1 | refine below_set ?_ GE2.out | refine below_set ?_ GE11.out) | exact HB.out)) hb1); clear BK2; clear BK11; clear HB; have BK2 := n0_; have BK11 := n1_; have HB := n2_; clear n0_ n1_ n2_; clear hb1; have hcz3_0 : w28.cell? ⟨gb11, 0, none⟩ = some (.int .i64 (p)) := (blk_cell BK11.out 0).trans rfl; have hcz3_1 : w28.cell? ⟨gb11, 1, none⟩ = some (.int .i64 (q)) := (blk_cell BK11.out 1).trans rfl; have hfz3_0 := blk_frozen BK11.out 0; have hfz3_1 := blk_frozen BK11.out 1; have hcz4_0 : w28.cell? ⟨gb2, 0, none⟩ = some (.int .i64 (0)) := (blk_cell BK2.out 0).trans rfl; have hcz4_1 : w28.cell? ⟨gb2, 1, none⟩ = some (.int .i64 (0)) := (blk_cell BK2.out 1).trans rfl; have hfz4_0 := blk_frozen BK2.out 0; have hfz4_1 := blk_frozen BK2.out 1))
  repeat (go_quiet (fail); try go_wp2)
  refine bodyPost_ret (results_ct rfl _ _ gb2 24 #[.int .i64 (0), .int .i64 (0)] (0, 0) _ rfl (by (with_reducible repeat (first | refine blk_drewN ?_ _ | refine blk_drew ?_ | refine blk_alloc ?_ _)); refine blk_put (cs := #[.int .i64 (0), .int .i64 0]) ?_ 1 _ rfl; (with_reducible repeat (first | refine blk_drewN ?_ _ | refine blk_drew ?_ | refine blk_alloc ?_ _)); refine blk_put (cs := #[.int .i64 0, .int .i64 0]) ?_ 0 _ rfl; (with_reducible repeat (first | refine blk_drewN ?_ _ | refine blk_drew ?_ | refine blk_alloc ?_ _)); exact BK2.out) Tryd.underlying24 rfl (by kernel_rfl)) rfl ?_
  exact RetBelow.of rfl rfl (by repeat (first | (with_reducible first | exact HB.out | apply below_alloc | apply pw_below_drewN | apply below_drew1 | refine below_set ?_ GE2.out | refine below_set ?_ GE11.out) | exact HB.out))

set_option maxHeartbeats 4000000 in
set_option maxRecDepth 100000 in
theorem ParseN_same (s x y : ByteArray) (hs : s.size ≤ 1000000) (w : World) (hv : LaidAt w) (hx : Hid (cutFirst s = x)) (hy : Hid (cutSecond s = y)) (hb : Hid (cutFound s = false)) (lx : x.size ≤ 1000) (ly : ((⟨#[49]⟩ : ByteArray)).size ≤ 1000) (p q : Int) (t : ByteArray) (B1 : Hid (numOf x = some p)) (B2 : Hid (numOf (⟨#[49]⟩ : ByteArray) = some q)) (A1 : Aside0 (ratio_Text.f p q = some t)) (z1 : (q == 0) = false) (z2 : (q = 0) = False) (q1 : (t.toList == s.toList) = true) (q2 : (t.toList != s.toList) = false) :
    Calls Tryd.prog 26 #[.string s] w (RetBelow (.tuple #[.agg #[.int .i64 p, .int .i64 q], .int .i64 0]) w) := by
  have hu24 := Tryd.underlying24
  have HB := Aside0.mk (Below.refl w.heap.size w)
  go_enter Tryd.func26, Tryd.ntmps26
  go_wp2_with (first | ((with_reducible refine gate_dst (N := 2) rfl ?_); refine box_event ?hg (N := 2) ?hd (cs := #[.int .i64 0, .int .i64 0]) (t := 24) ?hr ?_; (case hd => rfl); (case hg => rfl); (case hr => first | (go_simp; done) | (go_simp; rfl)); intro gb2 hg w2 hbox hb1; have n0_ := Aside0.mk (below_step (by repeat (first | (with_reducible first | exact HB.out | apply below_alloc | apply pw_below_drewN | apply below_drew1) | exact HB.out)) hb1); have n1_ := Aside0.mk (hbox); have n2_ := Aside0.mk ((by rw [hg]; exact (below_size (by repeat (first | (with_reducible first | exact HB.out | apply below_alloc | apply pw_below_drewN | apply below_drew1) | exact HB.out))) : w.heap.size ≤ gb2)); clear HB; have HB := n0_; have BK2 := n1_; have GE2 := n2_; clear n0_ n1_ n2_; clear hb1 hbox hg) | (go_at_call 38; (with_reducible refine (Cut_any s hs x y false _ hx hy hb).mono ?_); rintro e w38 ⟨rfl, hb1⟩; have n0_ := Aside0.mk (blk_below (g := gb2) (o := .cells #[.int .i64 0, .int .i64 0] 24 (0, 0)) (by (with_reducible repeat (first | refine blk_drewN ?_ _ | refine blk_drew ?_ | refine blk_alloc ?_ _)); exact BK2.out) hb1); have n1_ := Aside0.mk (below_step (by repeat (first | (with_reducible first | exact HB.out | apply below_alloc | apply pw_below_drewN | apply below_drew1 | refine below_set ?_ GE2.out) | exact HB.out)) hb1); clear BK2 HB hb1; have BK2 := n0_; have HB := n1_; clear n0_ n1_) | (go_at_call 39; (with_reducible refine (Atoi_ok x p _ (hv.step (by repeat (first | (with_reducible first | exact HB.out | apply below_alloc | apply pw_below_drewN | apply below_drew1 | refine below_set ?_ GE2.out) | exact HB.out))) B1 lx).mono ?_); rintro e w1 ⟨rfl, hb1⟩; have n0_ := Aside0.mk (blk_below (g := gb2) (o := .cells #[.int .i64 0, .int .i64 0] 24 (0, 0)) (by (with_reducible repeat (first | refine blk_drewN ?_ _ | refine blk_drew ?_ | refine blk_alloc ?_ _)); exact BK2.out) hb1); have n1_ := Aside0.mk (below_step (by repeat (first | (with_reducible first | exact HB.out | apply below_alloc | apply pw_below_drewN | apply below_drew1 | refine below_set ?_ GE2.out) | exact HB.out)) hb1); clear BK2 HB hb1; have BK2 := n0_; have HB := n1_; clear n0_ n1_) | (go_at_call 39; (with_reducible refine (Atoi_ok (⟨#[49]⟩ : ByteArray) q _ (hv.step (by repeat (first | (with_reducible first | exact HB.out | apply below_alloc | apply pw_below_drewN | apply below_drew1 | refine below_set ?_ GE2.out) | exact HB.out))) B2 ly).mono ?_); rintro e w1 ⟨rfl, hb1⟩; have n0_ := Aside0.mk (blk_below (g := gb2) (o := .cells #[.int .i64 0, .int .i64 0] 24 (0, 0)) (by (with_reducible repeat (first | refine blk_drewN ?_ _ | refine blk_drew ?_ | refine blk_alloc ?_ _)); exact BK2.out) hb1); have n1_ := Aside0.mk (below_step (by repeat (first | (with_reducible first | exact HB.out | apply below_alloc | apply pw_below_drewN | apply below_drew1 | refine below_set ?_ GE2.out) | exact HB.out)) hb1); clear BK2 HB hb1; have BK2 := n0_; have HB := n1_; clear n0_ n1_) | ((with_reducible refine gate_dst (N := 11) rfl ?_); refine box_event ?hg (N := 11) ?hd (cs := #[.int .i64 0, .int .i64 0]) (t := 24) ?hr ?_; (case hd => rfl); (case hg => rfl); (case hr => first | (go_simp; done) | (go_simp; rfl)); intro gb11 hg w11 hbox hb1; have n0_ := Aside0.mk (blk_below (g := gb2) (o := .cells #[.int .i64 0, .int .i64 0] 24 (0, 0)) (by (with_reducible repeat (first | refine blk_drewN ?_ _ | refine blk_drew ?_ | refine blk_alloc ?_ _)); exact BK2.out) hb1); have n1_ := Aside0.mk (below_step (by repeat (first | (with_reducible first | exact HB.out | apply below_alloc | apply pw_below_drewN | apply below_drew1 | refine below_set ?_ GE2.out) | exact HB.out)) hb1); have n2_ := Aside0.mk (hbox); have n3_ := Aside0.mk ((by rw [hg]; exact (below_size (by repeat (first | (with_reducible first | exact HB.out | apply below_alloc | apply pw_below_drewN | apply below_drew1 | refine below_set ?_ GE2.out) | exact HB.out))) : w.heap.size ≤ gb11)); have n5_ := Aside0.mk ((by rw [hg]; exact Nat.ne_of_lt (blk_lt (g := gb2) (o := .cells #[.int .i64 0, .int .i64 0] 24 (0, 0)) (by (with_reducible repeat (first | refine blk_drewN ?_ _ | refine blk_drew ?_ | refine blk_alloc ?_ _)); exact BK2.out)) : gb2 ≠ gb11)); have n6_ := Aside0.mk ((by rw [hg]; exact Nat.ne_of_gt (blk_lt (g := gb2) (o := .cells #[.int .i64 0, .int .i64 0] 24 (0, 0)) (by (with_reducible repeat (first | refine blk_drewN ?_ _ | refine blk_drew ?_ | refine blk_alloc ?_ _)); exact BK2.out)) : gb11 ≠ gb2)); clear BK2; clear HB; have BK2 := n0_; have HB := n1_; have BK11 := n2_; have GE11 := n3_; have NB2_11 := n5_; have NB11_2 := n6_; clear n0_ n1_ n2_ n3_ n5_ n6_; clear hb1 hbox hg; have hnb := NB11_2.out; have hnc := NB2_11.out; have hcz1_0 : w11.cell? ⟨gb11, 0, none⟩ = some (.int .i64 (0)) := (blk_cell BK11.out 0).trans rfl; have hcz1_1 : w11.cell? ⟨gb11, 1, none⟩ = some (.int .i64 (0)) := (blk_cell BK11.out 1).trans rfl; have hfz1_0 := blk_frozen BK11.out 0; have hfz1_1 := blk_frozen BK11.out 1; have hcz2_0 : w11.cell? ⟨gb2, 0, none⟩ = some (.int .i64 (0)) := (blk_cell BK2.out 0).trans rfl; have hcz2_1 : w11.cell? ⟨gb2, 1, none⟩ = some (.int .i64 (0)) := (blk_cell BK2.out 1).trans rfl; have hfz2_0 := blk_frozen BK2.out 0; have hfz2_1 := blk_frozen BK2.out 1) | (go_at_call 28; (with_reducible refine (ratio_Text.calls (hv := hv.step (by repeat (first | (with_reducible first | exact HB.out | apply below_alloc | apply pw_below_drewN | apply below_drew1 | refine below_set ?_ GE2.out | refine below_set ?_ GE11.out) | exact HB.out))) p q t _ A1.out).mono ?_); rintro e w28 ⟨rfl, hb1⟩; have n0_ := Aside0.mk (blk_below (g := gb2) (o := .cells #[.int .i64 0, .int .i64 0] 24 (0, 0)) (by (with_reducible repeat (first | refine blk_drewN ?_ _ | refine blk_drew ?_ | refine blk_alloc ?_ _)); refine blk_far ?_ NB2_11.out _; (with_reducible repeat (first | refine blk_drewN ?_ _ | refine blk_drew ?_ | refine blk_alloc ?_ _)); refine blk_far ?_ NB2_11.out _; (with_reducible repeat (first | refine blk_drewN ?_ _ | refine blk_drew ?_ | refine blk_alloc ?_ _)); exact BK2.out) hb1); have n1_ := Aside0.mk (blk_below (g := gb11) (o := .cells #[.int .i64 p, .int .i64 q] 24 (0, 0)) (by (with_reducible repeat (first | refine blk_drewN ?_ _ | refine blk_drew ?_ | refine blk_alloc ?_ _)); refine blk_put (cs := #[.int .i64 (p), .int .i64 0]) ?_ 1 _ rfl; (with_reducible repeat (first | refine blk_drewN ?_ _ | refine blk_drew ?_ | refine blk_alloc ?_ _)); refine blk_put (cs := #[.int .i64 0, .int .i64 0]) ?_ 0 _ rfl; (with_reducible repeat (first | refine blk_drewN ?_ _ | refine blk_drew ?_ | refine blk_alloc ?_ _)); exact BK11.out) hb1); have n2_ := Aside0.mk (below_step (by repeat (first | (with_reducible first | exact HB.out | apply below_alloc | apply pw_below_drewN | apply below_drew1 | refine below_set ?_ GE2.out | refine below_set ?_ GE11.out) | exact HB.out)) hb1); clear BK2; clear BK11; clear HB; have BK2 := n0_; have BK11 := n1_; have HB := n2_; clear n0_ n1_ n2_; clear hb1; have hcz3_0 : w28.cell? ⟨gb11, 0, none⟩ = some (.int .i64 (p)) := (blk_cell BK11.out 0).trans rfl; have hcz3_1 : w28.cell? ⟨gb11, 1, none⟩ = some (.int .i64 (q)) := (blk_cell BK11.out 1).trans rfl; have hfz3_0 := blk_frozen BK11.out 0; have hfz3_1 := blk_frozen BK11.out 1; have hcz4_0 : w28.cell? ⟨gb2, 0, none⟩ = some (.int .i64 (0)) := (blk_cell BK2.out 0).trans rfl; have hcz4_1 : w28.cell? ⟨gb2, 1, none⟩ = some (.int .i64 (0)) := (blk_cell BK2.out 1).trans rfl; have hfz4_0 := blk_frozen BK2.out 0; have hfz4_1 := blk_frozen BK2.out 1))
  repeat (go_quiet (fail); try go_wp2)
  refine bodyPost_ret (results_ct rfl _ _ gb2 24 #[.int .i64 (p), .int .i64 (q)] (0, 0) _ rfl (by (with_reducible repeat (first | refine blk_drewN ?_ _ | refine blk_drew ?_ | refine blk_alloc ?_ _)); refine blk_put (cs := #[.int .i64 (p), .int .i64 0]) ?_ 1 _ rfl; (with_reducible repeat (first | refine blk_drewN ?_ _ | refine blk_drew ?_ | refine blk_alloc ?_ _)); refine blk_put (cs := #[.int .i64 0, .int .i64 0]) ?_ 0 _ rfl; (with_reducible repeat (first | refine blk_drewN ?_ _ | refine blk_drew ?_ | refine blk_alloc ?_ _)); exact BK2.out) Tryd.underlying24 rfl (by kernel_rfl)) rfl ?_
  exact RetBelow.of rfl rfl (by repeat (first | (with_reducible first | exact HB.out | apply below_alloc | apply pw_below_drewN | apply below_drew1 | refine below_set ?_ GE2.out | refine below_set ?_ GE11.out) | exact HB.out))

theorem cutFirst_le (s : ByteArray) : (cutFirst s).size ≤ s.size := by
  unfold cutFirst
  split
  · rw [ByteArray.size_extract]
    omega
  · exact Nat.le_refl _
theorem cutSecond_le (s : ByteArray) : (cutSecond s).size ≤ s.size := by
  unfold cutSecond
  split
  · rw [ByteArray.size_extract]
    omega
  · exact Nat.zero_le _
theorem num_one : numOf (⟨#[49]⟩ : ByteArray) = some 1 := by decide
theorem ratio_Parse.calls (a0 : ByteArray) (r1 r2 r3 : Int) (w : World) (hv : LaidAt w) (h : ratio_Parse.f a0 = some (r1, r2, r3)) :
    Calls Tryd.prog 26 #[.string a0] w fun e w' => e = .returned (.tuple #[.agg #[.int .i64 r1, .int .i64 r2], .int .i64 r3]) ∧ Below w.heap.size w w' := by
  show Calls Tryd.prog 26 #[.string a0] w (RetBelow (.tuple #[.agg #[.int .i64 r1, .int .i64 r2], .int .i64 r3]) w)
  unfold ratio_Parse.f at h
  by_cases hs : a0.size ≤ 1000
  · rw [if_pos hs] at h
    have lx : (cutFirst a0).size ≤ 1000 := Nat.le_trans (cutFirst_le a0) hs
    cases hf : cutFound a0 with
    | true =>
      rw [show cutNumber a0 = cutSecond a0 by unfold cutNumber; rw [if_pos hf]] at h
      have ly : (cutSecond a0).size ≤ 1000 := Nat.le_trans (cutSecond_le a0) hs
      cases e1 : numOf (cutFirst a0) with
      | none =>
        rw [e1] at h
        simp only [Option.some.injEq, Prod.mk.injEq] at h
        obtain ⟨rfl, rfl, rfl⟩ := h
        cases e2 : numOf (cutSecond a0) with
        | none => exact ParseF_nn a0 _ _ (by omega) w hv (Lib.hid rfl) (Lib.hid rfl) (Lib.hid hf) lx ly (Lib.hid e1) (Lib.hid e2)
        | some q => exact ParseF_ny a0 _ _ (by omega) w hv (Lib.hid rfl) (Lib.hid rfl) (Lib.hid hf) lx ly q (Lib.hid e1) (Lib.hid e2)
      | some p =>
        cases e2 : numOf (cutSecond a0) with
        | none =>
          rw [e1, e2] at h
          simp only [Option.some.injEq, Prod.mk.injEq] at h
          obtain ⟨rfl, rfl, rfl⟩ := h
          exact ParseF_yn a0 _ _ (by omega) w hv (Lib.hid rfl) (Lib.hid rfl) (Lib.hid hf) lx ly p (Lib.hid e1) (Lib.hid e2)
        | some q =>
          rw [e1, e2] at h
          simp only at h
          by_cases hz : q = 0
          · subst hz
            rw [if_pos rfl] at h
            simp only [Option.some.injEq, Prod.mk.injEq] at h
            obtain ⟨rfl, rfl, rfl⟩ := h
            exact ParseF_z a0 _ _ (by omega) w hv (Lib.hid rfl) (Lib.hid rfl) (Lib.hid hf) lx ly p (Lib.hid e1) (Lib.hid e2)
          · rw [if_neg hz] at h
            replace h := Option.bind_eq_some_iff.mp h
            obtain ⟨t, A1, h⟩ := h
            by_cases hq : t.toList = a0.toList
            · rw [if_pos hq] at h
              simp only [Option.some.injEq, Prod.mk.injEq] at h
              obtain ⟨rfl, rfl, rfl⟩ := h
              exact ParseF_same a0 _ _ (by omega) w hv (Lib.hid rfl) (Lib.hid rfl) (Lib.hid hf) lx ly _ _ t (Lib.hid e1) (Lib.hid e2) (Aside0.mk A1) (beq_eq_false_iff_ne.mpr hz) (eq_false hz) (beq_iff_eq.mpr hq) (bne_eq_false_iff_eq.mpr hq)
            · rw [if_neg hq] at h
              simp only [Option.some.injEq, Prod.mk.injEq] at h
              obtain ⟨rfl, rfl, rfl⟩ := h
              exact ParseF_other a0 _ _ (by omega) w hv (Lib.hid rfl) (Lib.hid rfl) (Lib.hid hf) lx ly p q t (Lib.hid e1) (Lib.hid e2) (Aside0.mk A1) (beq_eq_false_iff_ne.mpr hz) (eq_false hz) (beq_eq_false_iff_ne.mpr hq) (bne_iff_ne.mpr hq)
    | false =>
      rw [show cutNumber a0 = (⟨#[49]⟩ : ByteArray) by unfold cutNumber; rw [if_neg (by rw [hf]; decide)]] at h
      have ly : (⟨#[49]⟩ : ByteArray).size ≤ 1000 := by decide
      have e2 := num_one
      rw [e2] at h
      cases e1 : numOf (cutFirst a0) with
      | none =>
        rw [e1] at h
        simp only [Option.some.injEq, Prod.mk.injEq] at h
        obtain ⟨rfl, rfl, rfl⟩ := h
        exact ParseN_ny a0 _ _ (by omega) w hv (Lib.hid rfl) (Lib.hid rfl) (Lib.hid hf) lx ly 1 (Lib.hid e1) (Lib.hid e2)
      | some p =>
        rw [e1] at h
        simp only at h
        rw [if_neg (by decide)] at h
        replace h := Option.bind_eq_some_iff.mp h
        obtain ⟨t, A1, h⟩ := h
        by_cases hq : t.toList = a0.toList
        · rw [if_pos hq] at h
          simp only [Option.some.injEq, Prod.mk.injEq] at h
          obtain ⟨rfl, rfl, rfl⟩ := h
          exact ParseN_same a0 _ _ (by omega) w hv (Lib.hid rfl) (Lib.hid rfl) (Lib.hid hf) lx ly _ _ t (Lib.hid e1) (Lib.hid e2) (Aside0.mk A1) (by decide) (eq_false (by decide)) (beq_iff_eq.mpr hq) (bne_eq_false_iff_eq.mpr hq)
        · rw [if_neg hq] at h
          simp only [Option.some.injEq, Prod.mk.injEq] at h
          obtain ⟨rfl, rfl, rfl⟩ := h
          exact ParseN_other a0 _ _ (by omega) w hv (Lib.hid rfl) (Lib.hid rfl) (Lib.hid hf) lx ly p 1 t (Lib.hid e1) (Lib.hid e2) (Aside0.mk A1) (by decide) (eq_false (by decide)) (beq_eq_false_iff_ne.mpr hq) (bne_iff_ne.mpr hq)
  · rw [if_neg hs] at h
    cases h

end Go.Proofs.YtdphgnakigcaeaaDoor.Pc
