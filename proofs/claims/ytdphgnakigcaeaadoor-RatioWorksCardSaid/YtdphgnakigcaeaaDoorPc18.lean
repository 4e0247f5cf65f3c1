/- The contracts of the functions that the laws reach, each over a plain Lean function, written by wip/ownprint.py of this claim's session. -/
import Derived.Test.YtdphgnakigcaeaaDoorPc0
import Derived.Test.YtdphgnakigcaeaaDoorPc2
import Derived.Test.YtdphgnakigcaeaaDoorPc11
import Derived.Test.YtdphgnakigcaeaaDoorPc13
namespace Go.Proofs.YtdphgnakigcaeaaDoor.Pc
open Go.RowKit Go.Proofs.YtdphgnakigcaeaaDoorW.PrintWords Go.Proofs.YtdphgnakigcaeaaDoorW.PrintLast Go.Proofs.YtdphgnakigcaeaaDoorW.PrintMore
attribute [local go_sem] max2_int min2_int max_two min_two max_three min_three max_four min_four   -- for this text's walks alone
attribute [local go_sem high] binOp_leq_p
set_option linter.unusedVariables false
set_option linter.unusedSimpArgs false

/-! ### dioramaref04_Add: function 42 -/
def dioramaref04_Add.j0 : Nat → Bool → Int → Int → Int → Int → Option (Int × Int × Int)
 | 0, _, _, _, _, _ => none
 | k + 1, x16, x465000, x465001, x466000, x466001 => if x16 = true then (some (0, 0, 1)) else ((dioramaref04_Den.f x465000 x465001).bind fun t469 => ((dioramaref04_Size.f t469).bind fun t470 => ((dioramaref04_Den.f x466000 x466001).bind fun t471 => ((dioramaref04_Size.f t471).bind fun t472 => ((dioramaref04_Common.f k t470 t472).bind fun t473 => ((dioramaref04_Den.f x465000 x465001).bind fun t474 => (if (wrap64 (t473)) = 0 then (none) else ((dioramaref04_Den.f x466000 x466001).bind fun t475 => ((dioramaref04_Make.f k (wrap64 ((wrap64 (x465000 * (wrap64 (Int.tdiv t475 (wrap64 (t473)))))) + (wrap64 (x466000 * (wrap64 (Int.tdiv t474 (wrap64 (t473)))))))) (wrap64 ((wrap64 ((wrap64 (Int.tdiv t474 (wrap64 (t473)))) * (wrap64 (Int.tdiv t475 (wrap64 (t473)))))) * (wrap64 (t473))))).bind fun bt476 => (some (bt476.1, bt476.2.1, bt476.2.2)))))))))))
def dioramaref04_Add.f (k : Nat) (a0_0 : Int) (a0_1 : Int) (a1_0 : Int) (a1_1 : Int) : Option (Int × Int × Int) := (dioramaref04_Valid.f k a0_0 a0_1).bind fun t467 => (if t467 = true then ((dioramaref04_Valid.f k a1_0 a1_1).bind fun t468 => (dioramaref04_Add.j0 k (!t468) a0_0 a0_1 a1_0 a1_1)) else (dioramaref04_Add.j0 k true a0_0 a0_1 a1_0 a1_1))
theorem dioramaref04_Add.mono_l : ∀ k, (∀ y0 y1 y2 y3 y4, LeO (dioramaref04_Add.j0 k y0 y1 y2 y3 y4) (dioramaref04_Add.j0 (k + 1) y0 y1 y2 y3 y4))
 | 0 => fun _ _ _ _ _ r h => by simp [dioramaref04_Add.j0] at h
 | k + 1 => by
  have ih0 := dioramaref04_Add.mono_l k
  ·intro y0 y1 y2 y3 y4
   unfold dioramaref04_Add.j0
   repeat' first
   | (with_reducible exact ih0 _ _ _ _ _)
   | (with_reducible exact dioramaref04_Common.mono _ _ _)
   | (with_reducible exact dioramaref04_Make.mono _ _ _)
   | (with_reducible exact dioramaref04_Valid.mono _ _ _)
   | (with_reducible exact LeO.refl _)
   | (with_reducible exact LeO.none _)
   | (with_reducible refine LeO.ite ?_ ?_)
   | (with_reducible refine LeO.bind ?_ (fun _ => ?_))
   | exact ih0 _ _ _ _ _
   | exact dioramaref04_Common.mono _ _ _
   | exact dioramaref04_Make.mono _ _ _
   | exact dioramaref04_Valid.mono _ _ _
   | exact LeO.none _
   | refine LeO.ite ?_ ?_
   | refine LeO.bind ?_ (fun _ => ?_)
theorem dioramaref04_Add.mono : ∀ a0 a1 a2 a3 k, LeO (dioramaref04_Add.f k a0 a1 a2 a3) (dioramaref04_Add.f (k + 1) a0 a1 a2 a3) := by
 intro a0 a1 a2 a3 k
 have ih0 := dioramaref04_Add.mono_l k
 unfold dioramaref04_Add.f
 repeat' first
   | (with_reducible exact ih0 _ _ _ _ _)
   | (with_reducible exact dioramaref04_Common.mono _ _ _)
   | (with_reducible exact dioramaref04_Make.mono _ _ _)
   | (with_reducible exact dioramaref04_Valid.mono _ _ _)
   | (with_reducible exact LeO.refl _)
   | (with_reducible exact LeO.none _)
   | (with_reducible refine LeO.ite ?_ ?_)
   | (with_reducible refine LeO.bind ?_ (fun _ => ?_))
   | exact ih0 _ _ _ _ _
   | exact dioramaref04_Common.mono _ _ _
   | exact dioramaref04_Make.mono _ _ _
   | exact dioramaref04_Valid.mono _ _ _
   | exact LeO.none _
   | refine LeO.ite ?_ ?_
   | refine LeO.bind ?_ (fun _ => ?_)
def dioramaref04_Add.T3 : Bool × List (List Nat × List Nat) := (true, [([], []), ([0], [0]), ([1, 1], [1]), ([], []), ([3, 2], [3]), ([4, 4], [4]), ([2, 5, 5], [2, 5]), ([6], [6]), ([7, 6, 0, 1, 2, 3, 4, 5, 6, 7], [7])])
def dioramaref04_Add.B3 : List Nat := [0, 1, 3, 0, 15, 31, 63, 127, 255]
theorem dioramaref04_Add.tab3 : rtab .any (opsOf Tryd.f42 3) = dioramaref04_Add.T3 := by kernel_rfl
theorem dioramaref04_Add.bits3 : waitsOk dioramaref04_Add.T3.2 dioramaref04_Add.B3 = true := by kernel_rfl
theorem far_ {W : World} {g g' i : Nat} {o : Obj} {v : Value} (h : W.heap[g]? = some o) (hne : Aside0 (g ≠ g')) : (W.setCell ⟨g', i, none⟩ v).heap[g]? = some o := (Below.heap_setCell W ⟨g', i, none⟩ v g hne.out).trans h
theorem put0_ {W : World} {g : Nat} {a b x : Value} {t : TypeId} (h : W.heap[g]? = some (.cells #[x, b] t (0, 0))) : (W.setCell ⟨g, 0, none⟩ a).heap[g]? = some (.cells #[a, b] t (0, 0)) := blk_put h 0 a rfl
theorem put1_ {W : World} {g : Nat} {a b x : Value} {t : TypeId} (h : W.heap[g]? = some (.cells #[a, x] t (0, 0))) : (W.setCell ⟨g, 1, none⟩ b).heap[g]? = some (.cells #[a, b] t (0, 0)) := blk_put h 1 b rfl
/-- what a box holds, through worlds that drew, laid new blocks, stored into boxes -/
theorem pk_ {g : Nat} {o : Obj} {W : World} (p : W.heap[g]? = some o := by (with_reducible repeat (first | refine blk_drewN ?_ _ | refine blk_drew ?_ | refine blk_alloc ?_ _ | refine far_ ?_ (by assumption) | apply put1_ | apply put0_)); refine Aside0.out ?_; assumption) : W.heap[g]? = some o := p
/-- the world is the first one below its end -/
theorem bl_ {n : Nat} {W0 W : World} (p : Below n W0 W := by repeat (first | (with_reducible first | exact Aside0.out (by assumption) | apply below_alloc | apply pw_below_drewN | apply below_drew1 | refine below_set ?_ (Aside0.out (by assumption))) | exact Aside0.out (by assumption))) : Below n W0 W := p
theorem up_ {g : Nat} {o : Obj} {W0 W W1 : World} (b : Aside0 (W0.heap[g]? = some o)) (hb : Below W.heap.size W W1) (p : W.heap[g]? = some o := by (with_reducible repeat (first | refine blk_drewN ?_ _ | refine blk_drew ?_ | refine blk_alloc ?_ _ | refine far_ ?_ (by assumption))); refine Aside0.out ?_; assumption) : Aside0 (W1.heap[g]? = some o) := ⟨blk_below p hb⟩
theorem up24_ (g : Nat) (a b : Int) {W W1 : World} (hb : Below W.heap.size W W1) (p : W.heap[g]? = some (.cells #[.int .i64 a, .int .i64 b] 24 (0, 0)) := by (with_reducible repeat (first | refine blk_drewN ?_ _ | refine blk_drew ?_ | refine blk_alloc ?_ _ | refine far_ ?_ (by assumption) | apply put1_ | apply put0_)); refine Aside0.out ?_; assumption) : Aside0 (W1.heap[g]? = some (.cells #[.int .i64 a, .int .i64 b] 24 (0, 0))) := ⟨blk_below p hb⟩
theorem gw_ {w W : World} {g : Nat} (hg : g = W.heap.size) (p : Below w.heap.size w W := by repeat (first | (with_reducible first | exact Aside0.out (by assumption) | apply below_alloc | apply pw_below_drewN | apply below_drew1 | refine below_set ?_ (Aside0.out (by assumption))) | exact Aside0.out (by assumption))) : Aside0 (w.heap.size ≤ g) := ⟨by rw [hg]; exact below_size p⟩
theorem nl_ {g g' : Nat} {o : Obj} {W0 W : World} (b : Aside0 (W0.heap[g]? = some o)) (hg : g' = W.heap.size) (p : W.heap[g]? = some o := by (with_reducible repeat (first | refine blk_drewN ?_ _ | refine blk_drew ?_ | refine blk_alloc ?_ _ | refine far_ ?_ (by assumption))); refine Aside0.out ?_; assumption) : Aside0 (g ≠ g') := ⟨by rw [hg]; exact Nat.ne_of_lt (blk_lt p)⟩
theorem ng_ {g g' : Nat} {o : Obj} {W0 W : World} (b : Aside0 (W0.heap[g]? = some o)) (hg : g' = W.heap.size) (p : W.heap[g]? = some o := by (with_reducible repeat (first | refine blk_drewN ?_ _ | refine blk_drew ?_ | refine blk_alloc ?_ _ | refine far_ ?_ (by assumption))); refine Aside0.out ?_; assumption) : Aside0 (g' ≠ g) := ⟨by rw [hg]; exact Nat.ne_of_gt (blk_lt p)⟩
set_option maxHeartbeats 8000000 in
set_option maxRecDepth 100000 in
theorem dioramaref04_Add.calls (k : Nat) (a0_0 : Int) (a0_1 : Int) (a1_0 : Int) (a1_1 : Int) (r1 : Int) (r2 : Int) (r3 : Int) (w : World) (h : dioramaref04_Add.f k a0_0 a0_1 a1_0 a1_1 = some (r1, r2, r3)) :
  Calls Tryd.prog 42 #[.agg #[.int .i64 a0_0, .int .i64 a0_1], .agg #[.int .i64 a1_0, .int .i64 a1_1]] w fun e w' => e = .returned (.tuple #[.agg #[.int .i64 r1, .int .i64 r2], .int .i64 r3]) ∧ Below w.heap.size w w' := by
 have hu24 := Tryd.underlying24
 have HB := Aside0.mk (Below.refl w.heap.size w)
 have H : ((dioramaref04_Valid.f k a0_0 a0_1).bind fun t467 => (if t467 = true then ((dioramaref04_Valid.f k a1_0 a1_1).bind fun t468 => (dioramaref04_Add.j0 k (!t468) a0_0 a0_1 a1_0 a1_1)) else (dioramaref04_Add.j0 k true a0_0 a0_1 a1_0 a1_1))) = some (r1, r2, r3) := h
 clear h
 have HC3 := Aside0.mk H
 clear H
 go_enter Tryd.func42, Tryd.ntmps42
 go_upto_region 1 with (first | ((with_reducible refine gate_dst (N := 2) rfl ?_); refine box_event ?hg (N := 2) ?hd (cs := #[.int .i64 a0_0, .int .i64 a0_1]) (t := 24) ?hr ?_; (case hd => rfl); (case hg => rfl); (case hr => first | (go_simp; done) | (go_simp; rfl)); intro gb464 hg w4 hbox hb; have BK464 := Aside0.mk (hbox); have GW464 := gw_ (w := w) hg; have GE464 := gw_ (w := w) hg; replace HB := Aside0.mk (below_step bl_ hb); clear hb hbox hg) | ((with_reducible refine gate_dst (N := 3) rfl ?_); refine box_event ?hg (N := 3) ?hd (cs := #[.int .i64 a1_0, .int .i64 a1_1]) (t := 24) ?hr ?_; (case hd => rfl); (case hg => rfl); (case hr => first | (go_simp; done) | (go_simp; rfl)); intro gb465 hg w5 hbox hb; have BK465 := Aside0.mk (hbox); have GW465 := gw_ (w := w) hg; have GE465 := gw_ (w := w) hg; have NB464_465 := nl_ BK464 hg; have NB465_464 := ng_ BK464 hg; replace BK464 := up_ BK464 hb; replace HB := Aside0.mk (below_step bl_ hb); clear hb hbox hg) | ((with_reducible refine gate_dst (N := 4) rfl ?_); refine box_event ?hg (N := 4) ?hd (cs := #[.int .i64 0, .int .i64 0]) (t := 24) ?hr ?_; (case hd => rfl); (case hg => rfl); (case hr => first | (go_simp; done) | (go_simp; rfl)); intro gb466 hg w6 hbox hb; have BK466 := Aside0.mk (hbox); have GW466 := gw_ (w := w) hg; have GE466 := gw_ (w := w) hg; have NB464_466 := nl_ BK464 hg; have NB466_464 := ng_ BK464 hg; have NB465_466 := nl_ BK465 hg; have NB466_465 := ng_ BK465 hg; replace BK464 := up_ BK464 hb; replace BK465 := up_ BK465 hb; replace HB := Aside0.mk (below_step bl_ hb); clear hb hbox hg))
 (try simp only [Act.put, List.setIfInBounds_toArray, List.set_cons_zero, List.set_cons_succ])
 go_cut [16] (fun v16 wc => ∃ (kq : Nat) (x16_2 : Bool), v16 = .bool x16_2 ∧ Aside0 (dioramaref04_Add.j0 kq x16_2 a0_0 a0_1 a1_0 a1_1 = some (r1, r2, r3)) ∧ Aside0 (kq ≤ k) ∧ Aside0 (wc.heap[gb464]? = some (.cells #[.int .i64 a0_0, .int .i64 a0_1] 24 (0, 0))) ∧ Aside0 (wc.heap[gb465]? = some (.cells #[.int .i64 a1_0, .int .i64 a1_1] 24 (0, 0))) ∧ Aside0 (wc.heap[gb466]? = some (.cells #[.int .i64 0, .int .i64 0] 24 (0, 0))) ∧ Aside0 (Below w.heap.size w wc))
 case first =>
  have H := HC3.out
  clear HC3
  replace H := Option.bind_eq_some_iff.mp H
  obtain ⟨t467, A70, H⟩ := H
  replace H : (if t467 = true then ((dioramaref04_Valid.f k a1_0 a1_1).bind fun t468 => (dioramaref04_Add.j0 k (!t468) a0_0 a0_1 a1_0 a1_1)) else (dioramaref04_Add.j0 k true a0_0 a0_1 a1_0 a1_1)) = some (r1, r2, r3) := H
  have A7 := Aside0.mk A70
  clear A70
  by_cases c8 : t467 = true
  ·subst c8
   have H1 : ((dioramaref04_Valid.f k a1_0 a1_1).bind fun t468 => (dioramaref04_Add.j0 k (!t468) a0_0 a0_1 a1_0 a1_1)) = some (r1, r2, r3) := by rw [if_pos rfl] at H; exact H
   clear H
   have H := H1
   clear H1
   replace H := Option.bind_eq_some_iff.mp H
   obtain ⟨t468, A90, H⟩ := H
   replace H : (dioramaref04_Add.j0 k (!t468) a0_0 a0_1 a1_0 a1_1) = some (r1, r2, r3) := H
   have A9 := Aside0.mk A90
   clear A90
   have H' := Aside0.mk H
   clear H; have hnb10 := NB464_465.out; have hnc10 := NB465_464.out; have hnb11 := NB464_466.out; have hnc11 := NB466_464.out
   have hcz12_0 : w6.cell? ⟨gb464, 0, none⟩ = some (.int .i64 a0_0) := (blk_cell BK464.out 0).trans rfl
   have hcz12_1 : w6.cell? ⟨gb464, 1, none⟩ = some (.int .i64 a0_1) := (blk_cell BK464.out 1).trans rfl
   have hfz12_0 := blk_frozen BK464.out 0; have hfz12_1 := blk_frozen BK464.out 1
   go_wp2_with (first | ((with_reducible refine gate_callee (f := 20) rfl ?_); refine goesL_ (some 10) rfl rfl Tryd.func20 (by kernel_rfl) rfl #[.agg #[.int .i64 a0_0, .int .i64 a0_1]] rfl (by (try simp only [List.map_toArray, List.map_cons, List.map_nil]); first | done | rfl | (simp only [List.length_drop, List.length_take]; rfl)) ?_; (with_reducible refine (dioramaref04_Valid.calls k a0_0 a0_1 true _ A7.out).mono ?_); rintro e w13 ⟨rfl, hb⟩; refine ⟨_, rfl, ?_⟩; replace BK464 := up_ BK464 hb; replace BK465 := up_ BK465 hb; replace BK466 := up_ BK466 hb; replace HB := Aside0.mk (below_step bl_ hb); (try clear hb); (try clear hb2); (try clear hk); (try clear hi); have hnb14 := NB465_466.out; have hnc14 := NB466_465.out; have hcz15_0 : w13.cell? ⟨gb465, 0, none⟩ = some (.int .i64 a1_0) := (blk_cell BK465.out 0).trans rfl; have hcz15_1 : w13.cell? ⟨gb465, 1, none⟩ = some (.int .i64 a1_1) := (blk_cell BK465.out 1).trans rfl; have hfz15_0 := blk_frozen BK465.out 0; have hfz15_1 := blk_frozen BK465.out 1) | (go_at_call 20; (with_reducible refine (dioramaref04_Valid.calls k a1_0 a1_1 t468 _ A9.out).mono ?_); rintro e w16 ⟨rfl, hb⟩; replace BK464 := up_ BK464 hb; replace BK465 := up_ BK465 hb; replace BK466 := up_ BK466 hb; replace HB := Aside0.mk (below_step bl_ hb); (try clear hb); (try clear hb2); (try clear hk); (try clear hi)))
   go_meet
   case rel => exact ⟨_, (!t468), (by first | rfl | (simp; done) | (simp [*]; done)), H', ⟨by first | omega | exact Nat.le_refl _⟩, ⟨pk_⟩, ⟨pk_⟩, ⟨pk_⟩, ⟨bl_⟩⟩
  ·replace c8 := Bool.eq_false_iff.mpr c8
   subst c8
   have H1 : (dioramaref04_Add.j0 k true a0_0 a0_1 a1_0 a1_1) = some (r1, r2, r3) := by rw [if_neg (show ¬ (false = true) by decide)] at H; exact H
   clear H
   have H := H1
   clear H1
   have H' := Aside0.mk H
   clear H; have hnb17 := NB464_465.out; have hnc17 := NB465_464.out; have hnb18 := NB464_466.out; have hnc18 := NB466_464.out
   have hcz19_0 : w6.cell? ⟨gb464, 0, none⟩ = some (.int .i64 a0_0) := (blk_cell BK464.out 0).trans rfl
   have hcz19_1 : w6.cell? ⟨gb464, 1, none⟩ = some (.int .i64 a0_1) := (blk_cell BK464.out 1).trans rfl
   have hfz19_0 := blk_frozen BK464.out 0; have hfz19_1 := blk_frozen BK464.out 1
   go_wp2_with (first | ((with_reducible refine gate_callee (f := 20) rfl ?_); refine goesL_ (some 10) rfl rfl Tryd.func20 (by kernel_rfl) rfl #[.agg #[.int .i64 a0_0, .int .i64 a0_1]] rfl (by (try simp only [List.map_toArray, List.map_cons, List.map_nil]); first | done | rfl | (simp only [List.length_drop, List.length_take]; rfl)) ?_; (with_reducible refine (dioramaref04_Valid.calls k a0_0 a0_1 false _ A7.out).mono ?_); rintro e w20 ⟨rfl, hb⟩; refine ⟨_, rfl, ?_⟩; replace BK464 := up_ BK464 hb; replace BK465 := up_ BK465 hb; replace BK466 := up_ BK466 hb; replace HB := Aside0.mk (below_step bl_ hb); (try clear hb); (try clear hb2); (try clear hk); (try clear hi)))
   go_meet
   case rel => exact ⟨_, (true), (by first | rfl | (simp; done) | (simp [*]; done)), H', ⟨by first | omega | exact Nat.le_refl _⟩, ⟨pk_⟩, ⟨pk_⟩, ⟨pk_⟩, ⟨bl_⟩⟩
 case rest =>
  clear HC3
  obtain ⟨kq, x16_2, rfl, HA, HJ2, BK464, BK465, BK466, HB⟩ := hcut
  cases kq with
  | zero => exact absurd HA.out (by simp [dioramaref04_Add.j0])
  | succ kj2 =>
   have H := HA.out
   clear HA
   simp only [dioramaref04_Add.j0] at H
   by_cases c21 : x16_2 = true
   ·subst c21
    have H1 : (some (0, 0, 1)) = some (r1, r2, r3) := by rw [if_pos rfl] at H; exact H
    clear H
    have H := H1
    clear H1
    simp only [Option.some.injEq, Prod.mk.injEq] at H
    obtain ⟨rfl, rfl, rfl⟩ := H
    have hnb22 := NB466_464.out; have hnc22 := NB464_466.out; have hnb23 := NB466_465.out; have hnc23 := NB465_466.out
    have hcz24_0 : wc.cell? ⟨gb466, 0, none⟩ = some (.int .i64 0) := (blk_cell BK466.out 0).trans rfl
    have hcz24_1 : wc.cell? ⟨gb466, 1, none⟩ = some (.int .i64 0) := (blk_cell BK466.out 1).trans rfl
    have hfz24_0 := blk_frozen BK466.out 0; have hfz24_1 := blk_frozen BK466.out 1
    go_wp2
    refine bodyPost_ret (results_ct rfl _ _ gb466 24 #[.int .i64 0, .int .i64 0] (0, 0) _ rfl pk_ Tryd.underlying24 rfl (by kernel_rfl)) rfl ?_
    exact ⟨by first | rfl | (simp [errW_none, errW_some] <;> rfl) | (simp [*, errW_none, errW_some] <;> rfl), by repeat (first | (with_reducible first | exact HB.out | apply below_alloc | apply pw_below_drewN | apply below_drew1 | refine below_set ?_ GE464.out | refine below_set ?_ GE465.out | refine below_set ?_ GE466.out) | exact HB.out)⟩
   ·replace c21 := Bool.eq_false_iff.mpr c21
    subst c21
    have H1 : ((dioramaref04_Den.f a0_0 a0_1).bind fun t469 => ((dioramaref04_Size.f t469).bind fun t470 => ((dioramaref04_Den.f a1_0 a1_1).bind fun t471 => ((dioramaref04_Size.f t471).bind fun t472 => ((dioramaref04_Common.f kj2 t470 t472).bind fun t473 => ((dioramaref04_Den.f a0_0 a0_1).bind fun t474 => (if (wrap64 (t473)) = 0 then (none) else ((dioramaref04_Den.f a1_0 a1_1).bind fun t475 => ((dioramaref04_Make.f kj2 (wrap64 ((wrap64 (a0_0 * (wrap64 (Int.tdiv t475 (wrap64 (t473)))))) + (wrap64 (a1_0 * (wrap64 (Int.tdiv t474 (wrap64 (t473)))))))) (wrap64 ((wrap64 ((wrap64 (Int.tdiv t474 (wrap64 (t473)))) * (wrap64 (Int.tdiv t475 (wrap64 (t473)))))) * (wrap64 (t473))))).bind fun bt476 => (some (bt476.1, bt476.2.1, bt476.2.2))))))))))) = some (r1, r2, r3) := by rw [if_neg (show ¬ (false = true) by decide)] at H; exact H
    clear H
    have H := H1
    clear H1
    replace H := Option.bind_eq_some_iff.mp H
    obtain ⟨t469, A250, H⟩ := H
    replace H : ((dioramaref04_Size.f t469).bind fun t470 => ((dioramaref04_Den.f a1_0 a1_1).bind fun t471 => ((dioramaref04_Size.f t471).bind fun t472 => ((dioramaref04_Common.f kj2 t470 t472).bind fun t473 => ((dioramaref04_Den.f a0_0 a0_1).bind fun t474 => (if (wrap64 (t473)) = 0 then (none) else ((dioramaref04_Den.f a1_0 a1_1).bind fun t475 => ((dioramaref04_Make.f kj2 (wrap64 ((wrap64 (a0_0 * (wrap64 (Int.tdiv t475 (wrap64 (t473)))))) + (wrap64 (a1_0 * (wrap64 (Int.tdiv t474 (wrap64 (t473)))))))) (wrap64 ((wrap64 ((wrap64 (Int.tdiv t474 (wrap64 (t473)))) * (wrap64 (Int.tdiv t475 (wrap64 (t473)))))) * (wrap64 (t473))))).bind fun bt476 => (some (bt476.1, bt476.2.1, bt476.2.2)))))))))) = some (r1, r2, r3) := H
    have A25 := Aside0.mk A250
    clear A250
    replace H := Option.bind_eq_some_iff.mp H
    obtain ⟨t470, A260, H⟩ := H
    replace H : ((dioramaref04_Den.f a1_0 a1_1).bind fun t471 => ((dioramaref04_Size.f t471).bind fun t472 => ((dioramaref04_Common.f kj2 t470 t472).bind fun t473 => ((dioramaref04_Den.f a0_0 a0_1).bind fun t474 => (if (wrap64 (t473)) = 0 then (none) else ((dioramaref04_Den.f a1_0 a1_1).bind fun t475 => ((dioramaref04_Make.f kj2 (wrap64 ((wrap64 (a0_0 * (wrap64 (Int.tdiv t475 (wrap64 (t473)))))) + (wrap64 (a1_0 * (wrap64 (Int.tdiv t474 (wrap64 (t473)))))))) (wrap64 ((wrap64 ((wrap64 (Int.tdiv t474 (wrap64 (t473)))) * (wrap64 (Int.tdiv t475 (wrap64 (t473)))))) * (wrap64 (t473))))).bind fun bt476 => (some (bt476.1, bt476.2.1, bt476.2.2))))))))) = some (r1, r2, r3) := H
    have A26 := Aside0.mk A260
    clear A260
    replace H := Option.bind_eq_some_iff.mp H
    obtain ⟨t471, A270, H⟩ := H
    replace H : ((dioramaref04_Size.f t471).bind fun t472 => ((dioramaref04_Common.f kj2 t470 t472).bind fun t473 => ((dioramaref04_Den.f a0_0 a0_1).bind fun t474 => (if (wrap64 (t473)) = 0 then (none) else ((dioramaref04_Den.f a1_0 a1_1).bind fun t475 => ((dioramaref04_Make.f kj2 (wrap64 ((wrap64 (a0_0 * (wrap64 (Int.tdiv t475 (wrap64 (t473)))))) + (wrap64 (a1_0 * (wrap64 (Int.tdiv t474 (wrap64 (t473)))))))) (wrap64 ((wrap64 ((wrap64 (Int.tdiv t474 (wrap64 (t473)))) * (wrap64 (Int.tdiv t475 (wrap64 (t473)))))) * (wrap64 (t473))))).bind fun bt476 => (some (bt476.1, bt476.2.1, bt476.2.2)))))))) = some (r1, r2, r3) := H
    have A27 := Aside0.mk A270
    clear A270
    replace H := Option.bind_eq_some_iff.mp H
    obtain ⟨t472, A280, H⟩ := H
    replace H : ((dioramaref04_Common.f kj2 t470 t472).bind fun t473 => ((dioramaref04_Den.f a0_0 a0_1).bind fun t474 => (if (wrap64 (t473)) = 0 then (none) else ((dioramaref04_Den.f a1_0 a1_1).bind fun t475 => ((dioramaref04_Make.f kj2 (wrap64 ((wrap64 (a0_0 * (wrap64 (Int.tdiv t475 (wrap64 (t473)))))) + (wrap64 (a1_0 * (wrap64 (Int.tdiv t474 (wrap64 (t473)))))))) (wrap64 ((wrap64 ((wrap64 (Int.tdiv t474 (wrap64 (t473)))) * (wrap64 (Int.tdiv t475 (wrap64 (t473)))))) * (wrap64 (t473))))).bind fun bt476 => (some (bt476.1, bt476.2.1, bt476.2.2))))))) = some (r1, r2, r3) := H
    have A28 := Aside0.mk A280
    clear A280
    replace H := Option.bind_eq_some_iff.mp H
    obtain ⟨t473, A290, H⟩ := H
    replace H : ((dioramaref04_Den.f a0_0 a0_1).bind fun t474 => (if (wrap64 (t473)) = 0 then (none) else ((dioramaref04_Den.f a1_0 a1_1).bind fun t475 => ((dioramaref04_Make.f kj2 (wrap64 ((wrap64 (a0_0 * (wrap64 (Int.tdiv t475 (wrap64 (t473)))))) + (wrap64 (a1_0 * (wrap64 (Int.tdiv t474 (wrap64 (t473)))))))) (wrap64 ((wrap64 ((wrap64 (Int.tdiv t474 (wrap64 (t473)))) * (wrap64 (Int.tdiv t475 (wrap64 (t473)))))) * (wrap64 (t473))))).bind fun bt476 => (some (bt476.1, bt476.2.1, bt476.2.2)))))) = some (r1, r2, r3) := H
    have A29 := Aside0.mk A290
    clear A290
    replace H := Option.bind_eq_some_iff.mp H
    obtain ⟨t474, A300, H⟩ := H
    replace H : (if (wrap64 (t473)) = 0 then (none) else ((dioramaref04_Den.f a1_0 a1_1).bind fun t475 => ((dioramaref04_Make.f kj2 (wrap64 ((wrap64 (a0_0 * (wrap64 (Int.tdiv t475 (wrap64 (t473)))))) + (wrap64 (a1_0 * (wrap64 (Int.tdiv t474 (wrap64 (t473)))))))) (wrap64 ((wrap64 ((wrap64 (Int.tdiv t474 (wrap64 (t473)))) * (wrap64 (Int.tdiv t475 (wrap64 (t473)))))) * (wrap64 (t473))))).bind fun bt476 => (some (bt476.1, bt476.2.1, bt476.2.2))))) = some (r1, r2, r3) := H
    have A30 := Aside0.mk A300
    clear A300
    by_cases c31 : (wrap64 (t473)) = 0
    ·rw [if_pos c31] at H
     exact absurd H (by simp)
    ·rw [if_neg c31] at H
     have c31b0 : ((wrap64 (t473)) == 0) = false := beq_eq_false_iff_ne.mpr c31
     have c31b1 : ((wrap64 (t473)) != 0) = true := bne_iff_ne.mpr c31
     replace H := Option.bind_eq_some_iff.mp H
     obtain ⟨t475, A320, H⟩ := H
     replace H : ((dioramaref04_Make.f kj2 (wrap64 ((wrap64 (a0_0 * (wrap64 (Int.tdiv t475 (wrap64 (t473)))))) + (wrap64 (a1_0 * (wrap64 (Int.tdiv t474 (wrap64 (t473)))))))) (wrap64 ((wrap64 ((wrap64 (Int.tdiv t474 (wrap64 (t473)))) * (wrap64 (Int.tdiv t475 (wrap64 (t473)))))) * (wrap64 (t473))))).bind fun bt476 => (some (bt476.1, bt476.2.1, bt476.2.2))) = some (r1, r2, r3) := H
     have A32 := Aside0.mk A320
     clear A320
     replace H := Option.bind_eq_some_iff.mp H
     obtain ⟨⟨t476, t477, t478⟩, A330, H⟩ := H
     replace H : (some (t476, t477, t478)) = some (r1, r2, r3) := H
     have A33 := Aside0.mk A330
     clear A330
     simp only [Option.some.injEq, Prod.mk.injEq] at H
     obtain ⟨rfl, rfl, rfl⟩ := H
     try go_wp2
     have n0_ := Aside0.mk (blk_drew BK464.out)
     have n1_ := Aside0.mk (blk_drew BK465.out)
     have n2_ := Aside0.mk (blk_drew BK466.out)
     have n3_ := Aside0.mk (below_drew1 HB.out)
     clear BK464; clear BK465; clear BK466; clear HB
     have BK464 := n0_
     have BK465 := n1_
     have BK466 := n2_
     have HB := n3_
     clear n0_ n1_ n2_ n3_
     refine start_ (n := 9) (S := fun w' => w'.cell? ⟨gb464, 0, none⟩ = some (.int .i64 a0_0) ∧ w'.cell? ⟨gb464, 1, none⟩ = some (.int .i64 a0_1) ∧ w'.cell? ⟨gb465, 0, none⟩ = some (.int .i64 a1_0) ∧ w'.cell? ⟨gb465, 1, none⟩ = some (.int .i64 a1_1)) (ds := []) #[false, false, false, false, false, false, false, false, false] (by kernel_rfl) rfl rfl ⟨(blk_cell BK464.out 0).trans rfl, (blk_cell BK464.out 1).trans rfl, (blk_cell BK465.out 0).trans rfl, (blk_cell BK465.out 1).trans rfl⟩ (fun hHeld => ?_); refine with_tabW dioramaref04_Add.tab3 dioramaref04_Add.bits3 (fun HT_ HW_ => ?_)
     generalize wc.drew = w34 at BK464 BK465 BK466 HB hHeld ⊢
     refine take_ (i := 0) (N := some 18) (v := ?_) (a' := ?_) #[true, false, false, false, false, false, false, false, false] rfl rfl (take_ofW HT_.out HW_.out (by kernel_rfl)) (fun _ _ _ h => h) (Or.inl ⟨by rfl, ?_⟩) hHeld ?_ ?_
     rotate_left
     ·rintro w' ⟨s0, s1, s2, s3⟩
      go_simp
      with_reducible rfl
     rotate_left
     ·simp only [Act.put, List.setIfInBounds_toArray, List.set_cons_zero, List.set_cons_succ, i64_w, i32_w]
      rfl
     refine take_ (i := 3) (N := some 21) (v := ?_) (a' := ?_) #[true, false, false, true, false, false, false, false, false] rfl rfl (take_ofW HT_.out HW_.out (by kernel_rfl)) (fun _ _ _ h => h) (Or.inl ⟨by rfl, ?_⟩) hHeld ?_ ?_
     rotate_left
     ·rintro w' ⟨s0, s1, s2, s3⟩
      go_simp
      with_reducible rfl
     rotate_left
     ·simp only [Act.put, List.setIfInBounds_toArray, List.set_cons_zero, List.set_cons_succ, i64_w, i32_w]
      rfl
     refine one_ (i := 1) (N := some 19) #[true, true, false, true, false, false, false, false, false] rfl rfl (one_of HT_.out (by kernel_rfl)) (by decide) (fun K hK => ?_)
     refine goes_ Tryd.func37 (by kernel_rfl) rfl #[.agg #[.int .i64 a0_0, .int .i64 a0_1]] (by rfl) rfl rfl (by (try simp only [List.map_toArray, List.map_cons, List.map_nil]); first | done | rfl | (simp only [List.length_drop, List.length_take]; rfl)) ?_
     with_reducible refine (dioramaref04_Den.calls a0_0 a0_1 t469 _ A25.out).mono ?_
     rintro e w35 ⟨rfl, hb⟩
     refine ⟨_, rfl, ?_⟩
     have n0_ := Aside0.mk (blk_below (g := gb464) (o := .cells #[.int .i64 a0_0, .int .i64 a0_1] 24 (0, 0)) pk_ hb)
     have n1_ := Aside0.mk (blk_below (g := gb465) (o := .cells #[.int .i64 a1_0, .int .i64 a1_1] 24 (0, 0)) pk_ hb)
     have n2_ := Aside0.mk (blk_below (g := gb466) (o := .cells #[.int .i64 0, .int .i64 0] 24 (0, 0)) pk_ hb)
     have n3_ := Aside0.mk (below_step bl_ hb)
     clear BK464; clear BK465; clear BK466; clear HB
     have BK464 := n0_
     have BK465 := n1_
     have BK466 := n2_
     have HB := n3_
     clear n0_ n1_ n2_ n3_
     (try clear hb); (try clear hb2); (try clear hk); (try clear hi)
     refine hK.out _ _ ⟨(blk_cell BK464.out 0).trans rfl, (blk_cell BK464.out 1).trans rfl, (blk_cell BK465.out 0).trans rfl, (blk_cell BK465.out 1).trans rfl⟩ (fun hHeld => ?_)
     clear hK K
     refine norm_ (a' := ?_) ?_ ?_
     rotate_left
     ·show Act.put _ (some 19) _ = _
      simp only [Act.put, List.setIfInBounds_toArray, List.set_cons_zero, List.set_cons_succ, i64_w, i32_w]
      rfl
     refine one_ (i := 2) (N := some 20) #[true, true, true, true, false, false, false, false, false] rfl rfl (one_of HT_.out (by kernel_rfl)) (by decide) (fun K hK => ?_)
     refine goes_ Tryd.func35 (by kernel_rfl) rfl #[.int .i64 t469] (by rfl) rfl rfl (by (try simp only [List.map_toArray, List.map_cons, List.map_nil]); first | done | rfl | (simp only [List.length_drop, List.length_take]; rfl)) ?_
     with_reducible refine (dioramaref04_Size.calls t469 t470 _ A26.out).mono ?_
     rintro e w' ⟨rfl, ⟨nd, rfl⟩⟩
     refine ⟨_, rfl, ?_⟩
     refine hK.out _ _ ⟨(blk_cell BK464.out 0).trans rfl, (blk_cell BK464.out 1).trans rfl, (blk_cell BK465.out 0).trans rfl, (blk_cell BK465.out 1).trans rfl⟩ (fun hHeld => ?_)
     clear hK K
     refine norm_ (a' := ?_) ?_ ?_
     rotate_left
     ·show Act.put _ (some 20) _ = _
      simp only [Act.put, List.setIfInBounds_toArray, List.set_cons_zero, List.set_cons_succ, i64_w, i32_w]
      rfl
     refine one_ (i := 4) (N := some 22) #[true, true, true, true, true, false, false, false, false] rfl rfl (one_of HT_.out (by kernel_rfl)) (by decide) (fun K hK => ?_)
     refine goes_ Tryd.func37 (by kernel_rfl) rfl #[.agg #[.int .i64 a1_0, .int .i64 a1_1]] (by rfl) rfl rfl (by (try simp only [List.map_toArray, List.map_cons, List.map_nil]); first | done | rfl | (simp only [List.length_drop, List.length_take]; rfl)) ?_
     with_reducible refine (dioramaref04_Den.calls a1_0 a1_1 t471 _ A27.out).mono ?_
     rintro e w36 ⟨rfl, hb⟩
     refine ⟨_, rfl, ?_⟩
     have n0_ := Aside0.mk (blk_below (g := gb464) (o := .cells #[.int .i64 a0_0, .int .i64 a0_1] 24 (0, 0)) pk_ hb)
     have n1_ := Aside0.mk (blk_below (g := gb465) (o := .cells #[.int .i64 a1_0, .int .i64 a1_1] 24 (0, 0)) pk_ hb)
     have n2_ := Aside0.mk (blk_below (g := gb466) (o := .cells #[.int .i64 0, .int .i64 0] 24 (0, 0)) pk_ hb)
     have n3_ := Aside0.mk (below_step bl_ hb)
     clear BK464; clear BK465; clear BK466; clear HB
     have BK464 := n0_
     have BK465 := n1_
     have BK466 := n2_
     have HB := n3_
     clear n0_ n1_ n2_ n3_
     (try clear hb); (try clear hb2); (try clear hk); (try clear hi)
     refine hK.out _ _ ⟨(blk_cell BK464.out 0).trans rfl, (blk_cell BK464.out 1).trans rfl, (blk_cell BK465.out 0).trans rfl, (blk_cell BK465.out 1).trans rfl⟩ (fun hHeld => ?_)
     clear hK K
     refine norm_ (a' := ?_) ?_ ?_
     rotate_left
     ·show Act.put _ (some 22) _ = _
      simp only [Act.put, List.setIfInBounds_toArray, List.set_cons_zero, List.set_cons_succ, i64_w, i32_w]
      rfl
     refine one_ (i := 5) (N := some 23) #[true, true, true, true, true, true, false, false, false] rfl rfl (one_of HT_.out (by kernel_rfl)) (by decide) (fun K hK => ?_)
     refine goes_ Tryd.func35 (by kernel_rfl) rfl #[.int .i64 t471] (by rfl) rfl rfl (by (try simp only [List.map_toArray, List.map_cons, List.map_nil]); first | done | rfl | (simp only [List.length_drop, List.length_take]; rfl)) ?_
     with_reducible refine (dioramaref04_Size.calls t471 t472 _ A28.out).mono ?_
     rintro e w' ⟨rfl, ⟨nd, rfl⟩⟩
     refine ⟨_, rfl, ?_⟩
     refine hK.out _ _ ⟨(blk_cell BK464.out 0).trans rfl, (blk_cell BK464.out 1).trans rfl, (blk_cell BK465.out 0).trans rfl, (blk_cell BK465.out 1).trans rfl⟩ (fun hHeld => ?_)
     clear hK K
     refine norm_ (a' := ?_) ?_ ?_
     rotate_left
     ·show Act.put _ (some 23) _ = _
      simp only [Act.put, List.setIfInBounds_toArray, List.set_cons_zero, List.set_cons_succ, i64_w, i32_w]
      rfl
     refine one_ (i := 6) (N := some 24) #[true, true, true, true, true, true, true, false, false] rfl rfl (one_of HT_.out (by kernel_rfl)) (by decide) (fun K hK => ?_)
     refine goes_ Tryd.func34 (by kernel_rfl) rfl #[.int .u64 t470, .int .u64 t472] (by rfl) rfl rfl (by (try simp only [List.map_toArray, List.map_cons, List.map_nil]); first | done | rfl | (simp only [List.length_drop, List.length_take]; rfl)) ?_
     with_reducible refine (dioramaref04_Common.calls kj2 t470 t472 t473 _ A29.out).mono ?_
     rintro e w' ⟨rfl, ⟨nd, rfl⟩⟩
     refine ⟨_, rfl, ?_⟩
     refine hK.out _ _ ⟨(blk_cell BK464.out 0).trans rfl, (blk_cell BK464.out 1).trans rfl, (blk_cell BK465.out 0).trans rfl, (blk_cell BK465.out 1).trans rfl⟩ (fun hHeld => ?_)
     clear hK K
     refine norm_ (a' := ?_) ?_ ?_
     rotate_left
     ·show Act.put _ (some 24) _ = _
      simp only [Act.put, List.setIfInBounds_toArray, List.set_cons_zero, List.set_cons_succ, i64_w, i32_w]
      rfl
     refine pure_ (i := 7) (N := some 25) (v := ?_) (a' := ?_) #[true, true, true, true, true, true, true, true, false] rfl rfl (any_of HT_.out (by kernel_rfl)) (fun _ _ _ h => h) (Or.inl ⟨by rfl, ?_⟩) ?_ ?_
     rotate_left
     ·intro w'
      go_simp
      with_reducible rfl
     rotate_left
     ·simp only [Act.put, List.setIfInBounds_toArray, List.set_cons_zero, List.set_cons_succ, i64_w, i32_w]
      rfl
     refine pure_ (i := 8) (N := some 6) (v := ?_) (a' := ?_) #[true, true, true, true, true, true, true, true, true] rfl rfl (any_of HT_.out (by kernel_rfl)) (fun _ _ _ h => h) (Or.inl ⟨by rfl, ?_⟩) ?_ ?_
     rotate_left
     ·intro w'
      go_simp
      with_reducible rfl
     rotate_left
     ·simp only [Act.put, List.setIfInBounds_toArray, List.set_cons_zero, List.set_cons_succ, i64_w, i32_w]
      rfl
     refine done_ (done_of HT_.out (by kernel_rfl)) ?_
     have hnb37 := NB464_465.out; have hnc37 := NB465_464.out; have hnb38 := NB464_466.out; have hnc38 := NB466_464.out
     have hcz39_0 : w36.cell? ⟨gb464, 0, none⟩ = some (.int .i64 a0_0) := (blk_cell BK464.out 0).trans rfl
     have hcz39_1 : w36.cell? ⟨gb464, 1, none⟩ = some (.int .i64 a0_1) := (blk_cell BK464.out 1).trans rfl
     have hfz39_0 := blk_frozen BK464.out 0; have hfz39_1 := blk_frozen BK464.out 1
     try go_wp2_with (first | ((with_reducible refine gate_callee (f := 37) rfl ?_); refine goesL_ (some 27) rfl rfl Tryd.func37 (by kernel_rfl) rfl #[.agg #[.int .i64 a0_0, .int .i64 a0_1]] rfl (by (try simp only [List.map_toArray, List.map_cons, List.map_nil]); first | done | rfl | (simp only [List.length_drop, List.length_take]; rfl)) ?_; (with_reducible refine (dioramaref04_Den.calls a0_0 a0_1 t474 _ A30.out).mono ?_); rintro e w40 ⟨rfl, hb⟩; refine ⟨_, rfl, ?_⟩; replace BK464 := up_ BK464 hb; replace BK465 := up_ BK465 hb; replace BK466 := up_ BK466 hb; replace HB := Aside0.mk (below_step bl_ hb); (try clear hb); (try clear hb2); (try clear hk); (try clear hi); have hnb41 := NB465_466.out; have hnc41 := NB466_465.out; have hcz42_0 : w40.cell? ⟨gb465, 0, none⟩ = some (.int .i64 a1_0) := (blk_cell BK465.out 0).trans rfl; have hcz42_1 : w40.cell? ⟨gb465, 1, none⟩ = some (.int .i64 a1_1) := (blk_cell BK465.out 1).trans rfl; have hfz42_0 := blk_frozen BK465.out 0; have hfz42_1 := blk_frozen BK465.out 1) | ((with_reducible refine gate_callee (f := 37) rfl ?_); refine goesL_ (some 31) rfl rfl Tryd.func37 (by kernel_rfl) rfl #[.agg #[.int .i64 a1_0, .int .i64 a1_1]] rfl (by (try simp only [List.map_toArray, List.map_cons, List.map_nil]); first | done | rfl | (simp only [List.length_drop, List.length_take]; rfl)) ?_; (with_reducible refine (dioramaref04_Den.calls a1_0 a1_1 t475 _ A32.out).mono ?_); rintro e w43 ⟨rfl, hb⟩; refine ⟨_, rfl, ?_⟩; replace BK464 := up_ BK464 hb; replace BK465 := up_ BK465 hb; replace BK466 := up_ BK466 hb; replace HB := Aside0.mk (below_step bl_ hb); (try clear hb); (try clear hb2); (try clear hk); (try clear hi); have hcz44_0 : w43.cell? ⟨gb464, 0, none⟩ = some (.int .i64 a0_0) := (blk_cell BK464.out 0).trans rfl; have hcz44_1 : w43.cell? ⟨gb464, 1, none⟩ = some (.int .i64 a0_1) := (blk_cell BK464.out 1).trans rfl; have hfz44_0 := blk_frozen BK464.out 0; have hfz44_1 := blk_frozen BK464.out 1; have hcz45_0 : w43.cell? ⟨gb465, 0, none⟩ = some (.int .i64 a1_0) := (blk_cell BK465.out 0).trans rfl; have hcz45_1 : w43.cell? ⟨gb465, 1, none⟩ = some (.int .i64 a1_1) := (blk_cell BK465.out 1).trans rfl; have hfz45_0 := blk_frozen BK465.out 0; have hfz45_1 := blk_frozen BK465.out 1) | ((with_reducible refine gate_callee (f := 18) rfl ?_); refine goesL_ (some 48) rfl rfl Tryd.func18 (by kernel_rfl) rfl #[.int .i64 (wrap64 ((wrap64 (a0_0 * (wrap64 (Int.tdiv t475 (wrap64 (t473)))))) + (wrap64 (a1_0 * (wrap64 (Int.tdiv t474 (wrap64 (t473)))))))), .int .i64 (wrap64 ((wrap64 ((wrap64 (Int.tdiv t474 (wrap64 (t473)))) * (wrap64 (Int.tdiv t475 (wrap64 (t473)))))) * (wrap64 (t473))))] rfl (by (try simp only [List.map_toArray, List.map_cons, List.map_nil]); first | done | rfl | (simp only [List.length_drop, List.length_take]; rfl)) ?_; (with_reducible refine (dioramaref04_Make.calls kj2 (wrap64 ((wrap64 (a0_0 * (wrap64 (Int.tdiv t475 (wrap64 (t473)))))) + (wrap64 (a1_0 * (wrap64 (Int.tdiv t474 (wrap64 (t473)))))))) (wrap64 ((wrap64 ((wrap64 (Int.tdiv t474 (wrap64 (t473)))) * (wrap64 (Int.tdiv t475 (wrap64 (t473)))))) * (wrap64 (t473)))) t476 t477 t478 _ A33.out).mono ?_); rintro e w46 ⟨rfl, hb⟩; refine ⟨_, rfl, ?_⟩; replace BK464 := up_ BK464 hb; replace BK465 := up_ BK465 hb; replace BK466 := up_ BK466 hb; replace HB := Aside0.mk (below_step bl_ hb); (try clear hb); (try clear hb2); (try clear hk); (try clear hi); have hcz47_0 : w46.cell? ⟨gb466, 0, none⟩ = some (.int .i64 0) := (blk_cell BK466.out 0).trans rfl; have hcz47_1 : w46.cell? ⟨gb466, 1, none⟩ = some (.int .i64 0) := (blk_cell BK466.out 1).trans rfl; have hfz47_0 := blk_frozen BK466.out 0; have hfz47_1 := blk_frozen BK466.out 1))
     refine bodyPost_ret (results_ct rfl _ _ gb466 24 #[.int .i64 t476, .int .i64 t477] (0, 0) _ rfl pk_ Tryd.underlying24 rfl (by kernel_rfl)) rfl ?_
     exact ⟨by first | rfl | (simp [errW_none, errW_some] <;> rfl) | (simp [*, errW_none, errW_some] <;> rfl), by repeat (first | (with_reducible first | exact HB.out | apply below_alloc | apply pw_below_drewN | apply below_drew1 | refine below_set ?_ GE464.out | refine below_set ?_ GE465.out | refine below_set ?_ GE466.out) | exact HB.out)⟩

/-! ### dioramaref04_Sub: function 43 -/
def dioramaref04_Sub.f (k : Nat) (a0_0 : Int) (a0_1 : Int) (a1_0 : Int) (a1_1 : Int) : Option (Int × Int × Int) := (dioramaref04_Valid.f k a0_0 a0_1).bind fun t482 => (if t482 = true then ((dioramaref04_Valid.f k a1_0 a1_1).bind fun t483 => (if t483 = true then ((dioramaref04_Add.f k a0_0 a0_1 (wrap64 (-a1_0)) a1_1).bind fun bt484 => (some (bt484.1, bt484.2.1, bt484.2.2))) else (some (0, 0, 1)))) else (some (0, 0, 1)))
theorem dioramaref04_Sub.mono : ∀ a0 a1 a2 a3 k, LeO (dioramaref04_Sub.f k a0 a1 a2 a3) (dioramaref04_Sub.f (k + 1) a0 a1 a2 a3) := by
 intro a0 a1 a2 a3 k
 unfold dioramaref04_Sub.f
 repeat' first
   | (with_reducible exact dioramaref04_Add.mono _ _ _ _ _)
   | (with_reducible exact dioramaref04_Valid.mono _ _ _)
   | (with_reducible exact LeO.refl _)
   | (with_reducible exact LeO.none _)
   | (with_reducible refine LeO.ite ?_ ?_)
   | (with_reducible refine LeO.bind ?_ (fun _ => ?_))
   | exact dioramaref04_Add.mono _ _ _ _ _
   | exact dioramaref04_Valid.mono _ _ _
   | exact LeO.none _
   | refine LeO.ite ?_ ?_
   | refine LeO.bind ?_ (fun _ => ?_)
set_option maxHeartbeats 8000000 in
set_option maxRecDepth 100000 in
theorem dioramaref04_Sub.calls (k : Nat) (a0_0 : Int) (a0_1 : Int) (a1_0 : Int) (a1_1 : Int) (r1 : Int) (r2 : Int) (r3 : Int) (w : World) (h : dioramaref04_Sub.f k a0_0 a0_1 a1_0 a1_1 = some (r1, r2, r3)) :
  Calls Tryd.prog 43 #[.agg #[.int .i64 a0_0, .int .i64 a0_1], .agg #[.int .i64 a1_0, .int .i64 a1_1]] w fun e w' => e = .returned (.tuple #[.agg #[.int .i64 r1, .int .i64 r2], .int .i64 r3]) ∧ Below w.heap.size w w' := by
 have hu24 := Tryd.underlying24
 have HB := Aside0.mk (Below.refl w.heap.size w)
 have H : ((dioramaref04_Valid.f k a0_0 a0_1).bind fun t482 => (if t482 = true then ((dioramaref04_Valid.f k a1_0 a1_1).bind fun t483 => (if t483 = true then ((dioramaref04_Add.f k a0_0 a0_1 (wrap64 (-a1_0)) a1_1).bind fun bt484 => (some (bt484.1, bt484.2.1, bt484.2.2))) else (some (0, 0, 1)))) else (some (0, 0, 1)))) = some (r1, r2, r3) := h
 clear h
 replace H := Option.bind_eq_some_iff.mp H
 obtain ⟨t482, A30, H⟩ := H
 replace H : (if t482 = true then ((dioramaref04_Valid.f k a1_0 a1_1).bind fun t483 => (if t483 = true then ((dioramaref04_Add.f k a0_0 a0_1 (wrap64 (-a1_0)) a1_1).bind fun bt484 => (some (bt484.1, bt484.2.1, bt484.2.2))) else (some (0, 0, 1)))) else (some (0, 0, 1))) = some (r1, r2, r3) := H
 have A3 := Aside0.mk A30
 clear A30
 by_cases c4 : t482 = true
 ·subst c4
  have H1 : ((dioramaref04_Valid.f k a1_0 a1_1).bind fun t483 => (if t483 = true then ((dioramaref04_Add.f k a0_0 a0_1 (wrap64 (-a1_0)) a1_1).bind fun bt484 => (some (bt484.1, bt484.2.1, bt484.2.2))) else (some (0, 0, 1)))) = some (r1, r2, r3) := by rw [if_pos rfl] at H; exact H
  clear H
  have H := H1
  clear H1
  replace H := Option.bind_eq_some_iff.mp H
  obtain ⟨t483, A50, H⟩ := H
  replace H : (if t483 = true then ((dioramaref04_Add.f k a0_0 a0_1 (wrap64 (-a1_0)) a1_1).bind fun bt484 => (some (bt484.1, bt484.2.1, bt484.2.2))) else (some (0, 0, 1))) = some (r1, r2, r3) := H
  have A5 := Aside0.mk A50
  clear A50
  by_cases c6 : t483 = true
  ·subst c6
   have H1 : ((dioramaref04_Add.f k a0_0 a0_1 (wrap64 (-a1_0)) a1_1).bind fun bt484 => (some (bt484.1, bt484.2.1, bt484.2.2))) = some (r1, r2, r3) := by rw [if_pos rfl] at H; exact H
   clear H
   have H := H1
   clear H1
   replace H := Option.bind_eq_some_iff.mp H
   obtain ⟨⟨t484, t485, t486⟩, A70, H⟩ := H
   replace H : (some (t484, t485, t486)) = some (r1, r2, r3) := H
   have A7 := Aside0.mk A70
   clear A70
   simp only [Option.some.injEq, Prod.mk.injEq] at H
   obtain ⟨rfl, rfl, rfl⟩ := H
   go_enter Tryd.func43, Tryd.ntmps43
   go_wp2_with (first | ((with_reducible refine gate_dst (N := 2) rfl ?_); refine box_event ?hg (N := 2) ?hd (cs := #[.int .i64 a0_0, .int .i64 a0_1]) (t := 24) ?hr ?_; (case hd => rfl); (case hg => rfl); (case hr => first | (go_simp; done) | (go_simp; rfl)); intro gb479 hg w8 hbox hb; have BK479 := Aside0.mk (hbox); have GW479 := gw_ (w := w) hg; have GE479 := gw_ (w := w) hg; replace HB := Aside0.mk (below_step bl_ hb); clear hb hbox hg) | ((with_reducible refine gate_dst (N := 3) rfl ?_); refine box_event ?hg (N := 3) ?hd (cs := #[.int .i64 a1_0, .int .i64 a1_1]) (t := 24) ?hr ?_; (case hd => rfl); (case hg => rfl); (case hr => first | (go_simp; done) | (go_simp; rfl)); intro gb480 hg w9 hbox hb; have BK480 := Aside0.mk (hbox); have GW480 := gw_ (w := w) hg; have GE480 := gw_ (w := w) hg; have NB479_480 := nl_ BK479 hg; have NB480_479 := ng_ BK479 hg; replace BK479 := up_ BK479 hb; replace HB := Aside0.mk (below_step bl_ hb); clear hb hbox hg) | ((with_reducible refine gate_dst (N := 4) rfl ?_); refine box_event ?hg (N := 4) ?hd (cs := #[.int .i64 0, .int .i64 0]) (t := 24) ?hr ?_; (case hd => rfl); (case hg => rfl); (case hr => first | (go_simp; done) | (go_simp; rfl)); intro gb481 hg w10 hbox hb; have BK481 := Aside0.mk (hbox); have GW481 := gw_ (w := w) hg; have GE481 := gw_ (w := w) hg; have NB479_481 := nl_ BK479 hg; have NB481_479 := ng_ BK479 hg; have NB480_481 := nl_ BK480 hg; have NB481_480 := ng_ BK480 hg; replace BK479 := up_ BK479 hb; replace BK480 := up_ BK480 hb; replace HB := Aside0.mk (below_step bl_ hb); clear hb hbox hg; have hnb11 := NB479_480.out; have hnc11 := NB480_479.out; have hnb12 := NB479_481.out; have hnc12 := NB481_479.out; have hcz13_0 : w10.cell? ⟨gb479, 0, none⟩ = some (.int .i64 a0_0) := (blk_cell BK479.out 0).trans rfl; have hcz13_1 : w10.cell? ⟨gb479, 1, none⟩ = some (.int .i64 a0_1) := (blk_cell BK479.out 1).trans rfl; have hfz13_0 := blk_frozen BK479.out 0; have hfz13_1 := blk_frozen BK479.out 1) | ((with_reducible refine gate_callee (f := 20) rfl ?_); refine goesL_ (some 7) rfl rfl Tryd.func20 (by kernel_rfl) rfl #[.agg #[.int .i64 a0_0, .int .i64 a0_1]] rfl (by (try simp only [List.map_toArray, List.map_cons, List.map_nil]); first | done | rfl | (simp only [List.length_drop, List.length_take]; rfl)) ?_; (with_reducible refine (dioramaref04_Valid.calls k a0_0 a0_1 true _ A3.out).mono ?_); rintro e w14 ⟨rfl, hb⟩; refine ⟨_, rfl, ?_⟩; replace BK479 := up_ BK479 hb; replace BK480 := up_ BK480 hb; replace BK481 := up_ BK481 hb; replace HB := Aside0.mk (below_step bl_ hb); (try clear hb); (try clear hb2); (try clear hk); (try clear hi); have hnb15 := NB480_481.out; have hnc15 := NB481_480.out; have hcz16_0 : w14.cell? ⟨gb480, 0, none⟩ = some (.int .i64 a1_0) := (blk_cell BK480.out 0).trans rfl; have hcz16_1 : w14.cell? ⟨gb480, 1, none⟩ = some (.int .i64 a1_1) := (blk_cell BK480.out 1).trans rfl; have hfz16_0 := blk_frozen BK480.out 0; have hfz16_1 := blk_frozen BK480.out 1) | (go_at_call 20; (with_reducible refine (dioramaref04_Valid.calls k a1_0 a1_1 true _ A5.out).mono ?_); rintro e w17 ⟨rfl, hb⟩; replace BK479 := up_ BK479 hb; replace BK480 := up_ BK480 hb; replace BK481 := up_ BK481 hb; replace HB := Aside0.mk (below_step bl_ hb); (try clear hb); (try clear hb2); (try clear hk); (try clear hi); have hcz18_0 : w17.cell? ⟨gb479, 0, none⟩ = some (.int .i64 a0_0) := (blk_cell BK479.out 0).trans rfl; have hcz18_1 : w17.cell? ⟨gb479, 1, none⟩ = some (.int .i64 a0_1) := (blk_cell BK479.out 1).trans rfl; have hfz18_0 := blk_frozen BK479.out 0; have hfz18_1 := blk_frozen BK479.out 1; have hcz19_0 : w17.cell? ⟨gb480, 0, none⟩ = some (.int .i64 a1_0) := (blk_cell BK480.out 0).trans rfl; have hcz19_1 : w17.cell? ⟨gb480, 1, none⟩ = some (.int .i64 a1_1) := (blk_cell BK480.out 1).trans rfl; have hfz19_0 := blk_frozen BK480.out 0; have hfz19_1 := blk_frozen BK480.out 1) | ((with_reducible refine gate_callee (f := 42) rfl ?_); refine goesL_ (some 22) rfl rfl Tryd.func42 (by kernel_rfl) rfl #[.agg #[.int .i64 a0_0, .int .i64 a0_1], .agg #[.int .i64 (wrap64 (-a1_0)), .int .i64 a1_1]] rfl (by (try simp only [List.map_toArray, List.map_cons, List.map_nil]); first | done | rfl | (simp only [List.length_drop, List.length_take]; rfl)) ?_; (with_reducible refine (dioramaref04_Add.calls k a0_0 a0_1 (wrap64 (-a1_0)) a1_1 t484 t485 t486 _ A7.out).mono ?_); rintro e w20 ⟨rfl, hb⟩; refine ⟨_, rfl, ?_⟩; replace BK479 := up_ BK479 hb; replace BK480 := up_ BK480 hb; replace BK481 := up_ BK481 hb; replace HB := Aside0.mk (below_step bl_ hb); (try clear hb); (try clear hb2); (try clear hk); (try clear hi); have hcz21_0 : w20.cell? ⟨gb481, 0, none⟩ = some (.int .i64 0) := (blk_cell BK481.out 0).trans rfl; have hcz21_1 : w20.cell? ⟨gb481, 1, none⟩ = some (.int .i64 0) := (blk_cell BK481.out 1).trans rfl; have hfz21_0 := blk_frozen BK481.out 0; have hfz21_1 := blk_frozen BK481.out 1))
   refine bodyPost_ret (results_ct rfl _ _ gb481 24 #[.int .i64 t484, .int .i64 t485] (0, 0) _ rfl pk_ Tryd.underlying24 rfl (by kernel_rfl)) rfl ?_
   exact ⟨by first | rfl | (simp [errW_none, errW_some] <;> rfl) | (simp [*, errW_none, errW_some] <;> rfl), by repeat (first | (with_reducible first | exact HB.out | apply below_alloc | apply pw_below_drewN | apply below_drew1 | refine below_set ?_ GE479.out | refine below_set ?_ GE480.out | refine below_set ?_ GE481.out) | exact HB.out)⟩
  ·replace c6 := Bool.eq_false_iff.mpr c6
   subst c6
   have H1 : (some (0, 0, 1)) = some (r1, r2, r3) := by rw [if_neg (show ¬ (false = true) by decide)] at H; exact H
   clear H
   have H := H1
   clear H1
   simp only [Option.some.injEq, Prod.mk.injEq] at H
   obtain ⟨rfl, rfl, rfl⟩ := H
   go_enter Tryd.func43, Tryd.ntmps43
   go_wp2_with (first | ((with_reducible refine gate_dst (N := 2) rfl ?_); refine box_event ?hg (N := 2) ?hd (cs := #[.int .i64 a0_0, .int .i64 a0_1]) (t := 24) ?hr ?_; (case hd => rfl); (case hg => rfl); (case hr => first | (go_simp; done) | (go_simp; rfl)); intro gb479 hg w22 hbox hb; have BK479 := Aside0.mk (hbox); have GW479 := gw_ (w := w) hg; have GE479 := gw_ (w := w) hg; replace HB := Aside0.mk (below_step bl_ hb); clear hb hbox hg) | ((with_reducible refine gate_dst (N := 3) rfl ?_); refine box_event ?hg (N := 3) ?hd (cs := #[.int .i64 a1_0, .int .i64 a1_1]) (t := 24) ?hr ?_; (case hd => rfl); (case hg => rfl); (case hr => first | (go_simp; done) | (go_simp; rfl)); intro gb480 hg w23 hbox hb; have BK480 := Aside0.mk (hbox); have GW480 := gw_ (w := w) hg; have GE480 := gw_ (w := w) hg; have NB479_480 := nl_ BK479 hg; have NB480_479 := ng_ BK479 hg; replace BK479 := up_ BK479 hb; replace HB := Aside0.mk (below_step bl_ hb); clear hb hbox hg) | ((with_reducible refine gate_dst (N := 4) rfl ?_); refine box_event ?hg (N := 4) ?hd (cs := #[.int .i64 0, .int .i64 0]) (t := 24) ?hr ?_; (case hd => rfl); (case hg => rfl); (case hr => first | (go_simp; done) | (go_simp; rfl)); intro gb481 hg w24 hbox hb; have BK481 := Aside0.mk (hbox); have GW481 := gw_ (w := w) hg; have GE481 := gw_ (w := w) hg; have NB479_481 := nl_ BK479 hg; have NB481_479 := ng_ BK479 hg; have NB480_481 := nl_ BK480 hg; have NB481_480 := ng_ BK480 hg; replace BK479 := up_ BK479 hb; replace BK480 := up_ BK480 hb; replace HB := Aside0.mk (below_step bl_ hb); clear hb hbox hg; have hnb25 := NB479_480.out; have hnc25 := NB480_479.out; have hnb26 := NB479_481.out; have hnc26 := NB481_479.out; have hcz27_0 : w24.cell? ⟨gb479, 0, none⟩ = some (.int .i64 a0_0) := (blk_cell BK479.out 0).trans rfl; have hcz27_1 : w24.cell? ⟨gb479, 1, none⟩ = some (.int .i64 a0_1) := (blk_cell BK479.out 1).trans rfl; have hfz27_0 := blk_frozen BK479.out 0; have hfz27_1 := blk_frozen BK479.out 1) | ((with_reducible refine gate_callee (f := 20) rfl ?_); refine goesL_ (some 7) rfl rfl Tryd.func20 (by kernel_rfl) rfl #[.agg #[.int .i64 a0_0, .int .i64 a0_1]] rfl (by (try simp only [List.map_toArray, List.map_cons, List.map_nil]); first | done | rfl | (simp only [List.length_drop, List.length_take]; rfl)) ?_; (with_reducible refine (dioramaref04_Valid.calls k a0_0 a0_1 true _ A3.out).mono ?_); rintro e w28 ⟨rfl, hb⟩; refine ⟨_, rfl, ?_⟩; replace BK479 := up_ BK479 hb; replace BK480 := up_ BK480 hb; replace BK481 := up_ BK481 hb; replace HB := Aside0.mk (below_step bl_ hb); (try clear hb); (try clear hb2); (try clear hk); (try clear hi); have hnb29 := NB480_481.out; have hnc29 := NB481_480.out; have hcz30_0 : w28.cell? ⟨gb480, 0, none⟩ = some (.int .i64 a1_0) := (blk_cell BK480.out 0).trans rfl; have hcz30_1 : w28.cell? ⟨gb480, 1, none⟩ = some (.int .i64 a1_1) := (blk_cell BK480.out 1).trans rfl; have hfz30_0 := blk_frozen BK480.out 0; have hfz30_1 := blk_frozen BK480.out 1) | (go_at_call 20; (with_reducible refine (dioramaref04_Valid.calls k a1_0 a1_1 false _ A5.out).mono ?_); rintro e w31 ⟨rfl, hb⟩; replace BK479 := up_ BK479 hb; replace BK480 := up_ BK480 hb; replace BK481 := up_ BK481 hb; replace HB := Aside0.mk (below_step bl_ hb); (try clear hb); (try clear hb2); (try clear hk); (try clear hi); have hcz32_0 : w31.cell? ⟨gb481, 0, none⟩ = some (.int .i64 0) := (blk_cell BK481.out 0).trans rfl; have hcz32_1 : w31.cell? ⟨gb481, 1, none⟩ = some (.int .i64 0) := (blk_cell BK481.out 1).trans rfl; have hfz32_0 := blk_frozen BK481.out 0; have hfz32_1 := blk_frozen BK481.out 1))
   refine bodyPost_ret (results_ct rfl _ _ gb481 24 #[.int .i64 0, .int .i64 0] (0, 0) _ rfl pk_ Tryd.underlying24 rfl (by kernel_rfl)) rfl ?_
   exact ⟨by first | rfl | (simp [errW_none, errW_some] <;> rfl) | (simp [*, errW_none, errW_some] <;> rfl), by repeat (first | (with_reducible first | exact HB.out | apply below_alloc | apply pw_below_drewN | apply below_drew1 | refine below_set ?_ GE479.out | refine below_set ?_ GE480.out | refine below_set ?_ GE481.out) | exact HB.out)⟩
 ·replace c4 := Bool.eq_false_iff.mpr c4
  subst c4
  have H1 : (some (0, 0, 1)) = some (r1, r2, r3) := by rw [if_neg (show ¬ (false = true) by decide)] at H; exact H
  clear H
  have H := H1
  clear H1
  simp only [Option.some.injEq, Prod.mk.injEq] at H
  obtain ⟨rfl, rfl, rfl⟩ := H
  go_enter Tryd.func43, Tryd.ntmps43
  go_wp2_with (first | ((with_reducible refine gate_dst (N := 2) rfl ?_); refine box_event ?hg (N := 2) ?hd (cs := #[.int .i64 a0_0, .int .i64 a0_1]) (t := 24) ?hr ?_; (case hd => rfl); (case hg => rfl); (case hr => first | (go_simp; done) | (go_simp; rfl)); intro gb479 hg w33 hbox hb; have BK479 := Aside0.mk (hbox); have GW479 := gw_ (w := w) hg; have GE479 := gw_ (w := w) hg; replace HB := Aside0.mk (below_step bl_ hb); clear hb hbox hg) | ((with_reducible refine gate_dst (N := 3) rfl ?_); refine box_event ?hg (N := 3) ?hd (cs := #[.int .i64 a1_0, .int .i64 a1_1]) (t := 24) ?hr ?_; (case hd => rfl); (case hg => rfl); (case hr => first | (go_simp; done) | (go_simp; rfl)); intro gb480 hg w34 hbox hb; have BK480 := Aside0.mk (hbox); have GW480 := gw_ (w := w) hg; have GE480 := gw_ (w := w) hg; have NB479_480 := nl_ BK479 hg; have NB480_479 := ng_ BK479 hg; replace BK479 := up_ BK479 hb; replace HB := Aside0.mk (below_step bl_ hb); clear hb hbox hg) | ((with_reducible refine gate_dst (N := 4) rfl ?_); refine box_event ?hg (N := 4) ?hd (cs := #[.int .i64 0, .int .i64 0]) (t := 24) ?hr ?_; (case hd => rfl); (case hg => rfl); (case hr => first | (go_simp; done) | (go_simp; rfl)); intro gb481 hg w35 hbox hb; have BK481 := Aside0.mk (hbox); have GW481 := gw_ (w := w) hg; have GE481 := gw_ (w := w) hg; have NB479_481 := nl_ BK479 hg; have NB481_479 := ng_ BK479 hg; have NB480_481 := nl_ BK480 hg; have NB481_480 := ng_ BK480 hg; replace BK479 := up_ BK479 hb; replace BK480 := up_ BK480 hb; replace HB := Aside0.mk (below_step bl_ hb); clear hb hbox hg; have hnb36 := NB479_480.out; have hnc36 := NB480_479.out; have hnb37 := NB479_481.out; have hnc37 := NB481_479.out; have hcz38_0 : w35.cell? ⟨gb479, 0, none⟩ = some (.int .i64 a0_0) := (blk_cell BK479.out 0).trans rfl; have hcz38_1 : w35.cell? ⟨gb479, 1, none⟩ = some (.int .i64 a0_1) := (blk_cell BK479.out 1).trans rfl; have hfz38_0 := blk_frozen BK479.out 0; have hfz38_1 := blk_frozen BK479.out 1) | ((with_reducible refine gate_callee (f := 20) rfl ?_); refine goesL_ (some 7) rfl rfl Tryd.func20 (by kernel_rfl) rfl #[.agg #[.int .i64 a0_0, .int .i64 a0_1]] rfl (by (try simp only [List.map_toArray, List.map_cons, List.map_nil]); first | done | rfl | (simp only [List.length_drop, List.length_take]; rfl)) ?_; (with_reducible refine (dioramaref04_Valid.calls k a0_0 a0_1 false _ A3.out).mono ?_); rintro e w39 ⟨rfl, hb⟩; refine ⟨_, rfl, ?_⟩; replace BK479 := up_ BK479 hb; replace BK480 := up_ BK480 hb; replace BK481 := up_ BK481 hb; replace HB := Aside0.mk (below_step bl_ hb); (try clear hb); (try clear hb2); (try clear hk); (try clear hi); have hnb40 := NB481_480.out; have hnc40 := NB480_481.out; have hcz41_0 : w39.cell? ⟨gb481, 0, none⟩ = some (.int .i64 0) := (blk_cell BK481.out 0).trans rfl; have hcz41_1 : w39.cell? ⟨gb481, 1, none⟩ = some (.int .i64 0) := (blk_cell BK481.out 1).trans rfl; have hfz41_0 := blk_frozen BK481.out 0; have hfz41_1 := blk_frozen BK481.out 1))
  refine bodyPost_ret (results_ct rfl _ _ gb481 24 #[.int .i64 0, .int .i64 0] (0, 0) _ rfl pk_ Tryd.underlying24 rfl (by kernel_rfl)) rfl ?_
  exact ⟨by first | rfl | (simp [errW_none, errW_some] <;> rfl) | (simp [*, errW_none, errW_some] <;> rfl), by repeat (first | (with_reducible first | exact HB.out | apply below_alloc | apply pw_below_drewN | apply below_drew1 | refine below_set ?_ GE479.out | refine below_set ?_ GE480.out | refine below_set ?_ GE481.out) | exact HB.out)⟩

/-! ### dioramaref04_Mul: function 44 -/
def dioramaref04_Mul.j0 : Nat → Bool → Int → Int → Int → Int → Option (Int × Int × Int)
 | 0, _, _, _, _, _ => none
 | k + 1, x13, x488000, x488001, x489000, x489001 => if x13 = true then (some (0, 0, 1)) else ((dioramaref04_Den.f x488000 x488001).bind fun t492 => ((dioramaref04_Den.f x489000 x489001).bind fun t493 => ((dioramaref04_Make.f k (wrap64 (x488000 * x489000)) (wrap64 (t492 * t493))).bind fun bt494 => (some (bt494.1, bt494.2.1, bt494.2.2)))))
def dioramaref04_Mul.f (k : Nat) (a0_0 : Int) (a0_1 : Int) (a1_0 : Int) (a1_1 : Int) : Option (Int × Int × Int) := (dioramaref04_Valid.f k a0_0 a0_1).bind fun t490 => (if t490 = true then ((dioramaref04_Valid.f k a1_0 a1_1).bind fun t491 => (dioramaref04_Mul.j0 k (!t491) a0_0 a0_1 a1_0 a1_1)) else (dioramaref04_Mul.j0 k true a0_0 a0_1 a1_0 a1_1))
theorem dioramaref04_Mul.mono_l : ∀ k, (∀ y0 y1 y2 y3 y4, LeO (dioramaref04_Mul.j0 k y0 y1 y2 y3 y4) (dioramaref04_Mul.j0 (k + 1) y0 y1 y2 y3 y4))
 | 0 => fun _ _ _ _ _ r h => by simp [dioramaref04_Mul.j0] at h
 | k + 1 => by
  have ih0 := dioramaref04_Mul.mono_l k
  ·intro y0 y1 y2 y3 y4
   unfold dioramaref04_Mul.j0
   repeat' first
   | (with_reducible exact ih0 _ _ _ _ _)
   | (with_reducible exact dioramaref04_Make.mono _ _ _)
   | (with_reducible exact dioramaref04_Valid.mono _ _ _)
   | (with_reducible exact LeO.refl _)
   | (with_reducible exact LeO.none _)
   | (with_reducible refine LeO.ite ?_ ?_)
   | (with_reducible refine LeO.bind ?_ (fun _ => ?_))
   | exact ih0 _ _ _ _ _
   | exact dioramaref04_Make.mono _ _ _
   | exact dioramaref04_Valid.mono _ _ _
   | exact LeO.none _
   | refine LeO.ite ?_ ?_
   | refine LeO.bind ?_ (fun _ => ?_)
theorem dioramaref04_Mul.mono : ∀ a0 a1 a2 a3 k, LeO (dioramaref04_Mul.f k a0 a1 a2 a3) (dioramaref04_Mul.f (k + 1) a0 a1 a2 a3) := by
 intro a0 a1 a2 a3 k
 have ih0 := dioramaref04_Mul.mono_l k
 unfold dioramaref04_Mul.f
 repeat' first
   | (with_reducible exact ih0 _ _ _ _ _)
   | (with_reducible exact dioramaref04_Make.mono _ _ _)
   | (with_reducible exact dioramaref04_Valid.mono _ _ _)
   | (with_reducible exact LeO.refl _)
   | (with_reducible exact LeO.none _)
   | (with_reducible refine LeO.ite ?_ ?_)
   | (with_reducible refine LeO.bind ?_ (fun _ => ?_))
   | exact ih0 _ _ _ _ _
   | exact dioramaref04_Make.mono _ _ _
   | exact dioramaref04_Valid.mono _ _ _
   | exact LeO.none _
   | refine LeO.ite ?_ ?_
   | refine LeO.bind ?_ (fun _ => ?_)
def dioramaref04_Mul.T3 : Bool × List (List Nat × List Nat) := (true, [([], []), ([0], [0]), ([], []), ([2], [2]), ([1, 3], [1, 3]), ([], []), ([5], [5]), ([], []), ([7, 6], [7]), ([6, 8], [6, 8]), ([4, 9, 8], [4, 9]), ([10], [10]), ([10], [10]), ([11, 10, 0, 1, 2, 3, 4, 5, 6, 7, 8, 9, 10, 11, 12], [11]), ([12, 13, 0, 1, 2, 3, 4, 5, 6, 7, 8, 9, 10, 11, 12, 13], [12])])
def dioramaref04_Mul.B3 : List Nat := [0, 1, 0, 4, 15, 0, 32, 0, 224, 480, 1023, 2047, 2047, 8191, 16383]
theorem dioramaref04_Mul.tab3 : rtab .any (opsOf Tryd.f44 3) = dioramaref04_Mul.T3 := by kernel_rfl
theorem dioramaref04_Mul.bits3 : waitsOk dioramaref04_Mul.T3.2 dioramaref04_Mul.B3 = true := by kernel_rfl
set_option maxHeartbeats 8000000 in
set_option maxRecDepth 100000 in
theorem dioramaref04_Mul.calls (k : Nat) (a0_0 : Int) (a0_1 : Int) (a1_0 : Int) (a1_1 : Int) (r1 : Int) (r2 : Int) (r3 : Int) (w : World) (h : dioramaref04_Mul.f k a0_0 a0_1 a1_0 a1_1 = some (r1, r2, r3)) :
  Calls Tryd.prog 44 #[.agg #[.int .i64 a0_0, .int .i64 a0_1], .agg #[.int .i64 a1_0, .int .i64 a1_1]] w fun e w' => e = .returned (.tuple #[.agg #[.int .i64 r1, .int .i64 r2], .int .i64 r3]) ∧ Below w.heap.size w w' := by
 have hu24 := Tryd.underlying24
 have HB := Aside0.mk (Below.refl w.heap.size w)
 have H : ((dioramaref04_Valid.f k a0_0 a0_1).bind fun t490 => (if t490 = true then ((dioramaref04_Valid.f k a1_0 a1_1).bind fun t491 => (dioramaref04_Mul.j0 k (!t491) a0_0 a0_1 a1_0 a1_1)) else (dioramaref04_Mul.j0 k true a0_0 a0_1 a1_0 a1_1))) = some (r1, r2, r3) := h
 clear h
 have HC3 := Aside0.mk H
 clear H
 go_enter Tryd.func44, Tryd.ntmps44
 go_upto_region 1 with (first | ((with_reducible refine gate_dst (N := 2) rfl ?_); refine box_event ?hg (N := 2) ?hd (cs := #[.int .i64 a0_0, .int .i64 a0_1]) (t := 24) ?hr ?_; (case hd => rfl); (case hg => rfl); (case hr => first | (go_simp; done) | (go_simp; rfl)); intro gb487 hg w4 hbox hb; have BK487 := Aside0.mk (hbox); have GW487 := gw_ (w := w) hg; have GE487 := gw_ (w := w) hg; replace HB := Aside0.mk (below_step bl_ hb); clear hb hbox hg) | ((with_reducible refine gate_dst (N := 3) rfl ?_); refine box_event ?hg (N := 3) ?hd (cs := #[.int .i64 a1_0, .int .i64 a1_1]) (t := 24) ?hr ?_; (case hd => rfl); (case hg => rfl); (case hr => first | (go_simp; done) | (go_simp; rfl)); intro gb488 hg w5 hbox hb; have BK488 := Aside0.mk (hbox); have GW488 := gw_ (w := w) hg; have GE488 := gw_ (w := w) hg; have NB487_488 := nl_ BK487 hg; have NB488_487 := ng_ BK487 hg; replace BK487 := up_ BK487 hb; replace HB := Aside0.mk (below_step bl_ hb); clear hb hbox hg) | ((with_reducible refine gate_dst (N := 4) rfl ?_); refine box_event ?hg (N := 4) ?hd (cs := #[.int .i64 0, .int .i64 0]) (t := 24) ?hr ?_; (case hd => rfl); (case hg => rfl); (case hr => first | (go_simp; done) | (go_simp; rfl)); intro gb489 hg w6 hbox hb; have BK489 := Aside0.mk (hbox); have GW489 := gw_ (w := w) hg; have GE489 := gw_ (w := w) hg; have NB487_489 := nl_ BK487 hg; have NB489_487 := ng_ BK487 hg; have NB488_489 := nl_ BK488 hg; have NB489_488 := ng_ BK488 hg; replace BK487 := up_ BK487 hb; replace BK488 := up_ BK488 hb; replace HB := Aside0.mk (below_step bl_ hb); clear hb hbox hg))
 (try simp only [Act.put, List.setIfInBounds_toArray, List.set_cons_zero, List.set_cons_succ])
 go_cut [13] (fun v13 wc => ∃ (kq : Nat) (x13_2 : Bool), v13 = .bool x13_2 ∧ Aside0 (dioramaref04_Mul.j0 kq x13_2 a0_0 a0_1 a1_0 a1_1 = some (r1, r2, r3)) ∧ Aside0 (kq ≤ k) ∧ Aside0 (wc.heap[gb487]? = some (.cells #[.int .i64 a0_0, .int .i64 a0_1] 24 (0, 0))) ∧ Aside0 (wc.heap[gb488]? = some (.cells #[.int .i64 a1_0, .int .i64 a1_1] 24 (0, 0))) ∧ Aside0 (wc.heap[gb489]? = some (.cells #[.int .i64 0, .int .i64 0] 24 (0, 0))) ∧ Aside0 (Below w.heap.size w wc))
 case first =>
  have H := HC3.out
  clear HC3
  replace H := Option.bind_eq_some_iff.mp H
  obtain ⟨t490, A70, H⟩ := H
  replace H : (if t490 = true then ((dioramaref04_Valid.f k a1_0 a1_1).bind fun t491 => (dioramaref04_Mul.j0 k (!t491) a0_0 a0_1 a1_0 a1_1)) else (dioramaref04_Mul.j0 k true a0_0 a0_1 a1_0 a1_1)) = some (r1, r2, r3) := H
  have A7 := Aside0.mk A70
  clear A70
  by_cases c8 : t490 = true
  ·subst c8
   have H1 : ((dioramaref04_Valid.f k a1_0 a1_1).bind fun t491 => (dioramaref04_Mul.j0 k (!t491) a0_0 a0_1 a1_0 a1_1)) = some (r1, r2, r3) := by rw [if_pos rfl] at H; exact H
   clear H
   have H := H1
   clear H1
   replace H := Option.bind_eq_some_iff.mp H
   obtain ⟨t491, A90, H⟩ := H
   replace H : (dioramaref04_Mul.j0 k (!t491) a0_0 a0_1 a1_0 a1_1) = some (r1, r2, r3) := H
   have A9 := Aside0.mk A90
   clear A90
   have H' := Aside0.mk H
   clear H; have hnb10 := NB487_488.out; have hnc10 := NB488_487.out; have hnb11 := NB487_489.out; have hnc11 := NB489_487.out
   have hcz12_0 : w6.cell? ⟨gb487, 0, none⟩ = some (.int .i64 a0_0) := (blk_cell BK487.out 0).trans rfl
   have hcz12_1 : w6.cell? ⟨gb487, 1, none⟩ = some (.int .i64 a0_1) := (blk_cell BK487.out 1).trans rfl
   have hfz12_0 := blk_frozen BK487.out 0; have hfz12_1 := blk_frozen BK487.out 1
   go_wp2_with (first | ((with_reducible refine gate_callee (f := 20) rfl ?_); refine goesL_ (some 7) rfl rfl Tryd.func20 (by kernel_rfl) rfl #[.agg #[.int .i64 a0_0, .int .i64 a0_1]] rfl (by (try simp only [List.map_toArray, List.map_cons, List.map_nil]); first | done | rfl | (simp only [List.length_drop, List.length_take]; rfl)) ?_; (with_reducible refine (dioramaref04_Valid.calls k a0_0 a0_1 true _ A7.out).mono ?_); rintro e w13 ⟨rfl, hb⟩; refine ⟨_, rfl, ?_⟩; replace BK487 := up_ BK487 hb; replace BK488 := up_ BK488 hb; replace BK489 := up_ BK489 hb; replace HB := Aside0.mk (below_step bl_ hb); (try clear hb); (try clear hb2); (try clear hk); (try clear hi); have hnb14 := NB488_489.out; have hnc14 := NB489_488.out; have hcz15_0 : w13.cell? ⟨gb488, 0, none⟩ = some (.int .i64 a1_0) := (blk_cell BK488.out 0).trans rfl; have hcz15_1 : w13.cell? ⟨gb488, 1, none⟩ = some (.int .i64 a1_1) := (blk_cell BK488.out 1).trans rfl; have hfz15_0 := blk_frozen BK488.out 0; have hfz15_1 := blk_frozen BK488.out 1) | (go_at_call 20; (with_reducible refine (dioramaref04_Valid.calls k a1_0 a1_1 t491 _ A9.out).mono ?_); rintro e w16 ⟨rfl, hb⟩; replace BK487 := up_ BK487 hb; replace BK488 := up_ BK488 hb; replace BK489 := up_ BK489 hb; replace HB := Aside0.mk (below_step bl_ hb); (try clear hb); (try clear hb2); (try clear hk); (try clear hi)))
   go_meet
   case rel => exact ⟨_, (!t491), (by first | rfl | (simp; done) | (simp [*]; done)), H', ⟨by first | omega | exact Nat.le_refl _⟩, ⟨pk_⟩, ⟨pk_⟩, ⟨pk_⟩, ⟨bl_⟩⟩
  ·replace c8 := Bool.eq_false_iff.mpr c8
   subst c8
   have H1 : (dioramaref04_Mul.j0 k true a0_0 a0_1 a1_0 a1_1) = some (r1, r2, r3) := by rw [if_neg (show ¬ (false = true) by decide)] at H; exact H
   clear H
   have H := H1
   clear H1
   have H' := Aside0.mk H
   clear H; have hnb17 := NB487_488.out; have hnc17 := NB488_487.out; have hnb18 := NB487_489.out; have hnc18 := NB489_487.out
   have hcz19_0 : w6.cell? ⟨gb487, 0, none⟩ = some (.int .i64 a0_0) := (blk_cell BK487.out 0).trans rfl
   have hcz19_1 : w6.cell? ⟨gb487, 1, none⟩ = some (.int .i64 a0_1) := (blk_cell BK487.out 1).trans rfl
   have hfz19_0 := blk_frozen BK487.out 0; have hfz19_1 := blk_frozen BK487.out 1
   go_wp2_with (first | ((with_reducible refine gate_callee (f := 20) rfl ?_); refine goesL_ (some 7) rfl rfl Tryd.func20 (by kernel_rfl) rfl #[.agg #[.int .i64 a0_0, .int .i64 a0_1]] rfl (by (try simp only [List.map_toArray, List.map_cons, List.map_nil]); first | done | rfl | (simp only [List.length_drop, List.length_take]; rfl)) ?_; (with_reducible refine (dioramaref04_Valid.calls k a0_0 a0_1 false _ A7.out).mono ?_); rintro e w20 ⟨rfl, hb⟩; refine ⟨_, rfl, ?_⟩; replace BK487 := up_ BK487 hb; replace BK488 := up_ BK488 hb; replace BK489 := up_ BK489 hb; replace HB := Aside0.mk (below_step bl_ hb); (try clear hb); (try clear hb2); (try clear hk); (try clear hi)))
   go_meet
   case rel => exact ⟨_, (true), (by first | rfl | (simp; done) | (simp [*]; done)), H', ⟨by first | omega | exact Nat.le_refl _⟩, ⟨pk_⟩, ⟨pk_⟩, ⟨pk_⟩, ⟨bl_⟩⟩
 case rest =>
  clear HC3
  obtain ⟨kq, x13_2, rfl, HA, HJ2, BK487, BK488, BK489, HB⟩ := hcut
  cases kq with
  | zero => exact absurd HA.out (by simp [dioramaref04_Mul.j0])
  | succ kj2 =>
   have H := HA.out
   clear HA
   simp only [dioramaref04_Mul.j0] at H
   by_cases c21 : x13_2 = true
   ·subst c21
    have H1 : (some (0, 0, 1)) = some (r1, r2, r3) := by rw [if_pos rfl] at H; exact H
    clear H
    have H := H1
    clear H1
    simp only [Option.some.injEq, Prod.mk.injEq] at H
    obtain ⟨rfl, rfl, rfl⟩ := H
    have hnb22 := NB489_487.out; have hnc22 := NB487_489.out; have hnb23 := NB489_488.out; have hnc23 := NB488_489.out
    have hcz24_0 : wc.cell? ⟨gb489, 0, none⟩ = some (.int .i64 0) := (blk_cell BK489.out 0).trans rfl
    have hcz24_1 : wc.cell? ⟨gb489, 1, none⟩ = some (.int .i64 0) := (blk_cell BK489.out 1).trans rfl
    have hfz24_0 := blk_frozen BK489.out 0; have hfz24_1 := blk_frozen BK489.out 1
    go_wp2
    refine bodyPost_ret (results_ct rfl _ _ gb489 24 #[.int .i64 0, .int .i64 0] (0, 0) _ rfl pk_ Tryd.underlying24 rfl (by kernel_rfl)) rfl ?_
    exact ⟨by first | rfl | (simp [errW_none, errW_some] <;> rfl) | (simp [*, errW_none, errW_some] <;> rfl), by repeat (first | (with_reducible first | exact HB.out | apply below_alloc | apply pw_below_drewN | apply below_drew1 | refine below_set ?_ GE487.out | refine below_set ?_ GE488.out | refine below_set ?_ GE489.out) | exact HB.out)⟩
   ·replace c21 := Bool.eq_false_iff.mpr c21
    subst c21
    have H1 : ((dioramaref04_Den.f a0_0 a0_1).bind fun t492 => ((dioramaref04_Den.f a1_0 a1_1).bind fun t493 => ((dioramaref04_Make.f kj2 (wrap64 (a0_0 * a1_0)) (wrap64 (t492 * t493))).bind fun bt494 => (some (bt494.1, bt494.2.1, bt494.2.2))))) = some (r1, r2, r3) := by rw [if_neg (show ¬ (false = true) by decide)] at H; exact H
    clear H
    have H := H1
    clear H1
    replace H := Option.bind_eq_some_iff.mp H
    obtain ⟨t492, A250, H⟩ := H
    replace H : ((dioramaref04_Den.f a1_0 a1_1).bind fun t493 => ((dioramaref04_Make.f kj2 (wrap64 (a0_0 * a1_0)) (wrap64 (t492 * t493))).bind fun bt494 => (some (bt494.1, bt494.2.1, bt494.2.2)))) = some (r1, r2, r3) := H
    have A25 := Aside0.mk A250
    clear A250
    replace H := Option.bind_eq_some_iff.mp H
    obtain ⟨t493, A260, H⟩ := H
    replace H : ((dioramaref04_Make.f kj2 (wrap64 (a0_0 * a1_0)) (wrap64 (t492 * t493))).bind fun bt494 => (some (bt494.1, bt494.2.1, bt494.2.2))) = some (r1, r2, r3) := H
    have A26 := Aside0.mk A260
    clear A260
    replace H := Option.bind_eq_some_iff.mp H
    obtain ⟨⟨t494, t495, t496⟩, A270, H⟩ := H
    replace H : (some (t494, t495, t496)) = some (r1, r2, r3) := H
    have A27 := Aside0.mk A270
    clear A270
    simp only [Option.some.injEq, Prod.mk.injEq] at H
    obtain ⟨rfl, rfl, rfl⟩ := H
    try go_wp2
    have n0_ := Aside0.mk (blk_drew BK487.out)
    have n1_ := Aside0.mk (blk_drew BK488.out)
    have n2_ := Aside0.mk (blk_drew BK489.out)
    have n3_ := Aside0.mk (below_drew1 HB.out)
    clear BK487; clear BK488; clear BK489; clear HB
    have BK487 := n0_
    have BK488 := n1_
    have BK489 := n2_
    have HB := n3_
    clear n0_ n1_ n2_ n3_
    refine start_ (n := 15) (S := fun w' => w'.cell? ⟨gb487, 0, none⟩ = some (.int .i64 a0_0) ∧ w'.cell? ⟨gb487, 1, none⟩ = some (.int .i64 a0_1) ∧ w'.cell? ⟨gb488, 0, none⟩ = some (.int .i64 a1_0) ∧ w'.cell? ⟨gb488, 1, none⟩ = some (.int .i64 a1_1)) (ds := []) #[false, false, false, false, false, false, false, false, false, false, false, false, false, false, false] (by kernel_rfl) rfl rfl ⟨(blk_cell BK487.out 0).trans rfl, (blk_cell BK487.out 1).trans rfl, (blk_cell BK488.out 0).trans rfl, (blk_cell BK488.out 1).trans rfl⟩ (fun hHeld => ?_); refine with_tabW dioramaref04_Mul.tab3 dioramaref04_Mul.bits3 (fun HT_ HW_ => ?_)
    generalize wc.drew = w28 at BK487 BK488 BK489 HB hHeld ⊢
    refine pure_ (i := 0) (N := some 15) (v := ?_) (a' := ?_) #[true, false, false, false, false, false, false, false, false, false, false, false, false, false, false] rfl rfl (any_of HT_.out (by kernel_rfl)) (fun _ _ _ h => h) (Or.inl ⟨by rfl, ?_⟩) ?_ ?_
    rotate_left
    ·intro w'
     go_simp
     with_reducible rfl
    rotate_left
    ·simp only [Act.put, List.setIfInBounds_toArray, List.set_cons_zero, List.set_cons_succ, i64_w, i32_w]
     rfl
    refine pure_ (i := 2) (N := some 17) (v := ?_) (a' := ?_) #[true, false, true, false, false, false, false, false, false, false, false, false, false, false, false] rfl rfl (any_of HT_.out (by kernel_rfl)) (fun _ _ _ h => h) (Or.inl ⟨by rfl, ?_⟩) ?_ ?_
    rotate_left
    ·intro w'
     go_simp
     with_reducible rfl
    rotate_left
    ·simp only [Act.put, List.setIfInBounds_toArray, List.set_cons_zero, List.set_cons_succ, i64_w, i32_w]
     rfl
    refine take_ (i := 1) (N := some 16) (v := ?_) (a' := ?_) #[true, true, true, false, false, false, false, false, false, false, false, false, false, false, false] rfl rfl (take_ofW HT_.out HW_.out (by kernel_rfl)) (fun _ _ _ h => h) (Or.inl ⟨by rfl, ?_⟩) hHeld ?_ ?_
    rotate_left
    ·rintro w' ⟨s0, s1, s2, s3⟩
     go_simp
     with_reducible rfl
    rotate_left
    ·simp only [Act.put, List.setIfInBounds_toArray, List.set_cons_zero, List.set_cons_succ, i64_w, i32_w]
     rfl
    refine take_ (i := 3) (N := some 18) (v := ?_) (a' := ?_) #[true, true, true, true, false, false, false, false, false, false, false, false, false, false, false] rfl rfl (take_ofW HT_.out HW_.out (by kernel_rfl)) (fun _ _ _ h => h) (Or.inl ⟨by rfl, ?_⟩) hHeld ?_ ?_
    rotate_left
    ·rintro w' ⟨s0, s1, s2, s3⟩
     go_simp
     with_reducible rfl
    rotate_left
    ·simp only [Act.put, List.setIfInBounds_toArray, List.set_cons_zero, List.set_cons_succ, i64_w, i32_w]
     rfl
    refine pure_ (i := 4) (N := some 19) (v := ?_) (a' := ?_) #[true, true, true, true, true, false, false, false, false, false, false, false, false, false, false] rfl rfl (any_of HT_.out (by kernel_rfl)) (fun _ _ _ h => h) (Or.inl ⟨by rfl, ?_⟩) ?_ ?_
    rotate_left
    ·intro w'
     go_simp
     with_reducible rfl
    rotate_left
    ·simp only [Act.put, List.setIfInBounds_toArray, List.set_cons_zero, List.set_cons_succ, i64_w, i32_w]
     rfl
    refine take_ (i := 5) (N := some 20) (v := ?_) (a' := ?_) #[true, true, true, true, true, true, false, false, false, false, false, false, false, false, false] rfl rfl (take_ofW HT_.out HW_.out (by kernel_rfl)) (fun _ _ _ h => h) (Or.inl ⟨by rfl, ?_⟩) hHeld ?_ ?_
    rotate_left
    ·rintro w' ⟨s0, s1, s2, s3⟩
     go_simp
     with_reducible rfl
    rotate_left
    ·simp only [Act.put, List.setIfInBounds_toArray, List.set_cons_zero, List.set_cons_succ, i64_w, i32_w]
     rfl
    refine take_ (i := 7) (N := some 22) (v := ?_) (a' := ?_) #[true, true, true, true, true, true, false, true, false, false, false, false, false, false, false] rfl rfl (take_ofW HT_.out HW_.out (by kernel_rfl)) (fun _ _ _ h => h) (Or.inl ⟨by rfl, ?_⟩) hHeld ?_ ?_
    rotate_left
    ·rintro w' ⟨s0, s1, s2, s3⟩
     go_simp
     with_reducible rfl
    rotate_left
    ·simp only [Act.put, List.setIfInBounds_toArray, List.set_cons_zero, List.set_cons_succ, i64_w, i32_w]
     rfl
    refine one_ (i := 6) (N := some 21) #[true, true, true, true, true, true, true, true, false, false, false, false, false, false, false] rfl rfl (one_of HT_.out (by kernel_rfl)) (by decide) (fun K hK => ?_)
    refine goes_ Tryd.func37 (by kernel_rfl) rfl #[.agg #[.int .i64 a0_0, .int .i64 a0_1]] (by rfl) rfl rfl (by (try simp only [List.map_toArray, List.map_cons, List.map_nil]); first | done | rfl | (simp only [List.length_drop, List.length_take]; rfl)) ?_
    with_reducible refine (dioramaref04_Den.calls a0_0 a0_1 t492 _ A25.out).mono ?_
    rintro e w29 ⟨rfl, hb⟩
    refine ⟨_, rfl, ?_⟩
    have n0_ := Aside0.mk (blk_below (g := gb487) (o := .cells #[.int .i64 a0_0, .int .i64 a0_1] 24 (0, 0)) pk_ hb)
    have n1_ := Aside0.mk (blk_below (g := gb488) (o := .cells #[.int .i64 a1_0, .int .i64 a1_1] 24 (0, 0)) pk_ hb)
    have n2_ := Aside0.mk (blk_below (g := gb489) (o := .cells #[.int .i64 0, .int .i64 0] 24 (0, 0)) pk_ hb)
    have n3_ := Aside0.mk (below_step bl_ hb)
    clear BK487; clear BK488; clear BK489; clear HB
    have BK487 := n0_
    have BK488 := n1_
    have BK489 := n2_
    have HB := n3_
    clear n0_ n1_ n2_ n3_
    (try clear hb); (try clear hb2); (try clear hk); (try clear hi)
    refine hK.out _ _ ⟨(blk_cell BK487.out 0).trans rfl, (blk_cell BK487.out 1).trans rfl, (blk_cell BK488.out 0).trans rfl, (blk_cell BK488.out 1).trans rfl⟩ (fun hHeld => ?_)
    clear hK K
    refine norm_ (a' := ?_) ?_ ?_
    rotate_left
    ·show Act.put _ (some 21) _ = _
     simp only [Act.put, List.setIfInBounds_toArray, List.set_cons_zero, List.set_cons_succ, i64_w, i32_w]
     rfl
    refine one_ (i := 8) (N := some 23) #[true, true, true, true, true, true, true, true, true, false, false, false, false, false, false] rfl rfl (one_of HT_.out (by kernel_rfl)) (by decide) (fun K hK => ?_)
    refine goes_ Tryd.func37 (by kernel_rfl) rfl #[.agg #[.int .i64 a1_0, .int .i64 a1_1]] (by rfl) rfl rfl (by (try simp only [List.map_toArray, List.map_cons, List.map_nil]); first | done | rfl | (simp only [List.length_drop, List.length_take]; rfl)) ?_
    with_reducible refine (dioramaref04_Den.calls a1_0 a1_1 t493 _ A26.out).mono ?_
    rintro e w30 ⟨rfl, hb⟩
    refine ⟨_, rfl, ?_⟩
    have n0_ := Aside0.mk (blk_below (g := gb487) (o := .cells #[.int .i64 a0_0, .int .i64 a0_1] 24 (0, 0)) pk_ hb)
    have n1_ := Aside0.mk (blk_below (g := gb488) (o := .cells #[.int .i64 a1_0, .int .i64 a1_1] 24 (0, 0)) pk_ hb)
    have n2_ := Aside0.mk (blk_below (g := gb489) (o := .cells #[.int .i64 0, .int .i64 0] 24 (0, 0)) pk_ hb)
    have n3_ := Aside0.mk (below_step bl_ hb)
    clear BK487; clear BK488; clear BK489; clear HB
    have BK487 := n0_
    have BK488 := n1_
    have BK489 := n2_
    have HB := n3_
    clear n0_ n1_ n2_ n3_
    (try clear hb); (try clear hb2); (try clear hk); (try clear hi)
    refine hK.out _ _ ⟨(blk_cell BK487.out 0).trans rfl, (blk_cell BK487.out 1).trans rfl, (blk_cell BK488.out 0).trans rfl, (blk_cell BK488.out 1).trans rfl⟩ (fun hHeld => ?_)
    clear hK K
    refine norm_ (a' := ?_) ?_ ?_
    rotate_left
    ·show Act.put _ (some 23) _ = _
     simp only [Act.put, List.setIfInBounds_toArray, List.set_cons_zero, List.set_cons_succ, i64_w, i32_w]
     rfl
    refine pure_ (i := 9) (N := some 24) (v := ?_) (a' := ?_) #[true, true, true, true, true, true, true, true, true, true, false, false, false, false, false] rfl rfl (any_of HT_.out (by kernel_rfl)) (fun _ _ _ h => h) (Or.inl ⟨by rfl, ?_⟩) ?_ ?_
    rotate_left
    ·intro w'
     go_simp
     with_reducible rfl
    rotate_left
    ·simp only [Act.put, List.setIfInBounds_toArray, List.set_cons_zero, List.set_cons_succ, i64_w, i32_w]
     rfl
    refine one_ (i := 10) (N := some 25) #[true, true, true, true, true, true, true, true, true, true, true, false, false, false, false] rfl rfl (one_of HT_.out (by kernel_rfl)) (by decide) (fun K hK => ?_)
    refine goes_ Tryd.func18 (by kernel_rfl) rfl #[.int .i64 (wrap64 (a0_0 * a1_0)), .int .i64 (wrap64 (t492 * t493))] (by rfl) rfl rfl (by (try simp only [List.map_toArray, List.map_cons, List.map_nil]); first | done | rfl | (simp only [List.length_drop, List.length_take]; rfl)) ?_
    with_reducible refine (dioramaref04_Make.calls kj2 (wrap64 (a0_0 * a1_0)) (wrap64 (t492 * t493)) t494 t495 t496 _ A27.out).mono ?_
    rintro e w31 ⟨rfl, hb⟩
    refine ⟨_, rfl, ?_⟩
    have n0_ := Aside0.mk (blk_below (g := gb487) (o := .cells #[.int .i64 a0_0, .int .i64 a0_1] 24 (0, 0)) pk_ hb)
    have n1_ := Aside0.mk (blk_below (g := gb488) (o := .cells #[.int .i64 a1_0, .int .i64 a1_1] 24 (0, 0)) pk_ hb)
    have n2_ := Aside0.mk (blk_below (g := gb489) (o := .cells #[.int .i64 0, .int .i64 0] 24 (0, 0)) pk_ hb)
    have n3_ := Aside0.mk (below_step bl_ hb)
    clear BK487; clear BK488; clear BK489; clear HB
    have BK487 := n0_
    have BK488 := n1_
    have BK489 := n2_
    have HB := n3_
    clear n0_ n1_ n2_ n3_
    (try clear hb); (try clear hb2); (try clear hk); (try clear hi)
    refine hK.out _ _ ⟨(blk_cell BK487.out 0).trans rfl, (blk_cell BK487.out 1).trans rfl, (blk_cell BK488.out 0).trans rfl, (blk_cell BK488.out 1).trans rfl⟩ (fun hHeld => ?_)
    clear hK K
    refine norm_ (a' := ?_) ?_ ?_
    rotate_left
    ·show Act.put _ (some 25) _ = _
     simp only [Act.put, List.setIfInBounds_toArray, List.set_cons_zero, List.set_cons_succ, i64_w, i32_w]
     rfl
    refine pure_ (i := 11) (N := some 26) (v := ?_) (a' := ?_) #[true, true, true, true, true, true, true, true, true, true, true, true, false, false, false] rfl rfl (any_of HT_.out (by kernel_rfl)) (fun _ _ _ h => h) (Or.inl ⟨by rfl, ?_⟩) ?_ ?_
    rotate_left
    ·intro w'
     go_simp
     with_reducible rfl
    rotate_left
    ·simp only [Act.put, List.setIfInBounds_toArray, List.set_cons_zero, List.set_cons_succ, i64_w, i32_w]
     rfl
    refine pure_ (i := 12) (N := some 27) (v := ?_) (a' := ?_) #[true, true, true, true, true, true, true, true, true, true, true, true, true, false, false] rfl rfl (any_of HT_.out (by kernel_rfl)) (fun _ _ _ h => h) (Or.inl ⟨by rfl, ?_⟩) ?_ ?_
    rotate_left
    ·intro w'
     go_simp
     with_reducible rfl
    rotate_left
    ·simp only [Act.put, List.setIfInBounds_toArray, List.set_cons_zero, List.set_cons_succ, i64_w, i32_w]
     rfl
    refine one_ (i := 13) (N := none) #[true, true, true, true, true, true, true, true, true, true, true, true, true, true, false] rfl rfl (one_of HT_.out (by kernel_rfl)) (by decide) (fun K hK => ?_)
    have hs32 : w31.cell? ⟨gb489, 0, none⟩ = some (.int .i64 0) := (blk_cell BK489.out 0).trans rfl
    have hfs32 := blk_frozen BK489.out 0
    have hns32_0 := NB487_489.out
    have hns32_1 := NB488_489.out
    have hms32_0 := NB489_487.out
    have hms32_1 := NB489_488.out
    have hs33 : w31.cell? ⟨gb489, 1, none⟩ = some (.int .i64 0) := (blk_cell BK489.out 1).trans rfl
    have hfs33 := blk_frozen BK489.out 1
    have hns33_0 := NB487_489.out
    have hns33_1 := NB488_489.out
    have hms33_0 := NB489_487.out
    have hms33_1 := NB489_488.out
    refine skip_ (w1 := ?_) (by rfl) rfl ?_ ?_
    rotate_left
    ·go_simp
     rfl
    refine hK.out _ _ ⟨((cell_far (p := ⟨gb489, _, none⟩) NB487_489.out _).trans (((cell_far (p := ⟨gb489, _, none⟩) NB487_489.out _).trans (hHeld.1)))), ((cell_far (p := ⟨gb489, _, none⟩) NB487_489.out _).trans (((cell_far (p := ⟨gb489, _, none⟩) NB487_489.out _).trans (hHeld.2.1)))), ((cell_far (p := ⟨gb489, _, none⟩) NB488_489.out _).trans (((cell_far (p := ⟨gb489, _, none⟩) NB488_489.out _).trans (hHeld.2.2.1)))), ((cell_far (p := ⟨gb489, _, none⟩) NB488_489.out _).trans (((cell_far (p := ⟨gb489, _, none⟩) NB488_489.out _).trans (hHeld.2.2.2))))⟩ (fun hHeld => ?_)
    clear hK K
    refine pure_ (i := 14) (N := some 5) (v := ?_) (a' := ?_) #[true, true, true, true, true, true, true, true, true, true, true, true, true, true, true] rfl rfl (any_of HT_.out (by kernel_rfl)) (fun _ _ _ h => h) (Or.inl ⟨by rfl, ?_⟩) ?_ ?_
    rotate_left
    ·intro w'
     go_simp
     with_reducible rfl
    rotate_left
    ·simp only [Act.put, List.setIfInBounds_toArray, List.set_cons_zero, List.set_cons_succ, i64_w, i32_w]
     rfl
    refine done_ (done_of HT_.out (by kernel_rfl)) ?_
    try go_wp2
    refine bodyPost_ret (results_ct rfl _ _ gb489 24 #[.int .i64 t494, .int .i64 t495] (0, 0) _ rfl pk_ Tryd.underlying24 rfl (by kernel_rfl)) rfl ?_
    exact ⟨by first | rfl | (simp [errW_none, errW_some] <;> rfl) | (simp [*, errW_none, errW_some] <;> rfl), by repeat (first | (with_reducible first | exact HB.out | apply below_alloc | apply pw_below_drewN | apply below_drew1 | refine below_set ?_ GE487.out | refine below_set ?_ GE488.out | refine below_set ?_ GE489.out) | exact HB.out)⟩

end Go.Proofs.YtdphgnakigcaeaaDoor.Pc
