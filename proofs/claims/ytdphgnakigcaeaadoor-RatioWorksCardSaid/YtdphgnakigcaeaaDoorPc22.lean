/- The contracts of the functions that the laws reach, each over a plain Lean function, written by wip/ownprint.py of this claim's session. -/
import Derived.Test.YtdphgnakigcaeaaDoorPc0
import Derived.Test.YtdphgnakigcaeaaDoorPc2
import Derived.Test.YtdphgnakigcaeaaDoorPc8
import Derived.Test.YtdphgnakigcaeaaDoorPc21
namespace Go.Proofs.YtdphgnakigcaeaaDoor.Pc
open Go.RowKit Go.Proofs.YtdphgnakigcaeaaDoorW.PrintWords Go.Proofs.YtdphgnakigcaeaaDoorW.PrintLast Go.Proofs.YtdphgnakigcaeaaDoorW.PrintMore
attribute [local go_sem] max2_int min2_int max_two min_two max_three min_three max_four min_four   -- for this text's walks alone
attribute [local go_sem high] binOp_leq_p
set_option linter.unusedVariables false
set_option linter.unusedSimpArgs false

/-! ### dioramalaw04_RatioWorks: function 9 -/
mutual
def dioramalaw04_RatioWorks.l0 : Nat → List (S24) → Int → Option (Bool)
 | 0, _, _ => none
 | k + 1, x9, x10 => if x10 < (x9.length : Int) then (dioramalaw04_RatioWorks.l1 k x9 x10 0) else ((dioramalaw04_lives.f k).bind fun t555 => (some t555))
def dioramalaw04_RatioWorks.l1 : Nat → List (S24) → Int → Int → Option (Bool)
 | 0, _, _, _ => none
 | k + 1, x9, x10, x11 => if x11 < (x9.length : Int) then (if 0 ≤ x10 then (if x10 < (x9.length : Int) then (if 0 ≤ x11 then ((dioramalaw04_same.f k ((rd_T24 x9 x10).f0) ((rd_T24 x9 x10).f1) ((rd_T24 x9 x11).f0) ((rd_T24 x9 x11).f1)).bind fun t558 => (if t558 = true then (dioramalaw04_RatioWorks.l1 k x9 x10 (wrap64 (x11 + 1))) else (some false))) else (none)) else (none)) else (none)) else (dioramalaw04_RatioWorks.l0 k x9 (wrap64 (x10 + 1)))
end
def dioramalaw04_RatioWorks.f (k : Nat) (l0 : List Int) (a1_0 : Int) (a1_1 : Int) (a2_0 : Int) (a2_1 : Int) : Option (Bool) := (dioramaref01_At.f l0 0 1600).bind fun t542 => ((dioramaref01_At.f l0 1 120).bind fun t543 => ((dioramaref04_Some.f k t542 t543).bind fun bt544 => ((dioramaref01_At.f l0 2 1600).bind fun t547 => ((dioramaref01_At.f l0 3 120).bind fun t548 => ((dioramaref04_Some.f k t547 t548).bind fun bt549 => (dioramalaw04_RatioWorks.l0 k (([(⟨bt544.1, bt544.2⟩ : S24), (⟨bt549.1, bt549.2⟩ : S24), (⟨a1_0, a1_1⟩ : S24), (⟨a2_0, a2_1⟩ : S24), (⟨0, 0⟩ : S24), (⟨(-2147483648), 1⟩ : S24), (⟨1, 2147483648⟩ : S24)] : List (S24))) 0))))))
theorem dioramalaw04_RatioWorks.mono_l : ∀ k, (∀ y0 y1, LeO (dioramalaw04_RatioWorks.l0 k y0 y1) (dioramalaw04_RatioWorks.l0 (k + 1) y0 y1)) ∧ (∀ y0 y1 y2, LeO (dioramalaw04_RatioWorks.l1 k y0 y1 y2) (dioramalaw04_RatioWorks.l1 (k + 1) y0 y1 y2))
 | 0 => ⟨fun _ _ r h => by simp [dioramalaw04_RatioWorks.l0] at h, fun _ _ _ r h => by simp [dioramalaw04_RatioWorks.l1] at h⟩
 | k + 1 => by
  obtain ⟨ih0, ih1⟩ := dioramalaw04_RatioWorks.mono_l k
  refine ⟨?_, ?_⟩
  ·intro y0 y1
   unfold dioramalaw04_RatioWorks.l0
   repeat' first
   | (with_reducible exact ih0 _ _)
   | (with_reducible exact ih1 _ _ _)
   | (with_reducible exact dioramalaw04_lives.mono _)
   | (with_reducible exact dioramalaw04_same.mono _ _ _ _ _)
   | (with_reducible exact dioramaref04_Some.mono _ _ _)
   | (with_reducible exact LeO.refl _)
   | (with_reducible exact LeO.none _)
   | (with_reducible refine LeO.ite ?_ ?_)
   | (with_reducible refine LeO.bind ?_ (fun _ => ?_))
   | exact ih0 _ _
   | exact ih1 _ _ _
   | exact dioramalaw04_lives.mono _
   | exact dioramalaw04_same.mono _ _ _ _ _
   | exact dioramaref04_Some.mono _ _ _
   | exact LeO.none _
   | refine LeO.ite ?_ ?_
   | refine LeO.bind ?_ (fun _ => ?_)
  ·intro y0 y1 y2
   unfold dioramalaw04_RatioWorks.l1
   repeat' first
   | (with_reducible exact ih0 _ _)
   | (with_reducible exact ih1 _ _ _)
   | (with_reducible exact dioramalaw04_lives.mono _)
   | (with_reducible exact dioramalaw04_same.mono _ _ _ _ _)
   | (with_reducible exact dioramaref04_Some.mono _ _ _)
   | (with_reducible exact LeO.refl _)
   | (with_reducible exact LeO.none _)
   | (with_reducible refine LeO.ite ?_ ?_)
   | (with_reducible refine LeO.bind ?_ (fun _ => ?_))
   | exact ih0 _ _
   | exact ih1 _ _ _
   | exact dioramalaw04_lives.mono _
   | exact dioramalaw04_same.mono _ _ _ _ _
   | exact dioramaref04_Some.mono _ _ _
   | exact LeO.none _
   | refine LeO.ite ?_ ?_
   | refine LeO.bind ?_ (fun _ => ?_)
theorem dioramalaw04_RatioWorks.mono : ∀ a0 a1 a2 a3 a4 k, LeO (dioramalaw04_RatioWorks.f k a0 a1 a2 a3 a4) (dioramalaw04_RatioWorks.f (k + 1) a0 a1 a2 a3 a4) := by
 intro a0 a1 a2 a3 a4 k
 obtain ⟨ih0, ih1⟩ := dioramalaw04_RatioWorks.mono_l k
 unfold dioramalaw04_RatioWorks.f
 repeat' first
   | (with_reducible exact ih0 _ _)
   | (with_reducible exact ih1 _ _ _)
   | (with_reducible exact dioramalaw04_lives.mono _)
   | (with_reducible exact dioramalaw04_same.mono _ _ _ _ _)
   | (with_reducible exact dioramaref04_Some.mono _ _ _)
   | (with_reducible exact LeO.refl _)
   | (with_reducible exact LeO.none _)
   | (with_reducible refine LeO.ite ?_ ?_)
   | (with_reducible refine LeO.bind ?_ (fun _ => ?_))
   | exact ih0 _ _
   | exact ih1 _ _ _
   | exact dioramalaw04_lives.mono _
   | exact dioramalaw04_same.mono _ _ _ _ _
   | exact dioramaref04_Some.mono _ _ _
   | exact LeO.none _
   | refine LeO.ite ?_ ?_
   | refine LeO.bind ?_ (fun _ => ?_)
def dioramalaw04_RatioWorks.T10 : Bool × List (List Nat × List Nat) := (true, [([], []), ([], []), ([0, 1], [0, 1]), ([2], [2]), ([], []), ([], []), ([4, 5], [4, 5]), ([6], [6]), ([3, 7], [3, 7]), ([8], [8])])
def dioramalaw04_RatioWorks.B10 : List Nat := [0, 0, 3, 7, 0, 0, 48, 112, 255, 511]
theorem dioramalaw04_RatioWorks.tab10 : rtab .any (opsOf Tryd.f9 10) = dioramalaw04_RatioWorks.T10 := by kernel_rfl
theorem dioramalaw04_RatioWorks.bits10 : waitsOk dioramalaw04_RatioWorks.T10.2 dioramalaw04_RatioWorks.B10 = true := by kernel_rfl
set_option maxHeartbeats 8000000 in
set_option maxRecDepth 100000 in
theorem dioramalaw04_RatioWorks.calls (k : Nat) (A0 : Option Addr) (c0 : Nat) (l0 : List Int) (a1_0 : Int) (a1_1 : Int) (a2_0 : Int) (a2_1 : Int) (r : Bool) (w : World) (hv : LaidAt w) (hr0 : Kd.C (Kd.int .i64) w A0 l0.length l0) (hc0 : l0.length ≤ c0) (h : dioramalaw04_RatioWorks.f k l0 a1_0 a1_1 a2_0 a2_1 = some r) (hr : r = true) :
  Calls Tryd.prog 9 #[.slice A0 l0.length c0, .agg #[.int .i64 a1_0, .int .i64 a1_1], .agg #[.int .i64 a2_0, .int .i64 a2_1]] w fun e w' => e = .returned (.bool r) ∧ Below w.heap.size w w' := by
 have hu24 := Tryd.underlying24
 have HR0 := Aside0.mk hr0
 have HC0 := Aside0.mk hc0
 clear hr0 hc0
 have HB := Aside0.mk (Below.refl w.heap.size w)
 have H : ((dioramaref01_At.f l0 0 1600).bind fun t542 => ((dioramaref01_At.f l0 1 120).bind fun t543 => ((dioramaref04_Some.f k t542 t543).bind fun bt544 => ((dioramaref01_At.f l0 2 1600).bind fun t547 => ((dioramaref01_At.f l0 3 120).bind fun t548 => ((dioramaref04_Some.f k t547 t548).bind fun bt549 => (dioramalaw04_RatioWorks.l0 k (([(⟨bt544.1, bt544.2⟩ : S24), (⟨bt549.1, bt549.2⟩ : S24), (⟨a1_0, a1_1⟩ : S24), (⟨a2_0, a2_1⟩ : S24), (⟨0, 0⟩ : S24), (⟨(-2147483648), 1⟩ : S24), (⟨1, 2147483648⟩ : S24)] : List (S24))) 0))))))) = some r := h
 clear h
 replace H := Option.bind_eq_some_iff.mp H
 obtain ⟨t542, A40, H⟩ := H
 replace H : ((dioramaref01_At.f l0 1 120).bind fun t543 => ((dioramaref04_Some.f k t542 t543).bind fun bt544 => ((dioramaref01_At.f l0 2 1600).bind fun t547 => ((dioramaref01_At.f l0 3 120).bind fun t548 => ((dioramaref04_Some.f k t547 t548).bind fun bt549 => (dioramalaw04_RatioWorks.l0 k (([(⟨bt544.1, bt544.2⟩ : S24), (⟨bt549.1, bt549.2⟩ : S24), (⟨a1_0, a1_1⟩ : S24), (⟨a2_0, a2_1⟩ : S24), (⟨0, 0⟩ : S24), (⟨(-2147483648), 1⟩ : S24), (⟨1, 2147483648⟩ : S24)] : List (S24))) 0)))))) = some r := H
 have A4 := Aside0.mk A40
 clear A40
 replace H := Option.bind_eq_some_iff.mp H
 obtain ⟨t543, A50, H⟩ := H
 replace H : ((dioramaref04_Some.f k t542 t543).bind fun bt544 => ((dioramaref01_At.f l0 2 1600).bind fun t547 => ((dioramaref01_At.f l0 3 120).bind fun t548 => ((dioramaref04_Some.f k t547 t548).bind fun bt549 => (dioramalaw04_RatioWorks.l0 k (([(⟨bt544.1, bt544.2⟩ : S24), (⟨bt549.1, bt549.2⟩ : S24), (⟨a1_0, a1_1⟩ : S24), (⟨a2_0, a2_1⟩ : S24), (⟨0, 0⟩ : S24), (⟨(-2147483648), 1⟩ : S24), (⟨1, 2147483648⟩ : S24)] : List (S24))) 0))))) = some r := H
 have A5 := Aside0.mk A50
 clear A50
 replace H := Option.bind_eq_some_iff.mp H
 obtain ⟨⟨t544, t545⟩, A60, H⟩ := H
 replace H : ((dioramaref01_At.f l0 2 1600).bind fun t547 => ((dioramaref01_At.f l0 3 120).bind fun t548 => ((dioramaref04_Some.f k t547 t548).bind fun bt549 => (dioramalaw04_RatioWorks.l0 k (([(⟨t544, t545⟩ : S24), (⟨bt549.1, bt549.2⟩ : S24), (⟨a1_0, a1_1⟩ : S24), (⟨a2_0, a2_1⟩ : S24), (⟨0, 0⟩ : S24), (⟨(-2147483648), 1⟩ : S24), (⟨1, 2147483648⟩ : S24)] : List (S24))) 0)))) = some r := H
 have A6 := Aside0.mk A60
 clear A60
 replace H := Option.bind_eq_some_iff.mp H
 obtain ⟨t547, A70, H⟩ := H
 replace H : ((dioramaref01_At.f l0 3 120).bind fun t548 => ((dioramaref04_Some.f k t547 t548).bind fun bt549 => (dioramalaw04_RatioWorks.l0 k (([(⟨t544, t545⟩ : S24), (⟨bt549.1, bt549.2⟩ : S24), (⟨a1_0, a1_1⟩ : S24), (⟨a2_0, a2_1⟩ : S24), (⟨0, 0⟩ : S24), (⟨(-2147483648), 1⟩ : S24), (⟨1, 2147483648⟩ : S24)] : List (S24))) 0))) = some r := H
 have A7 := Aside0.mk A70
 clear A70
 replace H := Option.bind_eq_some_iff.mp H
 obtain ⟨t548, A80, H⟩ := H
 replace H : ((dioramaref04_Some.f k t547 t548).bind fun bt549 => (dioramalaw04_RatioWorks.l0 k (([(⟨t544, t545⟩ : S24), (⟨bt549.1, bt549.2⟩ : S24), (⟨a1_0, a1_1⟩ : S24), (⟨a2_0, a2_1⟩ : S24), (⟨0, 0⟩ : S24), (⟨(-2147483648), 1⟩ : S24), (⟨1, 2147483648⟩ : S24)] : List (S24))) 0)) = some r := H
 have A8 := Aside0.mk A80
 clear A80
 replace H := Option.bind_eq_some_iff.mp H
 obtain ⟨⟨t549, t550⟩, A90, H⟩ := H
 replace H : (dioramalaw04_RatioWorks.l0 k (([(⟨t544, t545⟩ : S24), (⟨t549, t550⟩ : S24), (⟨a1_0, a1_1⟩ : S24), (⟨a2_0, a2_1⟩ : S24), (⟨0, 0⟩ : S24), (⟨(-2147483648), 1⟩ : S24), (⟨1, 2147483648⟩ : S24)] : List (S24))) 0) = some r := H
 have A9 := Aside0.mk A90
 clear A90
 obtain ⟨y552, hy552⟩ : ∃ y_ : List (S24), y_ = (([(⟨t544, t545⟩ : S24), (⟨t549, t550⟩ : S24), (⟨a1_0, a1_1⟩ : S24), (⟨a2_0, a2_1⟩ : S24), (⟨0, 0⟩ : S24), (⟨(-2147483648), 1⟩ : S24), (⟨1, 2147483648⟩ : S24)] : List (S24))) := ⟨_, rfl⟩
 replace H : (dioramalaw04_RatioWorks.l0 k y552 0) = some r := by first | (rw [hy552]; with_reducible exact H) | (have H2_ := (Option.bind_some _ _).symm.trans H; rw [hy552]; with_reducible exact H2_) | (have H2_ := (Option.bind_some _ _).symm.trans H; with_reducible exact H2_) | with_reducible exact H | (rw [hy552]; exact H) | exact H
 have Ny552 := Aside0.mk hy552
 clear hy552
 have H' := Aside0.mk H
 clear H
 go_enter Tryd.func9, Tryd.ntmps9
 go_wp2_with (first | ((with_reducible refine gate_dst (N := 4) rfl ?_); refine box_event ?hg (N := 4) ?hd (cs := #[.int .i64 a1_0, .int .i64 a1_1]) (t := 24) ?hr ?_; (case hd => rfl); (case hg => rfl); (case hr => first | (go_simp; done) | (go_simp; rfl)); intro gb540 hg w10 hbox hb; have BK540 := Aside0.mk (hbox); have GW540 := gw_ (w := w) hg; have GE540 := gw_ (w := w) hg; replace HB := Aside0.mk (below_step bl_ hb); clear hb hbox hg) | ((with_reducible refine gate_dst (N := 5) rfl ?_); refine box_event ?hg (N := 5) ?hd (cs := #[.int .i64 a2_0, .int .i64 a2_1]) (t := 24) ?hr ?_; (case hd => rfl); (case hg => rfl); (case hr => first | (go_simp; done) | (go_simp; rfl)); intro gb541 hg w11 hbox hb; have BK541 := Aside0.mk (hbox); have GW541 := gw_ (w := w) hg; have GE541 := gw_ (w := w) hg; have NB540_541 := nl_ BK540 hg; have NB541_540 := ng_ BK540 hg; replace BK540 := up_ BK540 hb; replace HB := Aside0.mk (below_step bl_ hb); clear hb hbox hg) | ((with_reducible refine gate_callee (f := 23) rfl ?_); refine goesL_ (some 13) rfl rfl Tryd.func23 (by kernel_rfl) rfl #[.slice A0 l0.length c0, .int .i64 0, .int .i64 1600] rfl (by (try simp only [List.map_toArray, List.map_cons, List.map_nil]); first | done | rfl | (simp only [List.length_drop, List.length_take]; rfl)) ?_; (with_reducible refine (dioramaref01_At.calls _ _ l0 0 1600 t542 _ ?side1 ?side2 A4.out).mono ?_); (case side1 => repeat (first | exact (Kd.C_below HR0.out HB.out) | (with_reducible refine Kd.C_alloc ?_ _) | (with_reducible refine Kd.C_drewN ?_ _) | (with_reducible refine Kd.C_drew ?_))); (case side2 => exact HC0.out); rintro e w' ⟨rfl, ⟨nd, rfl⟩⟩; refine ⟨_, rfl, ?_⟩; (try (rw [drewN_self w11]; generalize hq_ : World.drewN w11 _ = w11; have n0_ : Aside0 (w11.heap[gb540]? = some (.cells #[.int .i64 a1_0, .int .i64 a1_1] 24 (0, 0))) := ⟨by rw [← hq_]; exact pk_⟩; have n1_ : Aside0 (w11.heap[gb541]? = some (.cells #[.int .i64 a2_0, .int .i64 a2_1] 24 (0, 0))) := ⟨by rw [← hq_]; exact pk_⟩; have n2_ : Aside0 (Below w.heap.size w w11) := ⟨by rw [← hq_]; exact bl_⟩; clear BK540 BK541 HB hq_; have BK540 := n0_; have BK541 := n1_; have HB := n2_; clear n0_ n1_ n2_))) | ((with_reducible refine gate_callee (f := 23) rfl ?_); refine goesL_ (some 15) rfl rfl Tryd.func23 (by kernel_rfl) rfl #[.slice A0 l0.length c0, .int .i64 1, .int .i64 120] rfl (by (try simp only [List.map_toArray, List.map_cons, List.map_nil]); first | done | rfl | (simp only [List.length_drop, List.length_take]; rfl)) ?_; (with_reducible refine (dioramaref01_At.calls _ _ l0 1 120 t543 _ ?side1 ?side2 A5.out).mono ?_); (case side1 => repeat (first | exact (Kd.C_below HR0.out HB.out) | (with_reducible refine Kd.C_alloc ?_ _) | (with_reducible refine Kd.C_drewN ?_ _) | (with_reducible refine Kd.C_drew ?_))); (case side2 => exact HC0.out); rintro e w' ⟨rfl, ⟨nd, rfl⟩⟩; refine ⟨_, rfl, ?_⟩; (try (rw [drewN_self w11]; generalize hq_ : World.drewN w11 _ = w11; have n0_ : Aside0 (w11.heap[gb540]? = some (.cells #[.int .i64 a1_0, .int .i64 a1_1] 24 (0, 0))) := ⟨by rw [← hq_]; exact pk_⟩; have n1_ : Aside0 (w11.heap[gb541]? = some (.cells #[.int .i64 a2_0, .int .i64 a2_1] 24 (0, 0))) := ⟨by rw [← hq_]; exact pk_⟩; have n2_ : Aside0 (Below w.heap.size w w11) := ⟨by rw [← hq_]; exact bl_⟩; clear BK540 BK541 HB hq_; have BK540 := n0_; have BK541 := n1_; have HB := n2_; clear n0_ n1_ n2_))) | ((with_reducible refine gate_callee (f := 22) rfl ?_); refine goesL_ (some 16) rfl rfl Tryd.func22 (by kernel_rfl) rfl #[.int .i64 t542, .int .i64 t543] rfl (by (try simp only [List.map_toArray, List.map_cons, List.map_nil]); first | done | rfl | (simp only [List.length_drop, List.length_take]; rfl)) ?_; (with_reducible refine (dioramaref04_Some.calls k t542 t543 t544 t545 _ A6.out).mono ?_); rintro e w12 ⟨rfl, hb⟩; refine ⟨_, rfl, ?_⟩; replace BK540 := up_ BK540 hb; replace BK541 := up_ BK541 hb; replace HB := Aside0.mk (below_step bl_ hb); (try clear hb); (try clear hb2); (try clear hk); (try clear hi)) | ((with_reducible refine gate_dst (N := 7) rfl ?_); refine box_event ?hg (N := 7) ?hd (cs := #[.int .i64 0, .int .i64 0]) (t := 24) ?hr ?_; (case hd => rfl); (case hg => rfl); (case hr => first | (go_simp; done) | (go_simp; rfl)); intro gb546 hg w13 hbox hb; have BK546 := Aside0.mk (hbox); have GW546 := gw_ (w := w) hg; have GE546 := gw_ (w := w) hg; have NB540_546 := nl_ BK540 hg; have NB546_540 := ng_ BK540 hg; have NB541_546 := nl_ BK541 hg; have NB546_541 := ng_ BK541 hg; replace BK540 := up_ BK540 hb; replace BK541 := up_ BK541 hb; replace HB := Aside0.mk (below_step bl_ hb); clear hb hbox hg; have hnb14 := NB546_540.out; have hnc14 := NB540_546.out; have hnb15 := NB546_541.out; have hnc15 := NB541_546.out; have hcz16_0 : w13.cell? ⟨gb546, 0, none⟩ = some (.int .i64 0) := (blk_cell BK546.out 0).trans rfl; have hcz16_1 : w13.cell? ⟨gb546, 1, none⟩ = some (.int .i64 0) := (blk_cell BK546.out 1).trans rfl; have hfz16_0 := blk_frozen BK546.out 0; have hfz16_1 := blk_frozen BK546.out 1) | ((with_reducible refine gate_callee (f := 23) rfl ?_); refine goesL_ (some 18) rfl rfl Tryd.func23 (by kernel_rfl) rfl #[.slice A0 l0.length c0, .int .i64 2, .int .i64 1600] rfl (by (try simp only [List.map_toArray, List.map_cons, List.map_nil]); first | done | rfl | (simp only [List.length_drop, List.length_take]; rfl)) ?_; (with_reducible refine (dioramaref01_At.calls _ _ l0 2 1600 t547 _ ?side1 ?side2 A7.out).mono ?_); (case side1 => exact Kd.C_below HR0.out bl_); (case side2 => exact HC0.out); rintro e w' ⟨rfl, ⟨nd, rfl⟩⟩; refine ⟨_, rfl, ?_⟩) | ((with_reducible refine gate_callee (f := 23) rfl ?_); refine goesL_ (some 20) rfl rfl Tryd.func23 (by kernel_rfl) rfl #[.slice A0 l0.length c0, .int .i64 3, .int .i64 120] rfl (by (try simp only [List.map_toArray, List.map_cons, List.map_nil]); first | done | rfl | (simp only [List.length_drop, List.length_take]; rfl)) ?_; (with_reducible refine (dioramaref01_At.calls _ _ l0 3 120 t548 _ ?side1 ?side2 A8.out).mono ?_); (case side1 => exact Kd.C_below HR0.out bl_); (case side2 => exact HC0.out); rintro e w' ⟨rfl, ⟨nd, rfl⟩⟩; refine ⟨_, rfl, ?_⟩) | ((with_reducible refine gate_callee (f := 22) rfl ?_); refine goesL_ (some 21) rfl rfl Tryd.func22 (by kernel_rfl) rfl #[.int .i64 t547, .int .i64 t548] rfl (by (try simp only [List.map_toArray, List.map_cons, List.map_nil]); first | done | rfl | (simp only [List.length_drop, List.length_take]; rfl)) ?_; (with_reducible refine (dioramaref04_Some.calls k t547 t548 t549 t550 _ A9.out).mono ?_); rintro e w17 ⟨rfl, hb⟩; refine ⟨_, rfl, ?_⟩; replace BK540 := up_ BK540 hb; replace BK541 := up_ BK541 hb; replace BK546 := up24_ gb546 t544 t545 hb; replace HB := Aside0.mk (below_step bl_ hb); (try clear hb); (try clear hb2); (try clear hk); (try clear hi)) | ((with_reducible refine gate_dst (N := 8) rfl ?_); refine box_event ?hg (N := 8) ?hd (cs := #[.int .i64 0, .int .i64 0]) (t := 24) ?hr ?_; (case hd => rfl); (case hg => rfl); (case hr => first | (go_simp; done) | (go_simp; rfl)); intro gb551 hg w18 hbox hb; have BK551 := Aside0.mk (hbox); have GW551 := gw_ (w := w) hg; have GE551 := gw_ (w := w) hg; have NB540_551 := nl_ BK540 hg; have NB551_540 := ng_ BK540 hg; have NB541_551 := nl_ BK541 hg; have NB551_541 := ng_ BK541 hg; have NB546_551 := nl_ BK546 hg; have NB551_546 := ng_ BK546 hg; replace BK540 := up_ BK540 hb; replace BK541 := up_ BK541 hb; replace BK546 := up_ BK546 hb; replace HB := Aside0.mk (below_step bl_ hb); clear hb hbox hg; have hnb19 := NB551_540.out; have hnc19 := NB540_551.out; have hnb20 := NB551_541.out; have hnc20 := NB541_551.out; have hnb21 := NB551_546.out; have hnc21 := NB546_551.out; have hcz22_0 : w18.cell? ⟨gb551, 0, none⟩ = some (.int .i64 0) := (blk_cell BK551.out 0).trans rfl; have hcz22_1 : w18.cell? ⟨gb551, 1, none⟩ = some (.int .i64 0) := (blk_cell BK551.out 1).trans rfl; have hfz22_0 := blk_frozen BK551.out 0; have hfz22_1 := blk_frozen BK551.out 1; have hcz23_0 : w18.cell? ⟨gb546, 0, none⟩ = some (.int .i64 t544) := (blk_cell BK546.out 0).trans rfl; have hcz23_1 : w18.cell? ⟨gb546, 1, none⟩ = some (.int .i64 t545) := (blk_cell BK546.out 1).trans rfl; have hfz23_0 := blk_frozen BK546.out 0; have hfz23_1 := blk_frozen BK546.out 1; have hnb24 := NB540_541.out; have hnc24 := NB541_540.out; have hcz25_0 : w18.cell? ⟨gb540, 0, none⟩ = some (.int .i64 a1_0) := (blk_cell BK540.out 0).trans rfl; have hcz25_1 : w18.cell? ⟨gb540, 1, none⟩ = some (.int .i64 a1_1) := (blk_cell BK540.out 1).trans rfl; have hfz25_0 := blk_frozen BK540.out 0; have hfz25_1 := blk_frozen BK540.out 1; have hcz26_0 : w18.cell? ⟨gb541, 0, none⟩ = some (.int .i64 a2_0) := (blk_cell BK541.out 0).trans rfl; have hcz26_1 : w18.cell? ⟨gb541, 1, none⟩ = some (.int .i64 a2_1) := (blk_cell BK541.out 1).trans rfl; have hfz26_0 := blk_frozen BK541.out 0; have hfz26_1 := blk_frozen BK541.out 1) | ((with_reducible refine gate_dst (N := 29) rfl ?_); refine Kd.R_lit k24 _ 24 ?hg (N := 29) ?hd (xs := ([(⟨t544, t545⟩ : S24), (⟨t549, t550⟩ : S24), (⟨a1_0, a1_1⟩ : S24), (⟨a2_0, a2_1⟩ : S24), (⟨0, 0⟩ : S24), (⟨(-2147483648), 1⟩ : S24), (⟨1, 2147483648⟩ : S24)] : List (S24))) (inner := [.int .i64 t544, .int .i64 t545, .int .i64 t549, .int .i64 t550, .int .i64 a1_0, .int .i64 a1_1, .int .i64 a2_0, .int .i64 a2_1, .int .i64 0, .int .i64 0, .int .i64 (-2147483648), .int .i64 1, .int .i64 1, .int .i64 2147483648]) (ok := fun _ => True) (okp := fun _ => True) ?hr ?hp (fun _ hk => hk) trivial (Below.refl _ _) (Nat.le_refl _) (by simp) ?_; (case hd => rfl); (case hg => rfl); (case hr => first | (go_simp; done) | (go_simp; rfl)); (case hp => exact (Reps.c2 (show Kd.M k24 _ _ _ (⟨t544, t545⟩ : S24) [.int .i64 t544, .int .i64 t545] from (k24_mkM _ _ _ (⟨t544, t545⟩ : S24) )) (Reps.c2 (show Kd.M k24 _ _ _ (⟨t549, t550⟩ : S24) [.int .i64 t549, .int .i64 t550] from (k24_mkM _ _ _ (⟨t549, t550⟩ : S24) )) (Reps.c2 (show Kd.M k24 _ _ _ (⟨a1_0, a1_1⟩ : S24) [.int .i64 a1_0, .int .i64 a1_1] from (k24_mkM _ _ _ (⟨a1_0, a1_1⟩ : S24) )) (Reps.c2 (show Kd.M k24 _ _ _ (⟨a2_0, a2_1⟩ : S24) [.int .i64 a2_0, .int .i64 a2_1] from (k24_mkM _ _ _ (⟨a2_0, a2_1⟩ : S24) )) (Reps.c2 (show Kd.M k24 _ _ _ (⟨0, 0⟩ : S24) [.int .i64 0, .int .i64 0] from (k24_mkM _ _ _ (⟨0, 0⟩ : S24) )) (Reps.c2 (show Kd.M k24 _ _ _ (⟨(-2147483648), 1⟩ : S24) [.int .i64 (-2147483648), .int .i64 1] from (k24_mkM _ _ _ (⟨(-2147483648), 1⟩ : S24) )) (Reps.c2 (show Kd.M k24 _ _ _ (⟨1, 2147483648⟩ : S24) [.int .i64 1, .int .i64 2147483648] from (k24_mkM _ _ _ (⟨1, 2147483648⟩ : S24) )) (Reps.none _ _))))))))); intro v553 w27 ho28 hb hg_ hnew_; clear hg_ hnew_; (first | rw [← Ny552.out] at ho28 | (simp only [Int.reduceToNat] at ho28; rw [← Ny552.out] at ho28)); have HO554 := Aside0.mk (Kd.R_lower (Kd.R_newB (Kd.R_newB (Kd.R_newB (Kd.R_newB ho28 (g := gb540) (o := .cells #[.int .i64 a1_0, .int .i64 a1_1] 24 (0, 0)) pk_) (g := gb541) (o := .cells #[.int .i64 a2_0, .int .i64 a2_1] 24 (0, 0)) pk_) (g := gb546) (o := .cells #[.int .i64 t544, .int .i64 t545] 24 (0, 0)) pk_) (g := gb551) (o := .cells #[.int .i64 t549, .int .i64 t550] 24 (0, 0)) pk_) (below_size bl_)); replace BK540 := up_ BK540 hb; replace BK541 := up_ BK541 hb; replace BK546 := up_ BK546 hb; replace BK551 := up24_ gb551 t549 t550 hb; replace HB := Aside0.mk (below_step bl_ hb); clear hb ho28))
 go_loopg [10] k (fun kq v10 w' => ∃ (x10_1 : Int), v10 = .int .i64 x10_1 ∧ Aside0 (dioramalaw04_RatioWorks.l0 kq y552 x10_1 = some r) ∧ Aside0 (kq ≤ k) ∧ Aside0 (Kd.R k24 24 w' w.heap.size (fun k_ => k_ ≠ gb540 ∧ k_ ≠ gb541 ∧ k_ ≠ gb546 ∧ k_ ≠ gb551) v553 y552) ∧ Aside0 (w'.heap[gb540]? = some (.cells #[.int .i64 a1_0, .int .i64 a1_1] 24 (0, 0))) ∧ Aside0 (w'.heap[gb541]? = some (.cells #[.int .i64 a2_0, .int .i64 a2_1] 24 (0, 0))) ∧ Aside0 (w'.heap[gb546]? = some (.cells #[.int .i64 t544, .int .i64 t545] 24 (0, 0))) ∧ Aside0 (w'.heap[gb551]? = some (.cells #[.int .i64 t549, .int .i64 t550] 24 (0, 0))) ∧ Aside0 (Below w.heap.size w w'))
 case atStart => exact ⟨(0), (by first | rfl | (simp; done) | (simp [*]; done)), H', ⟨Nat.le_refl _⟩, ⟨by (with_reducible repeat (first | apply Kd.R_alloc | apply Kd.R_drewN | apply Kd.R_drew)); exact Kd.R_mono HO554.out (fun _ hk => ⟨hk.1.1.1.2, ⟨hk.1.1.2, ⟨hk.1.2, hk.2⟩⟩⟩)⟩, ⟨pk_⟩, ⟨pk_⟩, ⟨pk_⟩, ⟨pk_⟩, ⟨bl_⟩⟩
 case round =>
  clear H'
  (try clear hcz16_0); (try clear hcz16_1); (try clear hcz22_0); (try clear hcz22_1); (try clear hcz23_0); (try clear hcz23_1); (try clear hcz25_0); (try clear hcz25_1); (try clear hcz26_0); (try clear hcz26_1); (try clear hfz16_0); (try clear hfz16_1); (try clear hfz22_0); (try clear hfz22_1); (try clear hfz23_0); (try clear hfz23_1); (try clear hfz25_0); (try clear hfz25_1); (try clear hfz26_0); (try clear hfz26_1)
  obtain ⟨x10_1, rfl, HA, HK1, HO_9, BK540, BK541, BK546, BK551, HB⟩ := hrel
  cases gk with
  | zero => exact absurd HA.out (by simp [dioramalaw04_RatioWorks.l0])
  | succ k1 =>
   have H := HA.out
   clear HA
   simp only [dioramalaw04_RatioWorks.l0] at H
   by_cases c29 : x10_1 < (y552.length : Int)
   ·rw [if_pos c29] at H
    have c29b0 : decide (x10_1 < (y552.length : Int)) = true := decide_eq_true c29
    clear c29
    have H' := Aside0.mk H
    clear H
    obtain ⟨Ao30, co30, eo30⟩ := Kd.R_slice HO_9.out
    subst eo30
    go_wp2
    go_loopg [11] k1 (fun kq v11 w' => ∃ (x11_2 : Int), v11 = .int .i64 x11_2 ∧ Aside0 (dioramalaw04_RatioWorks.l1 kq y552 x10_1 x11_2 = some r) ∧ Aside0 (kq ≤ k1) ∧ Aside0 (Kd.R k24 24 w' w.heap.size (fun k_ => k_ ≠ gb540 ∧ k_ ≠ gb541 ∧ k_ ≠ gb546 ∧ k_ ≠ gb551) (.slice Ao30 y552.length co30) y552) ∧ Aside0 (w'.heap[gb540]? = some (.cells #[.int .i64 a1_0, .int .i64 a1_1] 24 (0, 0))) ∧ Aside0 (w'.heap[gb541]? = some (.cells #[.int .i64 a2_0, .int .i64 a2_1] 24 (0, 0))) ∧ Aside0 (w'.heap[gb546]? = some (.cells #[.int .i64 t544, .int .i64 t545] 24 (0, 0))) ∧ Aside0 (w'.heap[gb551]? = some (.cells #[.int .i64 t549, .int .i64 t550] 24 (0, 0))) ∧ Aside0 (Below w.heap.size w w'))
    case atStart => exact ⟨(0), (by first | rfl | (simp; done) | (simp [*]; done)), H', ⟨Nat.le_refl _⟩, ⟨by (with_reducible repeat (first | apply Kd.R_alloc | apply Kd.R_drewN | apply Kd.R_drew)); exact HO_9.out⟩, ⟨pk_⟩, ⟨pk_⟩, ⟨pk_⟩, ⟨pk_⟩, ⟨bl_⟩⟩
    case round =>
     clear H'
     (try clear c29); (try clear c29b0); (try clear hcz16_0); (try clear hcz16_1); (try clear hcz22_0); (try clear hcz22_1); (try clear hcz23_0); (try clear hcz23_1); (try clear hcz25_0); (try clear hcz25_1); (try clear hcz26_0); (try clear hcz26_1); (try clear hfz16_0); (try clear hfz16_1); (try clear hfz22_0); (try clear hfz22_1); (try clear hfz23_0); (try clear hfz23_1); (try clear hfz25_0); (try clear hfz25_1); (try clear hfz26_0); (try clear hfz26_1)
     obtain ⟨x11_2, rfl, HA, HK2, HO_9, BK540, BK541, BK546, BK551, HB⟩ := hrel
     cases gk with
     | zero => exact absurd HA.out (by simp [dioramalaw04_RatioWorks.l1])
     | succ k2 =>
      have H := HA.out
      clear HA
      simp only [dioramalaw04_RatioWorks.l1] at H
      by_cases c31 : x11_2 < (y552.length : Int)
      ·rw [if_pos c31] at H
       have c31b0 : decide (x11_2 < (y552.length : Int)) = true := decide_eq_true c31
       clear c31
       by_cases c32 : 0 ≤ x10_1
       ·rw [if_pos c32] at H
        have c32b0 : decide (0 ≤ x10_1) = true := decide_eq_true c32
        clear c32
        by_cases c33 : x10_1 < (y552.length : Int)
        ·rw [if_pos c33] at H
         have c33b0 : decide (x10_1 < (y552.length : Int)) = true := decide_eq_true c33
         clear c33
         by_cases c34 : 0 ≤ x11_2
         ·rw [if_pos c34] at H
          have c34b0 : decide (0 ≤ x11_2) = true := decide_eq_true c34
          clear c34
          replace H := Option.bind_eq_some_iff.mp H
          obtain ⟨t558, A350, H⟩ := H
          replace H : (if t558 = true then (dioramalaw04_RatioWorks.l1 k2 y552 x10_1 (wrap64 (x11_2 + 1))) else (some false)) = some r := H
          have A35 := Aside0.mk A350
          clear A350
          by_cases c36 : t558 = true
          ·subst c36
           have H1 : (dioramalaw04_RatioWorks.l1 k2 y552 x10_1 (wrap64 (x11_2 + 1))) = some r := by rw [if_pos rfl] at H; exact H
           clear H
           have H := H1
           clear H1
           have H' := Aside0.mk H
           clear H
           try go_wp2
           have n0_ := Aside0.mk (Kd.R_drew HO_9.out)
           have n1_ := Aside0.mk (blk_drew BK540.out)
           have n2_ := Aside0.mk (blk_drew BK541.out)
           have n3_ := Aside0.mk (blk_drew BK546.out)
           have n4_ := Aside0.mk (blk_drew BK551.out)
           have n5_ := Aside0.mk (below_drew1 HB.out)
           clear HO_9; clear BK540; clear BK541; clear BK546; clear BK551; clear HB
           have HO_9 := n0_
           have BK540 := n1_
           have BK541 := n2_
           have BK546 := n3_
           have BK551 := n4_
           have HB := n5_
           clear n0_ n1_ n2_ n3_ n4_ n5_
           have p556 : 0 ≤ (x10_1 : Int) := of_decide_eq_true (by first | (with_reducible assumption) | assumption)
           have q556 : x10_1 < (y552.length : Int) := of_decide_eq_true (by first | (with_reducible assumption) | assumption)
           obtain ⟨ad556, e556, hx556_0, hx556_1⟩ := at_T24 (Kd.R_reads' HO_9.out).2.2 x10_1 p556 q556
           cases e556
           replace p556 := eq_true p556
           replace q556 := eq_true q556
           have p557 : 0 ≤ (x11_2 : Int) := of_decide_eq_true (by first | (with_reducible assumption) | assumption)
           have q557 : x11_2 < (y552.length : Int) := of_decide_eq_true (by first | (with_reducible assumption) | assumption)
           obtain ⟨ad557, e557, hx557_0, hx557_1⟩ := at_T24 (Kd.R_reads' HO_9.out).2.2 x11_2 p557 q557
           obtain rfl : ad556 = ad557 := (by injection e557)
           replace p557 := eq_true p557
           replace q557 := eq_true q557
           refine start_ (n := 10) (S := fun w' => w'.cell? (ad556.add ((x10_1).toNat * 2)) = some (.int .i64 ((rd_T24 y552 x10_1).f0)) ∧ w'.cell? ⟨(ad556.add ((x10_1).toNat * 2)).block, (ad556.add ((x10_1).toNat * 2)).off + 1, none⟩ = some (.int .i64 ((rd_T24 y552 x10_1).f1)) ∧ w'.cell? (ad556.add ((x11_2).toNat * 2)) = some (.int .i64 ((rd_T24 y552 x11_2).f0)) ∧ w'.cell? ⟨(ad556.add ((x11_2).toNat * 2)).block, (ad556.add ((x11_2).toNat * 2)).off + 1, none⟩ = some (.int .i64 ((rd_T24 y552 x11_2).f1))) (ds := []) #[false, false, false, false, false, false, false, false, false, false] (by kernel_rfl) rfl rfl ⟨hx556_0, hx556_1, hx557_0, hx557_1⟩ (fun hHeld => ?_); refine with_tabW dioramalaw04_RatioWorks.tab10 dioramalaw04_RatioWorks.bits10 (fun HT_ HW_ => ?_)
           generalize wr.drew = w37 at HO_9 BK540 BK541 BK546 BK551 HB hx556_0 hx556_1 hx557_0 hx557_1 hHeld ⊢
           refine pure_ (i := 0) (N := some 42) (v := ?_) (a' := ?_) #[true, false, false, false, false, false, false, false, false, false] rfl rfl (any_of HT_.out (by kernel_rfl)) (fun _ _ _ h => h) (Or.inl ⟨by rfl, ?_⟩) ?_ ?_
           rotate_left
           ·intro w'
            go_simp
            with_reducible rfl
           rotate_left
           ·simp only [Act.put, List.setIfInBounds_toArray, List.set_cons_zero, List.set_cons_succ, i64_w, i32_w]
            rfl
           refine pure_ (i := 1) (N := some 43) (v := ?_) (a' := ?_) #[true, true, false, false, false, false, false, false, false, false] rfl rfl (any_of HT_.out (by kernel_rfl)) (fun _ _ _ h => h) (Or.inl ⟨by rfl, ?_⟩) ?_ ?_
           rotate_left
           ·intro w'
            go_simp
            with_reducible rfl
           rotate_left
           ·simp only [Act.put, List.setIfInBounds_toArray, List.set_cons_zero, List.set_cons_succ, i64_w, i32_w]
            rfl
           refine pure_ (i := 2) (N := some 44) (v := ?_) (a' := ?_) #[true, true, true, false, false, false, false, false, false, false] rfl rfl (any_of HT_.out (by kernel_rfl)) (fun _ _ _ h => h) (Or.inl ⟨by rfl, ?_⟩) ?_ ?_
           rotate_left
           ·intro w'
            go_simp
            with_reducible rfl
           rotate_left
           ·simp only [Act.put, List.setIfInBounds_toArray, List.set_cons_zero, List.set_cons_succ, i64_w, i32_w]
            rfl
           refine pure_ (i := 4) (N := some 46) (v := ?_) (a' := ?_) #[true, true, true, false, true, false, false, false, false, false] rfl rfl (any_of HT_.out (by kernel_rfl)) (fun _ _ _ h => h) (Or.inl ⟨by rfl, ?_⟩) ?_ ?_
           rotate_left
           ·intro w'
            go_simp
            with_reducible rfl
           rotate_left
           ·simp only [Act.put, List.setIfInBounds_toArray, List.set_cons_zero, List.set_cons_succ, i64_w, i32_w]
            rfl
           refine pure_ (i := 5) (N := some 47) (v := ?_) (a' := ?_) #[true, true, true, false, true, true, false, false, false, false] rfl rfl (any_of HT_.out (by kernel_rfl)) (fun _ _ _ h => h) (Or.inl ⟨by rfl, ?_⟩) ?_ ?_
           rotate_left
           ·intro w'
            go_simp
            with_reducible rfl
           rotate_left
           ·simp only [Act.put, List.setIfInBounds_toArray, List.set_cons_zero, List.set_cons_succ, i64_w, i32_w]
            rfl
           refine pure_ (i := 6) (N := some 48) (v := ?_) (a' := ?_) #[true, true, true, false, true, true, true, false, false, false] rfl rfl (any_of HT_.out (by kernel_rfl)) (fun _ _ _ h => h) (Or.inl ⟨by rfl, ?_⟩) ?_ ?_
           rotate_left
           ·intro w'
            go_simp
            with_reducible rfl
           rotate_left
           ·simp only [Act.put, List.setIfInBounds_toArray, List.set_cons_zero, List.set_cons_succ, i64_w, i32_w]
            rfl
           refine take_ (i := 3) (N := some 45) (v := ?_) (a' := ?_) #[true, true, true, true, true, true, true, false, false, false] rfl rfl (take_ofW HT_.out HW_.out (by kernel_rfl)) (fun _ _ _ h => h) (Or.inl ⟨by rfl, ?_⟩) hHeld ?_ ?_
           rotate_left
           ·rintro w' ⟨s0, s1, s2, s3⟩
            go_simp
            with_reducible rfl
           rotate_left
           ·simp only [Act.put, List.setIfInBounds_toArray, List.set_cons_zero, List.set_cons_succ, i64_w, i32_w]
            rfl
           refine take_ (i := 7) (N := some 49) (v := ?_) (a' := ?_) #[true, true, true, true, true, true, true, true, false, false] rfl rfl (take_ofW HT_.out HW_.out (by kernel_rfl)) (fun _ _ _ h => h) (Or.inl ⟨by rfl, ?_⟩) hHeld ?_ ?_
           rotate_left
           ·rintro w' ⟨s0, s1, s2, s3⟩
            go_simp
            with_reducible rfl
           rotate_left
           ·simp only [Act.put, List.setIfInBounds_toArray, List.set_cons_zero, List.set_cons_succ, i64_w, i32_w]
            rfl
           refine one_ (i := 8) (N := some 50) #[true, true, true, true, true, true, true, true, true, false] rfl rfl (one_of HT_.out (by kernel_rfl)) (by decide) (fun K hK => ?_)
           refine goes_ Tryd.func29 (by kernel_rfl) rfl #[.agg #[.int .i64 ((rd_T24 y552 x10_1).f0), .int .i64 ((rd_T24 y552 x10_1).f1)], .agg #[.int .i64 ((rd_T24 y552 x11_2).f0), .int .i64 ((rd_T24 y552 x11_2).f1)]] (by rfl) rfl rfl (by (try simp only [List.map_toArray, List.map_cons, List.map_nil]); first | done | rfl | (simp only [List.length_drop, List.length_take]; rfl)) ?_
           with_reducible refine (dioramalaw04_same.calls (hv := hv.step (by repeat (first | (with_reducible first | exact HB.out | apply below_alloc | apply pw_below_drewN | apply below_drew1 | refine below_set ?_ (Aside0.out (by assumption))) | exact HB.out))) k2 ((rd_T24 y552 x10_1).f0) ((rd_T24 y552 x10_1).f1) ((rd_T24 y552 x11_2).f0) ((rd_T24 y552 x11_2).f1) true _ A35.out rfl).mono ?_
           rintro e w38 ⟨rfl, hb⟩
           have HS0_ := (hb.cell (World.block_lt_of_cell? _ _ (hHeld.1))).trans (hHeld.1)
           have HS1_ := (hb.cell (World.block_lt_of_cell? _ _ (hHeld.2.1))).trans (hHeld.2.1)
           have HS2_ := (hb.cell (World.block_lt_of_cell? _ _ (hHeld.2.2.1))).trans (hHeld.2.2.1)
           have HS3_ := (hb.cell (World.block_lt_of_cell? _ _ (hHeld.2.2.2))).trans (hHeld.2.2.2)
           refine ⟨_, rfl, ?_⟩
           have n0_ := Aside0.mk (Kd.R_below (by (with_reducible repeat (first | apply Kd.R_alloc | apply Kd.R_drewN | apply Kd.R_drew)); exact HO_9.out) hb)
           have n1_ := Aside0.mk (blk_below (g := gb540) (o := .cells #[.int .i64 a1_0, .int .i64 a1_1] 24 (0, 0)) pk_ hb)
           have n2_ := Aside0.mk (blk_below (g := gb541) (o := .cells #[.int .i64 a2_0, .int .i64 a2_1] 24 (0, 0)) pk_ hb)
           have n3_ := Aside0.mk (blk_below (g := gb546) (o := .cells #[.int .i64 t544, .int .i64 t545] 24 (0, 0)) pk_ hb)
           have n4_ := Aside0.mk (blk_below (g := gb551) (o := .cells #[.int .i64 t549, .int .i64 t550] 24 (0, 0)) pk_ hb)
           have n5_ := Aside0.mk (below_step bl_ hb)
           clear HO_9; clear BK540; clear BK541; clear BK546; clear BK551; clear HB
           have HO_9 := n0_
           have BK540 := n1_
           have BK541 := n2_
           have BK546 := n3_
           have BK551 := n4_
           have HB := n5_
           clear n0_ n1_ n2_ n3_ n4_ n5_
           (try clear hb); (try clear hb2); (try clear hk); (try clear hi)
           refine hK.out _ _ ⟨HS0_, HS1_, HS2_, HS3_⟩ (fun hHeld => ?_)
           clear hK K
           refine norm_ (a' := ?_) ?_ ?_
           rotate_left
           ·show Act.put _ (some 50) _ = _
            simp only [Act.put, List.setIfInBounds_toArray, List.set_cons_zero, List.set_cons_succ, i64_w, i32_w]
            rfl
           refine pure_ (i := 9) (N := some 51) (v := ?_) (a' := ?_) #[true, true, true, true, true, true, true, true, true, true] rfl rfl (any_of HT_.out (by kernel_rfl)) (fun _ _ _ h => h) (Or.inl ⟨by rfl, ?_⟩) ?_ ?_
           rotate_left
           ·intro w'
            go_simp
            with_reducible rfl
           rotate_left
           ·simp only [Act.put, List.setIfInBounds_toArray, List.set_cons_zero, List.set_cons_succ, i64_w, i32_w]
            rfl
           refine done_ (done_of HT_.out (by kernel_rfl)) ?_
           try go_wp2
           go_roundg k2
           case measure => have := HK1.out; have := HK2.out; omega
           case rel => exact ⟨(wrap64 (x11_2 + 1)), (by first | rfl | (simp; done) | (simp [*]; done)), H', ⟨by have := HK1.out; have := HK2.out; omega⟩, ⟨by (with_reducible repeat (first | apply Kd.R_alloc | apply Kd.R_drewN | apply Kd.R_drew)); exact HO_9.out⟩, ⟨pk_⟩, ⟨pk_⟩, ⟨pk_⟩, ⟨pk_⟩, ⟨bl_⟩⟩
          ·replace c36 := Bool.eq_false_iff.mpr c36
           subst c36
           have H1 : (some false) = some r := by rw [if_neg (show ¬ (false = true) by decide)] at H; exact H
           clear H
           have H := H1
           clear H1
           obtain rfl := Option.some.inj H
           cases hr
         ·rw [if_neg c34] at H
          exact absurd H (by simp)
        ·rw [if_neg c33] at H
         exact absurd H (by simp)
       ·rw [if_neg c32] at H
        exact absurd H (by simp)
      ·rw [if_neg c31] at H
       have c31b0 : decide (x11_2 < (y552.length : Int)) = false := decide_eq_false c31
       clear c31
       have H' := Aside0.mk H
       clear H
       go_wp2
       go_roundg k2
       case measure => have := HK1.out; have := HK2.out; omega
       case rel => exact ⟨(wrap64 (x10_1 + 1)), (by first | rfl | (simp; done) | (simp [*]; done)), H', ⟨by have := HK1.out; have := HK2.out; omega⟩, ⟨by (with_reducible repeat (first | apply Kd.R_alloc | apply Kd.R_drewN | apply Kd.R_drew)); exact HO_9.out⟩, ⟨pk_⟩, ⟨pk_⟩, ⟨pk_⟩, ⟨pk_⟩, ⟨bl_⟩⟩
   ·rw [if_neg c29] at H
    have c29b0 : decide (x10_1 < (y552.length : Int)) = false := decide_eq_false c29
    clear c29
    replace H := Option.bind_eq_some_iff.mp H
    obtain ⟨t555, A410, H⟩ := H
    replace H : (some t555) = some r := H
    have A41 := Aside0.mk A410
    clear A410
    obtain rfl := Option.some.inj H
    obtain ⟨Ao42, co42, eo42⟩ := Kd.R_slice HO_9.out
    subst eo42
    go_wp2_with (first | ((with_reducible refine gate_callee (f := 15) rfl ?_); refine goesL_ (some 52) rfl rfl Tryd.func15 (by kernel_rfl) rfl #[] rfl (by (try simp only [List.map_toArray, List.map_cons, List.map_nil]); first | done | rfl | (simp only [List.length_drop, List.length_take]; rfl)) ?_; (with_reducible refine (dioramalaw04_lives.calls (hv := hv.step (by repeat (first | (with_reducible first | exact HB.out | apply below_alloc | apply pw_below_drewN | apply below_drew1 | refine below_set ?_ (Aside0.out (by assumption))) | exact HB.out))) k1  t555 _ A41.out).mono ?_); rintro e w43 ⟨rfl, hb⟩; refine ⟨_, rfl, ?_⟩; replace HO_9 := Aside0.mk (Kd.R_below (by (with_reducible repeat (first | apply Kd.R_alloc | apply Kd.R_drewN | apply Kd.R_drew)); exact HO_9.out) hb); replace BK540 := up_ BK540 hb; replace BK541 := up_ BK541 hb; replace BK546 := up_ BK546 hb; replace BK551 := up_ BK551 hb; replace HB := Aside0.mk (below_step bl_ hb); (try clear hb); (try clear hb2); (try clear hk); (try clear hi)))
    go_ret
    exact ⟨by first | rfl | (simp [errW_none, errW_some] <;> rfl) | (simp [*, errW_none, errW_some] <;> rfl), by repeat (first | (with_reducible first | exact HB.out | apply below_alloc | apply pw_below_drewN | apply below_drew1 | refine below_set ?_ GE540.out | refine below_set ?_ GE541.out | refine below_set ?_ GE546.out | refine below_set ?_ GE551.out) | exact HB.out)⟩

end Go.Proofs.YtdphgnakigcaeaaDoor.Pc
