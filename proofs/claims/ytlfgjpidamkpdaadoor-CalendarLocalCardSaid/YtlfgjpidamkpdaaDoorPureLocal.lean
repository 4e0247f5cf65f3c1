/- The law CalendarLocal over plain numbers: Local and Moments of both sides give the same at every zone. -/
import Derived.Test.YtlfgjpidamkpdaaDoorM8
import Derived.Test.YtlfgjpidamkpdaaDoorWkWalkLocal
namespace Go.Proofs.YtlfgjpidamkpdaaDoor.Cal
open Go.RowKit Go.Proofs.YtlfgjpidamkpdaaDoor.Pc Go.Proofs.YtlfgjpidamkpdaaDoorW.PrintWords Go.Proofs.YtlfgjpidamkpdaaDoorW.PrintLast
set_option linter.unusedVariables false
set_option linter.unusedSimpArgs false

theorem cl_l2 {x3 x4 x11 x12 : Int} {zs : List S39} {ts ds ms : List Int} (hz : zs.length = 2) (hd : ds.length = 3) (hm : ms.length = 3) {i : Int} (i0 : 0 ≤ i) (i1 : i < 2) (n : Nat) : ∀ j : Int, 0 ≤ j → j + n = 3 →
    Ev (fun k => dioramalaw08_CalendarLocal.l0 k x3 x4 x11 x12 zs ts (i + 1)) true → Ev (fun k => dioramalaw08_CalendarLocal.l2 k x3 x4 x11 x12 zs ts i ds ms j) true := by
  induction n with
  | zero =>
    intro j j0 hj h
    refine Ev.step (fun k => ?_) h
    simp only [dioramalaw08_CalendarLocal.l2]
    rw [if_neg (by omega), w64 (by omega) (by omega)]
  | succ n ih =>
    intro j j0 hj h
    have e := ih (j + 1) (by omega) (by omega) h
    generalize hq : rd_T39 zs i = z at *
    have p1 := pmom (rd ds j) (rd ms j) z.f0 z.f1 z.f2 z.f3
    have p2 := rmom (rd ds j) (rd ms j) z.f0 z.f1 z.f2 z.f3
    have ln : ((mom (rd ds j) (rd ms j) z.f0 z.f1 z.f2 z.f3).1.length : Int) ≤ 1000 := by
      unfold mom
      split
      · split
        · have := mlist_len (1440 * rd ds j + rd ms j - z.f0) (rd ds j) (rd ms j) z.f0 z.f1 z.f2 z.f3
          simp only
          omega
        · simp
      · simp
    refine Ev.step (f := fun k => (calendar_Moments.f k (rd ds j) (rd ms j) z.f0 z.f1 z.f2 z.f3).bind fun bt352 => (dioramaref08_Moments.f k (rd ds j) (rd ms j) z.f0 z.f1 z.f2 z.f3).bind fun bt363 => (if bt352.2 = bt363.2 then ((dioramaref01_SameInts.f k bt352.1 bt363.1).bind fun t367 => (if t367 = true then (dioramalaw08_CalendarLocal.l2 k x3 x4 x11 x12 zs ts i ds ms (j + 1)) else (some false))) else (some false))) (fun k => ?_) ?_
    · simp only [dioramalaw08_CalendarLocal.l2, hq]
      rw [if_pos (by omega), if_pos j0, if_pos (by omega), if_pos (by omega), if_pos i0, if_pos (by omega), w64 (by omega) (by omega)]
      rfl
    · exact Ev.bind p1 (Ev.bind p2 (ev_pos rfl (Ev.bind (sameInts ln) (ev_pos rfl e))))
theorem cl_l1 {x3 x4 x11 x12 : Int} {zs : List S39} {ts : List Int} (hz : zs.length = 2) (ht : ts.length = 3) {i : Int} (i0 : 0 ≤ i) (i1 : i < 2) (n : Nat) : ∀ j : Int, 0 ≤ j → j + n = 3 →
    Ev (fun k => dioramalaw08_CalendarLocal.l0 k x3 x4 x11 x12 zs ts (i + 1)) true → Ev (fun k => dioramalaw08_CalendarLocal.l1 k x3 x4 x11 x12 zs ts i j) true := by
  induction n with
  | zero =>
    intro j j0 hj h
    have e := cl_l2 (x3 := x3) (x4 := x4) (x11 := x11) (x12 := x12) (zs := zs) (ts := ts) (ds := [x11, x4, x11]) (ms := [x12, x12, x3]) hz rfl rfl i0 i1 3 0 (by omega) (by omega) h
    refine Ev.step (fun k => ?_) e
    simp only [dioramalaw08_CalendarLocal.l1]
    rw [if_neg (by omega)]
  | succ n ih =>
    intro j j0 hj h
    have e := ih (j + 1) (by omega) (by omega) h
    generalize hq : rd_T39 zs i = z at *
    have p1 := plocal (rd ts j) z.f0 z.f1 z.f2 z.f3
    have p2 := rlocal (rd ts j) z.f0 z.f1 z.f2 z.f3
    refine Ev.step (f := fun k => (calendar_Local.f k (rd ts j) z.f0 z.f1 z.f2 z.f3).bind fun bt331 => (dioramaref08_Local.f k (rd ts j) z.f0 z.f1 z.f2 z.f3).bind fun bt340 => (if bt331.1 = bt340.1 then (if bt331.2.1 = bt340.2.1 then (if bt331.2.2 = bt340.2.2 then (dioramalaw08_CalendarLocal.l1 k x3 x4 x11 x12 zs ts i (j + 1)) else (some false)) else (some false)) else (some false))) (fun k => ?_) ?_
    · simp only [dioramalaw08_CalendarLocal.l1, hq]
      rw [if_pos (by omega), if_pos j0, if_pos (by omega), if_pos i0, if_pos (by omega), w64 (by omega) (by omega)]
      rfl
    · exact Ev.bind p1 (Ev.bind p2 (ev_pos rfl (ev_pos rfl (ev_pos rfl e))))
theorem cl_l0 {x3 x4 x11 x12 : Int} {zs : List S39} {ts : List Int} (hz : zs.length = 2) (ht : ts.length = 3) (n : Nat) : ∀ i : Int, 0 ≤ i → i + n = 2 → Ev (fun k => dioramalaw08_CalendarLocal.l0 k x3 x4 x11 x12 zs ts i) true := by
  induction n with
  | zero =>
    intro i i0 hi
    refine Ev.step (f := fun k => (dioramalaw08_lives.f k).bind fun t => some t) (fun k => ?_) (Ev.bind lives (Ev.now _))
    simp only [dioramalaw08_CalendarLocal.l0]
    rw [if_neg (by omega)]
  | succ n ih =>
    intro i i0 hi
    have e := cl_l1 hz ht i0 (by omega) 3 0 (by omega) (by omega) (ih (i + 1) (by omega) (by omega))
    refine Ev.step (fun k => ?_) e
    simp only [dioramalaw08_CalendarLocal.l0]
    rw [if_pos (by omega)]
theorem CalendarLocal : dioramalaw08_CalendarLocal.Pure := by
  intro n l o s f t minute moment hn hl hm hmo
  obtain ⟨c, hc, e⟩ := someDay hn
  obtain ⟨zo, zs, zf, zt, ez, _, _⟩ := zones_f hl
  have a := ar_bd minute 1440 (by omega)
  have b := ar_bd minute 20 (by omega)
  have h : Ev (fun k => dioramalaw08_CalendarLocal.f k n l o s f t minute moment) true := by
    unfold dioramalaw08_CalendarLocal.f
    refine Ev.bind e ?_
    rw [around hm (by omega), ez, around hm (by omega)]
    refine ev_some (ev_some ?_)
    unfold dioramalaw08_own.f
    refine ev_some (ev_some ?_)
    exact cl_l0 rfl rfl 2 0 (by omega) (by omega)
  exact h.rounds
end Go.Proofs.YtlfgjpidamkpdaaDoor.Cal
