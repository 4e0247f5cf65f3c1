/- The law CalendarWork over plain numbers: Work and the reference's give the same day and error for all lists. -/
import Derived.Test.YtlfgjpidamkpdaaDoorM9
import Derived.Test.YtlfgjpidamkpdaaDoorWkWalkWork
namespace Go.Proofs.YtlfgjpidamkpdaaDoor.Cal
open Go.RowKit Go.Proofs.YtlfgjpidamkpdaaDoor.Pc Go.Proofs.YtlfgjpidamkpdaaDoorW.PrintWords Go.Proofs.YtlfgjpidamkpdaaDoorW.PrintLast
set_option linter.unusedVariables false
set_option linter.unusedSimpArgs false

theorem cw_l2 {raw d : Int} {hs ks : List Int} {ls : List (List Int)} (hls : ls.length = 3) (hks : ks.length = 3) (hw : ∀ x ∈ ks, (Lit.int .i64 x).wf = true) {i : Int} (i0 : 0 ≤ i) (i1 : i < 3) (n : Nat) : ∀ j : Int, 0 ≤ j → j + n = 3 →
    Ev (fun k => dioramalaw08_CalendarWork.l1 k raw d hs ls ks (i + 1)) true → Ev (fun k => dioramalaw08_CalendarWork.l2 k raw d hs ls ks i j) true := by
  induction n with
  | zero =>
    intro j j0 hj h
    refine Ev.step (fun k => ?_) h
    simp only [dioramalaw08_CalendarWork.l2]
    rw [if_neg (by omega), w64 (by omega) (by omega)]
  | succ n ih =>
    intro j j0 hj h
    have e := ih (j + 1) (by omega) (by omega) h
    have wj := rd_wf hw j j0 (by omega)
    have p := pwork d (rd ks j) (rd_L3 ls i) wj
    have q := rwork d (rd ks j) (rd_L3 ls i) wj
    refine Ev.step (f := fun k => (calendar_Work.f k d (rd ks j) (rd_L3 ls i)).bind fun bt399 => ((dioramaref08_Work.f k d (rd ks j) (rd_L3 ls i)).bind fun bt403 => (if bt399.1 = bt403.1 then (if bt399.2 = bt403.2 then (dioramalaw08_CalendarWork.l2 k raw d hs ls ks i (j + 1)) else (some false)) else (some false)))) (fun k => ?_) (Ev.bind p (Ev.bind q (ev_pos rfl (ev_pos rfl e))))
    simp only [dioramalaw08_CalendarWork.l2]
    rw [if_pos (by omega), if_pos j0, if_pos (by omega), if_pos i0, if_pos (by omega), w64 (by omega) (by omega)]
theorem cw_l1 {raw d : Int} {hs ks : List Int} {ls : List (List Int)} (hls : ls.length = 3) (hks : ks.length = 3) (hw : ∀ x ∈ ks, (Lit.int .i64 x).wf = true) (n : Nat) : ∀ i : Int, 0 ≤ i → i + n = 3 → Ev (fun k => dioramalaw08_CalendarWork.l1 k raw d hs ls ks i) true := by
  induction n with
  | zero =>
    intro i i0 hi
    have p := pwork raw 1 hs (by decide)
    have q := rwork raw 1 hs (by decide)
    refine Ev.step (f := fun k => (calendar_Work.f k raw 1 hs).bind fun bt392 => ((dioramaref08_Work.f k raw 1 hs).bind fun bt394 => (if bt392.1 = bt394.1 then (if bt392.2 = bt394.2 then ((dioramalaw08_lives.f k).bind fun t396 => (some t396)) else (some false)) else (some false)))) (fun k => ?_) (Ev.bind p (Ev.bind q (ev_pos rfl (ev_pos rfl (Ev.bind lives (Ev.now _))))))
    simp only [dioramalaw08_CalendarWork.l1]
    rw [if_neg (by omega)]
  | succ n ih =>
    intro i i0 hi
    have e := cw_l2 (raw := raw) (d := d) (hs := hs) hls hks hw i0 (by omega) 3 0 (by omega) (by omega) (ih (i + 1) (by omega) (by omega))
    refine Ev.step (fun k => ?_) e
    simp only [dioramalaw08_CalendarWork.l1]
    rw [if_pos (by omega)]
theorem cw_j1 {a many raw d : Int} {hs : List Int} (ha : (Lit.int .i64 a).wf = true) (hm : (Lit.int .i64 many).wf = true) : Ev (fun k => dioramalaw08_CalendarWork.j1 k a many raw d hs) true := by
  have x := ar_bd many 5 (by omega)
  have y := ar_bd a 41 (by omega)
  have z := ar_bd a 2006 (by omega)
  have e := cw_l1 (raw := raw) (d := d) (hs := hs) (ks := [ar a 41 - 20, a, ar a 2006 - 1003]) (ls := [hs, [], List.replicate (398 + ar many 5).toNat 0]) rfl rfl (by
    intro v hv
    simp only [List.mem_cons, List.not_mem_nil, or_false] at hv
    rcases hv with rfl | rfl | rfl
    · exact wf64 (by omega) (by omega)
    · exact ha
    · exact wf64 (by omega) (by omega)) 3 0 (by omega) (by omega)
  refine Ev.step (fun k => ?_) e
  simp only [dioramalaw08_CalendarWork.j1]
  rw [around hm (by omega), around ha (by omega), around ha (by omega)]
  simp only [Option.bind_some]
  rw [w64 (x := 398 + ar many 5) (by omega) (by omega), w64 (x := ar a 41 - 20) (by omega) (by omega), w64 (x := ar a 2006 - 1003) (by omega) (by omega), if_pos (by omega), if_pos (by omega)]
theorem cw_l0 {a many raw day : Int} {l : List Int} (ha : (Lit.int .i64 a).wf = true) (hb : (Lit.int .i64 many).wf = true) (hw : ∀ x ∈ l, (Lit.int .i64 x).wf = true) (hk : Known day) (n : Nat) : ∀ (i : Int) (hs : List Int), 0 ≤ i → i + n = 30 → (hs.length : Int) ≤ i → Ev (fun k => dioramalaw08_CalendarWork.l0 k a l many raw day hs i) true := by
  have kk := hk
  unfold Known at kk
  induction n with
  | zero =>
    intro i hs i0 hi hh
    refine Ev.step (fun k => ?_) (cw_j1 (raw := raw) (d := day) (hs := hs) ha hb)
    simp only [dioramalaw08_CalendarWork.l0]
    by_cases c : i < l.length
    · rw [if_pos c, if_neg (by omega)]
    · rw [if_neg c]
  | succ n ih =>
    intro i hs i0 hi hh
    by_cases c : i < l.length
    · have x := ar_bd (rd l i) 60 (by omega)
      have e := ih (i + 1) (hs ++ [day + ar (rd l i) 60 - 30]) (by omega) (by omega) (by simp; omega)
      refine Ev.step (fun k => ?_) e
      simp only [dioramalaw08_CalendarWork.l0]
      rw [if_pos c, if_pos (by omega), if_pos i0, around (rd_wf hw i i0 c) (by omega)]
      simp only [Option.bind_some]
      rw [if_pos (by omega), w64 (x := day + ar (rd l i) 60) (by omega) (by omega), w64 (x := day + ar (rd l i) 60 - 30) (by omega) (by omega), w64 (by omega) (by omega)]
    · refine Ev.step (fun k => ?_) (cw_j1 (raw := raw) (d := day) (hs := hs) ha hb)
      simp only [dioramalaw08_CalendarWork.l0]
      rw [if_neg c]
theorem CalendarWork : dioramalaw08_CalendarWork.Pure := by
  intro n a l many raw hn ha hm1 hm hw hb hr
  obtain ⟨d, hd, e⟩ := someDay hn
  have h : Ev (fun k => dioramalaw08_CalendarWork.f k n a l many raw) true := by
    unfold dioramalaw08_CalendarWork.f
    exact Ev.bind e (cw_l0 ha hb hw hd 30 0 [] (by omega) (by omega) (by simp))
  exact h.rounds
end Go.Proofs.YtlfgjpidamkpdaaDoor.Cal
