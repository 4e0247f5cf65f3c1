/- The law CalendarDays over plain numbers: both sides give the same for every day and every date. -/
import Derived.Test.YtlfgjpidamkpdaaDoorM5
import Derived.Test.YtlfgjpidamkpdaaDoorPc7
namespace Go.Proofs.YtlfgjpidamkpdaaDoor.Cal
open Go.RowKit Go.Proofs.YtlfgjpidamkpdaaDoor.Pc Go.Proofs.YtlfgjpidamkpdaaDoorW.PrintWords Go.Proofs.YtlfgjpidamkpdaaDoorW.PrintLast
set_option linter.unusedVariables false
set_option linter.unusedSimpArgs false

theorem civils (d : Int) : ∃ r, Ev (fun k => calendar_Civil.f k d) r ∧ Ev (fun k => dioramaref08_Civil.f k d) r := by
  by_cases h : -146097 ≤ d ∧ d < 146097
  · obtain ⟨y, m, c, hd, rfl⟩ := date_of d h.1 h.2
    exact ⟨_, civil hd, refCivil hd⟩
  · exact ⟨(0, 0, 0), Ev.congr (fun k => civil_no h k) (Ev.now _), Ev.congr (fun k => refCivil_no h k) (Ev.now _)⟩
theorem texts (d : Int) : ∃ r, Ev (fun k => calendar_Text.f k d) r ∧ Ev (fun k => dioramaref08_Text.f k d) r := by
  by_cases h : -146097 ≤ d ∧ d < 146097
  · obtain ⟨y, m, c, hd, rfl⟩ := date_of d h.1 h.2
    exact ⟨_, ptext hd, rtext hd⟩
  · exact ⟨_, Ev.congr (fun k => ptext_no h k) (Ev.now _), Ev.congr (fun k => rtext_no h k) (Ev.now _)⟩
theorem cd_l2 {a b c : List Int} (ha : a.length = 4) (hb : b.length = 2) (hc : c.length = 2) {i : Int} (i0 : 0 ≤ i) (i1 : i < 4) (n : Nat) : ∀ j : Int, 0 ≤ j → j + n = 4 →
    Ev (fun k => dioramalaw08_CalendarDays.l1 k a b c (i + 1)) true → Ev (fun k => dioramalaw08_CalendarDays.l2 k a b c i j) true := by
  induction n with
  | zero =>
    intro j j0 hj h
    refine Ev.step (fun k => ?_) h
    simp only [dioramalaw08_CalendarDays.l2]
    rw [if_neg (by omega), w64 (by omega) (by omega)]
  | succ n ih =>
    intro j j0 hj h
    have e := ih (j + 1) (by omega) (by omega) h
    refine Ev.step (f := fun k => ((calendar_Day.f k (rd a i) (rd b (j / 2)) (rd c (j % 2))).bind fun bt234 => ((dioramaref08_Day.f k (rd a i) (rd b (j / 2)) (rd c (j % 2))).bind fun bt239 => (if bt234.1 = bt239.1 then (if bt234.2 = bt239.2 then (dioramalaw08_CalendarDays.l2 k a b c i (j + 1)) else (some false)) else (some false))))) (fun k => ?_) ?_
    · simp only [dioramalaw08_CalendarDays.l2]
      rw [if_pos (show j < 4 by omega), if_pos i0, if_pos (show i < (a.length : Int) by omega), tdiv_nn j0, tmod_nn j0, w64 (x := j / 2) (by omega) (by omega), if_pos (show 0 ≤ j / 2 by omega), if_pos (show j / 2 < (b.length : Int) by omega), if_pos (show 0 ≤ j % 2 by omega), if_pos (show j % 2 < (c.length : Int) by omega), w64 (x := j + 1) (by omega) (by omega)]
    · exact Ev.bind (pday _ _ _) (Ev.bind (rday _ _ _) (ev_pos rfl (ev_pos rfl e)))
theorem cd_l1 {a b c : List Int} (ha : a.length = 4) (hb : b.length = 2) (hc : c.length = 2) (n : Nat) : ∀ i : Int, 0 ≤ i → i + n = 4 → Ev (fun k => dioramalaw08_CalendarDays.l1 k a b c i) true := by
  induction n with
  | zero =>
    intro i i0 hi
    refine Ev.step (f := fun k => (dioramalaw08_lives.f k).bind fun t => some t) (fun k => ?_) (Ev.bind lives (Ev.now _))
    simp only [dioramalaw08_CalendarDays.l1]
    rw [if_neg (by omega)]
  | succ n ih =>
    intro i i0 hi
    have e := cd_l2 ha hb hc i0 (by omega) 4 0 (by omega) (by omega) (ih (i + 1) (by omega) (by omega))
    refine Ev.step (fun k => ?_) e
    simp only [dioramalaw08_CalendarDays.l1]
    rw [if_pos (by omega)]
theorem cd_l0 {y m d : Int} (hy : (Lit.int .i64 y).wf = true) (hm : (Lit.int .i64 m).wf = true) (hd : (Lit.int .i64 d).wf = true) {l : List Int} (hl : l.length ≤ 100) (n : Nat) : ∀ i : Int, 0 ≤ i → i + n = l.length → Ev (fun k => dioramalaw08_CalendarDays.l0 k y m d l i) true := by
  induction n with
  | zero =>
    intro i i0 hi
    have e := cd_l1 (a := [y, 1600 + ar y 800, 1599, 2400]) (b := [m, ar m 14]) (c := [d, ar d 33]) rfl rfl rfl 4 0 (by omega) (by omega)
    have b := ar_bd y 800 (by omega)
    refine Ev.step (fun k => ?_) e
    simp only [dioramalaw08_CalendarDays.l0]
    rw [if_neg (by omega), around hy (by omega), around hm (by omega), around hd (by omega)]
    simp only [Option.bind_some]
    rw [w64 (by omega) (by omega)]
  | succ n ih =>
    intro i i0 hi
    obtain ⟨r, p1, p2⟩ := civils (rd l i)
    obtain ⟨t, q1, q2⟩ := texts (rd l i)
    have e := ih (i + 1) (by omega) (by omega)
    refine Ev.step (f := fun k => ((calendar_Civil.f k (rd l i)).bind fun bt203 => ((dioramaref08_Civil.f k (rd l i)).bind fun bt207 => (if bt203.1 = bt207.1 then (if bt203.2.1 = bt207.2.1 then (if bt203.2.2 = bt207.2.2 then ((calendar_Text.f k (rd l i)).bind fun t215 => ((dioramaref08_Text.f k (rd l i)).bind fun t217 => (if t215.toList = t217.toList then (dioramalaw08_CalendarDays.l0 k y m d l (i + 1)) else (some false)))) else (some false)) else (some false)) else (some false))))) (fun k => ?_) ?_
    · simp only [dioramalaw08_CalendarDays.l0]
      rw [if_pos (by omega), if_pos i0, pwd, rwd, w64 (by omega) (by omega)]
      simp only [Option.bind_some, if_true]
    · exact Ev.bind p1 (Ev.bind p2 (ev_pos rfl (ev_pos rfl (ev_pos rfl (Ev.bind q1 (Ev.bind q2 (ev_pos rfl e)))))))
theorem CalendarDays : dioramalaw08_CalendarDays.Pure := by
  intro n day y m d hn hday hy hm hd
  obtain ⟨c, _, hc⟩ := someDay hn
  have e := cd_l0 hy hm hd (l := [c, day, -146098, 146097]) (by simp) 4 0 (by omega) (by simp)
  have h : Ev (fun k => dioramalaw08_CalendarDays.f k n day y m d) true := by
    unfold dioramalaw08_CalendarDays.f
    exact Ev.bind hc e
  exact h.rounds
end Go.Proofs.YtlfgjpidamkpdaaDoor.Cal
