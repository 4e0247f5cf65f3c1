/- The law CalendarMoments over plain numbers: the moments of a moment's local time, and the next minute. -/
import Derived.Test.YtlfgjpidamkpdaaDoorM8
import Derived.Test.YtlfgjpidamkpdaaDoorPc17
namespace Go.Proofs.YtlfgjpidamkpdaaDoor.Cal
open Go.RowKit Go.Proofs.YtlfgjpidamkpdaaDoor.Pc Go.Proofs.YtlfgjpidamkpdaaDoorW.PrintWords Go.Proofs.YtlfgjpidamkpdaaDoorW.PrintLast
set_option linter.unusedVariables false
set_option linter.unusedSimpArgs false

theorem cm_lives : Ev (fun k => (dioramalaw08_lives.f k).bind fun t => some t) true := Ev.bind lives (Ev.now _)
/-- what Local of a moment is -/
theorem loc_cases {n o s f t : Int} (hv : Valid o s f t) : loc n o s f t = (0, 0, 5) ∨ ∃ d m, loc n o s f t = (d, m, 0) ∧ Known d ∧ (0 ≤ m ∧ m < 1440) ∧ (1440 * d + m = n + o + s ∨ 1440 * d + m = n + o) := by
  unfold loc
  rw [if_pos hv]
  by_cases a : Known ((n + o) / 1440)
  · rw [if_pos a]
    by_cases b : Known ((n + o + sm (n + o) s f t) / 1440)
    · rw [if_pos b]
      refine .inr ⟨_, _, rfl, b, by omega, ?_⟩
      have := sm_or (n + o) s f t
      omega
    · rw [if_neg b]
      exact .inl rfl
  · rw [if_neg a]
    exact .inl rfl
theorem cm_j2 {n d m o s f t : Int} (hv : Valid o s f t) (h0 : -1000000000 ≤ n) (h1 : n ≤ 1000000000) (hk : Known d) (m0 : 0 ≤ m) (m1 : m < 1440) (e : 1440 * d + m = n + o + s ∨ 1440 * d + m = n + o) :
    Ev (fun k => dioramalaw08_CalendarMoments.j2 k n d m false o s f t) true := by
  unfold Known at hk
  obtain ⟨⟨vo0, vo1⟩, ⟨vs0, vs1⟩, _⟩ := id hv
  have p := plocal (n + 1) o s f t
  refine Ev.step (f := fun k => (calendar_Local.f k (n + 1) o s f t).bind fun bt470 => (if bt470.2.2 = 0 then (if (wrap64 ((wrap64 ((wrap64 ((wrap64 (1440 * bt470.1)) + bt470.2.1)) - (wrap64 (1440 * d)))) - m)) = 1 then ((dioramalaw08_lives.f k).bind fun t473 => (some t473)) else (if (wrap64 ((wrap64 ((wrap64 ((wrap64 (1440 * bt470.1)) + bt470.2.1)) - (wrap64 (1440 * d)))) - m)) = (1 + s) then ((dioramalaw08_lives.f k).bind fun t474 => (some t474)) else (if (wrap64 ((wrap64 ((wrap64 ((wrap64 (1440 * bt470.1)) + bt470.2.1)) - (wrap64 (1440 * d)))) - m)) = (1 - s) then ((dioramalaw08_lives.f k).bind fun t475 => (some t475)) else (some false)))) else (if bt470.2.2 = 5 then ((dioramalaw08_lives.f k).bind fun t476 => (some t476)) else (some false)))) (fun k => ?_) (Ev.bind p ?_)
  · simp only [dioramalaw08_CalendarMoments.j2]
    rw [if_neg (by decide), w64 (x := n + 1) (by omega) (by omega), w64 (x := 1 + s) (by omega) (by omega), w64 (x := 1 - s) (by omega) (by omega)]
  · rcases loc_cases (n := n + 1) hv with q | ⟨d', m', q, k', mm, e'⟩
    · rw [q]
      exact ev_neg (by decide) (ev_pos rfl cm_lives)
    · rw [q]
      unfold Known at k'
      refine ev_pos rfl ?_
      simp only
      have w : wrap64 (wrap64 (wrap64 (wrap64 (1440 * d') + m') - wrap64 (1440 * d)) - m) = (1440 * d' + m') - (1440 * d + m) := by
        rw [w64 (x := 1440 * d') (by omega) (by omega), w64 (x := 1440 * d) (by omega) (by omega), w64 (x := 1440 * d' + m') (by omega) (by omega), w64 (x := 1440 * d' + m' - 1440 * d) (by omega) (by omega), w64 (by omega) (by omega)]
        omega
      rw [w]
      by_cases c1 : (1440 * d' + m') - (1440 * d + m) = 1
      · exact ev_pos c1 cm_lives
      · refine ev_neg c1 ?_
        by_cases c2 : (1440 * d' + m') - (1440 * d + m) = 1 + s
        · exact ev_pos c2 cm_lives
        · exact ev_neg c2 (ev_pos (by omega) cm_lives)
theorem Ev.open {α : Type} {g : Nat → Option α} {r : α} (h : ∃ f, (∀ k, g (k + 1) = f k) ∧ Ev f r) : Ev g r := by
  obtain ⟨f, a, b⟩ := h
  exact Ev.step a b
theorem cm_j1 {n d m o s f t : Int} {xs : List Int} (h : Ev (fun k => dioramalaw08_CalendarMoments.j2 k n d m false o s f t) true) (l0 : 0 < xs.length) (l1 : xs.length ≤ 2) (r : rd xs 0 = n ∨ rd xs ((xs.length : Int) - 1) = n) :
    Ev (fun k => dioramalaw08_CalendarMoments.j1 k n d m xs false o s f t) true := by
  refine Ev.step (fun k => ?_) h
  by_cases c : rd xs 0 = n
  · simp only [dioramalaw08_CalendarMoments.j1]
    rw [if_neg (by decide), if_pos (by omega), if_pos c]
  · have r2 : rd xs ((xs.length : Int) - 1) = n := r.resolve_left c
    simp only [dioramalaw08_CalendarMoments.j1]
    rw [if_neg (by decide), if_pos (by omega), if_neg c, w64 (by omega) (by omega), if_pos (by omega), if_pos (by omega), r2]
    simp
theorem cm_j0 {n o s f t : Int} (hv : Valid o s f t) (h0 : -1000000000 ≤ n) (h1 : n ≤ 1000000000) : Ev (fun k => dioramalaw08_CalendarMoments.j0 k n o s f t) true := by
  have p := plocal n o s f t
  obtain ⟨⟨vo0, vo1⟩, ⟨vs0, vs1⟩, _⟩ := id hv
  refine Ev.open ⟨_, fun k => by simp only [dioramalaw08_CalendarMoments.j0]; rfl, ?_⟩
  rcases loc_cases (n := n) hv with q | ⟨d, m, q, kd, mm, e⟩
  · rw [q] at p
    exact Ev.bind p (ev_neg (by decide) (ev_pos rfl cm_lives))
  · have ok : okk n d m o s f t := q
    rw [q] at p
    refine Ev.bind p (ev_pos rfl ?_)
    have pm := pmom d m o s f t
    have em : mom d m o s f t = (mlist (1440 * d + m - o) d m o s f t, 0) := by
      unfold mom
      rw [if_pos hv, if_pos ⟨kd, mm.1, mm.2⟩]
    rw [em] at pm
    refine Ev.bind pm (ev_pos rfl ?_)
    have j2 := cm_j2 hv h0 h1 kd mm.1 mm.2 e
    by_cases s0 : s = 0
    · have nn : n = 1440 * d + m - o - s := by omega
      have ml : mlist (1440 * d + m - o) d m o s f t = [n] := by
        unfold mlist
        rw [← nn, if_pos ok, if_neg (by omega)]
        rfl
      simp only [ml]
      refine ev_neg (by simp) (ev_neg (by simp) (ev_pos s0 (ev_pos (by simp) (ev_neg (by simp) ?_))))
      exact cm_j1 j2 (by simp) (by simp) (.inl rfl)
    · rcases okk_where ok with w | w
      · by_cases A : okk (n - s) d m o s f t
        · have ml : mlist (1440 * d + m - o) d m o s f t = [n - s, n] := by
            unfold mlist
            rw [← w, if_pos A, if_pos ⟨s0, ok⟩]
            rfl
          simp only [ml]
          refine ev_neg (by simp) (ev_neg (by simp) (ev_neg s0 (ev_pos (by simp) (ev_pos (by simp) (ev_pos (by simp) ?_)))))
          have z : decide (rd [n - s, n] 0 ≥ rd [n - s, n] 1) = false := decide_eq_false (by show ¬ (n - s ≥ n); omega)
          rw [z]
          exact cm_j1 j2 (by simp) (by simp) (.inr rfl)
        · have ml : mlist (1440 * d + m - o) d m o s f t = [n] := by
            unfold mlist
            rw [← w, if_neg A, if_pos ⟨s0, ok⟩]
            rfl
          simp only [ml]
          refine ev_neg (by simp) (ev_neg (by simp) (ev_neg s0 (ev_neg (by simp) ?_)))
          exact cm_j1 j2 (by simp) (by simp) (.inr rfl)
      · by_cases B : okk (n + s) d m o s f t
        · have ml : mlist (1440 * d + m - o) d m o s f t = [n, n + s] := by
            unfold mlist
            rw [← w, show 1440 * d + m - o = n + s by omega, if_pos ok, if_pos ⟨s0, B⟩]
            rfl
          simp only [ml]
          refine ev_neg (by simp) (ev_neg (by simp) (ev_neg s0 (ev_pos (by simp) (ev_pos (by simp) (ev_pos (by simp) ?_)))))
          have z : decide (rd [n, n + s] 0 ≥ rd [n, n + s] 1) = false := decide_eq_false (by show ¬ (n ≥ n + s); omega)
          rw [z]
          exact cm_j1 j2 (by simp) (by simp) (.inl rfl)
        · have ml : mlist (1440 * d + m - o) d m o s f t = [n] := by
            unfold mlist
            rw [← w, show 1440 * d + m - o = n + s by omega, if_pos ok, if_neg (fun z => B z.2)]
            rfl
          simp only [ml]
          refine ev_neg (by simp) (ev_neg (by simp) (ev_neg s0 (ev_neg (by simp) ?_)))
          exact cm_j1 j2 (by simp) (by simp) (.inl rfl)
theorem CalendarMoments : dioramalaw08_CalendarMoments.Pure := by
  intro a l b ha hl1 hl hw hb
  obtain ⟨o, s, f, t, ez, hv, hs⟩ := zones_f hw
  obtain ⟨d, hd, e⟩ := someDay ha
  obtain ⟨r, er, r0, r1⟩ := at_f hw 4 3 (by omega) (by omega)
  have x := ar_bd b 1440 (by omega)
  have y := ar_bd b 240 (by omega)
  obtain ⟨⟨vo0, vo1⟩, ⟨vs0, vs1⟩, vf, vt, vft⟩ := id hv
  have h : Ev (fun k => dioramalaw08_CalendarMoments.f k a l b) true := by
    unfold dioramalaw08_CalendarMoments.f
    rw [ez]
    refine ev_some ?_
    unfold dioramalaw08_own.f
    refine ev_some (Ev.bind e ?_)
    rw [around hb (by omega), er]
    refine ev_some (ev_some ?_)
    by_cases c : r > 0
    · refine ev_pos c (Ev.bind e ?_)
      obtain ⟨y1, m1, d1, dt, rfl⟩ := date_of d hd.1 hd.2
      refine Ev.bind (refCivil dt) ?_
      have yy0 := dt.y0
      have yy1 := dt.y1
      have first : Date y1 1 1 := ⟨yy0, yy1, by omega, by omega, by omega, by have := ML_bd y1 1; omega⟩
      have rr := rday y1 1 1
      rw [dayOf_yes first] at rr
      have kf := first.known
      refine Ev.bind rr ?_
      rw [around hb (by omega)]
      generalize DN y1 1 1 = D at kf ⊢
      by_cases c2 : r = 2
      · refine ev_pos c2 (ev_some ?_)
        simp only
        rw [w64 (x := D + t) (by omega) (by omega), w64 (x := D + t - 1) (by omega) (by omega), w64 (x := 1440 * (D + t - 1)) (by omega) (by omega), w64 (x := 1440 * (D + t - 1) - o) (by omega) (by omega), w64 (x := 1440 * (D + t - 1) - o + ar b 240) (by omega) (by omega), w64 (by omega) (by omega)]
        exact cm_j0 hv (by omega) (by omega)
      · refine ev_neg c2 (ev_some ?_)
        simp only
        rw [w64 (x := D + f) (by omega) (by omega), w64 (x := D + f - 1) (by omega) (by omega), w64 (x := 1440 * (D + f - 1)) (by omega) (by omega), w64 (x := 1440 * (D + f - 1) - o) (by omega) (by omega), w64 (x := 1440 * (D + f - 1) - o + ar b 240) (by omega) (by omega), w64 (by omega) (by omega)]
        exact cm_j0 hv (by omega) (by omega)
    · refine ev_neg c ?_
      rw [w64 (x := 1440 * d) (by omega) (by omega), w64 (by omega) (by omega)]
      exact cm_j0 hv (by omega) (by omega)
  exact h.rounds
end Go.Proofs.YtlfgjpidamkpdaaDoor.Cal
