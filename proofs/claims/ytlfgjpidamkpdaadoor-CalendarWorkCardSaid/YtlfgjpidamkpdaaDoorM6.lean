/- Local of the program and of the reference give the same day, minute and error. -/
import Derived.Test.YtlfgjpidamkpdaaDoorM5
import Derived.Test.YtlfgjpidamkpdaaDoorPc4
import Derived.Test.YtlfgjpidamkpdaaDoorPc12
namespace Go.Proofs.YtlfgjpidamkpdaaDoor.Cal
open Go.RowKit Go.Proofs.YtlfgjpidamkpdaaDoor.Pc Go.Proofs.YtlfgjpidamkpdaaDoorW.PrintWords Go.Proofs.YtlfgjpidamkpdaaDoorW.PrintLast
set_option linter.unusedVariables false
set_option linter.unusedSimpArgs false

def Known (d : Int) : Prop := -146097 ≤ d ∧ d < 146097
instance (d : Int) : Decidable (Known d) := by unfold Known; infer_instance
def Valid (o s f t : Int) : Prop := (-900 ≤ o ∧ o ≤ 900) ∧ (0 ≤ s ∧ s ≤ 120) ∧ 1 ≤ f ∧ t ≤ 367 ∧ f ≤ t
instance (o s f t : Int) : Decidable (Valid o s f t) := by unfold Valid; infer_instance
/-- the year of a known day -/
noncomputable def yr (d : Int) : Int := open Classical in if h : ∃ y, 1600 ≤ y ∧ y ≤ 2399 ∧ F y ≤ d ∧ d < F (y + 1) then Classical.choose h else 0
theorem yr_spec {d : Int} (h : Known d) : 1600 ≤ yr d ∧ yr d ≤ 2399 ∧ F (yr d) ≤ d ∧ d < F (yr d + 1) := by
  have e := year_of d h.1 h.2
  unfold yr
  rw [dif_pos e]
  exact Classical.choose_spec e
theorem yr_one {d y : Int} (y0 : 1600 ≤ y) (a : F y ≤ d) (b : d < F (y + 1)) (h : Known d) : y = yr d := by
  obtain ⟨z0, z1, c, e⟩ := yr_spec h
  rcases Int.lt_trichotomy y (yr d) with q | q | q
  · have := F_le (y := y + 1) (z := yr d) (by omega) (by omega); omega
  · exact q
  · have := F_le (y := yr d + 1) (z := y) (by omega) (by omega); omega
theorem yr_DN {y m d : Int} (h : Date y m d) : yr (DN y m d) = y := (yr_one h.y0 h.year.1 h.year.2 h.known).symm
/-- is there summer time at a standard time, in minutes -/
noncomputable def sm (t0 s f t : Int) : Int := if f ≤ t0 / 1440 - F (yr (t0 / 1440)) + 1 ∧ t0 / 1440 - F (yr (t0 / 1440)) + 1 < t then s else 0
/-- Local -/
noncomputable def loc (n o s f t : Int) : Int × Int × Int :=
  if Valid o s f t then (if Known ((n + o) / 1440) then (if Known ((n + o + sm (n + o) s f t) / 1440) then ((n + o + sm (n + o) s f t) / 1440, (n + o + sm (n + o) s f t) % 1440, 0) else (0, 0, 5)) else (0, 0, 5)) else (0, 0, 1)

theorem some_dec {b : Bool} {p : Prop} [Decidable p] (h : b = true ↔ p) : some b = some (decide p) := by
  congr 1
  rw [Bool.eq_iff_iff, h, decide_eq_true_iff]
theorem valid_f (o s f t : Int) : calendar_Zone_valid.f o s f t = some (decide (Valid o s f t)) := by
  unfold calendar_Zone_valid.f
  repeat' split
  all_goals
    refine some_dec ⟨fun h => ?_, fun h => ?_⟩
    · first
        | exact absurd h (by decide)
        | (have h := of_decide_eq_true h; unfold Valid; omega)
    · unfold Valid at h
      first
        | (exfalso; omega)
        | exact decide_eq_true (by omega)
theorem proper_f (o s f t : Int) : dioramaref08_Proper.f o s f t = some (decide (Valid o s f t)) := by
  unfold dioramaref08_Proper.f
  repeat' split
  all_goals
    refine some_dec ⟨fun h => ?_, fun h => ?_⟩
    · first
        | exact absurd h (by decide)
        | (have h := of_decide_eq_true h; unfold Valid; omega)
    · unfold Valid at h
      first
        | (exfalso; omega)
        | exact decide_eq_true (by omega)
theorem floor_f {a : Int} (h0 : -1000000000000 ≤ a) (h1 : a ≤ 1000000000000) : calendar_floor.f a = some (a / 1440, a % 1440) := by
  unfold calendar_floor.f
  rcases Int.le_total 0 a with q | q
  · rw [tmod_nn q, tdiv_nn q, if_neg (by omega), w64 (x := a / 1440) (by omega) (by omega), w64 (x := 1440 * (a / 1440)) (by omega) (by omega), w64 (by omega) (by omega)]
    congr 2
    omega
  · have e : Int.tdiv a 1440 = -((-a) / 1440) := by
      have := Int.neg_tdiv (-a) 1440
      rw [Int.neg_neg] at this
      rw [this, tdiv_nn (by omega)]
    rw [tmod_neg' 1440 q, e]
    by_cases c : -((-a) % 1440) < 0
    · rw [if_pos c, w64 (x := -((-a) / 1440)) (by omega) (by omega), w64 (x := -((-a) / 1440) - 1) (by omega) (by omega), w64 (x := 1440 * (-((-a) / 1440) - 1)) (by omega) (by omega), w64 (by omega) (by omega)]
      congr 2 <;> omega
    · rw [if_neg c, w64 (x := -((-a) / 1440)) (by omega) (by omega), w64 (x := 1440 * (-((-a) / 1440))) (by omega) (by omega), w64 (by omega) (by omega)]
      congr 2 <;> omega
theorem dayof_f {a : Int} (h0 : -1000000000000 ≤ a) (h1 : a ≤ 1000000000000) : dioramaref08_DayOf.f a = some (a / 1440) := by
  unfold dioramaref08_DayOf.f
  rw [modulo_f (by omega) (by omega)]
  simp only [Option.bind_some]
  rw [w64 (x := a - a % 1440) (by omega) (by omega), show a - a % 1440 = 1440 * (a / 1440) by omega, Int.mul_tdiv_cancel_left _ (by omega), w64 (by omega) (by omega)]
theorem Knownb {d : Int} : calendar_known.f d = some (decide (Known d)) := by
  by_cases h : Known d
  · rw [known_f h.1 h.2, decide_eq_true h]
  · rw [known_no h, decide_eq_false h]
theorem rKnownb {d : Int} : dioramaref08_Known.f d = some (decide (Known d)) := by
  by_cases h : Known d
  · rw [Known_f h.1 h.2, decide_eq_true h]
  · rw [Known_no h, decide_eq_false h]
theorem pj2 {x : Int} (h0 : -1000000000000 ≤ x) (h1 : x ≤ 1000000000000) : Ev (fun k => calendar_Local.j2 k x) (if Known (x / 1440) then (x / 1440, x % 1440, 0) else (0, 0, 5)) := by
  refine Ev.step (f := fun _ => some (if Known (x / 1440) then (x / 1440, x % 1440, 0) else (0, 0, 5))) (fun k => ?_) (Ev.now _)
  simp only [calendar_Local.j2]
  rw [floor_f h0 h1]
  simp only [Option.bind_some]
  rw [Knownb]
  simp only [Option.bind_some]
  by_cases c : Known (x / 1440)
  · rw [if_pos (decide_eq_true c), if_pos c]
  · rw [if_neg (by simpa using c), if_neg c]
theorem rj2 {x : Int} (h0 : -1000000000000 ≤ x) (h1 : x ≤ 1000000000000) : Ev (fun k => dioramaref08_Local.j2 k x) (if Known (x / 1440) then (x / 1440, x % 1440, 0) else (0, 0, 5)) := by
  refine Ev.step (f := fun _ => some (if Known (x / 1440) then (x / 1440, x % 1440, 0) else (0, 0, 5))) (fun k => ?_) (Ev.now _)
  simp only [dioramaref08_Local.j2]
  rw [dayof_f h0 h1]
  simp only [Option.bind_some]
  rw [rKnownb]
  simp only [Option.bind_some]
  by_cases c : Known (x / 1440)
  · rw [if_pos (decide_eq_true c), if_pos c, modulo_f (by omega) (by omega)]
    rfl
  · rw [if_neg (by simpa using c), if_neg c]
theorem loc_far {n o s f t : Int} (hv : Valid o s f t) (h : n < -210382560 ∨ n > 210382560) : loc n o s f t = (0, 0, 5) := by
  unfold loc
  rw [if_pos hv, if_neg]
  unfold Known
  obtain ⟨⟨a, b⟩, _⟩ := hv
  omega
theorem sm_or (t0 s f t : Int) : sm t0 s f t = s ∨ sm t0 s f t = 0 := by unfold sm; split <;> simp
theorem plocal (n o s f t : Int) : Ev (fun k => calendar_Local.f k n o s f t) (loc n o s f t) := by
  unfold calendar_Local.f
  rw [valid_f]
  refine ev_some ?_
  by_cases hv : Valid o s f t
  rotate_left
  · refine ev_neg (by simpa using hv) ?_
    unfold loc
    rw [if_neg hv]
    exact Ev.now _
  refine ev_pos (decide_eq_true hv) ?_
  have far : loc n o s f t = (0, 0, 5) → Ev (fun k => calendar_Local.j0 k n true o s f t) (loc n o s f t) := by
    intro e
    rw [e]
    exact Ev.step (f := fun _ => some (0, 0, 5)) (fun k => by simp [calendar_Local.j0]) (Ev.now _)
  by_cases c : n < -210382560
  · exact ev_pos c (far (loc_far hv (.inl c)))
  refine ev_neg c ?_
  by_cases c2 : n > 210382560
  · rw [decide_eq_true c2]
    exact far (loc_far hv (.inr c2))
  rw [decide_eq_false c2]
  obtain ⟨⟨o0, o1⟩, ⟨s0, s1⟩, _⟩ := id hv
  by_cases hk : Known ((n + o) / 1440)
  rotate_left
  · have e : loc n o s f t = (0, 0, 5) := by unfold loc; rw [if_pos hv, if_neg hk]
    rw [e]
    refine Ev.step (f := fun _ => some (0, 0, 5)) (fun k => ?_) (Ev.now _)
    simp only [calendar_Local.j0]
    rw [if_neg (by decide), w64 (by omega) (by omega), floor_f (by omega) (by omega)]
    simp only [Option.bind_some]
    rw [Knownb]
    simp only [Option.bind_some]
    rw [if_neg (by simpa using hk)]
  obtain ⟨y, m, d, hd, hD⟩ := date_of _ hk.1 hk.2
  have hy : yr ((n + o) / 1440) = y := by rw [← hD]; exact yr_DN hd
  have e : loc n o s f t = (if Known ((n + o + sm (n + o) s f t) / 1440) then ((n + o + sm (n + o) s f t) / 1440, (n + o + sm (n + o) s f t) % 1440, 0) else (0, 0, 5)) := by
    unfold loc
    rw [if_pos hv, if_pos hk]
  rw [e]
  have so := sm_or (n + o) s f t
  have fb := F_bd hd.y0 (by have := hd.y1; omega)
  have j1 (b : Bool) (hb : b = decide (f ≤ (n + o) / 1440 - F y + 1 ∧ (n + o) / 1440 - F y + 1 < t)) : Ev (fun k => calendar_Local.j1 k (n + o) b o s f t) (if Known ((n + o + sm (n + o) s f t) / 1440) then ((n + o + sm (n + o) s f t) / 1440, (n + o + sm (n + o) s f t) % 1440, 0) else (0, 0, 5)) := by
    refine Ev.step (f := fun k => calendar_Local.j2 k (n + o + sm (n + o) s f t)) (fun k => ?_) (pj2 (by omega) (by omega))
    simp only [calendar_Local.j1]
    unfold sm
    rw [hy]
    by_cases q : f ≤ (n + o) / 1440 - F y + 1 ∧ (n + o) / 1440 - F y + 1 < t
    · rw [hb, if_pos (decide_eq_true q), if_pos q, w64 (by omega) (by omega)]
    · rw [hb, if_neg (by simpa using q), if_neg q]
      simp
  have cv := civil hd
  rw [hD] at cv
  unfold Known at hk
  refine Ev.step (f := fun k => (calendar_Civil.f k ((n + o) / 1440)).bind fun bt => (calendar_first.f bt.1).bind fun t157 => (if (wrap64 ((wrap64 ((n + o) / 1440 - t157)) + 1)) ≥ f then (calendar_Local.j1 k (n + o) (decide ((wrap64 ((wrap64 ((n + o) / 1440 - t157)) + 1)) < t)) o s f t) else (calendar_Local.j1 k (n + o) false o s f t))) (fun k => ?_) ?_
  · simp only [calendar_Local.j0]
    rw [if_neg (by decide), w64 (x := n + o) (by omega) (by omega), floor_f (by omega) (by omega)]
    simp only [Option.bind_some]
    rw [known_f hk.1 hk.2]
    simp only [Option.bind_some]
    rw [if_pos trivial]
  · refine Ev.bind cv ?_
    rw [first_f hd.y0 (by have := hd.y1; omega)]
    refine ev_some ?_
    rw [w64 (x := (n + o) / 1440 - F y) (by omega) (by omega), w64 (by omega) (by omega)]
    by_cases q : (n + o) / 1440 - F y + 1 ≥ f
    · refine ev_pos q (j1 _ ?_)
      congr 1
      exact propext ⟨fun h => ⟨q, h⟩, fun h => h.2⟩
    · refine ev_neg q (j1 _ ?_)
      exact (decide_eq_false (fun h => q h.1)).symm
theorem rlocal (n o s f t : Int) : Ev (fun k => dioramaref08_Local.f k n o s f t) (loc n o s f t) := by
  unfold dioramaref08_Local.f
  rw [proper_f]
  refine ev_some ?_
  by_cases hv : Valid o s f t
  rotate_left
  · refine ev_neg (by simpa using hv) ?_
    unfold loc
    rw [if_neg hv]
    exact Ev.now _
  refine ev_pos (decide_eq_true hv) ?_
  have far : loc n o s f t = (0, 0, 5) → Ev (fun k => dioramaref08_Local.j0 k n true o s f t) (loc n o s f t) := by
    intro e
    rw [e]
    exact Ev.step (f := fun _ => some (0, 0, 5)) (fun k => by simp [dioramaref08_Local.j0]) (Ev.now _)
  by_cases c : n < -1000000000
  · exact ev_pos c (far (loc_far hv (by omega)))
  refine ev_neg c ?_
  by_cases c2 : n > 1000000000
  · rw [decide_eq_true c2]
    exact far (loc_far hv (by omega))
  rw [decide_eq_false c2]
  obtain ⟨⟨o0, o1⟩, ⟨s0, s1⟩, f0, t1, ft⟩ := id hv
  by_cases hk : Known ((n + o) / 1440)
  rotate_left
  · have e : loc n o s f t = (0, 0, 5) := by unfold loc; rw [if_pos hv, if_neg hk]
    rw [e]
    refine Ev.step (f := fun _ => some (0, 0, 5)) (fun k => ?_) (Ev.now _)
    simp only [dioramaref08_Local.j0]
    rw [if_neg (by decide), w64 (by omega) (by omega), dayof_f (by omega) (by omega)]
    simp only [Option.bind_some]
    rw [rKnownb]
    simp only [Option.bind_some]
    rw [if_neg (by simpa using hk)]
  obtain ⟨y, m, d, hd, hD⟩ := date_of _ hk.1 hk.2
  have hy : yr ((n + o) / 1440) = y := by rw [← hD]; exact yr_DN hd
  have e : loc n o s f t = (if Known ((n + o + sm (n + o) s f t) / 1440) then ((n + o + sm (n + o) s f t) / 1440, (n + o + sm (n + o) s f t) % 1440, 0) else (0, 0, 5)) := by
    unfold loc
    rw [if_pos hv, if_pos hk]
  rw [e]
  have so := sm_or (n + o) s f t
  have fb := F_bd hd.y0 (by have := hd.y1; omega)
  have j1 (b : Bool) (hb : b = decide (f ≤ (n + o) / 1440 - F y + 1 ∧ (n + o) / 1440 - F y + 1 < t)) : Ev (fun k => dioramaref08_Local.j1 k (n + o) b o s f t) (if Known ((n + o + sm (n + o) s f t) / 1440) then ((n + o + sm (n + o) s f t) / 1440, (n + o + sm (n + o) s f t) % 1440, 0) else (0, 0, 5)) := by
    refine Ev.step (f := fun k => dioramaref08_Local.j2 k (n + o + sm (n + o) s f t)) (fun k => ?_) (rj2 (by omega) (by omega))
    simp only [dioramaref08_Local.j1]
    unfold sm
    rw [hy]
    by_cases q : f ≤ (n + o) / 1440 - F y + 1 ∧ (n + o) / 1440 - F y + 1 < t
    · rw [hb, if_pos (decide_eq_true q), if_pos q, w64 (by omega) (by omega)]
    · rw [hb, if_neg (by simpa using q), if_neg q]
      simp
  have cv := refCivil hd
  rw [hD] at cv
  have jan : Date y 1 1 := ⟨hd.y0, hd.y1, by omega, by omega, by omega, by have := ML_bd y 1; omega⟩
  have rd := rday y 1 1
  rw [dayOf_yes jan, show DN y 1 1 = F y by unfold DN; rw [CM_1]; omega] at rd
  unfold Known at hk
  refine Ev.step (f := fun k => (dioramaref08_Civil.f k ((n + o) / 1440)).bind fun bt => (dioramaref08_Day.f k bt.1 1 1).bind fun b2 => (if (wrap64 ((wrap64 ((n + o) / 1440 - b2.1)) + 1)) ≥ f then (dioramaref08_Local.j1 k (n + o) (decide ((wrap64 ((wrap64 ((n + o) / 1440 - b2.1)) + 1)) ≤ (wrap64 (t - 1)))) o s f t) else (dioramaref08_Local.j1 k (n + o) false o s f t))) (fun k => ?_) ?_
  · simp only [dioramaref08_Local.j0]
    rw [if_neg (by decide), w64 (x := n + o) (by omega) (by omega), dayof_f (by omega) (by omega)]
    simp only [Option.bind_some]
    rw [Known_f hk.1 hk.2]
    simp only [Option.bind_some]
    rw [if_pos trivial]
  · refine Ev.bind cv (Ev.bind rd ?_)
    simp only
    rw [w64 (x := (n + o) / 1440 - F y) (by omega) (by omega), w64 (x := (n + o) / 1440 - F y + 1) (by omega) (by omega), w64 (x := t - 1) (by omega) (by omega)]
    by_cases q : (n + o) / 1440 - F y + 1 ≥ f
    · refine ev_pos q (j1 _ ?_)
      congr 1
      exact propext ⟨fun h => ⟨q, by omega⟩, fun h => by omega⟩
    · refine ev_neg q (j1 _ ?_)
      exact (decide_eq_false (fun h => q h.1)).symm
end Go.Proofs.YtlfgjpidamkpdaaDoor.Cal
