/- Work of the program and of the reference give the same day and error; counting on and back. -/
import Derived.Test.YtlfgjpidamkpdaaDoorM8
import Derived.Test.YtlfgjpidamkpdaaDoorPc5
import Derived.Test.YtlfgjpidamkpdaaDoorPc15
namespace Go.Proofs.YtlfgjpidamkpdaaDoor.Cal
open Go.RowKit Go.Proofs.YtlfgjpidamkpdaaDoor.Pc Go.Proofs.YtlfgjpidamkpdaaDoorW.PrintWords Go.Proofs.YtlfgjpidamkpdaaDoorW.PrintLast
set_option linter.unusedVariables false
set_option linter.unusedSimpArgs false

/-- a working day (of a known one) -/
def Wrk (hs : List Int) (d : Int) : Prop := wd d ≤ 4 ∧ d ∉ hs
instance (hs : List Int) (d : Int) : Decidable (Wrk hs d) := by unfold Wrk; infer_instance
/-- the known days that lie ahead -/
def dist (c d : Int) : Nat := if c = 1 then (146096 - d).toNat else (d + 146097).toNat
/-- counting working days in the direction c -/
def wk (hs : List Int) (c : Int) : Nat → Int → Nat → Int × Int
  | _, d, 0 => (d, 0)
  | 0, _, _ + 1 => (0, 5)
  | f + 1, d, n + 1 => if Wrk hs (d + c) then wk hs c f (d + c) n else wk hs c f (d + c) (n + 1)
def Dir (c : Int) : Prop := c = 1 ∨ c = -1
theorem dist_zero {c d : Int} (hc : Dir c) (hk : Known d) (h : dist c d = 0) : ¬ Known (d + c) := by
  unfold Known at *
  unfold dist at h
  rcases hc with rfl | rfl <;> simp at h <;> omega
theorem dist_succ {c d : Int} {f : Nat} (hc : Dir c) (hk : Known d) (h : dist c d = f + 1) : Known (d + c) ∧ dist c (d + c) = f := by
  unfold Known at *
  unfold dist at *
  rcases hc with rfl | rfl <;> simp at * <;> omega
theorem wd_bd (d : Int) : 0 ≤ wd d ∧ wd d ≤ 6 := by unfold wd; split <;> omega

theorem pj3_end {d : Int} {hs : List Int} {n c : Int} : Ev (fun k => calendar_Work.j3 k d n hs c false) (if Known d then (d, 0) else (0, 5)) := by
  refine Ev.step (f := fun _ => some (if Known d then (d, 0) else (0, 5))) (fun k => ?_) (Ev.now _)
  simp only [calendar_Work.j3]
  rw [if_neg (by decide), Knownb]
  simp only [Option.bind_some]
  by_cases h : Known d
  · rw [if_pos (decide_eq_true h), if_pos h]
  · rw [if_neg (by simpa using h), if_neg h]
theorem pwl0_out {d : Int} {hs : List Int} {n c : Int} (h : ¬ Known d) : Ev (fun k => calendar_Work.l0 k d n hs c) (0, 5) := by
  have e := pj3_end (d := d) (hs := hs) (n := n) (c := c)
  rw [if_neg h] at e
  refine Ev.step (fun k => ?_) e
  simp only [calendar_Work.l0]
  rw [known_no h]
  rfl
theorem pwl0 {hs : List Int} (hl : (hs.length : Int) ≤ 1000) {c : Int} (hc : Dir c) (f : Nat) : ∀ (d : Int) (n : Nat), Known d → dist c d = f → n ≤ 1000 → Ev (fun k => calendar_Work.l0 k d n hs c) (wk hs c f d n) := by
  induction f with
  | zero =>
    intro d n hk hd hn
    have kk := hk
    unfold Known at kk
    cases n with
    | zero =>
      have e := pj3_end (d := d) (hs := hs) (n := ((0 : Nat) : Int)) (c := c)
      rw [if_pos hk] at e
      refine Ev.step (fun k => ?_) e
      simp only [calendar_Work.l0]
      rw [known_f kk.1 kk.2]
      simp
    | succ n =>
      have e := pwl0_out (d := d + c) (hs := hs) (n := ((n + 1 : Nat) : Int)) (c := c) (dist_zero hc hk hd)
      refine Ev.step (f := fun k => calendar_Work.j3 k d ((n + 1 : Nat) : Int) hs c true) (fun k => ?_) (Ev.step (fun k => ?_) e)
      · simp only [calendar_Work.l0]
        rw [known_f kk.1 kk.2]
        simp only [Option.bind_some]
        rw [if_pos trivial, decide_eq_true (by omega)]
      · simp only [calendar_Work.j3]
        rw [if_pos trivial, w64 (by rcases hc with rfl | rfl <;> omega) (by rcases hc with rfl | rfl <;> omega), known_no (dist_zero hc hk hd)]
        rfl
  | succ f ih =>
    intro d n hk hd hn
    have kk := hk
    unfold Known at kk
    cases n with
    | zero =>
      have e := pj3_end (d := d) (hs := hs) (n := ((0 : Nat) : Int)) (c := c)
      rw [if_pos hk] at e
      refine Ev.step (fun k => ?_) e
      simp only [calendar_Work.l0]
      rw [known_f kk.1 kk.2]
      simp
    | succ n =>
      obtain ⟨hk2, hd2⟩ := dist_succ hc hk hd
      have kk2 := hk2
      unfold Known at kk2
      have e1 := ih (d + c) n hk2 hd2 (by omega)
      have e2 := ih (d + c) (n + 1) hk2 hd2 hn
      have ct := contains_ev (xs := hs) (d + c) (by omega)
      have wb := wd_bd (d + c)
      have wkeq : wk hs c (f + 1) d (n + 1) = if Wrk hs (d + c) then wk hs c f (d + c) n else wk hs c f (d + c) (n + 1) := rfl
      rw [wkeq]
      refine Ev.step (f := fun k => calendar_Work.j3 k d ((n + 1 : Nat) : Int) hs c true) (fun k => ?_) ?_
      · simp only [calendar_Work.l0]
        rw [known_f kk.1 kk.2]
        simp only [Option.bind_some]
        rw [if_pos trivial, decide_eq_true (by omega)]
      · refine Ev.step (f := fun k => if wd (d + c) < 5 then ((slices_Contains_int_int.f k hs (d + c)).bind fun t167 => (if t167 = true then (calendar_Work.l0 k (d + c) ((n + 1 : Nat) : Int) hs c) else (calendar_Work.l0 k (d + c) ((n : Nat) : Int) hs c))) else (calendar_Work.l0 k (d + c) ((n + 1 : Nat) : Int) hs c)) (fun k => ?_) ?_
        · simp only [calendar_Work.j3]
          rw [if_pos trivial, w64 (x := d + c) (by omega) (by omega), known_f kk2.1 kk2.2]
          simp only [Option.bind_some]
          rw [if_pos trivial, pwd]
          simp only [Option.bind_some]
          rw [w64 (x := ((n + 1 : Nat) : Int) - 1) (by omega) (by omega), show ((n + 1 : Nat) : Int) - 1 = (n : Int) by omega]
        · by_cases q1 : wd (d + c) < 5
          · refine ev_pos q1 (Ev.bind ct ?_)
            by_cases q2 : d + c ∈ hs
            · rw [if_neg (fun q => q.2 q2), decide_eq_true q2]
              exact ev_pos rfl e2
            · rw [if_pos ⟨by omega, q2⟩, decide_eq_false q2]
              exact ev_neg (by decide) e1
          · rw [if_neg (fun q => q1 (by have := q.1; omega))]
            exact ev_neg q1 e2
/-! ### the reference -/
theorem working_ev {d : Int} {hs : List Int} (hl : (hs.length : Int) ≤ 1000) (n : Nat) : ∀ i : Int, 0 ≤ i → i + n = hs.length → Ev (fun k => dioramaref08_Working.l0 k d hs i) (decide (wd d ≤ 4 ∧ d ∉ hs.drop i.toNat)) := by
  induction n with
  | zero =>
    intro i i0 hi
    rw [List.drop_of_length_le (by omega)]
    refine Ev.step (f := fun _ => some (decide (wd d ≤ 4 ∧ d ∉ []))) (fun k => ?_) (Ev.now _)
    simp only [dioramaref08_Working.l0]
    rw [if_neg (by omega), rwd]
    simp
  | succ n ih =>
    intro i i0 hi
    have e := ih (i + 1) (by omega) (by omega)
    rw [rd_drop hs i i0 (by omega)]
    by_cases c : rd hs i = d
    · refine Ev.step (f := fun _ => some false) (fun k => ?_) ?_
      · simp only [dioramaref08_Working.l0]
        rw [if_pos (by omega), if_pos i0, if_pos c]
      · rw [decide_eq_false (fun q => q.2 (by rw [c]; exact List.mem_cons_self))]
        exact Ev.now _
    · have : (wd d ≤ 4 ∧ d ∉ rd hs i :: hs.drop (i + 1).toNat) ↔ (wd d ≤ 4 ∧ d ∉ hs.drop (i + 1).toNat) := by
        simp only [List.mem_cons, not_or]
        exact ⟨fun q => ⟨q.1, q.2.2⟩, fun q => ⟨q.1, fun z => c z.symm, q.2⟩⟩
      rw [decide_eq_decide.2 this]
      refine Ev.step (fun k => ?_) e
      simp only [dioramaref08_Working.l0]
      rw [if_pos (by omega), if_pos i0, if_neg c, w64 (by omega) (by omega)]
theorem working {d : Int} {hs : List Int} (hl : (hs.length : Int) ≤ 1000) : Ev (fun k => dioramaref08_Working.f k d hs) (decide (Wrk hs d)) := by
  have e := working_ev (d := d) hl hs.length 0 (by omega) (by omega)
  exact e
theorem rwl0 {hs : List Int} (hl : (hs.length : Int) ≤ 1000) {c : Int} (hc : Dir c) (f : Nat) : ∀ (d : Int) (n : Nat), Known d → dist c d = f → n ≤ 1000 → Ev (fun k => dioramaref08_Work.l0 k d (c * n) hs) (wk hs c f d n) := by
  have start (d : Int) (n : Nat) (hk : Known d) (hn : n + 1 ≤ 1000) {r : Int × Int} (h : Ev (fun k => dioramaref08_Work.j2 k (d + c) (c * ((n + 1 : Nat) : Int)) hs) r) : Ev (fun k => dioramaref08_Work.l0 k d (c * ((n + 1 : Nat) : Int)) hs) r := by
    unfold Known at hk
    refine Ev.step (fun k => ?_) h
    simp only [dioramaref08_Work.l0]
    rcases hc with rfl | rfl
    · rw [if_neg (by omega), if_pos (by omega), w64 (by omega) (by omega)]
    · rw [if_neg (by omega), if_neg (by omega), w64 (by omega) (by omega)]
      rfl
  have zero (d : Int) : Ev (fun k => dioramaref08_Work.l0 k d (c * ((0 : Nat) : Int)) hs) (d, 0) := by
    refine Ev.step (f := fun _ => some (d, 0)) (fun k => ?_) (Ev.now _)
    simp only [dioramaref08_Work.l0]
    rw [if_pos (by simp)]
  induction f with
  | zero =>
    intro d n hk hd hn
    cases n with
    | zero => exact zero d
    | succ n =>
      refine start d n hk hn ?_
      refine Ev.step (f := fun _ => some (0, 5)) (fun k => ?_) (Ev.now _)
      simp only [dioramaref08_Work.j2]
      rw [Known_no (dist_zero hc hk hd)]
      rfl
  | succ f ih =>
    intro d n hk hd hn
    cases n with
    | zero => exact zero d
    | succ n =>
      obtain ⟨hk2, hd2⟩ := dist_succ hc hk hd
      have kk2 := hk2
      unfold Known at kk2
      have e1 := ih (d + c) n hk2 hd2 (by omega)
      have e2 := ih (d + c) (n + 1) hk2 hd2 hn
      have wv := working (d := d + c) hl
      have wkeq : wk hs c (f + 1) d (n + 1) = if Wrk hs (d + c) then wk hs c f (d + c) n else wk hs c f (d + c) (n + 1) := rfl
      rw [wkeq]
      refine start d n hk hn ?_
      refine Ev.step (f := fun k => (dioramaref08_Working.f k (d + c) hs).bind fun t372 => (if t372 = true then (dioramaref08_Work.j3 k (d + c) (c * ((n + 1 : Nat) : Int)) hs (decide (c * ((n + 1 : Nat) : Int) > 0))) else (dioramaref08_Work.j3 k (d + c) (c * ((n + 1 : Nat) : Int)) hs false))) (fun k => ?_) (Ev.bind wv ?_)
      · simp only [dioramaref08_Work.j2]
        rw [Known_f kk2.1 kk2.2]
        simp only [Option.bind_some]
        rw [if_pos trivial]
      · by_cases q : Wrk hs (d + c)
        · rw [if_pos q, decide_eq_true q]
          rw [decide_eq_true q] at wv
          refine ev_pos rfl ?_
          rcases hc with rfl | rfl
          · rw [decide_eq_true (by omega)]
            refine Ev.step (fun k => ?_) e1
            simp only [dioramaref08_Work.j3]
            rw [if_pos trivial, w64 (by omega) (by omega), show (1 : Int) * ((n + 1 : Nat) : Int) - 1 = 1 * (n : Int) by omega]
          · rw [decide_eq_false (by omega)]
            refine Ev.step (f := fun k => (dioramaref08_Working.f k (d + -1) hs).bind fun t373 => (if t373 = true then (dioramaref08_Work.l0 k (d + -1) (-1 * (n : Int)) hs) else (dioramaref08_Work.l0 k (d + -1) (-1 * ((n + 1 : Nat) : Int)) hs))) (fun k => ?_) (Ev.bind wv (ev_pos rfl e1))
            simp only [dioramaref08_Work.j3]
            rw [if_neg (by decide), w64 (by omega) (by omega), show (-1 : Int) * ((n + 1 : Nat) : Int) + 1 = -1 * (n : Int) by omega]
        · rw [if_neg q, decide_eq_false q]
          rw [decide_eq_false q] at wv
          refine ev_neg (by decide) ?_
          refine Ev.step (f := fun k => (dioramaref08_Working.f k (d + c) hs).bind fun t373 => (if t373 = true then (dioramaref08_Work.l0 k (d + c) (wrap64 (c * ((n + 1 : Nat) : Int) + 1)) hs) else (dioramaref08_Work.l0 k (d + c) (c * ((n + 1 : Nat) : Int)) hs))) (fun k => ?_) (Ev.bind wv (ev_neg (by decide) e2))
          simp only [dioramaref08_Work.j3]
          rw [if_neg (by decide)]
/-- Work -/
def work (d n : Int) (hs : List Int) : Int × Int :=
  if n < -1000 ∨ n > 1000 ∨ (hs.length : Int) > 400 then (0, 4) else if Known d then (if n < 0 then wk hs (-1) (dist (-1) d) d (-n).toNat else wk hs 1 (dist 1 d) d n.toNat) else (0, 5)
theorem pwork (d n : Int) (hs : List Int) (hn : (Lit.int .i64 n).wf = true) : Ev (fun k => calendar_Work.f k d n hs) (work d n hs) := by
  have b := bd64 hn
  have lim : Ev (fun k => calendar_Work.j0 k d n hs true) (0, 4) := Ev.step (f := fun _ => some (0, 4)) (fun k => by simp [calendar_Work.j0]) (Ev.now _)
  unfold calendar_Work.f work
  by_cases c1 : n < -1000
  · rw [if_pos (.inl c1)]
    exact ev_pos c1 lim
  refine ev_neg c1 ?_
  by_cases c2 : n > 1000
  · rw [if_pos (.inr (.inl c2))]
    exact ev_pos c2 lim
  refine ev_neg c2 ?_
  by_cases c3 : (hs.length : Int) > 400
  · rw [if_pos (.inr (.inr c3)), decide_eq_true c3]
    exact lim
  rw [if_neg (by omega), decide_eq_false c3]
  by_cases hk : Known d
  · rw [if_pos hk]
    by_cases c4 : n < 0
    · rw [if_pos c4]
      have e := pwl0 (hs := hs) (by omega) (c := -1) (.inr rfl) (dist (-1) d) d (-n).toNat hk rfl (by omega)
      refine Ev.step (f := fun k => calendar_Work.j1 k d (-n) hs (-1)) (fun k => ?_) (Ev.step (fun k => ?_) e)
      · simp only [calendar_Work.j0]
        rw [if_neg (by decide), if_pos c4, w64 (by omega) (by omega)]
      · simp only [calendar_Work.j1]
        rw [show (((-n).toNat : Nat) : Int) = -n by omega]
    · rw [if_neg c4]
      have e := pwl0 (hs := hs) (by omega) (c := 1) (.inl rfl) (dist 1 d) d n.toNat hk rfl (by omega)
      refine Ev.step (f := fun k => calendar_Work.j1 k d n hs 1) (fun k => ?_) (Ev.step (fun k => ?_) e)
      · simp only [calendar_Work.j0]
        rw [if_neg (by decide), if_neg c4]
      · simp only [calendar_Work.j1]
        rw [show ((n.toNat : Nat) : Int) = n by omega]
  · rw [if_neg hk]
    refine Ev.step (f := fun k => if n < 0 then calendar_Work.j1 k d (wrap64 (-n)) hs (-1) else calendar_Work.j1 k d n hs 1) (fun k => ?_) ?_
    · simp only [calendar_Work.j0]
      rw [if_neg (by decide)]
    · have j (m c : Int) : Ev (fun k => calendar_Work.j1 k d m hs c) (0, 5) := Ev.step (f := fun k => calendar_Work.l0 k d m hs c) (fun k => by simp only [calendar_Work.j1]) (pwl0_out hk)
      by_cases c4 : n < 0
      · exact ev_pos c4 (j _ _)
      · exact ev_neg c4 (j _ _)
theorem rwork (d n : Int) (hs : List Int) (hn : (Lit.int .i64 n).wf = true) : Ev (fun k => dioramaref08_Work.f k d n hs) (work d n hs) := by
  have b := bd64 hn
  have lim : Ev (fun k => dioramaref08_Work.j0 k d n hs true) (0, 4) := Ev.step (f := fun _ => some (0, 4)) (fun k => by simp [dioramaref08_Work.j0]) (Ev.now _)
  unfold dioramaref08_Work.f work
  by_cases c1 : n < -1000
  · rw [if_pos (.inl c1)]
    exact ev_pos c1 lim
  refine ev_neg c1 ?_
  by_cases c2 : n > 1000
  · rw [if_pos (.inr (.inl c2))]
    exact ev_pos c2 lim
  refine ev_neg c2 ?_
  by_cases c3 : (hs.length : Int) > 400
  · rw [if_pos (.inr (.inr c3)), decide_eq_true c3]
    exact lim
  rw [if_neg (by omega), decide_eq_false c3]
  refine Ev.step (f := fun k => (dioramaref08_Known.f d).bind fun t370 => (if t370 = true then (dioramaref08_Work.l0 k d n hs) else (some (0, 5)))) (fun k => ?_) ?_
  · simp only [dioramaref08_Work.j0]
    rw [if_neg (by decide)]
  · rw [rKnownb]
    refine ev_some ?_
    by_cases hk : Known d
    · rw [if_pos hk]
      refine ev_pos (decide_eq_true hk) ?_
      by_cases c4 : n < 0
      · rw [if_pos c4]
        have e := rwl0 (hs := hs) (by omega) (c := -1) (.inr rfl) (dist (-1) d) d (-n).toNat hk rfl (by omega)
        rwa [show -1 * (((-n).toNat : Nat) : Int) = n by omega] at e
      · rw [if_neg c4]
        have e := rwl0 (hs := hs) (by omega) (c := 1) (.inl rfl) (dist 1 d) d n.toNat hk rfl (by omega)
        rwa [show 1 * ((n.toNat : Nat) : Int) = n by omega] at e
    · rw [if_neg hk]
      exact ev_neg (by simpa using hk) (Ev.now _)

/-! ### counting on, and back -/
theorem wk_zero (hs : List Int) (c : Int) (f : Nat) (d : Int) : wk hs c f d 0 = (d, 0) := by cases f <;> rfl
theorem wk_err (hs : List Int) (c : Int) (f : Nat) : ∀ (d : Int) (n : Nat), (wk hs c f d n).2 = 0 ∨ wk hs c f d n = (0, 5) := by
  induction f with
  | zero => intro d n; cases n with
    | zero => exact .inl rfl
    | succ n => exact .inr rfl
  | succ f ih =>
    intro d n
    cases n with
    | zero => exact .inl rfl
    | succ n =>
      show (if Wrk hs (d + c) then wk hs c f (d + c) n else wk hs c f (d + c) (n + 1)).2 = 0 ∨ (if Wrk hs (d + c) then wk hs c f (d + c) n else wk hs c f (d + c) (n + 1)) = (0, 5)
      split
      · exact ih _ _
      · exact ih _ _
/-- where counting p ends, and that counting goes on from there -/
theorem wk_on {hs : List Int} {c : Int} (hc : Dir c) (f : Nat) : ∀ (d : Int) (p : Nat), Known d → dist c d = f →
    ((wk hs c f d p).2 = 0 → Known (wk hs c f d p).1 ∧ (0 < p → Wrk hs (wk hs c f d p).1) ∧ ∀ q, wk hs c f d (p + q) = wk hs c (dist c (wk hs c f d p).1) (wk hs c f d p).1 q) ∧
    (wk hs c f d p = (0, 5) → ∀ q, wk hs c f d (p + q) = (0, 5)) := by
  induction f with
  | zero =>
    intro d p hk hd
    cases p with
    | zero => exact ⟨fun _ => ⟨hk, fun h => absurd h (by omega), fun q => by rw [Nat.zero_add, wk_zero, hd]⟩, fun h => by rw [wk_zero] at h; simp at h⟩
    | succ p => exact ⟨fun h => by simp [wk] at h, fun _ q => by rw [show p + 1 + q = (p + q) + 1 by omega]; rfl⟩
  | succ f ih =>
    intro d p hk hd
    obtain ⟨hk2, hd2⟩ := dist_succ hc hk hd
    cases p with
    | zero => exact ⟨fun _ => ⟨hk, fun h => absurd h (by omega), fun q => by rw [Nat.zero_add, wk_zero, hd]⟩, fun h => by rw [wk_zero] at h; simp at h⟩
    | succ p =>
      have e (q : Nat) : wk hs c (f + 1) d (q + 1) = if Wrk hs (d + c) then wk hs c f (d + c) q else wk hs c f (d + c) (q + 1) := rfl
      have e2 (q : Nat) : wk hs c (f + 1) d (p + 1 + q) = if Wrk hs (d + c) then wk hs c f (d + c) (p + q) else wk hs c f (d + c) (p + 1 + q) := by
        rw [show p + 1 + q = (p + q) + 1 by omega, e]
      by_cases w : Wrk hs (d + c)
      · rw [e, if_pos w]
        have i := ih (d + c) p hk2 hd2
        refine ⟨fun h => ?_, fun h q => by rw [e2, if_pos w]; exact i.2 h q⟩
        obtain ⟨a, b, g⟩ := i.1 h
        refine ⟨a, fun _ => ?_, fun q => by rw [e2, if_pos w]; exact g q⟩
        cases p with
        | zero => rw [wk_zero]; exact w
        | succ p => exact b (by omega)
      · rw [e, if_neg w]
        have i := ih (d + c) (p + 1) hk2 hd2
        exact ⟨fun h => by obtain ⟨a, b, g⟩ := i.1 h; exact ⟨a, b, fun q => by rw [e2, if_neg w]; exact g q⟩, fun h q => by rw [e2, if_neg w]; exact i.2 h q⟩
/-- one step: the way is free of working days -/
theorem wk_one {hs : List Int} {c : Int} (hc : Dir c) (f : Nat) : ∀ (d x : Int), Known d → dist c d = f → wk hs c f d 1 = (x, 0) → ∃ k : Nat, 1 ≤ k ∧ x = d + c * k ∧ ∀ j : Nat, 0 < j → j < k → ¬ Wrk hs (d + c * j) := by
  induction f with
  | zero => intro d x hk hd h; simp [wk] at h
  | succ f ih =>
    intro d x hk hd h
    obtain ⟨hk2, hd2⟩ := dist_succ hc hk hd
    have e : wk hs c (f + 1) d 1 = if Wrk hs (d + c) then wk hs c f (d + c) 0 else wk hs c f (d + c) 1 := rfl
    rw [e] at h
    by_cases w : Wrk hs (d + c)
    · rw [if_pos w, wk_zero] at h
      have hx := congrArg Prod.fst h
      simp only at hx
      exact ⟨1, by omega, by rw [← hx]; rcases hc with rfl | rfl <;> omega, fun j j0 j1 => by omega⟩
    · rw [if_neg w] at h
      obtain ⟨k, k1, hx, hj⟩ := ih (d + c) x hk2 hd2 h
      refine ⟨k + 1, by omega, by rw [hx]; rcases hc with rfl | rfl <;> omega, fun j j0 j1 => ?_⟩
      by_cases j2 : j = 1
      · subst j2
        rwa [show d + c * ((1 : Nat) : Int) = d + c by rcases hc with rfl | rfl <;> omega]
      · have := hj (j - 1) (by omega) (by omega)
        rwa [show d + c + c * ((j - 1 : Nat) : Int) = d + c * (j : Int) by rcases hc with rfl | rfl <;> omega] at this
theorem wk_there {hs : List Int} {c : Int} (hc : Dir c) (k : Nat) : ∀ (d : Int), 1 ≤ k → Known d → Known (d + c * k) → Wrk hs (d + c * k) → (∀ j : Nat, 0 < j → j < k → ¬ Wrk hs (d + c * j)) → wk hs c (dist c d) d 1 = (d + c * k, 0) := by
  induction k with
  | zero => intro d h; omega
  | succ k ih =>
    intro d _ hk hx w hj
    have kd := hk
    have kx := hx
    unfold Known at kd kx
    obtain ⟨f, hf⟩ : ∃ f, dist c d = f + 1 := ⟨dist c d - 1, by unfold dist; rcases hc with rfl | rfl <;> simp <;> omega⟩
    obtain ⟨hk2, hd2⟩ := dist_succ hc hk hf
    rw [hf]
    have e : wk hs c (f + 1) d 1 = if Wrk hs (d + c) then wk hs c f (d + c) 0 else wk hs c f (d + c) 1 := rfl
    rw [e]
    by_cases k0 : k = 0
    · subst k0
      rw [show d + c * ((0 + 1 : Nat) : Int) = d + c by rcases hc with rfl | rfl <;> omega] at w ⊢
      rw [if_pos w, wk_zero]
    · have n1 := hj 1 (by omega) (by omega)
      rw [show d + c * ((1 : Nat) : Int) = d + c by rcases hc with rfl | rfl <;> omega] at n1
      rw [if_neg n1, ← hd2]
      have es : d + c * ((k + 1 : Nat) : Int) = d + c + c * (k : Int) := by rcases hc with rfl | rfl <;> omega
      rw [es] at hx w ⊢
      refine ih (d + c) (by omega) hk2 hx w (fun j j0 j1 => ?_)
      have := hj (j + 1) (by omega) (by omega)
      rwa [show d + c * ((j + 1 : Nat) : Int) = d + c + c * (j : Int) by rcases hc with rfl | rfl <;> omega] at this
theorem Dir.neg {c : Int} (h : Dir c) : Dir (-c) := by rcases h with rfl | rfl <;> simp [Dir]
theorem wk_back_one {hs : List Int} {c : Int} (hc : Dir c) {d x : Int} (hk : Known d) (hw : Wrk hs d) (h : wk hs c (dist c d) d 1 = (x, 0)) : wk hs (-c) (dist (-c) x) x 1 = (d, 0) := by
  obtain ⟨k, k1, hx, hj⟩ := wk_one hc (dist c d) d x hk rfl h
  have kx : Known x := by
    have := (wk_on (hs := hs) hc (dist c d) d 1 hk rfl).1 (by rw [h])
    rw [h] at this
    exact this.1
  have e : d = x + -c * k := by rw [hx]; rcases hc with rfl | rfl <;> omega
  have := wk_there (hs := hs) hc.neg k x k1 kx (by rw [← e]; exact hk) (by rw [← e]; exact hw) (fun j j0 j1 => by
    have := hj (k - j) (by omega) (by omega)
    rwa [show d + c * ((k - j : Nat) : Int) = x + -c * (j : Int) by rw [hx]; rcases hc with rfl | rfl <;> omega] at this)
  rwa [← e] at this
theorem wk_back {hs : List Int} {c : Int} (hc : Dir c) {d : Int} (hk : Known d) (hw : Wrk hs d) (p : Nat) : ∀ x, wk hs c (dist c d) d p = (x, 0) → wk hs (-c) (dist (-c) x) x p = (d, 0) := by
  induction p with
  | zero =>
    intro x h
    rw [wk_zero] at h
    have := congrArg Prod.fst h
    simp only at this
    subst this
    rw [wk_zero]
  | succ p ih =>
    intro x h
    have on := wk_on (hs := hs) hc (dist c d) d p hk rfl
    rcases wk_err hs c (dist c d) d p with e | e
    rotate_left
    · rw [on.2 e 1] at h
      simp at h
    obtain ⟨ky, wy, g⟩ := on.1 e
    obtain ⟨y, hy⟩ : ∃ y, wk hs c (dist c d) d p = (y, 0) := ⟨(wk hs c (dist c d) d p).1, by rw [← e]⟩
    have i := ih y hy
    rw [hy] at ky wy g
    simp only at ky wy g
    rw [g 1] at h
    have wyy : Wrk hs y := by
      cases p with
      | zero =>
        rw [wk_zero] at hy
        have := congrArg Prod.fst hy
        simp only at this
        subst this
        exact hw
      | succ p => exact wy (by omega)
    have b := wk_back_one hc ky wyy h
    have kx : Known x := by
      have := (wk_on (hs := hs) hc (dist c y) y 1 ky rfl).1 (by rw [h])
      rw [h] at this
      exact this.1
    have on2 := (wk_on (hs := hs) hc.neg (dist (-c) x) x 1 kx rfl).1 (by rw [b])
    have g2 := on2.2.2 p
    rw [b] at g2
    simp only at g2
    rw [show p + 1 = 1 + p by omega, g2]
    exact i
end Go.Proofs.YtlfgjpidamkpdaaDoor.Cal
