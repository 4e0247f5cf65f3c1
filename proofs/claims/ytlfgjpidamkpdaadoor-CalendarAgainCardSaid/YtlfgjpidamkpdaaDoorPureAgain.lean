/- The law CalendarAgain over plain numbers: working days are counted on from one to the next, and back. -/
import Derived.Test.YtlfgjpidamkpdaaDoorM9
import Derived.Test.YtlfgjpidamkpdaaDoorPc18
namespace Go.Proofs.YtlfgjpidamkpdaaDoor.Cal
open Go.RowKit Go.Proofs.YtlfgjpidamkpdaaDoor.Pc Go.Proofs.YtlfgjpidamkpdaaDoorW.PrintWords Go.Proofs.YtlfgjpidamkpdaaDoorW.PrintLast
set_option linter.unusedVariables false
set_option linter.unusedSimpArgs false

/-- Work in a direction -/
theorem work_dir {d : Int} {hs : List Int} {c : Int} (hc : Dir c) (hk : Known d) (hl : (hs.length : Int) ≤ 400) (p : Nat) (p1 : p ≤ 1000) : work d (c * p) hs = wk hs c (dist c d) d p := by
  unfold work
  rw [if_neg (by rcases hc with rfl | rfl <;> omega), if_pos hk]
  rcases hc with rfl | rfl
  · rw [if_neg (by omega), show (1 * (p : Int)).toNat = p by omega]
  · by_cases p0 : p = 0
    · subst p0
      rw [if_neg (by omega), show ((-1 : Int) * ((0 : Nat) : Int)).toNat = 0 by omega, wk_zero, wk_zero]
    · rw [if_pos (by omega), show (-(-1 * (p : Int))).toNat = p by omega]
theorem ca_j2 {day : Int} {hs : List Int} {c : Int} (hc : Dir c) (hk : Known day) (hl : (hs.length : Int) ≤ 400) (p q : Nat) (p0 : 1 ≤ p) (p1 : p ≤ 100) (q0 : 1 ≤ q) (q1 : q ≤ 100) : Ev (fun k => dioramalaw08_CalendarAgain.j2 k day hs (c * p) (c * q)) true := by
  have liv : Ev (fun k => (dioramalaw08_lives.f k).bind fun t => some t) true := Ev.bind lives (Ev.now _)
  have wfc (m : Nat) (hm : m ≤ 1000) : (Lit.int .i64 (c * m)).wf = true := by
    apply wf64 <;> rcases hc with rfl | rfl <;> omega
  have e1 := pwork day (c * p) hs (wfc p (by omega))
  have e2 := pwork day (c * (p + q : Nat)) hs (wfc (p + q) (by omega))
  rw [work_dir hc hk hl p (by omega)] at e1
  rw [work_dir hc hk hl (p + q) (by omega)] at e2
  have on := wk_on (hs := hs) hc (dist c day) day p hk rfl
  refine Ev.step (f := fun k => (calendar_Work.f k day (c * p) hs).bind fun bt485 => (calendar_Work.f k day (c * (p + q : Nat)) hs).bind fun bt487 => (if bt485.2 = 0 then (dioramalaw08_CalendarAgain.j3 k day hs (c * p) (c * q) bt485.1 bt485.2 bt487.1 bt487.2 (bt487.2 != 0)) else (dioramalaw08_CalendarAgain.j3 k day hs (c * p) (c * q) bt485.1 bt485.2 bt487.1 bt487.2 true))) (fun k => ?_) (Ev.bind e1 (Ev.bind e2 ?_))
  · simp only [dioramalaw08_CalendarAgain.j2]
    rw [w64 (by rcases hc with rfl | rfl <;> omega) (by rcases hc with rfl | rfl <;> omega), show c * (p : Int) + c * (q : Int) = c * ((p + q : Nat) : Int) by rcases hc with rfl | rfl <;> omega]
  rcases wk_err hs c (dist c day) day p with a | a
  rotate_left
  · have b := on.2 a q
    rw [a, b]
    refine ev_neg (by decide) ?_
    refine Ev.step (fun k => ?_) liv
    simp only [dioramalaw08_CalendarAgain.j3]
    rw [if_pos trivial, if_pos trivial, if_pos trivial]
  obtain ⟨kx, wx, g⟩ := on.1 a
  obtain ⟨x, hx⟩ : ∃ x, wk hs c (dist c day) day p = (x, 0) := ⟨(wk hs c (dist c day) day p).1, by rw [← a]⟩
  rw [hx] at kx wx g
  simp only at kx wx g
  have wxx := wx (by omega)
  rw [hx, g q]
  refine ev_pos rfl ?_
  have on2 := wk_on (hs := hs) hc (dist c x) x q kx rfl
  rcases wk_err hs c (dist c x) x q with b | b
  rotate_left
  · rw [b]
    refine Ev.step (fun k => ?_) liv
    simp only [dioramalaw08_CalendarAgain.j3]
    rw [if_pos (by decide), if_neg (by decide), if_pos trivial, if_pos trivial]
  obtain ⟨ky, wy, _⟩ := on2.1 b
  obtain ⟨y, hy⟩ : ∃ y, wk hs c (dist c x) x q = (y, 0) := ⟨(wk hs c (dist c x) x q).1, by rw [← b]⟩
  rw [hy] at ky wy
  simp only at ky wy
  have wyy := wy (by omega)
  rw [hy]
  have e3 := pwork x (c * q) hs (wfc q (by omega))
  rw [work_dir hc kx hl q (by omega), hy] at e3
  have w1 := working (d := x) (hs := hs) (by omega)
  rw [decide_eq_true wxx] at w1
  have w2 := working (d := day) (hs := hs) (by omega)
  have neg : -(c * (p : Int)) = -c * (p : Int) := by rcases hc with rfl | rfl <;> omega
  have e4 := pwork x (-c * p) hs (by apply wf64 <;> rcases hc with rfl | rfl <;> omega)
  rw [work_dir hc.neg kx hl p (by omega)] at e4
  refine Ev.step (f := fun k => (calendar_Work.f k x (c * q) hs).bind fun bt491 => (if bt491.2 = 0 then (if bt491.1 = y then ((dioramaref08_Working.f k x hs).bind fun t493 => (if t493 = true then (dioramalaw08_CalendarAgain.j4 k day hs (c * p) x (decide (wd y > 4))) else (dioramalaw08_CalendarAgain.j4 k day hs (c * p) x true))) else (dioramalaw08_CalendarAgain.j4 k day hs (c * p) x true)) else (dioramalaw08_CalendarAgain.j4 k day hs (c * p) x true))) (fun k => ?_) (Ev.bind e3 (ev_pos rfl (ev_pos rfl (Ev.bind w1 (ev_pos rfl ?_)))))
  · simp only [dioramalaw08_CalendarAgain.j3]
    rw [if_neg (by decide), pwd]
    rfl
  · rw [decide_eq_false (by have := wyy.1; omega)]
    refine Ev.step (f := fun k => (calendar_Work.f k x (-c * p) hs).bind fun bt495 => (dioramaref08_Working.f k day hs).bind fun t497 => (if t497 = true then (if bt495.2 = 0 then (if bt495.1 = day then ((dioramalaw08_lives.f k).bind fun t498 => (some t498)) else (some false)) else (some false)) else ((dioramalaw08_lives.f k).bind fun t499 => (some t499)))) (fun k => ?_) (Ev.bind e4 (Ev.bind w2 ?_))
    · simp only [dioramalaw08_CalendarAgain.j4]
      rw [if_neg (by decide), w64 (by rcases hc with rfl | rfl <;> omega) (by rcases hc with rfl | rfl <;> omega), neg]
    · by_cases wday : Wrk hs day
      · rw [decide_eq_true wday, wk_back hc hk wday p x hx]
        exact ev_pos rfl (ev_pos rfl (ev_pos rfl liv))
      · rw [decide_eq_false wday]
        exact ev_neg (by decide) liv
theorem ca_j1 {a b day : Int} {hs : List Int} (ha : (Lit.int .i64 a).wf = true) (hb : (Lit.int .i64 b).wf = true) (hk : Known day) (hl : (hs.length : Int) ≤ 400) : Ev (fun k => dioramalaw08_CalendarAgain.j1 k a b day hs) true := by
  have x := ar_bd a 30 (by omega)
  have y := ar_bd b 30 (by omega)
  have step {r : Bool} (h : Ev (fun k => if (Int.tmod a 2) = 1 then (dioramalaw08_CalendarAgain.j2 k day hs (-(1 + ar a 30)) (-(1 + ar b 30))) else (dioramalaw08_CalendarAgain.j2 k day hs (1 + ar a 30) (1 + ar b 30))) r) : Ev (fun k => dioramalaw08_CalendarAgain.j1 k a b day hs) r := by
    refine Ev.step (fun k => ?_) h
    simp only [dioramalaw08_CalendarAgain.j1]
    rw [around ha (by omega), around hb (by omega)]
    simp only [Option.bind_some]
    rw [w64 (x := 1 + ar a 30) (by omega) (by omega), w64 (x := 1 + ar b 30) (by omega) (by omega), w64 (x := -(1 + ar a 30)) (by omega) (by omega), w64 (x := -(1 + ar b 30)) (by omega) (by omega)]
  refine step ?_
  by_cases c : Int.tmod a 2 = 1
  · refine ev_pos c ?_
    have e := ca_j2 (c := -1) (.inr rfl) hk hl (1 + ar a 30).toNat (1 + ar b 30).toNat (by omega) (by omega) (by omega) (by omega)
    rwa [show -1 * (((1 + ar a 30).toNat : Nat) : Int) = -(1 + ar a 30) by omega, show -1 * (((1 + ar b 30).toNat : Nat) : Int) = -(1 + ar b 30) by omega] at e
  · refine ev_neg c ?_
    have e := ca_j2 (c := 1) (.inl rfl) hk hl (1 + ar a 30).toNat (1 + ar b 30).toNat (by omega) (by omega) (by omega) (by omega)
    rwa [show 1 * (((1 + ar a 30).toNat : Nat) : Int) = 1 + ar a 30 by omega, show 1 * (((1 + ar b 30).toNat : Nat) : Int) = 1 + ar b 30 by omega] at e
theorem ca_l0 {a b day : Int} {l : List Int} (ha : (Lit.int .i64 a).wf = true) (hb : (Lit.int .i64 b).wf = true) (hw : ∀ x ∈ l, (Lit.int .i64 x).wf = true) (hk : Known day) (hm : (l.length : Int) ≤ 1000000000000000000) (n : Nat) : ∀ (i : Int) (hs : List Int), 0 ≤ i → i + n = 30 → (hs.length : Int) ≤ i → Ev (fun k => dioramalaw08_CalendarAgain.l0 k a b l day hs i) true := by
  have kk := hk
  unfold Known at kk
  induction n with
  | zero =>
    intro i hs i0 hi hh
    refine Ev.step (fun k => ?_) (ca_j1 ha hb hk (hs := hs) (by omega))
    simp only [dioramalaw08_CalendarAgain.l0]
    by_cases c : i < l.length
    · rw [if_pos c, if_neg (by omega)]
    · rw [if_neg c]
  | succ n ih =>
    intro i hs i0 hi hh
    by_cases c : i < l.length
    · have x := ar_bd (rd l i) 60 (by omega)
      have e := ih (i + 1) (hs ++ [day + ar (rd l i) 60 - 30]) (by omega) (by omega) (by simp; omega)
      refine Ev.step (fun k => ?_) e
      simp only [dioramalaw08_CalendarAgain.l0]
      rw [if_pos c, if_pos (by omega), if_pos i0, around (rd_wf hw i i0 c) (by omega)]
      simp only [Option.bind_some]
      rw [if_pos (by omega), w64 (x := day + ar (rd l i) 60) (by omega) (by omega), w64 (x := day + ar (rd l i) 60 - 30) (by omega) (by omega), w64 (by omega) (by omega)]
    · refine Ev.step (fun k => ?_) (ca_j1 ha hb hk (hs := hs) (by omega))
      simp only [dioramalaw08_CalendarAgain.l0]
      rw [if_neg c]
theorem CalendarAgain : dioramalaw08_CalendarAgain.Pure := by
  intro n a b l hn ha hb hm1 hm hw
  obtain ⟨d, hd, e⟩ := someDay hn
  have h : Ev (fun k => dioramalaw08_CalendarAgain.f k n a b l) true := by
    unfold dioramalaw08_CalendarAgain.f
    exact Ev.bind e (ca_l0 ha hb hw hd (by omega) 30 0 [] (by omega) (by omega) (by simp))
  exact h.rounds
end Go.Proofs.YtlfgjpidamkpdaaDoor.Cal
