/- Civil, Day and Weekday of the program and of the reference come to the same numbers. -/
import Derived.Test.YtlfgjpidamkpdaaDoorM1
import Derived.Test.YtlfgjpidamkpdaaDoorPc2
import Derived.Test.YtlfgjpidamkpdaaDoorPc3
namespace Go.Proofs.YtlfgjpidamkpdaaDoor.Cal
open Go.RowKit Go.Proofs.YtlfgjpidamkpdaaDoor.Pc Go.Proofs.YtlfgjpidamkpdaaDoorW.PrintWords Go.Proofs.YtlfgjpidamkpdaaDoorW.PrintLast
set_option linter.unusedVariables false
set_option linter.unusedSimpArgs false

theorem ev_some {α β : Type} {a : α} {f : Nat → α → Option β} {r : β} (h : Ev (fun n => f n a) r) : Ev (fun n => (some a).bind (f n)) r := h
theorem ev_pos {β : Type} {c : Prop} [Decidable c] {g f : Nat → Option β} {r : β} (hc : c) (h : Ev g r) : Ev (fun n => if c then g n else f n) r := Ev.congr (fun _ => if_pos hc) h
theorem ev_neg {β : Type} {c : Prop} [Decidable c] {g f : Nat → Option β} {r : β} (hc : ¬ c) (h : Ev f r) : Ev (fun n => if c then g n else f n) r := Ev.congr (fun _ => if_neg hc) h
theorem w64 {x : Int} (h0 : -9223372036854775808 ≤ x) (h1 : x ≤ 9223372036854775807) : wrap64 x = x := by unfold wrap64; omega
theorem tmod_nn {a b : Int} (h : 0 ≤ a) : Int.tmod a b = a % b := Int.tmod_eq_emod_of_nonneg h
theorem tdiv_nn {a b : Int} (h : 0 ≤ a) : Int.tdiv a b = a / b := Int.tdiv_eq_ediv_of_nonneg h

theorem first_f {y : Int} (h0 : 1600 ≤ y) (h1 : y ≤ 2400) : calendar_first.f y = some (F y) := by
  unfold calendar_first.f F
  rw [if_pos ⟨h0, h1⟩]
theorem leap_YD {y : Int} (h0 : 0 ≤ y) : (leapB y = true → YD y = 366) ∧ (leapB y = false → YD y = 365) := by
  unfold leapB YD
  rw [tmod_nn h0, tmod_nn h0, tmod_nn h0]
  constructor
  · intro h
    have h := of_decide_eq_true h
    by_cases a : y % 400 = 0
    · rw [if_pos a]
    · rw [if_neg a, if_pos ⟨h.1, by omega⟩]
  · intro h
    have h := of_decide_eq_false h
    rw [if_neg (by intro a; exact h ⟨by omega, .inr a⟩), if_neg (by intro a; exact h ⟨a.1, .inl a.2⟩)]
theorem length_f {y m : Int} (h0 : 0 ≤ y) (m0 : 1 ≤ m) (m1 : m ≤ 12) : calendar_length.f y m = some (ML y m) := by
  unfold calendar_length.f
  rw [if_pos ⟨m0, m1⟩]
  have := leap_YD h0
  congr 1
  unfold ML monthLen
  by_cases c : m = 2
  · rw [if_pos c, if_pos c]
    cases hl : leapB y with
    | true => rw [if_pos ⟨c, rfl⟩, this.1 hl]; rfl
    | false => rw [if_neg (by simp), this.2 hl]; rfl
  · rw [if_neg (fun h => c h.1), if_neg c, if_neg c]
theorem YearDays_f {y : Int} (h0 : 0 ≤ y) : dioramaref08_YearDays.f y = some (YD y) := by
  unfold dioramaref08_YearDays.f YD
  rw [tmod_nn h0, tmod_nn h0, tmod_nn h0]
  by_cases a : y % 400 = 0
  · rw [if_pos a, if_pos a]
  · rw [if_neg a, if_neg a]
    by_cases b : y % 4 = 0
    · by_cases c : y % 100 = 0
      · rw [if_pos b, if_pos c, if_neg (fun h => h.2 c)]
      · rw [if_pos b, if_neg c, if_pos ⟨b, c⟩]
    · rw [if_neg b, if_neg (fun h => b h.1)]
theorem MonthDays_f {y m : Int} (h0 : 0 ≤ y) : dioramaref08_MonthDays.f y m = some (ML y m) := by
  unfold dioramaref08_MonthDays.f ML
  have := YD_or y
  by_cases a : m = 2
  · rw [if_pos a, if_pos a, YearDays_f h0]
    simp only [Option.bind_some]
    rw [w64 (by omega) (by omega)]
  · rw [if_neg a, if_neg a]
    by_cases b4 : m = 4
    · rw [if_pos b4, if_pos (.inl b4)]
    · by_cases b6 : m = 6
      · rw [if_neg b4, if_pos b6, if_pos (by simp [b6])]
      · by_cases b9 : m = 9
        · rw [if_neg b4, if_neg b6, if_pos b9, if_pos (by simp [b9])]
        · by_cases b11 : m = 11
          · rw [if_neg b4, if_neg b6, if_neg b9, if_pos b11, if_pos (by simp [b11])]
          · rw [if_neg b4, if_neg b6, if_neg b9, if_neg b11, if_neg (by simp [b4, b6, b9, b11])]

/-! ### Civil -/
theorem pl1 {y m d : Int} (h : Date y m d) (n : Nat) : ∀ x, 1 ≤ x → x ≤ m → m - x = n → Ev (fun k => calendar_Civil.l1 k y (CM y m + d - 1 - CM y x) x) (y, m, d) := by
  induction n with
  | zero =>
    intro x x0 x1 hx
    obtain rfl : x = m := by omega
    have e1 := h.d0
    have e2 := h.d1
    have e3 := ML_bd y x
    refine Ev.step (f := fun _ => some (y, x, d)) (fun k => ?_) (Ev.now _)
    simp only [calendar_Civil.l1]
    rw [length_f (by have := h.y0; omega) h.m0 h.m1]
    simp only [Option.bind_some]
    rw [if_neg (by omega), w64 (by omega) (by omega)]
    congr 3
    omega
  | succ n ih =>
    intro x x0 x1 hx
    have b := CM_succ y x x0 (by have := h.m1; omega)
    have c := CM_le y (x + 1) m (by omega) (by omega) (by have := h.m1; omega)
    have e := ih (x + 1) (by omega) (by omega) (by omega)
    have e1 := h.d0
    have e2 := h.d1
    have e3 := ML_bd y x
    have e4 := ML_bd y m
    have e5 := CM_bd y m h.m0 (by have := h.m1; omega)
    have e6 := CM_bd y x x0 (by have := h.m1; omega)
    refine Ev.step (fun k => ?_) e
    simp only [calendar_Civil.l1]
    rw [length_f (by have := h.y0; omega) x0 (by have := h.m1; omega)]
    simp only [Option.bind_some]
    rw [if_pos (by omega), w64 (by omega) (by omega), w64 (by have := h.m1; omega) (by have := h.m1; omega), show CM y m + d - 1 - CM y x - ML y x = CM y m + d - 1 - CM y (x + 1) by omega]
theorem pj1 {y m d : Int} (h : Date y m d) : Ev (fun k => calendar_Civil.j1 k (DN y m d) y) (y, m, d) := by
  have e := pl1 h (m - 1).toNat 1 (by omega) h.m0 (by have := h.m0; omega)
  have a := h.year
  have b := h.known
  have c := F_bd h.y0 (by have := h.y1; omega)
  refine Ev.step (fun k => ?_) e
  simp only [calendar_Civil.j1]
  rw [first_f h.y0 (by have := h.y1; omega)]
  simp only [Option.bind_some]
  rw [w64 (by omega) (by omega), CM_1]
  congr 1
  unfold DN
  omega
theorem pl0 {y m d : Int} (h : Date y m d) (n : Nat) : ∀ x, 1600 ≤ x → x ≤ y → y - x = n → Ev (fun k => calendar_Civil.l0 k (DN y m d) x) (y, m, d) := by
  have a := h.year
  have y1 := h.y1
  induction n with
  | zero =>
    intro x x0 x1 hx
    obtain rfl : x = y := by omega
    refine Ev.step (fun k => ?_) (pj1 h)
    simp only [calendar_Civil.l0]
    by_cases c : x < 2399
    · rw [if_pos c, w64 (by omega) (by omega), first_f (by omega) (by omega)]
      simp only [Option.bind_some]
      rw [if_neg (by omega)]
    · rw [if_neg c]
  | succ n ih =>
    intro x x0 x1 hx
    have e := ih (x + 1) (by omega) (by omega) (by omega)
    have c := F_le (y := x + 1) (z := y) (by omega) (by omega)
    refine Ev.step (fun k => ?_) e
    simp only [calendar_Civil.l0]
    rw [if_pos (by omega), w64 (by omega) (by omega), first_f (by omega) (by omega)]
    simp only [Option.bind_some]
    rw [if_pos (by omega)]
theorem known_f {d : Int} (h0 : -146097 ≤ d) (h1 : d < 146097) : calendar_known.f d = some true := by
  unfold calendar_known.f
  rw [if_pos h0]
  simp [h1]
theorem known_no {d : Int} (h : ¬ (-146097 ≤ d ∧ d < 146097)) : calendar_known.f d = some false := by
  unfold calendar_known.f
  by_cases a : d ≥ -146097
  · rw [if_pos a]
    have : ¬ d < 146097 := fun b => h ⟨a, b⟩
    simp [this]
  · rw [if_neg a]
theorem Known_f {d : Int} (h0 : -146097 ≤ d) (h1 : d < 146097) : dioramaref08_Known.f d = some true := by
  unfold dioramaref08_Known.f
  rw [if_pos h0]
  simp
  omega
theorem Known_no {d : Int} (h : ¬ (-146097 ≤ d ∧ d < 146097)) : dioramaref08_Known.f d = some false := by
  unfold dioramaref08_Known.f
  by_cases a : d ≥ -146097
  · rw [if_pos a]
    have : ¬ d ≤ 146096 := fun b => h ⟨a, by omega⟩
    simp [this]
  · rw [if_neg a]
theorem F_366 {y : Int} (h0 : 1600 ≤ y) : F y ≤ 366 * (y - 1600) - 146097 := by unfold F; omega
theorem civil {y m d : Int} (h : Date y m d) : Ev (fun k => calendar_Civil.f k (DN y m d)) (y, m, d) := by
  have b := h.known
  have a := h.year
  have c : F (1600 + (DN y m d + 146097) / 366) ≤ DN y m d := by
    have := F_366 (y := 1600 + (DN y m d + 146097) / 366) (by omega)
    omega
  have l : 1600 + (DN y m d + 146097) / 366 ≤ y := by
    rcases Int.lt_or_le y (1600 + (DN y m d + 146097) / 366) with q | q
    · have := F_le (y := y + 1) (z := 1600 + (DN y m d + 146097) / 366) (by have := h.y0; omega) (by omega)
      omega
    · exact q
  have e := pl0 h (y - (1600 + (DN y m d + 146097) / 366)).toNat (1600 + (DN y m d + 146097) / 366) (by omega) l (by omega)
  refine Ev.congr (fun k => ?_) e
  unfold calendar_Civil.f
  rw [known_f b.1 b.2]
  simp only [Option.bind_some]
  rw [if_pos trivial, w64 (x := DN y m d + 146097) (by omega) (by omega), tdiv_nn (by omega), w64 (x := (DN y m d + 146097) / 366) (by omega) (by omega), w64 (by omega) (by omega)]
theorem civil_no {d : Int} (h : ¬ (-146097 ≤ d ∧ d < 146097)) (k : Nat) : calendar_Civil.f k d = some (0, 0, 0) := by
  unfold calendar_Civil.f
  rw [known_no h]
  rfl
theorem rl1 {y m d : Int} (h : Date y m d) (n : Nat) : ∀ x, 1 ≤ x → x ≤ m → m - x = n → Ev (fun k => dioramaref08_Civil.l1 k (CM y m + d - 1 - CM y x) y x) (y, m, d) := by
  induction n with
  | zero =>
    intro x x0 x1 hx
    obtain rfl : x = m := by omega
    have e1 := h.d0
    have e2 := h.d1
    have e3 := ML_bd y x
    refine Ev.step (f := fun _ => some (y, x, d)) (fun k => ?_) (Ev.now _)
    simp only [dioramaref08_Civil.l1]
    rw [MonthDays_f (by have := h.y0; omega)]
    simp only [Option.bind_some]
    rw [if_neg (by omega), w64 (by omega) (by omega)]
    congr 3
    omega
  | succ n ih =>
    intro x x0 x1 hx
    have b := CM_succ y x x0 (by have := h.m1; omega)
    have c := CM_le y (x + 1) m (by omega) (by omega) (by have := h.m1; omega)
    have e := ih (x + 1) (by omega) (by omega) (by omega)
    have e1 := h.d0
    have e2 := h.d1
    have e3 := ML_bd y x
    have e4 := ML_bd y m
    have e5 := CM_bd y m h.m0 (by have := h.m1; omega)
    have e6 := CM_bd y x x0 (by have := h.m1; omega)
    refine Ev.step (fun k => ?_) e
    simp only [dioramaref08_Civil.l1]
    rw [MonthDays_f (by have := h.y0; omega)]
    simp only [Option.bind_some]
    rw [if_pos (by omega), w64 (by omega) (by omega), w64 (by have := h.m1; omega) (by have := h.m1; omega), show CM y m + d - 1 - CM y x - ML y x = CM y m + d - 1 - CM y (x + 1) by omega]
theorem rl0 {y m d : Int} (h : Date y m d) (n : Nat) : ∀ x, 1600 ≤ x → x ≤ y → y - x = n → Ev (fun k => dioramaref08_Civil.l0 k (DN y m d - F x) x) (y, m, d) := by
  have a := h.year
  have y1 := h.y1
  have b := h.known
  induction n with
  | zero =>
    intro x x0 x1 hx
    obtain rfl : x = y := by omega
    have e := rl1 h (m - 1).toNat 1 (by omega) h.m0 (by have := h.m0; omega)
    have s := F_succ x x0
    refine Ev.step (fun k => ?_) e
    simp only [dioramaref08_Civil.l0]
    rw [YearDays_f (by omega)]
    simp only [Option.bind_some]
    rw [if_neg (by omega), CM_1]
    congr 1
    unfold DN
    omega
  | succ n ih =>
    intro x x0 x1 hx
    have e := ih (x + 1) (by omega) (by omega) (by omega)
    have c := F_le (y := x + 1) (z := y) (by omega) (by omega)
    have s := F_succ x x0
    have q := YD_or x
    have f := F_bd x0 (by omega)
    refine Ev.step (fun k => ?_) e
    simp only [dioramaref08_Civil.l0]
    rw [YearDays_f (by omega)]
    simp only [Option.bind_some]
    rw [if_pos (by omega), w64 (by omega) (by omega), w64 (by omega) (by omega), show DN y m d - F x - YD x = DN y m d - F (x + 1) by omega]
theorem refCivil {y m d : Int} (h : Date y m d) : Ev (fun k => dioramaref08_Civil.f k (DN y m d)) (y, m, d) := by
  have b := h.known
  have e := rl0 h (y - 1600).toNat 1600 (by omega) h.y0 (by have := h.y0; omega)
  refine Ev.congr (fun k => ?_) e
  unfold dioramaref08_Civil.f
  rw [Known_f b.1 b.2]
  simp only [Option.bind_some]
  rw [if_pos trivial, w64 (by omega) (by omega), F_1600]
  rfl
theorem refCivil_no {d : Int} (h : ¬ (-146097 ≤ d ∧ d < 146097)) (k : Nat) : dioramaref08_Civil.f k d = some (0, 0, 0) := by
  unfold dioramaref08_Civil.f
  rw [Known_no h]
  rfl

/-! ### Day -/
/-- what Day comes to -/
def dayOf (y m d : Int) : Int × Int := if (1600 ≤ y ∧ y ≤ 2399) ∧ (1 ≤ m ∧ m ≤ 12) ∧ 1 ≤ d ∧ d ≤ ML y m then (DN y m d, 0) else (0, 5)
theorem dayOf_yes {y m d : Int} (h : Date y m d) : dayOf y m d = (DN y m d, 0) := by
  unfold dayOf
  rw [if_pos ⟨⟨h.y0, h.y1⟩, ⟨h.m0, h.m1⟩, h.d0, h.d1⟩]
theorem dayOf_no {y m d : Int} (h : ¬ Date y m d) : dayOf y m d = (0, 5) := by
  unfold dayOf
  rw [if_neg (fun q => h ⟨q.1.1, q.1.2, q.2.1.1, q.2.1.2, q.2.2.1, q.2.2.2⟩)]
theorem pdl {y m d : Int} (h : Date y m d) (n : Nat) : ∀ x, 1 ≤ x → x ≤ m → m - x = n → Ev (fun k => calendar_Day.l0 k y m (F y + CM y x + d - 1) x) (DN y m d, 0) := by
  have f := F_bd h.y0 (by have := h.y1; omega)
  have e1 := h.d0
  have e2 := h.d1
  have e3 := ML_bd y m
  have m1 := h.m1
  induction n with
  | zero =>
    intro x x0 x1 hx
    obtain rfl : x = m := by omega
    refine Ev.step (f := fun _ => some (DN y x d, 0)) (fun k => ?_) (Ev.now _)
    simp only [calendar_Day.l0]
    rw [if_neg (by omega)]
    rfl
  | succ n ih =>
    intro x x0 x1 hx
    have b := CM_succ y x x0 (by omega)
    have e := ih (x + 1) (by omega) (by omega) (by omega)
    have e4 := ML_bd y x
    have e6 := CM_bd y x x0 (by omega)
    refine Ev.step (fun k => ?_) e
    simp only [calendar_Day.l0]
    rw [if_pos (by omega), length_f (by have := h.y0; omega) x0 (by omega)]
    simp only [Option.bind_some]
    rw [w64 (by omega) (by omega), w64 (by omega) (by omega), show F y + CM y x + d - 1 + ML y x = F y + CM y (x + 1) + d - 1 by omega]
theorem pday (y m d : Int) : Ev (fun k => calendar_Day.f k y m d) (dayOf y m d) := by
  have no : ¬ Date y m d → Ev (fun k => calendar_Day.j0 k y m d true) (dayOf y m d) := by
    intro h
    rw [dayOf_no h]
    exact Ev.step (f := fun _ => some (0, 5)) (fun k => by simp [calendar_Day.j0]) (Ev.now _)
  by_cases a : y < 1600
  · exact Ev.congr (fun k => by unfold calendar_Day.f; rw [if_pos a]) (no (fun h => by have := h.y0; omega))
  by_cases a2 : y ≥ 2400
  · exact Ev.congr (fun k => by unfold calendar_Day.f; rw [if_neg a, if_pos a2]) (no (fun h => by have := h.y1; omega))
  by_cases b : m < 1
  · exact Ev.congr (fun k => by unfold calendar_Day.f; rw [if_neg a, if_neg a2, if_pos b]) (no (fun h => by have := h.m0; omega))
  by_cases b2 : m > 12
  · exact Ev.congr (fun k => by unfold calendar_Day.f; rw [if_neg a, if_neg a2, if_neg b, if_pos b2]) (no (fun h => by have := h.m1; omega))
  by_cases c : d < 1
  · exact Ev.congr (fun k => by unfold calendar_Day.f; rw [if_neg a, if_neg a2, if_neg b, if_neg b2, if_pos c]) (no (fun h => by have := h.d0; omega))
  have u (k : Nat) : calendar_Day.f k y m d = calendar_Day.j0 k y m d (decide (d > ML y m)) := by
    unfold calendar_Day.f
    rw [if_neg a, if_neg a2, if_neg b, if_neg b2, if_neg c, length_f (by omega) (by omega) (by omega)]
    rfl
  by_cases c2 : d > ML y m
  · exact Ev.congr (fun k => by rw [u, decide_eq_true c2]) (no (fun h => by have := h.d1; omega))
  · have h : Date y m d := ⟨by omega, by omega, by omega, by omega, by omega, by omega⟩
    have e := pdl h (m - 1).toNat 1 (by omega) h.m0 (by omega)
    have f := F_bd h.y0 (by have := h.y1; omega)
    have e3 := ML_bd y m
    rw [dayOf_yes h]
    refine Ev.congr (fun k => by rw [u, decide_eq_false c2]) ?_
    refine Ev.step (fun k => ?_) e
    simp only [calendar_Day.j0]
    rw [if_neg (by decide), first_f (by omega) (by omega)]
    simp only [Option.bind_some]
    rw [w64 (x := F y + d) (by omega) (by omega), w64 (by omega) (by omega), CM_1]
    congr 1
    omega
theorem rdl1 {y m d : Int} (h : Date y m d) (n : Nat) : ∀ x, 1 ≤ x → x ≤ m → m - x = n → Ev (fun k => dioramaref08_Day.l1 k y m (F y + CM y x + d - 1) x) (DN y m d, 0) := by
  have f := F_bd h.y0 (by have := h.y1; omega)
  have e1 := h.d0
  have e2 := h.d1
  have e3 := ML_bd y m
  have m1 := h.m1
  induction n with
  | zero =>
    intro x x0 x1 hx
    obtain rfl : x = m := by omega
    refine Ev.step (f := fun _ => some (DN y x d, 0)) (fun k => ?_) (Ev.now _)
    simp only [dioramaref08_Day.l1]
    rw [if_neg (by omega)]
    rfl
  | succ n ih =>
    intro x x0 x1 hx
    have b := CM_succ y x x0 (by omega)
    have e := ih (x + 1) (by omega) (by omega) (by omega)
    have e4 := ML_bd y x
    have e6 := CM_bd y x x0 (by omega)
    refine Ev.step (fun k => ?_) e
    simp only [dioramaref08_Day.l1]
    rw [if_pos (by omega), MonthDays_f (by have := h.y0; omega)]
    simp only [Option.bind_some]
    rw [w64 (by omega) (by omega), w64 (by omega) (by omega), show F y + CM y x + d - 1 + ML y x = F y + CM y (x + 1) + d - 1 by omega]
theorem rdl0 {y m d : Int} (h : Date y m d) (n : Nat) : ∀ x, 1600 ≤ x → x ≤ y → y - x = n → Ev (fun k => dioramaref08_Day.l0 k y m (F x + d - 1) x) (DN y m d, 0) := by
  have e1 := h.d0
  have e2 := h.d1
  have e3 := ML_bd y m
  have y1 := h.y1
  induction n with
  | zero =>
    intro x x0 x1 hx
    obtain rfl : x = y := by omega
    have e := rdl1 h (m - 1).toNat 1 (by omega) h.m0 (by have := h.m0; omega)
    refine Ev.step (fun k => ?_) e
    simp only [dioramaref08_Day.l0]
    rw [if_neg (by omega), CM_1]
    congr 1
    omega
  | succ n ih =>
    intro x x0 x1 hx
    have e := ih (x + 1) (by omega) (by omega) (by omega)
    have s := F_succ x x0
    have q := YD_or x
    have f := F_bd x0 (by omega)
    refine Ev.step (fun k => ?_) e
    simp only [dioramaref08_Day.l0]
    rw [if_pos (by omega), YearDays_f (by omega)]
    simp only [Option.bind_some]
    rw [w64 (by omega) (by omega), w64 (by omega) (by omega), show F x + d - 1 + YD x = F (x + 1) + d - 1 by omega]
theorem rday (y m d : Int) : Ev (fun k => dioramaref08_Day.f k y m d) (dayOf y m d) := by
  have no : ¬ Date y m d → Ev (fun k => dioramaref08_Day.j0 k y m d true) (dayOf y m d) := by
    intro h
    rw [dayOf_no h]
    exact Ev.step (f := fun _ => some (0, 5)) (fun k => by simp [dioramaref08_Day.j0]) (Ev.now _)
  by_cases a : y < 1600
  · exact Ev.congr (fun k => by unfold dioramaref08_Day.f; rw [if_pos a]) (no (fun h => by have := h.y0; omega))
  by_cases a2 : y > 2399
  · exact Ev.congr (fun k => by unfold dioramaref08_Day.f; rw [if_neg a, if_pos a2]) (no (fun h => by have := h.y1; omega))
  by_cases b : m < 1
  · exact Ev.congr (fun k => by unfold dioramaref08_Day.f; rw [if_neg a, if_neg a2, if_pos b]) (no (fun h => by have := h.m0; omega))
  by_cases b2 : m > 12
  · exact Ev.congr (fun k => by unfold dioramaref08_Day.f; rw [if_neg a, if_neg a2, if_neg b, if_pos b2]) (no (fun h => by have := h.m1; omega))
  by_cases c : d < 1
  · exact Ev.congr (fun k => by unfold dioramaref08_Day.f; rw [if_neg a, if_neg a2, if_neg b, if_neg b2, if_pos c]) (no (fun h => by have := h.d0; omega))
  have u (k : Nat) : dioramaref08_Day.f k y m d = dioramaref08_Day.j0 k y m d (decide (d > 31)) := by
    unfold dioramaref08_Day.f
    rw [if_neg a, if_neg a2, if_neg b, if_neg b2, if_neg c]
  have e3 := ML_bd y m
  by_cases c1 : d > 31
  · exact Ev.congr (fun k => by rw [u, decide_eq_true c1]) (no (fun h => by have := h.d1; omega))
  by_cases c2 : d > ML y m
  · rw [dayOf_no (fun h => by have := h.d1; omega)]
    refine Ev.congr (fun k => by rw [u, decide_eq_false c1]) ?_
    refine Ev.step (f := fun _ => some (0, 5)) (fun k => ?_) (Ev.now _)
    simp only [dioramaref08_Day.j0]
    rw [if_neg (by decide), MonthDays_f (by omega)]
    simp only [Option.bind_some]
    rw [if_pos c2]
  · have h : Date y m d := ⟨by omega, by omega, by omega, by omega, by omega, by omega⟩
    have e := rdl0 h (y - 1600).toNat 1600 (by omega) h.y0 (by omega)
    rw [dayOf_yes h]
    refine Ev.congr (fun k => by rw [u, decide_eq_false c1]) ?_
    refine Ev.step (fun k => ?_) e
    simp only [dioramaref08_Day.j0]
    rw [if_neg (by decide), MonthDays_f (by omega)]
    simp only [Option.bind_some]
    rw [if_neg c2, w64 (x := -146097 + d) (by omega) (by omega), w64 (by omega) (by omega), F_1600]

/-! ### Weekday -/
def wd (d : Int) : Int := if -146097 ≤ d ∧ d < 146097 then (d + 5) % 7 else 0
theorem pwd (d : Int) : calendar_Weekday.f d = some (wd d) := by
  unfold calendar_Weekday.f wd
  by_cases h : -146097 ≤ d ∧ d < 146097
  · rw [known_f h.1 h.2, if_pos h]
    simp only [Option.bind_some]
    rw [if_pos trivial, w64 (x := d + 146097) (by omega) (by omega), w64 (by omega) (by omega), tmod_nn (by omega)]
    congr 1
    omega
  · rw [known_no h, if_neg h]
    rfl
theorem tmod_neg' {a : Int} (b : Int) (h : a ≤ 0) : Int.tmod a b = -((-a) % b) := by
  have := Int.neg_tmod (-a) b
  rw [Int.neg_neg] at this
  rw [this, Int.tmod_eq_emod_of_nonneg (by omega)]
theorem modulo_f {a b : Int} (h0 : 0 < b) (h1 : b ≤ 1000000) : dioramaref08_Modulo.f a b = some (a % b) := by
  unfold dioramaref08_Modulo.f
  rw [if_neg (by omega)]
  congr 1
  rcases Int.le_total 0 a with h | h
  · rw [tmod_nn h]
    have e1 := Int.emod_nonneg a (show b ≠ 0 by omega)
    have e2 := Int.emod_lt_of_pos a h0
    rw [w64 (by omega) (by omega), tmod_nn (by omega), Int.add_emod_right, Int.emod_emod_of_dvd _ (Int.dvd_refl b)]
  · rw [tmod_neg' b h]
    have e1 := Int.emod_nonneg (-a) (show b ≠ 0 by omega)
    have e2 := Int.emod_lt_of_pos (-a) h0
    rw [w64 (by omega) (by omega), tmod_nn (by omega), show -((-a) % b) + b = a + b * ((-a) / b + 1) by rw [Int.emod_def, Int.mul_add]; omega, Int.add_mul_emod_self_left]
theorem rwd (d : Int) : dioramaref08_Weekday.f d = some (wd d) := by
  unfold dioramaref08_Weekday.f wd
  by_cases h : -146097 ≤ d ∧ d < 146097
  · rw [Known_f h.1 h.2, if_pos h]
    simp only [Option.bind_some]
    rw [if_pos trivial, w64 (by omega) (by omega), modulo_f (by omega) (by omega)]
    rfl
  · rw [Known_no h, if_neg h]
    rfl
end Go.Proofs.YtlfgjpidamkpdaaDoor.Cal
