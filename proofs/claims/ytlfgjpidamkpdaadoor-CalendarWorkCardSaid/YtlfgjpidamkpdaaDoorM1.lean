/- The days of the years 1600 to 2399 as plain numbers: years, months, and the one date of each known day. -/
import Derived.Below
namespace Go.Proofs.YtlfgjpidamkpdaaDoor.Cal
set_option linter.unusedVariables false
set_option linter.unusedSimpArgs false

/-- the first of January of y -/
def F (y : Int) : Int := 365 * (y - 1600) + (y - 1600 + 3) / 4 - (y - 1600 + 99) / 100 + (y - 1600 + 399) / 400 - 146097
/-- the days of y -/
def YD (y : Int) : Int := if y % 400 = 0 then 366 else if y % 4 = 0 ∧ y % 100 ≠ 0 then 366 else 365
/-- the days of a month -/
def ML (y m : Int) : Int := if m = 2 then YD y - 337 else if m = 4 ∨ m = 6 ∨ m = 9 ∨ m = 11 then 30 else 31
/-- the days before a month -/
def CM (y m : Int) : Int :=
  if m ≤ 1 then 0 else if m = 2 then 31 else (YD y - 365) + (if m = 3 then 59 else if m = 4 then 90 else if m = 5 then 120 else if m = 6 then 151 else if m = 7 then 181 else if m = 8 then 212 else if m = 9 then 243 else if m = 10 then 273 else if m = 11 then 304 else if m = 12 then 334 else 365)
/-- the day of a date -/
def DN (y m d : Int) : Int := F y + CM y m + d - 1
structure Date (y m d : Int) : Prop where
  y0 : 1600 ≤ y
  y1 : y ≤ 2399
  m0 : 1 ≤ m
  m1 : m ≤ 12
  d0 : 1 ≤ d
  d1 : d ≤ ML y m

theorem YD_or (y : Int) : YD y = 365 ∨ YD y = 366 := by by_cases a : y % 400 = 0 <;> by_cases b : y % 4 = 0 ∧ y % 100 ≠ 0 <;> simp [YD, a, b]
theorem F_succ (y : Int) (h : 1600 ≤ y) : F (y + 1) = F y + YD y := by
  unfold F YD
  split
  · omega
  · split <;> omega
theorem F_1600 : F 1600 = -146097 := by decide
theorem F_2400 : F 2400 = 146097 := by decide
theorem F_lt {y z : Int} (h0 : 1600 ≤ y) (h : y < z) : F y < F z := by unfold F; omega
theorem F_le {y z : Int} (h0 : 1600 ≤ y) (h : y ≤ z) : F y ≤ F z := by unfold F; omega
theorem F_bd {y : Int} (h0 : 1600 ≤ y) (h1 : y ≤ 2400) : -146097 ≤ F y ∧ F y ≤ 146097 := by
  have a := F_le (by omega) h0
  have b := F_le h0 h1
  rw [F_1600] at a
  rw [F_2400] at b
  exact ⟨a, b⟩
theorem CM_succ (y m : Int) (h0 : 1 ≤ m) (h1 : m ≤ 12) : CM y (m + 1) = CM y m + ML y m := by
  have h : m = 1 ∨ m = 2 ∨ m = 3 ∨ m = 4 ∨ m = 5 ∨ m = 6 ∨ m = 7 ∨ m = 8 ∨ m = 9 ∨ m = 10 ∨ m = 11 ∨ m = 12 := by omega
  rcases h with rfl | rfl | rfl | rfl | rfl | rfl | rfl | rfl | rfl | rfl | rfl | rfl <;> simp [CM, ML] <;> omega
theorem CM_1 (y : Int) : CM y 1 = 0 := by simp [CM]
theorem CM_13 (y : Int) : CM y 13 = YD y := by simp [CM]
theorem ML_bd (y m : Int) : 28 ≤ ML y m ∧ ML y m ≤ 31 := by
  have := YD_or y
  unfold ML
  split
  · omega
  · split <;> omega
theorem CM_le (y m n : Int) (h0 : 1 ≤ m) (h : m ≤ n) (h1 : n ≤ 13) : CM y m ≤ CM y n := by
  have key : ∀ k : Nat, m + k ≤ 13 → CM y m ≤ CM y (m + k) := by
    intro k
    induction k with
    | zero => intro _; simp
    | succ k ih =>
      intro hk
      have a := ih (by omega)
      have b := CM_succ y (m + k) (by omega) (by omega)
      have c := ML_bd y (m + k)
      rw [show m + ((k + 1 : Nat) : Int) = m + (k : Int) + 1 by omega]
      omega
  have := key (n - m).toNat (by omega)
  rwa [show m + ((n - m).toNat : Int) = n by omega] at this
theorem CM_bd (y m : Int) (h0 : 1 ≤ m) (h1 : m ≤ 13) : 0 ≤ CM y m ∧ CM y m ≤ 366 := by
  have a := CM_le y 1 m (by omega) h0 h1
  have b := CM_le y m 13 h0 h1 (by omega)
  rw [CM_1] at a
  rw [CM_13] at b
  have := YD_or y
  omega

/-- the year of a day -/
theorem year_of (d : Int) (h0 : -146097 ≤ d) (h1 : d < 146097) : ∃ y, 1600 ≤ y ∧ y ≤ 2399 ∧ F y ≤ d ∧ d < F (y + 1) := by
  have key : ∀ n : Nat, (n : Int) ≤ 800 → d < F (1600 + n) → ∃ y, 1600 ≤ y ∧ y ≤ 2399 ∧ F y ≤ d ∧ d < F (y + 1) := by
    intro n
    induction n with
    | zero => intro _ h; rw [show (1600 : Int) + ((0 : Nat) : Int) = 1600 by rfl, F_1600] at h; omega
    | succ n ih =>
      intro hn h
      by_cases c : d < F (1600 + n)
      · exact ih (by omega) c
      · exact ⟨1600 + n, by omega, by omega, by omega, by rw [show (1600 : Int) + (n : Int) + 1 = 1600 + ((n + 1 : Nat) : Int) by omega]; exact h⟩
  exact key 800 (by omega) (by rw [show (1600 : Int) + ((800 : Nat) : Int) = 2400 by rfl, F_2400]; exact h1)
/-- the month of a day of a year -/
theorem month_of (y e : Int) (h0 : 0 ≤ e) (h1 : e < YD y) : ∃ m, 1 ≤ m ∧ m ≤ 12 ∧ CM y m ≤ e ∧ e < CM y (m + 1) := by
  have key : ∀ n : Nat, (n : Int) ≤ 12 → e < CM y (1 + n) → ∃ m, 1 ≤ m ∧ m ≤ 12 ∧ CM y m ≤ e ∧ e < CM y (m + 1) := by
    intro n
    induction n with
    | zero => intro _ h; rw [show (1 : Int) + ((0 : Nat) : Int) = 1 by rfl, CM_1] at h; omega
    | succ n ih =>
      intro hn h
      by_cases c : e < CM y (1 + n)
      · exact ih (by omega) c
      · exact ⟨1 + n, by omega, by omega, by omega, by rw [show (1 : Int) + (n : Int) + 1 = 1 + ((n + 1 : Nat) : Int) by omega]; exact h⟩
  exact key 12 (by omega) (by rw [show (1 : Int) + ((12 : Nat) : Int) = 13 by rfl, CM_13]; exact h1)
/-- each known day has a date -/
theorem date_of (d : Int) (h0 : -146097 ≤ d) (h1 : d < 146097) : ∃ y m c, Date y m c ∧ DN y m c = d := by
  obtain ⟨y, y0, y1, a, b⟩ := year_of d h0 h1
  rw [F_succ y y0] at b
  obtain ⟨m, m0, m1, e, f⟩ := month_of y (d - F y) (by omega) (by omega)
  rw [CM_succ y m m0 m1] at f
  exact ⟨y, m, d - F y - CM y m + 1, ⟨y0, y1, m0, m1, by omega, by omega⟩, by unfold DN; omega⟩
theorem Date.year {y m d : Int} (h : Date y m d) : F y ≤ DN y m d ∧ DN y m d < F (y + 1) := by
  have a := CM_bd y m h.m0 (by have := h.m1; omega)
  have b := CM_succ y m h.m0 h.m1
  have c := CM_le y (m + 1) 13 (by have := h.m0; omega) (by have := h.m1; omega) (by omega)
  have e := h.d0
  have f := h.d1
  rw [F_succ y h.y0]
  rw [CM_13] at c
  unfold DN
  omega
theorem Date.known {y m d : Int} (h : Date y m d) : -146097 ≤ DN y m d ∧ DN y m d < 146097 := by
  have a := h.year
  have b := F_bd h.y0 (by have := h.y1; omega)
  have c := F_bd (y := y + 1) (by have := h.y0; omega) (by have := h.y1; omega)
  omega
/-- and only one -/
theorem Date.one {y m d y' m' d' : Int} (h : Date y m d) (h' : Date y' m' d') (e : DN y m d = DN y' m' d') : y = y' ∧ m = m' ∧ d = d' := by
  have a := h.year
  have b := h'.year
  have hy : y = y' := by
    rcases Int.lt_trichotomy y y' with c | c | c
    · have := F_le (y := y + 1) (z := y') (by have := h.y0; omega) (by omega); omega
    · exact c
    · have := F_le (y := y' + 1) (z := y) (by have := h'.y0; omega) (by omega); omega
  subst hy
  have hm : m = m' := by
    have s := CM_succ y m h.m0 h.m1
    have s' := CM_succ y m' h'.m0 h'.m1
    have e1 := h.d0
    have e2 := h.d1
    have e3 := h'.d0
    have e4 := h'.d1
    unfold DN at e
    rcases Int.lt_trichotomy m m' with c | c | c
    · have := CM_le y (m + 1) m' (by have := h.m0; omega) (by omega) (by have := h'.m1; omega); omega
    · exact c
    · have := CM_le y (m' + 1) m (by have := h'.m0; omega) (by omega) (by have := h.m1; omega); omega
  subst hm
  unfold DN at e
  exact ⟨rfl, rfl, by omega⟩
end Go.Proofs.YtlfgjpidamkpdaaDoor.Cal
