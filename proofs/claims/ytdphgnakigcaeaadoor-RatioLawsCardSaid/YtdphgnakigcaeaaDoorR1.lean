/- Fractions as plain whole numbers: the one form in lowest terms, what Make gives, and the laws of sums and products. -/
import Derived.Below
namespace Go.Proofs.YtdphgnakigcaeaaDoor.Rat
set_option linter.unusedVariables false
set_option linter.unusedSimpArgs false

/-- a valid fraction -/
def vl (p q : Int) : Prop := (p = 0 ∧ q = 0) ∨ (1 ≤ q ∧ q ≤ 2147483648 ∧ -2147483648 ≤ p ∧ p ≤ 2147483648 ∧ Int.gcd p q = 1)
instance (p q : Int) : Decidable (vl p q) := by unfold vl; infer_instance
/-- the positive Q -/
def den (q : Int) : Int := if q = 0 then 1 else q
/-- numerator and denominator in lowest terms -/
def nu (p q : Int) : Int := if q < 0 then -(p / (Int.gcd p q : Int)) else p / (Int.gcd p q : Int)
def de (p q : Int) : Int := if q < 0 then -(q / (Int.gcd p q : Int)) else q / (Int.gcd p q : Int)
/-- Make -/
def mk (p q : Int) : Int × Int × Int :=
  if q = 0 then (0, 0, 1) else if nu p q > 2147483648 ∨ nu p q < -2147483648 ∨ de p q > 2147483648 then (0, 0, 5) else (nu p q, de p q, 0)

theorem gcd_pos {p q : Int} (h : q ≠ 0) : 0 < (Int.gcd p q : Int) := by
  have : Int.gcd p q ≠ 0 := fun e => h (Int.gcd_eq_zero_iff.1 e).2
  omega
/-- both numbers as multiples of their divisor -/
theorem parts (p q : Int) (h : q ≠ 0) : ∃ g p1 q1 : Int, 0 < g ∧ (Int.gcd p q : Int) = g ∧ p = g * p1 ∧ q = g * q1 ∧ Int.gcd p1 q1 = 1 := by
  have g0 := gcd_pos (p := p) h
  obtain ⟨p1, hp⟩ := Int.gcd_dvd_left (a := p) (b := q)
  obtain ⟨q1, hq⟩ := Int.gcd_dvd_right (a := p) (b := q)
  refine ⟨_, p1, q1, g0, rfl, hp, hq, ?_⟩
  have e : Int.gcd p q = Int.gcd ((Int.gcd p q : Int) * p1) ((Int.gcd p q : Int) * q1) := by rw [← hp, ← hq]
  rw [Int.gcd_mul_left, Int.natAbs_natCast] at e
  have g1 : 0 < Int.gcd p q := by omega
  exact Nat.eq_of_mul_eq_mul_left g1 (by omega)
theorem nude {p q g p1 q1 : Int} (g0 : 0 < g) (hg : (Int.gcd p q : Int) = g) (hp : p = g * p1) (hq : q = g * q1) :
    nu p q = (if q1 < 0 then -p1 else p1) ∧ de p q = (if q1 < 0 then -q1 else q1) := by
  have s : q < 0 ↔ q1 < 0 := by
    rw [hq]
    constructor
    · intro h
      by_cases c : q1 < 0
      · exact c
      · have := Int.mul_nonneg (Int.le_of_lt g0) (Int.not_lt.1 c)
        omega
    · intro h
      exact Int.mul_neg_of_pos_of_neg g0 h
  unfold nu de
  rw [hg]
  have a : p / g = p1 := by rw [hp]; exact Int.mul_ediv_cancel_left _ (by omega)
  have b : q / g = q1 := by rw [hq]; exact Int.mul_ediv_cancel_left _ (by omega)
  rw [a, b]
  by_cases c : q1 < 0
  · rw [if_pos (s.2 c), if_pos (s.2 c), if_pos c, if_pos c]
    exact ⟨rfl, rfl⟩
  · rw [if_neg (fun z => c (s.1 z)), if_neg (fun z => c (s.1 z)), if_neg c, if_neg c]
    exact ⟨rfl, rfl⟩
/-- what the lowest form is -/
theorem nf (p q : Int) (h : q ≠ 0) : 0 < de p q ∧ Int.gcd (nu p q) (de p q) = 1 ∧ nu p q * q = p * de p q := by
  obtain ⟨g, p1, q1, g0, hg, hp, hq, one⟩ := parts p q h
  obtain ⟨a, b⟩ := nude g0 hg hp hq
  have q0 : q1 ≠ 0 := by rintro rfl; simp at hq; exact h hq
  rw [a, b]
  by_cases c : q1 < 0
  · rw [if_pos c, if_pos c]
    refine ⟨by omega, ?_, ?_⟩
    · rw [Int.gcd_neg, Int.neg_gcd]
      exact one
    · rw [hp, hq]
      grind
  · rw [if_neg c, if_neg c]
    refine ⟨by omega, one, ?_⟩
    rw [hp, hq]
    grind
theorem dvd_of_one {q p s : Int} (h : q ∣ p * s) (c : Int.gcd q p = 1) : q ∣ s := by
  rw [← Int.natAbs_dvd_natAbs] at h ⊢
  rw [Int.natAbs_mul] at h
  exact Nat.Coprime.dvd_of_dvd_mul_left c h
/-- one fraction has one lowest form -/
theorem uniq {p q r s : Int} (q0 : 0 < q) (s0 : 0 < s) (h1 : Int.gcd p q = 1) (h2 : Int.gcd r s = 1) (e : p * s = r * q) : p = r ∧ q = s := by
  have d1 : q ∣ s := by
    have : q ∣ p * s := ⟨r, by rw [e, Int.mul_comm]⟩
    exact dvd_of_one this (by rw [Int.gcd_comm]; exact h1)
  have d2 : s ∣ q := by
    have : s ∣ r * q := ⟨p, by rw [← e, Int.mul_comm]⟩
    exact dvd_of_one this (by rw [Int.gcd_comm]; exact h2)
  have qs : q = s := Int.dvd_antisymm (by omega) (by omega) d1 d2
  subst qs
  exact ⟨Int.eq_of_mul_eq_mul_right (by omega) e, rfl⟩
theorem nude_eq {p q r s : Int} (q0 : q ≠ 0) (s0 : s ≠ 0) (e : p * s = r * q) : nu p q = nu r s ∧ de p q = de r s := by
  obtain ⟨a0, a1, a2⟩ := nf p q q0
  obtain ⟨b0, b1, b2⟩ := nf r s s0
  refine uniq a0 b0 a1 b1 ?_
  have z : (nu p q * de r s - nu r s * de p q) * (q * s) = 0 := by grind
  rcases Int.mul_eq_zero.1 z with z | z
  · omega
  · rcases Int.mul_eq_zero.1 z with z | z
    · exact absurd z q0
    · exact absurd z s0
/-- Make sees the fraction alone -/
theorem mk_eq {p q r s : Int} (q0 : q ≠ 0) (s0 : s ≠ 0) (e : p * s = r * q) : mk p q = mk r s := by
  obtain ⟨a, b⟩ := nude_eq q0 s0 e
  unfold mk
  rw [if_neg q0, if_neg s0, a, b]
theorem mk_err (p q : Int) : mk p q = (0, 0, 1) ∨ mk p q = (0, 0, 5) ∨ mk p q = (nu p q, de p q, 0) := by
  unfold mk
  split
  · exact .inl rfl
  · split
    · exact .inr (.inl rfl)
    · exact .inr (.inr rfl)
/-- where Make gives a fraction, it is valid and the same number -/
theorem mk_ok {p q x y : Int} (h : mk p q = (x, y, 0)) : vl x y ∧ 1 ≤ y ∧ q ≠ 0 ∧ x * q = p * y := by
  unfold mk at h
  split at h
  · simp at h
  · rename_i q0
    split at h
    · simp at h
    · rename_i hb
      simp only [Prod.mk.injEq, and_true] at h
      obtain ⟨rfl, rfl⟩ := h
      obtain ⟨a, b, c⟩ := nf p q q0
      exact ⟨.inr ⟨by omega, by omega, by omega, by omega, b⟩, by omega, q0, c⟩
/-- a valid fraction is its own lowest form -/
theorem mk_self {p q : Int} (h : vl p q) (q1 : 1 ≤ q) : mk p q = (p, q, 0) := by
  rcases h with ⟨_, rfl⟩ | ⟨a, b, c, d, e⟩
  · omega
  · obtain ⟨x, y, z⟩ := nf p q (by omega)
    obtain ⟨u, v⟩ := uniq x (by omega) y e z
    unfold mk
    rw [if_neg (by omega), u, v, if_neg (by omega)]
theorem den_pos {p q : Int} (h : vl p q) : 1 ≤ den q ∧ den q ≤ 2147483648 := by
  unfold den
  rcases h with ⟨_, rfl⟩ | ⟨a, b, c, d, e⟩
  · simp
  · rw [if_neg (by omega)]
    exact ⟨a, b⟩
theorem den_one {q : Int} (h : 1 ≤ q) : den q = q := by unfold den; rw [if_neg (by omega)]
theorem den_gcd {p q : Int} (h : vl p q) : Int.gcd p (den q) = 1 := by
  unfold den
  rcases h with ⟨rfl, rfl⟩ | ⟨a, b, c, d, e⟩
  · decide
  · rw [if_neg (by omega)]
    exact e
theorem vl_bd {p q : Int} (h : vl p q) : -2147483648 ≤ p ∧ p ≤ 2147483648 ∧ 0 ≤ q ∧ q ≤ 2147483648 := by
  rcases h with ⟨rfl, rfl⟩ | ⟨a, b, c, d, e⟩ <;> omega
theorem vl_neg {p q : Int} : vl (-p) q ↔ vl p q := by
  unfold vl
  rw [Int.neg_gcd]
  constructor <;> (intro h; rcases h with ⟨a, b⟩ | ⟨a, b, c, d, e⟩; exact .inl ⟨by omega, b⟩; exact .inr ⟨a, b, by omega, by omega, e⟩)
/-- sum, product, order of valid fractions -/
def add (a b c d : Int) : Int × Int × Int := if vl a b ∧ vl c d then mk (a * den d + c * den b) (den b * den d) else (0, 0, 1)
def mul (a b c d : Int) : Int × Int × Int := if vl a b ∧ vl c d then mk (a * c) (den b * den d) else (0, 0, 1)
def cmp (a b c d : Int) : Int := if vl a b ∧ vl c d then (if a * den d < c * den b then -1 else if a * den d = c * den b then 0 else 1) else 0
def flo (a b : Int) : Int := if vl a b then a / den b else 0
theorem mul_ne {a b : Int} (h : a ≠ 0) (k : b ≠ 0) : a * b ≠ 0 := fun z => by rcases Int.mul_eq_zero.1 z with z | z <;> omega
theorem add_comm (a b c d : Int) : add a b c d = add c d a b := by
  unfold add
  by_cases h : vl a b ∧ vl c d
  · rw [if_pos h, if_pos ⟨h.2, h.1⟩, Int.add_comm, Int.mul_comm (den b)]
  · rw [if_neg h, if_neg (fun z => h ⟨z.2, z.1⟩)]
theorem mul_comm (a b c d : Int) : mul a b c d = mul c d a b := by
  unfold mul
  by_cases h : vl a b ∧ vl c d
  · rw [if_pos h, if_pos ⟨h.2, h.1⟩, Int.mul_comm a, Int.mul_comm (den b)]
  · rw [if_neg h, if_neg (fun z => h ⟨z.2, z.1⟩)]
theorem add_is {a b c d : Int} (h : vl a b) (k : vl c d) : add a b c d = mk (a * den d + c * den b) (den b * den d) := if_pos ⟨h, k⟩
theorem mul_is {a b c d : Int} (h : vl a b) (k : vl c d) : mul a b c d = mk (a * c) (den b * den d) := if_pos ⟨h, k⟩
theorem cmp_is {a b c d : Int} (h : vl a b) (k : vl c d) : cmp a b c d = if a * den d < c * den b then -1 else if a * den d = c * den b then 0 else 1 := if_pos ⟨h, k⟩
/-- (a + b) + c = a + (b + c), where both inner sums exist -/
theorem add_assoc {a b c d e f x y u v : Int} (h : vl a b) (k : vl c d) (l : vl e f) (h1 : add a b c d = (x, y, 0)) (h2 : add c d e f = (u, v, 0)) : add x y e f = add a b u v := by
  have b0 := (den_pos h).1
  have d0 := (den_pos k).1
  have f0 := (den_pos l).1
  rw [add_is h k] at h1
  rw [add_is k l] at h2
  obtain ⟨v1, y1, n1, e1⟩ := mk_ok h1
  obtain ⟨v2, y2, n2, e2⟩ := mk_ok h2
  rw [add_is v1 l, add_is h v2, den_one y1, den_one y2]
  refine mk_eq (mul_ne (by omega) (by omega)) (mul_ne (by omega) (by omega)) ?_
  have bd : den b * den d * den f ≠ 0 := mul_ne (mul_ne (by omega) (by omega)) (by omega)
  refine Int.eq_of_mul_eq_mul_right (mul_ne (mul_ne (a := den b) (b := den d) (by omega) (by omega)) (mul_ne (a := den d) (b := den f) (by omega) (by omega))) ?_
  generalize den b = B at *
  generalize den d = D at *
  generalize den f = E at *
  grind
theorem mul_assoc {a b c d e f x y u v : Int} (h : vl a b) (k : vl c d) (l : vl e f) (h1 : mul a b c d = (x, y, 0)) (h2 : mul c d e f = (u, v, 0)) : mul x y e f = mul a b u v := by
  have b0 := (den_pos h).1
  have d0 := (den_pos k).1
  have f0 := (den_pos l).1
  rw [mul_is h k] at h1
  rw [mul_is k l] at h2
  obtain ⟨v1, y1, n1, e1⟩ := mk_ok h1
  obtain ⟨v2, y2, n2, e2⟩ := mk_ok h2
  rw [mul_is v1 l, mul_is h v2, den_one y1, den_one y2]
  refine mk_eq (mul_ne (by omega) (by omega)) (mul_ne (by omega) (by omega)) ?_
  refine Int.eq_of_mul_eq_mul_right (mul_ne (mul_ne (a := den b) (b := den d) (by omega) (by omega)) (mul_ne (a := den d) (b := den f) (by omega) (by omega))) ?_
  generalize den b = B at *
  generalize den d = D at *
  generalize den f = E at *
  grind
/-- a (b + c) = a b + a c, where the inner results exist -/
theorem distrib {a b c d e f x y u v s t : Int} (h : vl a b) (k : vl c d) (l : vl e f) (h1 : add c d e f = (x, y, 0)) (h2 : mul a b c d = (u, v, 0)) (h3 : mul a b e f = (s, t, 0)) : mul a b x y = add u v s t := by
  have b0 := (den_pos h).1
  have d0 := (den_pos k).1
  have f0 := (den_pos l).1
  rw [add_is k l] at h1
  rw [mul_is h k] at h2
  rw [mul_is h l] at h3
  obtain ⟨v1, y1, n1, e1⟩ := mk_ok h1
  obtain ⟨v2, y2, n2, e2⟩ := mk_ok h2
  obtain ⟨v3, y3, n3, e3⟩ := mk_ok h3
  rw [mul_is h v1, add_is v2 v3, den_one y1, den_one y2, den_one y3]
  refine mk_eq (mul_ne (by omega) (by omega)) (mul_ne (by omega) (by omega)) ?_
  refine Int.eq_of_mul_eq_mul_right (mul_ne n1 (mul_ne n2 n3)) ?_
  generalize den b = B at *
  generalize den d = D at *
  generalize den f = E at *
  grind
/-- (a + b) - b = a -/
theorem sub_back {a b c d x y : Int} (h : vl a b) (k : vl c d) (h1 : add a b c d = (x, y, 0)) : add x y (-c) d = mk a (den b) := by
  have b0 := (den_pos h).1
  have d0 := (den_pos k).1
  rw [add_is h k] at h1
  obtain ⟨v1, y1, n1, e1⟩ := mk_ok h1
  rw [add_is v1 (vl_neg.2 k), den_one y1]
  refine mk_eq (mul_ne (by omega) (by omega)) (by omega) ?_
  refine Int.eq_of_mul_eq_mul_right n1 ?_
  generalize den b = B at *
  generalize den d = D at *
  grind
end Go.Proofs.YtdphgnakigcaeaaDoor.Rat
