/- Sums, products, order and floors of the program, over plain numbers. -/
import Derived.Test.YtdphgnakigcaeaaDoorR2
import Derived.Test.YtdphgnakigcaeaaDoorPc5
import Derived.Test.YtdphgnakigcaeaaDoorPc6
import Derived.Test.YtdphgnakigcaeaaDoorPc7
import Derived.Test.YtdphgnakigcaeaaDoorPc8
namespace Go.Proofs.YtdphgnakigcaeaaDoor.Rat
open Go.RowKit Go.Proofs.YtdphgnakigcaeaaDoor.Pc Go.Proofs.YtdphgnakigcaeaaDoorW.PrintWords Go.Proofs.YtdphgnakigcaeaaDoorW.PrintLast
set_option linter.unusedVariables false
set_option linter.unusedSimpArgs false

theorem proper_f (a b : Int) : ratio_proper.f a b = some (a, den b) := by
  unfold ratio_proper.f den
  split <;> rfl
theorem both_f {a b c d : Int} (ha : I64 a) (hb : I64 b) (hc : I64 c) (hd : I64 d) : ratio_both.f a b c d = some (a, den b, c, den d, decide (vl a b ∧ vl c d)) := by
  unfold ratio_both.f
  rw [proper_f, proper_f, pvalid ha hb, pvalid hc hd]
  simp only [Option.bind_some]
  by_cases h : vl a b
  · rw [if_pos (decide_eq_true h)]
    congr 1
    simp [h]
  · rw [if_neg (by simpa using h)]
    congr 1
    simp [h]
theorem prod_bd {a y M : Int} (h0 : -M ≤ a) (h1 : a ≤ M) (y0 : 0 ≤ y) (y1 : y ≤ M) : -(M * M) ≤ a * y ∧ a * y ≤ M * M := by
  have m0 : 0 ≤ M := by omega
  have e1 : a * y ≤ M * y := Int.mul_le_mul_of_nonneg_right h1 y0
  have e2 : M * y ≤ M * M := Int.mul_le_mul_of_nonneg_left y1 m0
  have e3 : -M * y ≤ a * y := Int.mul_le_mul_of_nonneg_right h0 y0
  have e4 : -M * y = -(M * y) := Int.neg_mul _ _
  omega
theorem prod_lt {a y : Int} (h0 : -2147483648 ≤ a) (h1 : a ≤ 2147483648) (y0 : 0 ≤ y) (y1 : y ≤ 2147483647) : -4611686016279904256 ≤ a * y ∧ a * y ≤ 4611686016279904256 := by
  have e1 : a * y ≤ 2147483648 * y := Int.mul_le_mul_of_nonneg_right h1 y0
  have e3 : -2147483648 * y ≤ a * y := Int.mul_le_mul_of_nonneg_right h0 y0
  omega
theorem prod62 {a y : Int} (h0 : -2147483648 ≤ a) (h1 : a ≤ 2147483648) (y0 : 0 ≤ y) (y1 : y ≤ 2147483648) : -4611686018427387904 ≤ a * y ∧ a * y ≤ 4611686018427387904 := by
  have e1 : a * y ≤ 2147483648 * y := Int.mul_le_mul_of_nonneg_right h1 y0
  have e3 : -2147483648 * y ≤ a * y := Int.mul_le_mul_of_nonneg_right h0 y0
  omega
theorem vl_i64 {a b : Int} (h : vl a b) : I64 a ∧ I64 b := by
  have := vl_bd h
  unfold I64
  omega
theorem parts_pos {B g x : Int} (g0 : 0 < g) (h : B = g * x) (b0 : 1 ≤ B) : 1 ≤ x ∧ x ≤ B := by
  have x0 : 0 < x := by
    rcases Int.lt_trichotomy x 0 with c | c | c
    · have := Int.mul_neg_of_pos_of_neg g0 c
      omega
    · subst c
      simp at h
      omega
    · exact c
  have : 1 * x ≤ g * x := Int.mul_le_mul_of_nonneg_right (by omega) (by omega)
  omega
theorem i64_of {x : Int} (h0 : -9223372036854775808 ≤ x) (h1 : x ≤ 9223372036854775807) : I64 x := ⟨h0, h1⟩
theorem psum {a b c d s : Int} (ha : I64 a) (hb : I64 b) (hc : I64 c) (hd : I64 d) (hs : s = 1 ∨ s = -1) : Ev (fun n => ratio_sum.f n a b c d s) (add a b (s * c) d) := by
  have sv : vl (s * c) d ↔ vl c d := by
    rcases hs with rfl | rfl
    · rw [Int.one_mul]
    · rw [Int.neg_one_mul, vl_neg]
  unfold ratio_sum.f
  rw [both_f ha hb hc hd]
  refine ev_some ?_
  by_cases h : vl a b ∧ vl c d
  rotate_left
  · unfold add
    rw [if_neg (by rw [sv]; exact h)]
    exact ev_neg (by simpa using h) (Ev.now _)
  · refine ev_pos (decide_eq_true h) ?_
    rw [add_is h.1 (sv.2 h.2)]
    obtain ⟨p0, p1⟩ := den_pos h.1
    obtain ⟨q0, q1⟩ := den_pos h.2
    obtain ⟨a0, a1, _, _⟩ := vl_bd h.1
    obtain ⟨c0, c1, _, _⟩ := vl_bd h.2
    simp only
    generalize den b = B at *
    generalize den d = D at *
    have iB : I64 B := i64_of (by omega) (by omega)
    have iD : I64 D := i64_of (by omega) (by omega)
    rw [size_f iB, size_f iD]
    refine ev_some (ev_some ?_)
    rw [gcd_f iB iD]
    refine ev_some ?_
    obtain ⟨g, x, y, g0, hg, hB, hD, one⟩ := parts B D (by omega)
    obtain ⟨x0, x1⟩ := parts_pos g0 hB p0
    obtain ⟨y0, y1⟩ := parts_pos g0 hD q0
    have gB : g ≤ B := by
      have : g * 1 ≤ g * x := Int.mul_le_mul_of_nonneg_left x0 (by omega)
      omega
    rw [hg]
    have wg : wrap64 g = g := w64 (by omega) (by omega)
    have tB : Int.tdiv B g = x := by rw [hB, Int.mul_tdiv_cancel_left _ (by omega)]
    have tD : Int.tdiv D g = y := by rw [hD, Int.mul_tdiv_cancel_left _ (by omega)]
    rw [wg, tB, tD]
    refine ev_neg (by omega) ?_
    have wx : wrap64 x = x := w64 (by omega) (by omega)
    have wy : wrap64 y = y := w64 (by omega) (by omega)
    have sc : -2147483648 ≤ s * c ∧ s * c ≤ 2147483648 := by rcases hs with rfl | rfl <;> omega
    have wsc : wrap64 (s * c) = s * c := w64 (by omega) (by omega)
    rw [wx, wy, wsc]
    generalize s * c = t at *
    have b1 := prod62 a0 a1 (show 0 ≤ y by omega) (by omega)
    have b2 := prod62 sc.1 sc.2 (show 0 ≤ x by omega) (by omega)
    have b3 := prod62 (show -2147483648 ≤ x by omega) (by omega) (show 0 ≤ D by omega) q1
    have b4 : I64 (a * y + t * x) := by
      by_cases e : x ≤ 2147483647
      · have := prod_lt sc.1 sc.2 (show 0 ≤ x by omega) e
        exact i64_of (by omega) (by omega)
      · by_cases e2 : y ≤ 2147483647
        · have := prod_lt a0 a1 (show 0 ≤ y by omega) e2
          exact i64_of (by omega) (by omega)
        · have ex : x = 2147483648 := by omega
          have ey : y = 2147483648 := by omega
          rw [ex, ey] at one
          exact absurd one (by decide)
    rw [w64 (x := a * y) (by omega) (by omega), w64 (x := t * x) (by omega) (by omega), w64 b4.1 b4.2, w64 (x := x * D) (by omega) (by omega)]
    have e := pmake b4 (i64_of (x := x * D) (by omega) (by omega))
    have q : mk (a * y + t * x) (x * D) = mk (a * D + t * B) (B * D) := by
      refine mk_eq (mul_ne (by omega) (by omega)) (mul_ne (by omega) (by omega)) ?_
      rw [hB, hD]
      grind
    rw [q] at e
    exact Ev.bind e (Ev.now _)
theorem padd {a b c d : Int} (ha : I64 a) (hb : I64 b) (hc : I64 c) (hd : I64 d) : Ev (fun n => ratio_Add.f n a b c d) (add a b c d) := by
  have e := psum ha hb hc hd (.inl rfl)
  rw [Int.one_mul] at e
  exact Ev.bind e (Ev.now _)
theorem psub {a b c d : Int} (ha : I64 a) (hb : I64 b) (hc : I64 c) (hd : I64 d) : Ev (fun n => ratio_Sub.f n a b c d) (add a b (-c) d) := by
  have e := psum ha hb hc hd (.inr rfl)
  rw [Int.neg_one_mul] at e
  exact Ev.bind e (Ev.now _)
theorem pmul {a b c d : Int} (ha : I64 a) (hb : I64 b) (hc : I64 c) (hd : I64 d) : Ev (fun n => ratio_Mul.f n a b c d) (mul a b c d) := by
  unfold ratio_Mul.f
  rw [both_f ha hb hc hd]
  refine ev_some ?_
  by_cases h : vl a b ∧ vl c d
  rotate_left
  · unfold mul
    rw [if_neg h]
    exact ev_neg (by simpa using h) (Ev.now _)
  · refine ev_pos (decide_eq_true h) ?_
    rw [mul_is h.1 h.2]
    obtain ⟨p0, p1⟩ := den_pos h.1
    obtain ⟨q0, q1⟩ := den_pos h.2
    obtain ⟨a0, a1, _, _⟩ := vl_bd h.1
    obtain ⟨c0, c1, _, _⟩ := vl_bd h.2
    have b1 : -4611686018427387904 ≤ a * c ∧ a * c ≤ 4611686018427387904 := by
      have := prod_bd (M := 2147483648) a0 a1 (show (0 : Int) ≤ c.natAbs by omega) (by omega)
      rcases Int.le_total 0 c with z | z
      · rw [show (c.natAbs : Int) = c by omega] at this
        omega
      · rw [show (c.natAbs : Int) = -c by omega, Int.mul_neg] at this
        omega
    have b2 := prod62 (show -2147483648 ≤ den b by omega) p1 (show 0 ≤ den d by omega) q1
    simp only
    rw [w64 (x := a * c) (by omega) (by omega), w64 (x := den b * den d) (by omega) (by omega)]
    exact Ev.bind (pmake (i64_of (by omega) (by omega)) (i64_of (by omega) (by omega))) (Ev.now _)
theorem pcmp {a b c d : Int} (ha : I64 a) (hb : I64 b) (hc : I64 c) (hd : I64 d) : Ev (fun n => ratio_Compare.f n a b c d) (cmp a b c d) := by
  unfold ratio_Compare.f
  rw [both_f ha hb hc hd]
  refine ev_some ?_
  by_cases h : vl a b ∧ vl c d
  rotate_left
  · unfold cmp
    rw [if_neg h]
    refine ev_neg (by simpa using h) (Ev.open ⟨_, fun k => by simp only [ratio_Compare.j0]; rfl, ?_⟩)
    exact Ev.now _
  · refine ev_pos (decide_eq_true h) ?_
    rw [cmp_is h.1 h.2]
    obtain ⟨p0, p1⟩ := den_pos h.1
    obtain ⟨q0, q1⟩ := den_pos h.2
    obtain ⟨a0, a1, _, _⟩ := vl_bd h.1
    obtain ⟨c0, c1, _, _⟩ := vl_bd h.2
    have b1 := prod62 a0 a1 (show 0 ≤ den d by omega) q1
    have b2 := prod62 c0 c1 (show 0 ≤ den b by omega) p1
    simp only
    rw [w64 (x := a * den d) (by omega) (by omega), w64 (x := c * den b) (by omega) (by omega)]
    generalize a * den d = x at *
    generalize c * den b = y at *
    refine Ev.open ⟨_, fun k => by simp only [ratio_Compare.j0]; rfl, ?_⟩
    by_cases e : x = y
    · subst e
      have r : (if x < x then (-1 : Int) else if x = x then 0 else 1) = 0 := by rw [if_neg (Int.lt_irrefl x), if_pos rfl]
      rw [r]
      exact ev_pos (by simp) (Ev.now _)
    · refine ev_neg (by simpa using e) ?_
      by_cases l : x < y
      · have r : (if x < y then (-1 : Int) else if x = y then 0 else 1) = -1 := if_pos l
        rw [r]
        exact ev_pos l (Ev.now _)
      · have r : (if x < y then (-1 : Int) else if x = y then 0 else 1) = 1 := by rw [if_neg l, if_neg e]
        rw [r]
        exact ev_neg l (Ev.now _)
theorem ediv_is {a b m : Int} (b0 : 0 < b) (h0 : m * b ≤ a) (h1 : a < m * b + b) : a / b = m := by
  have u : m ≤ a / b := (Int.le_ediv_iff_mul_le b0).2 h0
  have v : a / b < m + 1 := (Int.ediv_lt_iff_lt_mul b0).2 (by rw [Int.add_mul, Int.one_mul]; exact h1)
  omega
theorem pflo {a b : Int} (ha : I64 a) (hb : I64 b) : Ev (fun n => ratio_Floor.f n a b) (flo a b) := by
  unfold ratio_Floor.f
  rw [pvalid ha hb]
  refine ev_some ?_
  by_cases h : vl a b
  rotate_left
  · unfold flo
    rw [if_neg h]
    refine ev_neg (by simpa using h) (Ev.open ⟨_, fun k => by simp only [ratio_Floor.j0]; rfl, ?_⟩)
    exact Ev.now _
  · refine ev_pos (decide_eq_true h) (Ev.open ⟨_, fun k => by simp only [ratio_Floor.j0]; rfl, ?_⟩)
    unfold flo
    rw [if_pos h]
    obtain ⟨p0, p1⟩ := den_pos h
    obtain ⟨a0, a1, _, _⟩ := vl_bd h
    by_cases z : b = 0
    · subst z
      have : a = 0 := by
        rcases h with u | u
        · exact u.1
        · omega
      subst this
      exact ev_pos rfl (Ev.now _)
    · refine ev_neg (by simpa using z) (ev_neg z ?_)
      have db : den b = b := by unfold den; rw [if_neg z]
      rw [db] at *
      rcases Int.le_total 0 a with q | q
      · have l := Int.ediv_le_self b q
        have n0 := Int.ediv_nonneg q (show 0 ≤ b by omega)
        have m0 := Int.ediv_mul_le a (show b ≠ 0 by omega)
        rw [tdiv_nn q, w64 (x := a / b) (by omega) (by omega)]
        have nn := Int.mul_nonneg n0 (show 0 ≤ b by omega)
        rw [w64 (x := a / b * b) (by omega) (by omega)]
        exact ev_neg (by omega) (Ev.now _)
      · have e : Int.tdiv a b = -((-a) / b) := by
          rw [show a = -(-a) by omega, Int.neg_tdiv, tdiv_nn (by omega)]
          simp
        rw [e]
        have l := Int.ediv_le_self b (show 0 ≤ -a by omega)
        have n0 := Int.ediv_nonneg (show 0 ≤ -a by omega) (show 0 ≤ b by omega)
        have m0 := Int.ediv_mul_le (-a) (show b ≠ 0 by omega)
        have m1 := Int.lt_ediv_add_one_mul_self (-a) (show 0 < b by omega)
        rw [Int.add_mul, Int.one_mul] at m1
        have nn := Int.mul_nonneg n0 (show 0 ≤ b by omega)
        generalize -a / b = k at *
        rw [w64 (x := -k) (by omega) (by omega), Int.neg_mul, w64 (x := -(k * b)) (by omega) (by omega)]
        by_cases c : -(k * b) > a
        · refine ev_pos c ?_
          rw [w64 (x := -k - 1) (by omega) (by omega), ediv_is (m := -k - 1) (by omega) (by rw [Int.sub_mul, Int.neg_mul, Int.one_mul]; omega) (by rw [Int.sub_mul, Int.neg_mul, Int.one_mul]; omega)]
          exact Ev.now _
        · refine ev_neg c ?_
          rw [ediv_is (m := -k) (by omega) (by rw [Int.neg_mul]; omega) (by rw [Int.neg_mul]; omega)]
          exact Ev.now _
theorem three_ev {l : List Int} (h : ∀ x ∈ l, (Lit.int .i64 x).wf = true) : ∃ a b c d e f, vl a b ∧ vl c d ∧ vl e f ∧ Ev (fun k => dioramalaw04_three.f k l) (a, b, c, d, e, f) := by
  obtain ⟨n1, h1, b1, c1⟩ := at_f h 0 1600 (by omega) (by omega)
  obtain ⟨n2, h2, b2, c2⟩ := at_f h 1 120 (by omega) (by omega)
  obtain ⟨n3, h3, b3, c3⟩ := at_f h 2 1600 (by omega) (by omega)
  obtain ⟨n4, h4, b4, c4⟩ := at_f h 3 120 (by omega) (by omega)
  obtain ⟨n5, h5, b5, c5⟩ := at_f h 4 1600 (by omega) (by omega)
  obtain ⟨n6, h6, b6, c6⟩ := at_f h 5 120 (by omega) (by omega)
  obtain ⟨a, b, v1, e1⟩ := three_ok (i64_of (x := n1) (by omega) (by omega)) (i64_of (x := n2) (by omega) (by omega))
  obtain ⟨c, d, v2, e2⟩ := three_ok (i64_of (x := n3) (by omega) (by omega)) (i64_of (x := n4) (by omega) (by omega))
  obtain ⟨e, f, v3, e3⟩ := three_ok (i64_of (x := n5) (by omega) (by omega)) (i64_of (x := n6) (by omega) (by omega))
  refine ⟨a, b, c, d, e, f, v1, v2, v3, ?_⟩
  unfold dioramalaw04_three.f
  rw [h1, h2, h3, h4, h5, h6]
  exact ev_some (ev_some (Ev.bind e1 (ev_some (ev_some (Ev.bind e2 (ev_some (ev_some (Ev.bind e3 (Ev.now _)))))))))
end Go.Proofs.YtdphgnakigcaeaaDoor.Rat
