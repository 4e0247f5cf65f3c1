/- The law RatioWorks over plain numbers: the reference's Add, Sub, Mul, Compare and Floor give what the program's give, for all pairs of fractions. -/
import Derived.Test.YtdphgnakigcaeaaDoorR6
import Derived.Test.YtdphgnakigcaeaaDoorWkWalkWorks
namespace Go.Proofs.YtdphgnakigcaeaaDoor.Rat
open Go.RowKit Go.Proofs.YtdphgnakigcaeaaDoor.Pc Go.Proofs.YtdphgnakigcaeaaDoorW.PrintWords Go.Proofs.YtdphgnakigcaeaaDoorW.PrintLast
open Go.Proofs.YtdphgnakigcaeaaDoorW.PrintMore
set_option linter.unusedVariables false
set_option linter.unusedSimpArgs false

theorem den_mx {a b : Int} (h : vl a b) : mx b 1 = den b := by
  have := vl_bd h
  unfold mx den
  split
  · rw [if_pos (by omega)]
  · rw [if_neg (by omega)]
theorem Den_f {a b : Int} (h : vl a b) : dioramaref04_Den.f a b = some (den b) := by
  unfold dioramaref04_Den.f
  rw [den_mx h]
theorem ra_true {a b c d : Int} : Ev (fun n => dioramaref04_Add.j0 n true a b c d) (0, 0, 1) := by
  refine Ev.open ⟨_, fun n => by simp only [dioramaref04_Add.j0]; rfl, ?_⟩
  exact ev_pos (by trivial) (Ev.now _)
theorem ra_false {a b c d : Int} (h : vl a b) (k : vl c d) : Ev (fun n => dioramaref04_Add.j0 n false a b c d) (add a b c d) := by
  refine Ev.open ⟨_, fun n => by simp only [dioramaref04_Add.j0]; rfl, ?_⟩
  refine ev_neg (by decide) ?_
  rw [Den_f h, Den_f k, add_is h k]
  obtain ⟨p0, p1⟩ := den_pos h
  obtain ⟨q0, q1⟩ := den_pos k
  obtain ⟨a0, a1, _, _⟩ := vl_bd h
  obtain ⟨c0, c1, _, _⟩ := vl_bd k
  generalize den b = B at *
  generalize den d = D at *
  have iB : I64 B := i64_of (by omega) (by omega)
  have iD : I64 D := i64_of (by omega) (by omega)
  refine ev_some ?_
  rw [Size_f iB]
  refine ev_some (ev_some ?_)
  rw [Size_f iD]
  refine ev_some (Ev.bind (common B D) (ev_some ?_))
  obtain ⟨g, x, y, g0, hg, hB, hD, one⟩ := parts B D (by omega)
  obtain ⟨x0, x1⟩ := parts_pos g0 hB p0
  obtain ⟨y0, y1⟩ := parts_pos g0 hD q0
  have gB : g ≤ B := by
    have : g * 1 ≤ g * x := Int.mul_le_mul_of_nonneg_left x0 (by omega)
    omega
  rw [hg]
  have wg : wrap64 g = g := w64 (by omega) (by omega)
  have tB : Int.tdiv B g = x := by rw [hB, Int.mul_tdiv_cancel_left _ (by omega)]
  have tD : Int.tdiv D g = y := by rw [hD, Int.mul_tdiv_cancel_left _ (by omega)]
  rw [wg, tB]
  refine ev_neg (by omega) (ev_some ?_)
  rw [tD]
  have wx : wrap64 x = x := w64 (by omega) (by omega)
  have wy : wrap64 y = y := w64 (by omega) (by omega)
  rw [wx, wy]
  have b1 := prod62 a0 a1 (show 0 ≤ y by omega) (by omega)
  have b2 := prod62 c0 c1 (show 0 ≤ x by omega) (by omega)
  have b3 := prod62 (show -2147483648 ≤ x by omega) (by omega) (show 0 ≤ D by omega) q1
  have b5 := prod62 (show -2147483648 ≤ x by omega) (by omega) (show 0 ≤ y by omega) (by omega)
  have b4 : I64 (a * y + c * x) := by
    by_cases e : x ≤ 2147483647
    · have := prod_lt c0 c1 (show 0 ≤ x by omega) e
      exact i64_of (by omega) (by omega)
    · by_cases e2 : y ≤ 2147483647
      · have := prod_lt a0 a1 (show 0 ≤ y by omega) e2
        exact i64_of (by omega) (by omega)
      · have ex : x = 2147483648 := by omega
        have ey : y = 2147483648 := by omega
        rw [ex, ey] at one
        exact absurd one (by decide)
  have e3 : x * y * g = x * D := by rw [hD]; grind
  rw [w64 (x := a * y) (by omega) (by omega), w64 (x := c * x) (by omega) (by omega), w64 b4.1 b4.2, w64 (x := x * y) (by omega) (by omega), e3, w64 (x := x * D) (by omega) (by omega)]
  have e := rmake b4 (i64_of (x := x * D) (by omega) (by omega))
  have q : mk (a * y + c * x) (x * D) = mk (a * D + c * B) (B * D) := by
    refine mk_eq (mul_ne (by omega) (by omega)) (mul_ne (by omega) (by omega)) ?_
    rw [hB, hD]
    grind
  rw [q] at e
  exact Ev.bind e (Ev.now _)
theorem add_no {a b c d : Int} (h : ¬ (vl a b ∧ vl c d)) : add a b c d = (0, 0, 1) := by
  unfold add
  rw [if_neg h]
theorem mul_no {a b c d : Int} (h : ¬ (vl a b ∧ vl c d)) : mul a b c d = (0, 0, 1) := by
  unfold mul
  rw [if_neg h]
theorem cmp_no {a b c d : Int} (h : ¬ (vl a b ∧ vl c d)) : cmp a b c d = 0 := by
  unfold cmp
  rw [if_neg h]
theorem radd {a b c d : Int} (ha : I64 a) (hb : I64 b) (hc : I64 c) (hd : I64 d) : Ev (fun n => dioramaref04_Add.f n a b c d) (add a b c d) := by
  unfold dioramaref04_Add.f
  refine Ev.bind (valid_r ha hb) ?_
  by_cases h : vl a b
  · refine ev_pos (decide_eq_true h) (Ev.bind (valid_r hc hd) ?_)
    by_cases k : vl c d
    · rw [decide_eq_true k]
      exact ra_false h k
    · rw [decide_eq_false k, add_no fun z => k z.2]
      exact ra_true
  · rw [add_no fun z => h z.1]
    exact ev_neg (by simpa using h) ra_true
theorem rsub {a b c d : Int} (ha : I64 a) (hb : I64 b) (hc : I64 c) (hd : I64 d) : Ev (fun n => dioramaref04_Sub.f n a b c d) (add a b (-c) d) := by
  unfold dioramaref04_Sub.f
  refine Ev.bind (valid_r ha hb) ?_
  by_cases h : vl a b
  · refine ev_pos (decide_eq_true h) (Ev.bind (valid_r hc hd) ?_)
    by_cases k : vl c d
    · refine ev_pos (decide_eq_true k) ?_
      obtain ⟨c0, c1, _, _⟩ := vl_bd k
      rw [w64 (x := -c) (by omega) (by omega)]
      exact Ev.bind (radd ha hb (i64_of (by omega) (by omega)) hd) (Ev.now _)
    · rw [add_no fun z => k (vl_neg.1 z.2)]
      exact ev_neg (by simpa using k) (Ev.now _)
  · rw [add_no fun z => h z.1]
    exact ev_neg (by simpa using h) (Ev.now _)
theorem rm_true {a b c d : Int} : Ev (fun n => dioramaref04_Mul.j0 n true a b c d) (0, 0, 1) := by
  refine Ev.open ⟨_, fun n => by simp only [dioramaref04_Mul.j0]; rfl, ?_⟩
  exact ev_pos (by trivial) (Ev.now _)
theorem rm_false {a b c d : Int} (h : vl a b) (k : vl c d) : Ev (fun n => dioramaref04_Mul.j0 n false a b c d) (mul a b c d) := by
  refine Ev.open ⟨_, fun n => by simp only [dioramaref04_Mul.j0]; rfl, ?_⟩
  refine ev_neg (by decide) ?_
  rw [Den_f h, Den_f k, mul_is h k]
  refine ev_some (ev_some ?_)
  obtain ⟨p0, p1⟩ := den_pos h
  obtain ⟨q0, q1⟩ := den_pos k
  obtain ⟨a0, a1, _, _⟩ := vl_bd h
  obtain ⟨c0, c1, _, _⟩ := vl_bd k
  have b1 : -4611686018427387904 ≤ a * c ∧ a * c ≤ 4611686018427387904 := by
    have := prod_bd (M := 2147483648) a0 a1 (show (0 : Int) ≤ c.natAbs by omega) (by omega)
    rcases Int.le_total 0 c with z | z
    · rw [show (c.natAbs : Int) = c by omega] at this
      omega
    · rw [show (c.natAbs : Int) = -c by omega, Int.mul_neg] at this
      omega
  have b2 := prod62 (show -2147483648 ≤ den b by omega) p1 (show 0 ≤ den d by omega) q1
  rw [w64 (x := a * c) (by omega) (by omega), w64 (x := den b * den d) (by omega) (by omega)]
  exact Ev.bind (rmake (i64_of (by omega) (by omega)) (i64_of (by omega) (by omega))) (Ev.now _)
theorem rmul {a b c d : Int} (ha : I64 a) (hb : I64 b) (hc : I64 c) (hd : I64 d) : Ev (fun n => dioramaref04_Mul.f n a b c d) (mul a b c d) := by
  unfold dioramaref04_Mul.f
  refine Ev.bind (valid_r ha hb) ?_
  by_cases h : vl a b
  · refine ev_pos (decide_eq_true h) (Ev.bind (valid_r hc hd) ?_)
    by_cases k : vl c d
    · rw [decide_eq_true k]
      exact rm_false h k
    · rw [decide_eq_false k, mul_no fun z => k z.2]
      exact rm_true
  · rw [mul_no fun z => h z.1]
    exact ev_neg (by simpa using h) rm_true
theorem rc_true {a b c d : Int} : Ev (fun n => dioramaref04_Compare.j0 n true a b c d) 0 := by
  refine Ev.open ⟨_, fun n => by simp only [dioramaref04_Compare.j0]; rfl, ?_⟩
  exact ev_pos (by trivial) (Ev.now _)
theorem rc_false {a b c d : Int} (h : vl a b) (k : vl c d) : Ev (fun n => dioramaref04_Compare.j0 n false a b c d) (cmp a b c d) := by
  refine Ev.open ⟨_, fun n => by simp only [dioramaref04_Compare.j0]; rfl, ?_⟩
  refine ev_neg (by decide) ?_
  rw [Den_f h, Den_f k, cmp_is h k]
  refine ev_some (ev_some ?_)
  obtain ⟨p0, p1⟩ := den_pos h
  obtain ⟨q0, q1⟩ := den_pos k
  obtain ⟨a0, a1, _, _⟩ := vl_bd h
  obtain ⟨c0, c1, _, _⟩ := vl_bd k
  have b1 := prod62 a0 a1 (show 0 ≤ den d by omega) q1
  have b2 := prod62 c0 c1 (show 0 ≤ den b by omega) p1
  rw [w64 (x := a * den d) (by omega) (by omega), w64 (x := c * den b) (by omega) (by omega)]
  generalize a * den d = u
  generalize c * den b = v
  by_cases l : u < v
  · rw [show (if u < v then (-1 : Int) else if u = v then 0 else 1) = -1 from if_pos l]
    exact ev_pos l (Ev.now _)
  · refine ev_neg l ?_
    by_cases e : u = v
    · rw [show (if u < v then (-1 : Int) else if u = v then 0 else 1) = 0 by rw [if_neg l, if_pos e]]
      exact ev_neg (by omega) (Ev.now _)
    · rw [show (if u < v then (-1 : Int) else if u = v then 0 else 1) = 1 by rw [if_neg l, if_neg e]]
      exact ev_pos (by omega) (Ev.now _)
theorem rcmp {a b c d : Int} (ha : I64 a) (hb : I64 b) (hc : I64 c) (hd : I64 d) : Ev (fun n => dioramaref04_Compare.f n a b c d) (cmp a b c d) := by
  unfold dioramaref04_Compare.f
  refine Ev.bind (valid_r ha hb) ?_
  by_cases h : vl a b
  · refine ev_pos (decide_eq_true h) (Ev.bind (valid_r hc hd) ?_)
    by_cases k : vl c d
    · rw [decide_eq_true k]
      exact rc_false h k
    · rw [decide_eq_false k, cmp_no fun z => k z.2]
      exact rc_true
  · rw [cmp_no fun z => h z.1]
    exact ev_neg (by simpa using h) rc_true
theorem rflo {a b : Int} (ha : I64 a) (hb : I64 b) : Ev (fun n => dioramaref04_Floor.f n a b) (flo a b) := by
  unfold dioramaref04_Floor.f flo
  refine Ev.bind (valid_r ha hb) ?_
  by_cases h : vl a b
  rotate_left
  · rw [if_neg h]
    exact ev_neg (by simpa using h) (Ev.now _)
  rw [if_pos h]
  refine ev_pos (decide_eq_true h) ?_
  rw [Den_f h]
  obtain ⟨p0, p1⟩ := den_pos h
  obtain ⟨a0, a1, _, _⟩ := vl_bd h
  generalize den b = B at *
  have small {n : Int} (n0 : 0 ≤ n) (n1 : n ≤ 9223372036854775807) : 0 ≤ n / B ∧ n / B ≤ n := ⟨Int.ediv_nonneg n0 (by omega), Int.ediv_le_self _ n0⟩
  by_cases z : a ≥ 0
  · refine ev_pos z (ev_some (ev_neg (by omega) ?_))
    rw [tdiv_nn z]
    have := small z (by omega)
    rw [w64 (by omega) (by omega)]
    exact Ev.now _
  · refine ev_neg z (ev_some (ev_some (ev_neg (by omega) ?_)))
    rw [w64 (x := -a) (by omega) (by omega), w64 (x := -a + B) (by omega) (by omega), w64 (x := -a + B - 1) (by omega) (by omega), tdiv_nn (by omega)]
    have s := small (n := -a + B - 1) (by omega) (by omega)
    have e1 := Int.ediv_mul_le (-a + B - 1) (show B ≠ 0 by omega)
    have e2 := Int.lt_ediv_add_one_mul_self (-a + B - 1) (show 0 < B by omega)
    generalize (-a + B - 1) / B = q at *
    rw [w64 (x := q) (by omega) (by omega), w64 (x := -q) (by omega) (by omega)]
    have e3 : (q + 1) * B = q * B + B := by grind
    have e4 : -q * B = -(q * B) := by grind
    have : a / B = -q := ediv_is (by omega) (by omega) (by omega)
    rw [this]
    exact Ev.now _
theorem same_ev {a b c d : Int} (ha : I64 a) (hb : I64 b) (hc : I64 c) (hd : I64 d) : Ev (fun n => dioramalaw04_same.f n a b c d) true := by
  unfold dioramalaw04_same.f
  refine Ev.bind (padd ha hb hc hd) (Ev.bind (radd ha hb hc hd) (Ev.bind (psub ha hb hc hd) (Ev.bind (rsub ha hb hc hd) (Ev.bind (pmul ha hb hc hd) (Ev.bind (rmul ha hb hc hd) (ev_pos (by simp) (ev_pos rfl (ev_pos (by simp) (ev_pos rfl (ev_pos (by simp) (ev_pos rfl ?_)))))))))))
  refine Ev.bind (pcmp ha hb hc hd) (Ev.bind (rcmp ha hb hc hd) (ev_pos rfl (Ev.bind (pflo ha hb) (Ev.bind (rflo ha hb) (ev_pos rfl ?_)))))
  rw [ptext ha hb]
  refine ev_some (Ev.bind (rtext ha hb) ?_)
  have e (s : ByteArray) : (s.toList == s.toList) = true := by simp
  rw [e]
  exact Ev.now _
theorem rw_l1 {xs : List S24} (hx : ∀ i : Int, 0 ≤ i → i < xs.length → I64 (rd_T24 xs i).f0 ∧ I64 (rd_T24 xs i).f1) (hl : xs.length ≤ 1000) {i : Int} (i0 : 0 ≤ i) (i1 : i < xs.length) (H : Ev (fun n => dioramalaw04_RatioWorks.l0 n xs (i + 1)) true) (m : Nat) : ∀ j : Int, 0 ≤ j → j + m = xs.length → Ev (fun n => dioramalaw04_RatioWorks.l1 n xs i j) true := by
  induction m with
  | zero =>
    intro j j0 e
    refine Ev.open ⟨_, fun n => by simp only [dioramalaw04_RatioWorks.l1]; rfl, ?_⟩
    refine ev_neg (by omega) ?_
    rw [w64 (by omega) (by omega)]
    exact H
  | succ m ih =>
    intro j j0 e
    refine Ev.open ⟨_, fun n => by simp only [dioramalaw04_RatioWorks.l1]; rfl, ?_⟩
    have u := hx i i0 i1
    have v := hx j j0 (by omega)
    refine ev_pos (by omega) (ev_pos i0 (ev_pos i1 (ev_pos j0 (Ev.bind (same_ev u.1 u.2 v.1 v.2) (ev_pos rfl ?_)))))
    rw [w64 (by omega) (by omega)]
    exact ih (j + 1) (by omega) (by omega)
theorem rw_l0 {xs : List S24} (hx : ∀ i : Int, 0 ≤ i → i < xs.length → I64 (rd_T24 xs i).f0 ∧ I64 (rd_T24 xs i).f1) (hl : xs.length ≤ 1000) (m : Nat) : ∀ i : Int, 0 ≤ i → i + m = xs.length → Ev (fun n => dioramalaw04_RatioWorks.l0 n xs i) true := by
  induction m with
  | zero =>
    intro i i0 e
    refine Ev.open ⟨_, fun n => by simp only [dioramalaw04_RatioWorks.l0]; rfl, ?_⟩
    exact ev_neg (by omega) lives'
  | succ m ih =>
    intro i i0 e
    refine Ev.open ⟨_, fun n => by simp only [dioramalaw04_RatioWorks.l0]; rfl, ?_⟩
    exact ev_pos (by omega) (rw_l1 hx hl i0 (by omega) (ih (i + 1) (by omega) (by omega)) xs.length 0 (by omega) (by omega))
theorem RatioWorks : dioramalaw04_RatioWorks.Pure := by
  intro l a b c d hm hw ha hb hc hd
  obtain ⟨n1, h1, b1, c1⟩ := at_f hw 0 1600 (by omega) (by omega)
  obtain ⟨n2, h2, b2, c2⟩ := at_f hw 1 120 (by omega) (by omega)
  obtain ⟨n3, h3, b3, c3⟩ := at_f hw 2 1600 (by omega) (by omega)
  obtain ⟨n4, h4, b4, c4⟩ := at_f hw 3 120 (by omega) (by omega)
  obtain ⟨p, q, v1, e1⟩ := three_ok (i64_of (x := n1) (by omega) (by omega)) (i64_of (x := n2) (by omega) (by omega))
  obtain ⟨r, s, v2, e2⟩ := three_ok (i64_of (x := n3) (by omega) (by omega)) (i64_of (x := n4) (by omega) (by omega))
  have all : Ev (fun n => dioramalaw04_RatioWorks.f n l a b c d) true := by
    unfold dioramalaw04_RatioWorks.f
    rw [h1, h2, h3, h4]
    refine ev_some (ev_some (Ev.bind e1 (ev_some (ev_some (Ev.bind e2 ?_)))))
    refine rw_l0 ?_ (by simp) 7 0 (by omega) (by simp)
    intro i i0 i1
    have lt : i < 7 := i1
    have ia := bd64 ha
    have ib := bd64 hb
    have ic := bd64 hc
    have id := bd64 hd
    have ip := vl_i64 v1
    have ir := vl_i64 v2
    obtain e | e | e | e | e | e | e : i = 0 ∨ i = 1 ∨ i = 2 ∨ i = 3 ∨ i = 4 ∨ i = 5 ∨ i = 6 := by omega
    all_goals subst e
    · exact ip
    · exact ir
    · exact ⟨ia, ib⟩
    · exact ⟨ic, id⟩
    · exact (show I64 0 ∧ I64 0 by unfold I64; omega)
    · exact (show I64 (-2147483648) ∧ I64 1 by unfold I64; omega)
    · exact (show I64 1 ∧ I64 2147483648 by unfold I64; omega)
  exact all.rounds
end Go.Proofs.YtdphgnakigcaeaaDoor.Rat
