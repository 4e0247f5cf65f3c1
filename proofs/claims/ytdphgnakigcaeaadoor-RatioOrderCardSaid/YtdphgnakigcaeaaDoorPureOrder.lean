/- The law RatioOrder over plain numbers: Compare, the difference, a third fraction added, and the floor. -/
import Derived.Test.YtdphgnakigcaeaaDoorR4
import Derived.Test.YtdphgnakigcaeaaDoorPc10
namespace Go.Proofs.YtdphgnakigcaeaaDoor.Rat
open Go.RowKit Go.Proofs.YtdphgnakigcaeaaDoor.Pc Go.Proofs.YtdphgnakigcaeaaDoorW.PrintWords Go.Proofs.YtdphgnakigcaeaaDoorW.PrintLast
set_option linter.unusedVariables false
set_option linter.unusedSimpArgs false

theorem same_sign {u v P Q : Int} (hP : 0 < P) (hQ : 0 < Q) (e : u * P = v * Q) : (u < 0 ↔ v < 0) ∧ (u = 0 ↔ v = 0) := by
  have s {x R : Int} (hR : 0 < R) : (x * R < 0 ↔ x < 0) ∧ (x * R = 0 ↔ x = 0) := by
    rw [Int.mul_comm]
    have a := (pos_iff (x := x) hR).1
    have b := (pos_iff (x := x) hR).2
    constructor
    · exact a
    · constructor
      · intro h
        omega
      · intro h
        rw [h, Int.mul_zero]
  have a := s (x := u) hP
  have b := s (x := v) hQ
  rw [e] at a
  exact ⟨a.1.symm.trans b.1, a.2.symm.trans b.2⟩
theorem cmp_range (a b c d : Int) : cmp a b c d = -1 ∨ cmp a b c d = 0 ∨ cmp a b c d = 1 := by
  unfold cmp
  split
  · split
    · exact .inl rfl
    · split
      · exact .inr (.inl rfl)
      · exact .inr (.inr rfl)
  · exact .inr (.inl rfl)
theorem cmp_sign {a b c d : Int} (h : vl a b) (k : vl c d) : (cmp a b c d < 0 ↔ a * den d - c * den b < 0) ∧ (cmp a b c d = 0 ↔ a * den d - c * den b = 0) := by
  rw [cmp_is h k]
  generalize a * den d = x
  generalize c * den b = y
  by_cases l : x < y
  · rw [if_pos l]
    omega
  · rw [if_neg l]
    by_cases e : x = y
    · rw [if_pos e]
      omega
    · rw [if_neg e]
      omega
theorem cmp_anti {a b c d : Int} (h : vl a b) (k : vl c d) : cmp a b c d = -cmp c d a b := by
  have r := cmp_range a b c d
  have s := cmp_range c d a b
  have x := cmp_sign h k
  have y := cmp_sign k h
  generalize a * den d = u at *
  generalize c * den b = v at *
  omega
theorem cmp_self {a b : Int} (h : vl a b) : cmp a b a b = 0 := (cmp_sign h h).2.2 (by omega)
theorem cmp_same {a b c d x y u v : Int} (h : vl a b) (k : vl c d) (l : vl x y) (m : vl u v) {P Q : Int} (hP : 0 < P) (hQ : 0 < Q) (e : (x * den v - u * den y) * P = (a * den d - c * den b) * Q) : cmp x y u v = cmp a b c d := by
  have r := cmp_range a b c d
  have s := cmp_range x y u v
  have z := cmp_sign h k
  have w := cmp_sign l m
  have t := same_sign hP hQ e
  generalize a * den d - c * den b = u1 at *
  generalize x * den v - u * den y = u2 at *
  omega
theorem flo_bd {a b : Int} (h : vl a b) : flo a b * den b ≤ a ∧ a < (flo a b + 1) * den b ∧ -2147483648 ≤ flo a b ∧ flo a b ≤ 2147483648 := by
  unfold flo
  rw [if_pos h]
  obtain ⟨p0, p1⟩ := den_pos h
  obtain ⟨a0, a1, _, _⟩ := vl_bd h
  have e1 := Int.ediv_mul_le a (show den b ≠ 0 by omega)
  have e2 := Int.lt_ediv_add_one_mul_self a (show 0 < den b by omega)
  refine ⟨e1, e2, ?_, ?_⟩
  · rw [Int.le_ediv_iff_mul_le (by omega)]
    omega
  · have : a / den b < 2147483648 + 1 := by
      rw [Int.ediv_lt_iff_lt_mul (by omega)]
      omega
    omega
theorem vl_int {k : Int} (h0 : -2147483648 ≤ k) (h1 : k ≤ 2147483648) : vl k 1 := .inr ⟨by omega, by omega, h0, h1, by simp⟩
theorem i64_mk {p q x y z : Int} (h : mk p q = (x, y, z)) : I64 x ∧ I64 y := by
  rcases mk_err p q with e | e | e
  · rw [e] at h
    simp only [Prod.mk.injEq] at h
    unfold I64
    omega
  · rw [e] at h
    simp only [Prod.mk.injEq] at h
    unfold I64
    omega
  · rw [e] at h
    simp only [Prod.mk.injEq] at h
    obtain ⟨rfl, rfl, rfl⟩ := h
    exact vl_i64 (mk_ok e).1
theorem ro_j2 {a b : Int} (h : vl a b) : Ev (fun n => dioramalaw04_RatioOrder.j2 n (flo a b) false a b) true := by
  obtain ⟨f0, f1, f2, f3⟩ := flo_bd h
  obtain ⟨ia, ib⟩ := vl_i64 h
  refine Ev.open ⟨_, fun n => by simp only [dioramalaw04_RatioOrder.j2]; rfl, ?_⟩
  refine ev_neg (by decide) ?_
  rw [w64 (by omega) (by omega)]
  have e := pmake (p := flo a b + 1) (q := 1) (i64_of (by omega) (by omega)) (i64_of (by omega) (by omega))
  obtain ⟨x, y, z, hm⟩ : ∃ x y z, mk (flo a b + 1) 1 = (x, y, z) := ⟨_, _, _, rfl⟩
  rw [hm] at e
  refine Ev.bind e ?_
  by_cases c : z = 0
  · subst c
    refine ev_pos rfl ?_
    obtain ⟨v1, y1, _, e1⟩ := mk_ok hm
    have ii := i64_mk hm
    refine Ev.bind (pcmp ia ib ii.1 ii.2) (ev_pos ?_ lives')
    rw [(cmp_sign h v1).1, den_one y1]
    have : a * y < (flo a b + 1) * den b * y := Int.mul_lt_mul_of_pos_right f1 (by omega)
    rw [Int.mul_one] at e1
    rw [e1]
    have q : (flo a b + 1) * y * den b = (flo a b + 1) * den b * y := by grind
    omega
  · exact ev_neg c lives'
theorem ro_j1 {a b : Int} (h : vl a b) : Ev (fun n => dioramalaw04_RatioOrder.j1 n false a b) true := by
  obtain ⟨f0, f1, f2, f3⟩ := flo_bd h
  obtain ⟨ia, ib⟩ := vl_i64 h
  refine Ev.open ⟨_, fun n => by simp only [dioramalaw04_RatioOrder.j1]; rfl, ?_⟩
  have e := pmake (p := flo a b) (q := 1) (i64_of (by omega) (by omega)) (i64_of (by omega) (by omega))
  rw [mk_self (vl_int f2 f3) (by omega)] at e
  have pc := pcmp (a := flo a b) (b := 1) (i64_of (by omega) (by omega)) (i64_of (by omega) (by omega)) ia ib
  refine ev_neg (by decide) (Ev.bind (pflo ia ib) (Ev.bind e (ev_pos rfl (Ev.bind pc ?_))))
  have c : ¬ cmp (flo a b) 1 a b > 0 := by
    have r := cmp_range (flo a b) 1 a b
    have s := cmp_sign (vl_int f2 f3) h
    rw [den_one (show (1 : Int) ≤ 1 by omega)] at s
    omega
  rw [decide_eq_false c]
  exact ro_j2 h
theorem ro_j0 {a b c d e f : Int} (h : vl a b) (k : vl c d) (l : vl e f) : Ev (fun n => dioramalaw04_RatioOrder.j0 n (cmp a b c d) false a b c d e f) true := by
  obtain ⟨ia, ib⟩ := vl_i64 h
  obtain ⟨ic, id⟩ := vl_i64 k
  obtain ⟨ie, iff⟩ := vl_i64 l
  have B0 := (den_pos h).1
  have D0 := (den_pos k).1
  have E0 := (den_pos l).1
  refine Ev.open ⟨_, fun n => by simp only [dioramalaw04_RatioOrder.j0]; rfl, ?_⟩
  obtain ⟨x, y, z, h1⟩ : ∃ x y z, add a b e f = (x, y, z) := ⟨_, _, _, rfl⟩
  obtain ⟨u, v, w, h2⟩ : ∃ x y z, add c d e f = (x, y, z) := ⟨_, _, _, rfl⟩
  have e1 := padd ia ib ie iff
  have e2 := padd ic id ie iff
  rw [h1] at e1
  rw [h2] at e2
  refine ev_neg (by decide) (Ev.bind e1 (Ev.bind e2 ?_))
  by_cases z0 : z = 0
  · refine ev_pos z0 ?_
    by_cases w0 : w = 0
    · refine ev_pos w0 ?_
      subst z0 w0
      rw [add_is h l] at h1
      rw [add_is k l] at h2
      obtain ⟨v1, y1, n1, q1⟩ := mk_ok h1
      obtain ⟨v2, y2, n2, q2⟩ := mk_ok h2
      have i1 := i64_mk h1
      have i2 := i64_mk h2
      refine Ev.bind (pcmp i1.1 i1.2 i2.1 i2.2) ?_
      have same : cmp x y u v = cmp a b c d := by
        refine cmp_same h k v1 v2 (P := (den b * den f) * (den d * den f)) (Q := (y * v) * (den f * den f)) ?_ ?_ ?_
        · exact Int.mul_pos (Int.mul_pos (by omega) (by omega)) (Int.mul_pos (by omega) (by omega))
        · exact Int.mul_pos (Int.mul_pos (by omega) (by omega)) (Int.mul_pos (by omega) (by omega))
        · rw [den_one y1, den_one y2]
          generalize den b = B at *
          generalize den d = D at *
          generalize den f = E at *
          grind
      rw [same]
      have nn : (cmp a b c d != cmp a b c d) = false := by simp
      simp only [nn]
      exact ro_j1 h
    · exact ev_neg w0 (ro_j1 h)
  · exact ev_neg z0 (ro_j1 h)
theorem RatioOrder : dioramalaw04_RatioOrder.Pure := by
  intro l hm1 hm hw
  obtain ⟨a, b, c, d, e, f, h, k, g, ev⟩ := three_ev hw
  obtain ⟨ia, ib⟩ := vl_i64 h
  obtain ⟨ic, id⟩ := vl_i64 k
  have B0 := (den_pos h).1
  have D0 := (den_pos k).1
  have all : Ev (fun n => dioramalaw04_RatioOrder.f n l) true := by
    unfold dioramalaw04_RatioOrder.f
    obtain ⟨x, y, z, h1⟩ : ∃ x y z, add a b (-c) d = (x, y, z) := ⟨_, _, _, rfl⟩
    have e1 := psub ia ib ic id
    rw [h1] at e1
    refine Ev.bind ev (Ev.bind e1 (Ev.bind (pcmp ia ib ic id) (Ev.bind (pcmp ic id ia ib) (ev_pos ?_ (Ev.bind (pcmp ia ib ia ib) (ev_pos (cmp_self h) ?_))))))
    · have r := cmp_range c d a b
      show cmp a b c d = wrap64 (-cmp c d a b)
      rw [w64 (by omega) (by omega)]
      exact cmp_anti h k
    · by_cases z0 : z = 0
      · refine ev_pos z0 ?_
        subst z0
        rw [add_is h (vl_neg.2 k)] at h1
        obtain ⟨v1, y1, n1, q1⟩ := mk_ok h1
        have s := same_sign (u := x) (v := a * den d - c * den b) (P := den b * den d) (Q := y) (Int.mul_pos (by omega) (by omega)) (by omega) (by rw [q1]; grind)
        have t := cmp_sign h k
        have b1 : ((cmp a b c d == 0) != (x == 0)) = false := by
          have : (cmp a b c d = 0) ↔ (x = 0) := t.2.trans s.2.symm
          by_cases q : x = 0
          · simp [q, this.2 q]
          · have q2 : ¬ cmp a b c d = 0 := fun z => q (this.1 z)
            rw [beq_eq_false_iff_ne.2 q, beq_eq_false_iff_ne.2 q2]
            rfl
        have b2 : ((decide (cmp a b c d < 0)) != (decide (x < 0))) = false := by
          have : (cmp a b c d < 0) ↔ (x < 0) := t.1.trans s.1.symm
          by_cases q : x < 0
          · rw [decide_eq_true q, decide_eq_true (this.2 q)]
            rfl
          · have q2 : ¬ cmp a b c d < 0 := fun z => q (this.1 z)
            rw [decide_eq_false q, decide_eq_false q2]
            rfl
        refine ev_neg (by rw [b1]; decide) ?_
        simp only [b2]
        exact ro_j0 h k g
      · exact ev_neg z0 (ro_j0 h k g)
  exact all.rounds
end Go.Proofs.YtdphgnakigcaeaaDoor.Rat
