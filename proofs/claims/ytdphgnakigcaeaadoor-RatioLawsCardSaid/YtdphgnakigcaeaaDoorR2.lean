/- What the program's and the reference's functions of fractions come to, over plain numbers. -/
import Derived.Test.YtdphgnakigcaeaaDoorR1
import Derived.Test.YtdphgnakigcaeaaDoorPc2
import Derived.Test.YtdphgnakigcaeaaDoorPc3
import Derived.Test.YtdphgnakigcaeaaDoorPc4
import Derived.IntWalk
import Derived.Lib.EndianBits
namespace Go.Proofs.YtdphgnakigcaeaaDoor.Rat
open Go.RowKit Go.Proofs.YtdphgnakigcaeaaDoor.Pc Go.Proofs.YtdphgnakigcaeaaDoorW.PrintWords Go.Proofs.YtdphgnakigcaeaaDoorW.PrintLast
set_option linter.unusedVariables false
set_option linter.unusedSimpArgs false

theorem ev_some {α β : Type} {a : α} {f : Nat → α → Option β} {r : β} (h : Ev (fun n => f n a) r) : Ev (fun n => (some a).bind (f n)) r := h
theorem ev_pos {β : Type} {c : Prop} [Decidable c] {g f : Nat → Option β} {r : β} (hc : c) (h : Ev g r) : Ev (fun n => if c then g n else f n) r := Ev.congr (fun _ => if_pos hc) h
theorem ev_neg {β : Type} {c : Prop} [Decidable c] {g f : Nat → Option β} {r : β} (hc : ¬ c) (h : Ev f r) : Ev (fun n => if c then g n else f n) r := Ev.congr (fun _ => if_neg hc) h
theorem Ev.open {α : Type} {g : Nat → Option α} {r : α} (h : ∃ f, (∀ k, g (k + 1) = f k) ∧ Ev f r) : Ev g r := by
  obtain ⟨f, a, b⟩ := h
  exact Ev.step a b
theorem w64 {x : Int} (h0 : -9223372036854775808 ≤ x) (h1 : x ≤ 9223372036854775807) : wrap64 x = x := by unfold wrap64; omega
theorem tmod_nn {a b : Int} (h : 0 ≤ a) : Int.tmod a b = a % b := Int.tmod_eq_emod_of_nonneg h
theorem tdiv_nn {a b : Int} (h : 0 ≤ a) : Int.tdiv a b = a / b := Int.tdiv_eq_ediv_of_nonneg h
theorem bd64 {n : Int} (h : (Lit.int .i64 n).wf = true) : -9223372036854775808 ≤ n ∧ n ≤ 9223372036854775807 := by
  have e1 : IntKind.i64.min = -9223372036854775808 := rfl
  have e2 : IntKind.i64.max = 9223372036854775807 := rfl
  simp [Lit.wf, e1, e2] at h
  omega
/-- an int -/
def I64 (n : Int) : Prop := -9223372036854775808 ≤ n ∧ n ≤ 9223372036854775807
def ar (n most : Int) : Int := if n < 0 then (-(n + 1)) % most else n % most
theorem around {n most : Int} (b : I64 n) (m0 : 1 ≤ most) : dioramaref01_Around.f n most = some (ar n most) := by
  unfold I64 at b
  unfold dioramaref01_Around.f ar
  by_cases c : n < 0
  · rw [if_pos c, if_neg (by omega), if_neg (by omega), if_pos c, w64 (x := n + 1) (by omega) (by omega), w64 (by omega) (by omega), tmod_nn (by omega)]
  · rw [if_neg c, if_neg (by omega), if_neg (by omega), if_neg c, tmod_nn (by omega)]
theorem ar_bd (n most : Int) (m0 : 1 ≤ most) : 0 ≤ ar n most ∧ ar n most < most := by
  unfold ar
  split
  · exact ⟨Int.emod_nonneg _ (by omega), Int.emod_lt_of_pos _ (by omega)⟩
  · exact ⟨Int.emod_nonneg _ (by omega), Int.emod_lt_of_pos _ (by omega)⟩
theorem tdiv_bd {n c : Int} (b : I64 n) (c0 : 2 ≤ c) : I64 (Int.tdiv n c) := by
  unfold I64 at *
  rcases Int.le_total 0 n with q | q
  · rw [tdiv_nn q]
    have e1 := Int.ediv_nonneg q (show (0 : Int) ≤ c by omega)
    have e2 := Int.ediv_le_self c q
    omega
  · have e : Int.tdiv n c = -(Int.tdiv (-n) c) := by rw [Int.neg_tdiv, Int.neg_neg]
    rw [e, tdiv_nn (by omega)]
    have e1 := Int.ediv_nonneg (show 0 ≤ -n by omega) (show (0 : Int) ≤ c by omega)
    have e2 := Int.ediv_le_self c (show 0 ≤ -n by omega)
    omega
theorem rd_wf {l : List Int} (h : ∀ x ∈ l, (Lit.int .i64 x).wf = true) (i : Int) (h0 : 0 ≤ i) (h1 : i < l.length) : I64 (rd l i) := by
  have e : rd l i ∈ l := by
    unfold rd
    rw [List.getD_eq_getElem?_getD, List.getElem?_eq_getElem (by omega)]
    exact List.getElem_mem _
  exact bd64 (h _ e)
theorem at_f {l : List Int} (h : ∀ x ∈ l, (Lit.int .i64 x).wf = true) (i most : Int) (h0 : 0 ≤ i) (m0 : 1 ≤ most) : ∃ r, dioramaref01_At.f l i most = some r ∧ 0 ≤ r ∧ r < most := by
  unfold dioramaref01_At.f
  rw [if_neg (by omega)]
  by_cases c : i ≥ l.length
  · exact ⟨0, by rw [if_pos c], by omega, by omega⟩
  · rw [if_neg c, if_pos h0, if_pos (by omega), around (rd_wf h i h0 (by omega)) m0]
    have := ar_bd (rd l i) most m0
    exact ⟨_, rfl, this.1, this.2⟩

theorem size_f {a : Int} (h : I64 a) : ratio_size.f a = some (a.natAbs : Int) := by
  unfold I64 at h
  unfold ratio_size.f
  by_cases c : a < 0
  · rw [if_pos c, IntKind.wrap_u64, IntKind.wrap_u64]
    congr 1
    omega
  · rw [if_neg c, IntKind.wrap_u64]
    congr 1
    omega
theorem Size_f {a : Int} (h : I64 a) : dioramaref04_Size.f a = some (a.natAbs : Int) := by
  unfold I64 at h
  unfold dioramaref04_Size.f
  by_cases c : a < 0
  · rw [if_pos c, w64 (x := a + 1) (by omega) (by omega), w64 (by omega) (by omega), IntKind.wrap_u64, IntKind.wrap_u64]
    congr 1
    omega
  · rw [if_neg c, IntKind.wrap_u64]
    congr 1
    omega
theorem G_abs (p q : Int) : G (p.natAbs : Int) (q.natAbs : Int) = (Int.gcd p q : Int) := rfl
theorem gcd_f {p q : Int} (h : I64 p) (k : I64 q) : ratio_gcd.f (p.natAbs : Int) (q.natAbs : Int) = some (Int.gcd p q : Int) := by
  unfold I64 at *
  unfold ratio_gcd.f
  rw [if_pos (by omega), G_abs]
theorem common_ev (n : Nat) : ∀ a b : Int, 0 ≤ a → 0 ≤ b → b.toNat ≤ n → Ev (fun k => dioramaref04_Common.l0 k a b) (G a b) := by
  induction n with
  | zero =>
    intro a b a0 b0 h
    obtain rfl : b = 0 := by omega
    refine Ev.step (f := fun _ => some (G a 0)) (fun k => ?_) (Ev.now _)
    simp only [dioramaref04_Common.l0, if_true]
    rw [G_zero a0]
  | succ n ih =>
    intro a b a0 b0 h
    by_cases hb : b = 0
    · subst hb
      refine Ev.step (f := fun _ => some (G a 0)) (fun k => ?_) (Ev.now _)
      simp only [dioramaref04_Common.l0, if_true]
      rw [G_zero a0]
    · have e0 := Int.emod_nonneg a hb
      have e1 := Int.emod_lt_of_pos a (show 0 < b by omega)
      have e := ih b (a % b) b0 e0 (by omega)
      rw [G_step a0 (by omega)] at e
      refine Ev.step (fun k => ?_) e
      simp only [dioramaref04_Common.l0]
      rw [if_neg hb, tmod_nn a0]
theorem common (p q : Int) : Ev (fun k => dioramaref04_Common.f k (p.natAbs : Int) (q.natAbs : Int)) (Int.gcd p q : Int) := by
  rw [← G_abs]
  exact common_ev _ _ _ (by omega) (by omega) (Nat.le_refl _)
theorem pos_iff {g x : Int} (g0 : 0 < g) : (g * x < 0 ↔ x < 0) ∧ (g * x > 0 ↔ x > 0) := by
  rcases Int.lt_trichotomy x 0 with c | c | c
  · have := Int.mul_neg_of_pos_of_neg g0 c
    omega
  · subst c
    simp
  · have := Int.mul_pos g0 c
    omega
theorem quo {g p1 : Int} (g0 : 0 < g) (h : I64 (g * p1)) : IntKind.u64.wrap (Int.tdiv ((g * p1).natAbs : Int) g) = (p1.natAbs : Int) := by
  unfold I64 at h
  rw [IntWalk.u64_quo _ _ (by omega), Int.natAbs_mul]
  have e : ((g.natAbs * p1.natAbs : Nat) : Int) = g * (p1.natAbs : Int) := by
    rw [Int.natCast_mul]
    congr 1
    omega
  rw [e]
  exact Int.mul_ediv_cancel_left _ (by omega)
theorem cond_iff (p1 q1 : Int) : ((if q1 < 0 then -p1 else p1) > 2147483648 ∨ (if q1 < 0 then -p1 else p1) < -2147483648 ∨ (if q1 < 0 then -q1 else q1) > 2147483648) ↔ ((p1.natAbs : Int) > 2147483648 ∨ (q1.natAbs : Int) > 2147483648) := by
  split <;> omega
theorem wabs {x : Int} (h : (x.natAbs : Int) ≤ 2147483648) : wrap64 (x.natAbs : Int) = (x.natAbs : Int) ∧ wrap64 (-(x.natAbs : Int)) = -(x.natAbs : Int) := ⟨w64 (by omega) (by omega), w64 (by omega) (by omega)⟩
theorem abs_lt {x : Int} (h : x < 0) : (x.natAbs : Int) = -x := by omega
theorem abs_ge {x : Int} (h : ¬ x < 0) : (x.natAbs : Int) = x := by omega
theorem neg_of {q : Int} (h : ¬ q = 0) (k : ¬ q > 0) : q < 0 := by omega
theorem zero_of {q : Int} (h : ¬ q < 0) (k : ¬ q > 0) : q = 0 := by omega
theorem big_no {a b : Int} (h : ¬ (a > 2147483648 ∨ b > 2147483648)) : a ≤ 2147483648 ∧ b ≤ 2147483648 := by omega
theorem res_lt {p1 q1 : Int} (h : q1 < 0) : ((if q1 < 0 then -p1 else p1), (if q1 < 0 then -q1 else q1), (0 : Int)) = (-p1, -q1, 0) := by rw [if_pos h, if_pos h]
theorem res_ge {p1 q1 : Int} (h : ¬ q1 < 0) : ((if q1 < 0 then -p1 else p1), (if q1 < 0 then -q1 else q1), (0 : Int)) = (p1, q1, 0) := by rw [if_neg h, if_neg h]
/-- Make of the program -/
theorem pmake {p q : Int} (h : I64 p) (k : I64 q) : Ev (fun n => ratio_Make.f n p q) (mk p q) := by
  unfold ratio_Make.f
  by_cases q0 : q = 0
  · subst q0
    exact ev_pos rfl (Ev.now _)
  · refine ev_neg q0 ?_
    rw [size_f h, size_f k]
    refine ev_some (ev_some ?_)
    rw [gcd_f h k]
    refine ev_some ?_
    have gp := gcd_pos (p := p) q0
    refine ev_neg (Int.ne_of_gt gp) ?_
    obtain ⟨g, p1, q1, g0, hg, hp, hq, one⟩ := parts p q q0
    obtain ⟨a, b⟩ := nude g0 hg hp hq
    rw [hg]
    unfold mk
    rw [if_neg q0, a, b]
    simp only [cond_iff]
    have ap : IntKind.u64.wrap (Int.tdiv (p.natAbs : Int) g) = (p1.natAbs : Int) := by rw [hp]; exact quo g0 (by rw [← hp]; exact h)
    have aq : IntKind.u64.wrap (Int.tdiv (q.natAbs : Int) g) = (q1.natAbs : Int) := by rw [hq]; exact quo g0 (by rw [← hq]; exact k)
    have sp : p < 0 ↔ p1 < 0 := by rw [hp]; exact (pos_iff g0).1
    have sq : q < 0 ↔ q1 < 0 := by rw [hq]; exact (pos_iff g0).1
    rw [ap, aq]
    have j0 (f : Bool) (hf : f = decide ((p1.natAbs : Int) > 2147483648 ∨ (q1.natAbs : Int) > 2147483648)) : Ev (fun n => ratio_Make.j0 n p q (p1.natAbs : Int) (q1.natAbs : Int) f) (if (p1.natAbs : Int) > 2147483648 ∨ (q1.natAbs : Int) > 2147483648 then (0, 0, 5) else ((if q1 < 0 then -p1 else p1), (if q1 < 0 then -q1 else q1), 0)) := by
      refine Ev.open ⟨_, fun n => by simp only [ratio_Make.j0]; rfl, ?_⟩
      subst hf
      by_cases big : (p1.natAbs : Int) > 2147483648 ∨ (q1.natAbs : Int) > 2147483648
      · rw [if_pos big]
        exact ev_pos (decide_eq_true big) (Ev.now _)
      · rw [if_neg big]
        refine ev_neg (by rw [decide_eq_false big]; decide) ?_
        obtain ⟨l1, l2⟩ := big_no big
        rw [(wabs l1).1, (wabs l2).1, (wabs l1).2]
        by_cases s1 : p < 0
        · by_cases s2 : q < 0
          · refine ev_neg (by rw [decide_eq_true s1, decide_eq_true s2]; decide) ?_
            rw [res_lt (sq.1 s2), abs_lt (sp.1 s1), abs_lt (sq.1 s2)]
            exact Ev.now _
          · refine ev_pos (by rw [decide_eq_true s1, decide_eq_false s2]; decide) ?_
            rw [res_ge (fun z => s2 (sq.2 z)), abs_lt (sp.1 s1), Int.neg_neg, abs_ge (fun z => s2 (sq.2 z))]
            exact Ev.now _
        · by_cases s2 : q < 0
          · refine ev_pos (by rw [decide_eq_false s1, decide_eq_true s2]; decide) ?_
            rw [res_lt (sq.1 s2), abs_ge (fun z => s1 (sp.2 z)), abs_lt (sq.1 s2)]
            exact Ev.now _
          · refine ev_neg (by rw [decide_eq_false s1, decide_eq_false s2]; decide) ?_
            rw [res_ge (fun z => s2 (sq.2 z)), abs_ge (fun z => s1 (sp.2 z)), abs_ge (fun z => s2 (sq.2 z))]
            exact Ev.now _
    by_cases c : (p1.natAbs : Int) > 2147483648
    · exact ev_pos c (j0 true (decide_eq_true (Or.inl c)).symm)
    · refine ev_neg c (j0 _ ?_)
      congr 1
      simp [c]
/-- Make of the reference -/
theorem rmake {p q : Int} (h : I64 p) (k : I64 q) : Ev (fun n => dioramaref04_Make.f n p q) (mk p q) := by
  unfold dioramaref04_Make.f
  by_cases q0 : q = 0
  · subst q0
    exact ev_pos rfl (Ev.now _)
  · refine ev_neg q0 ?_
    rw [Size_f h, Size_f k]
    refine ev_some (ev_some (Ev.bind (common p q) (ev_some ?_)))
    have gp := gcd_pos (p := p) q0
    refine ev_neg (Int.ne_of_gt gp) (ev_some ?_)
    obtain ⟨g, p1, q1, g0, hg, hp, hq, one⟩ := parts p q q0
    obtain ⟨a, b⟩ := nude g0 hg hp hq
    rw [hg]
    unfold mk
    rw [if_neg q0, a, b]
    simp only [cond_iff]
    have ap : IntKind.u64.wrap (Int.tdiv (p.natAbs : Int) g) = (p1.natAbs : Int) := by rw [hp]; exact quo g0 (by rw [← hp]; exact h)
    have aq : IntKind.u64.wrap (Int.tdiv (q.natAbs : Int) g) = (q1.natAbs : Int) := by rw [hq]; exact quo g0 (by rw [← hq]; exact k)
    have sp : p < 0 ↔ p1 < 0 := by rw [hp]; exact (pos_iff g0).1
    have sq : q < 0 ↔ q1 < 0 := by rw [hq]; exact (pos_iff g0).1
    have sp2 : p > 0 ↔ p1 > 0 := by rw [hp]; exact (pos_iff g0).2
    have sq2 : q > 0 ↔ q1 > 0 := by rw [hq]; exact (pos_iff g0).2
    rw [ap, aq]
    have j0 (f : Bool) (hf : f = decide ((p1.natAbs : Int) > 2147483648 ∨ (q1.natAbs : Int) > 2147483648)) : Ev (fun n => dioramaref04_Make.j0 n p q (p1.natAbs : Int) (q1.natAbs : Int) f) (if (p1.natAbs : Int) > 2147483648 ∨ (q1.natAbs : Int) > 2147483648 then (0, 0, 5) else ((if q1 < 0 then -p1 else p1), (if q1 < 0 then -q1 else q1), 0)) := by
      refine Ev.open ⟨_, fun n => by simp only [dioramaref04_Make.j0]; rfl, ?_⟩
      subst hf
      by_cases big : (p1.natAbs : Int) > 2147483648 ∨ (q1.natAbs : Int) > 2147483648
      · rw [if_pos big]
        exact ev_pos (decide_eq_true big) (Ev.now _)
      · rw [if_neg big]
        refine ev_neg (by rw [decide_eq_false big]; decide) ?_
        obtain ⟨l1, l2⟩ := big_no big
        rw [(wabs l1).1, (wabs l2).1, (wabs l1).2]
        by_cases s1 : p < 0
        · refine ev_pos s1 ?_
          have t1 := abs_lt (sp.1 s1)
          by_cases s2 : q > 0
          · refine ev_pos s2 ?_
            have t2 : ¬ q1 < 0 := Int.not_lt.2 (Int.le_of_lt (sq2.1 s2))
            rw [res_ge t2, t1, Int.neg_neg, abs_ge t2]
            exact Ev.now _
          · have t2 : q1 < 0 := sq.1 (neg_of q0 s2)
            refine ev_neg s2 (ev_neg (Int.not_lt.2 (Int.le_of_lt s1)) ?_)
            rw [res_lt t2, t1, abs_lt t2]
            exact Ev.now _
        · refine ev_neg s1 ?_
          have t1 := abs_ge (fun z => s1 (sp.2 z))
          by_cases s3 : p > 0
          · refine ev_pos s3 ?_
            by_cases s2 : q < 0
            · refine ev_pos s2 ?_
              rw [res_lt (sq.1 s2), t1, abs_lt (sq.1 s2)]
              exact Ev.now _
            · refine ev_neg s2 ?_
              have t2 : ¬ q1 < 0 := fun z => s2 (sq.2 z)
              rw [res_ge t2, t1, abs_ge t2]
              exact Ev.now _
          · refine ev_neg s3 ?_
            have z : p1 = 0 := zero_of (fun z => s1 (sp.2 z)) (fun z => s3 (sp2.2 z))
            subst z
            by_cases s2 : q1 < 0
            · rw [res_lt s2, abs_lt s2]
              exact Ev.now _
            · rw [res_ge s2, abs_ge s2]
              exact Ev.now _
    by_cases c : (p1.natAbs : Int) > 2147483648
    · exact ev_pos c (j0 true (decide_eq_true (Or.inl c)).symm)
    · refine ev_neg c (j0 _ ?_)
      congr 1
      simp [c]
/-- Valid -/
theorem pvalid {p q : Int} (h : I64 p) (k : I64 q) : ratio_Valid.f p q = some (decide (vl p q)) := by
  unfold ratio_Valid.f
  by_cases z : p = 0 ∧ q = 0
  · rw [if_pos (by simp [z]), decide_eq_true (.inl z)]
  · rw [if_neg (by simp; omega)]
    by_cases c1 : q ≥ 1
    rotate_left
    · rw [if_neg c1, decide_eq_false]
      rintro (u | u) <;> omega
    by_cases c2 : q ≤ 2147483648
    rotate_left
    · rw [if_pos c1, if_neg c2, decide_eq_false]
      rintro (u | u) <;> omega
    by_cases c3 : p ≥ -2147483648
    rotate_left
    · rw [if_pos c1, if_pos c2, if_neg c3, decide_eq_false]
      rintro (u | u) <;> omega
    by_cases c4 : p ≤ 2147483648
    rotate_left
    · rw [if_pos c1, if_pos c2, if_pos c3, if_neg c4, decide_eq_false]
      rintro (u | u) <;> omega
    rw [if_pos c1, if_pos c2, if_pos c3, if_pos c4, size_f h, size_f k]
    simp only [Option.bind_some]
    rw [gcd_f h k]
    simp only [Option.bind_some]
    congr 1
    rw [Bool.eq_iff_iff, beq_iff_eq, decide_eq_true_iff]
    constructor
    · intro e
      exact .inr ⟨c1, c2, c3, c4, by omega⟩
    · rintro (u | u) <;> omega
theorem small_of {p q : Int} {a b : Nat} (p0 : -2147483648 ≤ p) (h1 : p ≤ 2147483648) (q0 : 1 ≤ q) (k1 : q ≤ 2147483648) (l1 : a ≤ p.natAbs) (l2 : b ≤ q.natAbs) : ¬ ((a : Int) > 2147483648 ∨ (b : Int) > 2147483648) := by omega
theorem three_ok {n m : Int} (h : I64 n) (k : I64 m) : ∃ p q, vl p q ∧ Ev (fun z => dioramaref04_Some.f z n m) (p, q) := by
  have a0 := ar_bd n 200 (by omega)
  have b0 := ar_bd m 24 (by omega)
  have h2 : I64 (Int.tdiv n 200) := tdiv_bd h (by omega)
  have k2 : I64 (Int.tdiv m 24) := tdiv_bd k (by omega)
  have c0 := ar_bd (Int.tdiv m 24) 5 (by omega)
  have d0 := ar_bd m 2 (by omega)
  have small {p q : Int} (p0 : -2147483648 ≤ p) (h1 : p ≤ 2147483648) (q0 : 1 ≤ q) (k1 : q ≤ 2147483648) : ∃ x y, vl x y ∧ Ev (fun z => dioramaref04_Some.j0 z m p q) (x, y) := by
    have e := rmake (p := p) (q := q) ⟨by omega, by omega⟩ ⟨by omega, by omega⟩
    obtain ⟨u, v, w⟩ := nf p q (by omega)
    have ok : ∃ x y, mk p q = (x, y, 0) := by
      obtain ⟨g, p1, q1, g0, hg, hp, hq, one⟩ := parts p q (by omega)
      obtain ⟨a, b⟩ := nude g0 hg hp hq
      have l1 : p1.natAbs ≤ p.natAbs := by rw [hp, Int.natAbs_mul]; exact Nat.le_mul_of_pos_left _ (by omega)
      have l2 : q1.natAbs ≤ q.natAbs := by rw [hq, Int.natAbs_mul]; exact Nat.le_mul_of_pos_left _ (by omega)
      have nb : ¬ ((p1.natAbs : Int) > 2147483648 ∨ (q1.natAbs : Int) > 2147483648) := small_of p0 h1 q0 k1 l1 l2
      refine ⟨(if q1 < 0 then -p1 else p1), (if q1 < 0 then -q1 else q1), ?_⟩
      unfold mk
      rw [if_neg (by omega), a, b]
      simp only [cond_iff]
      rw [if_neg nb]
    obtain ⟨x, y, exy⟩ := ok
    rw [exy] at e
    obtain ⟨v1, y1, _, _⟩ := mk_ok exy
    by_cases c : x = 0
    · by_cases d : ar m 2 = 0
      · refine ⟨0, 0, .inl ⟨rfl, rfl⟩, Ev.open ⟨_, fun z => by simp only [dioramaref04_Some.j0]; rfl, ?_⟩⟩
        refine Ev.bind e (ev_pos c ?_)
        rw [around k (by omega)]
        exact ev_some (ev_pos d (Ev.now _))
      · refine ⟨x, y, v1, Ev.open ⟨_, fun z => by simp only [dioramaref04_Some.j0]; rfl, ?_⟩⟩
        refine Ev.bind e (ev_pos c ?_)
        rw [around k (by omega)]
        exact ev_some (ev_neg d (Ev.now _))
    · refine ⟨x, y, v1, Ev.open ⟨_, fun z => by simp only [dioramaref04_Some.j0]; rfl, ?_⟩⟩
      exact Ev.bind e (ev_neg c (Ev.now _))
  unfold I64 at h2 k2
  unfold dioramaref04_Some.f
  rw [around h (by omega), around k (by omega), w64 h2.1 h2.2, w64 k2.1 k2.2, around h2 (by omega), around k2 (by omega)]
  simp only [Option.bind_some]
  by_cases c1 : ar (Int.tdiv n 200) 8 = 0
  · rw [w64 (x := 2147483648 - ar (Int.tdiv m 24) 5) (by omega) (by omega), w64 (x := 1 + ar m 24) (by omega) (by omega)]
    obtain ⟨x, y, v, e⟩ := small (p := 2147483648 - ar (Int.tdiv m 24) 5) (q := 1 + ar m 24) (by omega) (by omega) (by omega) (by omega)
    exact ⟨x, y, v, ev_pos c1 e⟩
  · by_cases c2 : ar (Int.tdiv n 200) 8 = 1
    · rw [w64 (x := ar n 200 - 100) (by omega) (by omega), w64 (x := 2147483648 - ar (Int.tdiv m 24) 5) (by omega) (by omega)]
      obtain ⟨x, y, v, e⟩ := small (p := ar n 200 - 100) (q := 2147483648 - ar (Int.tdiv m 24) 5) (by omega) (by omega) (by omega) (by omega)
      exact ⟨x, y, v, ev_neg c1 (ev_pos c2 e)⟩
    · by_cases c3 : ar (Int.tdiv n 200) 8 = 2
      · rw [w64 (x := ar n 200 - 100) (by omega) (by omega), w64 (x := 1 + ar m 24) (by omega) (by omega), w64 (x := 1000003 * (ar n 200 - 100)) (by omega) (by omega), w64 (x := 1000003 * (ar n 200 - 100) + 7) (by omega) (by omega), w64 (x := 65537 * (1 + ar m 24)) (by omega) (by omega)]
        obtain ⟨x, y, v, e⟩ := small (p := 1000003 * (ar n 200 - 100) + 7) (q := 65537 * (1 + ar m 24)) (by omega) (by omega) (by omega) (by omega)
        exact ⟨x, y, v, ev_neg c1 (ev_neg c2 (ev_pos c3 e))⟩
      · rw [w64 (x := ar n 200 - 100) (by omega) (by omega), w64 (x := 1 + ar m 24) (by omega) (by omega)]
        obtain ⟨x, y, v, e⟩ := small (p := ar n 200 - 100) (q := 1 + ar m 24) (by omega) (by omega) (by omega) (by omega)
        exact ⟨x, y, v, ev_neg c1 (ev_neg c2 (ev_neg c3 e))⟩
end Go.Proofs.YtdphgnakigcaeaaDoor.Rat
