/- The law RatioMakes over plain numbers: Make and Valid of the program and of the reference are the same. -/
import Derived.Test.YtdphgnakigcaeaaDoorR4
import Derived.Test.YtdphgnakigcaeaaDoorWkWalkMakes
namespace Go.Proofs.YtdphgnakigcaeaaDoor.Rat
open Go.RowKit Go.Proofs.YtdphgnakigcaeaaDoor.Pc Go.Proofs.YtdphgnakigcaeaaDoorW.PrintWords Go.Proofs.YtdphgnakigcaeaaDoorW.PrintLast
set_option linter.unusedVariables false
set_option linter.unusedSimpArgs false

theorem rv_j1 {p q : Int} {f : Bool} {r : Bool} (h : (f = true ∧ r = false) ∨ (f = false ∧ I64 p ∧ I64 q ∧ r = decide (Int.gcd p q = 1))) : Ev (fun n => dioramaref04_Valid.j1 n f p q) r := by
  refine Ev.open ⟨_, fun n => by simp only [dioramaref04_Valid.j1]; rfl, ?_⟩
  rcases h with ⟨rfl, rfl⟩ | ⟨rfl, ip, iq, rfl⟩
  · exact ev_pos rfl (Ev.now _)
  · refine ev_neg (by decide) ?_
    rw [Size_f ip, Size_f iq]
    refine ev_some (ev_some (Ev.bind (common p q) ?_))
    have e : ((Int.gcd p q : Int) == 1) = decide (Int.gcd p q = 1) := by
      rw [Bool.eq_iff_iff, beq_iff_eq, decide_eq_true_iff]
      omega
    rw [e]
    exact Ev.now _
theorem rvalid {p q : Int} (h : I64 p) (k : I64 q) : Ev (fun n => dioramaref04_Valid.f n p q) (decide (vl p q)) := by
  have j0 (hz : ¬ (p = 0 ∧ q = 0)) : Ev (fun n => dioramaref04_Valid.j0 n false p q) (decide (vl p q)) := by
    refine Ev.open ⟨_, fun n => by simp only [dioramaref04_Valid.j0]; rfl, ?_⟩
    refine ev_neg (by decide) ?_
    by_cases c1 : q < 1
    · refine ev_pos c1 (rv_j1 (.inl ⟨rfl, decide_eq_false ?_⟩))
      rintro (u | u) <;> omega
    refine ev_neg c1 ?_
    by_cases c2 : q > 2147483648
    · refine ev_pos c2 (rv_j1 (.inl ⟨rfl, decide_eq_false ?_⟩))
      rintro (u | u) <;> omega
    refine ev_neg c2 ?_
    by_cases c3 : p < -2147483648
    · refine ev_pos c3 (rv_j1 (.inl ⟨rfl, decide_eq_false ?_⟩))
      rintro (u | u) <;> omega
    refine ev_neg c3 ?_
    by_cases c4 : p > 2147483648
    · refine rv_j1 (.inl ⟨decide_eq_true c4, decide_eq_false ?_⟩)
      rintro (u | u) <;> omega
    · refine rv_j1 (.inr ⟨decide_eq_false c4, h, k, ?_⟩)
      rw [Bool.eq_iff_iff, decide_eq_true_iff, decide_eq_true_iff]
      constructor
      · rintro (u | u)
        · exact absurd u hz
        · exact u.2.2.2.2
      · intro u
        exact .inr ⟨by omega, by omega, by omega, by omega, u⟩
  unfold dioramaref04_Valid.f
  by_cases p0 : p = 0
  · refine ev_pos p0 ?_
    by_cases q0 : q = 0
    · rw [decide_eq_true (.inl ⟨p0, q0⟩)]
      subst q0
      refine Ev.open ⟨_, fun n => by simp only [dioramaref04_Valid.j0]; rfl, ?_⟩
      exact ev_pos (by decide) (Ev.now _)
    · rw [beq_eq_false_iff_ne.2 q0]
      exact j0 (fun z => q0 z.2)
  · exact ev_neg p0 (j0 (fun z => p0 z.1))
theorem rm_end {a b p q : Int} {xs ys : List Int} (ha : I64 a) (hb : I64 b) (hp : I64 p) (hq : I64 q) {i : Int} (hi : ¬ i < xs.length) : Ev (fun n => dioramalaw04_RatioMakes.l0 n a b xs ys i p q) true := by
  refine Ev.open ⟨_, fun n => by simp only [dioramalaw04_RatioMakes.l0]; rfl, ?_⟩
  refine ev_neg hi ?_
  rw [pvalid hp hq, pvalid ha hb]
  exact ev_some (Ev.bind (rvalid hp hq) (ev_pos (by simp) (ev_some (Ev.bind (rvalid ha hb) (ev_pos (by simp) lives')))))
theorem rm_l1 {a b p q : Int} {xs ys : List Int} (hx : ∀ x ∈ xs, I64 x) (hy : ∀ x ∈ ys, I64 x) (lx : xs.length ≤ 1000) (ly : ys.length ≤ 1000) {i : Int} (i0 : 0 ≤ i) (i1 : i < xs.length)
    (next : Ev (fun n => dioramalaw04_RatioMakes.l0 n a b xs ys (i + 1) p q) true) (m : Nat) : ∀ j : Int, 0 ≤ j → j + m = ys.length → Ev (fun n => dioramalaw04_RatioMakes.l1 n a b xs ys i j p q) true := by
  have at' {l : List Int} (h : ∀ x ∈ l, I64 x) (i : Int) (h0 : 0 ≤ i) (h1 : i < l.length) : I64 (rd l i) := by
    have e : rd l i ∈ l := by
      unfold rd
      rw [List.getD_eq_getElem?_getD, List.getElem?_eq_getElem (by omega)]
      exact List.getElem_mem _
    exact h _ e
  induction m with
  | zero =>
    intro j j0 hj
    refine Ev.open ⟨_, fun n => by simp only [dioramalaw04_RatioMakes.l1]; rfl, ?_⟩
    refine ev_neg (by omega) ?_
    rw [w64 (by omega) (by omega)]
    exact next
  | succ m ih =>
    intro j j0 hj
    refine Ev.open ⟨_, fun n => by simp only [dioramalaw04_RatioMakes.l1]; rfl, ?_⟩
    have ix := at' hx i i0 i1
    have iy := at' hy j j0 (by omega)
    refine ev_pos (by omega) (ev_pos i0 (ev_pos i1 (ev_pos j0 (Ev.bind (pmake ix iy) (Ev.bind (rmake ix iy) (ev_neg (by simp) (ev_pos rfl ?_)))))))
    rw [w64 (by omega) (by omega)]
    exact ih (j + 1) (by omega) (by omega)
theorem rm_l0 {a b p q : Int} {xs ys : List Int} (ha : I64 a) (hb : I64 b) (hp : I64 p) (hq : I64 q) (hx : ∀ x ∈ xs, I64 x) (hy : ∀ x ∈ ys, I64 x) (lx : xs.length ≤ 1000) (ly : ys.length ≤ 1000) (m : Nat) : ∀ i : Int, 0 ≤ i → i + m = xs.length → Ev (fun n => dioramalaw04_RatioMakes.l0 n a b xs ys i p q) true := by
  induction m with
  | zero =>
    intro i i0 hi
    exact rm_end ha hb hp hq (by omega)
  | succ m ih =>
    intro i i0 hi
    refine Ev.open ⟨_, fun n => by simp only [dioramalaw04_RatioMakes.l0]; rfl, ?_⟩
    exact ev_pos (by omega) (rm_l1 hx hy lx ly i0 (by omega) (ih (i + 1) (by omega) (by omega)) ys.length 0 (by omega) (by omega))
theorem tmod_i64 (n : Int) : I64 (Int.tmod n 1000) := by
  have a := Int.tmod_lt_of_pos n (show (0 : Int) < 1000 by omega)
  have b := Int.lt_tmod_of_pos n (show (0 : Int) < 1000 by omega)
  exact i64_of (by omega) (by omega)
theorem RatioMakes : dioramalaw04_RatioMakes.Pure := by
  intro a b p q ha hb hp hq
  have ia : I64 a := bd64 ha
  have ib : I64 b := bd64 hb
  have e := rm_l0 (a := a) (b := b) (p := p) (q := q) (xs := [a, b, Int.tmod a 1000, 0, 2147483648]) (ys := [b, a, Int.tmod b 1000, 1]) ia ib (bd64 hp) (bd64 hq) (by
    intro x hx
    simp only [List.mem_cons, List.not_mem_nil, or_false] at hx
    rcases hx with rfl | rfl | rfl | rfl | rfl
    · exact ia
    · exact ib
    · exact tmod_i64 _
    · exact i64_of (by omega) (by omega)
    · exact i64_of (by omega) (by omega)) (by
    intro x hx
    simp only [List.mem_cons, List.not_mem_nil, or_false] at hx
    rcases hx with rfl | rfl | rfl | rfl
    · exact ib
    · exact ia
    · exact tmod_i64 _
    · exact i64_of (by omega) (by omega)) (by simp) (by simp) 5 0 (by omega) (by simp)
  exact e.rounds
end Go.Proofs.YtdphgnakigcaeaaDoor.Rat
