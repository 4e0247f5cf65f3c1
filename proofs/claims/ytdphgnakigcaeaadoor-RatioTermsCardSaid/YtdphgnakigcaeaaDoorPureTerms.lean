/- The law RatioTerms over plain numbers: a factor in both numbers does not change the fraction. -/
import Derived.Test.YtdphgnakigcaeaaDoorR4
import Derived.Test.YtdphgnakigcaeaaDoorPc16
namespace Go.Proofs.YtdphgnakigcaeaaDoor.Rat
open Go.RowKit Go.Proofs.YtdphgnakigcaeaaDoor.Pc Go.Proofs.YtdphgnakigcaeaaDoorW.PrintWords Go.Proofs.YtdphgnakigcaeaaDoorW.PrintLast
set_option linter.unusedVariables false
set_option linter.unusedSimpArgs false

theorem scaled {p q c : Int} (h : c ≠ 0) : mk (p * c) (q * c) = mk p q := by
  by_cases z : q = 0
  · subst z
    rw [Int.zero_mul]
    unfold mk
    rw [if_pos rfl, if_pos rfl]
  · exact mk_eq (mul_ne z h) z (by grind)
theorem mk_zero (p : Int) : mk p 0 = (0, 0, 1) := if_pos rfl
theorem terms_bd {a c : Int} (h0 : -1073741824 ≤ a) (h1 : a ≤ 1073741824) (c0 : -2147483648 ≤ c) (c1 : c ≤ 2147483648) : I64 (a * c) := by
  have e := prod_bd (a := a) (M := 2147483648) (y := (c.natAbs : Int)) (by omega) (by omega) (by omega) (by omega)
  rcases Int.le_total 0 c with z | z
  · rw [show (c.natAbs : Int) = c by omega] at e
    exact i64_of (by omega) (by omega)
  · rw [show (c.natAbs : Int) = -c by omega, Int.mul_neg] at e
    exact i64_of (by omega) (by omega)
theorem RatioTerms : dioramalaw04_RatioTerms.Pure := by
  intro p q k hp hq hk
  have b1 := ar_bd p 2147483648 (by omega)
  have b2 := ar_bd q 2147483648 (by omega)
  have b3 := ar_bd k 2147483648 (by omega)
  have ip : I64 p := bd64 hp
  have iq : I64 q := bd64 hq
  have ik : I64 k := bd64 hk
  have h : Ev (fun n => dioramalaw04_RatioTerms.f n p q k) true := by
    unfold dioramalaw04_RatioTerms.f
    rw [around ip (by omega), around iq (by omega), around ik (by omega)]
    simp only [Option.bind_some]
    generalize ar p 2147483648 = x at *
    generalize ar q 2147483648 = y at *
    generalize ar k 2147483648 = z at *
    rw [w64 (x := x - 1073741824) (by omega) (by omega), w64 (x := y - 1073741824) (by omega) (by omega), w64 (x := 1 + z) (by omega) (by omega), w64 (x := -(1 + z)) (by omega) (by omega)]
    have X0 : -1073741824 ≤ x - 1073741824 ∧ x - 1073741824 ≤ 1073741824 := by omega
    have Y0 : -1073741824 ≤ y - 1073741824 ∧ y - 1073741824 ≤ 1073741824 := by omega
    generalize x - 1073741824 = a at *
    generalize y - 1073741824 = b at *
    have ia : I64 a := i64_of (by omega) (by omega)
    have ib : I64 b := i64_of (by omega) (by omega)
    have e1 := pmake ia ib
    have both (c : Int) (c0 : c ≠ 0) (c1 : -2147483648 ≤ c) (c2 : c ≤ 2147483648) : Ev (fun n => (ratio_Make.f n (wrap64 (a * c)) (wrap64 (b * c)))) (mk a b) := by
      have i1 := terms_bd X0.1 X0.2 c1 c2
      have i2 := terms_bd Y0.1 Y0.2 c1 c2
      rw [w64 i1.1 i1.2, w64 i2.1 i2.2]
      have := pmake i1 i2
      rwa [scaled c0] at this
    by_cases neg : k < 0
    · refine ev_pos neg (Ev.bind e1 (Ev.bind (both (-(1 + z)) (by omega) (by omega) (by omega)) (ev_pos (by simp) (ev_pos rfl ?_))))
      by_cases bz : b = 0
      · subst bz
        refine ev_pos rfl ?_
        rw [mk_zero]
        exact ev_pos rfl lives'
      · exact ev_neg bz lives'
    · refine ev_neg neg (Ev.bind e1 (Ev.bind (both (1 + z) (by omega) (by omega) (by omega)) (ev_pos (by simp) (ev_pos rfl ?_))))
      by_cases bz : b = 0
      · subst bz
        refine ev_pos rfl ?_
        rw [mk_zero]
        exact ev_pos rfl lives'
      · exact ev_neg bz lives'
  exact h.rounds
end Go.Proofs.YtdphgnakigcaeaaDoor.Rat
