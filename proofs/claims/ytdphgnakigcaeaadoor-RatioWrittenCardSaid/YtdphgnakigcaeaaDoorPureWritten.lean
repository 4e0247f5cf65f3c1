/- The law RatioWritten over plain numbers: Parse leads back from Text, and texts are the same exactly if the fractions are. -/
import Derived.Test.YtdphgnakigcaeaaDoorR5
import Derived.Test.YtdphgnakigcaeaaDoorPc17
namespace Go.Proofs.YtdphgnakigcaeaaDoor.Rat
open Go.RowKit Go.Proofs.YtdphgnakigcaeaaDoor.Pc Go.Proofs.YtdphgnakigcaeaaDoorW.PrintWords Go.Proofs.YtdphgnakigcaeaaDoorW.PrintLast
set_option linter.unusedVariables false
set_option linter.unusedSimpArgs false

theorem vl_den {a b : Int} (h : vl a b) : vl a (den b) := by
  have g := den_gcd h
  have p := den_pos h
  have q := vl_bd h
  exact .inr ⟨p.1, p.2, q.1, q.2.1, g⟩
theorem cmp_sign_w {a b c d : Int} (h : vl a b) (k : vl c d) : (cmp a b c d = 0) = (a * den d = c * den b) := by
  rw [cmp_is h k, eq_iff_iff]
  generalize a * den d = x
  generalize c * den b = y
  by_cases l : x < y
  · rw [if_pos l]
    omega
  · rw [if_neg l]
    by_cases e : x = y
    · rw [if_pos e]
      omega
    · rw [if_neg e]
      omega
theorem cmp_zero {a b c d : Int} (h : vl a b) (k : vl c d) : cmp a b c d = 0 ↔ (a = c ∧ den b = den d) := by
  rw [(cmp_sign_w h k)]
  have b0 := (den_pos h).1
  have d0 := (den_pos k).1
  constructor
  · intro e
    exact uniq (by omega) (by omega) (den_gcd h) (den_gcd k) e
  · rintro ⟨rfl, e⟩
    rw [e]
theorem text_iff {a b c d : Int} (h : vl a b) (k : vl c d) : txt a b = txt c d ↔ cmp a b c d = 0 := by
  rw [cmp_zero h k]
  have e1 := txt_den a b (vl_bd h).2.2.1
  have e2 := txt_den c d (vl_bd k).2.2.1
  constructor
  · intro e
    have p1 := parse_txt (vl_den h) (den_pos h).1
    have p2 := parse_txt (vl_den k) (den_pos k).1
    rw [← e1, e, e2, p2] at p1
    simp only [Option.some.injEq, Prod.mk.injEq] at p1
    exact ⟨p1.1.symm, p1.2.1.symm⟩
  · rintro ⟨rfl, e⟩
    rw [e1, e2, e]
theorem RatioWritten : dioramalaw04_RatioWritten.Pure := by
  intro l hm1 hm hw
  obtain ⟨a, b, c, d, e, f, h, k, g, ev⟩ := three_ev hw
  obtain ⟨ia, ib⟩ := vl_i64 h
  obtain ⟨ic, id⟩ := vl_i64 k
  have v := vl_den h
  obtain ⟨_, iB⟩ := vl_i64 v
  have t1 := ptext ia ib
  rw [if_pos h] at t1
  have t2 := ptext ic id
  rw [if_pos k] at t2
  have t3 := ptext ia iB
  rw [if_pos v, ← txt_den a b (vl_bd h).2.2.1] at t3
  have pp := parse_txt v (den_pos h).1
  rw [← txt_den a b (vl_bd h).2.2.1] at pp
  have all : Ev (fun n => dioramalaw04_RatioWritten.f n l) true := by
    unfold dioramalaw04_RatioWritten.f
    refine Ev.bind ev ?_
    simp only
    rw [t1]
    refine ev_some ?_
    rw [pp]
    refine ev_some (ev_pos rfl (Ev.bind (pcmp ia iB ia ib) (ev_pos ((cmp_zero v h).2 ⟨rfl, den_one (den_pos h).1⟩) ?_)))
    simp only
    rw [t3]
    refine ev_some (ev_some (ev_pos rfl ?_))
    rw [pvalid ia iB, decide_eq_true v]
    refine ev_some ?_
    refine Ev.open ⟨_, fun n => by simp only [dioramalaw04_RatioWritten.j0]; rfl, ?_⟩
    refine ev_neg (by decide) ?_
    rw [t1, t2]
    refine ev_some (ev_some (Ev.bind (pcmp ia ib ic id) (ev_pos ?_ (ev_some (ev_pos ?_ lives')))))
    · rw [bts_toList, bts_toList, beq_iff_eq, Bool.eq_iff_iff, beq_iff_eq, beq_iff_eq]
      exact text_iff h k
    · rw [bts_size]
      have := List.length_pos_iff.2 (txt_ne c d)
      omega
  exact all.rounds
end Go.Proofs.YtdphgnakigcaeaaDoor.Rat
