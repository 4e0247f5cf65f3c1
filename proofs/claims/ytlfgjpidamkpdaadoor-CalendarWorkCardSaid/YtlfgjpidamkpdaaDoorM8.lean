/- The zones that the laws draw are valid. -/
import Derived.Test.YtlfgjpidamkpdaaDoorM7
import Derived.Test.YtlfgjpidamkpdaaDoorPc10
import Derived.Test.YtlfgjpidamkpdaaDoorPc11
namespace Go.Proofs.YtlfgjpidamkpdaaDoor.Cal
open Go.RowKit Go.Proofs.YtlfgjpidamkpdaaDoor.Pc Go.Proofs.YtlfgjpidamkpdaaDoorW.PrintWords Go.Proofs.YtlfgjpidamkpdaaDoorW.PrintLast
set_option linter.unusedVariables false
set_option linter.unusedSimpArgs false

theorem rd_wf {l : List Int} (h : ∀ x ∈ l, (Lit.int .i64 x).wf = true) (i : Int) (h0 : 0 ≤ i) (h1 : i < l.length) : (Lit.int .i64 (rd l i)).wf = true := by
  have e := rd_drop l i h0 h1
  refine h _ (List.mem_of_mem_drop (i := i.toNat) ?_)
  rw [e]
  exact List.mem_cons_self
theorem at_f {l : List Int} (h : ∀ x ∈ l, (Lit.int .i64 x).wf = true) (i most : Int) (h0 : 0 ≤ i) (m0 : 1 ≤ most) : ∃ r, dioramaref01_At.f l i most = some r ∧ 0 ≤ r ∧ r < most := by
  unfold dioramaref01_At.f
  rw [if_neg (by omega)]
  by_cases c : i ≥ l.length
  · exact ⟨0, by rw [if_pos c], by omega, by omega⟩
  · rw [if_neg c, if_pos h0, if_pos (by omega), around (rd_wf h i h0 (by omega)) m0]
    have := ar_bd (rd l i) most m0
    exact ⟨_, rfl, this.1, this.2⟩
theorem zones_f {l : List Int} (h : ∀ x ∈ l, (Lit.int .i64 x).wf = true) : ∃ o s f t, dioramaref08_Zones.f l = some (o, s, f, t) ∧ Valid o s f t ∧ (s = 0 ∨ s = 60 ∨ s = 30 ∨ s = 120) := by
  obtain ⟨a, ea, a0, a1⟩ := at_f h 0 1801 (by omega) (by omega)
  obtain ⟨b, eb, b0, b1⟩ := at_f h 1 5 (by omega) (by omega)
  obtain ⟨c, ec, c0, c1⟩ := at_f h 2 367 (by omega) (by omega)
  obtain ⟨d, ed, d0, d1⟩ := at_f h 3 (368 - (1 + c)) (by omega) (by omega)
  have hs : rd [0, 60, 60, 30, 120] b = 0 ∨ rd [0, 60, 60, 30, 120] b = 60 ∨ rd [0, 60, 60, 30, 120] b = 30 ∨ rd [0, 60, 60, 30, 120] b = 120 := by
    have hb : b = 0 ∨ b = 1 ∨ b = 2 ∨ b = 3 ∨ b = 4 := by omega
    rcases hb with rfl | rfl | rfl | rfl | rfl <;> decide
  refine ⟨a - 900, rd [0, 60, 60, 30, 120] b, 1 + c, 1 + c + d, ?_, ?_, hs⟩
  · unfold dioramaref08_Zones.f
    rw [ea]
    simp only [Option.bind_some]
    rw [eb]
    simp only [Option.bind_some]
    rw [if_pos b0, if_pos (by simp; omega), ec]
    simp only [Option.bind_some]
    rw [w64 (x := 1 + c) (by omega) (by omega), w64 (x := 368 - (1 + c)) (by omega) (by omega), ed]
    simp only [Option.bind_some]
    rw [w64 (by omega) (by omega), w64 (by omega) (by omega)]
  · unfold Valid
    omega
end Go.Proofs.YtlfgjpidamkpdaaDoor.Cal
