/- The law RatioWorks: what is left to show over plain numbers, and the walk that follows. -/
import Derived.Test.YtdphgnakigcaeaaDoorPc22
namespace Go.Proofs.YtdphgnakigcaeaaDoor.Pc
open Go.RowKit Go.Proofs.YtdphgnakigcaeaaDoorW.PrintWords Go.Proofs.YtdphgnakigcaeaaDoorW.PrintLast
def dioramalaw04_RatioWorks.Pure : Prop := ∀ (l0 : List Int) (a b c d : Int), l0.length ≤ maxLen → (∀ x ∈ l0, (Lit.int .i64 x).wf = true) → (Lit.int .i64 a).wf = true → (Lit.int .i64 b).wf = true → (Lit.int .i64 c).wf = true → (Lit.int .i64 d).wf = true → ∃ k, dioramalaw04_RatioWorks.f k l0 a b c d = some true
theorem dioramalaw04_RatioWorks.walk (P : dioramalaw04_RatioWorks.Pure) (a0 : Option Addr) (len0 cap0 : Nat) (z0 : List Int) (a b c d : Int) (w : World) (hv : LaidAt w) (w0 : (a0 = none ∧ len0 = 0 ∧ cap0 = 0 ∧ z0 = []) ∨ ∃ x, a0 = some x ∧ len0 ≤ cap0 ∧ cap0 ≤ maxLen ∧ z0.length = cap0 ∧ (∀ i, i < z0.length → w.cell? (x.add i) = some (.int .i64 (z0.getD i 0))) ∧ ∀ n ∈ z0, (Lit.int .i64 n).wf = true) (y0 : len0 * 8 ≤ 140737488351232) (w1 : (Lit.int .i64 a).wf = true) (w2 : (Lit.int .i64 b).wf = true) (w3 : (Lit.int .i64 c).wf = true) (w4 : (Lit.int .i64 d).wf = true) :
    Calls Tryd.prog 9 #[.slice a0 len0 cap0, .agg #[.int .i64 a, .int .i64 b], .agg #[.int .i64 c, .int .i64 d]] w fun e w' => e = .returned (.bool true) ∧ Below w.heap.size w w' := by
  obtain ⟨l0, rfl, hr0, hm0, hw0, hc0⟩ := ReadsInt.ofRowC w0
  obtain ⟨k, h⟩ := P l0 a b c d hm0 hw0 w1 w2 w3 w4
  refine (dioramalaw04_RatioWorks.calls (hv := hv) k _ _ l0 a b c d true w (Kd.C_of_reads (d := (0 : Int)) (h1 := fun _ => rfl) hr0) hc0 h rfl).mono ?_
  rintro e w' ⟨rfl, hd⟩
  exact ⟨rfl, hd⟩
end Go.Proofs.YtdphgnakigcaeaaDoor.Pc
