/- The law RatioMakes: what is left to show over plain numbers, and the walk that follows. -/
import Derived.Test.YtdphgnakigcaeaaDoorPc12
namespace Go.Proofs.YtdphgnakigcaeaaDoor.Pc
open Go.RowKit Go.Proofs.YtdphgnakigcaeaaDoorW.PrintWords Go.Proofs.YtdphgnakigcaeaaDoorW.PrintLast
def dioramalaw04_RatioMakes.Pure : Prop := ∀ (a0 a1 p q : Int), (Lit.int .i64 a0).wf = true → (Lit.int .i64 a1).wf = true → (Lit.int .i64 p).wf = true → (Lit.int .i64 q).wf = true → ∃ k, dioramalaw04_RatioMakes.f k a0 a1 p q = some true
theorem dioramalaw04_RatioMakes.walk (P : dioramalaw04_RatioMakes.Pure) (a0 a1 p q : Int) (w : World) (hv : LaidAt w) (w0 : (Lit.int .i64 a0).wf = true) (w1 : (Lit.int .i64 a1).wf = true) (w2 : (Lit.int .i64 p).wf = true) (w3 : (Lit.int .i64 q).wf = true) :
    Calls Tryd.prog 5 #[.int .i64 a0, .int .i64 a1, .agg #[.int .i64 p, .int .i64 q]] w fun e w' => e = .returned (.bool true) ∧ Below w.heap.size w w' := by
  obtain ⟨k, h⟩ := P a0 a1 p q w0 w1 w2 w3
  refine (dioramalaw04_RatioMakes.calls (hv := hv) k a0 a1 p q true w h).mono ?_
  rintro e w' ⟨rfl, hd⟩
  exact ⟨rfl, hd⟩
end Go.Proofs.YtdphgnakigcaeaaDoor.Pc
