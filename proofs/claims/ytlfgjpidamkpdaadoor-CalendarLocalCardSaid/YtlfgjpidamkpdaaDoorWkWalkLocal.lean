/- The law CalendarLocal: what is left to show over plain numbers, and the walk that follows. -/
import Derived.Test.YtlfgjpidamkpdaaDoorPc14
namespace Go.Proofs.YtlfgjpidamkpdaaDoor.Pc
open Go.RowKit Go.Proofs.YtlfgjpidamkpdaaDoorW.PrintWords Go.Proofs.YtlfgjpidamkpdaaDoorW.PrintLast
def dioramalaw08_CalendarLocal.Pure : Prop := ∀ (a0 : Int) (l1 : List Int) (o s f t a3 a4 : Int), (Lit.int .i64 a0).wf = true → (∀ x ∈ l1, (Lit.int .i64 x).wf = true) → (Lit.int .i64 a3).wf = true → (Lit.int .i64 a4).wf = true → ∃ k, dioramalaw08_CalendarLocal.f k a0 l1 o s f t a3 a4 = some true
theorem dioramalaw08_CalendarLocal.walk (P : dioramalaw08_CalendarLocal.Pure) (a0 : Int) (a1 : Option Addr) (len1 cap1 : Nat) (z1 : List Int) (o s f t a3 a4 : Int) (w : World) (hv : LaidAt w) (w0 : (Lit.int .i64 a0).wf = true) (w1 : (a1 = none ∧ len1 = 0 ∧ cap1 = 0 ∧ z1 = []) ∨ ∃ x, a1 = some x ∧ len1 ≤ cap1 ∧ cap1 ≤ maxLen ∧ z1.length = cap1 ∧ (∀ i, i < z1.length → w.cell? (x.add i) = some (.int .i64 (z1.getD i 0))) ∧ ∀ n ∈ z1, (Lit.int .i64 n).wf = true) (_y1 : len1 * 8 ≤ 140737488351232)
    (_wo : (Lit.int .i64 o).wf = true) (_ws : (Lit.int .i64 s).wf = true) (_wf : (Lit.int .i64 f).wf = true) (_wt : (Lit.int .i64 t).wf = true) (w3 : (Lit.int .i64 a3).wf = true) (w4 : (Lit.int .i64 a4).wf = true) :
    Calls Tryd.prog 5 #[.int .i64 a0, .slice a1 len1 cap1, .agg #[.int .i64 o, .int .i64 s, .int .i64 f, .int .i64 t], .int .i64 a3, .int .i64 a4] w fun e w' => e = .returned (.bool true) ∧ Below w.heap.size w w' := by
  obtain ⟨l1, rfl, hr1, hm1, hw1, hc1⟩ := ReadsInt.ofRowC w1
  obtain ⟨k, h⟩ := P a0 l1 o s f t a3 a4 w0 hw1 w3 w4
  refine (dioramalaw08_CalendarLocal.calls (hv := hv) k a0 _ _ l1 o s f t a3 a4 true w (Kd.C_of_reads (d := (0 : Int)) (h1 := fun _ => rfl) hr1) hc1 h).mono ?_
  rintro e w' ⟨rfl, hd⟩
  exact ⟨rfl, hd⟩
end Go.Proofs.YtlfgjpidamkpdaaDoor.Pc
