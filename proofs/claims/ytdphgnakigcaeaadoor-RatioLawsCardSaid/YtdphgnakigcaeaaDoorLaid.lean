/- What the rows' listed variables give the walks, and one world in which they lie as the text lays them. -/
import Derived.Test.YtdphgnakigcaeaaDoorRows
import Derived.Test.YtdphgnakigcaeaaDoorE0
import Derived.Stop.LaidErr
import Derived.LaidLaws
import Derived.Lib.LaidTab
namespace Go.Proofs.YtdphgnakigcaeaaDoor.Laid
open Go.RowKit Go.Proofs.YtdphgnakigcaeaaDoor.Pc

theorem gSyn : Tryd.prog.globalNamed "strconv.ErrSyntax" = some 1 := by kernel_rfl
theorem gRng : Tryd.prog.globalNamed "strconv.ErrRange" = some 2 := by kernel_rfl
theorem gPow : Tryd.prog.globalNamed "internal/strconv.uint64pow10" = some 3 := by kernel_rfl
theorem tSyn : (Tryd.prog.globals[1]?).map (·.type) = some 60 := by kernel_rfl
theorem tRng : (Tryd.prog.globals[2]?).map (·.type) = some 60 := by kernel_rfl
theorem tPow : (Tryd.prog.globals[3]?).map (·.type) = some 99 := by kernel_rfl
theorem cPow : Tryd.prog.cellsOf 99 = 20 := by kernel_rfl
theorem cU64 : Tryd.prog.cellsOf 53 = 1 := by kernel_rfl
theorem cES : Tryd.prog.cellsOf 97 = 1 := by kernel_rfl
theorem cStr : Tryd.prog.cellsOf 9 = 1 := by kernel_rfl
theorem star : "*" ++ "errors.errorString" = "*errors.errorString" := by decide
theorem rowPES : ∀ u, Tryd.prog.typeName? 3 u = some "*errors.errorString" → u = 95 := fun u h => typeName_ptr_named (nm := "errors.errorString") (by rw [star]; kernel_rfl) (by kernel_rfl) (by decide) u (by rw [star]; exact h)
/-- the list of all rows -/
def list : List (String × DataW Unit) := [("math/bits.deBruijn32tab", Rows.laid_math_bits_deBruijn32tab), ("math/bits.deBruijn64tab", Rows.laid_math_bits_deBruijn64tab), ("internal/strconv.uint64pow10", Rows.laid_internal_strconv_uint64pow10), ("strconv.ErrRange", Rows.laid_strconv_ErrRange), ("strconv.ErrSyntax", Rows.laid_strconv_ErrSyntax)]

/-- WHAT THE LIST GIVES, here and whatever is done beyond what lies here. -/
theorem laidAt {W : World} (h : laidMet Tryd.prog list W) : LaidAt W := by
  have h2 : laidMet Tryd.prog (("internal/strconv.uint64pow10", Lib.tabData .u64 Lib.pow10Tab) :: list.drop 3) W := h.tail.tail
  have t := Lib.tabIs_of_head gPow tPow Tryd.underlying99 Tryd.underlying53 cU64 cPow h2
  obtain ⟨a0, s0, hv0, -, -, -⟩ := laid_sentinel (P := Tryd.prog) h.tail.tail.tail gRng tRng Tryd.underlying60 rowPES Tryd.underlying95 Tryd.underlying97 rfl rfl Tryd.underlying9 cES cStr
  obtain ⟨a1, s1, hv1, -, -, -⟩ := laid_sentinel (P := Tryd.prog) h.tail.tail.tail.tail gSyn tSyn Tryd.underlying60 rowPES Tryd.underlying95 Tryd.underlying97 rfl rfl Tryd.underlying9 cES cStr
  intro W' hb
  have lt {n : String} {g : Nat} {cs : Array Value} (hg : Tryd.prog.globalNamed n = some g) (hv : W.var? Tryd.prog n = some cs) : g < W.heap.size := by
    unfold World.var? at hv
    simp only [hg, Option.bind_some] at hv
    cases q : W.heap[g]? with
    | none => rw [q] at hv; simp at hv
    | some o => exact (Array.getElem?_eq_some_iff.1 q).1
  exact ⟨Lib.tabBelow_of_tabIs t W' hb, ⟨_, _, var?_below hb gSyn (lt gSyn hv1) hv1⟩, ⟨_, _, var?_below hb gRng (lt gRng hv0) hv0⟩⟩

/-! ### One start that fits -/
abbrev synS : ByteArray := { data := #[105, 110, 118, 97, 108, 105, 100, 32, 115, 121, 110, 116, 97, 120] }
abbrev rngS : ByteArray := { data := #[118, 97, 108, 117, 101, 32, 111, 117, 116, 32, 111, 102, 32, 114, 97, 110, 103, 101] }
noncomputable def low : Nat := (World.holding Tryd.prog default ⟨#[], #[], []⟩).heap.size
/-- The settled world with the two errors' blocks and each listed variable as its initialiser lays it. -/
noncomputable def laidWorld (os : Os) : World :=
  let w0 := World.holding Tryd.prog os ⟨#[.cells #[.string synS] 97, .cells #[.string rngS] 97], #[], []⟩
  { w0 with heap := (((((w0.heap.modify 1 fun
      | .cells _ t frozen => .cells #[.iface 95 (.pointer (some ⟨low, 0, none⟩))] t frozen
      | o => o).modify 2 fun
      | .cells _ t frozen => .cells #[.iface 95 (.pointer (some ⟨low + 1, 0, none⟩))] t frozen
      | o => o).modify 3 fun
      | .cells _ t frozen => .cells #[.int .u64 1, .int .u64 10, .int .u64 100, .int .u64 1000, .int .u64 10000, .int .u64 100000, .int .u64 1000000, .int .u64 10000000, .int .u64 100000000, .int .u64 1000000000, .int .u64 10000000000, .int .u64 100000000000, .int .u64 1000000000000, .int .u64 10000000000000, .int .u64 100000000000000, .int .u64 1000000000000000, .int .u64 10000000000000000, .int .u64 100000000000000000, .int .u64 1000000000000000000, .int .u64 10000000000000000000] t frozen
      | o => o).modify 4 fun
      | .cells _ t frozen => .cells #[.int .u8 0, .int .u8 1, .int .u8 28, .int .u8 2, .int .u8 29, .int .u8 14, .int .u8 24, .int .u8 3, .int .u8 30, .int .u8 22, .int .u8 20, .int .u8 15, .int .u8 25, .int .u8 17, .int .u8 4, .int .u8 8, .int .u8 31, .int .u8 27, .int .u8 13, .int .u8 23, .int .u8 21, .int .u8 19, .int .u8 16, .int .u8 7, .int .u8 26, .int .u8 12, .int .u8 18, .int .u8 6, .int .u8 11, .int .u8 5, .int .u8 10, .int .u8 9] t frozen
      | o => o).modify 5 fun
      | .cells _ t frozen => .cells #[.int .u8 0, .int .u8 1, .int .u8 56, .int .u8 2, .int .u8 57, .int .u8 49, .int .u8 28, .int .u8 3, .int .u8 61, .int .u8 58, .int .u8 42, .int .u8 50, .int .u8 38, .int .u8 29, .int .u8 17, .int .u8 4, .int .u8 62, .int .u8 47, .int .u8 59, .int .u8 36, .int .u8 45, .int .u8 43, .int .u8 51, .int .u8 22, .int .u8 53, .int .u8 39, .int .u8 33, .int .u8 30, .int .u8 24, .int .u8 18, .int .u8 12, .int .u8 5, .int .u8 63, .int .u8 55, .int .u8 48, .int .u8 27, .int .u8 60, .int .u8 41, .int .u8 37, .int .u8 16, .int .u8 46, .int .u8 35, .int .u8 44, .int .u8 21, .int .u8 52, .int .u8 32, .int .u8 23, .int .u8 11, .int .u8 54, .int .u8 26, .int .u8 40, .int .u8 15, .int .u8 34, .int .u8 20, .int .u8 31, .int .u8 10, .int .u8 25, .int .u8 14, .int .u8 19, .int .u8 9, .int .u8 13, .int .u8 8, .int .u8 7, .int .u8 6] t frozen
      | o => o) }
theorem met (os : Os) (args : Array Value) : laidMet Tryd.prog list ((laidWorld os).forCall (fun _ _ => 0) ⟨#[], args, []⟩).memory :=
  laidMet_of_run' 8 (by kernel_rfl) (by kernel_rfl)
end Go.Proofs.YtdphgnakigcaeaaDoor.Laid
