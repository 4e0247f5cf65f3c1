/- What the listed library variables hold, in every world that a call passes through. -/
import Derived.Test.YtdphgnakigcaeaaDoorShelf
import Derived.Test.YtdphgnakigcaeaaDoorWWords
import Derived.WalkSmall
import Derived.Lib.LaidTab
import Derived.Lib.AppendIntMem
import Derived.Lib.AtoiErrMem
namespace Go.Proofs.YtdphgnakigcaeaaDoor.Pc
open Go.RowKit Go.Proofs.YtdphgnakigcaeaaDoorW.PrintWords

theorem bsize1 (c : UInt8) : (⟨#[c]⟩ : ByteArray).size = 1 := rfl

theorem less_asym : ∀ a b : List UInt8, Op.bytesLess a b = true → Op.bytesLess b a = false ∧ (a == b) = false
  | [], [], h => by simp [Op.bytesLess] at h
  | [], _ :: _, _ => by simp [Op.bytesLess]
  | _ :: _, [], h => by simp [Op.bytesLess] at h
  | x :: a, y :: b, h => by
    simp only [Op.bytesLess, Bool.or_eq_true, Bool.and_eq_true, decide_eq_true_eq, beq_iff_eq] at h
    rcases h with h | ⟨rfl, h⟩
    · have h1 : ¬ y < x := by simp only [UInt8.lt_iff_toNat_lt] at *; omega
      have h2 : ¬ y = x := by rintro rfl; simp at h
      have h3 : ¬ x = y := fun e => h2 e.symm
      simp [Op.bytesLess, h1, h2, h3]
    · have := less_asym a b h
      have h1 : ¬ x < x := by simp
      simp [Op.bytesLess, h1, this.1]
      simpa using this.2
theorem less_total : ∀ a b : List UInt8, Op.bytesLess b a = false → (Op.bytesLess a b || a == b) = true
  | [], [], _ => by simp
  | [], _ :: _, _ => by simp [Op.bytesLess]
  | _ :: _, [], h => by simp [Op.bytesLess] at h
  | x :: a, y :: b, h => by
    simp only [Op.bytesLess, Bool.or_eq_false_iff, Bool.and_eq_false_iff, decide_eq_false_iff_not, beq_eq_false_iff_ne] at h
    obtain ⟨h1, h2⟩ := h
    by_cases e : x = y
    · subst e
      have h3 : Op.bytesLess b a = false := by rcases h2 with h2 | h2; exact absurd rfl h2; exact h2
      have := less_total a b h3
      simp [Op.bytesLess]
      simp at this
      exact this
    · have h3 : x < y := by
        simp only [UInt8.lt_iff_toNat_lt] at *
        have : x.toNat ≠ y.toNat := fun q => e (UInt8.toNat_inj.1 q)
        omega
      simp [Op.bytesLess, h3]
theorem less_leq {a b : List UInt8} (h : Op.bytesLess b a = true) : (Op.bytesLess a b || a == b) = false := by
  have h1 := less_asym b a h
  have h2 : (a == b) = false := by
    have := h1.2
    simp at this ⊢
    exact fun e => this e.symm
  rw [h1.1, h2]
  rfl
theorem nless_leq {a b : List UInt8} (h : Op.bytesLess b a = false) : (Op.bytesLess a b || a == b) = true := less_total a b h

theorem binOp_leq_p (t : TypeId) (a b : ByteArray) : binOp .leq t (.string a) (.string b) = pure (.bool (!(Op.bytesLess b.toList a.toList))) := by
  have h : (Op.bytesLess a.toList b.toList || a.toList == b.toList) = !(Op.bytesLess b.toList a.toList) := by
    cases q : Op.bytesLess b.toList a.toList with
    | true => exact less_leq q
    | false => exact nless_leq q
  rw [← h]
  simp [binOp, Op.stringOp]

/-- The table of powers of ten and the two sentinels read as laid, here and whatever is done beyond what lies here. -/
def LaidAt (w : World) : Prop := ∀ w', Below w.heap.size w w' →
  Lib.TabIs Tryd.prog w' "internal/strconv.uint64pow10" .u64 Lib.pow10Tab ∧
  (∃ (tp : TypeId) (p : Value), w'.var? Tryd.prog "strconv.ErrSyntax" = some #[.iface tp p]) ∧
  (∃ (tp : TypeId) (p : Value), w'.var? Tryd.prog "strconv.ErrRange" = some #[.iface tp p])

theorem LaidAt.step {w w1 : World} (h : LaidAt w) (hb : Below w.heap.size w w1) : LaidAt w1 := fun w' h' => h w' (hb.trans (h'.mono hb.size))

def strconv_Itoa.f (a0 : Int) : Option ByteArray := if -9223372036854775808 ≤ a0 ∧ a0 ≤ 9223372036854775807 then some ⟨(Lib.itoa a0).toArray⟩ else none
theorem strconv_Itoa.calls (a0 : Int) (r : ByteArray) (w : World) (hv : LaidAt w) (h : strconv_Itoa.f a0 = some r) :
    Calls Tryd.prog 41 #[.int .i64 a0] w fun e w' => e = .returned (.string r) ∧ Below w.heap.size w w' := by
  unfold strconv_Itoa.f at h
  split at h
  case isFalse => cases h
  rename_i hd
  obtain rfl := Option.some.inj h
  refine (Tryd.strconv_Itoa a0 hd.1 hd.2 w (hv w (Below.refl _ _)).1).mono ?_
  rintro e w' ⟨he, k, os, rfl⟩
  exact ⟨he, Lib.below_grow _ w (Nat.le_refl _) k os⟩

/-- Atoi: the number where it is one, and whether it is. -/
def AtoiGives (s : ByteArray) (w : World) (e : Ending) (w' : World) : Prop :=
  (∃ v, Lib.atoiAll s.data.toList = .ok v ∧ e = .returned (.tuple #[.int .i64 v, .nilIface]) ∧ Below w.heap.size w w') ∨
  ((∀ v, Lib.atoiAll s.data.toList ≠ .ok v) ∧ ∃ (n : Int) (N : Nat), e = .returned (.tuple #[.int .i64 n, .iface 71 (.pointer (some ⟨N, 0, none⟩))]) ∧ Below w.heap.size w w')
theorem Atoi_any (s : ByteArray) (hs : s.size ≤ 1000000) (w : World) (hv : LaidAt w) : Calls Tryd.prog 39 #[.string s] w (AtoiGives s w) := by
  obtain ⟨_, ⟨t1, p1, v1⟩, ⟨t2, p2, v2⟩⟩ := hv w (Below.refl _ _)
  cases h : Lib.atoiAll s.data.toList
  · rename_i v
    refine (Tryd.strconv_Atoi_ok s (by omega) v h w).mono ?_
    rintro e w' ⟨he, hw⟩
    refine .inl ⟨v, h, he, ?_⟩
    rcases hw with rfl | ⟨t, rfl⟩
    · exact Below.refl _ _
    · exact Lib.bytesWorld_below ..
  · refine (Any.strconv_Atoi_syntax_var Tryd.laysC172 s (by omega) h t1 p1 w v1).mono ?_
    rintro e w' ⟨N, he, _, _, hb⟩
    exact .inr ⟨by simp [h], 0, N, he, hb⟩
  · refine (Any.strconv_Atoi_range_var Tryd.laysC172 s (by omega) h t2 p2 w v2).mono ?_
    rintro e w' ⟨N, he, _, _, hb⟩
    exact .inr ⟨by simp [h], _, N, he, hb⟩
end Go.Proofs.YtdphgnakigcaeaaDoor.Pc
