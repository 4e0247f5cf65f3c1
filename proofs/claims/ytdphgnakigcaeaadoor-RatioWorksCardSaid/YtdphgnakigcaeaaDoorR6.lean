/- The texts of fractions of the reference: digits, Text, numbers and Parse. -/
import Derived.Test.YtdphgnakigcaeaaDoorR5
import Derived.Test.YtdphgnakigcaeaaDoorPc11
import Derived.Test.YtdphgnakigcaeaaDoorPc13
namespace Go.Proofs.YtdphgnakigcaeaaDoor.Rat
open Go.RowKit Go.Proofs.YtdphgnakigcaeaaDoor.Pc Go.Proofs.YtdphgnakigcaeaaDoorW.PrintWords Go.Proofs.YtdphgnakigcaeaaDoorW.PrintLast
open Go.Proofs.YtdphgnakigcaeaaDoorW.PrintMore
set_option linter.unusedVariables false
set_option linter.unusedSimpArgs false

theorem valid_j1 {p q : Int} {f : Bool} {r : Bool} (h : (f = true ∧ r = false) ∨ (f = false ∧ I64 p ∧ I64 q ∧ r = decide (Int.gcd p q = 1))) : Ev (fun n => dioramaref04_Valid.j1 n f p q) r := by
  refine Ev.open ⟨_, fun n => by simp only [dioramaref04_Valid.j1]; rfl, ?_⟩
  rcases h with ⟨rfl, rfl⟩ | ⟨rfl, ip, iq, rfl⟩
  · exact ev_pos rfl (Ev.now _)
  · refine ev_neg (by decide) ?_
    rw [Size_f ip, Size_f iq]
    refine ev_some (ev_some (Ev.bind (common p q) ?_))
    have e : ((Int.gcd p q : Int) == 1) = decide (Int.gcd p q = 1) := by
      rw [Bool.eq_iff_iff, beq_iff_eq, decide_eq_true_iff]
      omega
    rw [e]
    exact Ev.now _
theorem valid_r {p q : Int} (h : I64 p) (k : I64 q) : Ev (fun n => dioramaref04_Valid.f n p q) (decide (vl p q)) := by
  have j0 (hz : ¬ (p = 0 ∧ q = 0)) : Ev (fun n => dioramaref04_Valid.j0 n false p q) (decide (vl p q)) := by
    refine Ev.open ⟨_, fun n => by simp only [dioramaref04_Valid.j0]; rfl, ?_⟩
    refine ev_neg (by decide) ?_
    by_cases c1 : q < 1
    · refine ev_pos c1 (valid_j1 (.inl ⟨rfl, decide_eq_false ?_⟩))
      rintro (u | u) <;> omega
    refine ev_neg c1 ?_
    by_cases c2 : q > 2147483648
    · refine ev_pos c2 (valid_j1 (.inl ⟨rfl, decide_eq_false ?_⟩))
      rintro (u | u) <;> omega
    refine ev_neg c2 ?_
    by_cases c3 : p < -2147483648
    · refine ev_pos c3 (valid_j1 (.inl ⟨rfl, decide_eq_false ?_⟩))
      rintro (u | u) <;> omega
    refine ev_neg c3 ?_
    by_cases c4 : p > 2147483648
    · refine valid_j1 (.inl ⟨decide_eq_true c4, decide_eq_false ?_⟩)
      rintro (u | u) <;> omega
    · refine valid_j1 (.inr ⟨decide_eq_false c4, h, k, ?_⟩)
      rw [Bool.eq_iff_iff, decide_eq_true_iff, decide_eq_true_iff]
      constructor
      · rintro (u | u)
        · exact absurd u hz
        · exact u.2.2.2.2
      · intro u
        exact .inr ⟨by omega, by omega, by omega, by omega, u⟩
  unfold dioramaref04_Valid.f
  by_cases p0 : p = 0
  · refine ev_pos p0 ?_
    by_cases q0 : q = 0
    · rw [decide_eq_true (.inl ⟨p0, q0⟩)]
      subst q0
      refine Ev.open ⟨_, fun n => by simp only [dioramaref04_Valid.j0]; rfl, ?_⟩
      exact ev_pos (by decide) (Ev.now _)
    · rw [beq_eq_false_iff_ne.2 q0]
      exact j0 (fun z => q0 z.2)
  · exact ev_neg p0 (j0 (fun z => p0 z.1))

theorem str_one (d : Nat) (h : d < 10) : strOfNums [((48 + d : Nat) : Int)] = bts [UInt8.ofNat (48 + d)] := by
  show bts _ = bts _
  rfl
theorem len_dec (k : Nat) : ∀ u : Nat, 1 ≤ k → u < 10 ^ k → (Lib.decDigits u).length ≤ k := by
  induction k with
  | zero => intro u h; omega
  | succ k ih =>
    intro u _ h
    by_cases c : u < 10
    · rw [dec1 u c]
      simp
    · rw [dec_step u c, List.length_append]
      have k1 : 1 ≤ k := by
        rcases Nat.eq_zero_or_pos k with z | z
        · subst z
          omega
        · exact z
      have := ih (u / 10) k1 (by rw [Nat.pow_succ] at h; omega)
      simp
      omega
theorem digits_ev (u : Nat) : u < 10000000000 → Ev (fun k => dioramaref04_digits.f k (u : Int)) (bts (Lib.decDigits u)) := by
  induction u using Nat.strongRecOn with
  | _ u ih =>
    intro hu
    refine Ev.open ⟨_, fun k => by simp only [dioramaref04_digits.f]; rfl, ?_⟩
    by_cases c : u < 10
    · refine ev_pos (by omega) ?_
      rw [w64 (by omega) (by omega), show ((48 : Int) + (u : Int)) % 256 = ((48 + u : Nat) : Int) by omega, str_one u c, dec1 u c]
      exact Ev.now _
    · refine ev_neg (by omega) ?_
      rw [tdiv_nn (by omega), tmod_nn (by omega), w64 (x := (u : Int) / 10) (by omega) (by omega), w64 (x := 48 + (u : Int) % 10) (by omega) (by omega), show ((48 : Int) + (u : Int) % 10) % 256 = ((48 + u % 10 : Nat) : Int) by omega, show (u : Int) / 10 = ((u / 10 : Nat) : Int) by omega]
      refine Ev.bind (ih (u / 10) (by omega) (by omega)) (ev_some ?_)
      have l := len_dec 10 (u / 10) (by omega) (by omega)
      rw [str_one (u % 10) (by omega), bts_size, bts_size]
      refine ev_pos (by simp; omega) ?_
      have e : bts (Lib.decDigits (u / 10)) ++ bts [UInt8.ofNat (48 + u % 10)] = bts (Lib.decDigits u) := by
        refine bext ?_
        rw [ByteArray.data_append, dec_step u c]
        simp [bts]
      rw [e]
      exact Ev.now _
theorem rtext {p q : Int} (h : I64 p) (k : I64 q) : Ev (fun n => dioramaref04_Text.f n p q) (bts (if vl p q then txt p q else [])) := by
  unfold dioramaref04_Text.f
  refine Ev.bind (valid_r h k) ?_
  by_cases c : vl p q
  rotate_left
  · rw [if_neg c]
    exact ev_neg (by simpa using c) (Ev.now _)
  · rw [if_pos c]
    refine ev_pos (decide_eq_true c) ?_
    obtain ⟨p0, p1, q0, q1⟩ := vl_bd c
    have m : mx p (wrap64 (-p)) = ((p.natAbs : Nat) : Int) := by
      rw [w64 (by omega) (by omega)]
      unfold mx
      split <;> omega
    rw [m]
    refine Ev.bind (digits_ev p.natAbs (by omega)) ?_
    have lp := len_dec 10 p.natAbs (by omega) (by omega)
    have lq := len_dec 10 q.toNat (by omega) (by omega)
    have j0 (l : List UInt8) (ll : l.length ≤ 20) : Ev (fun n => dioramaref04_Text.j0 n (bts l) p q) (bts (l ++ (if q ≤ 1 then [] else 47 :: Lib.itoa q))) := by
      refine Ev.open ⟨_, fun n => by simp only [dioramaref04_Text.j0]; rfl, ?_⟩
      unfold dioramaref04_Den.f
      refine ev_some ?_
      have dd : mx q 1 > 1 ↔ ¬ q ≤ 1 := by
        unfold mx
        split <;> omega
      by_cases d : q ≤ 1
      · rw [if_pos d, List.append_nil]
        exact ev_neg (by rw [dd]; simpa using d) (Ev.now _)
      · rw [if_neg d]
        have dq := digits_ev q.toNat (by omega)
        rw [show ((q.toNat : Nat) : Int) = q by omega] at dq
        refine ev_pos (dd.2 d) (ev_pos (by rw [bts_size]; omega) (Ev.bind dq ?_))
        have s3 : (⟨#[47]⟩ : ByteArray).size = 1 := rfl
        refine ev_pos (by rw [ByteArray.size_append, bts_size, bts_size, s3]; omega) ?_
        have it : Lib.itoa q = Lib.decDigits q.toNat := by
          unfold Lib.itoa
          rw [if_neg (by omega)]
        have e : bts l ++ (⟨#[47]⟩ : ByteArray) ++ bts (Lib.decDigits q.toNat) = bts (l ++ 47 :: Lib.itoa q) := by
          refine bext ?_
          rw [it, ByteArray.data_append, ByteArray.data_append]
          simp [bts]
        rw [e]
        exact Ev.now _
    unfold txt Lib.itoa
    by_cases n : p < 0
    · rw [if_pos n]
      refine ev_pos n (ev_pos (by rw [bts_size]; omega) ?_)
      have e : (⟨#[45]⟩ : ByteArray) ++ bts (Lib.decDigits p.natAbs) = bts (45 :: Lib.decDigits p.natAbs) := by
        refine bext ?_
        rw [ByteArray.data_append]
        simp [bts]
      rw [e]
      exact j0 (45 :: Lib.decDigits p.natAbs) (by simp; omega)
    · rw [if_neg n, show p.toNat = p.natAbs by omega]
      exact ev_neg n (j0 (Lib.decDigits p.natAbs) (by omega))
end Go.Proofs.YtdphgnakigcaeaaDoor.Rat
