/- Parse of the program and of the reference give the same for every text. -/
import Derived.Test.YtdphgnakigcaeaaDoorR6
namespace Go.Proofs.YtdphgnakigcaeaaDoor.Rat
open Go.RowKit Go.Proofs.YtdphgnakigcaeaaDoor.Pc Go.Proofs.YtdphgnakigcaeaaDoorW.PrintWords Go.Proofs.YtdphgnakigcaeaaDoorW.PrintLast
set_option linter.unusedVariables false
set_option linter.unusedSimpArgs false

/-- what Parse gives -/
def IsText (s : ByteArray) (p q : Int) : Prop := vl p q ∧ 1 ≤ q ∧ s = bts (txt p q)
theorem numOf_i64 {s : ByteArray} {v : Int} (h : numOf s = some v) : I64 v := by
  unfold numOf at h
  cases e : Lib.atoiAll s.data.toList with
  | ok x =>
    rw [e] at h
    simp only [Option.some.injEq] at h
    subst h
    cases l : s.data.toList with
    | nil => rw [l] at e; simp [Lib.atoiAll] at e
    | cons c r =>
      rw [l] at e
      simp only [Lib.atoiAll] at e
      cases pm : Lib.parseMag (if c.toNat = 43 ∨ c.toNat = 45 then r else c :: r) with
      | ok u =>
        rw [pm] at e
        simp only at e
        split at e
        · cases e
        · split at e
          · cases e
          · injection e with e
            unfold I64
            rw [← e]
            split <;> omega
      | _ => rw [pm] at e; cases e
  | _ => rw [e] at h; cases h
theorem num_empty : numOf (⟨#[]⟩ : ByteArray) = none := by decide
theorem cut_empty : cutFirst (⟨#[]⟩ : ByteArray) = ⟨#[]⟩ := by decide
theorem bts_nil : bts [] = (⟨#[]⟩ : ByteArray) := rfl
/-- Parse of the program -/
theorem pparse (s : ByteArray) (hs : s.size ≤ 1000) : (∃ p q, IsText s p q ∧ ratio_Parse.f s = some (p, q, 0)) ∨ ((∀ p q, ¬ IsText s p q) ∧ ratio_Parse.f s = some (0, 0, 2)) := by
  by_cases h : ∃ p q, IsText s p q
  · obtain ⟨p, q, v, q1, e⟩ := h
    refine .inl ⟨p, q, ⟨v, q1, e⟩, ?_⟩
    rw [e]
    exact parse_txt v q1
  · refine .inr ⟨fun p q z => h ⟨p, q, z⟩, ?_⟩
    unfold ratio_Parse.f
    rw [if_pos hs]
    cases e1 : numOf (cutFirst s) with
    | none => rfl
    | some p =>
      cases e2 : numOf (cutNumber s) with
      | none => rfl
      | some q =>
        simp only
        by_cases q0 : q = 0
        · rw [if_pos q0]
        · rw [if_neg q0, ptext (numOf_i64 e1) (numOf_i64 e2)]
          simp only [Option.bind_some]
          rw [if_neg]
          intro t
          rw [ByteArray.toList_eq, ByteArray.toList_eq] at t
          have t2 := bext t
          by_cases v : vl p q
          · rw [if_pos v] at t2
            refine h ⟨p, q, v, ?_, t2.symm⟩
            rcases v with u | u <;> omega
          · rw [if_neg v, bts_nil] at t2
            rw [← t2, cut_empty, num_empty] at e1
            cases e1
theorem bt_list (s : ByteArray) (i : Nat) (h : i < s.size) : bt s (i : Int) = ((s.data.toList[i]'(by rw [Array.length_toList]; exact h)).toNat : Int) := by
  unfold bt
  rw [dif_pos (by omega)]
  rfl
theorem number_any (s : ByteArray) (hs : s.size ≤ 1000) (m : Nat) : ∀ (i : Nat) (n P : Int), i + m = s.size → i ≤ 10 → 0 ≤ n → n < P → P * 10 ^ (10 - i) = 10000000000 → ∃ v f, Ev (fun k => dioramaref04_number.l0 k s n (i : Int)) (v, f) ∧ (0 ≤ v ∧ v ≤ 10000000000) ∧ (f = true → 0 < s.size) := by
  induction m with
  | zero =>
    intro i n P hi i1 n0 n1 hP
    have Pb : P ≤ 10000000000 := by
      have : (1 : Int) ≤ 10 ^ (10 - i) := Int.pow_pos (by omega)
      rw [← hP]
      have := Int.mul_le_mul_of_nonneg_left this (show 0 ≤ P by omega)
      omega
    refine ⟨n, decide ((s.size : Int) > 0), Ev.open ⟨_, fun k => by simp only [dioramaref04_number.l0]; rfl, ?_⟩, ⟨n0, by omega⟩, ?_⟩
    · exact ev_neg (by omega) (Ev.now _)
    · intro z
      have := of_decide_eq_true z
      omega
  | succ m ih =>
    intro i n P hi i1 n0 n1 hP
    have op {v : Int} {f : Bool} (h : Ev (fun k => if (i : Int) < (s.size : Int) then (if 0 ≤ (i : Int) then (if (bt s i) < 48 then (some (0, false)) else (if (bt s i) > 57 then (some (0, false)) else (if (i : Int) > 9 then (some (0, false)) else (dioramaref04_number.l0 k s (wrap64 ((wrap64 (10 * n)) + (((bt s i) - 48) % 256))) (wrap64 ((i : Int) + 1)))))) else (none)) else (some (n, decide ((s.size : Int) > 0)))) (v, f)) : Ev (fun k => dioramaref04_number.l0 k s n (i : Int)) (v, f) :=
      Ev.open ⟨_, fun k => by simp only [dioramaref04_number.l0], h⟩
    by_cases c1 : bt s i < 48
    · exact ⟨0, false, op (ev_pos (by omega) (ev_pos (by omega) (ev_pos c1 (Ev.now _)))), by omega, by simp⟩
    by_cases c2 : bt s i > 57
    · exact ⟨0, false, op (ev_pos (by omega) (ev_pos (by omega) (ev_neg c1 (ev_pos c2 (Ev.now _))))), by omega, by simp⟩
    by_cases c3 : (i : Int) > 9
    · exact ⟨0, false, op (ev_pos (by omega) (ev_pos (by omega) (ev_neg c1 (ev_neg c2 (ev_pos c3 (Ev.now _)))))), by omega, by simp⟩
    have P2 : P * 10 * 10 ^ (10 - (i + 1)) = 10000000000 := by
      rw [show 10 - i = (10 - (i + 1)) + 1 by omega, Int.pow_succ] at hP
      rw [← hP]
      grind
    have Pb : P ≤ 10000000000 := by
      have : (1 : Int) ≤ 10 ^ (10 - i) := Int.pow_pos (by omega)
      rw [← hP]
      have := Int.mul_le_mul_of_nonneg_left this (show 0 ≤ P by omega)
      omega
    obtain ⟨v, f, e, b, g⟩ := ih (i + 1) (10 * n + (bt s i - 48)) (P * 10) (by omega) (by omega) (by omega) (by omega) P2
    refine ⟨v, f, op (ev_pos (by omega) (ev_pos (by omega) (ev_neg c1 (ev_neg c2 (ev_neg c3 ?_))))), b, g⟩
    rw [w64 (x := 10 * n) (by omega) (by omega), show (bt s (i : Int) - 48) % 256 = bt s (i : Int) - 48 by omega, w64 (x := 10 * n + (bt s (i : Int) - 48)) (by omega) (by omega), w64 (x := (i : Int) + 1) (by omega) (by omega)]
    exact e
theorem number_all (s : ByteArray) (hs : s.size ≤ 1000) : ∃ v f, Ev (fun k => dioramaref04_number.f k s) (v, f) ∧ (0 ≤ v ∧ v ≤ 10000000000) ∧ (f = true → 0 < s.size) :=
  number_any s hs s.size 0 0 1 (by omega) (by omega) (by omega) (by omega) (by decide)
theorem pu_le (l : List UInt8) : ∀ acc v : Nat, Lib.parseUint10 acc l = .ok v → acc ≤ v := by
  induction l with
  | nil =>
    intro acc v h
    simp only [Lib.parseUint10] at h
    injection h with h
    omega
  | cons c l ih =>
    intro acc v h
    simp only [Lib.parseUint10] at h
    split at h
    · split at h
      · cases h
      · split at h
        · cases h
        · have := ih _ v h
          omega
    · cases h
theorem number_dec (s : ByteArray) (hs : s.size ≤ 10) (s0 : 0 < s.size) (v : Nat) (hv : v ≤ 10000000000) (m : Nat) : ∀ (i acc : Nat), i + m = s.size → Lib.parseUint10 acc (s.data.toList.drop i) = .ok v → Ev (fun k => dioramaref04_number.l0 k s (acc : Int) (i : Int)) ((v : Int), true) := by
  have ll : s.data.toList.length = s.size := by rw [Array.length_toList]; rfl
  induction m with
  | zero =>
    intro i acc hi h
    rw [List.drop_of_length_le (by omega)] at h
    simp only [Lib.parseUint10] at h
    injection h with h
    subst h
    refine Ev.open ⟨_, fun k => by simp only [dioramaref04_number.l0]; rfl, ?_⟩
    refine ev_neg (by omega) ?_
    rw [decide_eq_true (by omega)]
    exact Ev.now _
  | succ m ih =>
    intro i acc hi h
    have b := bt_list s i (by omega)
    rw [List.drop_eq_getElem_cons (by omega)] at h
    simp only [Lib.parseUint10] at h
    generalize s.data.toList[i]'(by omega) = c at h b
    split at h
    · split at h
      · cases h
      · split at h
        · cases h
        · have le := pu_le _ _ _ h
          have e := ih (i + 1) _ (by omega) h
          refine Ev.open ⟨_, fun k => by simp only [dioramaref04_number.l0]; rfl, ?_⟩
          refine ev_pos (by omega) (ev_pos (by omega) (ev_neg (by omega) (ev_neg (by omega) (ev_neg (by omega) ?_))))
          rw [w64 (x := 10 * (acc : Int)) (by omega) (by omega), show (bt s (i : Int) - 48) % 256 = bt s (i : Int) - 48 by omega, w64 (x := 10 * (acc : Int) + (bt s (i : Int) - 48)) (by omega) (by omega), w64 (x := (i : Int) + 1) (by omega) (by omega), show 10 * (acc : Int) + (bt s (i : Int) - 48) = ((acc * 10 + (c.toNat - 48) : Nat) : Int) by omega]
          exact e
    · cases h
theorem number_of (u : Nat) (h : u < 10000000000) : Ev (fun k => dioramaref04_number.f k (bts (Lib.decDigits u))) ((u : Int), true) := by
  have l := len_dec 10 u (by omega) (by omega)
  have p := List.length_pos_iff.2 (dec_ne u)
  refine number_dec (bts (Lib.decDigits u)) (by rw [bts_size]; exact l) (by rw [bts_size]; exact p) u (by omega) (bts (Lib.decDigits u)).size 0 0 (by omega) ?_
  rw [bts_list, List.drop_zero]
  exact pu_dec u (by omega)
end Go.Proofs.YtdphgnakigcaeaaDoor.Rat
