/- Parse of the program and of the reference give the day whose text is the string, or the error of the form. -/
import Derived.Test.YtlfgjpidamkpdaaDoorM3
import Derived.Test.YtlfgjpidamkpdaaDoorPc3
import Derived.Test.YtlfgjpidamkpdaaDoorPc8
namespace Go.Proofs.YtlfgjpidamkpdaaDoor.Cal
open Go.RowKit Go.Proofs.YtlfgjpidamkpdaaDoor.Pc Go.Proofs.YtlfgjpidamkpdaaDoorW.PrintWords Go.Proofs.YtlfgjpidamkpdaaDoorW.PrintLast
set_option linter.unusedVariables false
set_option linter.unusedSimpArgs false

theorem pu_dg (acc : Nat) (n : Int) (r : List UInt8) (h : acc ≤ 1000000) : Lib.parseUint10 acc (dg n :: r) = Lib.parseUint10 (acc * 10 + (n % 10).toNat) r := by
  have e := dg_nat n
  simp only [Lib.parseUint10]
  rw [if_pos (by omega), if_neg (by omega), if_neg (by omega), e]
  congr 1
  omega
theorem atoi_dg (n : Int) (r : List UInt8) (u : Nat) (h : Lib.parseUint10 0 (dg n :: r) = .ok u) (hu : u < 9223372036854775808) : Lib.atoiAll (dg n :: r) = .ok (u : Int) := by
  have e := dg_nat n
  have p : Lib.parseMag (dg n :: r) = .ok u := by
    unfold Lib.parseMag
    rw [if_neg (by simp), h]
  unfold Lib.atoiAll
  simp only
  rw [if_neg (by omega), p]
  simp only
  rw [if_neg (by omega), if_neg (by omega), if_neg (by omega)]
theorem num4 {y : Int} (h0 : 0 ≤ y) (h1 : y ≤ 9999) : Lib.atoiAll [dg (y / 1000), dg (y / 100), dg (y / 10), dg y] = .ok y := by
  have e : Lib.parseUint10 0 [dg (y / 1000), dg (y / 100), dg (y / 10), dg y] = .ok y.toNat := by
    rw [pu_dg _ _ _ (by omega), pu_dg _ _ _ (by omega), pu_dg _ _ _ (by omega), pu_dg _ _ _ (by omega)]
    simp only [Lib.parseUint10]
    congr 1
    omega
  have := atoi_dg _ _ _ e (by omega)
  rw [this]
  congr 1
  omega
theorem num2 {y : Int} (h0 : 0 ≤ y) (h1 : y ≤ 99) : Lib.atoiAll [dg (y / 10), dg y] = .ok y := by
  have e : Lib.parseUint10 0 [dg (y / 10), dg y] = .ok y.toNat := by
    rw [pu_dg _ _ _ (by omega), pu_dg _ _ _ (by omega)]
    simp only [Lib.parseUint10]
    congr 1
    omega
  have := atoi_dg _ _ _ e (by omega)
  rw [this]
  congr 1
  omega
theorem toList_inj {a b : ByteArray} (h : a.toList = b.toList) : a = b := by
  rw [Lib.toList_data, Lib.toList_data] at h
  exact bext h
theorem textB_cut (y m d : Int) : ((bytesA (textB y m d)).extract 0 4).data.toList = [dg (y / 1000), dg (y / 100), dg (y / 10), dg y] ∧ ((bytesA (textB y m d)).extract 5 7).data.toList = [dg (m / 10), dg m] ∧ ((bytesA (textB y m d)).extract 8 10).data.toList = [dg (d / 10), dg d] := by
  refine ⟨?_, ?_, ?_⟩ <;> simp [Lib.extract_data, bytesA, textB]
theorem textB_size (y m d : Int) : (bytesA (textB y m d)).size = 10 := by simp [bytesA_size, textB]
theorem numOf_ok {s : ByteArray} {v : Int} (h : Lib.atoiAll s.data.toList = .ok v) : numOf s = some v := by
  unfold numOf
  rw [h]

/-- The program's Parse: the day whose text is s, if there is one. -/
theorem pparse_yes {y m d : Int} (h : Date y m d) : Ev (fun k => calendar_Parse.f k (bytesA (textB y m d))) (DN y m d, 0) := by
  have e := ML_bd y m
  obtain ⟨c1, c2, c3⟩ := textB_cut y m d
  have n1 : numOf ((bytesA (textB y m d)).extract 0 4) = some y := numOf_ok (by rw [c1]; exact num4 (by have := h.y0; omega) (by have := h.y1; omega))
  have n2 : numOf ((bytesA (textB y m d)).extract 5 7) = some m := numOf_ok (by rw [c2]; exact num2 (by have := h.m0; omega) (by have := h.m1; omega))
  have n3 : numOf ((bytesA (textB y m d)).extract 8 10) = some d := numOf_ok (by rw [c3]; exact num2 (by have := h.d0; omega) (by have := h.d1; omega))
  have p := pday y m d
  rw [dayOf_yes h] at p
  unfold calendar_Parse.f
  refine ev_pos (textB_size y m d) ?_
  rw [textB_size, n1, n2, n3]
  refine Ev.bind p ?_
  refine ev_pos rfl ?_
  refine Ev.bind (ptext h) ?_
  refine ev_pos rfl (Ev.now _)
theorem pparse_no {s : ByteArray} (hn : ∀ y m d, Date y m d → s ≠ bytesA (textB y m d)) : Ev (fun k => calendar_Parse.f k s) (0, 2) := by
  unfold calendar_Parse.f
  by_cases hs : s.size = 10
  · refine ev_pos hs ?_
    cases n1 : numOf (s.extract 0 4) with
    | none => exact Ev.now _
    | some y =>
      cases n2 : numOf (s.extract 5 7) with
      | none => exact Ev.now _
      | some m =>
        cases n3 : numOf (s.extract 8 s.size) with
        | none => exact Ev.now _
        | some d =>
          simp only
          refine Ev.bind (pday y m d) ?_
          by_cases h : Date y m d
          · rw [dayOf_yes h]
            refine ev_pos rfl ?_
            refine Ev.bind (ptext h) ?_
            exact ev_neg (fun e => hn y m d h (toList_inj e).symm) (Ev.now _)
          · rw [dayOf_no h]
            exact ev_neg (by decide) (Ev.now _)
  · exact ev_neg hs (Ev.now _)

/-! ### the reference's -/
theorem number_step {s : ByteArray} {n i : Int} {r : Int} (j : Int) (hj : i + 1 = j) (i0 : 0 ≤ i) (hi : i < s.size) (hs : s.size ≤ 10) (n0 : 0 ≤ n) (n1 : n ≤ 1000000) (c0 : 48 ≤ bt s i) (c1 : bt s i ≤ 57)
    (h : Ev (fun k => dioramaref08_number.l0 k s (10 * n + (bt s i - 48)) j) r) : Ev (fun k => dioramaref08_number.l0 k s n i) r := by
  subst hj
  refine Ev.step (fun k => ?_) h
  simp only [dioramaref08_number.l0]
  rw [if_pos hi, if_pos i0, if_neg (by omega), if_neg (by omega), w64 (x := 10 * n) (by omega) (by omega), show (bt s i - 48) % 256 = bt s i - 48 by omega, w64 (by omega) (by omega), w64 (by omega) (by omega)]
theorem number_bad {s : ByteArray} {n i : Int} (i0 : 0 ≤ i) (hi : i < s.size) (c : bt s i < 48 ∨ bt s i > 57) : Ev (fun k => dioramaref08_number.l0 k s n i) (-1) := by
  refine Ev.step (f := fun _ => some (-1)) (fun k => ?_) (Ev.now _)
  simp only [dioramaref08_number.l0]
  rw [if_pos hi, if_pos i0]
  by_cases a : bt s i < 48
  · rw [if_pos a]
  · rw [if_neg a, if_pos (by omega)]
theorem number_end {s : ByteArray} {n i : Int} (hi : ¬ i < s.size) : Ev (fun k => dioramaref08_number.l0 k s n i) n := by
  refine Ev.step (f := fun _ => some n) (fun k => ?_) (Ev.now _)
  simp only [dioramaref08_number.l0]
  rw [if_neg hi]
def isD (c : Int) : Prop := 48 ≤ c ∧ c ≤ 57
theorem number2 {s : ByteArray} (hs : s.size = 2) : (isD (bt s 0) ∧ isD (bt s 1) ∧ Ev (fun k => dioramaref08_number.f k s) (10 * (bt s 0 - 48) + (bt s 1 - 48))) ∨ (¬ (isD (bt s 0) ∧ isD (bt s 1)) ∧ Ev (fun k => dioramaref08_number.f k s) (-1)) := by
  unfold dioramaref08_number.f
  by_cases a : isD (bt s 0)
  · obtain ⟨a0, a1⟩ := a
    by_cases b : isD (bt s 1)
    · obtain ⟨b0, b1⟩ := b
      refine .inl ⟨⟨a0, a1⟩, ⟨b0, b1⟩, ?_⟩
      refine number_step 1 rfl (by omega) (by omega) (by omega) (by omega) (by omega) a0 a1 ?_
      refine number_step 2 rfl (by omega) (by omega) (by omega) (by omega) (by omega) b0 b1 ?_
      have := number_end (s := s) (n := 10 * (bt s 0 - 48) + (bt s 1 - 48)) (i := 2) (by omega)
      simpa using this
    · refine .inr ⟨fun q => b q.2, ?_⟩
      refine number_step 1 rfl (by omega) (by omega) (by omega) (by omega) (by omega) a0 a1 ?_
      exact number_bad (by omega) (by omega) (by unfold isD at b; omega)
  · exact .inr ⟨fun q => a q.1, number_bad (by omega) (by omega) (by unfold isD at a; omega)⟩
theorem number4 {s : ByteArray} (hs : s.size = 4) : (isD (bt s 0) ∧ isD (bt s 1) ∧ isD (bt s 2) ∧ isD (bt s 3) ∧ Ev (fun k => dioramaref08_number.f k s) (1000 * (bt s 0 - 48) + 100 * (bt s 1 - 48) + 10 * (bt s 2 - 48) + (bt s 3 - 48))) ∨ (¬ (isD (bt s 0) ∧ isD (bt s 1) ∧ isD (bt s 2) ∧ isD (bt s 3)) ∧ Ev (fun k => dioramaref08_number.f k s) (-1)) := by
  unfold dioramaref08_number.f
  by_cases a : isD (bt s 0)
  · obtain ⟨a0, a1⟩ := a
    by_cases b : isD (bt s 1)
    · obtain ⟨b0, b1⟩ := b
      by_cases c : isD (bt s 2)
      · obtain ⟨c0, c1⟩ := c
        by_cases d : isD (bt s 3)
        · obtain ⟨d0, d1⟩ := d
          refine .inl ⟨⟨a0, a1⟩, ⟨b0, b1⟩, ⟨c0, c1⟩, ⟨d0, d1⟩, ?_⟩
          refine number_step 1 rfl (by omega) (by omega) (by omega) (by omega) (by omega) a0 a1 ?_
          refine number_step 2 rfl (by omega) (by omega) (by omega) (by omega) (by omega) b0 b1 ?_
          refine number_step 3 rfl (by omega) (by omega) (by omega) (by omega) (by omega) c0 c1 ?_
          refine number_step 4 rfl (by omega) (by omega) (by omega) (by omega) (by omega) d0 d1 ?_
          have := number_end (s := s) (n := 10 * (10 * (10 * (10 * 0 + (bt s 0 - 48)) + (bt s 1 - 48)) + (bt s 2 - 48)) + (bt s 3 - 48)) (i := 4) (by omega)
          rw [show 1000 * (bt s 0 - 48) + 100 * (bt s 1 - 48) + 10 * (bt s 2 - 48) + (bt s 3 - 48) = 10 * (10 * (10 * (10 * 0 + (bt s 0 - 48)) + (bt s 1 - 48)) + (bt s 2 - 48)) + (bt s 3 - 48) by omega]
          exact this
        · refine .inr ⟨fun q => d q.2.2.2, ?_⟩
          refine number_step 1 rfl (by omega) (by omega) (by omega) (by omega) (by omega) a0 a1 ?_
          refine number_step 2 rfl (by omega) (by omega) (by omega) (by omega) (by omega) b0 b1 ?_
          refine number_step 3 rfl (by omega) (by omega) (by omega) (by omega) (by omega) c0 c1 ?_
          exact number_bad (by omega) (by omega) (by unfold isD at d; omega)
      · refine .inr ⟨fun q => c q.2.2.1, ?_⟩
        refine number_step 1 rfl (by omega) (by omega) (by omega) (by omega) (by omega) a0 a1 ?_
        refine number_step 2 rfl (by omega) (by omega) (by omega) (by omega) (by omega) b0 b1 ?_
        exact number_bad (by omega) (by omega) (by unfold isD at c; omega)
    · refine .inr ⟨fun q => b q.2.1, ?_⟩
      refine number_step 1 rfl (by omega) (by omega) (by omega) (by omega) (by omega) a0 a1 ?_
      exact number_bad (by omega) (by omega) (by unfold isD at b; omega)
  · exact .inr ⟨fun q => a q.1, number_bad (by omega) (by omega) (by unfold isD at a; omega)⟩
theorem bt_cut (s : ByteArray) (a b : Nat) (i : Nat) (h : a + i < b) (hb : b ≤ s.size) : bt (s.extract a b) (i : Int) = bt s ((a + i : Nat) : Int) := by
  unfold bt
  have e1 : ((i : Int)).toNat < (s.extract a b).size := by rw [ByteArray.size_extract]; omega
  have e2 : (((a + i : Nat) : Int)).toNat < s.size := by omega
  rw [dif_pos e1, dif_pos e2]
  congr 2
  simp only [Int.toNat_natCast, ByteArray.getElem_extract]
theorem bt_list (s : ByteArray) (i : Nat) (h : i < s.size) : bt s (i : Int) = ((s.data.toList[i]'(by rw [Array.length_toList]; exact h)).toNat : Int) := by
  unfold bt
  rw [dif_pos (by omega)]
  rfl
theorem bt_ext {a b : ByteArray} (hs : a.size = b.size) (h : ∀ i : Nat, i < a.size → bt a (i : Int) = bt b (i : Int)) : a = b := by
  apply bext
  apply List.ext_getElem
  · rw [Array.length_toList, Array.length_toList]; exact hs
  · intro i h1 h2
    have h1' : i < a.size := by rw [Array.length_toList] at h1; exact h1
    have e := h i h1'
    rw [bt_list a i h1', bt_list b i (by omega)] at e
    exact UInt8.toNat_inj.1 (by omega)
/-- The ten bytes of a date's text. -/
theorem textB_bt (y m d : Int) : (bt (bytesA (textB y m d)) 0 = 48 + y / 1000 % 10 ∧ bt (bytesA (textB y m d)) 1 = 48 + y / 100 % 10 ∧ bt (bytesA (textB y m d)) 2 = 48 + y / 10 % 10 ∧ bt (bytesA (textB y m d)) 3 = 48 + y % 10) ∧
    bt (bytesA (textB y m d)) 4 = 45 ∧ (bt (bytesA (textB y m d)) 5 = 48 + m / 10 % 10 ∧ bt (bytesA (textB y m d)) 6 = 48 + m % 10) ∧ bt (bytesA (textB y m d)) 7 = 45 ∧ bt (bytesA (textB y m d)) 8 = 48 + d / 10 % 10 ∧ bt (bytesA (textB y m d)) 9 = 48 + d % 10 := by
  have z := textB_size y m d
  have q (i : Nat) (h : i < 10) : bt (bytesA (textB y m d)) (i : Int) = (((textB y m d)[i]'(by simp [textB]; exact h)).toNat : Int) := by
    rw [bt_list _ i (by omega)]
    simp [bytesA]
  refine ⟨⟨(q 0 (by omega)).trans ?_, (q 1 (by omega)).trans ?_, (q 2 (by omega)).trans ?_, (q 3 (by omega)).trans ?_⟩, (q 4 (by omega)).trans ?_, ⟨(q 5 (by omega)).trans ?_, (q 6 (by omega)).trans ?_⟩, (q 7 (by omega)).trans ?_, (q 8 (by omega)).trans ?_, (q 9 (by omega)).trans ?_⟩
  all_goals simp only [textB, List.getElem_cons_zero, List.getElem_cons_succ]
  all_goals first | rfl | (rw [dg_nat]; omega)

/-- The reference's Parse. -/
theorem rparse (s : ByteArray) : (∃ y m d, Date y m d ∧ s = bytesA (textB y m d) ∧ Ev (fun k => dioramaref08_Parse.f k s) (DN y m d, 0)) ∨ ((∀ y m d, Date y m d → s ≠ bytesA (textB y m d)) ∧ Ev (fun k => dioramaref08_Parse.f k s) (0, 2)) := by
  have key : ∀ y m d, Date y m d → s = bytesA (textB y m d) → s.size = 10 ∧ bt s 4 = 45 ∧ bt s 7 = 45 ∧ (isD (bt s 0) ∧ isD (bt s 1) ∧ isD (bt s 2) ∧ isD (bt s 3)) ∧ (isD (bt s 5) ∧ isD (bt s 6)) ∧ (isD (bt s 8) ∧ isD (bt s 9)) ∧
      y = 1000 * (bt s 0 - 48) + 100 * (bt s 1 - 48) + 10 * (bt s 2 - 48) + (bt s 3 - 48) ∧ m = 10 * (bt s 5 - 48) + (bt s 6 - 48) ∧ d = 10 * (bt s 8 - 48) + (bt s 9 - 48) := by
    rintro y m d h rfl
    obtain ⟨⟨b0, b1, b2, b3⟩, b4, ⟨b5, b6⟩, b7, b8, b9⟩ := textB_bt y m d
    have e := ML_bd y m
    have h1 := h.y0
    have h2 := h.y1
    have h3 := h.m0
    have h4 := h.m1
    have h5 := h.d0
    have h6 := h.d1
    unfold isD
    exact ⟨textB_size y m d, b4, b7, ⟨by omega, by omega, by omega, by omega⟩, ⟨by omega, by omega⟩, ⟨by omega, by omega⟩, by omega, by omega, by omega⟩
  unfold dioramaref08_Parse.f
  by_cases hs : s.size = 10
  rotate_left
  · exact .inr ⟨fun y m d h e => hs (key y m d h e).1, ev_neg (by omega) (Ev.now _)⟩
  have no : (∀ y m d, Date y m d → s ≠ bytesA (textB y m d)) → Ev (fun k => dioramaref08_Parse.j0 k s true) (0, 2) := fun _ => Ev.step (f := fun _ => some (0, 2)) (fun k => by simp [dioramaref08_Parse.j0]) (Ev.now _)
  by_cases h4 : bt s 4 = 45
  rotate_left
  · have hn : ∀ y m d, Date y m d → s ≠ bytesA (textB y m d) := fun y m d h e => h4 (key y m d h e).2.1
    exact .inr ⟨hn, ev_pos (by omega) (ev_pos (by omega) (ev_neg h4 (no hn)))⟩
  by_cases h7 : bt s 7 = 45
  rotate_left
  · have hn : ∀ y m d, Date y m d → s ≠ bytesA (textB y m d) := fun y m d h e => h7 (key y m d h e).2.2.1
    refine .inr ⟨hn, ev_pos (by omega) (ev_pos (by omega) (ev_pos h4 (ev_pos (by omega) ?_)))⟩
    rw [show (bt s 7 != 45) = true from bne_iff_ne.2 h7]
    exact no hn
  rw [show (bt s 7 != 45) = false from bne_eq_false_iff_eq.2 h7]
  have go {v1 v2 v3 : Int} {r : Int × Int} (e1 : Ev (fun k => dioramaref08_number.f k (s.extract 0 4)) v1) (e2 : Ev (fun k => dioramaref08_number.f k (s.extract 5 7)) v2) (e3 : Ev (fun k => dioramaref08_number.f k (s.extract 8 s.size)) v3)
      (hr : (if (dayOf v1 v2 v3).2 = 0 then ((dayOf v1 v2 v3).1, (0 : Int)) else (0, 2)) = r) :
      Ev (fun k => if (s.size : Int) = 10 then (if 4 < (s.size : Int) then (if bt s 4 = 45 then (if 7 < (s.size : Int) then (dioramaref08_Parse.j0 k s false) else none) else (dioramaref08_Parse.j0 k s true)) else none) else (some (0, 2))) r := by
    refine ev_pos (by omega) (ev_pos (by omega) (ev_pos h4 (ev_pos (by omega) ?_)))
    refine Ev.step (f := fun k => (dioramaref08_number.f k (s.extract 0 4)).bind fun t241 => (dioramaref08_number.f k (s.extract 5 7)).bind fun t242 => (dioramaref08_number.f k (s.extract 8 s.size)).bind fun t243 => (dioramaref08_Day.f k t241 t242 t243).bind fun bt244 => if bt244.2 = 0 then some (bt244.1, 0) else some (0, 2)) (fun k => ?_) ?_
    · simp only [dioramaref08_Parse.j0]
      rw [if_neg (by decide), if_pos (by omega), if_pos (by omega)]
      congr 1
      funext t
      rw [if_pos (by omega), if_pos (by omega)]
      congr 1
      funext t
      rw [if_pos (by omega)]
    · refine Ev.bind e1 (Ev.bind e2 (Ev.bind e3 (Ev.bind (rday v1 v2 v3) ?_)))
      rw [← hr]
      by_cases c : (dayOf v1 v2 v3).2 = 0
      · refine ev_pos c ?_
        rw [if_pos c]
        exact Ev.now _
      · refine ev_neg c ?_
        rw [if_neg c]
        exact Ev.now _
  have z1 : (s.extract 0 4).size = 4 := by rw [ByteArray.size_extract]; omega
  have z2 : (s.extract 5 7).size = 2 := by rw [ByteArray.size_extract]; omega
  have z3 : (s.extract 8 s.size).size = 2 := by rw [ByteArray.size_extract]; omega
  have a0 : bt (s.extract 0 4) 0 = bt s 0 := bt_cut s 0 4 0 (by omega) (by omega)
  have a1 : bt (s.extract 0 4) 1 = bt s 1 := bt_cut s 0 4 1 (by omega) (by omega)
  have a2 : bt (s.extract 0 4) 2 = bt s 2 := bt_cut s 0 4 2 (by omega) (by omega)
  have a3 : bt (s.extract 0 4) 3 = bt s 3 := bt_cut s 0 4 3 (by omega) (by omega)
  have a5 : bt (s.extract 5 7) 0 = bt s 5 := bt_cut s 5 7 0 (by omega) (by omega)
  have a6 : bt (s.extract 5 7) 1 = bt s 6 := bt_cut s 5 7 1 (by omega) (by omega)
  have a8 : bt (s.extract 8 s.size) 0 = bt s 8 := bt_cut s 8 s.size 0 (by omega) (by omega)
  have a9 : bt (s.extract 8 s.size) 1 = bt s 9 := bt_cut s 8 s.size 1 (by omega) (by omega)
  have any2 : ∃ v, Ev (fun k => dioramaref08_number.f k (s.extract 5 7)) v := by rcases number2 z2 with q | q; exact ⟨_, q.2.2⟩; exact ⟨_, q.2⟩
  have any3 : ∃ v, Ev (fun k => dioramaref08_number.f k (s.extract 8 s.size)) v := by rcases number2 z3 with q | q; exact ⟨_, q.2.2⟩; exact ⟨_, q.2⟩
  obtain ⟨w2, e2⟩ := any2
  obtain ⟨w3, e3⟩ := any3
  rcases number4 z1 with ⟨i0, i1, i2, i3, e1⟩ | ⟨hno, e1⟩
  rotate_left
  · rw [a0, a1, a2, a3] at hno
    exact .inr ⟨fun y m d h e => hno (key y m d h e).2.2.2.1, go e1 e2 e3 (by rw [dayOf_no (fun h => by have := h.y0; omega)]; rfl)⟩
  rcases number2 z2 with ⟨i5, i6, e2'⟩ | ⟨hno, e2'⟩
  rotate_left
  · rw [a5, a6] at hno
    exact .inr ⟨fun y m d h e => hno (key y m d h e).2.2.2.2.1, go e1 e2' e3 (by rw [dayOf_no (fun h => by have := h.m0; omega)]; rfl)⟩
  rcases number2 z3 with ⟨i8, i9, e3'⟩ | ⟨hno, e3'⟩
  rotate_left
  · rw [a8, a9] at hno
    exact .inr ⟨fun y m d h e => hno (key y m d h e).2.2.2.2.2.1, go e1 e2' e3' (by rw [dayOf_no (fun h => by have := h.d0; omega)]; rfl)⟩
  rw [a0, a1, a2, a3] at e1
  rw [a5, a6] at e2'
  rw [a8, a9] at e3'
  rw [a0] at i0
  rw [a1] at i1
  rw [a2] at i2
  rw [a3] at i3
  rw [a5] at i5
  rw [a6] at i6
  rw [a8] at i8
  rw [a9] at i9
  generalize hy : 1000 * (bt s 0 - 48) + 100 * (bt s 1 - 48) + 10 * (bt s 2 - 48) + (bt s 3 - 48) = y at *
  generalize hm : 10 * (bt s 5 - 48) + (bt s 6 - 48) = m at *
  generalize hd : 10 * (bt s 8 - 48) + (bt s 9 - 48) = d at *
  unfold isD at i0 i1 i2 i3 i5 i6 i8 i9
  by_cases h : Date y m d
  · refine .inl ⟨y, m, d, h, ?_, go e1 e2' e3' (by rw [dayOf_yes h]; rfl)⟩
    obtain ⟨⟨b0, b1, b2, b3⟩, b4, ⟨b5, b6⟩, b7, b8, b9⟩ := textB_bt y m d
    refine bt_ext (by rw [textB_size]; exact hs) (fun i hi => ?_)
    have hc : i = 0 ∨ i = 1 ∨ i = 2 ∨ i = 3 ∨ i = 4 ∨ i = 5 ∨ i = 6 ∨ i = 7 ∨ i = 8 ∨ i = 9 := by omega
    rcases hc with rfl | rfl | rfl | rfl | rfl | rfl | rfl | rfl | rfl | rfl
    · show bt s 0 = bt _ 0; omega
    · show bt s 1 = bt _ 1; omega
    · show bt s 2 = bt _ 2; omega
    · show bt s 3 = bt _ 3; omega
    · show bt s 4 = bt _ 4; omega
    · show bt s 5 = bt _ 5; omega
    · show bt s 6 = bt _ 6; omega
    · show bt s 7 = bt _ 7; omega
    · show bt s 8 = bt _ 8; omega
    · show bt s 9 = bt _ 9; omega
  · refine .inr ⟨fun y' m' d' h' e => h ?_, go e1 e2' e3' (by rw [dayOf_no h]; rfl)⟩
    have := key y' m' d' h' e
    obtain ⟨_, _, _, _, _, _, e1, e2, e3⟩ := this
    rw [← e1, ← e2, ← e3]
    exact h'
/-- Both give the same. -/
theorem parses (s : ByteArray) : ∃ r, Ev (fun k => calendar_Parse.f k s) r ∧ Ev (fun k => dioramaref08_Parse.f k s) r := by
  rcases rparse s with ⟨y, m, d, h, rfl, e⟩ | ⟨hn, e⟩
  · exact ⟨_, pparse_yes h, e⟩
  · exact ⟨_, pparse_no hn, e⟩
end Go.Proofs.YtlfgjpidamkpdaaDoor.Cal
