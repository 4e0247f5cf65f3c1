/- Text of the program and of the reference come to the same ten bytes. -/
import Derived.Test.YtlfgjpidamkpdaaDoorM2
import Derived.Lib.Strings
namespace Go.Proofs.YtlfgjpidamkpdaaDoor.Cal
open Go.RowKit Go.Proofs.YtlfgjpidamkpdaaDoor.Pc Go.Proofs.YtlfgjpidamkpdaaDoorW.PrintWords Go.Proofs.YtlfgjpidamkpdaaDoorW.PrintLast
set_option linter.unusedVariables false
set_option linter.unusedSimpArgs false

theorem bext {a b : ByteArray} (h : a.data.toList = b.data.toList) : a = b := by
  cases a; cases b
  simp at h
  rw [h]
/-- the last digit of a number -/
def dg (n : Int) : UInt8 := UInt8.ofNat (48 + (n % 10).toNat)
theorem dg_nat (n : Int) : (dg n).toNat = 48 + (n % 10).toNat := by
  unfold dg
  rw [UInt8.toNat_ofNat']
  omega
/-- the ten bytes of a date -/
def textB (y m d : Int) : List UInt8 := [dg (y / 1000), dg (y / 100), dg (y / 10), dg y, 45, dg (m / 10), dg m, 45, dg (d / 10), dg d]
def bytesA (l : List UInt8) : ByteArray := ⟨l.toArray⟩
theorem bytesA_list (l : List UInt8) : (bytesA l).data.toList = l := by simp [bytesA]
theorem bytesA_size (l : List UInt8) : (bytesA l).size = l.length := by simp [bytesA, ByteArray.size]

theorem dec4 (u : Nat) (h0 : 1000 ≤ u) (h1 : u < 10000) : Lib.decDigits u = [dg (u / 1000), dg (u / 100), dg (u / 10), dg u] := by
  rw [Lib.decDigits, dif_neg (by omega), Lib.decDigits, dif_neg (by omega), Lib.decDigits, dif_neg (by omega), Lib.decDigits, dif_pos (by omega)]
  simp only [dg, List.cons_append, List.nil_append, List.cons.injEq, and_true]
  refine ⟨?_, ?_, ?_, ?_⟩ <;> (congr 1 <;> omega)
theorem dec3 (u : Nat) (h0 : 100 ≤ u) (h1 : u < 1000) : Lib.decDigits u = [dg (u / 100), dg (u / 10), dg u] := by
  rw [Lib.decDigits, dif_neg (by omega), Lib.decDigits, dif_neg (by omega), Lib.decDigits, dif_pos (by omega)]
  simp only [dg, List.cons_append, List.nil_append, List.cons.injEq, and_true]
  refine ⟨?_, ?_, ?_⟩ <;> (congr 1 <;> omega)
theorem itoa_y {y : Int} (h0 : 1000 ≤ y) (h1 : y ≤ 9999) : Lib.itoa y = [dg (y / 1000), dg (y / 100), dg (y / 10), dg y] := by
  unfold Lib.itoa
  rw [if_neg (by omega), dec4 _ (by omega) (by omega)]
  rw [show ((y.toNat : Nat) : Int) = y by omega]
theorem two_n {n : Int} (h0 : 0 ≤ n) (h1 : n ≤ 99) : (twoS n).data.toList = [dg (n / 10), dg n] := by
  have e : Lib.itoa (100 + n) = [dg ((100 + n) / 100), dg ((100 + n) / 10), dg (100 + n)] := by
    unfold Lib.itoa
    rw [if_neg (by omega), dec3 _ (by omega) (by omega)]
    rw [show (((100 + n).toNat : Nat) : Int) = 100 + n by omega]
  unfold twoS
  rw [Lib.extract_data, e]
  simp [ByteArray.size]
  unfold dg
  constructor <;> (congr 2 <;> omega)
theorem textS_B {y m d : Int} (h : Date y m d) : textS y m d = bytesA (textB y m d) := by
  have e := ML_bd y m
  apply bext
  unfold textS itoaS
  simp only [ByteArray.data_append, Array.toList_append]
  rw [itoa_y (by have := h.y0; omega) (by have := h.y1; omega), two_n (by have := h.m0; omega) (by have := h.m1; omega), two_n (by have := h.d0; omega) (by have := h.d1; omega)]
  simp [bytesA, textB]
theorem ptext {y m d : Int} (h : Date y m d) : Ev (fun k => calendar_Text.f k (DN y m d)) (bytesA (textB y m d)) := by
  have b := h.known
  have e := ML_bd y m
  have c := civil h
  have t : textOf y m d = some (bytesA (textB y m d)) := by
    unfold textOf
    rw [if_pos ⟨⟨by have := h.y0; omega, by have := h.y1; omega⟩, ⟨by have := h.m0; omega, by have := h.m1; omega⟩, ⟨by have := h.d0; omega, by have := h.d1; omega⟩⟩, textS_B h]
  refine Ev.congr (f := fun k => (calendar_Civil.f k (DN y m d)).bind fun b => textOf b.1 b.2.1 b.2.2) (fun k => ?_) (Ev.bind c ?_)
  · unfold calendar_Text.f
    rw [known_f b.1 b.2]
    rfl
  · exact Ev.congr (fun k => t) (Ev.now _)
theorem ptext_no {d : Int} (h : ¬ (-146097 ≤ d ∧ d < 146097)) (k : Nat) : calendar_Text.f k d = some (⟨#[]⟩ : ByteArray) := by
  unfold calendar_Text.f
  rw [known_no h]
  rfl
/-! ### digits of the reference -/
theorem dgl {n : Int} (h0 : 0 ≤ n) (h1 : n ≤ 99999) : (wrap64 (48 + Int.tmod n 10)) % 256 = 48 + n % 10 := by
  rw [tmod_nn h0, w64 (by omega) (by omega)]
  omega
theorem digits_step {n many i : Int} (xs : List Int) (h0 : 0 ≤ n) (h1 : n ≤ 99999) (hi : i < many) (i0 : 0 ≤ i) (hm : many ≤ 4) (hx : xs.length ≤ 10) {r : ByteArray}
    (h : Ev (fun k => dioramaref08_digits.l0 k (n / 10) many ((48 + n % 10) :: xs) (i + 1)) r) : Ev (fun k => dioramaref08_digits.l0 k n many xs i) r := by
  refine Ev.step (fun k => ?_) h
  simp only [dioramaref08_digits.l0]
  rw [if_pos hi]
  simp only [Option.bind_some]
  rw [dgl h0 h1, if_pos (by simp; omega), tdiv_nn h0, w64 (by omega) (by omega), w64 (by omega) (by omega)]
  rfl
theorem digits_end {n many i : Int} (xs : List Int) (hi : many ≤ i) : Ev (fun k => dioramaref08_digits.l0 k n many xs i) (strOfNums xs) := by
  refine Ev.step (f := fun _ => some (strOfNums xs)) (fun k => ?_) (Ev.now _)
  simp only [dioramaref08_digits.l0]
  rw [if_neg (by omega)]
theorem digits4 {n : Int} (h0 : 0 ≤ n) (h1 : n ≤ 9999) : Ev (fun k => dioramaref08_digits.f k n 4) (bytesA [dg (n / 1000), dg (n / 100), dg (n / 10), dg n]) := by
  have e : strOfNums [48 + n / 10 / 10 / 10 % 10, 48 + n / 10 / 10 % 10, 48 + n / 10 % 10, 48 + n % 10] = bytesA [dg (n / 1000), dg (n / 100), dg (n / 10), dg n] := by
    show bytesA _ = bytesA _
    congr 1
    simp only [List.map_cons, List.map_nil, List.cons.injEq, and_true, dg]
    refine ⟨?_, ?_, ?_, ?_⟩ <;> (congr 1 <;> omega)
  rw [← e]
  unfold dioramaref08_digits.f
  refine digits_step _ (by omega) (by omega) (by omega) (by omega) (by omega) (by simp) ?_
  refine digits_step _ (by omega) (by omega) (by omega) (by omega) (by omega) (by simp) ?_
  refine digits_step _ (by omega) (by omega) (by omega) (by omega) (by omega) (by simp) ?_
  refine digits_step _ (by omega) (by omega) (by omega) (by omega) (by omega) (by simp) ?_
  exact digits_end _ (by omega)
theorem digits2 {n : Int} (h0 : 0 ≤ n) (h1 : n ≤ 99) : Ev (fun k => dioramaref08_digits.f k n 2) (bytesA [dg (n / 10), dg n]) := by
  have e : strOfNums [48 + n / 10 % 10, 48 + n % 10] = bytesA [dg (n / 10), dg n] := by
    show bytesA _ = bytesA _
    congr 1
    simp only [List.map_cons, List.map_nil, List.cons.injEq, and_true, dg]
    refine ⟨?_, ?_⟩ <;> (congr 1 <;> omega)
  rw [← e]
  unfold dioramaref08_digits.f
  refine digits_step _ (by omega) (by omega) (by omega) (by omega) (by omega) (by simp) ?_
  refine digits_step _ (by omega) (by omega) (by omega) (by omega) (by omega) (by simp) ?_
  exact digits_end _ (by omega)
theorem rtext {y m d : Int} (h : Date y m d) : Ev (fun k => dioramaref08_Text.f k (DN y m d)) (bytesA (textB y m d)) := by
  have b := h.known
  have e := ML_bd y m
  have c := refCivil h
  have t4 := digits4 (n := y) (by have := h.y0; omega) (by have := h.y1; omega)
  have t2 := digits2 (n := m) (by have := h.m0; omega) (by have := h.m1; omega)
  have t3 := digits2 (n := d) (by have := h.d0; omega) (by have := h.d1; omega)
  have z : (((bytesA [dg (y / 1000), dg (y / 100), dg (y / 10), dg y] ++ (⟨#[45]⟩ : ByteArray)) ++ bytesA [dg (m / 10), dg m]) ++ (⟨#[45]⟩ : ByteArray)) ++ bytesA [dg (d / 10), dg d] = bytesA (textB y m d) := by
    apply bext
    simp [bytesA, textB]
  unfold dioramaref08_Text.f
  rw [Known_f b.1 b.2]
  refine ev_some (ev_pos rfl ?_)
  refine Ev.bind c ?_
  refine Ev.bind t4 ?_
  refine ev_pos (by simp [bytesA_size]) ?_
  refine Ev.bind t2 ?_
  refine ev_pos (by simp [bytesA_size, bsize1]) ?_
  refine ev_pos (by simp [bytesA_size, bsize1]) ?_
  refine Ev.bind t3 ?_
  refine ev_pos (by simp [bytesA_size, bsize1]) ?_
  rw [z]
  exact Ev.now _
theorem rtext_no {d : Int} (h : ¬ (-146097 ≤ d ∧ d < 146097)) (k : Nat) : dioramaref08_Text.f k d = some (⟨#[]⟩ : ByteArray) := by
  unfold dioramaref08_Text.f
  rw [Known_no h]
  rfl
end Go.Proofs.YtlfgjpidamkpdaaDoor.Cal
