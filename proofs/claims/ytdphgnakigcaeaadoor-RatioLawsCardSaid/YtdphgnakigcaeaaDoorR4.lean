/- The examples that every law of fractions asks for. -/
import Derived.Test.YtdphgnakigcaeaaDoorR3
namespace Go.Proofs.YtdphgnakigcaeaaDoor.Rat
open Go.RowKit Go.Proofs.YtdphgnakigcaeaaDoor.Pc Go.Proofs.YtdphgnakigcaeaaDoorW.PrintWords Go.Proofs.YtdphgnakigcaeaaDoorW.PrintLast
set_option linter.unusedVariables false
set_option linter.unusedSimpArgs false
set_option maxRecDepth 20000
theorem mk1 : mk 6 (-4) = (-3, 2, 0) := by decide
theorem ad1 : add 1 6 1 10 = (4, 15, 0) := by decide
theorem mu1 : mul 2 3 9 4 = (3, 2, 0) := by decide
theorem ad2 : add 2147483648 1 1 1 = (0, 0, 5) := by decide
theorem fl1 : flo (-3) 2 = -2 := by decide
theorem fl2 : flo 4 15 = 0 := by decide
theorem dec1 (u : Nat) (h : u < 10) : Lib.decDigits u = [UInt8.ofNat (48 + u)] := by rw [Lib.decDigits, dif_pos h]
theorem itoa_f {n : Int} (h : I64 n) : strconv_Itoa.f n = some ⟨(Lib.itoa n).toArray⟩ := by
  unfold strconv_Itoa.f
  exact if_pos h
theorem itoa_one (n : Nat) (h : n < 10) : strconv_Itoa.f (n : Int) = some ⟨#[UInt8.ofNat (48 + n)]⟩ := by
  rw [itoa_f (i64_of (by omega) (by omega))]
  unfold Lib.itoa
  rw [if_neg (by omega), dec1 _ (by omega)]
  rfl
theorem itoa_m3 : strconv_Itoa.f (-3) = some ⟨#[45, 51]⟩ := by
  rw [itoa_f (i64_of (by omega) (by omega))]
  unfold Lib.itoa
  rw [if_pos (by omega), dec1 _ (by decide)]
  rfl
theorem text24 : ratio_Text.f 2 4 = some (⟨#[]⟩ : ByteArray) := by
  unfold ratio_Text.f
  rw [pvalid (by unfold I64; omega) (by unfold I64; omega), decide_eq_false (by decide)]
  rfl
theorem text01 : ratio_Text.f 0 1 = some (⟨#[48]⟩ : ByteArray) := by
  unfold ratio_Text.f
  rw [pvalid (by unfold I64; omega) (by unfold I64; omega), decide_eq_true (by decide)]
  have e := itoa_one 0 (by omega)
  simp only [Option.bind_some, if_true]
  rw [if_pos (by decide), show (0 : Int) = ((0 : Nat) : Int) from rfl, e]
  rfl
theorem text81 : ratio_Text.f 8 1 = some (⟨#[56]⟩ : ByteArray) := by
  unfold ratio_Text.f
  rw [pvalid (by unfold I64; omega) (by unfold I64; omega), decide_eq_true (by decide)]
  have e := itoa_one 8 (by omega)
  simp only [Option.bind_some, if_true]
  rw [if_pos (by decide), show (8 : Int) = ((8 : Nat) : Int) from rfl, e]
  rfl
theorem text32 : ratio_Text.f (-3) 2 = some (⟨#[45, 51, 47, 50]⟩ : ByteArray) := by
  unfold ratio_Text.f
  rw [pvalid (by unfold I64; omega) (by unfold I64; omega), decide_eq_true (by decide)]
  have e := itoa_one 2 (by omega)
  have e2 : strconv_Itoa.f 2 = some ⟨#[UInt8.ofNat (48 + 2)]⟩ := e
  simp only [Option.bind_some, if_true]
  rw [if_neg (by decide), itoa_m3, e2]
  decide
theorem parse1 : ratio_Parse.f (⟨#[50, 47, 52]⟩ : ByteArray) = some (0, 0, 2) := by
  unfold ratio_Parse.f
  rw [if_pos (by decide), show numOf (cutFirst (⟨#[50, 47, 52]⟩ : ByteArray)) = some 2 by decide, show numOf (cutNumber (⟨#[50, 47, 52]⟩ : ByteArray)) = some 4 by decide]
  simp only
  rw [if_neg (by decide), text24]
  simp only [Option.bind_some]
  rw [ByteArray.toList_eq, ByteArray.toList_eq, if_neg (by decide)]
theorem parse2 : ratio_Parse.f (⟨#[45, 48]⟩ : ByteArray) = some (0, 0, 2) := by
  unfold ratio_Parse.f
  rw [if_pos (by decide), show numOf (cutFirst (⟨#[45, 48]⟩ : ByteArray)) = some 0 by decide, show numOf (cutNumber (⟨#[45, 48]⟩ : ByteArray)) = some 1 by decide]
  simp only
  rw [if_neg (by decide), text01]
  simp only [Option.bind_some]
  rw [ByteArray.toList_eq, ByteArray.toList_eq, if_neg (by decide)]
theorem lives : Ev (fun k => dioramalaw04_lives.f k) true := by
  have e1 := pmake (p := 6) (q := -4) (by unfold I64; omega) (by unfold I64; omega)
  have e2 := padd (a := 1) (b := 6) (c := 1) (d := 10) (by unfold I64; omega) (by unfold I64; omega) (by unfold I64; omega) (by unfold I64; omega)
  have e3 := pmul (a := 2) (b := 3) (c := 9) (d := 4) (by unfold I64; omega) (by unfold I64; omega) (by unfold I64; omega) (by unfold I64; omega)
  have e4 := padd (a := 2147483648) (b := 1) (c := 1) (d := 1) (by unfold I64; omega) (by unfold I64; omega) (by unfold I64; omega) (by unfold I64; omega)
  have e5 := pflo (a := -3) (b := 2) (by unfold I64; omega) (by unfold I64; omega)
  have e6 := pflo (a := 4) (b := 15) (by unfold I64; omega) (by unfold I64; omega)
  rw [mk1] at e1
  rw [ad1] at e2
  rw [mu1] at e3
  rw [ad2] at e4
  rw [fl1] at e5
  rw [fl2] at e6
  unfold dioramalaw04_lives.f
  rw [parse1, parse2]
  refine Ev.bind e1 (Ev.bind e2 (Ev.bind e3 (ev_some (ev_some (Ev.bind e4 (ev_pos rfl (ev_pos rfl (ev_pos rfl (ev_pos rfl (ev_pos rfl ?_))))))))))
  refine Ev.open ⟨_, fun k => by simp only [dioramalaw04_lives.j0]; rfl, ?_⟩
  refine ev_neg (by decide) (ev_neg (by decide) (ev_neg (by decide) ?_))
  refine Ev.open ⟨_, fun k => by simp only [dioramalaw04_lives.j1]; rfl, ?_⟩
  refine ev_neg (by decide) (Ev.bind e5 (ev_pos rfl (Ev.bind e6 (ev_pos rfl ?_))))
  rw [text32, text81]
  refine ev_some (ev_pos (by rw [ByteArray.toList_eq]) (ev_some ?_))
  have : ((⟨#[56]⟩ : ByteArray).toList == ([56] : List UInt8)) = true := by rw [ByteArray.toList_eq]; decide
  rw [this]
  exact Ev.now _
theorem lives' : Ev (fun k => (dioramalaw04_lives.f k).bind fun t => some t) true := Ev.bind lives (Ev.now _)
end Go.Proofs.YtdphgnakigcaeaaDoor.Rat
