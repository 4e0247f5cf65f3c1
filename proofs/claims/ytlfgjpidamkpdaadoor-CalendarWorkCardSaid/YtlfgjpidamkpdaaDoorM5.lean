/- The numbers that the laws draw: a known day out of any number; and the examples of the chapter hold. -/
import Derived.Test.YtlfgjpidamkpdaaDoorM4
import Derived.Test.YtlfgjpidamkpdaaDoorPc5
import Derived.Test.YtlfgjpidamkpdaaDoorPc6
namespace Go.Proofs.YtlfgjpidamkpdaaDoor.Cal
open Go.RowKit Go.Proofs.YtlfgjpidamkpdaaDoor.Pc Go.Proofs.YtlfgjpidamkpdaaDoorW.PrintWords Go.Proofs.YtlfgjpidamkpdaaDoorW.PrintLast
set_option linter.unusedVariables false
set_option linter.unusedSimpArgs false

theorem bd64 {n : Int} (h : (Lit.int .i64 n).wf = true) : -9223372036854775808 ≤ n ∧ n ≤ 9223372036854775807 := by
  have e1 : IntKind.i64.min = -9223372036854775808 := rfl
  have e2 : IntKind.i64.max = 9223372036854775807 := rfl
  simp [Lit.wf, e1, e2] at h
  omega
def ar (n most : Int) : Int := if n < 0 then (-(n + 1)) % most else n % most
theorem around {n most : Int} (h : (Lit.int .i64 n).wf = true) (m0 : 1 ≤ most) : dioramaref01_Around.f n most = some (ar n most) := by
  have b := bd64 h
  unfold dioramaref01_Around.f ar
  by_cases c : n < 0
  · rw [if_pos c, if_neg (by omega), if_neg (by omega), if_pos c, w64 (x := n + 1) (by omega) (by omega), w64 (by omega) (by omega), tmod_nn (by omega)]
  · rw [if_neg c, if_neg (by omega), if_neg (by omega), if_neg c, tmod_nn (by omega)]
theorem ar_bd (n most : Int) (m0 : 1 ≤ most) : 0 ≤ ar n most ∧ ar n most < most := by
  unfold ar
  split
  · exact ⟨Int.emod_nonneg _ (by omega), Int.emod_lt_of_pos _ (by omega)⟩
  · exact ⟨Int.emod_nonneg _ (by omega), Int.emod_lt_of_pos _ (by omega)⟩
theorem wf64 {n : Int} (h0 : -9223372036854775808 ≤ n) (h1 : n ≤ 9223372036854775807) : (Lit.int .i64 n).wf = true := by
  have e1 : IntKind.i64.min = -9223372036854775808 := rfl
  have e2 : IntKind.i64.max = 9223372036854775807 := rfl
  simp [Lit.wf, e1, e2]
  omega
theorem tdiv_bd {n c : Int} (h : (Lit.int .i64 n).wf = true) (c0 : 2 ≤ c) : -9223372036854775808 ≤ Int.tdiv n c ∧ Int.tdiv n c ≤ 9223372036854775807 := by
  have b := bd64 h
  rcases Int.le_total 0 n with q | q
  · rw [tdiv_nn q]
    have e1 := Int.ediv_nonneg q (show (0 : Int) ≤ c by omega)
    have e2 := Int.ediv_le_self c q
    omega
  · have e : Int.tdiv n c = -(Int.tdiv (-n) c) := by rw [Int.neg_tdiv, Int.neg_neg]
    rw [e, tdiv_nn (by omega)]
    have e1 := Int.ediv_nonneg (show 0 ≤ -n by omega) (show (0 : Int) ≤ c by omega)
    have e2 := Int.ediv_le_self c (show 0 ≤ -n by omega)
    omega
/-- Some: a known day. -/
theorem someDay {n : Int} (h : (Lit.int .i64 n).wf = true) : ∃ d, (-146097 ≤ d ∧ d < 146097) ∧ Ev (fun k => dioramaref08_Some.f k n) d := by
  have b := bd64 h
  have d6 := tdiv_bd h (c := 6) (by omega)
  have d48 := tdiv_bd h (c := 4800) (by omega)
  have a2 := ar_bd (Int.tdiv n 4800) 2 (by omega)
  unfold dioramaref08_Some.f
  rw [around h (by omega), around h (by omega)]
  by_cases c0 : ar n 6 = 0
  · have r := ar_bd (Int.tdiv n 6) 800 (by omega)
    have hd : Date (1600 + ar (Int.tdiv n 6) 800) 3 1 := ⟨by omega, by omega, by omega, by omega, by omega, by have := ML_bd (1600 + ar (Int.tdiv n 6) 800) 3; omega⟩
    have k := hd.known
    have e := hd.year
    have f := F_le (y := 1600) (z := 1600 + ar (Int.tdiv n 6) 800) (by omega) (by omega)
    rw [F_1600] at f
    have g := CM_le (1600 + ar (Int.tdiv n 6) 800) 2 3 (by omega) (by omega) (by omega)
    have g2 : CM (1600 + ar (Int.tdiv n 6) 800) 2 = 31 := by simp [CM]
    have dn : DN (1600 + ar (Int.tdiv n 6) 800) 3 1 = F (1600 + ar (Int.tdiv n 6) 800) + CM (1600 + ar (Int.tdiv n 6) 800) 3 + 1 - 1 := rfl
    refine ⟨DN (1600 + ar (Int.tdiv n 6) 800) 3 1 - 1 + ar (Int.tdiv n 4800) 2, by omega, ?_⟩
    refine ev_some (ev_some (ev_pos c0 ?_))
    rw [w64 (x := Int.tdiv n 6) d6.1 d6.2, around (wf64 d6.1 d6.2) (by omega)]
    refine ev_some ?_
    rw [w64 (by omega) (by omega)]
    have q := rday (1600 + ar (Int.tdiv n 6) 800) 3 1
    rw [dayOf_yes hd] at q
    refine Ev.bind q ?_
    rw [w64 (x := Int.tdiv n 4800) d48.1 d48.2, around (wf64 d48.1 d48.2) (by omega)]
    refine ev_some ?_
    rw [w64 (x := DN (1600 + ar (Int.tdiv n 6) 800) 3 1 - 1) (by omega) (by omega), w64 (by omega) (by omega)]
    exact Ev.now _
  by_cases c1 : ar n 6 = 1
  · have r := ar_bd (Int.tdiv n 6) 799 (by omega)
    have hd : Date (1601 + ar (Int.tdiv n 6) 799) 1 1 := ⟨by omega, by omega, by omega, by omega, by omega, by have := ML_bd (1601 + ar (Int.tdiv n 6) 799) 1; omega⟩
    have k := hd.known
    have f := F_lt (y := 1600) (z := 1601 + ar (Int.tdiv n 6) 799) (by omega) (by omega)
    rw [F_1600] at f
    have dn : DN (1601 + ar (Int.tdiv n 6) 799) 1 1 = F (1601 + ar (Int.tdiv n 6) 799) := by unfold DN; rw [CM_1]; omega
    refine ⟨DN (1601 + ar (Int.tdiv n 6) 799) 1 1 - 1 + ar (Int.tdiv n 4800) 2, by omega, ?_⟩
    refine ev_some (ev_some (ev_neg c0 (ev_pos c1 ?_)))
    rw [w64 (x := Int.tdiv n 6) d6.1 d6.2, around (wf64 d6.1 d6.2) (by omega)]
    refine ev_some ?_
    rw [w64 (by omega) (by omega)]
    have q := rday (1601 + ar (Int.tdiv n 6) 799) 1 1
    rw [dayOf_yes hd] at q
    refine Ev.bind q ?_
    rw [w64 (x := Int.tdiv n 4800) d48.1 d48.2, around (wf64 d48.1 d48.2) (by omega)]
    refine ev_some ?_
    rw [w64 (x := DN (1601 + ar (Int.tdiv n 6) 799) 1 1 - 1) (by omega) (by omega), w64 (by omega) (by omega)]
    exact Ev.now _
  by_cases c2 : ar n 6 = 2
  · have r := ar_bd (Int.tdiv n 6) 6 (by omega)
    refine ⟨rd [-146097, 146096, 0, -1, -146096, 146095] (ar (Int.tdiv n 6) 6), ?_, ?_⟩
    · have hc : ar (Int.tdiv n 6) 6 = 0 ∨ ar (Int.tdiv n 6) 6 = 1 ∨ ar (Int.tdiv n 6) 6 = 2 ∨ ar (Int.tdiv n 6) 6 = 3 ∨ ar (Int.tdiv n 6) 6 = 4 ∨ ar (Int.tdiv n 6) 6 = 5 := by omega
      rcases hc with e | e | e | e | e | e <;> rw [e] <;> decide
    · refine ev_some (ev_some (ev_neg c0 (ev_neg c1 (ev_pos c2 (ev_some ?_)))))
      rw [w64 (x := Int.tdiv n 6) d6.1 d6.2, around (wf64 d6.1 d6.2) (by omega)]
      exact ev_some (ev_pos r.1 (ev_pos (by simp; omega) (Ev.now _)))
  · have r := ar_bd n 292194 (by omega)
    refine ⟨ar n 292194 - 146097, by omega, ?_⟩
    refine ev_some (ev_some (ev_neg c0 (ev_neg c1 (ev_neg c2 ?_))))
    rw [w64 (by omega) (by omega)]
    exact Ev.now _

/-! ### The examples -/
theorem date_2024 : Date 2024 7 4 := ⟨by omega, by omega, by omega, by omega, by omega, by decide⟩
theorem date_2001 : Date 2001 1 1 := ⟨by omega, by omega, by omega, by omega, by omega, by decide⟩
theorem lives : Ev (fun k => dioramalaw08_lives.f k) true := by
  have e1 : Ev (fun k => calendar_Day.f k 2000 2 29) (59, 0) := Ev.of (calendar_Day.mono 2000 2 29) (k := 60) (by decide +kernel)
  have e2 : Ev (fun k => calendar_Day.f k 1900 2 29) (0, 5) := Ev.of (calendar_Day.mono 1900 2 29) (k := 60) (by decide +kernel)
  have e3 : Ev (fun k => calendar_Civil.f k (-1)) (1999, 12, 31) := Ev.of (calendar_Civil.mono (-1)) (k := 60) (by decide +kernel)
  have e4 : Ev (fun k => calendar_Parse.f k (⟨#[50, 48, 50, 52, 45, 48, 55, 45, 48, 52]⟩ : ByteArray)) (8951, 0) := by
    have := pparse_yes date_2024
    rwa [show bytesA (textB 2024 7 4) = (⟨#[50, 48, 50, 52, 45, 48, 55, 45, 48, 52]⟩ : ByteArray) by decide +kernel, show DN 2024 7 4 = 8951 by decide +kernel] at this
  have e5 : Ev (fun k => calendar_Local.f k 0 (-60) 0 1 1) (-1, 1380, 0) := Ev.of (calendar_Local.mono 0 (-60) 0 1 1) (k := 60) (by decide +kernel)
  have e6 : Ev (fun k => calendar_Work.f k 0 1 []) (2, 0) := Ev.of (calendar_Work.mono 0 1 []) (k := 60) (by decide +kernel)
  have e7 : Ev (fun k => calendar_Work.f k 0 1 [2]) (3, 0) := Ev.of (calendar_Work.mono 0 1 [2]) (k := 60) (by decide +kernel)
  have e8 : Ev (fun k => calendar_Moments.f k 89 30 60 60 90 300) ([], 0) := Ev.of (calendar_Moments.mono 89 30 60 60 90 300) (k := 60) (by decide +kernel)
  have e9 : Ev (fun k => calendar_Moments.f k 299 0 60 60 90 300) ([430440, 430500], 0) := Ev.of (calendar_Moments.mono 299 0 60 60 90 300) (k := 60) (by decide +kernel)
  have t : Ev (fun k => calendar_Text.f k 366) (bytesA (textB 2001 1 1)) := by
    have := ptext date_2001
    rwa [show DN 2001 1 1 = 366 by decide +kernel] at this
  have wk : calendar_Weekday.f (-1) = some 4 := by decide +kernel
  unfold dioramalaw08_lives.f
  refine Ev.bind e1 (Ev.bind e2 (Ev.bind e3 (Ev.bind e4 (Ev.bind e5 (Ev.bind e6 (Ev.bind e7 (Ev.bind e8 (Ev.bind e9 ?_))))))))
  refine ev_pos rfl (ev_pos rfl (ev_pos rfl (ev_pos rfl (ev_pos rfl (ev_pos rfl (ev_pos rfl ?_))))))
  refine Ev.step (f := fun k => (calendar_Text.f k 366).bind fun t197 => if t197.toList = [50, 48, 48, 49, 45, 48, 49, 45, 48, 49] then some true else some false) (fun k => ?_) (Ev.bind t (ev_pos (by rw [Lib.toList_data]; decide +kernel) (Ev.now _)))
  simp only [dioramalaw08_lives.j0]
  rw [wk]
  rfl
end Go.Proofs.YtlfgjpidamkpdaaDoor.Cal
