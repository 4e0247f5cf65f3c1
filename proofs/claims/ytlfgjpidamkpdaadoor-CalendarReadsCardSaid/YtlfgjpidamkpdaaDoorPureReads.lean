/- The law CalendarReads over plain numbers: both Parses give the same for every text. -/
import Derived.Test.YtlfgjpidamkpdaaDoorM5
import Derived.Test.YtlfgjpidamkpdaaDoorPc9
namespace Go.Proofs.YtlfgjpidamkpdaaDoor.Cal
open Go.RowKit Go.Proofs.YtlfgjpidamkpdaaDoor.Pc Go.Proofs.YtlfgjpidamkpdaaDoorW.PrintWords Go.Proofs.YtlfgjpidamkpdaaDoorW.PrintLast
set_option linter.unusedVariables false
set_option linter.unusedSimpArgs false

theorem cr_l0 {l : List ByteArray} (hl : l.length ≤ 100) (n : Nat) : ∀ i : Int, 0 ≤ i → i + n = l.length → Ev (fun k => dioramalaw08_CalendarReads.l0 k l i) true := by
  induction n with
  | zero =>
    intro i i0 hi
    refine Ev.step (f := fun k => (dioramalaw08_lives.f k).bind fun t => some t) (fun k => ?_) (Ev.bind lives (Ev.now _))
    simp only [dioramalaw08_CalendarReads.l0]
    rw [if_neg (by omega)]
  | succ n ih =>
    intro i i0 hi
    obtain ⟨r, p1, p2⟩ := parses (rdOf ByteArray.empty l i)
    have e := ih (i + 1) (by omega) (by omega)
    refine Ev.step (f := fun k => ((calendar_Parse.f k (rdOf ByteArray.empty l i)).bind fun bt261 => ((dioramaref08_Parse.f k (rdOf ByteArray.empty l i)).bind fun bt264 => (if bt261.1 = bt264.1 then (if bt261.2 = bt264.2 then (dioramalaw08_CalendarReads.l0 k l (i + 1)) else (some false)) else (some false))))) (fun k => ?_) ?_
    · simp only [dioramalaw08_CalendarReads.l0]
      rw [if_pos (by omega), if_pos i0, w64 (by omega) (by omega)]
    · exact Ev.bind p1 (Ev.bind p2 (ev_pos rfl (ev_pos rfl e)))
theorem short_f (s : ByteArray) : ∃ t, dioramaref01_Short.f s 12 = some t := by
  unfold dioramaref01_Short.f
  by_cases h : (s.size : Int) > 12
  · exact ⟨_, by rw [if_pos h, if_pos (by omega), if_pos (by omega)]⟩
  · exact ⟨_, by rw [if_neg h]⟩
theorem one_size (x : Int) : (strOfNums [x]).size = 1 := by simp [strOfNums_size]
theorem CalendarReads : dioramalaw08_CalendarReads.Pure := by
  intro n at_ by_ raw hn hat hby hraw
  obtain ⟨c, hc, e⟩ := someDay hn
  obtain ⟨y, m, d, hd, rfl⟩ := date_of c hc.1 hc.2
  obtain ⟨t, ht⟩ := short_f raw
  have z := textB_size y m d
  have a := ar_bd at_ 10 (by omega)
  have h : Ev (fun k => dioramalaw08_CalendarReads.f k n at_ by_ raw) true := by
    unfold dioramalaw08_CalendarReads.f
    refine Ev.bind e (Ev.bind (rtext hd) ?_)
    generalize bytesA (textB y m d) = s at z ⊢
    rw [z, show ((10 : Nat) : Int) = 10 by rfl, around hat (by omega)]
    have x1 : (s.extract 0 (ar at_ 10).toNat).size ≤ 10 := by rw [ByteArray.size_extract]; omega
    have x2 : (s.extract (ar at_ 10 + 1).toNat 10).size ≤ 10 := by rw [ByteArray.size_extract]; omega
    have x3 := one_size by_
    refine ev_some (ev_pos a.1 (ev_pos (by omega) (ev_some ?_)))
    refine ev_pos (by omega) ?_
    rw [w64 (x := ar at_ 10 + 1) (by omega) (by omega)]
    refine ev_pos (by omega) (ev_pos (by omega) (ev_pos ?_ (ev_pos (by omega) (ev_some (ev_pos (by omega) ?_)))))
    · rw [ByteArray.size_append]; omega
    · rw [ht]
      refine ev_some ?_
      exact cr_l0 (by simp) 10 0 (by omega) (by simp)
  exact h.rounds
end Go.Proofs.YtlfgjpidamkpdaaDoor.Cal
