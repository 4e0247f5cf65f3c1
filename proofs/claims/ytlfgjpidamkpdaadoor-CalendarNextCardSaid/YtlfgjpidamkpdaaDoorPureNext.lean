/- The law CalendarNext over plain numbers: the next day's date, its text, and the days 400 years on. -/
import Derived.Test.YtlfgjpidamkpdaaDoorM6
import Derived.Test.YtlfgjpidamkpdaaDoorPc16
namespace Go.Proofs.YtlfgjpidamkpdaaDoor.Cal
open Go.RowKit Go.Proofs.YtlfgjpidamkpdaaDoor.Pc Go.Proofs.YtlfgjpidamkpdaaDoorW.PrintWords Go.Proofs.YtlfgjpidamkpdaaDoorW.PrintLast
set_option linter.unusedVariables false
set_option linter.unusedSimpArgs false

/-- the date of the next day -/
theorem next_date {y m d : Int} (h : Date y m d) (e : DN y m d < 146096) : ∃ y' m' d', Date y' m' d' ∧ DN y' m' d' = DN y m d + 1 ∧
    ((y' = y ∧ m' = m ∧ d' = d + 1) ∨ (y' = y ∧ m' = m + 1 ∧ d' = 1) ∨ (y' = y + 1 ∧ m' = 1 ∧ m = 12 ∧ d' = 1)) := by
  obtain ⟨a, b, c, f, g, i⟩ := h
  by_cases k : d < ML y m
  · exact ⟨y, m, d + 1, ⟨a, b, c, f, by omega, by omega⟩, by unfold DN; omega, .inl ⟨rfl, rfl, rfl⟩⟩
  · have s := CM_succ y m c f
    by_cases k2 : m < 12
    · have := ML_bd y (m + 1)
      exact ⟨y, m + 1, 1, ⟨a, b, by omega, by omega, by omega, by omega⟩, by unfold DN; omega, .inr (.inl ⟨rfl, rfl, rfl⟩)⟩
    · have m12 : m = 12 := by omega
      subst m12
      have t := F_succ y a
      have u := CM_13 y
      have v := CM_1 (y + 1)
      have x : DN (y + 1) 1 1 = DN y 12 d + 1 := by
        unfold DN
        have : (12 : Int) + 1 = 13 := rfl
        rw [this] at s
        omega
      refine ⟨y + 1, 1, 1, ⟨by omega, ?_, by omega, by omega, by omega, by have := ML_bd (y + 1) 1; omega⟩, x, .inr (.inr ⟨rfl, rfl, rfl, rfl⟩)⟩
      by_cases z : y = 2399
      · subst z
        have q : F (2399 + 1) = 146097 := F_2400
        unfold DN at x e
        omega
      · omega
theorem less_head {a b : UInt8} (l r : List UInt8) (h : a.toNat < b.toNat) : Op.bytesLess (a :: l) (b :: r) = true := by
  have : a < b := by rw [UInt8.lt_iff_toNat_lt]; exact h
  simp [Op.bytesLess, this]
theorem less_same (a : UInt8) (l r : List UInt8) : Op.bytesLess (a :: l) (a :: r) = Op.bytesLess l r := by
  have : ¬ a < a := by rw [UInt8.lt_iff_toNat_lt]; omega
  simp [Op.bytesLess, this]
theorem less_dg {n : Int} (l r : List UInt8) (h0 : 0 ≤ n) (h : n % 10 ≠ 9) : Op.bytesLess (dg n :: l) (dg (n + 1) :: r) = true := by
  refine less_head l r ?_
  rw [dg_nat, dg_nat]
  omega
theorem less_two {n : Int} (l r : List UInt8) (h0 : 0 ≤ n) (h : n ≤ 98) : Op.bytesLess (dg (n / 10) :: dg n :: l) (dg ((n + 1) / 10) :: dg (n + 1) :: r) = true := by
  by_cases c : n % 10 = 9
  · rw [show (n + 1) / 10 = n / 10 + 1 by omega]
    exact less_dg _ _ (by omega) (by omega)
  · rw [show (n + 1) / 10 = n / 10 by omega, less_same]
    exact less_dg _ _ h0 c
theorem less_four {n : Int} (l r : List UInt8) (h0 : 0 ≤ n) (h : n ≤ 9998) : Op.bytesLess (dg (n / 1000) :: dg (n / 100) :: dg (n / 10) :: dg n :: l) (dg ((n + 1) / 1000) :: dg ((n + 1) / 100) :: dg ((n + 1) / 10) :: dg (n + 1) :: r) = true := by
  by_cases c : n % 10 = 9
  · by_cases c2 : n / 10 % 10 = 9
    · by_cases c3 : n / 100 % 10 = 9
      · rw [show (n + 1) / 1000 = n / 1000 + 1 by omega]
        exact less_dg _ _ (by omega) (by omega)
      · rw [show (n + 1) / 1000 = n / 1000 by omega, less_same, show (n + 1) / 100 = n / 100 + 1 by omega]
        exact less_dg _ _ (by omega) (by omega)
    · rw [show (n + 1) / 1000 = n / 1000 by omega, less_same, show (n + 1) / 100 = n / 100 by omega, less_same, show (n + 1) / 10 = n / 10 + 1 by omega]
      exact less_dg _ _ (by omega) (by omega)
  · rw [show (n + 1) / 1000 = n / 1000 by omega, less_same, show (n + 1) / 100 = n / 100 by omega, less_same, show (n + 1) / 10 = n / 10 by omega, less_same]
    exact less_dg _ _ (by omega) (by omega)
/-- the text of the next day is greater -/
theorem text_less {y m d y' m' d' : Int} (h : Date y m d) (h' : Date y' m' d') (e : (y' = y ∧ m' = m ∧ d' = d + 1) ∨ (y' = y ∧ m' = m + 1 ∧ d' = 1) ∨ (y' = y + 1 ∧ m' = 1 ∧ m = 12 ∧ d' = 1)) :
    Op.bytesLess (bytesA (textB y m d)).toList (bytesA (textB y' m' d')).toList = true := by
  have a := h.y0
  have b := h.y1
  have c := h.m0
  have f := h.m1
  have g := h.d0
  have i := h.d1
  have j := ML_bd y m
  rw [ByteArray.toList_eq, ByteArray.toList_eq, bytesA_list, bytesA_list]
  unfold textB
  rcases e with ⟨rfl, rfl, rfl⟩ | ⟨rfl, rfl, rfl⟩ | ⟨rfl, rfl, rfl, rfl⟩
  · simp only [less_same]
    exact less_two _ _ (by omega) (by omega)
  · simp only [less_same]
    exact less_two _ _ (by omega) (by omega)
  · exact less_four _ _ (by omega) (by omega)
theorem F_400 (y : Int) : F (y + 400) = F y + 146097 := by unfold F; omega
theorem YD_400 (y : Int) : YD (y + 400) = YD y := by
  unfold YD
  rw [show (y + 400) % 400 = y % 400 by omega, show (y + 400) % 4 = y % 4 by omega, show (y + 400) % 100 = y % 100 by omega]
theorem ML_400 (y m : Int) : ML (y + 400) m = ML y m := by unfold ML; rw [YD_400]
theorem CM_400 (y m : Int) : CM (y + 400) m = CM y m := by unfold CM; rw [YD_400]
theorem date_400 {y m d : Int} (h : Date y m d) (e : DN y m d < 0) : Date (y + 400) m d ∧ DN (y + 400) m d = DN y m d + 146097 := by
  obtain ⟨a, b, c, f, g, i⟩ := h
  have y2 : y < 2000 := by
    by_cases k : y < 2000
    · exact k
    · have := F_le (y := 2000) (z := y) (by omega) (by omega)
      have z : F 2000 = 0 := by decide
      have w := (Date.year ⟨a, b, c, f, g, i⟩).1
      omega
  refine ⟨⟨by omega, by omega, c, f, g, by rw [ML_400]; exact i⟩, ?_⟩
  unfold DN
  rw [F_400, CM_400]
  omega
theorem cn_lives : Ev (fun k => (dioramalaw08_lives.f k).bind fun t => some t) true := Ev.bind lives (Ev.now _)
theorem cn_j4 {y m d : Int} (h : Date y m d) : Ev (fun k => dioramalaw08_CalendarNext.j4 k (DN y m d) y m d) true := by
  have kk := h.known
  by_cases c : DN y m d < 0
  · obtain ⟨h2, e2⟩ := date_400 h c
    have e := civil h2
    rw [e2] at e
    have a := h.y0
    have b := h.y1
    refine Ev.step (f := fun k => (calendar_Civil.f k (DN y m d + 146097)).bind fun bt429 => (if bt429.1 = y + 400 then (if bt429.2.1 = m then (if bt429.2.2 = d then ((dioramalaw08_lives.f k).bind fun t434 => (some t434)) else (some false)) else (some false)) else (some false))) (fun k => ?_) (Ev.bind e (ev_pos rfl (ev_pos rfl (ev_pos rfl cn_lives))))
    simp only [dioramalaw08_CalendarNext.j4]
    rw [if_pos c, w64 (by omega) (by omega), w64 (x := y + 400) (by omega) (by omega), pwd, pwd]
    have w : wd (DN y m d + 146097) = wd (DN y m d) := by
      unfold wd
      rw [if_pos (by omega), if_pos (by omega)]
      omega
    simp only [Option.bind_some, w, if_true]
  · refine Ev.step (fun k => ?_) cn_lives
    simp only [dioramalaw08_CalendarNext.j4]
    rw [if_neg c]
theorem cn_way {y m d y' m' d' : Int} (h : Date y m d) (h' : Date y' m' d') (e : DN y' m' d' = DN y m d + 1)
    (c : (y' = y ∧ m' = m ∧ d' = d + 1) ∨ (y' = y ∧ m' = m + 1 ∧ d' = 1) ∨ (y' = y + 1 ∧ m' = 1 ∧ m = 12 ∧ d' = 1)) :
    Ev (fun k => (calendar_Weekday.f (wrap64 (DN y m d + 1))).bind fun t417 => ((calendar_Weekday.f (DN y m d)).bind fun t418 => (if t417 = (Int.tmod (wrap64 (t418 + 1)) 7) then ((calendar_Text.f k (wrap64 (DN y m d + 1))).bind fun t419 => ((calendar_Text.f k (DN y m d)).bind fun t420 => (if ((Op.bytesLess t420.toList t419.toList) = true) then (dioramalaw08_CalendarNext.j4 k (DN y m d) y m d) else (some false)))) else (some false)))) true := by
  have kk := h.known
  have kk' := h'.known
  have w : wd (DN y m d + 1) = Int.tmod (wrap64 (wd (DN y m d) + 1)) 7 := by
    unfold wd
    rw [if_pos (by omega), if_pos (by omega), w64 (by omega) (by omega), tmod_nn (by omega)]
    omega
  have t1 := ptext h'
  rw [e] at t1
  rw [w64 (by omega) (by omega), pwd, pwd]
  refine ev_some (ev_some (ev_pos w (Ev.bind t1 (Ev.bind (ptext h) (ev_pos (text_less h h' c) (cn_j4 h))))))
theorem cn_j3 {y m d y' m' d' : Int} (h : Date y m d) (h' : Date y' m' d') (e : DN y' m' d' = DN y m d + 1)
    (c : (y' = y ∧ m' = m ∧ d' = d + 1) ∨ (y' = y ∧ m' = m + 1 ∧ d' = 1) ∨ (y' = y + 1 ∧ m' = 1 ∧ m = 12 ∧ d' = 1)) (p q r : Bool) (hb : p = true ∨ q = true ∨ r = true) :
    Ev (fun k => dioramalaw08_CalendarNext.j3 k (DN y m d) y m d p q r) true := by
  refine Ev.step (fun k => ?_) (cn_way h h' e c)
  simp only [dioramalaw08_CalendarNext.j3]
  cases p
  · cases q
    · cases r
      · simp at hb
      · rfl
    · rfl
  · rfl
theorem cn_j0 {y m d : Int} (h : Date y m d) : Ev (fun k => dioramalaw08_CalendarNext.j0 k (DN y m d) y m d false) true := by
  by_cases c : DN y m d < 146096
  rotate_left
  · refine Ev.step (fun k => ?_) (cn_j4 h)
    simp only [dioramalaw08_CalendarNext.j0]
    rw [if_neg (by decide), if_neg c]
  obtain ⟨y', m', d', h', e, g⟩ := next_date h c
  have kk := h.known
  have cv := civil h'
  rw [e] at cv
  have a := h.y0
  have b := h.y1
  have c1 := h.m0
  have f := h.m1
  have g1 := h.d0
  have i := h.d1
  have j := ML_bd y m
  have j1 (p : Bool) (hp : p = true ∨ (y' = y ∧ m' = m + 1 ∧ d' = 1) ∨ (y' = y + 1 ∧ m' = 1 ∧ m = 12 ∧ d' = 1)) : Ev (fun k => dioramalaw08_CalendarNext.j1 k (DN y m d) y m d y' m' d' p) true := by
    have j2 (q : Bool) (hq : p = true ∨ q = true ∨ (y' = y + 1 ∧ m' = 1 ∧ m = 12 ∧ d' = 1)) : Ev (fun k => dioramalaw08_CalendarNext.j2 k (DN y m d) y m d y' m' d' p q) true := by
      by_cases u : y' = y + 1 ∧ m' = 1 ∧ m = 12 ∧ d' = 1
      · refine Ev.step (fun k => ?_) (cn_j3 h h' e g p q true (.inr (.inr rfl)))
        simp only [dioramalaw08_CalendarNext.j2]
        rw [w64 (by omega) (by omega), if_pos u.1, if_pos u.2.1, if_pos u.2.2.1, u.2.2.2]
        rfl
      · have hq' : p = true ∨ q = true := by
          rcases hq with z | z | z
          · exact .inl z
          · exact .inr z
          · exact absurd z u
        have all (r : Bool) := cn_j3 h h' e g p q r (by rcases hq' with z | z <;> simp [z])
        obtain ⟨r, hr⟩ : ∃ r, ∀ k, dioramalaw08_CalendarNext.j2 (k + 1) (DN y m d) y m d y' m' d' p q = dioramalaw08_CalendarNext.j3 k (DN y m d) y m d p q r := by
          by_cases u1 : y' = wrap64 (y + 1)
          · by_cases u2 : m' = 1
            · by_cases u3 : m = 12
              · exact ⟨d' == 1, fun k => by simp only [dioramalaw08_CalendarNext.j2]; rw [if_pos u1, if_pos u2, if_pos u3]⟩
              · exact ⟨false, fun k => by simp only [dioramalaw08_CalendarNext.j2]; rw [if_pos u1, if_pos u2, if_neg u3]⟩
            · exact ⟨false, fun k => by simp only [dioramalaw08_CalendarNext.j2]; rw [if_pos u1, if_neg u2]⟩
          · exact ⟨false, fun k => by simp only [dioramalaw08_CalendarNext.j2]; rw [if_neg u1]⟩
        exact Ev.step hr (all r)
    by_cases u : y' = y ∧ m' = m + 1 ∧ d' = 1
    · refine Ev.step (fun k => ?_) (j2 true (.inr (.inl rfl)))
      simp only [dioramalaw08_CalendarNext.j1]
      rw [w64 (by omega) (by omega), if_pos u.1, if_pos u.2.1, u.2.2]
      rfl
    · have hp' : p = true ∨ (y' = y + 1 ∧ m' = 1 ∧ m = 12 ∧ d' = 1) := by
        rcases hp with z | z | z
        · exact .inl z
        · exact absurd z u
        · exact .inr z
      obtain ⟨q, hq⟩ : ∃ q, ∀ k, dioramalaw08_CalendarNext.j1 (k + 1) (DN y m d) y m d y' m' d' p = dioramalaw08_CalendarNext.j2 k (DN y m d) y m d y' m' d' p q := by
        by_cases u1 : y' = y
        · by_cases u2 : m' = wrap64 (m + 1)
          · exact ⟨d' == 1, fun k => by simp only [dioramalaw08_CalendarNext.j1]; rw [if_pos u1, if_pos u2]⟩
          · exact ⟨false, fun k => by simp only [dioramalaw08_CalendarNext.j1]; rw [if_pos u1, if_neg u2]⟩
        · exact ⟨false, fun k => by simp only [dioramalaw08_CalendarNext.j1]; rw [if_neg u1]⟩
      exact Ev.step hq (j2 q (by rcases hp' with z | z <;> simp [z]))
  refine Ev.step (f := fun k => (calendar_Civil.f k (DN y m d + 1)).bind fun bt414 => (if bt414.1 = y then (if bt414.2.1 = m then (dioramalaw08_CalendarNext.j1 k (DN y m d) y m d bt414.1 bt414.2.1 bt414.2.2 (bt414.2.2 == (d + 1))) else (dioramalaw08_CalendarNext.j1 k (DN y m d) y m d bt414.1 bt414.2.1 bt414.2.2 false)) else (dioramalaw08_CalendarNext.j1 k (DN y m d) y m d bt414.1 bt414.2.1 bt414.2.2 false))) (fun k => ?_) (Ev.bind cv ?_)
  · simp only [dioramalaw08_CalendarNext.j0]
    rw [if_neg (by decide), if_pos c, w64 (by omega) (by omega), w64 (x := d + 1) (by omega) (by omega)]
  · simp only
    by_cases u : y' = y ∧ m' = m ∧ d' = d + 1
    · refine ev_pos u.1 (ev_pos u.2.1 ?_)
      exact j1 _ (.inl (by rw [u.2.2]; simp))
    · have g' : (y' = y ∧ m' = m + 1 ∧ d' = 1) ∨ (y' = y + 1 ∧ m' = 1 ∧ m = 12 ∧ d' = 1) := by
        rcases g with z | z
        · exact absurd z u
        · exact z
      by_cases u1 : y' = y
      · refine ev_pos u1 ?_
        by_cases u2 : m' = m
        · exact ev_pos u2 (j1 _ (.inr g'))
        · exact ev_neg u2 (j1 _ (.inr g'))
      · exact ev_neg u1 (j1 _ (.inr g'))
theorem CalendarNext : dioramalaw08_CalendarNext.Pure := by
  intro n hn
  obtain ⟨x, hx, e⟩ := someDay hn
  obtain ⟨y, m, d, h, rfl⟩ := date_of x hx.1 hx.2
  have h2 : Ev (fun k => dioramalaw08_CalendarNext.f k n) true := by
    unfold dioramalaw08_CalendarNext.f
    refine Ev.bind e (Ev.bind (civil h) ?_)
    have p := pday y m d
    rw [dayOf_yes h] at p
    refine Ev.bind p (Ev.bind (ptext h) (Ev.bind (pparse_yes h) (ev_pos rfl (ev_pos rfl (ev_pos rfl ?_)))))
    have z : ((DN y m d, (0 : Int)).1 != DN y m d) = false := by simp
    simp only [z]
    exact cn_j0 h
  exact h2.rounds
end Go.Proofs.YtlfgjpidamkpdaaDoor.Cal
