/- Moments of the program and of the reference give the same list and error. -/
import Derived.Test.YtlfgjpidamkpdaaDoorM6
import Derived.Test.YtlfgjpidamkpdaaDoorPc5
import Derived.Test.YtlfgjpidamkpdaaDoorPc13
namespace Go.Proofs.YtlfgjpidamkpdaaDoor.Cal
open Go.RowKit Go.Proofs.YtlfgjpidamkpdaaDoor.Pc Go.Proofs.YtlfgjpidamkpdaaDoorW.PrintWords Go.Proofs.YtlfgjpidamkpdaaDoorW.PrintLast
set_option linter.unusedVariables false
set_option linter.unusedSimpArgs false

theorem rd_drop (xs : List Int) (i : Int) (h0 : 0 ≤ i) (h1 : i < xs.length) : xs.drop i.toNat = rd xs i :: xs.drop (i + 1).toNat := by
  have h : i.toNat < xs.length := by omega
  rw [List.drop_eq_getElem_cons h, show (i + 1).toNat = i.toNat + 1 by omega]
  congr 1
  unfold rd
  simp [List.getD, h]
theorem index_ev {xs : List Int} (v : Int) (hl : (xs.length : Int) ≤ 1000000000000) (n : Nat) : ∀ i : Int, 0 ≤ i → i + n = xs.length → ∃ r, Ev (fun k => slices_Index_int_int.l0 k xs v xs.length i) r ∧ (0 ≤ r ↔ v ∈ xs.drop i.toNat) := by
  induction n with
  | zero =>
    intro i i0 hi
    refine ⟨-1, Ev.step (f := fun _ => some (-1)) (fun k => ?_) (Ev.now _), ?_⟩
    · simp only [slices_Index_int_int.l0]
      rw [if_neg (by omega)]
    · rw [List.drop_of_length_le (by omega)]
      simp
  | succ n ih =>
    intro i i0 hi
    rw [rd_drop xs i i0 (by omega)]
    by_cases c : v = rd xs i
    · refine ⟨i, Ev.step (f := fun _ => some i) (fun k => ?_) (Ev.now _), ?_⟩
      · simp only [slices_Index_int_int.l0]
        rw [if_pos (by omega), if_pos i0, if_pos (by omega), if_pos c]
      · simp [c, i0]
    · obtain ⟨r, e, q⟩ := ih (i + 1) (by omega) (by omega)
      refine ⟨r, Ev.step (fun k => ?_) e, ?_⟩
      · simp only [slices_Index_int_int.l0]
        rw [if_pos (by omega), if_pos i0, if_pos (by omega), if_neg c, w64 (by omega) (by omega)]
      · rw [q]
        simp [c]
theorem contains_ev {xs : List Int} (v : Int) (hl : (xs.length : Int) ≤ 1000000000000) : Ev (fun k => slices_Contains_int_int.f k xs v) (decide (v ∈ xs)) := by
  obtain ⟨r, e, q⟩ := index_ev (xs := xs) v hl xs.length 0 (by omega) (by omega)
  unfold slices_Contains_int_int.f slices_Index_int_int.f
  refine Ev.bind e ?_
  have : decide (r ≥ 0) = decide (v ∈ xs) := by
    rw [show (0 : Int).toNat = 0 by rfl, List.drop_zero] at q
    congr 1
    exact propext q
  rw [this]
  exact Ev.now _
noncomputable def okk (n day minute o s f t : Int) : Prop := loc n o s f t = (day, minute, 0)
noncomputable instance (n day minute o s f t : Int) : Decidable (okk n day minute o s f t) := Classical.propDecidable _
theorem tryList_ev {xs : List Int} (hl : (xs.length : Int) ≤ 100) (n o s f t day minute : Int) : ∃ ys, Ev (fun k => tryList k xs n o s f t day minute) ys ∧ ((okk n day minute o s f t ∧ n ∉ xs ∧ ys = xs ++ [n]) ∨ (¬ (okk n day minute o s f t ∧ n ∉ xs) ∧ ys = xs)) := by
  have e := plocal n o s f t
  unfold okk
  generalize loc n o s f t = r at e
  obtain ⟨a, b, c⟩ := r
  unfold tryList
  by_cases h1 : c = 0
  rotate_left
  · exact ⟨xs, Ev.bind e (ev_neg h1 (Ev.now _)), .inr ⟨fun q => h1 (by simpa using congrArg (fun z => z.2.2) q.1), rfl⟩⟩
  by_cases h2 : a = day
  rotate_left
  · exact ⟨xs, Ev.bind e (ev_pos h1 (ev_neg h2 (Ev.now _))), .inr ⟨fun q => h2 (by simpa using congrArg (fun z => z.1) q.1), rfl⟩⟩
  by_cases h3 : b = minute
  rotate_left
  · exact ⟨xs, Ev.bind e (ev_pos h1 (ev_pos h2 (ev_neg h3 (Ev.now _)))), .inr ⟨fun q => h3 (by simpa using congrArg (fun z => z.2.1) q.1), rfl⟩⟩
  have ct := contains_ev (xs := xs) n (by omega)
  by_cases h4 : n ∈ xs
  · rw [decide_eq_true h4] at ct
    exact ⟨xs, Ev.bind e (ev_pos h1 (ev_pos h2 (ev_pos h3 (Ev.bind ct (ev_pos rfl (Ev.now _)))))), .inr ⟨fun q => q.2 h4, rfl⟩⟩
  · rw [decide_eq_false h4] at ct
    exact ⟨xs ++ [n], Ev.bind e (ev_pos h1 (ev_pos h2 (ev_pos h3 (Ev.bind ct (ev_neg (by decide) (Ev.now _)))))), .inl ⟨by rw [h1, h2, h3], h4, rfl⟩⟩
/-- Moments -/
noncomputable def mlist (N day minute o s f t : Int) : List Int := (if okk (N - s) day minute o s f t then [N - s] else []) ++ (if s ≠ 0 ∧ okk N day minute o s f t then [N] else [])
noncomputable def mom (day minute o s f t : Int) : List Int × Int :=
  if Valid o s f t then (if Known day ∧ 0 ≤ minute ∧ minute < 1440 then (mlist (1440 * day + minute - o) day minute o s f t, 0) else ([], 5)) else ([], 1)
theorem mlist_len (N day minute o s f t : Int) : (mlist N day minute o s f t).length ≤ 2 := by
  unfold mlist
  split <;> split <;> simp
theorem pmom (day minute o s f t : Int) : Ev (fun k => calendar_Moments.f k day minute o s f t) (mom day minute o s f t) := by
  unfold calendar_Moments.f mom
  rw [valid_f]
  refine ev_some ?_
  by_cases hv : Valid o s f t
  rotate_left
  · rw [if_neg hv]
    exact ev_neg (by simpa using hv) (Ev.now _)
  rw [if_pos hv]
  refine ev_pos (decide_eq_true hv) ?_
  rw [Knownb]
  refine ev_some ?_
  by_cases hk : Known day
  rotate_left
  · rw [if_neg (fun q => hk q.1)]
    exact ev_neg (by simpa using hk) (Ev.now _)
  refine ev_pos (decide_eq_true hk) ?_
  by_cases c1 : minute < 0
  · rw [if_neg (by omega)]
    exact ev_pos c1 (Ev.now _)
  refine ev_neg c1 ?_
  by_cases c2 : minute ≥ 1440
  · rw [if_neg (by omega)]
    exact ev_pos c2 (Ev.now _)
  refine ev_neg c2 ?_
  rw [if_pos ⟨hk, by omega, by omega⟩]
  obtain ⟨l1, e1, h1⟩ := tryList_ev (xs := []) (by simp) (1440 * day + minute - o - s) o s f t day minute
  have len1 : (l1.length : Int) ≤ 100 := by rcases h1 with ⟨_, _, rfl⟩ | ⟨_, rfl⟩ <;> simp
  obtain ⟨l2, e2, h2⟩ := tryList_ev (xs := l1) len1 (1440 * day + minute - o) o s f t day minute
  refine Ev.bind e1 (Ev.bind e2 ?_)
  have : mlist (1440 * day + minute - o) day minute o s f t = l2 := by
    unfold mlist
    generalize 1440 * day + minute - o = N at h1 h2
    by_cases s0 : s = 0
    · subst s0
      rw [Int.sub_zero] at h1 ⊢
      rcases h1 with ⟨a, _, rfl⟩ | ⟨a, rfl⟩
      · rcases h2 with ⟨b, c, rfl⟩ | ⟨b, rfl⟩
        · simp at c
        · simp [a]
      · rcases h2 with ⟨b, c, rfl⟩ | ⟨b, rfl⟩
        · exact absurd ⟨b, c⟩ a
        · have : ¬ okk N day minute o 0 f t := fun q => a ⟨q, by simp⟩
          simp [this]
    · have ne : N ≠ N - s := by omega
      rcases h1 with ⟨a, _, rfl⟩ | ⟨a, rfl⟩
      · rcases h2 with ⟨b, c, rfl⟩ | ⟨b, rfl⟩
        · simp [a, b, s0]
        · have : ¬ okk N day minute o s f t := fun q => b ⟨q, by simpa using ne⟩
          simp [a, this]
      · have na : ¬ okk (N - s) day minute o s f t := fun q => a ⟨q, by simp⟩
        rcases h2 with ⟨b, c, rfl⟩ | ⟨b, rfl⟩
        · simp [na, b, s0]
        · have : ¬ okk N day minute o s f t := fun q => b ⟨q, by simp⟩
          simp [na, this]
  rw [this]
  exact Ev.now _
theorem okk_where {n day minute o s f t : Int} (h : okk n day minute o s f t) : n = 1440 * day + minute - o ∨ n = 1440 * day + minute - o - s := by
  unfold okk loc at h
  split at h
  · split at h
    · split at h
      · have so := sm_or (n + o) s f t
        simp only [Prod.mk.injEq] at h
        obtain ⟨a, b, _⟩ := h
        omega
      · simp at h
    · simp at h
  · simp at h
theorem sameInts_ev {a : List Int} (hl : (a.length : Int) ≤ 1000) (n : Nat) : ∀ i : Int, 0 ≤ i → i + n = a.length → Ev (fun k => dioramaref01_SameInts.l0 k a a i) true := by
  induction n with
  | zero =>
    intro i i0 hi
    refine Ev.step (f := fun _ => some true) (fun k => ?_) (Ev.now _)
    simp only [dioramaref01_SameInts.l0]
    rw [if_neg (by omega)]
  | succ n ih =>
    intro i i0 hi
    refine Ev.step (fun k => ?_) (ih (i + 1) (by omega) (by omega))
    simp only [dioramaref01_SameInts.l0]
    rw [if_pos (by omega), if_pos i0, if_pos (by omega), if_pos trivial, w64 (by omega) (by omega)]
theorem sameInts {a : List Int} (hl : (a.length : Int) ≤ 1000) : Ev (fun k => dioramaref01_SameInts.f k a a) true := by
  unfold dioramaref01_SameInts.f
  exact ev_pos rfl (sameInts_ev hl a.length 0 (by omega) (by omega))
/-- the reference's list before round x -/
noncomputable def rlist (N x day minute o s f t : Int) : List Int := (if okk (N - s) day minute o s f t ∧ 120 - s < x then [N - s] else []) ++ (if s ≠ 0 ∧ okk N day minute o s f t ∧ 120 < x then [N] else [])
theorem rlist_len (N x day minute o s f t : Int) : (rlist N x day minute o s f t).length ≤ 2 := by
  unfold rlist
  split <;> split <;> simp
theorem rlist_succ {N x day minute o s f t : Int} (hN : N = 1440 * day + minute - o) (s0 : 0 ≤ s) (s1 : s ≤ 120) (x0 : 0 ≤ x) (x1 : x ≤ 120) :
    (okk (N - 120 + x) day minute o s f t → rlist N (x + 1) day minute o s f t = rlist N x day minute o s f t ++ [N - 120 + x]) ∧ (¬ okk (N - 120 + x) day minute o s f t → rlist N (x + 1) day minute o s f t = rlist N x day minute o s f t) := by
  unfold rlist
  have a1 : ¬ 120 < x := by omega
  by_cases c : x = 120 - s
  · subst c
    have e : N - 120 + (120 - s) = N - s := by omega
    rw [e]
    have b1 : 120 - s < 120 - s + 1 := by omega
    have b2 : ¬ 120 - s < 120 - s := by omega
    by_cases z : s = 0
    · subst z
      refine ⟨fun h => ?_, fun h => ?_⟩
      · rw [Int.sub_zero] at h ⊢
        simp [h]
      · rw [Int.sub_zero] at h ⊢
        simp [h]
    · have b3 : ¬ 120 < 120 - s + 1 := by omega
      refine ⟨fun h => ?_, fun h => ?_⟩
      · simp only [h, b1, b2, b3, a1, z, ne_eq, not_false_eq_true, and_true, true_and, and_false, false_and, and_self, if_true, if_false, List.append_nil, List.nil_append]
      · simp only [h, b1, b2, b3, a1, z, ne_eq, not_false_eq_true, and_true, true_and, and_false, false_and, and_self, if_true, if_false, List.append_nil, List.nil_append]
  · by_cases d : x = 120
    · subst d
      have e : N - 120 + 120 = N := by omega
      rw [e]
      have z : s ≠ 0 := by omega
      have b1 : 120 - s < 120 + 1 := by omega
      have b2 : 120 - s < 120 := by omega
      have b3 : ¬ (120 : Int) < 120 := by omega
      have b4 : (120 : Int) < 120 + 1 := by omega
      refine ⟨fun h => ?_, fun h => ?_⟩
      · simp only [h, b1, b2, b3, b4, a1, z, ne_eq, not_false_eq_true, and_true, true_and, and_false, false_and, and_self, if_true, if_false, List.append_nil, List.nil_append]
      · simp only [h, b1, b2, b3, b4, a1, z, ne_eq, not_false_eq_true, and_true, true_and, and_false, false_and, and_self, if_true, if_false, List.append_nil, List.nil_append]
    · have no : ¬ okk (N - 120 + x) day minute o s f t := by
        intro h
        have := okk_where h
        omega
      refine ⟨fun h => absurd h no, fun _ => ?_⟩
      have b1 : (120 - s < x + 1) ↔ (120 - s < x) := by omega
      have b2 : ¬ 120 < x + 1 := by omega
      simp only [b1, b2, a1, and_false, if_false]
theorem rml0 {day minute o s f t : Int} (hk : Known day) (m0 : 0 ≤ minute) (m1 : minute < 1440) (hv : Valid o s f t) (n : Nat) : ∀ x : Int, 0 ≤ x → x + n = 121 → Ev (fun k => dioramaref08_Moments.l0 k day minute (rlist (1440 * day + minute - o) x day minute o s f t) x o s f t) (mlist (1440 * day + minute - o) day minute o s f t, 0) := by
  have hv' := hv
  obtain ⟨⟨o0, o1⟩, ⟨s0, s1⟩, _⟩ := hv'
  have hk' := hk
  unfold Known at hk'
  induction n with
  | zero =>
    intro x x0 hx
    have e : rlist (1440 * day + minute - o) x day minute o s f t = mlist (1440 * day + minute - o) day minute o s f t := by
      unfold rlist mlist
      have b1 : 120 - s < x := by omega
      have b2 : 120 < x := by omega
      simp [b1, b2]
    rw [e]
    refine Ev.step (f := fun _ => some (mlist (1440 * day + minute - o) day minute o s f t, 0)) (fun k => ?_) (Ev.now _)
    simp only [dioramaref08_Moments.l0]
    rw [if_neg (by omega)]
  | succ n ih =>
    intro x x0 hx
    have e := ih (x + 1) (by omega) (by omega)
    have hl := rlist_len (1440 * day + minute - o) x day minute o s f t
    obtain ⟨y1, y2⟩ := rlist_succ (x := x) (f := f) (t := t) (day := day) (minute := minute) (o := o) rfl s0 s1 x0 (by omega)
    have p := rlocal (1440 * day + minute - o - 120 + x) o s f t
    refine Ev.step (f := fun k => (dioramaref08_Local.f k (1440 * day + minute - o - 120 + x) o s f t).bind fun bt302 => (if bt302.2.2 = 0 then (if bt302.1 = day then (if bt302.2.1 = minute then (dioramaref08_Moments.l0 k day minute (rlist (1440 * day + minute - o) x day minute o s f t ++ [1440 * day + minute - o - 120 + x]) (x + 1) o s f t) else (dioramaref08_Moments.l0 k day minute (rlist (1440 * day + minute - o) x day minute o s f t) (x + 1) o s f t)) else (dioramaref08_Moments.l0 k day minute (rlist (1440 * day + minute - o) x day minute o s f t) (x + 1) o s f t)) else (dioramaref08_Moments.l0 k day minute (rlist (1440 * day + minute - o) x day minute o s f t) (x + 1) o s f t))) (fun k => ?_) (Ev.bind p ?_)
    · simp only [dioramaref08_Moments.l0]
      rw [if_pos (by omega), w64 (x := 1440 * day) (by omega) (by omega), w64 (x := 1440 * day + minute) (by omega) (by omega), w64 (x := 1440 * day + minute - o) (by omega) (by omega), w64 (x := 1440 * day + minute - o - 120) (by omega) (by omega), w64 (x := 1440 * day + minute - o - 120 + x) (by omega) (by omega), w64 (x := x + 1) (by omega) (by omega), if_pos (show (rlist (1440 * day + minute - o) x day minute o s f t).length < 17592186044416 by omega)]
    · by_cases q : okk (1440 * day + minute - o - 120 + x) day minute o s f t
      · have y := y1 q
        unfold okk at q
        rw [y] at e
        rw [q]
        exact ev_pos rfl (ev_pos rfl (ev_pos rfl e))
      · have y := y2 q
        unfold okk at q
        rw [y] at e
        generalize loc (1440 * day + minute - o - 120 + x) o s f t = r at q
        obtain ⟨a, b, c⟩ := r
        by_cases h1 : c = 0
        · by_cases h2 : a = day
          · by_cases h3 : b = minute
            · exact absurd (by rw [h1, h2, h3]) q
            · exact ev_pos h1 (ev_pos h2 (ev_neg h3 e))
          · exact ev_pos h1 (ev_neg h2 e)
        · exact ev_neg h1 e
theorem rmom (day minute o s f t : Int) : Ev (fun k => dioramaref08_Moments.f k day minute o s f t) (mom day minute o s f t) := by
  unfold dioramaref08_Moments.f mom
  rw [proper_f]
  refine ev_some ?_
  by_cases hv : Valid o s f t
  rotate_left
  · rw [if_neg hv]
    exact ev_neg (by simpa using hv) (Ev.now _)
  rw [if_pos hv]
  refine ev_pos (decide_eq_true hv) ?_
  rw [rKnownb]
  refine ev_some ?_
  have no : Ev (fun k => dioramaref08_Moments.j0 k day minute true o s f t) ([], 5) := Ev.step (f := fun _ => some ([], 5)) (fun k => by simp [dioramaref08_Moments.j0]) (Ev.now _)
  by_cases hk : Known day
  rotate_left
  · rw [if_neg (fun q => hk q.1)]
    exact ev_neg (by simpa using hk) no
  refine ev_pos (decide_eq_true hk) ?_
  by_cases c1 : minute < 0
  · rw [if_neg (by omega)]
    exact ev_pos c1 no
  refine ev_neg c1 ?_
  by_cases c2 : minute > 1439
  · rw [if_neg (by omega), decide_eq_true c2]
    exact no
  rw [if_pos ⟨hk, by omega, by omega⟩, decide_eq_false c2]
  have e := rml0 (day := day) (minute := minute) hk (by omega) (by omega) hv 121 0 (by omega) (by omega)
  have e0 : rlist (1440 * day + minute - o) 0 day minute o s f t = [] := by
    obtain ⟨_, ⟨s0, s1⟩, _⟩ := hv
    unfold rlist
    rw [if_neg (by omega), if_neg (by omega)]
    rfl
  rw [e0] at e
  refine Ev.step (fun k => ?_) e
  simp only [dioramaref08_Moments.j0]
  rw [if_neg (by decide)]
end Go.Proofs.YtlfgjpidamkpdaaDoor.Cal
