/- The contracts of the functions that the laws reach, each over a plain Lean function, written by wip/ownprint.py of this claim's session. -/
import Derived.Test.YtlfgjpidamkpdaaDoorPc0
import Derived.Test.YtlfgjpidamkpdaaDoorPc1
import Derived.Test.YtlfgjpidamkpdaaDoorPc2
import Derived.Test.YtlfgjpidamkpdaaDoorPc3
import Derived.Test.YtlfgjpidamkpdaaDoorPc4
namespace Go.Proofs.YtlfgjpidamkpdaaDoor.Pc
open Go.RowKit Go.Proofs.YtlfgjpidamkpdaaDoorW.PrintWords Go.Proofs.YtlfgjpidamkpdaaDoorW.PrintLast Go.Proofs.YtlfgjpidamkpdaaDoorW.PrintMore
attribute [local go_sem] max2_int min2_int max_two min_two max_three min_three max_four min_four   -- for this text's walks alone
attribute [local go_sem high] binOp_leq_p
set_option linter.unusedVariables false
set_option linter.unusedSimpArgs false

/-! ### calendar_Moments: function 29 -/
/-- What the boxes of Moments hold while the closure runs. -/
structure Held (w0 w : World) (bz bd bm bo : Nat) (o s f t day minute : Int) (v : Value) (xs : List Int) : Prop where
  z : w.heap[bz]? = some (.cells #[.int .i64 o, .int .i64 s, .int .i64 f, .int .i64 t] 39 (0, 0))
  d : w.heap[bd]? = some (.cells #[.int .i64 day] 3 (0, 0))
  m : w.heap[bm]? = some (.cells #[.int .i64 minute] 3 (0, 0))
  o : w.heap[bo]? = some (.cells #[v] 23 (0, 0))
  r : Kd.R (Kd.int .i64) 3 w w0.heap.size (fun k => k ≠ bd ∧ k ≠ bm) v xs
  b : Below w0.heap.size w0 w
  gd : w0.heap.size ≤ bo
theorem Held.below {w0 w w1 : World} {bz bd bm bo : Nat} {o s f t day minute : Int} {v : Value} {xs : List Int} (h : Held w0 w bz bd bm bo o s f t day minute v xs) (hb : Below w.heap.size w w1) : Held w0 w1 bz bd bm bo o s f t day minute v xs :=
  ⟨blk_below h.z hb, blk_below h.d hb, blk_below h.m hb, blk_below h.o hb, Kd.R_below h.r hb, h.b.trans (hb.mono h.b.size), h.gd⟩
theorem Held.cells {w0 w : World} {bz bd bm bo : Nat} {o s f t day minute : Int} {v : Value} {xs : List Int} (h : Held w0 w bz bd bm bo o s f t day minute v xs) :
    w.cell? ⟨bz, 0, none⟩ = some (.int .i64 o) ∧ w.cell? ⟨bz, 1, none⟩ = some (.int .i64 s) ∧ w.cell? ⟨bz, 2, none⟩ = some (.int .i64 f) ∧ w.cell? ⟨bz, 3, none⟩ = some (.int .i64 t) ∧
    w.cell? ⟨bd, 0, none⟩ = some (.int .i64 day) ∧ w.cell? ⟨bm, 0, none⟩ = some (.int .i64 minute) ∧ w.cell? ⟨bo, 0, none⟩ = some v :=
  ⟨(blk_cell h.z 0).trans rfl, (blk_cell h.z 1).trans rfl, (blk_cell h.z 2).trans rfl, (blk_cell h.z 3).trans rfl, (blk_cell h.d 0).trans rfl, (blk_cell h.m 0).trans rfl, (blk_cell h.o 0).trans rfl⟩
/-- How the closure ends. -/
def TryEnd (w0 : World) (bz bd bm bo : Nat) (o s f t day minute : Int) (xs : List Int) (e : Ending) (w' : World) : Prop :=
  e = .returned (.tuple #[]) ∧ ∃ v, Held w0 w' bz bd bm bo o s f t day minute v xs
set_option maxHeartbeats 2000000 in
set_option maxRecDepth 100000 in
theorem try_err (k : Nat) (n o s f t day minute d m e : Int) (w0 w : World) (bz bd bm bo : Nat) (xs : List Int) (A : Option Addr) (c : Nat) (H : Held w0 w bz bd bm bo o s f t day minute (.slice A xs.length c) xs) (A1 : Aside0 (calendar_Local.f k n o s f t = some (d, m, e))) (q1 : (e == 0) = false) :
    Calls Tryd.prog 52 #[.int .i64 n, .pointer (some ⟨bz, 0, none⟩), .pointer (some ⟨bd, 0, none⟩), .pointer (some ⟨bm, 0, none⟩), .pointer (some ⟨bo, 0, none⟩)] w (TryEnd w0 bz bd bm bo o s f t day minute xs) := by
  obtain ⟨x0, x1, x2, x3, _, _, _⟩ := H.cells
  have hu39 := Tryd.underlying39
  go_enter Tryd.func52, Tryd.ntmps52
  go_wp2_with (first | (go_at_call 26; (with_reducible refine (calendar_Local.calls k n o s f t d m e _ A1.out).mono ?_); rintro ee w1 ⟨rfl, hb⟩; have H1 := Held.below H hb; clear hb; obtain ⟨_, _, _, _, y4, y5, y6⟩ := H1.cells))
  go_end0
  exact ⟨rfl, _, H1⟩

set_option maxHeartbeats 2000000 in
set_option maxRecDepth 100000 in
theorem try_day (k : Nat) (n o s f t day minute d m e : Int) (w0 w : World) (bz bd bm bo : Nat) (xs : List Int) (A : Option Addr) (c : Nat) (H : Held w0 w bz bd bm bo o s f t day minute (.slice A xs.length c) xs) (A1 : Aside0 (calendar_Local.f k n o s f t = some (d, m, e))) (q1 : (e == 0) = true) (q2 : (d == day) = false) :
    Calls Tryd.prog 52 #[.int .i64 n, .pointer (some ⟨bz, 0, none⟩), .pointer (some ⟨bd, 0, none⟩), .pointer (some ⟨bm, 0, none⟩), .pointer (some ⟨bo, 0, none⟩)] w (TryEnd w0 bz bd bm bo o s f t day minute xs) := by
  obtain ⟨x0, x1, x2, x3, _, _, _⟩ := H.cells
  have hu39 := Tryd.underlying39
  go_enter Tryd.func52, Tryd.ntmps52
  go_wp2_with (first | (go_at_call 26; (with_reducible refine (calendar_Local.calls k n o s f t d m e _ A1.out).mono ?_); rintro ee w1 ⟨rfl, hb⟩; have H1 := Held.below H hb; clear hb; obtain ⟨_, _, _, _, y4, y5, y6⟩ := H1.cells))
  go_end0
  exact ⟨rfl, _, H1⟩

set_option maxHeartbeats 2000000 in
set_option maxRecDepth 100000 in
theorem try_minute (k : Nat) (n o s f t day minute d m e : Int) (w0 w : World) (bz bd bm bo : Nat) (xs : List Int) (A : Option Addr) (c : Nat) (H : Held w0 w bz bd bm bo o s f t day minute (.slice A xs.length c) xs) (A1 : Aside0 (calendar_Local.f k n o s f t = some (d, m, e))) (q1 : (e == 0) = true) (q2 : (d == day) = true) (q3 : (m == minute) = false) :
    Calls Tryd.prog 52 #[.int .i64 n, .pointer (some ⟨bz, 0, none⟩), .pointer (some ⟨bd, 0, none⟩), .pointer (some ⟨bm, 0, none⟩), .pointer (some ⟨bo, 0, none⟩)] w (TryEnd w0 bz bd bm bo o s f t day minute xs) := by
  obtain ⟨x0, x1, x2, x3, _, _, _⟩ := H.cells
  have hu39 := Tryd.underlying39
  go_enter Tryd.func52, Tryd.ntmps52
  go_wp2_with (first | (go_at_call 26; (with_reducible refine (calendar_Local.calls k n o s f t d m e _ A1.out).mono ?_); rintro ee w1 ⟨rfl, hb⟩; have H1 := Held.below H hb; clear hb; obtain ⟨_, _, _, _, y4, y5, y6⟩ := H1.cells))
  go_end0
  exact ⟨rfl, _, H1⟩

set_option maxHeartbeats 2000000 in
set_option maxRecDepth 100000 in
theorem try_has (k : Nat) (n o s f t day minute d m e : Int) (w0 w : World) (bz bd bm bo : Nat) (xs : List Int) (A : Option Addr) (c : Nat) (H : Held w0 w bz bd bm bo o s f t day minute (.slice A xs.length c) xs) (A1 : Aside0 (calendar_Local.f k n o s f t = some (d, m, e))) (q1 : (e == 0) = true) (q2 : (d == day) = true) (q3 : (m == minute) = true) (kc : Nat) (A2 : Aside0 (slices_Contains_int_int.f kc xs n = some true)) :
    Calls Tryd.prog 52 #[.int .i64 n, .pointer (some ⟨bz, 0, none⟩), .pointer (some ⟨bd, 0, none⟩), .pointer (some ⟨bm, 0, none⟩), .pointer (some ⟨bo, 0, none⟩)] w (TryEnd w0 bz bd bm bo o s f t day minute xs) := by
  obtain ⟨x0, x1, x2, x3, _, _, _⟩ := H.cells
  have hu39 := Tryd.underlying39
  go_enter Tryd.func52, Tryd.ntmps52
  go_wp2_with (first | (go_at_call 26; (with_reducible refine (calendar_Local.calls k n o s f t d m e _ A1.out).mono ?_); rintro ee w1 ⟨rfl, hb⟩; have H1 := Held.below H hb; clear hb; obtain ⟨_, _, _, _, y4, y5, y6⟩ := H1.cells) | (go_at_call 53; (with_reducible refine (slices_Contains_int_int.calls kc A c xs n true _ ?sc1 ?sc2 A2.out).mono ?_); (case sc1 => exact (Kd.R_reads' H1.r).2.2); (case sc2 => exact (Kd.R_reads' H1.r).2.1); rintro ee w2 ⟨rfl, hd⟩; have H2 := Held.below H1 (Drawn0.below hd); clear hd H1 y4 y5 y6; obtain ⟨_, _, _, _, y4, y5, y6⟩ := H2.cells))
  go_end0
  exact ⟨rfl, _, H2⟩

theorem held_far {w0 w : World} {bz bd bm bo : Nat} {o s f t day minute : Int} {v : Value} {xs : List Int} (h : Held w0 w bz bd bm bo o s f t day minute v xs) : ∀ k, w.heap.size ≤ k → k ≠ bd ∧ k ≠ bm :=
  fun k hk => ⟨by have := blk_lt h.d; omega, by have := blk_lt h.m; omega⟩
/-- Behind the append, ahead of the store. -/
structure Grown3 (w0 w : World) (bz bd bm bo : Nat) (o s f t day minute : Int) (v v1 : Value) (xs : List Int) : Prop where
  z : w.heap[bz]? = some (.cells #[.int .i64 o, .int .i64 s, .int .i64 f, .int .i64 t] 39 (0, 0))
  d : w.heap[bd]? = some (.cells #[.int .i64 day] 3 (0, 0))
  m : w.heap[bm]? = some (.cells #[.int .i64 minute] 3 (0, 0))
  o : w.heap[bo]? = some (.cells #[v] 23 (0, 0))
  r : Kd.R (Kd.int .i64) 3 w w0.heap.size (fun k => k ≠ bd ∧ k ≠ bm) v1 xs
  b : Below w0.heap.size w0 w
  gd : w0.heap.size ≤ bo
theorem Held.appended {w0 w w3 : World} {bz bd bm bo : Nat} {o s f t day minute : Int} {v v1 : Value} {xs ys : List Int} (h : Held w0 w bz bd bm bo o s f t day minute v xs)
    (ho : Kd.R (Kd.int .i64) 3 w3 w0.heap.size (fun k => k ≠ bd ∧ k ≠ bm) v1 ys) (hb : Below w0.heap.size w0 w3) (hg : w.grownBy w3 v.ownBlock) : Grown3 w0 w3 bz bd bm bo o s f t day minute v v1 ys :=
  ⟨blk_grown h.z hg (Kd.R_ne h.r h.z (by decide)), blk_grown h.d hg (fun e => (h.r.1 _ e.symm).1 rfl), blk_grown h.m hg (fun e => (h.r.1 _ e.symm).2 rfl), blk_grown h.o hg (Kd.R_ne h.r h.o (by decide)), ho, hb, h.gd⟩
theorem Grown3.cell {w0 w : World} {bz bd bm bo : Nat} {o s f t day minute : Int} {v v1 : Value} {xs : List Int} (h : Grown3 w0 w bz bd bm bo o s f t day minute v v1 xs) : w.cell? ⟨bo, 0, none⟩ = some v ∧ w.frozen? ⟨bo, 0, none⟩ = false :=
  ⟨(blk_cell h.o 0).trans rfl, by simp [World.frozen?, h.o]⟩
theorem Grown3.stored {w0 w : World} {bz bd bm bo : Nat} {o s f t day minute : Int} {v v1 : Value} {xs : List Int} (h : Grown3 w0 w bz bd bm bo o s f t day minute v v1 xs) : Held w0 (w.setCell ⟨bo, 0, none⟩ v1) bz bd bm bo o s f t day minute v1 xs := by
  have n1 : bz ≠ bo := by
    rintro rfl
    have := h.z.symm.trans h.o
    simp at this
  have n2 : bd ≠ bo := by
    rintro rfl
    have := h.d.symm.trans h.o
    simp at this
  have n3 : bm ≠ bo := by
    rintro rfl
    have := h.m.symm.trans h.o
    simp at this
  exact ⟨blk_far h.z n1 _, blk_far h.d n2 _, blk_far h.m n3 _, by simpa using blk_set h.o 0 v1, Kd.R_set h.r h.o (by intro q hq; rw [show (Kd.int .i64).E = [] from rfl] at hq; simp at hq; omega) 0 v1, below_set h.b h.gd, h.gd⟩
set_option maxHeartbeats 2000000 in
set_option maxRecDepth 100000 in
theorem try_new (k : Nat) (n o s f t day minute d m e : Int) (w0 w : World) (bz bd bm bo : Nat) (xs : List Int) (A : Option Addr) (c : Nat) (H : Held w0 w bz bd bm bo o s f t day minute (.slice A xs.length c) xs) (A1 : Aside0 (calendar_Local.f k n o s f t = some (d, m, e))) (q1 : (e == 0) = true) (q2 : (d == day) = true) (q3 : (m == minute) = true) (kc : Nat) (A2 : Aside0 (slices_Contains_int_int.f kc xs n = some false)) (hl : xs.length ≤ 2) :
    Calls Tryd.prog 52 #[.int .i64 n, .pointer (some ⟨bz, 0, none⟩), .pointer (some ⟨bd, 0, none⟩), .pointer (some ⟨bm, 0, none⟩), .pointer (some ⟨bo, 0, none⟩)] w (TryEnd w0 bz bd bm bo o s f t day minute (xs ++ [n])) := by
  obtain ⟨x0, x1, x2, x3, _, _, _⟩ := H.cells
  have hu39 := Tryd.underlying39
  go_enter Tryd.func52, Tryd.ntmps52
  go_wp2_with (first | (go_at_call 26; (with_reducible refine (calendar_Local.calls k n o s f t d m e _ A1.out).mono ?_); rintro ee w1 ⟨rfl, hb⟩; have H1 := Held.below H hb; clear hb; obtain ⟨_, _, _, _, y4, y5, y6⟩ := H1.cells) | (go_at_call 53; (with_reducible refine (slices_Contains_int_int.calls kc A c xs n false _ ?sc1 ?sc2 A2.out).mono ?_); (case sc1 => exact (Kd.R_reads' H1.r).2.2); (case sc2 => exact (Kd.R_reads' H1.r).2.1); rintro ee w2 ⟨rfl, hd⟩; have H2 := Held.below H1 (Drawn0.below hd); clear hd H1 y4 y5 y6; obtain ⟨_, _, _, _, y4, y5, y6⟩ := H2.cells) | (at_builtin; refine Kd.R_append (Kd.int .i64) (w0 := w0) w0.heap.size rfl (.tmp 34) (.tmp 36) 23 3 (.int .i64 0) 8 rfl Tryd.underlying23 info3 rfl (by decide) (by omega) (.slice A xs.length c) xs n [.int .i64 n] (fun k => k ≠ bd ∧ k ≠ bm) (fun _ => False) rfl rfl ?aP (fun _ hk => hk.elim) ?aF ?aO ?aB ?aS ?aL ?_; (case aP => exact rfl); (case aB => exact H2.b); (case aF => exact held_far H2); (case aO => exact H2.r); (case aS => exact H2.b.size); (case aL => omega); intro v1 w3 ho hb hg hat; obtain ⟨A3, c3, rfl⟩ := Kd.R_slice ho; have H3 := Held.appended H2 ho hb hg; clear ho hb hg hat H2 y4 y5 y6; obtain ⟨y6, y7⟩ := H3.cell))
  go_end0
  have H4 := H3.stored
  simp only [List.length_append, List.length_cons, List.length_nil, Nat.zero_add] at H4
  exact ⟨rfl, _, H4⟩

/-- The list behind one call of the closure. -/
def tryList (k : Nat) (xs : List Int) (n o s f t day minute : Int) : Option (List Int) := (calendar_Local.f k n o s f t).bind fun b =>
  if b.2.2 = 0 then (if b.1 = day then (if b.2.1 = minute then ((slices_Contains_int_int.f k xs n).bind fun c => if c = true then some xs else some (xs ++ [n])) else some xs) else some xs) else some xs
theorem tryList.mono : ∀ xs n o s f t day minute k, LeO (tryList k xs n o s f t day minute) (tryList (k + 1) xs n o s f t day minute) := by
  intro xs n o s f t day minute k
  unfold tryList
  repeat' first
      | (with_reducible exact calendar_Local.mono _ _ _ _ _ _)
      | (with_reducible exact slices_Contains_int_int.mono _ _ _)
      | (with_reducible exact LeO.refl _)
      | (with_reducible refine LeO.ite ?_ ?_)
      | (with_reducible refine LeO.bind ?_ (fun _ => ?_))
      | exact calendar_Local.mono _ _ _ _ _ _
      | exact slices_Contains_int_int.mono _ _ _
theorem tryList.len {k : Nat} {xs ys : List Int} {n o s f t day minute : Int} (h : tryList k xs n o s f t day minute = some ys) : ys.length ≤ xs.length + 1 := by
  unfold tryList at h
  replace h := Option.bind_eq_some_iff.mp h
  obtain ⟨b, _, h⟩ := h
  repeat' split at h
  all_goals first
    | (obtain rfl := Option.some.inj h; omega)
    | (replace h := Option.bind_eq_some_iff.mp h; obtain ⟨c, _, h⟩ := h; split at h <;> (obtain rfl := Option.some.inj h; simp))
theorem try_any (k : Nat) (n o s f t day minute : Int) (w0 w : World) (bz bd bm bo : Nat) (xs ys : List Int) (A : Option Addr) (c : Nat) (H : Held w0 w bz bd bm bo o s f t day minute (.slice A xs.length c) xs) (hl : xs.length ≤ 2)
    (h : Hid (tryList k xs n o s f t day minute = some ys)) :
    Calls Tryd.prog 52 #[.int .i64 n, .pointer (some ⟨bz, 0, none⟩), .pointer (some ⟨bd, 0, none⟩), .pointer (some ⟨bm, 0, none⟩), .pointer (some ⟨bo, 0, none⟩)] w (TryEnd w0 bz bd bm bo o s f t day minute ys) := by
  have h := h.out
  unfold tryList at h
  replace h := Option.bind_eq_some_iff.mp h
  obtain ⟨⟨d, m, e⟩, A1, h⟩ := h
  replace A1 := Aside0.mk A1
  simp only at h
  by_cases c1 : e = 0
  · rw [if_pos c1] at h
    by_cases c2 : d = day
    · rw [if_pos c2] at h
      by_cases c3 : m = minute
      · rw [if_pos c3] at h
        replace h := Option.bind_eq_some_iff.mp h
        obtain ⟨q, A2, h⟩ := h
        cases q with
        | true =>
          rw [if_pos rfl] at h
          obtain rfl := Option.some.inj h
          exact try_has k n o s f t day minute d m e w0 w bz bd bm bo xs A c H A1 (beq_iff_eq.mpr c1) (beq_iff_eq.mpr c2) (beq_iff_eq.mpr c3) k (Aside0.mk A2)
        | false =>
          rw [if_neg (by decide)] at h
          obtain rfl := Option.some.inj h
          exact try_new k n o s f t day minute d m e w0 w bz bd bm bo xs A c H A1 (beq_iff_eq.mpr c1) (beq_iff_eq.mpr c2) (beq_iff_eq.mpr c3) k (Aside0.mk A2) hl
      · rw [if_neg c3] at h
        obtain rfl := Option.some.inj h
        exact try_minute k n o s f t day minute d m e w0 w bz bd bm bo xs A c H A1 (beq_iff_eq.mpr c1) (beq_iff_eq.mpr c2) (beq_eq_false_iff_ne.mpr c3)
    · rw [if_neg c2] at h
      obtain rfl := Option.some.inj h
      exact try_day k n o s f t day minute d m e w0 w bz bd bm bo xs A c H A1 (beq_iff_eq.mpr c1) (beq_eq_false_iff_ne.mpr c2)
  · rw [if_neg c1] at h
    obtain rfl := Option.some.inj h
    exact try_err k n o s f t day minute d m e w0 w bz bd bm bo xs A c H A1 (beq_eq_false_iff_ne.mpr c1)

def calendar_Moments.f (k : Nat) (a0 a1 o s f t : Int) : Option (List Int × Int) :=
  (calendar_Zone_valid.f o s f t).bind fun v => if v = true then ((calendar_known.f a0).bind fun q => if q = true then (if a1 < 0 then some ([], 5) else (if a1 ≥ 1440 then some ([], 5) else
    ((tryList k [] (1440 * a0 + a1 - o - s) o s f t a0 a1).bind fun l1 => (tryList k l1 (1440 * a0 + a1 - o) o s f t a0 a1).bind fun l2 => some (l2, 0)))) else some ([], 5)) else some ([], 1)
theorem calendar_Moments.mono : ∀ a0 a1 o s f t k, LeO (calendar_Moments.f k a0 a1 o s f t) (calendar_Moments.f (k + 1) a0 a1 o s f t) := by
  intro a0 a1 o s f t k
  unfold calendar_Moments.f
  repeat' first
      | (with_reducible exact tryList.mono _ _ _ _ _ _ _ _ _)
      | (with_reducible exact LeO.refl _)
      | (with_reducible refine LeO.ite ?_ ?_)
      | (with_reducible refine LeO.bind ?_ (fun _ => ?_))
      | exact tryList.mono _ _ _ _ _ _ _ _ _
/-- How Moments ends. -/
def MomEnd (w : World) (r1 : List Int) (r2 : Int) (e : Ending) (w' : World) : Prop :=
  ∃ v0_ : Value, e = .returned (.tuple #[v0_, .int .i64 r2]) ∧ Kd.R (Kd.int .i64) 3 w' w.heap.size (fun _ => True) v0_ r1 ∧ Below w.heap.size w w'

/-- The three boxed parameters. -/
structure Box (w0 w : World) (bz bd bm : Nat) (o s f t day minute : Int) : Prop where
  z : w.heap[bz]? = some (.cells #[.int .i64 o, .int .i64 s, .int .i64 f, .int .i64 t] 39 (0, 0))
  d : w.heap[bd]? = some (.cells #[.int .i64 day] 3 (0, 0))
  m : w.heap[bm]? = some (.cells #[.int .i64 minute] 3 (0, 0))
  b : Below w0.heap.size w0 w
theorem Box.below {w0 w w1 : World} {bz bd bm : Nat} {o s f t day minute : Int} (h : Box w0 w bz bd bm o s f t day minute) (hb : Below w.heap.size w w1) : Box w0 w1 bz bd bm o s f t day minute :=
  ⟨blk_below h.z hb, blk_below h.d hb, blk_below h.m hb, h.b.trans (hb.mono h.b.size)⟩
theorem Box.cells {w0 w : World} {bz bd bm : Nat} {o s f t day minute : Int} (h : Box w0 w bz bd bm o s f t day minute) :
    w.cell? ⟨bz, 0, none⟩ = some (.int .i64 o) ∧ w.cell? ⟨bz, 1, none⟩ = some (.int .i64 s) ∧ w.cell? ⟨bz, 2, none⟩ = some (.int .i64 f) ∧ w.cell? ⟨bz, 3, none⟩ = some (.int .i64 t) ∧
    w.cell? ⟨bd, 0, none⟩ = some (.int .i64 day) ∧ w.cell? ⟨bm, 0, none⟩ = some (.int .i64 minute) :=
  ⟨(blk_cell h.z 0).trans rfl, (blk_cell h.z 1).trans rfl, (blk_cell h.z 2).trans rfl, (blk_cell h.z 3).trans rfl, (blk_cell h.d 0).trans rfl, (blk_cell h.m 0).trans rfl⟩
theorem Box.start (w : World) (o s f t day minute : Int) : Box w (((w.alloc (.cells #[.int .i64 day] 3)).alloc (.cells #[.int .i64 minute] 3)).alloc (.cells #[.int .i64 o, .int .i64 s, .int .i64 f, .int .i64 t] 39)) (w.heap.size + 1 + 1) w.heap.size (w.heap.size + 1) o s f t day minute := by
  have h1 := heap_alloc_new w (.cells #[.int .i64 day] 3)
  have h2 := heap_alloc_new (w.alloc (.cells #[.int .i64 day] 3)) (.cells #[.int .i64 minute] 3)
  have h3 := heap_alloc_new ((w.alloc (.cells #[.int .i64 day] 3)).alloc (.cells #[.int .i64 minute] 3)) (.cells #[.int .i64 o, .int .i64 s, .int .i64 f, .int .i64 t] 39)
  simp only [World.size_alloc] at h2 h3
  exact ⟨h3, blk_alloc (blk_alloc h1 _) _, blk_alloc h2 _, below_alloc (below_alloc (below_alloc (Below.refl _ _) _) _) _⟩
theorem Held.start {w0 w : World} {bz bd bm : Nat} {o s f t day minute : Int} (h : Box w0 w bz bd bm o s f t day minute) :
    Held w0 (w.alloc (.cells #[.slice none 0 0] 23)) bz bd bm w.heap.size o s f t day minute (.slice none ([] : List Int).length 0) [] :=
  ⟨blk_alloc h.z _, blk_alloc h.d _, blk_alloc h.m _, heap_alloc_new w _, Kd.R_nil _ _ _ _ _, below_alloc h.b _, h.b.size⟩

set_option maxHeartbeats 2000000 in
set_option maxRecDepth 100000 in
theorem Moments_go (k : Nat) (a0 a1 o s f t : Int) (w : World) (l1 l2 : List Int) (V : Aside0 (calendar_Zone_valid.f o s f t = some true)) (K : Aside0 (calendar_known.f a0 = some true))
    (z0 : -146097 ≤ a0) (z1 : a0 < 146097) (z2 : 0 ≤ a1) (z3 : a1 < 1440) (z4 : -900 ≤ o) (z5 : o ≤ 900) (z6 : 0 ≤ s) (z7 : s ≤ 120)
    (T1 : Hid (tryList k [] (1440 * a0 + a1 - o - s) o s f t a0 a1 = some l1)) (T2 : Hid (tryList k l1 (1440 * a0 + a1 - o) o s f t a0 a1 = some l2)) (hl : l1.length ≤ 2) :
    Calls Tryd.prog 29 #[.int .i64 a0, .int .i64 a1, .agg #[.int .i64 o, .int .i64 s, .int .i64 f, .int .i64 t]] w (MomEnd w l2 0) := by
  have d1 : decide (a1 < 0) = false := decide_eq_false (by omega)
  have d2 : decide (1440 ≤ a1) = false := decide_eq_false (by omega)
  have hu39 := Tryd.underlying39
  go_enter Tryd.func29, Tryd.ntmps29
  go_wp2_with (first | (go_at_call 48; (with_reducible refine (calendar_Zone_valid.calls _ _ _ _ _ _ V.out).mono ?_); rintro e w1 ⟨rfl, hb⟩; have X1 := Box.below (Box.start w o s f t a0 a1) hb; clear hb; obtain ⟨_, _, _, _, y4, y5⟩ := X1.cells) | (go_at_call 36; (with_reducible refine (calendar_known.calls _ _ _ K.out).mono ?_); rintro e w2 ⟨rfl, hd⟩; have X2 := Box.below X1 (Drawn0.below hd); clear hd y4 y5 X1; obtain ⟨x0, x1, _, _, y4, y5⟩ := X2.cells; have g3 := blk_lt X2.z; have g1 := blk_lt X2.d; have g2 := blk_lt X2.m) | (go_at_call 52; (with_reducible refine (try_any k _ o s f t a0 a1 w _ _ _ _ _ [] l1 none 0 (Held.start X2) (Nat.zero_le _) T1).mono ?_); rintro e w3 ⟨rfl, v3, H3⟩; clear X2 x0 x1 y4 y5 g1 g2 g3; obtain ⟨A3, c3, rfl⟩ := Kd.R_slice H3.r; obtain ⟨_, _, _, _, _, _, y6⟩ := H3.cells) | (go_at_call 52; (with_reducible refine (try_any k _ o s f t a0 a1 w _ _ _ _ _ l1 l2 A3 c3 H3 hl T2).mono ?_); rintro e w4 ⟨rfl, v4, H4⟩; clear H3 y6; obtain ⟨A4, c4, rfl⟩ := Kd.R_slice H4.r; obtain ⟨_, _, _, _, _, _, y6⟩ := H4.cells))
  go_ret2
  exact ⟨_, rfl, Kd.R_mono H4.r (fun _ _ => trivial), H4.b⟩

set_option maxHeartbeats 2000000 in
set_option maxRecDepth 100000 in
theorem Moments_zone (a0 a1 o s f t : Int) (w : World) (V : Aside0 (calendar_Zone_valid.f o s f t = some false)) :
    Calls Tryd.prog 29 #[.int .i64 a0, .int .i64 a1, .agg #[.int .i64 o, .int .i64 s, .int .i64 f, .int .i64 t]] w (MomEnd w [] 1) := by
  have hu39 := Tryd.underlying39
  go_enter Tryd.func29, Tryd.ntmps29
  go_wp2_with (first | (go_at_call 48; (with_reducible refine (calendar_Zone_valid.calls _ _ _ _ _ _ V.out).mono ?_); rintro e w1 ⟨rfl, hb⟩; have X1 := Box.below (Box.start w o s f t a0 a1) hb; clear hb; obtain ⟨_, _, _, _, y4, y5⟩ := X1.cells))
  go_ret2
  exact ⟨_, rfl, Kd.R_nil _ _ _ _ _, X1.b⟩

set_option maxHeartbeats 2000000 in
set_option maxRecDepth 100000 in
theorem Moments_day (a0 a1 o s f t : Int) (w : World) (V : Aside0 (calendar_Zone_valid.f o s f t = some true)) (K : Aside0 (calendar_known.f a0 = some false)) :
    Calls Tryd.prog 29 #[.int .i64 a0, .int .i64 a1, .agg #[.int .i64 o, .int .i64 s, .int .i64 f, .int .i64 t]] w (MomEnd w [] 5) := by
  have hu39 := Tryd.underlying39
  go_enter Tryd.func29, Tryd.ntmps29
  go_wp2_with (first | (go_at_call 48; (with_reducible refine (calendar_Zone_valid.calls _ _ _ _ _ _ V.out).mono ?_); rintro e w1 ⟨rfl, hb⟩; have X1 := Box.below (Box.start w o s f t a0 a1) hb; clear hb; obtain ⟨_, _, _, _, y4, y5⟩ := X1.cells) | (go_at_call 36; (with_reducible refine (calendar_known.calls _ _ _ K.out).mono ?_); rintro e w2 ⟨rfl, hd⟩; have X2 := Box.below X1 (Drawn0.below hd); clear hd y4 y5 X1; obtain ⟨x0, x1, _, _, y4, y5⟩ := X2.cells))
  go_ret2
  exact ⟨_, rfl, Kd.R_nil _ _ _ _ _, X2.b⟩

set_option maxHeartbeats 2000000 in
set_option maxRecDepth 100000 in
theorem Moments_low (a0 a1 o s f t : Int) (w : World) (V : Aside0 (calendar_Zone_valid.f o s f t = some true)) (K : Aside0 (calendar_known.f a0 = some true)) (h : a1 < 0) :
    Calls Tryd.prog 29 #[.int .i64 a0, .int .i64 a1, .agg #[.int .i64 o, .int .i64 s, .int .i64 f, .int .i64 t]] w (MomEnd w [] 5) := by
  have d1 : decide (a1 < 0) = true := decide_eq_true h
  have hu39 := Tryd.underlying39
  go_enter Tryd.func29, Tryd.ntmps29
  go_wp2_with (first | (go_at_call 48; (with_reducible refine (calendar_Zone_valid.calls _ _ _ _ _ _ V.out).mono ?_); rintro e w1 ⟨rfl, hb⟩; have X1 := Box.below (Box.start w o s f t a0 a1) hb; clear hb; obtain ⟨_, _, _, _, y4, y5⟩ := X1.cells) | (go_at_call 36; (with_reducible refine (calendar_known.calls _ _ _ K.out).mono ?_); rintro e w2 ⟨rfl, hd⟩; have X2 := Box.below X1 (Drawn0.below hd); clear hd y4 y5 X1; obtain ⟨x0, x1, _, _, y4, y5⟩ := X2.cells))
  go_ret2
  exact ⟨_, rfl, Kd.R_nil _ _ _ _ _, X2.b⟩

set_option maxHeartbeats 2000000 in
set_option maxRecDepth 100000 in
theorem Moments_high (a0 a1 o s f t : Int) (w : World) (V : Aside0 (calendar_Zone_valid.f o s f t = some true)) (K : Aside0 (calendar_known.f a0 = some true)) (h : 0 ≤ a1) (h2 : 1440 ≤ a1) :
    Calls Tryd.prog 29 #[.int .i64 a0, .int .i64 a1, .agg #[.int .i64 o, .int .i64 s, .int .i64 f, .int .i64 t]] w (MomEnd w [] 5) := by
  have d1 : decide (a1 < 0) = false := decide_eq_false (by omega)
  have d2 : decide (1440 ≤ a1) = true := decide_eq_true h2
  have hu39 := Tryd.underlying39
  go_enter Tryd.func29, Tryd.ntmps29
  go_wp2_with (first | (go_at_call 48; (with_reducible refine (calendar_Zone_valid.calls _ _ _ _ _ _ V.out).mono ?_); rintro e w1 ⟨rfl, hb⟩; have X1 := Box.below (Box.start w o s f t a0 a1) hb; clear hb; obtain ⟨_, _, _, _, y4, y5⟩ := X1.cells) | (go_at_call 36; (with_reducible refine (calendar_known.calls _ _ _ K.out).mono ?_); rintro e w2 ⟨rfl, hd⟩; have X2 := Box.below X1 (Drawn0.below hd); clear hd y4 y5 X1; obtain ⟨x0, x1, _, _, y4, y5⟩ := X2.cells))
  go_ret2
  exact ⟨_, rfl, Kd.R_nil _ _ _ _ _, X2.b⟩

theorem known_bounds {a : Int} (h : calendar_known.f a = some true) : -146097 ≤ a ∧ a < 146097 := by
  unfold calendar_known.f at h
  split at h
  · have h := Option.some.inj h
    simp at h
    omega
  · simp at h
theorem valid_bounds {o s f t : Int} (h : calendar_Zone_valid.f o s f t = some true) : (-900 ≤ o ∧ o ≤ 900) ∧ (0 ≤ s ∧ s ≤ 120) ∧ 1 ≤ f ∧ t ≤ 367 ∧ f ≤ t := by
  unfold calendar_Zone_valid.f at h
  repeat' split at h
  all_goals simp at h
  omega
theorem calendar_Moments.calls (k : Nat) (a0 : Int) (a1 : Int) (a2_0 : Int) (a2_1 : Int) (a2_2 : Int) (a2_3 : Int) (r1 : List Int) (r2 : Int) (w : World) (h : calendar_Moments.f k a0 a1 a2_0 a2_1 a2_2 a2_3 = some (r1, r2)) :
    Calls Tryd.prog 29 #[.int .i64 a0, .int .i64 a1, .agg #[.int .i64 a2_0, .int .i64 a2_1, .int .i64 a2_2, .int .i64 a2_3]] w fun e w' => ∃ v0_ : Value, e = .returned (.tuple #[v0_, .int .i64 r2]) ∧ Kd.R (Kd.int .i64) 3 w' w.heap.size (fun _ => True) v0_ r1 ∧ Below w.heap.size w w' := by
  show Calls Tryd.prog 29 #[.int .i64 a0, .int .i64 a1, .agg #[.int .i64 a2_0, .int .i64 a2_1, .int .i64 a2_2, .int .i64 a2_3]] w (MomEnd w r1 r2)
  unfold calendar_Moments.f at h
  replace h := Option.bind_eq_some_iff.mp h
  obtain ⟨v, V, h⟩ := h
  cases v with
  | false =>
    rw [if_neg (by decide)] at h
    obtain ⟨rfl, rfl⟩ := Prod.mk.inj (Option.some.inj h)
    exact Moments_zone a0 a1 _ _ _ _ w (Aside0.mk V)
  | true =>
    rw [if_pos rfl] at h
    replace h := Option.bind_eq_some_iff.mp h
    obtain ⟨q, K, h⟩ := h
    cases q with
    | false =>
      rw [if_neg (by decide)] at h
      obtain ⟨rfl, rfl⟩ := Prod.mk.inj (Option.some.inj h)
      exact Moments_day a0 a1 _ _ _ _ w (Aside0.mk V) (Aside0.mk K)
    | true =>
      rw [if_pos rfl] at h
      by_cases c1 : a1 < 0
      · rw [if_pos c1] at h
        obtain ⟨rfl, rfl⟩ := Prod.mk.inj (Option.some.inj h)
        exact Moments_low a0 a1 _ _ _ _ w (Aside0.mk V) (Aside0.mk K) c1
      · rw [if_neg c1] at h
        by_cases c2 : a1 ≥ 1440
        · rw [if_pos c2] at h
          obtain ⟨rfl, rfl⟩ := Prod.mk.inj (Option.some.inj h)
          exact Moments_high a0 a1 _ _ _ _ w (Aside0.mk V) (Aside0.mk K) (by omega) c2
        · rw [if_neg c2] at h
          replace h := Option.bind_eq_some_iff.mp h
          obtain ⟨l1, T1, h⟩ := h
          replace h := Option.bind_eq_some_iff.mp h
          obtain ⟨l2, T2, h⟩ := h
          obtain ⟨rfl, rfl⟩ := Prod.mk.inj (Option.some.inj h)
          have b1 := known_bounds K
          have b2 := valid_bounds V
          have hl := tryList.len T1
          exact Moments_go k a0 a1 _ _ _ _ w l1 l2 (Aside0.mk V) (Aside0.mk K) b1.1 b1.2 (by omega) (by omega) b2.1.1 b2.1.2 b2.2.1.1 b2.2.1.2 (Lib.hid T1) (Lib.hid T2) (by simp at hl; omega)

/-! ### calendar_Work: function 32 -/
mutual
def calendar_Work.j0 : Nat → Int → Int → List Int → Bool → Option (Int × Int)
  | 0, _, _, _, _ => none
  | k + 1, x0, x1, x2, x20 => if x20 = true then (some (0, 4)) else (if x1 < 0 then (calendar_Work.j1 k x0 (wrap64 (-x1)) x2 (-1)) else (calendar_Work.j1 k x0 x1 x2 1))
def calendar_Work.j1 : Nat → Int → Int → List Int → Int → Option (Int × Int)
  | 0, _, _, _, _ => none
  | k + 1, x0, x1, x2, x8 => calendar_Work.l0 k x0 x1 x2 x8
def calendar_Work.l0 : Nat → Int → Int → List Int → Int → Option (Int × Int)
  | 0, _, _, _, _ => none
  | k + 1, x0, x1, x2, x8 => (calendar_known.f x0).bind fun t163 => (if t163 = true then (calendar_Work.j3 k x0 x1 x2 x8 (decide (x1 > 0))) else (calendar_Work.j3 k x0 x1 x2 x8 false))
def calendar_Work.j3 : Nat → Int → Int → List Int → Int → Bool → Option (Int × Int)
  | 0, _, _, _, _, _ => none
  | k + 1, x0, x1, x2, x8, x30 => if x30 = true then ((calendar_known.f (wrap64 (x0 + x8))).bind fun t165 => (if t165 = true then ((calendar_Weekday.f (wrap64 (x0 + x8))).bind fun t166 => (if t166 < 5 then ((slices_Contains_int_int.f k x2 (wrap64 (x0 + x8))).bind fun t167 => (if t167 = true then (calendar_Work.l0 k (wrap64 (x0 + x8)) x1 x2 x8) else (calendar_Work.l0 k (wrap64 (x0 + x8)) (wrap64 (x1 - 1)) x2 x8))) else (calendar_Work.l0 k (wrap64 (x0 + x8)) x1 x2 x8))) else (calendar_Work.l0 k (wrap64 (x0 + x8)) x1 x2 x8))) else ((calendar_known.f x0).bind fun t164 => (if t164 = true then (some (x0, 0)) else (some (0, 5))))
end
def calendar_Work.f (k : Nat) (a0 : Int) (a1 : Int) (l2 : List Int) : Option (Int × Int) := if a1 < (-1000) then (calendar_Work.j0 k a0 a1 l2 true) else (if a1 > 1000 then (calendar_Work.j0 k a0 a1 l2 true) else (calendar_Work.j0 k a0 a1 l2 (decide ((l2.length : Int) > 400))))
theorem calendar_Work.mono_l : ∀ k, (∀ y0 y1 y2 y3, LeO (calendar_Work.j0 k y0 y1 y2 y3) (calendar_Work.j0 (k + 1) y0 y1 y2 y3)) ∧ (∀ y0 y1 y2 y3, LeO (calendar_Work.j1 k y0 y1 y2 y3) (calendar_Work.j1 (k + 1) y0 y1 y2 y3)) ∧ (∀ y0 y1 y2 y3, LeO (calendar_Work.l0 k y0 y1 y2 y3) (calendar_Work.l0 (k + 1) y0 y1 y2 y3)) ∧ (∀ y0 y1 y2 y3 y4, LeO (calendar_Work.j3 k y0 y1 y2 y3 y4) (calendar_Work.j3 (k + 1) y0 y1 y2 y3 y4))
  | 0 => ⟨fun _ _ _ _ r h => by simp [calendar_Work.j0] at h, fun _ _ _ _ r h => by simp [calendar_Work.j1] at h, fun _ _ _ _ r h => by simp [calendar_Work.l0] at h, fun _ _ _ _ _ r h => by simp [calendar_Work.j3] at h⟩
  | k + 1 => by
    obtain ⟨ih0, ih1, ih2, ih3⟩ := calendar_Work.mono_l k
    refine ⟨?_, ?_, ?_, ?_⟩
    · intro y0 y1 y2 y3
      unfold calendar_Work.j0
      repeat' first
      | (with_reducible exact ih0 _ _ _ _)
      | (with_reducible exact ih1 _ _ _ _)
      | (with_reducible exact ih2 _ _ _ _)
      | (with_reducible exact ih3 _ _ _ _ _)
      | (with_reducible exact slices_Contains_int_int.mono _ _ _)
      | (with_reducible exact LeO.refl _)
      | (with_reducible exact LeO.none _)
      | (with_reducible refine LeO.ite ?_ ?_)
      | (with_reducible refine LeO.bind ?_ (fun _ => ?_))
      | exact ih0 _ _ _ _
      | exact ih1 _ _ _ _
      | exact ih2 _ _ _ _
      | exact ih3 _ _ _ _ _
      | exact slices_Contains_int_int.mono _ _ _
      | exact LeO.none _
      | refine LeO.ite ?_ ?_
      | refine LeO.bind ?_ (fun _ => ?_)
    · intro y0 y1 y2 y3
      unfold calendar_Work.j1
      repeat' first
      | (with_reducible exact ih0 _ _ _ _)
      | (with_reducible exact ih1 _ _ _ _)
      | (with_reducible exact ih2 _ _ _ _)
      | (with_reducible exact ih3 _ _ _ _ _)
      | (with_reducible exact slices_Contains_int_int.mono _ _ _)
      | (with_reducible exact LeO.refl _)
      | (with_reducible exact LeO.none _)
      | (with_reducible refine LeO.ite ?_ ?_)
      | (with_reducible refine LeO.bind ?_ (fun _ => ?_))
      | exact ih0 _ _ _ _
      | exact ih1 _ _ _ _
      | exact ih2 _ _ _ _
      | exact ih3 _ _ _ _ _
      | exact slices_Contains_int_int.mono _ _ _
      | exact LeO.none _
      | refine LeO.ite ?_ ?_
      | refine LeO.bind ?_ (fun _ => ?_)
    · intro y0 y1 y2 y3
      unfold calendar_Work.l0
      repeat' first
      | (with_reducible exact ih0 _ _ _ _)
      | (with_reducible exact ih1 _ _ _ _)
      | (with_reducible exact ih2 _ _ _ _)
      | (with_reducible exact ih3 _ _ _ _ _)
      | (with_reducible exact slices_Contains_int_int.mono _ _ _)
      | (with_reducible exact LeO.refl _)
      | (with_reducible exact LeO.none _)
      | (with_reducible refine LeO.ite ?_ ?_)
      | (with_reducible refine LeO.bind ?_ (fun _ => ?_))
      | exact ih0 _ _ _ _
      | exact ih1 _ _ _ _
      | exact ih2 _ _ _ _
      | exact ih3 _ _ _ _ _
      | exact slices_Contains_int_int.mono _ _ _
      | exact LeO.none _
      | refine LeO.ite ?_ ?_
      | refine LeO.bind ?_ (fun _ => ?_)
    · intro y0 y1 y2 y3 y4
      unfold calendar_Work.j3
      repeat' first
      | (with_reducible exact ih0 _ _ _ _)
      | (with_reducible exact ih1 _ _ _ _)
      | (with_reducible exact ih2 _ _ _ _)
      | (with_reducible exact ih3 _ _ _ _ _)
      | (with_reducible exact slices_Contains_int_int.mono _ _ _)
      | (with_reducible exact LeO.refl _)
      | (with_reducible exact LeO.none _)
      | (with_reducible refine LeO.ite ?_ ?_)
      | (with_reducible refine LeO.bind ?_ (fun _ => ?_))
      | exact ih0 _ _ _ _
      | exact ih1 _ _ _ _
      | exact ih2 _ _ _ _
      | exact ih3 _ _ _ _ _
      | exact slices_Contains_int_int.mono _ _ _
      | exact LeO.none _
      | refine LeO.ite ?_ ?_
      | refine LeO.bind ?_ (fun _ => ?_)
theorem calendar_Work.mono : ∀ a0 a1 a2 k, LeO (calendar_Work.f k a0 a1 a2) (calendar_Work.f (k + 1) a0 a1 a2) := by
  intro a0 a1 a2 k
  obtain ⟨ih0, ih1, ih2, ih3⟩ := calendar_Work.mono_l k
  unfold calendar_Work.f
  repeat' first
      | (with_reducible exact ih0 _ _ _ _)
      | (with_reducible exact ih1 _ _ _ _)
      | (with_reducible exact ih2 _ _ _ _)
      | (with_reducible exact ih3 _ _ _ _ _)
      | (with_reducible exact slices_Contains_int_int.mono _ _ _)
      | (with_reducible exact LeO.refl _)
      | (with_reducible exact LeO.none _)
      | (with_reducible refine LeO.ite ?_ ?_)
      | (with_reducible refine LeO.bind ?_ (fun _ => ?_))
      | exact ih0 _ _ _ _
      | exact ih1 _ _ _ _
      | exact ih2 _ _ _ _
      | exact ih3 _ _ _ _ _
      | exact slices_Contains_int_int.mono _ _ _
      | exact LeO.none _
      | refine LeO.ite ?_ ?_
      | refine LeO.bind ?_ (fun _ => ?_)
set_option maxHeartbeats 8000000 in
set_option maxRecDepth 100000 in
theorem calendar_Work.calls (k : Nat) (a0 : Int) (a1 : Int) (A2 : Option Addr) (c2 : Nat) (l2 : List Int) (r1 : Int) (r2 : Int) (w : World) (hr2 : Kd.C (Kd.int .i64) w A2 l2.length l2) (hc2 : l2.length ≤ c2) (h : calendar_Work.f k a0 a1 l2 = some (r1, r2)) :
    Calls Tryd.prog 32 #[.int .i64 a0, .int .i64 a1, .slice A2 l2.length c2] w fun e w' => e = .returned (.tuple #[.int .i64 r1, .int .i64 r2]) ∧ Drawn0 w w' := by
  have HR2 := Aside0.mk hr2
  have HC2 := Aside0.mk hc2
  clear hr2 hc2
  have H : (if a1 < (-1000) then (calendar_Work.j0 k a0 a1 l2 true) else (if a1 > 1000 then (calendar_Work.j0 k a0 a1 l2 true) else (calendar_Work.j0 k a0 a1 l2 (decide ((l2.length : Int) > 400))))) = some (r1, r2) := h
  clear h
  have HC4 := Aside0.mk H
  clear H
  go_enter Tryd.func32, Tryd.ntmps32
  go_upto_region 1 with (fail)
  go_cut [20] (fun v20 wc => ∃ (kq : Nat) (x20_3 : Bool), v20 = .bool x20_3 ∧ Aside0 (calendar_Work.j0 kq a0 a1 l2 x20_3 = some (r1, r2)) ∧ Aside0 (kq ≤ k) ∧ Drawn0 w wc)
  case first =>
    have H := HC4.out
    clear HC4
    by_cases c5 : a1 < (-1000)
    · rw [if_pos c5] at H
      have c5b0 : decide (a1 < (-1000)) = true := decide_eq_true c5
      clear c5
      (first | rw [c5b0] | (simp only [i64_w, i32_w]; rw [c5b0]) | skip)
      have H' := Aside0.mk H
      clear H
      go_wp2
      go_meet
      case rel => exact ⟨_, (true), (by first | rfl | (simp; done) | (simp [*]; done)), H', ⟨by first | omega | exact Nat.le_refl _⟩, by repeat (first | exact Drawn0.refl _ | apply Drawn0.step)⟩
    · rw [if_neg c5] at H
      have c5b0 : decide (a1 < (-1000)) = false := decide_eq_false c5
      clear c5
      (first | rw [c5b0] | (simp only [i64_w, i32_w]; rw [c5b0]) | skip)
      by_cases c6 : a1 > 1000
      · rw [if_pos c6] at H
        have c6b0 : decide (1000 < a1) = true := decide_eq_true c6
        clear c6
        have H' := Aside0.mk H
        clear H
        go_wp2
        go_meet
        case rel => exact ⟨_, (true), (by first | rfl | (simp; done) | (simp [*]; done)), H', ⟨by first | omega | exact Nat.le_refl _⟩, by repeat (first | exact Drawn0.refl _ | apply Drawn0.step)⟩
      · rw [if_neg c6] at H
        have c6b0 : decide (1000 < a1) = false := decide_eq_false c6
        clear c6
        have H' := Aside0.mk H
        clear H
        go_wp2
        go_meet
        case rel => exact ⟨_, (decide ((l2.length : Int) > 400)), (by first | rfl | (simp; done) | (simp [*]; done)), H', ⟨by first | omega | exact Nat.le_refl _⟩, by repeat (first | exact Drawn0.refl _ | apply Drawn0.step)⟩
  case rest =>
    clear HC4
    try clear c2
    try clear p2
    try clear c3
    try clear c5
    try clear c5b0
    try clear c6
    try clear c6b0
    obtain ⟨kq, x20_3, rfl, HA, HJ3, ⟨mc3, rfl⟩⟩ := hcut
    cases kq with
    | zero => exact absurd HA.out (by simp [calendar_Work.j0])
    | succ kj3 =>
      have H := HA.out
      clear HA
      simp only [calendar_Work.j0] at H
      by_cases c7 : x20_3 = true
      · subst c7
        have H1 : (some (0, 4)) = some (r1, r2) := by rw [if_pos rfl] at H; exact H
        clear H
        have H := H1
        clear H1
        simp only [Option.some.injEq, Prod.mk.injEq] at H
        obtain ⟨rfl, rfl⟩ := H
        go_wp2
        go_ret2
        exact ⟨by first | rfl | (simp; done) | (simp [*]; done), by repeat (first | exact Drawn0.refl _ | apply Drawn0.step)⟩
      · replace c7 := Bool.eq_false_iff.mpr c7
        subst c7
        have H1 : (if a1 < 0 then (calendar_Work.j1 kj3 a0 (wrap64 (-a1)) l2 (-1)) else (calendar_Work.j1 kj3 a0 a1 l2 1)) = some (r1, r2) := by rw [if_neg (show ¬ (false = true) by decide)] at H; exact H
        clear H
        have H := H1
        clear H1
        have HC8 := Aside0.mk H
        clear H
        go_upto_if 22 with (fail)
        go_cut [1, 8] (fun v1 v8 wc => ∃ (kq : Nat) (x1_7 : Int) (x8_7 : Int), v1 = .int .i64 x1_7 ∧ v8 = .int .i64 x8_7 ∧ Aside0 (calendar_Work.j1 kq a0 x1_7 l2 x8_7 = some (r1, r2)) ∧ Aside0 (kq ≤ kj3) ∧ Drawn0 w wc)
        case first =>
          have H := HC8.out
          clear HC8
          by_cases c9 : a1 < 0
          · rw [if_pos c9] at H
            have c9b0 : decide (a1 < 0) = true := decide_eq_true c9
            clear c9
            (first | rw [c9b0] | (simp only [i64_w, i32_w]; rw [c9b0]) | skip)
            have H' := Aside0.mk H
            clear H
            go_wp2
            go_meet
            case rel => exact ⟨_, (wrap64 (-a1)), ((-1)), (by first | rfl | (simp; done) | (simp [*]; done)), (by first | rfl | (simp; done) | (simp [*]; done)), H', ⟨by have := HJ3.out; first | omega | exact Nat.le_refl _⟩, by repeat (first | exact Drawn0.refl _ | apply Drawn0.step)⟩
          · rw [if_neg c9] at H
            have c9b0 : decide (a1 < 0) = false := decide_eq_false c9
            clear c9
            (first | rw [c9b0] | (simp only [i64_w, i32_w]; rw [c9b0]) | skip)
            have H' := Aside0.mk H
            clear H
            go_wp2
            go_meet
            case rel => exact ⟨_, (a1), (1), (by first | rfl | (simp; done) | (simp [*]; done)), (by first | rfl | (simp; done) | (simp [*]; done)), H', ⟨by have := HJ3.out; first | omega | exact Nat.le_refl _⟩, by repeat (first | exact Drawn0.refl _ | apply Drawn0.step)⟩
        case rest =>
          clear HC8
          try clear c2
          try clear p2
          try clear c3
          try clear c5
          try clear c5b0
          try clear c6
          try clear c6b0
          try clear p6
          try clear c7
          try clear c9
          try clear c9b0
          try clear p2
          obtain ⟨kq, x1_7, x8_7, rfl, rfl, HA, HJ7, ⟨mc7, rfl⟩⟩ := hcut
          cases kq with
          | zero => exact absurd HA.out (by simp [calendar_Work.j1])
          | succ kj7 =>
            have H := HA.out
            clear HA
            simp only [calendar_Work.j1] at H
            have H' := Aside0.mk H
            clear H
            go_wp2
            go_loopg [0, 1] kj7 (fun kq v0 v1 w' => ∃ (x0_3 : Int) (x1_3 : Int), v0 = .int .i64 x0_3 ∧ v1 = .int .i64 x1_3 ∧ Aside0 (calendar_Work.l0 kq x0_3 x1_3 l2 x8_7 = some (r1, r2)) ∧ Aside0 (kq ≤ kj7) ∧ Drawn0 w w')
            case atStart => exact ⟨(a0), (x1_7), (by first | rfl | (simp; done) | (simp [*]; done)), (by first | rfl | (simp; done) | (simp [*]; done)), H', ⟨Nat.le_refl _⟩, by repeat (first | exact Drawn0.refl _ | apply Drawn0.step)⟩
            case round =>
              clear H'
              try clear c2
              try clear p2
              try clear c3
              try clear c5
              try clear c5b0
              try clear c6
              try clear c6b0
              try clear p6
              try clear c7
              try clear c9
              try clear c9b0
              try clear p2
              try clear p6
              obtain ⟨x0_3, x1_3, rfl, rfl, HA, HK3, ⟨m3, rfl⟩⟩ := hrel
              cases gk with
              | zero => exact absurd HA.out (by simp [calendar_Work.l0])
              | succ k3 =>
                have H := HA.out
                clear HA
                simp only [calendar_Work.l0] at H
                have HC10 := Aside0.mk H
                clear H
                go_upto_region 6 with (fail)
                go_cut [30] (fun v30 wc => ∃ (kq : Nat) (x30_9 : Bool), v30 = .bool x30_9 ∧ Aside0 (calendar_Work.j3 kq x0_3 x1_3 l2 x8_7 x30_9 = some (r1, r2)) ∧ Aside0 (kq ≤ k3) ∧ Drawn0 w wc)
                case first =>
                  have H := HC10.out
                  clear HC10
                  replace H := Option.bind_eq_some_iff.mp H
                  obtain ⟨t163, A110, H⟩ := H
                  replace H : (if t163 = true then (calendar_Work.j3 k3 x0_3 x1_3 l2 x8_7 (decide (x1_3 > 0))) else (calendar_Work.j3 k3 x0_3 x1_3 l2 x8_7 false)) = some (r1, r2) := H
                  have A11 := Aside0.mk A110
                  clear A110
                  by_cases c12 : t163 = true
                  · subst c12
                    have H1 : (calendar_Work.j3 k3 x0_3 x1_3 l2 x8_7 (decide (x1_3 > 0))) = some (r1, r2) := by rw [if_pos rfl] at H; exact H
                    clear H
                    have H := H1
                    clear H1
                    have H' := Aside0.mk H
                    clear H
                    go_wp2_with (first | ((with_reducible refine gate_callee (f := 36) rfl ?_); refine goesL_ (some 26) rfl rfl Tryd.func36 (by kernel_rfl) rfl #[.int .i64 x0_3] rfl (by (try simp only [List.map_toArray, List.map_cons, List.map_nil]); first | done | rfl | (simp only [List.length_drop, List.length_take]; rfl)) ?_; (with_reducible refine (calendar_known.calls x0_3 true _ A11.out).mono ?_); rintro e w' ⟨rfl, ⟨nd, rfl⟩⟩; refine ⟨_, rfl, ?_⟩))
                    go_meet
                    case rel => exact ⟨_, (decide (x1_3 > 0)), (by first | rfl | (simp; done) | (simp [*]; done)), H', ⟨by have := HJ3.out; have := HJ7.out; have := HK3.out; first | omega | exact Nat.le_refl _⟩, by repeat (first | exact Drawn0.refl _ | apply Drawn0.step)⟩
                  · replace c12 := Bool.eq_false_iff.mpr c12
                    subst c12
                    have H1 : (calendar_Work.j3 k3 x0_3 x1_3 l2 x8_7 false) = some (r1, r2) := by rw [if_neg (show ¬ (false = true) by decide)] at H; exact H
                    clear H
                    have H := H1
                    clear H1
                    have H' := Aside0.mk H
                    clear H
                    go_wp2_with (first | ((with_reducible refine gate_callee (f := 36) rfl ?_); refine goesL_ (some 26) rfl rfl Tryd.func36 (by kernel_rfl) rfl #[.int .i64 x0_3] rfl (by (try simp only [List.map_toArray, List.map_cons, List.map_nil]); first | done | rfl | (simp only [List.length_drop, List.length_take]; rfl)) ?_; (with_reducible refine (calendar_known.calls x0_3 false _ A11.out).mono ?_); rintro e w' ⟨rfl, ⟨nd, rfl⟩⟩; refine ⟨_, rfl, ?_⟩))
                    go_meet
                    case rel => exact ⟨_, (false), (by first | rfl | (simp; done) | (simp [*]; done)), H', ⟨by have := HJ3.out; have := HJ7.out; have := HK3.out; first | omega | exact Nat.le_refl _⟩, by repeat (first | exact Drawn0.refl _ | apply Drawn0.step)⟩
                case rest =>
                  clear HC10
                  try clear c1
                  try clear c2
                  try clear p2
                  try clear c3
                  try clear c5
                  try clear c5b0
                  try clear c6
                  try clear c6b0
                  try clear p6
                  try clear c7
                  try clear c9
                  try clear c9b0
                  try clear c12
                  try clear p2
                  try clear p6
                  obtain ⟨kq, x30_9, rfl, HA, HJ9, ⟨mc9, rfl⟩⟩ := hcut
                  cases kq with
                  | zero => exact absurd HA.out (by simp [calendar_Work.j3])
                  | succ kj9 =>
                    have H := HA.out
                    clear HA
                    simp only [calendar_Work.j3] at H
                    by_cases c13 : x30_9 = true
                    · subst c13
                      have H1 : ((calendar_known.f (wrap64 (x0_3 + x8_7))).bind fun t165 => (if t165 = true then ((calendar_Weekday.f (wrap64 (x0_3 + x8_7))).bind fun t166 => (if t166 < 5 then ((slices_Contains_int_int.f kj9 l2 (wrap64 (x0_3 + x8_7))).bind fun t167 => (if t167 = true then (calendar_Work.l0 kj9 (wrap64 (x0_3 + x8_7)) x1_3 l2 x8_7) else (calendar_Work.l0 kj9 (wrap64 (x0_3 + x8_7)) (wrap64 (x1_3 - 1)) l2 x8_7))) else (calendar_Work.l0 kj9 (wrap64 (x0_3 + x8_7)) x1_3 l2 x8_7))) else (calendar_Work.l0 kj9 (wrap64 (x0_3 + x8_7)) x1_3 l2 x8_7))) = some (r1, r2) := by rw [if_pos rfl] at H; exact H
                      clear H
                      have H := H1
                      clear H1
                      replace H := Option.bind_eq_some_iff.mp H
                      obtain ⟨t165, A140, H⟩ := H
                      replace H : (if t165 = true then ((calendar_Weekday.f (wrap64 (x0_3 + x8_7))).bind fun t166 => (if t166 < 5 then ((slices_Contains_int_int.f kj9 l2 (wrap64 (x0_3 + x8_7))).bind fun t167 => (if t167 = true then (calendar_Work.l0 kj9 (wrap64 (x0_3 + x8_7)) x1_3 l2 x8_7) else (calendar_Work.l0 kj9 (wrap64 (x0_3 + x8_7)) (wrap64 (x1_3 - 1)) l2 x8_7))) else (calendar_Work.l0 kj9 (wrap64 (x0_3 + x8_7)) x1_3 l2 x8_7))) else (calendar_Work.l0 kj9 (wrap64 (x0_3 + x8_7)) x1_3 l2 x8_7)) = some (r1, r2) := H
                      have A14 := Aside0.mk A140
                      clear A140
                      by_cases c15 : t165 = true
                      · subst c15
                        have H1 : ((calendar_Weekday.f (wrap64 (x0_3 + x8_7))).bind fun t166 => (if t166 < 5 then ((slices_Contains_int_int.f kj9 l2 (wrap64 (x0_3 + x8_7))).bind fun t167 => (if t167 = true then (calendar_Work.l0 kj9 (wrap64 (x0_3 + x8_7)) x1_3 l2 x8_7) else (calendar_Work.l0 kj9 (wrap64 (x0_3 + x8_7)) (wrap64 (x1_3 - 1)) l2 x8_7))) else (calendar_Work.l0 kj9 (wrap64 (x0_3 + x8_7)) x1_3 l2 x8_7))) = some (r1, r2) := by rw [if_pos rfl] at H; exact H
                        clear H
                        have H := H1
                        clear H1
                        replace H := Option.bind_eq_some_iff.mp H
                        obtain ⟨t166, A160, H⟩ := H
                        replace H : (if t166 < 5 then ((slices_Contains_int_int.f kj9 l2 (wrap64 (x0_3 + x8_7))).bind fun t167 => (if t167 = true then (calendar_Work.l0 kj9 (wrap64 (x0_3 + x8_7)) x1_3 l2 x8_7) else (calendar_Work.l0 kj9 (wrap64 (x0_3 + x8_7)) (wrap64 (x1_3 - 1)) l2 x8_7))) else (calendar_Work.l0 kj9 (wrap64 (x0_3 + x8_7)) x1_3 l2 x8_7)) = some (r1, r2) := H
                        have A16 := Aside0.mk A160
                        clear A160
                        by_cases c17 : t166 < 5
                        · rw [if_pos c17] at H
                          have c17b0 : decide (t166 < 5) = true := decide_eq_true c17
                          clear c17
                          replace H := Option.bind_eq_some_iff.mp H
                          obtain ⟨t167, A180, H⟩ := H
                          replace H : (if t167 = true then (calendar_Work.l0 kj9 (wrap64 (x0_3 + x8_7)) x1_3 l2 x8_7) else (calendar_Work.l0 kj9 (wrap64 (x0_3 + x8_7)) (wrap64 (x1_3 - 1)) l2 x8_7)) = some (r1, r2) := H
                          have A18 := Aside0.mk A180
                          clear A180
                          by_cases c19 : t167 = true
                          · subst c19
                            have H1 : (calendar_Work.l0 kj9 (wrap64 (x0_3 + x8_7)) x1_3 l2 x8_7) = some (r1, r2) := by rw [if_pos rfl] at H; exact H
                            clear H
                            have H := H1
                            clear H1
                            have H' := Aside0.mk H
                            clear H
                            go_wp2_with (first | ((with_reducible refine gate_callee (f := 36) rfl ?_); refine goesL_ (some 38) rfl rfl Tryd.func36 (by kernel_rfl) rfl #[.int .i64 (wrap64 (x0_3 + x8_7))] rfl (by (try simp only [List.map_toArray, List.map_cons, List.map_nil]); first | done | rfl | (simp only [List.length_drop, List.length_take]; rfl)) ?_; (with_reducible refine (calendar_known.calls (wrap64 (x0_3 + x8_7)) true _ A14.out).mono ?_); rintro e w' ⟨rfl, ⟨nd, rfl⟩⟩; refine ⟨_, rfl, ?_⟩) | (go_at_call 13; (with_reducible refine (calendar_Weekday.calls (wrap64 (x0_3 + x8_7)) t166 _ A16.out).mono ?_); rintro e w' ⟨rfl, ⟨nd, rfl⟩⟩) | (go_at_call 53; (with_reducible refine (slices_Contains_int_int.calls kj9 _ _ l2 (wrap64 (x0_3 + x8_7)) true _ ?side1 ?side2 A18.out).mono ?_); (case side1 => repeat (first | exact HR2.out | (with_reducible refine Kd.C_alloc ?_ _) | (with_reducible refine Kd.C_drewN ?_ _) | (with_reducible refine Kd.C_drew ?_))); (case side2 => exact HC2.out); rintro e w' ⟨rfl, ⟨nd, rfl⟩⟩))
                            go_roundg kj9
                            case measure => have := HJ3.out; have := HJ7.out; have := HK3.out; have := HJ9.out; omega
                            case rel => exact ⟨(wrap64 (x0_3 + x8_7)), (x1_3), (by first | rfl | (simp; done) | (simp [*]; done)), (by first | rfl | (simp; done) | (simp [*]; done)), H', ⟨by have := HJ3.out; have := HJ7.out; have := HK3.out; have := HJ9.out; omega⟩, by repeat (first | exact Drawn0.refl _ | apply Drawn0.step)⟩
                          · replace c19 := Bool.eq_false_iff.mpr c19
                            subst c19
                            have H1 : (calendar_Work.l0 kj9 (wrap64 (x0_3 + x8_7)) (wrap64 (x1_3 - 1)) l2 x8_7) = some (r1, r2) := by rw [if_neg (show ¬ (false = true) by decide)] at H; exact H
                            clear H
                            have H := H1
                            clear H1
                            have H' := Aside0.mk H
                            clear H
                            go_wp2_with (first | ((with_reducible refine gate_callee (f := 36) rfl ?_); refine goesL_ (some 38) rfl rfl Tryd.func36 (by kernel_rfl) rfl #[.int .i64 (wrap64 (x0_3 + x8_7))] rfl (by (try simp only [List.map_toArray, List.map_cons, List.map_nil]); first | done | rfl | (simp only [List.length_drop, List.length_take]; rfl)) ?_; (with_reducible refine (calendar_known.calls (wrap64 (x0_3 + x8_7)) true _ A14.out).mono ?_); rintro e w' ⟨rfl, ⟨nd, rfl⟩⟩; refine ⟨_, rfl, ?_⟩) | (go_at_call 13; (with_reducible refine (calendar_Weekday.calls (wrap64 (x0_3 + x8_7)) t166 _ A16.out).mono ?_); rintro e w' ⟨rfl, ⟨nd, rfl⟩⟩) | (go_at_call 53; (with_reducible refine (slices_Contains_int_int.calls kj9 _ _ l2 (wrap64 (x0_3 + x8_7)) false _ ?side1 ?side2 A18.out).mono ?_); (case side1 => repeat (first | exact HR2.out | (with_reducible refine Kd.C_alloc ?_ _) | (with_reducible refine Kd.C_drewN ?_ _) | (with_reducible refine Kd.C_drew ?_))); (case side2 => exact HC2.out); rintro e w' ⟨rfl, ⟨nd, rfl⟩⟩))
                            go_roundg kj9
                            case measure => have := HJ3.out; have := HJ7.out; have := HK3.out; have := HJ9.out; omega
                            case rel => exact ⟨(wrap64 (x0_3 + x8_7)), (wrap64 (x1_3 - 1)), (by first | rfl | (simp; done) | (simp [*]; done)), (by first | rfl | (simp; done) | (simp [*]; done)), H', ⟨by have := HJ3.out; have := HJ7.out; have := HK3.out; have := HJ9.out; omega⟩, by repeat (first | exact Drawn0.refl _ | apply Drawn0.step)⟩
                        · rw [if_neg c17] at H
                          have c17b0 : decide (t166 < 5) = false := decide_eq_false c17
                          clear c17
                          have H' := Aside0.mk H
                          clear H
                          go_wp2_with (first | ((with_reducible refine gate_callee (f := 36) rfl ?_); refine goesL_ (some 38) rfl rfl Tryd.func36 (by kernel_rfl) rfl #[.int .i64 (wrap64 (x0_3 + x8_7))] rfl (by (try simp only [List.map_toArray, List.map_cons, List.map_nil]); first | done | rfl | (simp only [List.length_drop, List.length_take]; rfl)) ?_; (with_reducible refine (calendar_known.calls (wrap64 (x0_3 + x8_7)) true _ A14.out).mono ?_); rintro e w' ⟨rfl, ⟨nd, rfl⟩⟩; refine ⟨_, rfl, ?_⟩) | (go_at_call 13; (with_reducible refine (calendar_Weekday.calls (wrap64 (x0_3 + x8_7)) t166 _ A16.out).mono ?_); rintro e w' ⟨rfl, ⟨nd, rfl⟩⟩))
                          go_roundg kj9
                          case measure => have := HJ3.out; have := HJ7.out; have := HK3.out; have := HJ9.out; omega
                          case rel => exact ⟨(wrap64 (x0_3 + x8_7)), (x1_3), (by first | rfl | (simp; done) | (simp [*]; done)), (by first | rfl | (simp; done) | (simp [*]; done)), H', ⟨by have := HJ3.out; have := HJ7.out; have := HK3.out; have := HJ9.out; omega⟩, by repeat (first | exact Drawn0.refl _ | apply Drawn0.step)⟩
                      · replace c15 := Bool.eq_false_iff.mpr c15
                        subst c15
                        have H1 : (calendar_Work.l0 kj9 (wrap64 (x0_3 + x8_7)) x1_3 l2 x8_7) = some (r1, r2) := by rw [if_neg (show ¬ (false = true) by decide)] at H; exact H
                        clear H
                        have H := H1
                        clear H1
                        have H' := Aside0.mk H
                        clear H
                        go_wp2_with (first | ((with_reducible refine gate_callee (f := 36) rfl ?_); refine goesL_ (some 38) rfl rfl Tryd.func36 (by kernel_rfl) rfl #[.int .i64 (wrap64 (x0_3 + x8_7))] rfl (by (try simp only [List.map_toArray, List.map_cons, List.map_nil]); first | done | rfl | (simp only [List.length_drop, List.length_take]; rfl)) ?_; (with_reducible refine (calendar_known.calls (wrap64 (x0_3 + x8_7)) false _ A14.out).mono ?_); rintro e w' ⟨rfl, ⟨nd, rfl⟩⟩; refine ⟨_, rfl, ?_⟩))
                        go_roundg kj9
                        case measure => have := HJ3.out; have := HJ7.out; have := HK3.out; have := HJ9.out; omega
                        case rel => exact ⟨(wrap64 (x0_3 + x8_7)), (x1_3), (by first | rfl | (simp; done) | (simp [*]; done)), (by first | rfl | (simp; done) | (simp [*]; done)), H', ⟨by have := HJ3.out; have := HJ7.out; have := HK3.out; have := HJ9.out; omega⟩, by repeat (first | exact Drawn0.refl _ | apply Drawn0.step)⟩
                    · replace c13 := Bool.eq_false_iff.mpr c13
                      subst c13
                      have H1 : ((calendar_known.f x0_3).bind fun t164 => (if t164 = true then (some (x0_3, 0)) else (some (0, 5)))) = some (r1, r2) := by rw [if_neg (show ¬ (false = true) by decide)] at H; exact H
                      clear H
                      have H := H1
                      clear H1
                      replace H := Option.bind_eq_some_iff.mp H
                      obtain ⟨t164, A200, H⟩ := H
                      replace H : (if t164 = true then (some (x0_3, 0)) else (some (0, 5))) = some (r1, r2) := H
                      have A20 := Aside0.mk A200
                      clear A200
                      by_cases c21 : t164 = true
                      · subst c21
                        have H1 : (some (x0_3, 0)) = some (r1, r2) := by rw [if_pos rfl] at H; exact H
                        clear H
                        have H := H1
                        clear H1
                        simp only [Option.some.injEq, Prod.mk.injEq] at H
                        obtain ⟨rfl, rfl⟩ := H
                        go_wp2_with (first | ((with_reducible refine gate_callee (f := 36) rfl ?_); refine goesL_ (some 53) rfl rfl Tryd.func36 (by kernel_rfl) rfl #[.int .i64 x0_3] rfl (by (try simp only [List.map_toArray, List.map_cons, List.map_nil]); first | done | rfl | (simp only [List.length_drop, List.length_take]; rfl)) ?_; (with_reducible refine (calendar_known.calls x0_3 true _ A20.out).mono ?_); rintro e w' ⟨rfl, ⟨nd, rfl⟩⟩; refine ⟨_, rfl, ?_⟩))
                        go_ret2
                        exact ⟨by first | rfl | (simp; done) | (simp [*]; done), by repeat (first | exact Drawn0.refl _ | apply Drawn0.step)⟩
                      · replace c21 := Bool.eq_false_iff.mpr c21
                        subst c21
                        have H1 : (some (0, 5)) = some (r1, r2) := by rw [if_neg (show ¬ (false = true) by decide)] at H; exact H
                        clear H
                        have H := H1
                        clear H1
                        simp only [Option.some.injEq, Prod.mk.injEq] at H
                        obtain ⟨rfl, rfl⟩ := H
                        go_wp2_with (first | ((with_reducible refine gate_callee (f := 36) rfl ?_); refine goesL_ (some 53) rfl rfl Tryd.func36 (by kernel_rfl) rfl #[.int .i64 x0_3] rfl (by (try simp only [List.map_toArray, List.map_cons, List.map_nil]); first | done | rfl | (simp only [List.length_drop, List.length_take]; rfl)) ?_; (with_reducible refine (calendar_known.calls x0_3 false _ A20.out).mono ?_); rintro e w' ⟨rfl, ⟨nd, rfl⟩⟩; refine ⟨_, rfl, ?_⟩))
                        go_ret2
                        exact ⟨by first | rfl | (simp; done) | (simp [*]; done), by repeat (first | exact Drawn0.refl _ | apply Drawn0.step)⟩

end Go.Proofs.YtlfgjpidamkpdaaDoor.Pc
