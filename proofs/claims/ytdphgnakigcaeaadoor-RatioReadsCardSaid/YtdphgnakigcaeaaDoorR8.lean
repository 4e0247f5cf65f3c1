/- Parse of the reference. -/
import Derived.Test.YtdphgnakigcaeaaDoorR7
namespace Go.Proofs.YtdphgnakigcaeaaDoor.Rat
open Go.RowKit Go.Proofs.YtdphgnakigcaeaaDoor.Pc Go.Proofs.YtdphgnakigcaeaaDoorW.PrintWords Go.Proofs.YtdphgnakigcaeaaDoorW.PrintLast
set_option linter.unusedVariables false
set_option linter.unusedSimpArgs false

theorem itoa_1 : bts (Lib.itoa 1) = (⟨#[49]⟩ : ByteArray) := by
  unfold Lib.itoa
  rw [if_neg (by decide), dec1 _ (by decide)]
  rfl
theorem cut_parts {p q : Int} (q1 : 1 ≤ q) : cutFirst (bts (txt p q)) = bts (Lib.itoa p) ∧ cutNumber (bts (txt p q)) = bts (Lib.itoa q) := by
  have nn := itoa_mem p
  unfold cutNumber cutFound cutFirst cutSecond
  rw [bts_list]
  unfold txt
  by_cases d : q ≤ 1
  · rw [if_pos d, List.append_nil, index_out _ nn, if_neg (by omega), if_neg (by decide)]
    have : q = 1 := by omega
    subst this
    exact ⟨rfl, itoa_1.symm⟩
  · rw [if_neg d, index_in _ _ nn, if_pos (by omega), if_pos (decide_eq_true (by omega)), if_pos (by omega)]
    refine ⟨?_, ?_⟩
    · refine bext ?_
      rw [Lib.extract_data, bts_list, bts_list]
      simp
    · refine bext ?_
      rw [Lib.extract_data, bts_list, bts_list, bts_size]
      rw [show (((Lib.itoa p).length : Int) + 1).toNat = (Lib.itoa p).length + 1 by omega]
      simp
      exact List.take_of_length_le (by omega)
theorem index_is (s : ByteArray) (i : Nat) (hi : i < s.size) (h : ∀ k, k < i → s.data.toList[k]? ≠ some 47) (e : s.data.toList[i]? = some 47) : Lib.indexByte s.data.toList 47 = (i : Int) := by
  have ge := Lib.indexByte_ge s.data.toList 47
  rcases Int.lt_or_le (Lib.indexByte s.data.toList 47) 0 with z | z
  · exact absurd e (Lib.indexByte_none (by omega) _)
  · obtain ⟨o, ho⟩ := Int.eq_ofNat_of_zero_le z
    obtain ⟨e1, e2⟩ := Lib.indexByte_some ho
    rw [ho]
    rcases Nat.lt_trichotomy o i with c | c | c
    · exact absurd e1 (h o c)
    · rw [c]
    · exact absurd e (e2 i c)
theorem index_no (s : ByteArray) (h : ∀ k, k < s.size → s.data.toList[k]? ≠ some 47) : Lib.indexByte s.data.toList 47 = -1 := by
  refine index_out _ ?_
  intro c hc
  obtain ⟨k, hk, e⟩ := List.getElem_of_mem hc
  rintro rfl
  refine h k ?_ ?_
  · rw [Array.length_toList] at hk
    exact hk
  · rw [List.getElem?_eq_getElem hk, e]
theorem rcut (s : ByteArray) (hs : s.size ≤ 1000) {r : Int × Int × Int} (hj : Ev (fun k => dioramaref04_Parse.j1 k s (cutFirst s) (cutNumber s)) r) (m : Nat) : ∀ i : Nat, i + m = s.size → (∀ k, k < i → s.data.toList[k]? ≠ some 47) →
    Ev (fun k => dioramaref04_Parse.l0 k s s (⟨#[49]⟩ : ByteArray) (i : Int)) r := by
  have ll : s.data.toList.length = s.size := by rw [Array.length_toList]; rfl
  induction m with
  | zero =>
    intro i hi h
    have e := index_no s (fun k hk => h k (by omega))
    unfold cutNumber cutFound cutFirst cutSecond at hj
    rw [e, if_neg (by omega), if_neg (by decide)] at hj
    refine Ev.open ⟨_, fun k => by simp only [dioramaref04_Parse.l0]; rfl, ?_⟩
    exact ev_neg (by omega) hj
  | succ m ih =>
    intro i hi h
    have b := bt_list s i (by omega)
    refine Ev.open ⟨_, fun k => by simp only [dioramaref04_Parse.l0]; rfl, ?_⟩
    by_cases c : bt s i = 47
    · have e47 : s.data.toList[i]? = some 47 := by
        rw [List.getElem?_eq_getElem (by omega)]
        congr 1
        have : (47 : UInt8).toNat = 47 := rfl
        exact UInt8.toNat_inj.1 (by omega)
      have e := index_is s i (by omega) h e47
      unfold cutNumber cutFound cutFirst cutSecond at hj
      rw [e, if_pos (by omega), if_pos (decide_eq_true (by omega)), if_pos (by omega)] at hj
      rw [w64 (x := (i : Int) + 1) (by omega) (by omega)]
      exact ev_pos (by omega) (ev_pos (by omega) (ev_pos c (ev_pos (by omega) (ev_pos (by omega) (ev_pos (by omega) hj)))))
    · rw [w64 (x := (i : Int) + 1) (by omega) (by omega)]
      refine ev_pos (by omega) (ev_pos (by omega) (ev_neg c ?_))
      have e := ih (i + 1) (by omega) (by
        intro k hk
        rcases Nat.lt_or_ge k i with z | z
        · exact h k z
        · have : k = i := by omega
          subst this
          intro t
          rw [List.getElem?_eq_getElem (by omega)] at t
          have t2 := Option.some.inj t
          rw [t2] at b
          exact c b)
      exact e
theorem rj2_no {s x y : ByteArray} {g : Int} (hn : ∀ p q, ¬ IsText s p q) (hx : x.size ≤ 1000) (hy : y.size ≤ 1000) (hg : g = 1 ∨ g = -1) (hxs : 0 < x.size → 0 < s.size) : Ev (fun k => dioramaref04_Parse.j2 k s x y g) (0, 0, 2) := by
  obtain ⟨v1, f1, e1, b1, g1⟩ := number_all x hx
  obtain ⟨v2, f2, e2, b2, g2⟩ := number_all y hy
  refine Ev.open ⟨_, fun k => by simp only [dioramaref04_Parse.j2]; rfl, ?_⟩
  refine Ev.bind e1 (Ev.bind e2 ?_)
  cases f1 with
  | false => exact ev_neg (by simp) (Ev.now _)
  | true =>
    refine ev_pos rfl ?_
    cases f2 with
    | false => exact ev_neg (by simp) (Ev.now _)
    | true =>
      refine ev_pos rfl ?_
      by_cases z : v2 = 0
      · exact ev_pos z (Ev.now _)
      · refine ev_neg z ?_
        have ip : I64 (g * v1) := by
          rcases hg with rfl | rfl
          · exact i64_of (by omega) (by omega)
          · exact i64_of (by omega) (by omega)
        have iq : I64 v2 := i64_of (by omega) (by omega)
        simp only
        rw [w64 ip.1 ip.2]
        refine Ev.bind (rtext ip iq) (ev_neg ?_ (Ev.now _))
        intro t
        rw [ByteArray.toList_eq, ByteArray.toList_eq] at t
        have t2 := bext t
        by_cases v : vl (g * v1) v2
        · rw [if_pos v] at t2
          refine hn (g * v1) v2 ⟨v, ?_, t2.symm⟩
          rcases v with u | u <;> omega
        · rw [if_neg v, bts_nil] at t2
          have := hxs (g1 rfl)
          rw [← t2] at this
          exact absurd this (by decide)
theorem bt_zero (c : UInt8) (r : List UInt8) : bt (bts (c :: r)) 0 = (c.toNat : Int) := by
  have := bt_list (bts (c :: r)) 0 (by rw [bts_size]; simp)
  rw [show ((0 : Nat) : Int) = 0 from rfl] at this
  rw [this]
  simp [bts]
theorem rj2_yes {p q : Int} (v : vl p q) (q1 : 1 ≤ q) {g : Int} {u : Nat} (hu : u < 10000000000) (hp : g * (u : Int) = p) : Ev (fun k => dioramaref04_Parse.j2 k (bts (txt p q)) (bts (Lib.decDigits u)) (bts (Lib.itoa q)) g) (p, q, 0) := by
  obtain ⟨ip, iq⟩ := vl_i64 v
  have bd := vl_bd v
  refine Ev.open ⟨_, fun k => by simp only [dioramaref04_Parse.j2]; rfl, ?_⟩
  have e2 := number_of q.toNat (by omega)
  have it : Lib.itoa q = Lib.decDigits q.toNat := by
    unfold Lib.itoa
    rw [if_neg (by omega)]
  rw [← it, show ((q.toNat : Nat) : Int) = q by omega] at e2
  have rt := rtext ip iq
  rw [if_pos v] at rt
  refine Ev.bind (number_of u hu) (Ev.bind e2 (ev_pos rfl (ev_pos rfl (ev_neg (by show ¬ q = 0; omega) ?_))))
  simp only
  rw [hp, w64 ip.1 ip.2]
  exact Ev.bind rt (ev_pos rfl (Ev.now _))
theorem rparse (s : ByteArray) (hs : s.size ≤ 1000) : (∃ p q, IsText s p q ∧ Ev (fun k => dioramaref04_Parse.f k s) (p, q, 0)) ∨ ((∀ p q, ¬ IsText s p q) ∧ Ev (fun k => dioramaref04_Parse.f k s) (0, 0, 2)) := by
  have start {r : Int × Int × Int} (h : Ev (fun k => dioramaref04_Parse.j1 k s (cutFirst s) (cutNumber s)) r) : Ev (fun k => dioramaref04_Parse.f k s) r :=
    rcut s hs h s.size 0 (by omega) (by intro k hk; omega)
  by_cases h : ∃ p q, IsText s p q
  · obtain ⟨p, q, v, q1, e⟩ := h
    refine .inl ⟨p, q, ⟨v, q1, e⟩, start ?_⟩
    obtain ⟨c1, c2⟩ := cut_parts (p := p) q1
    have bd := vl_bd v
    rw [e, c1, c2]
    refine Ev.open ⟨_, fun k => by simp only [dioramaref04_Parse.j1]; rfl, ?_⟩
    have sz : 0 < ((bts (Lib.itoa p)).size : Int) := by
      have := List.length_pos_iff.2 (itoa_ne p)
      rw [bts_size]
      omega
    refine ev_pos sz (ev_pos sz ?_)
    by_cases n : p < 0
    · have it : Lib.itoa p = 45 :: Lib.decDigits p.natAbs := by
        unfold Lib.itoa
        rw [if_pos n]
      have ex : (bts (Lib.itoa p)).extract 1 (bts (Lib.itoa p)).size = bts (Lib.decDigits p.natAbs) := by
        refine bext ?_
        rw [Lib.extract_data, bts_list, bts_list, bts_size, it]
        simp
      rw [ex]
      refine ev_pos (by rw [it, bt_zero]; rfl) (ev_pos (by omega) ?_)
      exact rj2_yes v q1 (by omega) (by omega)
    · have it : Lib.itoa p = Lib.decDigits p.natAbs := by
        unfold Lib.itoa
        rw [if_neg n, show p.toNat = p.natAbs by omega]
      refine ev_neg ?_ ?_
      · rw [it]
        have mm := dec_mem p.natAbs
        have ne := dec_ne p.natAbs
        generalize Lib.decDigits p.natAbs = l at *
        cases l with
        | nil => exact absurd rfl ne
        | cons a r =>
          rw [bt_zero]
          have := mm a (by simp)
          omega
      · rw [it]
        exact rj2_yes v q1 (by omega) (by omega)
  · have hn : ∀ p q, ¬ IsText s p q := fun p q z => h ⟨p, q, z⟩
    refine .inr ⟨hn, start ?_⟩
    have l1 := cutFirst_le s
    have l2 : (cutNumber s).size ≤ 1000 := by
      unfold cutNumber
      split
      · have := cutSecond_le s
        omega
      · decide
    refine Ev.open ⟨_, fun k => by simp only [dioramaref04_Parse.j1]; rfl, ?_⟩
    by_cases c : ((cutFirst s).size : Int) > 0
    · refine ev_pos c (ev_pos c ?_)
      by_cases d : bt (cutFirst s) 0 = 45
      · refine ev_pos d (ev_pos (by omega) (rj2_no hn ?_ l2 (.inr rfl) ?_))
        · rw [ByteArray.size_extract]
          omega
        · intro _
          omega
      · exact ev_neg d (rj2_no hn (by omega) l2 (.inl rfl) (by omega))
    · exact ev_neg c (rj2_no hn (by omega) l2 (.inl rfl) (by omega))
theorem parses (s : ByteArray) (hs : s.size ≤ 1000) : ∃ a b c, ratio_Parse.f s = some (a, b, c) ∧ Ev (fun k => dioramaref04_Parse.f k s) (a, b, c) := by
  rcases pparse s hs with ⟨p, q, t, e⟩ | ⟨n, e⟩
  · rcases rparse s hs with ⟨p', q', t', e'⟩ | ⟨n', e'⟩
    · have x1 := parse_txt t.1 t.2.1
      have x2 := parse_txt t'.1 t'.2.1
      rw [← t.2.2] at x1
      rw [← t'.2.2, x1] at x2
      simp only [Option.some.injEq, Prod.mk.injEq] at x2
      obtain ⟨rfl, rfl, _⟩ := x2
      exact ⟨_, _, _, e, e'⟩
    · exact absurd t (n' p q)
  · rcases rparse s hs with ⟨p', q', t', e'⟩ | ⟨n', e'⟩
    · exact absurd t' (n p' q')
    · exact ⟨_, _, _, e, e'⟩
end Go.Proofs.YtdphgnakigcaeaaDoor.Rat
