/- The law RatioReads over plain numbers: both Parses give the same for every text. -/
import Derived.Test.YtdphgnakigcaeaaDoorR8
import Derived.Test.YtdphgnakigcaeaaDoorPc15
namespace Go.Proofs.YtdphgnakigcaeaaDoor.Rat
open Go.RowKit Go.Proofs.YtdphgnakigcaeaaDoor.Pc Go.Proofs.YtdphgnakigcaeaaDoorW.PrintWords Go.Proofs.YtdphgnakigcaeaaDoorW.PrintLast
set_option linter.unusedVariables false
set_option linter.unusedSimpArgs false

theorem rr_l0 {l : List ByteArray} (hl : l.length ≤ 100) (hs : ∀ s ∈ l, s.size ≤ 1000) (n : Nat) : ∀ i : Int, 0 ≤ i → i + n = l.length → Ev (fun k => dioramalaw04_RatioReads.l0 k l i) true := by
  induction n with
  | zero =>
    intro i i0 hi
    refine Ev.open ⟨_, fun k => by simp only [dioramalaw04_RatioReads.l0]; rfl, ?_⟩
    exact ev_neg (by omega) lives'
  | succ n ih =>
    intro i i0 hi
    have mem : rdOf ByteArray.empty l i ∈ l := by
      unfold rdOf
      rw [List.getD_eq_getElem?_getD, List.getElem?_eq_getElem (by omega)]
      exact List.getElem_mem _
    obtain ⟨a, b, c, p1, p2⟩ := parses (rdOf ByteArray.empty l i) (hs _ mem)
    refine Ev.open ⟨_, fun k => by simp only [dioramalaw04_RatioReads.l0]; rfl, ?_⟩
    rw [p1, w64 (by omega) (by omega)]
    exact ev_pos (by omega) (ev_pos i0 (ev_some (Ev.bind p2 (ev_neg (by simp) (ev_pos rfl (ih (i + 1) (by omega) (by omega)))))))
theorem short_f (s : ByteArray) : ∃ t, dioramaref01_Short.f s 30 = some t ∧ t.size ≤ 30 := by
  unfold dioramaref01_Short.f
  by_cases h : (s.size : Int) > 30
  · exact ⟨_, by rw [if_pos h, if_pos (by omega), if_pos (by omega)], by rw [ByteArray.size_extract]; omega⟩
  · exact ⟨_, by rw [if_neg h], by omega⟩
theorem one_size (x : Int) : (strOfNums [x]).size = 1 := by simp [strOfNums_size]
theorem RatioReads : dioramalaw04_RatioReads.Pure := by
  intro l at' by' raw hm1 hm hw ha hb hr
  obtain ⟨n1, h1, b1, c1⟩ := at_f hw 0 1600 (by omega) (by omega)
  obtain ⟨n2, h2, b2, c2⟩ := at_f hw 1 120 (by omega) (by omega)
  obtain ⟨p, q, v, e⟩ := three_ok (i64_of (x := n1) (by omega) (by omega)) (i64_of (x := n2) (by omega) (by omega))
  obtain ⟨ip, iq⟩ := vl_i64 v
  have rt := rtext ip iq
  rw [if_pos v] at rt
  obtain ⟨sh, es, hsh⟩ := short_f raw
  have sz : 1 ≤ (bts (txt p q)).size ∧ (bts (txt p q)).size ≤ 43 := by
    rw [bts_size]
    exact ⟨List.length_pos_iff.2 (txt_ne p q), txt_len ip iq⟩
  have h : Ev (fun k => dioramalaw04_RatioReads.f k l at' by' raw) true := by
    unfold dioramalaw04_RatioReads.f
    rw [h1, h2]
    refine ev_some (ev_some (Ev.bind e (Ev.bind rt ?_)))
    generalize bts (txt p q) = s at sz ⊢
    have ia : I64 at' := bd64 ha
    have k := ar_bd at' (s.size : Int) (by omega)
    rw [around ia (by omega), es]
    refine ev_some ?_
    generalize ar at' (s.size : Int) = i at k ⊢
    have x1 := one_size by'
    have z1 : (s.extract 0 i.toNat).size ≤ 43 := by rw [ByteArray.size_extract]; omega
    have z2 : (s.extract (i + 1).toNat s.size).size ≤ 43 := by rw [ByteArray.size_extract]; omega
    have z3 : (s.extract i.toNat s.size).size ≤ 43 := by rw [ByteArray.size_extract]; omega
    rw [w64 (x := i + 1) (by omega) (by omega)]
    refine ev_pos k.1 (ev_pos (by omega) (ev_some (ev_pos (by rw [x1]; omega) (ev_pos (by omega) (ev_pos (by omega) (ev_pos (by rw [ByteArray.size_append, x1]; omega) (ev_pos (by omega) (ev_some (ev_pos (by rw [x1]; omega) (ev_pos (by rw [ByteArray.size_append, x1]; omega) (ev_some ?_)))))))))))
    refine rr_l0 (by simp) ?_ 17 0 (by omega) (by simp)
    intro t ht
    simp only [List.mem_cons, List.not_mem_nil, or_false] at ht
    rcases ht with rfl | rfl | rfl | rfl | rfl | rfl | rfl | rfl | rfl | rfl | rfl | rfl | rfl | rfl | rfl | rfl | rfl
    · omega
    · rw [ByteArray.size_append, ByteArray.size_append, x1]; omega
    · rw [ByteArray.size_append]; omega
    · rw [ByteArray.size_append, ByteArray.size_append, x1]; omega
    · omega
    all_goals decide
  exact h.rounds
end Go.Proofs.YtdphgnakigcaeaaDoor.Rat
