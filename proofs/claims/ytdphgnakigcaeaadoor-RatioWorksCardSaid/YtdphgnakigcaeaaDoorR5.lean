/- The texts of fractions: what Text writes, and that Parse leads back. -/
import Derived.Test.YtdphgnakigcaeaaDoorR4
namespace Go.Proofs.YtdphgnakigcaeaaDoor.Rat
open Go.RowKit Go.Proofs.YtdphgnakigcaeaaDoor.Pc Go.Proofs.YtdphgnakigcaeaaDoorW.PrintWords Go.Proofs.YtdphgnakigcaeaaDoorW.PrintLast
set_option linter.unusedVariables false
set_option linter.unusedSimpArgs false

theorem dec_step (u : Nat) (h : ¬ u < 10) : Lib.decDigits u = Lib.decDigits (u / 10) ++ [UInt8.ofNat (48 + u % 10)] := by rw [Lib.decDigits, dif_neg h]
theorem dg_nat (d : Nat) (h : d < 10) : (UInt8.ofNat (48 + d)).toNat = 48 + d := by
  rw [UInt8.toNat_ofNat']
  omega
theorem dec_mem (u : Nat) : ∀ c ∈ Lib.decDigits u, 48 ≤ c.toNat ∧ c.toNat ≤ 57 := by
  induction u using Nat.strongRecOn with
  | _ u ih =>
    intro c hc
    by_cases h : u < 10
    · rw [dec1 u h] at hc
      simp only [List.mem_singleton] at hc
      subst hc
      rw [dg_nat u h]
      omega
    · rw [dec_step u h] at hc
      rcases List.mem_append.1 hc with hc | hc
      · exact ih (u / 10) (by omega) c hc
      · simp only [List.mem_singleton] at hc
        subst hc
        rw [dg_nat _ (by omega)]
        omega
theorem dec_ne (u : Nat) : Lib.decDigits u ≠ [] := by
  by_cases h : u < 10
  · rw [dec1 u h]
    simp
  · rw [dec_step u h]
    simp
theorem pu_append (l r : List UInt8) : ∀ (acc v : Nat), Lib.parseUint10 acc l = .ok v → Lib.parseUint10 acc (l ++ r) = Lib.parseUint10 v r := by
  induction l with
  | nil =>
    intro acc v h
    simp only [Lib.parseUint10] at h
    injection h with h
    subst h
    rfl
  | cons c l ih =>
    intro acc v h
    simp only [List.cons_append, Lib.parseUint10] at h ⊢
    by_cases c1 : 48 ≤ c.toNat ∧ c.toNat ≤ 57
    · rw [if_pos c1] at h ⊢
      by_cases c2 : 1844674407370955162 ≤ acc
      · rw [if_pos c2] at h
        cases h
      · rw [if_neg c2] at h ⊢
        by_cases c3 : 18446744073709551616 ≤ acc * 10 + (c.toNat - 48)
        · rw [if_pos c3] at h
          cases h
        · rw [if_neg c3] at h ⊢
          exact ih _ v h
    · rw [if_neg c1] at h
      cases h
theorem pu_one (acc d : Nat) (hd : d < 10) (h : acc * 10 + d < 18446744073709551616) : Lib.parseUint10 acc [UInt8.ofNat (48 + d)] = .ok (acc * 10 + d) := by
  simp only [Lib.parseUint10]
  rw [dg_nat d hd, if_pos (by omega), if_neg (by omega), if_neg (by omega), show 48 + d - 48 = d by omega]
theorem pu_dec (u : Nat) : u < 18446744073709551616 → Lib.parseUint10 0 (Lib.decDigits u) = .ok u := by
  induction u using Nat.strongRecOn with
  | _ u ih =>
    intro hu
    by_cases h : u < 10
    · rw [dec1 u h, pu_one 0 u h (by omega)]
      congr 1
      omega
    · rw [dec_step u h, pu_append _ _ 0 (u / 10) (ih (u / 10) (by omega) (by omega)), pu_one (u / 10) (u % 10) (by omega) (by omega)]
      congr 1
      omega
theorem atoi_itoa {p : Int} (h : I64 p) : Lib.atoiAll (Lib.itoa p) = .ok p := by
  unfold I64 at h
  unfold Lib.itoa
  by_cases c : p < 0
  · rw [if_pos c]
    simp only [Lib.atoiAll]
    have e : (45 : UInt8).toNat = 45 := rfl
    rw [e, if_pos (.inr rfl)]
    unfold Lib.parseMag
    rw [if_neg (dec_ne _), pu_dec _ (by omega)]
    simp only
    rw [if_neg (by simp), if_neg (by omega), if_pos trivial]
    congr 1
    omega
  · rw [if_neg c]
    have ne := dec_ne p.toNat
    have mm := dec_mem p.toNat
    have pd := pu_dec p.toNat (by omega)
    generalize Lib.decDigits p.toNat = l at *
    cases l with
    | nil => exact absurd rfl ne
    | cons a r =>
      have ha := mm a (by simp)
      simp only [Lib.atoiAll]
      rw [if_neg (by omega)]
      unfold Lib.parseMag
      rw [if_neg ne, pd]
      simp only
      rw [if_neg (by omega), if_neg (by omega), if_neg (by omega)]
      congr 1
      omega
/-- no '/' in a number -/
theorem itoa_mem (p : Int) : ∀ c ∈ Lib.itoa p, c ≠ 47 := by
  intro c hc
  unfold Lib.itoa at hc
  split at hc
  · rcases List.mem_cons.1 hc with rfl | hc
    · decide
    · have := dec_mem _ c hc
      rintro rfl
      exact absurd this.1 (by decide)
  · have := dec_mem _ c hc
    rintro rfl
    exact absurd this.1 (by decide)
theorem itoa_ne (p : Int) : Lib.itoa p ≠ [] := by
  unfold Lib.itoa
  split
  · simp
  · exact dec_ne _
/-- the text of a fraction -/
def txt (p q : Int) : List UInt8 := Lib.itoa p ++ (if q ≤ 1 then [] else 47 :: Lib.itoa q)
def bts (l : List UInt8) : ByteArray := ⟨l.toArray⟩
theorem bts_list (l : List UInt8) : (bts l).data.toList = l := by simp [bts]
theorem bts_toList (l : List UInt8) : (bts l).toList = l := by rw [ByteArray.toList_eq, bts_list]
theorem bts_size (l : List UInt8) : (bts l).size = l.length := by simp [bts, ByteArray.size]
theorem bext {a b : ByteArray} (h : a.data.toList = b.data.toList) : a = b := by
  cases a; cases b
  simp at h
  rw [h]
theorem txt_ne (p q : Int) : txt p q ≠ [] := by
  unfold txt
  intro h
  exact itoa_ne p (List.append_eq_nil_iff.1 h).1
theorem txt_len {p q : Int} (h : I64 p) (k : I64 q) : (txt p q).length ≤ 43 := by
  have a := Lib.itoa_length_le p h.1 h.2
  have b := Lib.itoa_length_le q k.1 k.2
  unfold txt
  rw [List.length_append]
  split
  · simp
    omega
  · simp
    omega
theorem ptext {p q : Int} (h : I64 p) (k : I64 q) : ratio_Text.f p q = some (bts (if vl p q then txt p q else [])) := by
  unfold ratio_Text.f
  rw [pvalid h k]
  simp only [Option.bind_some]
  by_cases c : vl p q
  · rw [if_pos (decide_eq_true c), if_pos c, itoa_f h, itoa_f k]
    simp only [Option.bind_some]
    unfold txt
    have a := Lib.itoa_length_le p h.1 h.2
    have b := Lib.itoa_length_le q k.1 k.2
    by_cases d : q ≤ 1
    · rw [if_pos d, if_pos d, List.append_nil]
      rfl
    · have s1 : (⟨(Lib.itoa p).toArray⟩ : ByteArray).size = (Lib.itoa p).length := bts_size _
      have s2 : (⟨(Lib.itoa q).toArray⟩ : ByteArray).size = (Lib.itoa q).length := bts_size _
      have s3 : (⟨#[47]⟩ : ByteArray).size = 1 := rfl
      rw [if_neg d, if_neg d, ByteArray.size_append, s1, s2, s3, if_pos (by omega), if_pos (by omega)]
      congr 1
      refine bext ?_
      rw [bts_list, ByteArray.data_append, ByteArray.data_append]
      simp
  · rw [if_neg (by simpa using c), if_neg c]
    rfl
/-- where the '/' stands -/
theorem index_in (l r : List UInt8) (h : ∀ c ∈ l, c ≠ 47) : Lib.indexByte (l ++ 47 :: r) 47 = l.length := by
  have ge := Lib.indexByte_ge (l ++ 47 :: r) 47
  have at' : (l ++ 47 :: r)[l.length]? = some 47 := by simp
  rcases Int.lt_or_le (Lib.indexByte (l ++ 47 :: r) 47) 0 with z | z
  · exact absurd at' (Lib.indexByte_none (by omega) _)
  · obtain ⟨o, ho⟩ := Int.eq_ofNat_of_zero_le z
    obtain ⟨e1, e2⟩ := Lib.indexByte_some ho
    rw [ho]
    rcases Nat.lt_trichotomy o l.length with c | c | c
    · rw [List.getElem?_append_left c, List.getElem?_eq_getElem c] at e1
      exact absurd (Option.some.inj e1) (h _ (List.getElem_mem c))
    · rw [c]
    · exact absurd at' (e2 _ c)
theorem index_out (l : List UInt8) (h : ∀ c ∈ l, c ≠ 47) : Lib.indexByte l 47 = -1 := by
  have ge := Lib.indexByte_ge l 47
  rcases Int.lt_or_le (Lib.indexByte l 47) 0 with z | z
  · omega
  · obtain ⟨o, ho⟩ := Int.eq_ofNat_of_zero_le z
    obtain ⟨e1, _⟩ := Lib.indexByte_some ho
    obtain ⟨hl, e⟩ := List.getElem?_eq_some_iff.1 e1
    exact absurd e (h _ (List.getElem_mem hl))
theorem num_itoa {p : Int} (h : I64 p) : numOf (bts (Lib.itoa p)) = some p := by
  unfold numOf
  rw [bts_list, atoi_itoa h]
/-- the parts of a fraction's text -/
theorem cut_txt {p q : Int} (h : I64 p) (k : I64 q) (q1 : 1 ≤ q) : numOf (cutFirst (bts (txt p q))) = some p ∧ numOf (cutNumber (bts (txt p q))) = some q := by
  have nn := itoa_mem p
  unfold cutNumber cutFound cutFirst cutSecond
  rw [bts_list]
  unfold txt
  by_cases d : q ≤ 1
  · rw [if_pos d, List.append_nil, index_out _ nn, if_neg (by omega), if_neg (by decide)]
    have : q = 1 := by omega
    subst this
    exact ⟨num_itoa h, num_one⟩
  · rw [if_neg d, index_in _ _ nn, if_pos (by omega), if_pos (decide_eq_true (by omega)), if_pos (by omega)]
    have e1 : (bts (Lib.itoa p ++ 47 :: Lib.itoa q)).extract 0 ((Lib.itoa p).length : Int).toNat = bts (Lib.itoa p) := by
      refine bext ?_
      rw [Lib.extract_data, bts_list, bts_list]
      simp
    have e2 : (bts (Lib.itoa p ++ 47 :: Lib.itoa q)).extract (((Lib.itoa p).length : Int) + 1).toNat (bts (Lib.itoa p ++ 47 :: Lib.itoa q)).size = bts (Lib.itoa q) := by
      refine bext ?_
      rw [Lib.extract_data, bts_list, bts_list, bts_size]
      rw [show (((Lib.itoa p).length : Int) + 1).toNat = (Lib.itoa p).length + 1 by omega]
      simp
      exact List.take_of_length_le (by omega)
    rw [e1, e2]
    exact ⟨num_itoa h, num_itoa k⟩
/-- Parse leads back from Text -/
theorem parse_txt {p q : Int} (v : vl p q) (q1 : 1 ≤ q) : ratio_Parse.f (bts (txt p q)) = some (p, q, 0) := by
  obtain ⟨h, k⟩ := vl_i64 v
  obtain ⟨e1, e2⟩ := cut_txt h k q1
  have l := txt_len h k
  unfold ratio_Parse.f
  rw [bts_size, if_pos (by omega), e1, e2]
  simp only
  rw [if_neg (by omega), ptext h k, if_pos v]
  simp
theorem txt_den (p q : Int) (h : 0 ≤ q) : txt p q = txt p (den q) := by
  unfold txt den
  by_cases c : q = 0
  · subst c
    rfl
  · rw [if_neg c]
end Go.Proofs.YtdphgnakigcaeaaDoor.Rat
