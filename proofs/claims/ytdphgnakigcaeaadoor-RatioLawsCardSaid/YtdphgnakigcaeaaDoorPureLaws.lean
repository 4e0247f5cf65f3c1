/- The law RatioLaws over plain numbers: Add and Mul are commutative and associative, Mul distributes over Add, Sub takes back what Add added. -/
import Derived.Test.YtdphgnakigcaeaaDoorR4
import Derived.Test.YtdphgnakigcaeaaDoorPc9
namespace Go.Proofs.YtdphgnakigcaeaaDoor.Rat
open Go.RowKit Go.Proofs.YtdphgnakigcaeaaDoor.Pc Go.Proofs.YtdphgnakigcaeaaDoorW.PrintWords Go.Proofs.YtdphgnakigcaeaaDoorW.PrintLast
set_option linter.unusedVariables false
set_option linter.unusedSimpArgs false

theorem cmp_sign {a b c d : Int} (h : vl a b) (k : vl c d) : (cmp a b c d < 0 ↔ a * den d - c * den b < 0) ∧ (cmp a b c d = 0 ↔ a * den d - c * den b = 0) := by
  rw [cmp_is h k]
  generalize a * den d = x
  generalize c * den b = y
  by_cases l : x < y
  · rw [if_pos l]
    omega
  · rw [if_neg l]
    by_cases e : x = y
    · rw [if_pos e]
      omega
    · rw [if_neg e]
      omega
theorem i64_mk {p q x y z : Int} (h : mk p q = (x, y, z)) : I64 x ∧ I64 y := by
  rcases mk_err p q with e | e | e
  · rw [e] at h
    simp only [Prod.mk.injEq] at h
    unfold I64
    omega
  · rw [e] at h
    simp only [Prod.mk.injEq] at h
    unfold I64
    omega
  · rw [e] at h
    simp only [Prod.mk.injEq] at h
    obtain ⟨rfl, rfl, rfl⟩ := h
    exact vl_i64 (mk_ok e).1
theorem i64_add {a b c d x y z : Int} (h : add a b c d = (x, y, z)) : I64 x ∧ I64 y := by
  unfold add at h
  split at h
  · exact i64_mk h
  · simp only [Prod.mk.injEq] at h
    unfold I64
    omega
theorem i64_mul {a b c d x y z : Int} (h : mul a b c d = (x, y, z)) : I64 x ∧ I64 y := by
  unfold mul at h
  split at h
  · exact i64_mk h
  · simp only [Prod.mk.injEq] at h
    unfold I64
    omega
theorem rl_j6 {p q u v : Int} {t : Bool} (h : t = false → p = u ∧ q = v) : Ev (fun n => dioramalaw04_RatioLaws.j6 n t p q u v) true := by
  refine Ev.open ⟨_, fun n => by simp only [dioramalaw04_RatioLaws.j6]; rfl, ?_⟩
  cases t
  · obtain ⟨rfl, rfl⟩ := h rfl
    exact ev_neg (by decide) (ev_pos (by simp) lives')
  · exact ev_pos rfl lives'
theorem rl_j5 {a b c d e f u v w x y z : Int} (h : vl a b) (k : vl c d) (l : vl e f) (h1 : add c d e f = (u, v, w)) (h2 : mul a b c d = (x, y, z)) : Ev (fun n => dioramalaw04_RatioLaws.j5 n w z a b e f u v x y) true := by
  obtain ⟨ia, ib⟩ := vl_i64 h
  obtain ⟨ie, iff⟩ := vl_i64 l
  obtain ⟨iu, iv⟩ := i64_add h1
  obtain ⟨ix, iy⟩ := i64_mul h2
  refine Ev.open ⟨_, fun n => by simp only [dioramalaw04_RatioLaws.j5]; rfl, ?_⟩
  obtain ⟨m1, m2, m3, h3⟩ : ∃ p q r, mul a b e f = (p, q, r) := ⟨_, _, _, rfl⟩
  obtain ⟨p1, p2, p3, h4⟩ : ∃ p q r, mul a b u v = (p, q, r) := ⟨_, _, _, rfl⟩
  obtain ⟨s1, s2, s3, h5⟩ : ∃ p q r, add x y m1 m2 = (p, q, r) := ⟨_, _, _, rfl⟩
  obtain ⟨im, in_⟩ := i64_mul h3
  have e3 := pmul ia ib ie iff
  have e4 := pmul ia ib iu iv
  have e5 := padd ix iy im in_
  rw [h3] at e3
  rw [h4] at e4
  rw [h5] at e5
  refine Ev.bind e3 (Ev.bind e4 (Ev.bind e5 ?_))
  by_cases w0 : w = 0
  · refine ev_pos w0 ?_
    by_cases z0 : z = 0
    · refine ev_pos z0 ?_
      by_cases m0 : m3 = 0
      · refine ev_pos m0 ?_
        by_cases p0 : p3 = 0
        · refine ev_pos p0 (rl_j6 fun _ => ?_)
          subst w0 z0 m0
          have q := distrib h k l h1 h2 h3
          rw [h4, h5] at q
          simp only [Prod.mk.injEq] at q
          exact ⟨q.1, q.2.1⟩
        · exact ev_neg p0 (rl_j6 fun t => Bool.noConfusion t)
      · exact ev_neg m0 (rl_j6 fun t => Bool.noConfusion t)
    · exact ev_neg z0 (rl_j6 fun t => Bool.noConfusion t)
  · exact ev_neg w0 (rl_j6 fun t => Bool.noConfusion t)
theorem rl_j4 {a b c d e f u v w x y z zx zy z' : Int} {t : Bool} (h : vl a b) (k : vl c d) (l : vl e f) (h1 : add c d e f = (u, v, w)) (h2 : mul a b c d = (x, y, z)) (h3 : mul c d e f = (zx, zy, z')) (ht : t = true → z = 0 ∧ z' = 0) : Ev (fun n => dioramalaw04_RatioLaws.j4 n w z t a b e f u v x y zx zy) true := by
  obtain ⟨ia, ib⟩ := vl_i64 h
  obtain ⟨ie, iff⟩ := vl_i64 l
  obtain ⟨ix, iy⟩ := i64_mul h2
  obtain ⟨izx, izy⟩ := i64_mul h3
  refine Ev.open ⟨_, fun n => by simp only [dioramalaw04_RatioLaws.j4]; rfl, ?_⟩
  cases t
  · exact ev_neg (by decide) (rl_j5 h k l h1 h2)
  · refine ev_pos rfl ?_
    have e3 := pmul ix iy ie iff
    have e4 := pmul ia ib izx izy
    obtain ⟨p1, p2, p3, h4⟩ : ∃ p q r, mul a b zx zy = (p, q, r) := ⟨_, _, _, rfl⟩
    have q : mul x y e f = mul a b zx zy := by
      obtain ⟨rfl, rfl⟩ := ht rfl
      exact mul_assoc h k l h2 h3
    rw [q, h4] at e3
    rw [h4] at e4
    refine Ev.bind e3 (Ev.bind e4 (ev_pos rfl (ev_neg ?_ (rl_j5 h k l h1 h2))))
    simp
theorem rl_j3 {a b c d e f u v w x y z zx zy z' : Int} (h : vl a b) (k : vl c d) (l : vl e f) (h1 : add c d e f = (u, v, w)) (h2 : mul a b c d = (x, y, z)) (h3 : mul c d e f = (zx, zy, z')) : Ev (fun n => dioramalaw04_RatioLaws.j3 n w z z' a b e f u v x y zx zy) true := by
  refine Ev.open ⟨_, fun n => by simp only [dioramalaw04_RatioLaws.j3]; rfl, ?_⟩
  by_cases z0 : z = 0
  · exact ev_pos z0 (rl_j4 h k l h1 h2 h3 fun t => ⟨z0, by simpa using t⟩)
  · exact ev_neg z0 (rl_j4 h k l h1 h2 h3 fun t => Bool.noConfusion t)
theorem vl_den {a b : Int} (h : vl a b) : vl a (den b) := by
  rcases h with ⟨rfl, rfl⟩ | ⟨b0, b1, a0, a1, g⟩
  · exact .inr (by decide)
  · rw [den_one b0]
    exact .inr ⟨b0, b1, a0, a1, g⟩
theorem rl_j2 {a b c d e f u v w x y z zx zy z' x1 y1 : Int} (h : vl a b) (k : vl c d) (l : vl e f) (h0 : add a b c d = (x1, y1, 0)) (h1 : add c d e f = (u, v, w)) (h2 : mul a b c d = (x, y, z)) (h3 : mul c d e f = (zx, zy, z')) : Ev (fun n => dioramalaw04_RatioLaws.j2 n w z z' false a b c d e f x1 y1 u v x y zx zy) true := by
  obtain ⟨ia, ib⟩ := vl_i64 h
  obtain ⟨ic, id⟩ := vl_i64 k
  obtain ⟨ix, iy⟩ := i64_add h0
  refine Ev.open ⟨_, fun n => by simp only [dioramalaw04_RatioLaws.j2]; rfl, ?_⟩
  have e1 := psub ix iy ic id
  have b1 := (den_pos h).1
  rw [sub_back h k h0, mk_self (vl_den h) b1] at e1
  have e2 := pcmp ia (vl_i64 (vl_den h)).2 ia ib
  refine ev_neg (by decide) (Ev.bind e1 (ev_pos rfl (Ev.bind e2 (ev_pos ?_ (rl_j3 h k l h1 h2 h3)))))
  refine (cmp_sign (vl_den h) h).2.2 ?_
  rw [den_one b1]
  omega
theorem rl_j1 {a b c d e f u v w x y z zx zy z' x1 y1 z1 : Int} {t : Bool} (h : vl a b) (k : vl c d) (l : vl e f) (h0 : add a b c d = (x1, y1, z1)) (h1 : add c d e f = (u, v, w)) (h2 : mul a b c d = (x, y, z)) (h3 : mul c d e f = (zx, zy, z')) (ht : t = true → z1 = 0 ∧ w = 0) : Ev (fun n => dioramalaw04_RatioLaws.j1 n w z z' t a b c d e f x1 y1 u v x y zx zy) true := by
  obtain ⟨ia, ib⟩ := vl_i64 h
  obtain ⟨ie, iff⟩ := vl_i64 l
  obtain ⟨ix, iy⟩ := i64_add h0
  obtain ⟨iu, iv⟩ := i64_add h1
  refine Ev.open ⟨_, fun n => by simp only [dioramalaw04_RatioLaws.j1]; rfl, ?_⟩
  cases t
  · exact ev_neg (by decide) (rl_j3 h k l h1 h2 h3)
  · refine ev_pos rfl ?_
    obtain ⟨z10, w0⟩ := ht rfl
    have e3 := padd ix iy ie iff
    have e4 := padd ia ib iu iv
    obtain ⟨p1, p2, p3, h4⟩ : ∃ p q r, add a b u v = (p, q, r) := ⟨_, _, _, rfl⟩
    rw [z10] at h0
    have q : add x1 y1 e f = add a b u v := add_assoc h k l h0 (by rw [h1, w0])
    rw [q, h4] at e3
    rw [h4] at e4
    refine Ev.bind e3 (Ev.bind e4 (ev_pos rfl ?_))
    have nn : (!(p1 == p1) || (!(p2 == p2))) = false := by simp
    simp only [nn]
    exact rl_j2 h k l h0 h1 h2 h3
theorem rl_j0 {a b c d e f u v w x y z zx zy z' x1 y1 z1 : Int} (h : vl a b) (k : vl c d) (l : vl e f) (h0 : add a b c d = (x1, y1, z1)) (h1 : add c d e f = (u, v, w)) (h2 : mul a b c d = (x, y, z)) (h3 : mul c d e f = (zx, zy, z')) : Ev (fun n => dioramalaw04_RatioLaws.j0 n z1 w z z' false a b c d e f x1 y1 u v x y zx zy) true := by
  refine Ev.open ⟨_, fun n => by simp only [dioramalaw04_RatioLaws.j0]; rfl, ?_⟩
  refine ev_neg (by decide) ?_
  by_cases z0 : z1 = 0
  · exact ev_pos z0 (rl_j1 h k l h0 h1 h2 h3 fun t => ⟨z0, by simpa using t⟩)
  · exact ev_neg z0 (rl_j1 h k l h0 h1 h2 h3 fun t => Bool.noConfusion t)
theorem RatioLaws : dioramalaw04_RatioLaws.Pure := by
  intro l hm1 hm hw
  obtain ⟨a, b, c, d, e, f, h, k, g, ev⟩ := three_ev hw
  obtain ⟨ia, ib⟩ := vl_i64 h
  obtain ⟨ic, id⟩ := vl_i64 k
  obtain ⟨ie, iff⟩ := vl_i64 g
  have all : Ev (fun n => dioramalaw04_RatioLaws.f n l) true := by
    unfold dioramalaw04_RatioLaws.f
    obtain ⟨x1, y1, z1, h0⟩ : ∃ x y z, add a b c d = (x, y, z) := ⟨_, _, _, rfl⟩
    obtain ⟨u, v, w, h1⟩ : ∃ x y z, add c d e f = (x, y, z) := ⟨_, _, _, rfl⟩
    obtain ⟨x, y, z, h2⟩ : ∃ x y z, mul a b c d = (x, y, z) := ⟨_, _, _, rfl⟩
    obtain ⟨zx, zy, z', h3⟩ : ∃ x y z, mul c d e f = (x, y, z) := ⟨_, _, _, rfl⟩
    have e1 := padd ia ib ic id
    have e2 := padd ic id ia ib
    have e3 := padd ic id ie iff
    have e4 := pmul ia ib ic id
    have e5 := pmul ic id ia ib
    have e6 := pmul ic id ie iff
    rw [add_comm, h0] at e2
    rw [h0] at e1
    rw [h1] at e3
    rw [h2] at e4
    rw [mul_comm, h2] at e5
    rw [h3] at e6
    refine Ev.bind ev (Ev.bind e1 (Ev.bind e2 (Ev.bind e3 (Ev.bind e4 (Ev.bind e5 (Ev.bind e6 (ev_neg (by simp) (ev_pos rfl (ev_neg (by simp) ?_)))))))))
    have nn : (z != z) = false := by simp
    simp only [nn]
    exact rl_j0 h k g h0 h1 h2 h3
  exact all.rounds
end Go.Proofs.YtdphgnakigcaeaaDoor.Rat
