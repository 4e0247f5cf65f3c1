/- The contracts of the functions that the laws reach, each over a plain Lean function, written by wip/ownprint.py of this claim's session. -/
import Derived.Test.YtdphgnakigcaeaaDoorPc0
import Derived.Test.YtdphgnakigcaeaaDoorPc1
import Derived.Test.YtdphgnakigcaeaaDoorPc3
import Derived.Test.YtdphgnakigcaeaaDoorPc6
import Derived.Test.YtdphgnakigcaeaaDoorPc8
namespace Go.Proofs.YtdphgnakigcaeaaDoor.Pc
open Go.RowKit Go.Proofs.YtdphgnakigcaeaaDoorW.PrintWords Go.Proofs.YtdphgnakigcaeaaDoorW.PrintLast Go.Proofs.YtdphgnakigcaeaaDoorW.PrintMore
attribute [local go_sem] max2_int min2_int max_two min_two max_three min_three max_four min_four   -- for this text's walks alone
attribute [local go_sem high] binOp_leq_p
set_option linter.unusedVariables false
set_option linter.unusedSimpArgs false

attribute [local go_sem high] eqA24
/-! ### dioramalaw04_RatioLaws: function 3 -/
mutual
def dioramalaw04_RatioLaws.j0 : Nat → Int → Int → Int → Int → Bool → Int → Int → Int → Int → Int → Int → Int → Int → Int → Int → Int → Int → Int → Int → Option (Bool)
 | 0, _, _, _, _, _, _, _, _, _, _, _, _, _, _, _, _, _, _, _ => none
 | k + 1, x7, x11, x13, x17, x93, x244000, x244001, x245000, x245001, x246000, x246001, x250000, x250001, x258000, x258001, x262000, x262001, x270000, x270001 => if x93 = true then (some false) else (if x7 = 0 then (dioramalaw04_RatioLaws.j1 k x11 x13 x17 (x11 == 0) x244000 x244001 x245000 x245001 x246000 x246001 x250000 x250001 x258000 x258001 x262000 x262001 x270000 x270001) else (dioramalaw04_RatioLaws.j1 k x11 x13 x17 false x244000 x244001 x245000 x245001 x246000 x246001 x250000 x250001 x258000 x258001 x262000 x262001 x270000 x270001))
def dioramalaw04_RatioLaws.j1 : Nat → Int → Int → Int → Bool → Int → Int → Int → Int → Int → Int → Int → Int → Int → Int → Int → Int → Int → Int → Option (Bool)
 | 0, _, _, _, _, _, _, _, _, _, _, _, _, _, _, _, _, _, _ => none
 | k + 1, x11, x13, x17, x99, x244000, x244001, x245000, x245001, x246000, x246001, x250000, x250001, x258000, x258001, x262000, x262001, x270000, x270001 => if x99 = true then ((ratio_Add.f k x250000 x250001 x246000 x246001).bind fun bt270 => ((ratio_Add.f k x244000 x244001 x258000 x258001).bind fun bt274 => (if bt270.2.2 = bt274.2.2 then (dioramalaw04_RatioLaws.j2 k x11 x13 x17 (!(bt270.1 == bt274.1) || (!(bt270.2.1 == bt274.2.1))) x244000 x244001 x245000 x245001 x246000 x246001 x250000 x250001 x258000 x258001 x262000 x262001 x270000 x270001) else (dioramalaw04_RatioLaws.j2 k x11 x13 x17 true x244000 x244001 x245000 x245001 x246000 x246001 x250000 x250001 x258000 x258001 x262000 x262001 x270000 x270001)))) else (dioramalaw04_RatioLaws.j3 k x11 x13 x17 x244000 x244001 x246000 x246001 x258000 x258001 x262000 x262001 x270000 x270001)
def dioramalaw04_RatioLaws.j3 : Nat → Int → Int → Int → Int → Int → Int → Int → Int → Int → Int → Int → Int → Int → Option (Bool)
 | 0, _, _, _, _, _, _, _, _, _, _, _, _, _ => none
 | k + 1, x11, x13, x17, x244000, x244001, x246000, x246001, x258000, x258001, x262000, x262001, x270000, x270001 => if x13 = 0 then (dioramalaw04_RatioLaws.j4 k x11 x13 (x17 == 0) x244000 x244001 x246000 x246001 x258000 x258001 x262000 x262001 x270000 x270001) else (dioramalaw04_RatioLaws.j4 k x11 x13 false x244000 x244001 x246000 x246001 x258000 x258001 x262000 x262001 x270000 x270001)
def dioramalaw04_RatioLaws.j4 : Nat → Int → Int → Bool → Int → Int → Int → Int → Int → Int → Int → Int → Int → Int → Option (Bool)
 | 0, _, _, _, _, _, _, _, _, _, _, _, _, _ => none
 | k + 1, x11, x13, x139, x244000, x244001, x246000, x246001, x258000, x258001, x262000, x262001, x270000, x270001 => if x139 = true then ((ratio_Mul.f k x262000 x262001 x246000 x246001).bind fun bt283 => ((ratio_Mul.f k x244000 x244001 x270000 x270001).bind fun bt287 => (if bt283.2.2 = bt287.2.2 then (if (!(bt283.1 == bt287.1) || (!(bt283.2.1 == bt287.2.1))) = true then (some false) else (dioramalaw04_RatioLaws.j5 k x11 x13 x244000 x244001 x246000 x246001 x258000 x258001 x262000 x262001)) else (some false)))) else (dioramalaw04_RatioLaws.j5 k x11 x13 x244000 x244001 x246000 x246001 x258000 x258001 x262000 x262001)
def dioramalaw04_RatioLaws.j5 : Nat → Int → Int → Int → Int → Int → Int → Int → Int → Int → Int → Option (Bool)
 | 0, _, _, _, _, _, _, _, _, _, _ => none
 | k + 1, x11, x13, x244000, x244001, x246000, x246001, x258000, x258001, x262000, x262001 => (ratio_Mul.f k x244000 x244001 x246000 x246001).bind fun bt291 => ((ratio_Mul.f k x244000 x244001 x258000 x258001).bind fun bt295 => ((ratio_Add.f k x262000 x262001 bt291.1 bt291.2.1).bind fun bt299 => (if x11 = 0 then (if x13 = 0 then (if bt291.2.2 = 0 then (if bt295.2.2 = 0 then (dioramalaw04_RatioLaws.j6 k (bt299.2.2 != 0) bt295.1 bt295.2.1 bt299.1 bt299.2.1) else (dioramalaw04_RatioLaws.j6 k true bt295.1 bt295.2.1 bt299.1 bt299.2.1)) else (dioramalaw04_RatioLaws.j6 k true bt295.1 bt295.2.1 bt299.1 bt299.2.1)) else (dioramalaw04_RatioLaws.j6 k true bt295.1 bt295.2.1 bt299.1 bt299.2.1)) else (dioramalaw04_RatioLaws.j6 k true bt295.1 bt295.2.1 bt299.1 bt299.2.1))))
def dioramalaw04_RatioLaws.j6 : Nat → Bool → Int → Int → Int → Int → Option (Bool)
 | 0, _, _, _, _, _ => none
 | k + 1, x195, x299000, x299001, x303000, x303001 => if x195 = true then ((dioramalaw04_lives.f k).bind fun t303 => (some t303)) else (if (x299000 == x303000 && (x299001 == x303001)) = true then ((dioramalaw04_lives.f k).bind fun t304 => (some t304)) else (some false))
def dioramalaw04_RatioLaws.j2 : Nat → Int → Int → Int → Bool → Int → Int → Int → Int → Int → Int → Int → Int → Int → Int → Int → Int → Int → Int → Option (Bool)
 | 0, _, _, _, _, _, _, _, _, _, _, _, _, _, _, _, _, _, _ => none
 | k + 1, x11, x13, x17, x119, x244000, x244001, x245000, x245001, x246000, x246001, x250000, x250001, x258000, x258001, x262000, x262001, x270000, x270001 => if x119 = true then (some false) else ((ratio_Sub.f k x250000 x250001 x245000 x245001).bind fun bt278 => (if bt278.2.2 = 0 then ((ratio_Compare.f k bt278.1 bt278.2.1 x244000 x244001).bind fun t282 => (if t282 = 0 then (dioramalaw04_RatioLaws.j3 k x11 x13 x17 x244000 x244001 x246000 x246001 x258000 x258001 x262000 x262001 x270000 x270001) else (some false))) else (some false)))
end
def dioramalaw04_RatioLaws.f (k : Nat) (l0 : List Int) : Option (Bool) := (dioramalaw04_three.f k l0).bind fun bt237 => ((ratio_Add.f k bt237.1 bt237.2.1 bt237.2.2.1 bt237.2.2.2.1).bind fun bt246 => ((ratio_Add.f k bt237.2.2.1 bt237.2.2.2.1 bt237.1 bt237.2.1).bind fun bt250 => ((ratio_Add.f k bt237.2.2.1 bt237.2.2.2.1 bt237.2.2.2.2.1 bt237.2.2.2.2.2).bind fun bt254 => ((ratio_Mul.f k bt237.1 bt237.2.1 bt237.2.2.1 bt237.2.2.2.1).bind fun bt258 => ((ratio_Mul.f k bt237.2.2.1 bt237.2.2.2.1 bt237.1 bt237.2.1).bind fun bt262 => ((ratio_Mul.f k bt237.2.2.1 bt237.2.2.2.1 bt237.2.2.2.2.1 bt237.2.2.2.2.2).bind fun bt266 => (if (!(bt246.1 == bt250.1) || (!(bt246.2.1 == bt250.2.1))) = true then (dioramalaw04_RatioLaws.j0 k bt246.2.2 bt254.2.2 bt258.2.2 bt266.2.2 true bt237.1 bt237.2.1 bt237.2.2.1 bt237.2.2.2.1 bt237.2.2.2.2.1 bt237.2.2.2.2.2 bt246.1 bt246.2.1 bt254.1 bt254.2.1 bt258.1 bt258.2.1 bt266.1 bt266.2.1) else (if bt246.2.2 = bt250.2.2 then (if (!(bt258.1 == bt262.1) || (!(bt258.2.1 == bt262.2.1))) = true then (dioramalaw04_RatioLaws.j0 k bt246.2.2 bt254.2.2 bt258.2.2 bt266.2.2 true bt237.1 bt237.2.1 bt237.2.2.1 bt237.2.2.2.1 bt237.2.2.2.2.1 bt237.2.2.2.2.2 bt246.1 bt246.2.1 bt254.1 bt254.2.1 bt258.1 bt258.2.1 bt266.1 bt266.2.1) else (dioramalaw04_RatioLaws.j0 k bt246.2.2 bt254.2.2 bt258.2.2 bt266.2.2 (bt258.2.2 != bt262.2.2) bt237.1 bt237.2.1 bt237.2.2.1 bt237.2.2.2.1 bt237.2.2.2.2.1 bt237.2.2.2.2.2 bt246.1 bt246.2.1 bt254.1 bt254.2.1 bt258.1 bt258.2.1 bt266.1 bt266.2.1)) else (dioramalaw04_RatioLaws.j0 k bt246.2.2 bt254.2.2 bt258.2.2 bt266.2.2 true bt237.1 bt237.2.1 bt237.2.2.1 bt237.2.2.2.1 bt237.2.2.2.2.1 bt237.2.2.2.2.2 bt246.1 bt246.2.1 bt254.1 bt254.2.1 bt258.1 bt258.2.1 bt266.1 bt266.2.1)))))))))
theorem dioramalaw04_RatioLaws.mono_l : ∀ k, (∀ y0 y1 y2 y3 y4 y5 y6 y7 y8 y9 y10 y11 y12 y13 y14 y15 y16 y17 y18, LeO (dioramalaw04_RatioLaws.j0 k y0 y1 y2 y3 y4 y5 y6 y7 y8 y9 y10 y11 y12 y13 y14 y15 y16 y17 y18) (dioramalaw04_RatioLaws.j0 (k + 1) y0 y1 y2 y3 y4 y5 y6 y7 y8 y9 y10 y11 y12 y13 y14 y15 y16 y17 y18)) ∧ (∀ y0 y1 y2 y3 y4 y5 y6 y7 y8 y9 y10 y11 y12 y13 y14 y15 y16 y17, LeO (dioramalaw04_RatioLaws.j1 k y0 y1 y2 y3 y4 y5 y6 y7 y8 y9 y10 y11 y12 y13 y14 y15 y16 y17) (dioramalaw04_RatioLaws.j1 (k + 1) y0 y1 y2 y3 y4 y5 y6 y7 y8 y9 y10 y11 y12 y13 y14 y15 y16 y17)) ∧ (∀ y0 y1 y2 y3 y4 y5 y6 y7 y8 y9 y10 y11 y12, LeO (dioramalaw04_RatioLaws.j3 k y0 y1 y2 y3 y4 y5 y6 y7 y8 y9 y10 y11 y12) (dioramalaw04_RatioLaws.j3 (k + 1) y0 y1 y2 y3 y4 y5 y6 y7 y8 y9 y10 y11 y12)) ∧ (∀ y0 y1 y2 y3 y4 y5 y6 y7 y8 y9 y10 y11 y12, LeO (dioramalaw04_RatioLaws.j4 k y0 y1 y2 y3 y4 y5 y6 y7 y8 y9 y10 y11 y12) (dioramalaw04_RatioLaws.j4 (k + 1) y0 y1 y2 y3 y4 y5 y6 y7 y8 y9 y10 y11 y12)) ∧ (∀ y0 y1 y2 y3 y4 y5 y6 y7 y8 y9, LeO (dioramalaw04_RatioLaws.j5 k y0 y1 y2 y3 y4 y5 y6 y7 y8 y9) (dioramalaw04_RatioLaws.j5 (k + 1) y0 y1 y2 y3 y4 y5 y6 y7 y8 y9)) ∧ (∀ y0 y1 y2 y3 y4, LeO (dioramalaw04_RatioLaws.j6 k y0 y1 y2 y3 y4) (dioramalaw04_RatioLaws.j6 (k + 1) y0 y1 y2 y3 y4)) ∧ (∀ y0 y1 y2 y3 y4 y5 y6 y7 y8 y9 y10 y11 y12 y13 y14 y15 y16 y17, LeO (dioramalaw04_RatioLaws.j2 k y0 y1 y2 y3 y4 y5 y6 y7 y8 y9 y10 y11 y12 y13 y14 y15 y16 y17) (dioramalaw04_RatioLaws.j2 (k + 1) y0 y1 y2 y3 y4 y5 y6 y7 y8 y9 y10 y11 y12 y13 y14 y15 y16 y17))
 | 0 => ⟨fun _ _ _ _ _ _ _ _ _ _ _ _ _ _ _ _ _ _ _ r h => by simp [dioramalaw04_RatioLaws.j0] at h, fun _ _ _ _ _ _ _ _ _ _ _ _ _ _ _ _ _ _ r h => by simp [dioramalaw04_RatioLaws.j1] at h, fun _ _ _ _ _ _ _ _ _ _ _ _ _ r h => by simp [dioramalaw04_RatioLaws.j3] at h, fun _ _ _ _ _ _ _ _ _ _ _ _ _ r h => by simp [dioramalaw04_RatioLaws.j4] at h, fun _ _ _ _ _ _ _ _ _ _ r h => by simp [dioramalaw04_RatioLaws.j5] at h, fun _ _ _ _ _ r h => by simp [dioramalaw04_RatioLaws.j6] at h, fun _ _ _ _ _ _ _ _ _ _ _ _ _ _ _ _ _ _ r h => by simp [dioramalaw04_RatioLaws.j2] at h⟩
 | k + 1 => by
  obtain ⟨ih0, ih1, ih2, ih3, ih4, ih5, ih6⟩ := dioramalaw04_RatioLaws.mono_l k
  refine ⟨?_, ?_, ?_, ?_, ?_, ?_, ?_⟩
  ·intro y0 y1 y2 y3 y4 y5 y6 y7 y8 y9 y10 y11 y12 y13 y14 y15 y16 y17 y18
   unfold dioramalaw04_RatioLaws.j0
   repeat' first
   | (with_reducible exact ih0 _ _ _ _ _ _ _ _ _ _ _ _ _ _ _ _ _ _ _)
   | (with_reducible exact ih1 _ _ _ _ _ _ _ _ _ _ _ _ _ _ _ _ _ _)
   | (with_reducible exact ih2 _ _ _ _ _ _ _ _ _ _ _ _ _)
   | (with_reducible exact ih3 _ _ _ _ _ _ _ _ _ _ _ _ _)
   | (with_reducible exact ih4 _ _ _ _ _ _ _ _ _ _)
   | (with_reducible exact ih5 _ _ _ _ _)
   | (with_reducible exact ih6 _ _ _ _ _ _ _ _ _ _ _ _ _ _ _ _ _ _)
   | (with_reducible exact dioramalaw04_lives.mono _)
   | (with_reducible exact dioramalaw04_three.mono _ _)
   | (with_reducible exact ratio_Add.mono _ _ _ _ _)
   | (with_reducible exact ratio_Compare.mono _ _ _ _ _)
   | (with_reducible exact ratio_Mul.mono _ _ _ _ _)
   | (with_reducible exact ratio_Sub.mono _ _ _ _ _)
   | (with_reducible exact LeO.refl _)
   | (with_reducible exact LeO.none _)
   | (with_reducible refine LeO.ite ?_ ?_)
   | (with_reducible refine LeO.bind ?_ (fun _ => ?_))
   | exact ih0 _ _ _ _ _ _ _ _ _ _ _ _ _ _ _ _ _ _ _
   | exact ih1 _ _ _ _ _ _ _ _ _ _ _ _ _ _ _ _ _ _
   | exact ih2 _ _ _ _ _ _ _ _ _ _ _ _ _
   | exact ih3 _ _ _ _ _ _ _ _ _ _ _ _ _
   | exact ih4 _ _ _ _ _ _ _ _ _ _
   | exact ih5 _ _ _ _ _
   | exact ih6 _ _ _ _ _ _ _ _ _ _ _ _ _ _ _ _ _ _
   | exact dioramalaw04_lives.mono _
   | exact dioramalaw04_three.mono _ _
   | exact ratio_Add.mono _ _ _ _ _
   | exact ratio_Compare.mono _ _ _ _ _
   | exact ratio_Mul.mono _ _ _ _ _
   | exact ratio_Sub.mono _ _ _ _ _
   | exact LeO.none _
   | refine LeO.ite ?_ ?_
   | refine LeO.bind ?_ (fun _ => ?_)
  ·intro y0 y1 y2 y3 y4 y5 y6 y7 y8 y9 y10 y11 y12 y13 y14 y15 y16 y17
   unfold dioramalaw04_RatioLaws.j1
   repeat' first
   | (with_reducible exact ih0 _ _ _ _ _ _ _ _ _ _ _ _ _ _ _ _ _ _ _)
   | (with_reducible exact ih1 _ _ _ _ _ _ _ _ _ _ _ _ _ _ _ _ _ _)
   | (with_reducible exact ih2 _ _ _ _ _ _ _ _ _ _ _ _ _)
   | (with_reducible exact ih3 _ _ _ _ _ _ _ _ _ _ _ _ _)
   | (with_reducible exact ih4 _ _ _ _ _ _ _ _ _ _)
   | (with_reducible exact ih5 _ _ _ _ _)
   | (with_reducible exact ih6 _ _ _ _ _ _ _ _ _ _ _ _ _ _ _ _ _ _)
   | (with_reducible exact dioramalaw04_lives.mono _)
   | (with_reducible exact dioramalaw04_three.mono _ _)
   | (with_reducible exact ratio_Add.mono _ _ _ _ _)
   | (with_reducible exact ratio_Compare.mono _ _ _ _ _)
   | (with_reducible exact ratio_Mul.mono _ _ _ _ _)
   | (with_reducible exact ratio_Sub.mono _ _ _ _ _)
   | (with_reducible exact LeO.refl _)
   | (with_reducible exact LeO.none _)
   | (with_reducible refine LeO.ite ?_ ?_)
   | (with_reducible refine LeO.bind ?_ (fun _ => ?_))
   | exact ih0 _ _ _ _ _ _ _ _ _ _ _ _ _ _ _ _ _ _ _
   | exact ih1 _ _ _ _ _ _ _ _ _ _ _ _ _ _ _ _ _ _
   | exact ih2 _ _ _ _ _ _ _ _ _ _ _ _ _
   | exact ih3 _ _ _ _ _ _ _ _ _ _ _ _ _
   | exact ih4 _ _ _ _ _ _ _ _ _ _
   | exact ih5 _ _ _ _ _
   | exact ih6 _ _ _ _ _ _ _ _ _ _ _ _ _ _ _ _ _ _
   | exact dioramalaw04_lives.mono _
   | exact dioramalaw04_three.mono _ _
   | exact ratio_Add.mono _ _ _ _ _
   | exact ratio_Compare.mono _ _ _ _ _
   | exact ratio_Mul.mono _ _ _ _ _
   | exact ratio_Sub.mono _ _ _ _ _
   | exact LeO.none _
   | refine LeO.ite ?_ ?_
   | refine LeO.bind ?_ (fun _ => ?_)
  ·intro y0 y1 y2 y3 y4 y5 y6 y7 y8 y9 y10 y11 y12
   unfold dioramalaw04_RatioLaws.j3
   repeat' first
   | (with_reducible exact ih0 _ _ _ _ _ _ _ _ _ _ _ _ _ _ _ _ _ _ _)
   | (with_reducible exact ih1 _ _ _ _ _ _ _ _ _ _ _ _ _ _ _ _ _ _)
   | (with_reducible exact ih2 _ _ _ _ _ _ _ _ _ _ _ _ _)
   | (with_reducible exact ih3 _ _ _ _ _ _ _ _ _ _ _ _ _)
   | (with_reducible exact ih4 _ _ _ _ _ _ _ _ _ _)
   | (with_reducible exact ih5 _ _ _ _ _)
   | (with_reducible exact ih6 _ _ _ _ _ _ _ _ _ _ _ _ _ _ _ _ _ _)
   | (with_reducible exact dioramalaw04_lives.mono _)
   | (with_reducible exact dioramalaw04_three.mono _ _)
   | (with_reducible exact ratio_Add.mono _ _ _ _ _)
   | (with_reducible exact ratio_Compare.mono _ _ _ _ _)
   | (with_reducible exact ratio_Mul.mono _ _ _ _ _)
   | (with_reducible exact ratio_Sub.mono _ _ _ _ _)
   | (with_reducible exact LeO.refl _)
   | (with_reducible exact LeO.none _)
   | (with_reducible refine LeO.ite ?_ ?_)
   | (with_reducible refine LeO.bind ?_ (fun _ => ?_))
   | exact ih0 _ _ _ _ _ _ _ _ _ _ _ _ _ _ _ _ _ _ _
   | exact ih1 _ _ _ _ _ _ _ _ _ _ _ _ _ _ _ _ _ _
   | exact ih2 _ _ _ _ _ _ _ _ _ _ _ _ _
   | exact ih3 _ _ _ _ _ _ _ _ _ _ _ _ _
   | exact ih4 _ _ _ _ _ _ _ _ _ _
   | exact ih5 _ _ _ _ _
   | exact ih6 _ _ _ _ _ _ _ _ _ _ _ _ _ _ _ _ _ _
   | exact dioramalaw04_lives.mono _
   | exact dioramalaw04_three.mono _ _
   | exact ratio_Add.mono _ _ _ _ _
   | exact ratio_Compare.mono _ _ _ _ _
   | exact ratio_Mul.mono _ _ _ _ _
   | exact ratio_Sub.mono _ _ _ _ _
   | exact LeO.none _
   | refine LeO.ite ?_ ?_
   | refine LeO.bind ?_ (fun _ => ?_)
  ·intro y0 y1 y2 y3 y4 y5 y6 y7 y8 y9 y10 y11 y12
   unfold dioramalaw04_RatioLaws.j4
   repeat' first
   | (with_reducible exact ih0 _ _ _ _ _ _ _ _ _ _ _ _ _ _ _ _ _ _ _)
   | (with_reducible exact ih1 _ _ _ _ _ _ _ _ _ _ _ _ _ _ _ _ _ _)
   | (with_reducible exact ih2 _ _ _ _ _ _ _ _ _ _ _ _ _)
   | (with_reducible exact ih3 _ _ _ _ _ _ _ _ _ _ _ _ _)
   | (with_reducible exact ih4 _ _ _ _ _ _ _ _ _ _)
   | (with_reducible exact ih5 _ _ _ _ _)
   | (with_reducible exact ih6 _ _ _ _ _ _ _ _ _ _ _ _ _ _ _ _ _ _)
   | (with_reducible exact dioramalaw04_lives.mono _)
   | (with_reducible exact dioramalaw04_three.mono _ _)
   | (with_reducible exact ratio_Add.mono _ _ _ _ _)
   | (with_reducible exact ratio_Compare.mono _ _ _ _ _)
   | (with_reducible exact ratio_Mul.mono _ _ _ _ _)
   | (with_reducible exact ratio_Sub.mono _ _ _ _ _)
   | (with_reducible exact LeO.refl _)
   | (with_reducible exact LeO.none _)
   | (with_reducible refine LeO.ite ?_ ?_)
   | (with_reducible refine LeO.bind ?_ (fun _ => ?_))
   | exact ih0 _ _ _ _ _ _ _ _ _ _ _ _ _ _ _ _ _ _ _
   | exact ih1 _ _ _ _ _ _ _ _ _ _ _ _ _ _ _ _ _ _
   | exact ih2 _ _ _ _ _ _ _ _ _ _ _ _ _
   | exact ih3 _ _ _ _ _ _ _ _ _ _ _ _ _
   | exact ih4 _ _ _ _ _ _ _ _ _ _
   | exact ih5 _ _ _ _ _
   | exact ih6 _ _ _ _ _ _ _ _ _ _ _ _ _ _ _ _ _ _
   | exact dioramalaw04_lives.mono _
   | exact dioramalaw04_three.mono _ _
   | exact ratio_Add.mono _ _ _ _ _
   | exact ratio_Compare.mono _ _ _ _ _
   | exact ratio_Mul.mono _ _ _ _ _
   | exact ratio_Sub.mono _ _ _ _ _
   | exact LeO.none _
   | refine LeO.ite ?_ ?_
   | refine LeO.bind ?_ (fun _ => ?_)
  ·intro y0 y1 y2 y3 y4 y5 y6 y7 y8 y9
   unfold dioramalaw04_RatioLaws.j5
   repeat' first
   | (with_reducible exact ih0 _ _ _ _ _ _ _ _ _ _ _ _ _ _ _ _ _ _ _)
   | (with_reducible exact ih1 _ _ _ _ _ _ _ _ _ _ _ _ _ _ _ _ _ _)
   | (with_reducible exact ih2 _ _ _ _ _ _ _ _ _ _ _ _ _)
   | (with_reducible exact ih3 _ _ _ _ _ _ _ _ _ _ _ _ _)
   | (with_reducible exact ih4 _ _ _ _ _ _ _ _ _ _)
   | (with_reducible exact ih5 _ _ _ _ _)
   | (with_reducible exact ih6 _ _ _ _ _ _ _ _ _ _ _ _ _ _ _ _ _ _)
   | (with_reducible exact dioramalaw04_lives.mono _)
   | (with_reducible exact dioramalaw04_three.mono _ _)
   | (with_reducible exact ratio_Add.mono _ _ _ _ _)
   | (with_reducible exact ratio_Compare.mono _ _ _ _ _)
   | (with_reducible exact ratio_Mul.mono _ _ _ _ _)
   | (with_reducible exact ratio_Sub.mono _ _ _ _ _)
   | (with_reducible exact LeO.refl _)
   | (with_reducible exact LeO.none _)
   | (with_reducible refine LeO.ite ?_ ?_)
   | (with_reducible refine LeO.bind ?_ (fun _ => ?_))
   | exact ih0 _ _ _ _ _ _ _ _ _ _ _ _ _ _ _ _ _ _ _
   | exact ih1 _ _ _ _ _ _ _ _ _ _ _ _ _ _ _ _ _ _
   | exact ih2 _ _ _ _ _ _ _ _ _ _ _ _ _
   | exact ih3 _ _ _ _ _ _ _ _ _ _ _ _ _
   | exact ih4 _ _ _ _ _ _ _ _ _ _
   | exact ih5 _ _ _ _ _
   | exact ih6 _ _ _ _ _ _ _ _ _ _ _ _ _ _ _ _ _ _
   | exact dioramalaw04_lives.mono _
   | exact dioramalaw04_three.mono _ _
   | exact ratio_Add.mono _ _ _ _ _
   | exact ratio_Compare.mono _ _ _ _ _
   | exact ratio_Mul.mono _ _ _ _ _
   | exact ratio_Sub.mono _ _ _ _ _
   | exact LeO.none _
   | refine LeO.ite ?_ ?_
   | refine LeO.bind ?_ (fun _ => ?_)
  ·intro y0 y1 y2 y3 y4
   unfold dioramalaw04_RatioLaws.j6
   repeat' first
   | (with_reducible exact ih0 _ _ _ _ _ _ _ _ _ _ _ _ _ _ _ _ _ _ _)
   | (with_reducible exact ih1 _ _ _ _ _ _ _ _ _ _ _ _ _ _ _ _ _ _)
   | (with_reducible exact ih2 _ _ _ _ _ _ _ _ _ _ _ _ _)
   | (with_reducible exact ih3 _ _ _ _ _ _ _ _ _ _ _ _ _)
   | (with_reducible exact ih4 _ _ _ _ _ _ _ _ _ _)
   | (with_reducible exact ih5 _ _ _ _ _)
   | (with_reducible exact ih6 _ _ _ _ _ _ _ _ _ _ _ _ _ _ _ _ _ _)
   | (with_reducible exact dioramalaw04_lives.mono _)
   | (with_reducible exact dioramalaw04_three.mono _ _)
   | (with_reducible exact ratio_Add.mono _ _ _ _ _)
   | (with_reducible exact ratio_Compare.mono _ _ _ _ _)
   | (with_reducible exact ratio_Mul.mono _ _ _ _ _)
   | (with_reducible exact ratio_Sub.mono _ _ _ _ _)
   | (with_reducible exact LeO.refl _)
   | (with_reducible exact LeO.none _)
   | (with_reducible refine LeO.ite ?_ ?_)
   | (with_reducible refine LeO.bind ?_ (fun _ => ?_))
   | exact ih0 _ _ _ _ _ _ _ _ _ _ _ _ _ _ _ _ _ _ _
   | exact ih1 _ _ _ _ _ _ _ _ _ _ _ _ _ _ _ _ _ _
   | exact ih2 _ _ _ _ _ _ _ _ _ _ _ _ _
   | exact ih3 _ _ _ _ _ _ _ _ _ _ _ _ _
   | exact ih4 _ _ _ _ _ _ _ _ _ _
   | exact ih5 _ _ _ _ _
   | exact ih6 _ _ _ _ _ _ _ _ _ _ _ _ _ _ _ _ _ _
   | exact dioramalaw04_lives.mono _
   | exact dioramalaw04_three.mono _ _
   | exact ratio_Add.mono _ _ _ _ _
   | exact ratio_Compare.mono _ _ _ _ _
   | exact ratio_Mul.mono _ _ _ _ _
   | exact ratio_Sub.mono _ _ _ _ _
   | exact LeO.none _
   | refine LeO.ite ?_ ?_
   | refine LeO.bind ?_ (fun _ => ?_)
  ·intro y0 y1 y2 y3 y4 y5 y6 y7 y8 y9 y10 y11 y12 y13 y14 y15 y16 y17
   unfold dioramalaw04_RatioLaws.j2
   repeat' first
   | (with_reducible exact ih0 _ _ _ _ _ _ _ _ _ _ _ _ _ _ _ _ _ _ _)
   | (with_reducible exact ih1 _ _ _ _ _ _ _ _ _ _ _ _ _ _ _ _ _ _)
   | (with_reducible exact ih2 _ _ _ _ _ _ _ _ _ _ _ _ _)
   | (with_reducible exact ih3 _ _ _ _ _ _ _ _ _ _ _ _ _)
   | (with_reducible exact ih4 _ _ _ _ _ _ _ _ _ _)
   | (with_reducible exact ih5 _ _ _ _ _)
   | (with_reducible exact ih6 _ _ _ _ _ _ _ _ _ _ _ _ _ _ _ _ _ _)
   | (with_reducible exact dioramalaw04_lives.mono _)
   | (with_reducible exact dioramalaw04_three.mono _ _)
   | (with_reducible exact ratio_Add.mono _ _ _ _ _)
   | (with_reducible exact ratio_Compare.mono _ _ _ _ _)
   | (with_reducible exact ratio_Mul.mono _ _ _ _ _)
   | (with_reducible exact ratio_Sub.mono _ _ _ _ _)
   | (with_reducible exact LeO.refl _)
   | (with_reducible exact LeO.none _)
   | (with_reducible refine LeO.ite ?_ ?_)
   | (with_reducible refine LeO.bind ?_ (fun _ => ?_))
   | exact ih0 _ _ _ _ _ _ _ _ _ _ _ _ _ _ _ _ _ _ _
   | exact ih1 _ _ _ _ _ _ _ _ _ _ _ _ _ _ _ _ _ _
   | exact ih2 _ _ _ _ _ _ _ _ _ _ _ _ _
   | exact ih3 _ _ _ _ _ _ _ _ _ _ _ _ _
   | exact ih4 _ _ _ _ _ _ _ _ _ _
   | exact ih5 _ _ _ _ _
   | exact ih6 _ _ _ _ _ _ _ _ _ _ _ _ _ _ _ _ _ _
   | exact dioramalaw04_lives.mono _
   | exact dioramalaw04_three.mono _ _
   | exact ratio_Add.mono _ _ _ _ _
   | exact ratio_Compare.mono _ _ _ _ _
   | exact ratio_Mul.mono _ _ _ _ _
   | exact ratio_Sub.mono _ _ _ _ _
   | exact LeO.none _
   | refine LeO.ite ?_ ?_
   | refine LeO.bind ?_ (fun _ => ?_)
theorem dioramalaw04_RatioLaws.mono : ∀ a0 k, LeO (dioramalaw04_RatioLaws.f k a0) (dioramalaw04_RatioLaws.f (k + 1) a0) := by
 intro a0 k
 obtain ⟨ih0, ih1, ih2, ih3, ih4, ih5, ih6⟩ := dioramalaw04_RatioLaws.mono_l k
 unfold dioramalaw04_RatioLaws.f
 repeat' first
   | (with_reducible exact ih0 _ _ _ _ _ _ _ _ _ _ _ _ _ _ _ _ _ _ _)
   | (with_reducible exact ih1 _ _ _ _ _ _ _ _ _ _ _ _ _ _ _ _ _ _)
   | (with_reducible exact ih2 _ _ _ _ _ _ _ _ _ _ _ _ _)
   | (with_reducible exact ih3 _ _ _ _ _ _ _ _ _ _ _ _ _)
   | (with_reducible exact ih4 _ _ _ _ _ _ _ _ _ _)
   | (with_reducible exact ih5 _ _ _ _ _)
   | (with_reducible exact ih6 _ _ _ _ _ _ _ _ _ _ _ _ _ _ _ _ _ _)
   | (with_reducible exact dioramalaw04_lives.mono _)
   | (with_reducible exact dioramalaw04_three.mono _ _)
   | (with_reducible exact ratio_Add.mono _ _ _ _ _)
   | (with_reducible exact ratio_Compare.mono _ _ _ _ _)
   | (with_reducible exact ratio_Mul.mono _ _ _ _ _)
   | (with_reducible exact ratio_Sub.mono _ _ _ _ _)
   | (with_reducible exact LeO.refl _)
   | (with_reducible exact LeO.none _)
   | (with_reducible refine LeO.ite ?_ ?_)
   | (with_reducible refine LeO.bind ?_ (fun _ => ?_))
   | exact ih0 _ _ _ _ _ _ _ _ _ _ _ _ _ _ _ _ _ _ _
   | exact ih1 _ _ _ _ _ _ _ _ _ _ _ _ _ _ _ _ _ _
   | exact ih2 _ _ _ _ _ _ _ _ _ _ _ _ _
   | exact ih3 _ _ _ _ _ _ _ _ _ _ _ _ _
   | exact ih4 _ _ _ _ _ _ _ _ _ _
   | exact ih5 _ _ _ _ _
   | exact ih6 _ _ _ _ _ _ _ _ _ _ _ _ _ _ _ _ _ _
   | exact dioramalaw04_lives.mono _
   | exact dioramalaw04_three.mono _ _
   | exact ratio_Add.mono _ _ _ _ _
   | exact ratio_Compare.mono _ _ _ _ _
   | exact ratio_Mul.mono _ _ _ _ _
   | exact ratio_Sub.mono _ _ _ _ _
   | exact LeO.none _
   | refine LeO.ite ?_ ?_
   | refine LeO.bind ?_ (fun _ => ?_)
theorem far_ {W : World} {g g' i : Nat} {o : Obj} {v : Value} (h : W.heap[g]? = some o) (hne : Aside0 (g ≠ g')) : (W.setCell ⟨g', i, none⟩ v).heap[g]? = some o := (Below.heap_setCell W ⟨g', i, none⟩ v g hne.out).trans h
theorem put0_ {W : World} {g : Nat} {a b x : Value} {t : TypeId} (h : W.heap[g]? = some (.cells #[x, b] t (0, 0))) : (W.setCell ⟨g, 0, none⟩ a).heap[g]? = some (.cells #[a, b] t (0, 0)) := blk_put h 0 a rfl
theorem put1_ {W : World} {g : Nat} {a b x : Value} {t : TypeId} (h : W.heap[g]? = some (.cells #[a, x] t (0, 0))) : (W.setCell ⟨g, 1, none⟩ b).heap[g]? = some (.cells #[a, b] t (0, 0)) := blk_put h 1 b rfl
/-- what a box holds, through worlds that drew, laid new blocks, stored into boxes -/
theorem pk_ {g : Nat} {o : Obj} {W : World} (p : W.heap[g]? = some o := by (with_reducible repeat (first | refine blk_drewN ?_ _ | refine blk_drew ?_ | refine blk_alloc ?_ _ | refine far_ ?_ (by assumption) | apply put1_ | apply put0_)); refine Aside0.out ?_; assumption) : W.heap[g]? = some o := p
/-- the world is the first one below its end -/
theorem bl_ {n : Nat} {W0 W : World} (p : Below n W0 W := by repeat (first | (with_reducible first | exact Aside0.out (by assumption) | apply below_alloc | apply pw_below_drewN | apply below_drew1 | refine below_set ?_ (Aside0.out (by assumption))) | exact Aside0.out (by assumption))) : Below n W0 W := p
theorem up_ {g : Nat} {o : Obj} {W0 W W1 : World} (b : Aside0 (W0.heap[g]? = some o)) (hb : Below W.heap.size W W1) (p : W.heap[g]? = some o := by (with_reducible repeat (first | refine blk_drewN ?_ _ | refine blk_drew ?_ | refine blk_alloc ?_ _ | refine far_ ?_ (by assumption))); refine Aside0.out ?_; assumption) : Aside0 (W1.heap[g]? = some o) := ⟨blk_below p hb⟩
theorem up24_ (g : Nat) (a b : Int) {W W1 : World} (hb : Below W.heap.size W W1) (p : W.heap[g]? = some (.cells #[.int .i64 a, .int .i64 b] 24 (0, 0)) := by (with_reducible repeat (first | refine blk_drewN ?_ _ | refine blk_drew ?_ | refine blk_alloc ?_ _ | refine far_ ?_ (by assumption) | apply put1_ | apply put0_)); refine Aside0.out ?_; assumption) : Aside0 (W1.heap[g]? = some (.cells #[.int .i64 a, .int .i64 b] 24 (0, 0))) := ⟨blk_below p hb⟩
theorem gw_ {w W : World} {g : Nat} (hg : g = W.heap.size) (p : Below w.heap.size w W := by repeat (first | (with_reducible first | exact Aside0.out (by assumption) | apply below_alloc | apply pw_below_drewN | apply below_drew1 | refine below_set ?_ (Aside0.out (by assumption))) | exact Aside0.out (by assumption))) : Aside0 (w.heap.size ≤ g) := ⟨by rw [hg]; exact below_size p⟩
theorem nl_ {g g' : Nat} {o : Obj} {W0 W : World} (b : Aside0 (W0.heap[g]? = some o)) (hg : g' = W.heap.size) (p : W.heap[g]? = some o := by (with_reducible repeat (first | refine blk_drewN ?_ _ | refine blk_drew ?_ | refine blk_alloc ?_ _ | refine far_ ?_ (by assumption))); refine Aside0.out ?_; assumption) : Aside0 (g ≠ g') := ⟨by rw [hg]; exact Nat.ne_of_lt (blk_lt p)⟩
theorem ng_ {g g' : Nat} {o : Obj} {W0 W : World} (b : Aside0 (W0.heap[g]? = some o)) (hg : g' = W.heap.size) (p : W.heap[g]? = some o := by (with_reducible repeat (first | refine blk_drewN ?_ _ | refine blk_drew ?_ | refine blk_alloc ?_ _ | refine far_ ?_ (by assumption))); refine Aside0.out ?_; assumption) : Aside0 (g' ≠ g) := ⟨by rw [hg]; exact Nat.ne_of_gt (blk_lt p)⟩
set_option maxHeartbeats 8000000 in
set_option maxRecDepth 100000 in
theorem dioramalaw04_RatioLaws.calls (k : Nat) (A0 : Option Addr) (c0 : Nat) (l0 : List Int) (r : Bool) (w : World) (hv : LaidAt w) (hr0 : Kd.C (Kd.int .i64) w A0 l0.length l0) (hc0 : l0.length ≤ c0) (h : dioramalaw04_RatioLaws.f k l0 = some r) (hr : r = true) :
  Calls Tryd.prog 3 #[.slice A0 l0.length c0] w fun e w' => e = .returned (.bool r) ∧ Below w.heap.size w w' := by
 have hu24 := Tryd.underlying24
 have HR0 := Aside0.mk hr0
 have HC0 := Aside0.mk hc0
 clear hr0 hc0
 have HB := Aside0.mk (Below.refl w.heap.size w)
 have H : ((dioramalaw04_three.f k l0).bind fun bt237 => ((ratio_Add.f k bt237.1 bt237.2.1 bt237.2.2.1 bt237.2.2.2.1).bind fun bt246 => ((ratio_Add.f k bt237.2.2.1 bt237.2.2.2.1 bt237.1 bt237.2.1).bind fun bt250 => ((ratio_Add.f k bt237.2.2.1 bt237.2.2.2.1 bt237.2.2.2.2.1 bt237.2.2.2.2.2).bind fun bt254 => ((ratio_Mul.f k bt237.1 bt237.2.1 bt237.2.2.1 bt237.2.2.2.1).bind fun bt258 => ((ratio_Mul.f k bt237.2.2.1 bt237.2.2.2.1 bt237.1 bt237.2.1).bind fun bt262 => ((ratio_Mul.f k bt237.2.2.1 bt237.2.2.2.1 bt237.2.2.2.2.1 bt237.2.2.2.2.2).bind fun bt266 => (if (!(bt246.1 == bt250.1) || (!(bt246.2.1 == bt250.2.1))) = true then (dioramalaw04_RatioLaws.j0 k bt246.2.2 bt254.2.2 bt258.2.2 bt266.2.2 true bt237.1 bt237.2.1 bt237.2.2.1 bt237.2.2.2.1 bt237.2.2.2.2.1 bt237.2.2.2.2.2 bt246.1 bt246.2.1 bt254.1 bt254.2.1 bt258.1 bt258.2.1 bt266.1 bt266.2.1) else (if bt246.2.2 = bt250.2.2 then (if (!(bt258.1 == bt262.1) || (!(bt258.2.1 == bt262.2.1))) = true then (dioramalaw04_RatioLaws.j0 k bt246.2.2 bt254.2.2 bt258.2.2 bt266.2.2 true bt237.1 bt237.2.1 bt237.2.2.1 bt237.2.2.2.1 bt237.2.2.2.2.1 bt237.2.2.2.2.2 bt246.1 bt246.2.1 bt254.1 bt254.2.1 bt258.1 bt258.2.1 bt266.1 bt266.2.1) else (dioramalaw04_RatioLaws.j0 k bt246.2.2 bt254.2.2 bt258.2.2 bt266.2.2 (bt258.2.2 != bt262.2.2) bt237.1 bt237.2.1 bt237.2.2.1 bt237.2.2.2.1 bt237.2.2.2.2.1 bt237.2.2.2.2.2 bt246.1 bt246.2.1 bt254.1 bt254.2.1 bt258.1 bt258.2.1 bt266.1 bt266.2.1)) else (dioramalaw04_RatioLaws.j0 k bt246.2.2 bt254.2.2 bt258.2.2 bt266.2.2 true bt237.1 bt237.2.1 bt237.2.2.1 bt237.2.2.2.1 bt237.2.2.2.2.1 bt237.2.2.2.2.2 bt246.1 bt246.2.1 bt254.1 bt254.2.1 bt258.1 bt258.2.1 bt266.1 bt266.2.1)))))))))) = some r := h
 clear h
 replace H := Option.bind_eq_some_iff.mp H
 obtain ⟨⟨t237, t238, t239, t240, t241, t242⟩, A20, H⟩ := H
 replace H : ((ratio_Add.f k t237 t238 t239 t240).bind fun bt246 => ((ratio_Add.f k t239 t240 t237 t238).bind fun bt250 => ((ratio_Add.f k t239 t240 t241 t242).bind fun bt254 => ((ratio_Mul.f k t237 t238 t239 t240).bind fun bt258 => ((ratio_Mul.f k t239 t240 t237 t238).bind fun bt262 => ((ratio_Mul.f k t239 t240 t241 t242).bind fun bt266 => (if (!(bt246.1 == bt250.1) || (!(bt246.2.1 == bt250.2.1))) = true then (dioramalaw04_RatioLaws.j0 k bt246.2.2 bt254.2.2 bt258.2.2 bt266.2.2 true t237 t238 t239 t240 t241 t242 bt246.1 bt246.2.1 bt254.1 bt254.2.1 bt258.1 bt258.2.1 bt266.1 bt266.2.1) else (if bt246.2.2 = bt250.2.2 then (if (!(bt258.1 == bt262.1) || (!(bt258.2.1 == bt262.2.1))) = true then (dioramalaw04_RatioLaws.j0 k bt246.2.2 bt254.2.2 bt258.2.2 bt266.2.2 true t237 t238 t239 t240 t241 t242 bt246.1 bt246.2.1 bt254.1 bt254.2.1 bt258.1 bt258.2.1 bt266.1 bt266.2.1) else (dioramalaw04_RatioLaws.j0 k bt246.2.2 bt254.2.2 bt258.2.2 bt266.2.2 (bt258.2.2 != bt262.2.2) t237 t238 t239 t240 t241 t242 bt246.1 bt246.2.1 bt254.1 bt254.2.1 bt258.1 bt258.2.1 bt266.1 bt266.2.1)) else (dioramalaw04_RatioLaws.j0 k bt246.2.2 bt254.2.2 bt258.2.2 bt266.2.2 true t237 t238 t239 t240 t241 t242 bt246.1 bt246.2.1 bt254.1 bt254.2.1 bt258.1 bt258.2.1 bt266.1 bt266.2.1))))))))) = some r := H
 have A2 := Aside0.mk A20
 clear A20
 replace H := Option.bind_eq_some_iff.mp H
 obtain ⟨⟨t246, t247, t248⟩, A30, H⟩ := H
 replace H : ((ratio_Add.f k t239 t240 t237 t238).bind fun bt250 => ((ratio_Add.f k t239 t240 t241 t242).bind fun bt254 => ((ratio_Mul.f k t237 t238 t239 t240).bind fun bt258 => ((ratio_Mul.f k t239 t240 t237 t238).bind fun bt262 => ((ratio_Mul.f k t239 t240 t241 t242).bind fun bt266 => (if (!(t246 == bt250.1) || (!(t247 == bt250.2.1))) = true then (dioramalaw04_RatioLaws.j0 k t248 bt254.2.2 bt258.2.2 bt266.2.2 true t237 t238 t239 t240 t241 t242 t246 t247 bt254.1 bt254.2.1 bt258.1 bt258.2.1 bt266.1 bt266.2.1) else (if t248 = bt250.2.2 then (if (!(bt258.1 == bt262.1) || (!(bt258.2.1 == bt262.2.1))) = true then (dioramalaw04_RatioLaws.j0 k t248 bt254.2.2 bt258.2.2 bt266.2.2 true t237 t238 t239 t240 t241 t242 t246 t247 bt254.1 bt254.2.1 bt258.1 bt258.2.1 bt266.1 bt266.2.1) else (dioramalaw04_RatioLaws.j0 k t248 bt254.2.2 bt258.2.2 bt266.2.2 (bt258.2.2 != bt262.2.2) t237 t238 t239 t240 t241 t242 t246 t247 bt254.1 bt254.2.1 bt258.1 bt258.2.1 bt266.1 bt266.2.1)) else (dioramalaw04_RatioLaws.j0 k t248 bt254.2.2 bt258.2.2 bt266.2.2 true t237 t238 t239 t240 t241 t242 t246 t247 bt254.1 bt254.2.1 bt258.1 bt258.2.1 bt266.1 bt266.2.1)))))))) = some r := H
 have A3 := Aside0.mk A30
 clear A30
 replace H := Option.bind_eq_some_iff.mp H
 obtain ⟨⟨t250, t251, t252⟩, A40, H⟩ := H
 replace H : ((ratio_Add.f k t239 t240 t241 t242).bind fun bt254 => ((ratio_Mul.f k t237 t238 t239 t240).bind fun bt258 => ((ratio_Mul.f k t239 t240 t237 t238).bind fun bt262 => ((ratio_Mul.f k t239 t240 t241 t242).bind fun bt266 => (if (!(t246 == t250) || (!(t247 == t251))) = true then (dioramalaw04_RatioLaws.j0 k t248 bt254.2.2 bt258.2.2 bt266.2.2 true t237 t238 t239 t240 t241 t242 t246 t247 bt254.1 bt254.2.1 bt258.1 bt258.2.1 bt266.1 bt266.2.1) else (if t248 = t252 then (if (!(bt258.1 == bt262.1) || (!(bt258.2.1 == bt262.2.1))) = true then (dioramalaw04_RatioLaws.j0 k t248 bt254.2.2 bt258.2.2 bt266.2.2 true t237 t238 t239 t240 t241 t242 t246 t247 bt254.1 bt254.2.1 bt258.1 bt258.2.1 bt266.1 bt266.2.1) else (dioramalaw04_RatioLaws.j0 k t248 bt254.2.2 bt258.2.2 bt266.2.2 (bt258.2.2 != bt262.2.2) t237 t238 t239 t240 t241 t242 t246 t247 bt254.1 bt254.2.1 bt258.1 bt258.2.1 bt266.1 bt266.2.1)) else (dioramalaw04_RatioLaws.j0 k t248 bt254.2.2 bt258.2.2 bt266.2.2 true t237 t238 t239 t240 t241 t242 t246 t247 bt254.1 bt254.2.1 bt258.1 bt258.2.1 bt266.1 bt266.2.1))))))) = some r := H
 have A4 := Aside0.mk A40
 clear A40
 replace H := Option.bind_eq_some_iff.mp H
 obtain ⟨⟨t254, t255, t256⟩, A50, H⟩ := H
 replace H : ((ratio_Mul.f k t237 t238 t239 t240).bind fun bt258 => ((ratio_Mul.f k t239 t240 t237 t238).bind fun bt262 => ((ratio_Mul.f k t239 t240 t241 t242).bind fun bt266 => (if (!(t246 == t250) || (!(t247 == t251))) = true then (dioramalaw04_RatioLaws.j0 k t248 t256 bt258.2.2 bt266.2.2 true t237 t238 t239 t240 t241 t242 t246 t247 t254 t255 bt258.1 bt258.2.1 bt266.1 bt266.2.1) else (if t248 = t252 then (if (!(bt258.1 == bt262.1) || (!(bt258.2.1 == bt262.2.1))) = true then (dioramalaw04_RatioLaws.j0 k t248 t256 bt258.2.2 bt266.2.2 true t237 t238 t239 t240 t241 t242 t246 t247 t254 t255 bt258.1 bt258.2.1 bt266.1 bt266.2.1) else (dioramalaw04_RatioLaws.j0 k t248 t256 bt258.2.2 bt266.2.2 (bt258.2.2 != bt262.2.2) t237 t238 t239 t240 t241 t242 t246 t247 t254 t255 bt258.1 bt258.2.1 bt266.1 bt266.2.1)) else (dioramalaw04_RatioLaws.j0 k t248 t256 bt258.2.2 bt266.2.2 true t237 t238 t239 t240 t241 t242 t246 t247 t254 t255 bt258.1 bt258.2.1 bt266.1 bt266.2.1)))))) = some r := H
 have A5 := Aside0.mk A50
 clear A50
 replace H := Option.bind_eq_some_iff.mp H
 obtain ⟨⟨t258, t259, t260⟩, A60, H⟩ := H
 replace H : ((ratio_Mul.f k t239 t240 t237 t238).bind fun bt262 => ((ratio_Mul.f k t239 t240 t241 t242).bind fun bt266 => (if (!(t246 == t250) || (!(t247 == t251))) = true then (dioramalaw04_RatioLaws.j0 k t248 t256 t260 bt266.2.2 true t237 t238 t239 t240 t241 t242 t246 t247 t254 t255 t258 t259 bt266.1 bt266.2.1) else (if t248 = t252 then (if (!(t258 == bt262.1) || (!(t259 == bt262.2.1))) = true then (dioramalaw04_RatioLaws.j0 k t248 t256 t260 bt266.2.2 true t237 t238 t239 t240 t241 t242 t246 t247 t254 t255 t258 t259 bt266.1 bt266.2.1) else (dioramalaw04_RatioLaws.j0 k t248 t256 t260 bt266.2.2 (t260 != bt262.2.2) t237 t238 t239 t240 t241 t242 t246 t247 t254 t255 t258 t259 bt266.1 bt266.2.1)) else (dioramalaw04_RatioLaws.j0 k t248 t256 t260 bt266.2.2 true t237 t238 t239 t240 t241 t242 t246 t247 t254 t255 t258 t259 bt266.1 bt266.2.1))))) = some r := H
 have A6 := Aside0.mk A60
 clear A60
 replace H := Option.bind_eq_some_iff.mp H
 obtain ⟨⟨t262, t263, t264⟩, A70, H⟩ := H
 replace H : ((ratio_Mul.f k t239 t240 t241 t242).bind fun bt266 => (if (!(t246 == t250) || (!(t247 == t251))) = true then (dioramalaw04_RatioLaws.j0 k t248 t256 t260 bt266.2.2 true t237 t238 t239 t240 t241 t242 t246 t247 t254 t255 t258 t259 bt266.1 bt266.2.1) else (if t248 = t252 then (if (!(t258 == t262) || (!(t259 == t263))) = true then (dioramalaw04_RatioLaws.j0 k t248 t256 t260 bt266.2.2 true t237 t238 t239 t240 t241 t242 t246 t247 t254 t255 t258 t259 bt266.1 bt266.2.1) else (dioramalaw04_RatioLaws.j0 k t248 t256 t260 bt266.2.2 (t260 != t264) t237 t238 t239 t240 t241 t242 t246 t247 t254 t255 t258 t259 bt266.1 bt266.2.1)) else (dioramalaw04_RatioLaws.j0 k t248 t256 t260 bt266.2.2 true t237 t238 t239 t240 t241 t242 t246 t247 t254 t255 t258 t259 bt266.1 bt266.2.1)))) = some r := H
 have A7 := Aside0.mk A70
 clear A70
 replace H := Option.bind_eq_some_iff.mp H
 obtain ⟨⟨t266, t267, t268⟩, A80, H⟩ := H
 replace H : (if (!(t246 == t250) || (!(t247 == t251))) = true then (dioramalaw04_RatioLaws.j0 k t248 t256 t260 t268 true t237 t238 t239 t240 t241 t242 t246 t247 t254 t255 t258 t259 t266 t267) else (if t248 = t252 then (if (!(t258 == t262) || (!(t259 == t263))) = true then (dioramalaw04_RatioLaws.j0 k t248 t256 t260 t268 true t237 t238 t239 t240 t241 t242 t246 t247 t254 t255 t258 t259 t266 t267) else (dioramalaw04_RatioLaws.j0 k t248 t256 t260 t268 (t260 != t264) t237 t238 t239 t240 t241 t242 t246 t247 t254 t255 t258 t259 t266 t267)) else (dioramalaw04_RatioLaws.j0 k t248 t256 t260 t268 true t237 t238 t239 t240 t241 t242 t246 t247 t254 t255 t258 t259 t266 t267))) = some r := H
 have A8 := Aside0.mk A80
 clear A80
 have HC9 := Aside0.mk H
 clear H
 go_enter Tryd.func3, Tryd.ntmps3
 go_upto_region 8 with (first | ((with_reducible refine gate_callee (f := 10) rfl ?_); refine goesL_ (some 36) rfl rfl Tryd.func10 (by kernel_rfl) rfl #[.slice A0 l0.length c0] rfl (by (try simp only [List.map_toArray, List.map_cons, List.map_nil]); first | done | rfl | (simp only [List.length_drop, List.length_take]; rfl)) ?_; (with_reducible refine (dioramalaw04_three.calls k _ _ l0 t237 t238 t239 t240 t241 t242 _ ?side1 ?side2 A2.out).mono ?_); (case side1 => repeat (first | exact HR0.out | (with_reducible refine Kd.C_alloc ?_ _) | (with_reducible refine Kd.C_drewN ?_ _) | (with_reducible refine Kd.C_drew ?_))); (case side2 => exact HC0.out); rintro e w10 ⟨rfl, hb⟩; refine ⟨_, rfl, ?_⟩; replace HB := Aside0.mk (below_step bl_ hb); (try clear hb); (try clear hb2); (try clear hk); (try clear hi)) | ((with_reducible refine gate_dst (N := 3) rfl ?_); refine box_event ?hg (N := 3) ?hd (cs := #[.int .i64 0, .int .i64 0]) (t := 24) ?hr ?_; (case hd => rfl); (case hg => rfl); (case hr => first | (go_simp; done) | (go_simp; rfl)); intro gb243 hg w11 hbox hb; have BK243 := Aside0.mk (hbox); have GW243 := gw_ (w := w) hg; have GE243 := gw_ (w := w) hg; replace HB := Aside0.mk (below_step bl_ hb); clear hb hbox hg) | ((with_reducible refine gate_dst (N := 4) rfl ?_); refine box_event ?hg (N := 4) ?hd (cs := #[.int .i64 0, .int .i64 0]) (t := 24) ?hr ?_; (case hd => rfl); (case hg => rfl); (case hr => first | (go_simp; done) | (go_simp; rfl)); intro gb244 hg w12 hbox hb; have BK244 := Aside0.mk (hbox); have GW244 := gw_ (w := w) hg; have GE244 := gw_ (w := w) hg; have NB243_244 := nl_ BK243 hg; have NB244_243 := ng_ BK243 hg; replace BK243 := up_ BK243 hb; replace HB := Aside0.mk (below_step bl_ hb); clear hb hbox hg) | ((with_reducible refine gate_dst (N := 5) rfl ?_); refine box_event ?hg (N := 5) ?hd (cs := #[.int .i64 0, .int .i64 0]) (t := 24) ?hr ?_; (case hd => rfl); (case hg => rfl); (case hr => first | (go_simp; done) | (go_simp; rfl)); intro gb245 hg w13 hbox hb; have BK245 := Aside0.mk (hbox); have GW245 := gw_ (w := w) hg; have GE245 := gw_ (w := w) hg; have NB243_245 := nl_ BK243 hg; have NB245_243 := ng_ BK243 hg; have NB244_245 := nl_ BK244 hg; have NB245_244 := ng_ BK244 hg; replace BK243 := up_ BK243 hb; replace BK244 := up_ BK244 hb; replace HB := Aside0.mk (below_step bl_ hb); clear hb hbox hg; have hnb14 := NB243_244.out; have hnc14 := NB244_243.out; have hnb15 := NB243_245.out; have hnc15 := NB245_243.out; have hcz16_0 : w13.cell? ⟨gb243, 0, none⟩ = some (.int .i64 0) := (blk_cell BK243.out 0).trans rfl; have hcz16_1 : w13.cell? ⟨gb243, 1, none⟩ = some (.int .i64 0) := (blk_cell BK243.out 1).trans rfl; have hfz16_0 := blk_frozen BK243.out 0; have hfz16_1 := blk_frozen BK243.out 1; have hnb17 := NB244_245.out; have hnc17 := NB245_244.out; have hcz18_0 : w13.cell? ⟨gb244, 0, none⟩ = some (.int .i64 0) := (blk_cell BK244.out 0).trans rfl; have hcz18_1 : w13.cell? ⟨gb244, 1, none⟩ = some (.int .i64 0) := (blk_cell BK244.out 1).trans rfl; have hfz18_0 := blk_frozen BK244.out 0; have hfz18_1 := blk_frozen BK244.out 1; have hcz19_0 : w13.cell? ⟨gb245, 0, none⟩ = some (.int .i64 0) := (blk_cell BK245.out 0).trans rfl; have hcz19_1 : w13.cell? ⟨gb245, 1, none⟩ = some (.int .i64 0) := (blk_cell BK245.out 1).trans rfl; have hfz19_0 := blk_frozen BK245.out 0; have hfz19_1 := blk_frozen BK245.out 1) | ((with_reducible refine gate_callee (f := 11) rfl ?_); refine goesL_ (some 43) rfl rfl Tryd.func11 (by kernel_rfl) rfl #[.agg #[.int .i64 t237, .int .i64 t238], .agg #[.int .i64 t239, .int .i64 t240]] rfl (by (try simp only [List.map_toArray, List.map_cons, List.map_nil]); first | done | rfl | (simp only [List.length_drop, List.length_take]; rfl)) ?_; (with_reducible refine (ratio_Add.calls k t237 t238 t239 t240 t246 t247 t248 _ A3.out).mono ?_); rintro e w20 ⟨rfl, hb⟩; refine ⟨_, rfl, ?_⟩; replace BK243 := up24_ gb243 t237 t238 hb; replace BK244 := up24_ gb244 t239 t240 hb; replace BK245 := up24_ gb245 t241 t242 hb; replace HB := Aside0.mk (below_step bl_ hb); (try clear hb); (try clear hb2); (try clear hk); (try clear hi)) | ((with_reducible refine gate_dst (N := 6) rfl ?_); refine box_event ?hg (N := 6) ?hd (cs := #[.int .i64 0, .int .i64 0]) (t := 24) ?hr ?_; (case hd => rfl); (case hg => rfl); (case hr => first | (go_simp; done) | (go_simp; rfl)); intro gb249 hg w21 hbox hb; have BK249 := Aside0.mk (hbox); have GW249 := gw_ (w := w) hg; have GE249 := gw_ (w := w) hg; have NB243_249 := nl_ BK243 hg; have NB249_243 := ng_ BK243 hg; have NB244_249 := nl_ BK244 hg; have NB249_244 := ng_ BK244 hg; have NB245_249 := nl_ BK245 hg; have NB249_245 := ng_ BK245 hg; replace BK243 := up_ BK243 hb; replace BK244 := up_ BK244 hb; replace BK245 := up_ BK245 hb; replace HB := Aside0.mk (below_step bl_ hb); clear hb hbox hg; clear hnb14 hnc14 hnb15 hnc15 hcz16_0 hcz16_1 hfz16_0 hfz16_1 hnb17 hnc17 hcz18_0 hcz18_1 hfz18_0 hfz18_1 hcz19_0 hcz19_1 hfz19_0 hfz19_1; have hnb22 := NB249_243.out; have hnc22 := NB243_249.out; have hnb23 := NB249_244.out; have hnc23 := NB244_249.out; have hnb24 := NB249_245.out; have hnc24 := NB245_249.out; have hcz25_0 : w21.cell? ⟨gb249, 0, none⟩ = some (.int .i64 0) := (blk_cell BK249.out 0).trans rfl; have hcz25_1 : w21.cell? ⟨gb249, 1, none⟩ = some (.int .i64 0) := (blk_cell BK249.out 1).trans rfl; have hfz25_0 := blk_frozen BK249.out 0; have hfz25_1 := blk_frozen BK249.out 1; have hcz26_0 : w21.cell? ⟨gb244, 0, none⟩ = some (.int .i64 t239) := (blk_cell BK244.out 0).trans rfl; have hcz26_1 : w21.cell? ⟨gb244, 1, none⟩ = some (.int .i64 t240) := (blk_cell BK244.out 1).trans rfl; have hfz26_0 := blk_frozen BK244.out 0; have hfz26_1 := blk_frozen BK244.out 1; have hcz27_0 : w21.cell? ⟨gb243, 0, none⟩ = some (.int .i64 t237) := (blk_cell BK243.out 0).trans rfl; have hcz27_1 : w21.cell? ⟨gb243, 1, none⟩ = some (.int .i64 t238) := (blk_cell BK243.out 1).trans rfl; have hfz27_0 := blk_frozen BK243.out 0; have hfz27_1 := blk_frozen BK243.out 1) | ((with_reducible refine gate_callee (f := 11) rfl ?_); refine goesL_ (some 49) rfl rfl Tryd.func11 (by kernel_rfl) rfl #[.agg #[.int .i64 t239, .int .i64 t240], .agg #[.int .i64 t237, .int .i64 t238]] rfl (by (try simp only [List.map_toArray, List.map_cons, List.map_nil]); first | done | rfl | (simp only [List.length_drop, List.length_take]; rfl)) ?_; (with_reducible refine (ratio_Add.calls k t239 t240 t237 t238 t250 t251 t252 _ A4.out).mono ?_); rintro e w28 ⟨rfl, hb⟩; refine ⟨_, rfl, ?_⟩; replace BK243 := up_ BK243 hb; replace BK244 := up_ BK244 hb; replace BK245 := up_ BK245 hb; replace BK249 := up24_ gb249 t246 t247 hb; replace HB := Aside0.mk (below_step bl_ hb); (try clear hb); (try clear hb2); (try clear hk); (try clear hi)) | ((with_reducible refine gate_dst (N := 8) rfl ?_); refine box_event ?hg (N := 8) ?hd (cs := #[.int .i64 0, .int .i64 0]) (t := 24) ?hr ?_; (case hd => rfl); (case hg => rfl); (case hr => first | (go_simp; done) | (go_simp; rfl)); intro gb253 hg w29 hbox hb; have BK253 := Aside0.mk (hbox); have GW253 := gw_ (w := w) hg; have GE253 := gw_ (w := w) hg; have NB243_253 := nl_ BK243 hg; have NB253_243 := ng_ BK243 hg; have NB244_253 := nl_ BK244 hg; have NB253_244 := ng_ BK244 hg; have NB245_253 := nl_ BK245 hg; have NB253_245 := ng_ BK245 hg; have NB249_253 := nl_ BK249 hg; have NB253_249 := ng_ BK249 hg; replace BK243 := up_ BK243 hb; replace BK244 := up_ BK244 hb; replace BK245 := up_ BK245 hb; replace BK249 := up_ BK249 hb; replace HB := Aside0.mk (below_step bl_ hb); clear hb hbox hg; clear hnb22 hnc22 hnb23 hnc23 hnb24 hnc24 hcz25_0 hcz25_1 hfz25_0 hfz25_1 hcz26_0 hcz26_1 hfz26_0 hfz26_1 hcz27_0 hcz27_1 hfz27_0 hfz27_1; have hnb30 := NB253_243.out; have hnc30 := NB243_253.out; have hnb31 := NB253_244.out; have hnc31 := NB244_253.out; have hnb32 := NB253_245.out; have hnc32 := NB245_253.out; have hnb33 := NB253_249.out; have hnc33 := NB249_253.out; have hcz34_0 : w29.cell? ⟨gb253, 0, none⟩ = some (.int .i64 0) := (blk_cell BK253.out 0).trans rfl; have hcz34_1 : w29.cell? ⟨gb253, 1, none⟩ = some (.int .i64 0) := (blk_cell BK253.out 1).trans rfl; have hfz34_0 := blk_frozen BK253.out 0; have hfz34_1 := blk_frozen BK253.out 1; have hcz35_0 : w29.cell? ⟨gb244, 0, none⟩ = some (.int .i64 t239) := (blk_cell BK244.out 0).trans rfl; have hcz35_1 : w29.cell? ⟨gb244, 1, none⟩ = some (.int .i64 t240) := (blk_cell BK244.out 1).trans rfl; have hfz35_0 := blk_frozen BK244.out 0; have hfz35_1 := blk_frozen BK244.out 1; have hcz36_0 : w29.cell? ⟨gb245, 0, none⟩ = some (.int .i64 t241) := (blk_cell BK245.out 0).trans rfl; have hcz36_1 : w29.cell? ⟨gb245, 1, none⟩ = some (.int .i64 t242) := (blk_cell BK245.out 1).trans rfl; have hfz36_0 := blk_frozen BK245.out 0; have hfz36_1 := blk_frozen BK245.out 1) | ((with_reducible refine gate_callee (f := 11) rfl ?_); refine goesL_ (some 55) rfl rfl Tryd.func11 (by kernel_rfl) rfl #[.agg #[.int .i64 t239, .int .i64 t240], .agg #[.int .i64 t241, .int .i64 t242]] rfl (by (try simp only [List.map_toArray, List.map_cons, List.map_nil]); first | done | rfl | (simp only [List.length_drop, List.length_take]; rfl)) ?_; (with_reducible refine (ratio_Add.calls k t239 t240 t241 t242 t254 t255 t256 _ A5.out).mono ?_); rintro e w37 ⟨rfl, hb⟩; refine ⟨_, rfl, ?_⟩; replace BK243 := up_ BK243 hb; replace BK244 := up_ BK244 hb; replace BK245 := up_ BK245 hb; replace BK249 := up_ BK249 hb; replace BK253 := up24_ gb253 t250 t251 hb; replace HB := Aside0.mk (below_step bl_ hb); (try clear hb); (try clear hb2); (try clear hk); (try clear hi)) | ((with_reducible refine gate_dst (N := 10) rfl ?_); refine box_event ?hg (N := 10) ?hd (cs := #[.int .i64 0, .int .i64 0]) (t := 24) ?hr ?_; (case hd => rfl); (case hg => rfl); (case hr => first | (go_simp; done) | (go_simp; rfl)); intro gb257 hg w38 hbox hb; have BK257 := Aside0.mk (hbox); have GW257 := gw_ (w := w) hg; have GE257 := gw_ (w := w) hg; have NB243_257 := nl_ BK243 hg; have NB257_243 := ng_ BK243 hg; have NB244_257 := nl_ BK244 hg; have NB257_244 := ng_ BK244 hg; have NB245_257 := nl_ BK245 hg; have NB257_245 := ng_ BK245 hg; have NB249_257 := nl_ BK249 hg; have NB257_249 := ng_ BK249 hg; have NB253_257 := nl_ BK253 hg; have NB257_253 := ng_ BK253 hg; replace BK243 := up_ BK243 hb; replace BK244 := up_ BK244 hb; replace BK245 := up_ BK245 hb; replace BK249 := up_ BK249 hb; replace BK253 := up_ BK253 hb; replace HB := Aside0.mk (below_step bl_ hb); clear hb hbox hg; clear hnb30 hnc30 hnb31 hnc31 hnb32 hnc32 hnb33 hnc33 hcz34_0 hcz34_1 hfz34_0 hfz34_1 hcz35_0 hcz35_1 hfz35_0 hfz35_1 hcz36_0 hcz36_1 hfz36_0 hfz36_1; have hnb39 := NB257_243.out; have hnc39 := NB243_257.out; have hnb40 := NB257_244.out; have hnc40 := NB244_257.out; have hnb41 := NB257_245.out; have hnc41 := NB245_257.out; have hnb42 := NB257_249.out; have hnc42 := NB249_257.out; have hnb43 := NB257_253.out; have hnc43 := NB253_257.out; have hcz44_0 : w38.cell? ⟨gb257, 0, none⟩ = some (.int .i64 0) := (blk_cell BK257.out 0).trans rfl; have hcz44_1 : w38.cell? ⟨gb257, 1, none⟩ = some (.int .i64 0) := (blk_cell BK257.out 1).trans rfl; have hfz44_0 := blk_frozen BK257.out 0; have hfz44_1 := blk_frozen BK257.out 1; have hcz45_0 : w38.cell? ⟨gb243, 0, none⟩ = some (.int .i64 t237) := (blk_cell BK243.out 0).trans rfl; have hcz45_1 : w38.cell? ⟨gb243, 1, none⟩ = some (.int .i64 t238) := (blk_cell BK243.out 1).trans rfl; have hfz45_0 := blk_frozen BK243.out 0; have hfz45_1 := blk_frozen BK243.out 1; have hcz46_0 : w38.cell? ⟨gb244, 0, none⟩ = some (.int .i64 t239) := (blk_cell BK244.out 0).trans rfl; have hcz46_1 : w38.cell? ⟨gb244, 1, none⟩ = some (.int .i64 t240) := (blk_cell BK244.out 1).trans rfl; have hfz46_0 := blk_frozen BK244.out 0; have hfz46_1 := blk_frozen BK244.out 1) | ((with_reducible refine gate_callee (f := 12) rfl ?_); refine goesL_ (some 61) rfl rfl Tryd.func12 (by kernel_rfl) rfl #[.agg #[.int .i64 t237, .int .i64 t238], .agg #[.int .i64 t239, .int .i64 t240]] rfl (by (try simp only [List.map_toArray, List.map_cons, List.map_nil]); first | done | rfl | (simp only [List.length_drop, List.length_take]; rfl)) ?_; (with_reducible refine (ratio_Mul.calls k t237 t238 t239 t240 t258 t259 t260 _ A6.out).mono ?_); rintro e w47 ⟨rfl, hb⟩; refine ⟨_, rfl, ?_⟩; replace BK243 := up_ BK243 hb; replace BK244 := up_ BK244 hb; replace BK245 := up_ BK245 hb; replace BK249 := up_ BK249 hb; replace BK253 := up_ BK253 hb; replace BK257 := up24_ gb257 t254 t255 hb; replace HB := Aside0.mk (below_step bl_ hb); (try clear hb); (try clear hb2); (try clear hk); (try clear hi)) | ((with_reducible refine gate_dst (N := 12) rfl ?_); refine box_event ?hg (N := 12) ?hd (cs := #[.int .i64 0, .int .i64 0]) (t := 24) ?hr ?_; (case hd => rfl); (case hg => rfl); (case hr => first | (go_simp; done) | (go_simp; rfl)); intro gb261 hg w48 hbox hb; have BK261 := Aside0.mk (hbox); have GW261 := gw_ (w := w) hg; have GE261 := gw_ (w := w) hg; have NB243_261 := nl_ BK243 hg; have NB261_243 := ng_ BK243 hg; have NB244_261 := nl_ BK244 hg; have NB261_244 := ng_ BK244 hg; have NB245_261 := nl_ BK245 hg; have NB261_245 := ng_ BK245 hg; have NB249_261 := nl_ BK249 hg; have NB261_249 := ng_ BK249 hg; have NB253_261 := nl_ BK253 hg; have NB261_253 := ng_ BK253 hg; have NB257_261 := nl_ BK257 hg; have NB261_257 := ng_ BK257 hg; replace BK243 := up_ BK243 hb; replace BK244 := up_ BK244 hb; replace BK245 := up_ BK245 hb; replace BK249 := up_ BK249 hb; replace BK253 := up_ BK253 hb; replace BK257 := up_ BK257 hb; replace HB := Aside0.mk (below_step bl_ hb); clear hb hbox hg; clear hnb39 hnc39 hnb40 hnc40 hnb41 hnc41 hnb42 hnc42 hnb43 hnc43 hcz44_0 hcz44_1 hfz44_0 hfz44_1 hcz45_0 hcz45_1 hfz45_0 hfz45_1 hcz46_0 hcz46_1 hfz46_0 hfz46_1; have hnb49 := NB261_243.out; have hnc49 := NB243_261.out; have hnb50 := NB261_244.out; have hnc50 := NB244_261.out; have hnb51 := NB261_245.out; have hnc51 := NB245_261.out; have hnb52 := NB261_249.out; have hnc52 := NB249_261.out; have hnb53 := NB261_253.out; have hnc53 := NB253_261.out; have hnb54 := NB261_257.out; have hnc54 := NB257_261.out; have hcz55_0 : w48.cell? ⟨gb261, 0, none⟩ = some (.int .i64 0) := (blk_cell BK261.out 0).trans rfl; have hcz55_1 : w48.cell? ⟨gb261, 1, none⟩ = some (.int .i64 0) := (blk_cell BK261.out 1).trans rfl; have hfz55_0 := blk_frozen BK261.out 0; have hfz55_1 := blk_frozen BK261.out 1; have hcz56_0 : w48.cell? ⟨gb244, 0, none⟩ = some (.int .i64 t239) := (blk_cell BK244.out 0).trans rfl; have hcz56_1 : w48.cell? ⟨gb244, 1, none⟩ = some (.int .i64 t240) := (blk_cell BK244.out 1).trans rfl; have hfz56_0 := blk_frozen BK244.out 0; have hfz56_1 := blk_frozen BK244.out 1; have hcz57_0 : w48.cell? ⟨gb243, 0, none⟩ = some (.int .i64 t237) := (blk_cell BK243.out 0).trans rfl; have hcz57_1 : w48.cell? ⟨gb243, 1, none⟩ = some (.int .i64 t238) := (blk_cell BK243.out 1).trans rfl; have hfz57_0 := blk_frozen BK243.out 0; have hfz57_1 := blk_frozen BK243.out 1) | ((with_reducible refine gate_callee (f := 12) rfl ?_); refine goesL_ (some 67) rfl rfl Tryd.func12 (by kernel_rfl) rfl #[.agg #[.int .i64 t239, .int .i64 t240], .agg #[.int .i64 t237, .int .i64 t238]] rfl (by (try simp only [List.map_toArray, List.map_cons, List.map_nil]); first | done | rfl | (simp only [List.length_drop, List.length_take]; rfl)) ?_; (with_reducible refine (ratio_Mul.calls k t239 t240 t237 t238 t262 t263 t264 _ A7.out).mono ?_); rintro e w58 ⟨rfl, hb⟩; refine ⟨_, rfl, ?_⟩; replace BK243 := up_ BK243 hb; replace BK244 := up_ BK244 hb; replace BK245 := up_ BK245 hb; replace BK249 := up_ BK249 hb; replace BK253 := up_ BK253 hb; replace BK257 := up_ BK257 hb; replace BK261 := up24_ gb261 t258 t259 hb; replace HB := Aside0.mk (below_step bl_ hb); (try clear hb); (try clear hb2); (try clear hk); (try clear hi)) | ((with_reducible refine gate_dst (N := 14) rfl ?_); refine box_event ?hg (N := 14) ?hd (cs := #[.int .i64 0, .int .i64 0]) (t := 24) ?hr ?_; (case hd => rfl); (case hg => rfl); (case hr => first | (go_simp; done) | (go_simp; rfl)); intro gb265 hg w59 hbox hb; have BK265 := Aside0.mk (hbox); have GW265 := gw_ (w := w) hg; have GE265 := gw_ (w := w) hg; have NB243_265 := nl_ BK243 hg; have NB265_243 := ng_ BK243 hg; have NB244_265 := nl_ BK244 hg; have NB265_244 := ng_ BK244 hg; have NB245_265 := nl_ BK245 hg; have NB265_245 := ng_ BK245 hg; have NB249_265 := nl_ BK249 hg; have NB265_249 := ng_ BK249 hg; have NB253_265 := nl_ BK253 hg; have NB265_253 := ng_ BK253 hg; have NB257_265 := nl_ BK257 hg; have NB265_257 := ng_ BK257 hg; have NB261_265 := nl_ BK261 hg; have NB265_261 := ng_ BK261 hg; replace BK243 := up_ BK243 hb; replace BK244 := up_ BK244 hb; replace BK245 := up_ BK245 hb; replace BK249 := up_ BK249 hb; replace BK253 := up_ BK253 hb; replace BK257 := up_ BK257 hb; replace BK261 := up_ BK261 hb; replace HB := Aside0.mk (below_step bl_ hb); clear hb hbox hg; clear hnb49 hnc49 hnb50 hnc50 hnb51 hnc51 hnb52 hnc52 hnb53 hnc53 hnb54 hnc54 hcz55_0 hcz55_1 hfz55_0 hfz55_1 hcz56_0 hcz56_1 hfz56_0 hfz56_1 hcz57_0 hcz57_1 hfz57_0 hfz57_1; have hnb60 := NB265_243.out; have hnc60 := NB243_265.out; have hnb61 := NB265_244.out; have hnc61 := NB244_265.out; have hnb62 := NB265_245.out; have hnc62 := NB245_265.out; have hnb63 := NB265_249.out; have hnc63 := NB249_265.out; have hnb64 := NB265_253.out; have hnc64 := NB253_265.out; have hnb65 := NB265_257.out; have hnc65 := NB257_265.out; have hnb66 := NB265_261.out; have hnc66 := NB261_265.out; have hcz67_0 : w59.cell? ⟨gb265, 0, none⟩ = some (.int .i64 0) := (blk_cell BK265.out 0).trans rfl; have hcz67_1 : w59.cell? ⟨gb265, 1, none⟩ = some (.int .i64 0) := (blk_cell BK265.out 1).trans rfl; have hfz67_0 := blk_frozen BK265.out 0; have hfz67_1 := blk_frozen BK265.out 1; have hcz68_0 : w59.cell? ⟨gb244, 0, none⟩ = some (.int .i64 t239) := (blk_cell BK244.out 0).trans rfl; have hcz68_1 : w59.cell? ⟨gb244, 1, none⟩ = some (.int .i64 t240) := (blk_cell BK244.out 1).trans rfl; have hfz68_0 := blk_frozen BK244.out 0; have hfz68_1 := blk_frozen BK244.out 1; have hcz69_0 : w59.cell? ⟨gb245, 0, none⟩ = some (.int .i64 t241) := (blk_cell BK245.out 0).trans rfl; have hcz69_1 : w59.cell? ⟨gb245, 1, none⟩ = some (.int .i64 t242) := (blk_cell BK245.out 1).trans rfl; have hfz69_0 := blk_frozen BK245.out 0; have hfz69_1 := blk_frozen BK245.out 1) | ((with_reducible refine gate_callee (f := 12) rfl ?_); refine goesL_ (some 73) rfl rfl Tryd.func12 (by kernel_rfl) rfl #[.agg #[.int .i64 t239, .int .i64 t240], .agg #[.int .i64 t241, .int .i64 t242]] rfl (by (try simp only [List.map_toArray, List.map_cons, List.map_nil]); first | done | rfl | (simp only [List.length_drop, List.length_take]; rfl)) ?_; (with_reducible refine (ratio_Mul.calls k t239 t240 t241 t242 t266 t267 t268 _ A8.out).mono ?_); rintro e w70 ⟨rfl, hb⟩; refine ⟨_, rfl, ?_⟩; replace BK243 := up_ BK243 hb; replace BK244 := up_ BK244 hb; replace BK245 := up_ BK245 hb; replace BK249 := up_ BK249 hb; replace BK253 := up_ BK253 hb; replace BK257 := up_ BK257 hb; replace BK261 := up_ BK261 hb; replace BK265 := up24_ gb265 t262 t263 hb; replace HB := Aside0.mk (below_step bl_ hb); (try clear hb); (try clear hb2); (try clear hk); (try clear hi)) | ((with_reducible refine gate_dst (N := 16) rfl ?_); refine box_event ?hg (N := 16) ?hd (cs := #[.int .i64 0, .int .i64 0]) (t := 24) ?hr ?_; (case hd => rfl); (case hg => rfl); (case hr => first | (go_simp; done) | (go_simp; rfl)); intro gb269 hg w71 hbox hb; have BK269 := Aside0.mk (hbox); have GW269 := gw_ (w := w) hg; have GE269 := gw_ (w := w) hg; have NB243_269 := nl_ BK243 hg; have NB269_243 := ng_ BK243 hg; have NB244_269 := nl_ BK244 hg; have NB269_244 := ng_ BK244 hg; have NB245_269 := nl_ BK245 hg; have NB269_245 := ng_ BK245 hg; have NB249_269 := nl_ BK249 hg; have NB269_249 := ng_ BK249 hg; have NB253_269 := nl_ BK253 hg; have NB269_253 := ng_ BK253 hg; have NB257_269 := nl_ BK257 hg; have NB269_257 := ng_ BK257 hg; have NB261_269 := nl_ BK261 hg; have NB269_261 := ng_ BK261 hg; have NB265_269 := nl_ BK265 hg; have NB269_265 := ng_ BK265 hg; replace BK243 := up_ BK243 hb; replace BK244 := up_ BK244 hb; replace BK245 := up_ BK245 hb; replace BK249 := up_ BK249 hb; replace BK253 := up_ BK253 hb; replace BK257 := up_ BK257 hb; replace BK261 := up_ BK261 hb; replace BK265 := up_ BK265 hb; replace HB := Aside0.mk (below_step bl_ hb); clear hb hbox hg; clear hnb60 hnc60 hnb61 hnc61 hnb62 hnc62 hnb63 hnc63 hnb64 hnc64 hnb65 hnc65 hnb66 hnc66 hcz67_0 hcz67_1 hfz67_0 hfz67_1 hcz68_0 hcz68_1 hfz68_0 hfz68_1 hcz69_0 hcz69_1 hfz69_0 hfz69_1; have hnb72 := NB269_243.out; have hnc72 := NB243_269.out; have hnb73 := NB269_244.out; have hnc73 := NB244_269.out; have hnb74 := NB269_245.out; have hnc74 := NB245_269.out; have hnb75 := NB269_249.out; have hnc75 := NB249_269.out; have hnb76 := NB269_253.out; have hnc76 := NB253_269.out; have hnb77 := NB269_257.out; have hnc77 := NB257_269.out; have hnb78 := NB269_261.out; have hnc78 := NB261_269.out; have hnb79 := NB269_265.out; have hnc79 := NB265_269.out; have hcz80_0 : w71.cell? ⟨gb269, 0, none⟩ = some (.int .i64 0) := (blk_cell BK269.out 0).trans rfl; have hcz80_1 : w71.cell? ⟨gb269, 1, none⟩ = some (.int .i64 0) := (blk_cell BK269.out 1).trans rfl; have hfz80_0 := blk_frozen BK269.out 0; have hfz80_1 := blk_frozen BK269.out 1))
 (try simp only [Act.put, List.setIfInBounds_toArray, List.set_cons_zero, List.set_cons_succ])
 go_cut [93] (fun v93 wc => ∃ (kq : Nat) (x93_8 : Bool), v93 = .bool x93_8 ∧ Aside0 (dioramalaw04_RatioLaws.j0 kq t248 t256 t260 t268 x93_8 t237 t238 t239 t240 t241 t242 t246 t247 t254 t255 t258 t259 t266 t267 = some r) ∧ Aside0 (kq ≤ k) ∧ Aside0 (wc.heap[gb243]? = some (.cells #[.int .i64 t237, .int .i64 t238] 24 (0, 0))) ∧ Aside0 (wc.heap[gb244]? = some (.cells #[.int .i64 t239, .int .i64 t240] 24 (0, 0))) ∧ Aside0 (wc.heap[gb245]? = some (.cells #[.int .i64 t241, .int .i64 t242] 24 (0, 0))) ∧ Aside0 (wc.heap[gb249]? = some (.cells #[.int .i64 t246, .int .i64 t247] 24 (0, 0))) ∧ Aside0 (wc.heap[gb253]? = some (.cells #[.int .i64 t250, .int .i64 t251] 24 (0, 0))) ∧ Aside0 (wc.heap[gb257]? = some (.cells #[.int .i64 t254, .int .i64 t255] 24 (0, 0))) ∧ Aside0 (wc.heap[gb261]? = some (.cells #[.int .i64 t258, .int .i64 t259] 24 (0, 0))) ∧ Aside0 (wc.heap[gb265]? = some (.cells #[.int .i64 t262, .int .i64 t263] 24 (0, 0))) ∧ Aside0 (wc.heap[gb269]? = some (.cells #[.int .i64 t266, .int .i64 t267] 24 (0, 0))) ∧ Aside0 (Below w.heap.size w wc))
 case first => as_aux_lemma =>
  have H := HC9.out
  clear HC9
  by_cases c81 : (!(t246 == t250) || (!(t247 == t251))) = true
  ·rw [if_pos c81] at H
   have c81b0 : (!(t246 == t250) || (!(t247 == t251))) = true := c81
   clear c81
   (first | rw [c81b0] | (simp only [i64_w, i32_w]; rw [c81b0]) | skip)
   have H' := Aside0.mk H
   clear H; have hnb89 := NB249_269.out; have hnc89 := NB269_249.out
   have hcz90_0 : w71.cell? ⟨gb249, 0, none⟩ = some (.int .i64 t246) := (blk_cell BK249.out 0).trans rfl
   have hcz90_1 : w71.cell? ⟨gb249, 1, none⟩ = some (.int .i64 t247) := (blk_cell BK249.out 1).trans rfl
   have hfz90_0 := blk_frozen BK249.out 0; have hfz90_1 := blk_frozen BK249.out 1; have hnb97 := NB253_269.out; have hnc97 := NB269_253.out
   have hcz98_0 : w71.cell? ⟨gb253, 0, none⟩ = some (.int .i64 t250) := (blk_cell BK253.out 0).trans rfl
   have hcz98_1 : w71.cell? ⟨gb253, 1, none⟩ = some (.int .i64 t251) := (blk_cell BK253.out 1).trans rfl
   have hfz98_0 := blk_frozen BK253.out 0; have hfz98_1 := blk_frozen BK253.out 1
   go_wp2
   go_meet
   case rel => exact ⟨_, (true), (by first | rfl | (simp; done) | (simp [*]; done)), H', ⟨by first | omega | exact Nat.le_refl _⟩, ⟨pk_⟩, ⟨pk_⟩, ⟨pk_⟩, ⟨pk_⟩, ⟨pk_⟩, ⟨pk_⟩, ⟨pk_⟩, ⟨pk_⟩, ⟨pk_⟩, ⟨bl_⟩⟩
  ·rw [if_neg c81] at H
   have c81b0 : (!(t246 == t250) || (!(t247 == t251))) = false := by simpa using c81
   clear c81
   (first | rw [c81b0] | (simp only [i64_w, i32_w]; rw [c81b0]) | skip)
   by_cases c99 : t248 = t252
   ·rw [if_pos c99] at H
    have c99b0 : (t248 == t252) = true := beq_iff_eq.mpr c99
    have c99b1 : (t248 != t252) = false := bne_eq_false_iff_eq.mpr c99
    clear c99
    by_cases c100 : (!(t258 == t262) || (!(t259 == t263))) = true
    ·rw [if_pos c100] at H
     have c100b0 : (!(t258 == t262) || (!(t259 == t263))) = true := c100
     clear c100
     have H' := Aside0.mk H
     clear H; have hnb108 := NB249_269.out; have hnc108 := NB269_249.out
     have hcz109_0 : w71.cell? ⟨gb249, 0, none⟩ = some (.int .i64 t246) := (blk_cell BK249.out 0).trans rfl
     have hcz109_1 : w71.cell? ⟨gb249, 1, none⟩ = some (.int .i64 t247) := (blk_cell BK249.out 1).trans rfl
     have hfz109_0 := blk_frozen BK249.out 0; have hfz109_1 := blk_frozen BK249.out 1; have hnb116 := NB253_269.out; have hnc116 := NB269_253.out
     have hcz117_0 : w71.cell? ⟨gb253, 0, none⟩ = some (.int .i64 t250) := (blk_cell BK253.out 0).trans rfl
     have hcz117_1 : w71.cell? ⟨gb253, 1, none⟩ = some (.int .i64 t251) := (blk_cell BK253.out 1).trans rfl
     have hfz117_0 := blk_frozen BK253.out 0; have hfz117_1 := blk_frozen BK253.out 1; have hnb123 := NB261_269.out; have hnc123 := NB269_261.out
     have hcz124_0 : w71.cell? ⟨gb261, 0, none⟩ = some (.int .i64 t258) := (blk_cell BK261.out 0).trans rfl
     have hcz124_1 : w71.cell? ⟨gb261, 1, none⟩ = some (.int .i64 t259) := (blk_cell BK261.out 1).trans rfl
     have hfz124_0 := blk_frozen BK261.out 0; have hfz124_1 := blk_frozen BK261.out 1; have hnb129 := NB265_269.out; have hnc129 := NB269_265.out
     have hcz130_0 : w71.cell? ⟨gb265, 0, none⟩ = some (.int .i64 t262) := (blk_cell BK265.out 0).trans rfl
     have hcz130_1 : w71.cell? ⟨gb265, 1, none⟩ = some (.int .i64 t263) := (blk_cell BK265.out 1).trans rfl
     have hfz130_0 := blk_frozen BK265.out 0; have hfz130_1 := blk_frozen BK265.out 1
     go_wp2
     go_meet
     case rel => exact ⟨_, (true), (by first | rfl | (simp; done) | (simp [*]; done)), H', ⟨by first | omega | exact Nat.le_refl _⟩, ⟨pk_⟩, ⟨pk_⟩, ⟨pk_⟩, ⟨pk_⟩, ⟨pk_⟩, ⟨pk_⟩, ⟨pk_⟩, ⟨pk_⟩, ⟨pk_⟩, ⟨bl_⟩⟩
    ·rw [if_neg c100] at H
     have c100b0 : (!(t258 == t262) || (!(t259 == t263))) = false := by simpa using c100
     clear c100
     have H' := Aside0.mk H
     clear H; have hnb138 := NB249_269.out; have hnc138 := NB269_249.out
     have hcz139_0 : w71.cell? ⟨gb249, 0, none⟩ = some (.int .i64 t246) := (blk_cell BK249.out 0).trans rfl
     have hcz139_1 : w71.cell? ⟨gb249, 1, none⟩ = some (.int .i64 t247) := (blk_cell BK249.out 1).trans rfl
     have hfz139_0 := blk_frozen BK249.out 0; have hfz139_1 := blk_frozen BK249.out 1; have hnb146 := NB253_269.out; have hnc146 := NB269_253.out
     have hcz147_0 : w71.cell? ⟨gb253, 0, none⟩ = some (.int .i64 t250) := (blk_cell BK253.out 0).trans rfl
     have hcz147_1 : w71.cell? ⟨gb253, 1, none⟩ = some (.int .i64 t251) := (blk_cell BK253.out 1).trans rfl
     have hfz147_0 := blk_frozen BK253.out 0; have hfz147_1 := blk_frozen BK253.out 1; have hnb153 := NB261_269.out; have hnc153 := NB269_261.out
     have hcz154_0 : w71.cell? ⟨gb261, 0, none⟩ = some (.int .i64 t258) := (blk_cell BK261.out 0).trans rfl
     have hcz154_1 : w71.cell? ⟨gb261, 1, none⟩ = some (.int .i64 t259) := (blk_cell BK261.out 1).trans rfl
     have hfz154_0 := blk_frozen BK261.out 0; have hfz154_1 := blk_frozen BK261.out 1; have hnb159 := NB265_269.out; have hnc159 := NB269_265.out
     have hcz160_0 : w71.cell? ⟨gb265, 0, none⟩ = some (.int .i64 t262) := (blk_cell BK265.out 0).trans rfl
     have hcz160_1 : w71.cell? ⟨gb265, 1, none⟩ = some (.int .i64 t263) := (blk_cell BK265.out 1).trans rfl
     have hfz160_0 := blk_frozen BK265.out 0; have hfz160_1 := blk_frozen BK265.out 1
     go_wp2
     go_meet
     case rel => exact ⟨_, ((t260 != t264)), (by first | rfl | (simp; done) | (simp [*]; done)), H', ⟨by first | omega | exact Nat.le_refl _⟩, ⟨pk_⟩, ⟨pk_⟩, ⟨pk_⟩, ⟨pk_⟩, ⟨pk_⟩, ⟨pk_⟩, ⟨pk_⟩, ⟨pk_⟩, ⟨pk_⟩, ⟨bl_⟩⟩
   ·rw [if_neg c99] at H
    have c99b0 : (t248 == t252) = false := beq_eq_false_iff_ne.mpr c99
    have c99b1 : (t248 != t252) = true := bne_iff_ne.mpr c99
    have H' := Aside0.mk H
    clear H; have hnb168 := NB249_269.out; have hnc168 := NB269_249.out
    have hcz169_0 : w71.cell? ⟨gb249, 0, none⟩ = some (.int .i64 t246) := (blk_cell BK249.out 0).trans rfl
    have hcz169_1 : w71.cell? ⟨gb249, 1, none⟩ = some (.int .i64 t247) := (blk_cell BK249.out 1).trans rfl
    have hfz169_0 := blk_frozen BK249.out 0; have hfz169_1 := blk_frozen BK249.out 1; have hnb176 := NB253_269.out; have hnc176 := NB269_253.out
    have hcz177_0 : w71.cell? ⟨gb253, 0, none⟩ = some (.int .i64 t250) := (blk_cell BK253.out 0).trans rfl
    have hcz177_1 : w71.cell? ⟨gb253, 1, none⟩ = some (.int .i64 t251) := (blk_cell BK253.out 1).trans rfl
    have hfz177_0 := blk_frozen BK253.out 0; have hfz177_1 := blk_frozen BK253.out 1
    go_wp2
    go_meet
    case rel => exact ⟨_, (true), (by first | rfl | (simp; done) | (simp [*]; done)), H', ⟨by first | omega | exact Nat.le_refl _⟩, ⟨pk_⟩, ⟨pk_⟩, ⟨pk_⟩, ⟨pk_⟩, ⟨pk_⟩, ⟨pk_⟩, ⟨pk_⟩, ⟨pk_⟩, ⟨pk_⟩, ⟨bl_⟩⟩
 case rest => as_aux_lemma =>
  clear hnb72 hnc72 hnb73 hnc73 hnb74 hnc74 hnb75 hnc75 hnb76 hnc76 hnb77 hnc77 hnb78 hnc78 hnb79 hnc79 hcz80_0 hcz80_1 hfz80_0 hfz80_1
  clear HC9; (try clear hcz16_0); (try clear hcz16_1); (try clear hcz18_0); (try clear hcz18_1); (try clear hcz19_0); (try clear hcz19_1); (try clear hcz25_0); (try clear hcz25_1); (try clear hcz26_0); (try clear hcz26_1); (try clear hcz27_0); (try clear hcz27_1); (try clear hcz34_0); (try clear hcz34_1); (try clear hcz35_0); (try clear hcz35_1); (try clear hcz36_0); (try clear hcz36_1); (try clear hcz44_0); (try clear hcz44_1); (try clear hcz45_0); (try clear hcz45_1); (try clear hcz46_0); (try clear hcz46_1); (try clear hcz55_0); (try clear hcz55_1); (try clear hcz56_0); (try clear hcz56_1); (try clear hcz57_0); (try clear hcz57_1); (try clear hcz67_0); (try clear hcz67_1); (try clear hcz68_0); (try clear hcz68_1); (try clear hcz69_0); (try clear hcz69_1); (try clear hcz80_0); (try clear hcz80_1); (try clear hfz16_0); (try clear hfz16_1); (try clear hfz18_0); (try clear hfz18_1); (try clear hfz19_0); (try clear hfz19_1); (try clear hfz25_0); (try clear hfz25_1); (try clear hfz26_0); (try clear hfz26_1); (try clear hfz27_0); (try clear hfz27_1); (try clear hfz34_0); (try clear hfz34_1); (try clear hfz35_0); (try clear hfz35_1); (try clear hfz36_0); (try clear hfz36_1); (try clear hfz44_0); (try clear hfz44_1); (try clear hfz45_0); (try clear hfz45_1); (try clear hfz46_0); (try clear hfz46_1); (try clear hfz55_0); (try clear hfz55_1); (try clear hfz56_0); (try clear hfz56_1); (try clear hfz57_0); (try clear hfz57_1); (try clear hfz67_0); (try clear hfz67_1); (try clear hfz68_0); (try clear hfz68_1); (try clear hfz69_0); (try clear hfz69_1); (try clear hfz80_0); (try clear hfz80_1)
  obtain ⟨kq, x93_8, rfl, HA, HJ8, BK243, BK244, BK245, BK249, BK253, BK257, BK261, BK265, BK269, HB⟩ := hcut
  cases kq with
  | zero => exact absurd HA.out (by simp [dioramalaw04_RatioLaws.j0])
  | succ kj8 =>
   have H := HA.out
   clear HA
   simp only [dioramalaw04_RatioLaws.j0] at H
   by_cases c178 : x93_8 = true
   ·subst c178
    have H1 : (some false) = some r := by rw [if_pos rfl] at H; exact H
    clear H
    have H := H1
    clear H1
    obtain rfl := Option.some.inj H
    cases hr
   ·replace c178 := Bool.eq_false_iff.mpr c178
    subst c178
    have H1 : (if t248 = 0 then (dioramalaw04_RatioLaws.j1 kj8 t256 t260 t268 (t256 == 0) t237 t238 t239 t240 t241 t242 t246 t247 t254 t255 t258 t259 t266 t267) else (dioramalaw04_RatioLaws.j1 kj8 t256 t260 t268 false t237 t238 t239 t240 t241 t242 t246 t247 t254 t255 t258 t259 t266 t267)) = some r := by rw [if_neg (show ¬ (false = true) by decide)] at H; exact H
    clear H
    have H := H1
    clear H1
    have HC179 := Aside0.mk H
    clear H
    go_upto_region 10 with (fail)
    go_cut [99] (fun v99 wc => ∃ (kq : Nat) (x99_178 : Bool), v99 = .bool x99_178 ∧ Aside0 (dioramalaw04_RatioLaws.j1 kq t256 t260 t268 x99_178 t237 t238 t239 t240 t241 t242 t246 t247 t254 t255 t258 t259 t266 t267 = some r) ∧ Aside0 (kq ≤ kj8) ∧ Aside0 (wc.heap[gb243]? = some (.cells #[.int .i64 t237, .int .i64 t238] 24 (0, 0))) ∧ Aside0 (wc.heap[gb244]? = some (.cells #[.int .i64 t239, .int .i64 t240] 24 (0, 0))) ∧ Aside0 (wc.heap[gb245]? = some (.cells #[.int .i64 t241, .int .i64 t242] 24 (0, 0))) ∧ Aside0 (wc.heap[gb249]? = some (.cells #[.int .i64 t246, .int .i64 t247] 24 (0, 0))) ∧ Aside0 (wc.heap[gb253]? = some (.cells #[.int .i64 t250, .int .i64 t251] 24 (0, 0))) ∧ Aside0 (wc.heap[gb257]? = some (.cells #[.int .i64 t254, .int .i64 t255] 24 (0, 0))) ∧ Aside0 (wc.heap[gb261]? = some (.cells #[.int .i64 t258, .int .i64 t259] 24 (0, 0))) ∧ Aside0 (wc.heap[gb265]? = some (.cells #[.int .i64 t262, .int .i64 t263] 24 (0, 0))) ∧ Aside0 (wc.heap[gb269]? = some (.cells #[.int .i64 t266, .int .i64 t267] 24 (0, 0))) ∧ Aside0 (Below w.heap.size w wc))
    case first => as_aux_lemma =>
     have H := HC179.out
     clear HC179
     by_cases c180 : t248 = 0
     ·rw [if_pos c180] at H
      have c180b0 : (t248 == 0) = true := beq_iff_eq.mpr c180
      have c180b1 : (t248 != 0) = false := bne_eq_false_iff_eq.mpr c180
      clear c180
      (first | rw [c180b0] | (simp only [i64_w, i32_w]; rw [c180b0]) | skip)
      have H' := Aside0.mk H
      clear H
      go_wp2
      go_meet
      case rel => exact ⟨_, ((t256 == 0)), (by first | rfl | (simp; done) | (simp [*]; done)), H', ⟨by have := HJ8.out; first | omega | exact Nat.le_refl _⟩, ⟨pk_⟩, ⟨pk_⟩, ⟨pk_⟩, ⟨pk_⟩, ⟨pk_⟩, ⟨pk_⟩, ⟨pk_⟩, ⟨pk_⟩, ⟨pk_⟩, ⟨bl_⟩⟩
     ·rw [if_neg c180] at H
      have c180b0 : (t248 == 0) = false := beq_eq_false_iff_ne.mpr c180
      have c180b1 : (t248 != 0) = true := bne_iff_ne.mpr c180
      (first | rw [c180b0] | (simp only [i64_w, i32_w]; rw [c180b0]) | skip)
      have H' := Aside0.mk H
      clear H
      go_wp2
      go_meet
      case rel => exact ⟨_, (false), (by first | rfl | (simp; done) | (simp [*]; done)), H', ⟨by have := HJ8.out; first | omega | exact Nat.le_refl _⟩, ⟨pk_⟩, ⟨pk_⟩, ⟨pk_⟩, ⟨pk_⟩, ⟨pk_⟩, ⟨pk_⟩, ⟨pk_⟩, ⟨pk_⟩, ⟨pk_⟩, ⟨bl_⟩⟩
    case rest => as_aux_lemma =>
     clear HC179; (try clear c178); (try clear hcz16_0); (try clear hcz16_1); (try clear hcz18_0); (try clear hcz18_1); (try clear hcz19_0); (try clear hcz19_1); (try clear hcz25_0); (try clear hcz25_1); (try clear hcz26_0); (try clear hcz26_1); (try clear hcz27_0); (try clear hcz27_1); (try clear hcz34_0); (try clear hcz34_1); (try clear hcz35_0); (try clear hcz35_1); (try clear hcz36_0); (try clear hcz36_1); (try clear hcz44_0); (try clear hcz44_1); (try clear hcz45_0); (try clear hcz45_1); (try clear hcz46_0); (try clear hcz46_1); (try clear hcz55_0); (try clear hcz55_1); (try clear hcz56_0); (try clear hcz56_1); (try clear hcz57_0); (try clear hcz57_1); (try clear hcz67_0); (try clear hcz67_1); (try clear hcz68_0); (try clear hcz68_1); (try clear hcz69_0); (try clear hcz69_1); (try clear hcz80_0); (try clear hcz80_1); (try clear hfz16_0); (try clear hfz16_1); (try clear hfz18_0); (try clear hfz18_1); (try clear hfz19_0); (try clear hfz19_1); (try clear hfz25_0); (try clear hfz25_1); (try clear hfz26_0); (try clear hfz26_1); (try clear hfz27_0); (try clear hfz27_1); (try clear hfz34_0); (try clear hfz34_1); (try clear hfz35_0); (try clear hfz35_1); (try clear hfz36_0); (try clear hfz36_1); (try clear hfz44_0); (try clear hfz44_1); (try clear hfz45_0); (try clear hfz45_1); (try clear hfz46_0); (try clear hfz46_1); (try clear hfz55_0); (try clear hfz55_1); (try clear hfz56_0); (try clear hfz56_1); (try clear hfz57_0); (try clear hfz57_1); (try clear hfz67_0); (try clear hfz67_1); (try clear hfz68_0); (try clear hfz68_1); (try clear hfz69_0); (try clear hfz69_1); (try clear hfz80_0); (try clear hfz80_1)
     obtain ⟨kq, x99_178, rfl, HA, HJ178, BK243, BK244, BK245, BK249, BK253, BK257, BK261, BK265, BK269, HB⟩ := hcut
     cases kq with
     | zero => exact absurd HA.out (by simp [dioramalaw04_RatioLaws.j1])
     | succ kj178 =>
      have H := HA.out
      clear HA
      simp only [dioramalaw04_RatioLaws.j1] at H
      have HC181 := Aside0.mk H
      clear H
      go_upto_if 99 with (fail)
      go_cut [] (fun wc => ∃ (kq : Nat), Aside0 (dioramalaw04_RatioLaws.j3 kq t256 t260 t268 t237 t238 t241 t242 t254 t255 t258 t259 t266 t267 = some r) ∧ Aside0 (kq ≤ kj178) ∧ Aside0 (wc.heap[gb243]? = some (.cells #[.int .i64 t237, .int .i64 t238] 24 (0, 0))) ∧ Aside0 (wc.heap[gb244]? = some (.cells #[.int .i64 t239, .int .i64 t240] 24 (0, 0))) ∧ Aside0 (wc.heap[gb245]? = some (.cells #[.int .i64 t241, .int .i64 t242] 24 (0, 0))) ∧ Aside0 (wc.heap[gb249]? = some (.cells #[.int .i64 t246, .int .i64 t247] 24 (0, 0))) ∧ Aside0 (wc.heap[gb253]? = some (.cells #[.int .i64 t250, .int .i64 t251] 24 (0, 0))) ∧ Aside0 (wc.heap[gb257]? = some (.cells #[.int .i64 t254, .int .i64 t255] 24 (0, 0))) ∧ Aside0 (wc.heap[gb261]? = some (.cells #[.int .i64 t258, .int .i64 t259] 24 (0, 0))) ∧ Aside0 (wc.heap[gb265]? = some (.cells #[.int .i64 t262, .int .i64 t263] 24 (0, 0))) ∧ Aside0 (wc.heap[gb269]? = some (.cells #[.int .i64 t266, .int .i64 t267] 24 (0, 0))) ∧ Aside0 (Below w.heap.size w wc))
      case first => as_aux_lemma =>
       have H := HC181.out
       clear HC181
       by_cases c182 : x99_178 = true
       ·subst c182
        have H1 : ((ratio_Add.f kj178 t246 t247 t241 t242).bind fun bt270 => ((ratio_Add.f kj178 t237 t238 t254 t255).bind fun bt274 => (if bt270.2.2 = bt274.2.2 then (dioramalaw04_RatioLaws.j2 kj178 t256 t260 t268 (!(bt270.1 == bt274.1) || (!(bt270.2.1 == bt274.2.1))) t237 t238 t239 t240 t241 t242 t246 t247 t254 t255 t258 t259 t266 t267) else (dioramalaw04_RatioLaws.j2 kj178 t256 t260 t268 true t237 t238 t239 t240 t241 t242 t246 t247 t254 t255 t258 t259 t266 t267)))) = some r := by rw [if_pos rfl] at H; exact H
        clear H
        have H := H1
        clear H1
        replace H := Option.bind_eq_some_iff.mp H
        obtain ⟨⟨t270, t271, t272⟩, A1830, H⟩ := H
        replace H : ((ratio_Add.f kj178 t237 t238 t254 t255).bind fun bt274 => (if t272 = bt274.2.2 then (dioramalaw04_RatioLaws.j2 kj178 t256 t260 t268 (!(t270 == bt274.1) || (!(t271 == bt274.2.1))) t237 t238 t239 t240 t241 t242 t246 t247 t254 t255 t258 t259 t266 t267) else (dioramalaw04_RatioLaws.j2 kj178 t256 t260 t268 true t237 t238 t239 t240 t241 t242 t246 t247 t254 t255 t258 t259 t266 t267))) = some r := H
        have A183 := Aside0.mk A1830
        clear A1830
        replace H := Option.bind_eq_some_iff.mp H
        obtain ⟨⟨t274, t275, t276⟩, A1840, H⟩ := H
        replace H : (if t272 = t276 then (dioramalaw04_RatioLaws.j2 kj178 t256 t260 t268 (!(t270 == t274) || (!(t271 == t275))) t237 t238 t239 t240 t241 t242 t246 t247 t254 t255 t258 t259 t266 t267) else (dioramalaw04_RatioLaws.j2 kj178 t256 t260 t268 true t237 t238 t239 t240 t241 t242 t246 t247 t254 t255 t258 t259 t266 t267)) = some r := H
        have A184 := Aside0.mk A1840
        clear A1840
        have HC185 := Aside0.mk H
        clear H
        have hcz194_0 : wc.cell? ⟨gb249, 0, none⟩ = some (.int .i64 t246) := (blk_cell BK249.out 0).trans rfl
        have hcz194_1 : wc.cell? ⟨gb249, 1, none⟩ = some (.int .i64 t247) := (blk_cell BK249.out 1).trans rfl
        have hfz194_0 := blk_frozen BK249.out 0; have hfz194_1 := blk_frozen BK249.out 1
        have hcz202_0 : wc.cell? ⟨gb245, 0, none⟩ = some (.int .i64 t241) := (blk_cell BK245.out 0).trans rfl
        have hcz202_1 : wc.cell? ⟨gb245, 1, none⟩ = some (.int .i64 t242) := (blk_cell BK245.out 1).trans rfl
        have hfz202_0 := blk_frozen BK245.out 0; have hfz202_1 := blk_frozen BK245.out 1
        go_upto_region 13 with (first | ((with_reducible refine gate_callee (f := 11) rfl ?_); refine goesL_ (some 103) rfl rfl Tryd.func11 (by kernel_rfl) rfl #[.agg #[.int .i64 t246, .int .i64 t247], .agg #[.int .i64 t241, .int .i64 t242]] rfl (by (try simp only [List.map_toArray, List.map_cons, List.map_nil]); first | done | rfl | (simp only [List.length_drop, List.length_take]; rfl)) ?_; (with_reducible refine (ratio_Add.calls kj178 t246 t247 t241 t242 t270 t271 t272 _ A183.out).mono ?_); rintro e w203 ⟨rfl, hb⟩; refine ⟨_, rfl, ?_⟩; replace BK243 := up_ BK243 hb; replace BK244 := up_ BK244 hb; replace BK245 := up_ BK245 hb; replace BK249 := up_ BK249 hb; replace BK253 := up_ BK253 hb; replace BK257 := up_ BK257 hb; replace BK261 := up_ BK261 hb; replace BK265 := up_ BK265 hb; replace BK269 := up_ BK269 hb; replace HB := Aside0.mk (below_step bl_ hb); (try clear hb); (try clear hb2); (try clear hk); (try clear hi)) | ((with_reducible refine gate_dst (N := 18) rfl ?_); refine box_event ?hg (N := 18) ?hd (cs := #[.int .i64 0, .int .i64 0]) (t := 24) ?hr ?_; (case hd => rfl); (case hg => rfl); (case hr => first | (go_simp; done) | (go_simp; rfl)); intro gb273 hg w204 hbox hb; have BK273 := Aside0.mk (hbox); have GW273 := gw_ (w := w) hg; have GE273 := gw_ (w := w) hg; have NB243_273 := nl_ BK243 hg; have NB273_243 := ng_ BK243 hg; have NB244_273 := nl_ BK244 hg; have NB273_244 := ng_ BK244 hg; have NB245_273 := nl_ BK245 hg; have NB273_245 := ng_ BK245 hg; have NB249_273 := nl_ BK249 hg; have NB273_249 := ng_ BK249 hg; have NB253_273 := nl_ BK253 hg; have NB273_253 := ng_ BK253 hg; have NB257_273 := nl_ BK257 hg; have NB273_257 := ng_ BK257 hg; have NB261_273 := nl_ BK261 hg; have NB273_261 := ng_ BK261 hg; have NB265_273 := nl_ BK265 hg; have NB273_265 := ng_ BK265 hg; have NB269_273 := nl_ BK269 hg; have NB273_269 := ng_ BK269 hg; replace BK243 := up_ BK243 hb; replace BK244 := up_ BK244 hb; replace BK245 := up_ BK245 hb; replace BK249 := up_ BK249 hb; replace BK253 := up_ BK253 hb; replace BK257 := up_ BK257 hb; replace BK261 := up_ BK261 hb; replace BK265 := up_ BK265 hb; replace BK269 := up_ BK269 hb; replace HB := Aside0.mk (below_step bl_ hb); clear hb hbox hg; have hnb205 := NB273_243.out; have hnc205 := NB243_273.out; have hnb206 := NB273_244.out; have hnc206 := NB244_273.out; have hnb207 := NB273_245.out; have hnc207 := NB245_273.out; have hnb208 := NB273_249.out; have hnc208 := NB249_273.out; have hnb209 := NB273_253.out; have hnc209 := NB253_273.out; have hnb210 := NB273_257.out; have hnc210 := NB257_273.out; have hnb211 := NB273_261.out; have hnc211 := NB261_273.out; have hnb212 := NB273_265.out; have hnc212 := NB265_273.out; have hnb213 := NB273_269.out; have hnc213 := NB269_273.out; have hcz214_0 : w204.cell? ⟨gb273, 0, none⟩ = some (.int .i64 0) := (blk_cell BK273.out 0).trans rfl; have hcz214_1 : w204.cell? ⟨gb273, 1, none⟩ = some (.int .i64 0) := (blk_cell BK273.out 1).trans rfl; have hfz214_0 := blk_frozen BK273.out 0; have hfz214_1 := blk_frozen BK273.out 1; have hcz221_0 : w204.cell? ⟨gb243, 0, none⟩ = some (.int .i64 t237) := (blk_cell BK243.out 0).trans rfl; have hcz221_1 : w204.cell? ⟨gb243, 1, none⟩ = some (.int .i64 t238) := (blk_cell BK243.out 1).trans rfl; have hfz221_0 := blk_frozen BK243.out 0; have hfz221_1 := blk_frozen BK243.out 1; have hcz227_0 : w204.cell? ⟨gb257, 0, none⟩ = some (.int .i64 t254) := (blk_cell BK257.out 0).trans rfl; have hcz227_1 : w204.cell? ⟨gb257, 1, none⟩ = some (.int .i64 t255) := (blk_cell BK257.out 1).trans rfl; have hfz227_0 := blk_frozen BK257.out 0; have hfz227_1 := blk_frozen BK257.out 1) | ((with_reducible refine gate_callee (f := 11) rfl ?_); refine goesL_ (some 109) rfl rfl Tryd.func11 (by kernel_rfl) rfl #[.agg #[.int .i64 t237, .int .i64 t238], .agg #[.int .i64 t254, .int .i64 t255]] rfl (by (try simp only [List.map_toArray, List.map_cons, List.map_nil]); first | done | rfl | (simp only [List.length_drop, List.length_take]; rfl)) ?_; (with_reducible refine (ratio_Add.calls kj178 t237 t238 t254 t255 t274 t275 t276 _ A184.out).mono ?_); rintro e w228 ⟨rfl, hb⟩; refine ⟨_, rfl, ?_⟩; replace BK243 := up_ BK243 hb; replace BK244 := up_ BK244 hb; replace BK245 := up_ BK245 hb; replace BK249 := up_ BK249 hb; replace BK253 := up_ BK253 hb; replace BK257 := up_ BK257 hb; replace BK261 := up_ BK261 hb; replace BK265 := up_ BK265 hb; replace BK269 := up_ BK269 hb; replace BK273 := up24_ gb273 t270 t271 hb; replace HB := Aside0.mk (below_step bl_ hb); (try clear hb); (try clear hb2); (try clear hk); (try clear hi)) | ((with_reducible refine gate_dst (N := 20) rfl ?_); refine box_event ?hg (N := 20) ?hd (cs := #[.int .i64 0, .int .i64 0]) (t := 24) ?hr ?_; (case hd => rfl); (case hg => rfl); (case hr => first | (go_simp; done) | (go_simp; rfl)); intro gb277 hg w229 hbox hb; have BK277 := Aside0.mk (hbox); have GW277 := gw_ (w := w) hg; have GE277 := gw_ (w := w) hg; have NB243_277 := nl_ BK243 hg; have NB277_243 := ng_ BK243 hg; have NB244_277 := nl_ BK244 hg; have NB277_244 := ng_ BK244 hg; have NB245_277 := nl_ BK245 hg; have NB277_245 := ng_ BK245 hg; have NB249_277 := nl_ BK249 hg; have NB277_249 := ng_ BK249 hg; have NB253_277 := nl_ BK253 hg; have NB277_253 := ng_ BK253 hg; have NB257_277 := nl_ BK257 hg; have NB277_257 := ng_ BK257 hg; have NB261_277 := nl_ BK261 hg; have NB277_261 := ng_ BK261 hg; have NB265_277 := nl_ BK265 hg; have NB277_265 := ng_ BK265 hg; have NB269_277 := nl_ BK269 hg; have NB277_269 := ng_ BK269 hg; have NB273_277 := nl_ BK273 hg; have NB277_273 := ng_ BK273 hg; replace BK243 := up_ BK243 hb; replace BK244 := up_ BK244 hb; replace BK245 := up_ BK245 hb; replace BK249 := up_ BK249 hb; replace BK253 := up_ BK253 hb; replace BK257 := up_ BK257 hb; replace BK261 := up_ BK261 hb; replace BK265 := up_ BK265 hb; replace BK269 := up_ BK269 hb; replace BK273 := up_ BK273 hb; replace HB := Aside0.mk (below_step bl_ hb); clear hb hbox hg; clear hnb205 hnc205 hnb206 hnc206 hnb207 hnc207 hnb208 hnc208 hnb209 hnc209 hnb210 hnc210 hnb211 hnc211 hnb212 hnc212 hnb213 hnc213 hcz214_0 hcz214_1 hfz214_0 hfz214_1 hcz221_0 hcz221_1 hfz221_0 hfz221_1 hcz227_0 hcz227_1 hfz227_0 hfz227_1; have hnb230 := NB277_243.out; have hnc230 := NB243_277.out; have hnb231 := NB277_244.out; have hnc231 := NB244_277.out; have hnb232 := NB277_245.out; have hnc232 := NB245_277.out; have hnb233 := NB277_249.out; have hnc233 := NB249_277.out; have hnb234 := NB277_253.out; have hnc234 := NB253_277.out; have hnb235 := NB277_257.out; have hnc235 := NB257_277.out; have hnb236 := NB277_261.out; have hnc236 := NB261_277.out; have hnb237 := NB277_265.out; have hnc237 := NB265_277.out; have hnb238 := NB277_269.out; have hnc238 := NB269_277.out; have hnb239 := NB277_273.out; have hnc239 := NB273_277.out; have hcz240_0 : w229.cell? ⟨gb277, 0, none⟩ = some (.int .i64 0) := (blk_cell BK277.out 0).trans rfl; have hcz240_1 : w229.cell? ⟨gb277, 1, none⟩ = some (.int .i64 0) := (blk_cell BK277.out 1).trans rfl; have hfz240_0 := blk_frozen BK277.out 0; have hfz240_1 := blk_frozen BK277.out 1))
        (try simp only [Act.put, List.setIfInBounds_toArray, List.set_cons_zero, List.set_cons_succ])
        go_cut [119] (fun v119 wc => ∃ (kq : Nat) (x119_184 : Bool), v119 = .bool x119_184 ∧ Aside0 (dioramalaw04_RatioLaws.j2 kq t256 t260 t268 x119_184 t237 t238 t239 t240 t241 t242 t246 t247 t254 t255 t258 t259 t266 t267 = some r) ∧ Aside0 (kq ≤ kj178) ∧ Aside0 (wc.heap[gb243]? = some (.cells #[.int .i64 t237, .int .i64 t238] 24 (0, 0))) ∧ Aside0 (wc.heap[gb244]? = some (.cells #[.int .i64 t239, .int .i64 t240] 24 (0, 0))) ∧ Aside0 (wc.heap[gb245]? = some (.cells #[.int .i64 t241, .int .i64 t242] 24 (0, 0))) ∧ Aside0 (wc.heap[gb249]? = some (.cells #[.int .i64 t246, .int .i64 t247] 24 (0, 0))) ∧ Aside0 (wc.heap[gb253]? = some (.cells #[.int .i64 t250, .int .i64 t251] 24 (0, 0))) ∧ Aside0 (wc.heap[gb257]? = some (.cells #[.int .i64 t254, .int .i64 t255] 24 (0, 0))) ∧ Aside0 (wc.heap[gb261]? = some (.cells #[.int .i64 t258, .int .i64 t259] 24 (0, 0))) ∧ Aside0 (wc.heap[gb265]? = some (.cells #[.int .i64 t262, .int .i64 t263] 24 (0, 0))) ∧ Aside0 (wc.heap[gb269]? = some (.cells #[.int .i64 t266, .int .i64 t267] 24 (0, 0))) ∧ Aside0 (wc.heap[gb273]? = some (.cells #[.int .i64 t270, .int .i64 t271] 24 (0, 0))) ∧ Aside0 (wc.heap[gb277]? = some (.cells #[.int .i64 t274, .int .i64 t275] 24 (0, 0))) ∧ Aside0 (Below w.heap.size w wc))
        case first => as_aux_lemma =>
         have H := HC185.out
         clear HC185
         by_cases c241 : t272 = t276
         ·rw [if_pos c241] at H
          have c241b0 : (t272 == t276) = true := beq_iff_eq.mpr c241
          have c241b1 : (t272 != t276) = false := bne_eq_false_iff_eq.mpr c241
          clear c241
          (first | rw [c241b0] | (simp only [i64_w, i32_w]; rw [c241b0]) | skip)
          have H' := Aside0.mk H
          clear H; have hnb251 := NB273_277.out; have hnc251 := NB277_273.out
          have hcz252_0 : w229.cell? ⟨gb273, 0, none⟩ = some (.int .i64 t270) := (blk_cell BK273.out 0).trans rfl
          have hcz252_1 : w229.cell? ⟨gb273, 1, none⟩ = some (.int .i64 t271) := (blk_cell BK273.out 1).trans rfl
          have hfz252_0 := blk_frozen BK273.out 0; have hfz252_1 := blk_frozen BK273.out 1; have hnb253 := NB277_243.out; have hnc253 := NB243_277.out; have hnb254 := NB277_244.out; have hnc254 := NB244_277.out; have hnb255 := NB277_245.out; have hnc255 := NB245_277.out; have hnb256 := NB277_249.out; have hnc256 := NB249_277.out; have hnb257 := NB277_253.out; have hnc257 := NB253_277.out; have hnb258 := NB277_257.out; have hnc258 := NB257_277.out; have hnb259 := NB277_261.out; have hnc259 := NB261_277.out; have hnb260 := NB277_265.out; have hnc260 := NB265_277.out; have hnb261 := NB277_269.out; have hnc261 := NB269_277.out
          have hcz262_0 : w229.cell? ⟨gb277, 0, none⟩ = some (.int .i64 0) := (blk_cell BK277.out 0).trans rfl
          have hcz262_1 : w229.cell? ⟨gb277, 1, none⟩ = some (.int .i64 0) := (blk_cell BK277.out 1).trans rfl
          have hfz262_0 := blk_frozen BK277.out 0; have hfz262_1 := blk_frozen BK277.out 1
          go_wp2
          go_meet
          case rel => exact ⟨_, ((!(t270 == t274) || (!(t271 == t275)))), (by first | rfl | (simp; done) | (simp [*]; done)), H', ⟨by have := HJ8.out; have := HJ178.out; first | omega | exact Nat.le_refl _⟩, ⟨pk_⟩, ⟨pk_⟩, ⟨pk_⟩, ⟨pk_⟩, ⟨pk_⟩, ⟨pk_⟩, ⟨pk_⟩, ⟨pk_⟩, ⟨pk_⟩, ⟨pk_⟩, ⟨pk_⟩, ⟨bl_⟩⟩
         ·rw [if_neg c241] at H
          have c241b0 : (t272 == t276) = false := beq_eq_false_iff_ne.mpr c241
          have c241b1 : (t272 != t276) = true := bne_iff_ne.mpr c241
          (first | rw [c241b0] | (simp only [i64_w, i32_w]; rw [c241b0]) | skip)
          have H' := Aside0.mk H
          clear H
          go_wp2
          go_meet
          case rel => exact ⟨_, (true), (by first | rfl | (simp; done) | (simp [*]; done)), H', ⟨by have := HJ8.out; have := HJ178.out; first | omega | exact Nat.le_refl _⟩, ⟨pk_⟩, ⟨pk_⟩, ⟨pk_⟩, ⟨pk_⟩, ⟨pk_⟩, ⟨pk_⟩, ⟨pk_⟩, ⟨pk_⟩, ⟨pk_⟩, ⟨pk_⟩, ⟨pk_⟩, ⟨bl_⟩⟩
        case rest => as_aux_lemma =>
         clear hnb230 hnc230 hnb231 hnc231 hnb232 hnc232 hnb233 hnc233 hnb234 hnc234 hnb235 hnc235 hnb236 hnc236 hnb237 hnc237 hnb238 hnc238 hnb239 hnc239 hcz240_0 hcz240_1 hfz240_0 hfz240_1
         clear HC185; (try clear c178); (try clear c182); (try clear hcz16_0); (try clear hcz16_1); (try clear hcz18_0); (try clear hcz18_1); (try clear hcz194_0); (try clear hcz194_1); (try clear hcz19_0); (try clear hcz19_1); (try clear hcz202_0); (try clear hcz202_1); (try clear hcz214_0); (try clear hcz214_1); (try clear hcz221_0); (try clear hcz221_1); (try clear hcz227_0); (try clear hcz227_1); (try clear hcz240_0); (try clear hcz240_1); (try clear hcz25_0); (try clear hcz25_1); (try clear hcz26_0); (try clear hcz26_1); (try clear hcz27_0); (try clear hcz27_1); (try clear hcz34_0); (try clear hcz34_1); (try clear hcz35_0); (try clear hcz35_1); (try clear hcz36_0); (try clear hcz36_1); (try clear hcz44_0); (try clear hcz44_1); (try clear hcz45_0); (try clear hcz45_1); (try clear hcz46_0); (try clear hcz46_1); (try clear hcz55_0); (try clear hcz55_1); (try clear hcz56_0); (try clear hcz56_1); (try clear hcz57_0); (try clear hcz57_1); (try clear hcz67_0); (try clear hcz67_1); (try clear hcz68_0); (try clear hcz68_1); (try clear hcz69_0); (try clear hcz69_1); (try clear hcz80_0); (try clear hcz80_1); (try clear hfz16_0); (try clear hfz16_1); (try clear hfz18_0); (try clear hfz18_1); (try clear hfz194_0); (try clear hfz194_1); (try clear hfz19_0); (try clear hfz19_1); (try clear hfz202_0); (try clear hfz202_1); (try clear hfz214_0); (try clear hfz214_1); (try clear hfz221_0); (try clear hfz221_1); (try clear hfz227_0); (try clear hfz227_1); (try clear hfz240_0); (try clear hfz240_1); (try clear hfz25_0); (try clear hfz25_1); (try clear hfz26_0); (try clear hfz26_1); (try clear hfz27_0); (try clear hfz27_1); (try clear hfz34_0); (try clear hfz34_1); (try clear hfz35_0); (try clear hfz35_1); (try clear hfz36_0); (try clear hfz36_1); (try clear hfz44_0); (try clear hfz44_1); (try clear hfz45_0); (try clear hfz45_1); (try clear hfz46_0); (try clear hfz46_1); (try clear hfz55_0); (try clear hfz55_1); (try clear hfz56_0); (try clear hfz56_1); (try clear hfz57_0); (try clear hfz57_1); (try clear hfz67_0); (try clear hfz67_1); (try clear hfz68_0); (try clear hfz68_1); (try clear hfz69_0); (try clear hfz69_1); (try clear hfz80_0); (try clear hfz80_1)
         obtain ⟨kq, x119_184, rfl, HA, HJ184, BK243, BK244, BK245, BK249, BK253, BK257, BK261, BK265, BK269, BK273, BK277, HB⟩ := hcut
         cases kq with
         | zero => exact absurd HA.out (by simp [dioramalaw04_RatioLaws.j2])
         | succ kj184 =>
          have H := HA.out
          clear HA
          simp only [dioramalaw04_RatioLaws.j2] at H
          by_cases c263 : x119_184 = true
          ·subst c263
           have H1 : (some false) = some r := by rw [if_pos rfl] at H; exact H
           clear H
           have H := H1
           clear H1
           obtain rfl := Option.some.inj H
           cases hr
          ·replace c263 := Bool.eq_false_iff.mpr c263
           subst c263
           have H1 : ((ratio_Sub.f kj184 t246 t247 t239 t240).bind fun bt278 => (if bt278.2.2 = 0 then ((ratio_Compare.f kj184 bt278.1 bt278.2.1 t237 t238).bind fun t282 => (if t282 = 0 then (dioramalaw04_RatioLaws.j3 kj184 t256 t260 t268 t237 t238 t241 t242 t254 t255 t258 t259 t266 t267) else (some false))) else (some false))) = some r := by rw [if_neg (show ¬ (false = true) by decide)] at H; exact H
           clear H
           have H := H1
           clear H1
           replace H := Option.bind_eq_some_iff.mp H
           obtain ⟨⟨t278, t279, t280⟩, A2640, H⟩ := H
           replace H : (if t280 = 0 then ((ratio_Compare.f kj184 t278 t279 t237 t238).bind fun t282 => (if t282 = 0 then (dioramalaw04_RatioLaws.j3 kj184 t256 t260 t268 t237 t238 t241 t242 t254 t255 t258 t259 t266 t267) else (some false))) else (some false)) = some r := H
           have A264 := Aside0.mk A2640
           clear A2640
           by_cases c265 : t280 = 0
           ·rw [if_pos c265] at H
            have c265b0 : (t280 == 0) = true := beq_iff_eq.mpr c265
            have c265b1 : (t280 != 0) = false := bne_eq_false_iff_eq.mpr c265
            clear c265
            replace H := Option.bind_eq_some_iff.mp H
            obtain ⟨t282, A2660, H⟩ := H
            replace H : (if t282 = 0 then (dioramalaw04_RatioLaws.j3 kj184 t256 t260 t268 t237 t238 t241 t242 t254 t255 t258 t259 t266 t267) else (some false)) = some r := H
            have A266 := Aside0.mk A2660
            clear A2660
            by_cases c267 : t282 = 0
            ·rw [if_pos c267] at H
             have c267b0 : (t282 == 0) = true := beq_iff_eq.mpr c267
             have c267b1 : (t282 != 0) = false := bne_eq_false_iff_eq.mpr c267
             clear c267
             have H' := Aside0.mk H
             clear H
             have hcz278_0 : wc.cell? ⟨gb249, 0, none⟩ = some (.int .i64 t246) := (blk_cell BK249.out 0).trans rfl
             have hcz278_1 : wc.cell? ⟨gb249, 1, none⟩ = some (.int .i64 t247) := (blk_cell BK249.out 1).trans rfl
             have hfz278_0 := blk_frozen BK249.out 0; have hfz278_1 := blk_frozen BK249.out 1
             have hcz288_0 : wc.cell? ⟨gb244, 0, none⟩ = some (.int .i64 t239) := (blk_cell BK244.out 0).trans rfl
             have hcz288_1 : wc.cell? ⟨gb244, 1, none⟩ = some (.int .i64 t240) := (blk_cell BK244.out 1).trans rfl
             have hfz288_0 := blk_frozen BK244.out 0; have hfz288_1 := blk_frozen BK244.out 1
             go_wp2_with (first | ((with_reducible refine gate_callee (f := 13) rfl ?_); refine goesL_ (some 123) rfl rfl Tryd.func13 (by kernel_rfl) rfl #[.agg #[.int .i64 t246, .int .i64 t247], .agg #[.int .i64 t239, .int .i64 t240]] rfl (by (try simp only [List.map_toArray, List.map_cons, List.map_nil]); first | done | rfl | (simp only [List.length_drop, List.length_take]; rfl)) ?_; (with_reducible refine (ratio_Sub.calls kj184 t246 t247 t239 t240 t278 t279 t280 _ A264.out).mono ?_); rintro e w289 ⟨rfl, hb⟩; refine ⟨_, rfl, ?_⟩; replace BK243 := up_ BK243 hb; replace BK244 := up_ BK244 hb; replace BK245 := up_ BK245 hb; replace BK249 := up_ BK249 hb; replace BK253 := up_ BK253 hb; replace BK257 := up_ BK257 hb; replace BK261 := up_ BK261 hb; replace BK265 := up_ BK265 hb; replace BK269 := up_ BK269 hb; replace BK273 := up_ BK273 hb; replace BK277 := up_ BK277 hb; replace HB := Aside0.mk (below_step bl_ hb); (try clear hb); (try clear hb2); (try clear hk); (try clear hi)) | ((with_reducible refine gate_dst (N := 22) rfl ?_); refine box_event ?hg (N := 22) ?hd (cs := #[.int .i64 0, .int .i64 0]) (t := 24) ?hr ?_; (case hd => rfl); (case hg => rfl); (case hr => first | (go_simp; done) | (go_simp; rfl)); intro gb281 hg w290 hbox hb; have BK281 := Aside0.mk (hbox); have GW281 := gw_ (w := w) hg; have GE281 := gw_ (w := w) hg; have NB243_281 := nl_ BK243 hg; have NB281_243 := ng_ BK243 hg; have NB244_281 := nl_ BK244 hg; have NB281_244 := ng_ BK244 hg; have NB245_281 := nl_ BK245 hg; have NB281_245 := ng_ BK245 hg; have NB249_281 := nl_ BK249 hg; have NB281_249 := ng_ BK249 hg; have NB253_281 := nl_ BK253 hg; have NB281_253 := ng_ BK253 hg; have NB257_281 := nl_ BK257 hg; have NB281_257 := ng_ BK257 hg; have NB261_281 := nl_ BK261 hg; have NB281_261 := ng_ BK261 hg; have NB265_281 := nl_ BK265 hg; have NB281_265 := ng_ BK265 hg; have NB269_281 := nl_ BK269 hg; have NB281_269 := ng_ BK269 hg; have NB273_281 := nl_ BK273 hg; have NB281_273 := ng_ BK273 hg; have NB277_281 := nl_ BK277 hg; have NB281_277 := ng_ BK277 hg; replace BK243 := up_ BK243 hb; replace BK244 := up_ BK244 hb; replace BK245 := up_ BK245 hb; replace BK249 := up_ BK249 hb; replace BK253 := up_ BK253 hb; replace BK257 := up_ BK257 hb; replace BK261 := up_ BK261 hb; replace BK265 := up_ BK265 hb; replace BK269 := up_ BK269 hb; replace BK273 := up_ BK273 hb; replace BK277 := up_ BK277 hb; replace HB := Aside0.mk (below_step bl_ hb); clear hb hbox hg; have hnb291 := NB281_243.out; have hnc291 := NB243_281.out; have hnb292 := NB281_244.out; have hnc292 := NB244_281.out; have hnb293 := NB281_245.out; have hnc293 := NB245_281.out; have hnb294 := NB281_249.out; have hnc294 := NB249_281.out; have hnb295 := NB281_253.out; have hnc295 := NB253_281.out; have hnb296 := NB281_257.out; have hnc296 := NB257_281.out; have hnb297 := NB281_261.out; have hnc297 := NB261_281.out; have hnb298 := NB281_265.out; have hnc298 := NB265_281.out; have hnb299 := NB281_269.out; have hnc299 := NB269_281.out; have hnb300 := NB281_273.out; have hnc300 := NB273_281.out; have hnb301 := NB281_277.out; have hnc301 := NB277_281.out; have hcz302_0 : w290.cell? ⟨gb281, 0, none⟩ = some (.int .i64 0) := (blk_cell BK281.out 0).trans rfl; have hcz302_1 : w290.cell? ⟨gb281, 1, none⟩ = some (.int .i64 0) := (blk_cell BK281.out 1).trans rfl; have hfz302_0 := blk_frozen BK281.out 0; have hfz302_1 := blk_frozen BK281.out 1; have hcz311_0 : w290.cell? ⟨gb243, 0, none⟩ = some (.int .i64 t237) := (blk_cell BK243.out 0).trans rfl; have hcz311_1 : w290.cell? ⟨gb243, 1, none⟩ = some (.int .i64 t238) := (blk_cell BK243.out 1).trans rfl; have hfz311_0 := blk_frozen BK243.out 0; have hfz311_1 := blk_frozen BK243.out 1) | (go_at_call 14; (with_reducible refine (ratio_Compare.calls kj184 t278 t279 t237 t238 t282 _ A266.out).mono ?_); rintro e w312 ⟨rfl, hb⟩; replace BK243 := up_ BK243 hb; replace BK244 := up_ BK244 hb; replace BK245 := up_ BK245 hb; replace BK249 := up_ BK249 hb; replace BK253 := up_ BK253 hb; replace BK257 := up_ BK257 hb; replace BK261 := up_ BK261 hb; replace BK265 := up_ BK265 hb; replace BK269 := up_ BK269 hb; replace BK273 := up_ BK273 hb; replace BK277 := up_ BK277 hb; replace BK281 := up24_ gb281 t278 t279 hb; replace HB := Aside0.mk (below_step bl_ hb); (try clear hb); (try clear hb2); (try clear hk); (try clear hi)))
             go_meet
             case rel => exact ⟨_, H', ⟨by have := HJ8.out; have := HJ178.out; have := HJ184.out; first | omega | exact Nat.le_refl _⟩, ⟨pk_⟩, ⟨pk_⟩, ⟨pk_⟩, ⟨pk_⟩, ⟨pk_⟩, ⟨pk_⟩, ⟨pk_⟩, ⟨pk_⟩, ⟨pk_⟩, ⟨bl_⟩⟩
            ·rw [if_neg c267] at H
             have c267b0 : (t282 == 0) = false := beq_eq_false_iff_ne.mpr c267
             have c267b1 : (t282 != 0) = true := bne_iff_ne.mpr c267
             obtain rfl := Option.some.inj H
             cases hr
           ·rw [if_neg c265] at H
            have c265b0 : (t280 == 0) = false := beq_eq_false_iff_ne.mpr c265
            have c265b1 : (t280 != 0) = true := bne_iff_ne.mpr c265
            obtain rfl := Option.some.inj H
            cases hr
       ·replace c182 := Bool.eq_false_iff.mpr c182
        subst c182
        have H1 : (dioramalaw04_RatioLaws.j3 kj178 t256 t260 t268 t237 t238 t241 t242 t254 t255 t258 t259 t266 t267) = some r := by rw [if_neg (show ¬ (false = true) by decide)] at H; exact H
        clear H
        have H := H1
        clear H1
        have H' := Aside0.mk H
        clear H
        go_wp2
        go_meet
        case rel => exact ⟨_, H', ⟨by have := HJ8.out; have := HJ178.out; first | omega | exact Nat.le_refl _⟩, ⟨pk_⟩, ⟨pk_⟩, ⟨pk_⟩, ⟨pk_⟩, ⟨pk_⟩, ⟨pk_⟩, ⟨pk_⟩, ⟨pk_⟩, ⟨pk_⟩, ⟨bl_⟩⟩
      case rest => as_aux_lemma =>
       clear HC181; (try clear c178); (try clear hcz16_0); (try clear hcz16_1); (try clear hcz18_0); (try clear hcz18_1); (try clear hcz19_0); (try clear hcz19_1); (try clear hcz25_0); (try clear hcz25_1); (try clear hcz26_0); (try clear hcz26_1); (try clear hcz27_0); (try clear hcz27_1); (try clear hcz34_0); (try clear hcz34_1); (try clear hcz35_0); (try clear hcz35_1); (try clear hcz36_0); (try clear hcz36_1); (try clear hcz44_0); (try clear hcz44_1); (try clear hcz45_0); (try clear hcz45_1); (try clear hcz46_0); (try clear hcz46_1); (try clear hcz55_0); (try clear hcz55_1); (try clear hcz56_0); (try clear hcz56_1); (try clear hcz57_0); (try clear hcz57_1); (try clear hcz67_0); (try clear hcz67_1); (try clear hcz68_0); (try clear hcz68_1); (try clear hcz69_0); (try clear hcz69_1); (try clear hcz80_0); (try clear hcz80_1); (try clear hfz16_0); (try clear hfz16_1); (try clear hfz18_0); (try clear hfz18_1); (try clear hfz19_0); (try clear hfz19_1); (try clear hfz25_0); (try clear hfz25_1); (try clear hfz26_0); (try clear hfz26_1); (try clear hfz27_0); (try clear hfz27_1); (try clear hfz34_0); (try clear hfz34_1); (try clear hfz35_0); (try clear hfz35_1); (try clear hfz36_0); (try clear hfz36_1); (try clear hfz44_0); (try clear hfz44_1); (try clear hfz45_0); (try clear hfz45_1); (try clear hfz46_0); (try clear hfz46_1); (try clear hfz55_0); (try clear hfz55_1); (try clear hfz56_0); (try clear hfz56_1); (try clear hfz57_0); (try clear hfz57_1); (try clear hfz67_0); (try clear hfz67_1); (try clear hfz68_0); (try clear hfz68_1); (try clear hfz69_0); (try clear hfz69_1); (try clear hfz80_0); (try clear hfz80_1)
       obtain ⟨kq, HA, HJ180, BK243, BK244, BK245, BK249, BK253, BK257, BK261, BK265, BK269, HB⟩ := hcut
       cases kq with
       | zero => exact absurd HA.out (by simp [dioramalaw04_RatioLaws.j3])
       | succ kj180 =>
        have H := HA.out
        clear HA
        simp only [dioramalaw04_RatioLaws.j3] at H
        have HC393 := Aside0.mk H
        clear H
        go_upto_region 18 with (fail)
        go_cut [139] (fun v139 wc => ∃ (kq : Nat) (x139_392 : Bool), v139 = .bool x139_392 ∧ Aside0 (dioramalaw04_RatioLaws.j4 kq t256 t260 x139_392 t237 t238 t241 t242 t254 t255 t258 t259 t266 t267 = some r) ∧ Aside0 (kq ≤ kj180) ∧ Aside0 (wc.heap[gb243]? = some (.cells #[.int .i64 t237, .int .i64 t238] 24 (0, 0))) ∧ Aside0 (wc.heap[gb244]? = some (.cells #[.int .i64 t239, .int .i64 t240] 24 (0, 0))) ∧ Aside0 (wc.heap[gb245]? = some (.cells #[.int .i64 t241, .int .i64 t242] 24 (0, 0))) ∧ Aside0 (wc.heap[gb249]? = some (.cells #[.int .i64 t246, .int .i64 t247] 24 (0, 0))) ∧ Aside0 (wc.heap[gb253]? = some (.cells #[.int .i64 t250, .int .i64 t251] 24 (0, 0))) ∧ Aside0 (wc.heap[gb257]? = some (.cells #[.int .i64 t254, .int .i64 t255] 24 (0, 0))) ∧ Aside0 (wc.heap[gb261]? = some (.cells #[.int .i64 t258, .int .i64 t259] 24 (0, 0))) ∧ Aside0 (wc.heap[gb265]? = some (.cells #[.int .i64 t262, .int .i64 t263] 24 (0, 0))) ∧ Aside0 (wc.heap[gb269]? = some (.cells #[.int .i64 t266, .int .i64 t267] 24 (0, 0))) ∧ Aside0 (Below w.heap.size w wc))
        case first => as_aux_lemma =>
         have H := HC393.out
         clear HC393
         by_cases c394 : t260 = 0
         ·rw [if_pos c394] at H
          have c394b0 : (t260 == 0) = true := beq_iff_eq.mpr c394
          have c394b1 : (t260 != 0) = false := bne_eq_false_iff_eq.mpr c394
          clear c394
          (first | rw [c394b0] | (simp only [i64_w, i32_w]; rw [c394b0]) | skip)
          have H' := Aside0.mk H
          clear H
          go_wp2
          go_meet
          case rel => exact ⟨_, ((t268 == 0)), (by first | rfl | (simp; done) | (simp [*]; done)), H', ⟨by have := HJ8.out; have := HJ178.out; have := HJ180.out; first | omega | exact Nat.le_refl _⟩, ⟨pk_⟩, ⟨pk_⟩, ⟨pk_⟩, ⟨pk_⟩, ⟨pk_⟩, ⟨pk_⟩, ⟨pk_⟩, ⟨pk_⟩, ⟨pk_⟩, ⟨bl_⟩⟩
         ·rw [if_neg c394] at H
          have c394b0 : (t260 == 0) = false := beq_eq_false_iff_ne.mpr c394
          have c394b1 : (t260 != 0) = true := bne_iff_ne.mpr c394
          (first | rw [c394b0] | (simp only [i64_w, i32_w]; rw [c394b0]) | skip)
          have H' := Aside0.mk H
          clear H
          go_wp2
          go_meet
          case rel => exact ⟨_, (false), (by first | rfl | (simp; done) | (simp [*]; done)), H', ⟨by have := HJ8.out; have := HJ178.out; have := HJ180.out; first | omega | exact Nat.le_refl _⟩, ⟨pk_⟩, ⟨pk_⟩, ⟨pk_⟩, ⟨pk_⟩, ⟨pk_⟩, ⟨pk_⟩, ⟨pk_⟩, ⟨pk_⟩, ⟨pk_⟩, ⟨bl_⟩⟩
        case rest => as_aux_lemma =>
         clear HC393; (try clear c178); (try clear hcz16_0); (try clear hcz16_1); (try clear hcz18_0); (try clear hcz18_1); (try clear hcz19_0); (try clear hcz19_1); (try clear hcz25_0); (try clear hcz25_1); (try clear hcz26_0); (try clear hcz26_1); (try clear hcz27_0); (try clear hcz27_1); (try clear hcz34_0); (try clear hcz34_1); (try clear hcz35_0); (try clear hcz35_1); (try clear hcz36_0); (try clear hcz36_1); (try clear hcz44_0); (try clear hcz44_1); (try clear hcz45_0); (try clear hcz45_1); (try clear hcz46_0); (try clear hcz46_1); (try clear hcz55_0); (try clear hcz55_1); (try clear hcz56_0); (try clear hcz56_1); (try clear hcz57_0); (try clear hcz57_1); (try clear hcz67_0); (try clear hcz67_1); (try clear hcz68_0); (try clear hcz68_1); (try clear hcz69_0); (try clear hcz69_1); (try clear hcz80_0); (try clear hcz80_1); (try clear hfz16_0); (try clear hfz16_1); (try clear hfz18_0); (try clear hfz18_1); (try clear hfz19_0); (try clear hfz19_1); (try clear hfz25_0); (try clear hfz25_1); (try clear hfz26_0); (try clear hfz26_1); (try clear hfz27_0); (try clear hfz27_1); (try clear hfz34_0); (try clear hfz34_1); (try clear hfz35_0); (try clear hfz35_1); (try clear hfz36_0); (try clear hfz36_1); (try clear hfz44_0); (try clear hfz44_1); (try clear hfz45_0); (try clear hfz45_1); (try clear hfz46_0); (try clear hfz46_1); (try clear hfz55_0); (try clear hfz55_1); (try clear hfz56_0); (try clear hfz56_1); (try clear hfz57_0); (try clear hfz57_1); (try clear hfz67_0); (try clear hfz67_1); (try clear hfz68_0); (try clear hfz68_1); (try clear hfz69_0); (try clear hfz69_1); (try clear hfz80_0); (try clear hfz80_1)
         obtain ⟨kq, x139_392, rfl, HA, HJ392, BK243, BK244, BK245, BK249, BK253, BK257, BK261, BK265, BK269, HB⟩ := hcut
         cases kq with
         | zero => exact absurd HA.out (by simp [dioramalaw04_RatioLaws.j4])
         | succ kj392 =>
          have H := HA.out
          clear HA
          simp only [dioramalaw04_RatioLaws.j4] at H
          have HC395 := Aside0.mk H
          clear H
          go_upto_if 139 with (fail)
          go_cut [] (fun wc => ∃ (kq : Nat), Aside0 (dioramalaw04_RatioLaws.j5 kq t256 t260 t237 t238 t241 t242 t254 t255 t258 t259 = some r) ∧ Aside0 (kq ≤ kj392) ∧ Aside0 (wc.heap[gb243]? = some (.cells #[.int .i64 t237, .int .i64 t238] 24 (0, 0))) ∧ Aside0 (wc.heap[gb244]? = some (.cells #[.int .i64 t239, .int .i64 t240] 24 (0, 0))) ∧ Aside0 (wc.heap[gb245]? = some (.cells #[.int .i64 t241, .int .i64 t242] 24 (0, 0))) ∧ Aside0 (wc.heap[gb249]? = some (.cells #[.int .i64 t246, .int .i64 t247] 24 (0, 0))) ∧ Aside0 (wc.heap[gb253]? = some (.cells #[.int .i64 t250, .int .i64 t251] 24 (0, 0))) ∧ Aside0 (wc.heap[gb257]? = some (.cells #[.int .i64 t254, .int .i64 t255] 24 (0, 0))) ∧ Aside0 (wc.heap[gb261]? = some (.cells #[.int .i64 t258, .int .i64 t259] 24 (0, 0))) ∧ Aside0 (wc.heap[gb265]? = some (.cells #[.int .i64 t262, .int .i64 t263] 24 (0, 0))) ∧ Aside0 (wc.heap[gb269]? = some (.cells #[.int .i64 t266, .int .i64 t267] 24 (0, 0))) ∧ Aside0 (Below w.heap.size w wc))
          case first => as_aux_lemma =>
           have H := HC395.out
           clear HC395
           by_cases c396 : x139_392 = true
           ·subst c396
            have H1 : ((ratio_Mul.f kj392 t258 t259 t241 t242).bind fun bt283 => ((ratio_Mul.f kj392 t237 t238 t266 t267).bind fun bt287 => (if bt283.2.2 = bt287.2.2 then (if (!(bt283.1 == bt287.1) || (!(bt283.2.1 == bt287.2.1))) = true then (some false) else (dioramalaw04_RatioLaws.j5 kj392 t256 t260 t237 t238 t241 t242 t254 t255 t258 t259)) else (some false)))) = some r := by rw [if_pos rfl] at H; exact H
            clear H
            have H := H1
            clear H1
            replace H := Option.bind_eq_some_iff.mp H
            obtain ⟨⟨t283, t284, t285⟩, A3970, H⟩ := H
            replace H : ((ratio_Mul.f kj392 t237 t238 t266 t267).bind fun bt287 => (if t285 = bt287.2.2 then (if (!(t283 == bt287.1) || (!(t284 == bt287.2.1))) = true then (some false) else (dioramalaw04_RatioLaws.j5 kj392 t256 t260 t237 t238 t241 t242 t254 t255 t258 t259)) else (some false))) = some r := H
            have A397 := Aside0.mk A3970
            clear A3970
            replace H := Option.bind_eq_some_iff.mp H
            obtain ⟨⟨t287, t288, t289⟩, A3980, H⟩ := H
            replace H : (if t285 = t289 then (if (!(t283 == t287) || (!(t284 == t288))) = true then (some false) else (dioramalaw04_RatioLaws.j5 kj392 t256 t260 t237 t238 t241 t242 t254 t255 t258 t259)) else (some false)) = some r := H
            have A398 := Aside0.mk A3980
            clear A3980
            by_cases c399 : t285 = t289
            ·rw [if_pos c399] at H
             have c399b0 : (t285 == t289) = true := beq_iff_eq.mpr c399
             have c399b1 : (t285 != t289) = false := bne_eq_false_iff_eq.mpr c399
             clear c399
             (first | rw [c399b0] | (simp only [i64_w, i32_w]; rw [c399b0]) | skip)
             by_cases c400 : (!(t283 == t287) || (!(t284 == t288))) = true
             ·rw [if_pos c400] at H
              have c400b0 : (!(t283 == t287) || (!(t284 == t288))) = true := c400
              clear c400
              obtain rfl := Option.some.inj H
              cases hr
             ·rw [if_neg c400] at H
              have c400b0 : (!(t283 == t287) || (!(t284 == t288))) = false := by simpa using c400
              clear c400
              have H' := Aside0.mk H
              clear H
              have hcz465_0 : wc.cell? ⟨gb261, 0, none⟩ = some (.int .i64 t258) := (blk_cell BK261.out 0).trans rfl
              have hcz465_1 : wc.cell? ⟨gb261, 1, none⟩ = some (.int .i64 t259) := (blk_cell BK261.out 1).trans rfl
              have hfz465_0 := blk_frozen BK261.out 0; have hfz465_1 := blk_frozen BK261.out 1
              have hcz473_0 : wc.cell? ⟨gb245, 0, none⟩ = some (.int .i64 t241) := (blk_cell BK245.out 0).trans rfl
              have hcz473_1 : wc.cell? ⟨gb245, 1, none⟩ = some (.int .i64 t242) := (blk_cell BK245.out 1).trans rfl
              have hfz473_0 := blk_frozen BK245.out 0; have hfz473_1 := blk_frozen BK245.out 1
              go_wp2_with (first | ((with_reducible refine gate_callee (f := 12) rfl ?_); refine goesL_ (some 143) rfl rfl Tryd.func12 (by kernel_rfl) rfl #[.agg #[.int .i64 t258, .int .i64 t259], .agg #[.int .i64 t241, .int .i64 t242]] rfl (by (try simp only [List.map_toArray, List.map_cons, List.map_nil]); first | done | rfl | (simp only [List.length_drop, List.length_take]; rfl)) ?_; (with_reducible refine (ratio_Mul.calls kj392 t258 t259 t241 t242 t283 t284 t285 _ A397.out).mono ?_); rintro e w474 ⟨rfl, hb⟩; refine ⟨_, rfl, ?_⟩; replace BK243 := up_ BK243 hb; replace BK244 := up_ BK244 hb; replace BK245 := up_ BK245 hb; replace BK249 := up_ BK249 hb; replace BK253 := up_ BK253 hb; replace BK257 := up_ BK257 hb; replace BK261 := up_ BK261 hb; replace BK265 := up_ BK265 hb; replace BK269 := up_ BK269 hb; replace HB := Aside0.mk (below_step bl_ hb); (try clear hb); (try clear hb2); (try clear hk); (try clear hi)) | ((with_reducible refine gate_dst (N := 24) rfl ?_); refine box_event ?hg (N := 24) ?hd (cs := #[.int .i64 0, .int .i64 0]) (t := 24) ?hr ?_; (case hd => rfl); (case hg => rfl); (case hr => first | (go_simp; done) | (go_simp; rfl)); intro gb286 hg w475 hbox hb; have BK286 := Aside0.mk (hbox); have GW286 := gw_ (w := w) hg; have GE286 := gw_ (w := w) hg; have NB243_286 := nl_ BK243 hg; have NB286_243 := ng_ BK243 hg; have NB244_286 := nl_ BK244 hg; have NB286_244 := ng_ BK244 hg; have NB245_286 := nl_ BK245 hg; have NB286_245 := ng_ BK245 hg; have NB249_286 := nl_ BK249 hg; have NB286_249 := ng_ BK249 hg; have NB253_286 := nl_ BK253 hg; have NB286_253 := ng_ BK253 hg; have NB257_286 := nl_ BK257 hg; have NB286_257 := ng_ BK257 hg; have NB261_286 := nl_ BK261 hg; have NB286_261 := ng_ BK261 hg; have NB265_286 := nl_ BK265 hg; have NB286_265 := ng_ BK265 hg; have NB269_286 := nl_ BK269 hg; have NB286_269 := ng_ BK269 hg; replace BK243 := up_ BK243 hb; replace BK244 := up_ BK244 hb; replace BK245 := up_ BK245 hb; replace BK249 := up_ BK249 hb; replace BK253 := up_ BK253 hb; replace BK257 := up_ BK257 hb; replace BK261 := up_ BK261 hb; replace BK265 := up_ BK265 hb; replace BK269 := up_ BK269 hb; replace HB := Aside0.mk (below_step bl_ hb); clear hb hbox hg; have hnb476 := NB286_243.out; have hnc476 := NB243_286.out; have hnb477 := NB286_244.out; have hnc477 := NB244_286.out; have hnb478 := NB286_245.out; have hnc478 := NB245_286.out; have hnb479 := NB286_249.out; have hnc479 := NB249_286.out; have hnb480 := NB286_253.out; have hnc480 := NB253_286.out; have hnb481 := NB286_257.out; have hnc481 := NB257_286.out; have hnb482 := NB286_261.out; have hnc482 := NB261_286.out; have hnb483 := NB286_265.out; have hnc483 := NB265_286.out; have hnb484 := NB286_269.out; have hnc484 := NB269_286.out; have hcz485_0 : w475.cell? ⟨gb286, 0, none⟩ = some (.int .i64 0) := (blk_cell BK286.out 0).trans rfl; have hcz485_1 : w475.cell? ⟨gb286, 1, none⟩ = some (.int .i64 0) := (blk_cell BK286.out 1).trans rfl; have hfz485_0 := blk_frozen BK286.out 0; have hfz485_1 := blk_frozen BK286.out 1; have hcz492_0 : w475.cell? ⟨gb243, 0, none⟩ = some (.int .i64 t237) := (blk_cell BK243.out 0).trans rfl; have hcz492_1 : w475.cell? ⟨gb243, 1, none⟩ = some (.int .i64 t238) := (blk_cell BK243.out 1).trans rfl; have hfz492_0 := blk_frozen BK243.out 0; have hfz492_1 := blk_frozen BK243.out 1; have hcz498_0 : w475.cell? ⟨gb269, 0, none⟩ = some (.int .i64 t266) := (blk_cell BK269.out 0).trans rfl; have hcz498_1 : w475.cell? ⟨gb269, 1, none⟩ = some (.int .i64 t267) := (blk_cell BK269.out 1).trans rfl; have hfz498_0 := blk_frozen BK269.out 0; have hfz498_1 := blk_frozen BK269.out 1) | ((with_reducible refine gate_callee (f := 12) rfl ?_); refine goesL_ (some 149) rfl rfl Tryd.func12 (by kernel_rfl) rfl #[.agg #[.int .i64 t237, .int .i64 t238], .agg #[.int .i64 t266, .int .i64 t267]] rfl (by (try simp only [List.map_toArray, List.map_cons, List.map_nil]); first | done | rfl | (simp only [List.length_drop, List.length_take]; rfl)) ?_; (with_reducible refine (ratio_Mul.calls kj392 t237 t238 t266 t267 t287 t288 t289 _ A398.out).mono ?_); rintro e w499 ⟨rfl, hb⟩; refine ⟨_, rfl, ?_⟩; replace BK243 := up_ BK243 hb; replace BK244 := up_ BK244 hb; replace BK245 := up_ BK245 hb; replace BK249 := up_ BK249 hb; replace BK253 := up_ BK253 hb; replace BK257 := up_ BK257 hb; replace BK261 := up_ BK261 hb; replace BK265 := up_ BK265 hb; replace BK269 := up_ BK269 hb; replace BK286 := up24_ gb286 t283 t284 hb; replace HB := Aside0.mk (below_step bl_ hb); (try clear hb); (try clear hb2); (try clear hk); (try clear hi)) | ((with_reducible refine gate_dst (N := 26) rfl ?_); refine box_event ?hg (N := 26) ?hd (cs := #[.int .i64 0, .int .i64 0]) (t := 24) ?hr ?_; (case hd => rfl); (case hg => rfl); (case hr => first | (go_simp; done) | (go_simp; rfl)); intro gb290 hg w500 hbox hb; have BK290 := Aside0.mk (hbox); have GW290 := gw_ (w := w) hg; have GE290 := gw_ (w := w) hg; have NB243_290 := nl_ BK243 hg; have NB290_243 := ng_ BK243 hg; have NB244_290 := nl_ BK244 hg; have NB290_244 := ng_ BK244 hg; have NB245_290 := nl_ BK245 hg; have NB290_245 := ng_ BK245 hg; have NB249_290 := nl_ BK249 hg; have NB290_249 := ng_ BK249 hg; have NB253_290 := nl_ BK253 hg; have NB290_253 := ng_ BK253 hg; have NB257_290 := nl_ BK257 hg; have NB290_257 := ng_ BK257 hg; have NB261_290 := nl_ BK261 hg; have NB290_261 := ng_ BK261 hg; have NB265_290 := nl_ BK265 hg; have NB290_265 := ng_ BK265 hg; have NB269_290 := nl_ BK269 hg; have NB290_269 := ng_ BK269 hg; have NB286_290 := nl_ BK286 hg; have NB290_286 := ng_ BK286 hg; replace BK243 := up_ BK243 hb; replace BK244 := up_ BK244 hb; replace BK245 := up_ BK245 hb; replace BK249 := up_ BK249 hb; replace BK253 := up_ BK253 hb; replace BK257 := up_ BK257 hb; replace BK261 := up_ BK261 hb; replace BK265 := up_ BK265 hb; replace BK269 := up_ BK269 hb; replace BK286 := up_ BK286 hb; replace HB := Aside0.mk (below_step bl_ hb); clear hb hbox hg; clear hnb476 hnc476 hnb477 hnc477 hnb478 hnc478 hnb479 hnc479 hnb480 hnc480 hnb481 hnc481 hnb482 hnc482 hnb483 hnc483 hnb484 hnc484 hcz485_0 hcz485_1 hfz485_0 hfz485_1 hcz492_0 hcz492_1 hfz492_0 hfz492_1 hcz498_0 hcz498_1 hfz498_0 hfz498_1; have hnb501 := NB290_243.out; have hnc501 := NB243_290.out; have hnb502 := NB290_244.out; have hnc502 := NB244_290.out; have hnb503 := NB290_245.out; have hnc503 := NB245_290.out; have hnb504 := NB290_249.out; have hnc504 := NB249_290.out; have hnb505 := NB290_253.out; have hnc505 := NB253_290.out; have hnb506 := NB290_257.out; have hnc506 := NB257_290.out; have hnb507 := NB290_261.out; have hnc507 := NB261_290.out; have hnb508 := NB290_265.out; have hnc508 := NB265_290.out; have hnb509 := NB290_269.out; have hnc509 := NB269_290.out; have hnb510 := NB290_286.out; have hnc510 := NB286_290.out; have hcz511_0 : w500.cell? ⟨gb290, 0, none⟩ = some (.int .i64 0) := (blk_cell BK290.out 0).trans rfl; have hcz511_1 : w500.cell? ⟨gb290, 1, none⟩ = some (.int .i64 0) := (blk_cell BK290.out 1).trans rfl; have hfz511_0 := blk_frozen BK290.out 0; have hfz511_1 := blk_frozen BK290.out 1; have hcz512_0 : w500.cell? ⟨gb286, 0, none⟩ = some (.int .i64 t283) := (blk_cell BK286.out 0).trans rfl; have hcz512_1 : w500.cell? ⟨gb286, 1, none⟩ = some (.int .i64 t284) := (blk_cell BK286.out 1).trans rfl; have hfz512_0 := blk_frozen BK286.out 0; have hfz512_1 := blk_frozen BK286.out 1))
              go_meet
              case rel => exact ⟨_, H', ⟨by have := HJ8.out; have := HJ178.out; have := HJ180.out; have := HJ392.out; first | omega | exact Nat.le_refl _⟩, ⟨pk_⟩, ⟨pk_⟩, ⟨pk_⟩, ⟨pk_⟩, ⟨pk_⟩, ⟨pk_⟩, ⟨pk_⟩, ⟨pk_⟩, ⟨pk_⟩, ⟨bl_⟩⟩
            ·rw [if_neg c399] at H
             have c399b0 : (t285 == t289) = false := beq_eq_false_iff_ne.mpr c399
             have c399b1 : (t285 != t289) = true := bne_iff_ne.mpr c399
             (first | rw [c399b0] | (simp only [i64_w, i32_w]; rw [c399b0]) | skip)
             obtain rfl := Option.some.inj H
             cases hr
           ·replace c396 := Bool.eq_false_iff.mpr c396
            subst c396
            have H1 : (dioramalaw04_RatioLaws.j5 kj392 t256 t260 t237 t238 t241 t242 t254 t255 t258 t259) = some r := by rw [if_neg (show ¬ (false = true) by decide)] at H; exact H
            clear H
            have H := H1
            clear H1
            have H' := Aside0.mk H
            clear H
            go_wp2
            go_meet
            case rel => exact ⟨_, H', ⟨by have := HJ8.out; have := HJ178.out; have := HJ180.out; have := HJ392.out; first | omega | exact Nat.le_refl _⟩, ⟨pk_⟩, ⟨pk_⟩, ⟨pk_⟩, ⟨pk_⟩, ⟨pk_⟩, ⟨pk_⟩, ⟨pk_⟩, ⟨pk_⟩, ⟨pk_⟩, ⟨bl_⟩⟩
          case rest => as_aux_lemma =>
           clear HC395; (try clear c178); (try clear hcz16_0); (try clear hcz16_1); (try clear hcz18_0); (try clear hcz18_1); (try clear hcz19_0); (try clear hcz19_1); (try clear hcz25_0); (try clear hcz25_1); (try clear hcz26_0); (try clear hcz26_1); (try clear hcz27_0); (try clear hcz27_1); (try clear hcz34_0); (try clear hcz34_1); (try clear hcz35_0); (try clear hcz35_1); (try clear hcz36_0); (try clear hcz36_1); (try clear hcz44_0); (try clear hcz44_1); (try clear hcz45_0); (try clear hcz45_1); (try clear hcz46_0); (try clear hcz46_1); (try clear hcz55_0); (try clear hcz55_1); (try clear hcz56_0); (try clear hcz56_1); (try clear hcz57_0); (try clear hcz57_1); (try clear hcz67_0); (try clear hcz67_1); (try clear hcz68_0); (try clear hcz68_1); (try clear hcz69_0); (try clear hcz69_1); (try clear hcz80_0); (try clear hcz80_1); (try clear hfz16_0); (try clear hfz16_1); (try clear hfz18_0); (try clear hfz18_1); (try clear hfz19_0); (try clear hfz19_1); (try clear hfz25_0); (try clear hfz25_1); (try clear hfz26_0); (try clear hfz26_1); (try clear hfz27_0); (try clear hfz27_1); (try clear hfz34_0); (try clear hfz34_1); (try clear hfz35_0); (try clear hfz35_1); (try clear hfz36_0); (try clear hfz36_1); (try clear hfz44_0); (try clear hfz44_1); (try clear hfz45_0); (try clear hfz45_1); (try clear hfz46_0); (try clear hfz46_1); (try clear hfz55_0); (try clear hfz55_1); (try clear hfz56_0); (try clear hfz56_1); (try clear hfz57_0); (try clear hfz57_1); (try clear hfz67_0); (try clear hfz67_1); (try clear hfz68_0); (try clear hfz68_1); (try clear hfz69_0); (try clear hfz69_1); (try clear hfz80_0); (try clear hfz80_1)
           obtain ⟨kq, HA, HJ394, BK243, BK244, BK245, BK249, BK253, BK257, BK261, BK265, BK269, HB⟩ := hcut
           cases kq with
           | zero => exact absurd HA.out (by simp [dioramalaw04_RatioLaws.j5])
           | succ kj394 =>
            have H := HA.out
            clear HA
            simp only [dioramalaw04_RatioLaws.j5] at H
            replace H := Option.bind_eq_some_iff.mp H
            obtain ⟨⟨t291, t292, t293⟩, A5680, H⟩ := H
            replace H : ((ratio_Mul.f kj394 t237 t238 t254 t255).bind fun bt295 => ((ratio_Add.f kj394 t258 t259 t291 t292).bind fun bt299 => (if t256 = 0 then (if t260 = 0 then (if t293 = 0 then (if bt295.2.2 = 0 then (dioramalaw04_RatioLaws.j6 kj394 (bt299.2.2 != 0) bt295.1 bt295.2.1 bt299.1 bt299.2.1) else (dioramalaw04_RatioLaws.j6 kj394 true bt295.1 bt295.2.1 bt299.1 bt299.2.1)) else (dioramalaw04_RatioLaws.j6 kj394 true bt295.1 bt295.2.1 bt299.1 bt299.2.1)) else (dioramalaw04_RatioLaws.j6 kj394 true bt295.1 bt295.2.1 bt299.1 bt299.2.1)) else (dioramalaw04_RatioLaws.j6 kj394 true bt295.1 bt295.2.1 bt299.1 bt299.2.1)))) = some r := H
            have A568 := Aside0.mk A5680
            clear A5680
            replace H := Option.bind_eq_some_iff.mp H
            obtain ⟨⟨t295, t296, t297⟩, A5690, H⟩ := H
            replace H : ((ratio_Add.f kj394 t258 t259 t291 t292).bind fun bt299 => (if t256 = 0 then (if t260 = 0 then (if t293 = 0 then (if t297 = 0 then (dioramalaw04_RatioLaws.j6 kj394 (bt299.2.2 != 0) t295 t296 bt299.1 bt299.2.1) else (dioramalaw04_RatioLaws.j6 kj394 true t295 t296 bt299.1 bt299.2.1)) else (dioramalaw04_RatioLaws.j6 kj394 true t295 t296 bt299.1 bt299.2.1)) else (dioramalaw04_RatioLaws.j6 kj394 true t295 t296 bt299.1 bt299.2.1)) else (dioramalaw04_RatioLaws.j6 kj394 true t295 t296 bt299.1 bt299.2.1))) = some r := H
            have A569 := Aside0.mk A5690
            clear A5690
            replace H := Option.bind_eq_some_iff.mp H
            obtain ⟨⟨t299, t300, t301⟩, A5700, H⟩ := H
            replace H : (if t256 = 0 then (if t260 = 0 then (if t293 = 0 then (if t297 = 0 then (dioramalaw04_RatioLaws.j6 kj394 (t301 != 0) t295 t296 t299 t300) else (dioramalaw04_RatioLaws.j6 kj394 true t295 t296 t299 t300)) else (dioramalaw04_RatioLaws.j6 kj394 true t295 t296 t299 t300)) else (dioramalaw04_RatioLaws.j6 kj394 true t295 t296 t299 t300)) else (dioramalaw04_RatioLaws.j6 kj394 true t295 t296 t299 t300)) = some r := H
            have A570 := Aside0.mk A5700
            clear A5700
            have HC571 := Aside0.mk H
            clear H
            have hcz580_0 : wc.cell? ⟨gb243, 0, none⟩ = some (.int .i64 t237) := (blk_cell BK243.out 0).trans rfl
            have hcz580_1 : wc.cell? ⟨gb243, 1, none⟩ = some (.int .i64 t238) := (blk_cell BK243.out 1).trans rfl
            have hfz580_0 := blk_frozen BK243.out 0; have hfz580_1 := blk_frozen BK243.out 1
            have hcz588_0 : wc.cell? ⟨gb245, 0, none⟩ = some (.int .i64 t241) := (blk_cell BK245.out 0).trans rfl
            have hcz588_1 : wc.cell? ⟨gb245, 1, none⟩ = some (.int .i64 t242) := (blk_cell BK245.out 1).trans rfl
            have hfz588_0 := blk_frozen BK245.out 0; have hfz588_1 := blk_frozen BK245.out 1
            go_upto_region 26 with (first | ((with_reducible refine gate_callee (f := 12) rfl ?_); refine goesL_ (some 163) rfl rfl Tryd.func12 (by kernel_rfl) rfl #[.agg #[.int .i64 t237, .int .i64 t238], .agg #[.int .i64 t241, .int .i64 t242]] rfl (by (try simp only [List.map_toArray, List.map_cons, List.map_nil]); first | done | rfl | (simp only [List.length_drop, List.length_take]; rfl)) ?_; (with_reducible refine (ratio_Mul.calls kj394 t237 t238 t241 t242 t291 t292 t293 _ A568.out).mono ?_); rintro e w589 ⟨rfl, hb⟩; refine ⟨_, rfl, ?_⟩; replace BK243 := up_ BK243 hb; replace BK244 := up_ BK244 hb; replace BK245 := up_ BK245 hb; replace BK249 := up_ BK249 hb; replace BK253 := up_ BK253 hb; replace BK257 := up_ BK257 hb; replace BK261 := up_ BK261 hb; replace BK265 := up_ BK265 hb; replace BK269 := up_ BK269 hb; replace HB := Aside0.mk (below_step bl_ hb); (try clear hb); (try clear hb2); (try clear hk); (try clear hi)) | ((with_reducible refine gate_dst (N := 28) rfl ?_); refine box_event ?hg (N := 28) ?hd (cs := #[.int .i64 0, .int .i64 0]) (t := 24) ?hr ?_; (case hd => rfl); (case hg => rfl); (case hr => first | (go_simp; done) | (go_simp; rfl)); intro gb294 hg w590 hbox hb; have BK294 := Aside0.mk (hbox); have GW294 := gw_ (w := w) hg; have GE294 := gw_ (w := w) hg; have NB243_294 := nl_ BK243 hg; have NB294_243 := ng_ BK243 hg; have NB244_294 := nl_ BK244 hg; have NB294_244 := ng_ BK244 hg; have NB245_294 := nl_ BK245 hg; have NB294_245 := ng_ BK245 hg; have NB249_294 := nl_ BK249 hg; have NB294_249 := ng_ BK249 hg; have NB253_294 := nl_ BK253 hg; have NB294_253 := ng_ BK253 hg; have NB257_294 := nl_ BK257 hg; have NB294_257 := ng_ BK257 hg; have NB261_294 := nl_ BK261 hg; have NB294_261 := ng_ BK261 hg; have NB265_294 := nl_ BK265 hg; have NB294_265 := ng_ BK265 hg; have NB269_294 := nl_ BK269 hg; have NB294_269 := ng_ BK269 hg; replace BK243 := up_ BK243 hb; replace BK244 := up_ BK244 hb; replace BK245 := up_ BK245 hb; replace BK249 := up_ BK249 hb; replace BK253 := up_ BK253 hb; replace BK257 := up_ BK257 hb; replace BK261 := up_ BK261 hb; replace BK265 := up_ BK265 hb; replace BK269 := up_ BK269 hb; replace HB := Aside0.mk (below_step bl_ hb); clear hb hbox hg; have hnb591 := NB294_243.out; have hnc591 := NB243_294.out; have hnb592 := NB294_244.out; have hnc592 := NB244_294.out; have hnb593 := NB294_245.out; have hnc593 := NB245_294.out; have hnb594 := NB294_249.out; have hnc594 := NB249_294.out; have hnb595 := NB294_253.out; have hnc595 := NB253_294.out; have hnb596 := NB294_257.out; have hnc596 := NB257_294.out; have hnb597 := NB294_261.out; have hnc597 := NB261_294.out; have hnb598 := NB294_265.out; have hnc598 := NB265_294.out; have hnb599 := NB294_269.out; have hnc599 := NB269_294.out; have hcz600_0 : w590.cell? ⟨gb294, 0, none⟩ = some (.int .i64 0) := (blk_cell BK294.out 0).trans rfl; have hcz600_1 : w590.cell? ⟨gb294, 1, none⟩ = some (.int .i64 0) := (blk_cell BK294.out 1).trans rfl; have hfz600_0 := blk_frozen BK294.out 0; have hfz600_1 := blk_frozen BK294.out 1; have hcz601_0 : w590.cell? ⟨gb243, 0, none⟩ = some (.int .i64 t237) := (blk_cell BK243.out 0).trans rfl; have hcz601_1 : w590.cell? ⟨gb243, 1, none⟩ = some (.int .i64 t238) := (blk_cell BK243.out 1).trans rfl; have hfz601_0 := blk_frozen BK243.out 0; have hfz601_1 := blk_frozen BK243.out 1; have hcz608_0 : w590.cell? ⟨gb257, 0, none⟩ = some (.int .i64 t254) := (blk_cell BK257.out 0).trans rfl; have hcz608_1 : w590.cell? ⟨gb257, 1, none⟩ = some (.int .i64 t255) := (blk_cell BK257.out 1).trans rfl; have hfz608_0 := blk_frozen BK257.out 0; have hfz608_1 := blk_frozen BK257.out 1) | ((with_reducible refine gate_callee (f := 12) rfl ?_); refine goesL_ (some 169) rfl rfl Tryd.func12 (by kernel_rfl) rfl #[.agg #[.int .i64 t237, .int .i64 t238], .agg #[.int .i64 t254, .int .i64 t255]] rfl (by (try simp only [List.map_toArray, List.map_cons, List.map_nil]); first | done | rfl | (simp only [List.length_drop, List.length_take]; rfl)) ?_; (with_reducible refine (ratio_Mul.calls kj394 t237 t238 t254 t255 t295 t296 t297 _ A569.out).mono ?_); rintro e w609 ⟨rfl, hb⟩; refine ⟨_, rfl, ?_⟩; replace BK243 := up_ BK243 hb; replace BK244 := up_ BK244 hb; replace BK245 := up_ BK245 hb; replace BK249 := up_ BK249 hb; replace BK253 := up_ BK253 hb; replace BK257 := up_ BK257 hb; replace BK261 := up_ BK261 hb; replace BK265 := up_ BK265 hb; replace BK269 := up_ BK269 hb; replace BK294 := up24_ gb294 t291 t292 hb; replace HB := Aside0.mk (below_step bl_ hb); (try clear hb); (try clear hb2); (try clear hk); (try clear hi)) | ((with_reducible refine gate_dst (N := 30) rfl ?_); refine box_event ?hg (N := 30) ?hd (cs := #[.int .i64 0, .int .i64 0]) (t := 24) ?hr ?_; (case hd => rfl); (case hg => rfl); (case hr => first | (go_simp; done) | (go_simp; rfl)); intro gb298 hg w610 hbox hb; have BK298 := Aside0.mk (hbox); have GW298 := gw_ (w := w) hg; have GE298 := gw_ (w := w) hg; have NB243_298 := nl_ BK243 hg; have NB298_243 := ng_ BK243 hg; have NB244_298 := nl_ BK244 hg; have NB298_244 := ng_ BK244 hg; have NB245_298 := nl_ BK245 hg; have NB298_245 := ng_ BK245 hg; have NB249_298 := nl_ BK249 hg; have NB298_249 := ng_ BK249 hg; have NB253_298 := nl_ BK253 hg; have NB298_253 := ng_ BK253 hg; have NB257_298 := nl_ BK257 hg; have NB298_257 := ng_ BK257 hg; have NB261_298 := nl_ BK261 hg; have NB298_261 := ng_ BK261 hg; have NB265_298 := nl_ BK265 hg; have NB298_265 := ng_ BK265 hg; have NB269_298 := nl_ BK269 hg; have NB298_269 := ng_ BK269 hg; have NB294_298 := nl_ BK294 hg; have NB298_294 := ng_ BK294 hg; replace BK243 := up_ BK243 hb; replace BK244 := up_ BK244 hb; replace BK245 := up_ BK245 hb; replace BK249 := up_ BK249 hb; replace BK253 := up_ BK253 hb; replace BK257 := up_ BK257 hb; replace BK261 := up_ BK261 hb; replace BK265 := up_ BK265 hb; replace BK269 := up_ BK269 hb; replace BK294 := up_ BK294 hb; replace HB := Aside0.mk (below_step bl_ hb); clear hb hbox hg; clear hnb591 hnc591 hnb592 hnc592 hnb593 hnc593 hnb594 hnc594 hnb595 hnc595 hnb596 hnc596 hnb597 hnc597 hnb598 hnc598 hnb599 hnc599 hcz600_0 hcz600_1 hfz600_0 hfz600_1 hcz601_0 hcz601_1 hfz601_0 hfz601_1 hcz608_0 hcz608_1 hfz608_0 hfz608_1; have hnb611 := NB298_243.out; have hnc611 := NB243_298.out; have hnb612 := NB298_244.out; have hnc612 := NB244_298.out; have hnb613 := NB298_245.out; have hnc613 := NB245_298.out; have hnb614 := NB298_249.out; have hnc614 := NB249_298.out; have hnb615 := NB298_253.out; have hnc615 := NB253_298.out; have hnb616 := NB298_257.out; have hnc616 := NB257_298.out; have hnb617 := NB298_261.out; have hnc617 := NB261_298.out; have hnb618 := NB298_265.out; have hnc618 := NB265_298.out; have hnb619 := NB298_269.out; have hnc619 := NB269_298.out; have hnb620 := NB298_294.out; have hnc620 := NB294_298.out; have hcz621_0 : w610.cell? ⟨gb298, 0, none⟩ = some (.int .i64 0) := (blk_cell BK298.out 0).trans rfl; have hcz621_1 : w610.cell? ⟨gb298, 1, none⟩ = some (.int .i64 0) := (blk_cell BK298.out 1).trans rfl; have hfz621_0 := blk_frozen BK298.out 0; have hfz621_1 := blk_frozen BK298.out 1; have hcz627_0 : w610.cell? ⟨gb261, 0, none⟩ = some (.int .i64 t258) := (blk_cell BK261.out 0).trans rfl; have hcz627_1 : w610.cell? ⟨gb261, 1, none⟩ = some (.int .i64 t259) := (blk_cell BK261.out 1).trans rfl; have hfz627_0 := blk_frozen BK261.out 0; have hfz627_1 := blk_frozen BK261.out 1; have hcz628_0 : w610.cell? ⟨gb294, 0, none⟩ = some (.int .i64 t291) := (blk_cell BK294.out 0).trans rfl; have hcz628_1 : w610.cell? ⟨gb294, 1, none⟩ = some (.int .i64 t292) := (blk_cell BK294.out 1).trans rfl; have hfz628_0 := blk_frozen BK294.out 0; have hfz628_1 := blk_frozen BK294.out 1) | ((with_reducible refine gate_callee (f := 11) rfl ?_); refine goesL_ (some 175) rfl rfl Tryd.func11 (by kernel_rfl) rfl #[.agg #[.int .i64 t258, .int .i64 t259], .agg #[.int .i64 t291, .int .i64 t292]] rfl (by (try simp only [List.map_toArray, List.map_cons, List.map_nil]); first | done | rfl | (simp only [List.length_drop, List.length_take]; rfl)) ?_; (with_reducible refine (ratio_Add.calls kj394 t258 t259 t291 t292 t299 t300 t301 _ A570.out).mono ?_); rintro e w629 ⟨rfl, hb⟩; refine ⟨_, rfl, ?_⟩; replace BK243 := up_ BK243 hb; replace BK244 := up_ BK244 hb; replace BK245 := up_ BK245 hb; replace BK249 := up_ BK249 hb; replace BK253 := up_ BK253 hb; replace BK257 := up_ BK257 hb; replace BK261 := up_ BK261 hb; replace BK265 := up_ BK265 hb; replace BK269 := up_ BK269 hb; replace BK294 := up_ BK294 hb; replace BK298 := up24_ gb298 t295 t296 hb; replace HB := Aside0.mk (below_step bl_ hb); (try clear hb); (try clear hb2); (try clear hk); (try clear hi)) | ((with_reducible refine gate_dst (N := 32) rfl ?_); refine box_event ?hg (N := 32) ?hd (cs := #[.int .i64 0, .int .i64 0]) (t := 24) ?hr ?_; (case hd => rfl); (case hg => rfl); (case hr => first | (go_simp; done) | (go_simp; rfl)); intro gb302 hg w630 hbox hb; have BK302 := Aside0.mk (hbox); have GW302 := gw_ (w := w) hg; have GE302 := gw_ (w := w) hg; have NB243_302 := nl_ BK243 hg; have NB302_243 := ng_ BK243 hg; have NB244_302 := nl_ BK244 hg; have NB302_244 := ng_ BK244 hg; have NB245_302 := nl_ BK245 hg; have NB302_245 := ng_ BK245 hg; have NB249_302 := nl_ BK249 hg; have NB302_249 := ng_ BK249 hg; have NB253_302 := nl_ BK253 hg; have NB302_253 := ng_ BK253 hg; have NB257_302 := nl_ BK257 hg; have NB302_257 := ng_ BK257 hg; have NB261_302 := nl_ BK261 hg; have NB302_261 := ng_ BK261 hg; have NB265_302 := nl_ BK265 hg; have NB302_265 := ng_ BK265 hg; have NB269_302 := nl_ BK269 hg; have NB302_269 := ng_ BK269 hg; have NB294_302 := nl_ BK294 hg; have NB302_294 := ng_ BK294 hg; have NB298_302 := nl_ BK298 hg; have NB302_298 := ng_ BK298 hg; replace BK243 := up_ BK243 hb; replace BK244 := up_ BK244 hb; replace BK245 := up_ BK245 hb; replace BK249 := up_ BK249 hb; replace BK253 := up_ BK253 hb; replace BK257 := up_ BK257 hb; replace BK261 := up_ BK261 hb; replace BK265 := up_ BK265 hb; replace BK269 := up_ BK269 hb; replace BK294 := up_ BK294 hb; replace BK298 := up_ BK298 hb; replace HB := Aside0.mk (below_step bl_ hb); clear hb hbox hg; clear hnb611 hnc611 hnb612 hnc612 hnb613 hnc613 hnb614 hnc614 hnb615 hnc615 hnb616 hnc616 hnb617 hnc617 hnb618 hnc618 hnb619 hnc619 hnb620 hnc620 hcz621_0 hcz621_1 hfz621_0 hfz621_1 hcz627_0 hcz627_1 hfz627_0 hfz627_1 hcz628_0 hcz628_1 hfz628_0 hfz628_1; have hnb631 := NB302_243.out; have hnc631 := NB243_302.out; have hnb632 := NB302_244.out; have hnc632 := NB244_302.out; have hnb633 := NB302_245.out; have hnc633 := NB245_302.out; have hnb634 := NB302_249.out; have hnc634 := NB249_302.out; have hnb635 := NB302_253.out; have hnc635 := NB253_302.out; have hnb636 := NB302_257.out; have hnc636 := NB257_302.out; have hnb637 := NB302_261.out; have hnc637 := NB261_302.out; have hnb638 := NB302_265.out; have hnc638 := NB265_302.out; have hnb639 := NB302_269.out; have hnc639 := NB269_302.out; have hnb640 := NB302_294.out; have hnc640 := NB294_302.out; have hnb641 := NB302_298.out; have hnc641 := NB298_302.out; have hcz642_0 : w630.cell? ⟨gb302, 0, none⟩ = some (.int .i64 0) := (blk_cell BK302.out 0).trans rfl; have hcz642_1 : w630.cell? ⟨gb302, 1, none⟩ = some (.int .i64 0) := (blk_cell BK302.out 1).trans rfl; have hfz642_0 := blk_frozen BK302.out 0; have hfz642_1 := blk_frozen BK302.out 1))
            (try simp only [Act.put, List.setIfInBounds_toArray, List.set_cons_zero, List.set_cons_succ])
            go_cut [195] (fun v195 wc => ∃ (kq : Nat) (x195_570 : Bool), v195 = .bool x195_570 ∧ Aside0 (dioramalaw04_RatioLaws.j6 kq x195_570 t295 t296 t299 t300 = some r) ∧ Aside0 (kq ≤ kj394) ∧ Aside0 (wc.heap[gb243]? = some (.cells #[.int .i64 t237, .int .i64 t238] 24 (0, 0))) ∧ Aside0 (wc.heap[gb244]? = some (.cells #[.int .i64 t239, .int .i64 t240] 24 (0, 0))) ∧ Aside0 (wc.heap[gb245]? = some (.cells #[.int .i64 t241, .int .i64 t242] 24 (0, 0))) ∧ Aside0 (wc.heap[gb249]? = some (.cells #[.int .i64 t246, .int .i64 t247] 24 (0, 0))) ∧ Aside0 (wc.heap[gb253]? = some (.cells #[.int .i64 t250, .int .i64 t251] 24 (0, 0))) ∧ Aside0 (wc.heap[gb257]? = some (.cells #[.int .i64 t254, .int .i64 t255] 24 (0, 0))) ∧ Aside0 (wc.heap[gb261]? = some (.cells #[.int .i64 t258, .int .i64 t259] 24 (0, 0))) ∧ Aside0 (wc.heap[gb265]? = some (.cells #[.int .i64 t262, .int .i64 t263] 24 (0, 0))) ∧ Aside0 (wc.heap[gb269]? = some (.cells #[.int .i64 t266, .int .i64 t267] 24 (0, 0))) ∧ Aside0 (wc.heap[gb294]? = some (.cells #[.int .i64 t291, .int .i64 t292] 24 (0, 0))) ∧ Aside0 (wc.heap[gb298]? = some (.cells #[.int .i64 t295, .int .i64 t296] 24 (0, 0))) ∧ Aside0 (wc.heap[gb302]? = some (.cells #[.int .i64 t299, .int .i64 t300] 24 (0, 0))) ∧ Aside0 (Below w.heap.size w wc))
            case first => as_aux_lemma =>
             have H := HC571.out
             clear HC571
             by_cases c643 : t256 = 0
             ·rw [if_pos c643] at H
              have c643b0 : (t256 == 0) = true := beq_iff_eq.mpr c643
              have c643b1 : (t256 != 0) = false := bne_eq_false_iff_eq.mpr c643
              clear c643
              (first | rw [c643b0] | (simp only [i64_w, i32_w]; rw [c643b0]) | skip)
              by_cases c644 : t260 = 0
              ·rw [if_pos c644] at H
               have c644b0 : (t260 == 0) = true := beq_iff_eq.mpr c644
               have c644b1 : (t260 != 0) = false := bne_eq_false_iff_eq.mpr c644
               clear c644
               by_cases c645 : t293 = 0
               ·rw [if_pos c645] at H
                have c645b0 : (t293 == 0) = true := beq_iff_eq.mpr c645
                have c645b1 : (t293 != 0) = false := bne_eq_false_iff_eq.mpr c645
                clear c645
                by_cases c646 : t297 = 0
                ·rw [if_pos c646] at H
                 have c646b0 : (t297 == 0) = true := beq_iff_eq.mpr c646
                 have c646b1 : (t297 != 0) = false := bne_eq_false_iff_eq.mpr c646
                 clear c646
                 have H' := Aside0.mk H
                 clear H
                 go_wp2
                 go_meet
                 case rel => exact ⟨_, ((t301 != 0)), (by first | rfl | (simp; done) | (simp [*]; done)), H', ⟨by have := HJ8.out; have := HJ178.out; have := HJ180.out; have := HJ392.out; have := HJ394.out; first | omega | exact Nat.le_refl _⟩, ⟨pk_⟩, ⟨pk_⟩, ⟨pk_⟩, ⟨pk_⟩, ⟨pk_⟩, ⟨pk_⟩, ⟨pk_⟩, ⟨pk_⟩, ⟨pk_⟩, ⟨pk_⟩, ⟨pk_⟩, ⟨pk_⟩, ⟨bl_⟩⟩
                ·rw [if_neg c646] at H
                 have c646b0 : (t297 == 0) = false := beq_eq_false_iff_ne.mpr c646
                 have c646b1 : (t297 != 0) = true := bne_iff_ne.mpr c646
                 have H' := Aside0.mk H
                 clear H
                 go_wp2
                 go_meet
                 case rel => exact ⟨_, (true), (by first | rfl | (simp; done) | (simp [*]; done)), H', ⟨by have := HJ8.out; have := HJ178.out; have := HJ180.out; have := HJ392.out; have := HJ394.out; first | omega | exact Nat.le_refl _⟩, ⟨pk_⟩, ⟨pk_⟩, ⟨pk_⟩, ⟨pk_⟩, ⟨pk_⟩, ⟨pk_⟩, ⟨pk_⟩, ⟨pk_⟩, ⟨pk_⟩, ⟨pk_⟩, ⟨pk_⟩, ⟨pk_⟩, ⟨bl_⟩⟩
               ·rw [if_neg c645] at H
                have c645b0 : (t293 == 0) = false := beq_eq_false_iff_ne.mpr c645
                have c645b1 : (t293 != 0) = true := bne_iff_ne.mpr c645
                have H' := Aside0.mk H
                clear H
                go_wp2
                go_meet
                case rel => exact ⟨_, (true), (by first | rfl | (simp; done) | (simp [*]; done)), H', ⟨by have := HJ8.out; have := HJ178.out; have := HJ180.out; have := HJ392.out; have := HJ394.out; first | omega | exact Nat.le_refl _⟩, ⟨pk_⟩, ⟨pk_⟩, ⟨pk_⟩, ⟨pk_⟩, ⟨pk_⟩, ⟨pk_⟩, ⟨pk_⟩, ⟨pk_⟩, ⟨pk_⟩, ⟨pk_⟩, ⟨pk_⟩, ⟨pk_⟩, ⟨bl_⟩⟩
              ·rw [if_neg c644] at H
               have c644b0 : (t260 == 0) = false := beq_eq_false_iff_ne.mpr c644
               have c644b1 : (t260 != 0) = true := bne_iff_ne.mpr c644
               have H' := Aside0.mk H
               clear H
               go_wp2
               go_meet
               case rel => exact ⟨_, (true), (by first | rfl | (simp; done) | (simp [*]; done)), H', ⟨by have := HJ8.out; have := HJ178.out; have := HJ180.out; have := HJ392.out; have := HJ394.out; first | omega | exact Nat.le_refl _⟩, ⟨pk_⟩, ⟨pk_⟩, ⟨pk_⟩, ⟨pk_⟩, ⟨pk_⟩, ⟨pk_⟩, ⟨pk_⟩, ⟨pk_⟩, ⟨pk_⟩, ⟨pk_⟩, ⟨pk_⟩, ⟨pk_⟩, ⟨bl_⟩⟩
             ·rw [if_neg c643] at H
              have c643b0 : (t256 == 0) = false := beq_eq_false_iff_ne.mpr c643
              have c643b1 : (t256 != 0) = true := bne_iff_ne.mpr c643
              (first | rw [c643b0] | (simp only [i64_w, i32_w]; rw [c643b0]) | skip)
              have H' := Aside0.mk H
              clear H
              go_wp2
              go_meet
              case rel => exact ⟨_, (true), (by first | rfl | (simp; done) | (simp [*]; done)), H', ⟨by have := HJ8.out; have := HJ178.out; have := HJ180.out; have := HJ392.out; have := HJ394.out; first | omega | exact Nat.le_refl _⟩, ⟨pk_⟩, ⟨pk_⟩, ⟨pk_⟩, ⟨pk_⟩, ⟨pk_⟩, ⟨pk_⟩, ⟨pk_⟩, ⟨pk_⟩, ⟨pk_⟩, ⟨pk_⟩, ⟨pk_⟩, ⟨pk_⟩, ⟨bl_⟩⟩
            case rest => as_aux_lemma =>
             clear hnb631 hnc631 hnb632 hnc632 hnb633 hnc633 hnb634 hnc634 hnb635 hnc635 hnb636 hnc636 hnb637 hnc637 hnb638 hnc638 hnb639 hnc639 hnb640 hnc640 hnb641 hnc641 hcz642_0 hcz642_1 hfz642_0 hfz642_1
             clear HC571; (try clear hcz16_0); (try clear hcz16_1); (try clear hcz18_0); (try clear hcz18_1); (try clear hcz19_0); (try clear hcz19_1); (try clear hcz25_0); (try clear hcz25_1); (try clear hcz26_0); (try clear hcz26_1); (try clear hcz27_0); (try clear hcz27_1); (try clear hcz34_0); (try clear hcz34_1); (try clear hcz35_0); (try clear hcz35_1); (try clear hcz36_0); (try clear hcz36_1); (try clear hcz44_0); (try clear hcz44_1); (try clear hcz45_0); (try clear hcz45_1); (try clear hcz46_0); (try clear hcz46_1); (try clear hcz55_0); (try clear hcz55_1); (try clear hcz56_0); (try clear hcz56_1); (try clear hcz57_0); (try clear hcz57_1); (try clear hcz580_0); (try clear hcz580_1); (try clear hcz588_0); (try clear hcz588_1); (try clear hcz600_0); (try clear hcz600_1); (try clear hcz601_0); (try clear hcz601_1); (try clear hcz608_0); (try clear hcz608_1); (try clear hcz621_0); (try clear hcz621_1); (try clear hcz627_0); (try clear hcz627_1); (try clear hcz628_0); (try clear hcz628_1); (try clear hcz642_0); (try clear hcz642_1); (try clear hcz67_0); (try clear hcz67_1); (try clear hcz68_0); (try clear hcz68_1); (try clear hcz69_0); (try clear hcz69_1); (try clear hcz80_0); (try clear hcz80_1); (try clear hfz16_0); (try clear hfz16_1); (try clear hfz18_0); (try clear hfz18_1); (try clear hfz19_0); (try clear hfz19_1); (try clear hfz25_0); (try clear hfz25_1); (try clear hfz26_0); (try clear hfz26_1); (try clear hfz27_0); (try clear hfz27_1); (try clear hfz34_0); (try clear hfz34_1); (try clear hfz35_0); (try clear hfz35_1); (try clear hfz36_0); (try clear hfz36_1); (try clear hfz44_0); (try clear hfz44_1); (try clear hfz45_0); (try clear hfz45_1); (try clear hfz46_0); (try clear hfz46_1); (try clear hfz55_0); (try clear hfz55_1); (try clear hfz56_0); (try clear hfz56_1); (try clear hfz57_0); (try clear hfz57_1); (try clear hfz580_0); (try clear hfz580_1); (try clear hfz588_0); (try clear hfz588_1); (try clear hfz600_0); (try clear hfz600_1); (try clear hfz601_0); (try clear hfz601_1); (try clear hfz608_0); (try clear hfz608_1); (try clear hfz621_0); (try clear hfz621_1); (try clear hfz627_0); (try clear hfz627_1); (try clear hfz628_0); (try clear hfz628_1); (try clear hfz642_0); (try clear hfz642_1); (try clear hfz67_0); (try clear hfz67_1); (try clear hfz68_0); (try clear hfz68_1); (try clear hfz69_0); (try clear hfz69_1); (try clear hfz80_0); (try clear hfz80_1)
             obtain ⟨kq, x195_570, rfl, HA, HJ570, BK243, BK244, BK245, BK249, BK253, BK257, BK261, BK265, BK269, BK294, BK298, BK302, HB⟩ := hcut
             cases kq with
             | zero => exact absurd HA.out (by simp [dioramalaw04_RatioLaws.j6])
             | succ kj570 =>
              have H := HA.out
              clear HA
              simp only [dioramalaw04_RatioLaws.j6] at H
              by_cases c647 : x195_570 = true
              ·subst c647
               have H1 : ((dioramalaw04_lives.f kj570).bind fun t303 => (some t303)) = some r := by rw [if_pos rfl] at H; exact H
               clear H
               have H := H1
               clear H1
               replace H := Option.bind_eq_some_iff.mp H
               obtain ⟨t303, A6480, H⟩ := H
               replace H : (some t303) = some r := H
               have A648 := Aside0.mk A6480
               clear A6480
               obtain rfl := Option.some.inj H
               go_wp2_with (first | ((with_reducible refine gate_callee (f := 15) rfl ?_); refine goesL_ (some 196) rfl rfl Tryd.func15 (by kernel_rfl) rfl #[] rfl (by (try simp only [List.map_toArray, List.map_cons, List.map_nil]); first | done | rfl | (simp only [List.length_drop, List.length_take]; rfl)) ?_; (with_reducible refine (dioramalaw04_lives.calls (hv := hv.step (by repeat (first | (with_reducible first | exact HB.out | apply below_alloc | apply pw_below_drewN | apply below_drew1 | refine below_set ?_ (Aside0.out (by assumption))) | exact HB.out))) kj570  t303 _ A648.out).mono ?_); rintro e w649 ⟨rfl, hb⟩; refine ⟨_, rfl, ?_⟩; replace BK243 := up_ BK243 hb; replace BK244 := up_ BK244 hb; replace BK245 := up_ BK245 hb; replace BK249 := up_ BK249 hb; replace BK253 := up_ BK253 hb; replace BK257 := up_ BK257 hb; replace BK261 := up_ BK261 hb; replace BK265 := up_ BK265 hb; replace BK269 := up_ BK269 hb; replace BK294 := up_ BK294 hb; replace BK298 := up_ BK298 hb; replace BK302 := up_ BK302 hb; replace HB := Aside0.mk (below_step bl_ hb); (try clear hb); (try clear hb2); (try clear hk); (try clear hi)))
               go_ret
               exact ⟨by first | rfl | (simp [errW_none, errW_some] <;> rfl) | (simp [*, errW_none, errW_some] <;> rfl), by repeat (first | (with_reducible first | exact HB.out | apply below_alloc | apply pw_below_drewN | apply below_drew1 | refine below_set ?_ GE243.out | refine below_set ?_ GE244.out | refine below_set ?_ GE245.out | refine below_set ?_ GE249.out | refine below_set ?_ GE253.out | refine below_set ?_ GE257.out | refine below_set ?_ GE261.out | refine below_set ?_ GE265.out | refine below_set ?_ GE269.out | refine below_set ?_ GE294.out | refine below_set ?_ GE298.out | refine below_set ?_ GE302.out) | exact HB.out)⟩
              ·replace c647 := Bool.eq_false_iff.mpr c647
               subst c647
               have H1 : (if (t295 == t299 && (t296 == t300)) = true then ((dioramalaw04_lives.f kj570).bind fun t304 => (some t304)) else (some false)) = some r := by rw [if_neg (show ¬ (false = true) by decide)] at H; exact H
               clear H
               have H := H1
               clear H1
               by_cases c650 : (t295 == t299 && (t296 == t300)) = true
               ·rw [if_pos c650] at H
                have c650b0 : (t295 == t299 && (t296 == t300)) = true := c650
                (try (have c650b1 : decide (t295 = t299 && (t296 == t300)) = true := by simpa using c650))
                (try (have c650b2 : (t295 == t299 && (t296 == t300)) = true := by simpa using c650))
                clear c650
                replace H := Option.bind_eq_some_iff.mp H
                obtain ⟨t304, A6510, H⟩ := H
                replace H : (some t304) = some r := H
                have A651 := Aside0.mk A6510
                clear A6510
                obtain rfl := Option.some.inj H
                have hcz663_0 : wc.cell? ⟨gb298, 0, none⟩ = some (.int .i64 t295) := (blk_cell BK298.out 0).trans rfl
                have hcz663_1 : wc.cell? ⟨gb298, 1, none⟩ = some (.int .i64 t296) := (blk_cell BK298.out 1).trans rfl
                have hfz663_0 := blk_frozen BK298.out 0; have hfz663_1 := blk_frozen BK298.out 1
                have hcz674_0 : wc.cell? ⟨gb302, 0, none⟩ = some (.int .i64 t299) := (blk_cell BK302.out 0).trans rfl
                have hcz674_1 : wc.cell? ⟨gb302, 1, none⟩ = some (.int .i64 t300) := (blk_cell BK302.out 1).trans rfl
                have hfz674_0 := blk_frozen BK302.out 0; have hfz674_1 := blk_frozen BK302.out 1
                go_wp2_with (first | (go_at_call 15; (with_reducible refine (dioramalaw04_lives.calls (hv := hv.step (by repeat (first | (with_reducible first | exact HB.out | apply below_alloc | apply pw_below_drewN | apply below_drew1 | refine below_set ?_ (Aside0.out (by assumption))) | exact HB.out))) kj570  t304 _ A651.out).mono ?_); rintro e w675 ⟨rfl, hb⟩; replace BK243 := up_ BK243 hb; replace BK244 := up_ BK244 hb; replace BK245 := up_ BK245 hb; replace BK249 := up_ BK249 hb; replace BK253 := up_ BK253 hb; replace BK257 := up_ BK257 hb; replace BK261 := up_ BK261 hb; replace BK265 := up_ BK265 hb; replace BK269 := up_ BK269 hb; replace BK294 := up_ BK294 hb; replace BK298 := up_ BK298 hb; replace BK302 := up_ BK302 hb; replace HB := Aside0.mk (below_step bl_ hb); (try clear hb); (try clear hb2); (try clear hk); (try clear hi)))
                go_ret
                exact ⟨by first | rfl | (simp [errW_none, errW_some] <;> rfl) | (simp [*, errW_none, errW_some] <;> rfl), by repeat (first | (with_reducible first | exact HB.out | apply below_alloc | apply pw_below_drewN | apply below_drew1 | refine below_set ?_ GE243.out | refine below_set ?_ GE244.out | refine below_set ?_ GE245.out | refine below_set ?_ GE249.out | refine below_set ?_ GE253.out | refine below_set ?_ GE257.out | refine below_set ?_ GE261.out | refine below_set ?_ GE265.out | refine below_set ?_ GE269.out | refine below_set ?_ GE294.out | refine below_set ?_ GE298.out | refine below_set ?_ GE302.out) | exact HB.out)⟩
               ·rw [if_neg c650] at H
                have c650b0 : (t295 == t299 && (t296 == t300)) = false := by simpa using c650
                (try (have c650b1 : decide (t295 = t299 && (t296 == t300)) = false := by simpa using c650))
                (try (have c650b2 : (t295 == t299 && (t296 == t300)) = false := by simpa using c650))
                (try (have c650b3 : ¬ (t295 = t299 && (t296 == t300)) := by simpa using c650))
                clear c650
                obtain rfl := Option.some.inj H
                cases hr
/-- THE ONE PURE STATEMENT of dioramalaw04_RatioLaws: yours. -/
def dioramalaw04_RatioLaws.Pure : Prop := ∀ (l0 : List Int), l0.length ≤ maxLen → l0.length * 8 ≤ 140737488351232 → (∀ x ∈ l0, (Lit.int .i64 x).wf = true) → ∃ k, dioramalaw04_RatioLaws.f k l0 = some true
theorem dioramalaw04_RatioLaws.walk (P : dioramalaw04_RatioLaws.Pure) (a0 : Option Addr) (len0 cap0 : Nat) (z0 : List Int) (w : World) (hv : LaidAt w) (w0 : (a0 = none ∧ len0 = 0 ∧ cap0 = 0 ∧ z0 = []) ∨ ∃ x, a0 = some x ∧ len0 ≤ cap0 ∧ cap0 ≤ maxLen ∧ z0.length = cap0 ∧ (∀ i, i < z0.length → w.cell? (x.add i) = some (.int .i64 (z0.getD i 0))) ∧ ∀ n ∈ z0, (Lit.int .i64 n).wf = true) (y0 : len0 * 8 ≤ 140737488351232) :
  Calls Tryd.prog 3 #[.slice a0 len0 cap0] w fun e w' => e = .returned (.bool true) ∧ Below w.heap.size w w' := by
 obtain ⟨l0, rfl, hr0, hm0, hw0, hc0⟩ := ReadsInt.ofRowC w0
 obtain ⟨k, h⟩ := P l0 hm0 y0 hw0
 refine (dioramalaw04_RatioLaws.calls (hv := hv) k _ _ l0 true w (Kd.C_of_reads (d := (0 : Int)) (h1 := fun _ => rfl) hr0) hc0 h rfl).mono ?_
 rintro e w' ⟨rfl, hd⟩
 exact ⟨rfl, hd⟩

end Go.Proofs.YtdphgnakigcaeaaDoor.Pc
