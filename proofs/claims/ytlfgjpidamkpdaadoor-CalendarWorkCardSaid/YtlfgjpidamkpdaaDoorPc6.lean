/- The contracts of the functions that the laws reach, each over a plain Lean function, written by wip/ownprint.py of this claim's session. -/
import Derived.Test.YtlfgjpidamkpdaaDoorPc0
import Derived.Test.YtlfgjpidamkpdaaDoorPc1
import Derived.Test.YtlfgjpidamkpdaaDoorPc2
import Derived.Test.YtlfgjpidamkpdaaDoorPc3
import Derived.Test.YtlfgjpidamkpdaaDoorPc4
import Derived.Test.YtlfgjpidamkpdaaDoorPc5
namespace Go.Proofs.YtlfgjpidamkpdaaDoor.Pc
open Go.RowKit Go.Proofs.YtlfgjpidamkpdaaDoorW.PrintWords Go.Proofs.YtlfgjpidamkpdaaDoorW.PrintLast Go.Proofs.YtlfgjpidamkpdaaDoorW.PrintMore
attribute [local go_sem] max2_int min2_int max_two min_two max_three min_three max_four min_four   -- for this text's walks alone
attribute [local go_sem high] binOp_leq_p
set_option linter.unusedVariables false
set_option linter.unusedSimpArgs false

/-! ### dioramalaw08_lives: function 20 -/
def dioramalaw08_lives.j0 : Nat → Int → Int → Int → Int → Int → Int → Int → Int → Int → List Int → List Int → Bool → Option (Bool)
  | 0, _, _, _, _, _, _, _, _, _, _, _, _ => none
  | k + 1, x1, x5, x6, x7, x8, x10, x11, x13, x15, x18, x20, x94 => if x94 = true then (some false) else (if x1 = 59 then (if x5 = 1999 then (if x6 = 12 then (if x7 = 31 then ((calendar_Weekday.f (-1)).bind fun t196 => (if t196 = 4 then ((calendar_Text.f k 366).bind fun t197 => (if t197.toList = ([50, 48, 48, 49, 45, 48, 49, 45, 48, 49] : List UInt8) then (if x8 = 8951 then (if x10 = (-1) then (if x11 = 1380 then (if x13 = 2 then (if x15 = 3 then (if (x18.length : Int) = 0 then (some ((x20.length : Int) == 2)) else (some false)) else (some false)) else (some false)) else (some false)) else (some false)) else (some false)) else (some false))) else (some false))) else (some false)) else (some false)) else (some false)) else (some false))
def dioramalaw08_lives.f (k : Nat)  : Option (Bool) := (calendar_Day.f k 2000 2 29).bind fun bt168 => ((calendar_Day.f k 1900 2 29).bind fun bt170 => ((calendar_Civil.f k (-1)).bind fun bt172 => ((calendar_Parse.f k (⟨#[50, 48, 50, 52, 45, 48, 55, 45, 48, 52]⟩ : ByteArray)).bind fun bt175 => ((calendar_Local.f k 0 (-60) 0 1 1).bind fun bt177 => ((calendar_Work.f k 0 1 ([] : List Int)).bind fun bt180 => ((calendar_Work.f k 0 1 (([2] : List Int))).bind fun bt185 => ((calendar_Moments.f k 89 30 60 60 90 300).bind fun bt188 => ((calendar_Moments.f k 299 0 60 60 90 300).bind fun bt192 => (if bt168.2 = 0 then (if bt170.2 = 5 then (if bt175.2 = 0 then (if bt177.2.2 = 0 then (if bt180.2 = 0 then (if bt185.2 = 0 then (if bt188.2 = 0 then (dioramalaw08_lives.j0 k bt168.1 bt172.1 bt172.2.1 bt172.2.2 bt175.1 bt177.1 bt177.2.1 bt180.1 bt185.1 bt188.1 bt192.1 (bt192.2 != 0)) else (dioramalaw08_lives.j0 k bt168.1 bt172.1 bt172.2.1 bt172.2.2 bt175.1 bt177.1 bt177.2.1 bt180.1 bt185.1 bt188.1 bt192.1 true)) else (dioramalaw08_lives.j0 k bt168.1 bt172.1 bt172.2.1 bt172.2.2 bt175.1 bt177.1 bt177.2.1 bt180.1 bt185.1 bt188.1 bt192.1 true)) else (dioramalaw08_lives.j0 k bt168.1 bt172.1 bt172.2.1 bt172.2.2 bt175.1 bt177.1 bt177.2.1 bt180.1 bt185.1 bt188.1 bt192.1 true)) else (dioramalaw08_lives.j0 k bt168.1 bt172.1 bt172.2.1 bt172.2.2 bt175.1 bt177.1 bt177.2.1 bt180.1 bt185.1 bt188.1 bt192.1 true)) else (dioramalaw08_lives.j0 k bt168.1 bt172.1 bt172.2.1 bt172.2.2 bt175.1 bt177.1 bt177.2.1 bt180.1 bt185.1 bt188.1 bt192.1 true)) else (dioramalaw08_lives.j0 k bt168.1 bt172.1 bt172.2.1 bt172.2.2 bt175.1 bt177.1 bt177.2.1 bt180.1 bt185.1 bt188.1 bt192.1 true)) else (dioramalaw08_lives.j0 k bt168.1 bt172.1 bt172.2.1 bt172.2.2 bt175.1 bt177.1 bt177.2.1 bt180.1 bt185.1 bt188.1 bt192.1 true))))))))))
theorem dioramalaw08_lives.mono_l : ∀ k, (∀ y0 y1 y2 y3 y4 y5 y6 y7 y8 y9 y10 y11, LeO (dioramalaw08_lives.j0 k y0 y1 y2 y3 y4 y5 y6 y7 y8 y9 y10 y11) (dioramalaw08_lives.j0 (k + 1) y0 y1 y2 y3 y4 y5 y6 y7 y8 y9 y10 y11))
  | 0 => fun _ _ _ _ _ _ _ _ _ _ _ _ r h => by simp [dioramalaw08_lives.j0] at h
  | k + 1 => by
    have ih0 := dioramalaw08_lives.mono_l k
    · intro y0 y1 y2 y3 y4 y5 y6 y7 y8 y9 y10 y11
      unfold dioramalaw08_lives.j0
      repeat' first
      | (with_reducible exact ih0 _ _ _ _ _ _ _ _ _ _ _ _)
      | (with_reducible exact calendar_Civil.mono _ _)
      | (with_reducible exact calendar_Day.mono _ _ _ _)
      | (with_reducible exact calendar_Local.mono _ _ _ _ _ _)
      | (with_reducible exact calendar_Moments.mono _ _ _ _ _ _ _)
      | (with_reducible exact calendar_Parse.mono _ _)
      | (with_reducible exact calendar_Text.mono _ _)
      | (with_reducible exact calendar_Work.mono _ _ _ _)
      | (with_reducible exact LeO.refl _)
      | (with_reducible exact LeO.none _)
      | (with_reducible refine LeO.ite ?_ ?_)
      | (with_reducible refine LeO.bind ?_ (fun _ => ?_))
      | exact ih0 _ _ _ _ _ _ _ _ _ _ _ _
      | exact calendar_Civil.mono _ _
      | exact calendar_Day.mono _ _ _ _
      | exact calendar_Local.mono _ _ _ _ _ _
      | exact calendar_Moments.mono _ _ _ _ _ _ _
      | exact calendar_Parse.mono _ _
      | exact calendar_Text.mono _ _
      | exact calendar_Work.mono _ _ _ _
      | exact LeO.none _
      | refine LeO.ite ?_ ?_
      | refine LeO.bind ?_ (fun _ => ?_)
theorem dioramalaw08_lives.mono : ∀ k, LeO (dioramalaw08_lives.f k ) (dioramalaw08_lives.f (k + 1) ) := by
  intro  k
  have ih0 := dioramalaw08_lives.mono_l k
  unfold dioramalaw08_lives.f
  repeat' first
      | (with_reducible exact ih0 _ _ _ _ _ _ _ _ _ _ _ _)
      | (with_reducible exact calendar_Civil.mono _ _)
      | (with_reducible exact calendar_Day.mono _ _ _ _)
      | (with_reducible exact calendar_Local.mono _ _ _ _ _ _)
      | (with_reducible exact calendar_Moments.mono _ _ _ _ _ _ _)
      | (with_reducible exact calendar_Parse.mono _ _)
      | (with_reducible exact calendar_Text.mono _ _)
      | (with_reducible exact calendar_Work.mono _ _ _ _)
      | (with_reducible exact LeO.refl _)
      | (with_reducible exact LeO.none _)
      | (with_reducible refine LeO.ite ?_ ?_)
      | (with_reducible refine LeO.bind ?_ (fun _ => ?_))
      | exact ih0 _ _ _ _ _ _ _ _ _ _ _ _
      | exact calendar_Civil.mono _ _
      | exact calendar_Day.mono _ _ _ _
      | exact calendar_Local.mono _ _ _ _ _ _
      | exact calendar_Moments.mono _ _ _ _ _ _ _
      | exact calendar_Parse.mono _ _
      | exact calendar_Text.mono _ _
      | exact calendar_Work.mono _ _ _ _
      | exact LeO.none _
      | refine LeO.ite ?_ ?_
      | refine LeO.bind ?_ (fun _ => ?_)
set_option maxHeartbeats 8000000 in
set_option maxRecDepth 100000 in
theorem dioramalaw08_lives.calls (k : Nat)  (r : Bool) (w : World) (hv : LaidAt w) (h : dioramalaw08_lives.f k  = some r) :
    Calls Tryd.prog 20 #[] w fun e w' => e = .returned (.bool r) ∧ Below w.heap.size w w' := by
  have hu39 := Tryd.underlying39
  have HB := Aside0.mk (Below.refl w.heap.size w)
  have H : ((calendar_Day.f k 2000 2 29).bind fun bt168 => ((calendar_Day.f k 1900 2 29).bind fun bt170 => ((calendar_Civil.f k (-1)).bind fun bt172 => ((calendar_Parse.f k (⟨#[50, 48, 50, 52, 45, 48, 55, 45, 48, 52]⟩ : ByteArray)).bind fun bt175 => ((calendar_Local.f k 0 (-60) 0 1 1).bind fun bt177 => ((calendar_Work.f k 0 1 ([] : List Int)).bind fun bt180 => ((calendar_Work.f k 0 1 (([2] : List Int))).bind fun bt185 => ((calendar_Moments.f k 89 30 60 60 90 300).bind fun bt188 => ((calendar_Moments.f k 299 0 60 60 90 300).bind fun bt192 => (if bt168.2 = 0 then (if bt170.2 = 5 then (if bt175.2 = 0 then (if bt177.2.2 = 0 then (if bt180.2 = 0 then (if bt185.2 = 0 then (if bt188.2 = 0 then (dioramalaw08_lives.j0 k bt168.1 bt172.1 bt172.2.1 bt172.2.2 bt175.1 bt177.1 bt177.2.1 bt180.1 bt185.1 bt188.1 bt192.1 (bt192.2 != 0)) else (dioramalaw08_lives.j0 k bt168.1 bt172.1 bt172.2.1 bt172.2.2 bt175.1 bt177.1 bt177.2.1 bt180.1 bt185.1 bt188.1 bt192.1 true)) else (dioramalaw08_lives.j0 k bt168.1 bt172.1 bt172.2.1 bt172.2.2 bt175.1 bt177.1 bt177.2.1 bt180.1 bt185.1 bt188.1 bt192.1 true)) else (dioramalaw08_lives.j0 k bt168.1 bt172.1 bt172.2.1 bt172.2.2 bt175.1 bt177.1 bt177.2.1 bt180.1 bt185.1 bt188.1 bt192.1 true)) else (dioramalaw08_lives.j0 k bt168.1 bt172.1 bt172.2.1 bt172.2.2 bt175.1 bt177.1 bt177.2.1 bt180.1 bt185.1 bt188.1 bt192.1 true)) else (dioramalaw08_lives.j0 k bt168.1 bt172.1 bt172.2.1 bt172.2.2 bt175.1 bt177.1 bt177.2.1 bt180.1 bt185.1 bt188.1 bt192.1 true)) else (dioramalaw08_lives.j0 k bt168.1 bt172.1 bt172.2.1 bt172.2.2 bt175.1 bt177.1 bt177.2.1 bt180.1 bt185.1 bt188.1 bt192.1 true)) else (dioramalaw08_lives.j0 k bt168.1 bt172.1 bt172.2.1 bt172.2.2 bt175.1 bt177.1 bt177.2.1 bt180.1 bt185.1 bt188.1 bt192.1 true))))))))))) = some r := h
  clear h
  replace H := Option.bind_eq_some_iff.mp H
  obtain ⟨⟨t168, t169⟩, A10, H⟩ := H
  replace H : ((calendar_Day.f k 1900 2 29).bind fun bt170 => ((calendar_Civil.f k (-1)).bind fun bt172 => ((calendar_Parse.f k (⟨#[50, 48, 50, 52, 45, 48, 55, 45, 48, 52]⟩ : ByteArray)).bind fun bt175 => ((calendar_Local.f k 0 (-60) 0 1 1).bind fun bt177 => ((calendar_Work.f k 0 1 ([] : List Int)).bind fun bt180 => ((calendar_Work.f k 0 1 (([2] : List Int))).bind fun bt185 => ((calendar_Moments.f k 89 30 60 60 90 300).bind fun bt188 => ((calendar_Moments.f k 299 0 60 60 90 300).bind fun bt192 => (if t169 = 0 then (if bt170.2 = 5 then (if bt175.2 = 0 then (if bt177.2.2 = 0 then (if bt180.2 = 0 then (if bt185.2 = 0 then (if bt188.2 = 0 then (dioramalaw08_lives.j0 k t168 bt172.1 bt172.2.1 bt172.2.2 bt175.1 bt177.1 bt177.2.1 bt180.1 bt185.1 bt188.1 bt192.1 (bt192.2 != 0)) else (dioramalaw08_lives.j0 k t168 bt172.1 bt172.2.1 bt172.2.2 bt175.1 bt177.1 bt177.2.1 bt180.1 bt185.1 bt188.1 bt192.1 true)) else (dioramalaw08_lives.j0 k t168 bt172.1 bt172.2.1 bt172.2.2 bt175.1 bt177.1 bt177.2.1 bt180.1 bt185.1 bt188.1 bt192.1 true)) else (dioramalaw08_lives.j0 k t168 bt172.1 bt172.2.1 bt172.2.2 bt175.1 bt177.1 bt177.2.1 bt180.1 bt185.1 bt188.1 bt192.1 true)) else (dioramalaw08_lives.j0 k t168 bt172.1 bt172.2.1 bt172.2.2 bt175.1 bt177.1 bt177.2.1 bt180.1 bt185.1 bt188.1 bt192.1 true)) else (dioramalaw08_lives.j0 k t168 bt172.1 bt172.2.1 bt172.2.2 bt175.1 bt177.1 bt177.2.1 bt180.1 bt185.1 bt188.1 bt192.1 true)) else (dioramalaw08_lives.j0 k t168 bt172.1 bt172.2.1 bt172.2.2 bt175.1 bt177.1 bt177.2.1 bt180.1 bt185.1 bt188.1 bt192.1 true)) else (dioramalaw08_lives.j0 k t168 bt172.1 bt172.2.1 bt172.2.2 bt175.1 bt177.1 bt177.2.1 bt180.1 bt185.1 bt188.1 bt192.1 true)))))))))) = some r := H
  have A1 := Aside0.mk A10
  clear A10
  replace H := Option.bind_eq_some_iff.mp H
  obtain ⟨⟨t170, t171⟩, A20, H⟩ := H
  replace H : ((calendar_Civil.f k (-1)).bind fun bt172 => ((calendar_Parse.f k (⟨#[50, 48, 50, 52, 45, 48, 55, 45, 48, 52]⟩ : ByteArray)).bind fun bt175 => ((calendar_Local.f k 0 (-60) 0 1 1).bind fun bt177 => ((calendar_Work.f k 0 1 ([] : List Int)).bind fun bt180 => ((calendar_Work.f k 0 1 (([2] : List Int))).bind fun bt185 => ((calendar_Moments.f k 89 30 60 60 90 300).bind fun bt188 => ((calendar_Moments.f k 299 0 60 60 90 300).bind fun bt192 => (if t169 = 0 then (if t171 = 5 then (if bt175.2 = 0 then (if bt177.2.2 = 0 then (if bt180.2 = 0 then (if bt185.2 = 0 then (if bt188.2 = 0 then (dioramalaw08_lives.j0 k t168 bt172.1 bt172.2.1 bt172.2.2 bt175.1 bt177.1 bt177.2.1 bt180.1 bt185.1 bt188.1 bt192.1 (bt192.2 != 0)) else (dioramalaw08_lives.j0 k t168 bt172.1 bt172.2.1 bt172.2.2 bt175.1 bt177.1 bt177.2.1 bt180.1 bt185.1 bt188.1 bt192.1 true)) else (dioramalaw08_lives.j0 k t168 bt172.1 bt172.2.1 bt172.2.2 bt175.1 bt177.1 bt177.2.1 bt180.1 bt185.1 bt188.1 bt192.1 true)) else (dioramalaw08_lives.j0 k t168 bt172.1 bt172.2.1 bt172.2.2 bt175.1 bt177.1 bt177.2.1 bt180.1 bt185.1 bt188.1 bt192.1 true)) else (dioramalaw08_lives.j0 k t168 bt172.1 bt172.2.1 bt172.2.2 bt175.1 bt177.1 bt177.2.1 bt180.1 bt185.1 bt188.1 bt192.1 true)) else (dioramalaw08_lives.j0 k t168 bt172.1 bt172.2.1 bt172.2.2 bt175.1 bt177.1 bt177.2.1 bt180.1 bt185.1 bt188.1 bt192.1 true)) else (dioramalaw08_lives.j0 k t168 bt172.1 bt172.2.1 bt172.2.2 bt175.1 bt177.1 bt177.2.1 bt180.1 bt185.1 bt188.1 bt192.1 true)) else (dioramalaw08_lives.j0 k t168 bt172.1 bt172.2.1 bt172.2.2 bt175.1 bt177.1 bt177.2.1 bt180.1 bt185.1 bt188.1 bt192.1 true))))))))) = some r := H
  have A2 := Aside0.mk A20
  clear A20
  replace H := Option.bind_eq_some_iff.mp H
  obtain ⟨⟨t172, t173, t174⟩, A30, H⟩ := H
  replace H : ((calendar_Parse.f k (⟨#[50, 48, 50, 52, 45, 48, 55, 45, 48, 52]⟩ : ByteArray)).bind fun bt175 => ((calendar_Local.f k 0 (-60) 0 1 1).bind fun bt177 => ((calendar_Work.f k 0 1 ([] : List Int)).bind fun bt180 => ((calendar_Work.f k 0 1 (([2] : List Int))).bind fun bt185 => ((calendar_Moments.f k 89 30 60 60 90 300).bind fun bt188 => ((calendar_Moments.f k 299 0 60 60 90 300).bind fun bt192 => (if t169 = 0 then (if t171 = 5 then (if bt175.2 = 0 then (if bt177.2.2 = 0 then (if bt180.2 = 0 then (if bt185.2 = 0 then (if bt188.2 = 0 then (dioramalaw08_lives.j0 k t168 t172 t173 t174 bt175.1 bt177.1 bt177.2.1 bt180.1 bt185.1 bt188.1 bt192.1 (bt192.2 != 0)) else (dioramalaw08_lives.j0 k t168 t172 t173 t174 bt175.1 bt177.1 bt177.2.1 bt180.1 bt185.1 bt188.1 bt192.1 true)) else (dioramalaw08_lives.j0 k t168 t172 t173 t174 bt175.1 bt177.1 bt177.2.1 bt180.1 bt185.1 bt188.1 bt192.1 true)) else (dioramalaw08_lives.j0 k t168 t172 t173 t174 bt175.1 bt177.1 bt177.2.1 bt180.1 bt185.1 bt188.1 bt192.1 true)) else (dioramalaw08_lives.j0 k t168 t172 t173 t174 bt175.1 bt177.1 bt177.2.1 bt180.1 bt185.1 bt188.1 bt192.1 true)) else (dioramalaw08_lives.j0 k t168 t172 t173 t174 bt175.1 bt177.1 bt177.2.1 bt180.1 bt185.1 bt188.1 bt192.1 true)) else (dioramalaw08_lives.j0 k t168 t172 t173 t174 bt175.1 bt177.1 bt177.2.1 bt180.1 bt185.1 bt188.1 bt192.1 true)) else (dioramalaw08_lives.j0 k t168 t172 t173 t174 bt175.1 bt177.1 bt177.2.1 bt180.1 bt185.1 bt188.1 bt192.1 true)))))))) = some r := H
  have A3 := Aside0.mk A30
  clear A30
  replace H := Option.bind_eq_some_iff.mp H
  obtain ⟨⟨t175, t176⟩, A40, H⟩ := H
  replace H : ((calendar_Local.f k 0 (-60) 0 1 1).bind fun bt177 => ((calendar_Work.f k 0 1 ([] : List Int)).bind fun bt180 => ((calendar_Work.f k 0 1 (([2] : List Int))).bind fun bt185 => ((calendar_Moments.f k 89 30 60 60 90 300).bind fun bt188 => ((calendar_Moments.f k 299 0 60 60 90 300).bind fun bt192 => (if t169 = 0 then (if t171 = 5 then (if t176 = 0 then (if bt177.2.2 = 0 then (if bt180.2 = 0 then (if bt185.2 = 0 then (if bt188.2 = 0 then (dioramalaw08_lives.j0 k t168 t172 t173 t174 t175 bt177.1 bt177.2.1 bt180.1 bt185.1 bt188.1 bt192.1 (bt192.2 != 0)) else (dioramalaw08_lives.j0 k t168 t172 t173 t174 t175 bt177.1 bt177.2.1 bt180.1 bt185.1 bt188.1 bt192.1 true)) else (dioramalaw08_lives.j0 k t168 t172 t173 t174 t175 bt177.1 bt177.2.1 bt180.1 bt185.1 bt188.1 bt192.1 true)) else (dioramalaw08_lives.j0 k t168 t172 t173 t174 t175 bt177.1 bt177.2.1 bt180.1 bt185.1 bt188.1 bt192.1 true)) else (dioramalaw08_lives.j0 k t168 t172 t173 t174 t175 bt177.1 bt177.2.1 bt180.1 bt185.1 bt188.1 bt192.1 true)) else (dioramalaw08_lives.j0 k t168 t172 t173 t174 t175 bt177.1 bt177.2.1 bt180.1 bt185.1 bt188.1 bt192.1 true)) else (dioramalaw08_lives.j0 k t168 t172 t173 t174 t175 bt177.1 bt177.2.1 bt180.1 bt185.1 bt188.1 bt192.1 true)) else (dioramalaw08_lives.j0 k t168 t172 t173 t174 t175 bt177.1 bt177.2.1 bt180.1 bt185.1 bt188.1 bt192.1 true))))))) = some r := H
  have A4 := Aside0.mk A40
  clear A40
  replace H := Option.bind_eq_some_iff.mp H
  obtain ⟨⟨t177, t178, t179⟩, A50, H⟩ := H
  replace H : ((calendar_Work.f k 0 1 ([] : List Int)).bind fun bt180 => ((calendar_Work.f k 0 1 (([2] : List Int))).bind fun bt185 => ((calendar_Moments.f k 89 30 60 60 90 300).bind fun bt188 => ((calendar_Moments.f k 299 0 60 60 90 300).bind fun bt192 => (if t169 = 0 then (if t171 = 5 then (if t176 = 0 then (if t179 = 0 then (if bt180.2 = 0 then (if bt185.2 = 0 then (if bt188.2 = 0 then (dioramalaw08_lives.j0 k t168 t172 t173 t174 t175 t177 t178 bt180.1 bt185.1 bt188.1 bt192.1 (bt192.2 != 0)) else (dioramalaw08_lives.j0 k t168 t172 t173 t174 t175 t177 t178 bt180.1 bt185.1 bt188.1 bt192.1 true)) else (dioramalaw08_lives.j0 k t168 t172 t173 t174 t175 t177 t178 bt180.1 bt185.1 bt188.1 bt192.1 true)) else (dioramalaw08_lives.j0 k t168 t172 t173 t174 t175 t177 t178 bt180.1 bt185.1 bt188.1 bt192.1 true)) else (dioramalaw08_lives.j0 k t168 t172 t173 t174 t175 t177 t178 bt180.1 bt185.1 bt188.1 bt192.1 true)) else (dioramalaw08_lives.j0 k t168 t172 t173 t174 t175 t177 t178 bt180.1 bt185.1 bt188.1 bt192.1 true)) else (dioramalaw08_lives.j0 k t168 t172 t173 t174 t175 t177 t178 bt180.1 bt185.1 bt188.1 bt192.1 true)) else (dioramalaw08_lives.j0 k t168 t172 t173 t174 t175 t177 t178 bt180.1 bt185.1 bt188.1 bt192.1 true)))))) = some r := H
  have A5 := Aside0.mk A50
  clear A50
  replace H := Option.bind_eq_some_iff.mp H
  obtain ⟨⟨t180, t181⟩, A60, H⟩ := H
  replace H : ((calendar_Work.f k 0 1 (([2] : List Int))).bind fun bt185 => ((calendar_Moments.f k 89 30 60 60 90 300).bind fun bt188 => ((calendar_Moments.f k 299 0 60 60 90 300).bind fun bt192 => (if t169 = 0 then (if t171 = 5 then (if t176 = 0 then (if t179 = 0 then (if t181 = 0 then (if bt185.2 = 0 then (if bt188.2 = 0 then (dioramalaw08_lives.j0 k t168 t172 t173 t174 t175 t177 t178 t180 bt185.1 bt188.1 bt192.1 (bt192.2 != 0)) else (dioramalaw08_lives.j0 k t168 t172 t173 t174 t175 t177 t178 t180 bt185.1 bt188.1 bt192.1 true)) else (dioramalaw08_lives.j0 k t168 t172 t173 t174 t175 t177 t178 t180 bt185.1 bt188.1 bt192.1 true)) else (dioramalaw08_lives.j0 k t168 t172 t173 t174 t175 t177 t178 t180 bt185.1 bt188.1 bt192.1 true)) else (dioramalaw08_lives.j0 k t168 t172 t173 t174 t175 t177 t178 t180 bt185.1 bt188.1 bt192.1 true)) else (dioramalaw08_lives.j0 k t168 t172 t173 t174 t175 t177 t178 t180 bt185.1 bt188.1 bt192.1 true)) else (dioramalaw08_lives.j0 k t168 t172 t173 t174 t175 t177 t178 t180 bt185.1 bt188.1 bt192.1 true)) else (dioramalaw08_lives.j0 k t168 t172 t173 t174 t175 t177 t178 t180 bt185.1 bt188.1 bt192.1 true))))) = some r := H
  have A6 := Aside0.mk A60
  clear A60
  obtain ⟨y182, hy182⟩ : ∃ y_ : List Int, y_ = (([2] : List Int)) := ⟨_, rfl⟩
  replace H : ((calendar_Work.f k 0 1 y182).bind fun bt185 => ((calendar_Moments.f k 89 30 60 60 90 300).bind fun bt188 => ((calendar_Moments.f k 299 0 60 60 90 300).bind fun bt192 => (if t169 = 0 then (if t171 = 5 then (if t176 = 0 then (if t179 = 0 then (if t181 = 0 then (if bt185.2 = 0 then (if bt188.2 = 0 then (dioramalaw08_lives.j0 k t168 t172 t173 t174 t175 t177 t178 t180 bt185.1 bt188.1 bt192.1 (bt192.2 != 0)) else (dioramalaw08_lives.j0 k t168 t172 t173 t174 t175 t177 t178 t180 bt185.1 bt188.1 bt192.1 true)) else (dioramalaw08_lives.j0 k t168 t172 t173 t174 t175 t177 t178 t180 bt185.1 bt188.1 bt192.1 true)) else (dioramalaw08_lives.j0 k t168 t172 t173 t174 t175 t177 t178 t180 bt185.1 bt188.1 bt192.1 true)) else (dioramalaw08_lives.j0 k t168 t172 t173 t174 t175 t177 t178 t180 bt185.1 bt188.1 bt192.1 true)) else (dioramalaw08_lives.j0 k t168 t172 t173 t174 t175 t177 t178 t180 bt185.1 bt188.1 bt192.1 true)) else (dioramalaw08_lives.j0 k t168 t172 t173 t174 t175 t177 t178 t180 bt185.1 bt188.1 bt192.1 true)) else (dioramalaw08_lives.j0 k t168 t172 t173 t174 t175 t177 t178 t180 bt185.1 bt188.1 bt192.1 true))))) = some r := by first | (rw [hy182]; with_reducible exact H) | (have H2_ := (Option.bind_some _ _).symm.trans H; rw [hy182]; with_reducible exact H2_) | (have H2_ := (Option.bind_some _ _).symm.trans H; with_reducible exact H2_) | with_reducible exact H | (rw [hy182]; exact H) | exact H
  have Ny182 := Aside0.mk hy182
  clear hy182
  replace H := Option.bind_eq_some_iff.mp H
  obtain ⟨⟨t185, t186⟩, A70, H⟩ := H
  replace H : ((calendar_Moments.f k 89 30 60 60 90 300).bind fun bt188 => ((calendar_Moments.f k 299 0 60 60 90 300).bind fun bt192 => (if t169 = 0 then (if t171 = 5 then (if t176 = 0 then (if t179 = 0 then (if t181 = 0 then (if t186 = 0 then (if bt188.2 = 0 then (dioramalaw08_lives.j0 k t168 t172 t173 t174 t175 t177 t178 t180 t185 bt188.1 bt192.1 (bt192.2 != 0)) else (dioramalaw08_lives.j0 k t168 t172 t173 t174 t175 t177 t178 t180 t185 bt188.1 bt192.1 true)) else (dioramalaw08_lives.j0 k t168 t172 t173 t174 t175 t177 t178 t180 t185 bt188.1 bt192.1 true)) else (dioramalaw08_lives.j0 k t168 t172 t173 t174 t175 t177 t178 t180 t185 bt188.1 bt192.1 true)) else (dioramalaw08_lives.j0 k t168 t172 t173 t174 t175 t177 t178 t180 t185 bt188.1 bt192.1 true)) else (dioramalaw08_lives.j0 k t168 t172 t173 t174 t175 t177 t178 t180 t185 bt188.1 bt192.1 true)) else (dioramalaw08_lives.j0 k t168 t172 t173 t174 t175 t177 t178 t180 t185 bt188.1 bt192.1 true)) else (dioramalaw08_lives.j0 k t168 t172 t173 t174 t175 t177 t178 t180 t185 bt188.1 bt192.1 true)))) = some r := H
  have A7 := Aside0.mk A70
  clear A70
  replace H := Option.bind_eq_some_iff.mp H
  obtain ⟨⟨t188, t191⟩, A80, H⟩ := H
  replace H : ((calendar_Moments.f k 299 0 60 60 90 300).bind fun bt192 => (if t169 = 0 then (if t171 = 5 then (if t176 = 0 then (if t179 = 0 then (if t181 = 0 then (if t186 = 0 then (if t191 = 0 then (dioramalaw08_lives.j0 k t168 t172 t173 t174 t175 t177 t178 t180 t185 t188 bt192.1 (bt192.2 != 0)) else (dioramalaw08_lives.j0 k t168 t172 t173 t174 t175 t177 t178 t180 t185 t188 bt192.1 true)) else (dioramalaw08_lives.j0 k t168 t172 t173 t174 t175 t177 t178 t180 t185 t188 bt192.1 true)) else (dioramalaw08_lives.j0 k t168 t172 t173 t174 t175 t177 t178 t180 t185 t188 bt192.1 true)) else (dioramalaw08_lives.j0 k t168 t172 t173 t174 t175 t177 t178 t180 t185 t188 bt192.1 true)) else (dioramalaw08_lives.j0 k t168 t172 t173 t174 t175 t177 t178 t180 t185 t188 bt192.1 true)) else (dioramalaw08_lives.j0 k t168 t172 t173 t174 t175 t177 t178 t180 t185 t188 bt192.1 true)) else (dioramalaw08_lives.j0 k t168 t172 t173 t174 t175 t177 t178 t180 t185 t188 bt192.1 true))) = some r := H
  have A8 := Aside0.mk A80
  clear A80
  replace H := Option.bind_eq_some_iff.mp H
  obtain ⟨⟨t192, t195⟩, A90, H⟩ := H
  replace H : (if t169 = 0 then (if t171 = 5 then (if t176 = 0 then (if t179 = 0 then (if t181 = 0 then (if t186 = 0 then (if t191 = 0 then (dioramalaw08_lives.j0 k t168 t172 t173 t174 t175 t177 t178 t180 t185 t188 t192 (t195 != 0)) else (dioramalaw08_lives.j0 k t168 t172 t173 t174 t175 t177 t178 t180 t185 t188 t192 true)) else (dioramalaw08_lives.j0 k t168 t172 t173 t174 t175 t177 t178 t180 t185 t188 t192 true)) else (dioramalaw08_lives.j0 k t168 t172 t173 t174 t175 t177 t178 t180 t185 t188 t192 true)) else (dioramalaw08_lives.j0 k t168 t172 t173 t174 t175 t177 t178 t180 t185 t188 t192 true)) else (dioramalaw08_lives.j0 k t168 t172 t173 t174 t175 t177 t178 t180 t185 t188 t192 true)) else (dioramalaw08_lives.j0 k t168 t172 t173 t174 t175 t177 t178 t180 t185 t188 t192 true)) else (dioramalaw08_lives.j0 k t168 t172 t173 t174 t175 t177 t178 t180 t185 t188 t192 true)) = some r := H
  have A9 := Aside0.mk A90
  clear A90
  have HC10 := Aside0.mk H
  clear H
  go_enter Tryd.func20, Tryd.ntmps20
  go_upto_region 11 with (first | ((with_reducible refine gate_callee (f := 18) rfl ?_); refine goesL_ (some 23) rfl rfl Tryd.func18 (by kernel_rfl) rfl #[.int .i64 2000, .int .i64 2, .int .i64 29] rfl (by (try simp only [List.map_toArray, List.map_cons, List.map_nil]); first | done | rfl | (simp only [List.length_drop, List.length_take]; rfl)) ?_; (with_reducible refine (calendar_Day.calls k 2000 2 29 t168 t169 _ A1.out).mono ?_); rintro e w11 ⟨rfl, hb⟩; refine ⟨_, rfl, ?_⟩; have n0_ := Aside0.mk (below_step (by repeat (first | (with_reducible first | exact HB.out | apply below_alloc | apply pw_below_drewN | apply below_drew1) | exact HB.out)) hb); clear HB; have HB := n0_; clear n0_; (try clear hb); (try clear hb2); (try clear hk); (try clear hi)) | ((with_reducible refine gate_callee (f := 18) rfl ?_); refine goesL_ (some 27) rfl rfl Tryd.func18 (by kernel_rfl) rfl #[.int .i64 1900, .int .i64 2, .int .i64 29] rfl (by (try simp only [List.map_toArray, List.map_cons, List.map_nil]); first | done | rfl | (simp only [List.length_drop, List.length_take]; rfl)) ?_; (with_reducible refine (calendar_Day.calls k 1900 2 29 t170 t171 _ A2.out).mono ?_); rintro e w12 ⟨rfl, hb⟩; refine ⟨_, rfl, ?_⟩; have n0_ := Aside0.mk (below_step (by repeat (first | (with_reducible first | exact HB.out | apply below_alloc | apply pw_below_drewN | apply below_drew1) | exact HB.out)) hb); clear HB; have HB := n0_; clear n0_; (try clear hb); (try clear hb2); (try clear hk); (try clear hi)) | ((with_reducible refine gate_callee (f := 11) rfl ?_); refine goesL_ (some 31) rfl rfl Tryd.func11 (by kernel_rfl) rfl #[.int .i64 (-1)] rfl (by (try simp only [List.map_toArray, List.map_cons, List.map_nil]); first | done | rfl | (simp only [List.length_drop, List.length_take]; rfl)) ?_; (with_reducible refine (calendar_Civil.calls k (-1) t172 t173 t174 _ A3.out).mono ?_); rintro e w13 ⟨rfl, hb⟩; refine ⟨_, rfl, ?_⟩; have n0_ := Aside0.mk (below_step (by repeat (first | (with_reducible first | exact HB.out | apply below_alloc | apply pw_below_drewN | apply below_drew1) | exact HB.out)) hb); clear HB; have HB := n0_; clear n0_; (try clear hb); (try clear hb2); (try clear hk); (try clear hi)) | ((with_reducible refine gate_callee (f := 22) rfl ?_); refine goesL_ (some 36) rfl rfl Tryd.func22 (by kernel_rfl) rfl #[.string (⟨#[50, 48, 50, 52, 45, 48, 55, 45, 48, 52]⟩ : ByteArray)] rfl (by (try simp only [List.map_toArray, List.map_cons, List.map_nil]); first | done | rfl | (simp only [List.length_drop, List.length_take]; rfl)) ?_; (with_reducible refine (calendar_Parse.calls (hv := hv.step (by repeat (first | (with_reducible first | exact HB.out | apply below_alloc | apply pw_below_drewN | apply below_drew1) | exact HB.out))) k (⟨#[50, 48, 50, 52, 45, 48, 55, 45, 48, 52]⟩ : ByteArray) t175 t176 _ A4.out).mono ?_); rintro e w14 ⟨rfl, hb⟩; refine ⟨_, rfl, ?_⟩; have n0_ := Aside0.mk (below_step (by repeat (first | (with_reducible first | exact HB.out | apply below_alloc | apply pw_below_drewN | apply below_drew1) | exact HB.out)) hb); clear HB; have HB := n0_; clear n0_; (try clear hb); (try clear hb2); (try clear hk); (try clear hi)) | ((with_reducible refine gate_callee (f := 26) rfl ?_); refine goesL_ (some 41) rfl rfl Tryd.func26 (by kernel_rfl) rfl #[.int .i64 0, .agg #[.int .i64 (-60), .int .i64 0, .int .i64 1, .int .i64 1]] rfl (by (try simp only [List.map_toArray, List.map_cons, List.map_nil]); first | done | rfl | (simp only [List.length_drop, List.length_take]; rfl)) ?_; (with_reducible refine (calendar_Local.calls k 0 (-60) 0 1 1 t177 t178 t179 _ A5.out).mono ?_); rintro e w15 ⟨rfl, hb⟩; refine ⟨_, rfl, ?_⟩; have n0_ := Aside0.mk (below_step (by repeat (first | (with_reducible first | exact HB.out | apply below_alloc | apply pw_below_drewN | apply below_drew1) | exact HB.out)) hb); clear HB; have HB := n0_; clear n0_; (try clear hb); (try clear hb2); (try clear hk); (try clear hi)) | ((with_reducible refine gate_callee (f := 32) rfl ?_); refine goesL_ (some 46) rfl rfl Tryd.func32 (by kernel_rfl) rfl #[.int .i64 0, .int .i64 1, .slice none 0 0] rfl (by (try simp only [List.map_toArray, List.map_cons, List.map_nil]); first | done | rfl | (simp only [List.length_drop, List.length_take]; rfl)) ?_; (refine (calendar_Work.calls k 0 1 _ _ ([] : List Int) t180 t181 _ ?side1 ?side2 A6.out).mono ?_); (case side1 => exact Kd.C_nil _ _); (case side2 => exact Nat.le_refl _); rintro e w' ⟨rfl, ⟨nd, rfl⟩⟩; refine ⟨_, rfl, ?_⟩; (try (rw [drewN_self w15]; generalize hq_ : World.drewN w15 _ = w15; have n0_ : Aside0 (Below w.heap.size w w15) := ⟨by rw [← hq_]; exact (by repeat (first | (with_reducible first | exact HB.out | apply below_alloc | apply pw_below_drewN | apply below_drew1) | exact HB.out))⟩; clear HB hq_; have HB := n0_; clear n0_))) | ((with_reducible refine gate_dst (N := 50) rfl ?_); (try (refine gate_guard (by rfl) ?_; dsimp only)); refine Kd.R_lit (Kd.int .i64) _ 3 ?hg (N := 50) ?hd (xs := ([2] : List Int)) (inner := [.int .i64 2]) (ok := fun _ => True) (okp := fun _ => True) ?hr ?hp (fun _ hk => hk) trivial (Below.refl _ _) (Nat.le_refl _) (by simp) ?_; (case hd => rfl); (case hg => rfl); (case hr => first | (go_simp; done) | (go_simp; rfl)); (case hp => exact (Reps.one (show Kd.M (Kd.int .i64) _ _ _ 2 [.int .i64 2] from rfl) (Reps.none _ _))); intro v183 w16 ho17 hb hg_ hnew_; clear hg_ hnew_; (first | rw [← Ny182.out] at ho17 | (simp only [Int.reduceToNat] at ho17; rw [← Ny182.out] at ho17)); have n0_ := Aside0.mk (Kd.R_lower ho17 (below_size (by repeat (first | (with_reducible first | exact HB.out | apply below_alloc | apply pw_below_drewN | apply below_drew1) | exact HB.out)))); have n1_ := Aside0.mk (below_step (by repeat (first | (with_reducible first | exact HB.out | apply below_alloc | apply pw_below_drewN | apply below_drew1) | exact HB.out)) hb); clear HB; have HO184 := n0_; have HB := n1_; clear n0_ n1_; clear hb ho17; obtain ⟨Ao18, co18, eo18⟩ := Kd.R_slice HO184.out; subst eo18) | ((with_reducible refine gate_callee (f := 32) rfl ?_); refine goesL_ (some 51) rfl rfl Tryd.func32 (by kernel_rfl) rfl #[.int .i64 0, .int .i64 1, .slice Ao18 y182.length co18] rfl (by (try simp only [List.map_toArray, List.map_cons, List.map_nil]); first | done | rfl | (simp only [List.length_drop, List.length_take]; rfl)) ?_; (with_reducible refine (calendar_Work.calls k 0 1 _ _ y182 t185 t186 _ ?side1 ?side2 A7.out).mono ?_); (case side1 => repeat (first | exact (Kd.R_reads' HO184.out).2.2 | (with_reducible refine Kd.C_alloc ?_ _) | (with_reducible refine Kd.C_drewN ?_ _) | (with_reducible refine Kd.C_drew ?_))); (case side2 => exact (Kd.R_reads' HO184.out).2.1); rintro e w' ⟨rfl, ⟨nd, rfl⟩⟩; refine ⟨_, rfl, ?_⟩; (try (rw [drewN_self w16]; generalize hq_ : World.drewN w16 _ = w16; have n0_ : Aside0 (Kd.R (Kd.int .i64) 3 w16 w.heap.size (fun _ => True) (.slice Ao18 y182.length co18) y182) := ⟨by rw [← hq_]; exact (by (with_reducible repeat (first | apply Kd.R_alloc | apply Kd.R_drewN | apply Kd.R_drew)); exact HO184.out)⟩; have n1_ : Aside0 (Below w.heap.size w w16) := ⟨by rw [← hq_]; exact (by repeat (first | (with_reducible first | exact HB.out | apply below_alloc | apply pw_below_drewN | apply below_drew1) | exact HB.out))⟩; clear HO184 HB hq_; have HO184 := n0_; have HB := n1_; clear n0_ n1_))) | ((with_reducible refine gate_dst (N := 17) rfl ?_); (try (refine gate_guard (by rfl) ?_; dsimp only)); refine box_event ?hg (N := 17) ?hd (cs := #[.int .i64 0, .int .i64 0, .int .i64 0, .int .i64 0]) (t := 39) ?hr ?_; (case hd => rfl); (case hg => rfl); (case hr => first | (go_simp; done) | (go_simp; rfl)); intro gb187 hg w19 hbox hb; have n0_ := Aside0.mk (Kd.R_below (by (with_reducible repeat (first | apply Kd.R_alloc | apply Kd.R_drewN | apply Kd.R_drew)); exact HO184.out) hb); have n1_ := Aside0.mk (below_step (by repeat (first | (with_reducible first | exact HB.out | apply below_alloc | apply pw_below_drewN | apply below_drew1) | exact HB.out)) hb); have n2_ := Aside0.mk (hbox); have n3_ := Aside0.mk ((by rw [hg]; exact (below_size (by repeat (first | (with_reducible first | exact HB.out | apply below_alloc | apply pw_below_drewN | apply below_drew1) | exact HB.out))) : w.heap.size ≤ gb187)); have n4_ := Aside0.mk ((by rw [hg]; exact (below_size (by repeat (first | (with_reducible first | exact HB.out | apply below_alloc | apply pw_below_drewN | apply below_drew1) | exact HB.out))) : w.heap.size ≤ gb187)); clear HO184; clear HB; have HO184 := n0_; have HB := n1_; have BK187 := n2_; have GW187 := n3_; have GE187 := n4_; clear n0_ n1_ n2_ n3_ n4_; clear hb hbox hg; have hcz20_0 : w19.cell? ⟨gb187, 0, none⟩ = some (.int .i64 0) := (blk_cell BK187.out 0).trans rfl; have hcz20_1 : w19.cell? ⟨gb187, 1, none⟩ = some (.int .i64 0) := (blk_cell BK187.out 1).trans rfl; have hcz20_2 : w19.cell? ⟨gb187, 2, none⟩ = some (.int .i64 0) := (blk_cell BK187.out 2).trans rfl; have hcz20_3 : w19.cell? ⟨gb187, 3, none⟩ = some (.int .i64 0) := (blk_cell BK187.out 3).trans rfl; have hfz20_0 := blk_frozen BK187.out 0; have hfz20_1 := blk_frozen BK187.out 1; have hfz20_2 := blk_frozen BK187.out 2; have hfz20_3 := blk_frozen BK187.out 3) | ((with_reducible refine gate_callee (f := 29) rfl ?_); refine goesL_ (some 57) rfl rfl Tryd.func29 (by kernel_rfl) rfl #[.int .i64 89, .int .i64 30, .agg #[.int .i64 60, .int .i64 60, .int .i64 90, .int .i64 300]] rfl (by (try simp only [List.map_toArray, List.map_cons, List.map_nil]); first | done | rfl | (simp only [List.length_drop, List.length_take]; rfl)) ?_; (with_reducible refine (calendar_Moments.calls k 89 30 60 60 90 300 t188 t191 _ A8.out).mono ?_); rintro e w21 ⟨v189, rfl, ho0, hb⟩; refine ⟨_, rfl, ?_⟩; have n0_ := Aside0.mk (Kd.R_elder' (by (with_reducible repeat (first | apply Kd.R_alloc | apply Kd.R_drewN | apply Kd.R_drew)); exact (Kd.R_mono (Kd.R_far (p := ⟨gb187, 3, none⟩) (Kd.R_far (p := ⟨gb187, 2, none⟩) (Kd.R_far (p := ⟨gb187, 1, none⟩) (Kd.R_far (p := ⟨gb187, 0, none⟩) (Kd.R_types HO184.out BK187.out (by decide)) (fun _ hk => hk.2) (.int .i64 60)) (fun _ hk => hk.2) (.int .i64 60)) (fun _ hk => hk.2) (.int .i64 90)) (fun _ hk => hk.2) (.int .i64 300)) (fun _ h_ => h_.1))) (Kd.R_base ho0) hb); have n1_ := Aside0.mk (Kd.R_lower (Kd.R_new' ho0 (Kd.R_lt (by (with_reducible repeat (first | apply Kd.R_alloc | apply Kd.R_drewN | apply Kd.R_drew)); exact (Kd.R_mono (Kd.R_far (p := ⟨gb187, 3, none⟩) (Kd.R_far (p := ⟨gb187, 2, none⟩) (Kd.R_far (p := ⟨gb187, 1, none⟩) (Kd.R_far (p := ⟨gb187, 0, none⟩) (Kd.R_types HO184.out BK187.out (by decide)) (fun _ hk => hk.2) (.int .i64 60)) (fun _ hk => hk.2) (.int .i64 60)) (fun _ hk => hk.2) (.int .i64 90)) (fun _ hk => hk.2) (.int .i64 300)) (fun _ h_ => h_.1))))) (below_size (by repeat (first | (with_reducible first | exact HB.out | apply below_alloc | apply pw_below_drewN | apply below_drew1 | refine below_set ?_ GE187.out) | exact HB.out)))); have n2_ := Aside0.mk (blk_below (g := gb187) (o := .cells #[.int .i64 60, .int .i64 60, .int .i64 90, .int .i64 300] 39 (0, 0)) (by (with_reducible repeat (first | refine blk_drewN ?_ _ | refine blk_drew ?_ | refine blk_alloc ?_ _)); refine blk_put (cs := #[.int .i64 60, .int .i64 60, .int .i64 90, .int .i64 0]) ?_ 3 _ rfl; (with_reducible repeat (first | refine blk_drewN ?_ _ | refine blk_drew ?_ | refine blk_alloc ?_ _)); refine blk_put (cs := #[.int .i64 60, .int .i64 60, .int .i64 0, .int .i64 0]) ?_ 2 _ rfl; (with_reducible repeat (first | refine blk_drewN ?_ _ | refine blk_drew ?_ | refine blk_alloc ?_ _)); refine blk_put (cs := #[.int .i64 60, .int .i64 0, .int .i64 0, .int .i64 0]) ?_ 1 _ rfl; (with_reducible repeat (first | refine blk_drewN ?_ _ | refine blk_drew ?_ | refine blk_alloc ?_ _)); refine blk_put (cs := #[.int .i64 0, .int .i64 0, .int .i64 0, .int .i64 0]) ?_ 0 _ rfl; (with_reducible repeat (first | refine blk_drewN ?_ _ | refine blk_drew ?_ | refine blk_alloc ?_ _)); exact BK187.out) hb); have n3_ := Aside0.mk (below_step (by repeat (first | (with_reducible first | exact HB.out | apply below_alloc | apply pw_below_drewN | apply below_drew1 | refine below_set ?_ GE187.out) | exact HB.out)) hb); clear HO184; clear BK187; clear HB; have HO184 := n0_; have HO190 := n1_; have BK187 := n2_; have HB := n3_; clear n0_ n1_ n2_ n3_; (try clear hb); (try clear hb2); (try clear hk); (try clear hi); (try clear ho0); have hcz22_0 : w21.cell? ⟨gb187, 0, none⟩ = some (.int .i64 60) := (blk_cell BK187.out 0).trans rfl; have hcz22_1 : w21.cell? ⟨gb187, 1, none⟩ = some (.int .i64 60) := (blk_cell BK187.out 1).trans rfl; have hcz22_2 : w21.cell? ⟨gb187, 2, none⟩ = some (.int .i64 90) := (blk_cell BK187.out 2).trans rfl; have hcz22_3 : w21.cell? ⟨gb187, 3, none⟩ = some (.int .i64 300) := (blk_cell BK187.out 3).trans rfl; have hfz22_0 := blk_frozen BK187.out 0; have hfz22_1 := blk_frozen BK187.out 1; have hfz22_2 := blk_frozen BK187.out 2; have hfz22_3 := blk_frozen BK187.out 3) | ((with_reducible refine gate_callee (f := 29) rfl ?_); refine goesL_ (some 62) rfl rfl Tryd.func29 (by kernel_rfl) rfl #[.int .i64 299, .int .i64 0, .agg #[.int .i64 60, .int .i64 60, .int .i64 90, .int .i64 300]] rfl (by (try simp only [List.map_toArray, List.map_cons, List.map_nil]); first | done | rfl | (simp only [List.length_drop, List.length_take]; rfl)) ?_; (with_reducible refine (calendar_Moments.calls k 299 0 60 60 90 300 t192 t195 _ A9.out).mono ?_); rintro e w23 ⟨v193, rfl, ho0, hb⟩; refine ⟨_, rfl, ?_⟩; have n0_ := Aside0.mk (Kd.R_elder' (by (with_reducible repeat (first | apply Kd.R_alloc | apply Kd.R_drewN | apply Kd.R_drew)); exact HO184.out) (Kd.R_base ho0) hb); have n1_ := Aside0.mk (Kd.R_elder' (by (with_reducible repeat (first | apply Kd.R_alloc | apply Kd.R_drewN | apply Kd.R_drew)); exact HO190.out) (Kd.R_base ho0) hb); have n2_ := Aside0.mk (Kd.R_lower (Kd.R_new' (Kd.R_new' ho0 (Kd.R_lt (by (with_reducible repeat (first | apply Kd.R_alloc | apply Kd.R_drewN | apply Kd.R_drew)); exact HO184.out))) (Kd.R_lt (by (with_reducible repeat (first | apply Kd.R_alloc | apply Kd.R_drewN | apply Kd.R_drew)); exact HO190.out))) (below_size (by repeat (first | (with_reducible first | exact HB.out | apply below_alloc | apply pw_below_drewN | apply below_drew1 | refine below_set ?_ GE187.out) | exact HB.out)))); have n3_ := Aside0.mk (blk_below (g := gb187) (o := .cells #[.int .i64 60, .int .i64 60, .int .i64 90, .int .i64 300] 39 (0, 0)) (by (with_reducible repeat (first | refine blk_drewN ?_ _ | refine blk_drew ?_ | refine blk_alloc ?_ _)); exact BK187.out) hb); have n4_ := Aside0.mk (below_step (by repeat (first | (with_reducible first | exact HB.out | apply below_alloc | apply pw_below_drewN | apply below_drew1 | refine below_set ?_ GE187.out) | exact HB.out)) hb); clear HO184; clear HO190; clear BK187; clear HB; have HO184 := n0_; have HO190 := n1_; have HO194 := n2_; have BK187 := n3_; have HB := n4_; clear n0_ n1_ n2_ n3_ n4_; (try clear hb); (try clear hb2); (try clear hk); (try clear hi); (try clear ho0)))
  (try simp only [Act.put, List.setIfInBounds_toArray, List.set_cons_zero, List.set_cons_succ])
  go_cut [94] (fun v94 wc => ∃ (kq : Nat) (x94_9 : Bool), v94 = .bool x94_9 ∧ Aside0 (dioramalaw08_lives.j0 kq t168 t172 t173 t174 t175 t177 t178 t180 t185 t188 t192 x94_9 = some r) ∧ Aside0 (kq ≤ k) ∧ Aside0 (Kd.R (Kd.int .i64) 3 wc w.heap.size (fun k_ => some k_ ≠ (v193 : Value).ownBlock) v189 t188) ∧ Aside0 (Kd.R (Kd.int .i64) 3 wc w.heap.size (fun k_ => some k_ ≠ (v189 : Value).ownBlock) v193 t192) ∧ Aside0 (wc.heap[gb187]? = some (.cells #[.int .i64 60, .int .i64 60, .int .i64 90, .int .i64 300] 39 (0, 0))) ∧ Aside0 (Below w.heap.size w wc))
  case first =>
    have H := HC10.out
    clear HC10
    by_cases c24 : t169 = 0
    · rw [if_pos c24] at H
      have c24b0 : (t169 == 0) = true := beq_iff_eq.mpr c24
      have c24b1 : (t169 != 0) = false := bne_eq_false_iff_eq.mpr c24
      clear c24
      (first | rw [c24b0] | (simp only [i64_w, i32_w]; rw [c24b0]) | skip)
      by_cases c25 : t171 = 5
      · rw [if_pos c25] at H
        have c25b0 : (t171 == 5) = true := beq_iff_eq.mpr c25
        have c25b1 : (t171 != 5) = false := bne_eq_false_iff_eq.mpr c25
        clear c25
        by_cases c26 : t176 = 0
        · rw [if_pos c26] at H
          have c26b0 : (t176 == 0) = true := beq_iff_eq.mpr c26
          have c26b1 : (t176 != 0) = false := bne_eq_false_iff_eq.mpr c26
          clear c26
          by_cases c27 : t179 = 0
          · rw [if_pos c27] at H
            have c27b0 : (t179 == 0) = true := beq_iff_eq.mpr c27
            have c27b1 : (t179 != 0) = false := bne_eq_false_iff_eq.mpr c27
            clear c27
            by_cases c28 : t181 = 0
            · rw [if_pos c28] at H
              have c28b0 : (t181 == 0) = true := beq_iff_eq.mpr c28
              have c28b1 : (t181 != 0) = false := bne_eq_false_iff_eq.mpr c28
              clear c28
              by_cases c29 : t186 = 0
              · rw [if_pos c29] at H
                have c29b0 : (t186 == 0) = true := beq_iff_eq.mpr c29
                have c29b1 : (t186 != 0) = false := bne_eq_false_iff_eq.mpr c29
                clear c29
                by_cases c30 : t191 = 0
                · rw [if_pos c30] at H
                  have c30b0 : (t191 == 0) = true := beq_iff_eq.mpr c30
                  have c30b1 : (t191 != 0) = false := bne_eq_false_iff_eq.mpr c30
                  clear c30
                  have H' := Aside0.mk H
                  clear H
                  go_wp2
                  go_meet
                  case rel => exact ⟨_, ((t195 != 0)), (by first | rfl | (simp; done) | (simp [*]; done)), H', ⟨by first | omega | exact Nat.le_refl _⟩, ⟨by (with_reducible repeat (first | apply Kd.R_alloc | apply Kd.R_drewN | apply Kd.R_drew)); exact Kd.R_mono HO190.out (fun _ hk => hk.2)⟩, ⟨by (with_reducible repeat (first | apply Kd.R_alloc | apply Kd.R_drewN | apply Kd.R_drew)); exact Kd.R_mono HO194.out (fun _ hk => hk.2)⟩, ⟨by (with_reducible repeat (first | refine blk_drewN ?_ _ | refine blk_drew ?_ | refine blk_alloc ?_ _)); exact BK187.out⟩, ⟨by repeat (first | (with_reducible first | exact HB.out | apply below_alloc | apply pw_below_drewN | apply below_drew1 | refine below_set ?_ GE187.out) | exact HB.out)⟩⟩
                · rw [if_neg c30] at H
                  have c30b0 : (t191 == 0) = false := beq_eq_false_iff_ne.mpr c30
                  have c30b1 : (t191 != 0) = true := bne_iff_ne.mpr c30
                  have H' := Aside0.mk H
                  clear H
                  go_wp2
                  go_meet
                  case rel => exact ⟨_, (true), (by first | rfl | (simp; done) | (simp [*]; done)), H', ⟨by first | omega | exact Nat.le_refl _⟩, ⟨by (with_reducible repeat (first | apply Kd.R_alloc | apply Kd.R_drewN | apply Kd.R_drew)); exact Kd.R_mono HO190.out (fun _ hk => hk.2)⟩, ⟨by (with_reducible repeat (first | apply Kd.R_alloc | apply Kd.R_drewN | apply Kd.R_drew)); exact Kd.R_mono HO194.out (fun _ hk => hk.2)⟩, ⟨by (with_reducible repeat (first | refine blk_drewN ?_ _ | refine blk_drew ?_ | refine blk_alloc ?_ _)); exact BK187.out⟩, ⟨by repeat (first | (with_reducible first | exact HB.out | apply below_alloc | apply pw_below_drewN | apply below_drew1 | refine below_set ?_ GE187.out) | exact HB.out)⟩⟩
              · rw [if_neg c29] at H
                have c29b0 : (t186 == 0) = false := beq_eq_false_iff_ne.mpr c29
                have c29b1 : (t186 != 0) = true := bne_iff_ne.mpr c29
                have H' := Aside0.mk H
                clear H
                go_wp2
                go_meet
                case rel => exact ⟨_, (true), (by first | rfl | (simp; done) | (simp [*]; done)), H', ⟨by first | omega | exact Nat.le_refl _⟩, ⟨by (with_reducible repeat (first | apply Kd.R_alloc | apply Kd.R_drewN | apply Kd.R_drew)); exact Kd.R_mono HO190.out (fun _ hk => hk.2)⟩, ⟨by (with_reducible repeat (first | apply Kd.R_alloc | apply Kd.R_drewN | apply Kd.R_drew)); exact Kd.R_mono HO194.out (fun _ hk => hk.2)⟩, ⟨by (with_reducible repeat (first | refine blk_drewN ?_ _ | refine blk_drew ?_ | refine blk_alloc ?_ _)); exact BK187.out⟩, ⟨by repeat (first | (with_reducible first | exact HB.out | apply below_alloc | apply pw_below_drewN | apply below_drew1 | refine below_set ?_ GE187.out) | exact HB.out)⟩⟩
            · rw [if_neg c28] at H
              have c28b0 : (t181 == 0) = false := beq_eq_false_iff_ne.mpr c28
              have c28b1 : (t181 != 0) = true := bne_iff_ne.mpr c28
              have H' := Aside0.mk H
              clear H
              go_wp2
              go_meet
              case rel => exact ⟨_, (true), (by first | rfl | (simp; done) | (simp [*]; done)), H', ⟨by first | omega | exact Nat.le_refl _⟩, ⟨by (with_reducible repeat (first | apply Kd.R_alloc | apply Kd.R_drewN | apply Kd.R_drew)); exact Kd.R_mono HO190.out (fun _ hk => hk.2)⟩, ⟨by (with_reducible repeat (first | apply Kd.R_alloc | apply Kd.R_drewN | apply Kd.R_drew)); exact Kd.R_mono HO194.out (fun _ hk => hk.2)⟩, ⟨by (with_reducible repeat (first | refine blk_drewN ?_ _ | refine blk_drew ?_ | refine blk_alloc ?_ _)); exact BK187.out⟩, ⟨by repeat (first | (with_reducible first | exact HB.out | apply below_alloc | apply pw_below_drewN | apply below_drew1 | refine below_set ?_ GE187.out) | exact HB.out)⟩⟩
          · rw [if_neg c27] at H
            have c27b0 : (t179 == 0) = false := beq_eq_false_iff_ne.mpr c27
            have c27b1 : (t179 != 0) = true := bne_iff_ne.mpr c27
            have H' := Aside0.mk H
            clear H
            go_wp2
            go_meet
            case rel => exact ⟨_, (true), (by first | rfl | (simp; done) | (simp [*]; done)), H', ⟨by first | omega | exact Nat.le_refl _⟩, ⟨by (with_reducible repeat (first | apply Kd.R_alloc | apply Kd.R_drewN | apply Kd.R_drew)); exact Kd.R_mono HO190.out (fun _ hk => hk.2)⟩, ⟨by (with_reducible repeat (first | apply Kd.R_alloc | apply Kd.R_drewN | apply Kd.R_drew)); exact Kd.R_mono HO194.out (fun _ hk => hk.2)⟩, ⟨by (with_reducible repeat (first | refine blk_drewN ?_ _ | refine blk_drew ?_ | refine blk_alloc ?_ _)); exact BK187.out⟩, ⟨by repeat (first | (with_reducible first | exact HB.out | apply below_alloc | apply pw_below_drewN | apply below_drew1 | refine below_set ?_ GE187.out) | exact HB.out)⟩⟩
        · rw [if_neg c26] at H
          have c26b0 : (t176 == 0) = false := beq_eq_false_iff_ne.mpr c26
          have c26b1 : (t176 != 0) = true := bne_iff_ne.mpr c26
          have H' := Aside0.mk H
          clear H
          go_wp2
          go_meet
          case rel => exact ⟨_, (true), (by first | rfl | (simp; done) | (simp [*]; done)), H', ⟨by first | omega | exact Nat.le_refl _⟩, ⟨by (with_reducible repeat (first | apply Kd.R_alloc | apply Kd.R_drewN | apply Kd.R_drew)); exact Kd.R_mono HO190.out (fun _ hk => hk.2)⟩, ⟨by (with_reducible repeat (first | apply Kd.R_alloc | apply Kd.R_drewN | apply Kd.R_drew)); exact Kd.R_mono HO194.out (fun _ hk => hk.2)⟩, ⟨by (with_reducible repeat (first | refine blk_drewN ?_ _ | refine blk_drew ?_ | refine blk_alloc ?_ _)); exact BK187.out⟩, ⟨by repeat (first | (with_reducible first | exact HB.out | apply below_alloc | apply pw_below_drewN | apply below_drew1 | refine below_set ?_ GE187.out) | exact HB.out)⟩⟩
      · rw [if_neg c25] at H
        have c25b0 : (t171 == 5) = false := beq_eq_false_iff_ne.mpr c25
        have c25b1 : (t171 != 5) = true := bne_iff_ne.mpr c25
        have H' := Aside0.mk H
        clear H
        go_wp2
        go_meet
        case rel => exact ⟨_, (true), (by first | rfl | (simp; done) | (simp [*]; done)), H', ⟨by first | omega | exact Nat.le_refl _⟩, ⟨by (with_reducible repeat (first | apply Kd.R_alloc | apply Kd.R_drewN | apply Kd.R_drew)); exact Kd.R_mono HO190.out (fun _ hk => hk.2)⟩, ⟨by (with_reducible repeat (first | apply Kd.R_alloc | apply Kd.R_drewN | apply Kd.R_drew)); exact Kd.R_mono HO194.out (fun _ hk => hk.2)⟩, ⟨by (with_reducible repeat (first | refine blk_drewN ?_ _ | refine blk_drew ?_ | refine blk_alloc ?_ _)); exact BK187.out⟩, ⟨by repeat (first | (with_reducible first | exact HB.out | apply below_alloc | apply pw_below_drewN | apply below_drew1 | refine below_set ?_ GE187.out) | exact HB.out)⟩⟩
    · rw [if_neg c24] at H
      have c24b0 : (t169 == 0) = false := beq_eq_false_iff_ne.mpr c24
      have c24b1 : (t169 != 0) = true := bne_iff_ne.mpr c24
      (first | rw [c24b0] | (simp only [i64_w, i32_w]; rw [c24b0]) | skip)
      have H' := Aside0.mk H
      clear H
      go_wp2
      go_meet
      case rel => exact ⟨_, (true), (by first | rfl | (simp; done) | (simp [*]; done)), H', ⟨by first | omega | exact Nat.le_refl _⟩, ⟨by (with_reducible repeat (first | apply Kd.R_alloc | apply Kd.R_drewN | apply Kd.R_drew)); exact Kd.R_mono HO190.out (fun _ hk => hk.2)⟩, ⟨by (with_reducible repeat (first | apply Kd.R_alloc | apply Kd.R_drewN | apply Kd.R_drew)); exact Kd.R_mono HO194.out (fun _ hk => hk.2)⟩, ⟨by (with_reducible repeat (first | refine blk_drewN ?_ _ | refine blk_drew ?_ | refine blk_alloc ?_ _)); exact BK187.out⟩, ⟨by repeat (first | (with_reducible first | exact HB.out | apply below_alloc | apply pw_below_drewN | apply below_drew1 | refine below_set ?_ GE187.out) | exact HB.out)⟩⟩
  case rest =>
    clear HC10
    try clear c1
    try clear c2
    try clear p2
    try clear c3
    try clear c11
    try clear c18
    try clear c20
    try clear c22
    try clear c24
    try clear c24b0
    try clear c24b1
    try clear c25
    try clear c25b0
    try clear c25b1
    try clear c26
    try clear c26b0
    try clear c26b1
    try clear c27
    try clear c27b0
    try clear c27b1
    try clear c28
    try clear c28b0
    try clear c28b1
    try clear c29
    try clear c29b0
    try clear c29b1
    try clear c30
    try clear c30b0
    try clear c30b1
    try clear hcz20_0
    try clear hcz20_1
    try clear hcz20_2
    try clear hcz20_3
    try clear hcz22_0
    try clear hcz22_1
    try clear hcz22_2
    try clear hcz22_3
    try clear hfz20_0
    try clear hfz20_1
    try clear hfz20_2
    try clear hfz20_3
    try clear hfz22_0
    try clear hfz22_1
    try clear hfz22_2
    try clear hfz22_3
    obtain ⟨kq, x94_9, rfl, HA, HJ9, HO_18, HO_20, BK187, HB⟩ := hcut
    cases kq with
    | zero => exact absurd HA.out (by simp [dioramalaw08_lives.j0])
    | succ kj9 =>
      have H := HA.out
      clear HA
      simp only [dioramalaw08_lives.j0] at H
      by_cases c31 : x94_9 = true
      · subst c31
        have H1 : (some false) = some r := by rw [if_pos rfl] at H; exact H
        clear H
        have H := H1
        clear H1
        obtain rfl := Option.some.inj H
        go_wp2
        go_ret
        exact ⟨by first | rfl | (simp [errW_none, errW_some] <;> rfl) | (simp [*, errW_none, errW_some] <;> rfl), by repeat (first | (with_reducible first | exact HB.out | apply below_alloc | apply pw_below_drewN | apply below_drew1 | refine below_set ?_ GE187.out) | exact HB.out)⟩
      · replace c31 := Bool.eq_false_iff.mpr c31
        subst c31
        have H1 : (if t168 = 59 then (if t172 = 1999 then (if t173 = 12 then (if t174 = 31 then ((calendar_Weekday.f (-1)).bind fun t196 => (if t196 = 4 then ((calendar_Text.f kj9 366).bind fun t197 => (if t197.toList = ([50, 48, 48, 49, 45, 48, 49, 45, 48, 49] : List UInt8) then (if t175 = 8951 then (if t177 = (-1) then (if t178 = 1380 then (if t180 = 2 then (if t185 = 3 then (if (t188.length : Int) = 0 then (some ((t192.length : Int) == 2)) else (some false)) else (some false)) else (some false)) else (some false)) else (some false)) else (some false)) else (some false))) else (some false))) else (some false)) else (some false)) else (some false)) else (some false)) = some r := by rw [if_neg (show ¬ (false = true) by decide)] at H; exact H
        clear H
        have H := H1
        clear H1
        by_cases c32 : t168 = 59
        · rw [if_pos c32] at H
          have c32b0 : (t168 == 59) = true := beq_iff_eq.mpr c32
          have c32b1 : (t168 != 59) = false := bne_eq_false_iff_eq.mpr c32
          clear c32
          by_cases c33 : t172 = 1999
          · rw [if_pos c33] at H
            have c33b0 : (t172 == 1999) = true := beq_iff_eq.mpr c33
            have c33b1 : (t172 != 1999) = false := bne_eq_false_iff_eq.mpr c33
            clear c33
            by_cases c34 : t173 = 12
            · rw [if_pos c34] at H
              have c34b0 : (t173 == 12) = true := beq_iff_eq.mpr c34
              have c34b1 : (t173 != 12) = false := bne_eq_false_iff_eq.mpr c34
              clear c34
              by_cases c35 : t174 = 31
              · rw [if_pos c35] at H
                have c35b0 : (t174 == 31) = true := beq_iff_eq.mpr c35
                have c35b1 : (t174 != 31) = false := bne_eq_false_iff_eq.mpr c35
                clear c35
                replace H := Option.bind_eq_some_iff.mp H
                obtain ⟨t196, A360, H⟩ := H
                replace H : (if t196 = 4 then ((calendar_Text.f kj9 366).bind fun t197 => (if t197.toList = ([50, 48, 48, 49, 45, 48, 49, 45, 48, 49] : List UInt8) then (if t175 = 8951 then (if t177 = (-1) then (if t178 = 1380 then (if t180 = 2 then (if t185 = 3 then (if (t188.length : Int) = 0 then (some ((t192.length : Int) == 2)) else (some false)) else (some false)) else (some false)) else (some false)) else (some false)) else (some false)) else (some false))) else (some false)) = some r := H
                have A36 := Aside0.mk A360
                clear A360
                by_cases c37 : t196 = 4
                · rw [if_pos c37] at H
                  have c37b0 : (t196 == 4) = true := beq_iff_eq.mpr c37
                  have c37b1 : (t196 != 4) = false := bne_eq_false_iff_eq.mpr c37
                  clear c37
                  replace H := Option.bind_eq_some_iff.mp H
                  obtain ⟨t197, A380, H⟩ := H
                  replace H : (if t197.toList = ([50, 48, 48, 49, 45, 48, 49, 45, 48, 49] : List UInt8) then (if t175 = 8951 then (if t177 = (-1) then (if t178 = 1380 then (if t180 = 2 then (if t185 = 3 then (if (t188.length : Int) = 0 then (some ((t192.length : Int) == 2)) else (some false)) else (some false)) else (some false)) else (some false)) else (some false)) else (some false)) else (some false)) = some r := H
                  have A38 := Aside0.mk A380
                  clear A380
                  by_cases c39 : t197.toList = ([50, 48, 48, 49, 45, 48, 49, 45, 48, 49] : List UInt8)
                  · rw [if_pos c39] at H
                    have c39b0 : (t197.toList == ([50, 48, 48, 49, 45, 48, 49, 45, 48, 49] : List UInt8)) = true := beq_iff_eq.mpr c39
                    have c39b1 : (t197.toList != ([50, 48, 48, 49, 45, 48, 49, 45, 48, 49] : List UInt8)) = false := bne_eq_false_iff_eq.mpr c39
                    clear c39
                    by_cases c40 : t175 = 8951
                    · rw [if_pos c40] at H
                      have c40b0 : (t175 == 8951) = true := beq_iff_eq.mpr c40
                      have c40b1 : (t175 != 8951) = false := bne_eq_false_iff_eq.mpr c40
                      clear c40
                      by_cases c41 : t177 = (-1)
                      · rw [if_pos c41] at H
                        have c41b0 : (t177 == (-1)) = true := beq_iff_eq.mpr c41
                        have c41b1 : (t177 != (-1)) = false := bne_eq_false_iff_eq.mpr c41
                        clear c41
                        by_cases c42 : t178 = 1380
                        · rw [if_pos c42] at H
                          have c42b0 : (t178 == 1380) = true := beq_iff_eq.mpr c42
                          have c42b1 : (t178 != 1380) = false := bne_eq_false_iff_eq.mpr c42
                          clear c42
                          by_cases c43 : t180 = 2
                          · rw [if_pos c43] at H
                            have c43b0 : (t180 == 2) = true := beq_iff_eq.mpr c43
                            have c43b1 : (t180 != 2) = false := bne_eq_false_iff_eq.mpr c43
                            clear c43
                            by_cases c44 : t185 = 3
                            · rw [if_pos c44] at H
                              have c44b0 : (t185 == 3) = true := beq_iff_eq.mpr c44
                              have c44b1 : (t185 != 3) = false := bne_eq_false_iff_eq.mpr c44
                              clear c44
                              by_cases c45 : (t188.length : Int) = 0
                              · rw [if_pos c45] at H
                                have c45b0 : ((t188.length : Int) == 0) = true := beq_iff_eq.mpr c45
                                have c45b1 : ((t188.length : Int) != 0) = false := bne_eq_false_iff_eq.mpr c45
                                clear c45
                                obtain rfl := Option.some.inj H
                                go_wp2_with (first | (go_at_call 13; (with_reducible refine (calendar_Weekday.calls (-1) t196 _ A36.out).mono ?_); rintro e w' ⟨rfl, ⟨nd, rfl⟩⟩) | (go_at_call 15; (with_reducible refine (calendar_Text.calls (hv := hv.step (by repeat (first | (with_reducible first | exact HB.out | apply below_alloc | apply pw_below_drewN | apply below_drew1) | exact HB.out))) kj9 366 t197 _ A38.out).mono ?_); rintro e w46 ⟨rfl, hb⟩; have n0_ := Aside0.mk (Kd.R_below (by (with_reducible repeat (first | apply Kd.R_alloc | apply Kd.R_drewN | apply Kd.R_drew)); exact HO_18.out) hb); have n1_ := Aside0.mk (Kd.R_below (by (with_reducible repeat (first | apply Kd.R_alloc | apply Kd.R_drewN | apply Kd.R_drew)); exact HO_20.out) hb); have n2_ := Aside0.mk (blk_below (g := gb187) (o := .cells #[.int .i64 60, .int .i64 60, .int .i64 90, .int .i64 300] 39 (0, 0)) (by (with_reducible repeat (first | refine blk_drewN ?_ _ | refine blk_drew ?_ | refine blk_alloc ?_ _)); exact BK187.out) hb); have n3_ := Aside0.mk (below_step (by repeat (first | (with_reducible first | exact HB.out | apply below_alloc | apply pw_below_drewN | apply below_drew1 | refine below_set ?_ GE187.out) | exact HB.out)) hb); clear HO_18; clear HO_20; clear BK187; clear HB; have HO_18 := n0_; have HO_20 := n1_; have BK187 := n2_; have HB := n3_; clear n0_ n1_ n2_ n3_; (try clear hb); (try clear hb2); (try clear hk); (try clear hi); obtain ⟨Ao47, co47, eo47⟩ := Kd.R_slice HO_18.out; subst eo47; obtain ⟨Ao48, co48, eo48⟩ := Kd.R_slice HO_20.out; subst eo48))
                                go_ret
                                exact ⟨by first | rfl | (simp [errW_none, errW_some] <;> rfl) | (simp [*, errW_none, errW_some] <;> rfl), by repeat (first | (with_reducible first | exact HB.out | apply below_alloc | apply pw_below_drewN | apply below_drew1 | refine below_set ?_ GE187.out) | exact HB.out)⟩
                              · rw [if_neg c45] at H
                                have c45b0 : ((t188.length : Int) == 0) = false := beq_eq_false_iff_ne.mpr c45
                                have c45b1 : ((t188.length : Int) != 0) = true := bne_iff_ne.mpr c45
                                have c45b2 : ¬ (t188 = []) := fun h_ => c45 (by rw [h_]; rfl)
                                obtain rfl := Option.some.inj H
                                go_wp2_with (first | (go_at_call 13; (with_reducible refine (calendar_Weekday.calls (-1) t196 _ A36.out).mono ?_); rintro e w' ⟨rfl, ⟨nd, rfl⟩⟩) | (go_at_call 15; (with_reducible refine (calendar_Text.calls (hv := hv.step (by repeat (first | (with_reducible first | exact HB.out | apply below_alloc | apply pw_below_drewN | apply below_drew1) | exact HB.out))) kj9 366 t197 _ A38.out).mono ?_); rintro e w49 ⟨rfl, hb⟩; have n0_ := Aside0.mk (Kd.R_below (by (with_reducible repeat (first | apply Kd.R_alloc | apply Kd.R_drewN | apply Kd.R_drew)); exact HO_18.out) hb); have n1_ := Aside0.mk (Kd.R_below (by (with_reducible repeat (first | apply Kd.R_alloc | apply Kd.R_drewN | apply Kd.R_drew)); exact HO_20.out) hb); have n2_ := Aside0.mk (blk_below (g := gb187) (o := .cells #[.int .i64 60, .int .i64 60, .int .i64 90, .int .i64 300] 39 (0, 0)) (by (with_reducible repeat (first | refine blk_drewN ?_ _ | refine blk_drew ?_ | refine blk_alloc ?_ _)); exact BK187.out) hb); have n3_ := Aside0.mk (below_step (by repeat (first | (with_reducible first | exact HB.out | apply below_alloc | apply pw_below_drewN | apply below_drew1 | refine below_set ?_ GE187.out) | exact HB.out)) hb); clear HO_18; clear HO_20; clear BK187; clear HB; have HO_18 := n0_; have HO_20 := n1_; have BK187 := n2_; have HB := n3_; clear n0_ n1_ n2_ n3_; (try clear hb); (try clear hb2); (try clear hk); (try clear hi); obtain ⟨Ao50, co50, eo50⟩ := Kd.R_slice HO_18.out; subst eo50))
                                go_ret
                                exact ⟨by first | rfl | (simp [errW_none, errW_some] <;> rfl) | (simp [*, errW_none, errW_some] <;> rfl), by repeat (first | (with_reducible first | exact HB.out | apply below_alloc | apply pw_below_drewN | apply below_drew1 | refine below_set ?_ GE187.out) | exact HB.out)⟩
                            · rw [if_neg c44] at H
                              have c44b0 : (t185 == 3) = false := beq_eq_false_iff_ne.mpr c44
                              have c44b1 : (t185 != 3) = true := bne_iff_ne.mpr c44
                              obtain rfl := Option.some.inj H
                              go_wp2_with (first | (go_at_call 13; (with_reducible refine (calendar_Weekday.calls (-1) t196 _ A36.out).mono ?_); rintro e w' ⟨rfl, ⟨nd, rfl⟩⟩) | (go_at_call 15; (with_reducible refine (calendar_Text.calls (hv := hv.step (by repeat (first | (with_reducible first | exact HB.out | apply below_alloc | apply pw_below_drewN | apply below_drew1) | exact HB.out))) kj9 366 t197 _ A38.out).mono ?_); rintro e w51 ⟨rfl, hb⟩; have n0_ := Aside0.mk (Kd.R_below (by (with_reducible repeat (first | apply Kd.R_alloc | apply Kd.R_drewN | apply Kd.R_drew)); exact HO_18.out) hb); have n1_ := Aside0.mk (Kd.R_below (by (with_reducible repeat (first | apply Kd.R_alloc | apply Kd.R_drewN | apply Kd.R_drew)); exact HO_20.out) hb); have n2_ := Aside0.mk (blk_below (g := gb187) (o := .cells #[.int .i64 60, .int .i64 60, .int .i64 90, .int .i64 300] 39 (0, 0)) (by (with_reducible repeat (first | refine blk_drewN ?_ _ | refine blk_drew ?_ | refine blk_alloc ?_ _)); exact BK187.out) hb); have n3_ := Aside0.mk (below_step (by repeat (first | (with_reducible first | exact HB.out | apply below_alloc | apply pw_below_drewN | apply below_drew1 | refine below_set ?_ GE187.out) | exact HB.out)) hb); clear HO_18; clear HO_20; clear BK187; clear HB; have HO_18 := n0_; have HO_20 := n1_; have BK187 := n2_; have HB := n3_; clear n0_ n1_ n2_ n3_; (try clear hb); (try clear hb2); (try clear hk); (try clear hi)))
                              go_ret
                              exact ⟨by first | rfl | (simp [errW_none, errW_some] <;> rfl) | (simp [*, errW_none, errW_some] <;> rfl), by repeat (first | (with_reducible first | exact HB.out | apply below_alloc | apply pw_below_drewN | apply below_drew1 | refine below_set ?_ GE187.out) | exact HB.out)⟩
                          · rw [if_neg c43] at H
                            have c43b0 : (t180 == 2) = false := beq_eq_false_iff_ne.mpr c43
                            have c43b1 : (t180 != 2) = true := bne_iff_ne.mpr c43
                            obtain rfl := Option.some.inj H
                            go_wp2_with (first | (go_at_call 13; (with_reducible refine (calendar_Weekday.calls (-1) t196 _ A36.out).mono ?_); rintro e w' ⟨rfl, ⟨nd, rfl⟩⟩) | (go_at_call 15; (with_reducible refine (calendar_Text.calls (hv := hv.step (by repeat (first | (with_reducible first | exact HB.out | apply below_alloc | apply pw_below_drewN | apply below_drew1) | exact HB.out))) kj9 366 t197 _ A38.out).mono ?_); rintro e w52 ⟨rfl, hb⟩; have n0_ := Aside0.mk (Kd.R_below (by (with_reducible repeat (first | apply Kd.R_alloc | apply Kd.R_drewN | apply Kd.R_drew)); exact HO_18.out) hb); have n1_ := Aside0.mk (Kd.R_below (by (with_reducible repeat (first | apply Kd.R_alloc | apply Kd.R_drewN | apply Kd.R_drew)); exact HO_20.out) hb); have n2_ := Aside0.mk (blk_below (g := gb187) (o := .cells #[.int .i64 60, .int .i64 60, .int .i64 90, .int .i64 300] 39 (0, 0)) (by (with_reducible repeat (first | refine blk_drewN ?_ _ | refine blk_drew ?_ | refine blk_alloc ?_ _)); exact BK187.out) hb); have n3_ := Aside0.mk (below_step (by repeat (first | (with_reducible first | exact HB.out | apply below_alloc | apply pw_below_drewN | apply below_drew1 | refine below_set ?_ GE187.out) | exact HB.out)) hb); clear HO_18; clear HO_20; clear BK187; clear HB; have HO_18 := n0_; have HO_20 := n1_; have BK187 := n2_; have HB := n3_; clear n0_ n1_ n2_ n3_; (try clear hb); (try clear hb2); (try clear hk); (try clear hi)))
                            go_ret
                            exact ⟨by first | rfl | (simp [errW_none, errW_some] <;> rfl) | (simp [*, errW_none, errW_some] <;> rfl), by repeat (first | (with_reducible first | exact HB.out | apply below_alloc | apply pw_below_drewN | apply below_drew1 | refine below_set ?_ GE187.out) | exact HB.out)⟩
                        · rw [if_neg c42] at H
                          have c42b0 : (t178 == 1380) = false := beq_eq_false_iff_ne.mpr c42
                          have c42b1 : (t178 != 1380) = true := bne_iff_ne.mpr c42
                          obtain rfl := Option.some.inj H
                          go_wp2_with (first | (go_at_call 13; (with_reducible refine (calendar_Weekday.calls (-1) t196 _ A36.out).mono ?_); rintro e w' ⟨rfl, ⟨nd, rfl⟩⟩) | (go_at_call 15; (with_reducible refine (calendar_Text.calls (hv := hv.step (by repeat (first | (with_reducible first | exact HB.out | apply below_alloc | apply pw_below_drewN | apply below_drew1) | exact HB.out))) kj9 366 t197 _ A38.out).mono ?_); rintro e w53 ⟨rfl, hb⟩; have n0_ := Aside0.mk (Kd.R_below (by (with_reducible repeat (first | apply Kd.R_alloc | apply Kd.R_drewN | apply Kd.R_drew)); exact HO_18.out) hb); have n1_ := Aside0.mk (Kd.R_below (by (with_reducible repeat (first | apply Kd.R_alloc | apply Kd.R_drewN | apply Kd.R_drew)); exact HO_20.out) hb); have n2_ := Aside0.mk (blk_below (g := gb187) (o := .cells #[.int .i64 60, .int .i64 60, .int .i64 90, .int .i64 300] 39 (0, 0)) (by (with_reducible repeat (first | refine blk_drewN ?_ _ | refine blk_drew ?_ | refine blk_alloc ?_ _)); exact BK187.out) hb); have n3_ := Aside0.mk (below_step (by repeat (first | (with_reducible first | exact HB.out | apply below_alloc | apply pw_below_drewN | apply below_drew1 | refine below_set ?_ GE187.out) | exact HB.out)) hb); clear HO_18; clear HO_20; clear BK187; clear HB; have HO_18 := n0_; have HO_20 := n1_; have BK187 := n2_; have HB := n3_; clear n0_ n1_ n2_ n3_; (try clear hb); (try clear hb2); (try clear hk); (try clear hi)))
                          go_ret
                          exact ⟨by first | rfl | (simp [errW_none, errW_some] <;> rfl) | (simp [*, errW_none, errW_some] <;> rfl), by repeat (first | (with_reducible first | exact HB.out | apply below_alloc | apply pw_below_drewN | apply below_drew1 | refine below_set ?_ GE187.out) | exact HB.out)⟩
                      · rw [if_neg c41] at H
                        have c41b0 : (t177 == (-1)) = false := beq_eq_false_iff_ne.mpr c41
                        have c41b1 : (t177 != (-1)) = true := bne_iff_ne.mpr c41
                        obtain rfl := Option.some.inj H
                        go_wp2_with (first | (go_at_call 13; (with_reducible refine (calendar_Weekday.calls (-1) t196 _ A36.out).mono ?_); rintro e w' ⟨rfl, ⟨nd, rfl⟩⟩) | (go_at_call 15; (with_reducible refine (calendar_Text.calls (hv := hv.step (by repeat (first | (with_reducible first | exact HB.out | apply below_alloc | apply pw_below_drewN | apply below_drew1) | exact HB.out))) kj9 366 t197 _ A38.out).mono ?_); rintro e w54 ⟨rfl, hb⟩; have n0_ := Aside0.mk (Kd.R_below (by (with_reducible repeat (first | apply Kd.R_alloc | apply Kd.R_drewN | apply Kd.R_drew)); exact HO_18.out) hb); have n1_ := Aside0.mk (Kd.R_below (by (with_reducible repeat (first | apply Kd.R_alloc | apply Kd.R_drewN | apply Kd.R_drew)); exact HO_20.out) hb); have n2_ := Aside0.mk (blk_below (g := gb187) (o := .cells #[.int .i64 60, .int .i64 60, .int .i64 90, .int .i64 300] 39 (0, 0)) (by (with_reducible repeat (first | refine blk_drewN ?_ _ | refine blk_drew ?_ | refine blk_alloc ?_ _)); exact BK187.out) hb); have n3_ := Aside0.mk (below_step (by repeat (first | (with_reducible first | exact HB.out | apply below_alloc | apply pw_below_drewN | apply below_drew1 | refine below_set ?_ GE187.out) | exact HB.out)) hb); clear HO_18; clear HO_20; clear BK187; clear HB; have HO_18 := n0_; have HO_20 := n1_; have BK187 := n2_; have HB := n3_; clear n0_ n1_ n2_ n3_; (try clear hb); (try clear hb2); (try clear hk); (try clear hi)))
                        go_ret
                        exact ⟨by first | rfl | (simp [errW_none, errW_some] <;> rfl) | (simp [*, errW_none, errW_some] <;> rfl), by repeat (first | (with_reducible first | exact HB.out | apply below_alloc | apply pw_below_drewN | apply below_drew1 | refine below_set ?_ GE187.out) | exact HB.out)⟩
                    · rw [if_neg c40] at H
                      have c40b0 : (t175 == 8951) = false := beq_eq_false_iff_ne.mpr c40
                      have c40b1 : (t175 != 8951) = true := bne_iff_ne.mpr c40
                      obtain rfl := Option.some.inj H
                      go_wp2_with (first | (go_at_call 13; (with_reducible refine (calendar_Weekday.calls (-1) t196 _ A36.out).mono ?_); rintro e w' ⟨rfl, ⟨nd, rfl⟩⟩) | (go_at_call 15; (with_reducible refine (calendar_Text.calls (hv := hv.step (by repeat (first | (with_reducible first | exact HB.out | apply below_alloc | apply pw_below_drewN | apply below_drew1) | exact HB.out))) kj9 366 t197 _ A38.out).mono ?_); rintro e w55 ⟨rfl, hb⟩; have n0_ := Aside0.mk (Kd.R_below (by (with_reducible repeat (first | apply Kd.R_alloc | apply Kd.R_drewN | apply Kd.R_drew)); exact HO_18.out) hb); have n1_ := Aside0.mk (Kd.R_below (by (with_reducible repeat (first | apply Kd.R_alloc | apply Kd.R_drewN | apply Kd.R_drew)); exact HO_20.out) hb); have n2_ := Aside0.mk (blk_below (g := gb187) (o := .cells #[.int .i64 60, .int .i64 60, .int .i64 90, .int .i64 300] 39 (0, 0)) (by (with_reducible repeat (first | refine blk_drewN ?_ _ | refine blk_drew ?_ | refine blk_alloc ?_ _)); exact BK187.out) hb); have n3_ := Aside0.mk (below_step (by repeat (first | (with_reducible first | exact HB.out | apply below_alloc | apply pw_below_drewN | apply below_drew1 | refine below_set ?_ GE187.out) | exact HB.out)) hb); clear HO_18; clear HO_20; clear BK187; clear HB; have HO_18 := n0_; have HO_20 := n1_; have BK187 := n2_; have HB := n3_; clear n0_ n1_ n2_ n3_; (try clear hb); (try clear hb2); (try clear hk); (try clear hi)))
                      go_ret
                      exact ⟨by first | rfl | (simp [errW_none, errW_some] <;> rfl) | (simp [*, errW_none, errW_some] <;> rfl), by repeat (first | (with_reducible first | exact HB.out | apply below_alloc | apply pw_below_drewN | apply below_drew1 | refine below_set ?_ GE187.out) | exact HB.out)⟩
                  · rw [if_neg c39] at H
                    have c39b0 : (t197.toList == ([50, 48, 48, 49, 45, 48, 49, 45, 48, 49] : List UInt8)) = false := beq_eq_false_iff_ne.mpr c39
                    have c39b1 : (t197.toList != ([50, 48, 48, 49, 45, 48, 49, 45, 48, 49] : List UInt8)) = true := bne_iff_ne.mpr c39
                    obtain rfl := Option.some.inj H
                    go_wp2_with (first | (go_at_call 13; (with_reducible refine (calendar_Weekday.calls (-1) t196 _ A36.out).mono ?_); rintro e w' ⟨rfl, ⟨nd, rfl⟩⟩) | (go_at_call 15; (with_reducible refine (calendar_Text.calls (hv := hv.step (by repeat (first | (with_reducible first | exact HB.out | apply below_alloc | apply pw_below_drewN | apply below_drew1) | exact HB.out))) kj9 366 t197 _ A38.out).mono ?_); rintro e w56 ⟨rfl, hb⟩; have n0_ := Aside0.mk (Kd.R_below (by (with_reducible repeat (first | apply Kd.R_alloc | apply Kd.R_drewN | apply Kd.R_drew)); exact HO_18.out) hb); have n1_ := Aside0.mk (Kd.R_below (by (with_reducible repeat (first | apply Kd.R_alloc | apply Kd.R_drewN | apply Kd.R_drew)); exact HO_20.out) hb); have n2_ := Aside0.mk (blk_below (g := gb187) (o := .cells #[.int .i64 60, .int .i64 60, .int .i64 90, .int .i64 300] 39 (0, 0)) (by (with_reducible repeat (first | refine blk_drewN ?_ _ | refine blk_drew ?_ | refine blk_alloc ?_ _)); exact BK187.out) hb); have n3_ := Aside0.mk (below_step (by repeat (first | (with_reducible first | exact HB.out | apply below_alloc | apply pw_below_drewN | apply below_drew1 | refine below_set ?_ GE187.out) | exact HB.out)) hb); clear HO_18; clear HO_20; clear BK187; clear HB; have HO_18 := n0_; have HO_20 := n1_; have BK187 := n2_; have HB := n3_; clear n0_ n1_ n2_ n3_; (try clear hb); (try clear hb2); (try clear hk); (try clear hi)))
                    go_ret
                    exact ⟨by first | rfl | (simp [errW_none, errW_some] <;> rfl) | (simp [*, errW_none, errW_some] <;> rfl), by repeat (first | (with_reducible first | exact HB.out | apply below_alloc | apply pw_below_drewN | apply below_drew1 | refine below_set ?_ GE187.out) | exact HB.out)⟩
                · rw [if_neg c37] at H
                  have c37b0 : (t196 == 4) = false := beq_eq_false_iff_ne.mpr c37
                  have c37b1 : (t196 != 4) = true := bne_iff_ne.mpr c37
                  obtain rfl := Option.some.inj H
                  go_wp2_with (first | (go_at_call 13; (with_reducible refine (calendar_Weekday.calls (-1) t196 _ A36.out).mono ?_); rintro e w' ⟨rfl, ⟨nd, rfl⟩⟩))
                  go_ret
                  exact ⟨by first | rfl | (simp [errW_none, errW_some] <;> rfl) | (simp [*, errW_none, errW_some] <;> rfl), by repeat (first | (with_reducible first | exact HB.out | apply below_alloc | apply pw_below_drewN | apply below_drew1 | refine below_set ?_ GE187.out) | exact HB.out)⟩
              · rw [if_neg c35] at H
                have c35b0 : (t174 == 31) = false := beq_eq_false_iff_ne.mpr c35
                have c35b1 : (t174 != 31) = true := bne_iff_ne.mpr c35
                obtain rfl := Option.some.inj H
                go_wp2
                go_ret
                exact ⟨by first | rfl | (simp [errW_none, errW_some] <;> rfl) | (simp [*, errW_none, errW_some] <;> rfl), by repeat (first | (with_reducible first | exact HB.out | apply below_alloc | apply pw_below_drewN | apply below_drew1 | refine below_set ?_ GE187.out) | exact HB.out)⟩
            · rw [if_neg c34] at H
              have c34b0 : (t173 == 12) = false := beq_eq_false_iff_ne.mpr c34
              have c34b1 : (t173 != 12) = true := bne_iff_ne.mpr c34
              obtain rfl := Option.some.inj H
              go_wp2
              go_ret
              exact ⟨by first | rfl | (simp [errW_none, errW_some] <;> rfl) | (simp [*, errW_none, errW_some] <;> rfl), by repeat (first | (with_reducible first | exact HB.out | apply below_alloc | apply pw_below_drewN | apply below_drew1 | refine below_set ?_ GE187.out) | exact HB.out)⟩
          · rw [if_neg c33] at H
            have c33b0 : (t172 == 1999) = false := beq_eq_false_iff_ne.mpr c33
            have c33b1 : (t172 != 1999) = true := bne_iff_ne.mpr c33
            obtain rfl := Option.some.inj H
            go_wp2
            go_ret
            exact ⟨by first | rfl | (simp [errW_none, errW_some] <;> rfl) | (simp [*, errW_none, errW_some] <;> rfl), by repeat (first | (with_reducible first | exact HB.out | apply below_alloc | apply pw_below_drewN | apply below_drew1 | refine below_set ?_ GE187.out) | exact HB.out)⟩
        · rw [if_neg c32] at H
          have c32b0 : (t168 == 59) = false := beq_eq_false_iff_ne.mpr c32
          have c32b1 : (t168 != 59) = true := bne_iff_ne.mpr c32
          obtain rfl := Option.some.inj H
          go_wp2
          go_ret
          exact ⟨by first | rfl | (simp [errW_none, errW_some] <;> rfl) | (simp [*, errW_none, errW_some] <;> rfl), by repeat (first | (with_reducible first | exact HB.out | apply below_alloc | apply pw_below_drewN | apply below_drew1 | refine below_set ?_ GE187.out) | exact HB.out)⟩

/-! ### dioramalaw08_CalendarDays: function 3 -/
mutual
def dioramalaw08_CalendarDays.l0 : Nat → Int → Int → Int → List Int → Int → Option (Bool)
 | 0, _, _, _, _, _ => none
 | k + 1, x2, x3, x4, x11, x12 => if x12 < (x11.length : Int) then (if 0 ≤ x12 then ((calendar_Civil.f k (rd x11 x12)).bind fun bt203 => ((dioramaref08_Civil.f k (rd x11 x12)).bind fun bt207 => (if bt203.1 = bt207.1 then (if bt203.2.1 = bt207.2.1 then (if bt203.2.2 = bt207.2.2 then ((calendar_Weekday.f (rd x11 x12)).bind fun t211 => ((dioramaref08_Weekday.f (rd x11 x12)).bind fun t213 => (if t211 = t213 then ((calendar_Text.f k (rd x11 x12)).bind fun t215 => ((dioramaref08_Text.f k (rd x11 x12)).bind fun t217 => (if t215.toList = t217.toList then (dioramalaw08_CalendarDays.l0 k x2 x3 x4 x11 (wrap64 (x12 + 1))) else (some false)))) else (some false)))) else (some false)) else (some false)) else (some false)))) else (none)) else ((dioramaref01_Around.f x2 800).bind fun t218 => ((dioramaref01_Around.f x3 14).bind fun t222 => ((dioramaref01_Around.f x4 33).bind fun t226 => (dioramalaw08_CalendarDays.l1 k (([x2, wrap64 (1600 + t218), 1599, 2400] : List Int)) (([x3, t222] : List Int)) (([x4, t226] : List Int)) 0))))
def dioramalaw08_CalendarDays.l1 : Nat → List Int → List Int → List Int → Int → Option (Bool)
 | 0, _, _, _, _ => none
 | k + 1, x19, x20, x21, x22 => if x22 < 4 then (dioramalaw08_CalendarDays.l2 k x19 x20 x21 x22 0) else ((dioramalaw08_lives.f k).bind fun t230 => (some t230))
def dioramalaw08_CalendarDays.l2 : Nat → List Int → List Int → List Int → Int → Int → Option (Bool)
 | 0, _, _, _, _, _ => none
 | k + 1, x19, x20, x21, x22, x23 => if x23 < 4 then (if 0 ≤ x22 then (if x22 < (x19.length : Int) then (if 0 ≤ (wrap64 (Int.tdiv x23 2)) then (if (wrap64 (Int.tdiv x23 2)) < (x20.length : Int) then (if 0 ≤ (Int.tmod x23 2) then (if (Int.tmod x23 2) < (x21.length : Int) then ((calendar_Day.f k (rd x19 x22) (rd x20 (wrap64 (Int.tdiv x23 2))) (rd x21 (Int.tmod x23 2))).bind fun bt234 => ((dioramaref08_Day.f k (rd x19 x22) (rd x20 (wrap64 (Int.tdiv x23 2))) (rd x21 (Int.tmod x23 2))).bind fun bt239 => (if bt234.1 = bt239.1 then (if bt234.2 = bt239.2 then (dioramalaw08_CalendarDays.l2 k x19 x20 x21 x22 (wrap64 (x23 + 1))) else (some false)) else (some false)))) else (none)) else (none)) else (none)) else (none)) else (none)) else (none)) else (dioramalaw08_CalendarDays.l1 k x19 x20 x21 (wrap64 (x22 + 1)))
end
def dioramalaw08_CalendarDays.f (k : Nat) (a0 : Int) (a1 : Int) (a2 : Int) (a3 : Int) (a4 : Int) : Option (Bool) := (dioramaref08_Some.f k a0).bind fun t198 => (dioramalaw08_CalendarDays.l0 k a2 a3 a4 (([t198, a1, (-146098), 146097] : List Int)) 0)
theorem dioramalaw08_CalendarDays.mono_l : ∀ k, (∀ y0 y1 y2 y3 y4, LeO (dioramalaw08_CalendarDays.l0 k y0 y1 y2 y3 y4) (dioramalaw08_CalendarDays.l0 (k + 1) y0 y1 y2 y3 y4)) ∧ (∀ y0 y1 y2 y3, LeO (dioramalaw08_CalendarDays.l1 k y0 y1 y2 y3) (dioramalaw08_CalendarDays.l1 (k + 1) y0 y1 y2 y3)) ∧ (∀ y0 y1 y2 y3 y4, LeO (dioramalaw08_CalendarDays.l2 k y0 y1 y2 y3 y4) (dioramalaw08_CalendarDays.l2 (k + 1) y0 y1 y2 y3 y4))
 | 0 => ⟨fun _ _ _ _ _ r h => by simp [dioramalaw08_CalendarDays.l0] at h, fun _ _ _ _ r h => by simp [dioramalaw08_CalendarDays.l1] at h, fun _ _ _ _ _ r h => by simp [dioramalaw08_CalendarDays.l2] at h⟩
 | k + 1 => by
  obtain ⟨ih0, ih1, ih2⟩ := dioramalaw08_CalendarDays.mono_l k
  refine ⟨?_, ?_, ?_⟩
  ·intro y0 y1 y2 y3 y4
   unfold dioramalaw08_CalendarDays.l0
   repeat' first
   | (with_reducible exact ih0 _ _ _ _ _)
   | (with_reducible exact ih1 _ _ _ _)
   | (with_reducible exact ih2 _ _ _ _ _)
   | (with_reducible exact calendar_Civil.mono _ _)
   | (with_reducible exact calendar_Day.mono _ _ _ _)
   | (with_reducible exact calendar_Text.mono _ _)
   | (with_reducible exact dioramalaw08_lives.mono _)
   | (with_reducible exact dioramaref08_Civil.mono _ _)
   | (with_reducible exact dioramaref08_Day.mono _ _ _ _)
   | (with_reducible exact dioramaref08_Some.mono _ _)
   | (with_reducible exact dioramaref08_Text.mono _ _)
   | (with_reducible exact LeO.refl _)
   | (with_reducible exact LeO.none _)
   | (with_reducible refine LeO.ite ?_ ?_)
   | (with_reducible refine LeO.bind ?_ (fun _ => ?_))
   | exact ih0 _ _ _ _ _
   | exact ih1 _ _ _ _
   | exact ih2 _ _ _ _ _
   | exact calendar_Civil.mono _ _
   | exact calendar_Day.mono _ _ _ _
   | exact calendar_Text.mono _ _
   | exact dioramalaw08_lives.mono _
   | exact dioramaref08_Civil.mono _ _
   | exact dioramaref08_Day.mono _ _ _ _
   | exact dioramaref08_Some.mono _ _
   | exact dioramaref08_Text.mono _ _
   | exact LeO.none _
   | refine LeO.ite ?_ ?_
   | refine LeO.bind ?_ (fun _ => ?_)
  ·intro y0 y1 y2 y3
   unfold dioramalaw08_CalendarDays.l1
   repeat' first
   | (with_reducible exact ih0 _ _ _ _ _)
   | (with_reducible exact ih1 _ _ _ _)
   | (with_reducible exact ih2 _ _ _ _ _)
   | (with_reducible exact calendar_Civil.mono _ _)
   | (with_reducible exact calendar_Day.mono _ _ _ _)
   | (with_reducible exact calendar_Text.mono _ _)
   | (with_reducible exact dioramalaw08_lives.mono _)
   | (with_reducible exact dioramaref08_Civil.mono _ _)
   | (with_reducible exact dioramaref08_Day.mono _ _ _ _)
   | (with_reducible exact dioramaref08_Some.mono _ _)
   | (with_reducible exact dioramaref08_Text.mono _ _)
   | (with_reducible exact LeO.refl _)
   | (with_reducible exact LeO.none _)
   | (with_reducible refine LeO.ite ?_ ?_)
   | (with_reducible refine LeO.bind ?_ (fun _ => ?_))
   | exact ih0 _ _ _ _ _
   | exact ih1 _ _ _ _
   | exact ih2 _ _ _ _ _
   | exact calendar_Civil.mono _ _
   | exact calendar_Day.mono _ _ _ _
   | exact calendar_Text.mono _ _
   | exact dioramalaw08_lives.mono _
   | exact dioramaref08_Civil.mono _ _
   | exact dioramaref08_Day.mono _ _ _ _
   | exact dioramaref08_Some.mono _ _
   | exact dioramaref08_Text.mono _ _
   | exact LeO.none _
   | refine LeO.ite ?_ ?_
   | refine LeO.bind ?_ (fun _ => ?_)
  ·intro y0 y1 y2 y3 y4
   unfold dioramalaw08_CalendarDays.l2
   repeat' first
   | (with_reducible exact ih0 _ _ _ _ _)
   | (with_reducible exact ih1 _ _ _ _)
   | (with_reducible exact ih2 _ _ _ _ _)
   | (with_reducible exact calendar_Civil.mono _ _)
   | (with_reducible exact calendar_Day.mono _ _ _ _)
   | (with_reducible exact calendar_Text.mono _ _)
   | (with_reducible exact dioramalaw08_lives.mono _)
   | (with_reducible exact dioramaref08_Civil.mono _ _)
   | (with_reducible exact dioramaref08_Day.mono _ _ _ _)
   | (with_reducible exact dioramaref08_Some.mono _ _)
   | (with_reducible exact dioramaref08_Text.mono _ _)
   | (with_reducible exact LeO.refl _)
   | (with_reducible exact LeO.none _)
   | (with_reducible refine LeO.ite ?_ ?_)
   | (with_reducible refine LeO.bind ?_ (fun _ => ?_))
   | exact ih0 _ _ _ _ _
   | exact ih1 _ _ _ _
   | exact ih2 _ _ _ _ _
   | exact calendar_Civil.mono _ _
   | exact calendar_Day.mono _ _ _ _
   | exact calendar_Text.mono _ _
   | exact dioramalaw08_lives.mono _
   | exact dioramaref08_Civil.mono _ _
   | exact dioramaref08_Day.mono _ _ _ _
   | exact dioramaref08_Some.mono _ _
   | exact dioramaref08_Text.mono _ _
   | exact LeO.none _
   | refine LeO.ite ?_ ?_
   | refine LeO.bind ?_ (fun _ => ?_)
theorem dioramalaw08_CalendarDays.mono : ∀ a0 a1 a2 a3 a4 k, LeO (dioramalaw08_CalendarDays.f k a0 a1 a2 a3 a4) (dioramalaw08_CalendarDays.f (k + 1) a0 a1 a2 a3 a4) := by
 intro a0 a1 a2 a3 a4 k
 obtain ⟨ih0, ih1, ih2⟩ := dioramalaw08_CalendarDays.mono_l k
 unfold dioramalaw08_CalendarDays.f
 repeat' first
   | (with_reducible exact ih0 _ _ _ _ _)
   | (with_reducible exact ih1 _ _ _ _)
   | (with_reducible exact ih2 _ _ _ _ _)
   | (with_reducible exact calendar_Civil.mono _ _)
   | (with_reducible exact calendar_Day.mono _ _ _ _)
   | (with_reducible exact calendar_Text.mono _ _)
   | (with_reducible exact dioramalaw08_lives.mono _)
   | (with_reducible exact dioramaref08_Civil.mono _ _)
   | (with_reducible exact dioramaref08_Day.mono _ _ _ _)
   | (with_reducible exact dioramaref08_Some.mono _ _)
   | (with_reducible exact dioramaref08_Text.mono _ _)
   | (with_reducible exact LeO.refl _)
   | (with_reducible exact LeO.none _)
   | (with_reducible refine LeO.ite ?_ ?_)
   | (with_reducible refine LeO.bind ?_ (fun _ => ?_))
   | exact ih0 _ _ _ _ _
   | exact ih1 _ _ _ _
   | exact ih2 _ _ _ _ _
   | exact calendar_Civil.mono _ _
   | exact calendar_Day.mono _ _ _ _
   | exact calendar_Text.mono _ _
   | exact dioramalaw08_lives.mono _
   | exact dioramaref08_Civil.mono _ _
   | exact dioramaref08_Day.mono _ _ _ _
   | exact dioramaref08_Some.mono _ _
   | exact dioramaref08_Text.mono _ _
   | exact LeO.none _
   | refine LeO.ite ?_ ?_
   | refine LeO.bind ?_ (fun _ => ?_)
def dioramalaw08_CalendarDays.T7 : Bool × List (List Nat × List Nat) := (true, [([], []), ([], []), ([0, 1], [0, 1]), ([2], [2]), ([3], [3]), ([3], [3]), ([4, 5, 3], [3, 4, 5]), ([3, 6], [3, 6]), ([7, 3], [7]), ([8], [8]), ([8], [8]), ([9, 10, 8], [8, 9, 10]), ([8, 11], [8, 11]), ([12, 8], [12]), ([13], [13]), ([13], [13]), ([14, 15, 13], [13, 14, 15]), ([16, 13], [13, 16]), ([17, 13, 13], [13, 17]), ([13], [13]), ([13], [13]), ([19, 20, 13], [13, 19, 20]), ([21, 13], [13, 21]), ([22, 18, 13], [13, 22]), ([18, 23, 13], [13, 18, 23]), ([13, 24], [13, 24]), ([25, 23], [25]), ([26], [26]), ([26], [26]), ([27, 28, 26], [26, 27, 28]), ([29, 26], [26, 29]), ([30, 26, 26], [26, 30]), ([26], [26]), ([26], [26]), ([32, 33, 26], [26, 32, 33]), ([34, 26], [26, 34]), ([35, 31, 26], [26, 35]), ([31, 36, 26], [26, 31, 36]), ([26, 37], [26, 37])])
def dioramalaw08_CalendarDays.B7 : List Nat := [0, 0, 3, 7, 15, 15, 63, 127, 255, 511, 511, 2047, 4095, 8191, 16383, 16383, 65535, 131071, 262143, 16383, 16383, 1589247, 3686399, 8388607, 16777215, 33554431, 67108863, 134217727, 134217727, 536870911, 1073741823, 2147483647, 134217727, 134217727, 13019119615, 30198988799, 68719476735, 137438953471, 274877906943]
theorem dioramalaw08_CalendarDays.tab7 : rtab .any (opsOf Tryd.f3 7) = dioramalaw08_CalendarDays.T7 := by kernel_rfl
theorem dioramalaw08_CalendarDays.bits7 : waitsOk dioramalaw08_CalendarDays.T7.2 dioramalaw08_CalendarDays.B7 = true := by kernel_rfl
def dioramalaw08_CalendarDays.T18 : Bool × List (List Nat × List Nat) := (true, [([], []), ([], []), ([0, 1], [0, 1]), ([2], [2]), ([], []), ([], []), ([5], [5]), ([4, 6], [4, 6]), ([7], [7]), ([], []), ([], []), ([10], [10]), ([9, 11], [9, 11]), ([12], [12]), ([3, 8, 13], [3, 8, 13]), ([14], [14]), ([15], [15]), ([15], [15]), ([16, 14, 0, 1, 2, 3, 4, 5, 6, 7, 8, 9, 10, 11, 12, 13, 14, 15, 16], [16]), ([17, 18, 0, 1, 2, 3, 4, 5, 6, 7, 8, 9, 10, 11, 12, 13, 14, 15, 16, 17, 18], [17])])
def dioramalaw08_CalendarDays.B18 : List Nat := [0, 0, 3, 7, 0, 0, 32, 112, 240, 0, 0, 1024, 3584, 7680, 16383, 32767, 65535, 65535, 131071, 524287]
theorem dioramalaw08_CalendarDays.tab18 : rtab .any (opsOf Tryd.f3 18) = dioramalaw08_CalendarDays.T18 := by kernel_rfl
theorem dioramalaw08_CalendarDays.bits18 : waitsOk dioramalaw08_CalendarDays.T18.2 dioramalaw08_CalendarDays.B18 = true := by kernel_rfl
def dioramalaw08_CalendarDays.T19 : Bool × List (List Nat × List Nat) := (true, [([], []), ([], []), ([0, 1], [0, 1]), ([2], [2]), ([], []), ([], []), ([5], [5]), ([4, 6], [4, 6]), ([7], [7]), ([], []), ([], []), ([10], [10]), ([9, 11], [9, 11]), ([12], [12]), ([3, 8, 13], [3, 8, 13]), ([14], [14]), ([15], [15]), ([15], [15]), ([16, 14, 0, 1, 2, 3, 4, 5, 6, 7, 8, 9, 10, 11, 12, 13, 14, 15, 16], [16]), ([17, 18, 0, 1, 2, 3, 4, 5, 6, 7, 8, 9, 10, 11, 12, 13, 14, 15, 16, 17, 18], [17])])
def dioramalaw08_CalendarDays.B19 : List Nat := [0, 0, 3, 7, 0, 0, 32, 112, 240, 0, 0, 1024, 3584, 7680, 16383, 32767, 65535, 65535, 131071, 524287]
theorem dioramalaw08_CalendarDays.tab19 : rtab .any (opsOf Tryd.f3 19) = dioramalaw08_CalendarDays.T19 := by kernel_rfl
theorem dioramalaw08_CalendarDays.bits19 : waitsOk dioramalaw08_CalendarDays.T19.2 dioramalaw08_CalendarDays.B19 = true := by kernel_rfl

end Go.Proofs.YtlfgjpidamkpdaaDoor.Pc
